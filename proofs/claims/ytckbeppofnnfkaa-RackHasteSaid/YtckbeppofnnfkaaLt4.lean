/- What is late, as a plain law: nothing told is too early, and the next time is the least. -/
import Derived.Test.YtckbeppofnnfkaaRk1
namespace Go.Proofs.Ytckbeppofnnfkaa
open Go.Und

def Rk.due (x : Rk) (win : Int) (r : Rc) : Int := r.sent + x.rtt + timeS win
def Rk.isL (x : Rk) (now win : Int) (r : Rc) : Bool := !r.lost && decide (x.due win r < now)
structure LtInv (x : Rk) (now win : Int) (l : List Rc) (s : LtS) : Prop where
  out : s.out = (l.filter (x.isL now win)).map fun r => (r.fr, r.to)
  none : s.some = false → ∀ r ∈ l, r.lost = false → x.due win r < now
  least : s.some = true → ∀ r ∈ l, r.lost = false → now ≤ x.due win r → s.next ≤ x.due win r + 1
  one : s.some = true → ∃ r ∈ l, r.lost = false ∧ now ≤ x.due win r ∧ s.next = x.due win r + 1
theorem goes_inv (x : Rk) (now win : Int) (l : List Rc) : ∀ (m : List Rc) (s : LtS), LtInv x now win m s → LtInv x now win (m ++ l) (l.foldl (x.step now win) s) := by
  induction l with
  | nil => intro m s h; simpa using h
  | cons r l ih =>
    intro m s h
    rw [List.foldl_cons, show m ++ r :: l = (m ++ [r]) ++ l by simp]
    refine ih _ _ ?_
    obtain ⟨h1, h2, h3, h4⟩ := h
    have split : ∀ {P : Rc → Prop}, (∀ y ∈ m, P y) → P r → ∀ y ∈ m ++ [r], P y := fun ha hb y hy => by
      rcases List.mem_append.1 hy with hy | hy
      · exact ha y hy
      · rw [List.mem_singleton.1 hy]; exact hb
    have hm : ∀ y ∈ m, y ∈ m ++ [r] := fun y hy => List.mem_append_left _ hy
    have hr : r ∈ m ++ [r] := by simp
    unfold Rk.step
    rw [show r.sent + x.rtt + timeS win = x.due win r from rfl]
    by_cases g1 : r.lost = true
    · rw [if_pos g1]
      refine ⟨?_, fun e => split (h2 e) (fun e2 => by rw [g1] at e2; cases e2), fun e => split (h3 e) (fun e2 => by rw [g1] at e2; cases e2), fun e => ?_⟩
      · rw [h1, List.filter_append, List.filter_cons, List.filter_nil]; simp [Rk.isL, g1]
      · obtain ⟨y, hy, a⟩ := h4 e; exact ⟨y, hm y hy, a⟩
    · have gl : r.lost = false := by simpa using g1
      rw [if_neg g1]
      by_cases g2 : x.due win r < now
      · rw [if_pos g2]
        refine ⟨?_, fun e => split (h2 e) (fun _ => g2), fun e => split (h3 e) (fun _ e2 => absurd e2 (by omega)), fun e => ?_⟩
        · dsimp only; rw [h1, List.filter_append, List.filter_cons, List.filter_nil]; simp [Rk.isL, gl, g2]
        · obtain ⟨y, hy, a⟩ := h4 e; exact ⟨y, hm y hy, a⟩
      · rw [if_neg g2]
        have ho : s.out = ((m ++ [r]).filter (x.isL now win)).map fun r => (r.fr, r.to) := by
          rw [h1, List.filter_append, List.filter_cons, List.filter_nil]; simp [Rk.isL, gl, g2]
        by_cases g3 : s.some = false ∨ x.due win r + 1 < s.next
        · rw [if_pos g3]
          refine ⟨ho, fun e => (by cases e), fun _ => ?_, fun _ => ⟨r, hr, gl, by omega, rfl⟩⟩
          refine split (fun y hy e1 e2 => ?_) (fun _ _ => by dsimp only; omega)
          rcases g3 with g3 | g3
          · have := h2 g3 y hy e1; omega
          · cases hs : s.some with
            | false => have := h2 hs y hy e1; omega
            | true => have := h3 hs y hy e1 e2; dsimp only; omega
        · rw [if_neg g3]
          have gs : s.some = true := by cases hs : s.some with
            | false => exact absurd (.inl hs) g3
            | true => rfl
          have g4 : s.next ≤ x.due win r + 1 := by
            have : ¬ x.due win r + 1 < s.next := fun h => g3 (.inr h)
            omega
          refine ⟨ho, fun e => (by rw [gs] at e; cases e), fun e => split (h3 e) (fun _ _ => g4), fun e => ?_⟩
          obtain ⟨y, hy, a⟩ := h4 e; exact ⟨y, hm y hy, a⟩
theorem late_inv (x : Rk) (now win : Int) (l : List Rc) : LtInv x now win (l.takeWhile fun r => decide (r.order < x.order)) (x.late now win l) := by
  have := goes_inv x now win (l.takeWhile fun r => decide (r.order < x.order)) [] ⟨[], 0, false⟩ ⟨rfl, fun _ _ h => (by cases h), fun h => (by cases h), fun h => (by cases h)⟩
  simpa [Rk.late, Rk.goes] using this
theorem takeWhile_ok {α : Type} {p : α → Bool} : ∀ {l : List α} {a : α}, a ∈ l.takeWhile p → p a = true ∧ a ∈ l
  | [], _, h => by cases h
  | b :: l, a, h => by
    by_cases g : p b = true
    · rw [List.takeWhile_cons_of_pos g] at h
      rcases List.mem_cons.1 h with rfl | h
      · exact ⟨g, List.mem_cons_self⟩
      · exact ⟨(takeWhile_ok h).1, List.mem_cons_of_mem _ (takeWhile_ok h).2⟩
    · rw [List.takeWhile_cons_of_neg g] at h; cases h
/-- Nothing that is told has been under way too short. -/
theorem late_told {x : Rk} {now win : Int} {l : List Rc} {s : Int × Int} (h : s ∈ (x.late now win l).out) :
    ∃ r ∈ l, s = (r.fr, r.to) ∧ r.lost = false ∧ r.sent + x.rtt + timeS win < now ∧ r.order < x.order := by
  rw [(late_inv x now win l).out] at h
  obtain ⟨r, hr, rfl⟩ := List.mem_map.1 h
  obtain ⟨h1, h2⟩ := List.mem_filter.1 hr
  obtain ⟨h3, h4⟩ := takeWhile_ok h1
  simp only [Rk.isL, Bool.and_eq_true, Bool.not_eq_true', decide_eq_true_eq] at h2
  exact ⟨r, h4, rfl, h2.1, h2.2, by simpa using h3⟩
theorem filter_same {p q : Rc → Bool} {l : List Rc} (h : ∀ r ∈ l, p r = q r) : l.filter p = l.filter q := List.filter_congr h
theorem filter_more {p q : Rc → Bool} : ∀ {l : List Rc}, (∀ r ∈ l, p r = true → q r = true) → (l.filter p).length ≤ (l.filter q).length
  | [], _ => Nat.le_refl _
  | r :: l, h => by
    have ih := filter_more (p := p) (q := q) (l := l) fun y hy => h y (List.mem_cons_of_mem _ hy)
    have h1 := h r List.mem_cons_self
    rw [List.filter_cons, List.filter_cons]
    cases hp : p r with
    | true => rw [h1 hp]; simp; omega
    | false => cases q r <;> simp <;> omega
theorem filter_less {p q : Rc → Bool} : ∀ {l : List Rc}, (∀ r ∈ l, p r = true → q r = true) → (∃ r ∈ l, p r = false ∧ q r = true) → (l.filter p).length < (l.filter q).length
  | [], _, h => by obtain ⟨_, h, _⟩ := h; cases h
  | r :: l, h, ⟨y, hy, h2, h3⟩ => by
    have hl : ∀ y ∈ l, p y = true → q y = true := fun y hy => h y (List.mem_cons_of_mem _ hy)
    have h1 := h r List.mem_cons_self
    rcases List.mem_cons.1 hy with rfl | hy
    · have := filter_more hl
      rw [List.filter_cons, List.filter_cons, h2, h3]; simp; omega
    · have ih := filter_less hl ⟨y, hy, h2, h3⟩
      rw [List.filter_cons, List.filter_cons]
      cases hp : p r with
      | true => rw [h1 hp]; simp; omega
      | false => cases q r <;> simp <;> omega
/-- The next time is ahead; a moment sooner nothing more is late, then one more is. -/
theorem late_next {x : Rk} {now win : Int} {l : List Rc} (h : (x.late now win l).some = true) :
    now < (x.late now win l).next ∧ (x.late ((x.late now win l).next - 1) win l).out.length = (x.late now win l).out.length ∧ (x.late now win l).out.length < (x.late (x.late now win l).next win l).out.length := by
  have I := late_inv x now win l
  obtain ⟨r, hr, r1, r2, r3⟩ := I.one h
  have hl := I.least h
  generalize hn : (x.late now win l).next = n at *
  have I1 := late_inv x (n - 1) win l
  have I2 := late_inv x n win l
  refine ⟨by omega, ?_, ?_⟩
  · rw [I1.out, I.out, List.length_map, List.length_map]
    rw [filter_same fun y hy => ?_]
    unfold Rk.isL
    cases hy2 : y.lost with
    | true => rfl
    | false =>
      by_cases g : now ≤ x.due win y
      · have := hl y hy hy2 g
        rw [decide_eq_false (show ¬ x.due win y < n - 1 by omega), decide_eq_false (show ¬ x.due win y < now by omega)]
      · rw [decide_eq_true (show x.due win y < n - 1 by omega), decide_eq_true (show x.due win y < now by omega)]
  · rw [I2.out, I.out, List.length_map, List.length_map]
    refine filter_less (fun y _ hy => ?_) ⟨r, hr, ?_, ?_⟩
    · simp only [Rk.isL, Bool.and_eq_true, Bool.not_eq_true', decide_eq_true_eq] at hy ⊢
      exact ⟨hy.1, by omega⟩
    · simp only [Rk.isL, r1]; simp; omega
    · simp only [Rk.isL, r1]; simp; omega
end Go.Proofs.Ytckbeppofnnfkaa
