/- Slices of pairs of numbers: their cells. -/
import Derived.Test.YtckbeppofnnfkaaRow
import Derived.Test.YtckbeppofnnfkaaSep
namespace Go.Und
open Go.RowKit

/-- A pair's cells. -/
def pc (l : List (Int × Int)) : List Value := l.flatMap fun x => [.int .i64 x.1, .int .i64 x.2]
theorem pc_length (l : List (Int × Int)) : (pc l).length = l.length * 2 := by
  induction l with
  | nil => rfl
  | cons x l ih => simp only [pc, List.flatMap_cons, List.length_append, List.length_cons, List.length_nil] at ih ⊢; omega
theorem pc_append (l m : List (Int × Int)) : pc (l ++ m) = pc l ++ pc m := by simp [pc]
theorem pc_cons (x : Int × Int) (l : List (Int × Int)) : pc (x :: l) = .int .i64 x.1 :: .int .i64 x.2 :: pc l := by simp [pc]
theorem pc_take (l : List (Int × Int)) (k : Nat) : (pc l).take (k * 2) = pc (l.take k) := by
  induction l generalizing k with
  | nil => simp [pc]
  | cons x l ih =>
    cases k with
    | zero => simp [pc]
    | succ k => rw [pc_cons, show (k + 1) * 2 = k * 2 + 1 + 1 by omega, List.take_succ_cons, List.take_succ_cons, ih, List.take_succ_cons, pc_cons]
theorem pc_drop (l : List (Int × Int)) (k : Nat) : (pc l).drop (k * 2) = pc (l.drop k) := by
  induction l generalizing k with
  | nil => simp [pc]
  | cons x l ih =>
    cases k with
    | zero => simp
    | succ k => rw [pc_cons, show (k + 1) * 2 = k * 2 + 1 + 1 by omega, List.drop_succ_cons, List.drop_succ_cons, ih, List.drop_succ_cons]
theorem pc_at {l : List (Int × Int)} {k : Nat} {x : Int × Int} (h : l[k]? = some x) : (pc l)[k * 2]? = some (.int .i64 x.1) ∧ (pc l)[k * 2 + 1]? = some (.int .i64 x.2) := by
  induction l generalizing k with
  | nil => simp at h
  | cons y l ih =>
    cases k with
    | zero => simp at h; subst h; simp [pc_cons]
    | succ k =>
      obtain ⟨h1, h2⟩ := ih (k := k) (by simpa using h)
      rw [pc_cons, show (k + 1) * 2 = k * 2 + 1 + 1 by omega]
      exact ⟨by simpa using h1, by simpa using h2⟩
theorem pc_one (l : List (Int × Int)) : ∀ u ∈ pc l, u.oneCell' = true := by
  intro u hu
  obtain ⟨x, _, hx⟩ := List.mem_flatMap.1 hu
  simp at hx
  rcases hx with rfl | rfl <;> rfl
theorem reads_one (W : World) (T : TypeId) (x : Int × Int) : Reads (W.alloc (.cells #[.int .i64 x.1, .int .i64 x.2] T)) 2 (some ⟨W.heap.size, 0, none⟩) 1 1 (pc [x]) :=
  ⟨rfl, Nat.le_refl _, fun h => (by cases h), fun ad h => (by cases h; rfl), fun ad h j u hu => (by
    cases h
    have hb := (Blk.new W T #[.int .i64 x.1, .int .i64 x.2]).cell (0 + j)
    rw [hb]
    simpa [pc] using hu)⟩
end Go.Und
