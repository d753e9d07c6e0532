/- What the arguments of a statement are, read off their types: a shape, and the data that fit it. No condition. -/
import Derived.Test.YtedogalndhackaaDoorProg
import Derived.WalkKit
import Derived.ProofKit
import Derived.OpenShut
import Derived.ShutString
import Derived.ChangeOld
import Derived.Below
import Derived.Deep.Slices
set_option linter.unusedVariables false
set_option linter.unusedSimpArgs false
namespace Go.Und
open Go.RowKit Go.ChangeShapes Go.WideShapes Go.Deep

/-- Shapes of data: 'agg' holds a row ('nil', 'cons'). -/
inductive Sh where
  | int (k : IntKind) | bool | str | agg (row : Sh) | nil | cons (a b : Sh) | slice (e : Sh)
/-- Data. -/
inductive U where
  | int (n : Int) | bool (b : Bool) | str (s : ByteArray) | agg (u : U) | nil | cons (u v : U) | slice (a : Option Addr) (cap : Nat) (l : List U)

def Sh.size : Sh → Nat
  | .int _ | .bool | .str | .slice _ => 1
  | .agg r => r.size
  | .nil => 0
  | .cons a b => a.size + b.size

def Sh.one : Sh → Bool
  | .int _ | .bool | .str | .slice _ => true
  | _ => false

/-- Does a type have this shape; does a row of places and types have it. -/
def Sh.fit (P : Program) : Sh → (TypeId → Bool) × (Nat → List (Nat × TypeId) → Bool)
  | .int k => (fun t => match P.underlying t with | some (.int k') => decide (k' = k) | _ => false, fun _ _ => false)
  | .bool => (fun t => match P.underlying t with | some .bool => true | _ => false, fun _ _ => false)
  | .str => (fun t => match P.underlying t with | some .string => true | _ => false, fun _ _ => false)
  | .agg r => (fun t => match P.underlying t with
      | some (.struct fs) => (r.fit P).2 0 (fs.toList.map fun f => (f.offset, f.type)) && decide (P.cellsOf t = r.size)
      | some (.array n e) => (r.fit P).2 0 ((List.range n).map fun i => (i * P.cellsOf e, e)) && decide (P.cellsOf t = r.size)
      | _ => false, fun _ _ => false)
  | .nil => (fun _ => false, fun _ l => l.isEmpty)
  | .cons a b => (fun _ => false, fun off l => match l with
      | [] => false
      | (o, t) :: r => decide (o = off) && (a.fit P).1 t && decide (P.cellsOf t = a.size) && (b.fit P).2 (off + a.size) r)
  | .slice e => (fun t => match P.underlying t with | some (.slice et) => (e.fit P).1 et && decide (P.cellsOf et = e.size) | _ => false, fun _ _ => false)

/-- These cells are this datum, of this shape, in this world. -/
def Sh.holds (w : World) : Sh → U → List Value → Prop
  | .int k, u, cs => ∃ n, u = .int n ∧ cs = [.int k n] ∧ (Lit.int k n).wf = true
  | .bool, u, cs => ∃ b, u = .bool b ∧ cs = [.bool b]
  | .str, u, cs => ∃ s, u = .str s ∧ cs = [.string s] ∧ s.size ≤ maxLen
  | .agg r, u, cs => ∃ v, u = .agg v ∧ r.holds w v cs
  | .nil, u, cs => u = .nil ∧ cs = []
  | .cons a b, u, cs => ∃ v1 v2 c1 c2, u = .cons v1 v2 ∧ cs = c1 ++ c2 ∧ c1.length = a.size ∧ a.holds w v1 c1 ∧ b.holds w v2 c2
  | .slice e, u, cs => ∃ a cap l, u = .slice a cap l ∧ cs = [.slice a l.length cap] ∧ l.length ≤ cap ∧ cap ≤ maxLen ∧ (a = none → l = [] ∧ cap = 0) ∧
      ∀ i v, l[i]? = some v → ∃ ad ec, a = some ad ∧ ec.length = e.size ∧ (∀ j, j < e.size → w.cell? (ad.add (i * e.size + j)) = ec[j]?) ∧ e.holds w v ec

theorem Sh.holds.mono {w w' : World} (hc : ∀ p v, w.cell? p = some v → w'.cell? p = some v) : ∀ {sh : Sh} {u : U} {cs : List Value}, sh.holds w u cs → sh.holds w' u cs := by
  intro sh
  induction sh with
  | int k => exact fun h => h
  | bool => exact fun h => h
  | str => exact fun h => h
  | agg r ih => rintro u cs ⟨v, h1, h2⟩; exact ⟨v, h1, ih h2⟩
  | nil => exact fun h => h
  | cons a b iha ihb => rintro u cs ⟨v1, v2, c1, c2, h1, h2, h3, h4, h5⟩; exact ⟨v1, v2, c1, c2, h1, h2, h3, iha h4, ihb h5⟩
  | slice e ih =>
    rintro u cs ⟨a, cap, l, h1, h2, h3, h4, h5, h6⟩
    refine ⟨a, cap, l, h1, h2, h3, h4, h5, fun i v hv => ?_⟩
    obtain ⟨ad, ec, g1, g2, g3, g4⟩ := h6 i v hv
    refine ⟨ad, ec, g1, g2, fun j hj => ?_, ih g4⟩
    have h := g3 j hj
    rw [List.getElem?_eq_getElem (by omega)] at h
    rw [hc _ _ h, List.getElem?_eq_getElem (by omega)]

theorem cells_of {w : World} {base : Nat} {a : Addr} {n : Nat} {cs : List Value} (h : w.cells? base a n = some cs) : cs.length = n ∧ ∀ j, j < n → w.cell? (a.add j) = cs[j]? := by
  obtain ⟨_, hl, hat⟩ := World.cells?_some h
  exact ⟨hl, hat⟩

theorem getElem?_some_of_list {α : Type} {f : Nat → Prop} {P : Nat → α → Prop} (n : Nat) (h : ∀ i, i < n → ∃ x, P i x) : ∃ l : List α, l.length = n ∧ ∀ i x, l[i]? = some x → P i x := by
  induction n with
  | zero => exact ⟨[], rfl, fun i x hx => by simp at hx⟩
  | succ n ih =>
    obtain ⟨l, hl, hp⟩ := ih (fun i hi => h i (by omega))
    obtain ⟨x, hx⟩ := h n (by omega)
    refine ⟨l ++ [x], by simp [hl], fun i y hy => ?_⟩
    rw [List.getElem?_append] at hy
    split at hy
    · exact hp i y hy
    · have hi : i = n := by
        rcases Nat.lt_or_ge (i - l.length) 1 with h1 | h1
        · omega
        · rw [List.getElem?_eq_none (by simpa using h1)] at hy; cases hy
      subst hi
      rw [hl, Nat.sub_self] at hy
      simp at hy
      subst hy
      exact hx

section
variable {H : Type} {enc : TypeId × Value → H} {P : Program} {w : World} {base : Nat} {spare : Nat → Bool} {held : Bool}

theorem open_both : ∀ (sh : Sh),
    (∀ (fuel : Nat) (t : TypeId) (cs : List Value) (x : DataW H × List MemPlace), (sh.fit P).1 t = true → DataW.trod enc P w base spare held fuel t cs = some x → ∃ u, sh.holds w u cs) ∧
    (∀ (fuel off : Nat) (l : List (Nat × TypeId)) (cs : List Value), (sh.fit P).2 off l = true → cs.length = off + sh.size →
      (∀ (i o : Nat) (t : TypeId), l[i]? = some (o, t) → ∃ x, DataW.trod enc P w base spare held fuel t ((cs.drop o).take (P.cellsOf t)) = some x) → ∃ u, sh.holds w u (cs.drop off)) := by
  intro sh
  induction sh with
  | int k =>
    refine ⟨fun fuel t cs x hf h => ?_, fun fuel off l cs hf => by simp [Sh.fit] at hf⟩
    simp only [Sh.fit] at hf
    split at hf
    · rename_i k' hk
      obtain rfl : k' = k := by simpa using hf
      obtain ⟨n, rfl, _, hw⟩ := DataW.trod_int hk h
      exact ⟨_, n, rfl, rfl, hw⟩
    · cases hf
  | bool =>
    refine ⟨fun fuel t cs x hf h => ?_, fun fuel off l cs hf => by simp [Sh.fit] at hf⟩
    simp only [Sh.fit] at hf
    split at hf
    · rename_i hk
      obtain ⟨b, rfl, _⟩ := DataW.trod_bool hk h
      exact ⟨_, b, rfl, rfl⟩
    · cases hf
  | str =>
    refine ⟨fun fuel t cs x hf h => ?_, fun fuel off l cs hf => by simp [Sh.fit] at hf⟩
    simp only [Sh.fit] at hf
    split at hf
    · rename_i hk
      obtain ⟨s, rfl, _, hs⟩ := DataW.trod_string hk h
      exact ⟨_, s, rfl, rfl, hs⟩
    · cases hf
  | agg r ih =>
    refine ⟨fun fuel t cs x hf h => ?_, fun fuel off l cs hf => by simp [Sh.fit] at hf⟩
    simp only [Sh.fit] at hf
    split at hf
    · rename_i fs hs
      simp only [Bool.and_eq_true, decide_eq_true_eq] at hf
      obtain ⟨xs, n, _, _, hlen, hxl, hg⟩ := DataW.trod_struct hs h
      obtain ⟨u, hu⟩ := ih.2 n 0 _ cs hf.1 (by rw [hlen, hf.2, Nat.zero_add]) (fun i o t' hi => by
        rw [List.getElem?_map] at hi
        obtain ⟨f, hfi, he⟩ := Option.map_eq_some_iff.1 hi
        simp only [Prod.mk.injEq] at he
        obtain ⟨rfl, rfl⟩ := he
        have h1 := hg i f (by simpa using hfi)
        have hlt : i < xs.length := by rw [hxl]; exact (Array.getElem?_eq_some_iff.1 (by simpa using hfi)).1
        exact ⟨xs[i], by rw [h1, List.getElem?_eq_getElem hlt]⟩)
      rw [List.drop_zero] at hu
      exact ⟨.agg u, u, rfl, hu⟩
    · rename_i n' e hs
      simp only [Bool.and_eq_true, decide_eq_true_eq] at hf
      obtain ⟨xs, n, _, _, hlen, hxl, hg⟩ := DataW.trod_array hs h
      obtain ⟨u, hu⟩ := ih.2 n 0 _ cs hf.1 (by rw [hlen, hf.2, Nat.zero_add]) (fun i o t' hi => by
        rw [List.getElem?_map] at hi
        obtain ⟨f, hfi, he⟩ := Option.map_eq_some_iff.1 hi
        simp only [Prod.mk.injEq] at he
        obtain ⟨rfl, rfl⟩ := he
        have hlt : i < n' := by
          rcases Nat.lt_or_ge i n' with h1 | h1
          · exact h1
          · rw [List.getElem?_eq_none (by simpa using h1)] at hfi; cases hfi
        rw [List.getElem?_range hlt] at hfi
        obtain rfl : i = f := by simpa using hfi
        have h1 := hg i hlt
        exact ⟨xs[i]'(by omega), by rw [h1, List.getElem?_eq_getElem (by omega)]⟩)
      rw [List.drop_zero] at hu
      exact ⟨.agg u, u, rfl, hu⟩
    · cases hf
  | nil =>
    refine ⟨fun fuel t cs x hf h => by simp [Sh.fit] at hf, fun fuel off l cs _ hl _ => ⟨.nil, rfl, ?_⟩⟩
    exact List.drop_eq_nil_of_le (by simp [Sh.size] at hl; omega)
  | cons a b iha ihb =>
    refine ⟨fun fuel t cs x hf h => by simp [Sh.fit] at hf, fun fuel off l cs hf hl hg => ?_⟩
    simp only [Sh.fit] at hf
    split at hf
    · cases hf
    · rename_i o t r
      simp only [Bool.and_eq_true, decide_eq_true_eq] at hf
      obtain ⟨⟨⟨rfl, h1⟩, h2⟩, h3⟩ := hf
      simp only [Sh.size] at hl
      obtain ⟨x, hx⟩ := hg 0 o t rfl
      obtain ⟨v1, hv1⟩ := iha.1 fuel t _ x h1 hx
      obtain ⟨v2, hv2⟩ := ihb.2 fuel (o + a.size) r cs h3 (by omega) (fun i o' t' hi => hg (i + 1) o' t' (by simpa using hi))
      rw [h2] at hv1
      refine ⟨.cons v1 v2, v1, v2, _, _, rfl, ?_, ?_, hv1, hv2⟩
      · rw [← List.drop_drop, List.take_append_drop]
      · rw [List.length_take, List.length_drop]; omega
  | slice e ih =>
    refine ⟨fun fuel t cs x hf h => ?_, fun fuel off l cs hf => by simp [Sh.fit] at hf⟩
    simp only [Sh.fit] at hf
    split at hf
    · rename_i et hs
      simp only [Bool.and_eq_true, decide_eq_true_eq] at hf
      rcases open_slice hs h with ⟨rfl, _⟩ | ⟨ad, len, cap, m, n, D, Pl, rfl, _, hl, hm, hmm, _, hi⟩
      · exact ⟨.slice none 0 [], none, 0, [], rfl, rfl, Nat.le_refl _, Nat.zero_le _, fun _ => ⟨rfl, rfl⟩, fun i v hv => by simp at hv⟩
      · have hle : len ≤ m := by rw [hmm]; split <;> omega
        obtain ⟨l, hlen, hp⟩ := getElem?_some_of_list (f := fun _ => True) (P := fun i (v : U) => ∃ ec, ec.length = e.size ∧ (∀ j, j < e.size → w.cell? (ad.add (i * e.size + j)) = ec[j]?) ∧ e.holds w v ec) len (fun i hil => by
          obtain ⟨ec, hc, ht⟩ := hi i (by omega)
          obtain ⟨u, hu⟩ := ih.1 n et ec _ hf.1 ht
          obtain ⟨h1, h2⟩ := cells_of hc
          rw [hf.2] at h1 h2
          exact ⟨u, ec, h1, fun j hj => by rw [← h2 j hj, Go.Deep.add_add], hu⟩)
        refine ⟨.slice (some ad) cap l, some ad, cap, l, rfl, by rw [hlen], by omega, hm, (by intro h0; cases h0), fun i v hv => ?_⟩
        obtain ⟨ec, g1, g2, g3⟩ := hp i v hv
        exact ⟨ad, ec, rfl, g1, g2, g3⟩
    · cases hf

/-- An argument of a plain type: one cell. -/
theorem open_cell {r : Reach} {b0 : Nat} {t : TypeId} {v : Value} {d : DataW H} {p : List MemPlace} (sh : Sh) (hf : (sh.fit P).1 t = true)
    (hone : sh.one = true)
    (hv : Value.okWide P w r b0 t v) (h : DataW.Trod enc P w base spare held t v d p) : ∃ u, sh.holds w u [v] := by
  have hc : v.cells.toList = [v] := by
    cases v with
    | agg cs =>
      exfalso
      revert hf hone
      cases sh with
      | agg r => intro _ hone; cases hone
      | nil => intro _ hone; cases hone
      | cons a b => intro _ hone; cases hone
      | int k => intro hf _; simp only [Sh.fit] at hf; split at hf <;> simp_all [Value.okWide, Cell.okWide, Cell.ok]
      | bool => intro hf _; simp only [Sh.fit] at hf; split at hf <;> simp_all [Value.okWide, Cell.okWide, Cell.ok]
      | str => intro hf _; simp only [Sh.fit] at hf; split at hf <;> simp_all [Value.okWide, Cell.okWide, Cell.ok]
      | slice e => intro hf _; simp only [Sh.fit] at hf; split at hf <;> simp_all [Value.okWide, Cell.okWide, Cell.ok]
    | _ => rfl
  obtain ⟨fuel, h⟩ := h
  rw [hc] at h
  exact (open_both sh).1 fuel t _ _ hf h

/-- An argument that is a struct or an array. -/
theorem open_agg {r : Reach} {b0 : Nat} {t : TypeId} {v : Value} {d : DataW H} {p : List MemPlace} (sh : Sh) (hf : (sh.fit P).1 t = true) (hag : (match P.underlying t with | some (.struct _) | some (.array _ _) => true | _ => false) = true)
    (hv : Value.okWide P w r b0 t v) (h : DataW.Trod enc P w base spare held t v d p) : ∃ cs u, v = .agg cs ∧ sh.holds w u cs.toList := by
  have ha : ∃ cs, v = .agg cs := by
    unfold Value.okWide at hv
    split at hag
    · rename_i hs; rw [hs] at hv; obtain ⟨cs, h1, _⟩ := hv; exact ⟨cs, h1⟩
    · rename_i hs; rw [hs] at hv; obtain ⟨cs, h1, _⟩ := hv; exact ⟨cs, h1⟩
    · cases hag
  obtain ⟨cs, rfl⟩ := ha
  obtain ⟨fuel, h⟩ := h
  obtain ⟨u, hu⟩ := (open_both sh).1 fuel t _ _ hf h
  exact ⟨cs, u, rfl, hu⟩
end

end Go.Und
