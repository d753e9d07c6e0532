/- What is told about a key of a rising list, plain; a slice of integers. -/
import Derived.Test.YtkjhdkjenloifaaAvlL2
import Derived.Test.YtkjhdkjenloifaaAvlW8
namespace Go.Proofs.Ytkjhdkjenloifaa
open Go.RowKit Go.Und

/-- What stands in a list of integers. -/
def IntsV (W : World) (v : Value) (ks : List Int) : Prop := ∃ a cap, v = .slice a ks.length cap ∧ ks.length ≤ cap ∧ cap ≤ maxLen ∧
  ∀ k x, ks[k]? = some x → ∃ b off, a = some ⟨b, off, none⟩ ∧ b < W.heap.size ∧ W.cell? ⟨b, off + k, none⟩ = some (.int .i64 x) ∧ (Lit.int .i64 x).wf = true

theorem ints_of {W : World} {v : Value} {u : U} (h : (Sh.slice I).holds W u [v]) : ∃ ks, IntsV W v ks := by
  obtain ⟨a, cap, l, rfl, hv, h1, h2, h3, h4⟩ := h
  simp only [List.cons.injEq, and_true] at hv
  subst hv
  obtain ⟨ops, hlen, hp⟩ := getElem?_some_of_list (f := fun _ => True) (P := fun k (x : Int) => ∃ b off, a = some ⟨b, off, none⟩ ∧ b < W.heap.size ∧ W.cell? ⟨b, off + k, none⟩ = some (.int .i64 x) ∧ (Lit.int .i64 x).wf = true) l.length (fun k hk => by
    obtain ⟨ad, ec, rfl, g1, g2, g3⟩ := h4 k l[k] (List.getElem?_eq_getElem hk)
    obtain ⟨k1, _, rfl, w1⟩ := g3
    have c0 := g2 0 (by decide)
    simp only [Sh.size, Nat.add_zero, Nat.mul_one] at c0
    obtain ⟨b, off, rfl, hb⟩ : ∃ b off, ad = ⟨b, off, none⟩ ∧ b < W.heap.size := by
      obtain ⟨ad', ec, hh, g1, g2, g3⟩ := h4 0 l[0] (List.getElem?_eq_getElem (by omega))
      obtain rfl : ad = ad' := by simpa using hh
      obtain ⟨k2, _, rfl, w2⟩ := g3
      have c0 := g2 0 (by decide)
      exact addr_of_cell (v := .int .i64 k2) (by simpa [Addr.add] using c0)
    simp only [add_plain] at c0
    exact ⟨k1, b, off, rfl, hb, by simpa using c0, w1⟩)
  exact ⟨ops, a, cap, by rw [hlen], by omega, h2, hp⟩

def kOf (o : Option (Int × Int)) : Int := (o.map (·.1)).getD 0
def vOf (o : Option (Int × Int)) : Int := (o.map (·.2)).getD 0
theorem tellV_eq (o : Option (Int × Int)) : tellV o = .tuple #[.int .i64 (kOf o), .int .i64 (vOf o), .bool o.isSome] := by cases o <;> rfl

/-- What is told of a place. -/
theorem is_of {l : List (Int × Int)} {i : Int} {o : Option (Int × Int)} (h : o = if i < 0 then none else l[i.toNat]?) :
    if i < 0 then (o.isSome = false ∧ kOf o = 0 ∧ vOf o = 0) else match l[i.toNat]? with | some x => o.isSome = true ∧ kOf o = x.1 ∧ vOf o = x.2 | none => o.isSome = false ∧ kOf o = 0 ∧ vOf o = 0 := by
  subst h
  by_cases g : i < 0
  · simp [g, kOf, vOf]
  · simp only [if_neg g]
    cases l[i.toNat]? <;> simp [kOf, vOf]

theorem ceil_at {key : Int} : ∀ {l : List (Int × Int)}, Tr.Rise l → Tr.ceilL key l = l[Tr.rk key l]?
  | [], _ => rfl
  | x :: l, h => by
    obtain ⟨h1, h2⟩ := Tr.rise_cons h
    by_cases g : x.1 < key
    · rw [Tr.rk_cons_lt g, List.getElem?_cons_succ, ← ceil_at h1]
      unfold Tr.ceilL
      rw [List.find?_cons_of_neg (by simp; omega)]
    · rw [Tr.rk_cons_ge g, List.getElem?_cons_zero]
      unfold Tr.ceilL
      rw [List.find?_cons_of_pos (by simp; omega)]
theorem floor_at {key : Int} : ∀ {l : List (Int × Int)}, Tr.Rise l →
    Tr.floorL key l = if (if Tr.hasR key l = true then (Tr.rk key l : Int) else Tr.rk key l - 1) < 0 then none else l[(if Tr.hasR key l = true then (Tr.rk key l : Int) else Tr.rk key l - 1).toNat]?
  | [], _ => by simp [Tr.floorL]
  | x :: l, h => by
    obtain ⟨h1, h2⟩ := Tr.rise_cons h
    have ih := floor_at (key := key) h1
    by_cases g : x.1 < key
    · have hh : Tr.hasR key (x :: l) = Tr.hasR key l := by unfold Tr.hasR; rw [Tr.rk_cons_lt g, List.getElem?_cons_succ]
      rw [hh, Tr.rk_cons_lt g]
      unfold Tr.floorL at ih ⊢
      rw [List.filter_cons_of_pos (by simp; omega), List.getLast?_cons, ih]
      by_cases b : Tr.hasR key l = true
      · have hlt : Tr.rk key l < l.length := by
          rcases Nat.lt_or_ge (Tr.rk key l) l.length with g | g
          · exact g
          · simp [Tr.hasR, List.getElem?_eq_none g] at b
        simp only [b, if_true]
        rw [if_neg (by omega), if_neg (by omega)]
        rw [show ((Tr.rk key l + 1 : Nat) : Int).toNat = (Tr.rk key l) + 1 by omega, show ((Tr.rk key l : Nat) : Int).toNat = Tr.rk key l by omega, List.getElem?_cons_succ, List.getElem?_eq_getElem hlt]
        rfl
      · simp only [b, if_false, Bool.false_eq_true]
        have hle := Tr.rk_le key l
        by_cases z : Tr.rk key l = 0
        · rw [z]; simp
        · rw [if_neg (by omega), if_neg (by omega)]
          rw [show (((Tr.rk key l + 1 : Nat) : Int) - 1).toNat = (Tr.rk key l - 1) + 1 by omega, show ((Tr.rk key l : Int) - 1).toNat = Tr.rk key l - 1 by omega, List.getElem?_cons_succ,
            List.getElem?_eq_getElem (show Tr.rk key l - 1 < l.length by omega)]
          rfl
    · have hf : l.filter (fun x => decide (x.1 ≤ key)) = [] ∨ False := .inl (List.filter_eq_nil_iff.2 fun y hy => by have := h2 y hy; simp; omega)
      have hf := hf.resolve_right id
      have hh : Tr.hasR key (x :: l) = (x.1 == key) := by unfold Tr.hasR; rw [Tr.rk_cons_ge g, List.getElem?_cons_zero]
      rw [hh, Tr.rk_cons_ge g]
      unfold Tr.floorL
      by_cases e : x.1 = key
      · have eb : (x.1 == key) = true := by simpa using e
        rw [List.filter_cons_of_pos (by simp; omega), hf, eb]; simp
      · have eb : (x.1 == key) = false := by simpa using e
        rw [List.filter_cons_of_neg (by simp; omega), hf, eb]; simp
theorem at_at {i : Int} {t : TrV} (hR : t.Right) : atV i t = if i < 0 then none else t.items[i.toNat]? := by
  unfold atV
  have hz := hR.len.1
  by_cases g : i < 0
  · simp [g]
  · rw [if_neg g]
    by_cases g2 : t.sz ≤ i
    · rw [if_pos (.inr g2), List.getElem?_eq_none (by omega)]
    · rw [if_neg (by omega)]
      exact Tr.atT_spec hR (by omega)
end Go.Proofs.Ytkjhdkjenloifaa
