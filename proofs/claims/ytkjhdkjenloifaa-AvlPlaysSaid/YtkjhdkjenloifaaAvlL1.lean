/- The document's list of pairs, walked. -/
import Derived.Test.YtkjhdkjenloifaaAvlW7
import Derived.Test.YtkjhdkjenloifaaAvlL0
import Derived.Test.YtkjhdkjenloifaaRow
namespace Go.Proofs.Ytkjhdkjenloifaa
open Go.RowKit Go.Und

/-- A pair's cells. -/
def pc (l : List (Int × Int)) : List Value := l.flatMap fun x => [.int .i64 x.1, .int .i64 x.2]
theorem pc_length (l : List (Int × Int)) : (pc l).length = l.length * 2 := by
  induction l with
  | nil => rfl
  | cons x l ih => simp only [pc, List.flatMap_cons, List.length_append, List.length_cons, List.length_nil] at ih ⊢; omega
theorem pc_append (l m : List (Int × Int)) : pc (l ++ m) = pc l ++ pc m := by simp [pc]
theorem pc_cons (x : Int × Int) (l : List (Int × Int)) : pc (x :: l) = .int .i64 x.1 :: .int .i64 x.2 :: pc l := by simp [pc]
theorem pc_take (l : List (Int × Int)) (k : Nat) : (pc l).take (k * 2) = pc (l.take k) := by
  induction l generalizing k with
  | nil => simp [pc]
  | cons x l ih =>
    cases k with
    | zero => simp [pc]
    | succ k => rw [pc_cons, show (k + 1) * 2 = k * 2 + 1 + 1 by omega, List.take_succ_cons, List.take_succ_cons, ih, List.take_succ_cons, pc_cons]
theorem pc_drop (l : List (Int × Int)) (k : Nat) : (pc l).drop (k * 2) = pc (l.drop k) := by
  induction l generalizing k with
  | nil => simp [pc]
  | cons x l ih =>
    cases k with
    | zero => simp
    | succ k => rw [pc_cons, show (k + 1) * 2 = k * 2 + 1 + 1 by omega, List.drop_succ_cons, List.drop_succ_cons, ih, List.drop_succ_cons]
theorem pc_at {l : List (Int × Int)} {k : Nat} {x : Int × Int} (h : l[k]? = some x) : (pc l)[k * 2]? = some (.int .i64 x.1) ∧ (pc l)[k * 2 + 1]? = some (.int .i64 x.2) := by
  induction l generalizing k with
  | nil => simp at h
  | cons y l ih =>
    cases k with
    | zero => simp at h; subst h; simp [pc_cons]
    | succ k =>
      obtain ⟨h1, h2⟩ := ih (k := k) (by simpa using h)
      rw [pc_cons, show (k + 1) * 2 = k * 2 + 1 + 1 by omega]
      exact ⟨by simpa using h1, by simpa using h2⟩
theorem pc_one (l : List (Int × Int)) : ∀ u ∈ pc l, u.oneCell' = true := by
  intro u hu
  obtain ⟨x, _, hx⟩ := List.mem_flatMap.1 hu
  simp at hx
  rcases hx with rfl | rfl <;> rfl

abbrev PairT : TypeId := 47
abbrev PairsT : TypeId := 36

/-- A slice that owns these pairs. -/
def Pairs (w : World) (v : Value) (l : List (Int × Int)) : Prop := w.ownsRow 0 PairT 2 v l.length (pc l)

theorem Pairs.nil (w : World) : Pairs w (.slice none 0 0) [] := World.ownsRow_nil w 0 PairT 2
theorem Pairs.at {w : World} {p : Option Addr} {n cap : Nat} {l : List (Int × Int)} (hr : Reads w 2 p n cap (pc l)) {k : Nat} {x : Int × Int} (hx : l[k]? = some x) :
    ∃ b off, p = some ⟨b, off, none⟩ ∧ w.cell? ⟨b, off + k * 2, none⟩ = some (.int .i64 x.1) ∧ w.cell? ⟨b, off + k * 2 + 1, none⟩ = some (.int .i64 x.2) := by
  obtain ⟨h1, h2⟩ := pc_at hx
  cases p with
  | none =>
    have := (hr.nil rfl).1
    have hl := hr.len
    rw [pc_length] at hl
    have := (List.getElem?_eq_some_iff.1 hx).1
    omega
  | some ad =>
    obtain ⟨b, off, s⟩ := ad
    obtain rfl : s = none := hr.spot _ rfl
    exact ⟨b, off, rfl, hr.cell _ rfl _ _ h1, by have := hr.cell _ rfl _ _ h2; simpa [Nat.add_assoc] using this⟩
theorem Pairs.fr {D : Nat → Prop} {w w' : World} {v : Value} {l : List (Int × Int)} (h : Pairs w v l) (f : Fr D w w') (hd : ∀ b, v.ownBlock = some b → ¬ D b) : Pairs w' v l := by
  unfold Pairs World.ownsRow at *
  refine ⟨h.1, ?_⟩
  rcases h.2 with h2 | ⟨g, cap, cur, rfl, hb, hg, r⟩
  · exact .inl h2
  · exact .inr ⟨g, cap, cur, rfl, hb, (f.block g (heap_lt hg) (hd g rfl)).trans hg, r⟩

set_option maxHeartbeats 1000000 in
theorem rankRef_any (p : Option Addr) (cap : Nat) (l : List (Int × Int)) (key : Int) (w : World) (hr : Reads w 2 p l.length cap (pc l)) (hs : l.length ≤ 1000000) :
    Calls Try.prog 15 #[.slice p l.length cap, .int .i64 key] w fun e w' => e = .returned (.int .i64 (Tr.rk key l)) ∧ w' = w := by
  have HR := Lib.hid hr; clear hr
  go_enter Try.func15, Try.ntmps15
  go_wp2_with fail
  go_loop [5] (fun i => ∃ k : Nat, k ≤ l.length ∧ i = .int .i64 k ∧ ∀ j x, j < k → l[j]? = some x → x.1 < key) (fun i => l.length - (intOf i).toNat)
  case atStart => exact ⟨0, Nat.zero_le _, rfl, fun j x h => absurd h (by omega)⟩
  case round =>
    obtain ⟨k, hk, rfl, hb⟩ := hrel
    have HB := Lib.hid hb; clear hb
    by_cases g : k < l.length
    · have ex := List.getElem?_eq_getElem g
      obtain ⟨b, off, rfl, c1, c2⟩ := Pairs.at HR.out ex
      generalize l[k] = x at *
      have EX := Lib.hid ex; clear ex
      by_cases gk : x.1 < key
      · go_wp2_with fail
        go_round
        case rel =>
          refine ⟨k + 1, by omega, by go_num, fun j y hj hy => ?_⟩
          rcases Nat.lt_succ_iff_lt_or_eq.1 hj with h | rfl
          · exact HB.out j y h hy
          · rw [EX.out] at hy; cases hy; exact gk
        case measure => simp [intOf]; omega
      · go_wp2_with fail
        go_ret
        have e : Tr.rk key l = k := Tr.rk_eq hk HB.out fun y hy => by rw [EX.out] at hy; cases hy; omega
        exact ⟨by rw [e]; rfl, rfl⟩
    · go_wp2_with fail
      go_ret
      have e : Tr.rk key l = k := Tr.rk_eq hk HB.out fun y hy => by have := (List.getElem?_eq_some_iff.1 hy).1; omega
      exact ⟨by rw [e]; rfl, rfl⟩

set_option maxHeartbeats 1000000 in
theorem hasRef_any (p : Option Addr) (cap : Nat) (l : List (Int × Int)) (key : Int) (w : World) (hr : Reads w 2 p l.length cap (pc l)) (hs : l.length ≤ 1000000) :
    Calls Try.prog 16 #[.slice p l.length cap, .int .i64 key] w fun e w' => e = .returned (.bool (Tr.hasR key l)) ∧ w' = w := by
  have HR := Lib.hid hr; clear hr
  have hle := Tr.rk_le key l
  have HK := Lib.hid (rankRef_any p cap l key w HR.out hs)
  obtain ⟨k, ek⟩ : ∃ k, Tr.rk key l = k := ⟨_, rfl⟩
  have HE := Lib.hid ek
  rw [ek] at HK hle; clear ek
  go_enter Try.func16, Try.ntmps16
  go_wp2_with fail
  refine HK.out.mono ?_
  rintro e w1 ⟨rfl, rfl⟩
  by_cases g : k < l.length
  · have ex := List.getElem?_eq_getElem g
    obtain ⟨b, off, rfl, c1, c2⟩ := Pairs.at HR.out ex
    generalize l[k] = x at *
    have EX := Lib.hid ex; clear ex
    by_cases gk : x.1 = key
    · have EK := Lib.hid gk
      simp only [gk] at c1
      clear gk
      go_wp2_with fail
      go_ret
      exact ⟨by simp [Tr.hasR, HE.out, EX.out, EK.out], rfl⟩
    · have gb : (x.1 == key) = false := by simpa using gk
      go_wp2_with fail
      go_ret
      exact ⟨by simp [Tr.hasR, HE.out, EX.out, gb], rfl⟩
  · go_wp2_with fail
    go_ret
    exact ⟨by simp [Tr.hasR, HE.out, List.getElem?_eq_none (Nat.le_of_not_lt g)], rfl⟩

set_option maxHeartbeats 1000000 in
theorem is_any (p : Option Addr) (cap : Nat) (l : List (Int × Int)) (i k v : Int) (ok : Bool) (w : World) (hr : Reads w 2 p l.length cap (pc l)) (hs : l.length ≤ 1000000)
    (h : if i < 0 then (ok = false ∧ k = 0 ∧ v = 0) else match l[i.toNat]? with | some x => ok = true ∧ k = x.1 ∧ v = x.2 | none => ok = false ∧ k = 0 ∧ v = 0) :
    Calls Try.prog 20 #[.slice p l.length cap, .int .i64 i, .int .i64 k, .int .i64 v, .bool ok] w fun e w' => e = .returned (.bool true) ∧ w' = w := by
  have HR := Lib.hid hr; clear hr
  by_cases h0 : i < 0
  · rw [if_pos h0] at h
    obtain ⟨rfl, rfl, rfl⟩ := h
    go_enter Try.func20, Try.ntmps20
    go_wp2_with fail
    go_ret
    exact ⟨rfl, rfl⟩
  · rw [if_neg h0] at h
    obtain ⟨j, rfl⟩ : ∃ j : Nat, i = j := ⟨i.toNat, by omega⟩
    rw [Int.toNat_natCast] at h
    by_cases g : j < l.length
    · have ex := List.getElem?_eq_getElem g
      rw [ex] at h
      obtain ⟨b, off, rfl, c1, c2⟩ := Pairs.at HR.out ex
      obtain ⟨rfl, rfl, rfl⟩ := h
      clear ex
      generalize l[j] = x at *
      go_enter Try.func20, Try.ntmps20
      go_wp2_with fail
      go_ret
      exact ⟨rfl, rfl⟩
    · rw [List.getElem?_eq_none (by omega)] at h
      obtain ⟨rfl, rfl, rfl⟩ := h
      go_enter Try.func20, Try.ntmps20
      go_wp2_with fail
      go_ret
      exact ⟨rfl, rfl⟩
end Go.Proofs.Ytkjhdkjenloifaa
