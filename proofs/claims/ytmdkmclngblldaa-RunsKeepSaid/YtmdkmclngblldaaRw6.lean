/- slices.Replace: walked. -/
import Derived.Test.YtmdkmclngblldaaRw5
set_option linter.unusedVariables false
set_option linter.unusedSimpArgs false
namespace Go.Proofs.Ytmdkmclngblldaa
open Go.RowKit Go.Und Go.Shelf
attribute [local go_sem] Oper.semAt_some
attribute [local go_sem ↓] Go.wp_at_zero Go.wp_at_succ

/-- Where a cut begins. -/
def cutO (cap k : Nat) : Nat := if cap = k then 0 else k * 2
theorem cutO_lt {cap k : Nat} (h : k < cap) : cutO cap k = k * 2 := by unfold cutO; rw [if_neg (by omega)]
theorem cut_any_run {g n cap : Nat} (k : Nat) (hk : k ≤ n) (W : World) : (Instr.sliceAt SlT (.slice (some ⟨g, 0, none⟩) n cap) (some (.int .i64 (k : Int))) none none).run Try.prog W = .ok (.slice (some ⟨g, cutO cap k, none⟩) (n - k) (cap - k)) W := by
  obtain ⟨i, hi, _, hz1, _⟩ := info_parts spInfo
  have h1 := run_cut_from (P := Try.prog) W SlT SpT i 2 Try.underlying22 hi hz1 (some ⟨g, 0, none⟩) n cap .i64 (k : Int) (by omega) (by omega)
  rw [h1, show (k : Int).toNat = k by omega]
  unfold cutO
  by_cases h : cap = k
  · rw [if_pos h, if_pos h]
  · rw [if_neg h, if_neg h]; simp [add_at]
theorem cut_mid_run {g n cap : Nat} (a b : Nat) (hab : a ≤ b) (hb : b ≤ cap) (W : World) : (Instr.sliceAt SlT (.slice (some ⟨g, 0, none⟩) n cap) (some (.int .i64 (a : Int))) (some (.int .i64 (b : Int))) none).run Try.prog W = .ok (.slice (some ⟨g, cutO cap a, none⟩) (b - a) (cap - a)) W := by
  obtain ⟨i, hi, _, hz1, _⟩ := info_parts spInfo
  have h1 := run_cut_mid (P := Try.prog) W SlT SpT i 2 Try.underlying22 hi hz1 (some ⟨g, 0, none⟩) n cap .i64 .i64 (a : Int) (b : Int) (by omega) (by omega) (by omega)
  rw [h1, show (a : Int).toNat = a by omega, show (b : Int).toNat = b by omega]
  unfold cutO
  by_cases h : cap = a
  · rw [if_pos h, if_pos h]
  · rw [if_neg h, if_neg h]; simp [add_at]
theorem blk_same {W : World} {g o : Nat} {cur : Array Value} (h : Blk W g SpT cur) : W.setRow g (spl cur.toList o []).toArray = W := by
  have e : spl cur.toList o [] = cur.toList := by simp [spl]
  rw [e]
  exact setRow_self W g cur SpT (0, 0) h
/-- Some spans laid over cells, be they none. -/
theorem copyV_run {W : World} {g o dLen dCap cv : Nat} {cur : Array Value} {qv : Option Addr} {vs : List (Int × Int)} (ty : TypeId) (hb : Blk W g SpT cur) (hv : (srow qv cv vs).ok W) (hd : vs.length ≤ dLen) (hfit : o + vs.length * 2 ≤ cur.size) :
    (Builtin.copy_ #[SlT, SlT] ty #[.slice (some ⟨g, o, none⟩) dLen dCap, .slice qv vs.length cv]).run Try.prog W = .ok (goInt vs.length) (W.setRow g (spl cur.toList o (fc spc vs)).toArray) := by
  cases hvs : vs with
  | nil =>
    rw [show fc spc [] = [] from rfl, blk_same hb]
    exact run_copy_noneK W SlT SlT ty SpT _ _ _ _ _ _ Try.underlying22 (by rw [spSize]; rfl) (Nat.zero_min _)
  | cons x r =>
    rw [← hvs]
    obtain ⟨gv, cu, rfl, hbv, hle, _, _, htk⟩ := row_parts hv (by rw [hvs]; simp)
    have := run_copy_rowK (P := Try.prog) W SlT SlT ty SpT 2 g o dLen dCap ⟨gv, 0, none⟩ vs.length cv cur SpT (fc spc vs) Try.underlying22 spSize hb (by rw [fc_length spc_len, show Nat.min vs.length dLen = vs.length from Nat.min_eq_left hd]) (fun j v hj => by
      have hlt : j < vs.length * 2 := by rw [← fc_length spc_len]; exact (List.getElem?_eq_some_iff.1 hj).1
      rw [← htk, List.getElem?_take_of_lt hlt] at hj
      rw [add_at, hbv.cell, Nat.zero_add]
      simpa using hj) (by rw [fc_length spc_len]; exact hfit) (fc_one spc_one _)
    rw [show Nat.min vs.length dLen = vs.length from Nat.min_eq_left hd] at this
    exact this
theorem appendV_run {W : World} {g i cap cv : Nat} {cur : Array Value} {qv : Option Addr} {vs : List (Int × Int)} (ty : TypeId) (hb : Blk W g SpT cur) (hv : (srow qv cv vs).ok W) (hroom : i + vs.length ≤ cap) (hsz : cur.size = cap * 2) :
    (Builtin.append_ #[SlT, SlT] ty #[.slice (some ⟨g, 0, none⟩) i cap, .slice qv vs.length cv]).run Try.prog W = .ok (.slice (some ⟨g, 0, none⟩) (i + vs.length) cap) (W.setRow g (spl cur.toList (i * 2) (fc spc vs)).toArray) := by
  obtain ⟨inf, hi1, _, hz1, _⟩ := info_parts spInfo
  cases qv with
  | none =>
    have hvs : vs = [] := by
      rcases hv.2 with ⟨e, h0⟩ | ⟨_, _, _, e, _⟩
      · exact List.eq_nil_of_length_eq_zero h0
      · cases e
    subst hvs
    rcases hv.2 with ⟨e, _⟩ | ⟨_, _, _, e, _⟩
    · obtain rfl : cv = 0 := by simpa using e
      rw [show fc spc [] = [] from rfl, blk_same hb]
      have hown : W.ownsRow 0 SpT 2 (.slice (some ⟨g, 0, none⟩) i cap) i (cur.toList.take (i * 2)) ∨ True := .inr trivial
      simp [Builtin.append_, run_underlying Try.underlying22, sizeOf, typeInfo, hi1, Builtin.lenOf, show i ≤ cap by omega, Builtin.firstCells, storeCells]
    · cases e
  | some ad =>
    rcases hv.2 with ⟨e, _⟩ | ⟨gv, c, cu, e, _, hbv, _, _, _, htk⟩
    · cases e
    · obtain ⟨rfl, rfl⟩ : ad = ⟨gv, 0, none⟩ ∧ cv = c := by simpa using e
      have := run_append_room (P := Try.prog) W SlT ty SpT inf Try.underlying22 hi1 g i cap cur hb ⟨gv, 0, none⟩ vs.length cv (fc spc vs) (by rw [fc_length spc_len, hz1]) (fun j v hj => by
        have hlt : j < vs.length * 2 := by rw [← fc_length spc_len]; exact (List.getElem?_eq_some_iff.1 hj).1
        rw [← htk, List.getElem?_take_of_lt hlt] at hj
        rw [add_at, Blk.cell (show Blk W gv SpT cu from hbv), Nat.zero_add]
        simpa using hj) (fc_one spc_one _) hroom (by rw [fc_length spc_len, hz1]; omega)
      rw [hz1] at this
      exact this
abbrev zer (n : Nat) : List Value := (Builtin.zeroCells #[.int .i64 0, .int .i64 0] n).toList
theorem zer_len (n : Nat) : (zer n).length = n * 2 := by unfold zer; rw [Array.length_toList, size_zeroCells]; rfl
theorem zer_one (n : Nat) : ∀ v ∈ zer n, v.oneCell' = true := by
  intro v hv
  unfold zer Builtin.zeroCells at hv
  simp at hv
  obtain ⟨i, _, rfl⟩ := hv
  have : i % 2 = 0 ∨ i % 2 = 1 := by omega
  rcases this with h | h <;> rw [h] <;> rfl
theorem clear_run {W : World} {g o k c : Nat} {cur : Array Value} (ty : TypeId) (hb : Blk W g SpT cur) (hfit : 0 < k → o + k * 2 ≤ cur.size) :
    (Builtin.clear_ #[SlT] ty #[.slice (some ⟨g, o, none⟩) k c]).run Try.prog W = .ok (.tuple #[]) (W.setRow g (spl cur.toList o (zer k)).toArray) := by
  rcases Nat.eq_zero_or_pos k with rfl | hk
  · rw [show zer 0 = [] by simp [zer, Builtin.zeroCells], blk_same hb]
    simp [Builtin.clear_, run_underlying Try.underlying22]
  · exact run_clear_rowK (P := Try.prog) W SlT SpT ty (.agg #[.int .i64 0, .int .i64 0]) k 2 Try.underlying22 Try.zeroValue24 (by rw [size_zeroCells]; rfl) (zer_one k) g o c cur SpT hb hk (hfit hk)
end Go.Proofs.Ytmdkmclngblldaa
