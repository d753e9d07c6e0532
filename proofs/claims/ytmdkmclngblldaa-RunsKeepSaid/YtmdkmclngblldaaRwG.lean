/- slices.Replace: walked, where all goes over. -/
import Derived.Test.YtmdkmclngblldaaRwF
set_option linter.unusedVariables false
set_option linter.unusedSimpArgs false
namespace Go.Proofs.Ytmdkmclngblldaa
open Go.RowKit Go.Und Go.Shelf
attribute [local go_sem] Oper.semAt_some
attribute [local go_sem ↓] Go.wp_at_zero Go.wp_at_succ

/-- Some behind others, and there is no room. -/
theorem appendG_run {W : World} {g i cap cv : Nat} {cur : Array Value} {l : List (Int × Int)} {qv : Option Addr} {vs : List (Int × Int)} (hb : Blk W g SpT cur) (hv : (srow qv cv vs).ok W) (hgrow : cap < i + vs.length) (hi : i ≤ l.length) (hle : l.length ≤ cap) (hl : l.length ≤ 100000) (hvl : vs.length ≤ 100000) (hcur : cur.toList.take (l.length * 2) = fc spc l) :
    ∃ (arr : Array Value) (c2 : Nat), (∀ ty, (Builtin.append_ #[SlT, SlT] ty #[.slice (some ⟨g, 0, none⟩) i cap, .slice qv vs.length cv]).run Try.prog W = .ok (.slice (some ⟨W.heap.size, 0, none⟩) (i + vs.length) c2) (W.drew.alloc (.cells arr SpT))) ∧ i + vs.length ≤ c2 ∧ c2 ≤ maxLen ∧ arr.size = c2 * 2 ∧ arr.toList.take ((i + vs.length) * 2) = fc spc (l.take i ++ vs) := by
  obtain ⟨inf, hi1, hz, hz1, hz2⟩ := info_parts spInfo
  obtain ⟨gv, cu, rfl, hbv, hlev, _, _, htk⟩ := row_parts hv (by omega)
  have hlen : (fc spc (l.take i)).length = i * 2 := fc_take_len l hi
  have hVl : (fc spc vs).length = vs.length * 2 := fc_length spc_len vs
  have holds : ∀ j v, (fc spc (l.take i))[j]? = some v → W.cell? ((⟨g, 0, none⟩ : Addr).add j) = some v := fun j v hj => by
    have hlt : j < i * 2 := by rw [← hlen]; exact (List.getElem?_eq_some_iff.1 hj).1
    rw [← cur_take hcur hi, List.getElem?_take_of_lt hlt] at hj
    rw [add_at, hb.cell, Nat.zero_add]
    simpa using hj
  have hnews : ∀ j v, (fc spc vs)[j]? = some v → W.cell? ((⟨gv, 0, none⟩ : Addr).add j) = some v := fun j v hj => by
    have hlt : j < vs.length * 2 := by rw [← hVl]; exact (List.getElem?_eq_some_iff.1 hj).1
    rw [← htk, List.getElem?_take_of_lt hlt] at hj
    rw [add_at, hbv.cell, Nat.zero_add]
    simpa using hj
  have hnc : Builtin.nextslicecap (i + vs.length) cap ≤ 2 * (i + vs.length) := nextslicecap_le (by omega)
  have hge := grownCap_ge W (i + vs.length) cap SpT
  refine ⟨_, grownCap W (i + vs.length) cap SpT, fun ty => run_append_grow (P := Try.prog) W SlT ty SpT inf (.agg #[.int .i64 0, .int .i64 0]) Try.underlying22 hi1 hz ⟨g, 0, none⟩ i cap (fc spc (l.take i)) (by rw [hz1]; exact hlen) holds ⟨gv, 0, none⟩ vs.length cv (fc spc vs) (by rw [hz1]; exact hVl) hnews hgrow (by omega) (by rw [hz2]; omega), hge, grownCap_le_maxLen W (i + vs.length) cap SpT (by unfold maxLen; omega), ?_, ?_⟩
  · simp only [Array.size_append, List.size_toArray, size_zeroCells, hlen, hVl, Value.cells]
    simp
    omega
  · rw [Array.toList_append, Array.toList_append]
    simp only [List.toList_toArray]
    rw [← fc_append]
    exact List.take_left' (by rw [fc_length spc_len]; simp; omega)
set_option maxRecDepth 100000 in
set_option maxHeartbeats 4000000 in
theorem replace_end_grow (g cap : Nat) (cur : Array Value) (l : List (Int × Int)) (i j : Nat) (qv : Option Addr) (cv : Nat) (vs : List (Int × Int)) (w : World) (hij : i < j) (hjn : j = l.length) (hl : l.length ≤ 100000) (hv : vs.length ≤ 100000) (hle : l.length ≤ cap) (hcm : cap ≤ maxLen)
    (S : Sep (fpL [Ob.blk g SpT cur, srow qv cv vs]) w w [Ob.blk g SpT cur, srow qv cv vs]) (hsz : cur.size = cap * 2) (hcur : cur.toList.take (l.length * 2) = fc spc l) (hgrow : cap < i + vs.length) :
    Calls Try.prog 88 #[.slice (some ⟨g, 0, none⟩) l.length cap, .int .i64 (i : Int), .int .i64 (j : Int), .slice qv vs.length cv] w fun e w' =>
      ∃ g2 c2 cur', e = .returned (.slice (some ⟨g2, 0, none⟩) (i + vs.length) c2) ∧ Sep (fpL [Ob.blk g SpT cur, srow qv cv vs]) w w' [Ob.blk g2 SpT cur', srow qv cv vs] ∧ i + vs.length ≤ c2 ∧ c2 ≤ maxLen ∧ cur'.size = c2 * 2 ∧ cur'.toList.take ((i + vs.length) * 2) = fc spc (l.take i ++ vs) := by
  subst hjn
  have k1 : ∀ W, (Instr.sliceAt SlT (.slice (some ⟨g, 0, none⟩) l.length cap) (some (.int .i64 (i : Int))) (some (.int .i64 (l.length : Int))) none).run Try.prog W = _ := cut_mid_run (g := g) (n := l.length) i l.length (by omega) (by omega)
  have k2 : ∀ W, (Instr.sliceAt SlT (.slice (some ⟨g, 0, none⟩) l.length cap) none (some (.int .i64 (i : Int))) none).run Try.prog W = _ := cut_to_run i (by omega)
  have g1 : ((i : Int) == l.length) = false := beq_eq_false_iff_ne.2 (by omega)
  have g2 : decide ((i : Int) + vs.length < l.length) = false := decide_eq_false (by omega)
  obtain ⟨arr, c2, hap, h1, h2, h3, h4⟩ := appendG_run (i := i) (S.at_ 0 rfl) (S.at_ 1 rfl) hgrow (by omega) hle hl hv hcur
  have HAP := Lib.hid (hap SlT)
  have HS := Lib.hid ((S.drew.alloc arr SpT).drop (.cons_cons _ (.cons _ (List.Sublist.refl _))))
  have HF := Lib.hid (And.intro h1 (And.intro h2 (And.intro h3 h4)))
  clear S hap h1 h2 h3 h4 hcur hsz
  go_enter Try.func88, Try.ntmps88
  go_wp2_with (at_builtin; refine wpList_append_eq rfl _ _ SlT SlT rfl _ _ rfl rfl HAP.out ?_)
  go_ret
  exact ⟨_, c2, arr, rfl, HS.out, HF.out.1, HF.out.2.1, HF.out.2.2.1, HF.out.2.2.2⟩
end Go.Proofs.Ytmdkmclngblldaa
