/- slices.Replace: walked, within. -/
import Derived.Test.YtmdkmclngblldaaRw8
import Derived.BigQuiet
set_option linter.unusedVariables false
set_option linter.unusedSimpArgs false
namespace Go.Proofs.Ytmdkmclngblldaa
open Go.RowKit Go.Und Go.Shelf
attribute [local go_sem] Oper.semAt_some
attribute [local go_sem ↓] Go.wp_at_zero Go.wp_at_succ

set_option maxRecDepth 100000 in
set_option maxHeartbeats 4000000 in
/-- No more than went out. -/
theorem replace_less (g cap : Nat) (cur : Array Value) (l : List (Int × Int)) (i j : Nat) (qv : Option Addr) (cv : Nat) (vs : List (Int × Int)) (w : World) (hij : i < j) (hj : j < l.length) (hl : l.length ≤ 100000) (hv : vs.length ≤ 100000) (hle : l.length ≤ cap) (hcm : cap ≤ maxLen)
    (S : Sep (fpL [Ob.blk g SpT cur, srow qv cv vs]) w w [Ob.blk g SpT cur, srow qv cv vs]) (hsz : cur.size = cap * 2) (hcur : cur.toList.take (l.length * 2) = fc spc l) (hless : i + vs.length ≤ j) :
    Calls Try.prog 88 #[.slice (some ⟨g, 0, none⟩) l.length cap, .int .i64 (i : Int), .int .i64 (j : Int), .slice qv vs.length cv] w fun e w' =>
      ∃ cur', e = .returned (.slice (some ⟨g, 0, none⟩) (i + vs.length + (l.length - j)) cap) ∧ Sep (fpL [Ob.blk g SpT cur, srow qv cv vs]) w w' [Ob.blk g SpT cur', srow qv cv vs] ∧ cur'.size = cap * 2 ∧ cur'.toList.take ((i + vs.length + (l.length - j)) * 2) = fc spc (l.take i ++ (vs ++ l.drop j)) := by
  obtain ⟨T, hT⟩ : ∃ T, T = i + vs.length + (l.length - j) := ⟨_, rfl⟩
  have hcl : cur.toList.length = cap * 2 := by rw [Array.length_toList, hsz]
  have hR : (fc spc (l.drop j)).length = (l.length - j) * 2 := fc_drop_len l j
  have hVl : (fc spc vs).length = vs.length * 2 := fc_length spc_len vs
  have hA : (fc spc (l.take i)).length = i * 2 := fc_take_len l (by omega)
  have hAt : cur.toList.take (i * 2) = fc spc (l.take i) := cur_take hcur (by omega)
  have hsrc : ∀ (n : Nat) v, (fc spc (l.drop j))[n]? = some v → cur.toList[j * 2 + n]? = some v := fun n v hn => by
    have hlt : n < (l.length - j) * 2 := by rw [← hR]; exact (List.getElem?_eq_some_iff.1 hn).1
    rw [← fc_drop spc_len, List.getElem?_drop, ← hcur, List.getElem?_take_of_lt (by omega)] at hn
    exact hn
  have k0 : ∀ W, (Instr.sliceAt SlT (.slice (some ⟨g, 0, none⟩) l.length cap) (some (.int .i64 (i : Int))) (some (.int .i64 (j : Int))) none).run Try.prog W = _ := cut_mid_run (g := g) (n := l.length) i j (by omega) (by omega)
  have k1 : ∀ W, (Instr.sliceAt SlT (.slice (some ⟨g, 0, none⟩) l.length cap) none (some (.int .i64 (i : Int))) none).run Try.prog W = _ := cut_to_run i (by omega)
  have k2 : ∀ W, (Instr.sliceAt SlT (.slice (some ⟨g, 0, none⟩) l.length cap) (some (.int .i64 (j : Int))) none none).run Try.prog W = _ := cut_from_run (g := g) j (by omega) (by omega)
  have e1 : IntKind.i64.wrap ((i : Int) + vs.length) = (i : Int) + vs.length := by simp [IntKind.wrap, IntKind.bits, IntKind.signed]; omega
  have e2 : IntKind.i64.wrap ((i : Int) + vs.length + ((l.length - j : Nat) : Int)) = T := by rw [show (i : Int) + vs.length + ((l.length - j : Nat) : Int) = T by omega]; simp [IntKind.wrap, IntKind.bits, IntKind.signed]; omega
  have g1 : ((i : Int) == j) = false := beq_eq_false_iff_ne.2 (by omega)
  have g2 : ((j : Int) == l.length) = false := beq_eq_false_iff_ne.2 (by omega)
  have g3 : decide ((cap : Int) < T) = false := decide_eq_false (by omega)
  have g3n : decide (cap < T) = false := decide_eq_false (by omega)
  have g4 : decide ((i : Int) + vs.length ≤ j) = true := decide_eq_true (by omega)
  have k3 : ∀ W, (Instr.sliceAt SlT (.slice (some ⟨g, 0, none⟩) l.length cap) none (some (.int .i64 (T : Int))) none).run Try.prog W = _ := cut_to_run T (by omega)
  have k4 : ∀ W, (Instr.sliceAt SlT (.slice (some ⟨g, 0, none⟩) T cap) (some (.int .i64 (i : Int))) none none).run Try.prog W = _ := cut_from_run (g := g) i (by omega) (by omega)
  have k5 : ∀ W, (Instr.sliceAt SlT (.slice (some ⟨g, 0, none⟩) T cap) (some (.int .i64 ((i + vs.length : Nat) : Int))) none none).run Try.prog W = _ := cut_from_run (g := g) (i + vs.length) (by omega) (by omega)
  rw [Int.natCast_add] at k5
  have k6 : ∀ W, (Instr.sliceAt SlT (.slice (some ⟨g, 0, none⟩) l.length cap) (some (.int .i64 (T : Int))) none none).run Try.prog W = _ := cut_any_run (g := g) T (by omega)
  have hTl : T - (i + vs.length) = l.length - j := by omega
  rw [hTl] at k5
  have hfit1 : i * 2 + (fc spc vs).length ≤ cur.toList.length := by rw [hVl, hcl]; omega
  have hfit2 : (i + vs.length) * 2 + (fc spc (l.drop j)).length ≤ (spl cur.toList (i * 2) (fc spc vs)).length := by rw [spl_len hfit1, hR, hcl]; omega
  have hfit3 : 0 < l.length - T → cutO cap T + (l.length - T) * 2 ≤ cap * 2 := fun h => by rw [cutO_lt (by omega)]; omega
  rw [← hT]
  have hnew : (spl (spl cur.toList (i * 2) (fc spc vs)) ((i + vs.length) * 2) (fc spc (l.drop j))).take (T * 2) = fc spc (l.take i ++ (vs ++ l.drop j)) := by
    have h := lay_up (c := cur.toList) (A := fc spc (l.take i)) (V := fc spc vs) (R := fc spc (l.drop j)) (by rw [hA]; exact hAt) (by rw [hA, hR, hVl, hcl]; omega)
    rw [hA, hR, hVl, show i * 2 + vs.length * 2 = (i + vs.length) * 2 by omega, show (i + vs.length) * 2 + (l.length - j) * 2 = T * 2 by omega] at h
    rw [h, fc_append, fc_append]
  obtain ⟨cz, hcz⟩ : ∃ cz, cz = (if 0 < l.length - T then spl (spl (spl cur.toList (i * 2) (fc spc vs)) ((i + vs.length) * 2) (fc spc (l.drop j))) (cutO cap T) (zer (l.length - T)) else spl (spl cur.toList (i * 2) (fc spc vs)) ((i + vs.length) * 2) (fc spc (l.drop j))) := ⟨_, rfl⟩
  have q1 : ∀ (W : World) ty, Blk W g SpT cur → (srow qv cv vs).ok W → (Builtin.copy_ #[SlT, SlT] ty #[.slice (some ⟨g, i * 2, none⟩) (T - i) (cap - i), .slice qv vs.length cv]).run Try.prog W = .ok (goInt vs.length) (W.setRow g (spl cur.toList (i * 2) (fc spc vs)).toArray) := fun W ty hb ho => copyV_run ty hb ho (by omega) (by omega)
  have q2 : ∀ (W : World) ty, Blk W g SpT (spl cur.toList (i * 2) (fc spc vs)).toArray → (Builtin.copy_ #[SlT, SlT] ty #[.slice (some ⟨g, (i + vs.length) * 2, none⟩) (l.length - j) (cap - (i + vs.length)), .slice (some ⟨g, j * 2, none⟩) (l.length - j) (cap - j)]).run Try.prog W = .ok (goInt (Nat.min (l.length - j) (l.length - j))) (W.setRow g (spl (spl cur.toList (i * 2) (fc spc vs)) ((i + vs.length) * 2) (fc spc (l.drop j))).toArray) := fun W ty hb => by
    have := run_copy_rowK (P := Try.prog) W SlT SlT ty SpT 2 g ((i + vs.length) * 2) (l.length - j) (cap - (i + vs.length)) ⟨g, j * 2, none⟩ (l.length - j) (cap - j) _ SpT (fc spc (l.drop j)) Try.underlying22 spSize hb (by rw [hR]; simp) (fun n v hn => by
      have h1 := hsrc n v hn
      rw [add_at, hb.cell]
      have : (spl cur.toList (i * 2) (fc spc vs))[j * 2 + n]? = some v := by rw [spl_get hfit1, if_neg (by omega), if_neg (by rw [hVl]; omega)]; exact h1
      simpa using this) (by simpa using hfit2) (fc_one spc_one _)
    simpa using this
  have hsz2 : (spl (spl cur.toList (i * 2) (fc spc vs)) ((i + vs.length) * 2) (fc spc (l.drop j))).toArray.size = cap * 2 := by rw [List.size_toArray, spl_len hfit2, spl_len hfit1, hcl]
  have q3 : ∀ (W : World) ty, Blk W g SpT (spl (spl cur.toList (i * 2) (fc spc vs)) ((i + vs.length) * 2) (fc spc (l.drop j))).toArray → (Builtin.clear_ #[SlT] ty #[.slice (some ⟨g, cutO cap T, none⟩) (l.length - T) (cap - T)]).run Try.prog W = .ok (.tuple #[]) (W.setRow g (spl (spl (spl cur.toList (i * 2) (fc spc vs)) ((i + vs.length) * 2) (fc spc (l.drop j))) (cutO cap T) (zer (l.length - T))).toArray) := fun W ty hb => clear_run ty hb (fun h => Nat.le_trans (hfit3 h) (Nat.le_of_eq hsz2.symm))
  have hlast : (spl (spl (spl cur.toList (i * 2) (fc spc vs)) ((i + vs.length) * 2) (fc spc (l.drop j))) (cutO cap T) (zer (l.length - T))).length = cap * 2 ∧ (spl (spl (spl cur.toList (i * 2) (fc spc vs)) ((i + vs.length) * 2) (fc spc (l.drop j))) (cutO cap T) (zer (l.length - T))).take (T * 2) = fc spc (l.take i ++ (vs ++ l.drop j)) := by
    rcases Nat.eq_zero_or_pos (l.length - T) with h0 | h0
    · rw [h0]
      have : spl (spl (spl cur.toList (i * 2) (fc spc vs)) ((i + vs.length) * 2) (fc spc (l.drop j))) (cutO cap T) (zer 0) = spl (spl cur.toList (i * 2) (fc spc vs)) ((i + vs.length) * 2) (fc spc (l.drop j)) := by rw [show zer 0 = [] by simp [zer, Builtin.zeroCells]]; simp [spl]
      rw [this]
      exact ⟨by rw [spl_len hfit2, spl_len hfit1, hcl], hnew⟩
    · have hf : cutO cap T + (zer (l.length - T)).length ≤ (spl (spl cur.toList (i * 2) (fc spc vs)) ((i + vs.length) * 2) (fc spc (l.drop j))).length := by rw [zer_len, spl_len hfit2, spl_len hfit1, hcl]; exact hfit3 h0
      exact ⟨by rw [spl_len hf, spl_len hfit2, spl_len hfit1, hcl], by rw [spl_take hf (by rw [cutO_lt (by omega)]; exact Nat.le_refl _)]; exact hnew⟩
  have HLast := Lib.hid hlast
  have HQ1 := Lib.hid q1
  have HQ2 := Lib.hid q2
  have HQ3 := Lib.hid q3
  have HS := Lib.hid S
  have HT := Lib.hid hT
  clear hT
  clear S hlast hsz2 q1 q2 q3 hcz hnew hfit1 hfit2 hfit3 hTl hsrc hAt hA hVl hR hcl hcur hsz cz
  generalize hz3 : spl (spl (spl cur.toList (i * 2) (fc spc vs)) ((i + vs.length) * 2) (fc spc (l.drop j))) (cutO cap T) (zer (l.length - T)) = cu3 at *
  generalize hz2 : spl (spl cur.toList (i * 2) (fc spc vs)) ((i + vs.length) * 2) (fc spc (l.drop j)) = cu2 at *
  generalize hz1 : spl cur.toList (i * 2) (fc spc vs) = cu1 at *
  clear hz1 hz2 hz3
  go_enter Try.func88, Try.ntmps88
  go_wp2_with fail
  go_quiet (fail)
  have SV := HS.out.drewN nq
  generalize w.drewN nq = V at *
  have r1 := fun ty => HQ1.out V ty (SV.at_ 0 rfl) (SV.at_ 1 rfl)
  have S1 := SV.setRow 0 rfl cu1.toArray
  have S2 := S1.drew.setRow 0 rfl cu2.toArray
  have r3 := fun ty => HQ3.out _ ty (S2.at_ 0 rfl)
  have HS3 := Lib.hid (S2.setRow 0 rfl cu3.toArray)
  have HB2 := Lib.hid (S1.drew.at_ 0 rfl)
  clear SV S1 S2 HS
  go_wp2_with fail
  go_region_law (refine step_copy_eq rfl _ _ SlT SlT rfl _ _ (by simp [Act.eval, Act.put]) (by simp [Act.eval, Act.put]) (HQ2.out ((V.setRow g cu1.toArray).drew) _ HB2.out) ?_)
  all_goals
    go_wp2_with fail
    go_ret
    exact ⟨_, rfl, HS3.out, by rw [List.size_toArray]; exact HLast.out.1, by simpa using HLast.out.2⟩
end Go.Proofs.Ytmdkmclngblldaa
