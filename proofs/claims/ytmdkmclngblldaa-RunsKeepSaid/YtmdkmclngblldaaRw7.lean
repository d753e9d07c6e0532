/- slices.Replace: walked, in place at the end. -/
import Derived.Test.YtmdkmclngblldaaRw6
set_option linter.unusedVariables false
set_option linter.unusedSimpArgs false
namespace Go.Proofs.Ytmdkmclngblldaa
open Go.RowKit Go.Und Go.Shelf
attribute [local go_sem] Oper.semAt_some
attribute [local go_sem ↓] Go.wp_at_zero Go.wp_at_succ

theorem fc_take_len (l : List (Int × Int)) {i : Nat} (h : i ≤ l.length) : (fc spc (l.take i)).length = i * 2 := by rw [fc_length spc_len, List.length_take]; omega
theorem fc_drop_len (l : List (Int × Int)) (j : Nat) : (fc spc (l.drop j)).length = (l.length - j) * 2 := by rw [fc_length spc_len, List.length_drop]
theorem cur_take {cur : Array Value} {l : List (Int × Int)} (hcur : cur.toList.take (l.length * 2) = fc spc l) {i : Nat} (h : i ≤ l.length) : cur.toList.take (i * 2) = fc spc (l.take i) := by
  rw [← fc_take spc_len, ← hcur, List.take_take]; congr 1; omega
set_option maxRecDepth 100000 in
set_option maxHeartbeats 4000000 in
/-- The last ones are put out, and there is room. -/
theorem replace_end (g cap : Nat) (cur : Array Value) (l : List (Int × Int)) (i j : Nat) (qv : Option Addr) (cv : Nat) (vs : List (Int × Int)) (w : World) (hij : i < j) (hj : j ≤ l.length) (hl : l.length ≤ 100000) (hv : vs.length ≤ 100000) (hle : l.length ≤ cap) (hcm : cap ≤ maxLen)
    (S : Sep (fpL [Ob.blk g SpT cur, srow qv cv vs]) w w [Ob.blk g SpT cur, srow qv cv vs]) (hsz : cur.size = cap * 2) (hcur : cur.toList.take (l.length * 2) = fc spc l) (hjn : j = l.length) (hroom : i + vs.length ≤ cap) :
    Calls Try.prog 88 #[.slice (some ⟨g, 0, none⟩) l.length cap, .int .i64 (i : Int), .int .i64 (j : Int), .slice qv vs.length cv] w fun e w' =>
      ∃ cur', e = .returned (.slice (some ⟨g, 0, none⟩) (i + vs.length) cap) ∧ Sep (fpL [Ob.blk g SpT cur, srow qv cv vs]) w w' [Ob.blk g SpT cur', srow qv cv vs] ∧ cur'.size = cap * 2 ∧ cur'.toList.take ((i + vs.length) * 2) = fc spc (l.take i ++ vs) := by
  subst hjn
  have hcl : cur.toList.length = cap * 2 := by rw [Array.length_toList, hsz]
  have k1 : ∀ W, (Instr.sliceAt SlT (.slice (some ⟨g, 0, none⟩) l.length cap) (some (.int .i64 (i : Int))) (some (.int .i64 (l.length : Int))) none).run Try.prog W = _ := cut_mid_run (g := g) (n := l.length) i l.length (by omega) (by omega)
  have k2 : ∀ W, (Instr.sliceAt SlT (.slice (some ⟨g, 0, none⟩) l.length cap) none (some (.int .i64 (i : Int))) none).run Try.prog W = _ := cut_to_run i (by omega)
  have g1 : ((i : Int) == l.length) = false := beq_eq_false_iff_ne.2 (by omega)
  have HAP := Lib.hid (appendV_run SlT (S.at_ 0 rfl) (S.at_ 1 rfl) hroom hsz)
  have hfit1 : i * 2 + (fc spc vs).length ≤ cur.toList.length := by rw [fc_length spc_len, hcl]; omega
  have S1 := S.setRow 0 rfl (spl cur.toList (i * 2) (fc spc vs)).toArray
  have hl1 : (spl cur.toList (i * 2) (fc spc vs)).length = cap * 2 := by rw [spl_len hfit1, hcl]
  have hfin1 : (spl cur.toList (i * 2) (fc spc vs)).take ((i + vs.length) * 2) = fc spc (l.take i ++ vs) := by
    have h := lay_up (c := cur.toList) (A := fc spc (l.take i)) (V := fc spc vs) (R := []) (by rw [fc_take_len l (by omega)]; exact cur_take hcur (by omega)) (by rw [fc_take_len l (by omega), fc_length spc_len, hcl]; simp; omega)
    rw [fc_take_len l (by omega), List.append_nil, ← fc_append, fc_length spc_len] at h
    rw [← h]
    have e : spl (spl cur.toList (i * 2) (fc spc vs)) (i * 2 + vs.length * 2) [] = spl cur.toList (i * 2) (fc spc vs) := by simp [spl]
    rw [e]
    congr 1
    simp; omega
  by_cases hsh : i + vs.length < l.length
  · have g2 : decide ((i : Int) + vs.length < l.length) = true := decide_eq_true (by omega)
    have k3 : ∀ W, (Instr.sliceAt SlT (.slice (some ⟨g, 0, none⟩) l.length cap) (some (.int .i64 ((i + vs.length : Nat) : Int))) none none).run Try.prog W = _ := cut_from_run (g := g) (i + vs.length) (by omega) (by omega)
    rw [Int.natCast_add] at k3
    have q1 : ∀ ty, (Builtin.clear_ #[SlT] ty #[.slice (some ⟨g, (i + vs.length) * 2, none⟩) (l.length - (i + vs.length)) (cap - (i + vs.length))]).run Try.prog (w.setRow g (spl cur.toList (i * 2) (fc spc vs)).toArray) = _ := fun ty => clear_run _ (S1.at_ 0 rfl) (fun _ => by simp [hl1]; omega)
    have S2 := S1.setRow 0 rfl (spl (spl cur.toList (i * 2) (fc spc vs)) ((i + vs.length) * 2) (zer (l.length - (i + vs.length)))).toArray
    have hfit2 : (i + vs.length) * 2 + (zer (l.length - (i + vs.length))).length ≤ (spl cur.toList (i * 2) (fc spc vs)).length := by rw [hl1, zer_len]; omega
    have HF := Lib.hid (show (spl (spl cur.toList (i * 2) (fc spc vs)) ((i + vs.length) * 2) (zer (l.length - (i + vs.length)))).take ((i + vs.length) * 2) = fc spc (l.take i ++ vs) by rw [spl_take hfit2 (Nat.le_refl _)]; exact hfin1)
    have HL := Lib.hid (show (spl (spl cur.toList (i * 2) (fc spc vs)) ((i + vs.length) * 2) (zer (l.length - (i + vs.length)))).toArray.size = cap * 2 by rw [List.size_toArray, spl_len hfit2]; exact hl1)
    have HS2 := Lib.hid S2
    clear S S1 S2 hfin1 hl1 hfit1 hfit2 hcl hcur hsz
    generalize spl (spl cur.toList (i * 2) (fc spc vs)) ((i + vs.length) * 2) (zer (l.length - (i + vs.length))) = cu2 at *
    generalize spl cur.toList (i * 2) (fc spc vs) = cu1 at *
    go_enter Try.func88, Try.ntmps88
    go_wp2_with (at_builtin; refine wpList_append_eq rfl _ _ SlT SlT rfl _ _ rfl rfl HAP.out ?_)
    go_ret
    exact ⟨_, rfl, HS2.out, HL.out, by simpa using HF.out⟩
  · have g2 : decide ((i : Int) + vs.length < l.length) = false := decide_eq_false (by omega)
    have HS1 := Lib.hid S1
    have HF := Lib.hid hfin1
    have HL := Lib.hid (show (spl cur.toList (i * 2) (fc spc vs)).toArray.size = cap * 2 by rw [List.size_toArray]; exact hl1)
    clear S S1 hfin1 hl1 hfit1 hcl hcur hsz
    generalize spl cur.toList (i * 2) (fc spc vs) = cu1 at *
    go_enter Try.func88, Try.ntmps88
    go_wp2_with (at_builtin; refine wpList_append_eq rfl _ _ SlT SlT rfl _ _ rfl rfl HAP.out ?_)
    go_ret
    exact ⟨_, rfl, HS1.out, HL.out, by simpa using HF.out⟩
end Go.Proofs.Ytmdkmclngblldaa
