/- slices.Replace: walked, where more comes than goes. -/
import Derived.Test.YtmdkmclngblldaaRwG
set_option linter.unusedVariables false
set_option linter.unusedSimpArgs false
namespace Go.Proofs.Ytmdkmclngblldaa
open Go.RowKit Go.Und Go.Shelf
attribute [local go_sem] Oper.semAt_some
attribute [local go_sem ↓] Go.wp_at_zero Go.wp_at_succ

set_option maxRecDepth 100000 in
set_option maxHeartbeats 4000000 in
theorem replace_grow (g cap : Nat) (cur : Array Value) (l : List (Int × Int)) (i j : Nat) (qv : Option Addr) (cv : Nat) (vs : List (Int × Int)) (w : World) (hij : i < j) (hj : j < l.length) (hl : l.length ≤ 100000) (hv : vs.length ≤ 100000) (hle : l.length ≤ cap) (hcm : cap ≤ maxLen)
    (S : Sep (fpL [Ob.blk g SpT cur, srow qv cv vs]) w w [Ob.blk g SpT cur, srow qv cv vs]) (hsz : cur.size = cap * 2) (hcur : cur.toList.take (l.length * 2) = fc spc l) (hgrow : cap < i + vs.length + (l.length - j)) :
    Calls Try.prog 88 #[.slice (some ⟨g, 0, none⟩) l.length cap, .int .i64 (i : Int), .int .i64 (j : Int), .slice qv vs.length cv] w fun e w' =>
      ∃ g2 c2 cur', e = .returned (.slice (some ⟨g2, 0, none⟩) (i + vs.length + (l.length - j)) c2) ∧ Sep (fpL [Ob.blk g SpT cur, srow qv cv vs]) w w' [Ob.blk g2 SpT cur', srow qv cv vs] ∧ i + vs.length + (l.length - j) ≤ c2 ∧ c2 ≤ maxLen ∧ cur'.size = c2 * 2 ∧ cur'.toList.take ((i + vs.length + (l.length - j)) * 2) = fc spc (l.take i ++ (vs ++ l.drop j)) := by
  obtain ⟨T, hT⟩ : ∃ T, T = i + vs.length + (l.length - j) := ⟨_, rfl⟩
  have hcl : cur.toList.length = cap * 2 := by rw [Array.length_toList, hsz]
  have hR : (fc spc (l.drop j)).length = (l.length - j) * 2 := fc_drop_len l j
  have hVl : (fc spc vs).length = vs.length * 2 := fc_length spc_len vs
  have hA : (fc spc (l.take i)).length = i * 2 := fc_take_len l (by omega)
  have hAt : cur.toList.take (i * 2) = fc spc (l.take i) := cur_take hcur (by omega)
  have hsrc : ∀ (n : Nat) v, (fc spc (l.drop j))[n]? = some v → cur.toList[j * 2 + n]? = some v := fun n v hn => by
    have hlt : n < (l.length - j) * 2 := by rw [← hR]; exact (List.getElem?_eq_some_iff.1 hn).1
    rw [← fc_drop spc_len, List.getElem?_drop, ← hcur, List.getElem?_take_of_lt (by omega)] at hn
    exact hn
  have k0 : ∀ W, (Instr.sliceAt SlT (.slice (some ⟨g, 0, none⟩) l.length cap) (some (.int .i64 (i : Int))) (some (.int .i64 (j : Int))) none).run Try.prog W = _ := cut_mid_run (g := g) (n := l.length) i j (by omega) (by omega)
  have k1 : ∀ W, (Instr.sliceAt SlT (.slice (some ⟨g, 0, none⟩) l.length cap) none (some (.int .i64 (i : Int))) none).run Try.prog W = _ := cut_to_run i (by omega)
  have k2 : ∀ W, (Instr.sliceAt SlT (.slice (some ⟨g, 0, none⟩) l.length cap) (some (.int .i64 (j : Int))) none none).run Try.prog W = _ := cut_from_run (g := g) j (by omega) (by omega)
  have e1 : IntKind.i64.wrap ((i : Int) + vs.length) = (i : Int) + vs.length := by simp [IntKind.wrap, IntKind.bits, IntKind.signed]; omega
  have e2 : IntKind.i64.wrap ((i : Int) + vs.length + ((l.length - j : Nat) : Int)) = T := by rw [show (i : Int) + vs.length + ((l.length - j : Nat) : Int) = T by omega]; simp [IntKind.wrap, IntKind.bits, IntKind.signed]; omega
  have g1 : ((i : Int) == j) = false := beq_eq_false_iff_ne.2 (by omega)
  have g2 : ((j : Int) == l.length) = false := beq_eq_false_iff_ne.2 (by omega)
  have g3 : decide ((cap : Int) < T) = true := decide_eq_true (by omega)
  have g3n : decide (cap < T) = true := decide_eq_true (by omega)
  have e5 : IntKind.i64.wrap ((T : Int) - i) = (T : Int) - i := by simp [IntKind.wrap, IntKind.bits, IntKind.signed]; omega
  have hTl : T - (i + vs.length) = l.length - j := by omega
  have hiT : i < T := by omega
  rw [← hT]
  have HS := Lib.hid S
  have HN := Lib.hid (And.intro hcur (And.intro hA (And.intro hR (And.intro hVl hsrc))))
  have HT := Lib.hid hT
  have HG := Lib.hid (show cap < T by omega)
  clear S hcur hA hAt hR hVl hsrc hcl hsz hT hgrow
  go_enter Try.func88, Try.ntmps88
  go_wp2_with fail
  go_quiet (fail)
  have SV := HS.out.drewN nq
  generalize w.drewN nq = V at *
  obtain ⟨arr, c2, hap, hc2, hc2m, harr, htk⟩ := grow_run g cap cur l i (T - i) V (SV.at_ 0 rfl) (by omega) (by have := HG.out; omega) hle (by omega) (by have := HT.out; omega) HN.out.1
  rw [show i + (T - i) = T by omega] at hap hc2
  rw [show ((T - i : Nat) : Int) = (T : Int) - i by omega] at hap
  have HAP := Lib.hid (hap SlT)
  have hcl : arr.toList.length = c2 * 2 := by rw [Array.length_toList, harr]
  have hR := HN.out.2.2.1
  have hVl := HN.out.2.2.2.1
  have hfit1 : i * 2 + (fc spc vs).length ≤ arr.toList.length := by rw [hVl, hcl]; omega
  have hfit2 : (i + vs.length) * 2 + (fc spc (l.drop j)).length ≤ (spl arr.toList (i * 2) (fc spc vs)).length := by rw [spl_len hfit1, hR, hcl]; omega
  have S1 : Sep (fpL [Ob.blk g SpT cur, srow qv cv vs]) w (V.alloc (.cells arr SpT)).drew [Ob.blk V.heap.size SpT arr, Ob.blk g SpT cur, srow qv cv vs] := (SV.alloc arr SpT).drew
  have S2 := S1.setRow 0 rfl (spl arr.toList (i * 2) (fc spc vs)).toArray
  have S3 := S2.drew.setRow 0 rfl (spl (spl arr.toList (i * 2) (fc spc vs)) ((i + vs.length) * 2) (fc spc (l.drop j))).toArray
  have k4 : ∀ W, (Instr.sliceAt SlT (.slice (some ⟨V.heap.size, 0, none⟩) T c2) (some (.int .i64 (i : Int))) none none).run Try.prog W = _ := cut_from_run (g := V.heap.size) i (by omega) (by omega)
  have k5 : ∀ W, (Instr.sliceAt SlT (.slice (some ⟨V.heap.size, 0, none⟩) T c2) (some (.int .i64 ((i + vs.length : Nat) : Int))) none none).run Try.prog W = _ := cut_from_run (g := V.heap.size) (i + vs.length) (by omega) (by omega)
  rw [Int.natCast_add, hTl] at k5
  have r1 : ∀ ty, (Builtin.copy_ #[SlT, SlT] ty #[.slice (some ⟨V.heap.size, i * 2, none⟩) (T - i) (c2 - i), .slice qv vs.length cv]).run Try.prog (V.alloc (.cells arr SpT)).drew = _ := fun ty => copyV_run ty (S1.at_ 0 rfl) (S1.at_ 2 rfl) (by omega) (by rw [harr]; omega)
  have q2 : ∀ (W : World) ty, Blk W V.heap.size SpT (spl arr.toList (i * 2) (fc spc vs)).toArray → Blk W g SpT cur → (Builtin.copy_ #[SlT, SlT] ty #[.slice (some ⟨V.heap.size, (i + vs.length) * 2, none⟩) (l.length - j) (c2 - (i + vs.length)), .slice (some ⟨g, j * 2, none⟩) (l.length - j) (cap - j)]).run Try.prog W = .ok (goInt (Nat.min (l.length - j) (l.length - j))) (W.setRow V.heap.size (spl (spl arr.toList (i * 2) (fc spc vs)) ((i + vs.length) * 2) (fc spc (l.drop j))).toArray) := fun W ty hb ho => by
    have := run_copy_rowK (P := Try.prog) W SlT SlT ty SpT 2 V.heap.size ((i + vs.length) * 2) (l.length - j) (c2 - (i + vs.length)) ⟨g, j * 2, none⟩ (l.length - j) (cap - j) _ SpT (fc spc (l.drop j)) Try.underlying22 spSize hb (by rw [hR]; simp) (fun n v hn => by
      have h1 := HN.out.2.2.2.2 n v hn
      rw [add_at, ho.cell]
      simpa using h1) (by simpa using hfit2) (fc_one spc_one _)
    simpa using this
  have hnew : (spl (spl arr.toList (i * 2) (fc spc vs)) ((i + vs.length) * 2) (fc spc (l.drop j))).take (T * 2) = fc spc (l.take i ++ (vs ++ l.drop j)) := by
    have hA := HN.out.2.1
    have h := lay_up (c := arr.toList) (A := fc spc (l.take i)) (V := fc spc vs) (R := fc spc (l.drop j)) (by rw [hA]; exact htk) (by rw [hA, hR, hVl, hcl]; have := HT.out; omega)
    rw [hA, hR, hVl, show i * 2 + vs.length * 2 = (i + vs.length) * 2 by omega, show (i + vs.length) * 2 + (l.length - j) * 2 = T * 2 by have := HT.out; omega] at h
    rw [h, fc_append, fc_append]
  have HFI := Lib.hid hnew
  have HSZ := Lib.hid (show (spl (spl arr.toList (i * 2) (fc spc vs)) ((i + vs.length) * 2) (fc spc (l.drop j))).toArray.size = c2 * 2 by rw [List.size_toArray, spl_len hfit2, spl_len hfit1, hcl])
  have HS3 := Lib.hid (S3.drop (.cons_cons _ (.cons _ (List.Sublist.refl _))))
  have HB := Lib.hid (And.intro (S2.drew.at_ 0 rfl) (S2.drew.at_ 1 rfl))
  have HQ2 := Lib.hid q2
  clear SV S1 S2 S3 hap harr htk hcl hfit1 hfit2 q2 hnew hR hVl HS HN
  generalize spl (spl arr.toList (i * 2) (fc spc vs)) ((i + vs.length) * 2) (fc spc (l.drop j)) = cu2 at *
  generalize spl arr.toList (i * 2) (fc spc vs) = cu1 at *
  go_wp2_with (at_builtin; refine wpList_append_eq rfl _ _ SlT IntT rfl _ _ rfl rfl HAP.out ?_)
  go_region_law (refine step_copy_eq rfl _ _ SlT SlT rfl _ _ (by simp [Act.eval, Act.put]) (by simp [Act.eval, Act.put]) (HQ2.out (((V.alloc (.cells arr SpT)).drew.setRow V.heap.size cu1.toArray).drew) _ HB.out.1 HB.out.2) ?_)
  all_goals
    go_wp2_with fail
    go_ret
    exact ⟨_, c2, _, rfl, HS3.out, hc2, hc2m, HSZ.out, by simpa using HFI.out⟩

set_option maxRecDepth 100000 in
set_option maxHeartbeats 4000000 in
theorem replace_more (g cap : Nat) (cur : Array Value) (l : List (Int × Int)) (i j : Nat) (qv : Option Addr) (cv : Nat) (vs : List (Int × Int)) (w : World) (hij : i < j) (hj : j < l.length) (hl : l.length ≤ 100000) (hv : vs.length ≤ 100000) (hle : l.length ≤ cap) (hcm : cap ≤ maxLen)
    (S : Sep (fpL [Ob.blk g SpT cur, srow qv cv vs]) w w [Ob.blk g SpT cur, srow qv cv vs]) (hsz : cur.size = cap * 2) (hcur : cur.toList.take (l.length * 2) = fc spc l) (hmore : j < i + vs.length) (hroom : i + vs.length + (l.length - j) ≤ cap) :
    Calls Try.prog 88 #[.slice (some ⟨g, 0, none⟩) l.length cap, .int .i64 (i : Int), .int .i64 (j : Int), .slice qv vs.length cv] w fun e w' =>
      ∃ cur', e = .returned (.slice (some ⟨g, 0, none⟩) (i + vs.length + (l.length - j)) cap) ∧ Sep (fpL [Ob.blk g SpT cur, srow qv cv vs]) w w' [Ob.blk g SpT cur', srow qv cv vs] ∧ cur'.size = cap * 2 ∧ cur'.toList.take ((i + vs.length + (l.length - j)) * 2) = fc spc (l.take i ++ (vs ++ l.drop j)) := by
  obtain ⟨T, hT⟩ : ∃ T, T = i + vs.length + (l.length - j) := ⟨_, rfl⟩
  have hcl : cur.toList.length = cap * 2 := by rw [Array.length_toList, hsz]
  have hR : (fc spc (l.drop j)).length = (l.length - j) * 2 := fc_drop_len l j
  have hVl : (fc spc vs).length = vs.length * 2 := fc_length spc_len vs
  have hA : (fc spc (l.take i)).length = i * 2 := fc_take_len l (by omega)
  have hAt : cur.toList.take (i * 2) = fc spc (l.take i) := cur_take hcur (by omega)
  have hsrc : ∀ (n : Nat) v, (fc spc (l.drop j))[n]? = some v → cur.toList[j * 2 + n]? = some v := fun n v hn => by
    have hlt : n < (l.length - j) * 2 := by rw [← hR]; exact (List.getElem?_eq_some_iff.1 hn).1
    rw [← fc_drop spc_len, List.getElem?_drop, ← hcur, List.getElem?_take_of_lt (by omega)] at hn
    exact hn
  have k0 : ∀ W, (Instr.sliceAt SlT (.slice (some ⟨g, 0, none⟩) l.length cap) (some (.int .i64 (i : Int))) (some (.int .i64 (j : Int))) none).run Try.prog W = _ := cut_mid_run (g := g) (n := l.length) i j (by omega) (by omega)
  have k1 : ∀ W, (Instr.sliceAt SlT (.slice (some ⟨g, 0, none⟩) l.length cap) none (some (.int .i64 (i : Int))) none).run Try.prog W = _ := cut_to_run i (by omega)
  have k2 : ∀ W, (Instr.sliceAt SlT (.slice (some ⟨g, 0, none⟩) l.length cap) (some (.int .i64 (j : Int))) none none).run Try.prog W = _ := cut_from_run (g := g) j (by omega) (by omega)
  have e1 : IntKind.i64.wrap ((i : Int) + vs.length) = (i : Int) + vs.length := by simp [IntKind.wrap, IntKind.bits, IntKind.signed]; omega
  have e2 : IntKind.i64.wrap ((i : Int) + vs.length + ((l.length - j : Nat) : Int)) = T := by rw [show (i : Int) + vs.length + ((l.length - j : Nat) : Int) = T by omega]; simp [IntKind.wrap, IntKind.bits, IntKind.signed]; omega
  have g1 : ((i : Int) == j) = false := beq_eq_false_iff_ne.2 (by omega)
  have g2 : ((j : Int) == l.length) = false := beq_eq_false_iff_ne.2 (by omega)
  have g3 : decide ((cap : Int) < T) = false := decide_eq_false (by omega)
  have g3n : decide (cap < T) = false := decide_eq_false (by omega)
  have g4 : decide ((i : Int) + vs.length ≤ j) = false := decide_eq_false (by omega)
  have k3 : ∀ W, (Instr.sliceAt SlT (.slice (some ⟨g, 0, none⟩) l.length cap) none (some (.int .i64 (T : Int))) none).run Try.prog W = _ := cut_to_run T (by omega)
  have k4 : ∀ W, (Instr.sliceAt SlT (.slice (some ⟨g, 0, none⟩) T cap) (some (.int .i64 (i : Int))) none none).run Try.prog W = _ := cut_from_run (g := g) i (by omega) (by omega)
  have k5 : ∀ W, (Instr.sliceAt SlT (.slice (some ⟨g, 0, none⟩) T cap) (some (.int .i64 ((i + vs.length : Nat) : Int))) none none).run Try.prog W = _ := cut_from_run (g := g) (i + vs.length) (by omega) (by omega)
  have hTl : T - (i + vs.length) = l.length - j := by omega
  rw [Int.natCast_add, hTl] at k5
  have hfit1 : (i + vs.length) * 2 + (fc spc (l.drop j)).length ≤ cur.toList.length := by rw [hR, hcl]; omega
  have hfit2 : i * 2 + (fc spc vs).length ≤ (spl cur.toList ((i + vs.length) * 2) (fc spc (l.drop j))).length := by rw [spl_len hfit1, hVl, hcl]; omega
  rw [← hT]
  have hnew : (spl (spl cur.toList ((i + vs.length) * 2) (fc spc (l.drop j))) (i * 2) (fc spc vs)).take (T * 2) = fc spc (l.take i ++ (vs ++ l.drop j)) := by
    have h := lay_down (c := cur.toList) (A := fc spc (l.take i)) (V := fc spc vs) (R := fc spc (l.drop j)) (by rw [hA]; exact hAt) (by rw [hA, hR, hVl, hcl]; omega)
    rw [hA, hR, hVl, show i * 2 + vs.length * 2 = (i + vs.length) * 2 by omega, show (i + vs.length) * 2 + (l.length - j) * 2 = T * 2 by omega] at h
    rw [h, fc_append, fc_append]
  have q2 : ∀ (W : World) ty, Blk W g SpT cur → (Builtin.copy_ #[SlT, SlT] ty #[.slice (some ⟨g, (i + vs.length) * 2, none⟩) (l.length - j) (cap - (i + vs.length)), .slice (some ⟨g, j * 2, none⟩) (l.length - j) (cap - j)]).run Try.prog W = .ok (goInt (Nat.min (l.length - j) (l.length - j))) (W.setRow g (spl cur.toList ((i + vs.length) * 2) (fc spc (l.drop j))).toArray) := fun W ty hb => by
    have := run_copy_rowK (P := Try.prog) W SlT SlT ty SpT 2 g ((i + vs.length) * 2) (l.length - j) (cap - (i + vs.length)) ⟨g, j * 2, none⟩ (l.length - j) (cap - j) _ SpT (fc spc (l.drop j)) Try.underlying22 spSize hb (by rw [hR]; simp) (fun n v hn => by
      have h1 := hsrc n v hn
      rw [add_at, hb.cell]
      simpa using h1) (by simpa using hfit1) (fc_one spc_one _)
    simpa using this
  have q1 : ∀ (W : World) ty, Blk W g SpT (spl cur.toList ((i + vs.length) * 2) (fc spc (l.drop j))).toArray → (srow qv cv vs).ok W → (Builtin.copy_ #[SlT, SlT] ty #[.slice (some ⟨g, i * 2, none⟩) (T - i) (cap - i), .slice qv vs.length cv]).run Try.prog W = .ok (goInt vs.length) (W.setRow g (spl (spl cur.toList ((i + vs.length) * 2) (fc spc (l.drop j))) (i * 2) (fc spc vs)).toArray) := fun W ty hb ho => by
    have := copyV_run (o := i * 2) (dLen := T - i) (dCap := cap - i) ty hb ho (by omega) (by rw [List.size_toArray, spl_len hfit1, hcl]; omega)
    simpa using this
  have HLast := Lib.hid (And.intro (show (spl (spl cur.toList ((i + vs.length) * 2) (fc spc (l.drop j))) (i * 2) (fc spc vs)).length = cap * 2 by rw [spl_len hfit2, spl_len hfit1, hcl]) hnew)
  obtain ⟨gv, cu, rfl, hbv, hlev, _, hszv, htkv⟩ := row_parts (S.at_ 1 rfl) (by omega)
  have hne : g ≠ gv := fun e => S.ne 0 1 (by decide) rfl rfl g rfl (by rw [e]; rfl)
  have hov := fun (W : World) (hb : Blk W g SpT cur) (hbv : Blk W gv SpT cu) (la ca : Nat) => overlaps_run (la := la) (ca := ca) (oa := (i + vs.length) * 2) (ob := 0) (lb := vs.length) (cb := cv) (W := W) hne hb hbv (by rw [hszv]; omega)
  have HQ1 := Lib.hid q1
  have HQ2 := Lib.hid q2
  have HOV := Lib.hid hov
  have HBV := Lib.hid hbv
  have HS := Lib.hid S
  have HT := Lib.hid hT
  clear hT S q1 q2 hov hnew hfit1 hfit2 hTl hsrc hAt hA hVl hR hcl hcur hsz hbv htkv
  generalize spl (spl cur.toList ((i + vs.length) * 2) (fc spc (l.drop j))) (i * 2) (fc spc vs) = cu2 at *
  generalize spl cur.toList ((i + vs.length) * 2) (fc spc (l.drop j)) = cu1 at *
  go_enter Try.func88, Try.ntmps88
  go_wp2_with fail
  go_quiet (fail)
  have SV := HS.out.drewN nq
  have hbv : Blk (w.drewN nq) gv SpT cu := by simpa [Blk] using HBV.out
  generalize w.drewN nq = V at *
  have hov := HOV.out V (SV.at_ 0 rfl) hbv
  have S1 := SV.drew.setRow 0 rfl cu1.toArray
  have r1 := fun ty => HQ1.out _ ty (S1.at_ 0 rfl) (S1.at_ 1 rfl)
  have HS2 := Lib.hid (S1.setRow 0 rfl cu2.toArray)
  have HB0 := Lib.hid (SV.drew.at_ 0 rfl)
  clear SV S1 HS hbv
  go_wp2_with (simp only [hov])
  go_region_law (refine step_copy_eq rfl _ _ SlT SlT rfl _ _ (by simp [Act.eval, Act.put]) (by simp [Act.eval, Act.put]) (HQ2.out V.drew _ HB0.out) ?_)
  all_goals
    go_wp2_with fail
    go_ret
    exact ⟨_, rfl, HS2.out, by rw [List.size_toArray]; exact HLast.out.1, by simpa using HLast.out.2⟩
end Go.Proofs.Ytmdkmclngblldaa
