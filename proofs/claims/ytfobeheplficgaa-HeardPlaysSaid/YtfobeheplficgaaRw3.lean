/- Sets of offsets: the iterator meets: walked. -/
import Derived.Test.YtfobeheplficgaaRw2
import Derived.Test.YtfobeheplficgaaSegs
import Derived.Test.YtfobeheplficgaaSegF
set_option linter.unusedVariables false
set_option linter.unusedSimpArgs false
namespace Go.Proofs.Ytfobeheplficgaa
open Go.RowKit Go.Und Go.Shelf
attribute [local go_sem] Oper.semAt_some

/-- What of the runs is within a span, run by run. -/
def mtL (l : List (Int × Int)) (s : Int × Int) : List (Int × Int) := ((l.drop (fstP (fun x => decide (s.1 < x.2)) l)).takeWhile fun x => decide (x.1 < s.2)).map fun x => meetS x s
/-- What the iterator over it reads. -/
structure MtAt (bb sb rp : Nat) (q : Option Addr) (cap : Nat) (l : List (Int × Int)) (s : Int × Int) (W : World) : Prop where
  rn : RnAt bb rp q cap l W
  s0 : W.cell? ⟨sb, 0, none⟩ = some (.int .i64 s.1)
  s1 : W.cell? ⟨sb, 1, none⟩ = some (.int .i64 s.2)
theorem MtAt.fr {bb sb rp : Nat} {q : Option Addr} {cap : Nat} {l : List (Int × Int)} {s : Int × Int} {W W' : World} (h : MtAt bb sb rp q cap l s W) (f : Fr None W W') : MtAt bb sb rp q cap l s W' :=
  ⟨h.rn.fr f, cell_frN f h.s0, cell_frN f h.s1⟩
theorem MtAt.frC {D : Nat → TypeId → Prop} {bb sb rp : Nat} {q : Option Addr} {cap : Nat} {l : List (Int × Int)} {s : Int × Int} {W W' : World} (h : MtAt bb sb rp q cap l s W) (f : FrC D W W') (hd : Off D bb rp q l) (hs : ∀ t, ¬ D sb t) : MtAt bb sb rp q cap l s W' :=
  ⟨h.rn.frC f hd, cell_frC f hs h.s0, cell_frC f hs h.s1⟩
theorem _root_.Go.Und.OkL.below_mono {l : List (Int × Int)} (h : OkL l) (k : Int) : l.Pairwise fun a b => decide (k < a.2) = true → decide (k < b.2) = true := h.rises.imp fun {a b} hab hp => by simp at hp ⊢; omega

set_option maxRecDepth 100000 in
set_option maxHeartbeats 4000000 in
theorem meets1_in (n yl bb sb rp : Nat) (q : Option Addr) (cap : Nat) (l : List (Int × Int)) (s : Int × Int) (ok : OkL l) (hl : l.length ≤ 1000000) (J Jx : List (Int × Int) → World → Prop) (W : World) (hJa : AbidesFrom W.heap.size J)
    (hY : ∀ pre x W1, J pre W1 → pre.length < (mtL l s).length → YieldAt Fence.wide (n - 1) Try.prog yl (encS x) W1 fun e W' =>
      (e = .returned (.bool true) ∧ J (pre ++ [x]) W' ∧ (MtAt bb sb rp q cap l s W1 → MtAt bb sb rp q cap l s W')) ∨ (e = .returned (.bool false) ∧ Jx (pre ++ [x]) W'))
    (hL : MtAt bb sb rp q cap l s W) (h0 : J [] W) :
    CallsIn Fence.wide n Try.prog 90 #[.func (.yield yl) #[] #[], .pointer (at0 bb), .pointer (at0 sb)] W fun e W' => (∃ v, e = .returned v) ∧
      ((∃ xs, xs = mtL l s ∧ J xs W') ∨ (∃ pre, pre <+: mtL l s ∧ Jx pre W')) := by
  have HY := Lib.hid hY; clear hY
  have HA := Lib.hid hJa; clear hJa
  have c0 := hL.rn.box
  have HFi := Lib.hid (first_any rp q cap l 91 #[.pointer (at0 sb)] (fun x => decide (s.1 < x.2)) W (enters_of Try.func91 (by kernel_rfl) rfl) hL.rn.set hL.rn.row (meets11_pred sb s.1 W hL.s0) hl (ok.below_mono s.1))
  have HL := Lib.hid hL
  have H0 := Lib.hid h0
  clear hL h0 ok
  refine callsIn_of_wp Try.func90 rfl trivial ?_ rfl
  simp only [Try.ntmps90, List.size_toArray, List.length_cons, List.length_nil, Nat.reduceAdd, Nat.reduceSub, Array.replicate_succ, Array.replicate_zero, List.push_toArray, List.append_toArray, List.nil_append, List.cons_append]
  gi_wp2_with fail
  first | refine ⟨trivial, (callsIn_wide.2 (HFi.out)).mono ?_⟩ | refine ⟨trivial, fun h => (by cases h), (callsIn_wide.2 (HFi.out)).mono ?_⟩
  rintro e w1 ⟨rfl, f1⟩
  have HL1 := Lib.hid (HL.out.fr f1)
  have HJ1 := Lib.hid (abides_fr HA.out f1 H0.out)
  have hlo := fstP_le (fun x => decide (s.1 < x.2)) l
  have hmt : ([] : List (Int × Int)) ++ ((l.drop (fstP (fun x => decide (s.1 < x.2)) l)).takeWhile fun x => decide (x.1 < s.2)).map (fun x => meetS x s) = mtL l s := rfl
  have HMT := Lib.hid hmt
  generalize fstP (fun x => decide (s.1 < x.2)) l = lo at *
  clear f1 HL H0 HFi c0 hmt
  gi_wp2_with fail
  gi_loopg [4] (l.length - lo) (fun r x wr => ∃ (k : Nat) (pre : List (Int × Int)), k + r = l.length ∧ x = .int .i64 k ∧ pre ++ ((l.drop k).takeWhile fun x => decide (x.1 < s.2)).map (fun x => meetS x s) = mtL l s ∧ J pre wr ∧ MtAt bb sb rp q cap l s wr)
  case atStart => exact ⟨lo, [], by omega, rfl, HMT.out, HJ1.out, HL1.out⟩
  case round =>
    clear HL1 HJ1 HMT hlo
    obtain ⟨k, pre, hr, rfl, hm, hJ, hL⟩ := hrel
    have c0 : wr.cell? ⟨bb, 0, none⟩ = some (.pointer (at0 rp)) := hL.rn.box
    have c1 : wr.cell? ⟨rp, 0, none⟩ = some (.slice q l.length cap) := hL.rn.set
    have s0 : wr.cell? ⟨sb, 0, none⟩ = some (.int .i64 s.1) := hL.s0
    have s1 : wr.cell? ⟨sb, 1, none⟩ = some (.int .i64 s.2) := hL.s1
    by_cases g : k < l.length
    · have ex := List.getElem?_eq_getElem g
      obtain ⟨b, off, rfl, hc⟩ := hL.rn.row.elem spc_len (by decide) ex
      have hdr : l.drop k = l[k] :: l.drop (k + 1) := List.drop_eq_getElem_cons g
      rw [hdr] at hm
      generalize l[k] = x at *
      obtain ⟨x1, x2⟩ := x
      have d1 : wr.cell? ⟨b, off + k * 2, none⟩ = some (.int .i64 x1) := hc 0 _ rfl
      have d2 : wr.cell? ⟨b, off + k * 2 + 1, none⟩ = some (.int .i64 x2) := hc 1 _ rfl
      have g1 : decide ((k : Int) < (l.length : Int)) = true := decide_eq_true (by omega)
      have HJ := Lib.hid hJ
      have HLk := Lib.hid hL
      clear hc ex hdr hJ hL
      by_cases hp : x1 < s.2
      · rw [List.takeWhile_cons, if_pos (by simpa using hp), List.map_cons] at hm
        have hlen : pre.length < (mtL l s).length := by rw [← hm]; simp
        have g2 : decide (x1 < s.2) = true := decide_eq_true hp
        have HM := Lib.hid hm
        clear hm
        gi_wp2_with fail
        refine wpIn_region_segs (by kernel_rfl) ?_
        refine seg_still 24 (by kernel_rfl) ?_
        simp only [List.drop_zero, List.take_succ_cons, List.take_zero, Nat.reduceSub]
        repeat (go_big_quiet_step (fail))
        refine wpQuiet_nil ?_
        refine seg_done (by rfl) (by kernel_rfl) ?_
        gi_wp2_with fail
        have HME := Lib.hid (fun W' => meet_any x1 x2 s.1 s.2 W')
        refine wpIn_region_segs (by kernel_rfl) ?_
        refine atOp_any (n := 0 + 1 + 1 + 1 + 1 + 1 + 1 + 1 + 1 + 1 + 1 + 1 + 1) (L := #[false, false, false, false, false, false, false, false, false, false, false, false]) (by simp) (by kernel_rfl) ?_
        refine wpAnyIn_take (i := 0) (v := ?_) rfl rfl (by kernel_rfl) (by kernel_rfl) (by kernel_rfl) (fun _ _ _ h => h) ⟨Or.inl ⟨by rfl, by (intro w; go_simp <;> with_reducible rfl)⟩, fun _ => rfl⟩ ?_
        refine atOp_back (s := 1) (by simp) (by kernel_rfl) ?_
        go_simp
        refine segF_still 9 (by kernel_rfl) ?_
        simp only [List.drop_succ_cons, List.drop_zero, List.take_succ_cons, List.take_zero]
        repeat (go_big_quiet_step (fail))
        refine wpQuiet_nil ?_
        refine seg_one (by kernel_rfl) fun K hK => ?_
        simp only [List.drop_succ_cons, List.drop_zero, List.take_succ_cons, List.take_zero]
        gi_wp2_with fail
        first | refine ⟨trivial, (callsIn_wide.2 (HME.out _)).mono ?_⟩ | refine ⟨trivial, fun h => (by cases h), (callsIn_wide.2 (HME.out _)).mono ?_⟩
        rintro e w3 ⟨rfl, f3⟩
        have F3 := ((Fr.refl None wr).drew.drew).trans f3
        have J3 := abides_fr HA.out F3 HJ.out
        have L3 := HLk.out.fr F3
        have hY2 := HY.out pre (meetS (x1, x2) (s.1, s.2)) w3 J3 hlen
        obtain ⟨fn, tmps, assign, body, hyd, hR⟩ := hY2
        have HR := Lib.hid hR
        have HL3 := Lib.hid L3
        clear hR F3 J3 L3 f3 HLk HJ HME c0 c1 s0 s1 d1 d2
        dsimp only
        gi_wp2_with fail
        refine seg_one (by kernel_rfl) fun K hK => ?_
        simp only [List.drop_succ_cons, List.drop_zero, List.take_succ_cons, List.take_zero]
        gi_wp2_with fail
        refine ⟨fun h => (by cases h), (roundIn_any rfl HR.out).mono ?_⟩
        rintro e W3 (⟨rfl, h1, h2⟩ | ⟨rfl, h1⟩)
        · have H3 := Lib.hid (And.intro h1 (h2 HL3.out))
          clear h1 h2 hyd HR HL3
          dsimp only
          gi_wp2_with fail
          refine seg_still 12 (by kernel_rfl) ?_
          simp only [List.drop_succ_cons, List.drop_zero, List.take_succ_cons, List.take_zero]
          repeat (go_big_quiet_step (fail))
          refine wpQuiet_nil ?_
          refine seg_done (by rfl) (by kernel_rfl) ?_
          gi_wp2_with fail
          go_roundg (gk - 1)
          case measure => omega
          case rel => exact ⟨k + 1, pre ++ [meetS (x1, x2) s], by omega, by go_num, by rw [← HM.out]; simp, H3.out.1, H3.out.2⟩
        · have H3 := Lib.hid h1
          clear h1 hyd HR HL3
          dsimp only
          gi_wp2_with fail
          refine seg_still 12 (by kernel_rfl) ?_
          simp only [List.drop_succ_cons, List.drop_zero, List.take_succ_cons, List.take_zero]
          repeat (go_big_quiet_step (fail))
          refine wpQuiet_nil ?_
          refine seg_done (by rfl) (by kernel_rfl) ?_
          gi_wp2_with fail
          refine bodyPost_ret (results_none rfl _ _ _) rfl ?_
          exact ⟨⟨_, rfl⟩, .inr ⟨_, ⟨_, by rw [← HM.out, List.append_assoc]; rfl⟩, H3.out⟩⟩
      · rw [List.takeWhile_cons, if_neg (by simpa using hp), List.map_nil, List.append_nil] at hm
        have g2 : decide (x1 < s.2) = false := decide_eq_false hp
        have HM := Lib.hid hm
        clear hm
        gi_wp2_with fail
        refine wpIn_region_segs (by kernel_rfl) ?_
        refine seg_still 24 (by kernel_rfl) ?_
        simp only [List.drop_zero, List.take_succ_cons, List.take_zero, Nat.reduceSub]
        repeat (go_big_quiet_step (fail))
        refine wpQuiet_nil ?_
        refine seg_done (by rfl) (by kernel_rfl) ?_
        gi_wp2_with fail
        go_end0
        exact ⟨⟨_, rfl⟩, .inl ⟨pre, HM.out, abides_drew HA.out HJ.out⟩⟩
    · have g1 : decide ((k : Int) < (l.length : Int)) = false := decide_eq_false (by omega)
      rw [List.drop_eq_nil_of_le (by omega), List.takeWhile_nil, List.map_nil, List.append_nil] at hm
      have HM := Lib.hid hm
      have HJ := Lib.hid hJ
      clear hm hJ hL
      gi_wp2_with fail
      refine wpIn_region_segs (by kernel_rfl) ?_
      refine seg_still 24 (by kernel_rfl) ?_
      simp only [List.drop_zero, List.take_succ_cons, List.take_zero, Nat.reduceSub]
      repeat (go_big_quiet_step (fail))
      refine wpQuiet_nil ?_
      refine seg_done (by rfl) (by kernel_rfl) ?_
      gi_wp2_with fail
      go_end0
      exact ⟨⟨_, rfl⟩, .inl ⟨pre, HM.out, abides_drew HA.out HJ.out⟩⟩
end Go.Proofs.Ytfobeheplficgaa
