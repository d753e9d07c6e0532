/- Segments: form, walked. -/
import Derived.Test.YthkhfijfgpccbaaSe5
import Derived.Test.YthkhfijfgpccbaaOc1
import Derived.Test.YthkhfijfgpccbaaOn9
set_option linter.unusedVariables false
set_option linter.unusedSimpArgs false
namespace Go.Proofs.Ythkhfijfgpccbaa
open Go.RowKit Go.Und Go.Shelf
attribute [local go_sem] Oper.semAt_some

theorem wAllB_any (p : Nat) (q : Option Addr) (cap : Nat) (l : List Int) (a : Option Addr) (m c : Nat) (r : List Int) (w : World) (hS : Sep (fpL (wtr p q cap l)) w w (wtr p q cap l)) (hr : ReadsB w 1 a m c (fc u8c r)) (hrm : r.length = m) (hl : l.length ≤ 100000) (hm : m ≤ 100000) :
    Calls Try.prog 58 #[.pointer (at0 p), .slice a m c] w fun e w' => e = .returned (.tuple #[]) ∧ ∃ q' cap', Sep (fpL (wtr p q cap l)) w w' (wtr p q' cap' (l ++ r)) := by
  have S := Lib.hid hS
  have HR := Lib.hid hr
  have HM := Lib.hid hrm
  have cp : w.cell? ⟨p, 0, none⟩ = some (.slice q l.length cap) := (hS.at_ 0 rfl).cell 0
  clear hS hr hrm
  obtain ⟨i, hi, hz0, hz1, hz2⟩ := info_parts u8Info
  have HI := Lib.hid (And.intro hi (And.intro hz0 (And.intro hz1 hz2))); clear hi hz0 hz1 hz2
  go_enter Try.func58, Try.ntmps58
  go_wp2_with (at_builtin; refine Hold.out ?_)
  refine Hold.mk ?_
  refine wpList_append_rowB _ rfl _ _ _ rfl 0 U8T i _ 1 1 Try.underlying27 HI.out.1 HI.out.2.1 HI.out.2.2.1 HI.out.2.2.2 rfl (by decide) _ l.length (fc u8c l) rfl (S.out.at_ 1 rfl) a m c (fc u8c r) rfl HR.out (fc_one u8c_one _) (by simp [maxLen]; omega) (by omega) (Nat.zero_le _) ?_
  intro q2 c2 w2 ho2 hf2 hb2
  have S2 := S.out.turn 1 rfl (Ob.row 0 U8T 1 (.slice q2 (l.length + m) c2) (l.length + m) (fc u8c l ++ fc u8c r)) hf2 (fun _ _ h => h) ho2 (fun k hk => by
    have hk' : (Value.slice q2 (l.length + m) c2).ownBlock = some k := hk
    rcases hb2 with e | e
    · exact .inl (Eq.trans (show (Value.slice q l.length cap).ownBlock = (Value.slice q2 (l.length + m) c2).ownBlock from e.symm) hk')
    · rw [e] at hk'; cases hk'; exact .inr (Nat.le_refl _))
  simp only [List.set_cons_succ, List.set_cons_zero] at S2
  have z := (S2.at_ 0 rfl).frozen 0
  have d := (S2.at_ 0 rfl).cell 0
  have HS2 := Lib.hid S2
  clear S2 ho2 hf2 hb2
  go_wp2_with fail
  exact ⟨by simp, _, results_none rfl _ _ _, rfl, q2, c2, wtr_more (r := r) HM.out (HS2.out.set 0 rfl 0 (.slice q2 (l.length + m) c2))⟩

abbrev senv (p : Nat) (q : Option Addr) (cap : Nat) (l : List Int) (b : Nat) (cs : Array Value) : List Ob := wtr p q cap l ++ [Ob.blk b SgT cs]
set_option maxHeartbeats 4000000 in
theorem form_any (s : Sgm) (q : Option Addr) (c : Nat) (p : Option Addr) (d : Nat) (oa : Option Addr) (oc' : Nat) (ob : List Int) (ck : Int) (w : World)
    (hk : 0 ≤ s.kind ∧ s.kind < 256) (hn : 0 ≤ s.num ∧ s.num < 4294967296) (hc : 0 ≤ ck ∧ ck < 65536) (ho : ob.length ≤ 40) (hb : s.body.length ≤ 2048)
    (hro : Reads w 1 oa ob.length oc' (fc u8c ob)) (hrb : ReadsB w 1 p s.body.length d (fc u8c s.body)) :
    Calls Try.prog 39 #[.agg (sgc s q c p d), .slice oa ob.length oc', .int .u16 ck] w fun e w' => ∃ q' c', e = .returned (.slice q' (formS s ob ck).length c') ∧ Sep None w w' [brow q' c' (formS s ob ck)] := by
  have S0 := (((Sep.law w).alloc (sgc s q c p d) SgT).alloc #[.slice none 0 0] WrT).add (brow none 0 []) (Fr.refl None _) (Owns.nil u8c 1 U8T _) (fun k hk => by cases hk)
  simp only [World.size_alloc] at S0
  have hlen : ((ob.length : Int) / 4 : Int) = (ob.length : Int) / 4 := rfl
  clear hlen
  have HS := Lib.hid (show Sep None w ((w.alloc (.cells (sgc s q c p d) SgT)).alloc (.cells #[.slice none 0 0] WrT)) (senv (w.heap.size + 1) none 0 [] w.heap.size (sgc s q c p d)) from S0.perm (List.Perm.swap _ _ _))
  have HRO := Lib.hid hro
  have HRB := Lib.hid hrb
  clear S0 hro hrb
  go_enter Try.func39, Try.ntmps39
  go_wp2_with fail
  have SA1 := HS.out.skip (.cells (fc u8c [s.kind, (ob.length : Int) / 4]).toArray U8T)
  refine (wAll_any (w.heap.size + 1) none 0 [] (some ⟨w.heap.size + 1 + 1, 0, none⟩) 2 2 [s.kind, (ob.length : Int) / 4] _ SA1.head (by have := reads_newR ((w.alloc (.cells (sgc s q c p d) SgT)).alloc (.cells #[.slice none 0 0] WrT)) U8T [s.kind, (ob.length : Int) / 4] u8c_len; simp only [World.size_alloc] at this; exact this) (by simp) (by decide)).mono ?_
  rintro e w1 ⟨rfl, q1, c1, T1⟩
  have S1 := SA1.did T1
  clear SA1 T1
  have o1 : w1.cell? ⟨w.heap.size, 1, none⟩ = some (.int .u32 s.num) := (S1.at_ 2 rfl).cell 1
  have HS1 := Lib.hid S1
  clear S1
  go_wp2_with fail
  refine (wTwo_any (w.heap.size + 1) q1 c1 _ ck _ HS1.out.head hc (by simp)).mono ?_
  rintro e w2 ⟨rfl, q2, c2, T2⟩
  have S2 := HS1.out.did T2
  have o2 : w2.cell? ⟨w.heap.size, 1, none⟩ = some (.int .u32 s.num) := (S2.at_ 2 rfl).cell 1
  have HS2 := Lib.hid S2
  clear T2 S2 o1
  go_wp2_with fail
  refine (wFour_any (w.heap.size + 1) q2 c2 _ s.num _ HS2.out.head hn (by simp [be_len])).mono ?_
  rintro e w3 ⟨rfl, q3, c3, T3⟩
  have S3 := HS2.out.did T3
  have HS3 := Lib.hid S3
  clear T3 S3 o2
  go_wp2_with fail
  refine (wAll_any (w.heap.size + 1) q3 c3 _ oa ob.length oc' ob _ HS3.out.head (HRO.out.fr HS3.out.fr (fun _ _ h => h)) (by simp [be_len]) (by omega)).mono ?_
  rintro e w4 ⟨rfl, q4, c4, T4⟩
  have S4 := HS3.out.did T4
  have o4 : w4.cell? ⟨w.heap.size, 10, none⟩ = some (.slice p s.body.length d) := (S4.at_ 2 rfl).cell 10
  have HS4 := Lib.hid S4
  clear T4 S4
  go_wp2_with fail
  refine (wAllB_any (w.heap.size + 1) q4 c4 _ p s.body.length d s.body _ HS4.out.head (HRB.out.fr HS4.out.fr) rfl (by simp [be_len]; omega) (by omega)).mono ?_
  rintro e w5 ⟨rfl, q5, c5, T5⟩
  have S5 : Sep None w w5 (wtr (w.heap.size + 1) q5 c5 (formS s ob ck) ++ [Ob.blk w.heap.size SgT (sgc s q c p d)]) := HS4.out.did T5
  have hlf : (formS s ob ck).length ≤ 200000 := by unfold formS; simp [be_len]; omega
  clear HS HS1 HS2 HS3 HS4
  generalize hfl : formS s ob ck = fl at *
  have HFL := Lib.hid hfl; clear hfl
  have HS5 := Lib.hid S5
  clear T5 S5 o4
  go_wp2_with fail
  refine (wBytes_any (w.heap.size + 1) q5 c5 _ _ HS5.out.head hlf).mono ?_
  rintro e w6 ⟨q6, c6, rfl, T6⟩
  have HS6 := Lib.hid ((HS5.out.beside T6).drop (List.sublist_append_left _ _))
  clear T6
  go_wp2_with fail
  go_ret
  exact ⟨q6, c6, by rw [HFL.out]; rfl, by rw [HFL.out]; exact HS6.out⟩
end Go.Proofs.Ythkhfijfgpccbaa
