/- Package octet's writer, walked. -/
import Derived.Test.YthkhfijfgpccbaaOc0
import Derived.Test.YthkhfijfgpccbaaBk0
import Derived.IntWalk
import Derived.Lib.Hide
import Derived.Outline
import Derived.Handy
import Derived.WalkKit
import Derived.WalkSpells
import Derived.BigQuiet
import Derived.Deep.QuietTactic
import Derived.Deep.DrawnRows
import Derived.Deep.LoopGhost
import Derived.Deep.DeepCutAuto
import Derived.Deep.CutRange
import Derived.Deep.CutBlock
import Derived.Deep.RegionLaw
import Derived.Deep.RegionHeld3
set_option linter.unusedVariables false
set_option linter.unusedSimpArgs false
namespace Go.Proofs.Ythkhfijfgpccbaa
open Go.RowKit Go.Und
attribute [local go_sem] Oper.semAt_some
attribute [local go_sem ↓] Go.wp_at_zero Go.wp_at_succ

abbrev U8T : TypeId := 5
abbrev WrT : TypeId := 56
theorem u8Info : (Try.prog.info? U8T).map (fun i => (i.zero, i.size, i.bytes)) = some (some (.int .u8 0), 1, 1) := by kernel_rfl
theorem ret_intO {k : IntKind} {a b : Int} (h : a = b) : (Ending.returned (.int k a) : Ending) = .returned (.int k b) := by rw [h]
/-- A writer. -/
abbrev brow (q : Option Addr) (cap : Nat) (l : List Int) : Ob := Ob.row 0 U8T 1 (.slice q l.length cap) l.length (fc u8c l)
abbrev wtr (p : Nat) (q : Option Addr) (cap : Nat) (l : List Int) : List Ob := [Ob.blk p WrT #[.slice q l.length cap], brow q cap l]
theorem u8_shift (n : Int) (k : Nat) : n >>> (8 * k) = n / 256 ^ k := by
  rw [Int.shiftRight_eq_div_pow, Nat.pow_mul]; rfl

theorem wtr_more {D : Nat → Prop} {w0 w : World} {p : Nat} {q : Option Addr} {c m : Nat} {l r : List Int} {L : List Ob} (hm : r.length = m) (S : Sep D w0 w (Ob.blk p WrT #[.slice q (l.length + m) c] :: Ob.row 0 U8T 1 (.slice q (l.length + m) c) (l.length + m) (fc u8c l ++ fc u8c r) :: L)) : Sep D w0 w (wtr p q c (l ++ r) ++ L) := by
  subst hm
  rw [← fc_append, ← List.length_append] at S
  exact S

set_option maxHeartbeats 1000000 in
theorem wnum_any (p : Nat) (q : Option Addr) (cap : Nat) (l : List Int) (n : Int) (size : Nat) (w : World) (hS : Sep (fpL (wtr p q cap l)) w w (wtr p q cap l)) (hs : size ≤ 4) (hn : 0 ≤ n ∧ n < 4294967296) (hl : l.length ≤ 100000) :
    Calls Try.prog 66 #[.pointer (at0 p), .int .u32 n, .int .i64 size] w fun e w' => e = .returned (.tuple #[]) ∧ ∃ q' cap', Sep (fpL (wtr p q cap l)) w w' (wtr p q' cap' (l ++ be size n)) := by
  have S := Lib.hid hS
  clear hS
  obtain ⟨i, hi, hz0, hz1, hz2⟩ := info_parts u8Info
  have HI := Lib.hid (And.intro hi (And.intro hz0 (And.intro hz1 hz2))); clear hi hz0 hz1 hz2
  obtain ⟨hn0, hn1⟩ := hn
  go_enter Try.func66, Try.ntmps66
  go_wp2_with fail
  go_loopg [6] size (fun g iv wr => ∃ (j : Nat) (q' : Option Addr) (cap' : Nat), j + g = size ∧ iv = .int .i64 ((size : Int) - 1 - j) ∧ Sep (fpL (wtr p q cap l)) w wr (wtr p q' cap' (l ++ (be size n).take j)))
  case atStart => exact ⟨0, q, cap, by omega, by simp, by simpa using S.out⟩
  case round =>
    obtain ⟨j, q1, c1, hj, rfl, S1⟩ := hrel
    by_cases g : j < size
    · obtain ⟨k, rfl⟩ : ∃ k, size = j + 1 + k := ⟨size - j - 1, by omega⟩
      have hb := be_get (j + 1 + k) j n (by omega)
      rw [show j + 1 + k - j - 1 = k by omega] at hb
      have ht : l ++ (be (j + 1 + k) n).take (j + 1) = l ++ (be (j + 1 + k) n).take j ++ [n / 256 ^ k % 256] := by
        rw [List.take_add_one, hb, List.append_assoc]; rfl
      have hlen : (l ++ (be (j + 1 + k) n).take j).length ≤ 100004 := by rw [List.length_append, List.length_take]; omega
      have HT := Lib.hid ht
      clear ht hb
      generalize l ++ (be (j + 1 + k) n).take j = l1 at *
      rw [show ((j + 1 + k : Nat) : Int) - 1 - j = k by omega]
      have cp : wr.cell? ⟨p, 0, none⟩ = some (.slice q1 l1.length c1) := (S1.at_ 0 rfl).cell 0
      have HS1 := Lib.hid S1
      clear S1
      have hk : k ≤ 3 := by omega
      have e8 : IntKind.i64.wrap (8 * (k : Int)) = 8 * k := by simp [IntKind.wrap, IntKind.bits, IntKind.signed]; omega
      have k0 : 0 ≤ 8 * (k : Int) := by omega
      have k1 : 8 * (k : Int) ≤ 32 := by omega
      have ev : IntKind.u8.wrap (n / 2 ^ (8 * (k : Int)).toNat) = n / 256 ^ k % 256 := by
        rw [show (8 * (k : Int)).toNat = 8 * k by omega, Int.pow_mul]; rfl
      have cp2 : (wr.alloc (.cells #[.int .u8 (n / 256 ^ k % 256)] U8T)).cell? ⟨p, 0, none⟩ = some (.slice q1 l1.length c1) := ((HS1.out.skip _).at_ 0 rfl).cell 0
      go_wp2_with fail
      go_region_law ((
          refine step_append_row _ rfl _ _ _ rfl 0 U8T i _ 1 1 Try.underlying27 HI.out.1 HI.out.2.1 HI.out.2.2.1 HI.out.2.2.2 rfl (by decide) _ l1.length (fc u8c l1) rfl ((HS1.out.drew.skip _).at_ 1 rfl) (some ⟨wr.heap.size, 0, none⟩) 1 1 (fc u8c [n / 256 ^ k % 256]) rfl ((reads_oneR wr.drew U8T (n / 256 ^ k % 256) u8c_len)) (fc_one u8c_one _) (by simp [maxLen]; omega) (by omega) (Nat.zero_le _) ?_
          intro q2 c2 w2 ho2 hf2 hb2
          have S2 := HS1.out.drew.append 1 rfl (.cells #[.int .u8 (n / 256 ^ k % 256)] U8T) ho2 hf2 hb2
          have z := (S2.at_ 0 rfl).frozen 0
          have d := (S2.at_ 0 rfl).cell 0
          have HS2 := Lib.hid S2
          clear S2 ho2 hf2 hb2))
      all_goals
        go_wp2_with fail
        have S3 := wtr_more (r := [n / 256 ^ k % 256]) rfl (HS2.out.set 0 rfl 0 (.slice q2 (l1.length + 1) c2))
        go_roundg (gk - 1)
        case measure => omega
        case rel => exact ⟨j + 1, q2, c2, by omega, by rw [show ((j + 1 + k : Nat) : Int) - 1 - ((j + 1 : Nat) : Int) = (k : Int) - 1 by omega], by rw [HT.out]; exact S3⟩
    · obtain rfl : j = size := by omega
      rw [List.take_of_length_le (by rw [be_len]; exact Nat.le_refl _)] at S1
      rw [show ((j : Nat) : Int) - 1 - j = -1 by omega]
      have HS1 := Lib.hid S1
      clear S1
      go_wp2_with fail
      exact ⟨by simp, _, results_none rfl _ _ _, rfl, q1, c1, HS1.out⟩
theorem wOne_any (p : Nat) (q : Option Addr) (cap : Nat) (l : List Int) (n : Int) (w : World) (hS : Sep (fpL (wtr p q cap l)) w w (wtr p q cap l)) (hn : 0 ≤ n ∧ n < 256) (hl : l.length ≤ 100000) :
    Calls Try.prog 30 #[.pointer (at0 p), .int .u8 n] w fun e w' => e = .returned (.tuple #[]) ∧ ∃ q' cap', Sep (fpL (wtr p q cap l)) w w' (wtr p q' cap' (l ++ be 1 n)) := by
  have H := Lib.hid (wnum_any p q cap l n 1 w hS (by decide) (by omega) hl)
  obtain ⟨hn0, hn1⟩ := hn
  clear hS
  go_enter Try.func30, Try.ntmps30
  go_wp2_with fail
  refine H.out.mono ?_
  rintro e w1 ⟨rfl, q1, c1, S1⟩
  have HS1 := Lib.hid S1
  clear S1 H
  go_wp2_with fail
  exact ⟨by simp, _, results_none rfl _ _ _, rfl, q1, c1, HS1.out⟩
theorem wTwo_any (p : Nat) (q : Option Addr) (cap : Nat) (l : List Int) (n : Int) (w : World) (hS : Sep (fpL (wtr p q cap l)) w w (wtr p q cap l)) (hn : 0 ≤ n ∧ n < 65536) (hl : l.length ≤ 100000) :
    Calls Try.prog 59 #[.pointer (at0 p), .int .u16 n] w fun e w' => e = .returned (.tuple #[]) ∧ ∃ q' cap', Sep (fpL (wtr p q cap l)) w w' (wtr p q' cap' (l ++ be 2 n)) := by
  have H := Lib.hid (wnum_any p q cap l n 2 w hS (by decide) (by omega) hl)
  obtain ⟨hn0, hn1⟩ := hn
  clear hS
  go_enter Try.func59, Try.ntmps59
  go_wp2_with fail
  refine H.out.mono ?_
  rintro e w1 ⟨rfl, q1, c1, S1⟩
  have HS1 := Lib.hid S1
  clear S1 H
  go_wp2_with fail
  exact ⟨by simp, _, results_none rfl _ _ _, rfl, q1, c1, HS1.out⟩
theorem wFour_any (p : Nat) (q : Option Addr) (cap : Nat) (l : List Int) (n : Int) (w : World) (hS : Sep (fpL (wtr p q cap l)) w w (wtr p q cap l)) (hn : 0 ≤ n ∧ n < 4294967296) (hl : l.length ≤ 100000) :
    Calls Try.prog 62 #[.pointer (at0 p), .int .u32 n] w fun e w' => e = .returned (.tuple #[]) ∧ ∃ q' cap', Sep (fpL (wtr p q cap l)) w w' (wtr p q' cap' (l ++ be 4 n)) := by
  have H := Lib.hid (wnum_any p q cap l n 4 w hS (by decide) (by omega) hl)
  obtain ⟨hn0, hn1⟩ := hn
  clear hS
  go_enter Try.func62, Try.ntmps62
  go_wp2_with fail
  refine H.out.mono ?_
  rintro e w1 ⟨rfl, q1, c1, S1⟩
  have HS1 := Lib.hid S1
  clear S1 H
  go_wp2_with fail
  exact ⟨by simp, _, results_none rfl _ _ _, rfl, q1, c1, HS1.out⟩
theorem wAll_any (p : Nat) (q : Option Addr) (cap : Nat) (l : List Int) (a : Option Addr) (m c : Nat) (r : List Int) (w : World) (hS : Sep (fpL (wtr p q cap l)) w w (wtr p q cap l)) (hr : Reads w 1 a m c (fc u8c r)) (hl : l.length ≤ 100000) (hm : m ≤ 100000) :
    Calls Try.prog 58 #[.pointer (at0 p), .slice a m c] w fun e w' => e = .returned (.tuple #[]) ∧ ∃ q' cap', Sep (fpL (wtr p q cap l)) w w' (wtr p q' cap' (l ++ r)) := by
  have S := Lib.hid hS
  have HR := Lib.hid hr
  have hrm : r.length = m := by have := hr.len; rw [fc_length u8c_len] at this; omega
  have HM := Lib.hid hrm
  have cp : w.cell? ⟨p, 0, none⟩ = some (.slice q l.length cap) := (hS.at_ 0 rfl).cell 0
  clear hS hr hrm
  obtain ⟨i, hi, hz0, hz1, hz2⟩ := info_parts u8Info
  have HI := Lib.hid (And.intro hi (And.intro hz0 (And.intro hz1 hz2))); clear hi hz0 hz1 hz2
  go_enter Try.func58, Try.ntmps58
  go_wp2_with (at_builtin; refine Hold.out ?_)
  refine Hold.mk ?_
  refine wpList_append_row _ rfl _ _ _ rfl 0 U8T i _ 1 1 Try.underlying27 HI.out.1 HI.out.2.1 HI.out.2.2.1 HI.out.2.2.2 rfl (by decide) _ l.length (fc u8c l) rfl (S.out.at_ 1 rfl) a m c (fc u8c r) rfl HR.out (fc_one u8c_one _) (by simp [maxLen]; omega) (by omega) (Nat.zero_le _) ?_
  intro q2 c2 w2 ho2 hf2 hb2
  have S2 := S.out.turn 1 rfl (Ob.row 0 U8T 1 (.slice q2 (l.length + m) c2) (l.length + m) (fc u8c l ++ fc u8c r)) hf2 (fun _ _ h => h) ho2 (fun k hk => by
    have hk' : (Value.slice q2 (l.length + m) c2).ownBlock = some k := hk
    rcases hb2 with e | e
    · exact .inl (Eq.trans (show (Value.slice q l.length cap).ownBlock = (Value.slice q2 (l.length + m) c2).ownBlock from e.symm) hk')
    · rw [e] at hk'; cases hk'; exact .inr (Nat.le_refl _))
  simp only [List.set_cons_succ, List.set_cons_zero] at S2
  have z := (S2.at_ 0 rfl).frozen 0
  have d := (S2.at_ 0 rfl).cell 0
  have HS2 := Lib.hid S2
  clear S2 ho2 hf2 hb2
  go_wp2_with fail
  exact ⟨by simp, _, results_none rfl _ _ _, rfl, q2, c2, wtr_more (r := r) HM.out (HS2.out.set 0 rfl 0 (.slice q2 (l.length + m) c2))⟩
theorem hLen_any (p : Nat) (q : Option Addr) (cap : Nat) (l : List Int) (w : World) (cp : w.cell? ⟨p, 0, none⟩ = some (.slice q l.length cap)) :
    Calls Try.prog 65 #[.pointer (at0 p)] w fun e w' => e = .returned (.int .i64 l.length) ∧ w' = w := by
  go_enter Try.func65, Try.ntmps65
  go_wp2_with fail
  go_ret
  exact ⟨rfl, rfl⟩
theorem wLen_any (p : Nat) (q : Option Addr) (cap : Nat) (l : List Int) (w : World) (cp : w.cell? ⟨p, 0, none⟩ = some (.slice q l.length cap)) :
    Calls Try.prog 29 #[.pointer (at0 p)] w fun e w' => e = .returned (.int .i64 l.length) ∧ w' = w := by
  have H := Lib.hid (hLen_any p q cap l w cp)
  clear cp
  go_enter Try.func29, Try.ntmps29
  go_wp2_with fail
  refine H.out.mono ?_
  rintro e w1 ⟨rfl, rfl⟩
  go_wp2_with fail
  go_ret
  exact ⟨rfl, rfl⟩
theorem wBytes_any (p : Nat) (q : Option Addr) (cap : Nat) (l : List Int) (w : World) (hS : Sep (fpL (wtr p q cap l)) w w (wtr p q cap l)) (hl : l.length ≤ 200000) :
    Calls Try.prog 31 #[.pointer (at0 p)] w fun e w' => ∃ q' c', e = .returned (.slice q' l.length c') ∧ Sep None w w' [brow q' c' l] := by
  have cp : w.cell? ⟨p, 0, none⟩ = some (.slice q l.length cap) := (hS.at_ 0 rfl).cell 0
  have H := Lib.hid (wLen_any p q cap l w cp)
  have HR := Lib.hid (Owns.reads (f := u8c) (T := U8T) (hS.at_ 1 rfl)).2.1
  clear hS
  obtain ⟨i, hi, hz0, hz1, hz2⟩ := info_parts u8Info
  have HI := Lib.hid (And.intro hi (And.intro hz0 (And.intro hz1 hz2))); clear hi hz0 hz1 hz2
  by_cases g : l = []
  · subst g
    go_enter Try.func31, Try.ntmps31
    go_wp2_with fail
    refine H.out.mono ?_
    rintro e w1 ⟨rfl, rfl⟩
    go_wp2_with fail
    exact bodyPost_ret (v := .slice none 0 0) (by simp [results, Try.results31, go_sem]) rfl ⟨none, 0, rfl, (Sep.law _).add (brow none 0 []) (Fr.refl None _) (Owns.nil u8c 1 U8T _) (fun k hk => by cases hk)⟩
  · have hp : 0 < l.length := List.length_pos_iff.2 g
    have hn : ((l.length : Int) == 0) = false := by simp; exact g
    clear g
    go_enter Try.func31, Try.ntmps31
    go_wp2_with fail
    refine H.out.mono ?_
    rintro e w1 ⟨rfl, rfl⟩
    have cp2 : (w1.alloc (.cells #[] U8T)).cell? ⟨p, 0, none⟩ = some (.slice q l.length cap) := cell_frN ((Fr.refl None w1).alloc _) cp
    have HG0 := Lib.hid (GrowsR.start u8c 1 U8T w1)
    have HR1 := Lib.hid (HR.out.fr (D := None) ((Fr.refl None w1).alloc (.cells #[] U8T)) (fun _ _ h => h))
    go_wp2_with (at_builtin; refine Hold.out ?_)
    refine Hold.mk ?_
    refine wpList_append_row _ rfl _ _ _ rfl 0 U8T i _ 1 1 Try.underlying27 HI.out.1 HI.out.2.1 HI.out.2.2.1 HI.out.2.2.2 rfl (by decide) _ 0 (fc u8c []) rfl HG0.out.row0 q l.length cap (fc u8c l) rfl HR1.out (fc_one u8c_one _) (by simp [maxLen]; omega) (by omega) (Nat.zero_le _) ?_
    intro q2 c2 w2 ho2 hf2 hb2
    have G1 := HG0.out.step (r := l) rfl ho2 hf2 hb2
    simp only [Nat.zero_add, List.nil_append] at G1
    have HG1 := Lib.hid G1
    clear G1 ho2 hf2 hb2 HG0 HR1 HR H cp cp2
    go_wp2_with fail
    exact bodyPost_ret (v := .slice q2 l.length c2) (by simp [results, Try.results31, go_sem]) rfl ⟨q2, c2, rfl, HG1.out.sep⟩
end Go.Proofs.Ythkhfijfgpccbaa
