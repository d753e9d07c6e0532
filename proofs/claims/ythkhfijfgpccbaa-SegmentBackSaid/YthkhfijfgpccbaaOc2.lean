/- Package octet's reader, walked. -/
import Derived.Test.YthkhfijfgpccbaaOc1
import Derived.Laws.BitsLemmas
set_option linter.unusedVariables false
set_option linter.unusedSimpArgs false
namespace Go.Proofs.Ythkhfijfgpccbaa
open Go.RowKit Go.Und
attribute [local go_sem] Oper.semAt_some
attribute [local go_sem ↓] Go.wp_at_zero Go.wp_at_succ

abbrev RdT : TypeId := 88
/-- A reader that stands in front of byte a. -/
abbrev rdr (p : Nat) (q : Option Addr) (cap : Nat) (l : List Int) (a : Nat) : List Ob := [Ob.blk p RdT #[.slice q l.length cap, .int .i64 a], brow q cap l]

theorem newReader_any (a : Option Addr) (c : Nat) (l : List Int) (w : World) (hr : Reads w 1 a l.length c (fc u8c l)) (hl : l.length ≤ 100000) :
    Calls Try.prog 33 #[.slice a l.length c] w fun e w' => ∃ p q cap, e = .returned (.pointer (at0 p)) ∧ Sep None w w' (rdr p q cap l 0) := by
  have HR1 := Lib.hid (hr.fr (D := None) ((Fr.refl None w).alloc (.cells #[] U8T)) (fun _ _ h => h))
  have HG0 := Lib.hid (GrowsR.start u8c 1 U8T w)
  clear hr
  obtain ⟨i, hi, hz0, hz1, hz2⟩ := info_parts u8Info
  have HI := Lib.hid (And.intro hi (And.intro hz0 (And.intro hz1 hz2))); clear hi hz0 hz1 hz2
  go_enter Try.func33, Try.ntmps33
  go_wp2_with (at_builtin; refine Hold.out ?_)
  refine Hold.mk ?_
  refine wpList_append_row _ rfl _ _ _ rfl 0 U8T i _ 1 1 Try.underlying27 HI.out.1 HI.out.2.1 HI.out.2.2.1 HI.out.2.2.2 rfl (by decide) _ 0 (fc u8c []) rfl HG0.out.row0 a l.length c (fc u8c l) rfl HR1.out (fc_one u8c_one _) (by simp [maxLen]; omega) (by omega) (Nat.zero_le _) ?_
  intro q2 c2 w2 ho2 hf2 hb2
  have G1 := HG0.out.step (r := l) rfl ho2 hf2 hb2
  simp only [Nat.zero_add, List.nil_append] at G1
  have HG1 := Lib.hid (G1.sep.alloc #[.slice q2 l.length c2, .int .i64 0] RdT)
  clear G1 ho2 hf2 hb2 HG0 HR1
  go_wp2_with fail
  exact bodyPost_ret (v := .pointer (at0 w2.heap.size)) (by simp [results, Try.results33, go_sem]) rfl ⟨_, q2, c2, rfl, HG1.out⟩
theorem rLeft_any (p : Nat) (q : Option Addr) (cap : Nat) (l : List Int) (a : Nat) (w : World) (hS : Blk w p RdT #[.slice q l.length cap, .int .i64 a]) (ha : a ≤ l.length) (hl : l.length ≤ 100000) :
    Calls Try.prog 34 #[.pointer (at0 p)] w fun e w' => e = .returned (.int .i64 ((l.length - a : Nat) : Int)) ∧ Fr None w w' := by
  have c0 : w.cell? ⟨p, 0, none⟩ = some (.slice q l.length cap) := hS.cell 0
  have c1 : w.cell? ⟨p, 1, none⟩ = some (.int .i64 a) := hS.cell 1
  clear hS
  have e8 : IntKind.i64.wrap ((l.length : Int) - a) = l.length - a := by simp [IntKind.wrap, IntKind.bits, IntKind.signed]; omega
  go_enter Try.func34, Try.ntmps34
  go_wp2_with fail
  go_quiet (fail)
  go_wp2_with fail
  go_ret
  exact ⟨ret_intO (by omega), (Fr.refl None w).drewN _⟩
/-- Too few bytes. -/
theorem next_short (p : Nat) (q : Option Addr) (cap : Nat) (l : List Int) (a n : Nat) (w : World) (hS : Blk w p RdT #[.slice q l.length cap, .int .i64 a]) (ha : a ≤ l.length) (hn : l.length - a < n) (hn2 : n ≤ 100000) (hl : l.length ≤ 100000) :
    Calls Try.prog 68 #[.pointer (at0 p), .int .i64 n] w fun e w' => e = .returned (.tuple #[.slice none 0 0, .int .i64 5]) ∧ Fr None w w' := by
  have c0 : w.cell? ⟨p, 0, none⟩ = some (.slice q l.length cap) := hS.cell 0
  have c1 : w.cell? ⟨p, 1, none⟩ = some (.int .i64 a) := hS.cell 1
  clear hS
  have e8 : IntKind.i64.wrap ((l.length : Int) - a) = l.length - a := by simp [IntKind.wrap, IntKind.bits, IntKind.signed]; omega
  have e9 : decide ((l.length : Int) - a < (n : Int)) = true := by simp; omega
  go_enter Try.func68, Try.ntmps68
  go_wp2_with fail
  go_quiet (fail)
  go_wp2_with fail
  go_ret2
  exact ⟨rfl, (Fr.refl None w).drewN _⟩
theorem next_ok (p : Nat) (q : Option Addr) (cap : Nat) (l : List Int) (a n : Nat) (w : World) (hS : Sep (fpL (rdr p q cap l a)) w w (rdr p q cap l a)) (ha : a + n ≤ l.length) (hl : l.length ≤ 100000) :
    Calls Try.prog 68 #[.pointer (at0 p), .int .i64 n] w fun e w' => ∃ x c, e = .returned (.tuple #[.slice x n c, .int .i64 0]) ∧ Sep (fpL (rdr p q cap l a)) w w' (rdr p q cap l (a + n)) ∧ Reads w' 1 x n c (fc u8c ((l.drop a).take n)) := by
  have c0 : w.cell? ⟨p, 0, none⟩ = some (.slice q l.length cap) := (hS.at_ 0 rfl).cell 0
  have c1 : w.cell? ⟨p, 1, none⟩ = some (.int .i64 a) := (hS.at_ 0 rfl).cell 1
  have z1 := (hS.at_ 0 rfl).frozen 1
  have HS := Lib.hid hS
  clear hS
  have e8 : IntKind.i64.wrap ((l.length : Int) - a) = l.length - a := by simp [IntKind.wrap, IntKind.bits, IntKind.signed]; omega
  have e9 : decide ((l.length : Int) - a < (n : Int)) = false := by simp; omega
  go_enter Try.func68, Try.ntmps68
  go_wp2_with fail
  go_quiet (fail)
  have S1 := HS.out.drewN nq
  clear HS c0 c1 z1
  generalize w.drewN nq = V at *
  have c0 : V.cell? ⟨p, 0, none⟩ = some (.slice q l.length cap) := (S1.at_ 0 rfl).cell 0
  have c1 : V.cell? ⟨p, 1, none⟩ = some (.int .i64 a) := (S1.at_ 0 rfl).cell 1
  have z1 := (S1.at_ 0 rfl).frozen 1
  have S2 := S1.set 0 rfl 1 (.int .i64 ((a : Int) + n))
  clear S1
  go_upto_region 8 with fail
  refine Sep.gen _ S2 ?_
  clear S2 c0 c1 z1
  intro W SW
  have c0 : W.cell? ⟨p, 0, none⟩ = some (.slice q l.length cap) := (SW.at_ 0 rfl).cell 0
  have c1 : W.cell? ⟨p, 1, none⟩ = some (.int .i64 ((a : Int) + n)) := (SW.at_ 0 rfl).cell 1
  have HW := Lib.hid SW
  clear SW
  have e10 : IntKind.i64.wrap ((a : Int) + n - n) = a := by simp [IntKind.wrap, IntKind.bits, IntKind.signed]; omega
  obtain ⟨i, hi, hz0, hz1, hz2⟩ := info_parts u8Info
  have hcap := (Owns.reads (f := u8c) (T := U8T) (HW.out.at_ 1 rfl)).2.1
  have hroom := hcap.room
  have hrd := (hcap.take (k := a + n) ha).drop (k := a) (by omega)
  have hx : ∃ x, x = (if cap = a then q else q.map (·.add (a * 1))) := ⟨_, rfl⟩
  obtain ⟨x, hx⟩ := hx
  rw [← hx, Nat.mul_one, Nat.mul_one] at hrd
  have hrun : ∀ W' : World, (Instr.sliceAt 27 (.slice q l.length cap) (some (.int .i64 (a : Int))) (some (.int .i64 ((a : Int) + n))) none).run Try.prog W' = .ok (.slice x n (cap - a)) W' := fun W' => by
    have h1 := run_cut_mid (P := Try.prog) W' 27 U8T i 1 Try.underlying27 hi hz1 q l.length cap .i64 .i64 (a : Int) ((a : Int) + n) (by omega) (by omega) (by omega)
    rw [h1, show ((a : Int) + n).toNat - (a : Int).toNat = n by omega, show (a : Int).toNat = a by omega, ← hx]
  have hlen : (fc u8c ((l.drop a).take n)) = ((fc u8c l).take (a + n)).drop a := by
    have e1 := fc_take u8c_len l (a + n)
    have e2 := fc_drop u8c_len (l.take (a + n)) a
    rw [Nat.mul_one] at e1 e2
    rw [e1, e2, List.drop_take, show a + n - a = n by omega]
  rw [← hlen, show a + n - a = n by omega] at hrd
  have HRD := Lib.hid hrd
  clear hrd hlen hx hcap hi hz0 hz1 hz2
  go_quiet (fail)
  go_wp2_with fail
  go_ret2
  exact ⟨x, cap - a, rfl, HW.out.drewN _, HRD.out.fr (D := None) ((Fr.refl None W).drewN _) (fun _ _ h => h)⟩
theorem u32_join (v y : Int) (hv : 0 ≤ v ∧ v < 16777216) (hy : 0 ≤ y ∧ y < 256) : bits .or .u32 (v * 256 % 4294967296) y = v * 256 + y := by
  rw [show v * 256 % 4294967296 = v * 256 by omega]
  exact bits_join .u32 32 (by decide) (fun n h0 h1 => by rw [IntKind.wrap_u32]; omega) 8 (v * 256) y (by omega) (by omega) (by omega) hy.1 hy.2 (by omega)
theorem pow_le3 {k : Nat} (h : k ≤ 3) : (256 : Int) ^ k ≤ 16777216 := by
  have : k = 0 ∨ k = 1 ∨ k = 2 ∨ k = 3 := by omega
  rcases this with rfl | rfl | rfl | rfl <;> decide
theorem rnum_short (p : Nat) (q : Option Addr) (cap : Nat) (l : List Int) (a n : Nat) (w : World) (hS : Blk w p RdT #[.slice q l.length cap, .int .i64 a]) (ha : a ≤ l.length) (hn : l.length - a < n) (hn2 : n ≤ 100000) (hl : l.length ≤ 100000) :
    Calls Try.prog 67 #[.pointer (at0 p), .int .i64 n] w fun e w' => e = .returned (.tuple #[.int .u32 0, .int .i64 5]) ∧ Fr None w w' := by
  have H := Lib.hid (next_short p q cap l a n w hS ha hn hn2 hl)
  clear hS
  go_enter Try.func67, Try.ntmps67
  go_wp2_with fail
  refine H.out.mono ?_
  rintro e w1 ⟨rfl, f1⟩
  have HF := Lib.hid f1
  clear f1 H
  go_wp2_with fail
  go_loopg [8, 19] 0 (fun g nv iv wr => nv = .int .u32 0 ∧ iv = .int .i64 0 ∧ wr = w1)
  case atStart => exact ⟨rfl, rfl, rfl⟩
  case round =>
    obtain ⟨rfl, rfl, rfl⟩ := hrel
    go_wp2_with fail
    go_ret2
    exact ⟨rfl, HF.out⟩
theorem rnum_ok (p : Nat) (q : Option Addr) (cap : Nat) (l : List Int) (a n : Nat) (w : World) (hS : Sep (fpL (rdr p q cap l a)) w w (rdr p q cap l a)) (ha : a + n ≤ l.length) (hn : n ≤ 4) (hl : l.length ≤ 100000) (hb : ∀ c ∈ l, 0 ≤ c ∧ c < 256) :
    Calls Try.prog 67 #[.pointer (at0 p), .int .i64 n] w fun e w' => e = .returned (.tuple #[.int .u32 (valB ((l.drop a).take n)), .int .i64 0]) ∧ Sep (fpL (rdr p q cap l a)) w w' (rdr p q cap l (a + n)) := by
  have H := Lib.hid (next_ok p q cap l a n w hS ha hl)
  have hb2 : ∀ c ∈ (l.drop a).take n, 0 ≤ c ∧ c < 256 := fun c hc => hb c (List.mem_of_mem_drop (List.mem_of_mem_take hc))
  have hlen : ((l.drop a).take n).length = n := by rw [List.length_take, List.length_drop]; omega
  have HB := Lib.hid hb2
  clear hS hb hb2
  generalize (l.drop a).take n = t at *
  have HT := Lib.hid hlen
  clear hlen
  go_enter Try.func67, Try.ntmps67
  go_wp2_with fail
  refine H.out.mono ?_
  rintro e w1 ⟨x, c, rfl, S1, R1⟩
  have HS1 := Lib.hid S1
  have HR := Lib.hid R1
  clear S1 R1 H
  go_wp2_with fail
  go_loopg [8, 19] n (fun g nv iv wr => ∃ k : Nat, k + g = n ∧ nv = .int .u32 (valB (t.take k)) ∧ iv = .int .i64 k ∧ wr = w1)
  case atStart => exact ⟨0, by omega, rfl, rfl, rfl⟩
  case round =>
    obtain ⟨k, hk, rfl, rfl, rfl⟩ := hrel
    by_cases g : k < n
    · have gl : k < t.length := by rw [HT.out]; exact g
      have ex : t[k]? = some t[k] := List.getElem?_eq_getElem gl
      obtain ⟨b, off, rfl, hc⟩ := HR.out.elem u8c_len (by decide) ex
      have c0 : wr.cell? ⟨b, off + k, none⟩ = some (.int .u8 t[k]) := by have := hc 0 _ rfl; rwa [Nat.mul_one] at this
      have hv := HB.out t[k] (List.getElem_mem _)
      have hV := val_bound (t.take k) (fun c hc => HB.out c (List.mem_of_mem_take hc))
      rw [List.length_take, HT.out, Nat.min_eq_left (by omega)] at hV
      have hs : valB (t.take (k + 1)) = valB (t.take k) * 256 + t[k] := by rw [List.take_add_one, ex]; exact valB_snoc _ _
      have HSn := Lib.hid hs
      clear hs hc ex
      generalize t[k] = y at *
      generalize valB (t.take k) = v at *
      go_wp2_with fail
      go_roundg (gk - 1)
      case measure => omega
      case rel => exact ⟨k + 1, by omega, by rw [u32_join v y ⟨hV.1, by have := pow_le3 (k := k) (by omega); omega⟩ hv, HSn.out], by go_num, rfl⟩
    · obtain rfl : k = n := by omega
      rw [List.take_of_length_le (by rw [HT.out]; exact Nat.le_refl _)]
      go_wp2_with fail
      go_ret2
      exact ⟨rfl, HS1.out⟩
theorem rOne_short (p : Nat) (q : Option Addr) (cap : Nat) (l : List Int) (a : Nat) (w : World) (hS : Blk w p RdT #[.slice q l.length cap, .int .i64 a]) (ha : a ≤ l.length) (hn : l.length - a < 1) (hl : l.length ≤ 100000) :
    Calls Try.prog 35 #[.pointer (at0 p)] w fun e w' => e = .returned (.tuple #[.int .u8 0, .int .i64 5]) ∧ Fr None w w' := by
  have H := Lib.hid (rnum_short p q cap l a 1 w hS ha hn (by decide) hl)
  clear hS
  go_enter Try.func35, Try.ntmps35
  go_wp2_with fail
  refine H.out.mono ?_
  rintro e w1 ⟨rfl, f1⟩
  have HF := Lib.hid f1
  clear f1 H
  go_wp2_with fail
  go_ret2
  exact ⟨rfl, HF.out⟩
theorem rOne_ok (p : Nat) (q : Option Addr) (cap : Nat) (l : List Int) (a : Nat) (w : World) (hS : Sep (fpL (rdr p q cap l a)) w w (rdr p q cap l a)) (ha : a + 1 ≤ l.length) (hl : l.length ≤ 100000) (hb : ∀ c ∈ l, 0 ≤ c ∧ c < 256) :
    Calls Try.prog 35 #[.pointer (at0 p)] w fun e w' => e = .returned (.tuple #[.int .u8 (valB ((l.drop a).take 1)), .int .i64 0]) ∧ Sep (fpL (rdr p q cap l a)) w w' (rdr p q cap l (a + 1)) := by
  have H := Lib.hid (rnum_ok p q cap l a 1 w hS ha (by decide) hl hb)
  have hV := val_bound ((l.drop a).take 1) (fun c hc => hb c (List.mem_of_mem_drop (List.mem_of_mem_take hc)))
  rw [List.length_take, List.length_drop, Nat.min_eq_left (by omega)] at hV
  clear hS hb
  generalize valB ((l.drop a).take 1) = v at *
  obtain ⟨hV1, hV2⟩ := hV
  have hV3 : v < 256 := by simpa using hV2
  clear hV2
  go_enter Try.func35, Try.ntmps35
  go_wp2_with fail
  refine H.out.mono ?_
  rintro e w1 ⟨rfl, S1⟩
  have HS := Lib.hid S1
  clear S1 H
  go_wp2_with fail
  go_ret2
  exact ⟨by first | rfl | (congr 3; omega), HS.out⟩
theorem rTwo_short (p : Nat) (q : Option Addr) (cap : Nat) (l : List Int) (a : Nat) (w : World) (hS : Blk w p RdT #[.slice q l.length cap, .int .i64 a]) (ha : a ≤ l.length) (hn : l.length - a < 2) (hl : l.length ≤ 100000) :
    Calls Try.prog 43 #[.pointer (at0 p)] w fun e w' => e = .returned (.tuple #[.int .u16 0, .int .i64 5]) ∧ Fr None w w' := by
  have H := Lib.hid (rnum_short p q cap l a 2 w hS ha hn (by decide) hl)
  clear hS
  go_enter Try.func43, Try.ntmps43
  go_wp2_with fail
  refine H.out.mono ?_
  rintro e w1 ⟨rfl, f1⟩
  have HF := Lib.hid f1
  clear f1 H
  go_wp2_with fail
  go_ret2
  exact ⟨rfl, HF.out⟩
theorem rTwo_ok (p : Nat) (q : Option Addr) (cap : Nat) (l : List Int) (a : Nat) (w : World) (hS : Sep (fpL (rdr p q cap l a)) w w (rdr p q cap l a)) (ha : a + 2 ≤ l.length) (hl : l.length ≤ 100000) (hb : ∀ c ∈ l, 0 ≤ c ∧ c < 256) :
    Calls Try.prog 43 #[.pointer (at0 p)] w fun e w' => e = .returned (.tuple #[.int .u16 (valB ((l.drop a).take 2)), .int .i64 0]) ∧ Sep (fpL (rdr p q cap l a)) w w' (rdr p q cap l (a + 2)) := by
  have H := Lib.hid (rnum_ok p q cap l a 2 w hS ha (by decide) hl hb)
  have hV := val_bound ((l.drop a).take 2) (fun c hc => hb c (List.mem_of_mem_drop (List.mem_of_mem_take hc)))
  rw [List.length_take, List.length_drop, Nat.min_eq_left (by omega)] at hV
  clear hS hb
  generalize valB ((l.drop a).take 2) = v at *
  obtain ⟨hV1, hV2⟩ := hV
  have hV3 : v < 65536 := by simpa using hV2
  clear hV2
  go_enter Try.func43, Try.ntmps43
  go_wp2_with fail
  refine H.out.mono ?_
  rintro e w1 ⟨rfl, S1⟩
  have HS := Lib.hid S1
  clear S1 H
  go_wp2_with fail
  go_ret2
  exact ⟨by first | rfl | (congr 3; omega), HS.out⟩
theorem rFour_short (p : Nat) (q : Option Addr) (cap : Nat) (l : List Int) (a : Nat) (w : World) (hS : Blk w p RdT #[.slice q l.length cap, .int .i64 a]) (ha : a ≤ l.length) (hn : l.length - a < 4) (hl : l.length ≤ 100000) :
    Calls Try.prog 44 #[.pointer (at0 p)] w fun e w' => e = .returned (.tuple #[.int .u32 0, .int .i64 5]) ∧ Fr None w w' := by
  have H := Lib.hid (rnum_short p q cap l a 4 w hS ha hn (by decide) hl)
  clear hS
  go_enter Try.func44, Try.ntmps44
  go_wp2_with fail
  refine H.out.mono ?_
  rintro e w1 ⟨rfl, f1⟩
  have HF := Lib.hid f1
  clear f1 H
  go_wp2_with fail
  go_ret2
  exact ⟨rfl, HF.out⟩
theorem rFour_ok (p : Nat) (q : Option Addr) (cap : Nat) (l : List Int) (a : Nat) (w : World) (hS : Sep (fpL (rdr p q cap l a)) w w (rdr p q cap l a)) (ha : a + 4 ≤ l.length) (hl : l.length ≤ 100000) (hb : ∀ c ∈ l, 0 ≤ c ∧ c < 256) :
    Calls Try.prog 44 #[.pointer (at0 p)] w fun e w' => e = .returned (.tuple #[.int .u32 (valB ((l.drop a).take 4)), .int .i64 0]) ∧ Sep (fpL (rdr p q cap l a)) w w' (rdr p q cap l (a + 4)) := by
  have H := Lib.hid (rnum_ok p q cap l a 4 w hS ha (by decide) hl hb)
  have hV := val_bound ((l.drop a).take 4) (fun c hc => hb c (List.mem_of_mem_drop (List.mem_of_mem_take hc)))
  rw [List.length_take, List.length_drop, Nat.min_eq_left (by omega)] at hV
  clear hS hb
  generalize valB ((l.drop a).take 4) = v at *
  obtain ⟨hV1, hV2⟩ := hV
  have hV3 : v < 4294967296 := by simpa using hV2
  clear hV2
  go_enter Try.func44, Try.ntmps44
  go_wp2_with fail
  refine H.out.mono ?_
  rintro e w1 ⟨rfl, S1⟩
  have HS := Lib.hid S1
  clear S1 H
  go_wp2_with fail
  go_ret2
  exact ⟨by first | rfl | (congr 3; omega), HS.out⟩
theorem rTake_short (p : Nat) (q : Option Addr) (cap : Nat) (l : List Int) (a n : Nat) (w : World) (hS : Blk w p RdT #[.slice q l.length cap, .int .i64 a]) (ha : a ≤ l.length) (hn : l.length - a < n) (hn2 : n ≤ 100000) (hl : l.length ≤ 100000) :
    Calls Try.prog 36 #[.pointer (at0 p), .int .i64 n] w fun e w' => ∃ v, e = .returned (.tuple #[v, .int .i64 5]) ∧ Fr None w w' := by
  have H := Lib.hid (next_short p q cap l a n w hS ha hn hn2 hl)
  clear hS
  obtain ⟨i, hi, hz0, hz1, hz2⟩ := info_parts u8Info
  have HI := Lib.hid (And.intro hi (And.intro hz0 (And.intro hz1 hz2))); clear hi hz0 hz1 hz2
  go_enter Try.func36, Try.ntmps36
  go_wp2_with fail
  refine H.out.mono ?_
  rintro e w1 ⟨rfl, f1⟩
  have HF := Lib.hid f1
  clear f1 H
  go_wp2_with (at_builtin; refine Hold.out ?_)
  refine Hold.mk ?_
  refine wpList_append_row _ rfl _ _ _ rfl 0 U8T i _ 1 1 Try.underlying27 HI.out.1 HI.out.2.1 HI.out.2.2.1 HI.out.2.2.2 rfl (by decide) _ 0 (fc u8c []) rfl (World.ownsRow_nil _ 0 U8T 1) none 0 0 (fc u8c []) rfl (Reads.empty _ _) (fc_one u8c_one _) (by simp [maxLen]) (by omega) (Nat.zero_le _) ?_
  intro q2 c2 w2 ho2 hf2 hb2
  have HF2 := Lib.hid (HF.out.trans (hf2.mono fun k _ h => by cases h))
  clear ho2 hf2 hb2
  go_wp2_with fail
  go_ret2
  exact ⟨_, rfl, HF2.out⟩
theorem rTake_ok (p : Nat) (q : Option Addr) (cap : Nat) (l : List Int) (a n : Nat) (w : World) (hS : Sep (fpL (rdr p q cap l a)) w w (rdr p q cap l a)) (ha : a + n ≤ l.length) (hl : l.length ≤ 100000) :
    Calls Try.prog 36 #[.pointer (at0 p), .int .i64 n] w fun e w' => ∃ x c, e = .returned (.tuple #[.slice x n c, .int .i64 0]) ∧ Sep (fpL (rdr p q cap l a)) w w' (brow x c ((l.drop a).take n) :: rdr p q cap l (a + n)) := by
  have H := Lib.hid (next_ok p q cap l a n w hS ha hl)
  have hlen : ((l.drop a).take n).length = n := by rw [List.length_take, List.length_drop]; omega
  clear hS
  generalize (l.drop a).take n = t at *
  subst hlen
  obtain ⟨i, hi, hz0, hz1, hz2⟩ := info_parts u8Info
  have HI := Lib.hid (And.intro hi (And.intro hz0 (And.intro hz1 hz2))); clear hi hz0 hz1 hz2
  go_enter Try.func36, Try.ntmps36
  go_wp2_with fail
  refine H.out.mono ?_
  rintro e w1 ⟨x, c, rfl, S1, R1⟩
  have HS := Lib.hid (S1.add (brow none 0 []) (Fr.refl None _) (Owns.nil u8c 1 U8T _) (fun k hk => by cases hk))
  have HR := Lib.hid R1
  clear S1 R1 H
  go_wp2_with (at_builtin; refine Hold.out ?_)
  refine Hold.mk ?_
  refine wpList_append_row _ rfl _ _ _ rfl 0 U8T i _ 1 1 Try.underlying27 HI.out.1 HI.out.2.1 HI.out.2.2.1 HI.out.2.2.2 rfl (by decide) _ 0 (fc u8c []) rfl (World.ownsRow_nil _ 0 U8T 1) x t.length c (fc u8c t) rfl HR.out (fc_one u8c_one _) (by simp [maxLen]; omega) (by omega) (Nat.zero_le _) ?_
  intro q2 c2 w2 ho2 hf2 hb2
  simp only [Nat.zero_add, fc_nil, List.nil_append] at ho2 hb2
  have S2 := HS.out.turn 0 rfl (brow q2 c2 t) hf2 (fun _ _ h => by cases h) ho2 (fun k hk => by
    have hk' : (Value.slice q2 t.length c2).ownBlock = some k := hk
    rcases hb2 with e | e
    · rw [e] at hk'; cases hk'
    · rw [e] at hk'; cases hk'; exact .inr (Nat.le_refl _))
  simp only [List.set_cons_succ, List.set_cons_zero] at S2
  have HS2 := Lib.hid S2
  clear S2 ho2 hf2 hb2 HS
  go_wp2_with fail
  go_ret2
  exact ⟨q2, c2, by simp, HS2.out⟩
end Go.Proofs.Ythkhfijfgpccbaa
