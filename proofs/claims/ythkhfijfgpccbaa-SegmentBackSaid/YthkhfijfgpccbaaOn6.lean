/- What an option says (option.says), the other kinds: walked. -/
import Derived.Test.YthkhfijfgpccbaaOn5
set_option linter.unusedVariables false
set_option linter.unusedSimpArgs false
namespace Go.Proofs.Ythkhfijfgpccbaa
open Go.RowKit Go.Und
attribute [local go_sem] Oper.semAt_some
attribute [local go_sem ↓] Go.wp_at_zero Go.wp_at_succ

set_option maxRecDepth 100000 in
set_option maxHeartbeats 2000000 in
theorem says4_any (po : Nat) (o : Opt) (qb : Option Addr) (cb : Nat) (a : Option Addr) (c : Nat) (t : List Int) (w : World) (hS : Sep (fpL (opx po o qb cb)) w w (opx po o qb cb)) (ht : Reads w 1 a t.length c (fc u8c t)) (hb : ∀ x ∈ t, 0 ≤ x ∧ x < 256) (hl : t.length ≤ 300) :
    Calls Try.prog 37 #[.pointer (at0 po), .int .u8 4, .slice a t.length c] w (SaysPost po o qb cb 4 t w) := by
  have HN := Lib.hid (newReader_any a c t w ht (by omega))
  have HB := Lib.hid hb
  have S := Lib.hid hS
  clear hS ht hb
  obtain ⟨mss, permit, ts, val, ecr, has, scale, blocks⟩ := o
  by_cases g : t.length = 0
  · have hs : saysS ⟨mss, permit, ts, val, ecr, has, scale, blocks⟩ 4 t = some ⟨mss, true, ts, val, ecr, has, scale, blocks⟩ := by unfold saysS; rw [if_neg (by decide), if_neg (by decide), if_pos rfl, if_pos g]
    have HS := Lib.hid hs
    have z9 : ((t.length : Int) == 0) = true := by simpa using g
    clear hs g
    go_enter Try.func37, Try.ntmps37
    go_wp2_with fail
    refine HN.out.mono ?_
    rintro e w1 ⟨p, q, cap, rfl, T1⟩
    have S1 := S.out.beside T1
    clear T1 S HN
    have z1b : w1.frozen? ⟨po, 1, none⟩ = false := (S1.at_ 2 rfl).frozen 1
    have y1b : w1.cell? ⟨po, 1, none⟩ = some (.bool permit) := (S1.at_ 2 rfl).cell 1
    have HS1 := Lib.hid (S1.set 2 rfl 1 (.bool true))
    clear S1
    go_wp2_with fail
    go_ret
    exact SaysPost.yes (q' := qb) (c' := cb) HS.out (HS1.out.drop (List.sublist_append_right (rdr p q cap t 0) (opx po ⟨mss, true, ts, val, ecr, has, scale, blocks⟩ qb cb)))
  · have hs : saysS ⟨mss, permit, ts, val, ecr, has, scale, blocks⟩ 4 t = none := by unfold saysS; rw [if_neg (by decide), if_neg (by decide), if_pos rfl, if_neg g]
    have HS := Lib.hid hs
    have z9 : ((t.length : Int) == 0) = false := by simpa using g
    clear hs g
    go_enter Try.func37, Try.ntmps37
    go_wp2_with fail
    refine HN.out.mono ?_
    rintro e w1 ⟨p, q, cap, rfl, T1⟩
    have S1 := S.out.beside T1
    clear T1 S HN
    have z1b : w1.frozen? ⟨po, 1, none⟩ = false := (S1.at_ 2 rfl).frozen 1
    have y1b : w1.cell? ⟨po, 1, none⟩ = some (.bool permit) := (S1.at_ 2 rfl).cell 1
    have HS1 := Lib.hid (S1.set 2 rfl 1 (.bool true))
    clear S1
    go_wp2_with fail
    go_ret
    exact SaysPost.no HS.out HS1.out.fr
set_option maxRecDepth 100000 in
set_option maxHeartbeats 2000000 in
theorem says8_any (po : Nat) (o : Opt) (qb : Option Addr) (cb : Nat) (a : Option Addr) (c : Nat) (t : List Int) (w : World) (hS : Sep (fpL (opx po o qb cb)) w w (opx po o qb cb)) (ht : Reads w 1 a t.length c (fc u8c t)) (hb : ∀ x ∈ t, 0 ≤ x ∧ x < 256) (hl : t.length ≤ 300) :
    Calls Try.prog 37 #[.pointer (at0 po), .int .u8 8, .slice a t.length c] w (SaysPost po o qb cb 8 t w) := by
  have HN := Lib.hid (newReader_any a c t w ht (by omega))
  have HB := Lib.hid hb
  have S := Lib.hid hS
  clear hS ht hb
  obtain ⟨mss, permit, ts, val, ecr, has, scale, blocks⟩ := o
  by_cases g : t.length = 8
  · have hs : saysS ⟨mss, permit, ts, val, ecr, has, scale, blocks⟩ 8 t = some ⟨mss, permit, true, valB ((t.drop 0).take 4), valB ((t.drop (0 + 4)).take 4), has, scale, blocks⟩ := by unfold saysS; rw [if_neg (by decide), if_neg (by decide), if_neg (by decide), if_pos rfl, if_pos g, show (t.drop (0 + 4)).take 4 = t.drop 4 from List.take_of_length_le (by rw [List.length_drop]; omega)]; rfl
    have HS := Lib.hid hs
    have z9 : ((t.length : Int) == 8) = true := by simp; omega
    have g8 : 8 ≤ t.length := by omega
    clear g
    clear hs
    go_enter Try.func37, Try.ntmps37
    go_wp2_with fail
    refine HN.out.mono ?_
    rintro e w1 ⟨p, q, cap, rfl, T1⟩
    have S1 := S.out.beside T1
    clear T1 S HN
    have z1c : w1.frozen? ⟨po, 2, none⟩ = false := (S1.at_ 2 rfl).frozen 2
    have y1c : w1.cell? ⟨po, 2, none⟩ = some (.bool ts) := (S1.at_ 2 rfl).cell 2
    have HS1 := Lib.hid (S1.set 2 rfl 2 (.bool true))
    clear S1
    go_wp2_with fail
    refine (rFour_ok p q cap t 0 _ HS1.out.head (by omega) (by omega) HB.out).mono ?_
    rintro e w2 ⟨rfl, T2⟩
    have S2 := HS1.out.did T2
    clear T2
    have z2d : w2.frozen? ⟨po, 3, none⟩ = false := (S2.at_ 2 rfl).frozen 3
    have y2d : w2.cell? ⟨po, 3, none⟩ = some (.int .u32 val) := (S2.at_ 2 rfl).cell 3
    have HS2 := Lib.hid (S2.set 2 rfl 3 (.int .u32 (valB ((t.drop 0).take 4))))
    clear S2 HS1
    go_wp2_with fail
    refine (rFour_ok p q cap t (0 + 4) _ HS2.out.head (by omega) (by omega) HB.out).mono ?_
    rintro e w3 ⟨rfl, T3⟩
    have S3 := HS2.out.did T3
    clear T3
    have z3e : w3.frozen? ⟨po, 4, none⟩ = false := (S3.at_ 2 rfl).frozen 4
    have y3e : w3.cell? ⟨po, 4, none⟩ = some (.int .u32 ecr) := (S3.at_ 2 rfl).cell 4
    have HS3 := Lib.hid (S3.set 2 rfl 4 (.int .u32 (valB ((t.drop (0 + 4)).take 4))))
    clear S3 HS2
    go_wp2_with fail
    go_ret
    exact SaysPost.yes (q' := qb) (c' := cb) HS.out (HS3.out.drop (List.sublist_append_right (rdr p q cap t (0 + 4 + 4)) (opx po ⟨mss, permit, true, valB ((t.drop 0).take 4), valB ((t.drop (0 + 4)).take 4), has, scale, blocks⟩ qb cb)))
  · rcases Nat.lt_or_ge t.length 4 with g4 | g4
    · have hs : saysS ⟨mss, permit, ts, val, ecr, has, scale, blocks⟩ 8 t = none := by unfold saysS; rw [if_neg (by decide), if_neg (by decide), if_neg (by decide), if_pos rfl, if_neg (by omega)]
      have HS := Lib.hid hs
      have z9 : ((t.length : Int) == 8) = false := by simp; omega
      clear g
      clear hs
      go_enter Try.func37, Try.ntmps37
      go_wp2_with fail
      refine HN.out.mono ?_
      rintro e w1 ⟨p, q, cap, rfl, T1⟩
      have S1 := S.out.beside T1
      clear T1 S HN
      have z1c : w1.frozen? ⟨po, 2, none⟩ = false := (S1.at_ 2 rfl).frozen 2
      have y1c : w1.cell? ⟨po, 2, none⟩ = some (.bool ts) := (S1.at_ 2 rfl).cell 2
      have HS1 := Lib.hid (S1.set 2 rfl 2 (.bool true))
      clear S1
      go_wp2_with fail
      refine (rFour_short p q cap t 0 _ (HS1.out.at_ 0 rfl) (by omega) (by omega) (by omega)).mono ?_
      rintro e w2 ⟨rfl, f2⟩
      have S2 := HS1.out.same f2
      clear f2
      have z2d : w2.frozen? ⟨po, 3, none⟩ = false := (S2.at_ 2 rfl).frozen 3
      have y2d : w2.cell? ⟨po, 3, none⟩ = some (.int .u32 val) := (S2.at_ 2 rfl).cell 3
      have HS2 := Lib.hid (S2.set 2 rfl 3 (.int .u32 (0)))
      clear S2 HS1
      go_wp2_with fail
      refine (rFour_short p q cap t 0 _ (HS2.out.at_ 0 rfl) (by omega) (by omega) (by omega)).mono ?_
      rintro e w3 ⟨rfl, f3⟩
      have S3 := HS2.out.same f3
      clear f3
      have z3e : w3.frozen? ⟨po, 4, none⟩ = false := (S3.at_ 2 rfl).frozen 4
      have y3e : w3.cell? ⟨po, 4, none⟩ = some (.int .u32 ecr) := (S3.at_ 2 rfl).cell 4
      have HS3 := Lib.hid (S3.set 2 rfl 4 (.int .u32 (0)))
      clear S3 HS2
      go_wp2_with fail
      go_ret
      exact SaysPost.no HS.out HS3.out.fr
    · rcases Nat.lt_or_ge t.length 8 with g8 | g8
      · have hs : saysS ⟨mss, permit, ts, val, ecr, has, scale, blocks⟩ 8 t = none := by unfold saysS; rw [if_neg (by decide), if_neg (by decide), if_neg (by decide), if_pos rfl, if_neg (by omega)]
        have HS := Lib.hid hs
        have z9 : ((t.length : Int) == 8) = false := by simp; omega
        clear g
        clear hs
        go_enter Try.func37, Try.ntmps37
        go_wp2_with fail
        refine HN.out.mono ?_
        rintro e w1 ⟨p, q, cap, rfl, T1⟩
        have S1 := S.out.beside T1
        clear T1 S HN
        have z1c : w1.frozen? ⟨po, 2, none⟩ = false := (S1.at_ 2 rfl).frozen 2
        have y1c : w1.cell? ⟨po, 2, none⟩ = some (.bool ts) := (S1.at_ 2 rfl).cell 2
        have HS1 := Lib.hid (S1.set 2 rfl 2 (.bool true))
        clear S1
        go_wp2_with fail
        refine (rFour_ok p q cap t 0 _ HS1.out.head (by omega) (by omega) HB.out).mono ?_
        rintro e w2 ⟨rfl, T2⟩
        have S2 := HS1.out.did T2
        clear T2
        have z2d : w2.frozen? ⟨po, 3, none⟩ = false := (S2.at_ 2 rfl).frozen 3
        have y2d : w2.cell? ⟨po, 3, none⟩ = some (.int .u32 val) := (S2.at_ 2 rfl).cell 3
        have HS2 := Lib.hid (S2.set 2 rfl 3 (.int .u32 (valB ((t.drop 0).take 4))))
        clear S2 HS1
        go_wp2_with fail
        refine (rFour_short p q cap t (0 + 4) _ (HS2.out.at_ 0 rfl) (by omega) (by omega) (by omega)).mono ?_
        rintro e w3 ⟨rfl, f3⟩
        have S3 := HS2.out.same f3
        clear f3
        have z3e : w3.frozen? ⟨po, 4, none⟩ = false := (S3.at_ 2 rfl).frozen 4
        have y3e : w3.cell? ⟨po, 4, none⟩ = some (.int .u32 ecr) := (S3.at_ 2 rfl).cell 4
        have HS3 := Lib.hid (S3.set 2 rfl 4 (.int .u32 (0)))
        clear S3 HS2
        go_wp2_with fail
        go_ret
        exact SaysPost.no HS.out HS3.out.fr
      · have hs : saysS ⟨mss, permit, ts, val, ecr, has, scale, blocks⟩ 8 t = none := by unfold saysS; rw [if_neg (by decide), if_neg (by decide), if_neg (by decide), if_pos rfl, if_neg (by omega)]
        have HS := Lib.hid hs
        have z9 : ((t.length : Int) == 8) = false := by simp; omega
        clear g
        clear hs
        go_enter Try.func37, Try.ntmps37
        go_wp2_with fail
        refine HN.out.mono ?_
        rintro e w1 ⟨p, q, cap, rfl, T1⟩
        have S1 := S.out.beside T1
        clear T1 S HN
        have z1c : w1.frozen? ⟨po, 2, none⟩ = false := (S1.at_ 2 rfl).frozen 2
        have y1c : w1.cell? ⟨po, 2, none⟩ = some (.bool ts) := (S1.at_ 2 rfl).cell 2
        have HS1 := Lib.hid (S1.set 2 rfl 2 (.bool true))
        clear S1
        go_wp2_with fail
        refine (rFour_ok p q cap t 0 _ HS1.out.head (by omega) (by omega) HB.out).mono ?_
        rintro e w2 ⟨rfl, T2⟩
        have S2 := HS1.out.did T2
        clear T2
        have z2d : w2.frozen? ⟨po, 3, none⟩ = false := (S2.at_ 2 rfl).frozen 3
        have y2d : w2.cell? ⟨po, 3, none⟩ = some (.int .u32 val) := (S2.at_ 2 rfl).cell 3
        have HS2 := Lib.hid (S2.set 2 rfl 3 (.int .u32 (valB ((t.drop 0).take 4))))
        clear S2 HS1
        go_wp2_with fail
        refine (rFour_ok p q cap t (0 + 4) _ HS2.out.head (by omega) (by omega) HB.out).mono ?_
        rintro e w3 ⟨rfl, T3⟩
        have S3 := HS2.out.did T3
        clear T3
        have z3e : w3.frozen? ⟨po, 4, none⟩ = false := (S3.at_ 2 rfl).frozen 4
        have y3e : w3.cell? ⟨po, 4, none⟩ = some (.int .u32 ecr) := (S3.at_ 2 rfl).cell 4
        have HS3 := Lib.hid (S3.set 2 rfl 4 (.int .u32 (valB ((t.drop (0 + 4)).take 4))))
        clear S3 HS2
        go_wp2_with fail
        go_ret
        exact SaysPost.no HS.out HS3.out.fr
set_option maxRecDepth 100000 in
set_option maxHeartbeats 2000000 in
theorem saysX_any (po : Nat) (o : Opt) (qb : Option Addr) (cb : Nat) (kind : Int) (a : Option Addr) (c : Nat) (t : List Int) (w : World) (hS : Sep (fpL (opx po o qb cb)) w w (opx po o qb cb)) (ht : Reads w 1 a t.length c (fc u8c t)) (hb : ∀ x ∈ t, 0 ≤ x ∧ x < 256) (hl : t.length ≤ 300) (hk : kind ≠ 2 ∧ kind ≠ 3 ∧ kind ≠ 4 ∧ kind ≠ 5 ∧ kind ≠ 8) :
    Calls Try.prog 37 #[.pointer (at0 po), .int .u8 kind, .slice a t.length c] w (SaysPost po o qb cb kind t w) := by
  have HN := Lib.hid (newReader_any a c t w ht (by omega))
  have HB := Lib.hid hb
  have S := Lib.hid hS
  clear hS ht hb
  have hs : saysS o kind t = some o := by unfold saysS; rw [if_neg hk.1, if_neg hk.2.1, if_neg hk.2.2.1, if_neg hk.2.2.2.2, if_neg hk.2.2.2.1]
  have HS := Lib.hid hs
  have k2 : (kind == 2) = false := by simpa using hk.1
  have k3 : (kind == 3) = false := by simpa using hk.2.1
  have k4 : (kind == 4) = false := by simpa using hk.2.2.1
  have k5 : (kind == 5) = false := by simpa using hk.2.2.2.1
  have k8 : (kind == 8) = false := by simpa using hk.2.2.2.2
  clear hk hs
  go_enter Try.func37, Try.ntmps37
  go_wp2_with fail
  refine HN.out.mono ?_
  rintro e w1 ⟨p, q, cap, rfl, T1⟩
  have S1 := S.out.beside T1
  clear T1 S HN
  have HS1 := Lib.hid S1
  clear S1
  go_wp2_with fail
  go_ret
  exact SaysPost.yes (q' := qb) (c' := cb) HS.out (HS1.out.drop (List.sublist_append_right (rdr p q cap t 0) (opx po o qb cb)))
end Go.Proofs.Ythkhfijfgpccbaa
