/- What an option says (option.says), walked. -/
import Derived.Test.YthkhfijfgpccbaaOn4
set_option linter.unusedVariables false
set_option linter.unusedSimpArgs false
namespace Go.Proofs.Ythkhfijfgpccbaa
open Go.RowKit Go.Und
attribute [local go_sem] Oper.semAt_some
attribute [local go_sem ↓] Go.wp_at_zero Go.wp_at_succ

abbrev blrow (q : Option Addr) (c : Nat) (l : List (Int × Int)) : Ob := Ob.row 0 BlT 2 (.slice q l.length c) l.length (fc blc l)
abbrev opx (po : Nat) (o : Opt) (qb : Option Addr) (cb : Nat) : List Ob := [Ob.blk po OpT (optc o qb cb), blrow qb cb o.blocks]
def SaysPost (po : Nat) (o : Opt) (qb : Option Addr) (cb : Nat) (kind : Int) (t : List Int) (w : World) (e : Ending) (w' : World) : Prop :=
  (saysS o kind t = none → e = .returned (.bool false) ∧ Fr (fpL (opx po o qb cb)) w w') ∧
  ∀ o', saysS o kind t = some o' → e = .returned (.bool true) ∧ ∃ q' c', Sep (fpL (opx po o qb cb)) w w' (opx po o' q' c')
section
variable {po : Nat} {o : Opt} {qb : Option Addr} {cb : Nat} {kind : Int} {t : List Int} {w w' : World}
theorem SaysPost.no (hs : saysS o kind t = none) (f : Fr (fpL (opx po o qb cb)) w w') : SaysPost po o qb cb kind t w (.returned (.bool false)) w' :=
  ⟨fun _ => ⟨rfl, f⟩, fun o' h => (by rw [hs] at h; cases h)⟩
theorem SaysPost.yes {o' : Opt} {q' : Option Addr} {c' : Nat} (hs : saysS o kind t = some o') (S : Sep (fpL (opx po o qb cb)) w w' (opx po o' q' c')) : SaysPost po o qb cb kind t w (.returned (.bool true)) w' :=
  ⟨fun h => (by rw [hs] at h; cases h), fun o'' h => (by rw [hs] at h; cases h; exact ⟨rfl, q', c', S⟩)⟩
end
set_option maxRecDepth 100000 in
set_option maxHeartbeats 2000000 in
theorem says2_any (po : Nat) (o : Opt) (qb : Option Addr) (cb : Nat) (a : Option Addr) (c : Nat) (t : List Int) (w : World) (hS : Sep (fpL (opx po o qb cb)) w w (opx po o qb cb)) (ht : Reads w 1 a t.length c (fc u8c t)) (hb : ∀ x ∈ t, 0 ≤ x ∧ x < 256) (hl : t.length ≤ 300) :
    Calls Try.prog 37 #[.pointer (at0 po), .int .u8 2, .slice a t.length c] w (SaysPost po o qb cb 2 t w) := by
  have HN := Lib.hid (newReader_any a c t w ht (by omega))
  have HB := Lib.hid hb
  have S := Lib.hid hS
  clear hS ht hb
  obtain ⟨mss, permit, ts, val, ecr, has, scale, blocks⟩ := o
  by_cases g : 2 ≤ t.length
  · have hv := val_bound ((t.drop 0).take 2) (fun x hx => HB.out x (List.mem_of_mem_drop (List.mem_of_mem_take hx)))
    rw [List.length_take, List.length_drop, Nat.min_eq_left (by omega)] at hv
    have HV := Lib.hid (show t.length = 2 → valB ((t.drop 0).take 2) = valB t from fun h => by rw [List.drop_zero, List.take_of_length_le (by omega)])
    have hv0 : 0 ≤ valB ((t.drop 0).take 2) ∧ valB ((t.drop 0).take 2) < 65536 := ⟨hv.1, by have := hv.2; first | omega | (simp at this; omega)⟩
    clear hv
    generalize hvv : valB ((t.drop 0).take 2) = v at *
    have HVV := Lib.hid hvv
    clear hvv
    by_cases g2 : t.length = 2
    · have hs : saysS ⟨mss, permit, ts, val, ecr, has, scale, blocks⟩ 2 t = some ⟨v, permit, ts, val, ecr, has, scale, blocks⟩ := by
        unfold saysS; rw [if_pos rfl, if_pos g2, ← HV.out g2]
      have HS := Lib.hid hs
      have z9 : (((t.length - (0 + 2) : Nat) : Int) == 0) = true := by simp; omega
      clear hs g2
      go_enter Try.func37, Try.ntmps37
      go_wp2_with fail
      refine HN.out.mono ?_
      rintro e w1 ⟨p, q, cap, rfl, T1⟩
      have S1 := S.out.beside T1
      clear T1 S HN
      have HT := Lib.hid (rTwo_ok p q cap t 0 w1 S1.head (by omega) (by omega) HB.out)
      rw [HVV.out] at HT
      have HS1 := Lib.hid S1
      clear S1
      go_wp2_with fail
      refine HT.out.mono ?_
      rintro e w2 ⟨rfl, T2⟩
      have S2 := HS1.out.did T2
      have z3a : w2.frozen? ⟨po, 0, none⟩ = false := (S2.at_ 2 rfl).frozen 0
      have y3a : w2.cell? ⟨po, 0, none⟩ = some (.int .i64 mss) := (S2.at_ 2 rfl).cell 0
      have S3 := S2.set 2 rfl 0 (.int .i64 v)
      have HS3 := Lib.hid S3
      clear S2 T2 HT HS1 S3
      go_wp2_with fail
      refine (rLeft_any p q cap t (0 + 2) _ (HS3.out.at_ 0 rfl) (by omega) (by omega)).mono ?_
      rintro e w4 ⟨rfl, f4⟩
      have HS4 := Lib.hid (HS3.out.same f4)
      clear f4 HS3
      go_wp2_with fail
      go_ret
      exact SaysPost.yes (q' := qb) (c' := cb) HS.out (HS4.out.drop (List.sublist_append_right (rdr p q cap t (0 + 2)) (opx po ⟨v, permit, ts, val, ecr, has, scale, blocks⟩ qb cb)))
    · have hs : saysS ⟨mss, permit, ts, val, ecr, has, scale, blocks⟩ 2 t = none := by
        unfold saysS; rw [if_pos rfl, if_neg g2]
      have HS := Lib.hid hs
      have z9 : (((t.length - (0 + 2) : Nat) : Int) == 0) = false := by simp; omega
      clear hs g2
      go_enter Try.func37, Try.ntmps37
      go_wp2_with fail
      refine HN.out.mono ?_
      rintro e w1 ⟨p, q, cap, rfl, T1⟩
      have S1 := S.out.beside T1
      clear T1 S HN
      have HT := Lib.hid (rTwo_ok p q cap t 0 w1 S1.head (by omega) (by omega) HB.out)
      rw [HVV.out] at HT
      have HS1 := Lib.hid S1
      clear S1
      go_wp2_with fail
      refine HT.out.mono ?_
      rintro e w2 ⟨rfl, T2⟩
      have S2 := HS1.out.did T2
      have z3a : w2.frozen? ⟨po, 0, none⟩ = false := (S2.at_ 2 rfl).frozen 0
      have y3a : w2.cell? ⟨po, 0, none⟩ = some (.int .i64 mss) := (S2.at_ 2 rfl).cell 0
      have S3 := S2.set 2 rfl 0 (.int .i64 v)
      have HS3 := Lib.hid S3
      clear S2 T2 HT HS1 S3
      go_wp2_with fail
      refine (rLeft_any p q cap t (0 + 2) _ (HS3.out.at_ 0 rfl) (by omega) (by omega)).mono ?_
      rintro e w4 ⟨rfl, f4⟩
      have HS4 := Lib.hid (HS3.out.same f4)
      clear f4 HS3
      go_wp2_with fail
      go_ret
      exact SaysPost.no HS.out HS4.out.fr
  · have hs : saysS ⟨mss, permit, ts, val, ecr, has, scale, blocks⟩ 2 t = none := by unfold saysS; simp; omega
    have HS := Lib.hid hs
    clear hs
    go_enter Try.func37, Try.ntmps37
    go_wp2_with fail
    refine HN.out.mono ?_
    rintro e w1 ⟨p, q, cap, rfl, T1⟩
    have S1 := S.out.beside T1
    clear T1 S HN
    have hn : t.length - 0 < 2 := by omega
    have HT := Lib.hid (rTwo_short p q cap t 0 w1 (S1.at_ 0 rfl) (Nat.zero_le _) hn (by omega))
    have z1a : w1.frozen? ⟨po, 0, none⟩ = false := (S1.at_ 2 rfl).frozen 0
    have y1a : w1.cell? ⟨po, 0, none⟩ = some (.int .i64 mss) := (S1.at_ 2 rfl).cell 0
    have HS1 := Lib.hid S1
    clear S1 hn
    go_wp2_with fail
    refine HT.out.mono ?_
    rintro e w2 ⟨rfl, f2⟩
    have S2 := HS1.out.same f2
    have z2a : w2.frozen? ⟨po, 0, none⟩ = false := (S2.at_ 2 rfl).frozen 0
    have y2a : w2.cell? ⟨po, 0, none⟩ = some (.int .i64 mss) := (S2.at_ 2 rfl).cell 0
    have HS2 := Lib.hid S2
    clear S2 f2 HS1 HT
    go_wp2_with fail
    go_ret
    exact SaysPost.no HS.out (HS2.out.set 2 rfl 0 (.int .i64 0)).fr
set_option maxRecDepth 100000 in
set_option maxHeartbeats 2000000 in
theorem says3_any (po : Nat) (o : Opt) (qb : Option Addr) (cb : Nat) (a : Option Addr) (c : Nat) (t : List Int) (w : World) (hS : Sep (fpL (opx po o qb cb)) w w (opx po o qb cb)) (ht : Reads w 1 a t.length c (fc u8c t)) (hb : ∀ x ∈ t, 0 ≤ x ∧ x < 256) (hl : t.length ≤ 300) :
    Calls Try.prog 37 #[.pointer (at0 po), .int .u8 3, .slice a t.length c] w (SaysPost po o qb cb 3 t w) := by
  have HN := Lib.hid (newReader_any a c t w ht (by omega))
  have HB := Lib.hid hb
  have S := Lib.hid hS
  clear hS ht hb
  obtain ⟨mss, permit, ts, val, ecr, has, scale, blocks⟩ := o
  by_cases g : 1 ≤ t.length
  · have hv := val_bound ((t.drop 0).take 1) (fun x hx => HB.out x (List.mem_of_mem_drop (List.mem_of_mem_take hx)))
    rw [List.length_take, List.length_drop, Nat.min_eq_left (by omega)] at hv
    have HV := Lib.hid (show t.length = 1 → valB ((t.drop 0).take 1) = valB t from fun h => by rw [List.drop_zero, List.take_of_length_le (by omega)])
    have hv0 : 0 ≤ valB ((t.drop 0).take 1) ∧ valB ((t.drop 0).take 1) < 65536 := ⟨hv.1, by have := hv.2; first | omega | (simp at this; omega)⟩
    clear hv
    generalize hvv : valB ((t.drop 0).take 1) = v at *
    have HVV := Lib.hid hvv
    clear hvv
    rcases Int.lt_or_le 14 v with gv | gv
    · have e14 : min v 14 = 14 := by omega
      have HE := Lib.hid e14
      clear e14
      by_cases g2 : t.length = 1
      · have hs : saysS ⟨mss, permit, ts, val, ecr, has, scale, blocks⟩ 3 t = some ⟨mss, permit, ts, val, ecr, true, 14, blocks⟩ := by
          unfold saysS; rw [if_neg (by decide), if_pos rfl, if_pos g2, ← HV.out g2, HE.out]
        have HS := Lib.hid hs
        have z9 : (((t.length - (0 + 1) : Nat) : Int) == 0) = true := by simp; omega
        clear hs g2
        go_enter Try.func37, Try.ntmps37
        go_wp2_with fail
        refine HN.out.mono ?_
        rintro e w1 ⟨p, q, cap, rfl, T1⟩
        have S1 := S.out.beside T1
        clear T1 S HN
        have HT := Lib.hid (rOne_ok p q cap t 0 w1 S1.head (by omega) (by omega) HB.out)
        rw [HVV.out] at HT
        have HS1 := Lib.hid S1
        clear S1
        go_wp2_with fail
        refine HT.out.mono ?_
        rintro e w2 ⟨rfl, T2⟩
        have S2 := HS1.out.did T2
        have z3f : w2.frozen? ⟨po, 5, none⟩ = false := (S2.at_ 2 rfl).frozen 5
        have y3f : w2.cell? ⟨po, 5, none⟩ = some (.bool has) := (S2.at_ 2 rfl).cell 5
        have z3g : w2.frozen? ⟨po, 6, none⟩ = false := (S2.at_ 2 rfl).frozen 6
        have y3g : w2.cell? ⟨po, 6, none⟩ = some (.int .i64 scale) := (S2.at_ 2 rfl).cell 6
        have S3 := (S2.set 2 rfl 5 (.bool true)).set 2 rfl 6 (.int .i64 14)
        have HS3 := Lib.hid S3
        clear S2 T2 HT HS1 S3
        go_wp2_with fail
        refine (rLeft_any p q cap t (0 + 1) _ (HS3.out.at_ 0 rfl) (by omega) (by omega)).mono ?_
        rintro e w4 ⟨rfl, f4⟩
        have HS4 := Lib.hid (HS3.out.same f4)
        clear f4 HS3
        go_wp2_with fail
        go_ret
        exact SaysPost.yes (q' := qb) (c' := cb) HS.out (HS4.out.drop (List.sublist_append_right (rdr p q cap t (0 + 1)) (opx po ⟨mss, permit, ts, val, ecr, true, 14, blocks⟩ qb cb)))
      · have hs : saysS ⟨mss, permit, ts, val, ecr, has, scale, blocks⟩ 3 t = none := by
          unfold saysS; rw [if_neg (by decide), if_pos rfl, if_neg g2]
        have HS := Lib.hid hs
        have z9 : (((t.length - (0 + 1) : Nat) : Int) == 0) = false := by simp; omega
        clear hs g2
        go_enter Try.func37, Try.ntmps37
        go_wp2_with fail
        refine HN.out.mono ?_
        rintro e w1 ⟨p, q, cap, rfl, T1⟩
        have S1 := S.out.beside T1
        clear T1 S HN
        have HT := Lib.hid (rOne_ok p q cap t 0 w1 S1.head (by omega) (by omega) HB.out)
        rw [HVV.out] at HT
        have HS1 := Lib.hid S1
        clear S1
        go_wp2_with fail
        refine HT.out.mono ?_
        rintro e w2 ⟨rfl, T2⟩
        have S2 := HS1.out.did T2
        have z3f : w2.frozen? ⟨po, 5, none⟩ = false := (S2.at_ 2 rfl).frozen 5
        have y3f : w2.cell? ⟨po, 5, none⟩ = some (.bool has) := (S2.at_ 2 rfl).cell 5
        have z3g : w2.frozen? ⟨po, 6, none⟩ = false := (S2.at_ 2 rfl).frozen 6
        have y3g : w2.cell? ⟨po, 6, none⟩ = some (.int .i64 scale) := (S2.at_ 2 rfl).cell 6
        have S3 := (S2.set 2 rfl 5 (.bool true)).set 2 rfl 6 (.int .i64 14)
        have HS3 := Lib.hid S3
        clear S2 T2 HT HS1 S3
        go_wp2_with fail
        refine (rLeft_any p q cap t (0 + 1) _ (HS3.out.at_ 0 rfl) (by omega) (by omega)).mono ?_
        rintro e w4 ⟨rfl, f4⟩
        have HS4 := Lib.hid (HS3.out.same f4)
        clear f4 HS3
        go_wp2_with fail
        go_ret
        exact SaysPost.no HS.out HS4.out.fr
    · have e14 : min v 14 = v := by omega
      have HE := Lib.hid e14
      clear e14
      by_cases g2 : t.length = 1
      · have hs : saysS ⟨mss, permit, ts, val, ecr, has, scale, blocks⟩ 3 t = some ⟨mss, permit, ts, val, ecr, true, v, blocks⟩ := by
          unfold saysS; rw [if_neg (by decide), if_pos rfl, if_pos g2, ← HV.out g2, HE.out]
        have HS := Lib.hid hs
        have z9 : (((t.length - (0 + 1) : Nat) : Int) == 0) = true := by simp; omega
        clear hs g2
        go_enter Try.func37, Try.ntmps37
        go_wp2_with fail
        refine HN.out.mono ?_
        rintro e w1 ⟨p, q, cap, rfl, T1⟩
        have S1 := S.out.beside T1
        clear T1 S HN
        have HT := Lib.hid (rOne_ok p q cap t 0 w1 S1.head (by omega) (by omega) HB.out)
        rw [HVV.out] at HT
        have HS1 := Lib.hid S1
        clear S1
        go_wp2_with fail
        refine HT.out.mono ?_
        rintro e w2 ⟨rfl, T2⟩
        have S2 := HS1.out.did T2
        have z3f : w2.frozen? ⟨po, 5, none⟩ = false := (S2.at_ 2 rfl).frozen 5
        have y3f : w2.cell? ⟨po, 5, none⟩ = some (.bool has) := (S2.at_ 2 rfl).cell 5
        have z3g : w2.frozen? ⟨po, 6, none⟩ = false := (S2.at_ 2 rfl).frozen 6
        have y3g : w2.cell? ⟨po, 6, none⟩ = some (.int .i64 scale) := (S2.at_ 2 rfl).cell 6
        have S3 := (S2.set 2 rfl 5 (.bool true)).set 2 rfl 6 (.int .i64 v)
        have HS3 := Lib.hid S3
        clear S2 T2 HT HS1 S3
        go_wp2_with fail
        refine (rLeft_any p q cap t (0 + 1) _ (HS3.out.at_ 0 rfl) (by omega) (by omega)).mono ?_
        rintro e w4 ⟨rfl, f4⟩
        have HS4 := Lib.hid (HS3.out.same f4)
        clear f4 HS3
        go_wp2_with fail
        go_ret
        exact SaysPost.yes (q' := qb) (c' := cb) HS.out (HS4.out.drop (List.sublist_append_right (rdr p q cap t (0 + 1)) (opx po ⟨mss, permit, ts, val, ecr, true, v, blocks⟩ qb cb)))
      · have hs : saysS ⟨mss, permit, ts, val, ecr, has, scale, blocks⟩ 3 t = none := by
          unfold saysS; rw [if_neg (by decide), if_pos rfl, if_neg g2]
        have HS := Lib.hid hs
        have z9 : (((t.length - (0 + 1) : Nat) : Int) == 0) = false := by simp; omega
        clear hs g2
        go_enter Try.func37, Try.ntmps37
        go_wp2_with fail
        refine HN.out.mono ?_
        rintro e w1 ⟨p, q, cap, rfl, T1⟩
        have S1 := S.out.beside T1
        clear T1 S HN
        have HT := Lib.hid (rOne_ok p q cap t 0 w1 S1.head (by omega) (by omega) HB.out)
        rw [HVV.out] at HT
        have HS1 := Lib.hid S1
        clear S1
        go_wp2_with fail
        refine HT.out.mono ?_
        rintro e w2 ⟨rfl, T2⟩
        have S2 := HS1.out.did T2
        have z3f : w2.frozen? ⟨po, 5, none⟩ = false := (S2.at_ 2 rfl).frozen 5
        have y3f : w2.cell? ⟨po, 5, none⟩ = some (.bool has) := (S2.at_ 2 rfl).cell 5
        have z3g : w2.frozen? ⟨po, 6, none⟩ = false := (S2.at_ 2 rfl).frozen 6
        have y3g : w2.cell? ⟨po, 6, none⟩ = some (.int .i64 scale) := (S2.at_ 2 rfl).cell 6
        have S3 := (S2.set 2 rfl 5 (.bool true)).set 2 rfl 6 (.int .i64 v)
        have HS3 := Lib.hid S3
        clear S2 T2 HT HS1 S3
        go_wp2_with fail
        refine (rLeft_any p q cap t (0 + 1) _ (HS3.out.at_ 0 rfl) (by omega) (by omega)).mono ?_
        rintro e w4 ⟨rfl, f4⟩
        have HS4 := Lib.hid (HS3.out.same f4)
        clear f4 HS3
        go_wp2_with fail
        go_ret
        exact SaysPost.no HS.out HS4.out.fr
  · have hs : saysS ⟨mss, permit, ts, val, ecr, has, scale, blocks⟩ 3 t = none := by unfold saysS; simp; omega
    have HS := Lib.hid hs
    clear hs
    go_enter Try.func37, Try.ntmps37
    go_wp2_with fail
    refine HN.out.mono ?_
    rintro e w1 ⟨p, q, cap, rfl, T1⟩
    have S1 := S.out.beside T1
    clear T1 S HN
    have hn : t.length - 0 < 1 := by omega
    have HT := Lib.hid (rOne_short p q cap t 0 w1 (S1.at_ 0 rfl) (Nat.zero_le _) hn (by omega))
    have z1f : w1.frozen? ⟨po, 5, none⟩ = false := (S1.at_ 2 rfl).frozen 5
    have y1f : w1.cell? ⟨po, 5, none⟩ = some (.bool has) := (S1.at_ 2 rfl).cell 5
    have z1g : w1.frozen? ⟨po, 6, none⟩ = false := (S1.at_ 2 rfl).frozen 6
    have y1g : w1.cell? ⟨po, 6, none⟩ = some (.int .i64 scale) := (S1.at_ 2 rfl).cell 6
    have HS1 := Lib.hid S1
    clear S1 hn
    go_wp2_with fail
    refine HT.out.mono ?_
    rintro e w2 ⟨rfl, f2⟩
    have S2 := HS1.out.same f2
    have z2f : w2.frozen? ⟨po, 5, none⟩ = false := (S2.at_ 2 rfl).frozen 5
    have y2f : w2.cell? ⟨po, 5, none⟩ = some (.bool has) := (S2.at_ 2 rfl).cell 5
    have z2g : w2.frozen? ⟨po, 6, none⟩ = false := (S2.at_ 2 rfl).frozen 6
    have y2g : w2.cell? ⟨po, 6, none⟩ = some (.int .i64 scale) := (S2.at_ 2 rfl).cell 6
    have HS2 := Lib.hid S2
    clear S2 f2 HS1 HT
    go_wp2_with fail
    go_ret
    exact SaysPost.no HS.out ((HS2.out.set 2 rfl 5 (.bool true)).set 2 rfl 6 (.int .i64 0)).fr
end Go.Proofs.Ythkhfijfgpccbaa
