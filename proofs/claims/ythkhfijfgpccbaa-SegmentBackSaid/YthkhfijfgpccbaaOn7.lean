/- What an option says (option.says): blocks; and all kinds: walked. -/
import Derived.Test.YthkhfijfgpccbaaOn6
set_option linter.unusedVariables false
set_option linter.unusedSimpArgs false
namespace Go.Proofs.Ythkhfijfgpccbaa
open Go.RowKit Go.Und
attribute [local go_sem] Oper.semAt_some
attribute [local go_sem ↓] Go.wp_at_zero Go.wp_at_succ

theorem blInfo : (Try.prog.info? BlT).map (fun i => (i.zero, i.size, i.bytes)) = some (some (.agg #[.int .u32 0, .int .u32 0]), 2, 8) := by kernel_rfl
theorem blks_snoc (k : Nat) : ∀ t, blks (k + 1) t = blks k t ++ [(valB ((t.drop (8 * k)).take 4), valB ((t.drop (8 * k + 4)).take 4))] := by
  induction k with
  | zero => intro t; rfl
  | succ k ih =>
    intro t
    rw [blks, ih, blks, List.cons_append, List.drop_drop, List.drop_drop, show 8 + 8 * k = 8 * (k + 1) by omega, show 8 + (8 * k + 4) = 8 * (k + 1) + 4 by omega]
theorem opx_more {D : Nat → Prop} {w0 w : World} {po p : Nat} {q q' : Option Addr} {cap c at_ : Nat} {t : List Int} {mss : Int} {permit ts : Bool} {val ecr : Int} {has : Bool} {scale : Int} {l : List (Int × Int)} {y : Int × Int}
    (S : Sep D w0 w (rdr p q cap t at_ ++ [Ob.blk po OpT #[.int .i64 mss, .bool permit, .bool ts, .int .u32 val, .int .u32 ecr, .bool has, .int .i64 scale, .slice q' (l.length + 1) c], Ob.row 0 BlT 2 (.slice q' (l.length + 1) c) (l.length + 1) (fc blc l ++ fc blc [y])])) :
    Sep D w0 w (rdr p q cap t at_ ++ opx po ⟨mss, permit, ts, val, ecr, has, scale, l ++ [y]⟩ q' c) := by
  rw [← fc_append, show l.length + 1 = (l ++ [y]).length by simp] at S
  exact S
set_option maxRecDepth 100000 in
set_option maxHeartbeats 2000000 in
theorem says5_any (po : Nat) (o : Opt) (qb : Option Addr) (cb : Nat) (a : Option Addr) (c : Nat) (t : List Int) (w : World) (hS : Sep (fpL (opx po o qb cb)) w w (opx po o qb cb)) (ht : Reads w 1 a t.length c (fc u8c t)) (hb : ∀ x ∈ t, 0 ≤ x ∧ x < 256) (hl : t.length ≤ 300) :
    Calls Try.prog 37 #[.pointer (at0 po), .int .u8 5, .slice a t.length c] w (SaysPost po o qb cb 5 t w) := by
  have HN := Lib.hid (newReader_any a c t w ht (by omega))
  have HB := Lib.hid hb
  have S := Lib.hid hS
  clear hS ht hb
  obtain ⟨mss, permit, ts, val, ecr, has, scale, blocks⟩ := o
  obtain ⟨i, hi, hz0, hz1, hz2⟩ := info_parts blInfo
  have HI := Lib.hid (And.intro hi (And.intro hz0 (And.intro hz1 hz2))); clear hi hz0 hz1 hz2
  go_enter Try.func37, Try.ntmps37
  go_wp2_with fail
  refine HN.out.mono ?_
  rintro e w1 ⟨p, q, cap, rfl, T1⟩
  have S1 := S.out.beside T1
  clear T1 S HN
  have z1h : w1.frozen? ⟨po, 7, none⟩ = false := (S1.at_ 2 rfl).frozen 7
  have y1h : w1.cell? ⟨po, 7, none⟩ = some (.slice qb blocks.length cb) := (S1.at_ 2 rfl).cell 7
  have S2 := (S1.set 2 rfl 7 (.slice none 0 0)).add (blrow none 0 []) (Fr.refl None _) (Owns.nil blc 2 BlT _) (fun k hk => by cases hk)
  have S3 : Sep (fpL (opx po ⟨mss, permit, ts, val, ecr, has, scale, blocks⟩ qb cb)) w (w1.setCell ⟨po, 7, none⟩ (.slice none 0 0)) (rdr p q cap t 0 ++ opx po ⟨mss, permit, ts, val, ecr, has, scale, []⟩ none 0) :=
    (S2.drop (List.sublist_append_left [blrow none 0 [], Ob.blk p RdT #[.slice q t.length cap, .int .i64 (0 : Nat)], brow q cap t, Ob.blk po OpT (optc ⟨mss, permit, ts, val, ecr, has, scale, []⟩ none 0)] [blrow qb cb blocks])).perm (List.perm_append_comm (l₁ := [blrow none 0 []]) (l₂ := [Ob.blk p RdT #[.slice q t.length cap, .int .i64 (0 : Nat)], brow q cap t, Ob.blk po OpT (optc ⟨mss, permit, ts, val, ecr, has, scale, []⟩ none 0)]))
  have HS3 := Lib.hid S3
  clear S1 S2 S3
  go_wp2_with fail
  go_loopg [] (t.length / 8) (fun g wr => ∃ (k : Nat) (q' : Option Addr) (c' : Nat), k + g = t.length / 8 ∧ Sep (fpL (opx po ⟨mss, permit, ts, val, ecr, has, scale, blocks⟩ qb cb)) w wr (rdr p q cap t (8 * k) ++ opx po ⟨mss, permit, ts, val, ecr, has, scale, blks k t⟩ q' c'))
  case atStart => exact ⟨0, none, 0, by omega, HS3.out⟩
  case round =>
    clear HS3
    obtain ⟨k, q4, c4, hk, S4⟩ := hrel
    have hbl : (blks k t).length = k := blks_len k t
    have HL := Lib.hid (rLeft_any p q cap t (8 * k) wr (S4.at_ 0 rfl) (by omega) (by omega))
    by_cases g : k < t.length / 8
    · have z1 : (8 : Int) ≤ ((t.length - 8 * k : Nat) : Int) := by omega
      have hsn := blks_snoc k t
      have HSN := Lib.hid hsn
      have HS4 := Lib.hid S4
      have h300 : (blks k t).length ≤ 300 := by rw [hbl]; omega
      clear S4 hsn hbl
      go_wp2_with fail
      refine HL.out.mono ?_
      rintro e w5 ⟨rfl, f5⟩
      have HS5 := Lib.hid (HS4.out.same f5)
      clear f5 HS4 HL
      go_wp2_with fail
      refine (rFour_ok p q cap t (8 * k) _ HS5.out.self.head (by omega) (by omega) HB.out).mono ?_
      rintro e w6 ⟨rfl, T6⟩
      have HS6 := Lib.hid (HS5.out.did T6)
      clear T6 HS5
      go_wp2_with fail
      refine (rFour_ok p q cap t (8 * k + 4) _ HS6.out.self.head (by omega) (by omega) HB.out).mono ?_
      rintro e w7 ⟨rfl, T7⟩
      have S7 := HS6.out.did T7
      generalize blks k t = l at *
      have y7 : w7.cell? ⟨po, 7, none⟩ = some (.slice q4 l.length c4) := (S7.at_ 2 rfl).cell 7
      have HS7 := Lib.hid S7
      clear T7 HS6 S7
      generalize valB ((t.drop (8 * k)).take 4) = v1 at *
      generalize valB ((t.drop (8 * k + 4)).take 4) = v2 at *
      go_wp2_with (at_builtin; refine Hold.out ?_)
      refine Hold.mk ?_
      refine wpList_append_row _ rfl _ _ _ rfl 0 BlT i _ 2 8 Try.underlying23 HI.out.1 HI.out.2.1 HI.out.2.2.1 HI.out.2.2.2 rfl (by decide) _ l.length (fc blc l) rfl ((HS7.out.skip _).at_ 3 rfl) (some ⟨w7.heap.size, 0, none⟩) 1 1 (fc blc [(v1, v2)]) rfl (reads_oneR w7 BlT ((v1, v2) : Int × Int) blc_len) (fc_one blc_one _) (by simp [maxLen]; omega) (by omega) (Nat.zero_le _) ?_
      intro q8 c8 w8 ho8 hf8 hb8
      have S8 := HS7.out.append 3 rfl (.cells #[.int .u32 v1, .int .u32 v2] BlT) ho8 hf8 hb8
      have z8 := (S8.at_ 2 rfl).frozen 7
      have y8 := (S8.at_ 2 rfl).cell 7
      have HS8 := Lib.hid S8
      clear S8 ho8 hf8 hb8 HS7
      go_wp2_with fail
      have S9 := opx_more (y := (v1, v2)) (HS8.out.set 2 rfl 7 (.slice q8 (l.length + 1) c8))
      have HS9 := Lib.hid S9
      clear S9 HS8
      go_roundg (gk - 1)
      case measure => omega
      case rel => exact ⟨k + 1, q8, c8, by omega, by rw [HSN.out]; exact HS9.out⟩
    · obtain rfl : k = t.length / 8 := by omega
      have z1 : ((t.length - 8 * (t.length / 8) : Nat) : Int) < 8 := by omega
      have z1' : ¬ (8 : Int) ≤ ((t.length - 8 * (t.length / 8) : Nat) : Int) := by omega
      have h300 : (blks (t.length / 8) t).length ≤ 300 := by rw [hbl]; omega
      by_cases h5 : t.length % 8 = 0 ∧ 1 ≤ t.length / 8 ∧ t.length / 8 ≤ 4
      · have hs : saysS ⟨mss, permit, ts, val, ecr, has, scale, blocks⟩ 5 t = some ⟨mss, permit, ts, val, ecr, has, scale, blks (t.length / 8) t⟩ := by unfold saysS; rw [if_neg (by decide), if_neg (by decide), if_neg (by decide), if_neg (by decide), if_pos rfl, if_pos h5]
        have HS := Lib.hid hs
        have z2 : (((t.length - 8 * (t.length / 8) : Nat) : Int) == 0) = true := by simp; omega
        have n1 : 1 ≤ (blks (t.length / 8) t).length := by rw [hbl]; exact h5.2.1
        have n2 : (blks (t.length / 8) t).length ≤ 4 := by rw [hbl]; exact h5.2.2
        have d1 : decide ((1 : Int) ≤ ((blks (t.length / 8) t).length : Int)) = true := by simp; omega
        have d2 : decide (((blks (t.length / 8) t).length : Int) ≤ 4) = true := by simp; omega
        have d3 : decide (1 ≤ (blks (t.length / 8) t).length) = true := by simp; omega
        have d4 : decide ((blks (t.length / 8) t).length ≤ 4) = true := by simp; omega
        clear hs h5 hbl
        have HS4 := Lib.hid S4
        clear S4
        go_wp2_with fail
        refine HL.out.mono ?_
        rintro e w5 ⟨rfl, f5⟩
        have HS5 := Lib.hid (HS4.out.same f5)
        have HL2 := Lib.hid (rLeft_any p q cap t (8 * (t.length / 8)) w5 (HS5.out.at_ 0 rfl) (by omega) (by omega))
        clear f5 HS4 HL
        go_wp2_with fail
        refine HL2.out.mono ?_
        rintro e w6 ⟨rfl, f6⟩
        have S6 := HS5.out.same f6
        have y6 : w6.cell? ⟨po, 7, none⟩ = some (.slice q4 (blks (t.length / 8) t).length c4) := (S6.at_ 2 rfl).cell 7
        have HS6 := Lib.hid S6
        clear S6 f6 HS5 HL2
        go_wp2_with fail
        go_ret
        exact SaysPost.yes (q' := q4) (c' := c4) HS.out (HS6.out.drop (List.sublist_append_right (rdr p q cap t (8 * (t.length / 8))) (opx po ⟨mss, permit, ts, val, ecr, has, scale, blks (t.length / 8) t⟩ q4 c4)))
      · have hs : saysS ⟨mss, permit, ts, val, ecr, has, scale, blocks⟩ 5 t = none := by unfold saysS; rw [if_neg (by decide), if_neg (by decide), if_neg (by decide), if_neg (by decide), if_pos rfl, if_neg h5]
        have HS := Lib.hid hs
        clear hs
        by_cases h6 : t.length % 8 = 0
        · have z2 : (((t.length - 8 * (t.length / 8) : Nat) : Int) == 0) = true := by simp; omega
          rcases Nat.lt_or_ge (t.length / 8) 1 with h7 | h7
          · have n1 : (blks (t.length / 8) t).length < 1 := by rw [hbl]; exact h7
            have n1' : ¬ 1 ≤ (blks (t.length / 8) t).length := by omega
            clear h5 hbl h6 h7
            have HS4 := Lib.hid S4
            clear S4
            go_wp2_with fail
            refine HL.out.mono ?_
            rintro e w5 ⟨rfl, f5⟩
            have HS5 := Lib.hid (HS4.out.same f5)
            have HL2 := Lib.hid (rLeft_any p q cap t (8 * (t.length / 8)) w5 (HS5.out.at_ 0 rfl) (by omega) (by omega))
            clear f5 HS4 HL
            go_wp2_with fail
            refine HL2.out.mono ?_
            rintro e w6 ⟨rfl, f6⟩
            have S6 := HS5.out.same f6
            have y6 : w6.cell? ⟨po, 7, none⟩ = some (.slice q4 (blks (t.length / 8) t).length c4) := (S6.at_ 2 rfl).cell 7
            have HS6 := Lib.hid S6
            clear S6 f6 HS5 HL2
            go_wp2_with fail
            go_ret
            exact SaysPost.no HS.out HS6.out.fr
          · have n1 : 1 ≤ (blks (t.length / 8) t).length := by rw [hbl]; exact h7
            have n2 : ¬ (blks (t.length / 8) t).length ≤ 4 := by rw [hbl]; omega
            have n2' : 4 < (blks (t.length / 8) t).length := by omega
            have d1 : decide ((1 : Int) ≤ ((blks (t.length / 8) t).length : Int)) = true := by simp; omega
            have d2 : decide (((blks (t.length / 8) t).length : Int) ≤ 4) = false := by simp; omega
            have d3 : decide (1 ≤ (blks (t.length / 8) t).length) = true := by simp; omega
            have d4 : decide ((blks (t.length / 8) t).length ≤ 4) = false := by simp; omega
            clear h5 hbl h6 h7
            have HS4 := Lib.hid S4
            clear S4
            go_wp2_with fail
            refine HL.out.mono ?_
            rintro e w5 ⟨rfl, f5⟩
            have HS5 := Lib.hid (HS4.out.same f5)
            have HL2 := Lib.hid (rLeft_any p q cap t (8 * (t.length / 8)) w5 (HS5.out.at_ 0 rfl) (by omega) (by omega))
            clear f5 HS4 HL
            go_wp2_with fail
            refine HL2.out.mono ?_
            rintro e w6 ⟨rfl, f6⟩
            have S6 := HS5.out.same f6
            have y6 : w6.cell? ⟨po, 7, none⟩ = some (.slice q4 (blks (t.length / 8) t).length c4) := (S6.at_ 2 rfl).cell 7
            have HS6 := Lib.hid S6
            clear S6 f6 HS5 HL2
            go_wp2_with fail
            go_ret
            exact SaysPost.no HS.out HS6.out.fr
        · have z2 : (((t.length - 8 * (t.length / 8) : Nat) : Int) == 0) = false := by simp; omega
          clear h5 hbl h6
          have HS4 := Lib.hid S4
          clear S4
          go_wp2_with fail
          refine HL.out.mono ?_
          rintro e w5 ⟨rfl, f5⟩
          have HS5 := Lib.hid (HS4.out.same f5)
          have HL2 := Lib.hid (rLeft_any p q cap t (8 * (t.length / 8)) w5 (HS5.out.at_ 0 rfl) (by omega) (by omega))
          clear f5 HS4 HL
          go_wp2_with fail
          refine HL2.out.mono ?_
          rintro e w6 ⟨rfl, f6⟩
          have S6 := HS5.out.same f6
          have y6 : w6.cell? ⟨po, 7, none⟩ = some (.slice q4 (blks (t.length / 8) t).length c4) := (S6.at_ 2 rfl).cell 7
          have HS6 := Lib.hid S6
          clear S6 f6 HS5 HL2
          go_wp2_with fail
          go_ret
          exact SaysPost.no HS.out HS6.out.fr
theorem says_any (po : Nat) (o : Opt) (qb : Option Addr) (cb : Nat) (kind : Int) (a : Option Addr) (c : Nat) (t : List Int) (w : World) (hS : Sep (fpL (opx po o qb cb)) w w (opx po o qb cb)) (ht : Reads w 1 a t.length c (fc u8c t)) (hb : ∀ x ∈ t, 0 ≤ x ∧ x < 256) (hl : t.length ≤ 300) :
    Calls Try.prog 37 #[.pointer (at0 po), .int .u8 kind, .slice a t.length c] w (SaysPost po o qb cb kind t w) := by
  by_cases k2 : kind = 2
  · subst k2; exact says2_any po o qb cb a c t w hS ht hb hl
  by_cases k3 : kind = 3
  · subst k3; exact says3_any po o qb cb a c t w hS ht hb hl
  by_cases k4 : kind = 4
  · subst k4; exact says4_any po o qb cb a c t w hS ht hb hl
  by_cases k5 : kind = 5
  · subst k5; exact says5_any po o qb cb a c t w hS ht hb hl
  by_cases k8 : kind = 8
  · subst k8; exact says8_any po o qb cb a c t w hS ht hb hl
  exact saysX_any po o qb cb kind a c t w hS ht hb hl ⟨k2, k3, k4, k5, k8⟩
end Go.Proofs.Ythkhfijfgpccbaa
