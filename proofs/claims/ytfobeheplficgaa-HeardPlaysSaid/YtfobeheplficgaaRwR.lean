/- The document's sets: Hull of spans, Without, Gaps: walked. -/
import Derived.Test.YtfobeheplficgaaRwQ
set_option linter.unusedVariables false
set_option linter.unusedSimpArgs false
namespace Go.Proofs.Ytfobeheplficgaa
open Go.RowKit Go.Und Go.Shelf
attribute [local go_sem] Oper.semAt_some
attribute [local go_sem ↓] Go.wp_at_zero Go.wp_at_succ
attribute [local go_sem] field_sa0 field_sa1

theorem rof_pr {a b : Int} (h : PrS (a, b)) (w : World) : Calls Try.prog 60 #[.agg #[.int .i64 a, .int .i64 b]] w fun e w' => e = .returned (.agg #[.int .i64 a, .int .i64 b]) ∧ Fr None w w' := by
  have := rof_any a b w
  rw [h.plain] at this
  exact this
set_option maxRecDepth 100000 in
set_option maxHeartbeats 4000000 in
theorem rhull_any (p : Option Addr) (c : Nat) (l : List (Int × Int)) (w : World) (hp : ∀ x ∈ l, PrS x) (hr : Reads w 2 p l.length c (fc spc l)) (hl : l.length ≤ 1000000) :
    Calls Try.prog 94 #[.slice p l.length c] w fun e w' => e = .returned (spV (hullS l)) ∧ Fr None w w' := by
  have HP := Lib.hid hp
  have HR := Lib.hid hr
  have S0 := ((Sep.law w).alloc #[.int .i64 0, .int .i64 0] SpT).alloc #[.int .i64 0, .int .i64 0] SpT
  rw [World.size_alloc] at S0
  have HS0 := Lib.hid S0
  clear hp hr S0
  go_enter Try.func94, Try.ntmps94
  go_wp2_with fail
  go_loopg [4] l.length (fun r i wr => ∃ (k : Nat) (o1 o2 : Int), k + r = l.length ∧ i = .int .i64 k ∧ hullS (l.take k) = (o1, o2) ∧ Sep None w wr [Ob.blk (w.heap.size + 1) SpT #[.int .i64 o1, .int .i64 o2], Ob.blk w.heap.size SpT #[.int .i64 0, .int .i64 0]])
  case atStart => exact ⟨0, 0, 0, by omega, rfl, rfl, HS0.out⟩
  case round =>
    obtain ⟨k, o1, o2, hk, rfl, ho, S⟩ := hrel
    clear HS0
    by_cases g : k < l.length
    · have ex := List.getElem?_eq_getElem g
      obtain ⟨b, off, rfl, hc⟩ := (HR.out.fr S.fr (fun _ _ h => h)).elem spc_len (by decide) ex
      have hpx := HP.out _ (List.getElem_mem g)
      have hsn : hullS (l.take (k + 1)) = _ := (take_next ex) ▸ hull_snoc (l.take k) l[k]
      rw [ho] at hsn
      have hpo : k = 0 ∨ PrS (o1, o2) := by
        rcases Nat.eq_zero_or_pos k with h | h
        · exact .inl h
        · right
          rw [← ho]
          exact (hull_is (l.take k) (fun x hx => HP.out x (List.mem_of_mem_take hx)) (fun e => by have := congrArg List.length e; rw [List.length_take, List.length_nil] at this; omega)).1
      generalize l[k] = x at *
      obtain ⟨x1, x2⟩ := x
      have c1 : wr.cell? ⟨b, off + k * 2, none⟩ = some (.int .i64 x1) := hc 0 _ rfl
      have c2 : wr.cell? ⟨b, off + k * 2 + 1, none⟩ = some (.int .i64 x2) := hc 1 _ rfl
      have HF := Lib.hid (rof_pr hpx wr)
      have HLx := Lib.hid (fun W => rlenS_any x1 x2 W)
      have HLo := Lib.hid (fun W => rlenS_any o1 o2 W)
      have hxl : ¬ lenS (x1, x2) = 0 := by rw [hpx.len]; have := hpx.2.1; simp only at this ⊢; omega
      rw [if_neg hxl] at hsn
      have h1 : (lenS (x1, x2) == 0) = false := ne_beq hxl
      have HS := Lib.hid S
      by_cases ho0 : lenS (o1, o2) = 0
      · rw [if_pos ho0] at hsn
        rw [ho0] at HLo
        generalize lenS (x1, x2) = nx at *
        have HN := Lib.hid hsn
        have g1 : decide (x1 < x1) = false := decide_eq_false (by omega)
        have g2 : decide (x2 < x2) = false := decide_eq_false (by omega)
        clear hc ex S hsn ho hpo hpx hxl ho0
        go_wp2_with (first
          | ((with_reducible refine (HF.out).mono ?_); rintro e1 w1 ⟨rfl, F1⟩; have S1 := HS.out.same F1; have l1 : w.heap.size + 1 < w1.heap.size := (S1.at_ 0 rfl).lt; have HS1 := Lib.hid (S1.alloc #[.int .i64 x1, .int .i64 x2] SpT); clear F1 S1)
          | ((with_reducible refine (HLx.out _).mono ?_); rintro e2 w2 ⟨rfl, F2⟩; have S2 := HS1.out.same F2; have u1 : w2.cell? ⟨w1.heap.size, 0, none⟩ = some (.int .i64 x1) := (S2.at_ 0 rfl).cell 0; have u2 : w2.cell? ⟨w1.heap.size, 1, none⟩ = some (.int .i64 x2) := (S2.at_ 0 rfl).cell 1; have m0 : w2.cell? ⟨w.heap.size + 1, 0, none⟩ = some (.int .i64 o1) := (S2.at_ 1 rfl).cell 0; have m1 : w2.cell? ⟨w.heap.size + 1, 1, none⟩ = some (.int .i64 o2) := (S2.at_ 1 rfl).cell 1; have HS2 := Lib.hid S2; clear F2 S2)
          | ((with_reducible refine (HLo.out _).mono ?_); rintro e3 w3 ⟨rfl, F3⟩; have S3 := HS2.out.same F3; have v1 : w3.cell? ⟨w1.heap.size, 0, none⟩ = some (.int .i64 x1) := (S3.at_ 0 rfl).cell 0; have v2 : w3.cell? ⟨w1.heap.size, 1, none⟩ = some (.int .i64 x2) := (S3.at_ 0 rfl).cell 1; have n0 : w3.cell? ⟨w.heap.size + 1, 0, none⟩ = some (.int .i64 o1) := (S3.at_ 1 rfl).cell 0; have n1 : w3.cell? ⟨w.heap.size + 1, 1, none⟩ = some (.int .i64 o2) := (S3.at_ 1 rfl).cell 1; have z0 : w3.frozen? ⟨w.heap.size + 1, 0, none⟩ = false := (S3.at_ 1 rfl).frozen 0; have z1 : w3.frozen? ⟨w.heap.size + 1, 1, none⟩ = false := (S3.at_ 1 rfl).frozen 1; have HS3 := Lib.hid S3; clear F3 S3)
          | fail)
        go_roundg (gk - 1)
        case measure => omega
        case rel => exact ⟨k + 1, x1, x2, by omega, by go_num, HN.out, ((HS3.out.set 1 rfl 0 (.int .i64 x1)).set 1 rfl 1 (.int .i64 x2)).drop (List.sublist_cons_self _ _)⟩
      · rw [if_neg ho0] at hsn
        have h2 : (lenS (o1, o2) == 0) = false := ne_beq ho0
        generalize lenS (x1, x2) = nx at *
        generalize lenS (o1, o2) = no at *
        simp only at hsn
        by_cases q1 : x1 < o1 <;> by_cases q2 : o2 < x2
        · have g1 : decide (x1 < o1) = true := decide_eq_true q1
          have g2 : decide (o2 < x2) = true := decide_eq_true q2
          have HN := Lib.hid (hsn.trans (Prod.ext (by simp only; omega) (by simp only; omega) : _ = (x1, x2)))
          clear hc ex S hsn ho hpo hpx hxl ho0 q1 q2
          go_wp2_with (first
            | ((with_reducible refine (HF.out).mono ?_); rintro e1 w1 ⟨rfl, F1⟩; have S1 := HS.out.same F1; have l1 : w.heap.size + 1 < w1.heap.size := (S1.at_ 0 rfl).lt; have HS1 := Lib.hid (S1.alloc #[.int .i64 x1, .int .i64 x2] SpT); clear F1 S1)
            | ((with_reducible refine (HLx.out _).mono ?_); rintro e2 w2 ⟨rfl, F2⟩; have S2 := HS1.out.same F2; have u1 : w2.cell? ⟨w1.heap.size, 0, none⟩ = some (.int .i64 x1) := (S2.at_ 0 rfl).cell 0; have u2 : w2.cell? ⟨w1.heap.size, 1, none⟩ = some (.int .i64 x2) := (S2.at_ 0 rfl).cell 1; have m0 : w2.cell? ⟨w.heap.size + 1, 0, none⟩ = some (.int .i64 o1) := (S2.at_ 1 rfl).cell 0; have m1 : w2.cell? ⟨w.heap.size + 1, 1, none⟩ = some (.int .i64 o2) := (S2.at_ 1 rfl).cell 1; have HS2 := Lib.hid S2; clear F2 S2)
            | ((with_reducible refine (HLo.out _).mono ?_); rintro e3 w3 ⟨rfl, F3⟩; have S3 := HS2.out.same F3; have v1 : w3.cell? ⟨w1.heap.size, 0, none⟩ = some (.int .i64 x1) := (S3.at_ 0 rfl).cell 0; have v2 : w3.cell? ⟨w1.heap.size, 1, none⟩ = some (.int .i64 x2) := (S3.at_ 0 rfl).cell 1; have n0 : w3.cell? ⟨w.heap.size + 1, 0, none⟩ = some (.int .i64 o1) := (S3.at_ 1 rfl).cell 0; have n1 : w3.cell? ⟨w.heap.size + 1, 1, none⟩ = some (.int .i64 o2) := (S3.at_ 1 rfl).cell 1; have z0 : w3.frozen? ⟨w.heap.size + 1, 0, none⟩ = false := (S3.at_ 1 rfl).frozen 0; have z1 : w3.frozen? ⟨w.heap.size + 1, 1, none⟩ = false := (S3.at_ 1 rfl).frozen 1; have HS3 := Lib.hid S3; clear F3 S3)
            | fail)
          go_roundg (gk - 1)
          case measure => omega
          case rel => exact ⟨k + 1, x1, x2, by omega, by go_num, HN.out, ((HS3.out.set 1 rfl 0 (.int .i64 x1)).set 1 rfl 1 (.int .i64 x2)).drop (List.sublist_cons_self _ _)⟩
        · have g1 : decide (x1 < o1) = true := decide_eq_true q1
          have g2 : decide (o2 < x2) = false := decide_eq_false q2
          have HN := Lib.hid (hsn.trans (Prod.ext (by simp only; omega) (by simp only; omega) : _ = (x1, o2)))
          clear hc ex S hsn ho hpo hpx hxl ho0 q1 q2
          go_wp2_with (first
            | ((with_reducible refine (HF.out).mono ?_); rintro e1 w1 ⟨rfl, F1⟩; have S1 := HS.out.same F1; have l1 : w.heap.size + 1 < w1.heap.size := (S1.at_ 0 rfl).lt; have HS1 := Lib.hid (S1.alloc #[.int .i64 x1, .int .i64 x2] SpT); clear F1 S1)
            | ((with_reducible refine (HLx.out _).mono ?_); rintro e2 w2 ⟨rfl, F2⟩; have S2 := HS1.out.same F2; have u1 : w2.cell? ⟨w1.heap.size, 0, none⟩ = some (.int .i64 x1) := (S2.at_ 0 rfl).cell 0; have u2 : w2.cell? ⟨w1.heap.size, 1, none⟩ = some (.int .i64 x2) := (S2.at_ 0 rfl).cell 1; have m0 : w2.cell? ⟨w.heap.size + 1, 0, none⟩ = some (.int .i64 o1) := (S2.at_ 1 rfl).cell 0; have m1 : w2.cell? ⟨w.heap.size + 1, 1, none⟩ = some (.int .i64 o2) := (S2.at_ 1 rfl).cell 1; have HS2 := Lib.hid S2; clear F2 S2)
            | ((with_reducible refine (HLo.out _).mono ?_); rintro e3 w3 ⟨rfl, F3⟩; have S3 := HS2.out.same F3; have v1 : w3.cell? ⟨w1.heap.size, 0, none⟩ = some (.int .i64 x1) := (S3.at_ 0 rfl).cell 0; have v2 : w3.cell? ⟨w1.heap.size, 1, none⟩ = some (.int .i64 x2) := (S3.at_ 0 rfl).cell 1; have n0 : w3.cell? ⟨w.heap.size + 1, 0, none⟩ = some (.int .i64 o1) := (S3.at_ 1 rfl).cell 0; have n1 : w3.cell? ⟨w.heap.size + 1, 1, none⟩ = some (.int .i64 o2) := (S3.at_ 1 rfl).cell 1; have z0 : w3.frozen? ⟨w.heap.size + 1, 0, none⟩ = false := (S3.at_ 1 rfl).frozen 0; have z1 : w3.frozen? ⟨w.heap.size + 1, 1, none⟩ = false := (S3.at_ 1 rfl).frozen 1; have HS3 := Lib.hid S3; clear F3 S3)
            | fail)
          go_roundg (gk - 1)
          case measure => omega
          case rel => exact ⟨k + 1, x1, o2, by omega, by go_num, HN.out, (HS3.out.set 1 rfl 0 (.int .i64 x1)).drop (List.sublist_cons_self _ _)⟩
        · have g1 : decide (x1 < o1) = false := decide_eq_false q1
          have g2 : decide (o2 < x2) = true := decide_eq_true q2
          have HN := Lib.hid (hsn.trans (Prod.ext (by simp only; omega) (by simp only; omega) : _ = (o1, x2)))
          clear hc ex S hsn ho hpo hpx hxl ho0 q1 q2
          go_wp2_with (first
            | ((with_reducible refine (HF.out).mono ?_); rintro e1 w1 ⟨rfl, F1⟩; have S1 := HS.out.same F1; have l1 : w.heap.size + 1 < w1.heap.size := (S1.at_ 0 rfl).lt; have HS1 := Lib.hid (S1.alloc #[.int .i64 x1, .int .i64 x2] SpT); clear F1 S1)
            | ((with_reducible refine (HLx.out _).mono ?_); rintro e2 w2 ⟨rfl, F2⟩; have S2 := HS1.out.same F2; have u1 : w2.cell? ⟨w1.heap.size, 0, none⟩ = some (.int .i64 x1) := (S2.at_ 0 rfl).cell 0; have u2 : w2.cell? ⟨w1.heap.size, 1, none⟩ = some (.int .i64 x2) := (S2.at_ 0 rfl).cell 1; have m0 : w2.cell? ⟨w.heap.size + 1, 0, none⟩ = some (.int .i64 o1) := (S2.at_ 1 rfl).cell 0; have m1 : w2.cell? ⟨w.heap.size + 1, 1, none⟩ = some (.int .i64 o2) := (S2.at_ 1 rfl).cell 1; have HS2 := Lib.hid S2; clear F2 S2)
            | ((with_reducible refine (HLo.out _).mono ?_); rintro e3 w3 ⟨rfl, F3⟩; have S3 := HS2.out.same F3; have v1 : w3.cell? ⟨w1.heap.size, 0, none⟩ = some (.int .i64 x1) := (S3.at_ 0 rfl).cell 0; have v2 : w3.cell? ⟨w1.heap.size, 1, none⟩ = some (.int .i64 x2) := (S3.at_ 0 rfl).cell 1; have n0 : w3.cell? ⟨w.heap.size + 1, 0, none⟩ = some (.int .i64 o1) := (S3.at_ 1 rfl).cell 0; have n1 : w3.cell? ⟨w.heap.size + 1, 1, none⟩ = some (.int .i64 o2) := (S3.at_ 1 rfl).cell 1; have z0 : w3.frozen? ⟨w.heap.size + 1, 0, none⟩ = false := (S3.at_ 1 rfl).frozen 0; have z1 : w3.frozen? ⟨w.heap.size + 1, 1, none⟩ = false := (S3.at_ 1 rfl).frozen 1; have HS3 := Lib.hid S3; clear F3 S3)
            | fail)
          go_roundg (gk - 1)
          case measure => omega
          case rel => exact ⟨k + 1, o1, x2, by omega, by go_num, HN.out, (HS3.out.set 1 rfl 1 (.int .i64 x2)).drop (List.sublist_cons_self _ _)⟩
        · have g1 : decide (x1 < o1) = false := decide_eq_false q1
          have g2 : decide (o2 < x2) = false := decide_eq_false q2
          have HN := Lib.hid (hsn.trans (Prod.ext (by simp only; omega) (by simp only; omega) : _ = (o1, o2)))
          clear hc ex S hsn ho hpo hpx hxl ho0 q1 q2
          go_wp2_with (first
            | ((with_reducible refine (HF.out).mono ?_); rintro e1 w1 ⟨rfl, F1⟩; have S1 := HS.out.same F1; have l1 : w.heap.size + 1 < w1.heap.size := (S1.at_ 0 rfl).lt; have HS1 := Lib.hid (S1.alloc #[.int .i64 x1, .int .i64 x2] SpT); clear F1 S1)
            | ((with_reducible refine (HLx.out _).mono ?_); rintro e2 w2 ⟨rfl, F2⟩; have S2 := HS1.out.same F2; have u1 : w2.cell? ⟨w1.heap.size, 0, none⟩ = some (.int .i64 x1) := (S2.at_ 0 rfl).cell 0; have u2 : w2.cell? ⟨w1.heap.size, 1, none⟩ = some (.int .i64 x2) := (S2.at_ 0 rfl).cell 1; have m0 : w2.cell? ⟨w.heap.size + 1, 0, none⟩ = some (.int .i64 o1) := (S2.at_ 1 rfl).cell 0; have m1 : w2.cell? ⟨w.heap.size + 1, 1, none⟩ = some (.int .i64 o2) := (S2.at_ 1 rfl).cell 1; have HS2 := Lib.hid S2; clear F2 S2)
            | ((with_reducible refine (HLo.out _).mono ?_); rintro e3 w3 ⟨rfl, F3⟩; have S3 := HS2.out.same F3; have v1 : w3.cell? ⟨w1.heap.size, 0, none⟩ = some (.int .i64 x1) := (S3.at_ 0 rfl).cell 0; have v2 : w3.cell? ⟨w1.heap.size, 1, none⟩ = some (.int .i64 x2) := (S3.at_ 0 rfl).cell 1; have n0 : w3.cell? ⟨w.heap.size + 1, 0, none⟩ = some (.int .i64 o1) := (S3.at_ 1 rfl).cell 0; have n1 : w3.cell? ⟨w.heap.size + 1, 1, none⟩ = some (.int .i64 o2) := (S3.at_ 1 rfl).cell 1; have z0 : w3.frozen? ⟨w.heap.size + 1, 0, none⟩ = false := (S3.at_ 1 rfl).frozen 0; have z1 : w3.frozen? ⟨w.heap.size + 1, 1, none⟩ = false := (S3.at_ 1 rfl).frozen 1; have HS3 := Lib.hid S3; clear F3 S3)
            | fail)
          go_roundg (gk - 1)
          case measure => omega
          case rel => exact ⟨k + 1, o1, o2, by omega, by go_num, HN.out, HS3.out.drop (List.sublist_cons_self _ _)⟩
    · obtain rfl : k = l.length := by omega
      rw [List.take_length] at ho
      have k0 : wr.cell? ⟨w.heap.size, 0, none⟩ = some (.int .i64 0) := (S.at_ 1 rfl).cell 0
      have k1 : wr.cell? ⟨w.heap.size, 1, none⟩ = some (.int .i64 0) := (S.at_ 1 rfl).cell 1
      have y0 : wr.frozen? ⟨w.heap.size, 0, none⟩ = false := (S.at_ 1 rfl).frozen 0
      have y1 : wr.frozen? ⟨w.heap.size, 1, none⟩ = false := (S.at_ 1 rfl).frozen 1
      have m0 : wr.cell? ⟨w.heap.size + 1, 0, none⟩ = some (.int .i64 o1) := (S.at_ 0 rfl).cell 0
      have m1 : wr.cell? ⟨w.heap.size + 1, 1, none⟩ = some (.int .i64 o2) := (S.at_ 0 rfl).cell 1
      have HS := Lib.hid S
      have HO := Lib.hid ho
      clear S ho
      go_wp2_with fail
      exact bodyPost_ret (v := spV (o1, o2)) (by simp [results, Try.results94, go_sem, k0, k1]) rfl ⟨by rw [HO.out], ((HS.out.set 1 rfl 0 (.int .i64 o1)).set 1 rfl 1 (.int .i64 o2)).fr⟩
theorem keep4s {V : World} {B b c i j i' j' : Nat} {x y v1 v2 v3 v4 : Value} (h : V.cell? ⟨b, i, none⟩ = some v1 ∧ V.cell? ⟨b, j, none⟩ = some v2 ∧ V.cell? ⟨c, i', none⟩ = some v3 ∧ V.cell? ⟨c, j', none⟩ = some v4) (h1 : b ≠ B) (h2 : c ≠ B) :
    ((V.setCell ⟨B, 0, none⟩ x).setCell ⟨B, 1, none⟩ y).cell? ⟨b, i, none⟩ = some v1 ∧ ((V.setCell ⟨B, 0, none⟩ x).setCell ⟨B, 1, none⟩ y).cell? ⟨b, j, none⟩ = some v2 ∧ ((V.setCell ⟨B, 0, none⟩ x).setCell ⟨B, 1, none⟩ y).cell? ⟨c, i', none⟩ = some v3 ∧ ((V.setCell ⟨B, 0, none⟩ x).setCell ⟨B, 1, none⟩ y).cell? ⟨c, j', none⟩ = some v4 := by
  have e : ∀ (a : Addr), a.block ≠ B → ((V.setCell ⟨B, 0, none⟩ x).setCell ⟨B, 1, none⟩ y).cell? a = V.cell? a := fun a ha => World.cell?_of_block ((Below.heap_setCell _ _ _ _ ha).trans (Below.heap_setCell _ _ _ _ ha))
  exact ⟨(e _ h1).trans h.1, (e _ h1).trans h.2.1, (e _ h2).trans h.2.2.1, (e _ h2).trans h.2.2.2⟩
theorem new_frY {w w' : World} {cs : Array Value} {t : TypeId} (f : Fr None (w.alloc (.cells cs t)) w') : RowKit.Hid (Blk w' w.heap.size t cs) := Lib.hid ((Blk.new w t cs).fr f (fun h => h))
theorem new_frdY {w w' : World} {cs : Array Value} {t : TypeId} (f : Fr None (w.alloc (.cells cs t)).drew w') : RowKit.Hid (Blk w' w.heap.size t cs) := Lib.hid ((Blk.new w t cs).fr (Fr.trans (Fr.drew (Fr.refl None _)) f) (fun h => h))
theorem blk2Y {w : World} {b : Nat} {T : TypeId} {x y : Value} (h : Blk w b T #[x, y]) : w.cell? ⟨b, 0, none⟩ = some x ∧ w.cell? ⟨b, 1, none⟩ = some y ∧ w.frozen? ⟨b, 0, none⟩ = false ∧ w.frozen? ⟨b, 1, none⟩ = false := ⟨h.cell 0, h.cell 1, h.frozen 0, h.frozen 1⟩
set_option maxRecDepth 100000 in
set_option maxHeartbeats 16000000 in
theorem rwithout_do (p : Option Addr) (c : Nat) (l : List (Int × Int)) (s1 s2 : Int) (w : World) (hs : PrS (s1, s2)) (hr : Reads w 2 p l.length c (fc spc l)) (hl : l.length ≤ 100000) :
    Calls Try.prog 67 #[.slice p l.length c, .agg #[.int .i64 s1, .int .i64 s2]] w fun e w' => ∃ q' c', e = .returned (.slice q' (remL l (s1, s2)).length c') ∧ Sep None w w' [srow q' c' (remL l (s1, s2))] := by
  have HR := Lib.hid hr
  have S0 := (Sep.law w).alloc #[.int .i64 s1, .int .i64 s2] SpT
  have HS0 := Lib.hid S0
  have HL0 := Lib.hid (rlenS_any s1 s2 (w.alloc (.cells #[.int .i64 s1, .int .i64 s2] SpT)))
  have h0 : (lenS (s1, s2) == 0) = false := ne_beq (by rw [hs.len]; have := hs.2.1; simp only at this ⊢; omega)
  generalize lenS (s1, s2) = n0 at *
  clear hr S0 hs
  go_enter Try.func67, Try.ntmps67
  go_wp2_with ((with_reducible refine (HL0.out).mono ?_); rintro e0 w0 ⟨rfl, F0⟩; have HS := Lib.hid (HS0.out.same F0); clear F0)
  go_loopg [5, 6] l.length (fun r lf i wr => ∃ (k : Nat) (q : Option Addr) (d : Nat), k + r = l.length ∧ i = .int .i64 k ∧ lf = .slice q (remL (l.take k) (s1, s2)).length d ∧ Sep None w wr [srow q d (remL (l.take k) (s1, s2)), Ob.blk w.heap.size SpT #[.int .i64 s1, .int .i64 s2]])
  case atStart => exact ⟨0, none, 0, by omega, rfl, rfl, HS.out.add (srow none 0 []) (Fr.refl None _) (Owns.nil spc 2 SpT _) (fun k hk => by cases hk)⟩
  case round =>
    obtain ⟨k, q, d, hk, rfl, rfl, S⟩ := hrel
    clear HS0 HL0 HS
    by_cases g : k < l.length
    · have ex := List.getElem?_eq_getElem g
      obtain ⟨b, off, rfl, hc⟩ := (HR.out.fr S.fr (fun _ _ h => h)).elem spc_len (by decide) ex
      have hnx : remL (l.take (k + 1)) (s1, s2) = remL (l.take k) (s1, s2) ++ partsS (s1, s2) l[k] := by unfold remL; rw [← take_next ex, List.flatMap_append]; simp
      have hal : (remL (l.take k) (s1, s2)).length ≤ 2 * k := Nat.le_trans (parts_len _ _) (by rw [List.length_take]; omega)
      rw [keep_parts] at hnx
      generalize l[k] = x at *
      obtain ⟨x1, x2⟩ := x
      generalize remL (l.take k) (s1, s2) = acc at *
      have c1 : wr.cell? ⟨b, off + k * 2, none⟩ = some (.int .i64 x1) := hc 0 _ rfl
      have c2 : wr.cell? ⟨b, off + k * 2 + 1, none⟩ = some (.int .i64 x2) := hc 1 _ rfl
      have c3 : wr.cell? ⟨w.heap.size, 0, none⟩ = some (.int .i64 s1) := (S.at_ 1 rfl).cell 0
      have c4 : wr.cell? ⟨w.heap.size, 1, none⟩ = some (.int .i64 s2) := (S.at_ 1 rfl).cell 1
      have HBe := Lib.hid (fun W => rbelow_any x1 x2 s1 W)
      have HFo := Lib.hid (fun W => rfrom_any x1 x2 s2 W)
      simp only at hnx
      generalize belowS (x1, x2) s1 = y at *
      generalize fromS (x1, x2) s2 = z at *
      obtain ⟨y1, y2⟩ := y
      obtain ⟨z1, z2⟩ := z
      have HLy := Lib.hid (fun W => rlenS_any y1 y2 W)
      have HLz := Lib.hid (fun W => rlenS_any z1 z2 W)
      have hby := (lenS_bounds (y1, y2)).1
      have hbz := (lenS_bounds (z1, z2)).1
      have HS := Lib.hid S
      have HX := Lib.hid hnx
      have hn1 : b ≠ wr.heap.size := Nat.ne_of_lt (World.block_lt_of_cell? wr _ c1)
      have hn2 : w.heap.size ≠ wr.heap.size := Nat.ne_of_lt (World.block_lt_of_cell? wr _ c3)
      have HE := Lib.hid ex
      clear hc ex S hnx
      go_wp2_with fail
      go_region_held3 (fun w' => w'.cell? ⟨b, off + k * 2, none⟩ = some (.int .i64 x1) ∧ w'.cell? ⟨b, off + k * 2 + 1, none⟩ = some (.int .i64 x2) ∧ w'.cell? ⟨w.heap.size, 0, none⟩ = some (.int .i64 s1) ∧ w'.cell? ⟨w.heap.size, 1, none⟩ = some (.int .i64 s2)) (first | (with_reducible assumption) | (with_reducible exact keep4s ⟨u1, u2, u3, u4⟩ hn1 hn2) | (go_keep; done)) (first
          | ((with_reducible refine (HBe.out _).mono ?_); rintro e1 w1 ⟨rfl, F1⟩; have G1 := (show Fr None wr w1 from Fr.trans (by repeat (first | exact Fr.refl _ _ | refine Fr.drew ?_ | refine Fr.alloc ?_ _)) F1); have HS1 := Lib.hid (HS.out.same G1); have u1 := cell_frN G1 c1; have u2 := cell_frN G1 c2; have u3 := cell_frN G1 c3; have u4 := cell_frN G1 c4; clear G1; (first | (with_reducible have nB := new_frdY F1; obtain ⟨m0, m1, n0', n1'⟩ := blk2Y nB.out) | (with_reducible have nB := new_frY F1; obtain ⟨m0, m1, n0', n1'⟩ := blk2Y nB.out) | skip))
          | fail)
      · have SU := HS1.out.alloc #[.int .i64 y1, .int .i64 y2] SpT
        generalize w1.heap.size = B at SU ⊢
        clear HS1 F1 HS u1 u2 u3 u4 c1 c2 c3 c4 hn1 hn2 HBe
        refine Sep.gen _ SU ?_
        clear SU
        intro U SU
        obtain ⟨b', off', hb', hc⟩ := (HR.out.fr SU.fr (fun _ _ h => h)).elem spc_len (by decide) HE.out
        obtain ⟨rfl, rfl⟩ : b = b' ∧ off = off' := by simpa using hb'
        have c1 : U.cell? ⟨b, off + k * 2, none⟩ = some (.int .i64 x1) := hc 0 _ rfl
        have c2 : U.cell? ⟨b, off + k * 2 + 1, none⟩ = some (.int .i64 x2) := hc 1 _ rfl
        have c3 : U.cell? ⟨w.heap.size, 0, none⟩ = some (.int .i64 s1) := (SU.at_ 2 rfl).cell 0
        have c4 : U.cell? ⟨w.heap.size, 1, none⟩ = some (.int .i64 s2) := (SU.at_ 2 rfl).cell 1
        have hn1 : b ≠ U.heap.size := Nat.ne_of_lt (World.block_lt_of_cell? U _ c1)
        have hn2 : w.heap.size ≠ U.heap.size := Nat.ne_of_lt (World.block_lt_of_cell? U _ c3)
        have HU := Lib.hid SU
        clear hc hb' SU
        go_wp2_with fail
        go_region_held3 (fun w' => w'.cell? ⟨b, off + k * 2, none⟩ = some (.int .i64 x1) ∧ w'.cell? ⟨b, off + k * 2 + 1, none⟩ = some (.int .i64 x2) ∧ w'.cell? ⟨w.heap.size, 0, none⟩ = some (.int .i64 s1) ∧ w'.cell? ⟨w.heap.size, 1, none⟩ = some (.int .i64 s2)) (first | (with_reducible assumption) | (with_reducible exact keep4s ⟨u1, u2, u3, u4⟩ hn1 hn2) | (go_keep; done)) (first
                | ((with_reducible refine (HFo.out _).mono ?_); rintro e2 w2 ⟨rfl, F2⟩; have G2 := (show Fr None U w2 from Fr.trans (by repeat (first | exact Fr.refl _ _ | refine Fr.drew ?_ | refine Fr.alloc ?_ _)) F2); have HS2 := Lib.hid (HU.out.same G2); have u1 := cell_frN G2 c1; have u2 := cell_frN G2 c2; have u3 := cell_frN G2 c3; have u4 := cell_frN G2 c4; clear G2; (first | (with_reducible have nB := new_frdY F2; obtain ⟨m0, m1, n0', n1'⟩ := blk2Y nB.out) | (with_reducible have nB := new_frY F2; obtain ⟨m0, m1, n0', n1'⟩ := blk2Y nB.out) | skip))
                | fail)
        · have SV := HS2.out.alloc #[.int .i64 z1, .int .i64 z2] SpT
          generalize w2.heap.size = B2 at SV ⊢
          refine Sep.gen _ SV ?_
          clear SV HS2 F2 HU u1 u2 u3 u4 c1 c2 c3 c4 hn1 hn2
          intro V SV
          have t1 : V.cell? ⟨B, 0, none⟩ = some (.int .i64 y1) := (SV.at_ 1 rfl).cell 0
          have t2 : V.cell? ⟨B, 1, none⟩ = some (.int .i64 y2) := (SV.at_ 1 rfl).cell 1
          have t3 : V.cell? ⟨B2, 0, none⟩ = some (.int .i64 z1) := (SV.at_ 0 rfl).cell 0
          have t4 : V.cell? ⟨B2, 1, none⟩ = some (.int .i64 z2) := (SV.at_ 0 rfl).cell 1
          have HV := Lib.hid SV
          clear SV
          by_cases hy : lenS (y1, y2) = 0 <;> by_cases hz : lenS (z1, z2) = 0
          · have hd2 : acc ++ keepN [(y1, y2), (z1, z2)] = acc := by simp [keepN, hy, hz]
            rw [hy] at HLy
            rw [hz] at HLz
            clear hy hz
            go_wp2_with (first
              | ((with_reducible refine (HLy.out _).mono ?_); rintro e4 w4 ⟨rfl, F4⟩; have S4 := HV.out.same F4; have p3 : w4.cell? ⟨B2, 0, none⟩ = some (.int .i64 z1) := (S4.at_ 0 rfl).cell 0; have p4 : w4.cell? ⟨B2, 1, none⟩ = some (.int .i64 z2) := (S4.at_ 0 rfl).cell 1; have HS4 := Lib.hid S4; clear F4 S4)
              | ((with_reducible refine (HLz.out _).mono ?_); rintro e6 w6 ⟨rfl, F6⟩; have HS6 := Lib.hid (HS4.out.same F6); clear F6)
              | fail)
            have HD := Lib.hid hd2
            clear hd2
            go_roundg (gk - 1)
            case measure => omega
            case rel => exact ⟨k + 1, q, d, by omega, by go_num, by rw [HX.out, HD.out], by rw [HX.out, HD.out]; exact HS6.out.drop (.cons _ (.cons _ (.refl _)))⟩
          · have hd2 : acc ++ keepN [(y1, y2), (z1, z2)] = acc ++ [(z1, z2)] := by simp [keepN, hy, hz]
            have g2 : decide (0 < lenS (z1, z2)) = true := decide_eq_true (by omega)
            rw [hy] at HLy
            generalize lenS (z1, z2) = nz at *
            clear hy hz
            go_wp2_with (first
              | ((with_reducible refine (HLy.out _).mono ?_); rintro e4 w4 ⟨rfl, F4⟩; have S4 := HV.out.same F4; have p3 : w4.cell? ⟨B2, 0, none⟩ = some (.int .i64 z1) := (S4.at_ 0 rfl).cell 0; have p4 : w4.cell? ⟨B2, 1, none⟩ = some (.int .i64 z2) := (S4.at_ 0 rfl).cell 1; have HS4 := Lib.hid S4; clear F4 S4)
              | ((with_reducible refine (HLz.out _).mono ?_); rintro e6 w6 ⟨rfl, F6⟩; have S6 := HS4.out.same F6; have v3 : w6.cell? ⟨B2, 0, none⟩ = some (.int .i64 z1) := (S6.at_ 0 rfl).cell 0; have v4 : w6.cell? ⟨B2, 1, none⟩ = some (.int .i64 z2) := (S6.at_ 0 rfl).cell 1; have HS6 := Lib.hid S6; clear F6 S6)
              | (at_builtin; refine Hold.out ?_)
              | fail)
            refine Hold.mk ?_
            refine wpList_push HS6.out 2 rfl z1 z2 rfl _ _ rfl rfl rfl (by omega) ?_
            intro q7 d7 w7 S7
            simp only [List.set_cons_succ, List.set_cons_zero] at S7
            have HS7 := Lib.hid S7
            clear S7
            go_wp2_with fail
            have HD := Lib.hid hd2
            clear hd2
            go_roundg (gk - 1)
            case measure => omega
            case rel => exact ⟨k + 1, q7, d7, by omega, by go_num, by rw [HX.out, HD.out]; simp, by rw [HX.out, HD.out]; exact HS7.out.drop (.cons _ (.cons _ (.refl _)))⟩
          · have hd2 : acc ++ keepN [(y1, y2), (z1, z2)] = acc ++ [(y1, y2)] := by simp [keepN, hy, hz]
            have g1 : decide (0 < lenS (y1, y2)) = true := decide_eq_true (by omega)
            rw [hz] at HLz
            generalize lenS (y1, y2) = ny at *
            clear hy hz
            go_wp2_with (first
              | ((with_reducible refine (HLy.out _).mono ?_); rintro e4 w4 ⟨rfl, F4⟩; have S4 := HV.out.same F4; have p1 : w4.cell? ⟨B, 0, none⟩ = some (.int .i64 y1) := (S4.at_ 1 rfl).cell 0; have p2 : w4.cell? ⟨B, 1, none⟩ = some (.int .i64 y2) := (S4.at_ 1 rfl).cell 1; have p3 : w4.cell? ⟨B2, 0, none⟩ = some (.int .i64 z1) := (S4.at_ 0 rfl).cell 0; have p4 : w4.cell? ⟨B2, 1, none⟩ = some (.int .i64 z2) := (S4.at_ 0 rfl).cell 1; have HS4 := Lib.hid S4; clear F4 S4)
              | (at_builtin; refine Hold.out ?_)
              | fail)
            refine Hold.mk ?_
            refine wpList_push HS4.out 2 rfl y1 y2 rfl _ _ rfl rfl rfl (by omega) ?_
            intro q5 d5 w5 S5
            simp only [List.set_cons_succ, List.set_cons_zero] at S5
            have r1 : w5.cell? ⟨B2, 0, none⟩ = some (.int .i64 z1) := (S5.at_ 0 rfl).cell 0
            have r2 : w5.cell? ⟨B2, 1, none⟩ = some (.int .i64 z2) := (S5.at_ 0 rfl).cell 1
            have HS5 := Lib.hid S5
            clear S5
            go_wp2_with ((with_reducible refine (HLz.out _).mono ?_); rintro e6 w6 ⟨rfl, F6⟩; have HS6 := Lib.hid (HS5.out.same F6); clear F6)
            have HD := Lib.hid hd2
            clear hd2
            go_roundg (gk - 1)
            case measure => omega
            case rel => exact ⟨k + 1, q5, d5, by omega, by go_num, by rw [HX.out, HD.out]; simp, by rw [HX.out, HD.out]; exact HS6.out.drop (.cons _ (.cons _ (.refl _)))⟩
          · have hd2 : acc ++ keepN [(y1, y2), (z1, z2)] = (acc ++ [(y1, y2)]) ++ [(z1, z2)] := by simp [keepN, hy, hz]
            have g1 : decide (0 < lenS (y1, y2)) = true := decide_eq_true (by omega)
            have g2 : decide (0 < lenS (z1, z2)) = true := decide_eq_true (by omega)
            generalize lenS (y1, y2) = ny at *
            generalize lenS (z1, z2) = nz at *
            clear hy hz
            go_wp2_with (first
              | ((with_reducible refine (HLy.out _).mono ?_); rintro e4 w4 ⟨rfl, F4⟩; have S4 := HV.out.same F4; have p1 : w4.cell? ⟨B, 0, none⟩ = some (.int .i64 y1) := (S4.at_ 1 rfl).cell 0; have p2 : w4.cell? ⟨B, 1, none⟩ = some (.int .i64 y2) := (S4.at_ 1 rfl).cell 1; have p3 : w4.cell? ⟨B2, 0, none⟩ = some (.int .i64 z1) := (S4.at_ 0 rfl).cell 0; have p4 : w4.cell? ⟨B2, 1, none⟩ = some (.int .i64 z2) := (S4.at_ 0 rfl).cell 1; have HS4 := Lib.hid S4; clear F4 S4)
              | (at_builtin; refine Hold.out ?_)
              | fail)
            refine Hold.mk ?_
            refine wpList_push HS4.out 2 rfl y1 y2 rfl _ _ rfl rfl rfl (by omega) ?_
            intro q5 d5 w5 S5
            simp only [List.set_cons_succ, List.set_cons_zero] at S5
            have r1 : w5.cell? ⟨B2, 0, none⟩ = some (.int .i64 z1) := (S5.at_ 0 rfl).cell 0
            have r2 : w5.cell? ⟨B2, 1, none⟩ = some (.int .i64 z2) := (S5.at_ 0 rfl).cell 1
            have HS5 := Lib.hid S5
            clear S5
            go_wp2_with (first
              | ((with_reducible refine (HLz.out _).mono ?_); rintro e6 w6 ⟨rfl, F6⟩; have S6 := HS5.out.same F6; have v3 : w6.cell? ⟨B2, 0, none⟩ = some (.int .i64 z1) := (S6.at_ 0 rfl).cell 0; have v4 : w6.cell? ⟨B2, 1, none⟩ = some (.int .i64 z2) := (S6.at_ 0 rfl).cell 1; have HS6 := Lib.hid S6; clear F6 S6)
              | (at_builtin; refine Hold.out ?_)
              | fail)
            refine Hold.mk ?_
            refine wpList_push HS6.out 2 rfl z1 z2 rfl _ _ rfl (by rw [List.length_append]; rfl) rfl (by simp only [List.length_append, List.length_cons, List.length_nil]; omega) ?_
            intro q7 d7 w7 S7
            simp only [List.set_cons_succ, List.set_cons_zero] at S7
            have HS7 := Lib.hid S7
            clear S7
            go_wp2_with fail
            have HD := Lib.hid hd2
            clear hd2
            go_roundg (gk - 1)
            case measure => omega
            case rel => exact ⟨k + 1, q7, d7, by omega, by go_num, by rw [HX.out, HD.out]; simp, by rw [HX.out, HD.out]; exact HS7.out.drop (.cons _ (.cons _ (.refl _)))⟩
        · have SV := ((((HU.out.alloc #[.int .i64 0, .int .i64 0] SpT).same (Fr.trans (Fr.drew (Fr.refl None _)) F2)).set 0 rfl 0 (.int .i64 z1)).set 0 rfl 1 (.int .i64 z2))
          generalize U.heap.size = B2 at SV ⊢
          refine Sep.gen _ SV ?_
          clear SV HS2 F2 HU u1 u2 u3 u4 c1 c2 c3 c4 hn1 hn2 nB m0 m1 n0' n1'
          intro V SV
          have t1 : V.cell? ⟨B, 0, none⟩ = some (.int .i64 y1) := (SV.at_ 1 rfl).cell 0
          have t2 : V.cell? ⟨B, 1, none⟩ = some (.int .i64 y2) := (SV.at_ 1 rfl).cell 1
          have t3 : V.cell? ⟨B2, 0, none⟩ = some (.int .i64 z1) := (SV.at_ 0 rfl).cell 0
          have t4 : V.cell? ⟨B2, 1, none⟩ = some (.int .i64 z2) := (SV.at_ 0 rfl).cell 1
          have HV := Lib.hid SV
          clear SV
          by_cases hy : lenS (y1, y2) = 0 <;> by_cases hz : lenS (z1, z2) = 0
          · have hd2 : acc ++ keepN [(y1, y2), (z1, z2)] = acc := by simp [keepN, hy, hz]
            rw [hy] at HLy
            rw [hz] at HLz
            clear hy hz
            go_wp2_with (first
              | ((with_reducible refine (HLy.out _).mono ?_); rintro e4 w4 ⟨rfl, F4⟩; have S4 := HV.out.same F4; have p3 : w4.cell? ⟨B2, 0, none⟩ = some (.int .i64 z1) := (S4.at_ 0 rfl).cell 0; have p4 : w4.cell? ⟨B2, 1, none⟩ = some (.int .i64 z2) := (S4.at_ 0 rfl).cell 1; have HS4 := Lib.hid S4; clear F4 S4)
              | ((with_reducible refine (HLz.out _).mono ?_); rintro e6 w6 ⟨rfl, F6⟩; have HS6 := Lib.hid (HS4.out.same F6); clear F6)
              | fail)
            have HD := Lib.hid hd2
            clear hd2
            go_roundg (gk - 1)
            case measure => omega
            case rel => exact ⟨k + 1, q, d, by omega, by go_num, by rw [HX.out, HD.out], by rw [HX.out, HD.out]; exact HS6.out.drop (.cons _ (.cons _ (.refl _)))⟩
          · have hd2 : acc ++ keepN [(y1, y2), (z1, z2)] = acc ++ [(z1, z2)] := by simp [keepN, hy, hz]
            have g2 : decide (0 < lenS (z1, z2)) = true := decide_eq_true (by omega)
            rw [hy] at HLy
            generalize lenS (z1, z2) = nz at *
            clear hy hz
            go_wp2_with (first
              | ((with_reducible refine (HLy.out _).mono ?_); rintro e4 w4 ⟨rfl, F4⟩; have S4 := HV.out.same F4; have p3 : w4.cell? ⟨B2, 0, none⟩ = some (.int .i64 z1) := (S4.at_ 0 rfl).cell 0; have p4 : w4.cell? ⟨B2, 1, none⟩ = some (.int .i64 z2) := (S4.at_ 0 rfl).cell 1; have HS4 := Lib.hid S4; clear F4 S4)
              | ((with_reducible refine (HLz.out _).mono ?_); rintro e6 w6 ⟨rfl, F6⟩; have S6 := HS4.out.same F6; have v3 : w6.cell? ⟨B2, 0, none⟩ = some (.int .i64 z1) := (S6.at_ 0 rfl).cell 0; have v4 : w6.cell? ⟨B2, 1, none⟩ = some (.int .i64 z2) := (S6.at_ 0 rfl).cell 1; have HS6 := Lib.hid S6; clear F6 S6)
              | (at_builtin; refine Hold.out ?_)
              | fail)
            refine Hold.mk ?_
            refine wpList_push HS6.out 2 rfl z1 z2 rfl _ _ rfl rfl rfl (by omega) ?_
            intro q7 d7 w7 S7
            simp only [List.set_cons_succ, List.set_cons_zero] at S7
            have HS7 := Lib.hid S7
            clear S7
            go_wp2_with fail
            have HD := Lib.hid hd2
            clear hd2
            go_roundg (gk - 1)
            case measure => omega
            case rel => exact ⟨k + 1, q7, d7, by omega, by go_num, by rw [HX.out, HD.out]; simp, by rw [HX.out, HD.out]; exact HS7.out.drop (.cons _ (.cons _ (.refl _)))⟩
          · have hd2 : acc ++ keepN [(y1, y2), (z1, z2)] = acc ++ [(y1, y2)] := by simp [keepN, hy, hz]
            have g1 : decide (0 < lenS (y1, y2)) = true := decide_eq_true (by omega)
            rw [hz] at HLz
            generalize lenS (y1, y2) = ny at *
            clear hy hz
            go_wp2_with (first
              | ((with_reducible refine (HLy.out _).mono ?_); rintro e4 w4 ⟨rfl, F4⟩; have S4 := HV.out.same F4; have p1 : w4.cell? ⟨B, 0, none⟩ = some (.int .i64 y1) := (S4.at_ 1 rfl).cell 0; have p2 : w4.cell? ⟨B, 1, none⟩ = some (.int .i64 y2) := (S4.at_ 1 rfl).cell 1; have p3 : w4.cell? ⟨B2, 0, none⟩ = some (.int .i64 z1) := (S4.at_ 0 rfl).cell 0; have p4 : w4.cell? ⟨B2, 1, none⟩ = some (.int .i64 z2) := (S4.at_ 0 rfl).cell 1; have HS4 := Lib.hid S4; clear F4 S4)
              | (at_builtin; refine Hold.out ?_)
              | fail)
            refine Hold.mk ?_
            refine wpList_push HS4.out 2 rfl y1 y2 rfl _ _ rfl rfl rfl (by omega) ?_
            intro q5 d5 w5 S5
            simp only [List.set_cons_succ, List.set_cons_zero] at S5
            have r1 : w5.cell? ⟨B2, 0, none⟩ = some (.int .i64 z1) := (S5.at_ 0 rfl).cell 0
            have r2 : w5.cell? ⟨B2, 1, none⟩ = some (.int .i64 z2) := (S5.at_ 0 rfl).cell 1
            have HS5 := Lib.hid S5
            clear S5
            go_wp2_with ((with_reducible refine (HLz.out _).mono ?_); rintro e6 w6 ⟨rfl, F6⟩; have HS6 := Lib.hid (HS5.out.same F6); clear F6)
            have HD := Lib.hid hd2
            clear hd2
            go_roundg (gk - 1)
            case measure => omega
            case rel => exact ⟨k + 1, q5, d5, by omega, by go_num, by rw [HX.out, HD.out]; simp, by rw [HX.out, HD.out]; exact HS6.out.drop (.cons _ (.cons _ (.refl _)))⟩
          · have hd2 : acc ++ keepN [(y1, y2), (z1, z2)] = (acc ++ [(y1, y2)]) ++ [(z1, z2)] := by simp [keepN, hy, hz]
            have g1 : decide (0 < lenS (y1, y2)) = true := decide_eq_true (by omega)
            have g2 : decide (0 < lenS (z1, z2)) = true := decide_eq_true (by omega)
            generalize lenS (y1, y2) = ny at *
            generalize lenS (z1, z2) = nz at *
            clear hy hz
            go_wp2_with (first
              | ((with_reducible refine (HLy.out _).mono ?_); rintro e4 w4 ⟨rfl, F4⟩; have S4 := HV.out.same F4; have p1 : w4.cell? ⟨B, 0, none⟩ = some (.int .i64 y1) := (S4.at_ 1 rfl).cell 0; have p2 : w4.cell? ⟨B, 1, none⟩ = some (.int .i64 y2) := (S4.at_ 1 rfl).cell 1; have p3 : w4.cell? ⟨B2, 0, none⟩ = some (.int .i64 z1) := (S4.at_ 0 rfl).cell 0; have p4 : w4.cell? ⟨B2, 1, none⟩ = some (.int .i64 z2) := (S4.at_ 0 rfl).cell 1; have HS4 := Lib.hid S4; clear F4 S4)
              | (at_builtin; refine Hold.out ?_)
              | fail)
            refine Hold.mk ?_
            refine wpList_push HS4.out 2 rfl y1 y2 rfl _ _ rfl rfl rfl (by omega) ?_
            intro q5 d5 w5 S5
            simp only [List.set_cons_succ, List.set_cons_zero] at S5
            have r1 : w5.cell? ⟨B2, 0, none⟩ = some (.int .i64 z1) := (S5.at_ 0 rfl).cell 0
            have r2 : w5.cell? ⟨B2, 1, none⟩ = some (.int .i64 z2) := (S5.at_ 0 rfl).cell 1
            have HS5 := Lib.hid S5
            clear S5
            go_wp2_with (first
              | ((with_reducible refine (HLz.out _).mono ?_); rintro e6 w6 ⟨rfl, F6⟩; have S6 := HS5.out.same F6; have v3 : w6.cell? ⟨B2, 0, none⟩ = some (.int .i64 z1) := (S6.at_ 0 rfl).cell 0; have v4 : w6.cell? ⟨B2, 1, none⟩ = some (.int .i64 z2) := (S6.at_ 0 rfl).cell 1; have HS6 := Lib.hid S6; clear F6 S6)
              | (at_builtin; refine Hold.out ?_)
              | fail)
            refine Hold.mk ?_
            refine wpList_push HS6.out 2 rfl z1 z2 rfl _ _ rfl (by rw [List.length_append]; rfl) rfl (by simp only [List.length_append, List.length_cons, List.length_nil]; omega) ?_
            intro q7 d7 w7 S7
            simp only [List.set_cons_succ, List.set_cons_zero] at S7
            have HS7 := Lib.hid S7
            clear S7
            go_wp2_with fail
            have HD := Lib.hid hd2
            clear hd2
            go_roundg (gk - 1)
            case measure => omega
            case rel => exact ⟨k + 1, q7, d7, by omega, by go_num, by rw [HX.out, HD.out]; simp, by rw [HX.out, HD.out]; exact HS7.out.drop (.cons _ (.cons _ (.refl _)))⟩
      · have SU := ((((HS.out.alloc #[.int .i64 0, .int .i64 0] SpT).same (Fr.trans (Fr.drew (Fr.refl None _)) F1)).set 0 rfl 0 (.int .i64 y1)).set 0 rfl 1 (.int .i64 y2))
        generalize wr.heap.size = B at SU ⊢
        clear HS1 F1 HS u1 u2 u3 u4 c1 c2 c3 c4 hn1 hn2 nB m0 m1 n0' n1' HBe
        refine Sep.gen _ SU ?_
        clear SU
        intro U SU
        obtain ⟨b', off', hb', hc⟩ := (HR.out.fr SU.fr (fun _ _ h => h)).elem spc_len (by decide) HE.out
        obtain ⟨rfl, rfl⟩ : b = b' ∧ off = off' := by simpa using hb'
        have c1 : U.cell? ⟨b, off + k * 2, none⟩ = some (.int .i64 x1) := hc 0 _ rfl
        have c2 : U.cell? ⟨b, off + k * 2 + 1, none⟩ = some (.int .i64 x2) := hc 1 _ rfl
        have c3 : U.cell? ⟨w.heap.size, 0, none⟩ = some (.int .i64 s1) := (SU.at_ 2 rfl).cell 0
        have c4 : U.cell? ⟨w.heap.size, 1, none⟩ = some (.int .i64 s2) := (SU.at_ 2 rfl).cell 1
        have hn1 : b ≠ U.heap.size := Nat.ne_of_lt (World.block_lt_of_cell? U _ c1)
        have hn2 : w.heap.size ≠ U.heap.size := Nat.ne_of_lt (World.block_lt_of_cell? U _ c3)
        have HU := Lib.hid SU
        clear hc hb' SU
        go_wp2_with fail
        go_region_held3 (fun w' => w'.cell? ⟨b, off + k * 2, none⟩ = some (.int .i64 x1) ∧ w'.cell? ⟨b, off + k * 2 + 1, none⟩ = some (.int .i64 x2) ∧ w'.cell? ⟨w.heap.size, 0, none⟩ = some (.int .i64 s1) ∧ w'.cell? ⟨w.heap.size, 1, none⟩ = some (.int .i64 s2)) (first | (with_reducible assumption) | (with_reducible exact keep4s ⟨u1, u2, u3, u4⟩ hn1 hn2) | (go_keep; done)) (first
                | ((with_reducible refine (HFo.out _).mono ?_); rintro e2 w2 ⟨rfl, F2⟩; have G2 := (show Fr None U w2 from Fr.trans (by repeat (first | exact Fr.refl _ _ | refine Fr.drew ?_ | refine Fr.alloc ?_ _)) F2); have HS2 := Lib.hid (HU.out.same G2); have u1 := cell_frN G2 c1; have u2 := cell_frN G2 c2; have u3 := cell_frN G2 c3; have u4 := cell_frN G2 c4; clear G2; (first | (with_reducible have nB := new_frdY F2; obtain ⟨m0, m1, n0', n1'⟩ := blk2Y nB.out) | (with_reducible have nB := new_frY F2; obtain ⟨m0, m1, n0', n1'⟩ := blk2Y nB.out) | skip))
                | fail)
        · have SV := HS2.out.alloc #[.int .i64 z1, .int .i64 z2] SpT
          generalize w2.heap.size = B2 at SV ⊢
          refine Sep.gen _ SV ?_
          clear SV HS2 F2 HU u1 u2 u3 u4 c1 c2 c3 c4 hn1 hn2
          intro V SV
          have t1 : V.cell? ⟨B, 0, none⟩ = some (.int .i64 y1) := (SV.at_ 1 rfl).cell 0
          have t2 : V.cell? ⟨B, 1, none⟩ = some (.int .i64 y2) := (SV.at_ 1 rfl).cell 1
          have t3 : V.cell? ⟨B2, 0, none⟩ = some (.int .i64 z1) := (SV.at_ 0 rfl).cell 0
          have t4 : V.cell? ⟨B2, 1, none⟩ = some (.int .i64 z2) := (SV.at_ 0 rfl).cell 1
          have HV := Lib.hid SV
          clear SV
          by_cases hy : lenS (y1, y2) = 0 <;> by_cases hz : lenS (z1, z2) = 0
          · have hd2 : acc ++ keepN [(y1, y2), (z1, z2)] = acc := by simp [keepN, hy, hz]
            rw [hy] at HLy
            rw [hz] at HLz
            clear hy hz
            go_wp2_with (first
              | ((with_reducible refine (HLy.out _).mono ?_); rintro e4 w4 ⟨rfl, F4⟩; have S4 := HV.out.same F4; have p3 : w4.cell? ⟨B2, 0, none⟩ = some (.int .i64 z1) := (S4.at_ 0 rfl).cell 0; have p4 : w4.cell? ⟨B2, 1, none⟩ = some (.int .i64 z2) := (S4.at_ 0 rfl).cell 1; have HS4 := Lib.hid S4; clear F4 S4)
              | ((with_reducible refine (HLz.out _).mono ?_); rintro e6 w6 ⟨rfl, F6⟩; have HS6 := Lib.hid (HS4.out.same F6); clear F6)
              | fail)
            have HD := Lib.hid hd2
            clear hd2
            go_roundg (gk - 1)
            case measure => omega
            case rel => exact ⟨k + 1, q, d, by omega, by go_num, by rw [HX.out, HD.out], by rw [HX.out, HD.out]; exact HS6.out.drop (.cons _ (.cons _ (.refl _)))⟩
          · have hd2 : acc ++ keepN [(y1, y2), (z1, z2)] = acc ++ [(z1, z2)] := by simp [keepN, hy, hz]
            have g2 : decide (0 < lenS (z1, z2)) = true := decide_eq_true (by omega)
            rw [hy] at HLy
            generalize lenS (z1, z2) = nz at *
            clear hy hz
            go_wp2_with (first
              | ((with_reducible refine (HLy.out _).mono ?_); rintro e4 w4 ⟨rfl, F4⟩; have S4 := HV.out.same F4; have p3 : w4.cell? ⟨B2, 0, none⟩ = some (.int .i64 z1) := (S4.at_ 0 rfl).cell 0; have p4 : w4.cell? ⟨B2, 1, none⟩ = some (.int .i64 z2) := (S4.at_ 0 rfl).cell 1; have HS4 := Lib.hid S4; clear F4 S4)
              | ((with_reducible refine (HLz.out _).mono ?_); rintro e6 w6 ⟨rfl, F6⟩; have S6 := HS4.out.same F6; have v3 : w6.cell? ⟨B2, 0, none⟩ = some (.int .i64 z1) := (S6.at_ 0 rfl).cell 0; have v4 : w6.cell? ⟨B2, 1, none⟩ = some (.int .i64 z2) := (S6.at_ 0 rfl).cell 1; have HS6 := Lib.hid S6; clear F6 S6)
              | (at_builtin; refine Hold.out ?_)
              | fail)
            refine Hold.mk ?_
            refine wpList_push HS6.out 2 rfl z1 z2 rfl _ _ rfl rfl rfl (by omega) ?_
            intro q7 d7 w7 S7
            simp only [List.set_cons_succ, List.set_cons_zero] at S7
            have HS7 := Lib.hid S7
            clear S7
            go_wp2_with fail
            have HD := Lib.hid hd2
            clear hd2
            go_roundg (gk - 1)
            case measure => omega
            case rel => exact ⟨k + 1, q7, d7, by omega, by go_num, by rw [HX.out, HD.out]; simp, by rw [HX.out, HD.out]; exact HS7.out.drop (.cons _ (.cons _ (.refl _)))⟩
          · have hd2 : acc ++ keepN [(y1, y2), (z1, z2)] = acc ++ [(y1, y2)] := by simp [keepN, hy, hz]
            have g1 : decide (0 < lenS (y1, y2)) = true := decide_eq_true (by omega)
            rw [hz] at HLz
            generalize lenS (y1, y2) = ny at *
            clear hy hz
            go_wp2_with (first
              | ((with_reducible refine (HLy.out _).mono ?_); rintro e4 w4 ⟨rfl, F4⟩; have S4 := HV.out.same F4; have p1 : w4.cell? ⟨B, 0, none⟩ = some (.int .i64 y1) := (S4.at_ 1 rfl).cell 0; have p2 : w4.cell? ⟨B, 1, none⟩ = some (.int .i64 y2) := (S4.at_ 1 rfl).cell 1; have p3 : w4.cell? ⟨B2, 0, none⟩ = some (.int .i64 z1) := (S4.at_ 0 rfl).cell 0; have p4 : w4.cell? ⟨B2, 1, none⟩ = some (.int .i64 z2) := (S4.at_ 0 rfl).cell 1; have HS4 := Lib.hid S4; clear F4 S4)
              | (at_builtin; refine Hold.out ?_)
              | fail)
            refine Hold.mk ?_
            refine wpList_push HS4.out 2 rfl y1 y2 rfl _ _ rfl rfl rfl (by omega) ?_
            intro q5 d5 w5 S5
            simp only [List.set_cons_succ, List.set_cons_zero] at S5
            have r1 : w5.cell? ⟨B2, 0, none⟩ = some (.int .i64 z1) := (S5.at_ 0 rfl).cell 0
            have r2 : w5.cell? ⟨B2, 1, none⟩ = some (.int .i64 z2) := (S5.at_ 0 rfl).cell 1
            have HS5 := Lib.hid S5
            clear S5
            go_wp2_with ((with_reducible refine (HLz.out _).mono ?_); rintro e6 w6 ⟨rfl, F6⟩; have HS6 := Lib.hid (HS5.out.same F6); clear F6)
            have HD := Lib.hid hd2
            clear hd2
            go_roundg (gk - 1)
            case measure => omega
            case rel => exact ⟨k + 1, q5, d5, by omega, by go_num, by rw [HX.out, HD.out]; simp, by rw [HX.out, HD.out]; exact HS6.out.drop (.cons _ (.cons _ (.refl _)))⟩
          · have hd2 : acc ++ keepN [(y1, y2), (z1, z2)] = (acc ++ [(y1, y2)]) ++ [(z1, z2)] := by simp [keepN, hy, hz]
            have g1 : decide (0 < lenS (y1, y2)) = true := decide_eq_true (by omega)
            have g2 : decide (0 < lenS (z1, z2)) = true := decide_eq_true (by omega)
            generalize lenS (y1, y2) = ny at *
            generalize lenS (z1, z2) = nz at *
            clear hy hz
            go_wp2_with (first
              | ((with_reducible refine (HLy.out _).mono ?_); rintro e4 w4 ⟨rfl, F4⟩; have S4 := HV.out.same F4; have p1 : w4.cell? ⟨B, 0, none⟩ = some (.int .i64 y1) := (S4.at_ 1 rfl).cell 0; have p2 : w4.cell? ⟨B, 1, none⟩ = some (.int .i64 y2) := (S4.at_ 1 rfl).cell 1; have p3 : w4.cell? ⟨B2, 0, none⟩ = some (.int .i64 z1) := (S4.at_ 0 rfl).cell 0; have p4 : w4.cell? ⟨B2, 1, none⟩ = some (.int .i64 z2) := (S4.at_ 0 rfl).cell 1; have HS4 := Lib.hid S4; clear F4 S4)
              | (at_builtin; refine Hold.out ?_)
              | fail)
            refine Hold.mk ?_
            refine wpList_push HS4.out 2 rfl y1 y2 rfl _ _ rfl rfl rfl (by omega) ?_
            intro q5 d5 w5 S5
            simp only [List.set_cons_succ, List.set_cons_zero] at S5
            have r1 : w5.cell? ⟨B2, 0, none⟩ = some (.int .i64 z1) := (S5.at_ 0 rfl).cell 0
            have r2 : w5.cell? ⟨B2, 1, none⟩ = some (.int .i64 z2) := (S5.at_ 0 rfl).cell 1
            have HS5 := Lib.hid S5
            clear S5
            go_wp2_with (first
              | ((with_reducible refine (HLz.out _).mono ?_); rintro e6 w6 ⟨rfl, F6⟩; have S6 := HS5.out.same F6; have v3 : w6.cell? ⟨B2, 0, none⟩ = some (.int .i64 z1) := (S6.at_ 0 rfl).cell 0; have v4 : w6.cell? ⟨B2, 1, none⟩ = some (.int .i64 z2) := (S6.at_ 0 rfl).cell 1; have HS6 := Lib.hid S6; clear F6 S6)
              | (at_builtin; refine Hold.out ?_)
              | fail)
            refine Hold.mk ?_
            refine wpList_push HS6.out 2 rfl z1 z2 rfl _ _ rfl (by rw [List.length_append]; rfl) rfl (by simp only [List.length_append, List.length_cons, List.length_nil]; omega) ?_
            intro q7 d7 w7 S7
            simp only [List.set_cons_succ, List.set_cons_zero] at S7
            have HS7 := Lib.hid S7
            clear S7
            go_wp2_with fail
            have HD := Lib.hid hd2
            clear hd2
            go_roundg (gk - 1)
            case measure => omega
            case rel => exact ⟨k + 1, q7, d7, by omega, by go_num, by rw [HX.out, HD.out]; simp, by rw [HX.out, HD.out]; exact HS7.out.drop (.cons _ (.cons _ (.refl _)))⟩
        · have SV := ((((HU.out.alloc #[.int .i64 0, .int .i64 0] SpT).same (Fr.trans (Fr.drew (Fr.refl None _)) F2)).set 0 rfl 0 (.int .i64 z1)).set 0 rfl 1 (.int .i64 z2))
          generalize U.heap.size = B2 at SV ⊢
          refine Sep.gen _ SV ?_
          clear SV HS2 F2 HU u1 u2 u3 u4 c1 c2 c3 c4 hn1 hn2 nB m0 m1 n0' n1'
          intro V SV
          have t1 : V.cell? ⟨B, 0, none⟩ = some (.int .i64 y1) := (SV.at_ 1 rfl).cell 0
          have t2 : V.cell? ⟨B, 1, none⟩ = some (.int .i64 y2) := (SV.at_ 1 rfl).cell 1
          have t3 : V.cell? ⟨B2, 0, none⟩ = some (.int .i64 z1) := (SV.at_ 0 rfl).cell 0
          have t4 : V.cell? ⟨B2, 1, none⟩ = some (.int .i64 z2) := (SV.at_ 0 rfl).cell 1
          have HV := Lib.hid SV
          clear SV
          by_cases hy : lenS (y1, y2) = 0 <;> by_cases hz : lenS (z1, z2) = 0
          · have hd2 : acc ++ keepN [(y1, y2), (z1, z2)] = acc := by simp [keepN, hy, hz]
            rw [hy] at HLy
            rw [hz] at HLz
            clear hy hz
            go_wp2_with (first
              | ((with_reducible refine (HLy.out _).mono ?_); rintro e4 w4 ⟨rfl, F4⟩; have S4 := HV.out.same F4; have p3 : w4.cell? ⟨B2, 0, none⟩ = some (.int .i64 z1) := (S4.at_ 0 rfl).cell 0; have p4 : w4.cell? ⟨B2, 1, none⟩ = some (.int .i64 z2) := (S4.at_ 0 rfl).cell 1; have HS4 := Lib.hid S4; clear F4 S4)
              | ((with_reducible refine (HLz.out _).mono ?_); rintro e6 w6 ⟨rfl, F6⟩; have HS6 := Lib.hid (HS4.out.same F6); clear F6)
              | fail)
            have HD := Lib.hid hd2
            clear hd2
            go_roundg (gk - 1)
            case measure => omega
            case rel => exact ⟨k + 1, q, d, by omega, by go_num, by rw [HX.out, HD.out], by rw [HX.out, HD.out]; exact HS6.out.drop (.cons _ (.cons _ (.refl _)))⟩
          · have hd2 : acc ++ keepN [(y1, y2), (z1, z2)] = acc ++ [(z1, z2)] := by simp [keepN, hy, hz]
            have g2 : decide (0 < lenS (z1, z2)) = true := decide_eq_true (by omega)
            rw [hy] at HLy
            generalize lenS (z1, z2) = nz at *
            clear hy hz
            go_wp2_with (first
              | ((with_reducible refine (HLy.out _).mono ?_); rintro e4 w4 ⟨rfl, F4⟩; have S4 := HV.out.same F4; have p3 : w4.cell? ⟨B2, 0, none⟩ = some (.int .i64 z1) := (S4.at_ 0 rfl).cell 0; have p4 : w4.cell? ⟨B2, 1, none⟩ = some (.int .i64 z2) := (S4.at_ 0 rfl).cell 1; have HS4 := Lib.hid S4; clear F4 S4)
              | ((with_reducible refine (HLz.out _).mono ?_); rintro e6 w6 ⟨rfl, F6⟩; have S6 := HS4.out.same F6; have v3 : w6.cell? ⟨B2, 0, none⟩ = some (.int .i64 z1) := (S6.at_ 0 rfl).cell 0; have v4 : w6.cell? ⟨B2, 1, none⟩ = some (.int .i64 z2) := (S6.at_ 0 rfl).cell 1; have HS6 := Lib.hid S6; clear F6 S6)
              | (at_builtin; refine Hold.out ?_)
              | fail)
            refine Hold.mk ?_
            refine wpList_push HS6.out 2 rfl z1 z2 rfl _ _ rfl rfl rfl (by omega) ?_
            intro q7 d7 w7 S7
            simp only [List.set_cons_succ, List.set_cons_zero] at S7
            have HS7 := Lib.hid S7
            clear S7
            go_wp2_with fail
            have HD := Lib.hid hd2
            clear hd2
            go_roundg (gk - 1)
            case measure => omega
            case rel => exact ⟨k + 1, q7, d7, by omega, by go_num, by rw [HX.out, HD.out]; simp, by rw [HX.out, HD.out]; exact HS7.out.drop (.cons _ (.cons _ (.refl _)))⟩
          · have hd2 : acc ++ keepN [(y1, y2), (z1, z2)] = acc ++ [(y1, y2)] := by simp [keepN, hy, hz]
            have g1 : decide (0 < lenS (y1, y2)) = true := decide_eq_true (by omega)
            rw [hz] at HLz
            generalize lenS (y1, y2) = ny at *
            clear hy hz
            go_wp2_with (first
              | ((with_reducible refine (HLy.out _).mono ?_); rintro e4 w4 ⟨rfl, F4⟩; have S4 := HV.out.same F4; have p1 : w4.cell? ⟨B, 0, none⟩ = some (.int .i64 y1) := (S4.at_ 1 rfl).cell 0; have p2 : w4.cell? ⟨B, 1, none⟩ = some (.int .i64 y2) := (S4.at_ 1 rfl).cell 1; have p3 : w4.cell? ⟨B2, 0, none⟩ = some (.int .i64 z1) := (S4.at_ 0 rfl).cell 0; have p4 : w4.cell? ⟨B2, 1, none⟩ = some (.int .i64 z2) := (S4.at_ 0 rfl).cell 1; have HS4 := Lib.hid S4; clear F4 S4)
              | (at_builtin; refine Hold.out ?_)
              | fail)
            refine Hold.mk ?_
            refine wpList_push HS4.out 2 rfl y1 y2 rfl _ _ rfl rfl rfl (by omega) ?_
            intro q5 d5 w5 S5
            simp only [List.set_cons_succ, List.set_cons_zero] at S5
            have r1 : w5.cell? ⟨B2, 0, none⟩ = some (.int .i64 z1) := (S5.at_ 0 rfl).cell 0
            have r2 : w5.cell? ⟨B2, 1, none⟩ = some (.int .i64 z2) := (S5.at_ 0 rfl).cell 1
            have HS5 := Lib.hid S5
            clear S5
            go_wp2_with ((with_reducible refine (HLz.out _).mono ?_); rintro e6 w6 ⟨rfl, F6⟩; have HS6 := Lib.hid (HS5.out.same F6); clear F6)
            have HD := Lib.hid hd2
            clear hd2
            go_roundg (gk - 1)
            case measure => omega
            case rel => exact ⟨k + 1, q5, d5, by omega, by go_num, by rw [HX.out, HD.out]; simp, by rw [HX.out, HD.out]; exact HS6.out.drop (.cons _ (.cons _ (.refl _)))⟩
          · have hd2 : acc ++ keepN [(y1, y2), (z1, z2)] = (acc ++ [(y1, y2)]) ++ [(z1, z2)] := by simp [keepN, hy, hz]
            have g1 : decide (0 < lenS (y1, y2)) = true := decide_eq_true (by omega)
            have g2 : decide (0 < lenS (z1, z2)) = true := decide_eq_true (by omega)
            generalize lenS (y1, y2) = ny at *
            generalize lenS (z1, z2) = nz at *
            clear hy hz
            go_wp2_with (first
              | ((with_reducible refine (HLy.out _).mono ?_); rintro e4 w4 ⟨rfl, F4⟩; have S4 := HV.out.same F4; have p1 : w4.cell? ⟨B, 0, none⟩ = some (.int .i64 y1) := (S4.at_ 1 rfl).cell 0; have p2 : w4.cell? ⟨B, 1, none⟩ = some (.int .i64 y2) := (S4.at_ 1 rfl).cell 1; have p3 : w4.cell? ⟨B2, 0, none⟩ = some (.int .i64 z1) := (S4.at_ 0 rfl).cell 0; have p4 : w4.cell? ⟨B2, 1, none⟩ = some (.int .i64 z2) := (S4.at_ 0 rfl).cell 1; have HS4 := Lib.hid S4; clear F4 S4)
              | (at_builtin; refine Hold.out ?_)
              | fail)
            refine Hold.mk ?_
            refine wpList_push HS4.out 2 rfl y1 y2 rfl _ _ rfl rfl rfl (by omega) ?_
            intro q5 d5 w5 S5
            simp only [List.set_cons_succ, List.set_cons_zero] at S5
            have r1 : w5.cell? ⟨B2, 0, none⟩ = some (.int .i64 z1) := (S5.at_ 0 rfl).cell 0
            have r2 : w5.cell? ⟨B2, 1, none⟩ = some (.int .i64 z2) := (S5.at_ 0 rfl).cell 1
            have HS5 := Lib.hid S5
            clear S5
            go_wp2_with (first
              | ((with_reducible refine (HLz.out _).mono ?_); rintro e6 w6 ⟨rfl, F6⟩; have S6 := HS5.out.same F6; have v3 : w6.cell? ⟨B2, 0, none⟩ = some (.int .i64 z1) := (S6.at_ 0 rfl).cell 0; have v4 : w6.cell? ⟨B2, 1, none⟩ = some (.int .i64 z2) := (S6.at_ 0 rfl).cell 1; have HS6 := Lib.hid S6; clear F6 S6)
              | (at_builtin; refine Hold.out ?_)
              | fail)
            refine Hold.mk ?_
            refine wpList_push HS6.out 2 rfl z1 z2 rfl _ _ rfl (by rw [List.length_append]; rfl) rfl (by simp only [List.length_append, List.length_cons, List.length_nil]; omega) ?_
            intro q7 d7 w7 S7
            simp only [List.set_cons_succ, List.set_cons_zero] at S7
            have HS7 := Lib.hid S7
            clear S7
            go_wp2_with fail
            have HD := Lib.hid hd2
            clear hd2
            go_roundg (gk - 1)
            case measure => omega
            case rel => exact ⟨k + 1, q7, d7, by omega, by go_num, by rw [HX.out, HD.out]; simp, by rw [HX.out, HD.out]; exact HS7.out.drop (.cons _ (.cons _ (.refl _)))⟩
    · obtain rfl : k = l.length := by omega
      rw [List.take_length] at S ⊢
      have HS := Lib.hid S
      clear S
      go_wp2_with fail
      go_ret
      exact ⟨q, d, rfl, HS.out.drop (.cons_cons _ (.cons _ (.slnil)))⟩
end Go.Proofs.Ytfobeheplficgaa
