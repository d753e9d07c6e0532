/- Spans: Below, From, Hull: walked. -/
import Derived.Test.YtmdkmclngblldaaSp1
set_option linter.unusedVariables false
set_option linter.unusedSimpArgs false
namespace Go.Proofs.Ytmdkmclngblldaa
open Go.RowKit Go.Und
attribute [local go_sem ↓] Go.wp_at_zero Go.wp_at_succ

set_option maxRecDepth 100000 in
set_option maxHeartbeats 4000000 in
theorem below_any (a b k : Int) (w : World) : Calls Try.prog 64 #[.agg #[.int .i64 a, .int .i64 b], .int .i64 k] w fun e w' => e = .returned (spV (belowS (a, b) k)) ∧ Fr None w w' := by
  have S0 := ((Sep.law w).alloc #[.int .i64 a, .int .i64 b] SpT).alloc #[.int .i64 0, .int .i64 0] SpT
  simp only [World.size_alloc] at S0
  have P1 := Lib.hid (fun W => plain_any a b W)
  have HS := Lib.hid S0
  have E := Lib.hid (show plainS ((plainS (a, b)).1, min (plainS (a, b)).2 k) = belowS (a, b) k from rfl)
  clear S0
  generalize plainS (a, b) = s at *
  obtain ⟨s1, s2⟩ := s
  dsimp only at P1 E
  go_enter Try.func64, Try.ntmps64
  go_wp2_with fail
  refine (P1.out _).mono ?_
  rintro e w3 ⟨rfl, f3⟩
  have S3 := HS.out.same f3
  have k0 : w3.cell? ⟨w.heap.size, 0, none⟩ = some (.int .i64 a) := (S3.at_ 1 rfl).cell 0
  have k1 : w3.cell? ⟨w.heap.size, 1, none⟩ = some (.int .i64 b) := (S3.at_ 1 rfl).cell 1
  have z0 : w3.frozen? ⟨w.heap.size, 0, none⟩ = false := (S3.at_ 1 rfl).frozen 0
  have z1 : w3.frozen? ⟨w.heap.size, 1, none⟩ = false := (S3.at_ 1 rfl).frozen 1
  have S5 : Sep None w _ [Ob.blk (w.heap.size + 1) SpT #[.int .i64 0, .int .i64 0], Ob.blk w.heap.size SpT #[.int .i64 s1, .int .i64 s2]] := (S3.set 1 rfl 0 (.int .i64 s1)).set 1 rfl 1 (.int .i64 s2)
  have HS5 := Lib.hid S5
  clear S3 S5 f3 HS
  go_wp2_with fail
  all_goals
    refine (plain_is _ _ (belowS (a, b) k) (by rw [← E.out]; exact congrArg plainS (Prod.ext (by dsimp only; try omega) (by dsimp only; try omega))) _).mono ?_
    rintro e w6 ⟨rfl, f6⟩
    have S6 := HS5.out.same f6
    have d0 : w6.cell? ⟨w.heap.size + 1, 0, none⟩ = some (.int .i64 0) := (S6.at_ 0 rfl).cell 0
    have d1 : w6.cell? ⟨w.heap.size + 1, 1, none⟩ = some (.int .i64 0) := (S6.at_ 0 rfl).cell 1
    have z0 : w6.frozen? ⟨w.heap.size + 1, 0, none⟩ = false := (S6.at_ 0 rfl).frozen 0
    have z1 : w6.frozen? ⟨w.heap.size + 1, 1, none⟩ = false := (S6.at_ 0 rfl).frozen 1
    have HS6 := Lib.hid S6
    clear S6 f6 HS5 k0 k1
    go_wp2_with fail
    exact bodyPost_ret (v := spV (belowS (a, b) k)) (by simp [results, Try.results64, go_sem, d0, d1]) rfl ⟨rfl, ((HS6.out.set 0 rfl 0 (.int .i64 (belowS (a, b) k).1)).set 0 rfl 1 (.int .i64 (belowS (a, b) k).2)).fr⟩
set_option maxRecDepth 100000 in
set_option maxHeartbeats 4000000 in
theorem from_any (a b k : Int) (w : World) : Calls Try.prog 65 #[.agg #[.int .i64 a, .int .i64 b], .int .i64 k] w fun e w' => e = .returned (spV (fromS (a, b) k)) ∧ Fr None w w' := by
  have S0 := ((Sep.law w).alloc #[.int .i64 a, .int .i64 b] SpT).alloc #[.int .i64 0, .int .i64 0] SpT
  simp only [World.size_alloc] at S0
  have P1 := Lib.hid (fun W => plain_any a b W)
  have HS := Lib.hid S0
  have E := Lib.hid (show plainS (max (plainS (a, b)).1 k, (plainS (a, b)).2) = fromS (a, b) k from rfl)
  clear S0
  generalize plainS (a, b) = s at *
  obtain ⟨s1, s2⟩ := s
  dsimp only at P1 E
  go_enter Try.func65, Try.ntmps65
  go_wp2_with fail
  refine (P1.out _).mono ?_
  rintro e w3 ⟨rfl, f3⟩
  have S3 := HS.out.same f3
  have k0 : w3.cell? ⟨w.heap.size, 0, none⟩ = some (.int .i64 a) := (S3.at_ 1 rfl).cell 0
  have k1 : w3.cell? ⟨w.heap.size, 1, none⟩ = some (.int .i64 b) := (S3.at_ 1 rfl).cell 1
  have z0 : w3.frozen? ⟨w.heap.size, 0, none⟩ = false := (S3.at_ 1 rfl).frozen 0
  have z1 : w3.frozen? ⟨w.heap.size, 1, none⟩ = false := (S3.at_ 1 rfl).frozen 1
  have S5 : Sep None w _ [Ob.blk (w.heap.size + 1) SpT #[.int .i64 0, .int .i64 0], Ob.blk w.heap.size SpT #[.int .i64 s1, .int .i64 s2]] := (S3.set 1 rfl 0 (.int .i64 s1)).set 1 rfl 1 (.int .i64 s2)
  have HS5 := Lib.hid S5
  clear S3 S5 f3 HS
  go_wp2_with fail
  all_goals
    refine (plain_is _ _ (fromS (a, b) k) (by rw [← E.out]; exact congrArg plainS (Prod.ext (by dsimp only; try omega) (by dsimp only; try omega))) _).mono ?_
    rintro e w6 ⟨rfl, f6⟩
    have S6 := HS5.out.same f6
    have d0 : w6.cell? ⟨w.heap.size + 1, 0, none⟩ = some (.int .i64 0) := (S6.at_ 0 rfl).cell 0
    have d1 : w6.cell? ⟨w.heap.size + 1, 1, none⟩ = some (.int .i64 0) := (S6.at_ 0 rfl).cell 1
    have z0 : w6.frozen? ⟨w.heap.size + 1, 0, none⟩ = false := (S6.at_ 0 rfl).frozen 0
    have z1 : w6.frozen? ⟨w.heap.size + 1, 1, none⟩ = false := (S6.at_ 0 rfl).frozen 1
    have HS6 := Lib.hid S6
    clear S6 f6 HS5 k0 k1
    go_wp2_with fail
    exact bodyPost_ret (v := spV (fromS (a, b) k)) (by simp [results, Try.results65, go_sem, d0, d1]) rfl ⟨rfl, ((HS6.out.set 0 rfl 0 (.int .i64 (fromS (a, b) k).1)).set 0 rfl 1 (.int .i64 (fromS (a, b) k).2)).fr⟩

def spc (x : Int × Int) : List Value := [.int .i64 x.1, .int .i64 x.2]
theorem spc_len : ∀ x, (spc x).length = 2 := fun _ => rfl
theorem spc_one : ∀ x, ∀ u ∈ spc x, u.oneCell' = true := fun x u hu => by
  simp only [spc, List.mem_cons, List.not_mem_nil, or_false] at hu
  rcases hu with rfl | rfl <;> rfl
theorem hull_take {l : List (Int × Int)} {k : Nat} {x : Int × Int} (h : l[k]? = some x) : hullS (l.take (k + 1)) = if lenS x = 0 then hullS (l.take k) else if lenS (hullS (l.take k)) = 0 then x else (min (hullS (l.take k)).1 x.1, max (hullS (l.take k)).2 x.2) := by
  rw [List.take_add_one, h]; exact hull_snoc _ _
set_option maxRecDepth 100000 in
set_option maxHeartbeats 4000000 in
theorem hull_any (p : Option Addr) (c : Nat) (l : List (Int × Int)) (w : World) (hr : Reads w 2 p l.length c (fc spc l)) (hl : l.length ≤ 1000000) :
    Calls Try.prog 55 #[.slice p l.length c] w fun e w' => e = .returned (spV (hullS l)) ∧ Fr None w w' := by
  have S0 := ((Sep.law w).alloc #[.int .i64 0, .int .i64 0] SpT).alloc #[.int .i64 0, .int .i64 0] SpT
  simp only [World.size_alloc] at S0
  have HS := Lib.hid S0
  have HR := Lib.hid hr
  clear S0 hr
  go_enter Try.func55, Try.ntmps55
  go_wp2_with fail
  go_loopg [8] l.length (fun r i wr => ∃ k : Nat, k + r = l.length ∧ i = .int .i64 k ∧ Sep None w wr [Ob.blk (w.heap.size + 1) SpT #[.int .i64 (hullS (l.take k)).1, .int .i64 (hullS (l.take k)).2], Ob.blk w.heap.size SpT #[.int .i64 0, .int .i64 0]])
  case atStart => exact ⟨0, by omega, rfl, HS.out⟩
  case round =>
    clear HS
    obtain ⟨k, hk, rfl, S1⟩ := hrel
    by_cases g : k < l.length
    · have ex := List.getElem?_eq_getElem g
      obtain ⟨b, off, rfl, hc⟩ := (HR.out.fr S1.fr (fun _ _ h => h)).elem spc_len (by decide) ex
      have hs := hull_take ex
      generalize l[k] = x at *
      obtain ⟨x1, x2⟩ := x
      have c1 : wr.cell? ⟨b, off + k * 2, none⟩ = some (.int .i64 x1) := hc 0 _ rfl
      have c2 : wr.cell? ⟨b, off + k * 2 + 1, none⟩ = some (.int .i64 x2) := hc 1 _ rfl
      have HN := Lib.hid hs
      have S2 := S1.alloc #[.int .i64 x1, .int .i64 x2] SpT
      have HS2 := Lib.hid S2
      clear hc hs ex S1 S2
      go_wp2_with fail
      have N1 := none_any x1 x2 (wr.alloc (.cells #[.int .i64 x1, .int .i64 x2] SpT))
      refine N1.mono ?_
      rintro e w3 ⟨rfl, f3⟩
      have S3 := HS2.out.same f3
      clear N1 f3 HS2 c1 c2
      generalize hullS (l.take k) = h at *
      obtain ⟨h1, h2⟩ := h
      have k0 : w3.cell? ⟨w.heap.size + 1, 0, none⟩ = some (.int .i64 h1) := (S3.at_ 1 rfl).cell 0
      have k1 : w3.cell? ⟨w.heap.size + 1, 1, none⟩ = some (.int .i64 h2) := (S3.at_ 1 rfl).cell 1
      by_cases q1 : lenS (x1, x2) = 0
      · have hn := HN.out
        rw [if_pos q1] at hn
        have HN2 := Lib.hid hn
        have HS3 := Lib.hid S3
        rw [decide_eq_true q1]
        clear hn HN q1 S3
        go_wp2_with fail
        go_roundg (gk - 1)
        case measure => omega
        case rel => exact ⟨k + 1, by omega, by go_num, by rw [HN2.out]; exact HS3.out.drop (List.sublist_cons_self _ _)⟩
      · rw [decide_eq_false q1]
        have hn := HN.out
        rw [if_neg q1] at hn
        have HN1 := Lib.hid hn
        have HS3 := Lib.hid S3
        clear hn HN q1 S3
        go_wp2_with fail
        have N2 := none_any h1 h2 w3
        refine N2.mono ?_
        rintro e w4 ⟨rfl, f4⟩
        have S4 := HS3.out.same f4
        clear N2 f4 HS3 k0 k1
        have k0 : w4.cell? ⟨w.heap.size + 1, 0, none⟩ = some (.int .i64 h1) := (S4.at_ 1 rfl).cell 0
        have k1 : w4.cell? ⟨w.heap.size + 1, 1, none⟩ = some (.int .i64 h2) := (S4.at_ 1 rfl).cell 1
        have z0 : w4.frozen? ⟨w.heap.size + 1, 0, none⟩ = false := (S4.at_ 1 rfl).frozen 0
        have z1 : w4.frozen? ⟨w.heap.size + 1, 1, none⟩ = false := (S4.at_ 1 rfl).frozen 1
        have m0 : w4.cell? ⟨wr.heap.size, 0, none⟩ = some (.int .i64 x1) := (S4.at_ 0 rfl).cell 0
        have m1 : w4.cell? ⟨wr.heap.size, 1, none⟩ = some (.int .i64 x2) := (S4.at_ 0 rfl).cell 1
        have HS4 := Lib.hid S4
        clear S4
        by_cases q2 : lenS (h1, h2) = 0
        · have hn := HN1.out
          rw [if_pos q2] at hn
          have HN2 := Lib.hid hn
          rw [decide_eq_true q2]
          clear hn HN1 q2
          go_wp2_with fail
          go_roundg (gk - 1)
          case measure => omega
          case rel => exact ⟨k + 1, by omega, by go_num, by rw [HN2.out]; exact ((HS4.out.set 1 rfl 0 (.int .i64 x1)).set 1 rfl 1 (.int .i64 x2)).drop (List.sublist_cons_self _ _)⟩
        · have hn := HN1.out
          rw [if_neg q2] at hn
          have HN2 := Lib.hid hn
          rw [decide_eq_false q2]
          clear hn HN1 q2
          go_wp2_with fail
          all_goals
            go_roundg (gk - 1)
            case measure => omega
            case rel => exact ⟨k + 1, by omega, by go_num, by
              rw [HN2.out]
              dsimp only
              have hs := (HS4.out.set 1 rfl 0 (.int .i64 (min h1 x1))).set 1 rfl 1 (.int .i64 (max h2 x2))
              first
              | (rw [show min h1 x1 = h1 by omega, show max h2 x2 = h2 by omega] at *; exact hs.drop (List.sublist_cons_self _ _))
              | (rw [show min h1 x1 = x1 by omega, show max h2 x2 = h2 by omega] at *; exact hs.drop (List.sublist_cons_self _ _))
              | (rw [show min h1 x1 = h1 by omega, show max h2 x2 = x2 by omega] at *; exact hs.drop (List.sublist_cons_self _ _))
              | (rw [show min h1 x1 = x1 by omega, show max h2 x2 = x2 by omega] at *; exact hs.drop (List.sublist_cons_self _ _))⟩
    · obtain rfl : k = l.length := by omega
      rw [List.take_length] at S1
      have k0 : wr.cell? ⟨w.heap.size + 1, 0, none⟩ = some (.int .i64 (hullS l).1) := (S1.at_ 0 rfl).cell 0
      have k1 : wr.cell? ⟨w.heap.size + 1, 1, none⟩ = some (.int .i64 (hullS l).2) := (S1.at_ 0 rfl).cell 1
      have d0 : wr.cell? ⟨w.heap.size, 0, none⟩ = some (.int .i64 0) := (S1.at_ 1 rfl).cell 0
      have d1 : wr.cell? ⟨w.heap.size, 1, none⟩ = some (.int .i64 0) := (S1.at_ 1 rfl).cell 1
      have z0 : wr.frozen? ⟨w.heap.size, 0, none⟩ = false := (S1.at_ 1 rfl).frozen 0
      have z1 : wr.frozen? ⟨w.heap.size, 1, none⟩ = false := (S1.at_ 1 rfl).frozen 1
      have HS1 := Lib.hid S1
      clear S1
      go_wp2_with fail
      exact bodyPost_ret (v := spV (hullS l)) (by simp [results, Try.results55, go_sem, d0, d1]) rfl ⟨rfl, ((HS1.out.set 1 rfl 0 (.int .i64 (hullS l).1)).set 1 rfl 1 (.int .i64 (hullS l).2)).fr⟩
end Go.Proofs.Ytmdkmclngblldaa
