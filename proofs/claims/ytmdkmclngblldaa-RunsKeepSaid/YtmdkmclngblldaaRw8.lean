/- slices.Replace by one span; lay, ask, New: walked. -/
import Derived.Test.YtmdkmclngblldaaRw7
set_option linter.unusedVariables false
set_option linter.unusedSimpArgs false
namespace Go.Proofs.Ytmdkmclngblldaa
open Go.RowKit Go.Und Go.Shelf
attribute [local go_sem] Oper.semAt_some
attribute [local go_sem ↓] Go.wp_at_zero Go.wp_at_succ

abbrev sblk (vb : Nat) (x : Int × Int) : Ob := Ob.blk vb SpT #[.int .i64 x.1, .int .i64 x.2]
theorem srow1_of {w : World} {vb : Nat} {x : Int × Int} (h : (sblk vb x).ok w) : (srow (some ⟨vb, 0, none⟩) 1 [x]).ok w :=
  row_of h (Nat.le_refl _) (by decide) rfl rfl
theorem sblk_of {w : World} {vb : Nat} {x : Int × Int} (h : (srow (some ⟨vb, 0, none⟩) 1 [x]).ok w) : (sblk vb x).ok w := by
  obtain ⟨g, cur, e, hb, _, _, hsz, htk⟩ := row_parts h (by simp)
  obtain rfl : vb = g := congrArg Addr.block (Option.some.inj e)
  have e2 : cur = #[.int .i64 x.1, .int .i64 x.2] := by
    apply Array.toList_inj.1
    have h1 : cur.toList.take (1 * 2) = cur.toList := List.take_of_length_le (by rw [Array.length_toList, hsz]; exact Nat.le_refl _)
    rw [← h1]; exact htk
  rw [e2] at hb
  exact hb
theorem row_reads {w : World} {q : Option Addr} {cap : Nat} {l : List (Int × Int)} (h : (srow q cap l).ok w) : Reads w 2 q l.length cap (fc spc l) := (show Owns spc 2 SpT w (.slice q l.length cap) l from h).reads.2.1
set_option maxRecDepth 100000 in
set_option maxHeartbeats 4000000 in
theorem replace1_any (q : Option Addr) (cap : Nat) (l : List (Int × Int)) (i j : Nat) (vb : Nat) (x : Int × Int) (w : World) (hij : i ≤ j) (hj : j ≤ l.length) (hend : i = j ∨ j = l.length) (hl : l.length ≤ 100000)
    (S : Sep (fpL [srow q cap l, sblk vb x]) w w [srow q cap l, sblk vb x]) :
    Calls Try.prog 88 #[.slice q l.length cap, .int .i64 (i : Int), .int .i64 (j : Int), .slice (some ⟨vb, 0, none⟩) 1 1] w fun e w' =>
      ∃ q' c', e = .returned (.slice q' (l.take i ++ ([x] ++ l.drop j)).length c') ∧ Sep (fpL [srow q cap l, sblk vb x]) w w' [srow q' c' (l.take i ++ ([x] ++ l.drop j)), sblk vb x] := by
  rcases Nat.lt_or_ge i j with h1 | h1
  · obtain rfl : j = l.length := by omega
    obtain ⟨g, cur, rfl, hb, hle, hcm, hsz, htk⟩ := row_parts (S.at_ 0 rfl) (by omega)
    have hfin : l.take i ++ ([x] ++ l.drop l.length) = l.take i ++ [x] := by simp
    have hlen : (l.take i ++ [x]).length = i + 1 := by simp; omega
    rw [hfin]
    have Sa := S.swap (Ob.blk g SpT cur) hb (fun k h => (srow_fp cur k).2 h)
    have Sb := ((Sa.perm (List.Perm.swap _ _ _)).swap (srow (some ⟨vb, 0, none⟩) 1 [x]) (srow1_of (Sa.at_ 1 rfl)) (fun k h => (srow_fp _ k).1 h)).perm (List.Perm.swap _ _ _)
    refine (replace_end g cap cur l i l.length (some ⟨vb, 0, none⟩) 1 [x] w h1 (Nat.le_refl _) hl (by simp) hle hcm Sb.self hsz htk rfl (by simp; omega)).mono ?_
    rintro e w' ⟨cur', rfl, T, h2, h3⟩
    have T1 := Sb.did0 T
    have T2 := T1.swap (srow (some ⟨g, 0, none⟩) cap (l.take i ++ [x])) (row_of (T1.at_ 0 rfl) (by rw [hlen]; omega) hcm h2 (by rw [hlen]; exact h3)) (fun k h => (srow_fp cur' k).1 h)
    have T3 := ((T2.perm (List.Perm.swap _ _ _)).swap (sblk vb x) (sblk_of (T2.at_ 1 rfl)) (fun k h => (srow_fp _ k).2 h)).perm (List.Perm.swap _ _ _)
    exact ⟨some ⟨g, 0, none⟩, cap, by rw [hlen]; rfl, T3⟩
  · obtain rfl : i = j := by omega
    have hcut : ∃ q1 n1 c1, ∀ W, (Instr.sliceAt SlT (.slice q l.length cap) (some (.int .i64 (i : Int))) (some (.int .i64 (i : Int))) none).run Try.prog W = .ok (.slice q1 n1 c1) W := by
      obtain ⟨inf, hi1, _, hz1, _⟩ := info_parts spInfo
      have hcc : l.length ≤ cap := (row_reads (S.at_ 0 rfl)).room
      exact ⟨_, _, _, fun W => run_cut_mid (P := Try.prog) W SlT SpT inf 2 Try.underlying22 hi1 hz1 q l.length cap .i64 .i64 (i : Int) (i : Int) (by omega) (by omega) (by omega)⟩
    obtain ⟨q1, n1, c1, hcut⟩ := hcut
    obtain ⟨L2, e9⟩ : ∃ L2, L2 = l.take i ++ ([x] ++ l.drop i) := ⟨_, rfl⟩
    have HI := Lib.hid (insert_any q cap l i vb x w (by omega) hl S)
    rw [← e9] at HI ⊢
    clear e9
    have g1 : ((i : Int) == i) = true := beq_self_eq_true _
    clear S hend
    go_enter Try.func88, Try.ntmps88
    go_wp2_with ((refine (HI.out).mono ?_); rintro e1 w1 ⟨q2, c2, rfl, T⟩)
    go_ret
    exact ⟨_, _, rfl, T⟩

set_option maxRecDepth 100000 in
set_option maxHeartbeats 4000000 in
/-- There is no room. -/
theorem lay_full (p : Nat) (q : Option Addr) (cap n : Nat) (lo hi : Nat) (qv : Option Addr) (m cv : Nat) (w : World) (c1 : w.cell? ⟨p, 0, none⟩ = some (.slice q n cap)) (hlo : lo ≤ hi) (hhi : hi ≤ n) (hn : n ≤ 100000) (hm : m ≤ 100000) (hfull : 4096 < n - (hi - lo) + m) :
    Calls Try.prog 56 #[.pointer (at0 p), .int .i64 (lo : Int), .int .i64 (hi : Int), .slice qv m cv] w fun e w' => e = .returned (.int .i64 4) ∧ w' = w := by
  have g1 : decide ((4096 : Int) < (n : Int) - ((hi : Int) - lo) + m) = true := decide_eq_true (by omega)
  have e1 : IntKind.i64.wrap ((hi : Int) - lo) = (hi : Int) - lo := by simp [IntKind.wrap, IntKind.bits, IntKind.signed]; omega
  have e2 : IntKind.i64.wrap ((n : Int) - ((hi : Int) - lo)) = (n : Int) - ((hi : Int) - lo) := by simp [IntKind.wrap, IntKind.bits, IntKind.signed]; omega
  have e3 : IntKind.i64.wrap ((n : Int) - ((hi : Int) - lo) + m) = (n : Int) - ((hi : Int) - lo) + m := by simp [IntKind.wrap, IntKind.bits, IntKind.signed]; omega
  go_enter Try.func56, Try.ntmps56
  go_wp2_with fail
  go_ret
  exact ⟨rfl, rfl⟩
set_option maxRecDepth 100000 in
set_option maxHeartbeats 4000000 in
theorem lay1_any (p : Nat) (q : Option Addr) (cap : Nat) (l : List (Int × Int)) (lo hi : Nat) (vb : Nat) (x : Int × Int) (w : World) (hlo : lo ≤ hi) (hhi : hi ≤ l.length) (hend : lo = hi ∨ hi = l.length) (hn : l.length ≤ 100000) (hroom : l.length - (hi - lo) + 1 ≤ 4096)
    (S : Sep (fpL (rns p q cap l ++ [sblk vb x])) w w (rns p q cap l ++ [sblk vb x])) :
    Calls Try.prog 56 #[.pointer (at0 p), .int .i64 (lo : Int), .int .i64 (hi : Int), .slice (some ⟨vb, 0, none⟩) 1 1] w fun e w' =>
      e = .returned (.int .i64 0) ∧ ∃ q' c', Sep (fpL (rns p q cap l ++ [sblk vb x])) w w' (rns p q' c' (l.take lo ++ ([x] ++ l.drop hi)) ++ [sblk vb x]) := by
  have g1 : decide ((4096 : Int) < (l.length : Int) - ((hi : Int) - lo) + 1) = false := decide_eq_false (by omega)
  have e1 : IntKind.i64.wrap ((hi : Int) - lo) = (hi : Int) - lo := by simp [IntKind.wrap, IntKind.bits, IntKind.signed]; omega
  have e2 : IntKind.i64.wrap ((l.length : Int) - ((hi : Int) - lo)) = (l.length : Int) - ((hi : Int) - lo) := by simp [IntKind.wrap, IntKind.bits, IntKind.signed]; omega
  have e3 : IntKind.i64.wrap ((l.length : Int) - ((hi : Int) - lo) + 1) = (l.length : Int) - ((hi : Int) - lo) + 1 := by simp [IntKind.wrap, IntKind.bits, IntKind.signed]; omega
  have c1 : w.cell? ⟨p, 0, none⟩ = some (.slice q l.length cap) := (S.at_ 0 rfl).cell 0
  have S1 : Sep (fpL (rns p q cap l ++ [sblk vb x])) w w ([srow q cap l, sblk vb x] ++ [Ob.blk p RnT #[.slice q l.length cap]]) := S.perm (by
    show List.Perm [_, _, _] [_, _, _]
    exact (List.Perm.swap _ _ _).trans (List.Perm.cons _ (List.Perm.swap _ _ _)))
  have HR := Lib.hid (replace1_any q cap l lo hi vb x w hlo hhi hend hn S1.head)
  obtain ⟨L2, e9⟩ : ∃ L2, L2 = l.take lo ++ ([x] ++ l.drop hi) := ⟨_, rfl⟩
  rw [← e9] at HR ⊢
  clear e9
  have HS := Lib.hid S1
  clear S S1 hend hroom
  go_enter Try.func56, Try.ntmps56
  go_wp2_with ((refine (HR.out).mono ?_); rintro e4 w1 ⟨q2, c2, rfl, T⟩; have S2 := HS.out.did T; have c2' : w1.cell? ⟨p, 0, none⟩ = some (.slice q l.length cap) := (S2.at_ 2 rfl).cell 0; have fz : w1.frozen? ⟨p, 0, none⟩ = false := (S2.at_ 2 rfl).frozen 0; have HS2 := Lib.hid (S2.set 2 rfl 0 (.slice q2 L2.length c2)); clear S2 T)
  go_ret
  refine ⟨rfl, q2, c2, HS2.out.perm ?_⟩
  show List.Perm [_, _, _] [_, _, _]
  exact (List.Perm.cons _ (List.Perm.swap _ _ _)).trans (List.Perm.swap _ _ _)
end Go.Proofs.Ytmdkmclngblldaa
