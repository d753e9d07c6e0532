/- slices.Replace, lay: walked for all. -/
import Derived.Test.YtmdkmclngblldaaRwH
set_option linter.unusedVariables false
set_option linter.unusedSimpArgs false
namespace Go.Proofs.Ytmdkmclngblldaa
open Go.RowKit Go.Und Go.Shelf
attribute [local go_sem] Oper.semAt_some
attribute [local go_sem ↓] Go.wp_at_zero Go.wp_at_succ

theorem row_back {D : Nat → Prop} {w w' : World} {g c : Nat} {cur : Array Value} {l : List (Int × Int)} {R : List Ob} (T : Sep D w w' (Ob.blk g SpT cur :: R)) (h1 : l.length ≤ c) (h2 : c ≤ maxLen) (h3 : cur.size = c * 2) (h4 : cur.toList.take (l.length * 2) = fc spc l) : Sep D w w' (srow (some ⟨g, 0, none⟩) c l :: R) :=
  T.swap _ (row_of (T.at_ 0 rfl) h1 h2 h3 h4) (fun k h => (srow_fp cur k).1 h)
set_option maxRecDepth 100000 in
set_option maxHeartbeats 4000000 in
theorem insert_none (q : Option Addr) (cap n i : Nat) (qv : Option Addr) (cv : Nat) (w : World) (hi : i ≤ n) (hn : n ≤ cap) (hl : n ≤ 100000) :
    Calls Try.prog 100 #[.slice q n cap, .int .i64 (i : Int), .slice qv 0 cv] w fun e w' => e = .returned (.slice q n cap) ∧ w' = w := by
  have hcut : ∃ q1 c1, ∀ W, (Instr.sliceAt SlT (.slice q n cap) (some (.int .i64 (i : Int))) none none).run Try.prog W = .ok (.slice q1 (n - i) c1) W := by
    obtain ⟨inf, hi1, _, hz1, _⟩ := info_parts spInfo
    refine ⟨(if cap = ((i : Int)).toNat then q else q.map (·.add (((i : Int)).toNat * 2))), cap - ((i : Int)).toNat, fun W => ?_⟩
    have h1 := run_cut_from (P := Try.prog) W SlT SpT inf 2 Try.underlying22 hi1 hz1 q n cap .i64 (i : Int) (by omega) (by omega)
    rw [h1, show ((i : Int)).toNat = i by omega]
  obtain ⟨q1, c1, hcut⟩ := hcut
  go_enter Try.func100, Try.ntmps100
  go_wp2_with fail
  go_ret
  exact ⟨rfl, rfl⟩
set_option maxRecDepth 100000 in
set_option maxHeartbeats 4000000 in
theorem replace_any (q : Option Addr) (cap : Nat) (l : List (Int × Int)) (i j : Nat) (qv : Option Addr) (cv : Nat) (vs : List (Int × Int)) (w : World) (hij : i ≤ j) (hj : j ≤ l.length) (hcase : i < j ∨ vs = []) (hl : l.length ≤ 100000) (hv : vs.length ≤ 100000)
    (S : Sep (fpL [srow q cap l, srow qv cv vs]) w w [srow q cap l, srow qv cv vs]) :
    Calls Try.prog 88 #[.slice q l.length cap, .int .i64 (i : Int), .int .i64 (j : Int), .slice qv vs.length cv] w fun e w' =>
      ∃ q' c', e = .returned (.slice q' (l.take i ++ (vs ++ l.drop j)).length c') ∧ Sep (fpL [srow q cap l, srow qv cv vs]) w w' [srow q' c' (l.take i ++ (vs ++ l.drop j)), srow qv cv vs] := by
  have hcc : l.length ≤ cap := (row_reads (S.at_ 0 rfl)).room
  rcases Nat.lt_or_ge i j with h1 | h1
  · obtain ⟨g, cur, rfl, hb, hle, hcm, hsz, htk⟩ := row_parts (S.at_ 0 rfl) (by omega)
    have Sa := S.swap (Ob.blk g SpT cur) hb (fun k h => (srow_fp cur k).2 h)
    by_cases hjn : j = l.length
    · have hfin : l.take i ++ (vs ++ l.drop j) = l.take i ++ vs := by rw [hjn]; simp
      have hlen : (l.take i ++ vs).length = i + vs.length := by simp; omega
      rw [hfin]
      by_cases hroom : i + vs.length ≤ cap
      · refine (replace_end g cap cur l i j qv cv vs w h1 hj hl hv hle hcm Sa.self hsz htk hjn hroom).mono ?_
        rintro e w' ⟨cur', rfl, T, h2, h3⟩
        exact ⟨some ⟨g, 0, none⟩, cap, by rw [hlen], row_back (Sa.did0 T) (by rw [hlen]; exact hroom) hcm h2 (by rw [hlen]; exact h3)⟩
      · refine (replace_end_grow g cap cur l i j qv cv vs w h1 hjn hl hv hle hcm Sa.self hsz htk (by omega)).mono ?_
        rintro e w' ⟨g2, c2, cur', rfl, T, h0, h2, h3, h4⟩
        exact ⟨some ⟨g2, 0, none⟩, c2, by rw [hlen], row_back (Sa.did0 T) (by rw [hlen]; exact h0) h2 h3 (by rw [hlen]; exact h4)⟩
    · have hlen : (l.take i ++ (vs ++ l.drop j)).length = i + vs.length + (l.length - j) := by simp; omega
      have hj2 : j < l.length := by omega
      by_cases hroom : i + vs.length + (l.length - j) ≤ cap
      · by_cases hless : i + vs.length ≤ j
        · refine (replace_less g cap cur l i j qv cv vs w h1 hj2 hl hv hle hcm Sa.self hsz htk hless).mono ?_
          rintro e w' ⟨cur', rfl, T, h2, h3⟩
          exact ⟨some ⟨g, 0, none⟩, cap, by rw [hlen], row_back (Sa.did0 T) (by rw [hlen]; exact hroom) hcm h2 (by rw [hlen]; exact h3)⟩
        · refine (replace_more g cap cur l i j qv cv vs w h1 hj2 hl hv hle hcm Sa.self hsz htk (by omega) hroom).mono ?_
          rintro e w' ⟨cur', rfl, T, h2, h3⟩
          exact ⟨some ⟨g, 0, none⟩, cap, by rw [hlen], row_back (Sa.did0 T) (by rw [hlen]; exact hroom) hcm h2 (by rw [hlen]; exact h3)⟩
      · refine (replace_grow g cap cur l i j qv cv vs w h1 hj2 hl hv hle hcm Sa.self hsz htk (by omega)).mono ?_
        rintro e w' ⟨g2, c2, cur', rfl, T, h0, h2, h3, h4⟩
        exact ⟨some ⟨g2, 0, none⟩, c2, by rw [hlen], row_back (Sa.did0 T) (by rw [hlen]; exact h0) h2 h3 (by rw [hlen]; exact h4)⟩
  · obtain rfl : i = j := by omega
    obtain rfl : vs = [] := hcase.resolve_left (by omega)
    have hfin : l.take i ++ ([] ++ l.drop i) = l := by simp
    rw [hfin]
    have hcut : ∃ q1 n1 c1, ∀ W, (Instr.sliceAt SlT (.slice q l.length cap) (some (.int .i64 (i : Int))) (some (.int .i64 (i : Int))) none).run Try.prog W = .ok (.slice q1 n1 c1) W := by
      obtain ⟨inf, hi1, _, hz1, _⟩ := info_parts spInfo
      exact ⟨_, _, _, fun W => run_cut_mid (P := Try.prog) W SlT SpT inf 2 Try.underlying22 hi1 hz1 q l.length cap .i64 .i64 (i : Int) (i : Int) (by omega) (by omega) (by omega)⟩
    obtain ⟨q1, n1, c1, hcut⟩ := hcut
    have HI := Lib.hid (insert_none q cap l.length i qv cv w hj hcc hl)
    have HS := Lib.hid S
    have g1 : ((i : Int) == i) = true := beq_self_eq_true _
    show Calls _ _ #[.slice q l.length cap, .int .i64 (i : Int), .int .i64 (i : Int), .slice qv 0 cv] _ _
    clear S hcase hfin
    go_enter Try.func88, Try.ntmps88
    go_wp2_with ((refine (HI.out).mono ?_); rintro e1 w1 ⟨rfl, rfl⟩)
    go_ret
    exact ⟨_, _, rfl, HS.out⟩
set_option maxRecDepth 100000 in
set_option maxHeartbeats 4000000 in
/-- lay, where there is room. -/
theorem lay_any (p : Nat) (q : Option Addr) (cap : Nat) (l : List (Int × Int)) (lo hi : Nat) (qv : Option Addr) (cv : Nat) (vs : List (Int × Int)) (w : World) (hlo : lo ≤ hi) (hhi : hi ≤ l.length) (hcase : lo < hi ∨ vs = []) (hn : l.length ≤ 100000) (hroom : l.length - (hi - lo) + vs.length ≤ 4096)
    (S : Sep (fpL (rns p q cap l ++ [srow qv cv vs])) w w (rns p q cap l ++ [srow qv cv vs])) :
    Calls Try.prog 56 #[.pointer (at0 p), .int .i64 (lo : Int), .int .i64 (hi : Int), .slice qv vs.length cv] w fun e w' =>
      e = .returned (.int .i64 0) ∧ ∃ q' c', Sep (fpL (rns p q cap l ++ [srow qv cv vs])) w w' (rns p q' c' (l.take lo ++ (vs ++ l.drop hi)) ++ [srow qv cv vs]) := by
  have g1 : decide ((4096 : Int) < (l.length : Int) - ((hi : Int) - lo) + vs.length) = false := decide_eq_false (by omega)
  have e1 : IntKind.i64.wrap ((hi : Int) - lo) = (hi : Int) - lo := by simp [IntKind.wrap, IntKind.bits, IntKind.signed]; omega
  have e2 : IntKind.i64.wrap ((l.length : Int) - ((hi : Int) - lo)) = (l.length : Int) - ((hi : Int) - lo) := by simp [IntKind.wrap, IntKind.bits, IntKind.signed]; omega
  have e3 : IntKind.i64.wrap ((l.length : Int) - ((hi : Int) - lo) + vs.length) = (l.length : Int) - ((hi : Int) - lo) + vs.length := by simp [IntKind.wrap, IntKind.bits, IntKind.signed]; omega
  have c1 : w.cell? ⟨p, 0, none⟩ = some (.slice q l.length cap) := (S.at_ 0 rfl).cell 0
  have S1 : Sep (fpL (rns p q cap l ++ [srow qv cv vs])) w w ([srow q cap l, srow qv cv vs] ++ [Ob.blk p RnT #[.slice q l.length cap]]) := S.perm (by
    show List.Perm [_, _, _] [_, _, _]
    exact (List.Perm.swap _ _ _).trans (List.Perm.cons _ (List.Perm.swap _ _ _)))
  have HR := Lib.hid (replace_any q cap l lo hi qv cv vs w hlo hhi hcase hn (by omega) S1.head)
  obtain ⟨L2, e9⟩ : ∃ L2, L2 = l.take lo ++ (vs ++ l.drop hi) := ⟨_, rfl⟩
  rw [← e9] at HR ⊢
  clear e9
  have HS := Lib.hid S1
  clear S S1 hcase hroom
  go_enter Try.func56, Try.ntmps56
  go_wp2_with ((refine (HR.out).mono ?_); rintro e4 w1 ⟨q2, c2, rfl, T⟩; have S2 := HS.out.did T; have c2' : w1.cell? ⟨p, 0, none⟩ = some (.slice q l.length cap) := (S2.at_ 2 rfl).cell 0; have fz : w1.frozen? ⟨p, 0, none⟩ = false := (S2.at_ 2 rfl).frozen 0; have HS2 := Lib.hid (S2.set 2 rfl 0 (.slice q2 L2.length c2)); clear S2 T)
  go_ret
  refine ⟨rfl, q2, c2, HS2.out.perm ?_⟩
  show List.Perm [_, _, _] [_, _, _]
  exact (List.Perm.cons _ (List.Perm.swap _ _ _)).trans (List.Perm.swap _ _ _)
end Go.Proofs.Ytmdkmclngblldaa
