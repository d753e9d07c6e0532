/- ScriptApart: walked. -/
import Derived.Test.YtedogalndhackaaDoorScE
set_option linter.unusedVariables false
set_option linter.unusedSimpArgs false
namespace Go.Proofs.YtedogalndhackaaDoor
open Go.RowKit Go.Und Go.Shelf Go.Sort
attribute [local go_sem] Oper.semAt_some
attribute [local go_sem ↓] Go.wp_at_zero Go.wp_at_succ

set_option maxRecDepth 100000 in
set_option maxHeartbeats 2000000 in
theorem apart_walk (x y : OpR) (w : World) (hT : Tabs w) (hx : OpOk w x) (hy : OpOk w y) : Calls Tryd.prog 4 #[.agg (opc x).toArray, .agg (opc y).toArray] w fun e w' => e = .returned (.bool true) ∧ Fr None w w' := by
  have hap := fun ex ey => apart_iff (x := x) (y := y) ex ey
  have HSm := Lib.hid (fun W (f : Fr None w W) => same_any x y W (hx.fr f) (hy.fr f))
  obtain ⟨k, n, b, q, c⟩ := x
  obtain ⟨k2, n2, b2, q2, c2⟩ := y
  have HSm2 := Lib.hid (fun W (f : Fr None w W) => show Calls Tryd.prog 15 #[.agg #[.int .i64 k, .int .i64 n, .slice q b.length c], .agg #[.int .i64 k2, .int .i64 n2, .slice q2 b2.length c2]] W _ from HSm.out W f)
  clear HSm
  generalize sameO ⟨k, n, b, q, c⟩ ⟨k2, n2, b2, q2, c2⟩ = z at *
  have hap2 : errL k n b = 0 → errL k2 n2 b2 = 0 → (lineL k n b = lineL k2 n2 b2 ↔ z = true) := hap
  clear hap
  have HL1 := Lib.hid (fun W (f : Fr None w W) => line_any k n hx.1.1 hx.1.2 b hx.2.1 q c W (fun h => (hx.fr f).2.2 h) (hT.fr f))
  have HL2 := Lib.hid (fun W (f : Fr None w W) => line_any k2 n2 hy.1.1 hy.1.2 b2 hy.2.1 q2 c2 W (fun h => (hy.fr f).2.2 h) (hT.fr f))
  have HK := Lib.hid (fun W (f : Fr None w W) => known_any W (hT.fr f))
  have HTo := Lib.hid (fun W => to_any k2 n2 q2 b2.length c2 W)
  have S0 := ((Sep.law w).alloc #[.int .i64 k, .int .i64 n, .slice q b.length c] LOpT).alloc #[.int .i64 k2, .int .i64 n2, .slice q2 b2.length c2] LOpT
  have hsz : (w.alloc (.cells #[.int .i64 k, .int .i64 n, .slice q b.length c] LOpT)).heap.size = w.heap.size + 1 := by simp
  rw [hsz] at S0
  have HS0 := Lib.hid S0
  clear hx hy hT S0 hsz
  generalize hl1 : lineL k n b = l1 at *
  generalize hl2 : lineL k2 n2 b2 = l2 at *
  generalize he1 : errL k n b = e1 at *
  generalize he2 : errL k2 n2 b2 = e2 at *
  clear hl1 hl2 he1 he2
  show Calls _ _ #[.agg #[.int .i64 k, .int .i64 n, .slice q b.length c], .agg #[.int .i64 k2, .int .i64 n2, .slice q2 b2.length c2]] _ _
  by_cases h1 : e1 = 0
  · by_cases h2 : e2 = 0
    · subst h1 h2
      have hz := hap2 rfl rfl
      clear hap2
      cases z with
      | true =>
        obtain rfl := hz.2 rfl
        clear hz
        go_enter Tryd.func4, Tryd.ntmps4
        go_wp2_with (first
          | ((with_reducible refine (HK.out _ HS0.out.fr).mono ?_); rintro e3 w3 ⟨rfl, f3⟩; have HS1 := Lib.hid (HS0.out.same f3); have aq0 : w3.cell? ⟨w.heap.size, 0, none⟩ = some (.int .i64 k) := (HS1.out.at_ 1 rfl).cell 0; have aq1 : w3.cell? ⟨w.heap.size, 1, none⟩ = some (.int .i64 n) := (HS1.out.at_ 1 rfl).cell 1; have aq2 : w3.cell? ⟨w.heap.size, 2, none⟩ = some (.slice q b.length c) := (HS1.out.at_ 1 rfl).cell 2; have ar0 : w3.cell? ⟨w.heap.size + 1, 0, none⟩ = some (.int .i64 k2) := (HS1.out.at_ 0 rfl).cell 0; have ar1 : w3.cell? ⟨w.heap.size + 1, 1, none⟩ = some (.int .i64 n2) := (HS1.out.at_ 0 rfl).cell 1; have ar2 : w3.cell? ⟨w.heap.size + 1, 2, none⟩ = some (.slice q2 b2.length c2) := (HS1.out.at_ 0 rfl).cell 2; clear f3)
          | ((with_reducible refine (HL1.out _ HS1.out.fr).mono ?_); rintro e4 w4 ⟨rfl, f4⟩; have HS2 := Lib.hid (HS1.out.same f4); have bq0 : w4.cell? ⟨w.heap.size, 0, none⟩ = some (.int .i64 k) := (HS2.out.at_ 1 rfl).cell 0; have bq1 : w4.cell? ⟨w.heap.size, 1, none⟩ = some (.int .i64 n) := (HS2.out.at_ 1 rfl).cell 1; have bq2 : w4.cell? ⟨w.heap.size, 2, none⟩ = some (.slice q b.length c) := (HS2.out.at_ 1 rfl).cell 2; have br0 : w4.cell? ⟨w.heap.size + 1, 0, none⟩ = some (.int .i64 k2) := (HS2.out.at_ 0 rfl).cell 0; have br1 : w4.cell? ⟨w.heap.size + 1, 1, none⟩ = some (.int .i64 n2) := (HS2.out.at_ 0 rfl).cell 1; have br2 : w4.cell? ⟨w.heap.size + 1, 2, none⟩ = some (.slice q2 b2.length c2) := (HS2.out.at_ 0 rfl).cell 2; clear f4)
          | ((with_reducible refine (HL2.out _ HS2.out.fr).mono ?_); rintro e5 w5 ⟨rfl, f5⟩; have HS3 := Lib.hid (HS2.out.same f5); have cq0 : w5.cell? ⟨w.heap.size, 0, none⟩ = some (.int .i64 k) := (HS3.out.at_ 1 rfl).cell 0; have cq1 : w5.cell? ⟨w.heap.size, 1, none⟩ = some (.int .i64 n) := (HS3.out.at_ 1 rfl).cell 1; have cq2 : w5.cell? ⟨w.heap.size, 2, none⟩ = some (.slice q b.length c) := (HS3.out.at_ 1 rfl).cell 2; have cr0 : w5.cell? ⟨w.heap.size + 1, 0, none⟩ = some (.int .i64 k2) := (HS3.out.at_ 0 rfl).cell 0; have cr1 : w5.cell? ⟨w.heap.size + 1, 1, none⟩ = some (.int .i64 n2) := (HS3.out.at_ 0 rfl).cell 1; have cr2 : w5.cell? ⟨w.heap.size + 1, 2, none⟩ = some (.slice q2 b2.length c2) := (HS3.out.at_ 0 rfl).cell 2; clear f5)
          | ((with_reducible refine (HK.out _ HS3.out.fr).mono ?_); rintro e6 w6 ⟨rfl, f6⟩; have HS4 := Lib.hid (HS3.out.same f6); clear f6)
          | fail)
        have dq0 : ∀ x, (Mix None w5 x).cell? ⟨w.heap.size, 0, none⟩ = some (.int .i64 k) := fun x => mix_cell cq0
        have dq1 : ∀ x, (Mix None w5 x).cell? ⟨w.heap.size, 1, none⟩ = some (.int .i64 n) := fun x => mix_cell cq1
        have dq2 : ∀ x, (Mix None w5 x).cell? ⟨w.heap.size, 2, none⟩ = some (.slice q b.length c) := fun x => mix_cell cq2
        have dr0 : ∀ x, (Mix None w5 x).cell? ⟨w.heap.size + 1, 0, none⟩ = some (.int .i64 k2) := fun x => mix_cell cr0
        have dr1 : ∀ x, (Mix None w5 x).cell? ⟨w.heap.size + 1, 1, none⟩ = some (.int .i64 n2) := fun x => mix_cell cr1
        have dr2 : ∀ x, (Mix None w5 x).cell? ⟨w.heap.size + 1, 2, none⟩ = some (.slice q2 b2.length c2) := fun x => mix_cell cr2
        refine wp_region_class (C := fun w' => ∃ x, w' = Mix None w5 x) (by kernel_rfl) (by kernel_rfl) (mix_drew None w5) ?_
        repeat (go_big_quiet_step ((first | (with_reducible exact mix_call (fun _ _ h => h) (HTo.out _)) | (with_reducible exact mix_call (fun _ _ h => h) (HSm2.out _ (HS3.out.fr.trans (mix_fr _ _ _)))) | (with_reducible exact mix_call (fun _ _ h => h) (HK.out _ (HS3.out.fr.trans (mix_fr _ _ _)))))))
        refine wpQuiet_nil ?_
        rintro _ ⟨x, rfl⟩
        go_wp2_with fail
        go_ret
        exact ⟨rfl, HS3.out.fr.trans (mix_fr _ _ _)⟩
      | false =>
        have hne : l1 ≠ l2 := fun h => by have := hz.1 h; cases this
        have hb : (l1 == l2) = false := by simpa using hne
        clear hz
        have HNe := Lib.hid hne
        clear hne
        go_enter Tryd.func4, Tryd.ntmps4
        go_wp2_with (first
          | ((with_reducible refine (HK.out _ HS0.out.fr).mono ?_); rintro e3 w3 ⟨rfl, f3⟩; have HS1 := Lib.hid (HS0.out.same f3); have aq0 : w3.cell? ⟨w.heap.size, 0, none⟩ = some (.int .i64 k) := (HS1.out.at_ 1 rfl).cell 0; have aq1 : w3.cell? ⟨w.heap.size, 1, none⟩ = some (.int .i64 n) := (HS1.out.at_ 1 rfl).cell 1; have aq2 : w3.cell? ⟨w.heap.size, 2, none⟩ = some (.slice q b.length c) := (HS1.out.at_ 1 rfl).cell 2; have ar0 : w3.cell? ⟨w.heap.size + 1, 0, none⟩ = some (.int .i64 k2) := (HS1.out.at_ 0 rfl).cell 0; have ar1 : w3.cell? ⟨w.heap.size + 1, 1, none⟩ = some (.int .i64 n2) := (HS1.out.at_ 0 rfl).cell 1; have ar2 : w3.cell? ⟨w.heap.size + 1, 2, none⟩ = some (.slice q2 b2.length c2) := (HS1.out.at_ 0 rfl).cell 2; clear f3)
          | ((with_reducible refine (HL1.out _ HS1.out.fr).mono ?_); rintro e4 w4 ⟨rfl, f4⟩; have HS2 := Lib.hid (HS1.out.same f4); have bq0 : w4.cell? ⟨w.heap.size, 0, none⟩ = some (.int .i64 k) := (HS2.out.at_ 1 rfl).cell 0; have bq1 : w4.cell? ⟨w.heap.size, 1, none⟩ = some (.int .i64 n) := (HS2.out.at_ 1 rfl).cell 1; have bq2 : w4.cell? ⟨w.heap.size, 2, none⟩ = some (.slice q b.length c) := (HS2.out.at_ 1 rfl).cell 2; have br0 : w4.cell? ⟨w.heap.size + 1, 0, none⟩ = some (.int .i64 k2) := (HS2.out.at_ 0 rfl).cell 0; have br1 : w4.cell? ⟨w.heap.size + 1, 1, none⟩ = some (.int .i64 n2) := (HS2.out.at_ 0 rfl).cell 1; have br2 : w4.cell? ⟨w.heap.size + 1, 2, none⟩ = some (.slice q2 b2.length c2) := (HS2.out.at_ 0 rfl).cell 2; clear f4)
          | ((with_reducible refine (HL2.out _ HS2.out.fr).mono ?_); rintro e5 w5 ⟨rfl, f5⟩; have HS3 := Lib.hid (HS2.out.same f5); have cq0 : w5.cell? ⟨w.heap.size, 0, none⟩ = some (.int .i64 k) := (HS3.out.at_ 1 rfl).cell 0; have cq1 : w5.cell? ⟨w.heap.size, 1, none⟩ = some (.int .i64 n) := (HS3.out.at_ 1 rfl).cell 1; have cq2 : w5.cell? ⟨w.heap.size, 2, none⟩ = some (.slice q b.length c) := (HS3.out.at_ 1 rfl).cell 2; have cr0 : w5.cell? ⟨w.heap.size + 1, 0, none⟩ = some (.int .i64 k2) := (HS3.out.at_ 0 rfl).cell 0; have cr1 : w5.cell? ⟨w.heap.size + 1, 1, none⟩ = some (.int .i64 n2) := (HS3.out.at_ 0 rfl).cell 1; have cr2 : w5.cell? ⟨w.heap.size + 1, 2, none⟩ = some (.slice q2 b2.length c2) := (HS3.out.at_ 0 rfl).cell 2; clear f5)
          | ((with_reducible refine (HK.out _ HS3.out.fr).mono ?_); rintro e6 w6 ⟨rfl, f6⟩; have HS4 := Lib.hid (HS3.out.same f6); clear f6)
          | fail)
        have dq0 : ∀ x, (Mix None w5 x).cell? ⟨w.heap.size, 0, none⟩ = some (.int .i64 k) := fun x => mix_cell cq0
        have dq1 : ∀ x, (Mix None w5 x).cell? ⟨w.heap.size, 1, none⟩ = some (.int .i64 n) := fun x => mix_cell cq1
        have dq2 : ∀ x, (Mix None w5 x).cell? ⟨w.heap.size, 2, none⟩ = some (.slice q b.length c) := fun x => mix_cell cq2
        have dr0 : ∀ x, (Mix None w5 x).cell? ⟨w.heap.size + 1, 0, none⟩ = some (.int .i64 k2) := fun x => mix_cell cr0
        have dr1 : ∀ x, (Mix None w5 x).cell? ⟨w.heap.size + 1, 1, none⟩ = some (.int .i64 n2) := fun x => mix_cell cr1
        have dr2 : ∀ x, (Mix None w5 x).cell? ⟨w.heap.size + 1, 2, none⟩ = some (.slice q2 b2.length c2) := fun x => mix_cell cr2
        refine wp_region_class (C := fun w' => ∃ x, w' = Mix None w5 x) (by kernel_rfl) (by kernel_rfl) (mix_drew None w5) ?_
        repeat (go_big_quiet_step ((first | (with_reducible exact mix_call (fun _ _ h => h) (HTo.out _)) | (with_reducible exact mix_call (fun _ _ h => h) (HSm2.out _ (HS3.out.fr.trans (mix_fr _ _ _)))) | (with_reducible exact mix_call (fun _ _ h => h) (HK.out _ (HS3.out.fr.trans (mix_fr _ _ _)))))))
        refine wpQuiet_nil ?_
        rintro _ ⟨x, rfl⟩
        go_wp2_with fail
        go_ret
        exact ⟨rfl, HS3.out.fr.trans (mix_fr _ _ _)⟩
    · subst h1
      have g1 : (e2 != 0) = true := by simpa using h2
      clear hap2 h2
      go_enter Tryd.func4, Tryd.ntmps4
      go_wp2_with (first
        | ((with_reducible refine (HK.out _ HS0.out.fr).mono ?_); rintro e3 w3 ⟨rfl, f3⟩; have HS1 := Lib.hid (HS0.out.same f3); have aq0 : w3.cell? ⟨w.heap.size, 0, none⟩ = some (.int .i64 k) := (HS1.out.at_ 1 rfl).cell 0; have aq1 : w3.cell? ⟨w.heap.size, 1, none⟩ = some (.int .i64 n) := (HS1.out.at_ 1 rfl).cell 1; have aq2 : w3.cell? ⟨w.heap.size, 2, none⟩ = some (.slice q b.length c) := (HS1.out.at_ 1 rfl).cell 2; have ar0 : w3.cell? ⟨w.heap.size + 1, 0, none⟩ = some (.int .i64 k2) := (HS1.out.at_ 0 rfl).cell 0; have ar1 : w3.cell? ⟨w.heap.size + 1, 1, none⟩ = some (.int .i64 n2) := (HS1.out.at_ 0 rfl).cell 1; have ar2 : w3.cell? ⟨w.heap.size + 1, 2, none⟩ = some (.slice q2 b2.length c2) := (HS1.out.at_ 0 rfl).cell 2; clear f3)
        | ((with_reducible refine (HL1.out _ HS1.out.fr).mono ?_); rintro e4 w4 ⟨rfl, f4⟩; have HS2 := Lib.hid (HS1.out.same f4); have bq0 : w4.cell? ⟨w.heap.size, 0, none⟩ = some (.int .i64 k) := (HS2.out.at_ 1 rfl).cell 0; have bq1 : w4.cell? ⟨w.heap.size, 1, none⟩ = some (.int .i64 n) := (HS2.out.at_ 1 rfl).cell 1; have bq2 : w4.cell? ⟨w.heap.size, 2, none⟩ = some (.slice q b.length c) := (HS2.out.at_ 1 rfl).cell 2; have br0 : w4.cell? ⟨w.heap.size + 1, 0, none⟩ = some (.int .i64 k2) := (HS2.out.at_ 0 rfl).cell 0; have br1 : w4.cell? ⟨w.heap.size + 1, 1, none⟩ = some (.int .i64 n2) := (HS2.out.at_ 0 rfl).cell 1; have br2 : w4.cell? ⟨w.heap.size + 1, 2, none⟩ = some (.slice q2 b2.length c2) := (HS2.out.at_ 0 rfl).cell 2; clear f4)
        | ((with_reducible refine (HL2.out _ HS2.out.fr).mono ?_); rintro e5 w5 ⟨rfl, f5⟩; have HS3 := Lib.hid (HS2.out.same f5); have cq0 : w5.cell? ⟨w.heap.size, 0, none⟩ = some (.int .i64 k) := (HS3.out.at_ 1 rfl).cell 0; have cq1 : w5.cell? ⟨w.heap.size, 1, none⟩ = some (.int .i64 n) := (HS3.out.at_ 1 rfl).cell 1; have cq2 : w5.cell? ⟨w.heap.size, 2, none⟩ = some (.slice q b.length c) := (HS3.out.at_ 1 rfl).cell 2; have cr0 : w5.cell? ⟨w.heap.size + 1, 0, none⟩ = some (.int .i64 k2) := (HS3.out.at_ 0 rfl).cell 0; have cr1 : w5.cell? ⟨w.heap.size + 1, 1, none⟩ = some (.int .i64 n2) := (HS3.out.at_ 0 rfl).cell 1; have cr2 : w5.cell? ⟨w.heap.size + 1, 2, none⟩ = some (.slice q2 b2.length c2) := (HS3.out.at_ 0 rfl).cell 2; clear f5)
        | ((with_reducible refine (HK.out _ HS3.out.fr).mono ?_); rintro e6 w6 ⟨rfl, f6⟩; have HS4 := Lib.hid (HS3.out.same f6); clear f6)
        | fail)
      go_ret
      exact ⟨rfl, HS4.out.fr⟩
  · have g1 : (e1 != 0) = true := by simpa using h1
    clear hap2 h1
    go_enter Tryd.func4, Tryd.ntmps4
    go_wp2_with (first
      | ((with_reducible refine (HK.out _ HS0.out.fr).mono ?_); rintro e3 w3 ⟨rfl, f3⟩; have HS1 := Lib.hid (HS0.out.same f3); have aq0 : w3.cell? ⟨w.heap.size, 0, none⟩ = some (.int .i64 k) := (HS1.out.at_ 1 rfl).cell 0; have aq1 : w3.cell? ⟨w.heap.size, 1, none⟩ = some (.int .i64 n) := (HS1.out.at_ 1 rfl).cell 1; have aq2 : w3.cell? ⟨w.heap.size, 2, none⟩ = some (.slice q b.length c) := (HS1.out.at_ 1 rfl).cell 2; have ar0 : w3.cell? ⟨w.heap.size + 1, 0, none⟩ = some (.int .i64 k2) := (HS1.out.at_ 0 rfl).cell 0; have ar1 : w3.cell? ⟨w.heap.size + 1, 1, none⟩ = some (.int .i64 n2) := (HS1.out.at_ 0 rfl).cell 1; have ar2 : w3.cell? ⟨w.heap.size + 1, 2, none⟩ = some (.slice q2 b2.length c2) := (HS1.out.at_ 0 rfl).cell 2; clear f3)
      | ((with_reducible refine (HL1.out _ HS1.out.fr).mono ?_); rintro e4 w4 ⟨rfl, f4⟩; have HS2 := Lib.hid (HS1.out.same f4); have bq0 : w4.cell? ⟨w.heap.size, 0, none⟩ = some (.int .i64 k) := (HS2.out.at_ 1 rfl).cell 0; have bq1 : w4.cell? ⟨w.heap.size, 1, none⟩ = some (.int .i64 n) := (HS2.out.at_ 1 rfl).cell 1; have bq2 : w4.cell? ⟨w.heap.size, 2, none⟩ = some (.slice q b.length c) := (HS2.out.at_ 1 rfl).cell 2; have br0 : w4.cell? ⟨w.heap.size + 1, 0, none⟩ = some (.int .i64 k2) := (HS2.out.at_ 0 rfl).cell 0; have br1 : w4.cell? ⟨w.heap.size + 1, 1, none⟩ = some (.int .i64 n2) := (HS2.out.at_ 0 rfl).cell 1; have br2 : w4.cell? ⟨w.heap.size + 1, 2, none⟩ = some (.slice q2 b2.length c2) := (HS2.out.at_ 0 rfl).cell 2; clear f4)
      | ((with_reducible refine (HL2.out _ HS2.out.fr).mono ?_); rintro e5 w5 ⟨rfl, f5⟩; have HS3 := Lib.hid (HS2.out.same f5); have cq0 : w5.cell? ⟨w.heap.size, 0, none⟩ = some (.int .i64 k) := (HS3.out.at_ 1 rfl).cell 0; have cq1 : w5.cell? ⟨w.heap.size, 1, none⟩ = some (.int .i64 n) := (HS3.out.at_ 1 rfl).cell 1; have cq2 : w5.cell? ⟨w.heap.size, 2, none⟩ = some (.slice q b.length c) := (HS3.out.at_ 1 rfl).cell 2; have cr0 : w5.cell? ⟨w.heap.size + 1, 0, none⟩ = some (.int .i64 k2) := (HS3.out.at_ 0 rfl).cell 0; have cr1 : w5.cell? ⟨w.heap.size + 1, 1, none⟩ = some (.int .i64 n2) := (HS3.out.at_ 0 rfl).cell 1; have cr2 : w5.cell? ⟨w.heap.size + 1, 2, none⟩ = some (.slice q2 b2.length c2) := (HS3.out.at_ 0 rfl).cell 2; clear f5)
      | ((with_reducible refine (HK.out _ HS3.out.fr).mono ?_); rintro e6 w6 ⟨rfl, f6⟩; have HS4 := Lib.hid (HS3.out.same f6); clear f6)
      | fail)
    go_ret
    exact ⟨rfl, HS4.out.fr⟩
end Go.Proofs.YtedogalndhackaaDoor
