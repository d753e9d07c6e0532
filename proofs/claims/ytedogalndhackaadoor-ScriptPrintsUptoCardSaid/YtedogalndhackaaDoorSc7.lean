/- script.Line: walked. -/
import Derived.Test.YtedogalndhackaaDoorSc6
set_option linter.unusedVariables false
set_option linter.unusedSimpArgs false
namespace Go.Proofs.YtedogalndhackaaDoor
open Go.RowKit Go.Und Go.Shelf Go.Sort
attribute [local go_sem] Oper.semAt_some
attribute [local go_sem ↓] Go.wp_at_zero Go.wp_at_succ

abbrev LOpT : TypeId := 32
/-- The program's tables, as they are laid. -/
structure Tabs (w : World) : Prop where
  tab : TabAt w
  wd : ∀ k, k < 8 → w.cell? ⟨0, k, none⟩ = some (st (wordL k))
theorem Tabs.fr {w w' : World} (h : Tabs w) (f : Fr None w w') : Tabs w' := ⟨h.tab.fr f, fun k hk => cell_frN f (h.wd k hk)⟩

set_option maxRecDepth 100000 in
set_option maxHeartbeats 1000000 in
theorem line_num (k : Nat) (hk : k < 8) (k0 : 0 < k) (n : Int) (h0 : -9223372036854775808 ≤ n) (h1 : n ≤ 9223372036854775807) (q : Option Addr) (c : Nat) (w : World) (hT : Tabs w) :
    Calls Tryd.prog 9 #[.agg #[.int .i64 k, .int .i64 n, .slice q 0 c]] w fun e w' => e = .returned (.tuple #[st (wordL k ++ [32] ++ Lib.itoa n), .int .i64 0]) ∧ Fr None w w' := by
  have HN := Lib.hid (fun W hW => litoa_any n h0 h1 W hW)
  have hb := Blk.new w LOpT #[.int .i64 k, .int .i64 n, .slice q 0 c]
  have hf := ((Fr.refl None w).alloc (.cells #[.int .i64 k, .int .i64 n, .slice q 0 c] LOpT))
  have hT1 := hT.fr hf
  have HT := Lib.hid hT1
  have HF := Lib.hid hf
  have g1 : ((k : Int) < 0) = False := by simp
  have g2 : ((8 : Int) ≤ (k : Int)) = False := by simp; omega
  have g3 : ((k : Int) = 0) = False := by simp; omega
  have g4 : ((k : Int) < 8) = True := by simp; omega
  have g5 : (0 ≤ (k : Int)) = True := by simp
  have s1 := st_run (wordL k) [32] (by have := word_len k; simp; omega)
  have hi := itoa_len n h0 h1
  have s2 := st_run (wordL k ++ [32]) (Lib.itoa n) (by have := word_len k; simp; omega)
  have hwd := hT1.wd k hk
  clear hT hT1 hf
  go_enter Tryd.func9, Tryd.ntmps9
  go_wp2_with fail
  generalize eW : w.alloc (.cells #[.int .i64 k, .int .i64 n, .slice q 0 c] LOpT) = W at *
  have c0 : ∀ x, (Mix None W x).cell? ⟨w.heap.size, 0, none⟩ = some (.int .i64 k) := fun x => mix_cell (hb.cell 0)
  have c1 : ∀ x, (Mix None W x).cell? ⟨w.heap.size, 1, none⟩ = some (.int .i64 n) := fun x => mix_cell (hb.cell 1)
  have c3 : ∀ x, (Mix None W x).cell? ⟨0, k, none⟩ = some (st (wordL k)) := fun x => mix_cell hwd
  refine wp_region_class (C := fun w' => ∃ x, w' = Mix None W x) (by kernel_rfl) (by kernel_rfl) (mix_drew None W) ?_
  repeat (go_big_quiet_step ((first | (with_reducible exact mix_call (fun _ _ h => h) (HN.out _ (HT.out.fr (mix_fr _ _ _)).tab)))))
  refine wpQuiet_nil ?_
  rintro _ ⟨x, rfl⟩
  go_wp2_with fail
  go_ret2
  exact ⟨by simp, HF.out.trans (mix_fr _ _ _)⟩
set_option maxRecDepth 100000 in
set_option maxHeartbeats 1000000 in
theorem line_bytes (l : List UInt8) (hl : l.length ≤ 2000000) (q : Option Addr) (c : Nat) (w : World) (hr : 0 < l.length → Reads w 1 q l.length c (fc ubc l)) (hT : Tabs w) :
    Calls Tryd.prog 9 #[.agg #[.int .i64 0, .int .i64 0, .slice q l.length c]] w fun e w' => e = .returned (.tuple #[st (wordL 0 ++ [32] ++ hexS l), .int .i64 0]) ∧ Fr None w w' := by
  have hb := Blk.new w LOpT #[.int .i64 0, .int .i64 0, .slice q l.length c]
  have hf := ((Fr.refl None w).alloc (.cells #[.int .i64 0, .int .i64 0, .slice q l.length c] LOpT))
  have HH := Lib.hid (fun W (f : Fr None w W) => hex_any l hl q c W (fun h => (hr h).fr f (fun _ _ h => h)))
  have HF := Lib.hid hf
  have s1 := st_run (wordL 0) [32] (by decide)
  have hx2 : (hexS l).length ≤ 4000001 := by unfold hexS; split <;> simp [hexL_len]; omega
  have s2 := st_run (wordL 0 ++ [32]) (hexS l) (by simp [wordL, wordsL]; omega)
  have hwd := (hT.fr hf).wd 0 (by decide)
  clear hT hf hr
  go_enter Tryd.func9, Tryd.ntmps9
  go_wp2_with fail
  generalize eW : w.alloc (.cells #[.int .i64 0, .int .i64 0, .slice q l.length c] LOpT) = W at *
  have c0 : ∀ x, (Mix None W x).cell? ⟨w.heap.size, 0, none⟩ = some (.int .i64 0) := fun x => mix_cell (hb.cell 0)
  have c2 : ∀ x, (Mix None W x).cell? ⟨w.heap.size, 2, none⟩ = some (.slice q l.length c) := fun x => mix_cell (hb.cell 2)
  have c3 : ∀ x, (Mix None W x).cell? ⟨0, 0, none⟩ = some (st (wordL 0)) := fun x => mix_cell hwd
  refine wp_region_class (C := fun w' => ∃ x, w' = Mix None W x) (by kernel_rfl) (by kernel_rfl) (mix_drew None W) ?_
  repeat (go_big_quiet_step ((first | (with_reducible exact mix_call (fun _ _ h => h) (HH.out _ (HF.out.trans (mix_fr _ _ _)))))))
  refine wpQuiet_nil ?_
  rintro _ ⟨x, rfl⟩
  go_wp2_with fail
  go_ret2
  exact ⟨by simp, HF.out.trans (mix_fr _ _ _)⟩
set_option maxRecDepth 100000 in
set_option maxHeartbeats 1000000 in
theorem line_any (k n : Int) (h0 : -9223372036854775808 ≤ n) (h1 : n ≤ 9223372036854775807) (l : List UInt8) (hl : l.length ≤ 2000000) (q : Option Addr) (c : Nat) (w : World) (hr : 0 < l.length → Reads w 1 q l.length c (fc ubc l)) (hT : Tabs w) :
    Calls Tryd.prog 9 #[.agg #[.int .i64 k, .int .i64 n, .slice q l.length c]] w fun e w' => e = .returned (.tuple #[st (lineL k n l), .int .i64 (errL k n l)]) ∧ Fr None w w' := by
  have HF := Lib.hid ((Fr.refl None w).alloc (.cells #[.int .i64 k, .int .i64 n, .slice q l.length c] LOpT))
  by_cases e8 : k < 0 ∨ 8 ≤ k
  · have he : errL k n l = 8 := by unfold errL; rw [if_pos e8]
    have hs : lineL k n l = [] := by unfold lineL; rw [he, if_pos (by decide)]
    rw [he, hs]
    clear he hs
    rcases e8 with e8 | e8
    · have g1 : (k < 0) = True := by simp [e8]
      go_enter Tryd.func9, Tryd.ntmps9
      go_wp2_with fail
      go_ret2
      exact ⟨rfl, HF.out⟩
    · have g1 : (k < 0) = False := by simp; omega
      have g2 : (8 ≤ k) = True := by simp; omega
      go_enter Tryd.func9, Tryd.ntmps9
      go_wp2_with fail
      go_ret2
      exact ⟨rfl, HF.out⟩
  · obtain ⟨k, rfl⟩ : ∃ j : Nat, k = (j : Int) := ⟨k.toNat, by omega⟩
    have hk : k < 8 := by omega
    have g1 : ((k : Int) < 0) = False := by simp
    have g2 : ((8 : Int) ≤ (k : Int)) = False := by simp; omega
    by_cases k0 : k = 0
    · subst k0
      by_cases hn : n = 0
      · subst hn
        have he : errL (0 : Nat) 0 l = 0 := by unfold errL; rw [if_neg e8, if_neg (by simp)]
        have hs : lineL (0 : Nat) 0 l = wordL 0 ++ [32] ++ hexS l := by unfold lineL; rw [he]; rfl
        rw [he, hs]
        by_cases hl0 : 0 < l.length
        · exact line_bytes l hl q c w hr hT
        · obtain rfl : l = [] := List.length_eq_zero_iff.1 (by omega)
          exact line_bytes [] hl q c w hr hT
      · have he : errL (0 : Nat) n l = 6 := by unfold errL; rw [if_neg e8, if_pos (.inl ⟨rfl, hn⟩)]
        have hs : lineL (0 : Nat) n l = [] := by unfold lineL; rw [he]; rfl
        rw [he, hs]
        have g3 : (n != 0) = true := by simpa using hn
        clear he hs hr
        go_enter Tryd.func9, Tryd.ntmps9
        go_wp2_with fail
        go_ret2
        exact ⟨rfl, HF.out⟩
    · by_cases hl0 : 0 < l.length
      · have he : errL k n l = 6 := by unfold errL; rw [if_neg e8, if_pos (.inr ⟨by omega, hl0⟩)]
        have hs : lineL k n l = [] := by unfold lineL; rw [he]; rfl
        rw [he, hs]
        have g3 : ((k : Int) == 0) = false := beq_eq_false_iff_ne.2 (by omega)
        have g4 : (0 < (k : Int)) = True := by simp; omega
        have g5 : (0 < (l.length : Int)) = True := by simp only [eq_iff_iff, iff_true]; omega
        have g6 : (0 < l.length) = True := by simp only [eq_iff_iff, iff_true]; omega
        have g7 : (0 < k) = True := by simp only [eq_iff_iff, iff_true]; omega
        have g8 : (8 ≤ k) = False := by simp only [eq_iff_iff, iff_false]; omega
        clear he hs hr e8
        go_enter Tryd.func9, Tryd.ntmps9
        go_wp2_with fail
        go_ret2
        exact ⟨rfl, HF.out⟩
      · obtain rfl : l = [] := List.length_eq_zero_iff.1 (by omega)
        have he : errL k n [] = 0 := by unfold errL; rw [if_neg e8, if_neg (by simp; omega)]
        have hs : lineL k n [] = wordL k ++ [32] ++ Lib.itoa n := by unfold lineL; rw [he, if_neg (by decide), if_neg (by omega)]; rfl
        rw [he, hs]
        exact line_num k hk (by omega) n h0 h1 q c w hT
end Go.Proofs.YtedogalndhackaaDoor
