/- The statements' helpers: known, to, same; walked. -/
import Derived.Test.YtedogalndhackaaDoorScB
set_option linter.unusedVariables false
set_option linter.unusedSimpArgs false
namespace Go.Proofs.YtedogalndhackaaDoor
open Go.RowKit Go.Und Go.Shelf Go.Sort
attribute [local go_sem] Oper.semAt_some
attribute [local go_sem ↓] Go.wp_at_zero Go.wp_at_succ

def knownS : List UInt8 := [115, 101, 110, 100, 101, 114, 32, 55, 32, 49, 48, 32, 49, 48, 48, 32, 50, 48, 32, 49, 48, 48, 48, 32, 49, 48, 48, 32, 53, 48, 48, 48, 32, 48, 10, 119, 114, 105, 116, 101, 32, 48, 49, 102, 102, 10, 116, 105, 99, 107, 32, 57, 10]
def knownC : Cf := ⟨7, [10, 100, 20, 1000, 100, 5000, 0]⟩
def knownL (p : Nat) : List OpR := [⟨0, 0, [1, 255], some ⟨p, 0, none⟩, 2⟩, ⟨1, 9, [], none, 0⟩]
theorem knownE (p : Nat) : printE (knownL p) = 0 := by rfl
theorem dig1 (u : Nat) (h : u < 10) : Lib.decDigits u = [UInt8.ofNat (48 + u)] := by
  by_cases h0 : u = 0
  · subst h0; rw [Lib.decDigits, dif_pos (by omega)]
  · rw [← dd_pos (by omega), dd_step (by omega), show u / 10 = 0 by omega, Nat.mod_eq_of_lt h]; rfl
theorem digN (u : Nat) (h : 10 ≤ u) : Lib.decDigits u = Lib.decDigits (u / 10) ++ [UInt8.ofNat (48 + u % 10)] := by
  rw [← dd_pos (by omega), dd_step (by omega), dd_pos (by omega)]
theorem itoaN (u : Nat) : Lib.itoa (u : Int) = Lib.decDigits u := Lib.itoa_nonneg u
theorem knownText (p : Nat) : printS knownC (knownL p) = knownS := by
  have e0 : Lib.itoa 0 = [48] := (itoaN 0).trans (dig1 0 (by decide))
  have e7 : Lib.itoa 7 = [55] := (itoaN 7).trans (dig1 7 (by decide))
  have e9 : Lib.itoa 9 = [57] := (itoaN 9).trans (dig1 9 (by decide))
  have e10 : Lib.itoa 10 = [49, 48] := (itoaN 10).trans (by rw [digN _ (by decide), dig1 _ (by decide)]; rfl)
  have e20 : Lib.itoa 20 = [50, 48] := (itoaN 20).trans (by rw [digN _ (by decide), dig1 _ (by decide)]; rfl)
  have e100 : Lib.itoa 100 = [49, 48, 48] := (itoaN 100).trans (by rw [digN _ (by decide), digN _ (by decide), dig1 _ (by decide)]; rfl)
  have e1000 : Lib.itoa 1000 = [49, 48, 48, 48] := (itoaN 1000).trans (by rw [digN _ (by decide), digN _ (by decide), digN _ (by decide), dig1 _ (by decide)]; rfl)
  have e5000 : Lib.itoa 5000 = [53, 48, 48, 48] := (itoaN 5000).trans (by rw [digN _ (by decide), digN _ (by decide), digN _ (by decide), dig1 _ (by decide)]; rfl)
  unfold printS
  rw [knownE, if_neg (by decide)]
  have h1 : headS knownC = [115, 101, 110, 100, 101, 114, 32, 55, 32, 49, 48, 32, 49, 48, 48, 32, 50, 48, 32, 49, 48, 48, 48, 32, 49, 48, 48, 32, 53, 48, 48, 48, 32, 48] := by
    simp only [headS, knownC, numsS, senderW, List.flatMap_cons, List.flatMap_nil]
    rw [show ((7 : Nat) : Int) = 7 from rfl, e0, e7, e10, e20, e100, e1000, e5000]; rfl
  have h2 : linesS (knownL p) = [119, 114, 105, 116, 101, 32, 48, 49, 102, 102, 10, 116, 105, 99, 107, 32, 57, 10] := by
    have l1 : lineL 0 0 [1, 255] = [119, 114, 105, 116, 101, 32, 48, 49, 102, 102] := by rfl
    have l2 : lineL 1 9 [] = [116, 105, 99, 107, 32, 57] := by
      have : lineL 1 9 [] = wordL 1 ++ [32] ++ Lib.itoa 9 := by rfl
      rw [this, e9]; rfl
    simp only [linesS, knownL, lineO, List.flatMap_cons, List.flatMap_nil, l1, l2]; rfl
  rw [h1, h2]; rfl
set_option maxRecDepth 100000 in
theorem known_any (w : World) (hT : Tabs w) : Calls Tryd.prog 7 #[] w fun e w' => e = .returned (.bool true) ∧ Fr None w w' := by
  have S0 := (((Sep.law w).alloc #[.int .u8 1, .int .u8 255] U8T).alloc #[.int .i64 0, .int .i64 0, .slice (some ⟨w.heap.size, 0, none⟩) 2 2, .int .i64 1, .int .i64 9, .slice none 0 0] LOpT)
  have hsz : (w.alloc (.cells #[.int .u8 1, .int .u8 255] U8T)).heap.size = w.heap.size + 1 := by simp
  have hr1 : Reads ((w.alloc (.cells #[.int .u8 1, .int .u8 255] U8T)).alloc (.cells #[.int .i64 0, .int .i64 0, .slice (some ⟨w.heap.size, 0, none⟩) 2 2, .int .i64 1, .int .i64 9, .slice none 0 0] LOpT)) 1 (some ⟨w.heap.size, 0, none⟩) 2 2 (fc ubc [1, 255]) := by
    have h := urow_reads (urow_lit w [1, 255] (by simp [maxLen]))
    exact h.fr ((Fr.refl None _).alloc _) (fun _ _ h => h)
  have hr2 : Reads ((w.alloc (.cells #[.int .u8 1, .int .u8 255] U8T)).alloc (.cells #[.int .i64 0, .int .i64 0, .slice (some ⟨w.heap.size, 0, none⟩) 2 2, .int .i64 1, .int .i64 9, .slice none 0 0] LOpT)) 3 (some ⟨w.heap.size + 1, 0, none⟩) 2 2 (fc opc (knownL w.heap.size)) := by
    have h := World.ownsRow_lit (w.alloc (.cells #[.int .u8 1, .int .u8 255] U8T)) (base := 0) (e := LOpT) (size := 3) #[.int .i64 0, .int .i64 0, .slice (some ⟨w.heap.size, 0, none⟩) 2 2, .int .i64 1, .int .i64 9, .slice none 0 0] 2 (Nat.zero_le _) (by simp [maxLen]) rfl
    rw [hsz] at h
    exact (Owns.reads (show Owns opc 3 LOpT _ (.slice _ (knownL w.heap.size).length 2) (knownL w.heap.size) from h)).2.1
  have hO : OpsAt ((w.alloc (.cells #[.int .u8 1, .int .u8 255] U8T)).alloc (.cells #[.int .i64 0, .int .i64 0, .slice (some ⟨w.heap.size, 0, none⟩) 2 2, .int .i64 1, .int .i64 9, .slice none 0 0] LOpT)) (some ⟨w.heap.size + 1, 0, none⟩) 2 (knownL w.heap.size) :=
    ⟨fun _ => hr2, fun o ho => by
      simp only [knownL, List.mem_cons, List.not_mem_nil, or_false] at ho
      rcases ho with rfl | rfl
      · exact ⟨by show (-9223372036854775808 : Int) ≤ 0 ∧ (0 : Int) ≤ 9223372036854775807; decide, by show (2 : Nat) ≤ 2000000; decide, fun _ => hr1⟩
      · exact ⟨by show (-9223372036854775808 : Int) ≤ 9 ∧ (9 : Int) ≤ 9223372036854775807; decide, by show (0 : Nat) ≤ 2000000; decide, fun h => by simp at h⟩⟩
  have HP := Lib.hid (print_any knownC (by unfold Cf.ok knownC; refine ⟨by decide, by decide, ?_⟩; decide) _ _ _ _ (hT.fr S0.fr) hO)
  rw [knownE, knownText] at HP
  have HF := Lib.hid S0.fr
  clear S0 hO hr1 hr2 hT
  go_enter Tryd.func7, Tryd.ntmps7
  go_wp2_with ((refine HP.out.mono ?_); rintro e1 w1 ⟨rfl, f1⟩; have HF1 := Lib.hid (HF.out.trans f1); clear f1)
  go_ret
  exact ⟨rfl, HF1.out⟩
end Go.Proofs.YtedogalndhackaaDoor
