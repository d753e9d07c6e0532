/- The document's lines: words, hex digits; walked. -/
import Derived.Test.YtedogalndhackaaDoorSc3
import Derived.Test.YtedogalndhackaaDoorRegion
set_option linter.unusedVariables false
set_option linter.unusedSimpArgs false
namespace Go.Proofs.YtedogalndhackaaDoor
open Go.RowKit Go.Und Go.Shelf Go.Sort
attribute [local go_sem] Oper.semAt_some
attribute [local go_sem ↓] Go.wp_at_zero Go.wp_at_succ

def wordsL : List (List UInt8) := [[119, 114, 105, 116, 101], [116, 105, 99, 107], [100, 97, 116, 97], [100, 114, 111, 112, 100, 97, 116, 97], [99, 111, 112, 121, 100, 97, 116, 97], [98, 97, 99, 107], [100, 114, 111, 112, 98, 97, 99, 107], [99, 111, 112, 121, 98, 97, 99, 107]]
def wordL (k : Nat) : List UInt8 := wordsL.getD k []
theorem word_len : ∀ k, (wordL k).length ≤ 8
  | 0 => by decide | 1 => by decide | 2 => by decide | 3 => by decide | 4 => by decide | 5 => by decide | 6 => by decide | 7 => by decide
  | _ + 8 => by simp [wordL, wordsL]
theorem itoa_len (n : Int) (h0 : -9223372036854775808 ≤ n) (h1 : n ≤ 9223372036854775807) : (Lib.itoa n).length ≤ 21 := by
  rw [itoa_dd]
  have := dd_len n.natAbs (by omega)
  split
  · decide
  · split <;> simp <;> omega
theorem mix_cell {W x : World} {a : Addr} {v : Value} (h : W.cell? a = some v) : (Mix None W x).cell? a = some v := cell_frN (mix_fr _ _ _) h

set_option maxRecDepth 100000 in
theorem word_any (k : Nat) (hk : k < 8) (w : World) : Calls Tryd.prog 25 #[.int .i64 k] w fun e w' => e = .returned (st (wordL k)) ∧ Fr None w w' := by
  have key : ∀ j : Fin 8, Calls Tryd.prog 25 #[.int .i64 (j.val : Int)] w fun e w' => e = .returned (st (wordL j.val)) ∧ Fr None w w' := by
    intro j
    match j with
    | 0 | 1 | 2 | 3 | 4 | 5 | 6 | 7 =>
      go_enter Tryd.func25, Tryd.ntmps25
      go_wp2_with fail
      go_ret
      exact ⟨rfl, (Fr.refl None w).alloc _⟩
  exact key ⟨k, hk⟩
set_option maxRecDepth 100000 in
theorem digit_any (d : Nat) (hd : d < 16) (w : World) : Calls Tryd.prog 27 #[.int .i64 d] w fun e w' => e = .returned (.int .u8 ((hx d).toNat : Int)) ∧ w' = w := by
  by_cases h : d < 10
  · have hx' : ((hx d).toNat : Int) = 48 + (d : Int) := by unfold hx; rw [if_pos h, UInt8.toNat_ofNat']; omega
    have hw : wrap64 (48 + (d : Int)) % 256 = 48 + (d : Int) := by rw [wrap64]; omega
    have HX := Lib.hid hx'
    have HW := Lib.hid hw
    clear hx' hw
    go_enter Tryd.func27, Tryd.ntmps27
    go_wp2_with fail
    go_ret
    exact ⟨by rw [HX.out, ← HW.out]; rfl, rfl⟩
  · have hx' : ((hx d).toNat : Int) = 87 + (d : Int) := by unfold hx; rw [if_neg h, UInt8.toNat_ofNat']; omega
    have hw : wrap64 (87 + (d : Int)) % 256 = 87 + (d : Int) := by rw [wrap64]; omega
    have HX := Lib.hid hx'
    have HW := Lib.hid hw
    clear hx' hw
    go_enter Tryd.func27, Tryd.ntmps27
    go_wp2_with fail
    go_ret
    exact ⟨by rw [HX.out, ← HW.out]; rfl, rfl⟩

abbrev OpT : TypeId := 30
/-- What a line says. -/
def hexS (l : List UInt8) : List UInt8 := if l = [] then [45] else hexL (l.map UInt8.toNat)
def errL (k n : Int) (l : List UInt8) : Int := if k < 0 ∨ 8 ≤ k then 8 else if k = 0 ∧ n ≠ 0 ∨ k ≠ 0 ∧ 0 < l.length then 6 else 0
def lineL (k n : Int) (l : List UInt8) : List UInt8 := if errL k n l ≠ 0 then [] else if k = 0 then wordL 0 ++ [32] ++ hexS l else wordL k.toNat ++ [32] ++ Lib.itoa n
set_option maxRecDepth 100000 in
set_option maxHeartbeats 1000000 in
theorem rline_num (k : Nat) (hk : k < 8) (k0 : 0 < k) (n : Int) (h0 : -9223372036854775808 ≤ n) (h1 : n ≤ 9223372036854775807) (q : Option Addr) (c : Nat) (w : World) :
    Calls Tryd.prog 10 #[.agg #[.int .i64 k, .int .i64 n, .slice q 0 c]] w fun e w' => e = .returned (.tuple #[st (wordL k ++ [32] ++ Lib.itoa n), .int .i64 0]) ∧ Fr None w w' := by
  have HW := Lib.hid (fun W => word_any k hk W)
  have HN := Lib.hid (fun W => number_any n h0 h1 W)
  have hb := Blk.new w OpT #[.int .i64 k, .int .i64 n, .slice q 0 c]
  have HF := Lib.hid ((Fr.refl None w).alloc (.cells #[.int .i64 k, .int .i64 n, .slice q 0 c] OpT))
  have g1 : ((k : Int) < 0) = False := by simp
  have g2 : ((7 : Int) < (k : Int)) = False := by simp; omega
  have g3 : ((k : Int) = 0) = False := by simp; omega
  have s1 := st_run (wordL k) [32] (by have := word_len k; simp; omega)
  have hi := itoa_len n h0 h1
  have s2 := st_run (wordL k ++ [32]) (Lib.itoa n) (by have := word_len k; simp; omega)
  go_enter Tryd.func10, Tryd.ntmps10
  go_wp2_with fail
  generalize eW : w.alloc (.cells #[.int .i64 k, .int .i64 n, .slice q 0 c] OpT) = W at *
  have c0 : ∀ x, (Mix None W x).cell? ⟨w.heap.size, 0, none⟩ = some (.int .i64 k) := fun x => mix_cell (hb.cell 0)
  have c1 : ∀ x, (Mix None W x).cell? ⟨w.heap.size, 1, none⟩ = some (.int .i64 n) := fun x => mix_cell (hb.cell 1)
  refine wp_region_class (C := fun w' => ∃ x, w' = Mix None W x) (by kernel_rfl) (by kernel_rfl) (mix_drew None W) ?_
  repeat (go_big_quiet_step ((first | (with_reducible exact mix_call (fun _ _ h => h) (HW.out _)) | (with_reducible exact mix_call (fun _ _ h => h) (HN.out _)))))
  refine wpQuiet_nil ?_
  rintro _ ⟨x, rfl⟩
  go_wp2_with fail
  go_ret2
  exact ⟨by simp, HF.out.trans (mix_fr _ _ _)⟩
end Go.Proofs.YtedogalndhackaaDoor
