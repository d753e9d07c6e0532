/- Numerals of the library; hex digits of the document: walked. -/
import Derived.Test.YtedogalndhackaaDoorSc2
set_option linter.unusedVariables false
set_option linter.unusedSimpArgs false
namespace Go.Proofs.YtedogalndhackaaDoor
open Go.RowKit Go.Und Go.Shelf Go.Sort Go.Lib
attribute [local go_sem] Oper.semAt_some
attribute [local go_sem ↓] Go.wp_at_zero Go.wp_at_succ

abbrev TabAt (w : World) : Prop := Lib.TabIs Tryd.prog w "internal/strconv.uint64pow10" .u64 Lib.pow10Tab
theorem grow_fr (w : World) (k : Nat) (os : Array Obj) : Fr None w (grow (w.drewN k) os) :=
  ⟨rfl, rfl, rfl, by show w.heap.size ≤ (w.heap ++ os).size; rw [Array.size_append]; omega, fun j hj _ => heap_grow_old w k os j (by omega)⟩
theorem TabAt.fr {w w' : World} (h : TabAt w) (f : Fr None w w') : TabAt w' := Lib.tabBelow_of_tabIs h w' f.none_below
/-- strconv.Itoa. -/
theorem litoa_any (n : Int) (h0 : -9223372036854775808 ≤ n) (h1 : n ≤ 9223372036854775807) (w : World) (ht : TabAt w) :
    Calls Tryd.prog 24 #[.int .i64 n] w fun e w' => e = .returned (st (Lib.itoa n)) ∧ Fr None w w' :=
  (Tryd.strconv_Itoa n h0 h1 w ht).mono fun _ _ ⟨he, k, os, e⟩ => ⟨he, by rw [e]; exact grow_fr w k os⟩

set_option maxHeartbeats 6400000 in
set_option maxRecDepth 100000 in
theorem iformatUint_any (u : Nat) (hu : u < 18446744073709551616) (w : World) (htab : TabAt w) :
    Calls Tryd.prog 45 #[.int .u64 u, .int .i64 10] w fun e w' => e = .returned (st (Lib.itoa u)) ∧ Fr None w w' := by
  by_cases hi : u < 100
  · have hI := Lib.hid (fun W => Tryd.internal_strconv_small u hi W)
    go_enter Tryd.func45, Tryd.ntmps45
    go_wp2_with ((with_reducible refine (hI.out _).mono ?_); rintro e w' ⟨rfl, rfl⟩)
    go_ret
    exact ⟨by rw [Lib.itoa_nonneg]; rfl, Fr.refl _ _⟩
  · have hu1 : 1 ≤ u := by omega
    have hnd20 : Lib.nDigits u ≤ 20 := by have := Lib.numDigits_eq u hu1 hu; split at this <;> omega
    have hal : Tryd.prog.arrayLen 98 = 24 := by simp [Program.arrayLen, Tryd.underlying98]
    have hsl1 : ∀ W, (Instr.sliceAt 98 (.pointer (some ⟨w.heap.size, 0, none⟩)) none (some (.int .i64 (Lib.nDigits u : Int))) none).run Tryd.prog W = .ok (.slice (some ⟨w.heap.size, 0, none⟩) (Lib.nDigits u) 24) W := fun W => by
      rw [run_sliceAt_array_h W 98 ⟨w.heap.size, 0, none⟩ (by simp [Program.arrayLen, Program.elem, Tryd.underlying98]) .i64 (Lib.nDigits u : Int) (by omega) (by rw [hal]; omega)]
      go_simp
      try omega
    have hH0 := Lib.holds_zero0 w 98 (Lib.nDigits u) (by omega)
    have hfmt := Tryd.internal_strconv_formatBase10 w.heap.size 0 24 u (Array.replicate (Lib.nDigits u) 0) (w.alloc (.cells Lib.zeros24 98)) hH0 (by rw [Array.size_replicate]; exact Lib.lt_pow_nDigits u) hu (by rw [Array.size_replicate]; omega)
    rw [Array.size_replicate] at hfmt
    have HH0 := Lib.hid hH0
    clear hH0 hal
    have hi' : ((u : Int) < 100) = False := by simp; omega
    have HN := Lib.hid (fun (W : World) (h : TabAt W) => Tryd.internal_strconv_numDigits u hu1 hu W h)
    have HT := Lib.hid (Lib.tabIs_alloc htab (.cells Lib.zeros24 98))
    have HF := Lib.hid hfmt
    clear hfmt
    go_enter Tryd.func45, Tryd.ntmps45
    go_wp2_with ((with_reducible refine (HN.out _ (Lib.tabIs_alloc htab _)).mono ?_); rintro e w' ⟨rfl, rfl⟩)
    refine HF.out.mono ?_
    rintro e w' ⟨rfl, k, v', dk, rfl, hF⟩
    have hcv : (convert BlT 9 (.slice (some ⟨w.heap.size, 0, none⟩) (Lib.nDigits u) 24)).run Tryd.prog ((putRow (fun (b : UInt8) => Value.int .u8 (b.toNat : Int)) (w.alloc (.cells Lib.zeros24 98)) w.heap.size 0 dk).drewN k) = .ok (.string ⟨(Lib.decDigits u).toArray⟩) ((putRow (fun (b : UInt8) => Value.int .u8 (b.toNat : Int)) (w.alloc (.cells Lib.zeros24 98)) w.heap.size 0 dk).drewN k) := by
      have h := run_convert_bytes_back (P := Tryd.prog) ((putRow (fun (b : UInt8) => Value.int .u8 (b.toNat : Int)) (w.alloc (.cells Lib.zeros24 98)) w.heap.size 0 dk).drewN k) BlT 9 U8T ⟨w.heap.size, 0, none⟩ 24 (Lib.decDigits u) Tryd.underlying28 Tryd.underlying5 Tryd.underlying9 (fun j hj => by
        rw [Lib.row_is_numeral hF j hj, Lib.add_plain, World.cell?_drewN]
        exact cell?_putRow (fun (b : UInt8) => Value.int .u8 (b.toNat : Int)) _ w.heap.size 0 _ dk HH0.out (by rw [hF.size, Array.size_replicate]) j (by rw [hF.size]; rw [Lib.decDigits_length] at hj; exact hj))
      rw [Lib.decDigits_length] at h
      exact h
    go_wp2_with fail
    go_ret
    have hg : ∃ os, (putRow (fun (b : UInt8) => Value.int .u8 (b.toNat : Int)) (w.alloc (.cells Lib.zeros24 98)) w.heap.size 0 dk).drewN k = grow (w.drewN k) os := by
      rw [alloc_eq_grow]
      obtain ⟨os', _, e⟩ := putRow_grow_new (fun (b : UInt8) => Value.int .u8 (b.toNat : Int)) w #[_] w.heap.size 0 dk (Nat.le_refl _)
      exact ⟨os', by rw [e]; rfl⟩
    obtain ⟨os, eo⟩ := hg
    refine ⟨by rw [Lib.itoa_nonneg]; rfl, ?_⟩
    rw [eo]; exact grow_fr w k os
theorem formatUint_any (u : Nat) (hu : u < 18446744073709551616) (w : World) (htab : TabAt w) :
    Calls Tryd.prog 30 #[.int .u64 u, .int .i64 10] w fun e w' => e = .returned (st (Lib.itoa u)) ∧ Fr None w w' := by
  have HI := Lib.hid (iformatUint_any u hu w htab)
  go_enter Tryd.func30, Tryd.ntmps30
  go_wp2_with ((with_reducible refine HI.out.mono ?_); rintro e w' ⟨rfl, f⟩; have HF := Lib.hid f; clear f)
  go_ret
  exact ⟨rfl, HF.out⟩
end Go.Proofs.YtedogalndhackaaDoor
