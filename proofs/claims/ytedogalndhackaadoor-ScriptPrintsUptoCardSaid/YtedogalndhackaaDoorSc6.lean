/- script.hex and script.Line: walked. -/
import Derived.Test.YtedogalndhackaaDoorSc5
set_option linter.unusedVariables false
set_option linter.unusedSimpArgs false
namespace Go.Proofs.YtedogalndhackaaDoor
open Go.RowKit Go.Und Go.Shelf Go.Sort
attribute [local go_sem] Oper.semAt_some
attribute [local go_sem ↓] Go.wp_at_zero Go.wp_at_succ

def hexD : List UInt8 := [48, 49, 50, 51, 52, 53, 54, 55, 56, 57, 97, 98, 99, 100, 101, 102]
theorem hex_ix (d : Nat) (hd : d < 16) (z : Int) (hz : z = (d : Int)) (W : World) : (Instr.index 9 (.string ⟨#[48, 49, 50, 51, 52, 53, 54, 55, 56, 57, 97, 98, 99, 100, 101, 102]⟩) (.int .u8 z)).run Tryd.prog W = .ok (.int .u8 ((hx d).toNat : Int)) W := by
  subst hz
  rw [run_index_string W _ _ _ _ Tryd.underlying9, dif_pos ⟨by omega, by show (d : Int) < 16; omega⟩]
  have key : ∀ j : Fin 16, (⟨#[48, 49, 50, 51, 52, 53, 54, 55, 56, 57, 97, 98, 99, 100, 101, 102]⟩ : ByteArray)[j.val]'(j.isLt) = hx j.val := by decide
  have k2 := congrArg (fun u : UInt8 => (Result.ok (Value.int .u8 (u.toNat : Int)) W : Result Value)) (key ⟨d, hd⟩)
  exact k2
theorem hex_ix1 (x : UInt8) (W : World) : (Instr.index 9 (.string ⟨#[48, 49, 50, 51, 52, 53, 54, 55, 56, 57, 97, 98, 99, 100, 101, 102]⟩) (.int .u8 ((x.toNat : Int) / 16))).run Tryd.prog W = .ok (.int .u8 ((hx (x.toNat / 16)).toNat : Int)) W :=
  hex_ix (x.toNat / 16) (by have := x.toNat_lt; omega) _ (by simp) W
theorem and15F : ∀ j : Fin 256, bits BinOp.and IntKind.u8 ((j.val : Nat) : Int) 15 = ((j.val % 16 : Nat) : Int) := by decide +kernel
theorem and15 (x : UInt8) : bits BinOp.and IntKind.u8 ((x.toNat : Nat) : Int) 15 = ((x.toNat % 16 : Nat) : Int) := and15F ⟨x.toNat, x.toNat_lt⟩
theorem hex_ix2 (x : UInt8) (W : World) : (Instr.index 9 (.string ⟨#[48, 49, 50, 51, 52, 53, 54, 55, 56, 57, 97, 98, 99, 100, 101, 102]⟩) (.int .u8 (bits BinOp.and IntKind.u8 ((x.toNat : Nat) : Int) 15))).run Tryd.prog W = .ok (.int .u8 ((hx (x.toNat % 16)).toNat : Int)) W :=
  hex_ix (x.toNat % 16) (by omega) _ (and15 x) W
set_option maxRecDepth 100000 in
set_option maxHeartbeats 1000000 in
theorem hex_any (l : List UInt8) (hl : l.length ≤ 2000000) (q : Option Addr) (c : Nat) (w : World) (hr : 0 < l.length → Reads w 1 q l.length c (fc ubc l)) :
    Calls Tryd.prog 23 #[.slice q l.length c] w fun e w' => e = .returned (st (hexS l)) ∧ Fr None w w' := by
  by_cases hl0 : 0 < l.length
  · have HR := Lib.hid (hr hl0)
    have g0 : ((l.length : Int) == 0) = false := beq_eq_false_iff_ne.2 (by omega)
    clear hr
    have HS0 := Lib.hid ((Sep.law w).add (urow none 0 []) (Fr.refl None _) (Owns.nil ubc 1 U8T _) (fun k hk => by cases hk))
    go_enter Tryd.func23, Tryd.ntmps23
    go_wp2_with fail
    go_loopg [3, 11] l.length (fun r lf i wr => ∃ (k : Nat) (qo : Option Addr) (d : Nat) (o : List UInt8), k + r = l.length ∧ i = .int .i64 k ∧ lf = .slice qo o.length d ∧ o = hexL ((l.take k).map UInt8.toNat) ∧ Sep None w wr [urow qo d o])
    case atStart => exact ⟨0, none, 0, [], by omega, rfl, rfl, rfl, HS0.out⟩
    case round =>
      obtain ⟨k, qo, d, o, hk, rfl, rfl, ho, S⟩ := hrel
      by_cases g : k < l.length
      · have ex := List.getElem?_eq_getElem g
        obtain ⟨b, off, rfl, hc⟩ := (HR.out.fr S.fr (fun _ _ h => h)).elem ubc_len (by decide) ex
        have hc1 : wr.cell? ⟨b, off + k * 1, none⟩ = some (.int .u8 (l[k].toNat : Int)) := hc 0 _ rfl
        have HX := Lib.hid (hexS_snoc ex)
        generalize l[k] = x at *
        rw [Nat.mul_one] at hc1
        have HS := Lib.hid S
        have HO := Lib.hid ho
        have i1 := hex_ix1 x
        have i2 := hex_ix2 x
        clear hc ex S ho
        go_wp2_with fail
        refine wp_region_noPanic ?_
        refine wp_region_to (S := fun w' => True) 10 (by kernel_rfl) trivial (fun hHeld => ?_)
        refine wpTo_take (i := 0) (v := ?_) rfl (by kernel_rfl) (fun _ _ _ h => h) (Or.inl ⟨by rfl, ?_⟩) hHeld ?_
        rotate_left
        · (intro w' hSw; (try dsimp only at hSw); go_simp <;> with_reducible rfl)
        simp only [Act.put, List.setIfInBounds_toArray, List.set_cons_zero, List.set_cons_succ, List.getElem_toArray, List.getElem_cons_succ, List.getElem_cons_zero]
        refine wpTo_take (i := 1) (v := ?_) rfl (by kernel_rfl) (fun _ _ _ h => h) (Or.inl ⟨by rfl, ?_⟩) hHeld ?_
        rotate_left
        · (intro w' hSw; (try dsimp only at hSw); go_simp <;> with_reducible rfl)
        simp only [Act.put, List.setIfInBounds_toArray, List.set_cons_zero, List.set_cons_succ, List.getElem_toArray, List.getElem_cons_succ, List.getElem_cons_zero]
        refine wpTo_take (i := 2) (v := ?_) rfl (by kernel_rfl) (fun _ _ _ h => h) (Or.inl ⟨by rfl, ?_⟩) hHeld ?_
        rotate_left
        · (intro w' hSw; (try dsimp only at hSw); go_simp <;> with_reducible rfl)
        simp only [Act.put, List.setIfInBounds_toArray, List.set_cons_zero, List.set_cons_succ, List.getElem_toArray, List.getElem_cons_succ, List.getElem_cons_zero]
        refine wpTo_take (i := 3) (v := ?_) rfl (by kernel_rfl) (fun _ _ _ h => h) (Or.inl ⟨by rfl, ?_⟩) hHeld ?_
        rotate_left
        · (intro w' hSw; (try dsimp only at hSw); go_simp <;> with_reducible rfl)
        simp only [Act.put, List.setIfInBounds_toArray, List.set_cons_zero, List.set_cons_succ, List.getElem_toArray, List.getElem_cons_succ, List.getElem_cons_zero]
        refine wpTo_take (i := 4) (v := ?_) rfl (by kernel_rfl) (fun _ _ _ h => h) (Or.inl ⟨by rfl, ?_⟩) hHeld ?_
        rotate_left
        · (intro w' hSw; (try dsimp only at hSw); go_simp <;> with_reducible rfl)
        simp only [Act.put, List.setIfInBounds_toArray, List.set_cons_zero, List.set_cons_succ, List.getElem_toArray, List.getElem_cons_succ, List.getElem_cons_zero]
        refine wpTo_take (i := 5) (v := ?_) rfl (by kernel_rfl) (fun _ _ _ h => h) (Or.inl ⟨by rfl, ?_⟩) hHeld ?_
        rotate_left
        · (intro w' hSw; (try dsimp only at hSw); go_simp <;> with_reducible rfl)
        simp only [Act.put, List.setIfInBounds_toArray, List.set_cons_zero, List.set_cons_succ, List.getElem_toArray, List.getElem_cons_succ, List.getElem_cons_zero]
        refine wpTo_take (i := 6) (v := ?_) rfl (by kernel_rfl) (fun _ _ _ h => h) (Or.inl ⟨by rfl, ?_⟩) hHeld ?_
        rotate_left
        · (intro w' hSw; (try dsimp only at hSw); go_simp <;> with_reducible rfl)
        simp only [Act.put, List.setIfInBounds_toArray, List.set_cons_zero, List.set_cons_succ, List.getElem_toArray, List.getElem_cons_succ, List.getElem_cons_zero]
        refine wpTo_mid (i := 7) (by kernel_rfl) rfl (fun K hK => ?_)
        go_simp
        refine hK.out _ _ trivial (fun hHeld => ?_)
        clear hK K
        try simp only [Act.put, List.setIfInBounds_toArray, List.set_cons_zero, List.set_cons_succ, List.getElem_toArray, List.getElem_cons_succ, List.getElem_cons_zero]
        refine wpTo_mid (i := 8) (by kernel_rfl) rfl (fun K hK => ?_)
        refine step_pushU HS.out.drew 0 rfl [hx (x.toNat / 16), hx (x.toNat % 16)] (by rfl) _ _ (by rfl) (by rfl) (by rfl) ?_ ?_
        · rw [HO.out, hexL_len, List.length_map, List.length_take]; simp; omega
        intro q3 c3 w3 S3
        have HS3 := Lib.hid S3
        clear S3
        refine hK.out _ _ trivial (fun hHeld => ?_)
        clear hK K
        simp only [Act.put, List.setIfInBounds_toArray, List.set_cons_zero, List.set_cons_succ, List.getElem_toArray, List.getElem_cons_succ, List.getElem_cons_zero]
        refine wpTo_take (i := 9) (v := ?_) rfl (by kernel_rfl) (fun _ _ _ h => h) (Or.inl ⟨by rfl, ?_⟩) hHeld ?_
        rotate_left
        · (intro w' hSw; (try dsimp only at hSw); go_simp <;> with_reducible rfl)
        simp only [Act.put, List.setIfInBounds_toArray, List.set_cons_zero, List.set_cons_succ, List.getElem_toArray, List.getElem_cons_succ, List.getElem_cons_zero]
        refine wpTo_done (by kernel_rfl) ?_ _
        refine NoPanic.normal ?_
        go_wp2_with fail
        go_roundg (gk - 1)
        case measure => omega
        case rel => exact ⟨k + 1, q3, c3, _, by omega, rfl, by rw [List.length_append]; rfl, by rw [HX.out, ← HO.out], HS3.out⟩
      · obtain rfl : k = l.length := by omega
        rw [List.take_length] at ho
        have hc := conv_st (S.at_ 0 rfl)
        have HF := Lib.hid S.fr
        have HO := Lib.hid ho
        clear S ho
        go_wp2_with fail
        go_ret
        refine ⟨?_, HF.out⟩
        rw [hexS, if_neg (by intro e; rw [e] at hl0; simp at hl0), ← HO.out]
        rfl
  · obtain rfl : l = [] := List.length_eq_zero_iff.1 (by omega)
    go_enter Tryd.func23, Tryd.ntmps23
    go_wp2_with fail
    go_ret
    exact ⟨rfl, Fr.refl _ _⟩
end Go.Proofs.YtedogalndhackaaDoor
