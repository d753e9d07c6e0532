/- The document's lines: a write's; all. -/
import Derived.Test.YtedogalndhackaaDoorSc4
import Derived.Test.YtedogalndhackaaDoorRegE
set_option linter.unusedVariables false
set_option linter.unusedSimpArgs false
namespace Go.Proofs.YtedogalndhackaaDoor
open Go.RowKit Go.Und Go.Shelf Go.Sort
attribute [local go_sem] Oper.semAt_some
attribute [local go_sem ↓] Go.wp_at_zero Go.wp_at_succ

/-- Append, new bytes behind a row. -/
theorem wpList_pushU {D : Nat → Prop} {w0 W : World} {L : List Ob} (S : Sep D w0 W L) (i : Nat) {qi : Option Addr} {ci : Nat} {l : List UInt8} (h : L[i]? = some (urow qi ci l)) (r : List UInt8) {ops : Array Oper} {o : Oper} {rest : List Oper} {a : Act} {Q : Exit → Act → World → Prop}
    (hgd : o.guard = none) (s x : Operand) (ho : o.op = .call { callee := .builtin .append, args := #[s, x], argTypes := #[BlT, BlT] }) (hs : a.eval s = .slice qi l.length ci) (hx : a.eval x = .slice (some ⟨W.heap.size, 0, none⟩) r.length r.length) (hl : l.length + r.length ≤ 10000000)
    (K : ∀ q' c' W', Sep D w0 W' (L.set i (urow q' c' (l ++ r))) → wpList Tryd.prog ops Q rest (a.put o.dst (.slice q' (l ++ r).length c')) W') : wpList Tryd.prog ops Q (o :: rest) a (W.alloc (.cells (fc ubc r).toArray U8T)) := by
  obtain ⟨inf, hi1, hz0, hz1, hz2⟩ := info_parts u8Info
  have S1 := S.add (w' := W.alloc (.cells (fc ubc r).toArray U8T)) (urow (some ⟨W.heap.size, 0, none⟩) r.length r) ((Fr.refl None W).alloc _) (urow_lit W r (by simp [maxLen]; omega)) (fun k hk => by cases hk; exact Nat.le_refl _)
  have hr := urow_reads (S1.at_ 0 rfl)
  refine wpList_append_row _ hgd s x BlT ho 0 U8T inf _ 1 1 Tryd.underlying28 hi1 hz0 hz1 hz2 rfl (by decide) _ l.length (fc ubc l) hs ((S.skip _).at_ i h) (some ⟨W.heap.size, 0, none⟩) r.length r.length (fc ubc r) hx hr (fc_one ubc_one _) (by simp [maxLen]; omega) (by omega) (Nat.zero_le _) ?_
  intro q2 c2' w8 ho2 hf2 hb2
  have hob : ∀ k, (Ob.row 0 U8T 1 (.slice q2 (l.length + r.length) c2') (l.length + r.length) (fc ubc l ++ fc ubc r)).fp k → (urow qi ci l).fp k ∨ (W.alloc (.cells (fc ubc r).toArray U8T)).heap.size ≤ k := fun k hk => by
    have hk' : (Value.slice q2 (l.length + r.length) c2').ownBlock = some k := hk
    rcases hb2 with e' | e'
    · exact .inl (Eq.trans (show (Value.slice qi l.length ci).ownBlock = (Value.slice q2 (l.length + r.length) c2').ownBlock from e'.symm) hk')
    · rw [e'] at hk'; cases hk'; exact .inr (Nat.le_refl _)
  have S8 := (S.skip (.cells (fc ubc r).toArray U8T)).turn i h (Ob.row 0 U8T 1 (.slice q2 (l.length + r.length) c2') (l.length + r.length) (fc ubc l ++ fc ubc r)) hf2 (fun _ _ h => h) ho2 hob
  rw [← fc_append, ← List.length_append] at S8
  have := K q2 c2' w8 S8
  rwa [List.length_append] at this
theorem step_pushU {D : Nat → Prop} {w0 W : World} {L : List Ob} (S : Sep D w0 W L) (i : Nat) {qi : Option Addr} {ci : Nat} {l : List UInt8} (h : L[i]? = some (urow qi ci l)) (r : List UInt8) {ops : Array Oper} {o : Oper} {a : Act} {Q : Exit → Act → World → Prop} {K : Act → World → Prop} {E : Prop}
    (hgd : o.guard = none) (s x : Operand) (ho : o.op = .call { callee := .builtin .append, args := #[s, x], argTypes := #[BlT, BlT] }) (hs : a.eval s = .slice qi l.length ci) (hx : a.eval x = .slice (some ⟨W.heap.size, 0, none⟩) r.length r.length) (hl : l.length + r.length ≤ 10000000)
    (hK : ∀ q' c' W', Sep D w0 W' (L.set i (urow q' c' (l ++ r))) → K (a.put o.dst (.slice q' (l ++ r).length c')) W') : if Region.wanted o (yielded ops a.tmps) = true then Oper.wp Tryd.prog o a (W.alloc (.cells (fc ubc r).toArray U8T)) K Q else E := by
  obtain ⟨inf, hi1, hz0, hz1, hz2⟩ := info_parts u8Info
  have S1 := S.add (w' := W.alloc (.cells (fc ubc r).toArray U8T)) (urow (some ⟨W.heap.size, 0, none⟩) r.length r) ((Fr.refl None W).alloc _) (urow_lit W r (by simp [maxLen]; omega)) (fun k hk => by cases hk; exact Nat.le_refl _)
  have hr := urow_reads (S1.at_ 0 rfl)
  refine step_append_row _ hgd s x BlT ho 0 U8T inf _ 1 1 Tryd.underlying28 hi1 hz0 hz1 hz2 rfl (by decide) _ l.length (fc ubc l) hs ((S.skip _).at_ i h) (some ⟨W.heap.size, 0, none⟩) r.length r.length (fc ubc r) hx hr (fc_one ubc_one _) (by simp [maxLen]; omega) (by omega) (Nat.zero_le _) ?_
  intro q2 c2' w8 ho2 hf2 hb2
  have hob : ∀ k, (Ob.row 0 U8T 1 (.slice q2 (l.length + r.length) c2') (l.length + r.length) (fc ubc l ++ fc ubc r)).fp k → (urow qi ci l).fp k ∨ (W.alloc (.cells (fc ubc r).toArray U8T)).heap.size ≤ k := fun k hk => by
    have hk' : (Value.slice q2 (l.length + r.length) c2').ownBlock = some k := hk
    rcases hb2 with e' | e'
    · exact .inl (Eq.trans (show (Value.slice qi l.length ci).ownBlock = (Value.slice q2 (l.length + r.length) c2').ownBlock from e'.symm) hk')
    · rw [e'] at hk'; cases hk'; exact .inr (Nat.le_refl _)
  have S8 := (S.skip (.cells (fc ubc r).toArray U8T)).turn i h (Ob.row 0 U8T 1 (.slice q2 (l.length + r.length) c2') (l.length + r.length) (fc ubc l ++ fc ubc r)) hf2 (fun _ _ h => h) ho2 hob
  rw [← fc_append, ← List.length_append] at S8
  have := hK q2 c2' w8 S8
  rwa [List.length_append] at this
theorem u8_div (x : UInt8) : IntKind.i64.wrap ((IntKind.i64.wrap (x.toNat : Int)).tdiv 16) = ((x.toNat / 16 : Nat) : Int) := by
  have h := x.toNat_lt
  have e : IntKind.i64.wrap (x.toNat : Int) = (x.toNat : Int) := by simp [IntKind.wrap, IntKind.bits, IntKind.signed]; omega
  rw [e, Int.tdiv_eq_ediv_of_nonneg (by omega)]
  simp [IntKind.wrap, IntKind.bits, IntKind.signed]; omega
theorem u8_mod (x : UInt8) : (IntKind.i64.wrap (x.toNat : Int)).tmod 16 = ((x.toNat % 16 : Nat) : Int) := by
  have h := x.toNat_lt
  have e : IntKind.i64.wrap (x.toNat : Int) = (x.toNat : Int) := by simp [IntKind.wrap, IntKind.bits, IntKind.signed]; omega
  rw [e, Int.tmod_eq_emod_of_nonneg (by omega)]
  simp
theorem hexS_snoc {l : List UInt8} {k : Nat} {b : UInt8} (h : l[k]? = some b) : hexL ((l.take (k + 1)).map UInt8.toNat) = hexL ((l.take k).map UInt8.toNat) ++ [hx (b.toNat / 16), hx (b.toNat % 16)] := by
  rw [List.take_add_one, h, List.map_append, hexL_append]; rfl

set_option maxRecDepth 100000 in
set_option maxHeartbeats 1000000 in
theorem rline_bytes (l : List UInt8) (hl0 : 0 < l.length) (hl : l.length ≤ 2000000) (q : Option Addr) (c : Nat) (w : World) (hr : Reads w 1 q l.length c (fc ubc l)) :
    Calls Tryd.prog 10 #[.agg #[.int .i64 0, .int .i64 0, .slice q l.length c]] w fun e w' => e = .returned (.tuple #[st (wordL 0 ++ [32] ++ hexS l), .int .i64 0]) ∧ Fr None w w' := by
  have HD := Lib.hid (fun d hd W => digit_any d hd W)
  have g0 : ((l.length : Int) == 0) = false := beq_eq_false_iff_ne.2 (by omega)
  have S0 := (Sep.law w).alloc #[.int .i64 0, .int .i64 0, .slice q l.length c] OpT
  have HS0 := Lib.hid S0
  have HR := Lib.hid hr
  have c2 : (w.alloc (.cells #[.int .i64 0, .int .i64 0, .slice q l.length c] OpT)).cell? ⟨w.heap.size, 2, none⟩ = some (.slice q l.length c) := (S0.at_ 0 rfl).cell 2
  clear hr
  go_enter Tryd.func10, Tryd.ntmps10
  go_wp2_with fail
  go_loopg [4, 5] l.length (fun r lf i wr => ∃ (k : Nat) (qo : Option Addr) (d : Nat) (o : List UInt8), k + r = l.length ∧ i = .int .i64 k ∧ lf = .slice qo o.length d ∧ o = hexL ((l.take k).map UInt8.toNat) ∧ Sep None w wr [urow qo d o, Ob.blk w.heap.size OpT #[.int .i64 0, .int .i64 0, .slice q l.length c]])
  case atStart => exact ⟨0, none, 0, [], by omega, rfl, rfl, rfl, HS0.out.add (urow none 0 []) (Fr.refl None _) (Owns.nil ubc 1 U8T _) (fun k hk => by cases hk)⟩
  case round =>
    obtain ⟨k, qo, d, o, hk, rfl, rfl, ho, S⟩ := hrel
    clear HS0 S0
    have c2 : wr.cell? ⟨w.heap.size, 2, none⟩ = some (.slice q l.length c) := (S.at_ 1 rfl).cell 2
    by_cases g : k < l.length
    · have ex := List.getElem?_eq_getElem g
      obtain ⟨b, off, rfl, hc⟩ := (HR.out.fr S.fr (fun _ _ h => h)).elem ubc_len (by decide) ex
      have hc1 : wr.cell? ⟨b, off + k * 1, none⟩ = some (.int .u8 (l[k].toNat : Int)) := hc 0 _ rfl
      have HX := Lib.hid (hexS_snoc ex)
      have hw1 : w.cell? ⟨b, off + k * 1, none⟩ = some (.int .u8 (l[k].toNat : Int)) := by
        obtain ⟨b', off', e', hc'⟩ := HR.out.elem ubc_len (by decide) ex
        cases e'
        exact hc' 0 _ rfl
      rw [Nat.mul_one] at hw1
      have HV := Lib.hid (fun W (f : Fr None w W) => cell_frN f hw1)
      clear hw1
      generalize l[k] = x at *
      rw [Nat.mul_one] at hc1
      have HS := Lib.hid S
      have HO := Lib.hid ho
      clear hc ex S ho
      go_wp2_with fail
      refine wp_region_noPanic ?_
      refine wp_region_to (S := fun w' => w'.cell? ⟨w.heap.size, 2, none⟩ = some (.slice (some ⟨b, off, none⟩) l.length c) ∧ w'.cell? ⟨b, off + k, none⟩ = some (.int .u8 (x.toNat : Int))) 20 (by kernel_rfl) ⟨c2, hc1⟩ (fun hHeld => ?_)
      refine wpTo_take (i := 0) (v := ?_) rfl (by kernel_rfl) (fun _ _ _ h => h) (Or.inl ⟨by rfl, ?_⟩) hHeld ?_
      rotate_left
      · (intro w' hSw; (try dsimp only at hSw); go_simp <;> with_reducible rfl)
      simp only [Act.put, List.setIfInBounds_toArray, List.set_cons_zero, List.set_cons_succ, List.getElem_toArray, List.getElem_cons_succ, List.getElem_cons_zero]
      refine wpTo_take (i := 1) (v := ?_) rfl (by kernel_rfl) (fun _ _ _ h => h) (Or.inl ⟨by rfl, ?_⟩) hHeld ?_
      rotate_left
      · (intro w' hSw; (try dsimp only at hSw); go_simp <;> with_reducible rfl)
      simp only [Act.put, List.setIfInBounds_toArray, List.set_cons_zero, List.set_cons_succ, List.getElem_toArray, List.getElem_cons_succ, List.getElem_cons_zero]
      refine wpTo_take (i := 2) (v := ?_) rfl (by kernel_rfl) (fun _ _ _ h => h) (Or.inl ⟨by rfl, ?_⟩) hHeld ?_
      rotate_left
      · (intro w' hSw; (try dsimp only at hSw); go_simp <;> with_reducible rfl)
      simp only [Act.put, List.setIfInBounds_toArray, List.set_cons_zero, List.set_cons_succ, List.getElem_toArray, List.getElem_cons_succ, List.getElem_cons_zero]
      refine wpTo_take (i := 3) (v := ?_) rfl (by kernel_rfl) (fun _ _ _ h => h) (Or.inl ⟨by rfl, ?_⟩) hHeld ?_
      rotate_left
      · (intro w' hSw; (try dsimp only at hSw); go_simp <;> with_reducible rfl)
      simp only [Act.put, List.setIfInBounds_toArray, List.set_cons_zero, List.set_cons_succ, List.getElem_toArray, List.getElem_cons_succ, List.getElem_cons_zero]
      refine wpTo_take (i := 4) (v := ?_) rfl (by kernel_rfl) (fun _ _ _ h => h) (Or.inl ⟨by rfl, ?_⟩) hHeld ?_
      rotate_left
      · (intro w' hSw; (try dsimp only at hSw); go_simp <;> with_reducible rfl)
      simp only [Act.put, List.setIfInBounds_toArray, List.set_cons_zero, List.set_cons_succ, List.getElem_toArray, List.getElem_cons_succ, List.getElem_cons_zero]
      refine wpTo_take (i := 5) (v := ?_) rfl (by kernel_rfl) (fun _ _ _ h => h) (Or.inl ⟨by rfl, ?_⟩) hHeld ?_
      rotate_left
      · (intro w' hSw; (try dsimp only at hSw); go_simp <;> with_reducible rfl)
      simp only [Act.put, List.setIfInBounds_toArray, List.set_cons_zero, List.set_cons_succ, List.getElem_toArray, List.getElem_cons_succ, List.getElem_cons_zero]
      refine wpTo_take (i := 6) (v := ?_) rfl (by kernel_rfl) (fun _ _ _ h => h) (Or.inl ⟨by rfl, ?_⟩) hHeld ?_
      rotate_left
      · (intro w' hSw; (try dsimp only at hSw); go_simp <;> with_reducible rfl)
      simp only [Act.put, List.setIfInBounds_toArray, List.set_cons_zero, List.set_cons_succ, List.getElem_toArray, List.getElem_cons_succ, List.getElem_cons_zero]
      refine wpTo_take (i := 7) (v := ?_) rfl (by kernel_rfl) (fun _ _ _ h => h) (Or.inl ⟨by rfl, ?_⟩) hHeld ?_
      rotate_left
      · (intro w' hSw; (try dsimp only at hSw); go_simp <;> with_reducible rfl)
      simp only [Act.put, List.setIfInBounds_toArray, List.set_cons_zero, List.set_cons_succ, List.getElem_toArray, List.getElem_cons_succ, List.getElem_cons_zero]
      refine wpTo_take (i := 9) (v := ?_) rfl (by kernel_rfl) (fun _ _ _ h => h) (Or.inl ⟨by rfl, ?_⟩) hHeld ?_
      rotate_left
      · (intro w' hSw; (try dsimp only at hSw); go_simp <;> with_reducible rfl)
      simp only [Act.put, List.setIfInBounds_toArray, List.set_cons_zero, List.set_cons_succ, List.getElem_toArray, List.getElem_cons_succ, List.getElem_cons_zero]
      refine wpTo_take (i := 10) (v := ?_) rfl (by kernel_rfl) (fun _ _ _ h => h) (Or.inl ⟨by rfl, ?_⟩) hHeld ?_
      rotate_left
      · (intro w' hSw; (try dsimp only at hSw); go_simp <;> with_reducible rfl)
      simp only [Act.put, List.setIfInBounds_toArray, List.set_cons_zero, List.set_cons_succ, List.getElem_toArray, List.getElem_cons_succ, List.getElem_cons_zero]
      refine wpTo_take (i := 11) (v := ?_) rfl (by kernel_rfl) (fun _ _ _ h => h) (Or.inl ⟨by rfl, ?_⟩) hHeld ?_
      rotate_left
      · (intro w' hSw; (try dsimp only at hSw); go_simp <;> with_reducible rfl)
      simp only [Act.put, List.setIfInBounds_toArray, List.set_cons_zero, List.set_cons_succ, List.getElem_toArray, List.getElem_cons_succ, List.getElem_cons_zero]
      refine wpTo_take (i := 12) (v := ?_) rfl (by kernel_rfl) (fun _ _ _ h => h) (Or.inl ⟨by rfl, ?_⟩) hHeld ?_
      rotate_left
      · (intro w' hSw; (try dsimp only at hSw); go_simp <;> with_reducible rfl)
      simp only [Act.put, List.setIfInBounds_toArray, List.set_cons_zero, List.set_cons_succ, List.getElem_toArray, List.getElem_cons_succ, List.getElem_cons_zero]
      refine wpTo_take (i := 13) (v := ?_) rfl (by kernel_rfl) (fun _ _ _ h => h) (Or.inl ⟨by rfl, ?_⟩) hHeld ?_
      rotate_left
      · (intro w' hSw; (try dsimp only at hSw); go_simp <;> with_reducible rfl)
      simp only [Act.put, List.setIfInBounds_toArray, List.set_cons_zero, List.set_cons_succ, List.getElem_toArray, List.getElem_cons_succ, List.getElem_cons_zero]
      refine wpTo_take (i := 14) (v := ?_) rfl (by kernel_rfl) (fun _ _ _ h => h) (Or.inl ⟨by rfl, ?_⟩) hHeld ?_
      rotate_left
      · (intro w' hSw; (try dsimp only at hSw); go_simp <;> with_reducible rfl)
      simp only [Act.put, List.setIfInBounds_toArray, List.set_cons_zero, List.set_cons_succ, List.getElem_toArray, List.getElem_cons_succ, List.getElem_cons_zero]
      refine wpTo_take (i := 15) (v := ?_) rfl (by kernel_rfl) (fun _ _ _ h => h) (Or.inl ⟨by rfl, ?_⟩) hHeld ?_
      rotate_left
      · (intro w' hSw; (try dsimp only at hSw); go_simp <;> with_reducible rfl)
      simp only [Act.put, List.setIfInBounds_toArray, List.set_cons_zero, List.set_cons_succ, List.getElem_toArray, List.getElem_cons_succ, List.getElem_cons_zero]
      refine wpTo_mid (i := 8) (by kernel_rfl) rfl (fun K hK => ?_)
      go_simp
      rw [u8_div x]
      refine (HD.out (x.toNat / 16) (by have := x.toNat_lt; omega) _).mono ?_
      rintro y1 w1 ⟨rfl, rfl⟩
      refine hK.out _ _ hHeld (fun hHeld => ?_)
      clear hK K
      try simp only [Act.put, List.setIfInBounds_toArray, List.set_cons_zero, List.set_cons_succ, List.getElem_toArray, List.getElem_cons_succ, List.getElem_cons_zero]
      refine wpTo_mid (i := 16) (by kernel_rfl) rfl (fun K hK => ?_)
      go_simp
      rw [u8_mod x]
      refine (HD.out (x.toNat % 16) (by omega) _).mono ?_
      rintro y2 w2 ⟨rfl, rfl⟩
      refine hK.out _ _ hHeld (fun hHeld => ?_)
      clear hK K
      try simp only [Act.put, List.setIfInBounds_toArray, List.set_cons_zero, List.set_cons_succ, List.getElem_toArray, List.getElem_cons_succ, List.getElem_cons_zero]
      refine wpTo_mid (i := 17) (by kernel_rfl) rfl (fun K hK => ?_)
      go_simp
      have FA := ((Fr.refl None wr).alloc (.cells #[.int .u8 ((hx (x.toNat / 16)).toNat : Int), .int .u8 ((hx (x.toNat % 16)).toNat : Int)] U8T)).drew
      refine hK.out _ _ ⟨cell_frN FA c2, cell_frN FA hc1⟩ (fun hHeld => ?_)
      clear FA
      clear hK K
      try simp only [Act.put, List.setIfInBounds_toArray, List.set_cons_zero, List.set_cons_succ, List.getElem_toArray, List.getElem_cons_succ, List.getElem_cons_zero]
      refine wpTo_mid (i := 18) (by kernel_rfl) rfl (fun K hK => ?_)
      refine step_pushU HS.out.drew 0 rfl [hx (x.toNat / 16), hx (x.toNat % 16)] (by rfl) _ _ (by rfl) (by rfl) (by rfl) ?_ ?_
      · rw [HO.out, hexL_len, List.length_map, List.length_take]; simp; omega
      intro q3 c3 w3 S3
      have x2 : w3.cell? ⟨w.heap.size, 2, none⟩ = some (.slice (some ⟨b, off, none⟩) l.length c) := (S3.at_ 1 rfl).cell 2
      have x1 : w3.cell? ⟨b, off + k, none⟩ = some (.int .u8 (x.toNat : Int)) := HV.out _ S3.fr
      have HS3 := Lib.hid S3
      clear S3
      refine hK.out _ _ ⟨x2, x1⟩ (fun hHeld => ?_)
      clear hK K
      simp only [Act.put, List.setIfInBounds_toArray, List.set_cons_zero, List.set_cons_succ, List.getElem_toArray, List.getElem_cons_succ, List.getElem_cons_zero]
      refine wpTo_take (i := 19) (v := ?_) rfl (by kernel_rfl) (fun _ _ _ h => h) (Or.inl ⟨by rfl, ?_⟩) hHeld ?_
      rotate_left
      · (intro w' hSw; (try dsimp only at hSw); go_simp <;> with_reducible rfl)
      simp only [Act.put, List.setIfInBounds_toArray, List.set_cons_zero, List.set_cons_succ, List.getElem_toArray, List.getElem_cons_succ, List.getElem_cons_zero]
      refine wpTo_done (by kernel_rfl) ?_ _
      refine NoPanic.normal ?_
      go_wp2_with fail
      go_roundg (gk - 1)
      case measure => omega
      case rel => exact ⟨k + 1, q3, c3, _, by omega, rfl, by rw [List.length_append]; rfl, by rw [HX.out, ← HO.out], HS3.out⟩
    · obtain rfl : k = l.length := by omega
      rw [List.take_length] at ho
      have hc := conv_st (S.at_ 0 rfl)
      have hs := st_run (wordL 0 ++ [32]) o (by rw [ho, hexL_len]; simp [wordL, wordsL]; omega)
      simp only [show wordL 0 ++ [32] = [119, 114, 105, 116, 101, 32] from rfl] at hs
      have HF := Lib.hid S.fr
      have HO := Lib.hid ho
      clear S ho
      go_wp2_with fail
      go_ret2
      refine ⟨?_, HF.out⟩
      rw [hexS, if_neg (by intro e; rw [e] at hl0; simp at hl0), ← HO.out]
      rfl

set_option maxRecDepth 100000 in
set_option maxHeartbeats 1000000 in
theorem rline_any (k n : Int) (h0 : -9223372036854775808 ≤ n) (h1 : n ≤ 9223372036854775807) (l : List UInt8) (hl : l.length ≤ 2000000) (q : Option Addr) (c : Nat) (w : World) (hr : 0 < l.length → Reads w 1 q l.length c (fc ubc l)) :
    Calls Tryd.prog 10 #[.agg #[.int .i64 k, .int .i64 n, .slice q l.length c]] w fun e w' => e = .returned (.tuple #[st (lineL k n l), .int .i64 (errL k n l)]) ∧ Fr None w w' := by
  have HF := Lib.hid ((Fr.refl None w).alloc (.cells #[.int .i64 k, .int .i64 n, .slice q l.length c] OpT))
  by_cases e8 : k < 0 ∨ 8 ≤ k
  · have he : errL k n l = 8 := by unfold errL; rw [if_pos e8]
    have hs : lineL k n l = [] := by unfold lineL; rw [he, if_pos (by decide)]
    rw [he, hs]
    clear he hs
    rcases e8 with e8 | e8
    · have g1 : (k < 0) = True := by simp [e8]
      go_enter Tryd.func10, Tryd.ntmps10
      go_wp2_with fail
      go_ret2
      exact ⟨rfl, HF.out⟩
    · have g1 : (k < 0) = False := by simp; omega
      have g2 : (7 < k) = True := by simp; omega
      go_enter Tryd.func10, Tryd.ntmps10
      go_wp2_with fail
      go_ret2
      exact ⟨rfl, HF.out⟩
  · obtain ⟨k, rfl⟩ : ∃ j : Nat, k = (j : Int) := ⟨k.toNat, by omega⟩
    have hk : k < 8 := by omega
    have g1 : ((k : Int) < 0) = False := by simp
    have g2 : ((7 : Int) < (k : Int)) = False := by simp; omega
    by_cases k0 : k = 0
    · subst k0
      by_cases hn : n = 0
      · subst hn
        have he : errL (0 : Nat) 0 l = 0 := by unfold errL; rw [if_neg e8, if_neg (by simp)]
        have hs : lineL (0 : Nat) 0 l = wordL 0 ++ [32] ++ hexS l := by unfold lineL; rw [he]; rfl
        rw [he, hs]
        by_cases hl0 : 0 < l.length
        · exact rline_bytes l hl0 hl q c w (hr hl0)
        · obtain rfl : l = [] := List.length_eq_zero_iff.1 (by omega)
          clear he hs hr
          go_enter Tryd.func10, Tryd.ntmps10
          go_wp2_with fail
          go_ret2
          exact ⟨rfl, HF.out⟩
      · have he : errL (0 : Nat) n l = 6 := by unfold errL; rw [if_neg e8, if_pos (.inl ⟨rfl, hn⟩)]
        have hs : lineL (0 : Nat) n l = [] := by unfold lineL; rw [he]; rfl
        rw [he, hs]
        have g3 : (n != 0) = true := by simpa using hn
        clear he hs hr
        go_enter Tryd.func10, Tryd.ntmps10
        go_wp2_with fail
        go_ret2
        exact ⟨rfl, HF.out⟩
    · by_cases hl0 : 0 < l.length
      · have he : errL k n l = 6 := by unfold errL; rw [if_neg e8, if_pos (.inr ⟨by omega, hl0⟩)]
        have hs : lineL k n l = [] := by unfold lineL; rw [he]; rfl
        rw [he, hs]
        have g3 : ((k : Int) == 0) = false := beq_eq_false_iff_ne.2 (by omega)
        have g4 : (0 < (k : Int)) = True := by simp; omega
        have g5 : (0 < (l.length : Int)) = True := by simp only [eq_iff_iff, iff_true]; omega
        have g6 : (0 < l.length) = True := by simp only [eq_iff_iff, iff_true]; omega
        have g7 : (0 < k) = True := by simp only [eq_iff_iff, iff_true]; omega
        have g8 : (7 < k) = False := by simp only [eq_iff_iff, iff_false]; omega
        clear he hs hr e8
        go_enter Tryd.func10, Tryd.ntmps10
        go_wp2_with fail
        go_ret2
        exact ⟨rfl, HF.out⟩
      · obtain rfl : l = [] := List.length_eq_zero_iff.1 (by omega)
        have he : errL k n [] = 0 := by unfold errL; rw [if_neg e8, if_neg (by simp; omega)]
        have hs : lineL k n [] = wordL k ++ [32] ++ Lib.itoa n := by unfold lineL; rw [he, if_neg (by decide), if_neg (by omega)]; rfl
        rw [he, hs]
        exact rline_num k hk (by omega) n h0 h1 q c w
end Go.Proofs.YtedogalndhackaaDoor
