/- What the document says of Take, when it takes: walked. -/
import Derived.Test.YtfobeheplficgaaHrM3
set_option linter.unusedVariables false
set_option linter.unusedSimpArgs false
namespace Go.Proofs.Ytfobeheplficgaa
open Go.RowKit Go.Und Go.Shelf
attribute [local go_sem] Oper.semAt_some
attribute [local go_sem ↓] Go.wp_at_zero Go.wp_at_succ

theorem len_run0 {l : List (Int × Int)} (ok : OkL l) (o : Int) : lenS (runL l o) = 0 ↔ memB l o = false := by
  rcases run_cases ok o with ⟨h1, h2, _⟩ | ⟨h1, h2⟩
  · rw [memB_true h1]
    have := lenS_of (ok.pr _ h2); have := (ok.pr _ h2).2.1
    exact ⟨fun h => by omega, fun h => by cases h⟩
  · rw [memB_false h1, h2]; exact ⟨fun _ => rfl, fun _ => by decide⟩
theorem frN_bd (l : List (Int × Int)) (o : Int) : ∀ n : Nat, 0 ≤ frN l o n ∧ frN l o n ≤ n
  | 0 => by unfold frN; omega
  | n + 1 => by
    have := frN_bd l o n
    unfold frN
    split <;> omega
/-- What comes of it. -/
def R3Post (w : World) (first : Int) (room : Nat) (l : List (Int × Int)) (b body : List Int) (o : Nat) (e : Ending) (w' : World) : Prop :=
  ∃ lq' lc' bq' bc', e = .returned (.tuple #[.agg (r3c first room lq' lc' (addL l ((o : Int), (o : Int) + body.length)) bq' bc' (layB l b o body)), .agg #[.int .i64 o, .int .i64 ((o : Int) + body.length), .int .i64 (lenS ((o : Int), (o : Int) + body.length) - withinL l ((o : Int), (o : Int) + body.length)), .bool (decide (0 < lenS (meetS (nextL l o) ((o : Int), (o : Int) + body.length)))), .int .i64 (meetS (nextL l o) ((o : Int), (o : Int) + body.length)).1, .int .i64 (meetS (nextL l o) ((o : Int), (o : Int) + body.length)).2], .int .i64 0]) ∧
    Sep None w w' [srow lq' lc' (addL l ((o : Int), (o : Int) + body.length)), brow bq' bc' (layB l b o body)]
set_option maxRecDepth 100000 in
set_option maxHeartbeats 16000000 in
theorem r3take_yes (first num : Int) (n room : Nat) (lq : Option Addr) (lc : Nat) (l : List (Int × Int)) (bq : Option Addr) (bc : Nat) (b : List Int) (a : Option Addr) (cap : Nat) (body : List Int) (o : Nat) (w : World) (ok : OkL l) (hr : Reads w 2 lq l.length lc (fc spc l)) (hbr : Reads w 1 bq b.length bc (fc u8c b)) (hbd : Reads w 1 a body.length cap (fc u8c body)) (hl : l.length ≤ 4000) (hbl : b.length ≤ 100000000) (hn : gapL l 0 = n) (hn1 : n ≤ 50000000) (hroom : room ≤ 65536)
    (hu : u32B num) (hf : u32B first) (ho : offH n first num = o) (l0 : 0 < body.length) (l1 : body.length ≤ 2048) (h2 : o + body.length ≤ n + room) :
    Calls Try.prog 47 #[.agg (r3c first room lq lc l bq bc b), .int .u32 num, .slice a body.length cap] w (R3Post w first room l b body o) := by
  obtain ⟨u0, u1⟩ := hu
  obtain ⟨f0, f1⟩ := hf
  have hb := sdI_bounds ((num - first) % 4294967296 - n)
  unfold offH at ho
  have hps : PrS ((o : Int), (o : Int) + body.length) := ⟨by simp only; omega, by simp only; omega, by simp only; omega⟩
  have hln : lenS ((o : Int), (o : Int) + body.length) = body.length := by rw [lenS_of hps]; simp only; omega
  have hal := hull_len_add ok hps
  have hfr := fresh_is ok (o := o) (n := body.length) (by omega) (by omega)
  have HN := Lib.hid (fun (V : World) (f : Fr None w V) => r3next_any first room lq lc l bq bc b V (hr.fr f (fun _ _ h => h)) (by omega))
  rw [hn] at HN
  have HM := Lib.hid (fun V => rmod_any (num - first) V)
  have HU := Lib.hid (fun V => runwrap_any n ((num - first) % 4294967296) o V (by omega) (by omega) (by omega) (by omega) ho)
  rw [if_pos (by omega)] at HU
  have HW := Lib.hid (fun (V : World) (f : Fr None w V) => rwith_pr lq lc l o (o + body.length) V ok hps (hr.fr f (fun _ _ h => h)) (by omega))
  have HX := Lib.hid (fun (V : World) (f : Fr None w V) => rnext_any lq lc l o V (hr.fr f (fun _ _ h => h)) (by omega))
  have HR := Lib.hid (fun (V : World) (f : Fr None w V) (k : Int) => rrun_any lq lc l k V (hr.fr f (fun _ _ h => h)) (by omega))
  have HB := Lib.hid (fun (V : World) (f : Fr None w V) => hbr.fr f (fun _ _ h => h))
  have HBd := Lib.hid (fun (V : World) (f : Fr None w V) => hbd.fr f (fun _ _ h => h))
  unfold R3Post
  obtain ⟨n1, n2, hnx⟩ : ∃ n1 n2, nextL l o = (n1, n2) := ⟨_, _, rfl⟩
  rw [hnx] at HX ⊢
  obtain ⟨d1, d2, hd⟩ : ∃ d1 d2, meetS (n1, n2) ((o : Int), (o : Int) + body.length) = (d1, d2) := ⟨_, _, rfl⟩
  have HMe := Lib.hid (fun V => rmeetS_any n1 n2 o (o + body.length) V)
  rw [hd] at HMe ⊢
  have HLn := Lib.hid (fun V => rlenS_any d1 d2 V)
  have HLr := Lib.hid (fun (x : Int × Int) V => rlenS_any x.1 x.2 V)
  rw [hfr]
  generalize hE4 : lenS (d1, d2) = ld at *
  have HE4 := Lib.hid hE4
  have HOK := Lib.hid (And.intro ok hps)
  have HS0 := Lib.hid (((Sep.law w).alloc (r3c first room lq lc l bq bc b) R3T).alloc #[.int .u32 0, .int .i64 0, .slice none 0 0, .slice none 0 0] R3T |>.alloc #[.int .i64 0, .int .i64 0, .int .i64 0, .bool false, .int .i64 0, .int .i64 0] Q3T)
  simp only [World.size_alloc] at HS0
  have o1 : (o : Int) ≤ 200000000 := by omega
  have wsum : IntKind.i64.wrap ((o : Int) + (body.length : Int)) = o + body.length := IntWalk.i64_in _ (by omega)
  have wsum2 : IntKind.i64.wrap ((n : Int) + (room : Int)) = n + room := IntWalk.i64_in _ (by omega)
  have g2 : decide ((n : Int) + room < (o : Int) + body.length) = false := decide_eq_false (by omega)
  generalize (num - first) % 4294967296 = tt at *
  obtain ⟨l2, hE1⟩ : ∃ l2, addL l ((o : Int), (o : Int) + body.length) = l2 := ⟨_, rfl⟩
  rw [hE1] at HW hal ⊢
  have HL2 := Lib.hid hal
  have g3 : decide ((4096 : Int) < (l2.length : Int)) = false := decide_eq_false (by omega)
  have g3' : (l2.length : Int) ≤ 4096 := by omega
  obtain ⟨i, hi, hz0, hz1, hz2⟩ := info_parts u8Info
  have HI := Lib.hid (And.intro hi (And.intro hz0 (And.intro hz1 hz2))); clear hi hz0 hz1 hz2
  clear ok hr hbr hbd hn hb ho hps hln hfr hnx hd hE4 hE1 hal
  go_enter Try.func47, Try.ntmps47
  go_wp2_with (first
    | ((with_reducible refine (HN.out _ HS0.out.fr).mono ?_); rintro y1 w1 ⟨rfl, F1⟩; have S1 := HS0.out.same F1; have b0' : w1.cell? ⟨w.heap.size, 0, none⟩ = some (.int .u32 first) := (S1.at_ 2 rfl).cell 0; have HS1 := Lib.hid S1; clear S1 F1)
    | ((with_reducible refine (HM.out _).mono ?_); rintro y2 w2 ⟨rfl, rfl⟩))
  refine (HU.out _).mono ?_
  rintro y3 w3 ⟨rfl, rfl⟩
  have S2 := HS1.out.alloc #[.int .i64 o, .int .i64 ((o : Int) + body.length)] SpT
  have b1 : w3.cell? ⟨w.heap.size, 1, none⟩ = some (.int .i64 room) := (HS1.out.at_ 2 rfl).cell 1
  have b2 : w3.cell? ⟨w.heap.size, 2, none⟩ = some (.slice lq l.length lc) := (HS1.out.at_ 2 rfl).cell 2
  have lt3 : w.heap.size < w3.heap.size := Ob.lt _ (HS1.out.at_ 2 rfl) (k := w.heap.size) rfl
  have HS2 := Lib.hid S2
  clear HS1 S2
  go_wp2_with fail
  refine (HW.out _ HS2.out.fr).mono ?_
  rintro y4 w4 ⟨q4, c4, rfl, T4⟩
  have S4 := (HS2.out.same T4.fr).alloc #[.int .i64 o, .int .i64 ((o : Int) + body.length), .int .i64 0, .bool false, .int .i64 0, .int .i64 0] Q3T
  have b3 : w4.cell? ⟨w3.heap.size, 0, none⟩ = some (.int .i64 o) := ((HS2.out.same T4.fr).at_ 0 rfl).cell 0
  have b4 : w4.cell? ⟨w3.heap.size, 1, none⟩ = some (.int .i64 ((o : Int) + body.length)) := ((HS2.out.same T4.fr).at_ 0 rfl).cell 1
  have lt4 : w3.heap.size < w4.heap.size := Ob.lt _ ((HS2.out.same T4.fr).at_ 0 rfl) (k := w3.heap.size) rfl
  have HS4 := Lib.hid S4
  clear HS2 S4 T4 b0' b1 b2
  go_wp2_with fail
  have S5 := HS4.out
  have e1 : (w4.alloc (.cells #[.int .i64 o, .int .i64 ((o : Int) + body.length), .int .i64 0, .bool false, .int .i64 0, .int .i64 0] 84)).cell? ⟨w.heap.size, 2, none⟩ = some (.slice lq l.length lc) := (S5.at_ 4 rfl).cell 2
  have e2 : (w4.alloc (.cells #[.int .i64 o, .int .i64 ((o : Int) + body.length), .int .i64 0, .bool false, .int .i64 0, .int .i64 0] 84)).cell? ⟨w3.heap.size, 0, none⟩ = some (.int .i64 o) := (S5.at_ 1 rfl).cell 0
  have e3 : (w4.alloc (.cells #[.int .i64 o, .int .i64 ((o : Int) + body.length), .int .i64 0, .bool false, .int .i64 0, .int .i64 0] 84)).cell? ⟨w3.heap.size, 1, none⟩ = some (.int .i64 ((o : Int) + body.length)) := (S5.at_ 1 rfl).cell 1
  clear HS4 b3 b4
  generalize w4.alloc (.cells #[.int .i64 o, .int .i64 ((o : Int) + body.length), .int .i64 0, .bool false, .int .i64 0, .int .i64 0] 84) = V5 at *
  refine wp_region_to (S := fun w' => w'.cell? ⟨w.heap.size, 2, none⟩ = some (.slice lq l.length lc) ∧ w'.cell? ⟨w3.heap.size, 0, none⟩ = some (.int .i64 o) ∧ w'.cell? ⟨w3.heap.size, 1, none⟩ = some (.int .i64 ((o : Int) + body.length))) 7 (by kernel_rfl) ⟨e1, e2, e3⟩ (fun hHeld => ?_)
  replace S5 := S5.drew
  clear e1 e2 e3
  refine wpTo_take (i := 0) (v := ?_) rfl (by kernel_rfl) (fun _ _ _ h => h) (Or.inl ⟨by rfl, ?_⟩) hHeld ?_
  rotate_left
  · (intro w' hSw; (try dsimp only at hSw); go_simp <;> with_reducible rfl)
  simp only [Act.put, List.setIfInBounds_toArray, List.set_cons_zero, List.set_cons_succ, List.getElem_toArray, List.getElem_cons_succ, List.getElem_cons_zero]
  refine wpTo_take (i := 1) (v := ?_) rfl (by kernel_rfl) (fun _ _ _ h => h) (Or.inl ⟨by rfl, ?_⟩) hHeld ?_
  rotate_left
  · (intro w' hSw; (try dsimp only at hSw); go_simp <;> with_reducible rfl)
  simp only [Act.put, List.setIfInBounds_toArray, List.set_cons_zero, List.set_cons_succ, List.getElem_toArray, List.getElem_cons_succ, List.getElem_cons_zero]
  refine wpTo_take (i := 2) (v := ?_) rfl (by kernel_rfl) (fun _ _ _ h => h) (Or.inl ⟨by rfl, ?_⟩) hHeld ?_
  rotate_left
  · (intro w' hSw; (try dsimp only at hSw); go_simp <;> with_reducible rfl)
  simp only [Act.put, List.setIfInBounds_toArray, List.set_cons_zero, List.set_cons_succ, List.getElem_toArray, List.getElem_cons_succ, List.getElem_cons_zero]
  refine wpTo_take (i := 4) (v := ?_) rfl (by kernel_rfl) (fun _ _ _ h => h) (Or.inl ⟨by rfl, ?_⟩) hHeld ?_
  rotate_left
  · (intro w' hSw; (try dsimp only at hSw); go_simp <;> with_reducible rfl)
  simp only [Act.put, List.setIfInBounds_toArray, List.set_cons_zero, List.set_cons_succ, List.getElem_toArray, List.getElem_cons_succ, List.getElem_cons_zero]
  refine wpTo_mid (i := 3) (by kernel_rfl) rfl (fun K hK => ?_)
  go_simp
  refine (HX.out _ S5.fr).mono ?_
  rintro y6 w6 ⟨rfl, F6⟩
  replace S5 := S5.same F6
  refine hK.out _ _ ⟨cell_frN F6 hHeld.1, cell_frN F6 hHeld.2.1, cell_frN F6 hHeld.2.2⟩ (fun hHeld => ?_)
  clear F6
  clear hK K
  try simp only [Act.put, List.setIfInBounds_toArray, List.set_cons_zero, List.set_cons_succ, List.getElem_toArray, List.getElem_cons_succ, List.getElem_cons_zero]
  refine wpTo_mid (i := 5) (by kernel_rfl) rfl (fun K hK => ?_)
  go_simp
  refine (HMe.out _).mono ?_
  rintro y7 w7 ⟨rfl, F7⟩
  replace S5 := S5.same F7
  refine hK.out _ _ ⟨cell_frN F7 hHeld.1, cell_frN F7 hHeld.2.1, cell_frN F7 hHeld.2.2⟩ (fun hHeld => ?_)
  clear F7
  clear hK K
  try simp only [Act.put, List.setIfInBounds_toArray, List.set_cons_zero, List.set_cons_succ, List.getElem_toArray, List.getElem_cons_succ, List.getElem_cons_zero]
  refine wpTo_take (i := 6) (v := ?_) rfl (by kernel_rfl) (fun _ _ _ h => h) (Or.inl ⟨by rfl, ?_⟩) hHeld ?_
  rotate_left
  · (intro w' hSw; (try dsimp only at hSw); go_simp <;> with_reducible rfl)
  simp only [Act.put, List.setIfInBounds_toArray, List.set_cons_zero, List.set_cons_succ, List.getElem_toArray, List.getElem_cons_succ, List.getElem_cons_zero]
  have i4 : w7.cell? ⟨w4.heap.size, 4, none⟩ = some (.int .i64 0) := (S5.at_ 0 rfl).cell 4
  have i5 : w7.cell? ⟨w4.heap.size, 5, none⟩ = some (.int .i64 0) := (S5.at_ 0 rfl).cell 5
  have z4 : w7.frozen? ⟨w4.heap.size, 4, none⟩ = false := (S5.at_ 0 rfl).frozen 4
  have z5 : w7.frozen? ⟨w4.heap.size, 5, none⟩ = false := (S5.at_ 0 rfl).frozen 5
  refine wpTo_last (i := 7) (by kernel_rfl) rfl (by decide) (fun K hK => ?_)
  go_simp
  refine hK.out _ _ ?_
  clear hK K hHeld
  refine wpTo_done (by kernel_rfl) ?_ _
  have S6 := (S5.set 0 rfl 4 (.int .i64 d1)).set 0 rfl 5 (.int .i64 d2)
  clear S5 i4 i5 z4 z5
  generalize (w7.setCell ⟨w4.heap.size, 4, none⟩ (.int .i64 d1)).setCell ⟨w4.heap.size, 5, none⟩ (.int .i64 d2) = V6 at *
  have i3 : V6.cell? ⟨w4.heap.size, 4, none⟩ = some (.int .i64 d1) := (S6.at_ 0 rfl).cell 4
  have i4 : V6.cell? ⟨w4.heap.size, 5, none⟩ = some (.int .i64 d2) := (S6.at_ 0 rfl).cell 5
  have HS6 := Lib.hid S6
  clear S6
  go_wp2_with fail
  refine (HLn.out _).mono ?_
  rintro y8 w8 ⟨rfl, F8⟩
  have S8 := (HS6.out.same F8).set 0 rfl 3 (.bool (decide (0 < ld)))
  have i8 : w8.cell? ⟨w4.heap.size, 3, none⟩ = some (.bool false) := ((HS6.out.same F8).at_ 0 rfl).cell 3
  have z8 : w8.frozen? ⟨w4.heap.size, 3, none⟩ = false := ((HS6.out.same F8).at_ 0 rfl).frozen 3
  have lt8 : w.heap.size < w8.heap.size := Ob.lt _ ((HS6.out.same F8).at_ 4 rfl) (k := w.heap.size) rfl
  have x8 : (w8.setCell ⟨w4.heap.size, 3, none⟩ (.bool (decide (0 < ld)))).cell? ⟨w.heap.size, 3, none⟩ = some (.slice bq b.length bc) := (S8.at_ 4 rfl).cell 3
  have HS8 := Lib.hid S8
  clear S8 F8 HS6 i3 i4
  go_wp2_with (at_builtin; refine Hold.out ?_)
  refine Hold.mk ?_
  have S9 := HS8.out.add (Ob.row 0 U8T 1 (.slice (some ⟨_, 0, none⟩) 0 0) 0 (fc u8c [])) ((Fr.refl None _).alloc (.cells #[] U8T)) (owns_bare (Blk.new _ U8T #[])) (fun k hk => by cases hk; exact Nat.le_refl _)
  rw [size_setCell'] at S9
  refine wpList_append_row _ rfl _ _ _ rfl 0 U8T i _ 1 1 Try.underlying62 HI.out.1 HI.out.2.1 HI.out.2.2.1 HI.out.2.2.2 rfl (by decide) _ 0 (fc u8c []) rfl (S9.at_ 0 rfl) bq b.length bc (fc u8c b) rfl (HB.out _ S9.fr) (fc_one u8c_one _) (by simp [maxLen]; omega) (by omega) (Nat.zero_le _) ?_
  intro q9 c9 w9 ho9 hf9 hb9
  rw [Nat.zero_add, fc_nil, List.nil_append] at ho9
  rw [Nat.zero_add] at hb9
  have S10 := S9.turn 0 rfl (brow q9 c9 b) hf9 (fun _ _ h => h) ho9 (fun k hk => by
      have hk' : (Value.slice q9 b.length c9).ownBlock = some k := hk
      rcases hb9 with e | e
      · exact .inl (Eq.trans e.symm hk')
      · rw [e] at hk'; cases hk'; exact .inr (Nat.le_refl _))
  have HS10 := Lib.hid S10
  clear S9 S10 ho9 hf9 hb9 HS8 i8 z8 lt8 x8
  simp only [Nat.zero_add]
  go_wp2_with fail
  go_loopg [13, 14] body.length (fun r bv iv wr => ∃ (k : Nat) (q' : Option Addr) (c' : Nat), k + r = body.length ∧ iv = .int .i64 k ∧ bv = .slice q' (layB l b o (body.take k)).length c' ∧ Sep None w wr ([brow q' c' (layB l b o (body.take k)), Ob.blk w4.heap.size Q3T #[.int .i64 o, .int .i64 ((o : Int) + body.length), .int .i64 (frN l o k), .bool (decide (0 < ld)), .int .i64 d1, .int .i64 d2], Ob.blk w3.heap.size SpT #[.int .i64 o, .int .i64 ((o : Int) + body.length)], Ob.blk (w.heap.size + 1 + 1) Q3T #[.int .i64 0, .int .i64 0, .int .i64 0, .bool false, .int .i64 0, .int .i64 0], Ob.blk (w.heap.size + 1) R3T #[.int .u32 0, .int .i64 0, .slice none 0 0, .slice none 0 0], Ob.blk w.heap.size R3T (r3c first room lq lc l bq bc b)]))
  case atStart => exact ⟨0, q9, c9, by omega, rfl, rfl, HS10.out⟩
  case round =>
    clear HS10
    obtain ⟨k, q1, c1, hk, rfl, rfl, S1⟩ := hrel
    by_cases g : k < body.length
    · have ey := List.getElem?_eq_getElem g
      have htk : body.take (k + 1) = body.take k ++ [body[k]] := List.take_succ_eq_append_getElem g
      have hsn := layB_snoc l (body.take k) b o body[k]
      rw [← htk, show (body.take k).length = k by rw [List.length_take]; omega] at hsn
      have hfn : frN l o (k + 1) = frN l o k + if memB l ((o : Int) + k) = true then 0 else 1 := rfl
      have hfb := frN_bd l o k
      have hlb := layB_len l (body.take k) b o
      rw [show (body.take k).length = k by rw [List.length_take]; omega] at hlb
      obtain ⟨bb, oo, rfl, hcb⟩ := (HBd.out wr S1.fr).elem u8c_len (by decide) ey
      generalize body[k] = y at *
      have v1 : wr.cell? ⟨bb, oo + k, none⟩ = some (.int .u8 y) := by have := hcb 0 _ rfl; simpa using this
      obtain ⟨j, hj⟩ : ∃ j, j = o + k := ⟨_, rfl⟩
      have ej : (o : Int) + (k : Int) = j := by omega
      rw [ej] at hfn
      rw [← hj] at hsn
      have ejw : IntKind.i64.wrap (j : Int) = j := IntWalk.i64_in _ (by omega)
      obtain ⟨r1, r2, hr⟩ : ∃ r1 r2, runL l j = (r1, r2) := ⟨_, _, rfl⟩
      have hl0 := len_run0 HOK.out.1 j
      rw [hr] at hl0
      have HRj := Lib.hid (HR.out wr S1.fr j)
      rw [hr] at HRj
      have HLj := Lib.hid (fun V => HLr.out (r1, r2) V)
      simp only at HLj
      have v2 : wr.cell? ⟨w.heap.size, 2, none⟩ = some (.slice lq l.length lc) := (S1.at_ 5 rfl).cell 2
      have HS1 := Lib.hid S1
      have k0 : (0 : Int) ≤ k := by omega
      have k1 : (k : Int) < body.length := by omega
      have g1 : decide (k < body.length) = true := decide_eq_true g
      have HFB := Lib.hid (And.intro hfb hlb)
      clear S1 ey htk hcb hj hr
      cases hm : memB l j with
      | true =>
        have hl1 : (lenS (r1, r2) == 0) = false := by
          rw [beq_eq_false_iff_ne]; intro h; rw [hl0.1 h] at hm; cases hm
        rw [hm] at hsn hfn
        simp only [if_true, Int.add_zero] at hsn hfn
        have HN1 := Lib.hid (And.intro hsn hfn)
        clear hsn hfn hm hl0 hfb hlb
        generalize lenS (r1, r2) = lr at *
        go_wp2_with fail
        refine (HRj.out).mono ?_
        rintro y2 w6 ⟨rfl, F6⟩
        go_wp2_with fail
        refine (HLj.out _).mono ?_
        rintro y3 w7 ⟨rfl, F7⟩
        have HS7 := Lib.hid ((HS1.out.same F6).same F7)
        clear F6 F7 v1 v2
        go_wp2_with fail
        go_roundg (gk - 1)
        case measure => omega
        case rel => exact ⟨k + 1, q1, c1, by omega, by go_num, by rw [HN1.out.1], by rw [HN1.out.1, HN1.out.2]; exact HS7.out⟩
      | false =>
        have hl1 : (lenS (r1, r2) == 0) = true := by rw [beq_iff_eq]; exact hl0.2 hm
        rw [hm] at hsn hfn
        simp only [Bool.false_eq_true, if_false] at hsn hfn
        have HN1 := Lib.hid (And.intro hsn hfn)
        have f0' : 0 ≤ frN l o k := hfb.1
        have f1' : frN l o k ≤ 2048 := by omega
        clear hsn hfn hm hl0 hfb
        generalize lenS (r1, r2) = lr at *
        generalize frN l o k = fk at *
        have hBl : (layB l b o (body.take k)).length ≤ 200000000 := by omega
        clear hlb
        generalize layB l b o (body.take k) = B1 at *
        go_wp2_with fail
        refine (HRj.out).mono ?_
        rintro y2 w6 ⟨rfl, F6⟩
        go_wp2_with fail
        refine (HLj.out _).mono ?_
        rintro y3 w7 ⟨rfl, F7⟩
        have v3 : w7.cell? ⟨bb, oo + k, none⟩ = some (.int .u8 y) := cell_frN F7 (cell_frN F6 v1)
        have HS7 := Lib.hid ((HS1.out.same F6).same F7)
        clear F6 F7 v1 v2
        go_wp2_with fail
        refine (hlay_any q1 c1 B1 j y w7 HS7.out hBl (by omega)).mono ?_
        rintro y4 w8 ⟨q8, c8, rfl, S8⟩
        have v4 : w8.cell? ⟨w4.heap.size, 2, none⟩ = some (.int .i64 fk) := (S8.at_ 1 rfl).cell 2
        have v5 : w8.frozen? ⟨w4.heap.size, 2, none⟩ = false := (S8.at_ 1 rfl).frozen 2
        have HS8 := Lib.hid (S8.set 1 rfl 2 (.int .i64 (fk + 1)))
        clear S8 v3
        go_wp2_with fail
        go_roundg (gk - 1)
        case measure => omega
        case rel => exact ⟨k + 1, q8, c8, by omega, by go_num, by rw [HN1.out.1], by rw [HN1.out.1, HN1.out.2]; exact HS8.out⟩
    · have hke : k = body.length := by omega
      subst hke
      rw [List.take_length] at *
      have g1 : decide (body.length < body.length) = false := by simp
      generalize hE2 : frN l o body.length = fk at *
      generalize hE3 : layB l b o body = B1 at *
      have HE := Lib.hid (And.intro hE2 hE3)
      clear hE2 hE3
      have v1 : wr.cell? ⟨w.heap.size, 3, none⟩ = some (.slice bq b.length bc) := (S1.at_ 5 rfl).cell 3
      have v2 : wr.frozen? ⟨w.heap.size, 3, none⟩ = false := (S1.at_ 5 rfl).frozen 3
      have S2 := S1.set 5 rfl 3 (.slice q1 B1.length c1)
      have v3 : (wr.setCell ⟨w.heap.size, 3, none⟩ (.slice q1 B1.length c1)).cell? ⟨w.heap.size, 2, none⟩ = some (.slice lq l.length lc) := (S2.at_ 5 rfl).cell 2
      have v4 : (wr.setCell ⟨w.heap.size, 3, none⟩ (.slice q1 B1.length c1)).cell? ⟨w3.heap.size, 0, none⟩ = some (.int .i64 o) := (S2.at_ 2 rfl).cell 0
      have v5 : (wr.setCell ⟨w.heap.size, 3, none⟩ (.slice q1 B1.length c1)).cell? ⟨w3.heap.size, 1, none⟩ = some (.int .i64 ((o : Int) + body.length)) := (S2.at_ 2 rfl).cell 1
      have HS2 := Lib.hid S2
      clear S1 S2
      go_wp2_with fail
      refine (HW.out _ HS2.out.fr).mono ?_
      rintro y5 w5 ⟨q5, c5, rfl, T5⟩
      have S5 := HS2.out.beside T5
      have x1 : w5.cell? ⟨w.heap.size, 2, none⟩ = some (.slice lq l.length lc) := (S5.at_ 6 rfl).cell 2
      have x2 : w5.frozen? ⟨w.heap.size, 2, none⟩ = false := (S5.at_ 6 rfl).frozen 2
      have S6 := S5.set 6 rfl 2 (.slice q5 l2.length c5)
      have HS6 := Lib.hid S6
      clear S5 S6 T5 v1 v2 v3 v4 v5 HS2
      go_wp2_with fail
      have S6 := HS6.out
      clear x1 x2 HS6
      generalize w5.setCell ⟨w.heap.size, 2, none⟩ (.slice q5 l2.length c5) = w6 at *
      have b0 : w6.cell? ⟨w.heap.size, 0, none⟩ = some (.int .u32 first) := (S6.at_ 6 rfl).cell 0
      have b1 : w6.cell? ⟨w.heap.size, 1, none⟩ = some (.int .i64 room) := (S6.at_ 6 rfl).cell 1
      have b2 : w6.cell? ⟨w.heap.size, 2, none⟩ = some (.slice q5 l2.length c5) := (S6.at_ 6 rfl).cell 2
      have b3 : w6.cell? ⟨w.heap.size, 3, none⟩ = some (.slice q1 B1.length c1) := (S6.at_ 6 rfl).cell 3
      have t0 : w6.cell? ⟨w4.heap.size, 0, none⟩ = some (.int .i64 o) := (S6.at_ 2 rfl).cell 0
      have t1 : w6.cell? ⟨w4.heap.size, 1, none⟩ = some (.int .i64 ((o : Int) + body.length)) := (S6.at_ 2 rfl).cell 1
      have t2 : w6.cell? ⟨w4.heap.size, 2, none⟩ = some (.int .i64 fk) := (S6.at_ 2 rfl).cell 2
      have t3 : w6.cell? ⟨w4.heap.size, 3, none⟩ = some (.bool (decide (0 < ld))) := (S6.at_ 2 rfl).cell 3
      have t4 : w6.cell? ⟨w4.heap.size, 4, none⟩ = some (.int .i64 d1) := (S6.at_ 2 rfl).cell 4
      have t5 : w6.cell? ⟨w4.heap.size, 5, none⟩ = some (.int .i64 d2) := (S6.at_ 2 rfl).cell 5
      refine wp_region_to (S := fun w' => (w'.cell? ⟨w.heap.size, 0, none⟩ = some (.int .u32 first) ∧ w'.cell? ⟨w.heap.size, 1, none⟩ = some (.int .i64 room) ∧ w'.cell? ⟨w.heap.size, 2, none⟩ = some (.slice q5 l2.length c5) ∧ w'.cell? ⟨w.heap.size, 3, none⟩ = some (.slice q1 B1.length c1)) ∧ w'.cell? ⟨w4.heap.size, 0, none⟩ = some (.int .i64 o) ∧ w'.cell? ⟨w4.heap.size, 1, none⟩ = some (.int .i64 ((o : Int) + body.length)) ∧ w'.cell? ⟨w4.heap.size, 2, none⟩ = some (.int .i64 fk) ∧ w'.cell? ⟨w4.heap.size, 3, none⟩ = some (.bool (decide (0 < ld))) ∧ w'.cell? ⟨w4.heap.size, 4, none⟩ = some (.int .i64 d1) ∧ w'.cell? ⟨w4.heap.size, 5, none⟩ = some (.int .i64 d2)) 3 (by kernel_rfl) ⟨⟨b0, b1, b2, b3⟩, t0, t1, t2, t3, t4, t5⟩ (fun hHeld => ?_)
      replace S6 := S6.drew
      clear b0 b1 b2 b3 t0 t1 t2 t3 t4 t5
      generalize w6.drew = w6 at *
      refine wpTo_take (i := 0) (v := ?_) rfl (by kernel_rfl) (fun _ _ _ h => h) (Or.inl ⟨by rfl, ?_⟩) hHeld ?_
      rotate_left
      · (intro w' hSw; (try dsimp only at hSw); go_simp <;> with_reducible rfl)
      simp only [Act.put, List.setIfInBounds_toArray, List.set_cons_zero, List.set_cons_succ, List.getElem_toArray, List.getElem_cons_succ, List.getElem_cons_zero]
      refine wpTo_take (i := 1) (v := ?_) rfl (by kernel_rfl) (fun _ _ _ h => h) (Or.inl ⟨by rfl, ?_⟩) hHeld ?_
      rotate_left
      · (intro w' hSw; (try dsimp only at hSw); go_simp <;> with_reducible rfl)
      simp only [Act.put, List.setIfInBounds_toArray, List.set_cons_zero, List.set_cons_succ, List.getElem_toArray, List.getElem_cons_succ, List.getElem_cons_zero]
      have i0 : w6.cell? ⟨w.heap.size + 1, 0, none⟩ = some (.int .u32 0) := (S6.at_ 5 rfl).cell 0
      have z0 : w6.frozen? ⟨w.heap.size + 1, 0, none⟩ = false := (S6.at_ 5 rfl).frozen 0
      have i1 : w6.cell? ⟨w.heap.size + 1, 1, none⟩ = some (.int .i64 0) := (S6.at_ 5 rfl).cell 1
      have z1 : w6.frozen? ⟨w.heap.size + 1, 1, none⟩ = false := (S6.at_ 5 rfl).frozen 1
      have i2 : w6.cell? ⟨w.heap.size + 1, 2, none⟩ = some (.slice none 0 0) := (S6.at_ 5 rfl).cell 2
      have z2 : w6.frozen? ⟨w.heap.size + 1, 2, none⟩ = false := (S6.at_ 5 rfl).frozen 2
      have i3 : w6.cell? ⟨w.heap.size + 1, 3, none⟩ = some (.slice none 0 0) := (S6.at_ 5 rfl).cell 3
      have z3 : w6.frozen? ⟨w.heap.size + 1, 3, none⟩ = false := (S6.at_ 5 rfl).frozen 3
      have S7 := ((((S6.set 5 rfl 0 (.int .u32 first)).set 5 rfl 1 (.int .i64 room)).set 5 rfl 2 (.slice q5 l2.length c5)).set 5 rfl 3 (.slice q1 B1.length c1))
      clear S6
      refine wpTo_mid (i := 2) (by kernel_rfl) rfl (fun K hK => ?_)
      go_simp
      generalize ((((w6.setCell ⟨w.heap.size + 1, 0, none⟩ (.int .u32 first)).setCell ⟨w.heap.size + 1, 1, none⟩ (.int .i64 room)).setCell ⟨w.heap.size + 1, 2, none⟩ (.slice q5 l2.length c5)).setCell ⟨w.heap.size + 1, 3, none⟩ (.slice q1 B1.length c1)) = V7 at *
      have b0 : V7.cell? ⟨w.heap.size, 0, none⟩ = some (.int .u32 first) := (S7.at_ 6 rfl).cell 0
      have b1 : V7.cell? ⟨w.heap.size, 1, none⟩ = some (.int .i64 room) := (S7.at_ 6 rfl).cell 1
      have b2 : V7.cell? ⟨w.heap.size, 2, none⟩ = some (.slice q5 l2.length c5) := (S7.at_ 6 rfl).cell 2
      have b3 : V7.cell? ⟨w.heap.size, 3, none⟩ = some (.slice q1 B1.length c1) := (S7.at_ 6 rfl).cell 3
      have t0 : V7.cell? ⟨w4.heap.size, 0, none⟩ = some (.int .i64 o) := (S7.at_ 2 rfl).cell 0
      have t1 : V7.cell? ⟨w4.heap.size, 1, none⟩ = some (.int .i64 ((o : Int) + body.length)) := (S7.at_ 2 rfl).cell 1
      have t2 : V7.cell? ⟨w4.heap.size, 2, none⟩ = some (.int .i64 fk) := (S7.at_ 2 rfl).cell 2
      have t3 : V7.cell? ⟨w4.heap.size, 3, none⟩ = some (.bool (decide (0 < ld))) := (S7.at_ 2 rfl).cell 3
      have t4 : V7.cell? ⟨w4.heap.size, 4, none⟩ = some (.int .i64 d1) := (S7.at_ 2 rfl).cell 4
      have t5 : V7.cell? ⟨w4.heap.size, 5, none⟩ = some (.int .i64 d2) := (S7.at_ 2 rfl).cell 5
      refine hK.out _ _ ⟨⟨b0, b1, b2, b3⟩, t0, t1, t2, t3, t4, t5⟩ (fun hHeld => ?_)
      clear b0 b1 b2 b3 t0 t1 t2 t3 t4 t5 i0 i1 i2 i3 z0 z1 z2 z3
      clear hK K
      try simp only [Act.put, List.setIfInBounds_toArray, List.set_cons_zero, List.set_cons_succ, List.getElem_toArray, List.getElem_cons_succ, List.getElem_cons_zero]
      have i0 : V7.cell? ⟨w.heap.size + 1 + 1, 0, none⟩ = some (.int .i64 0) := (S7.at_ 4 rfl).cell 0
      have z0 : V7.frozen? ⟨w.heap.size + 1 + 1, 0, none⟩ = false := (S7.at_ 4 rfl).frozen 0
      have i1 : V7.cell? ⟨w.heap.size + 1 + 1, 1, none⟩ = some (.int .i64 0) := (S7.at_ 4 rfl).cell 1
      have z1 : V7.frozen? ⟨w.heap.size + 1 + 1, 1, none⟩ = false := (S7.at_ 4 rfl).frozen 1
      have i2 : V7.cell? ⟨w.heap.size + 1 + 1, 2, none⟩ = some (.int .i64 0) := (S7.at_ 4 rfl).cell 2
      have z2 : V7.frozen? ⟨w.heap.size + 1 + 1, 2, none⟩ = false := (S7.at_ 4 rfl).frozen 2
      have i3 : V7.cell? ⟨w.heap.size + 1 + 1, 3, none⟩ = some (.bool false) := (S7.at_ 4 rfl).cell 3
      have z3 : V7.frozen? ⟨w.heap.size + 1 + 1, 3, none⟩ = false := (S7.at_ 4 rfl).frozen 3
      have i4 : V7.cell? ⟨w.heap.size + 1 + 1, 4, none⟩ = some (.int .i64 0) := (S7.at_ 4 rfl).cell 4
      have z4 : V7.frozen? ⟨w.heap.size + 1 + 1, 4, none⟩ = false := (S7.at_ 4 rfl).frozen 4
      have i5 : V7.cell? ⟨w.heap.size + 1 + 1, 5, none⟩ = some (.int .i64 0) := (S7.at_ 4 rfl).cell 5
      have z5 : V7.frozen? ⟨w.heap.size + 1 + 1, 5, none⟩ = false := (S7.at_ 4 rfl).frozen 5
      have S8 := ((((((S7.set 4 rfl 0 (.int .i64 o)).set 4 rfl 1 (.int .i64 ((o : Int) + body.length))).set 4 rfl 2 (.int .i64 fk)).set 4 rfl 3 (.bool (decide (0 < ld)))).set 4 rfl 4 (.int .i64 d1)).set 4 rfl 5 (.int .i64 d2))
      clear S7
      refine wpTo_last (i := 3) (by kernel_rfl) rfl (by decide) (fun K hK => ?_)
      go_simp
      refine hK.out _ _ ?_
      clear hK K hHeld
      refine wpTo_last (i := 4) (by kernel_rfl) rfl (by decide) (fun K hK => ?_)
      go_simp
      refine hK.out _ _ ?_
      clear hK K
      refine wpTo_done (by kernel_rfl) ?_ _
      generalize ((((((V7.setCell ⟨w.heap.size + 1 + 1, 0, none⟩ (.int .i64 o)).setCell ⟨w.heap.size + 1 + 1, 1, none⟩ (.int .i64 ((o : Int) + body.length))).setCell ⟨w.heap.size + 1 + 1, 2, none⟩ (.int .i64 fk)).setCell ⟨w.heap.size + 1 + 1, 3, none⟩ (.bool (decide (0 < ld)))).setCell ⟨w.heap.size + 1 + 1, 4, none⟩ (.int .i64 d1)).setCell ⟨w.heap.size + 1 + 1, 5, none⟩ (.int .i64 d2)) = V8 at *
      have k0 : V8.cell? ⟨w.heap.size + 1, 0, none⟩ = some (.int .u32 first) := (S8.at_ 5 rfl).cell 0
      have k1 : V8.cell? ⟨w.heap.size + 1, 1, none⟩ = some (.int .i64 room) := (S8.at_ 5 rfl).cell 1
      have k2 : V8.cell? ⟨w.heap.size + 1, 2, none⟩ = some (.slice q5 l2.length c5) := (S8.at_ 5 rfl).cell 2
      have k3 : V8.cell? ⟨w.heap.size + 1, 3, none⟩ = some (.slice q1 B1.length c1) := (S8.at_ 5 rfl).cell 3
      have j0 : V8.cell? ⟨w.heap.size + 1 + 1, 0, none⟩ = some (.int .i64 o) := (S8.at_ 4 rfl).cell 0
      have j1 : V8.cell? ⟨w.heap.size + 1 + 1, 1, none⟩ = some (.int .i64 ((o : Int) + body.length)) := (S8.at_ 4 rfl).cell 1
      have j2 : V8.cell? ⟨w.heap.size + 1 + 1, 2, none⟩ = some (.int .i64 fk) := (S8.at_ 4 rfl).cell 2
      have j3 : V8.cell? ⟨w.heap.size + 1 + 1, 3, none⟩ = some (.bool (decide (0 < ld))) := (S8.at_ 4 rfl).cell 3
      have j4 : V8.cell? ⟨w.heap.size + 1 + 1, 4, none⟩ = some (.int .i64 d1) := (S8.at_ 4 rfl).cell 4
      have j5 : V8.cell? ⟨w.heap.size + 1 + 1, 5, none⟩ = some (.int .i64 d2) := (S8.at_ 4 rfl).cell 5
      have HJ := Lib.hid (show _ ∧ _ ∧ _ ∧ _ ∧ _ ∧ _ ∧ _ ∧ _ ∧ _ ∧ _ from ⟨k0, k1, k2, k3, j0, j1, j2, j3, j4, j5⟩)
      have HS8 := Lib.hid S8
      clear S8 k0 k1 k2 k3 j0 j1 j2 j3 j4 j5 i0 z0 i1 z1 i2 z2 i3 z3 i4 z4 i5 z5
      go_wp2_with fail
      obtain ⟨k0, k1, k2, k3, j0, j1, j2, j3, j4, j5⟩ := HJ.out
      exact bodyPost_ret (v := .tuple #[.agg (r3c first room q5 c5 l2 q1 c1 B1), .agg #[.int .i64 o, .int .i64 ((o : Int) + body.length), .int .i64 fk, .bool (decide (0 < ld)), .int .i64 d1, .int .i64 d2], .int .i64 0]) (by simp [results, Try.results47, go_sem, k0, k1, k2, k3, j0, j1, j2, j3, j4, j5]) rfl ⟨q5, c5, q1, c1, by rw [HE.out.1, HE.out.2], by rw [HE.out.2]; exact HS8.out.drop (.cons_cons _ (.cons_cons _ (List.nil_sublist _)))⟩
end Go.Proofs.Ytfobeheplficgaa
/- Fixed calls of a receiver: walked. -/
namespace Go.Proofs.Ytfobeheplficgaa
open Go.RowKit Go.Und Go.Shelf
attribute [local go_sem] Oper.semAt_some
attribute [local go_sem ↓] Go.wp_at_zero Go.wp_at_succ

theorem _root_.Go.Und.Sep.stays {D : Nat → Prop} {w0 w V : World} {L R : List Ob} (S : Sep D w0 w (L ++ R)) {o : Ob} (ho : o ∈ R) (f : Fr (fpL L) w V) : o.ok V :=
  o.fr (S.ok o (List.mem_append_right _ ho)) f fun k hk ⟨a, ha, hk'⟩ => (List.pairwise_append.1 S.apart).2.2 a ha o ho k hk' hk
theorem _root_.Go.Und.Sep.old {w0 w V : World} {L R : List Ob} (S : Sep None w0 w (L ++ R)) (f : Fr (fpL L) w V) : Fr None w0 V :=
  S.fr.trans' f fun k hk ⟨a, ha, hk'⟩ => by
    rcases S.fp a (List.mem_append_left _ ha) k hk' with h | h
    · exact h
    · omega
theorem brow_reads {w : World} {q : Option Addr} {c : Nat} {l : List Int} (h : (brow q c l).ok w) : Reads w 1 q l.length c (fc u8c l) := (Owns.reads (show Owns u8c 1 U8T w _ l from h)).2.1
theorem brow_made (w : World) (n : Nat) (h : n ≤ 1000000) : (brow (some ⟨w.heap.size, 0, none⟩) n (List.replicate n 0)).ok (w.alloc (.cells (madeCells #[.int .u8 0] n) U8T)) := by
  have := (make_row w n h).2
  show World.ownsRow _ _ _ _ _ _ _
  rw [List.length_replicate]; exact this
set_option maxRecDepth 100000 in
set_option maxHeartbeats 8000000 in
theorem known23_any (w : World) : Calls Try.prog 40 #[] w fun e w' => e = .returned (.bool true) ∧ Fr None w w' := by
  have hm10 := fun W : World => (make_row W 10 (by omega)).1
  have hm12 := fun W : World => (make_row W 12 (by omega)).1
  have HM10 := Lib.hid hm10
  have HM12 := Lib.hid hm12
  clear hm10 hm12
  go_enter Try.func40, Try.ntmps40
  go_wp2_with fail
  refine (hnew_any 5 100 (by omega) (by omega) w).mono ?_
  rintro y1 w1 ⟨hp, gp, rb, rfl, T1⟩
  have HS1 := Lib.hid T1
  clear T1
  have hm : (Instr.makeSlice BlT (.int .i64 10) (.int .i64 10)).run Try.prog w1 = .ok (.slice (some ⟨w1.heap.size, 0, none⟩) 10 10) (w1.alloc (.cells (madeCells #[.int .u8 0] 10) U8T)) := HM10.out w1
  have S2 : Sep None w _ (hrd hp 5 gp none 0 [] none 0 [] (some ⟨rb, 0, none⟩) 100 (List.replicate 100 0) ++ [brow (some ⟨w1.heap.size, 0, none⟩) 10 (List.replicate 10 0)]) := (HS1.out.add (brow (some ⟨w1.heap.size, 0, none⟩) 10 (List.replicate 10 0)) ((Fr.refl None w1).alloc (.cells (madeCells #[.int .u8 0] 10) U8T)) (brow_made w1 10 (by omega)) (fun k hk => by cases hk; exact Nat.le_refl _)).perm (List.perm_append_comm (l₁ := [_]))
  have HT1 := Lib.hid (show Calls Try.prog 42 #[.pointer (at0 hp), .int .u32 15, .slice (some ⟨w1.heap.size, 0, none⟩) 10 10] _ (TakePost _ _ _ _ _ _ _ _ [] [] (List.replicate 10 0) 10) from take_yes hp gp 5 15 none 0 [] none 0 [] rb 100 (List.replicate 100 0) [] (some ⟨w1.heap.size, 0, none⟩) 10 (List.replicate 10 0) 10 _ S2.head (fun V f => brow_reads (S2.stays (List.mem_singleton.2 rfl) f)) (hok_new (room := (List.replicate 100 (0 : Int)).length) (by decide) _ rfl) (by decide) (by decide) (by decide) (by decide) (by decide) (by decide) (by decide))
  have HS2 := Lib.hid S2
  clear S2 HS1
  go_wp2_with fail
  refine HT1.out.mono ?_
  rintro y2 w2 ⟨q2, c2, tq2, tc2, text2, ring2, he, hok2, T2⟩
  have he2 := he.trans (show _ = Ending.returned (.tuple #[.agg #[.int .i64 10, .int .i64 20, .int .i64 10, .bool false, .int .i64 0, .int .i64 0], .int .i64 0]) by rfl)
  subst he2
  have h2l : addL [] (((10 : Nat) : Int), ((10 : Nat) : Int) + ((List.replicate 10 (0 : Int)).length : Int)) = [(10, 20)] := by rfl
  rw [h2l] at hok2 T2
  obtain rfl : text2 = [] := List.length_eq_zero_iff.1 (by have := hok2.nx; rw [show gapL [(10, 20)] 0 = 0 by rfl] at this; omega)
  have S3 := (HS2.out.did T2).drop (List.sublist_append_left (hrd hp 5 gp q2 c2 [(10, 20)] tq2 tc2 [] (some ⟨rb, 0, none⟩) 100 ring2) _)
  have HOk2 := Lib.hid hok2
  have HS3 := Lib.hid (S3.alloc #[.int .i64 10, .int .i64 20, .int .i64 10, .bool false, .int .i64 0, .int .i64 0] TdT)
  have hm : (Instr.makeSlice BlT (.int .i64 12) (.int .i64 12)).run Try.prog (w2.alloc (.cells #[.int .i64 10, .int .i64 20, .int .i64 10, .bool false, .int .i64 0, .int .i64 0] TdT)) = .ok (.slice (some ⟨(w2.alloc (.cells #[.int .i64 10, .int .i64 20, .int .i64 10, .bool false, .int .i64 0, .int .i64 0] TdT)).heap.size, 0, none⟩) 12 12) ((w2.alloc (.cells #[.int .i64 10, .int .i64 20, .int .i64 10, .bool false, .int .i64 0, .int .i64 0] TdT)).alloc (.cells (madeCells #[.int .u8 0] 12) U8T)) := HM12.out _
  clear h2l hok2 T2 S3 HS2 HT1 he
  go_wp2_with fail
  have S4 : Sep None w _ (hrd hp 5 gp q2 c2 [(10, 20)] tq2 tc2 [] (some ⟨rb, 0, none⟩) 100 ring2 ++ [Ob.blk w2.heap.size TdT #[.int .i64 10, .int .i64 20, .int .i64 10, .bool false, .int .i64 0, .int .i64 0], brow (some ⟨(w2.alloc (.cells #[.int .i64 10, .int .i64 20, .int .i64 10, .bool false, .int .i64 0, .int .i64 0] TdT)).heap.size, 0, none⟩) 12 (List.replicate 12 0)]) := ((HS3.out.add (brow (some ⟨(w2.alloc (.cells #[.int .i64 10, .int .i64 20, .int .i64 10, .bool false, .int .i64 0, .int .i64 0] TdT)).heap.size, 0, none⟩) 12 (List.replicate 12 0)) ((Fr.refl None _).alloc (.cells (madeCells #[.int .u8 0] 12) U8T)) (brow_made _ 12 (by omega)) (fun k hk => by cases hk; exact Nat.le_refl _)).front 1 rfl).perm (List.perm_append_comm (l₁ := [_, _]))
  rw [World.size_alloc] at S4
  have HT2 := Lib.hid (show Calls Try.prog 42 #[.pointer (at0 hp), .int .u32 5, .slice (some ⟨w2.heap.size + 1, 0, none⟩) 12 12] _ (TakePost _ _ _ _ _ _ _ _ [(10, 20)] _ (List.replicate 12 0) 0) from take_yes hp gp 5 5 q2 c2 [(10, 20)] tq2 tc2 [] rb 100 ring2 _ (some ⟨w2.heap.size + 1, 0, none⟩) 12 (List.replicate 12 0) 0 _ (by have h := S4.head; rw [show (100 : Nat) = ring2.length from HOk2.out.rl.symm] at h ⊢; exact h) (fun V f => brow_reads (S4.stays (.tail _ (List.mem_singleton.2 rfl)) f)) (by rw [HOk2.out.rl]; exact HOk2.out) (by decide) (by decide) (by decide) (by rw [HOk2.out.rl]; decide) (by rw [HOk2.out.rl]; decide) (by decide) (by decide))
  have HS4 := Lib.hid S4
  clear S4 HS3
  refine HT2.out.mono ?_
  rintro y3 w3 ⟨q3, c3, tq3, tc3, text3, ring3, he, hok3, T3⟩
  have he2 := he.trans (show _ = Ending.returned (.tuple #[.agg #[.int .i64 0, .int .i64 12, .int .i64 10, .bool true, .int .i64 10, .int .i64 12], .int .i64 0]) by rfl)
  subst he2
  have h3l : addL [(10, 20)] (((0 : Nat) : Int), ((0 : Nat) : Int) + ((List.replicate 12 (0 : Int)).length : Int)) = [(0, 20)] := by rfl
  rw [h3l] at hok3 T3
  have hn3 : text3.length = 20 := by have := hok3.nx; rw [show gapL [(0, 20)] 0 = 20 by rfl] at this; omega
  have S5 : Sep None w w3 (hrd hp 5 gp q3 c3 [(0, 20)] tq3 tc3 text3 (some ⟨rb, 0, none⟩) 100 ring3 ++ [Ob.blk w2.heap.size TdT #[.int .i64 10, .int .i64 20, .int .i64 10, .bool false, .int .i64 0, .int .i64 0], brow (some ⟨w2.heap.size + 1, 0, none⟩) 12 (List.replicate 12 0)]) := HS4.out.did T3
  have a1 : w3.cell? ⟨w2.heap.size, 1, none⟩ = some (.int .i64 20) := (S5.at_ 5 rfl).cell 1
  have a2 : w3.cell? ⟨w2.heap.size, 2, none⟩ = some (.int .i64 10) := (S5.at_ 5 rfl).cell 2
  have lt2 : w2.heap.size < w3.heap.size := Ob.lt _ (S5.at_ 5 rfl) (k := w2.heap.size) rfl
  have hq : ∀ W, (binOp .eql SpT (.agg #[.int .i64 10, .int .i64 12]) (.agg #[.int .i64 10, .int .i64 12])).run Try.prog W = .ok (.bool true) W := fun W => by rw [eqSp]; rfl
  have c2' : (w3.alloc (.cells #[.int .i64 0, .int .i64 12, .int .i64 10, .bool true, .int .i64 10, .int .i64 12] TdT)).cell? ⟨hp, 2, none⟩ = some (.slice tq3 20 tc3) := by
    have h := (S5.alloc #[.int .i64 0, .int .i64 12, .int .i64 10, .bool true, .int .i64 10, .int .i64 12] TdT).at_ 3 rfl
    have h2 := h.cell 2
    rw [show (hcs 5 gp tq3 tc3 text3 (some ⟨rb, 0, none⟩) 100 ring3)[2]? = some (.slice tq3 text3.length tc3) from rfl, hn3] at h2
    exact h2
  have HNx := Lib.hid (hnext_any hp 20 tq3 tc3 _ c2')
  have HS5 := Lib.hid (S5.alloc #[.int .i64 0, .int .i64 12, .int .i64 10, .bool true, .int .i64 10, .int .i64 12] TdT)
  clear h3l hok3 T3 hn3 S5 c2' he HS4 HT2 hm
  go_wp2_with fail
  refine (HNx.out).mono ?_
  rintro y4 w4 ⟨rfl, rfl⟩
  go_wp2_with fail
  go_ret
  exact ⟨by simp, HS5.out.fr⟩
end Go.Proofs.Ytfobeheplficgaa
