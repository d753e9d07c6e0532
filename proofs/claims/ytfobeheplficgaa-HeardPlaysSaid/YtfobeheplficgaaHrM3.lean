/- What the document says of a receiver, in memory: Next, lay, Text, Above; the same bytes: walked. -/
import Derived.Test.YtfobeheplficgaaHrM2
set_option linter.unusedVariables false
set_option linter.unusedSimpArgs false
namespace Go.Proofs.Ytfobeheplficgaa
open Go.RowKit Go.Und Go.Shelf
attribute [local go_sem] Oper.semAt_some
attribute [local go_sem ↓] Go.wp_at_zero Go.wp_at_succ

abbrev R3T : TypeId := 83
abbrev Q3T : TypeId := 84
/-- The document's receiver. -/
abbrev r3c (first : Int) (room : Nat) (lq : Option Addr) (lc : Nat) (l : List (Int × Int)) (bq : Option Addr) (bc : Nat) (b : List Int) : Array Value := #[.int .u32 first, .int .i64 room, .slice lq l.length lc, .slice bq b.length bc]

theorem r3next_any (first : Int) (room : Nat) (lq : Option Addr) (lc : Nat) (l : List (Int × Int)) (bq : Option Addr) (bc : Nat) (b : List Int) (w : World) (hr : Reads w 2 lq l.length lc (fc spc l)) (hl : l.length ≤ 1000000) :
    Calls Try.prog 78 #[.agg (r3c first room lq lc l bq bc b)] w fun e w' => e = .returned (.int .i64 (gapL l 0)) ∧ Fr None w w' := by
  have F0 := (Fr.refl None w).alloc (.cells (r3c first room lq lc l bq bc b) R3T)
  have HG := Lib.hid (rgap_any lq lc l 0 _ (hr.fr F0 (fun _ _ h => h)) hl)
  have HF := Lib.hid F0
  clear hr F0
  go_enter Try.func78, Try.ntmps78
  go_wp2_with ((with_reducible refine (HG.out).mono ?_); rintro e1 w1 ⟨rfl, F1⟩)
  go_ret
  exact ⟨rfl, HF.out.trans F1⟩
/-- A byte laid into a row of one's own. -/
theorem hlay_any (q : Option Addr) (c : Nat) (b : List Int) (at_ : Nat) (y : Int) (w : World) {D : Nat → Prop} {w0 : World} {R : List Ob} (S : Sep D w0 w (brow q c b :: R)) (hb : b.length ≤ 200000000) (ha : at_ ≤ 200000000) :
    Calls Try.prog 81 #[.slice q b.length c, .int .i64 at_, .int .u8 y] w fun e w' => ∃ q' c', e = .returned (.slice q' (layN b at_ y).length c') ∧ Sep D w0 w' (brow q' c' (layN b at_ y) :: R) := by
  obtain ⟨i, hi, hz0, hz1, hz2⟩ := info_parts u8Info
  have HI := Lib.hid (And.intro hi (And.intro hz0 (And.intro hz1 hz2))); clear hi hz0 hz1 hz2
  have HS := Lib.hid S
  clear S
  go_enter Try.func81, Try.ntmps81
  go_wp2_with fail
  go_loopg [7] (at_ + 1 - b.length) (fun n ov wr => ∃ (k : Nat) (q' : Option Addr) (c' : Nat), k + n = at_ + 1 - b.length ∧ ov = .slice q' (b ++ List.replicate k 0).length c' ∧ Sep D w0 wr (brow q' c' (b ++ List.replicate k 0) :: R))
  case atStart => exact ⟨0, q, c, by omega, by simp, by simpa using HS.out⟩
  case round =>
    obtain ⟨k, q1, c1, hk, rfl, S1⟩ := hrel
    have hbl : (b ++ List.replicate k (0 : Int)).length = b.length + k := by simp
    by_cases g : b.length + k ≤ at_
    · have HS1 := Lib.hid S1
      have hrep : (b ++ List.replicate k (0 : Int)) ++ [0] = b ++ List.replicate (k + 1) 0 := by rw [List.append_assoc, List.replicate_succ']
      have HRp := Lib.hid hrep
      have HBl := Lib.hid hbl
      have hle : (b ++ List.replicate k (0 : Int)).length ≤ at_ := by omega
      have g1 : decide ((b ++ List.replicate k (0 : Int)).length ≤ at_) = true := decide_eq_true hle
      clear S1 hrep hbl
      generalize b ++ List.replicate k (0 : Int) = b1 at *
      go_wp2_with (at_builtin; refine Hold.out ?_)
      refine Hold.mk ?_
      refine wpList_append_row _ rfl _ _ _ rfl 0 U8T i _ 1 1 Try.underlying62 HI.out.1 HI.out.2.1 HI.out.2.2.1 HI.out.2.2.2 rfl (by decide) _ b1.length (fc u8c b1) rfl ((HS1.out.skip _).at_ 0 rfl) (some ⟨wr.heap.size, 0, none⟩) 1 1 (fc u8c [0]) rfl (reads_oneR wr U8T (0 : Int) u8c_len) (fc_one u8c_one _) (by simp [maxLen]; omega) (by omega) (Nat.zero_le _) ?_
      intro q2 c2 w2 ho2 hf2 hb2
      have S2 := HS1.out.append 0 rfl (.cells #[.int .u8 0] U8T) ho2 hf2 hb2
      rw [← fc_append] at S2
      have HS2 := Lib.hid S2
      clear S2 ho2 hf2 hb2
      go_wp2_with fail
      go_roundg (gk - 1)
      case measure => omega
      case rel => exact ⟨k + 1, q2, c2, by omega, by rw [← HRp.out]; simp, by rw [← HRp.out]; show Sep _ _ _ (Ob.row 0 U8T 1 (.slice _ (b1 ++ [0]).length _) (b1 ++ [0]).length _ :: _); rw [show (b1 ++ [(0 : Int)]).length = b1.length + 1 by simp]; exact HS2.out⟩
    · have hke : k = at_ + 1 - b.length := by omega
      subst hke
      have hlt : at_ < (b ++ List.replicate (at_ + 1 - b.length) (0 : Int)).length := by omega
      have HL := Lib.hid (show layN b at_ y = (b ++ List.replicate (at_ + 1 - b.length) (0 : Int)).set at_ y from rfl)
      have HBl := Lib.hid hbl
      have g1 : decide ((b ++ List.replicate (at_ + 1 - b.length) (0 : Int)).length ≤ at_) = false := decide_eq_false (by omega)
      obtain ⟨z, hz⟩ : ∃ z, (b ++ List.replicate (at_ + 1 - b.length) (0 : Int))[at_]? = some z := ⟨_, List.getElem?_eq_getElem hlt⟩
      generalize b ++ List.replicate (at_ + 1 - b.length) (0 : Int) = b1 at *
      obtain ⟨gg, rfl, hgl, hcg, hfz⟩ := Owns.elem u8c_len (show Owns u8c 1 U8T wr (.slice q1 b1.length c1) b1 from S1.at_ 0 rfl) (by decide) hz
      have v2 : wr.cell? ⟨gg, at_, none⟩ = some (.int .u8 z) := by have := hcg 0 _ rfl; simpa using this
      have v3 : wr.frozen? ⟨gg, at_, none⟩ = false := hfz at_
      have HSE := Lib.hid (S1.brow_set 0 rfl y hz)
      clear S1 hcg hfz hz hbl
      go_wp2_with fail
      go_ret
      exact ⟨_, _, by rw [HL.out, List.length_set]; rfl, by rw [HL.out]; exact HSE.out⟩
theorem r3text_any (first : Int) (room : Nat) (lq : Option Addr) (lc : Nat) (l : List (Int × Int)) (bq : Option Addr) (bc : Nat) (b : List Int) (n : Nat) (w : World) (hr : Reads w 2 lq l.length lc (fc spc l)) (hl : l.length ≤ 1000000) (hb : Reads w 1 bq b.length bc (fc u8c b)) (hn : gapL l 0 = n) (hnb : n ≤ b.length) :
    Calls Try.prog 82 #[.agg (r3c first room lq lc l bq bc b)] w fun e w' => e = .returned (.slice bq n bc) ∧ Fr None w w' := by
  have F0 := (Fr.refl None w).alloc (.cells (r3c first room lq lc l bq bc b) R3T)
  have hbc := hb.room
  have HG := Lib.hid (r3next_any first room lq lc l bq bc b _ (hr.fr F0.drew (fun _ _ h => h)) hl)
  rw [hn] at HG
  have HF := Lib.hid F0
  clear hr F0
  go_enter Try.func82, Try.ntmps82
  have hnc : (n : Int) ≤ bc := by omega
  have hS := (Blk.new w R3T (r3c first room lq lc l bq bc b))
  have c0 := hS.cell 0
  have c1 := hS.cell 1
  have c2 := hS.cell 2
  have c3 := hS.cell 3
  clear hS
  go_wp2_with fail
  generalize w.alloc (.cells #[.int .u32 first, .int .i64 room, .slice lq l.length lc, .slice bq b.length bc] 83) = V at *
  refine wp_region_to (S := fun w' => w'.cell? ⟨w.heap.size, 0, none⟩ = some (.int .u32 first) ∧ w'.cell? ⟨w.heap.size, 1, none⟩ = some (.int .i64 room) ∧ w'.cell? ⟨w.heap.size, 2, none⟩ = some (.slice lq l.length lc) ∧ w'.cell? ⟨w.heap.size, 3, none⟩ = some (.slice bq b.length bc)) 6 (by kernel_rfl) ⟨c0, c1, c2, c3⟩ (fun hHeld => ?_)
  refine wpTo_take (i := 0) (v := ?_) rfl (by kernel_rfl) (fun _ _ _ h => h) (Or.inl ⟨by rfl, ?_⟩) hHeld ?_
  rotate_left
  · (intro w' hSw; (try dsimp only at hSw); go_simp <;> with_reducible rfl)
  simp only [Act.put, List.setIfInBounds_toArray, List.set_cons_zero, List.set_cons_succ, List.getElem_toArray, List.getElem_cons_succ, List.getElem_cons_zero]
  refine wpTo_take (i := 1) (v := ?_) rfl (by kernel_rfl) (fun _ _ _ h => h) (Or.inl ⟨by rfl, ?_⟩) hHeld ?_
  rotate_left
  · (intro w' hSw; (try dsimp only at hSw); go_simp <;> with_reducible rfl)
  simp only [Act.put, List.setIfInBounds_toArray, List.set_cons_zero, List.set_cons_succ, List.getElem_toArray, List.getElem_cons_succ, List.getElem_cons_zero]
  refine wpTo_take (i := 2) (v := ?_) rfl (by kernel_rfl) (fun _ _ _ h => h) (Or.inl ⟨by rfl, ?_⟩) hHeld ?_
  rotate_left
  · (intro w' hSw; (try dsimp only at hSw); go_simp <;> with_reducible rfl)
  simp only [Act.put, List.setIfInBounds_toArray, List.set_cons_zero, List.set_cons_succ, List.getElem_toArray, List.getElem_cons_succ, List.getElem_cons_zero]
  refine wpTo_mid (i := 3) (by kernel_rfl) rfl (fun K hK => ?_)
  go_simp
  refine (HG.out).mono ?_
  rintro y w6 ⟨rfl, F6⟩
  have HF6 := Lib.hid (HF.out.drew.trans F6)
  refine hK.out _ _ ⟨cell_frN F6 hHeld.1, cell_frN F6 hHeld.2.1, cell_frN F6 hHeld.2.2.1, cell_frN F6 hHeld.2.2.2⟩ (fun hHeld => ?_)
  clear F6
  clear hK K
  try simp only [Act.put, List.setIfInBounds_toArray, List.set_cons_zero, List.set_cons_succ, List.getElem_toArray, List.getElem_cons_succ, List.getElem_cons_zero]
  refine wpTo_take (i := 4) (v := ?_) rfl (by kernel_rfl) (fun _ _ _ h => h) (Or.inl ⟨by rfl, ?_⟩) hHeld ?_
  rotate_left
  · (intro w' hSw; (try dsimp only at hSw); go_simp <;> with_reducible rfl)
  simp only [Act.put, List.setIfInBounds_toArray, List.set_cons_zero, List.set_cons_succ, List.getElem_toArray, List.getElem_cons_succ, List.getElem_cons_zero]
  refine wpTo_take (i := 5) (v := ?_) rfl (by kernel_rfl) (fun _ _ _ h => h) (Or.inl ⟨by rfl, ?_⟩) hHeld ?_
  rotate_left
  · (intro w' hSw; (try dsimp only at hSw); go_simp <;> with_reducible rfl)
  simp only [Act.put, List.setIfInBounds_toArray, List.set_cons_zero, List.set_cons_succ, List.getElem_toArray, List.getElem_cons_succ, List.getElem_cons_zero]
  refine wpTo_done (by kernel_rfl) ?_ _
  go_wp2_with fail
  go_ret
  exact ⟨by simp, HF6.out⟩
end Go.Proofs.Ytfobeheplficgaa
/- The same bytes; what the document has above; is a receiver the document's: walked. -/
namespace Go.Proofs.Ytfobeheplficgaa
open Go.RowKit Go.Und Go.Shelf
attribute [local go_sem] Oper.semAt_some
attribute [local go_sem ↓] Go.wp_at_zero Go.wp_at_succ

set_option maxHeartbeats 2000000 in
theorem bSame_refl (p q : Option Addr) (c d : Nat) (l : List Int) (w : World) (hr : Reads w 1 p l.length c (fc u8c l)) (hq : Reads w 1 q l.length d (fc u8c l)) (hs : l.length ≤ 100000000) :
    Calls Try.prog 43 #[.slice p l.length c, .slice q l.length d] w fun e w' => e = .returned (.bool true) ∧ Fr None w w' := by
  have HR := Lib.hid hr; clear hr
  have HQ := Lib.hid hq; clear hq
  have hz : ((l.length : Int) != l.length) = false := by simp
  go_enter Try.func43, Try.ntmps43
  go_wp2_with fail
  go_loopg [5] l.length (fun r i wr => ∃ k n : Nat, k + r = l.length ∧ i = .int .i64 k ∧ wr = w.drewN n)
  case atStart => exact ⟨0, 0, by omega, rfl, rfl⟩
  case round =>
    obtain ⟨k, n, hk0, rfl, rfl⟩ := hrel
    by_cases g : k < l.length
    · have ex := List.getElem?_eq_getElem g
      obtain ⟨b, off, rfl, hc⟩ := HR.out.elem u8c_len (by decide) ex
      obtain ⟨b2, off2, rfl, hd⟩ := HQ.out.elem u8c_len (by decide) ex
      generalize l[k] = x at *
      have c1 : w.cell? ⟨b, off + k, none⟩ = some (.int .u8 x) := by have := hc 0 _ rfl; simpa using this
      have d1 : w.cell? ⟨b2, off2 + k, none⟩ = some (.int .u8 x) := by have := hd 0 _ rfl; simpa using this
      clear hc hd ex
      go_wp2_with fail
      go_quiet (fail)
      go_wp2_with fail
      go_roundg (gk - 1)
      case measure => omega
      case rel => exact ⟨k + 1, _, by omega, by go_num, rfl⟩
    · have g1 : decide ((k : Int) < (l.length : Int)) = false := decide_eq_false (by omega)
      go_wp2_with fail
      go_ret
      exact ⟨rfl, (Fr.refl None w).drewN _⟩
set_option maxRecDepth 100000 in
set_option maxHeartbeats 4000000 in
theorem r3above_any (first : Int) (room : Nat) (lq : Option Addr) (lc : Nat) (l : List (Int × Int)) (bq : Option Addr) (bc : Nat) (b : List Int) (n : Nat) (w : World) (hr : Reads w 2 lq l.length lc (fc spc l)) (hl : l.length ≤ 100000) (hn : gapL l 0 = n) :
    Calls Try.prog 83 #[.agg (r3c first room lq lc l bq bc b)] w fun e w' => ∃ q' c', e = .returned (.slice q' (aboveF n l).length c') ∧ Sep None w w' [srow q' c' (aboveF n l)] := by
  have S0 := ((Sep.law w).alloc (r3c first room lq lc l bq bc b) R3T).add (srow none 0 []) (Fr.refl None _) (Owns.nil spc 2 SpT _) (fun k hk => by cases hk)
  have HR := Lib.hid (fun (V : World) (f : Fr None w V) => hr.fr f (fun _ _ h => h))
  have HG := Lib.hid (fun (V : World) (f : Fr None w V) => (r3next_any first room lq lc l bq bc b V (hr.fr f (fun _ _ h => h)) (by omega)))
  rw [hn] at HG
  have HS0 := Lib.hid S0
  clear S0 hr hn
  go_enter Try.func83, Try.ntmps83
  go_wp2_with fail
  go_loopg [3, 4] l.length (fun r ov iv wr => ∃ (k : Nat) (q' : Option Addr) (c' : Nat), k + r = l.length ∧ iv = .int .i64 k ∧ ov = .slice q' (aboveF n (l.take k)).length c' ∧ Sep None w wr [srow q' c' (aboveF n (l.take k)), Ob.blk w.heap.size R3T (r3c first room lq lc l bq bc b)])
  case atStart => exact ⟨0, none, 0, by omega, rfl, rfl, HS0.out⟩
  case round =>
    obtain ⟨k, q1, c1, hk, rfl, rfl, S1⟩ := hrel
    have b0 : wr.cell? ⟨w.heap.size, 0, none⟩ = some (.int .u32 first) := (S1.at_ 1 rfl).cell 0
    have b1 : wr.cell? ⟨w.heap.size, 1, none⟩ = some (.int .i64 room) := (S1.at_ 1 rfl).cell 1
    have b2 : wr.cell? ⟨w.heap.size, 2, none⟩ = some (.slice lq l.length lc) := (S1.at_ 1 rfl).cell 2
    have b3 : wr.cell? ⟨w.heap.size, 3, none⟩ = some (.slice bq b.length bc) := (S1.at_ 1 rfl).cell 3
    by_cases g : k < l.length
    · have ex := List.getElem?_eq_getElem g
      obtain ⟨bb, oo, rfl, hc⟩ := (HR.out wr S1.fr).elem spc_len (by decide) ex
      have hsn := aboveF_snoc n (l.take k) l[k]
      rw [← List.take_succ_eq_append_getElem g] at hsn
      generalize l[k] = x at *
      obtain ⟨x1, x2⟩ := x
      have d1 : wr.cell? ⟨bb, oo + k * 2, none⟩ = some (.int .i64 x1) := hc 0 _ rfl
      have d2 : wr.cell? ⟨bb, oo + k * 2 + 1, none⟩ = some (.int .i64 x2) := hc 1 _ rfl
      have g1 : decide (k < l.length) = true := decide_eq_true g
      have k0 : (0 : Int) ≤ k := by omega
      have k1 : (k : Int) < l.length := by omega
      have HG1 := Lib.hid (HG.out wr.drew S1.fr.drew)
      have HS1 := Lib.hid S1
      have HSN := Lib.hid hsn
      have hal : (aboveF n (l.take k)).length ≤ 1000000 := Nat.le_trans (aboveF_len _ _) (Nat.le_trans (List.length_take_le _ _) (by omega))
      clear hc ex S1 hsn
      go_wp2_with fail
      refine wp_region_to (S := fun w' => (w'.cell? ⟨w.heap.size, 0, none⟩ = some (.int .u32 first) ∧ w'.cell? ⟨w.heap.size, 1, none⟩ = some (.int .i64 room) ∧ w'.cell? ⟨w.heap.size, 2, none⟩ = some (.slice (some ⟨bb, oo, none⟩) l.length lc) ∧ w'.cell? ⟨w.heap.size, 3, none⟩ = some (.slice bq b.length bc)) ∧ w'.cell? ⟨bb, oo + k * 2, none⟩ = some (.int .i64 x1)) 9 (by kernel_rfl) ⟨⟨b0, b1, b2, b3⟩, d1⟩ (fun hHeld => ?_)
      refine wpTo_take (i := 0) (v := ?_) rfl (by kernel_rfl) (fun _ _ _ h => h) (Or.inl ⟨by rfl, ?_⟩) hHeld ?_
      rotate_left
      · (intro w' hSw; (try dsimp only at hSw); go_simp <;> with_reducible rfl)
      simp only [Act.put, List.setIfInBounds_toArray, List.set_cons_zero, List.set_cons_succ, List.getElem_toArray, List.getElem_cons_succ, List.getElem_cons_zero]
      refine wpTo_take (i := 1) (v := ?_) rfl (by kernel_rfl) (fun _ _ _ h => h) (Or.inl ⟨by rfl, ?_⟩) hHeld ?_
      rotate_left
      · (intro w' hSw; (try dsimp only at hSw); go_simp <;> with_reducible rfl)
      simp only [Act.put, List.setIfInBounds_toArray, List.set_cons_zero, List.set_cons_succ, List.getElem_toArray, List.getElem_cons_succ, List.getElem_cons_zero]
      refine wpTo_take (i := 2) (v := ?_) rfl (by kernel_rfl) (fun _ _ _ h => h) (Or.inl ⟨by rfl, ?_⟩) hHeld ?_
      rotate_left
      · (intro w' hSw; (try dsimp only at hSw); go_simp <;> with_reducible rfl)
      simp only [Act.put, List.setIfInBounds_toArray, List.set_cons_zero, List.set_cons_succ, List.getElem_toArray, List.getElem_cons_succ, List.getElem_cons_zero]
      refine wpTo_take (i := 3) (v := ?_) rfl (by kernel_rfl) (fun _ _ _ h => h) (Or.inl ⟨by rfl, ?_⟩) hHeld ?_
      rotate_left
      · (intro w' hSw; (try dsimp only at hSw); go_simp <;> with_reducible rfl)
      simp only [Act.put, List.setIfInBounds_toArray, List.set_cons_zero, List.set_cons_succ, List.getElem_toArray, List.getElem_cons_succ, List.getElem_cons_zero]
      refine wpTo_take (i := 4) (v := ?_) rfl (by kernel_rfl) (fun _ _ _ h => h) (Or.inl ⟨by rfl, ?_⟩) hHeld ?_
      rotate_left
      · (intro w' hSw; (try dsimp only at hSw); go_simp <;> with_reducible rfl)
      simp only [Act.put, List.setIfInBounds_toArray, List.set_cons_zero, List.set_cons_succ, List.getElem_toArray, List.getElem_cons_succ, List.getElem_cons_zero]
      refine wpTo_take (i := 5) (v := ?_) rfl (by kernel_rfl) (fun _ _ _ h => h) (Or.inl ⟨by rfl, ?_⟩) hHeld ?_
      rotate_left
      · (intro w' hSw; (try dsimp only at hSw); go_simp <;> with_reducible rfl)
      simp only [Act.put, List.setIfInBounds_toArray, List.set_cons_zero, List.set_cons_succ, List.getElem_toArray, List.getElem_cons_succ, List.getElem_cons_zero]
      refine wpTo_take (i := 6) (v := ?_) rfl (by kernel_rfl) (fun _ _ _ h => h) (Or.inl ⟨by rfl, ?_⟩) hHeld ?_
      rotate_left
      · (intro w' hSw; (try dsimp only at hSw); go_simp <;> with_reducible rfl)
      simp only [Act.put, List.setIfInBounds_toArray, List.set_cons_zero, List.set_cons_succ, List.getElem_toArray, List.getElem_cons_succ, List.getElem_cons_zero]
      refine wpTo_mid (i := 7) (by kernel_rfl) rfl (fun K hK => ?_)
      go_simp
      refine (HG1.out).mono ?_
      rintro y w6 ⟨rfl, F6⟩
      have HF6 := Lib.hid F6
      refine hK.out _ _ ⟨⟨cell_frN F6 hHeld.1.1, cell_frN F6 hHeld.1.2.1, cell_frN F6 hHeld.1.2.2.1, cell_frN F6 hHeld.1.2.2.2⟩, cell_frN F6 hHeld.2⟩ (fun hHeld => ?_)
      clear F6
      clear hK K
      try simp only [Act.put, List.setIfInBounds_toArray, List.set_cons_zero, List.set_cons_succ, List.getElem_toArray, List.getElem_cons_succ, List.getElem_cons_zero]
      refine wpTo_take (i := 8) (v := ?_) rfl (by kernel_rfl) (fun _ _ _ h => h) (Or.inl ⟨by rfl, ?_⟩) hHeld ?_
      rotate_left
      · (intro w' hSw; (try dsimp only at hSw); go_simp <;> with_reducible rfl)
      simp only [Act.put, List.setIfInBounds_toArray, List.set_cons_zero, List.set_cons_succ, List.getElem_toArray, List.getElem_cons_succ, List.getElem_cons_zero]
      refine wpTo_done (by kernel_rfl) ?_ _
      have S6 := HS1.out.drew.same HF6.out
      obtain ⟨⟨j0, j1, j2, j3⟩, j4⟩ := hHeld
      have j5 : w6.cell? ⟨bb, oo + k * 2 + 1, none⟩ = some (.int .i64 x2) := cell_frN ((Fr.refl None wr).drew.trans HF6.out) d2
      have HS6 := Lib.hid S6
      clear S6 HS1 HF6 b0 b1 b2 b3 d1 d2 HG1
      by_cases gn : (n : Int) ≤ x1
      · have g2 : decide ((n : Int) ≤ x1) = true := decide_eq_true gn
        have HSn2 := HSN
        rw [if_pos gn] at HSn2
        clear HSN
        go_wp2_with (at_builtin; refine Hold.out ?_)
        refine Hold.mk ?_
        refine wpList_push HS6.out 0 rfl x1 x2 rfl _ _ rfl rfl rfl hal ?_
        intro q5 c5 w7 S7
        have HS7 := Lib.hid S7
        clear S7
        go_wp2_with fail
        go_roundg (gk - 1)
        case measure => omega
        case rel => exact ⟨k + 1, q5, c5, by omega, by go_num, by rw [HSn2.out, List.length_append]; rfl, by rw [HSn2.out]; exact HS7.out⟩
      · have g2 : decide ((n : Int) ≤ x1) = false := decide_eq_false gn
        have g3 : x1 < (n : Int) := by omega
        have HSn2 := HSN
        rw [if_neg gn, List.append_nil] at HSn2
        clear HSN gn
        go_wp2_with fail
        go_roundg (gk - 1)
        case measure => omega
        case rel => exact ⟨k + 1, q1, c1, by omega, by go_num, by rw [HSn2.out], by rw [HSn2.out]; exact HS6.out⟩
    · have hke : k = l.length := by omega
      subst hke
      rw [List.take_length] at *
      have g1 : decide (l.length < l.length) = false := by simp
      have HS1 := Lib.hid S1
      clear S1
      go_wp2_with fail
      go_ret
      exact ⟨q1, c1, rfl, HS1.out.drop (.cons_cons _ (.cons _ .slnil))⟩
end Go.Proofs.Ytfobeheplficgaa
/- A receiver is the document's: walked. -/
namespace Go.Proofs.Ytfobeheplficgaa
open Go.RowKit Go.Und Go.Shelf
attribute [local go_sem] Oper.semAt_some
attribute [local go_sem ↓] Go.wp_at_zero Go.wp_at_succ

set_option maxRecDepth 100000 in
set_option maxHeartbeats 8000000 in
theorem equal_yes (hp gp : Nat) (first : Int) (q : Option Addr) (c : Nat) (l : List (Int × Int)) (tq : Option Addr) (tc : Nat) (text : List Int) (rq : Option Addr) (rc : Nat) (ring : List Int) (room : Nat) (lq : Option Addr) (lc : Nat) (bq : Option Addr) (bc : Nat) (b : List Int) (w : World) (room' : Nat) (hok : HOk room' l b text ring) (hl : l.length ≤ 100000) (ht : text.length ≤ 100000000)
    (hh : Blk w hp HdT (hcs first gp tq tc text rq rc ring)) (g3 : w.cell? ⟨gp, 0, none⟩ = some (.slice q l.length c)) (hr : Reads w 2 q l.length c (fc spc l)) (htx : Reads w 1 tq text.length tc (fc u8c text)) (hlr : Reads w 2 lq l.length lc (fc spc l)) (hbr : Reads w 1 bq b.length bc (fc u8c b)) :
    Calls Try.prog 48 #[.pointer (at0 hp), .agg (r3c first room lq lc l bq bc b)] w fun e w' => e = .returned (.bool true) ∧ Fr None w w' := by
  have htb : text.length ≤ b.length := by have := congrArg List.length hok.tx; rw [List.length_take] at this; omega
  have E1 := Lib.hid (fun (V : World) (f : Fr None w V) => hnext_any hp text.length tq tc V ((hh.fr f id).cell 2))
  have E3 := Lib.hid (fun (V : World) (f : Fr None w V) => r3next_any first room lq lc l bq bc b V (hlr.fr f (fun _ _ h => h)) (by omega))
  rw [hok.nx] at E3
  have E7 := Lib.hid (fun (V : World) (f : Fr None w V) => htext_any hp tq tc text V ht ((hh.fr f id).cell 2) (htx.fr f (fun _ _ h => h)))
  have E9 := Lib.hid (fun (V : World) (f : Fr None w V) => r3text_any first room lq lc l bq bc b text.length V (hlr.fr f (fun _ _ h => h)) (by omega) (hbr.fr f (fun _ _ h => h)) hok.nx htb)
  have hcut : Reads w 1 bq text.length bc (fc u8c text) := by
    have h := hbr.take htb
    rw [Nat.mul_one] at h
    have e := fc_take u8c_len b text.length
    rw [Nat.mul_one] at e
    rw [e, ← hok.tx] at h
    exact h
  have E10 := Lib.hid (fun (V : World) (f : Fr None w V) (p : Option Addr) (d : Nat) (hp' : Reads V 1 p text.length d (fc u8c text)) => bSame_refl p bq d bc text V hp' (hcut.fr f (fun _ _ h => h)) ht)
  have E14 := Lib.hid (fun (V : World) (f : Fr None w V) => abv_any hp gp first q c l tq tc text rq rc ring V hl ht (hh.fr f id) (cell_frN f g3) (hr.fr f (fun _ _ h => h)))
  have E16 := Lib.hid (fun (V : World) (f : Fr None w V) => r3above_any first room lq lc l bq bc b text.length V (hlr.fr f (fun _ _ h => h)) hl hok.nx)
  have hal := aboveF_len text.length l
  generalize aboveF text.length l = al at *
  have E17 := Lib.hid (fun (V : World) (p1 p2 : Option Addr) (d1 d2 : Nat) (h1 : (srow p1 d1 al).ok V) (h2 : (srow p2 d2 al).ok V) => spSame_refl p1 p2 d1 d2 al V (row_reads h1) (row_reads h2) (by omega))
  have E21 := Lib.hid (fun (V : World) (f : Fr None w V) => hbytes_any hp gp q c l V hok.ok hl ((hh.fr f id).cell 1) (cell_frN f g3) (hr.fr f (fun _ _ h => h)))
  have E24 := Lib.hid (fun (V : World) (f : Fr None w V) => rbytes_any lq lc l V hok.ok (hlr.fr f (fun _ _ h => h)) (by omega))
  have t1 : ((text.length : Int) == text.length) = true := by simp
  have t2 : (bytesL l == bytesL l) = true := by simp
  have HF0 := Lib.hid ((Fr.refl None w).alloc (.cells (r3c first room lq lc l bq bc b) R3T))
  have hS := (Blk.new w R3T (r3c first room lq lc l bq bc b))
  have c0 := hS.cell 0
  have c1 := hS.cell 1
  have c2 := hS.cell 2
  have c3 := hS.cell 3
  clear hS hok hh g3 hr htx hlr hbr htb hcut
  generalize bytesL l = bl at *
  go_enter Try.func48, Try.ntmps48
  go_wp2_with fail
  generalize w.alloc (.cells #[.int .u32 first, .int .i64 room, .slice lq l.length lc, .slice bq b.length bc] 83) = V at *
  refine wp_region_to (S := fun w' => w'.cell? ⟨w.heap.size, 0, none⟩ = some (.int .u32 first) ∧ w'.cell? ⟨w.heap.size, 1, none⟩ = some (.int .i64 room) ∧ w'.cell? ⟨w.heap.size, 2, none⟩ = some (.slice lq l.length lc) ∧ w'.cell? ⟨w.heap.size, 3, none⟩ = some (.slice bq b.length bc)) 28 (by kernel_rfl) ⟨c0, c1, c2, c3⟩ (fun hHeld => ?_)
  have F := HF0.out.drew
  clear HF0
  refine wpTo_take (i := 0) (v := ?_) rfl (by kernel_rfl) (fun _ _ _ h => h) (Or.inl ⟨by rfl, ?_⟩) hHeld ?_
  rotate_left
  · (intro w' hSw; (try dsimp only at hSw); go_simp <;> with_reducible rfl)
  simp only [Act.put, List.setIfInBounds_toArray, List.set_cons_zero, List.set_cons_succ, List.getElem_toArray, List.getElem_cons_succ, List.getElem_cons_zero]
  refine wpTo_take (i := 2) (v := ?_) rfl (by kernel_rfl) (fun _ _ _ h => h) (Or.inl ⟨by rfl, ?_⟩) hHeld ?_
  rotate_left
  · (intro w' hSw; (try dsimp only at hSw); go_simp <;> with_reducible rfl)
  simp only [Act.put, List.setIfInBounds_toArray, List.set_cons_zero, List.set_cons_succ, List.getElem_toArray, List.getElem_cons_succ, List.getElem_cons_zero]
  refine wpTo_mid (i := 1) (by kernel_rfl) rfl (fun K hK => ?_)
  go_simp
  refine (E1.out _ F).mono ?_
  rintro y w1 ⟨rfl, rfl⟩
  refine hK.out _ _ hHeld (fun hHeld => ?_)
  clear hK K
  try simp only [Act.put, List.setIfInBounds_toArray, List.set_cons_zero, List.set_cons_succ, List.getElem_toArray, List.getElem_cons_succ, List.getElem_cons_zero]
  refine wpTo_mid (i := 3) (by kernel_rfl) rfl (fun K hK => ?_)
  go_simp
  refine (E3.out _ F).mono ?_
  rintro y w3 ⟨rfl, G⟩
  refine hK.out _ _ ⟨cell_frN G hHeld.1, cell_frN G hHeld.2.1, cell_frN G hHeld.2.2.1, cell_frN G hHeld.2.2.2⟩ (fun hHeld => ?_)
  replace F := F.trans G
  clear G
  clear hK K
  try simp only [Act.put, List.setIfInBounds_toArray, List.set_cons_zero, List.set_cons_succ, List.getElem_toArray, List.getElem_cons_succ, List.getElem_cons_zero]
  refine wpTo_take (i := 4) (v := ?_) rfl (by kernel_rfl) (fun _ _ _ h => h) (Or.inl ⟨by rfl, ?_⟩) hHeld ?_
  rotate_left
  · (intro w' hSw; (try dsimp only at hSw); go_simp <;> with_reducible rfl)
  simp only [Act.put, List.setIfInBounds_toArray, List.set_cons_zero, List.set_cons_succ, List.getElem_toArray, List.getElem_cons_succ, List.getElem_cons_zero]
  refine wpTo_take (i := 5) (v := ?_) rfl (by kernel_rfl) (fun _ _ _ h => h) (Or.inl ⟨by rfl, ?_⟩) hHeld ?_
  rotate_left
  · (intro w' hSw; (try dsimp only at hSw); go_simp <;> with_reducible rfl)
  simp only [Act.put, List.setIfInBounds_toArray, List.set_cons_zero, List.set_cons_succ, List.getElem_toArray, List.getElem_cons_succ, List.getElem_cons_zero]
  refine wpTo_take (i := 6) (v := ?_) rfl (by kernel_rfl) (fun _ _ _ h => h) (Or.inl ⟨by rfl, ?_⟩) hHeld ?_
  rotate_left
  · (intro w' hSw; (try dsimp only at hSw); go_simp <;> with_reducible rfl)
  simp only [Act.put, List.setIfInBounds_toArray, List.set_cons_zero, List.set_cons_succ, List.getElem_toArray, List.getElem_cons_succ, List.getElem_cons_zero]
  refine wpTo_take (i := 8) (v := ?_) rfl (by kernel_rfl) (fun _ _ _ h => h) (Or.inl ⟨by rfl, ?_⟩) hHeld ?_
  rotate_left
  · (intro w' hSw; (try dsimp only at hSw); go_simp <;> with_reducible rfl)
  simp only [Act.put, List.setIfInBounds_toArray, List.set_cons_zero, List.set_cons_succ, List.getElem_toArray, List.getElem_cons_succ, List.getElem_cons_zero]
  refine wpTo_mid (i := 7) (by kernel_rfl) rfl (fun K hK => ?_)
  go_simp
  refine (E7.out _ F).mono ?_
  rintro y w7 ⟨q7, k7, rfl, T7⟩
  have G := T7.fr
  refine hK.out _ _ ⟨cell_frN G hHeld.1, cell_frN G hHeld.2.1, cell_frN G hHeld.2.2.1, cell_frN G hHeld.2.2.2⟩ (fun hHeld => ?_)
  replace F := F.trans G
  clear G
  clear hK K
  try simp only [Act.put, List.setIfInBounds_toArray, List.set_cons_zero, List.set_cons_succ, List.getElem_toArray, List.getElem_cons_succ, List.getElem_cons_zero]
  refine wpTo_mid (i := 9) (by kernel_rfl) rfl (fun K hK => ?_)
  go_simp
  refine (E9.out _ F).mono ?_
  rintro y w9 ⟨rfl, G⟩
  replace T7 := T7.same G
  refine hK.out _ _ ⟨cell_frN G hHeld.1, cell_frN G hHeld.2.1, cell_frN G hHeld.2.2.1, cell_frN G hHeld.2.2.2⟩ (fun hHeld => ?_)
  replace F := F.trans G
  clear G
  clear hK K
  try simp only [Act.put, List.setIfInBounds_toArray, List.set_cons_zero, List.set_cons_succ, List.getElem_toArray, List.getElem_cons_succ, List.getElem_cons_zero]
  refine wpTo_mid (i := 10) (by kernel_rfl) rfl (fun K hK => ?_)
  go_simp
  refine (E10.out _ F q7 k7 (Owns.reads (show Owns u8c 1 U8T _ _ text from T7.at_ 0 rfl)).2.1).mono ?_
  rintro y w10 ⟨rfl, G⟩
  refine hK.out _ _ ⟨cell_frN G hHeld.1, cell_frN G hHeld.2.1, cell_frN G hHeld.2.2.1, cell_frN G hHeld.2.2.2⟩ (fun hHeld => ?_)
  replace F := F.trans G
  clear G
  clear hK K
  try simp only [Act.put, List.setIfInBounds_toArray, List.set_cons_zero, List.set_cons_succ, List.getElem_toArray, List.getElem_cons_succ, List.getElem_cons_zero]
  refine wpTo_take (i := 11) (v := ?_) rfl (by kernel_rfl) (fun _ _ _ h => h) (Or.inl ⟨by rfl, ?_⟩) hHeld ?_
  rotate_left
  · (intro w' hSw; (try dsimp only at hSw); go_simp <;> with_reducible rfl)
  simp only [Act.put, List.setIfInBounds_toArray, List.set_cons_zero, List.set_cons_succ, List.getElem_toArray, List.getElem_cons_succ, List.getElem_cons_zero]
  refine wpTo_take (i := 12) (v := ?_) rfl (by kernel_rfl) (fun _ _ _ h => h) (Or.inl ⟨by rfl, ?_⟩) hHeld ?_
  rotate_left
  · (intro w' hSw; (try dsimp only at hSw); go_simp <;> with_reducible rfl)
  simp only [Act.put, List.setIfInBounds_toArray, List.set_cons_zero, List.set_cons_succ, List.getElem_toArray, List.getElem_cons_succ, List.getElem_cons_zero]
  refine wpTo_take (i := 13) (v := ?_) rfl (by kernel_rfl) (fun _ _ _ h => h) (Or.inl ⟨by rfl, ?_⟩) hHeld ?_
  rotate_left
  · (intro w' hSw; (try dsimp only at hSw); go_simp <;> with_reducible rfl)
  simp only [Act.put, List.setIfInBounds_toArray, List.set_cons_zero, List.set_cons_succ, List.getElem_toArray, List.getElem_cons_succ, List.getElem_cons_zero]
  refine wpTo_take (i := 15) (v := ?_) rfl (by kernel_rfl) (fun _ _ _ h => h) (Or.inl ⟨by rfl, ?_⟩) hHeld ?_
  rotate_left
  · (intro w' hSw; (try dsimp only at hSw); go_simp <;> with_reducible rfl)
  simp only [Act.put, List.setIfInBounds_toArray, List.set_cons_zero, List.set_cons_succ, List.getElem_toArray, List.getElem_cons_succ, List.getElem_cons_zero]
  refine wpTo_mid (i := 14) (by kernel_rfl) rfl (fun K hK => ?_)
  go_simp
  refine (E14.out _ F).mono ?_
  rintro y w14 ⟨q14, k14, rfl, T14⟩
  have G := T14.fr
  refine hK.out _ _ ⟨cell_frN G hHeld.1, cell_frN G hHeld.2.1, cell_frN G hHeld.2.2.1, cell_frN G hHeld.2.2.2⟩ (fun hHeld => ?_)
  replace F := F.trans G
  clear G
  clear hK K
  try simp only [Act.put, List.setIfInBounds_toArray, List.set_cons_zero, List.set_cons_succ, List.getElem_toArray, List.getElem_cons_succ, List.getElem_cons_zero]
  refine wpTo_mid (i := 16) (by kernel_rfl) rfl (fun K hK => ?_)
  go_simp
  refine (E16.out _ F).mono ?_
  rintro y w16 ⟨q16, k16, rfl, T16⟩
  have G := T16.fr
  replace T14 := T14.same G
  refine hK.out _ _ ⟨cell_frN G hHeld.1, cell_frN G hHeld.2.1, cell_frN G hHeld.2.2.1, cell_frN G hHeld.2.2.2⟩ (fun hHeld => ?_)
  replace F := F.trans G
  clear G
  clear hK K
  try simp only [Act.put, List.setIfInBounds_toArray, List.set_cons_zero, List.set_cons_succ, List.getElem_toArray, List.getElem_cons_succ, List.getElem_cons_zero]
  refine wpTo_mid (i := 17) (by kernel_rfl) rfl (fun K hK => ?_)
  go_simp
  refine (E17.out _ q14 q16 k14 k16 (T14.at_ 0 rfl) (T16.at_ 0 rfl)).mono ?_
  rintro y w17 ⟨rfl, G⟩
  refine hK.out _ _ ⟨cell_frN G hHeld.1, cell_frN G hHeld.2.1, cell_frN G hHeld.2.2.1, cell_frN G hHeld.2.2.2⟩ (fun hHeld => ?_)
  replace F := F.trans G
  clear G
  clear hK K
  try simp only [Act.put, List.setIfInBounds_toArray, List.set_cons_zero, List.set_cons_succ, List.getElem_toArray, List.getElem_cons_succ, List.getElem_cons_zero]
  refine wpTo_take (i := 18) (v := ?_) rfl (by kernel_rfl) (fun _ _ _ h => h) (Or.inl ⟨by rfl, ?_⟩) hHeld ?_
  rotate_left
  · (intro w' hSw; (try dsimp only at hSw); go_simp <;> with_reducible rfl)
  simp only [Act.put, List.setIfInBounds_toArray, List.set_cons_zero, List.set_cons_succ, List.getElem_toArray, List.getElem_cons_succ, List.getElem_cons_zero]
  refine wpTo_take (i := 19) (v := ?_) rfl (by kernel_rfl) (fun _ _ _ h => h) (Or.inl ⟨by rfl, ?_⟩) hHeld ?_
  rotate_left
  · (intro w' hSw; (try dsimp only at hSw); go_simp <;> with_reducible rfl)
  simp only [Act.put, List.setIfInBounds_toArray, List.set_cons_zero, List.set_cons_succ, List.getElem_toArray, List.getElem_cons_succ, List.getElem_cons_zero]
  refine wpTo_take (i := 20) (v := ?_) rfl (by kernel_rfl) (fun _ _ _ h => h) (Or.inl ⟨by rfl, ?_⟩) hHeld ?_
  rotate_left
  · (intro w' hSw; (try dsimp only at hSw); go_simp <;> with_reducible rfl)
  simp only [Act.put, List.setIfInBounds_toArray, List.set_cons_zero, List.set_cons_succ, List.getElem_toArray, List.getElem_cons_succ, List.getElem_cons_zero]
  refine wpTo_take (i := 22) (v := ?_) rfl (by kernel_rfl) (fun _ _ _ h => h) (Or.inl ⟨by rfl, ?_⟩) hHeld ?_
  rotate_left
  · (intro w' hSw; (try dsimp only at hSw); go_simp <;> with_reducible rfl)
  simp only [Act.put, List.setIfInBounds_toArray, List.set_cons_zero, List.set_cons_succ, List.getElem_toArray, List.getElem_cons_succ, List.getElem_cons_zero]
  refine wpTo_take (i := 23) (v := ?_) rfl (by kernel_rfl) (fun _ _ _ h => h) (Or.inl ⟨by rfl, ?_⟩) hHeld ?_
  rotate_left
  · (intro w' hSw; (try dsimp only at hSw); go_simp <;> with_reducible rfl)
  simp only [Act.put, List.setIfInBounds_toArray, List.set_cons_zero, List.set_cons_succ, List.getElem_toArray, List.getElem_cons_succ, List.getElem_cons_zero]
  refine wpTo_mid (i := 21) (by kernel_rfl) rfl (fun K hK => ?_)
  go_simp
  refine (E21.out _ F).mono ?_
  rintro y w21 ⟨rfl, G⟩
  refine hK.out _ _ ⟨cell_frN G hHeld.1, cell_frN G hHeld.2.1, cell_frN G hHeld.2.2.1, cell_frN G hHeld.2.2.2⟩ (fun hHeld => ?_)
  replace F := F.trans G
  clear G
  clear hK K
  try simp only [Act.put, List.setIfInBounds_toArray, List.set_cons_zero, List.set_cons_succ, List.getElem_toArray, List.getElem_cons_succ, List.getElem_cons_zero]
  refine wpTo_mid (i := 24) (by kernel_rfl) rfl (fun K hK => ?_)
  go_simp
  refine (E24.out _ F).mono ?_
  rintro y w24 ⟨rfl, G⟩
  refine hK.out _ _ ⟨cell_frN G hHeld.1, cell_frN G hHeld.2.1, cell_frN G hHeld.2.2.1, cell_frN G hHeld.2.2.2⟩ (fun hHeld => ?_)
  replace F := F.trans G
  clear G
  clear hK K
  try simp only [Act.put, List.setIfInBounds_toArray, List.set_cons_zero, List.set_cons_succ, List.getElem_toArray, List.getElem_cons_succ, List.getElem_cons_zero]
  refine wpTo_take (i := 25) (v := ?_) rfl (by kernel_rfl) (fun _ _ _ h => h) (Or.inl ⟨by rfl, ?_⟩) hHeld ?_
  rotate_left
  · (intro w' hSw; (try dsimp only at hSw); go_simp <;> with_reducible rfl)
  simp only [Act.put, List.setIfInBounds_toArray, List.set_cons_zero, List.set_cons_succ, List.getElem_toArray, List.getElem_cons_succ, List.getElem_cons_zero]
  refine wpTo_take (i := 26) (v := ?_) rfl (by kernel_rfl) (fun _ _ _ h => h) (Or.inl ⟨by rfl, ?_⟩) hHeld ?_
  rotate_left
  · (intro w' hSw; (try dsimp only at hSw); go_simp <;> with_reducible rfl)
  simp only [Act.put, List.setIfInBounds_toArray, List.set_cons_zero, List.set_cons_succ, List.getElem_toArray, List.getElem_cons_succ, List.getElem_cons_zero]
  refine wpTo_take (i := 27) (v := ?_) rfl (by kernel_rfl) (fun _ _ _ h => h) (Or.inl ⟨by rfl, ?_⟩) hHeld ?_
  rotate_left
  · (intro w' hSw; (try dsimp only at hSw); go_simp <;> with_reducible rfl)
  simp only [Act.put, List.setIfInBounds_toArray, List.set_cons_zero, List.set_cons_succ, List.getElem_toArray, List.getElem_cons_succ, List.getElem_cons_zero]
  refine wpTo_done (by kernel_rfl) ?_ _
  go_wp2_with fail
  go_ret
  exact ⟨by simp, F⟩
end Go.Proofs.Ytfobeheplficgaa
/- What the document says of Take, when it does not take: walked. -/
namespace Go.Proofs.Ytfobeheplficgaa
open Go.RowKit Go.Und Go.Shelf
attribute [local go_sem] Oper.semAt_some
attribute [local go_sem ↓] Go.wp_at_zero Go.wp_at_succ

def _root_.Go.Und.u32B (x : Int) : Prop := 0 ≤ x ∧ x < 4294967296
set_option maxRecDepth 100000 in
set_option maxHeartbeats 8000000 in
theorem r3take_short (first num : Int) (room : Nat) (lq : Option Addr) (lc : Nat) (l : List (Int × Int)) (bq : Option Addr) (bc : Nat) (b : List Int) (a : Option Addr) (len cap : Nat) (c : Int) (w : World) (hc : (len = 0 ∧ c = 6) ∨ (2048 < len ∧ c = 9)) :
    Calls Try.prog 47 #[.agg (r3c first room lq lc l bq bc b), .int .u32 num, .slice a len cap] w fun e w' => e = .returned (.tuple #[.agg (r3c first room lq lc l bq bc b), toldZ, .int .i64 c]) ∧ Fr None w w' := by
  rcases hc with ⟨rfl, rfl⟩ | ⟨h1, rfl⟩
  · go_enter Try.func47, Try.ntmps47
    go_wp2_with fail
    exact bodyPost_ret (v := .tuple #[.agg (r3c first room lq lc l bq bc b), toldZ, .int .i64 6]) (by simp [results, Try.results47, go_sem]) rfl ⟨rfl, (((Fr.refl None w).alloc _).alloc _).alloc _⟩
  · have h0 : 0 < len := by omega
    go_enter Try.func47, Try.ntmps47
    go_wp2_with fail
    exact bodyPost_ret (v := .tuple #[.agg (r3c first room lq lc l bq bc b), toldZ, .int .i64 9]) (by simp [results, Try.results47, go_sem]) rfl ⟨rfl, (((Fr.refl None w).alloc _).alloc _).alloc _⟩
set_option maxRecDepth 100000 in
set_option maxHeartbeats 8000000 in
theorem r3take_off (first num off : Int) (n room : Nat) (lq : Option Addr) (lc : Nat) (l : List (Int × Int)) (bq : Option Addr) (bc : Nat) (b : List Int) (a : Option Addr) (len cap : Nat) (c : Int) (w : World) (hr : Reads w 2 lq l.length lc (fc spc l)) (hl : l.length ≤ 1000000) (hn : gapL l 0 = n) (hn1 : n ≤ 100000000) (hroom : room ≤ 65536)
    (hu : u32B num) (hf : u32B first) (ho : offH n first num = off) (l0 : 0 < len) (l1 : len ≤ 2048) (hc : (off < 0 ∧ c = 11) ∨ (0 ≤ off ∧ (n : Int) + room < off + len ∧ c = 12)) :
    Calls Try.prog 47 #[.agg (r3c first room lq lc l bq bc b), .int .u32 num, .slice a len cap] w fun e w' => e = .returned (.tuple #[.agg (r3c first room lq lc l bq bc b), toldZ, .int .i64 c]) ∧ Fr None w w' := by
  obtain ⟨u0, u1⟩ := hu
  obtain ⟨f0, f1⟩ := hf
  have hb := sdI_bounds ((num - first) % 4294967296 - n)
  unfold offH at ho
  have HN := Lib.hid (fun (V : World) (f : Fr None w V) => r3next_any first room lq lc l bq bc b V (hr.fr f (fun _ _ h => h)) hl)
  rw [hn] at HN
  have HM := Lib.hid (fun V => rmod_any (num - first) V)
  have HU := Lib.hid (fun V => runwrap_any n ((num - first) % 4294967296) off V (by omega) (by omega) (by omega) (by omega) ho)
  have HS0 := Lib.hid (((Sep.law w).alloc (r3c first room lq lc l bq bc b) R3T).alloc #[.int .u32 0, .int .i64 0, .slice none 0 0, .slice none 0 0] R3T |>.alloc #[.int .i64 0, .int .i64 0, .int .i64 0, .bool false, .int .i64 0, .int .i64 0] Q3T)
  simp only [World.size_alloc] at HS0
  have o1 : off ≤ 1000000000000 := by omega
  have o2 : -1000000000000 ≤ off := by omega
  have wsum : IntKind.i64.wrap (off + (len : Int)) = off + len := IntWalk.i64_in _ (by omega)
  have wsum2 : IntKind.i64.wrap ((n : Int) + (room : Int)) = n + room := IntWalk.i64_in _ (by omega)
  generalize (num - first) % 4294967296 = tt at *
  clear hr hn hb ho
  rcases hc with ⟨h1, rfl⟩ | ⟨h1, h2, rfl⟩
  · rw [if_neg (by omega)] at HU
    go_enter Try.func47, Try.ntmps47
    go_wp2_with (first
      | ((with_reducible refine (HN.out _ HS0.out.fr).mono ?_); rintro y1 w1 ⟨rfl, F1⟩; have S1 := HS0.out.same F1; have b0' : w1.cell? ⟨w.heap.size, 0, none⟩ = some (.int .u32 first) := (S1.at_ 2 rfl).cell 0; have HS1 := Lib.hid S1; clear S1 F1)
      | ((with_reducible refine (HM.out _).mono ?_); rintro y2 w2 ⟨rfl, rfl⟩))
    refine (HU.out _).mono ?_
    rintro y3 w3 ⟨rfl, rfl⟩
    have S2 := HS1.out
    clear HS1 b0'
    have b0 : w3.cell? ⟨w.heap.size, 0, none⟩ = some (.int .u32 first) := (S2.at_ 2 rfl).cell 0
    have b1 : w3.cell? ⟨w.heap.size, 1, none⟩ = some (.int .i64 room) := (S2.at_ 2 rfl).cell 1
    have b2 : w3.cell? ⟨w.heap.size, 2, none⟩ = some (.slice lq l.length lc) := (S2.at_ 2 rfl).cell 2
    have b3 : w3.cell? ⟨w.heap.size, 3, none⟩ = some (.slice bq b.length bc) := (S2.at_ 2 rfl).cell 3
    have r0 : w3.cell? ⟨w.heap.size + 1, 0, none⟩ = some (.int .u32 0) := (S2.at_ 1 rfl).cell 0
    have y0 : w3.frozen? ⟨w.heap.size + 1, 0, none⟩ = false := (S2.at_ 1 rfl).frozen 0
    have r1 : w3.cell? ⟨w.heap.size + 1, 1, none⟩ = some (.int .i64 0) := (S2.at_ 1 rfl).cell 1
    have y1 : w3.frozen? ⟨w.heap.size + 1, 1, none⟩ = false := (S2.at_ 1 rfl).frozen 1
    have r2 : w3.cell? ⟨w.heap.size + 1, 2, none⟩ = some (.slice none 0 0) := (S2.at_ 1 rfl).cell 2
    have y2 : w3.frozen? ⟨w.heap.size + 1, 2, none⟩ = false := (S2.at_ 1 rfl).frozen 2
    have r3 : w3.cell? ⟨w.heap.size + 1, 3, none⟩ = some (.slice none 0 0) := (S2.at_ 1 rfl).cell 3
    have y3 : w3.frozen? ⟨w.heap.size + 1, 3, none⟩ = false := (S2.at_ 1 rfl).frozen 3
    have i0 : w3.cell? ⟨w.heap.size + 1 + 1, 0, none⟩ = some (.int .i64 0) := (S2.at_ 0 rfl).cell 0
    have z0 : w3.frozen? ⟨w.heap.size + 1 + 1, 0, none⟩ = false := (S2.at_ 0 rfl).frozen 0
    have i1 : w3.cell? ⟨w.heap.size + 1 + 1, 1, none⟩ = some (.int .i64 0) := (S2.at_ 0 rfl).cell 1
    have z1 : w3.frozen? ⟨w.heap.size + 1 + 1, 1, none⟩ = false := (S2.at_ 0 rfl).frozen 1
    have i2 : w3.cell? ⟨w.heap.size + 1 + 1, 2, none⟩ = some (.int .i64 0) := (S2.at_ 0 rfl).cell 2
    have z2 : w3.frozen? ⟨w.heap.size + 1 + 1, 2, none⟩ = false := (S2.at_ 0 rfl).frozen 2
    have i3 : w3.cell? ⟨w.heap.size + 1 + 1, 3, none⟩ = some (.bool false) := (S2.at_ 0 rfl).cell 3
    have z3 : w3.frozen? ⟨w.heap.size + 1 + 1, 3, none⟩ = false := (S2.at_ 0 rfl).frozen 3
    have i4 : w3.cell? ⟨w.heap.size + 1 + 1, 4, none⟩ = some (.int .i64 0) := (S2.at_ 0 rfl).cell 4
    have z4 : w3.frozen? ⟨w.heap.size + 1 + 1, 4, none⟩ = false := (S2.at_ 0 rfl).frozen 4
    have i5 : w3.cell? ⟨w.heap.size + 1 + 1, 5, none⟩ = some (.int .i64 0) := (S2.at_ 0 rfl).cell 5
    have z5 : w3.frozen? ⟨w.heap.size + 1 + 1, 5, none⟩ = false := (S2.at_ 0 rfl).frozen 5
    have S3 := ((((((((((S2.set 1 rfl 0 (.int .u32 first)).set 1 rfl 1 (.int .i64 room)).set 1 rfl 2 (.slice lq l.length lc)).set 1 rfl 3 (.slice bq b.length bc)).set 0 rfl 0 (.int .i64 0)).set 0 rfl 1 (.int .i64 0)).set 0 rfl 2 (.int .i64 0)).set 0 rfl 3 (.bool false)).set 0 rfl 4 (.int .i64 0)).set 0 rfl 5 (.int .i64 0))
    have k0 : ((((((((((w3.setCell ⟨w.heap.size + 1, 0, none⟩ (.int .u32 first)).setCell ⟨w.heap.size + 1, 1, none⟩ (.int .i64 room)).setCell ⟨w.heap.size + 1, 2, none⟩ (.slice lq l.length lc)).setCell ⟨w.heap.size + 1, 3, none⟩ (.slice bq b.length bc)).setCell ⟨w.heap.size + 1 + 1, 0, none⟩ (.int .i64 0)).setCell ⟨w.heap.size + 1 + 1, 1, none⟩ (.int .i64 0)).setCell ⟨w.heap.size + 1 + 1, 2, none⟩ (.int .i64 0)).setCell ⟨w.heap.size + 1 + 1, 3, none⟩ (.bool false)).setCell ⟨w.heap.size + 1 + 1, 4, none⟩ (.int .i64 0)).setCell ⟨w.heap.size + 1 + 1, 5, none⟩ (.int .i64 0)).cell? ⟨w.heap.size + 1, 0, none⟩ = some (.int .u32 first) := (S3.at_ 1 rfl).cell 0
    have k1 : ((((((((((w3.setCell ⟨w.heap.size + 1, 0, none⟩ (.int .u32 first)).setCell ⟨w.heap.size + 1, 1, none⟩ (.int .i64 room)).setCell ⟨w.heap.size + 1, 2, none⟩ (.slice lq l.length lc)).setCell ⟨w.heap.size + 1, 3, none⟩ (.slice bq b.length bc)).setCell ⟨w.heap.size + 1 + 1, 0, none⟩ (.int .i64 0)).setCell ⟨w.heap.size + 1 + 1, 1, none⟩ (.int .i64 0)).setCell ⟨w.heap.size + 1 + 1, 2, none⟩ (.int .i64 0)).setCell ⟨w.heap.size + 1 + 1, 3, none⟩ (.bool false)).setCell ⟨w.heap.size + 1 + 1, 4, none⟩ (.int .i64 0)).setCell ⟨w.heap.size + 1 + 1, 5, none⟩ (.int .i64 0)).cell? ⟨w.heap.size + 1, 1, none⟩ = some (.int .i64 room) := (S3.at_ 1 rfl).cell 1
    have k2 : ((((((((((w3.setCell ⟨w.heap.size + 1, 0, none⟩ (.int .u32 first)).setCell ⟨w.heap.size + 1, 1, none⟩ (.int .i64 room)).setCell ⟨w.heap.size + 1, 2, none⟩ (.slice lq l.length lc)).setCell ⟨w.heap.size + 1, 3, none⟩ (.slice bq b.length bc)).setCell ⟨w.heap.size + 1 + 1, 0, none⟩ (.int .i64 0)).setCell ⟨w.heap.size + 1 + 1, 1, none⟩ (.int .i64 0)).setCell ⟨w.heap.size + 1 + 1, 2, none⟩ (.int .i64 0)).setCell ⟨w.heap.size + 1 + 1, 3, none⟩ (.bool false)).setCell ⟨w.heap.size + 1 + 1, 4, none⟩ (.int .i64 0)).setCell ⟨w.heap.size + 1 + 1, 5, none⟩ (.int .i64 0)).cell? ⟨w.heap.size + 1, 2, none⟩ = some (.slice lq l.length lc) := (S3.at_ 1 rfl).cell 2
    have k3 : ((((((((((w3.setCell ⟨w.heap.size + 1, 0, none⟩ (.int .u32 first)).setCell ⟨w.heap.size + 1, 1, none⟩ (.int .i64 room)).setCell ⟨w.heap.size + 1, 2, none⟩ (.slice lq l.length lc)).setCell ⟨w.heap.size + 1, 3, none⟩ (.slice bq b.length bc)).setCell ⟨w.heap.size + 1 + 1, 0, none⟩ (.int .i64 0)).setCell ⟨w.heap.size + 1 + 1, 1, none⟩ (.int .i64 0)).setCell ⟨w.heap.size + 1 + 1, 2, none⟩ (.int .i64 0)).setCell ⟨w.heap.size + 1 + 1, 3, none⟩ (.bool false)).setCell ⟨w.heap.size + 1 + 1, 4, none⟩ (.int .i64 0)).setCell ⟨w.heap.size + 1 + 1, 5, none⟩ (.int .i64 0)).cell? ⟨w.heap.size + 1, 3, none⟩ = some (.slice bq b.length bc) := (S3.at_ 1 rfl).cell 3
    have j0 : ((((((((((w3.setCell ⟨w.heap.size + 1, 0, none⟩ (.int .u32 first)).setCell ⟨w.heap.size + 1, 1, none⟩ (.int .i64 room)).setCell ⟨w.heap.size + 1, 2, none⟩ (.slice lq l.length lc)).setCell ⟨w.heap.size + 1, 3, none⟩ (.slice bq b.length bc)).setCell ⟨w.heap.size + 1 + 1, 0, none⟩ (.int .i64 0)).setCell ⟨w.heap.size + 1 + 1, 1, none⟩ (.int .i64 0)).setCell ⟨w.heap.size + 1 + 1, 2, none⟩ (.int .i64 0)).setCell ⟨w.heap.size + 1 + 1, 3, none⟩ (.bool false)).setCell ⟨w.heap.size + 1 + 1, 4, none⟩ (.int .i64 0)).setCell ⟨w.heap.size + 1 + 1, 5, none⟩ (.int .i64 0)).cell? ⟨w.heap.size + 1 + 1, 0, none⟩ = some (.int .i64 0) := (S3.at_ 0 rfl).cell 0
    have j1 : ((((((((((w3.setCell ⟨w.heap.size + 1, 0, none⟩ (.int .u32 first)).setCell ⟨w.heap.size + 1, 1, none⟩ (.int .i64 room)).setCell ⟨w.heap.size + 1, 2, none⟩ (.slice lq l.length lc)).setCell ⟨w.heap.size + 1, 3, none⟩ (.slice bq b.length bc)).setCell ⟨w.heap.size + 1 + 1, 0, none⟩ (.int .i64 0)).setCell ⟨w.heap.size + 1 + 1, 1, none⟩ (.int .i64 0)).setCell ⟨w.heap.size + 1 + 1, 2, none⟩ (.int .i64 0)).setCell ⟨w.heap.size + 1 + 1, 3, none⟩ (.bool false)).setCell ⟨w.heap.size + 1 + 1, 4, none⟩ (.int .i64 0)).setCell ⟨w.heap.size + 1 + 1, 5, none⟩ (.int .i64 0)).cell? ⟨w.heap.size + 1 + 1, 1, none⟩ = some (.int .i64 0) := (S3.at_ 0 rfl).cell 1
    have j2 : ((((((((((w3.setCell ⟨w.heap.size + 1, 0, none⟩ (.int .u32 first)).setCell ⟨w.heap.size + 1, 1, none⟩ (.int .i64 room)).setCell ⟨w.heap.size + 1, 2, none⟩ (.slice lq l.length lc)).setCell ⟨w.heap.size + 1, 3, none⟩ (.slice bq b.length bc)).setCell ⟨w.heap.size + 1 + 1, 0, none⟩ (.int .i64 0)).setCell ⟨w.heap.size + 1 + 1, 1, none⟩ (.int .i64 0)).setCell ⟨w.heap.size + 1 + 1, 2, none⟩ (.int .i64 0)).setCell ⟨w.heap.size + 1 + 1, 3, none⟩ (.bool false)).setCell ⟨w.heap.size + 1 + 1, 4, none⟩ (.int .i64 0)).setCell ⟨w.heap.size + 1 + 1, 5, none⟩ (.int .i64 0)).cell? ⟨w.heap.size + 1 + 1, 2, none⟩ = some (.int .i64 0) := (S3.at_ 0 rfl).cell 2
    have j3 : ((((((((((w3.setCell ⟨w.heap.size + 1, 0, none⟩ (.int .u32 first)).setCell ⟨w.heap.size + 1, 1, none⟩ (.int .i64 room)).setCell ⟨w.heap.size + 1, 2, none⟩ (.slice lq l.length lc)).setCell ⟨w.heap.size + 1, 3, none⟩ (.slice bq b.length bc)).setCell ⟨w.heap.size + 1 + 1, 0, none⟩ (.int .i64 0)).setCell ⟨w.heap.size + 1 + 1, 1, none⟩ (.int .i64 0)).setCell ⟨w.heap.size + 1 + 1, 2, none⟩ (.int .i64 0)).setCell ⟨w.heap.size + 1 + 1, 3, none⟩ (.bool false)).setCell ⟨w.heap.size + 1 + 1, 4, none⟩ (.int .i64 0)).setCell ⟨w.heap.size + 1 + 1, 5, none⟩ (.int .i64 0)).cell? ⟨w.heap.size + 1 + 1, 3, none⟩ = some (.bool false) := (S3.at_ 0 rfl).cell 3
    have j4 : ((((((((((w3.setCell ⟨w.heap.size + 1, 0, none⟩ (.int .u32 first)).setCell ⟨w.heap.size + 1, 1, none⟩ (.int .i64 room)).setCell ⟨w.heap.size + 1, 2, none⟩ (.slice lq l.length lc)).setCell ⟨w.heap.size + 1, 3, none⟩ (.slice bq b.length bc)).setCell ⟨w.heap.size + 1 + 1, 0, none⟩ (.int .i64 0)).setCell ⟨w.heap.size + 1 + 1, 1, none⟩ (.int .i64 0)).setCell ⟨w.heap.size + 1 + 1, 2, none⟩ (.int .i64 0)).setCell ⟨w.heap.size + 1 + 1, 3, none⟩ (.bool false)).setCell ⟨w.heap.size + 1 + 1, 4, none⟩ (.int .i64 0)).setCell ⟨w.heap.size + 1 + 1, 5, none⟩ (.int .i64 0)).cell? ⟨w.heap.size + 1 + 1, 4, none⟩ = some (.int .i64 0) := (S3.at_ 0 rfl).cell 4
    have j5 : ((((((((((w3.setCell ⟨w.heap.size + 1, 0, none⟩ (.int .u32 first)).setCell ⟨w.heap.size + 1, 1, none⟩ (.int .i64 room)).setCell ⟨w.heap.size + 1, 2, none⟩ (.slice lq l.length lc)).setCell ⟨w.heap.size + 1, 3, none⟩ (.slice bq b.length bc)).setCell ⟨w.heap.size + 1 + 1, 0, none⟩ (.int .i64 0)).setCell ⟨w.heap.size + 1 + 1, 1, none⟩ (.int .i64 0)).setCell ⟨w.heap.size + 1 + 1, 2, none⟩ (.int .i64 0)).setCell ⟨w.heap.size + 1 + 1, 3, none⟩ (.bool false)).setCell ⟨w.heap.size + 1 + 1, 4, none⟩ (.int .i64 0)).setCell ⟨w.heap.size + 1 + 1, 5, none⟩ (.int .i64 0)).cell? ⟨w.heap.size + 1 + 1, 5, none⟩ = some (.int .i64 0) := (S3.at_ 0 rfl).cell 5
    have HJ := Lib.hid (show _ ∧ _ ∧ _ ∧ _ ∧ _ ∧ _ ∧ _ ∧ _ ∧ _ ∧ _ from ⟨k0, k1, k2, k3, j0, j1, j2, j3, j4, j5⟩)
    have HS3 := Lib.hid S3.fr
    clear S3 S2 k0 k1 k2 k3 j0 j1 j2 j3 j4 j5
    go_wp2_with fail
    obtain ⟨k0, k1, k2, k3, j0, j1, j2, j3, j4, j5⟩ := HJ.out
    exact bodyPost_ret (v := .tuple #[.agg (r3c first room lq lc l bq bc b), toldZ, .int .i64 11]) (by simp [results, Try.results47, go_sem, k0, k1, k2, k3, j0, j1, j2, j3, j4, j5]) rfl ⟨rfl, HS3.out⟩
  · rw [if_pos h1] at HU
    have g2 : decide ((n : Int) + room < off + len) = true := decide_eq_true h2
    go_enter Try.func47, Try.ntmps47
    go_wp2_with (first
      | ((with_reducible refine (HN.out _ HS0.out.fr).mono ?_); rintro y1 w1 ⟨rfl, F1⟩; have S1 := HS0.out.same F1; have b0' : w1.cell? ⟨w.heap.size, 0, none⟩ = some (.int .u32 first) := (S1.at_ 2 rfl).cell 0; have HS1 := Lib.hid S1; clear S1 F1)
      | ((with_reducible refine (HM.out _).mono ?_); rintro y2 w2 ⟨rfl, rfl⟩))
    refine (HU.out _).mono ?_
    rintro y3 w3 ⟨rfl, rfl⟩
    have S2 := HS1.out
    clear HS1 b0'
    have b0 : w3.cell? ⟨w.heap.size, 0, none⟩ = some (.int .u32 first) := (S2.at_ 2 rfl).cell 0
    have b1 : w3.cell? ⟨w.heap.size, 1, none⟩ = some (.int .i64 room) := (S2.at_ 2 rfl).cell 1
    have b2 : w3.cell? ⟨w.heap.size, 2, none⟩ = some (.slice lq l.length lc) := (S2.at_ 2 rfl).cell 2
    have b3 : w3.cell? ⟨w.heap.size, 3, none⟩ = some (.slice bq b.length bc) := (S2.at_ 2 rfl).cell 3
    have r0 : w3.cell? ⟨w.heap.size + 1, 0, none⟩ = some (.int .u32 0) := (S2.at_ 1 rfl).cell 0
    have y0 : w3.frozen? ⟨w.heap.size + 1, 0, none⟩ = false := (S2.at_ 1 rfl).frozen 0
    have r1 : w3.cell? ⟨w.heap.size + 1, 1, none⟩ = some (.int .i64 0) := (S2.at_ 1 rfl).cell 1
    have y1 : w3.frozen? ⟨w.heap.size + 1, 1, none⟩ = false := (S2.at_ 1 rfl).frozen 1
    have r2 : w3.cell? ⟨w.heap.size + 1, 2, none⟩ = some (.slice none 0 0) := (S2.at_ 1 rfl).cell 2
    have y2 : w3.frozen? ⟨w.heap.size + 1, 2, none⟩ = false := (S2.at_ 1 rfl).frozen 2
    have r3 : w3.cell? ⟨w.heap.size + 1, 3, none⟩ = some (.slice none 0 0) := (S2.at_ 1 rfl).cell 3
    have y3 : w3.frozen? ⟨w.heap.size + 1, 3, none⟩ = false := (S2.at_ 1 rfl).frozen 3
    have i0 : w3.cell? ⟨w.heap.size + 1 + 1, 0, none⟩ = some (.int .i64 0) := (S2.at_ 0 rfl).cell 0
    have z0 : w3.frozen? ⟨w.heap.size + 1 + 1, 0, none⟩ = false := (S2.at_ 0 rfl).frozen 0
    have i1 : w3.cell? ⟨w.heap.size + 1 + 1, 1, none⟩ = some (.int .i64 0) := (S2.at_ 0 rfl).cell 1
    have z1 : w3.frozen? ⟨w.heap.size + 1 + 1, 1, none⟩ = false := (S2.at_ 0 rfl).frozen 1
    have i2 : w3.cell? ⟨w.heap.size + 1 + 1, 2, none⟩ = some (.int .i64 0) := (S2.at_ 0 rfl).cell 2
    have z2 : w3.frozen? ⟨w.heap.size + 1 + 1, 2, none⟩ = false := (S2.at_ 0 rfl).frozen 2
    have i3 : w3.cell? ⟨w.heap.size + 1 + 1, 3, none⟩ = some (.bool false) := (S2.at_ 0 rfl).cell 3
    have z3 : w3.frozen? ⟨w.heap.size + 1 + 1, 3, none⟩ = false := (S2.at_ 0 rfl).frozen 3
    have i4 : w3.cell? ⟨w.heap.size + 1 + 1, 4, none⟩ = some (.int .i64 0) := (S2.at_ 0 rfl).cell 4
    have z4 : w3.frozen? ⟨w.heap.size + 1 + 1, 4, none⟩ = false := (S2.at_ 0 rfl).frozen 4
    have i5 : w3.cell? ⟨w.heap.size + 1 + 1, 5, none⟩ = some (.int .i64 0) := (S2.at_ 0 rfl).cell 5
    have z5 : w3.frozen? ⟨w.heap.size + 1 + 1, 5, none⟩ = false := (S2.at_ 0 rfl).frozen 5
    have S3 := ((((((((((S2.set 1 rfl 0 (.int .u32 first)).set 1 rfl 1 (.int .i64 room)).set 1 rfl 2 (.slice lq l.length lc)).set 1 rfl 3 (.slice bq b.length bc)).set 0 rfl 0 (.int .i64 0)).set 0 rfl 1 (.int .i64 0)).set 0 rfl 2 (.int .i64 0)).set 0 rfl 3 (.bool false)).set 0 rfl 4 (.int .i64 0)).set 0 rfl 5 (.int .i64 0))
    have k0 : ((((((((((w3.setCell ⟨w.heap.size + 1, 0, none⟩ (.int .u32 first)).setCell ⟨w.heap.size + 1, 1, none⟩ (.int .i64 room)).setCell ⟨w.heap.size + 1, 2, none⟩ (.slice lq l.length lc)).setCell ⟨w.heap.size + 1, 3, none⟩ (.slice bq b.length bc)).setCell ⟨w.heap.size + 1 + 1, 0, none⟩ (.int .i64 0)).setCell ⟨w.heap.size + 1 + 1, 1, none⟩ (.int .i64 0)).setCell ⟨w.heap.size + 1 + 1, 2, none⟩ (.int .i64 0)).setCell ⟨w.heap.size + 1 + 1, 3, none⟩ (.bool false)).setCell ⟨w.heap.size + 1 + 1, 4, none⟩ (.int .i64 0)).setCell ⟨w.heap.size + 1 + 1, 5, none⟩ (.int .i64 0)).cell? ⟨w.heap.size + 1, 0, none⟩ = some (.int .u32 first) := (S3.at_ 1 rfl).cell 0
    have k1 : ((((((((((w3.setCell ⟨w.heap.size + 1, 0, none⟩ (.int .u32 first)).setCell ⟨w.heap.size + 1, 1, none⟩ (.int .i64 room)).setCell ⟨w.heap.size + 1, 2, none⟩ (.slice lq l.length lc)).setCell ⟨w.heap.size + 1, 3, none⟩ (.slice bq b.length bc)).setCell ⟨w.heap.size + 1 + 1, 0, none⟩ (.int .i64 0)).setCell ⟨w.heap.size + 1 + 1, 1, none⟩ (.int .i64 0)).setCell ⟨w.heap.size + 1 + 1, 2, none⟩ (.int .i64 0)).setCell ⟨w.heap.size + 1 + 1, 3, none⟩ (.bool false)).setCell ⟨w.heap.size + 1 + 1, 4, none⟩ (.int .i64 0)).setCell ⟨w.heap.size + 1 + 1, 5, none⟩ (.int .i64 0)).cell? ⟨w.heap.size + 1, 1, none⟩ = some (.int .i64 room) := (S3.at_ 1 rfl).cell 1
    have k2 : ((((((((((w3.setCell ⟨w.heap.size + 1, 0, none⟩ (.int .u32 first)).setCell ⟨w.heap.size + 1, 1, none⟩ (.int .i64 room)).setCell ⟨w.heap.size + 1, 2, none⟩ (.slice lq l.length lc)).setCell ⟨w.heap.size + 1, 3, none⟩ (.slice bq b.length bc)).setCell ⟨w.heap.size + 1 + 1, 0, none⟩ (.int .i64 0)).setCell ⟨w.heap.size + 1 + 1, 1, none⟩ (.int .i64 0)).setCell ⟨w.heap.size + 1 + 1, 2, none⟩ (.int .i64 0)).setCell ⟨w.heap.size + 1 + 1, 3, none⟩ (.bool false)).setCell ⟨w.heap.size + 1 + 1, 4, none⟩ (.int .i64 0)).setCell ⟨w.heap.size + 1 + 1, 5, none⟩ (.int .i64 0)).cell? ⟨w.heap.size + 1, 2, none⟩ = some (.slice lq l.length lc) := (S3.at_ 1 rfl).cell 2
    have k3 : ((((((((((w3.setCell ⟨w.heap.size + 1, 0, none⟩ (.int .u32 first)).setCell ⟨w.heap.size + 1, 1, none⟩ (.int .i64 room)).setCell ⟨w.heap.size + 1, 2, none⟩ (.slice lq l.length lc)).setCell ⟨w.heap.size + 1, 3, none⟩ (.slice bq b.length bc)).setCell ⟨w.heap.size + 1 + 1, 0, none⟩ (.int .i64 0)).setCell ⟨w.heap.size + 1 + 1, 1, none⟩ (.int .i64 0)).setCell ⟨w.heap.size + 1 + 1, 2, none⟩ (.int .i64 0)).setCell ⟨w.heap.size + 1 + 1, 3, none⟩ (.bool false)).setCell ⟨w.heap.size + 1 + 1, 4, none⟩ (.int .i64 0)).setCell ⟨w.heap.size + 1 + 1, 5, none⟩ (.int .i64 0)).cell? ⟨w.heap.size + 1, 3, none⟩ = some (.slice bq b.length bc) := (S3.at_ 1 rfl).cell 3
    have j0 : ((((((((((w3.setCell ⟨w.heap.size + 1, 0, none⟩ (.int .u32 first)).setCell ⟨w.heap.size + 1, 1, none⟩ (.int .i64 room)).setCell ⟨w.heap.size + 1, 2, none⟩ (.slice lq l.length lc)).setCell ⟨w.heap.size + 1, 3, none⟩ (.slice bq b.length bc)).setCell ⟨w.heap.size + 1 + 1, 0, none⟩ (.int .i64 0)).setCell ⟨w.heap.size + 1 + 1, 1, none⟩ (.int .i64 0)).setCell ⟨w.heap.size + 1 + 1, 2, none⟩ (.int .i64 0)).setCell ⟨w.heap.size + 1 + 1, 3, none⟩ (.bool false)).setCell ⟨w.heap.size + 1 + 1, 4, none⟩ (.int .i64 0)).setCell ⟨w.heap.size + 1 + 1, 5, none⟩ (.int .i64 0)).cell? ⟨w.heap.size + 1 + 1, 0, none⟩ = some (.int .i64 0) := (S3.at_ 0 rfl).cell 0
    have j1 : ((((((((((w3.setCell ⟨w.heap.size + 1, 0, none⟩ (.int .u32 first)).setCell ⟨w.heap.size + 1, 1, none⟩ (.int .i64 room)).setCell ⟨w.heap.size + 1, 2, none⟩ (.slice lq l.length lc)).setCell ⟨w.heap.size + 1, 3, none⟩ (.slice bq b.length bc)).setCell ⟨w.heap.size + 1 + 1, 0, none⟩ (.int .i64 0)).setCell ⟨w.heap.size + 1 + 1, 1, none⟩ (.int .i64 0)).setCell ⟨w.heap.size + 1 + 1, 2, none⟩ (.int .i64 0)).setCell ⟨w.heap.size + 1 + 1, 3, none⟩ (.bool false)).setCell ⟨w.heap.size + 1 + 1, 4, none⟩ (.int .i64 0)).setCell ⟨w.heap.size + 1 + 1, 5, none⟩ (.int .i64 0)).cell? ⟨w.heap.size + 1 + 1, 1, none⟩ = some (.int .i64 0) := (S3.at_ 0 rfl).cell 1
    have j2 : ((((((((((w3.setCell ⟨w.heap.size + 1, 0, none⟩ (.int .u32 first)).setCell ⟨w.heap.size + 1, 1, none⟩ (.int .i64 room)).setCell ⟨w.heap.size + 1, 2, none⟩ (.slice lq l.length lc)).setCell ⟨w.heap.size + 1, 3, none⟩ (.slice bq b.length bc)).setCell ⟨w.heap.size + 1 + 1, 0, none⟩ (.int .i64 0)).setCell ⟨w.heap.size + 1 + 1, 1, none⟩ (.int .i64 0)).setCell ⟨w.heap.size + 1 + 1, 2, none⟩ (.int .i64 0)).setCell ⟨w.heap.size + 1 + 1, 3, none⟩ (.bool false)).setCell ⟨w.heap.size + 1 + 1, 4, none⟩ (.int .i64 0)).setCell ⟨w.heap.size + 1 + 1, 5, none⟩ (.int .i64 0)).cell? ⟨w.heap.size + 1 + 1, 2, none⟩ = some (.int .i64 0) := (S3.at_ 0 rfl).cell 2
    have j3 : ((((((((((w3.setCell ⟨w.heap.size + 1, 0, none⟩ (.int .u32 first)).setCell ⟨w.heap.size + 1, 1, none⟩ (.int .i64 room)).setCell ⟨w.heap.size + 1, 2, none⟩ (.slice lq l.length lc)).setCell ⟨w.heap.size + 1, 3, none⟩ (.slice bq b.length bc)).setCell ⟨w.heap.size + 1 + 1, 0, none⟩ (.int .i64 0)).setCell ⟨w.heap.size + 1 + 1, 1, none⟩ (.int .i64 0)).setCell ⟨w.heap.size + 1 + 1, 2, none⟩ (.int .i64 0)).setCell ⟨w.heap.size + 1 + 1, 3, none⟩ (.bool false)).setCell ⟨w.heap.size + 1 + 1, 4, none⟩ (.int .i64 0)).setCell ⟨w.heap.size + 1 + 1, 5, none⟩ (.int .i64 0)).cell? ⟨w.heap.size + 1 + 1, 3, none⟩ = some (.bool false) := (S3.at_ 0 rfl).cell 3
    have j4 : ((((((((((w3.setCell ⟨w.heap.size + 1, 0, none⟩ (.int .u32 first)).setCell ⟨w.heap.size + 1, 1, none⟩ (.int .i64 room)).setCell ⟨w.heap.size + 1, 2, none⟩ (.slice lq l.length lc)).setCell ⟨w.heap.size + 1, 3, none⟩ (.slice bq b.length bc)).setCell ⟨w.heap.size + 1 + 1, 0, none⟩ (.int .i64 0)).setCell ⟨w.heap.size + 1 + 1, 1, none⟩ (.int .i64 0)).setCell ⟨w.heap.size + 1 + 1, 2, none⟩ (.int .i64 0)).setCell ⟨w.heap.size + 1 + 1, 3, none⟩ (.bool false)).setCell ⟨w.heap.size + 1 + 1, 4, none⟩ (.int .i64 0)).setCell ⟨w.heap.size + 1 + 1, 5, none⟩ (.int .i64 0)).cell? ⟨w.heap.size + 1 + 1, 4, none⟩ = some (.int .i64 0) := (S3.at_ 0 rfl).cell 4
    have j5 : ((((((((((w3.setCell ⟨w.heap.size + 1, 0, none⟩ (.int .u32 first)).setCell ⟨w.heap.size + 1, 1, none⟩ (.int .i64 room)).setCell ⟨w.heap.size + 1, 2, none⟩ (.slice lq l.length lc)).setCell ⟨w.heap.size + 1, 3, none⟩ (.slice bq b.length bc)).setCell ⟨w.heap.size + 1 + 1, 0, none⟩ (.int .i64 0)).setCell ⟨w.heap.size + 1 + 1, 1, none⟩ (.int .i64 0)).setCell ⟨w.heap.size + 1 + 1, 2, none⟩ (.int .i64 0)).setCell ⟨w.heap.size + 1 + 1, 3, none⟩ (.bool false)).setCell ⟨w.heap.size + 1 + 1, 4, none⟩ (.int .i64 0)).setCell ⟨w.heap.size + 1 + 1, 5, none⟩ (.int .i64 0)).cell? ⟨w.heap.size + 1 + 1, 5, none⟩ = some (.int .i64 0) := (S3.at_ 0 rfl).cell 5
    have HJ := Lib.hid (show _ ∧ _ ∧ _ ∧ _ ∧ _ ∧ _ ∧ _ ∧ _ ∧ _ ∧ _ from ⟨k0, k1, k2, k3, j0, j1, j2, j3, j4, j5⟩)
    have HS3 := Lib.hid S3.fr
    clear S3 S2 k0 k1 k2 k3 j0 j1 j2 j3 j4 j5
    go_wp2_with fail
    obtain ⟨k0, k1, k2, k3, j0, j1, j2, j3, j4, j5⟩ := HJ.out
    exact bodyPost_ret (v := .tuple #[.agg (r3c first room lq lc l bq bc b), toldZ, .int .i64 12]) (by simp [results, Try.results47, go_sem, k0, k1, k2, k3, j0, j1, j2, j3, j4, j5]) rfl ⟨rfl, HS3.out⟩
end Go.Proofs.Ytfobeheplficgaa
