/- Take, when it does not take; Above, Clone; what is had above, listed: walked. -/
import Derived.Test.YtfobeheplficgaaHr6
set_option linter.unusedVariables false
set_option linter.unusedSimpArgs false
namespace Go.Proofs.Ytfobeheplficgaa
open Go.RowKit Go.Und Go.Shelf
attribute [local go_sem] Oper.semAt_some
attribute [local go_sem ↓] Go.wp_at_zero Go.wp_at_succ

theorem place_any (hp : Nat) (first num off : Int) (tq : Option Addr) (n tc : Nat) (rq : Option Addr) (room rc : Nat) (a : Option Addr) (len cap : Nat) (w : World) (hn : n ≤ 100000000) (hroom : room ≤ 65536)
    (c0 : w.cell? ⟨hp, 0, none⟩ = some (.int .u32 first)) (c2 : w.cell? ⟨hp, 2, none⟩ = some (.slice tq n tc)) (c3 : w.cell? ⟨hp, 3, none⟩ = some (.slice rq room rc)) (ho : offH n first num = off) :
    Calls Try.prog 75 #[.pointer (at0 hp), .int .u32 num, .slice a len cap] w fun e w' => e = .returned (.tuple #[spV (plS n room len off), .int .i64 (codeH n room len off)]) ∧ Fr None w w' := by
  by_cases h : 0 < len ∧ len ≤ 2048
  · exact place_ok hp first num off 0 tq n tc rq room rc a len cap w hn hroom c0 c2 c3 ho h.1 h.2
  · exact place_short hp num n room off a len cap w (by omega)
abbrev toldZ : Value := .agg #[.int .i64 0, .int .i64 0, .int .i64 0, .bool false, .int .i64 0, .int .i64 0]
set_option maxRecDepth 100000 in
set_option maxHeartbeats 4000000 in
theorem htake_no (hp : Nat) (first num : Int) (gp : Option Addr) (tq : Option Addr) (n tc : Nat) (rq : Option Addr) (room rc : Nat) (a : Option Addr) (len cap : Nat) (w : World) (hn : n ≤ 100000000) (hroom : room ≤ 65536)
    (c0 : w.cell? ⟨hp, 0, none⟩ = some (.int .u32 first)) (c2 : w.cell? ⟨hp, 2, none⟩ = some (.slice tq n tc)) (c3 : w.cell? ⟨hp, 3, none⟩ = some (.slice rq room rc)) (hno : codeH n room len (offH n first num) ≠ 0) :
    Calls Try.prog 42 #[.pointer (at0 hp), .int .u32 num, .slice a len cap] w fun e w' => e = .returned (.tuple #[toldZ, .int .i64 (codeH n room len (offH n first num))]) ∧ Fr None w w' := by
  have HP := Lib.hid (fun (V : World) (f : Fr None w V) => place_any hp first num _ tq n tc rq room rc a len cap V hn hroom (cell_frN f c0) (cell_frN f c2) (cell_frN f c3) rfl)
  obtain ⟨s1, s2, hs⟩ : ∃ s1 s2, plS n room len (offH n first num) = (s1, s2) := ⟨_, _, rfl⟩
  rw [hs] at HP
  have HS0 := Lib.hid ((((Sep.law w).alloc #[.pointer (at0 hp)] HpT).alloc #[.slice a len cap] BlT).alloc #[.int .i64 0, .int .i64 0, .int .i64 0, .bool false, .int .i64 0, .int .i64 0] TdT)
  simp only [World.size_alloc] at HS0
  generalize codeH n room len (offH n first num) = cd at *
  have g1 : (cd != 0) = true := by simpa using hno
  clear c0 c2 c3 hno hs
  refine (callsIn_wide (n := 5)).1 ?_
  refine callsIn_of_wp_marks Try.func42 rfl trivial ?_ rfl
  refine wpIn_wide.2 ?_
  simp only [Try.ntmps42, List.size_toArray, List.length_cons, List.length_nil, Nat.reduceAdd, Nat.reduceSub, Array.replicate_succ, Array.replicate_zero, List.push_toArray, List.append_toArray, List.nil_append, List.cons_append]
  go_wp2_with fail
  refine (HP.out _ HS0.out.fr).mono ?_
  rintro y1 w1 ⟨rfl, F1⟩
  have S2 := HS0.out.same F1
  have lt2 : w.heap.size + 1 + 1 < w1.heap.size := Ob.lt _ (S2.at_ 0 rfl) (k := w.heap.size + 1 + 1) rfl
  have i0 : w1.cell? ⟨w.heap.size + 1 + 1, 0, none⟩ = some (.int .i64 0) := (S2.at_ 0 rfl).cell 0
  have z0 : w1.frozen? ⟨w.heap.size + 1 + 1, 0, none⟩ = false := (S2.at_ 0 rfl).frozen 0
  have i1 : w1.cell? ⟨w.heap.size + 1 + 1, 1, none⟩ = some (.int .i64 0) := (S2.at_ 0 rfl).cell 1
  have z1 : w1.frozen? ⟨w.heap.size + 1 + 1, 1, none⟩ = false := (S2.at_ 0 rfl).frozen 1
  have i2 : w1.cell? ⟨w.heap.size + 1 + 1, 2, none⟩ = some (.int .i64 0) := (S2.at_ 0 rfl).cell 2
  have z2 : w1.frozen? ⟨w.heap.size + 1 + 1, 2, none⟩ = false := (S2.at_ 0 rfl).frozen 2
  have i3 : w1.cell? ⟨w.heap.size + 1 + 1, 3, none⟩ = some (.bool false) := (S2.at_ 0 rfl).cell 3
  have z3 : w1.frozen? ⟨w.heap.size + 1 + 1, 3, none⟩ = false := (S2.at_ 0 rfl).frozen 3
  have i4 : w1.cell? ⟨w.heap.size + 1 + 1, 4, none⟩ = some (.int .i64 0) := (S2.at_ 0 rfl).cell 4
  have z4 : w1.frozen? ⟨w.heap.size + 1 + 1, 4, none⟩ = false := (S2.at_ 0 rfl).frozen 4
  have i5 : w1.cell? ⟨w.heap.size + 1 + 1, 5, none⟩ = some (.int .i64 0) := (S2.at_ 0 rfl).cell 5
  have z5 : w1.frozen? ⟨w.heap.size + 1 + 1, 5, none⟩ = false := (S2.at_ 0 rfl).frozen 5
  have S3 := ((((((S2.set 0 rfl 0 (.int .i64 0)).set 0 rfl 1 (.int .i64 0)).set 0 rfl 2 (.int .i64 0)).set 0 rfl 3 (.bool false)).set 0 rfl 4 (.int .i64 0)).set 0 rfl 5 (.int .i64 0)).alloc #[.int .i64 s1, .int .i64 s2] SpT
  have j0 : (((((((w1.setCell ⟨w.heap.size + 1 + 1, 0, none⟩ (.int .i64 0)).setCell ⟨w.heap.size + 1 + 1, 1, none⟩ (.int .i64 0)).setCell ⟨w.heap.size + 1 + 1, 2, none⟩ (.int .i64 0)).setCell ⟨w.heap.size + 1 + 1, 3, none⟩ (.bool false)).setCell ⟨w.heap.size + 1 + 1, 4, none⟩ (.int .i64 0)).setCell ⟨w.heap.size + 1 + 1, 5, none⟩ (.int .i64 0)).alloc (.cells #[.int .i64 s1, .int .i64 s2] SpT)).cell? ⟨w.heap.size + 1 + 1, 0, none⟩ = some (.int .i64 0) := (S3.at_ 1 rfl).cell 0
  have j1 : (((((((w1.setCell ⟨w.heap.size + 1 + 1, 0, none⟩ (.int .i64 0)).setCell ⟨w.heap.size + 1 + 1, 1, none⟩ (.int .i64 0)).setCell ⟨w.heap.size + 1 + 1, 2, none⟩ (.int .i64 0)).setCell ⟨w.heap.size + 1 + 1, 3, none⟩ (.bool false)).setCell ⟨w.heap.size + 1 + 1, 4, none⟩ (.int .i64 0)).setCell ⟨w.heap.size + 1 + 1, 5, none⟩ (.int .i64 0)).alloc (.cells #[.int .i64 s1, .int .i64 s2] SpT)).cell? ⟨w.heap.size + 1 + 1, 1, none⟩ = some (.int .i64 0) := (S3.at_ 1 rfl).cell 1
  have j2 : (((((((w1.setCell ⟨w.heap.size + 1 + 1, 0, none⟩ (.int .i64 0)).setCell ⟨w.heap.size + 1 + 1, 1, none⟩ (.int .i64 0)).setCell ⟨w.heap.size + 1 + 1, 2, none⟩ (.int .i64 0)).setCell ⟨w.heap.size + 1 + 1, 3, none⟩ (.bool false)).setCell ⟨w.heap.size + 1 + 1, 4, none⟩ (.int .i64 0)).setCell ⟨w.heap.size + 1 + 1, 5, none⟩ (.int .i64 0)).alloc (.cells #[.int .i64 s1, .int .i64 s2] SpT)).cell? ⟨w.heap.size + 1 + 1, 2, none⟩ = some (.int .i64 0) := (S3.at_ 1 rfl).cell 2
  have j3 : (((((((w1.setCell ⟨w.heap.size + 1 + 1, 0, none⟩ (.int .i64 0)).setCell ⟨w.heap.size + 1 + 1, 1, none⟩ (.int .i64 0)).setCell ⟨w.heap.size + 1 + 1, 2, none⟩ (.int .i64 0)).setCell ⟨w.heap.size + 1 + 1, 3, none⟩ (.bool false)).setCell ⟨w.heap.size + 1 + 1, 4, none⟩ (.int .i64 0)).setCell ⟨w.heap.size + 1 + 1, 5, none⟩ (.int .i64 0)).alloc (.cells #[.int .i64 s1, .int .i64 s2] SpT)).cell? ⟨w.heap.size + 1 + 1, 3, none⟩ = some (.bool false) := (S3.at_ 1 rfl).cell 3
  have j4 : (((((((w1.setCell ⟨w.heap.size + 1 + 1, 0, none⟩ (.int .i64 0)).setCell ⟨w.heap.size + 1 + 1, 1, none⟩ (.int .i64 0)).setCell ⟨w.heap.size + 1 + 1, 2, none⟩ (.int .i64 0)).setCell ⟨w.heap.size + 1 + 1, 3, none⟩ (.bool false)).setCell ⟨w.heap.size + 1 + 1, 4, none⟩ (.int .i64 0)).setCell ⟨w.heap.size + 1 + 1, 5, none⟩ (.int .i64 0)).alloc (.cells #[.int .i64 s1, .int .i64 s2] SpT)).cell? ⟨w.heap.size + 1 + 1, 4, none⟩ = some (.int .i64 0) := (S3.at_ 1 rfl).cell 4
  have j5 : (((((((w1.setCell ⟨w.heap.size + 1 + 1, 0, none⟩ (.int .i64 0)).setCell ⟨w.heap.size + 1 + 1, 1, none⟩ (.int .i64 0)).setCell ⟨w.heap.size + 1 + 1, 2, none⟩ (.int .i64 0)).setCell ⟨w.heap.size + 1 + 1, 3, none⟩ (.bool false)).setCell ⟨w.heap.size + 1 + 1, 4, none⟩ (.int .i64 0)).setCell ⟨w.heap.size + 1 + 1, 5, none⟩ (.int .i64 0)).alloc (.cells #[.int .i64 s1, .int .i64 s2] SpT)).cell? ⟨w.heap.size + 1 + 1, 5, none⟩ = some (.int .i64 0) := (S3.at_ 1 rfl).cell 5
  have HJ := Lib.hid (And.intro j0 (And.intro j1 (And.intro j2 (And.intro j3 (And.intro j4 j5)))))
  have HS3 := Lib.hid S3
  clear S3 S2 F1 HS0 HP j0 j1 j2 j3 j4 j5
  go_wp2_with fail
  obtain ⟨j0, j1, j2, j3, j4, j5⟩ := HJ.out
  refine ⟨.tuple #[toldZ, .int .i64 cd], by simp [results, Try.results42, go_sem, j0, j1, j2, j3, j4, j5], rfl, HS3.out.fr⟩
theorem aboveG_any (hp : Option Addr) (W : World) : Calls Try.prog 77 #[.pointer hp] W fun e W' => e = .returned (.func (.func 98) #[] #[.pointer (at0 W.heap.size)]) ∧ W' = W.alloc (.cells #[.pointer hp] HpT) := by
  go_enter Try.func77, Try.ntmps77
  go_wp2_with fail
  go_ret
  exact ⟨rfl, rfl⟩
theorem aboveF_len (n : Nat) (l : List (Int × Int)) : (aboveF n l).length ≤ l.length := List.length_filter_le _ _
set_option maxRecDepth 100000 in
set_option maxHeartbeats 4000000 in
theorem abv_any (hp gp : Nat) (first : Int) (q : Option Addr) (c : Nat) (l : List (Int × Int)) (tq : Option Addr) (tc : Nat) (text : List Int) (rq : Option Addr) (rc : Nat) (ring : List Int) (w : World) (hl : l.length ≤ 100000) (ht : text.length ≤ 100000000)
    (hh : Blk w hp HdT (hcs first gp tq tc text rq rc ring)) (c3 : w.cell? ⟨gp, 0, none⟩ = some (.slice q l.length c)) (hr : Reads w 2 q l.length c (fc spc l)) :
    Calls Try.prog 46 #[.pointer (at0 hp)] w fun e w' => ∃ q' c', e = .returned (.slice q' (aboveF text.length l).length c') ∧ Sep None w w' [srow q' c' (aboveF text.length l)] := by
  have S0 := ((((Sep.law w).alloc #[.slice none 0 0] SlT).add (srow none 0 []) (Fr.refl None _) (Owns.nil spc 2 SpT _) (fun k hk => by cases hk)).skip (.cells #[.pointer (at0 hp)] HpT))
  have HA := Lib.hid (aboveG_any (at0 hp) (w.alloc (.cells #[.slice none 0 0] SlT)))
  have hbx := Blk.new (w.alloc (.cells #[.slice none 0 0] SlT)) HpT #[.pointer (at0 hp)]
  have hsl := shR_lt c3 hr
  have hlt := hh.lt
  have hsz : ((w.alloc (.cells #[.slice none 0 0] SlT)).alloc (.cells #[.pointer (at0 hp)] HpT)).heap.size = w.heap.size + 2 := by simp
  simp only [World.size_alloc] at HA hbx
  generalize eW : (w.alloc (.cells #[.slice none 0 0] SlT)).alloc (.cells #[.pointer (at0 hp)] HpT) = W0 at S0 hbx hsz
  have EW := Lib.hid eW; clear eW
  have HS := Lib.hid (fun n => above1_y n (w.heap.size + 1) hp gp q c l first tq tc text rq rc ring (fun k => k = w.heap.size + 1 ∨ k = hp ∨ ShR gp q l k) W0 hl ht hbx (hh.fr S0.fr id) (cell_frN S0.fr c3) (hr.fr S0.fr (fun _ _ h => h)) (.inl rfl) (.inr (.inl rfl)) (fun _ h => .inr (.inr h)) (fun k hk => by
    rcases hk with rfl | rfl | hk
    · omega
    · omega
    · have := hsl k hk; omega))
  have hal := aboveF_len text.length l
  generalize aboveF text.length l = m at *
  have HSh := Lib.hid (show ∀ k, (k = w.heap.size + 1 ∨ k = hp ∨ ShR gp q l k) → k < W0.heap.size ∧ ¬ fpL (bxL w.heap.size (none, 0, [])) k from fun k hk => by
    have h1 : k < W0.heap.size ∧ k ≠ w.heap.size := by
      rcases hk with rfl | rfl | hk
      · omega
      · omega
      · have := hsl k hk; omega
    exact ⟨h1.1, fun h => h1.2 (fp_bx h)⟩)
  have HS0 := Lib.hid (show Sep None w W0 (bxL w.heap.size (none, 0, [])) from S0)
  have HZ := Lib.hid hsz
  clear S0 hbx hsl hsz hh c3 hr hlt
  refine (callsIn_wide (n := 5)).1 ?_
  refine callsIn_of_wp_marks Try.func46 rfl trivial ?_ rfl
  simp only [Try.ntmps46, List.size_toArray, List.length_cons, List.length_nil, Nat.reduceAdd, Nat.reduceSub, Array.replicate_succ, Array.replicate_zero, List.push_toArray, List.append_toArray, List.nil_append, List.cons_append]
  gi_wp2_with fail
  refine ⟨trivial, (callsIn_wide.2 HA.out).mono ?_⟩
  rintro e w1 ⟨rfl, e1⟩
  simp only [EW.out] at e1
  simp only [e1]
  clear e1 w1
  gi_wp2_with fail
  refine wpIn_rangeL (gf := 98) (lb := #[.pointer (at0 (w.heap.size + 1))]) rfl (enters_of Try.func98 (by kernel_rfl) rfl) (HS.out _) (Below.refl _ _) (fun _ => rfl)
    HS0.out.self HSh.out (fun pre s => s.2.2 = pre) (bxL w.heap.size) (fun _ _ => False) (none, 0, []) rfl rfl ?fA SpT (fun x => #[.int .i64 x.1, .int .i64 x.2]) ?assign ?body ?done ?stop
  case assign =>
    intro l' x V K hK
    gi_wp2
    generalize V.heap.size = k at *
    exact hK
  case body =>
    rintro l' pre ⟨x1, x2⟩ k V ⟨qs, cs, ls⟩ hs hpre S f hk
    simp only at hs
    subst hs
    have c1 : V.cell? ⟨w.heap.size, 0, none⟩ = some (.slice qs ls.length cs) := (S.at_ 2 rfl).cell 0
    have x1c : V.cell? ⟨k, 0, none⟩ = some (.int .i64 x1) := (S.at_ 0 rfl).cell 0
    have x2c : V.cell? ⟨k, 1, none⟩ = some (.int .i64 x2) := (S.at_ 0 rfl).cell 1
    have hlen : ls.length ≤ 1000000 := by have := hpre.length_le; simp at this; omega
    have HV := Lib.hid S
    clear S f hpre
    gi_wp2_with (with_reducible refine HoldIn.out ?_)
    refine HoldIn.mk ?_
    refine wpListIn_push HV.out 1 rfl x1 x2 rfl _ _ rfl rfl rfl hlen ?_
    intro q5 c5 W5 S5
    simp only [List.set_cons_succ, List.set_cons_zero] at S5
    have z5 : W5.frozen? ⟨w.heap.size, 0, none⟩ = false := (S5.at_ 2 rfl).frozen 0
    have k5 : W5.cell? ⟨w.heap.size, 0, none⟩ = some (.slice qs ls.length cs) := (S5.at_ 2 rfl).cell 0
    have HS5 := Lib.hid (S5.set 2 rfl 0 (.slice q5 (ls ++ [(x1, x2)]).length c5))
    have hll : (ls ++ [(x1, x2)]).length = ls.length + 1 := by simp
    rw [hll] at HS5
    have HLL := Lib.hid hll
    clear S5 hll
    gi_wp2_with fail
    exact ⟨q5, c5, by
      show Sep _ _ _ [_, Ob.blk _ _ #[.slice _ (ls ++ [(x1, x2)]).length _]]
      rw [HLL.out]; exact HS5.out.drop (.cons _ (.refl _))⟩
  case done =>
    rintro D' V ⟨qs, cs, ls⟩ hD hs S hK
    simp only at hs
    subst hs
    have c1 : V.cell? ⟨w.heap.size, 0, none⟩ = some (.slice qs ls.length cs) := (S.at_ 1 rfl).cell 0
    have HI := Lib.hid (HS0.out.did0 S); clear S
    gi_wp2_with fail
    refine ⟨by simp, .inl ⟨_, _, rfl, run_takeDeferred hK, ?_⟩⟩
    refine ⟨_, results_tmp (t := 2) rfl _ _ _, qs, cs, rfl, ?_⟩
    exact (odd_done HI.out hK (by rw [HZ.out] at hD; omega)).drop (.cons_cons _ (.cons _ .slnil))
  case stop =>
    rintro D' V pre s _ _ h
    exact h.elim
/-- What a receiver tells, out of its ledger. -/
theorem hrd_cells {D : Nat → Prop} {w0 w : World} {hp gp : Nat} {first : Int} {q : Option Addr} {c : Nat} {l : List (Int × Int)} {tq : Option Addr} {tc : Nat} {text : List Int} {rq : Option Addr} {rc : Nat} {ring : List Int} {R : List Ob}
    (S : Sep D w0 w (hrd hp first gp q c l tq tc text rq rc ring ++ R)) : Blk w hp HdT (hcs first gp tq tc text rq rc ring) ∧ w.cell? ⟨gp, 0, none⟩ = some (.slice q l.length c) ∧ Reads w 2 q l.length c (fc spc l) ∧ Reads w 1 tq text.length tc (fc u8c text) ∧ Reads w 1 rq ring.length rc (fc u8c ring) :=
  ⟨S.at_ 2 rfl, (rns_row (R := [Ob.blk hp HdT (hcs first gp tq tc text rq rc ring), brow tq tc text, brow rq rc ring] ++ R) S).1, (rns_row (R := [Ob.blk hp HdT (hcs first gp tq tc text rq rc ring), brow tq tc text, brow rq rc ring] ++ R) S).2, (Owns.reads (show Owns u8c 1 U8T w _ text from S.at_ 3 rfl)).2.1, (Owns.reads (show Owns u8c 1 U8T w _ ring from S.at_ 4 rfl)).2.1⟩
end Go.Proofs.Ytfobeheplficgaa
/- Clone of a receiver: walked. -/
namespace Go.Proofs.Ytfobeheplficgaa
open Go.RowKit Go.Und Go.Shelf
attribute [local go_sem] Oper.semAt_some
attribute [local go_sem ↓] Go.wp_at_zero Go.wp_at_succ

set_option maxRecDepth 100000 in
set_option maxHeartbeats 8000000 in
theorem hclone_any (hp gp : Nat) (first : Int) (q : Option Addr) (c : Nat) (l : List (Int × Int)) (tq : Option Addr) (tc : Nat) (text : List Int) (rb rc : Nat) (ring : List Int) (w : World) (hl : l.length ≤ 100000) (ht : text.length ≤ 100000000) (hri : ring.length ≤ 1000000)
    (hh : Blk w hp HdT (hcs first gp tq tc text (some ⟨rb, 0, none⟩) rc ring)) (c3 : w.cell? ⟨gp, 0, none⟩ = some (.slice q l.length c)) (hr : Reads w 2 q l.length c (fc spc l)) (htx : Reads w 1 tq text.length tc (fc u8c text)) (hrg : Reads w 1 (some ⟨rb, 0, none⟩) ring.length rc (fc u8c ring)) :
    Calls Try.prog 50 #[.pointer (at0 hp)] w fun e w' => ∃ hp' gp' q' c' tq' tc' rq' rc', e = .returned (.pointer (at0 hp')) ∧ Sep None w w' (hrd hp' first gp' q' c' l tq' tc' text rq' rc' ring) := by
  have HC := Lib.hid (fun (V : World) (f : Fr None w V) => clone_any gp q c l V hl (cell_frN f c3) (hr.fr f (fun _ _ h => h)))
  have HT := Lib.hid (fun (V : World) (f : Fr None w V) => htext_any hp tq tc text V ht ((hh.fr f id).cell 2) (htx.fr f (fun _ _ h => h)))
  have HR := Lib.hid (fun (V : World) (f : Fr None w V) => hrg.fr f (fun _ _ h => h))
  have e0 : w.cell? ⟨hp, 0, none⟩ = some (.int .u32 first) := hh.cell 0
  have e1 : w.cell? ⟨hp, 1, none⟩ = some (.pointer (at0 gp)) := hh.cell 1
  have e2 : w.cell? ⟨hp, 2, none⟩ = some (.slice tq text.length tc) := hh.cell 2
  have e3 : w.cell? ⟨hp, 3, none⟩ = some (.slice (some ⟨rb, 0, none⟩) ring.length rc) := hh.cell 3
  have hlt := hh.lt
  have HS0 := Lib.hid ((Sep.law w).alloc (hcs first gp tq tc text (some ⟨rb, 0, none⟩) rc ring) HdT)
  obtain ⟨i, hi, hz0, hz1, hz2⟩ := info_parts u8Info
  have HI := Lib.hid (And.intro hi (And.intro hz0 (And.intro hz1 hz2))); clear hi hz0 hz1 hz2
  clear hh c3 hr htx hrg
  go_enter Try.func50, Try.ntmps50
  go_wp2_with fail
  generalize w.alloc (.cells #[.int .u32 first, .pointer (at0 gp), .slice tq text.length tc, .slice (some ⟨rb, 0, none⟩) ring.length rc] 103) = V at *
  have hF := HS0.out.fr
  have u1 : V.cell? ⟨hp, 1, none⟩ = some (.pointer (at0 gp)) := cell_frN hF e1
  have u3 : V.cell? ⟨hp, 3, none⟩ = some (.slice (some ⟨rb, 0, none⟩) ring.length rc) := cell_frN hF e3
  have HH := Lib.hid (fun (U : World) (f : Fr None w U) => And.intro (cell_frN f e1) (cell_frN f e3))
  clear hF e0 e1 e2 e3
  refine wp_region_to (S := fun w' => w'.cell? ⟨hp, 1, none⟩ = some (.pointer (at0 gp)) ∧ w'.cell? ⟨hp, 3, none⟩ = some (.slice (some ⟨rb, 0, none⟩) ring.length rc)) 13 (by kernel_rfl) ⟨u1, u3⟩ (fun hHeld => ?_)
  have hS := HS0.out.drew
  clear HS0 u1 u3
  generalize V.drew = V1 at *
  refine wpTo_take (i := 0) (v := ?_) rfl (by kernel_rfl) (fun _ _ _ h => h) (Or.inl ⟨by rfl, ?_⟩) hHeld ?_
  rotate_left
  · (intro w' hSw; (try dsimp only at hSw); go_simp <;> with_reducible rfl)
  simp only [Act.put, List.setIfInBounds_toArray, List.set_cons_zero, List.set_cons_succ, List.getElem_toArray, List.getElem_cons_succ, List.getElem_cons_zero]
  refine wpTo_take (i := 1) (v := ?_) rfl (by kernel_rfl) (fun _ _ _ h => h) (Or.inl ⟨by rfl, ?_⟩) hHeld ?_
  rotate_left
  · (intro w' hSw; (try dsimp only at hSw); go_simp <;> with_reducible rfl)
  simp only [Act.put, List.setIfInBounds_toArray, List.set_cons_zero, List.set_cons_succ, List.getElem_toArray, List.getElem_cons_succ, List.getElem_cons_zero]
  refine wpTo_take (i := 2) (v := ?_) rfl (by kernel_rfl) (fun _ _ _ h => h) (Or.inl ⟨by rfl, ?_⟩) hHeld ?_
  rotate_left
  · (intro w' hSw; (try dsimp only at hSw); go_simp <;> with_reducible rfl)
  simp only [Act.put, List.setIfInBounds_toArray, List.set_cons_zero, List.set_cons_succ, List.getElem_toArray, List.getElem_cons_succ, List.getElem_cons_zero]
  refine wpTo_take (i := 3) (v := ?_) rfl (by kernel_rfl) (fun _ _ _ h => h) (Or.inl ⟨by rfl, ?_⟩) hHeld ?_
  rotate_left
  · (intro w' hSw; (try dsimp only at hSw); go_simp <;> with_reducible rfl)
  simp only [Act.put, List.setIfInBounds_toArray, List.set_cons_zero, List.set_cons_succ, List.getElem_toArray, List.getElem_cons_succ, List.getElem_cons_zero]
  refine wpTo_take (i := 5) (v := ?_) rfl (by kernel_rfl) (fun _ _ _ h => h) (Or.inl ⟨by rfl, ?_⟩) hHeld ?_
  rotate_left
  · (intro w' hSw; (try dsimp only at hSw); go_simp <;> with_reducible rfl)
  simp only [Act.put, List.setIfInBounds_toArray, List.set_cons_zero, List.set_cons_succ, List.getElem_toArray, List.getElem_cons_succ, List.getElem_cons_zero]
  refine wpTo_take (i := 8) (v := ?_) rfl (by kernel_rfl) (fun _ _ _ h => h) (Or.inl ⟨by rfl, ?_⟩) hHeld ?_
  rotate_left
  · (intro w' hSw; (try dsimp only at hSw); go_simp <;> with_reducible rfl)
  simp only [Act.put, List.setIfInBounds_toArray, List.set_cons_zero, List.set_cons_succ, List.getElem_toArray, List.getElem_cons_succ, List.getElem_cons_zero]
  refine wpTo_take (i := 9) (v := ?_) rfl (by kernel_rfl) (fun _ _ _ h => h) (Or.inl ⟨by rfl, ?_⟩) hHeld ?_
  rotate_left
  · (intro w' hSw; (try dsimp only at hSw); go_simp <;> with_reducible rfl)
  simp only [Act.put, List.setIfInBounds_toArray, List.set_cons_zero, List.set_cons_succ, List.getElem_toArray, List.getElem_cons_succ, List.getElem_cons_zero]
  refine wpTo_take (i := 10) (v := ?_) rfl (by kernel_rfl) (fun _ _ _ h => h) (Or.inl ⟨by rfl, ?_⟩) hHeld ?_
  rotate_left
  · (intro w' hSw; (try dsimp only at hSw); go_simp <;> with_reducible rfl)
  simp only [Act.put, List.setIfInBounds_toArray, List.set_cons_zero, List.set_cons_succ, List.getElem_toArray, List.getElem_cons_succ, List.getElem_cons_zero]
  refine wpTo_take (i := 11) (v := ?_) rfl (by kernel_rfl) (fun _ _ _ h => h) (Or.inl ⟨by rfl, ?_⟩) hHeld ?_
  rotate_left
  · (intro w' hSw; (try dsimp only at hSw); go_simp <;> with_reducible rfl)
  simp only [Act.put, List.setIfInBounds_toArray, List.set_cons_zero, List.set_cons_succ, List.getElem_toArray, List.getElem_cons_succ, List.getElem_cons_zero]
  refine wpTo_two (i := 4) (j := 7) (by kernel_rfl) rfl rfl (fun K hK => ?_) (fun K hK => ?_)
  · skip
    go_simp
    refine (HC.out _ hS.fr).mono ?_
    rintro y w6 ⟨g6, q6, c6, rfl, T⟩
    replace hS := hS.beside T
    clear T
    refine hK.out _ _ (HH.out _ hS.fr) (fun hHeld => ?_)
    clear hK K
    try simp only [Act.put, List.setIfInBounds_toArray, List.set_cons_zero, List.set_cons_succ, List.getElem_toArray, List.getElem_cons_succ, List.getElem_cons_zero]
    refine wpTo_two (i := 6) (j := 7) (by kernel_rfl) rfl rfl (fun K hK => ?_) (fun K hK => ?_)
    · skip
      go_simp
      refine (HT.out _ hS.fr).mono ?_
      rintro y w7 ⟨q7, c7, rfl, T⟩
      replace hS := hS.beside T
      clear T
      refine hK.out _ _ (HH.out _ hS.fr) (fun hHeld => ?_)
      clear hK K
      try simp only [Act.put, List.setIfInBounds_toArray, List.set_cons_zero, List.set_cons_succ, List.getElem_toArray, List.getElem_cons_succ, List.getElem_cons_zero]
      refine wpTo_mid (i := 7) (by kernel_rfl) rfl (fun K hK => ?_)
      go_simp
      replace hS := hS.add (Ob.row 0 U8T 1 (.slice (some ⟨_, 0, none⟩) 0 0) 0 (fc u8c [])) ((Fr.refl None _).alloc (.cells #[] U8T)) (owns_bare (Blk.new _ U8T #[])) (fun k hk => by cases hk; exact Nat.le_refl _)
      refine hK.out _ _ (HH.out _ hS.fr) (fun hHeld => ?_)
      clear hK K
      try simp only [Act.put, List.setIfInBounds_toArray, List.set_cons_zero, List.set_cons_succ, List.getElem_toArray, List.getElem_cons_succ, List.getElem_cons_zero]
      refine wpTo_mid (i := 12) (by kernel_rfl) rfl (fun K hK => ?_)
      refine step_append_row _ (by rfl) _ _ _ (by rfl) 0 U8T _ _ 1 1 Try.underlying62 HI.out.1 HI.out.2.1 HI.out.2.2.1 HI.out.2.2.2 rfl (by decide) _ 0 (fc u8c []) (by rfl) (hS.at_ 0 rfl) (some ⟨rb, 0, none⟩) ring.length rc (fc u8c ring) (by rfl) (HR.out _ hS.fr) (fc_one u8c_one _) (by simp [maxLen]; omega) (by omega) (Nat.zero_le _) ?_
      intro q8 c8 w8 ho8 hf8 hb8
      rw [Nat.zero_add, fc_nil, List.nil_append] at ho8
      rw [Nat.zero_add] at hb8
      have hS8 := hS.turn 0 rfl (brow q8 c8 ring) hf8 (fun _ _ h => h) ho8 (fun k hk => by
        have hk' : (Value.slice q8 ring.length c8).ownBlock = some k := hk
        rcases hb8 with e | e
        · exact .inl (Eq.trans e.symm hk')
        · rw [e] at hk'; cases hk'; exact .inr (Nat.le_refl _))
      simp only [List.set_cons_succ, List.set_cons_zero, List.cons_append, List.nil_append] at hS8
      clear hS ho8 hf8 hb8
      refine hK.out _ _ (HH.out _ hS8.fr) (fun hHeld => ?_)
      clear hK K
      try simp only [Act.put, List.setIfInBounds_toArray, List.set_cons_zero, List.set_cons_succ, List.getElem_toArray, List.getElem_cons_succ, List.getElem_cons_zero]
      have hS9 := (((hS8.front 1 rfl).front 4 rfl).front 4 rfl).front 4 rfl
      simp only [List.eraseIdx, List.cons_append, List.nil_append] at hS9
      have r1 : w8.cell? ⟨w.heap.size, 1, none⟩ = some (.pointer (at0 gp)) := (hS9.at_ 2 rfl).cell 1
      have z1 : w8.frozen? ⟨w.heap.size, 1, none⟩ = false := (hS9.at_ 2 rfl).frozen 1
      have r2 : w8.cell? ⟨w.heap.size, 2, none⟩ = some (.slice tq text.length tc) := (hS9.at_ 2 rfl).cell 2
      have z2 : w8.frozen? ⟨w.heap.size, 2, none⟩ = false := (hS9.at_ 2 rfl).frozen 2
      have r3 : w8.cell? ⟨w.heap.size, 3, none⟩ = some (.slice (some ⟨rb, 0, none⟩) ring.length rc) := (hS9.at_ 2 rfl).cell 3
      have z3 : w8.frozen? ⟨w.heap.size, 3, none⟩ = false := (hS9.at_ 2 rfl).frozen 3
      have HSE := Lib.hid (((hS9.set 2 rfl 1 (.pointer (at0 g6))).set 2 rfl 2 (.slice q7 text.length c7)).set 2 rfl 3 (.slice q8 ring.length c8))
      clear hS8 hS9 hHeld
      refine wpTo_last (i := 13) (by kernel_rfl) rfl (by decide) (fun K hK => ?_)
      go_simp
      refine hK.out _ _ ?_
      clear hK K
      refine wpTo_last (i := 14) (by kernel_rfl) rfl (by decide) (fun K hK => ?_)
      go_simp
      refine hK.out _ _ ?_
      clear hK K
      refine wpTo_last (i := 15) (by kernel_rfl) rfl (by decide) (fun K hK => ?_)
      go_simp
      refine hK.out _ _ ?_
      clear hK K
      refine wpTo_last (i := 16) (by kernel_rfl) rfl (by decide) (fun K hK => ?_)
      go_simp
      refine hK.out _ _ ?_
      clear hK K
      refine wpTo_last (i := 17) (by kernel_rfl) rfl (by decide) (fun K hK => ?_)
      go_simp
      refine hK.out _ _ ?_
      clear hK K
      refine wpTo_last (i := 18) (by kernel_rfl) rfl (by decide) (fun K hK => ?_)
      go_simp
      refine hK.out _ _ ?_
      clear hK K
      refine wpTo_done (by kernel_rfl) ?_ _
      go_wp2_with fail
      go_ret
      exact ⟨_, _, _, _, _, _, _, _, rfl, HSE.out⟩
    · skip
      go_simp
      replace hS := hS.add (Ob.row 0 U8T 1 (.slice (some ⟨_, 0, none⟩) 0 0) 0 (fc u8c [])) ((Fr.refl None _).alloc (.cells #[] U8T)) (owns_bare (Blk.new _ U8T #[])) (fun k hk => by cases hk; exact Nat.le_refl _)
      refine hK.out _ _ (HH.out _ hS.fr) (fun hHeld => ?_)
      clear hK K
      try simp only [Act.put, List.setIfInBounds_toArray, List.set_cons_zero, List.set_cons_succ, List.getElem_toArray, List.getElem_cons_succ, List.getElem_cons_zero]
      refine wpTo_mid (i := 6) (by kernel_rfl) rfl (fun K hK => ?_)
      go_simp
      refine (HT.out _ hS.fr).mono ?_
      rintro y w7 ⟨q7, c7, rfl, T⟩
      replace hS := hS.beside T
      clear T
      refine hK.out _ _ (HH.out _ hS.fr) (fun hHeld => ?_)
      clear hK K
      try simp only [Act.put, List.setIfInBounds_toArray, List.set_cons_zero, List.set_cons_succ, List.getElem_toArray, List.getElem_cons_succ, List.getElem_cons_zero]
      refine wpTo_mid (i := 12) (by kernel_rfl) rfl (fun K hK => ?_)
      refine step_append_row _ (by rfl) _ _ _ (by rfl) 0 U8T _ _ 1 1 Try.underlying62 HI.out.1 HI.out.2.1 HI.out.2.2.1 HI.out.2.2.2 rfl (by decide) _ 0 (fc u8c []) (by rfl) (hS.at_ 1 rfl) (some ⟨rb, 0, none⟩) ring.length rc (fc u8c ring) (by rfl) (HR.out _ hS.fr) (fc_one u8c_one _) (by simp [maxLen]; omega) (by omega) (Nat.zero_le _) ?_
      intro q8 c8 w8 ho8 hf8 hb8
      rw [Nat.zero_add, fc_nil, List.nil_append] at ho8
      rw [Nat.zero_add] at hb8
      have hS8 := hS.turn 1 rfl (brow q8 c8 ring) hf8 (fun _ _ h => h) ho8 (fun k hk => by
        have hk' : (Value.slice q8 ring.length c8).ownBlock = some k := hk
        rcases hb8 with e | e
        · exact .inl (Eq.trans e.symm hk')
        · rw [e] at hk'; cases hk'; exact .inr (Nat.le_refl _))
      simp only [List.set_cons_succ, List.set_cons_zero, List.cons_append, List.nil_append] at hS8
      clear hS ho8 hf8 hb8
      refine hK.out _ _ (HH.out _ hS8.fr) (fun hHeld => ?_)
      clear hK K
      try simp only [Act.put, List.setIfInBounds_toArray, List.set_cons_zero, List.set_cons_succ, List.getElem_toArray, List.getElem_cons_succ, List.getElem_cons_zero]
      have hS9 := ((hS8.front 4 rfl).front 4 rfl).front 4 rfl
      simp only [List.eraseIdx, List.cons_append, List.nil_append] at hS9
      have r1 : w8.cell? ⟨w.heap.size, 1, none⟩ = some (.pointer (at0 gp)) := (hS9.at_ 2 rfl).cell 1
      have z1 : w8.frozen? ⟨w.heap.size, 1, none⟩ = false := (hS9.at_ 2 rfl).frozen 1
      have r2 : w8.cell? ⟨w.heap.size, 2, none⟩ = some (.slice tq text.length tc) := (hS9.at_ 2 rfl).cell 2
      have z2 : w8.frozen? ⟨w.heap.size, 2, none⟩ = false := (hS9.at_ 2 rfl).frozen 2
      have r3 : w8.cell? ⟨w.heap.size, 3, none⟩ = some (.slice (some ⟨rb, 0, none⟩) ring.length rc) := (hS9.at_ 2 rfl).cell 3
      have z3 : w8.frozen? ⟨w.heap.size, 3, none⟩ = false := (hS9.at_ 2 rfl).frozen 3
      have HSE := Lib.hid (((hS9.set 2 rfl 1 (.pointer (at0 g6))).set 2 rfl 2 (.slice q7 text.length c7)).set 2 rfl 3 (.slice q8 ring.length c8))
      clear hS8 hS9 hHeld
      refine wpTo_last (i := 13) (by kernel_rfl) rfl (by decide) (fun K hK => ?_)
      go_simp
      refine hK.out _ _ ?_
      clear hK K
      refine wpTo_last (i := 14) (by kernel_rfl) rfl (by decide) (fun K hK => ?_)
      go_simp
      refine hK.out _ _ ?_
      clear hK K
      refine wpTo_last (i := 15) (by kernel_rfl) rfl (by decide) (fun K hK => ?_)
      go_simp
      refine hK.out _ _ ?_
      clear hK K
      refine wpTo_last (i := 16) (by kernel_rfl) rfl (by decide) (fun K hK => ?_)
      go_simp
      refine hK.out _ _ ?_
      clear hK K
      refine wpTo_last (i := 17) (by kernel_rfl) rfl (by decide) (fun K hK => ?_)
      go_simp
      refine hK.out _ _ ?_
      clear hK K
      refine wpTo_last (i := 18) (by kernel_rfl) rfl (by decide) (fun K hK => ?_)
      go_simp
      refine hK.out _ _ ?_
      clear hK K
      refine wpTo_done (by kernel_rfl) ?_ _
      go_wp2_with fail
      go_ret
      exact ⟨_, _, _, _, _, _, _, _, rfl, HSE.out⟩
  · skip
    go_simp
    replace hS := hS.add (Ob.row 0 U8T 1 (.slice (some ⟨_, 0, none⟩) 0 0) 0 (fc u8c [])) ((Fr.refl None _).alloc (.cells #[] U8T)) (owns_bare (Blk.new _ U8T #[])) (fun k hk => by cases hk; exact Nat.le_refl _)
    refine hK.out _ _ (HH.out _ hS.fr) (fun hHeld => ?_)
    clear hK K
    try simp only [Act.put, List.setIfInBounds_toArray, List.set_cons_zero, List.set_cons_succ, List.getElem_toArray, List.getElem_cons_succ, List.getElem_cons_zero]
    refine wpTo_mid (i := 4) (by kernel_rfl) rfl (fun K hK => ?_)
    go_simp
    refine (HC.out _ hS.fr).mono ?_
    rintro y w6 ⟨g6, q6, c6, rfl, T⟩
    replace hS := hS.beside T
    clear T
    refine hK.out _ _ (HH.out _ hS.fr) (fun hHeld => ?_)
    clear hK K
    try simp only [Act.put, List.setIfInBounds_toArray, List.set_cons_zero, List.set_cons_succ, List.getElem_toArray, List.getElem_cons_succ, List.getElem_cons_zero]
    refine wpTo_mid (i := 6) (by kernel_rfl) rfl (fun K hK => ?_)
    go_simp
    refine (HT.out _ hS.fr).mono ?_
    rintro y w7 ⟨q7, c7, rfl, T⟩
    replace hS := hS.beside T
    clear T
    refine hK.out _ _ (HH.out _ hS.fr) (fun hHeld => ?_)
    clear hK K
    try simp only [Act.put, List.setIfInBounds_toArray, List.set_cons_zero, List.set_cons_succ, List.getElem_toArray, List.getElem_cons_succ, List.getElem_cons_zero]
    refine wpTo_mid (i := 12) (by kernel_rfl) rfl (fun K hK => ?_)
    refine step_append_row _ (by rfl) _ _ _ (by rfl) 0 U8T _ _ 1 1 Try.underlying62 HI.out.1 HI.out.2.1 HI.out.2.2.1 HI.out.2.2.2 rfl (by decide) _ 0 (fc u8c []) (by rfl) (hS.at_ 3 rfl) (some ⟨rb, 0, none⟩) ring.length rc (fc u8c ring) (by rfl) (HR.out _ hS.fr) (fc_one u8c_one _) (by simp [maxLen]; omega) (by omega) (Nat.zero_le _) ?_
    intro q8 c8 w8 ho8 hf8 hb8
    rw [Nat.zero_add, fc_nil, List.nil_append] at ho8
    rw [Nat.zero_add] at hb8
    have hS8 := hS.turn 3 rfl (brow q8 c8 ring) hf8 (fun _ _ h => h) ho8 (fun k hk => by
      have hk' : (Value.slice q8 ring.length c8).ownBlock = some k := hk
      rcases hb8 with e | e
      · exact .inl (Eq.trans e.symm hk')
      · rw [e] at hk'; cases hk'; exact .inr (Nat.le_refl _))
    simp only [List.set_cons_succ, List.set_cons_zero, List.cons_append, List.nil_append] at hS8
    clear hS ho8 hf8 hb8
    refine hK.out _ _ (HH.out _ hS8.fr) (fun hHeld => ?_)
    clear hK K
    try simp only [Act.put, List.setIfInBounds_toArray, List.set_cons_zero, List.set_cons_succ, List.getElem_toArray, List.getElem_cons_succ, List.getElem_cons_zero]
    have hS9 := ((((hS8.front 3 rfl).front 1 rfl).front 4 rfl).front 4 rfl).front 4 rfl
    simp only [List.eraseIdx, List.cons_append, List.nil_append] at hS9
    have r1 : w8.cell? ⟨w.heap.size, 1, none⟩ = some (.pointer (at0 gp)) := (hS9.at_ 2 rfl).cell 1
    have z1 : w8.frozen? ⟨w.heap.size, 1, none⟩ = false := (hS9.at_ 2 rfl).frozen 1
    have r2 : w8.cell? ⟨w.heap.size, 2, none⟩ = some (.slice tq text.length tc) := (hS9.at_ 2 rfl).cell 2
    have z2 : w8.frozen? ⟨w.heap.size, 2, none⟩ = false := (hS9.at_ 2 rfl).frozen 2
    have r3 : w8.cell? ⟨w.heap.size, 3, none⟩ = some (.slice (some ⟨rb, 0, none⟩) ring.length rc) := (hS9.at_ 2 rfl).cell 3
    have z3 : w8.frozen? ⟨w.heap.size, 3, none⟩ = false := (hS9.at_ 2 rfl).frozen 3
    have HSE := Lib.hid (((hS9.set 2 rfl 1 (.pointer (at0 g6))).set 2 rfl 2 (.slice q7 text.length c7)).set 2 rfl 3 (.slice q8 ring.length c8))
    clear hS8 hS9 hHeld
    refine wpTo_last (i := 13) (by kernel_rfl) rfl (by decide) (fun K hK => ?_)
    go_simp
    refine hK.out _ _ ?_
    clear hK K
    refine wpTo_last (i := 14) (by kernel_rfl) rfl (by decide) (fun K hK => ?_)
    go_simp
    refine hK.out _ _ ?_
    clear hK K
    refine wpTo_last (i := 15) (by kernel_rfl) rfl (by decide) (fun K hK => ?_)
    go_simp
    refine hK.out _ _ ?_
    clear hK K
    refine wpTo_last (i := 16) (by kernel_rfl) rfl (by decide) (fun K hK => ?_)
    go_simp
    refine hK.out _ _ ?_
    clear hK K
    refine wpTo_last (i := 17) (by kernel_rfl) rfl (by decide) (fun K hK => ?_)
    go_simp
    refine hK.out _ _ ?_
    clear hK K
    refine wpTo_last (i := 18) (by kernel_rfl) rfl (by decide) (fun K hK => ?_)
    go_simp
    refine hK.out _ _ ?_
    clear hK K
    refine wpTo_done (by kernel_rfl) ?_ _
    go_wp2_with fail
    go_ret
    exact ⟨_, _, _, _, _, _, _, _, rfl, HSE.out⟩
end Go.Proofs.Ytfobeheplficgaa
