/- A receiver that is none: walked. -/
import Derived.Test.YtfobeheplficgaaHrM4
set_option linter.unusedVariables false
set_option linter.unusedSimpArgs false
namespace Go.Proofs.Ytfobeheplficgaa
open Go.RowKit Go.Und Go.Shelf
open Go.ChangeShapes Go.WideShapes Go.ChangeAt
attribute [local go_sem] Oper.semAt_some
attribute [local go_sem ↓] Go.wp_at_zero Go.wp_at_succ

theorem htake_nil (num : Int) (a : Option Addr) (len cap : Nat) (w : World) :
    Calls Try.prog 42 #[.pointer none, .int .u32 num, .slice a len cap] w fun e w' => e = .returned (.tuple #[toldZ, .int .i64 1]) ∧ Fr None w w' := by
  have HS0 := Lib.hid ((((Sep.law w).alloc #[.pointer none] HpT).alloc #[.slice a len cap] BlT).alloc #[.int .i64 0, .int .i64 0, .int .i64 0, .bool false, .int .i64 0, .int .i64 0] TdT)
  refine (callsIn_wide (n := 5)).1 ?_
  refine callsIn_of_wp_marks Try.func42 rfl trivial ?_ rfl
  refine wpIn_wide.2 ?_
  simp only [Try.ntmps42, List.size_toArray, List.length_cons, List.length_nil, Nat.reduceAdd, Nat.reduceSub, Array.replicate_succ, Array.replicate_zero, List.push_toArray, List.append_toArray, List.nil_append, List.cons_append]
  go_wp2_with fail
  exact ⟨.tuple #[toldZ, .int .i64 1], by simp [results, Try.results42, go_sem], rfl, HS0.out.fr⟩
theorem hclone_nil (w : World) : Calls Try.prog 50 #[.pointer none] w fun e w' => e = .returned (.pointer none) ∧ w' = w := by
  go_enter Try.func50, Try.ntmps50
  go_wp2_with fail
  go_ret
  exact ⟨rfl, rfl⟩
theorem above1_nil (n bb : Nat) (Sh : Nat → Prop) (w : World) (hb : Blk w bb HpT #[.pointer none]) (_ : True ∨ True) : SeqY n Try.prog 98 #[.pointer (at0 bb)] encS Sh [] w := by
  intro lb J Jx W hW hJ hJx hY h0
  have hb1 := hb.fr (Fr.of_below hW : Fr None w W) id
  have c0 : W.cell? ⟨bb, 0, none⟩ = some (.pointer none) := hb1.cell 0
  have l0 := hb1.lt
  have J1 : J (fun k => k = W.heap.size) [] (W.alloc (.cells #[.func (.yield lb) #[] #[]] YspT)) :=
    hJ _ _ (fun _ => False) _ _ _ h0 ((Fr.refl _ W).alloc _) (fun _ h => h.elim) fun k e => .inr ⟨by subst e; exact Nat.le_refl _, by subst e; simp⟩
  have HJ1 := Lib.hid J1
  clear J1 hb hb1 hJ hJx hY h0 hW
  simp only [List.push_toArray, List.append_toArray, List.cons_append, List.nil_append]
  refine callsIn_of_wp_marks Try.func98 rfl trivial ?_ rfl
  simp only [Try.ntmps98, List.size_toArray, List.length_cons, List.length_nil, Nat.reduceAdd, Nat.reduceSub, Array.replicate_succ, Array.replicate_zero, List.push_toArray, List.append_toArray, List.nil_append, List.cons_append]
  gi_wp2_with fail
  exact ⟨_, results_none rfl _ _ _, ⟨⟨_, rfl⟩, .inl ⟨_, HJ1.out⟩⟩⟩
set_option maxRecDepth 100000 in
set_option maxHeartbeats 4000000 in
theorem abv_nil (w : World) :
    Calls Try.prog 46 #[.pointer none] w fun e w' => ∃ q' c', e = .returned (.slice q' ([] : List (Int × Int)).length c') ∧ Sep None w w' [srow q' c' []] := by
  obtain ⟨m, hm⟩ : ∃ m : List (Int × Int), m = [] := ⟨_, rfl⟩
  have S0 := ((((Sep.law w).alloc #[.slice none 0 0] SlT).add (srow none 0 []) (Fr.refl None _) (Owns.nil spc 2 SpT _) (fun k hk => by cases hk)).skip (.cells #[.pointer none] HpT))
  have HA := Lib.hid (aboveG_any none (w.alloc (.cells #[.slice none 0 0] SlT)))
  have hbx := Blk.new (w.alloc (.cells #[.slice none 0 0] SlT)) HpT #[.pointer none]
  have hsz : ((w.alloc (.cells #[.slice none 0 0] SlT)).alloc (.cells #[.pointer none] HpT)).heap.size = w.heap.size + 2 := by simp
  simp only [World.size_alloc] at HA hbx
  generalize eW : (w.alloc (.cells #[.slice none 0 0] SlT)).alloc (.cells #[.pointer none] HpT) = W0 at S0 hbx hsz
  have EW := Lib.hid eW; clear eW
  have HS := Lib.hid (fun n => above1_nil n (w.heap.size + 1) (fun k => k = w.heap.size + 1) W0 hbx (.inl trivial))
  rw [← hm] at HS ⊢
  have hal : m.length ≤ 0 := by rw [hm]; simp
  clear hm
  have HSh := Lib.hid (show ∀ k, (k = w.heap.size + 1) → k < W0.heap.size ∧ ¬ fpL (bxL w.heap.size (none, 0, [])) k from fun k hk => by
    have h1 : k < W0.heap.size ∧ k ≠ w.heap.size := by
      omega
    exact ⟨h1.1, fun h => h1.2 (fp_bx h)⟩)
  have HS0 := Lib.hid (show Sep None w W0 (bxL w.heap.size (none, 0, [])) from S0)
  have HZ := Lib.hid hsz
  clear S0 hbx hsz
  refine (callsIn_wide (n := 5)).1 ?_
  refine callsIn_of_wp_marks Try.func46 rfl trivial ?_ rfl
  simp only [Try.ntmps46, List.size_toArray, List.length_cons, List.length_nil, Nat.reduceAdd, Nat.reduceSub, Array.replicate_succ, Array.replicate_zero, List.push_toArray, List.append_toArray, List.nil_append, List.cons_append]
  gi_wp2_with fail
  refine ⟨trivial, (callsIn_wide.2 HA.out).mono ?_⟩
  rintro e w1 ⟨rfl, e1⟩
  simp only [EW.out] at e1
  simp only [e1]
  clear e1 w1
  gi_wp2_with fail
  refine wpIn_rangeL (gf := 98) (lb := #[.pointer (at0 (w.heap.size + 1))]) rfl (enters_of Try.func98 (by kernel_rfl) rfl) (HS.out _) (Below.refl _ _) (fun _ => rfl)
    HS0.out.self HSh.out (fun pre s => s.2.2 = pre) (bxL w.heap.size) (fun _ _ => False) (none, 0, []) rfl rfl ?fA SpT (fun x => #[.int .i64 x.1, .int .i64 x.2]) ?assign ?body ?done ?stop
  case assign =>
    intro l' x V K hK
    gi_wp2
    generalize V.heap.size = k at *
    exact hK
  case body =>
    rintro l' pre ⟨x1, x2⟩ k V ⟨qs, cs, ls⟩ hs hpre S f hk
    simp only at hs
    subst hs
    have c1 : V.cell? ⟨w.heap.size, 0, none⟩ = some (.slice qs ls.length cs) := (S.at_ 2 rfl).cell 0
    have x1c : V.cell? ⟨k, 0, none⟩ = some (.int .i64 x1) := (S.at_ 0 rfl).cell 0
    have x2c : V.cell? ⟨k, 1, none⟩ = some (.int .i64 x2) := (S.at_ 0 rfl).cell 1
    have hlen : ls.length ≤ 1000000 := by have := hpre.length_le; simp at this; omega
    have HV := Lib.hid S
    clear S f hpre
    gi_wp2_with (with_reducible refine HoldIn.out ?_)
    refine HoldIn.mk ?_
    refine wpListIn_push HV.out 1 rfl x1 x2 rfl _ _ rfl rfl rfl hlen ?_
    intro q5 c5 W5 S5
    simp only [List.set_cons_succ, List.set_cons_zero] at S5
    have z5 : W5.frozen? ⟨w.heap.size, 0, none⟩ = false := (S5.at_ 2 rfl).frozen 0
    have k5 : W5.cell? ⟨w.heap.size, 0, none⟩ = some (.slice qs ls.length cs) := (S5.at_ 2 rfl).cell 0
    have HS5 := Lib.hid (S5.set 2 rfl 0 (.slice q5 (ls ++ [(x1, x2)]).length c5))
    have hll : (ls ++ [(x1, x2)]).length = ls.length + 1 := by simp
    rw [hll] at HS5
    have HLL := Lib.hid hll
    clear S5 hll
    gi_wp2_with fail
    exact ⟨q5, c5, by
      show Sep _ _ _ [_, Ob.blk _ _ #[.slice _ (ls ++ [(x1, x2)]).length _]]
      rw [HLL.out]; exact HS5.out.drop (.cons _ (.refl _))⟩
  case done =>
    rintro D' V ⟨qs, cs, ls⟩ hD hs S hK
    simp only at hs
    subst hs
    have c1 : V.cell? ⟨w.heap.size, 0, none⟩ = some (.slice qs ls.length cs) := (S.at_ 1 rfl).cell 0
    have HI := Lib.hid (HS0.out.did0 S); clear S
    gi_wp2_with fail
    refine ⟨by simp, .inl ⟨_, _, rfl, run_takeDeferred hK, ?_⟩⟩
    refine ⟨_, results_tmp (t := 2) rfl _ _ _, qs, cs, rfl, ?_⟩
    exact (odd_done HI.out hK (by rw [HZ.out] at hD; omega)).drop (.cons_cons _ (.cons _ .slnil))
  case stop =>
    rintro D' V pre s _ _ h
    exact h.elim

abbrev shPiece : Sh := .agg (.cons (.int .u32) (.cons (.slice (.int .u8)) .nil))
abbrev PcT : TypeId := 81
theorem bytes_of {W : World} {v : Value} {u : U} (h : (Sh.slice (.int .u8)).holds W u [v]) : ∃ (a : Option Addr) (cap : Nat) (l : List Int), v = .slice a l.length cap ∧ l.length ≤ cap ∧ cap ≤ maxLen ∧ (0 < l.length → Reads W 1 a l.length cap (fc u8c l)) := by
  obtain ⟨a, cap, L, rfl, h1, h2, h3⟩ := elems_of h (by decide)
  obtain ⟨l, hlen, hp⟩ := getElem?_some_of_list (f := fun _ => True) (P := fun k (x : Int) => ∃ b off, a = some ⟨b, off, none⟩ ∧ W.cell? ⟨b, off + (k * 1 + 0), none⟩ = some (.int .u8 x)) L.length (fun k hk => by
    obtain ⟨g1, ⟨u, g2⟩, b, off, rfl, hb, hc⟩ := h3 k L[k] (List.getElem?_eq_getElem hk)
    obtain ⟨x, _, e0, wx⟩ := g2
    rw [e0] at hc
    exact ⟨x, b, off, rfl, hc 0 (by decide)⟩)
  refine ⟨a, cap, l, by rw [hlen], by omega, h2, fun h0 => ?_⟩
  obtain ⟨b, off, rfl, _⟩ := hp 0 l[0] (List.getElem?_eq_getElem h0)
  refine ⟨by rw [fc_length u8c_len, Nat.mul_one], by omega, fun h => (by cases h), fun ad h => (by cases h; rfl), fun ad had j u hu => ?_⟩
  cases had
  have hj : j < l.length := by have := (List.getElem?_eq_some_iff.1 hu).1; rwa [fc_length u8c_len, Nat.mul_one] at this
  obtain ⟨b', off', e, hcell⟩ := hp j l[j] (List.getElem?_eq_getElem hj)
  cases e
  have h2 := fc_at (f := u8c) u8c_len (List.getElem?_eq_getElem hj) (j := 0) (u := .int .u8 l[j]) rfl
  rw [Nat.mul_one, Nat.add_zero] at h2
  rw [h2] at hu
  cases hu
  rw [Nat.mul_one, Nat.add_zero] at hcell
  exact hcell
theorem piece_of {W : World} {u : U} {cs : List Value} (h : shPiece.holds W u cs) : ∃ (x : Int) (a : Option Addr) (cap : Nat) (l : List Int), cs = [.int .u32 x, .slice a l.length cap] ∧ u32B x ∧ (0 < l.length → Reads W 1 a l.length cap (fc u8c l)) := by
  obtain ⟨_, _, g⟩ := h
  obtain ⟨_, _, _, _, _, e0, _, ⟨x, _, rfl, hx⟩, g⟩ := g
  obtain ⟨_, _, c1, _, _, e1, l1, hb, g⟩ := g
  obtain ⟨_, rfl⟩ := g
  obtain ⟨v, rfl⟩ := List.length_eq_one_iff.1 (show c1.length = 1 from l1)
  obtain ⟨a, cap, l, rfl, _, _, hr⟩ := bytes_of hb
  subst e1 e0
  exact ⟨x, a, cap, l, rfl, wf_u32 hx, hr⟩
set_option maxRecDepth 100000 in
set_option maxHeartbeats 8000000 in
theorem heardNone_walk (w : World) (co : Array Value) (uo : U) (ho : shPiece.holds w uo co.toList) : Calls Try.prog 12 #[.agg co] w fun e w' => e = .returned (.bool true) ∧ Below w.heap.size w w' := by
  obtain ⟨num, a, cap, l, hco, hx, hb⟩ := piece_of ho
  obtain rfl : co = #[.int .u32 num, .slice a l.length cap] := Array.toList_inj.1 hco
  generalize l.length = len at *
  have HS0 := Lib.hid ((Sep.law w).alloc #[.int .u32 num, .slice a len cap] PcT)
  clear ho hco hb hx
  go_enter Try.func12, Try.ntmps12
  go_wp2_with (first
    | ((with_reducible refine (known23_any (w.alloc _)).mono ?_); rintro y0 w0 ⟨rfl, F0⟩; have S1 := HS0.out.same F0; have c0 : w0.cell? ⟨w.heap.size, 0, none⟩ = some (.int .u32 num) := (S1.at_ 0 rfl).cell 0; have c1 : w0.cell? ⟨w.heap.size, 1, none⟩ = some (.slice a len cap) := (S1.at_ 0 rfl).cell 1; have HS1 := Lib.hid S1; clear S1 F0)
    | ((with_reducible refine (htake_nil num a len cap w0).mono ?_); rintro y1 w1 ⟨rfl, F1⟩; have HS2 := Lib.hid ((HS1.out.same F1).skip (.cells #[.int .i64 0, .int .i64 0, .int .i64 0, .bool false, .int .i64 0, .int .i64 0] TdT)); clear F1)
    | ((with_reducible refine (hnext_nil _).mono ?_); rintro y2 w2 ⟨rfl, rfl⟩)
    | ((with_reducible refine (hbytes_nil _).mono ?_); rintro y3 w3 ⟨rfl, rfl⟩)
    | ((with_reducible refine (htext_nil _).mono ?_); rintro y4 w4 ⟨rfl, rfl⟩)
    | ((with_reducible refine (abv_nil _).mono ?_); rintro y5 w5 ⟨q5, c5, rfl, T5⟩; have HS5 := Lib.hid (HS2.out.same T5.fr); clear T5)
    | ((with_reducible refine (hclone_nil _).mono ?_); rintro y6 w6 ⟨rfl, rfl⟩)
    | ((with_reducible refine (known23_any _).mono ?_); rintro y7 w7 ⟨rfl, F7⟩; have HS7 := Lib.hid (HS5.out.same F7); clear F7)
    | fail)
  go_ret
  exact ⟨by simp, HS7.out.below⟩
end Go.Proofs.Ytfobeheplficgaa
/- Take in all cases, by the receiver and by the document. -/
namespace Go.Proofs.Ytfobeheplficgaa
open Go.RowKit Go.Und Go.Shelf
attribute [local go_sem] Oper.semAt_some
attribute [local go_sem ↓] Go.wp_at_zero Go.wp_at_succ

/-- What comes of a segment. -/
structure HT where
  l : List (Int × Int)
  b : List Int
  o : Int
  e : Int
  f : Int
  d : Bool
  d1 : Int
  d2 : Int
  c : Int
def hTy (l : List (Int × Int)) (b body : List Int) (o : Nat) : HT :=
  ⟨addL l ((o : Int), (o : Int) + body.length), layB l b o body, o, (o : Int) + body.length, lenS ((o : Int), (o : Int) + body.length) - withinL l ((o : Int), (o : Int) + body.length), decide (0 < lenS (meetS (nextL l o) ((o : Int), (o : Int) + body.length))), (meetS (nextL l o) ((o : Int), (o : Int) + body.length)).1, (meetS (nextL l o) ((o : Int), (o : Int) + body.length)).2, 0⟩
def hTn (l : List (Int × Int)) (b : List Int) (c : Int) : HT := ⟨l, b, 0, 0, 0, false, 0, 0, c⟩
def hT (first num : Int) (n room : Nat) (l : List (Int × Int)) (b body : List Int) : HT :=
  if codeH n room body.length (offH n first num) = 0 then hTy l b body (offH n first num).toNat else hTn l b (codeH n room body.length (offH n first num))
abbrev HT.told (t : HT) : Value := .agg #[.int .i64 t.o, .int .i64 t.e, .int .i64 t.f, .bool t.d, .int .i64 t.d1, .int .i64 t.d2]
theorem code_zero {n room len : Nat} {off : Int} (h : codeH n room len off = 0) : 0 < len ∧ len ≤ 2048 ∧ 0 ≤ off ∧ off + len ≤ n + room := by
  unfold codeH at h
  split at h
  · cases h
  · split at h
    · cases h
    · split at h
      · cases h
      · split at h
        · cases h
        · omega
/-- The cases of it. -/
theorem hT_cases (first num : Int) (n room : Nat) (l : List (Int × Int)) (b body : List Int) :
    (∃ o : Nat, codeH n room body.length (offH n first num) = 0 ∧ offH n first num = o ∧ 0 < body.length ∧ body.length ≤ 2048 ∧ o + body.length ≤ n + room ∧ hT first num n room l b body = hTy l b body o) ∨
    (codeH n room body.length (offH n first num) ≠ 0 ∧ hT first num n room l b body = hTn l b (codeH n room body.length (offH n first num))) := by
  by_cases h : codeH n room body.length (offH n first num) = 0
  · obtain ⟨h1, h2, h3, h4⟩ := code_zero h
    exact .inl ⟨(offH n first num).toNat, h, by omega, h1, h2, by omega, by unfold hT; rw [if_pos h]⟩
  · exact .inr ⟨h, by unfold hT; rw [if_neg h]⟩
def HTake (D : Nat → Prop) (w0 : World) (R : List Ob) (hp gp rb rc room : Nat) (first : Int) (t : HT) (n : Nat) (e : Ending) (w' : World) : Prop :=
  ∃ q' c' tq' tc' text' ring', e = .returned (.tuple #[t.told, .int .i64 t.c]) ∧ HOk room t.l t.b text' ring' ∧ ring'.length = room ∧ text'.length ≤ n + room ∧ Sep D w0 w' (hrd hp first gp q' c' t.l tq' tc' text' (some ⟨rb, 0, none⟩) rc ring' ++ R)
theorem htake_all {D : Nat → Prop} {w0 : World} {R : List Ob} (hp gp : Nat) (first num : Int) (q : Option Addr) (c : Nat) (l : List (Int × Int)) (tq : Option Addr) (tc : Nat) (text : List Int) (rb rc : Nat) (ring b : List Int) (a : Option Addr) (cap : Nat) (body : List Int) (w : World)
    (S : Sep D w0 w (hrd hp first gp q c l tq tc text (some ⟨rb, 0, none⟩) rc ring ++ R))
    (HB : ∀ V, Fr (fpL (hrd hp first gp q c l tq tc text (some ⟨rb, 0, none⟩) rc ring)) w V → 0 < body.length → Reads V 1 a body.length cap (fc u8c body))
    (hok : HOk ring.length l b text ring) (b3 : ring.length ≤ 65536) (b4 : text.length ≤ 50000000) (b5 : l.length ≤ 4000) :
    Calls Try.prog 42 #[.pointer (at0 hp), .int .u32 num, .slice a body.length cap] w (HTake D w0 R hp gp rb rc ring.length first (hT first num text.length ring.length l b body) text.length) := by
  rcases hT_cases first num text.length ring.length l b body with ⟨o, h0, ho, h1, h2, h3, he⟩ | ⟨h0, he⟩
  · rw [he]
    refine (take_yes hp gp first num q c l tq tc text rb rc ring b a cap body o w S.head (fun V f => HB V f h1) hok ho h1 h2 h3 b3 b4 b5).mono ?_
    rintro e w' ⟨q', c', tq', tc', text', ring', rfl, hok', T⟩
    refine ⟨q', c', tq', tc', text', ring', rfl, hok', hok'.rl, ?_, S.did T⟩
    have hps : PrS ((o : Int), (o : Int) + body.length) := ⟨by simp only; omega, by simp only; omega, by simp only; omega⟩
    have h5 := hok'.bl
    have h6 := congrArg List.length hok'.tx
    rw [List.length_take] at h6
    have h7 := layB_len l body b o
    have h8 := hok.bl
    omega
  · rw [he]
    obtain ⟨hh, -⟩ := hrd_cells S
    refine (htake_no hp first num (at0 gp) tq text.length tc (some ⟨rb, 0, none⟩) ring.length rc a body.length cap w (by omega) b3 (hh.cell 0) (hh.cell 2) (hh.cell 3) h0).mono ?_
    rintro e w' ⟨rfl, F⟩
    exact ⟨q, c, tq, tc, text, ring, rfl, hok, rfl, by omega, S.same F⟩
def R3Take (D : Nat → Prop) (w0 : World) (R : List Ob) (first : Int) (room : Nat) (t : HT) (e : Ending) (w' : World) : Prop :=
  ∃ lq' lc' bq' bc', e = .returned (.tuple #[.agg (r3c first room lq' lc' t.l bq' bc' t.b), t.told, .int .i64 t.c]) ∧ Sep D w0 w' (srow lq' lc' t.l :: brow bq' bc' t.b :: R)
theorem r3take_all {D : Nat → Prop} {w0 : World} {R : List Ob} (first num : Int) (n room : Nat) (lq : Option Addr) (lc : Nat) (l : List (Int × Int)) (bq : Option Addr) (bc : Nat) (b : List Int) (a : Option Addr) (cap : Nat) (body : List Int) (w : World) (ok : OkL l)
    (S : Sep D w0 w (srow lq lc l :: brow bq bc b :: R)) (hbd : 0 < body.length → Reads w 1 a body.length cap (fc u8c body)) (hl : l.length ≤ 4000) (hbl : b.length ≤ 100000000) (hn : gapL l 0 = n) (hn1 : n ≤ 50000000) (hroom : room ≤ 65536) (hu : u32B num) (hf : u32B first) :
    Calls Try.prog 47 #[.agg (r3c first room lq lc l bq bc b), .int .u32 num, .slice a body.length cap] w (R3Take D w0 R first room (hT first num n room l b body)) := by
  rcases hT_cases first num n room l b body with ⟨o, h0, ho, h1, h2, h3, he⟩ | ⟨h0, he⟩
  · rw [he]
    refine (r3take_yes first num n room lq lc l bq bc b a cap body o w ok (row_reads (S.at_ 0 rfl)) (brow_reads (S.at_ 1 rfl)) (hbd h1) hl hbl hn hn1 hroom hu hf ho h1 h2 h3).mono ?_
    rintro e w' ⟨lq', lc', bq', bc', rfl, T⟩
    exact ⟨lq', lc', bq', bc', rfl, (S.beside T).drop (.cons_cons _ (.cons_cons _ (.cons _ (.cons _ (.refl _)))))⟩
  · rw [he]
    have key : ∀ c, codeH n room body.length (offH n first num) = c → Calls Try.prog 47 #[.agg (r3c first room lq lc l bq bc b), .int .u32 num, .slice a body.length cap] w (fun e w' => e = .returned (.tuple #[.agg (r3c first room lq lc l bq bc b), toldZ, .int .i64 c]) ∧ Fr None w w') := fun c hc => by
      by_cases g : 0 < body.length ∧ body.length ≤ 2048
      · refine r3take_off first num _ n room lq lc l bq bc b a body.length cap c w (row_reads (S.at_ 0 rfl)) (by omega) hn (by omega) hroom hu hf rfl g.1 g.2 ?_
        unfold codeH at hc h0
        rw [if_neg (by omega), if_neg (by omega)] at hc h0
        split at hc
        · rename_i h; exact .inl ⟨h, hc.symm⟩
        · split at hc
          · rename_i h h'; exact .inr ⟨by omega, h', hc.symm⟩
          · rename_i h h'; rw [if_neg h, if_neg h'] at h0; exact absurd rfl h0
      · refine r3take_short first num room lq lc l bq bc b a body.length cap c w ?_
        unfold codeH at hc
        by_cases g1 : body.length = 0
        · rw [if_pos g1] at hc; exact .inl ⟨g1, hc.symm⟩
        · rw [if_neg g1, if_pos (by omega)] at hc; exact .inr ⟨by omega, hc.symm⟩
    refine (key _ rfl).mono ?_
    rintro e w' ⟨rfl, F⟩
    exact ⟨lq, lc, bq, bc, rfl, S.same F⟩
end Go.Proofs.Ytfobeheplficgaa
/- Two pieces, the second one behind or in the first: plain. -/
namespace Go.Und

theorem ok_one {P : Int} (h : 0 < P) (h2 : P ≤ 4611686018427387904) : OkL [(0, P)] := ⟨⟨Int.le_refl _, h, h2⟩, fun _ hx => (by cases hx), trivial⟩
theorem mem_one (P o : Int) : memL [(0, P)] o ↔ 0 ≤ o ∧ o < P := by
  rw [memL_cons]
  exact ⟨fun h => h.elim id (fun h => absurd h (memL_nil _)), .inl⟩
theorem addL_nil {P : Int} (h : 0 < P) (h2 : P ≤ 4611686018427387904) : addL [] (0, P) = [(0, P)] := by
  obtain ⟨h3, h4⟩ := add_ok (l := []) trivial (s := (0, P)) ⟨Int.le_refl _, h, h2⟩
  refine ok_ext h3 (ok_one h h2) fun o => ?_
  rw [h4, mem_one]
  exact ⟨fun h => h.elim (fun h => absurd h (memL_nil _)) id, .inr⟩
theorem add_one {P f Q : Int} (h : 0 < P) (h0 : 0 ≤ f) (h1 : f ≤ P) (hq : 0 < Q) (h2 : P + Q ≤ 4611686018427387904) : addL [(0, P)] (f, f + Q) = [(0, max P (f + Q))] := by
  obtain ⟨h3, h4⟩ := add_ok (l := [(0, P)]) (ok_one h (by omega)) (s := (f, f + Q)) ⟨h0, by simp only; omega, by simp only; omega⟩
  refine ok_ext h3 (ok_one (by omega) (by omega)) fun o => ?_
  rw [h4, mem_one, mem_one]
  simp only
  omega
theorem gap_one {P : Int} (h : 0 < P) (h2 : P ≤ 4611686018427387904) : gapL [(0, P)] 0 = P :=
  gap_is_of (ok_one h h2) (by omega) (fun o h0 h1 => (mem_one P o).2 ⟨h0, h1⟩) (fun h => by have := (mem_one P P).1 h; omega)
theorem memB_one (P o : Int) : memB [(0, P)] o = decide (0 ≤ o ∧ o < P) := by
  rw [Bool.eq_iff_iff, memB_iff, decide_eq_true_eq, mem_one]
theorem frN_one {P f : Int} (h0 : 0 ≤ f) (h1 : f ≤ P) : ∀ n : Nat, frN [(0, P)] f n = max (f + n - P) 0
  | 0 => by unfold frN; omega
  | n + 1 => by
    unfold frN
    rw [frN_one h0 h1 n, memB_one]
    by_cases g : f + (n : Int) < P
    · rw [if_pos (decide_eq_true ⟨by omega, g⟩)]; push_cast; omega
    · rw [if_neg (by rw [decide_eq_true_eq]; omega)]; push_cast; omega
theorem lay_nil (p : List Int) : layB [] [] 0 p = p := by
  refine List.ext_getElem? fun k => ?_
  by_cases g : k < p.length
  · rw [layB_new [] (memL_nil _) p [] 0 (Nat.zero_le _) (by omega)]; rfl
  · have := (layB_len [] p [] 0).2
    rw [List.getElem?_eq_none (by simp at this; omega), List.getElem?_eq_none (by omega)]
theorem lay_one (p q : List Int) {f : Nat} (hf : f ≤ p.length) : layB [(0, (p.length : Int))] p f q = p ++ q.drop (p.length - f) := by
  obtain ⟨h1, h2⟩ := layB_len [(0, (p.length : Int))] q p f
  refine List.ext_getElem? fun k => ?_
  by_cases g : k < p.length
  · rw [layB_old _ q p f g (fun _ => (mem_one _ _).2 ⟨by omega, by omega⟩), List.getElem?_append_left g]
  · rw [List.getElem?_append_right (by omega), List.getElem?_drop]
    by_cases g2 : k < f + q.length
    · rw [layB_new _ (fun h => by have := (mem_one _ _).1 h; omega) q p f (by omega) g2, show p.length - f + (k - p.length) = k - f by omega]
    · rw [List.getElem?_eq_none (by omega), List.getElem?_eq_none (by omega)]
theorem dup_one {P f Q : Int} (h : 0 < P) (h0 : 0 ≤ f) (h1 : f ≤ P) (hq : 0 < Q) (h2 : P + Q ≤ 4611686018427387904) : decide (0 < lenS (meetS (nextL [(0, P)] f) (f, f + Q))) = decide (f < P) := by
  have ok := ok_one h (by omega)
  have hs : PrS (f, f + Q) := ⟨h0, by simp only; omega, by simp only; omega⟩
  by_cases g : f < P
  · have ha : atL [(0, P)] f = 0 := by unfold atL fstP; simp [List.takeWhile_cons, g]
    obtain ⟨e1, e2⟩ := next_at ok f (x := (0, P)) (by rw [ha]; rfl)
    rw [e1, decide_eq_true g, decide_eq_true]
    have hp : plainS (0, P) = (0, P) := PrS.plain ⟨Int.le_refl _, h, by simp only; omega⟩
    have hf : fromS (0, P) f = (f, P) := by unfold fromS; rw [hp]; simp only; rw [show max 0 f = f by omega]; exact PrS.plain ⟨h0, by simp only; omega, by simp only; omega⟩
    rw [hf]
    have hp2 : plainS (f, P) = (f, P) := PrS.plain ⟨h0, by simp only; omega, by simp only; omega⟩
    have hm : meetS (f, P) (f, f + Q) = (f, min P (f + Q)) := by unfold meetS; rw [hp2, hs.plain]; simp only; rw [show max f f = f by omega]; exact PrS.plain ⟨h0, by simp only; omega, by simp only; omega⟩
    rw [hm, lenS_of ⟨h0, by simp only; omega, by simp only; omega⟩]
    simp only; omega
  · have ha : atL [(0, P)] f = 1 := by unfold atL fstP; simp [List.takeWhile_cons, g]
    rw [next_out ok f ha, decide_eq_false g]
    have hm : meetS (0, 0) (f, f + Q) = (0, 0) := by
      unfold meetS
      rw [hs.plain, show plainS (0, 0) = (0, 0) by decide]
      simp only
      rcases plainS_cases (max 0 f, min 0 (f + Q)) with ⟨_, h'⟩ | ⟨h', _⟩
      · simp only at h'; omega
      · exact h'
    rw [hm]; decide
end Go.Und
