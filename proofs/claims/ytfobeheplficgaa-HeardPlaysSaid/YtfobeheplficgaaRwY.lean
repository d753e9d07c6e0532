/- Collect, Equal, Clone, Same: walked. -/
import Derived.Test.YtfobeheplficgaaRwX
set_option linter.unusedVariables false
set_option linter.unusedSimpArgs false
namespace Go.Proofs.Ytfobeheplficgaa
open Go.RowKit Go.Und Go.Shelf
attribute [local go_sem] Oper.semAt_some
attribute [local go_sem ↓] Go.wp_at_zero Go.wp_at_succ

set_option maxRecDepth 100000 in
set_option maxHeartbeats 4000000 in
theorem appendSeq_any (gf : Nat) (lb : Array Value) (eg : ∀ args w, (callFunc gf args).run Try.prog w = .ok (.enter gf args) w) (m : List (Int × Int)) (hm : m.length ≤ 100000) (Sh : Nat → Prop) (w : World) (hSh : ∀ k, Sh k → k < w.heap.size)
    (hseq : ∀ n, SeqY n Try.prog gf lb encS Sh m (w.alloc (.cells #[.slice none 0 0] SlT))) :
    Calls Try.prog 96 #[.slice none 0 0, .func (.func gf) #[] lb] w fun e w' => ∃ q' c', e = .returned (.slice q' m.length c') ∧ Sep None w w' [srow q' c' m] := by
  have S0 := (((Sep.law w).alloc #[.slice none 0 0] SlT).add (srow none 0 []) (Fr.refl None _) (Owns.nil spc 2 SpT _) (fun k hk => by cases hk))
  have hsz : (w.alloc (.cells #[.slice none 0 0] SlT)).heap.size = w.heap.size + 1 := by simp
  have HSh := Lib.hid (show ∀ k, Sh k → k < (w.alloc (.cells #[.slice none 0 0] SlT)).heap.size ∧ ¬ fpL (bxL w.heap.size (none, 0, [])) k from fun k hk => by
    have := hSh k hk
    exact ⟨by omega, fun h => by have := fp_bx h; omega⟩)
  have HS0 := Lib.hid (show Sep None w (w.alloc (.cells #[.slice none 0 0] SlT)) (bxL w.heap.size (none, 0, [])) from S0)
  have HS := Lib.hid hseq
  have EG := Lib.hid eg
  clear S0 hSh hseq eg
  refine (callsIn_wide (n := 5)).1 ?_
  refine callsIn_of_wp_marks Try.func96 rfl trivial ?_ rfl
  simp only [Try.ntmps96, List.size_toArray, List.length_cons, List.length_nil, Nat.reduceAdd, Nat.reduceSub, Array.replicate_succ, Array.replicate_zero, List.push_toArray, List.append_toArray, List.nil_append, List.cons_append]
  gi_wp2_with fail
  refine wpIn_rangeL (gf := gf) (lb := lb) rfl EG.out (HS.out _) (Below.refl _ _) (fun _ => rfl)
    HS0.out.self HSh.out (fun pre s => s.2.2 = pre) (bxL w.heap.size) (fun _ _ => False) (none, 0, []) rfl rfl ?fA SpT (fun x => #[.int .i64 x.1, .int .i64 x.2]) ?assign ?body ?done ?stop
  case assign =>
    intro l' x V K hK
    gi_wp2
    generalize V.heap.size = k at *
    exact hK
  case body =>
    rintro l' pre ⟨x1, x2⟩ k V ⟨qs, cs, ls⟩ hs hpre S f hk
    simp only at hs
    subst hs
    have c1 : V.cell? ⟨w.heap.size, 0, none⟩ = some (.slice qs ls.length cs) := (S.at_ 2 rfl).cell 0
    have x1c : V.cell? ⟨k, 0, none⟩ = some (.int .i64 x1) := (S.at_ 0 rfl).cell 0
    have x2c : V.cell? ⟨k, 1, none⟩ = some (.int .i64 x2) := (S.at_ 0 rfl).cell 1
    have hlen : ls.length ≤ 1000000 := by have h5 := hpre.length_le; rw [List.length_append, List.length_singleton] at h5; omega
    have HV := Lib.hid S
    clear S f hpre
    gi_wp2_with (with_reducible refine HoldIn.out ?_)
    refine HoldIn.mk ?_
    refine wpListIn_push HV.out 1 rfl x1 x2 rfl _ _ rfl rfl rfl hlen ?_
    intro q5 c5 W5 S5
    simp only [List.set_cons_succ, List.set_cons_zero] at S5
    have z5 : W5.frozen? ⟨w.heap.size, 0, none⟩ = false := (S5.at_ 2 rfl).frozen 0
    have k5 : W5.cell? ⟨w.heap.size, 0, none⟩ = some (.slice qs ls.length cs) := (S5.at_ 2 rfl).cell 0
    have HS5 := Lib.hid (S5.set 2 rfl 0 (.slice q5 (ls ++ [(x1, x2)]).length c5))
    have hll : (ls ++ [(x1, x2)]).length = ls.length + 1 := by simp
    rw [hll] at HS5
    have HLL := Lib.hid hll
    clear S5 hll
    gi_wp2_with fail
    exact ⟨q5, c5, by
      show Sep _ _ _ [_, Ob.blk _ _ #[.slice _ (ls ++ [(x1, x2)]).length _]]
      rw [HLL.out]; exact HS5.out.drop (.cons _ (.refl _))⟩
  case done =>
    rintro D' V ⟨qs, cs, ls⟩ hD hs S hK
    simp only at hs
    subst hs
    have c1 : V.cell? ⟨w.heap.size, 0, none⟩ = some (.slice qs ls.length cs) := (S.at_ 1 rfl).cell 0
    have HI := Lib.hid (HS0.out.did0 S); clear S
    gi_wp2_with fail
    refine ⟨by simp, .inl ⟨_, _, rfl, run_takeDeferred hK, ?_⟩⟩
    refine ⟨_, results_tmp (t := 4) rfl _ _ _, qs, cs, rfl, ?_⟩
    exact (odd_done HI.out hK (by rw [World.size_alloc] at hD; omega)).drop (.cons_cons _ (.cons _ .slnil))
  case stop =>
    rintro D' V pre s _ _ h
    exact h.elim
theorem collect_any (gf : Nat) (lb : Array Value) (eg : ∀ args w, (callFunc gf args).run Try.prog w = .ok (.enter gf args) w) (m : List (Int × Int)) (hm : m.length ≤ 100000) (Sh : Nat → Prop) (w : World) (hSh : ∀ k, Sh k → k < w.heap.size)
    (hseq : ∀ n, SeqY n Try.prog gf lb encS Sh m (w.alloc (.cells #[.slice none 0 0] SlT))) :
    Calls Try.prog 73 #[.func (.func gf) #[] lb] w fun e w' => ∃ q' c', e = .returned (.slice q' m.length c') ∧ Sep None w w' [srow q' c' m] := by
  have HA := Lib.hid (appendSeq_any gf lb eg m hm Sh w hSh hseq)
  clear hseq hSh eg
  go_enter Try.func73, Try.ntmps73
  go_wp2_with ((with_reducible refine (HA.out).mono ?_); rintro e1 w1 ⟨q1, c1, rfl, T⟩; have HT := Lib.hid T; clear T)
  go_ret
  exact ⟨q1, c1, rfl, HT.out⟩
set_option maxRecDepth 100000 in
set_option maxHeartbeats 4000000 in
theorem equal_any (p q : Option Addr) (c d : Nat) (l m : List (Int × Int)) (w : World) (hr : Reads w 2 p l.length c (fc spc l)) (hq : Reads w 2 q m.length d (fc spc m)) (hs : l.length ≤ 1000000) (hs2 : m.length ≤ 1000000) :
    Calls Try.prog 72 #[.slice p l.length c, .slice q m.length d] w fun e w' => e = .returned (.bool (decide (l = m))) ∧ Fr None w w' := by
  by_cases hlm : l.length = m.length
  · have HR := Lib.hid hr; clear hr
    have HQ := Lib.hid hq; clear hq
    have HL := Lib.hid hlm
    rw [← hlm]
    have hz : ((l.length : Int) != l.length) = false := by simp
    clear hlm hs2
    go_enter Try.func72, Try.ntmps72
    go_wp2_with fail
    go_loopg [5, 13] l.length (fun r _ i wr => ∃ k n : Nat, k + r = l.length ∧ i = .int .i64 k ∧ wr = w.drewN n ∧ l.take k = m.take k)
    case atStart => exact ⟨0, 0, by omega, rfl, rfl, rfl⟩
    case round =>
      obtain ⟨k, n, hk0, rfl, rfl, he⟩ := hrel
      have HE := Lib.hid he
      clear he
      by_cases g : k < l.length
      · have ex := List.getElem?_eq_getElem g
        have ey : m[k]? = some (m[k]'(by have := HL.out; omega)) := List.getElem?_eq_getElem _
        obtain ⟨b, off, rfl, hc⟩ := HR.out.elem spc_len (by decide) ex
        obtain ⟨b2, off2, rfl, hd⟩ := HQ.out.elem spc_len (by decide) ey
        have hst := eq_uptoL HL.out HE.out ex ey
        generalize l[k] = x at *
        generalize m[k]'_ = y at *
        obtain ⟨x1, x2⟩ := x
        obtain ⟨y1, y2⟩ := y
        have c1 : w.cell? ⟨b, off + k * 2, none⟩ = some (.int .i64 x1) := hc 0 _ rfl
        have c2 : w.cell? ⟨b, off + k * 2 + 1, none⟩ = some (.int .i64 x2) := hc 1 _ rfl
        have d1 : w.cell? ⟨b2, off2 + k * 2, none⟩ = some (.int .i64 y1) := hd 0 _ rfl
        have d2 : w.cell? ⟨b2, off2 + k * 2 + 1, none⟩ = some (.int .i64 y2) := hd 1 _ rfl
        have hdl : (k : Int) < m.length := by have := HL.out; omega
        have HST := Lib.hid hst
        clear hc hd ex ey hst
        by_cases hxy : (x1, x2) = (y1, y2)
        · obtain ⟨rfl, rfl⟩ := Prod.mk.inj hxy
          clear hxy
          have he : ∀ W, (binOp .neq SpT (.agg #[.int .i64 x1, .int .i64 x2]) (.agg #[.int .i64 x1, .int .i64 x2])).run Try.prog W = .ok (.bool false) W := fun W => by rw [nqSp]; simp
          go_wp2_with fail
          go_quiet (fail)
          go_wp2_with fail
          go_roundg (gk - 1)
          case measure => omega
          case rel => exact ⟨k + 1, _, by omega, by go_num, rfl, HST.out.1.2 (by first | rfl | trivial)⟩
        · have hb : (x1 == y1 && x2 == y2) = false := by
            rw [Bool.eq_false_iff]
            intro h
            rw [Bool.and_eq_true, beq_iff_eq, beq_iff_eq] at h
            exact hxy (by rw [h.1, h.2])
          have he : ∀ W, (binOp .neq SpT (.agg #[.int .i64 x1, .int .i64 x2]) (.agg #[.int .i64 y1, .int .i64 y2])).run Try.prog W = .ok (.bool true) W := fun W => by rw [nqSp, hb]; rfl
          have HN := Lib.hid (show decide (l = m) = false from decide_eq_false (HST.out.2 hxy))
          clear hxy hb
          go_wp2_with fail
          go_quiet (fail)
          go_wp2_with fail
          go_ret
          exact ⟨by rw [HN.out]; rfl, ((Fr.refl None w).drewN _).drewN _⟩
      · have hk1 : k = l.length := by omega
        subst hk1
        have e1 : l = m := by have := HE.out; rw [List.take_length] at this; rw [this, HL.out, List.take_length]
        have HM := Lib.hid (show decide (l = m) = true from decide_eq_true e1)
        clear e1
        go_wp2_with fail
        go_ret
        exact ⟨by rw [HM.out]; rfl, (Fr.refl None w).drewN _⟩
  · have HM := Lib.hid (show decide (l = m) = false from decide_eq_false (fun e => hlm (by rw [e])))
    have hz : ((l.length : Int) != m.length) = true := by simp only [bne_iff_ne]; omega
    clear hr hq
    go_enter Try.func72, Try.ntmps72
    go_wp2_with fail
    go_ret
    exact ⟨by rw [HM.out]; rfl, Fr.refl None w⟩
theorem sizes2 (w : World) (o o' : Obj) : ((w.alloc o).alloc o').heap.size = w.heap.size + 2 := by simp
set_option maxRecDepth 100000 in
set_option maxHeartbeats 4000000 in
/-- Same: the lists are held against each other. -/
theorem same_any (pv1 pv2 : Option Addr) (m1 m2 : List (Int × Int)) (Sh1 Sh2 : Nat → Prop) (w : World) (h1 : AllK pv1 m1 Sh1 w) (h2 : AllK pv2 m2 Sh2 w) (s1 : ∀ k, Sh1 k → k < w.heap.size) (s2 : ∀ k, Sh2 k → k < w.heap.size) (l1 : m1.length ≤ 100000) (l2 : m2.length ≤ 100000) :
    Calls Try.prog 38 #[.pointer pv1, .pointer pv2] w fun e w' => e = .returned (.bool (decide (m1 = m2))) ∧ Fr None w w' := by
  have HA1 := Lib.hid (allP_any pv1 w)
  have HC1 := Lib.hid (collect_any 61 #[.pointer (at0 w.heap.size)] (enters_of Try.func61 (by kernel_rfl) rfl) m1 l1 (fun k => Sh1 k ∨ k = w.heap.size) (w.alloc (.cells #[.pointer pv1] RpT)) (by
    rintro k (hk | rfl)
    · have := s1 k hk; simp; omega
    · simp) (fun n => h1 n w.heap.size _ (FrC.none (((Fr.refl None w).alloc _).alloc _)) ((Blk.new w RpT _).alloc _) _ (fun _ h => .inl h) (.inr rfl)))
  have HA2 := Lib.hid (fun W => allP_any pv2 W)
  have HC2 := Lib.hid (fun (V : World) (f : Fr None w V) => collect_any 61 #[.pointer (at0 V.heap.size)] (enters_of Try.func61 (by kernel_rfl) rfl) m2 l2 (fun k => Sh2 k ∨ k = V.heap.size) (V.alloc (.cells #[.pointer pv2] RpT)) (by
    rintro k (hk | rfl)
    · have := s2 k hk; have := f.size; simp; omega
    · simp) (fun n => h2 n V.heap.size _ (FrC.none (f.trans (((Fr.refl None V).alloc _).alloc _))) ((Blk.new V RpT _).alloc _) _ (fun _ h => .inl h) (.inr rfl)))
  clear h1 h2 s1 s2
  go_enter Try.func38, Try.ntmps38
  go_wp2_with (first
    | ((with_reducible refine (HA1.out).mono ?_); rintro e1 w1 ⟨rfl, rfl⟩)
    | ((with_reducible refine (HC1.out).mono ?_); rintro e2 w2 ⟨q2, c2, rfl, T⟩; have HF2 := Lib.hid (((Fr.refl None w).alloc (.cells #[.pointer pv1] RpT)).trans T.fr); have HT2 := Lib.hid T; clear T)
    | ((with_reducible refine (HA2.out w2).mono ?_); rintro e3 w3 ⟨rfl, rfl⟩)
    | ((with_reducible refine (HC2.out w2 HF2.out).mono ?_); rintro e4 w4 ⟨q4, c4, rfl, T⟩; have HS4 := Lib.hid ((HT2.out.skip (.cells #[.pointer pv2] RpT)).beside T); have HF4 := Lib.hid (HF2.out.trans (((Fr.refl None w2).alloc (.cells #[.pointer pv2] RpT)).trans T.fr)); clear T)
    | ((with_reducible refine (equal_any q2 q4 c2 c4 m1 m2 _ (row_reads (HS4.out.at_ 1 rfl)) (row_reads (HS4.out.at_ 0 rfl)) (by omega) (by omega)).mono ?_); rintro e5 w5 ⟨rfl, F⟩; have HF5 := Lib.hid (HF4.out.trans F); clear F)
    | fail)
  go_ret
  exact ⟨rfl, HF5.out⟩
theorem same_refl (pv1 pv2 : Option Addr) (m : List (Int × Int)) (Sh1 Sh2 : Nat → Prop) (w : World) (h1 : AllK pv1 m Sh1 w) (h2 : AllK pv2 m Sh2 w) (s1 : ∀ k, Sh1 k → k < w.heap.size) (s2 : ∀ k, Sh2 k → k < w.heap.size) (l1 : m.length ≤ 100000) :
    Calls Try.prog 38 #[.pointer pv1, .pointer pv2] w fun e w' => e = .returned (.bool true) ∧ Fr None w w' := by
  have := same_any pv1 pv2 m m Sh1 Sh2 w h1 h2 s1 s2 l1 l1
  simpa using this
theorem eqNilS (a : Option Addr) (n c : Nat) (w : World) : (binOp .eql SlT (.slice a n c) (.slice none 0 0)).run Try.prog w = .ok (.bool a.isNone) w := by
  have e : ∀ d, (Op.equalIn (d + 1) SlT (.slice a n c) (.slice none 0 0)).run Try.prog w = .ok a.isNone w := fun d => by cases a <;> simp [Op.equalIn, run_underlying Try.underlying22]
  simp [binOp, Op.equal, Op.maxDepth, e 9999]
attribute [local go_sem] eqNilS
set_option maxRecDepth 100000 in
set_option maxHeartbeats 4000000 in
theorem sclone_any (p : Option Addr) (c : Nat) (l : List (Int × Int)) (w : World) (hr : Reads w 2 p l.length c (fc spc l)) (hl : l.length ≤ 100000) :
    Calls Try.prog 74 #[.slice p l.length c] w fun e w' => ∃ q' c', e = .returned (.slice q' l.length c') ∧ Sep None w w' [srow q' c' l] := by
  have HR := Lib.hid hr
  cases p with
  | none =>
    have hl0 : l = [] := List.eq_nil_of_length_eq_zero (by obtain ⟨h, _⟩ := hr.nil rfl; exact h)
    subst hl0
    have hc0 : c = 0 := (hr.nil rfl).2
    subst hc0
    clear hr
    go_enter Try.func74, Try.ntmps74
    go_wp2_with fail
    go_ret
    exact ⟨none, 0, rfl, (Sep.law w).add (srow none 0 []) (Fr.refl None _) (Owns.nil spc 2 SpT _) (fun k hk => by cases hk)⟩
  | some ad =>
    obtain ⟨inf, hi1, hz0, hz1, hz2⟩ := info_parts spInfo
    have HI := Lib.hid (And.intro hi1 (And.intro hz0 (And.intro hz1 hz2))); clear hi1 hz0 hz1 hz2
    clear hr
    go_enter Try.func74, Try.ntmps74
    go_wp2_with (at_builtin; refine Hold.out ?_)
    refine Hold.mk ?_
    refine wpList_append_row _ rfl _ _ _ rfl 0 SpT inf _ 2 16 Try.underlying22 HI.out.1 HI.out.2.1 HI.out.2.2.1 HI.out.2.2.2 rfl (by decide) _ 0 (fc spc []) rfl (owns_bare (f := spc) (n := 2) (T := SpT) (Blk.new w SpT #[])) (some ad) l.length c (fc spc l) rfl (HR.out.fr (D := None) ((Fr.refl None w).alloc _) (fun _ _ h => h)) (fc_one spc_one _) (by simp [maxLen]; omega) (by omega) (Nat.zero_le _) ?_
    intro q2 c2 w8 ho2 hf2 hb2
    rw [Nat.zero_add] at ho2 hb2
    have S8 : Sep None w w8 [srow q2 c2 l] := by
      have S1 := (Sep.law w).add (Ob.row 0 SpT 2 (.slice (some ⟨w.heap.size, 0, none⟩) 0 0) 0 (fc spc [])) ((Fr.refl None w).alloc (.cells #[] SpT)) (owns_bare (f := spc) (n := 2) (T := SpT) (Blk.new w SpT #[])) (fun k hk => by
        have hk' : (Value.slice (some ⟨w.heap.size, 0, none⟩) 0 0).ownBlock = some k := hk
        cases hk'; exact Nat.le_refl _)
      exact S1.turn 0 rfl (srow q2 c2 l) hf2 (fun _ _ h => h) ho2 (fun k hk => by
        have hk' : (Value.slice q2 l.length c2).ownBlock = some k := hk
        rcases hb2 with e | e
        · exact .inl (Eq.trans e.symm hk')
        · rw [e] at hk'; cases hk'; exact .inr (Nat.le_refl _))
    have HS8 := Lib.hid S8
    clear S8 ho2 hf2 hb2
    go_wp2_with fail
    go_ret
    exact ⟨q2, c2, by simp, HS8.out⟩
end Go.Proofs.Ytfobeheplficgaa
