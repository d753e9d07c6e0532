/- RunsWhole: walked. -/
import Derived.Test.YtfobeheplficgaaRwVa
import Derived.Test.YtfobeheplficgaaRwEa
import Derived.Test.YtfobeheplficgaaRangeR
set_option linter.unusedVariables false
set_option linter.unusedSimpArgs false
namespace Go.Proofs.Ytfobeheplficgaa
open Go.RowKit Go.Und Go.Shelf
open Go.ChangeShapes Go.WideShapes Go.ChangeAt
attribute [local go_sem] Oper.semAt_some
attribute [local go_sem ↓] Go.wp_at_zero Go.wp_at_succ

theorem _root_.Go.Und.gaps_all {l : List (Int × Int)} (ok : OkL l) (s : Int × Int) : OkL (gapsR l s) ∧ (∀ o, memL (gapsR l s) o ↔ inS s o ∧ ¬ memL l o) ∧ (∀ g ∈ gapsR l s, withinL l g = 0) ∧ bytesL (gapsR l s) + withinL l s = lenS s := by
  by_cases hz : lenS s = 0
  · have e : gapsR l s = [] := by unfold gapsR; rw [if_pos hz]
    rw [e]
    exact ⟨trivial, fun o => ⟨fun h => absurd h (memL_nil o), fun h => absurd h.1 (inS_zero hz o)⟩, fun g hg => (by cases hg), by rw [within_none hz, hz]; rfl⟩
  · have hs := lenS_ne hz
    obtain ⟨r1, r2⟩ := gapsR_ok hs l ok
    have hm : ∀ o, memL (gapsR l s) o ↔ inS s o ∧ ¬ memL l o := fun o => by rw [r2, inS_pr hs]
    obtain ⟨n, hn⟩ := enough
    refine ⟨r1, hm, fun g hg => ?_, ?_⟩
    · rw [within_cnt hn g ok, cnt_congr (q := fun _ => false) n fun o => ?_, cnt_none]
      rw [Bool.eq_false_iff]
      intro h
      rw [Bool.and_eq_true, memB_iff] at h
      have hg2 : inS g o := by have := h.2; unfold inB at this; simpa using this
      have pg := r1.pr g hg
      rw [inS_pr pg] at hg2
      exact ((hm o).1 ⟨g, hg, hg2⟩).2 h.1
    · rw [bytes_cnt hn r1, within_cnt hn s ok, len_cnt s hn, cnt_split (p := inB s) (q := memB l) n]
      have e1 : cntP (memB (gapsR l s)) n = cntP (fun o => inB s o && !memB l o) n := cnt_congr n fun o => by
        rw [Bool.eq_iff_iff, memB_iff, hm, Bool.and_eq_true, Bool.not_eq_true', ← Bool.not_eq_true, memB_iff]
        unfold inB
        rw [decide_eq_true_eq]
      have e2 : cntP (fun o => memB l o && inB s o) n = cntP (fun o => inB s o && memB l o) n := cnt_congr n fun o => Bool.and_comm _ _
      omega
/-- The runs and the gaps are the whole. -/
theorem _root_.Go.Und.whole_eq {l A : List (Int × Int)} (ok : OkL l) (s : Int × Int) (okA : OkL A) (hA : ∀ o, memL A o ↔ memL (gapsR l s) o ∨ (memL l o ∧ inS s o)) : bytesL A = lenS s ∧ (lenS s ≠ 0 → A.length = 1) := by
  obtain ⟨_, g2, _, _⟩ := gaps_all ok s
  have hA2 : ∀ o, memL A o ↔ inS s o := fun o => by
    rw [hA, g2]
    constructor
    · rintro (h | h)
      · exact h.1
      · exact h.2
    · intro h
      by_cases hm : memL l o
      · exact .inr ⟨hm, h⟩
      · exact .inl ⟨h, hm⟩
  by_cases hz : lenS s = 0
  · have : A = [] := ok_ext okA (m := []) trivial fun o => by rw [hA2]; exact ⟨fun h => absurd h (inS_zero hz o), fun h => absurd h (memL_nil o)⟩
    rw [this, hz]; exact ⟨rfl, fun h => absurd rfl h⟩
  · have hs := lenS_ne hz
    have : A = [s] := ok_ext okA (m := [s]) ⟨hs, fun y hy => (by cases hy), trivial⟩ fun o => by
      rw [hA2, inS_pr hs, memL_cons]
      exact ⟨fun h => .inl h, fun h => h.elim id fun h => absurd h (memL_nil o)⟩
    rw [this]
    exact ⟨by simp [bytesL], fun _ => rfl⟩
/-- A round over the runs. -/
theorem _root_.Go.Und.whole_step {l A G pre : List (Int × Int)} {x s : Int × Int} (ok : OkL l) (hp : pre ++ [x] <+: l) (okA : OkL A) (hA : ∀ o, memL A o ↔ memL G o ∨ (memL pre o ∧ inS s o)) : OkL (stepL false A (meetS x s)) ∧ ∀ o, memL (stepL false A (meetS x s)) o ↔ memL G o ∨ (memL (pre ++ [x]) o ∧ inS s o) := by
  obtain ⟨s1, s2⟩ := step_ok false okA (meetS x s)
  have px : PrS x := ok.pr x (hp.subset (by simp))
  refine ⟨s1, fun o => ?_⟩
  rw [s2, if_neg (by decide), hA, in_meet, inS_pr px, memL_append, memL_cons]
  constructor
  · rintro ((h | h) | h)
    · exact .inl h
    · exact .inr ⟨.inl h.1, h.2⟩
    · exact .inr ⟨.inr (.inl h.1), h.2⟩
  · rintro (h | ⟨h | h | h, h2⟩)
    · exact .inl (.inl h)
    · exact .inl (.inr ⟨h, h2⟩)
    · exact .inr ⟨h, h2⟩
    · exact absurd h (memL_nil o)
/-- A round over the gaps. -/
theorem _root_.Go.Und.gap_step {l pre : List (Int × Int)} {g s : Int × Int} (ok : OkL l) (hp : pre ++ [g] <+: gapsR l s) : OkL pre ∧ PrS g ∧ (∀ y ∈ pre, y.2 < g.1) ∧ withinL l g = 0 ∧ pre.length + 1 ≤ (gapsR l s).length ∧ bytesL (pre ++ [g]) = bytesL pre + (g.2 - g.1) ∧ 0 ≤ bytesL pre + (g.2 - g.1) ∧ bytesL pre + (g.2 - g.1) ≤ 4611686018427387904 := by
  obtain ⟨g1, _, g3, _⟩ := gaps_all ok s
  obtain ⟨t, ht⟩ := hp
  rw [← ht] at g1
  have h1 := (okL_append.1 g1).1
  obtain ⟨h2, h3, h4⟩ := okL_append.1 h1
  have pg : PrS g := h3.1
  have hb := bytes_snoc pre g
  rw [pg.len] at hb
  have := bytes_bounds h1
  refine ⟨h2, pg, fun y hy => h4 y hy g List.mem_cons_self, g3 g (by rw [← ht]; simp), by rw [← ht]; simp, hb, by omega, by omega⟩
theorem keep5s {V : World} {B b1 b2 b3 b4 : Nat} {x v1 v2 v3 v4 v5 : Value} (h : V.cell? ⟨b1, 0, none⟩ = some v1 ∧ V.cell? ⟨b2, 0, none⟩ = some v2 ∧ V.cell? ⟨b3, 0, none⟩ = some v3 ∧ V.cell? ⟨b4, 0, none⟩ = some v4 ∧ V.cell? ⟨b4, 1, none⟩ = some v5) (hn : b1 ≠ B ∧ b2 ≠ B ∧ b3 ≠ B ∧ b4 ≠ B) :
    (V.setCell ⟨B, 0, none⟩ x).cell? ⟨b1, 0, none⟩ = some v1 ∧ (V.setCell ⟨B, 0, none⟩ x).cell? ⟨b2, 0, none⟩ = some v2 ∧ (V.setCell ⟨B, 0, none⟩ x).cell? ⟨b3, 0, none⟩ = some v3 ∧ (V.setCell ⟨B, 0, none⟩ x).cell? ⟨b4, 0, none⟩ = some v4 ∧ (V.setCell ⟨B, 0, none⟩ x).cell? ⟨b4, 1, none⟩ = some v5 := by
  have e : ∀ (a : Addr), a.block ≠ B → (V.setCell ⟨B, 0, none⟩ x).cell? a = V.cell? a := fun a ha => World.cell?_of_block (Below.heap_setCell _ _ _ _ ha)
  exact ⟨(e _ hn.1).trans h.1, (e _ hn.2.1).trans h.2.1, (e _ hn.2.2.1).trans h.2.2.1, (e _ hn.2.2.2).trans h.2.2.2.1, (e _ hn.2.2.2).trans h.2.2.2.2⟩
abbrev BoT : TypeId := 4
theorem results_cell_boolW {fn : Func} {p : Tmp} (h : fn.results = #[.cell p BoT]) (tmps : Array Value) (w : World) (g : Nat) (b : Bool)
    (hp : tmps.getD p undef = .pointer (some ⟨g, 0, none⟩)) (hg : Blk w g BoT #[.bool b]) : (results fn tmps).run Try.prog w = .ok (.bool b) w := by
  have hp' : tmps[p]?.getD undef = .pointer (some ⟨g, 0, none⟩) := by simpa using hp
  have c : w.cell? ⟨g, 0, none⟩ = some (.bool b) := hg.cell 0
  simp [results, h, hp', asAddr, go_sem, c]
set_option maxRecDepth 100000 in
set_option maxHeartbeats 16000000 in
theorem runsWhole_walk (w : World) (vl : Value) (ul : U) (hl : (Sh.slice shSp).holds w ul [vl]) (co : Array Value) (uo : U) (ho : shSp.holds w uo co.toList) :
    Calls Try.prog 3 #[vl, .agg co] w fun e w' => e = .returned (.bool true) ∧ Below w.heap.size w w' := by
  obtain ⟨pl, capl, l, rfl, hcl, hml, hat⟩ := spans_of hl
  obtain ⟨a, b, hco⟩ := span_of ho
  obtain rfl : co = #[.int .i64 a, .int .i64 b] := Array.toList_inj.1 hco
  have S0 := ((Sep.law w).alloc #[.int .i64 a, .int .i64 b] SpT).alloc #[.bool false] BoT
  rw [World.size_alloc] at S0
  have HS0 := Lib.hid S0
  have HAT := Lib.hid hat
  clear hat hl ho hco S0
  refine (callsIn_wide (n := 5)).1 ?_
  refine callsIn_of_wp_marks Try.func3 rfl trivial ?_ rfl
  refine wpIn_wide.2 ?_
  simp only [Try.ntmps3, List.size_toArray, List.length_cons, List.length_nil, Nat.reduceAdd, Nat.reduceSub, Array.replicate_succ, Array.replicate_zero, List.push_toArray, List.append_toArray, List.nil_append, List.cons_append]
  go_upto_block 0 with (first
    | ((with_reducible refine (known7_any _).mono ?_); rintro e0 w0 ⟨rfl, F0⟩; have HS1 := Lib.hid (HS0.out.same F0); clear F0)
    | ((with_reducible refine (new_any w0).mono ?_); rintro e1 w1 ⟨rfl, T⟩; have HS2 := Lib.hid (HS1.out.beside T); clear T)
    | ((with_reducible refine (new_any w1).mono ?_); rintro e2 w2 ⟨rfl, T⟩; have HS3 := Lib.hid (HS2.out.beside T); have lt2 : w1.heap.size < w2.heap.size := Blk.lt ((HS3.out).at_ 0 rfl); clear T)
    | fail)
  have HX := Lib.hid (show Sep None w ((w2.alloc (.cells #[.pointer (at0 w0.heap.size)] RpT)).alloc (.cells #[.pointer (at0 w1.heap.size)] RpT)) (rns w0.heap.size none 0 [] ++ (rns w1.heap.size none 0 [] ++ [Ob.blk w2.heap.size RpT #[.pointer (at0 w0.heap.size)], Ob.blk (w2.heap.size + 1) RpT #[.pointer (at0 w1.heap.size)], Ob.blk (w.heap.size + 1) BoT #[.bool false], Ob.blk w.heap.size SpT #[.int .i64 a, .int .i64 b]])) from by
    have S := (HS3.out.alloc #[.pointer (at0 w0.heap.size)] RpT).alloc #[.pointer (at0 w1.heap.size)] RpT
    rw [World.size_alloc] at S
    exact ((((S.front 1 rfl).front 3 rfl).front 3 rfl).front 5 rfl).front 5 rfl)
  clear HS0 HS1 HS2 HS3
  go_cut [7] from 17 to 32 (fun v wx => ∃ (q : Option Addr) (c : Nat) (L : List (Int × Int)), OkL L ∧ L.length ≤ 100 ∧ Sep None w wx (rns w0.heap.size q c L ++ (rns w1.heap.size none 0 [] ++ [Ob.blk w2.heap.size RpT #[.pointer (at0 w0.heap.size)], Ob.blk (w2.heap.size + 1) RpT #[.pointer (at0 w1.heap.size)], Ob.blk (w.heap.size + 1) BoT #[.bool false], Ob.blk w.heap.size SpT #[.int .i64 a, .int .i64 b]])))
  case first =>
    go_wp2_with fail
    go_loopg [7] 100 (fun n iv wr => ∃ (k : Nat) (q : Option Addr) (c : Nat) (L : List (Int × Int)), k + n = 100 ∧ k ≤ l.length ∧ iv = .int .i64 k ∧ OkL L ∧ L.length ≤ k ∧ Sep None w wr (rns w0.heap.size q c L ++ (rns w1.heap.size none 0 [] ++ [Ob.blk w2.heap.size RpT #[.pointer (at0 w0.heap.size)], Ob.blk (w2.heap.size + 1) RpT #[.pointer (at0 w1.heap.size)], Ob.blk (w.heap.size + 1) BoT #[.bool false], Ob.blk w.heap.size SpT #[.int .i64 a, .int .i64 b]])))
    case atStart => exact ⟨0, none, 0, [], by omega, by omega, rfl, trivial, Nat.le_refl _, HX.out⟩
    case round =>
      clear HX
      obtain ⟨k, q, c, L, hkn, hkl, rfl, okL, hLk, S1⟩ := hrel
      by_cases g : k < l.length ∧ k < 100
      · obtain ⟨g1, g2⟩ := g
        have ex := List.getElem?_eq_getElem g1
        obtain ⟨bb, oo, rfl, c1, c2⟩ := HAT.out k _ ex
        generalize l[k] = x at *
        obtain ⟨x1, x2⟩ := x
        have d1 : wr.cell? ⟨bb, oo + k * 2, none⟩ = some (.int .i64 x1) := cell_frN S1.fr c1
        have d2 : wr.cell? ⟨bb, oo + k * 2 + 1, none⟩ = some (.int .i64 x2) := cell_frN S1.fr c2
        have d3 : wr.cell? ⟨w2.heap.size, 0, none⟩ = some (.pointer (at0 w0.heap.size)) := (S1.at_ 4 rfl).cell 0
        have HC := Lib.hid (add_all w0.heap.size q c L x1 x2 wr.drew okL (by omega) S1.drew.head)
        have hok := (step_ok false okL (x1, x2)).1
        have hlen := step_len false okL (x1, x2)
        have HS := Lib.hid S1.drew
        generalize stepL false L (x1, x2) = L2 at *
        have HOK := Lib.hid hok
        clear S1 okL hok ex c1 c2
        go_wp2_with fail
        refine (wpIn_wide (n := 5)).1 ?_
        refine wpIn_region_segs (by kernel_rfl) ?_
        refine seg_still 5 (by kernel_rfl) ?_
        simp only [List.drop_zero, List.take_succ_cons, List.take_zero, Nat.reduceSub]
        repeat (go_big_quiet_step (fail))
        refine wpQuiet_nil ?_
        refine seg_one (by kernel_rfl) fun K hK => ?_
        simp only [List.drop_succ_cons, List.drop_zero, List.take_succ_cons, List.take_zero]
        gi_wp2_with fail
        first | refine ⟨trivial, (callsIn_wide.2 (HC.out)).mono ?_⟩ | refine ⟨trivial, fun h => (by cases h), (callsIn_wide.2 (HC.out)).mono ?_⟩
        rintro e3 w3 ⟨n3, r3, q3, c3, rfl, T⟩
        have HS3 := Lib.hid (HS.out.did T)
        clear T d1 d2 d3
        gi_wp2_with fail
        refine seg_done (by rfl) (by kernel_rfl) ?_
        go_wp2_with fail
        go_roundg (gk - 1)
        case measure => omega
        case rel => exact ⟨k + 1, q3, c3, L2, by omega, by omega, by go_num, HOK.out, by omega, HS3.out⟩
      · have hend : decide (k < l.length) = false ∨ (decide (k < l.length) = true ∧ decide ((k : Int) < 100) = false) := by
          by_cases h1 : k < l.length
          · exact .inr ⟨decide_eq_true h1, decide_eq_false (fun h2 => g ⟨h1, by omega⟩)⟩
          · exact .inl (decide_eq_false h1)
        rcases hend with g1 | ⟨g1, g2⟩
        all_goals
          go_wp2_with fail
          go_meet
          exact ⟨q, c, L, okL, by omega, S1⟩
  case rest =>
    clear HX HAT
    obtain ⟨q, c, L, okL, hLk, S1⟩ := hcut
    have hga := gaps_all okL (a, b)
    have hge := gaps_eq okL (a, b)
    have hgl := Nat.le_trans (gapsF_len (a, b) (mtL L (a, b))) (Nat.add_le_add_right (mtL_len L (a, b)) 1)
    rw [hge] at hgl
    have HOK := Lib.hid okL
    have HGA := Lib.hid hga
    have hd0 : wc.cell? ⟨w2.heap.size, 0, none⟩ = some (.pointer (at0 w0.heap.size)) := (S1.at_ 4 rfl).cell 0
    have hd1 : wc.cell? ⟨w.heap.size, 0, none⟩ = some (.int .i64 a) := (S1.at_ 7 rfl).cell 0
    have hd2 : wc.cell? ⟨w.heap.size, 1, none⟩ = some (.int .i64 b) := (S1.at_ 7 rfl).cell 1
    have lt2 : w2.heap.size < wc.heap.size := Blk.lt (S1.at_ 4 rfl)
    have lts : w.heap.size < wc.heap.size := Blk.lt (S1.at_ 7 rfl)
    have ltp : w0.heap.size < wc.heap.size := Blk.lt (S1.at_ 0 rfl)
    have c3 : wc.cell? ⟨w0.heap.size, 0, none⟩ = some (.slice q L.length c) := (rns_row S1).1
    have hr := (rns_row S1).2
    have hsl := shR_lt c3 hr
    have f9 : Fr None wc (wc.alloc (.cells #[.int .i64 0] IntT)) := (Fr.refl None wc).alloc _
    have HA := Lib.hid (gapsG_any (at0 w0.heap.size) a b (wc.alloc (.cells #[.int .i64 0] IntT)))
    have HSq := Lib.hid (fun n => gaps_seq w0.heap.size q c L a b okL (by omega) (wc.alloc (.cells #[.int .i64 0] IntT)) (cell_frN f9 c3) (hr.fr f9 (fun _ _ h => h)) _ rfl n)
    rw [hge] at HSq
    have SW := ((S1.alloc #[.int .i64 0] IntT).skip (.cells #[.pointer (at0 w0.heap.size)] RpT)).skip (.cells #[.int .i64 a, .int .i64 b] SpT)
    have hsz : (((wc.alloc (.cells #[.int .i64 0] IntT)).alloc (.cells #[.pointer (at0 w0.heap.size)] RpT)).alloc (.cells #[.int .i64 a, .int .i64 b] SpT)).heap.size = wc.heap.size + 3 := by simp
    simp only [World.size_alloc] at HA HSq
    generalize eW : ((wc.alloc (.cells #[.int .i64 0] IntT)).alloc (.cells #[.pointer (at0 w0.heap.size)] RpT)).alloc (.cells #[.int .i64 a, .int .i64 b] SpT) = W0 at SW HSq hsz
    have EW := Lib.hid eW; clear eW
    have SW2 : Sep None w W0 ((rns w1.heap.size none 0 [] ++ [Ob.blk wc.heap.size IntT #[.int .i64 0]]) ++ (rns w0.heap.size q c L ++ [Ob.blk w2.heap.size RpT #[.pointer (at0 w0.heap.size)], Ob.blk (w2.heap.size + 1) RpT #[.pointer (at0 w1.heap.size)], Ob.blk (w.heap.size + 1) BoT #[.bool false], Ob.blk w.heap.size SpT #[.int .i64 a, .int .i64 b]])) := (SW.front 4 rfl).front 4 rfl
    have hbb : bytesL ([] : List (Int × Int)) = 0 := rfl
    have HSh := Lib.hid (show ∀ k, (ShR w0.heap.size q L k ∨ k = wc.heap.size + 1 ∨ k = wc.heap.size + 1 + 1) → k < W0.heap.size ∧ ¬ fpL (rns w1.heap.size none 0 [] ++ [Ob.blk wc.heap.size IntT #[.int .i64 (bytesL ([] : List (Int × Int)))]]) k from fun k hk => by
      have h1 : k < W0.heap.size ∧ k ≠ wc.heap.size := by
        rcases hk with hk | rfl | rfl
        · have := hsl k hk; omega
        · omega
        · omega
      refine ⟨h1.1, fun ⟨o, ho, h⟩ => ?_⟩
      simp only [List.cons_append, List.nil_append, List.mem_cons, List.not_mem_nil, or_false] at ho
      rcases ho with rfl | rfl | rfl
      · have h' : k = w1.heap.size := h
        rcases hk with hk | hk | hk
        · rcases hk with hk | ⟨hk0, ad, had, hk⟩
          · exact S1.ne 0 2 (by decide) rfl rfl k (show k = w0.heap.size from hk) h'
          · refine S1.ne 1 2 (by decide) rfl rfl k ?_ h'
            show (Value.slice q L.length c).ownBlock = some k
            rw [had, ← hk]; rfl
        · have := Blk.lt (S1.at_ 2 rfl); omega
        · have := Blk.lt (S1.at_ 2 rfl); omega
      · cases h
      · exact h1.2 h)
    have HSW := Lib.hid SW2
    have HZ := Lib.hid (And.intro hsz (And.intro lts lt2))
    clear SW SW2 c3 hr hsl f9 hsz S1 hga okL hge
    go_wp2_with ((with_reducible refine (HA.out).mono ?_); rintro e10 w10 ⟨rfl, e1⟩; simp only [EW.out] at e1; simp only [e1]; clear e1 w10)
    clear hd0 hd1 hd2 HA
    refine (wpIn_wide (n := 5)).1 ?_
    refine wpIn_rangeR (gf := 58) (lb := #[.pointer (at0 (wc.heap.size + 1 + 1)), .pointer (at0 (wc.heap.size + 1))]) rfl (enters_of Try.func58 (by kernel_rfl) rfl) (HSq.out _) (Below.refl _ _) (fun _ => rfl)
      HSW.out HSh.out (fun pre s => s.2.2 = pre) (fun s => rns w1.heap.size s.1 s.2.1 s.2.2 ++ [Ob.blk wc.heap.size IntT #[.int .i64 (bytesL s.2.2)]]) (fun _ _ => False) (none, 0, []) rfl rfl ?fA SpT (fun x => #[.int .i64 x.1, .int .i64 x.2]) ?assign ?body ?done ?stop
    case assign =>
      intro l' x V K hK
      gi_wp2
      generalize V.heap.size = k at *
      exact hK
    case body =>
      rintro l' pre ⟨x1, x2⟩ k' V ⟨qs, cs, ls⟩ hs hpre S hk
      simp only at hs
      subst hs
      obtain ⟨p1, p2, p3, p4, p5, p6, p7, p8⟩ := gap_step HOK.out hpre
      simp only at p3 p6 p7 p8
      have m0 : V.cell? ⟨w2.heap.size + 1, 0, none⟩ = some (.pointer (at0 w1.heap.size)) := (S.at_ 7 rfl).cell 0
      have x1c : V.cell? ⟨k', 0, none⟩ = some (.int .i64 x1) := (S.at_ 3 rfl).cell 0
      have x2c : V.cell? ⟨k', 1, none⟩ = some (.int .i64 x2) := (S.at_ 3 rfl).cell 1
      have SH : Sep None w V (rns w1.heap.size qs cs ls ++ ([Ob.blk wc.heap.size IntT #[.int .i64 (bytesL ls)], Ob.blk k' SpT #[.int .i64 x1, .int .i64 x2]] ++ (rns w0.heap.size q c L ++ [Ob.blk w2.heap.size RpT #[.pointer (at0 w0.heap.size)], Ob.blk (w2.heap.size + 1) RpT #[.pointer (at0 w1.heap.size)], Ob.blk (w.heap.size + 1) BoT #[.bool false], Ob.blk w.heap.size SpT #[.int .i64 a, .int .i64 b]]))) := S
      have HC := Lib.hid (add_end_any w1.heap.size qs cs ls x1 x2 V p1 p2 p3 SH.head (by omega))
      have HL := Lib.hid (fun W => rlenS_any x1 x2 W)
      rw [p2.len] at HL
      have HWi := Lib.hid (fun W (h2 : (Ob.blk w0.heap.size RnT #[.slice q L.length c]).ok W) (h3 : (srow q c L).ok W) => within_any w0.heap.size q c L x1 x2 W HOK.out (by omega) (Blk.cell h2 0) (row_reads h3))
      rw [p4] at HWi
      have HV := Lib.hid S
      have hw : wrap64 (bytesL ls + (x2 - x1)) = bytesL ls + (x2 - x1) := by unfold wrap64; omega
      have hw2 : IntKind.i64.wrap (bytesL ls + (x2 - x1)) = bytesL ls + (x2 - x1) := wrap_small (by omega)
      have hkk : (x2 - x1 != x2 - x1) = false := by simp
      have HP6 := Lib.hid p6
      have HSH := Lib.hid SH
      have HTV := Lib.hid (show Sep (fpL ((rns w1.heap.size qs cs ls ++ [Ob.blk wc.heap.size IntT #[.int .i64 (bytesL ls)]]) ++ [Ob.blk k' SpT #[.int .i64 x1, .int .i64 x2]])) V V (rns w1.heap.size qs cs ls ++ [Ob.blk wc.heap.size IntT #[.int .i64 (bytesL ls)], Ob.blk k' SpT #[.int .i64 x1, .int .i64 x2]]) from S.head)
      clear S SH hpre p1 p2 p3 p4 p5 p6 p7 p8
      gi_wp2_with fail
      refine ⟨trivial, (CallsIn.inRound _ (callsIn_wide.2 HC.out)).mono ?_⟩
      rintro e3 w3 ⟨rfl, q3, c3, T⟩
      have S3 := HSH.out.did T
      have T3 := HTV.out.did T
      have n3 : w3.cell? ⟨wc.heap.size, 0, none⟩ = some (.int .i64 (bytesL ls)) := (S3.at_ 2 rfl).cell 0
      have z3 : w3.frozen? ⟨wc.heap.size, 0, none⟩ = false := (S3.at_ 2 rfl).frozen 0
      have S4 := S3.set 2 rfl 0 (.int .i64 (bytesL ls + (x2 - x1)))
      have T4 := T3.set 2 rfl 0 (.int .i64 (bytesL ls + (x2 - x1)))
      have k1 : (w3.setCell ⟨wc.heap.size, 0, none⟩ (.int .i64 (bytesL ls + (x2 - x1)))).cell? ⟨k', 0, none⟩ = some (.int .i64 x1) := (S4.at_ 3 rfl).cell 0
      have k2 : (w3.setCell ⟨wc.heap.size, 0, none⟩ (.int .i64 (bytesL ls + (x2 - x1)))).cell? ⟨k', 1, none⟩ = some (.int .i64 x2) := (S4.at_ 3 rfl).cell 1
      have HS4 := Lib.hid S4
      have HT4 := Lib.hid T4
      clear T S3 T3 S4 T4 m0 x1c x2c HC
      gi_wp2_with fail
      generalize w3.setCell ⟨wc.heap.size, 0, none⟩ (.int .i64 (bytesL ls + (x2 - x1))) = w4 at *
      refine ⟨trivial, (CallsIn.inRound _ (callsIn_wide.2 (HL.out _))).mono ?_⟩
      rintro e5 w5 ⟨rfl, F⟩
      have S5 := HS4.out.same F
      have T5 := HT4.out.same F
      have q1 : w5.cell? ⟨w2.heap.size, 0, none⟩ = some (.pointer (at0 w0.heap.size)) := (S5.at_ 6 rfl).cell 0
      have q2 : w5.cell? ⟨k', 0, none⟩ = some (.int .i64 x1) := (S5.at_ 3 rfl).cell 0
      have q3' : w5.cell? ⟨k', 1, none⟩ = some (.int .i64 x2) := (S5.at_ 3 rfl).cell 1
      have HW5 := Lib.hid (HWi.out w5 (S5.at_ 4 rfl) (S5.at_ 5 rfl))
      have HT5 := Lib.hid T5
      clear F S5 T5 k1 k2 HS4 HT4 n3 z3
      gi_wp2_with fail
      refine ⟨trivial, (CallsIn.inRound _ (callsIn_wide.2 HW5.out)).mono ?_⟩
      rintro e6 w6 ⟨rfl, F⟩
      have HT6 := Lib.hid (HT5.out.same F)
      clear F q1 q2 q3' HW5 HT5
      gi_wp2_with fail
      have hll : (ls ++ [(x1, x2)]).length = ls.length + 1 := by simp
      have T7 : Sep _ V w6 [Ob.blk w1.heap.size RnT #[.slice q3 (ls ++ [(x1, x2)]).length c3], srow q3 c3 (ls ++ [(x1, x2)]), Ob.blk wc.heap.size IntT #[.int .i64 (bytesL ls + (x2 - x1))]] := HT6.out.drop (.cons_cons _ (.cons_cons _ (.cons_cons _ (.cons _ .slnil))))
      rw [hll] at T7
      exact ⟨q3, c3, by rw [HP6.out]; exact T7⟩
    case done =>
      rintro D1 V ⟨qs, cs, ls⟩ hD hs S fV hK1
      simp only at hs
      have hlsl : ls.length ≤ 101 := by rw [hs]; omega
      have hbl : bytesL ls + withinL L (a, b) = lenS (a, b) := by rw [hs]; exact HGA.out.2.2.2
      have hokG : OkL ls := by rw [hs]; exact HGA.out.1
      have hGA : ∀ (A : List (Int × Int)), OkL A → (∀ o, memL A o ↔ memL ls o ∨ (memL L o ∧ inS (a, b) o)) → bytesL A = lenS (a, b) ∧ (lenS (a, b) ≠ 0 → A.length = 1) := fun A okA h => whole_eq HOK.out (a, b) okA (by rw [← hs]; exact h)
      have hwb := within_bounds HOK.out (a, b)
      have hlb := lenS_bounds (a, b)
      clear hs HSq HSh HSW HGA hgl
      have S2 : Sep None w V (rns w1.heap.size qs cs ls ++ ([Ob.blk wc.heap.size IntT #[.int .i64 (bytesL ls)]] ++ (rns w0.heap.size q c L ++ [Ob.blk w2.heap.size RpT #[.pointer (at0 w0.heap.size)], Ob.blk (w2.heap.size + 1) RpT #[.pointer (at0 w1.heap.size)], Ob.blk (w.heap.size + 1) BoT #[.bool false], Ob.blk w.heap.size SpT #[.int .i64 a, .int .i64 b]]))) := S
      have v0 : V.cell? ⟨w2.heap.size, 0, none⟩ = some (.pointer (at0 w0.heap.size)) := (S.at_ 5 rfl).cell 0
      have c3 : V.cell? ⟨w0.heap.size, 0, none⟩ = some (.slice q L.length c) := (S.at_ 3 rfl).cell 0
      have hr := row_reads (S.at_ 4 rfl)
      have hsl := shR_lt c3 hr
      have HA := Lib.hid (allF_any w0.heap.size V)
      have f9 : Fr None V (V.alloc (.cells #[.pointer (at0 w0.heap.size)] RpT)) := (Fr.refl None V).alloc _
      have hRA : RnAt V.heap.size w0.heap.size q c L (V.alloc (.cells #[.pointer (at0 w0.heap.size)] RpT)) := ⟨(Blk.new V RpT _).cell 0, cell_frN f9 c3, hr.fr f9 (fun _ _ h => h)⟩
      have HS2 := Lib.hid (fun n => all_y n V.heap.size w0.heap.size q c L _ (by omega) (fun k => k = V.heap.size ∨ ShR w0.heap.size q L k) hRA (.inl rfl) (fun _ h => .inr h))
      have HSW2 := Lib.hid (S2.skip (.cells #[.pointer (at0 w0.heap.size)] RpT))
      have hsz : (V.alloc (.cells #[.pointer (at0 w0.heap.size)] RpT)).heap.size = V.heap.size + 1 := by simp
      have HSh2 := Lib.hid (show ∀ k, (k = V.heap.size ∨ ShR w0.heap.size q L k) → k < (V.alloc (.cells #[.pointer (at0 w0.heap.size)] RpT)).heap.size ∧ ¬ fpL (rns w1.heap.size qs cs ls) k from fun k hk => by
        have h1 : k < V.heap.size + 1 := by
          rcases hk with rfl | hk
          · omega
          · have := hsl k hk; omega
        refine ⟨by omega, fun ⟨o, ho, h⟩ => ?_⟩
        have hkV : k ≠ V.heap.size := fun e => by
          have := o.lt (S2.ok o (List.mem_append_left _ ho)) h
          omega
        rcases hk with hk | hk
        · exact hkV hk
        · have hap := (List.pairwise_append.1 S2.apart).2.2 o ho
          rcases hk with hk | ⟨hk0, ad, had, hk⟩
          · exact hap (Ob.blk w0.heap.size RnT #[.slice q L.length c]) (by simp) k h hk
          · refine hap (srow q c L) (by simp) k h ?_
            show (Value.slice q L.length c).ownBlock = some k
            rw [had, ← hk]; rfl)
      have HK1 := Lib.hid (And.intro (heap_lt hK1) (f9.block D1 (heap_lt hK1) id |>.trans hK1))
      have hnD : ¬ fpL (rns w1.heap.size qs cs ls) D1 := fun ⟨o, ho, h⟩ => by
        obtain ⟨cs', t, z, hc⟩ := o.cel (S2.ok o (List.mem_append_left _ ho)) h
        rw [hK1] at hc; cases hc
      have HND := Lib.hid hnD
      have HFA := Lib.hid (And.intro hlsl (And.intro hbl (And.intro hokG (And.intro hwb hlb))))
      have HGG := Lib.hid hGA
      have HD1 := Lib.hid (show wc.heap.size + 3 ≤ D1 by have := HZ.out; omega)
      clear S S2 c3 hr hsl f9 hRA hsz hnD hlsl hbl hokG hwb hlb fV hGA
      go_wp2_with ((with_reducible refine (HA.out).mono ?_); rintro e11 w11 ⟨rfl, rfl⟩)
      clear v0 HA
      refine (wpIn_wide (n := 5)).1 ?_
      refine wpIn_rangeR (gf := 61) (lb := #[.pointer (at0 V.heap.size)]) rfl (enters_of Try.func61 (by kernel_rfl) rfl) (HS2.out _) (Below.refl _ _) (fun _ => rfl)
        HSW2.out HSh2.out (fun pre s => OkL s.2.2 ∧ s.2.2.length ≤ 101 + pre.length ∧ ∀ o, memL s.2.2 o ↔ memL ls o ∨ (memL pre o ∧ inS (a, b) o)) (fun s => rns w1.heap.size s.1 s.2.1 s.2.2) (fun _ _ => False) (qs, cs, ls) ⟨HFA.out.2.2.1, by have := HFA.out.1; simp; omega, fun o => ⟨.inl, fun h => h.elim id fun h => absurd h.1 (memL_nil o)⟩⟩ rfl ?fA2 SpT (fun x => #[.int .i64 x.1, .int .i64 x.2]) ?assign2 ?body2 ?done2 ?stop2
      case assign2 =>
        intro l' x V K hK
        gi_wp2
        generalize V.heap.size = k at *
        exact hK
      case body2 =>
        rintro l' pre ⟨x1, x2⟩ k' U ⟨qa, ca, A⟩ ⟨hokA, hlenA, hmA⟩ hpre SU hk
        simp only at hokA hlenA hmA
        have hpl : pre.length + 1 ≤ 100 := by have h5 := hpre.length_le; rw [List.length_append, List.length_singleton] at h5; omega
        have hst := whole_step HOK.out hpre hokA hmA
        have hln := step_len false hokA (meetS (x1, x2) (a, b))
        have m0 : U.cell? ⟨w2.heap.size + 1, 0, none⟩ = some (.pointer (at0 w1.heap.size)) := (SU.at_ 7 rfl).cell 0
        have x1c : U.cell? ⟨k', 0, none⟩ = some (.int .i64 x1) := (SU.at_ 2 rfl).cell 0
        have x2c : U.cell? ⟨k', 1, none⟩ = some (.int .i64 x2) := (SU.at_ 2 rfl).cell 1
        have s1c : U.cell? ⟨w.heap.size, 0, none⟩ = some (.int .i64 a) := (SU.at_ 9 rfl).cell 0
        have s2c : U.cell? ⟨w.heap.size, 1, none⟩ = some (.int .i64 b) := (SU.at_ 9 rfl).cell 1
        have HMe := Lib.hid (fun W => rmeetS_any x1 x2 a b W)
        obtain ⟨A2, eA⟩ : ∃ A2, A2 = stepL false A (meetS (x1, x2) (a, b)) := ⟨_, rfl⟩
        have HAd := Lib.hid (fun (W : World) (S : Sep (fpL (rns w1.heap.size qa ca A)) W W (rns w1.heap.size qa ca A)) => add_all w1.heap.size qa ca A (meetS (x1, x2) (a, b)).1 (meetS (x1, x2) (a, b)).2 W hokA (by omega) S)
        have hAd2 : stepL false A ((meetS (x1, x2) (a, b)).1, (meetS (x1, x2) (a, b)).2) = A2 := eA.symm
        simp only [hAd2] at HAd
        rw [← eA] at hst hln
        generalize meetS (x1, x2) (a, b) = mm at *
        obtain ⟨mm1, mm2⟩ := mm
        have HST := Lib.hid (And.intro hst (show A2.length ≤ 101 + (pre ++ [(x1, x2)]).length by rw [List.length_append, List.length_singleton]; omega))
        have HTU := Lib.hid (show Sep (fpL (rns w1.heap.size qa ca A ++ [Ob.blk k' SpT #[.int .i64 x1, .int .i64 x2]])) U U (rns w1.heap.size qa ca A ++ [Ob.blk k' SpT #[.int .i64 x1, .int .i64 x2]]) from SU.head)
        clear SU hpre hst hln hokA hlenA hmA eA hAd2 hpl
        have HMB := Lib.hid (fun (W : World) (f : Fr None U W) => cell_frN f m0)
        gi_wp2_with fail
        refine wpIn_region_round (by kernel_rfl) (by kernel_rfl) ?_
        refine atOp_any (n := 0 + 1 + 1 + 1 + 1 + 1) (L := #[false, false, false, false, false]) (by simp) (by kernel_rfl) ?_
        refine wpAnyIn_ready (rs := [0, 1, 2]) (by kernel_rfl) (by simp) ?_
        refine AllReadyIn.cons rfl (fun K hK => ?_) (AllReadyIn.cons rfl (fun K hK => ?_) (AllReadyIn.cons rfl (fun K hK => ?_) AllReadyIn.nil))
        all_goals (go_simp; refine hK _ _ ?_; clear hK K)
        · skip
          refine atOp_back (s := 1) (by simp) (by kernel_rfl) ?_
          go_simp
          refine segF_still 3 (by kernel_rfl) ?_
          simp only [List.drop_succ_cons, List.drop_zero, List.take_succ_cons, List.take_zero]
          repeat (go_big_quiet_step (fail))
          refine wpQuiet_nil ?_
          refine seg_one (by kernel_rfl) fun K hK => ?_
          simp only [List.drop_succ_cons, List.drop_zero, List.take_succ_cons, List.take_zero]
          gi_wp2_with fail
          first | refine ⟨trivial, (callsIn_wide.2 (HMe.out _)).mono ?_⟩ | refine ⟨trivial, fun h => (by cases h), (callsIn_wide.2 (HMe.out _)).mono ?_⟩
          rintro e5 w5 ⟨rfl, F⟩
          have HT5 := Lib.hid (HTU.out.drew.same F)
          clear F m0 x1c x2c s1c s2c HTU
          gi_wp2_with fail
          refine seg_one (by kernel_rfl) fun K hK => ?_
          simp only [List.drop_succ_cons, List.drop_zero, List.take_succ_cons, List.take_zero]
          gi_wp2_with fail
          first | refine ⟨trivial, (callsIn_wide.2 (HAd.out _ HT5.out.head)).mono ?_⟩ | refine ⟨trivial, fun h => (by cases h), (callsIn_wide.2 (HAd.out _ HT5.out.head)).mono ?_⟩
          rintro e6 w6 ⟨n6, r6, q6, c6, rfl, T⟩
          have HT6 := Lib.hid (HT5.out.did T)
          clear T HT5
          gi_wp2_with fail
          refine seg_done (by rfl) (by kernel_rfl) ?_
          gi_wp2_with fail
          exact ⟨q6, c6, A2, ⟨HST.out.1.1, by have := HST.out.2; rw [List.length_append, List.length_singleton] at this; exact this, HST.out.1.2⟩, HT6.out.drop (.cons_cons _ (.cons_cons _ (.cons _ .slnil)))⟩
        · skip
          refine wpAnyIn_ready (rs := [0, 2]) (by kernel_rfl) (by simp) ?_
          refine AllReadyIn.cons rfl (fun K hK => ?_) (AllReadyIn.cons rfl (fun K hK => ?_) AllReadyIn.nil)
          all_goals (go_simp; refine hK _ _ ?_; clear hK K)
          · skip
            refine atOp_back (s := 2) (by simp) (by kernel_rfl) ?_
            go_simp
            refine segF_still 3 (by kernel_rfl) ?_
            simp only [List.drop_succ_cons, List.drop_zero, List.take_succ_cons, List.take_zero]
            repeat (go_big_quiet_step (fail))
            refine wpQuiet_nil ?_
            refine seg_one (by kernel_rfl) fun K hK => ?_
            simp only [List.drop_succ_cons, List.drop_zero, List.take_succ_cons, List.take_zero]
            gi_wp2_with fail
            first | refine ⟨trivial, (callsIn_wide.2 (HMe.out _)).mono ?_⟩ | refine ⟨trivial, fun h => (by cases h), (callsIn_wide.2 (HMe.out _)).mono ?_⟩
            rintro e5 w5 ⟨rfl, F⟩
            have HT5 := Lib.hid (HTU.out.drew.same F)
            clear F m0 x1c x2c s1c s2c HTU
            gi_wp2_with fail
            refine seg_one (by kernel_rfl) fun K hK => ?_
            simp only [List.drop_succ_cons, List.drop_zero, List.take_succ_cons, List.take_zero]
            gi_wp2_with fail
            first | refine ⟨trivial, (callsIn_wide.2 (HAd.out _ HT5.out.head)).mono ?_⟩ | refine ⟨trivial, fun h => (by cases h), (callsIn_wide.2 (HAd.out _ HT5.out.head)).mono ?_⟩
            rintro e6 w6 ⟨n6, r6, q6, c6, rfl, T⟩
            have HT6 := Lib.hid (HT5.out.did T)
            clear T HT5
            gi_wp2_with fail
            refine seg_done (by rfl) (by kernel_rfl) ?_
            gi_wp2_with fail
            exact ⟨q6, c6, A2, ⟨HST.out.1.1, by have := HST.out.2; rw [List.length_append, List.length_singleton] at this; exact this, HST.out.1.2⟩, HT6.out.drop (.cons_cons _ (.cons_cons _ (.cons _ .slnil)))⟩
          · skip
            refine wpAnyIn_ready (rs := [0, 3]) (by kernel_rfl) (by simp) ?_
            refine AllReadyIn.cons rfl (fun K hK => ?_) (AllReadyIn.cons rfl (fun K hK => ?_) AllReadyIn.nil)
            · go_simp
              refine hK _ _ ?_
              clear hK K
              refine atOp_back (s := 3) (by simp) (by kernel_rfl) ?_
              go_simp
              refine seg_one (by kernel_rfl) fun K hK => ?_
              simp only [List.drop_succ_cons, List.drop_zero, List.take_succ_cons, List.take_zero]
              gi_wp2_with fail
              first | refine ⟨trivial, (callsIn_wide.2 (HMe.out _)).mono ?_⟩ | refine ⟨trivial, fun h => (by cases h), (callsIn_wide.2 (HMe.out _)).mono ?_⟩
              rintro e5 w5 ⟨rfl, F⟩
              have HT5 := Lib.hid (HTU.out.drew.same F)
              clear F m0 x1c x2c s1c s2c HTU
              gi_wp2_with fail
              refine seg_one (by kernel_rfl) fun K hK => ?_
              simp only [List.drop_succ_cons, List.drop_zero, List.take_succ_cons, List.take_zero]
              gi_wp2_with fail
              first | refine ⟨trivial, (callsIn_wide.2 (HAd.out _ HT5.out.head)).mono ?_⟩ | refine ⟨trivial, fun h => (by cases h), (callsIn_wide.2 (HAd.out _ HT5.out.head)).mono ?_⟩
              rintro e6 w6 ⟨n6, r6, q6, c6, rfl, T⟩
              have HT6 := Lib.hid (HT5.out.did T)
              clear T HT5
              gi_wp2_with fail
              refine seg_done (by rfl) (by kernel_rfl) ?_
              gi_wp2_with fail
              exact ⟨q6, c6, A2, ⟨HST.out.1.1, by have := HST.out.2; rw [List.length_append, List.length_singleton] at this; exact this, HST.out.1.2⟩, HT6.out.drop (.cons_cons _ (.cons_cons _ (.cons _ .slnil)))⟩
            · go_simp
              refine ⟨trivial, (callsIn_wide.2 (HMe.out _)).mono ?_⟩
              rintro e5 w5 ⟨rfl, F⟩
              have mb : w5.cell? ⟨w2.heap.size + 1, 0, none⟩ = some (.pointer (at0 w1.heap.size)) := HMB.out _ (Fr.trans (Fr.drew (Fr.refl None U)) F)
              have HT5 := Lib.hid (HTU.out.drew.same F)
              clear F m0 x1c x2c s1c s2c HTU
              dsimp only
              gi_wp2_with fail
              refine wpAnyIn_ready (rs := [0]) (by kernel_rfl) (by simp) ?_
              refine AllReadyIn.cons rfl (fun K hK => ?_) AllReadyIn.nil
              go_simp
              refine hK _ _ ?_
              clear hK K
              refine atOp_back (s := 4) (by simp) (by kernel_rfl) ?_
              go_simp
              refine seg_one (by kernel_rfl) fun K hK => ?_
              simp only [List.drop_succ_cons, List.drop_zero, List.take_succ_cons, List.take_zero]
              gi_wp2_with fail
              first | refine ⟨trivial, (callsIn_wide.2 (HAd.out _ HT5.out.head)).mono ?_⟩ | refine ⟨trivial, fun h => (by cases h), (callsIn_wide.2 (HAd.out _ HT5.out.head)).mono ?_⟩
              rintro e6 w6 ⟨n6, r6, q6, c6, rfl, T⟩
              have HT6 := Lib.hid (HT5.out.did T)
              clear T HT5
              gi_wp2_with fail
              refine seg_done (by rfl) (by kernel_rfl) ?_
              gi_wp2_with fail
              exact ⟨q6, c6, A2, ⟨HST.out.1.1, by have := HST.out.2; rw [List.length_append, List.length_singleton] at this; exact this, HST.out.1.2⟩, HT6.out.drop (.cons_cons _ (.cons_cons _ (.cons _ .slnil)))⟩
        · skip
          refine wpAnyIn_ready (rs := [0, 1]) (by kernel_rfl) (by simp) ?_
          refine AllReadyIn.cons rfl (fun K hK => ?_) (AllReadyIn.cons rfl (fun K hK => ?_) AllReadyIn.nil)
          all_goals (go_simp; refine hK _ _ ?_; clear hK K)
          · skip
            refine wpAnyIn_ready (rs := [1]) (by kernel_rfl) (by simp) ?_
            refine AllReadyIn.cons rfl (fun K hK => ?_) AllReadyIn.nil
            go_simp
            refine hK _ _ ?_
            clear hK K
            refine atOp_back (s := 3) (by simp) (by kernel_rfl) ?_
            go_simp
            refine seg_one (by kernel_rfl) fun K hK => ?_
            simp only [List.drop_succ_cons, List.drop_zero, List.take_succ_cons, List.take_zero]
            gi_wp2_with fail
            first | refine ⟨trivial, (callsIn_wide.2 (HMe.out _)).mono ?_⟩ | refine ⟨trivial, fun h => (by cases h), (callsIn_wide.2 (HMe.out _)).mono ?_⟩
            rintro e5 w5 ⟨rfl, F⟩
            have HT5 := Lib.hid (HTU.out.drew.same F)
            clear F m0 x1c x2c s1c s2c HTU
            gi_wp2_with fail
            refine seg_one (by kernel_rfl) fun K hK => ?_
            simp only [List.drop_succ_cons, List.drop_zero, List.take_succ_cons, List.take_zero]
            gi_wp2_with fail
            first | refine ⟨trivial, (callsIn_wide.2 (HAd.out _ HT5.out.head)).mono ?_⟩ | refine ⟨trivial, fun h => (by cases h), (callsIn_wide.2 (HAd.out _ HT5.out.head)).mono ?_⟩
            rintro e6 w6 ⟨n6, r6, q6, c6, rfl, T⟩
            have HT6 := Lib.hid (HT5.out.did T)
            clear T HT5
            gi_wp2_with fail
            refine seg_done (by rfl) (by kernel_rfl) ?_
            gi_wp2_with fail
            exact ⟨q6, c6, A2, ⟨HST.out.1.1, by have := HST.out.2; rw [List.length_append, List.length_singleton] at this; exact this, HST.out.1.2⟩, HT6.out.drop (.cons_cons _ (.cons_cons _ (.cons _ .slnil)))⟩
          · skip
            refine wpAnyIn_ready (rs := [0, 3]) (by kernel_rfl) (by simp) ?_
            refine AllReadyIn.cons rfl (fun K hK => ?_) (AllReadyIn.cons rfl (fun K hK => ?_) AllReadyIn.nil)
            · go_simp
              refine hK _ _ ?_
              clear hK K
              refine atOp_back (s := 3) (by simp) (by kernel_rfl) ?_
              go_simp
              refine seg_one (by kernel_rfl) fun K hK => ?_
              simp only [List.drop_succ_cons, List.drop_zero, List.take_succ_cons, List.take_zero]
              gi_wp2_with fail
              first | refine ⟨trivial, (callsIn_wide.2 (HMe.out _)).mono ?_⟩ | refine ⟨trivial, fun h => (by cases h), (callsIn_wide.2 (HMe.out _)).mono ?_⟩
              rintro e5 w5 ⟨rfl, F⟩
              have HT5 := Lib.hid (HTU.out.drew.same F)
              clear F m0 x1c x2c s1c s2c HTU
              gi_wp2_with fail
              refine seg_one (by kernel_rfl) fun K hK => ?_
              simp only [List.drop_succ_cons, List.drop_zero, List.take_succ_cons, List.take_zero]
              gi_wp2_with fail
              first | refine ⟨trivial, (callsIn_wide.2 (HAd.out _ HT5.out.head)).mono ?_⟩ | refine ⟨trivial, fun h => (by cases h), (callsIn_wide.2 (HAd.out _ HT5.out.head)).mono ?_⟩
              rintro e6 w6 ⟨n6, r6, q6, c6, rfl, T⟩
              have HT6 := Lib.hid (HT5.out.did T)
              clear T HT5
              gi_wp2_with fail
              refine seg_done (by rfl) (by kernel_rfl) ?_
              gi_wp2_with fail
              exact ⟨q6, c6, A2, ⟨HST.out.1.1, by have := HST.out.2; rw [List.length_append, List.length_singleton] at this; exact this, HST.out.1.2⟩, HT6.out.drop (.cons_cons _ (.cons_cons _ (.cons _ .slnil)))⟩
            · go_simp
              refine ⟨trivial, (callsIn_wide.2 (HMe.out _)).mono ?_⟩
              rintro e5 w5 ⟨rfl, F⟩
              have mb : w5.cell? ⟨w2.heap.size + 1, 0, none⟩ = some (.pointer (at0 w1.heap.size)) := HMB.out _ (Fr.trans (Fr.drew (Fr.refl None U)) F)
              have HT5 := Lib.hid (HTU.out.drew.same F)
              clear F m0 x1c x2c s1c s2c HTU
              dsimp only
              gi_wp2_with fail
              refine wpAnyIn_ready (rs := [0]) (by kernel_rfl) (by simp) ?_
              refine AllReadyIn.cons rfl (fun K hK => ?_) AllReadyIn.nil
              go_simp
              refine hK _ _ ?_
              clear hK K
              refine atOp_back (s := 4) (by simp) (by kernel_rfl) ?_
              go_simp
              refine seg_one (by kernel_rfl) fun K hK => ?_
              simp only [List.drop_succ_cons, List.drop_zero, List.take_succ_cons, List.take_zero]
              gi_wp2_with fail
              first | refine ⟨trivial, (callsIn_wide.2 (HAd.out _ HT5.out.head)).mono ?_⟩ | refine ⟨trivial, fun h => (by cases h), (callsIn_wide.2 (HAd.out _ HT5.out.head)).mono ?_⟩
              rintro e6 w6 ⟨n6, r6, q6, c6, rfl, T⟩
              have HT6 := Lib.hid (HT5.out.did T)
              clear T HT5
              gi_wp2_with fail
              refine seg_done (by rfl) (by kernel_rfl) ?_
              gi_wp2_with fail
              exact ⟨q6, c6, A2, ⟨HST.out.1.1, by have := HST.out.2; rw [List.length_append, List.length_singleton] at this; exact this, HST.out.1.2⟩, HT6.out.drop (.cons_cons _ (.cons_cons _ (.cons _ .slnil)))⟩
      case done2 =>
        rintro D2 U ⟨qa, ca, A⟩ hD2 ⟨hokA, hlenA, hmA⟩ SU fU hK2
        simp only at hokA hlenA hmA
        obtain ⟨hbA, hlA⟩ := HGG.out A hokA hmA
        have hK1' : U.heap[D1]? = some (.deferred (some [])) := (fU.block D1 (by have := HK1.out.1; simp; omega) HND.out).trans HK1.out.2
        have HKU := Lib.hid (And.intro (And.intro (heap_lt hK1') hK1') (And.intro (heap_lt hK2) hK2))
        have hDD : D1 ≠ D2 := by have := HK1.out.1; simp at hD2; omega
        have n1 : U.cell? ⟨wc.heap.size, 0, none⟩ = some (.int .i64 (bytesL ls)) := (SU.at_ 2 rfl).cell 0
        have n2 : U.cell? ⟨w2.heap.size, 0, none⟩ = some (.pointer (at0 w0.heap.size)) := (SU.at_ 5 rfl).cell 0
        have n3 : U.cell? ⟨w2.heap.size + 1, 0, none⟩ = some (.pointer (at0 w1.heap.size)) := (SU.at_ 6 rfl).cell 0
        have n4 : U.cell? ⟨w.heap.size, 0, none⟩ = some (.int .i64 a) := (SU.at_ 8 rfl).cell 0
        have n5 : U.cell? ⟨w.heap.size, 1, none⟩ = some (.int .i64 b) := (SU.at_ 8 rfl).cell 1
        have HWi := Lib.hid (fun W (h2 : (Ob.blk w0.heap.size RnT #[.slice q L.length c]).ok W) (h3 : (srow q c L).ok W) => within_any w0.heap.size q c L a b W HOK.out (by omega) (Blk.cell h2 0) (row_reads h3))
        have HLs := Lib.hid (fun W => rlenS_any a b W)
        have HBy := Lib.hid (fun W (h2 : (Ob.blk w1.heap.size RnT #[.slice qa A.length ca]).ok W) (h3 : (srow qa ca A).ok W) => bytes_any w1.heap.size qa ca A W hokA (by omega) (Blk.cell h2 0) (row_reads h3))
        rw [hbA] at HBy
        have HLn := Lib.hid (fun W (h2 : (Ob.blk w1.heap.size RnT #[.slice qa A.length ca]).ok W) => rlen_any w1.heap.size qa ca A.length W (Blk.cell h2 0))
        have hw2 : IntKind.i64.wrap (bytesL ls + withinL L (a, b)) = lenS (a, b) := by rw [wrap_small (by have := HFA.out.2; omega)]; exact HFA.out.2.1
        have hb1 : (lenS (a, b) == lenS (a, b)) = true := by simp
        have HU := Lib.hid SU.drew
        have HFU := Lib.hid ((Fr.refl None U).drew)
        have HSU := HU
        have HFU2 := HFU
        have hne := Lib.hid (show wc.heap.size ≠ w.heap.size + 1 ∧ w2.heap.size ≠ w.heap.size + 1 ∧ w2.heap.size + 1 ≠ w.heap.size + 1 ∧ w.heap.size ≠ w.heap.size + 1 from ⟨fun e => SU.ne 2 7 (by decide) rfl rfl wc.heap.size rfl e, fun e => SU.ne 5 7 (by decide) rfl rfl w2.heap.size rfl e, fun e => SU.ne 6 7 (by decide) rfl rfl (w2.heap.size + 1) rfl e, by omega⟩)
        clear SU fU hK1' hK2 hokA hlenA hmA hbA
        by_cases hz : lenS (a, b) = 0
        · simp only [hz] at HLs HBy hw2
          clear hz hlA hb1
          go_wp2_with fail
          refine wp_region_noPanic ?_
          refine wp_region_held_drew (S := (fun w' => w'.cell? ⟨wc.heap.size, 0, none⟩ = some (.int .i64 (bytesL ls)) ∧ w'.cell? ⟨w2.heap.size, 0, none⟩ = some (.pointer (at0 w0.heap.size)) ∧ w'.cell? ⟨w2.heap.size + 1, 0, none⟩ = some (.pointer (at0 w1.heap.size)) ∧ w'.cell? ⟨w.heap.size, 0, none⟩ = some (.int .i64 a) ∧ w'.cell? ⟨w.heap.size, 1, none⟩ = some (.int .i64 b))) (by kernel_rfl) ⟨n1, n2, n3, n4, n5⟩ (fun hHeld => ?_)
          refine wpAnyH_take (i := 0) (v := ?_) rfl (by kernel_rfl) (by kernel_rfl) (by kernel_rfl) (fun _ _ _ h => h) (Or.inl ⟨by rfl, ?_⟩) hHeld ?_
          rotate_left
          · (intro w' hSw; (try dsimp only at hSw); go_simp <;> with_reducible rfl)
          simp only [Act.put, List.setIfInBounds_toArray, List.set_cons_zero, List.set_cons_succ, List.getElem_toArray, List.getElem_cons_succ, List.getElem_cons_zero]
          refine wpAnyH_take (i := 1) (v := ?_) rfl (by kernel_rfl) (by kernel_rfl) (by kernel_rfl) (fun _ _ _ h => h) (Or.inl ⟨by rfl, ?_⟩) hHeld ?_
          rotate_left
          · (intro w' hSw; (try dsimp only at hSw); go_simp <;> with_reducible rfl)
          simp only [Act.put, List.setIfInBounds_toArray, List.set_cons_zero, List.set_cons_succ, List.getElem_toArray, List.getElem_cons_succ, List.getElem_cons_zero]
          refine wpAnyH_take (i := 2) (v := ?_) rfl (by kernel_rfl) (by kernel_rfl) (by kernel_rfl) (fun _ _ _ h => h) (Or.inl ⟨by rfl, ?_⟩) hHeld ?_
          rotate_left
          · (intro w' hSw; (try dsimp only at hSw); go_simp <;> with_reducible rfl)
          simp only [Act.put, List.setIfInBounds_toArray, List.set_cons_zero, List.set_cons_succ, List.getElem_toArray, List.getElem_cons_succ, List.getElem_cons_zero]
          refine wpAnyH_take (i := 5) (v := ?_) rfl (by kernel_rfl) (by kernel_rfl) (by kernel_rfl) (fun _ _ _ h => h) (Or.inl ⟨by rfl, ?_⟩) hHeld ?_
          rotate_left
          · (intro w' hSw; (try dsimp only at hSw); go_simp <;> with_reducible rfl)
          simp only [Act.put, List.setIfInBounds_toArray, List.set_cons_zero, List.set_cons_succ, List.getElem_toArray, List.getElem_cons_succ, List.getElem_cons_zero]
          refine wpAnyH_ready (rs := [3]) (by kernel_rfl) (by simp) ?_
          refine AllReadyH.cons rfl (fun K hK => ?_) AllReadyH.nil
          go_simp
          refine (HWi.out _ (HSU.out.at_ 3 rfl) (HSU.out.at_ 4 rfl)).mono ?_
          rintro e11 w11 ⟨rfl, F⟩
          have S11 := HSU.out.same F
          have n1_11 : w11.cell? ⟨wc.heap.size, 0, none⟩ = some (.int .i64 (bytesL ls)) := (S11.at_ 2 rfl).cell 0
          have n2_11 : w11.cell? ⟨w2.heap.size, 0, none⟩ = some (.pointer (at0 w0.heap.size)) := (S11.at_ 5 rfl).cell 0
          have n3_11 : w11.cell? ⟨w2.heap.size + 1, 0, none⟩ = some (.pointer (at0 w1.heap.size)) := (S11.at_ 6 rfl).cell 0
          have n4_11 : w11.cell? ⟨w.heap.size, 0, none⟩ = some (.int .i64 a) := (S11.at_ 8 rfl).cell 0
          have n5_11 : w11.cell? ⟨w.heap.size, 1, none⟩ = some (.int .i64 b) := (S11.at_ 8 rfl).cell 1
          have HF11 := Lib.hid (HFU.out.trans F)
          have z11 : w11.frozen? ⟨w.heap.size + 1, 0, none⟩ = false := (S11.at_ 7 rfl).frozen 0
          have r11 : w11.cell? ⟨w.heap.size + 1, 0, none⟩ = some (.bool false) := (S11.at_ 7 rfl).cell 0
          have HS11 := Lib.hid S11
          clear S11 F hHeld
          refine hK.out _ _ ⟨n1_11, n2_11, n3_11, n4_11, n5_11⟩ (fun hHeld => ?_)
          clear hK K
          try simp only [Act.put, List.setIfInBounds_toArray, List.set_cons_zero, List.set_cons_succ, List.getElem_toArray, List.getElem_cons_succ, List.getElem_cons_zero]
          refine wpAnyH_take (i := 4) (v := ?_) rfl (by kernel_rfl) (by kernel_rfl) (by kernel_rfl) (fun _ _ _ h => h) (Or.inl ⟨by rfl, ?_⟩) hHeld ?_
          rotate_left
          · (intro w' hSw; (try dsimp only at hSw); go_simp <;> with_reducible rfl)
          simp only [Act.put, List.setIfInBounds_toArray, List.set_cons_zero, List.set_cons_succ, List.getElem_toArray, List.getElem_cons_succ, List.getElem_cons_zero]
          refine wpAnyH_ready (rs := [6]) (by kernel_rfl) (by simp) ?_
          refine AllReadyH.cons rfl (fun K hK => ?_) AllReadyH.nil
          go_simp
          refine (HLs.out w11).mono ?_
          rintro e12 w12 ⟨rfl, F⟩
          have S12 := HS11.out.same F
          have n1_12 : w12.cell? ⟨wc.heap.size, 0, none⟩ = some (.int .i64 (bytesL ls)) := (S12.at_ 2 rfl).cell 0
          have n2_12 : w12.cell? ⟨w2.heap.size, 0, none⟩ = some (.pointer (at0 w0.heap.size)) := (S12.at_ 5 rfl).cell 0
          have n3_12 : w12.cell? ⟨w2.heap.size + 1, 0, none⟩ = some (.pointer (at0 w1.heap.size)) := (S12.at_ 6 rfl).cell 0
          have n4_12 : w12.cell? ⟨w.heap.size, 0, none⟩ = some (.int .i64 a) := (S12.at_ 8 rfl).cell 0
          have n5_12 : w12.cell? ⟨w.heap.size, 1, none⟩ = some (.int .i64 b) := (S12.at_ 8 rfl).cell 1
          have HF12 := Lib.hid (HF11.out.trans F)
          have z12 : w12.frozen? ⟨w.heap.size + 1, 0, none⟩ = false := (S12.at_ 7 rfl).frozen 0
          have r12 : w12.cell? ⟨w.heap.size + 1, 0, none⟩ = some (.bool false) := (S12.at_ 7 rfl).cell 0
          have HS12 := Lib.hid S12
          clear S12 F hHeld
          refine hK.out _ _ ⟨n1_12, n2_12, n3_12, n4_12, n5_12⟩ (fun hHeld => ?_)
          clear hK K
          try simp only [Act.put, List.setIfInBounds_toArray, List.set_cons_zero, List.set_cons_succ, List.getElem_toArray, List.getElem_cons_succ, List.getElem_cons_zero]
          refine wpAnyH_take (i := 7) (v := ?_) rfl (by kernel_rfl) (by kernel_rfl) (by kernel_rfl) (fun _ _ _ h => h) (Or.inl ⟨by rfl, ?_⟩) hHeld ?_
          rotate_left
          · (intro w' hSw; (try dsimp only at hSw); go_simp <;> with_reducible rfl)
          simp only [Act.put, List.setIfInBounds_toArray, List.set_cons_zero, List.set_cons_succ, List.getElem_toArray, List.getElem_cons_succ, List.getElem_cons_zero]
          refine wpAnyH_take (i := 8) (v := ?_) rfl (by kernel_rfl) (by kernel_rfl) (by kernel_rfl) (fun _ _ _ h => h) (Or.inl ⟨by rfl, ?_⟩) hHeld ?_
          rotate_left
          · (intro w' hSw; (try dsimp only at hSw); go_simp <;> with_reducible rfl)
          simp only [Act.put, List.setIfInBounds_toArray, List.set_cons_zero, List.set_cons_succ, List.getElem_toArray, List.getElem_cons_succ, List.getElem_cons_zero]
          refine wpAnyH_take (i := 9) (v := ?_) rfl (by kernel_rfl) (by kernel_rfl) (by kernel_rfl) (fun _ _ _ h => h) (Or.inl ⟨by rfl, ?_⟩) hHeld ?_
          rotate_left
          · (intro w' hSw; (try dsimp only at hSw); go_simp <;> with_reducible rfl)
          simp only [Act.put, List.setIfInBounds_toArray, List.set_cons_zero, List.set_cons_succ, List.getElem_toArray, List.getElem_cons_succ, List.getElem_cons_zero]
          refine wpAnyH_take (i := 11) (v := ?_) rfl (by kernel_rfl) (by kernel_rfl) (by kernel_rfl) (fun _ _ _ h => h) (Or.inl ⟨by rfl, ?_⟩) hHeld ?_
          rotate_left
          · (intro w' hSw; (try dsimp only at hSw); go_simp <;> with_reducible rfl)
          simp only [Act.put, List.setIfInBounds_toArray, List.set_cons_zero, List.set_cons_succ, List.getElem_toArray, List.getElem_cons_succ, List.getElem_cons_zero]
          refine wpAnyH_ready (rs := [10]) (by kernel_rfl) (by simp) ?_
          refine AllReadyH.cons rfl (fun K hK => ?_) AllReadyH.nil
          go_simp
          refine (HBy.out _ (HS12.out.at_ 0 rfl) (HS12.out.at_ 1 rfl)).mono ?_
          rintro e13 w13 ⟨rfl, F⟩
          have S13 := HS12.out.same F
          have n1_13 : w13.cell? ⟨wc.heap.size, 0, none⟩ = some (.int .i64 (bytesL ls)) := (S13.at_ 2 rfl).cell 0
          have n2_13 : w13.cell? ⟨w2.heap.size, 0, none⟩ = some (.pointer (at0 w0.heap.size)) := (S13.at_ 5 rfl).cell 0
          have n3_13 : w13.cell? ⟨w2.heap.size + 1, 0, none⟩ = some (.pointer (at0 w1.heap.size)) := (S13.at_ 6 rfl).cell 0
          have n4_13 : w13.cell? ⟨w.heap.size, 0, none⟩ = some (.int .i64 a) := (S13.at_ 8 rfl).cell 0
          have n5_13 : w13.cell? ⟨w.heap.size, 1, none⟩ = some (.int .i64 b) := (S13.at_ 8 rfl).cell 1
          have HF13 := Lib.hid (HF12.out.trans F)
          have z13 : w13.frozen? ⟨w.heap.size + 1, 0, none⟩ = false := (S13.at_ 7 rfl).frozen 0
          have r13 : w13.cell? ⟨w.heap.size + 1, 0, none⟩ = some (.bool false) := (S13.at_ 7 rfl).cell 0
          have HS13 := Lib.hid S13
          clear S13 F hHeld
          refine hK.out _ _ ⟨n1_13, n2_13, n3_13, n4_13, n5_13⟩ (fun hHeld => ?_)
          clear hK K
          try simp only [Act.put, List.setIfInBounds_toArray, List.set_cons_zero, List.set_cons_succ, List.getElem_toArray, List.getElem_cons_succ, List.getElem_cons_zero]
          refine wpAnyH_ready (rs := [12]) (by kernel_rfl) (by simp) ?_
          refine AllReadyH.cons rfl (fun K hK => ?_) AllReadyH.nil
          go_simp
          refine (HLs.out w13).mono ?_
          rintro e14 w14 ⟨rfl, F⟩
          have S14 := HS13.out.same F
          have n1_14 : w14.cell? ⟨wc.heap.size, 0, none⟩ = some (.int .i64 (bytesL ls)) := (S14.at_ 2 rfl).cell 0
          have n2_14 : w14.cell? ⟨w2.heap.size, 0, none⟩ = some (.pointer (at0 w0.heap.size)) := (S14.at_ 5 rfl).cell 0
          have n3_14 : w14.cell? ⟨w2.heap.size + 1, 0, none⟩ = some (.pointer (at0 w1.heap.size)) := (S14.at_ 6 rfl).cell 0
          have n4_14 : w14.cell? ⟨w.heap.size, 0, none⟩ = some (.int .i64 a) := (S14.at_ 8 rfl).cell 0
          have n5_14 : w14.cell? ⟨w.heap.size, 1, none⟩ = some (.int .i64 b) := (S14.at_ 8 rfl).cell 1
          have HF14 := Lib.hid (HF13.out.trans F)
          have z14 : w14.frozen? ⟨w.heap.size + 1, 0, none⟩ = false := (S14.at_ 7 rfl).frozen 0
          have r14 : w14.cell? ⟨w.heap.size + 1, 0, none⟩ = some (.bool false) := (S14.at_ 7 rfl).cell 0
          have HS14 := Lib.hid S14
          clear S14 F hHeld
          refine hK.out _ _ ⟨n1_14, n2_14, n3_14, n4_14, n5_14⟩ (fun hHeld => ?_)
          clear hK K
          try simp only [Act.put, List.setIfInBounds_toArray, List.set_cons_zero, List.set_cons_succ, List.getElem_toArray, List.getElem_cons_succ, List.getElem_cons_zero]
          refine wpAnyH_take (i := 13) (v := ?_) rfl (by kernel_rfl) (by kernel_rfl) (by kernel_rfl) (fun _ _ _ h => h) (Or.inl ⟨by rfl, ?_⟩) hHeld ?_
          rotate_left
          · (intro w' hSw; (try dsimp only at hSw); go_simp <;> with_reducible rfl)
          simp only [Act.put, List.setIfInBounds_toArray, List.set_cons_zero, List.set_cons_succ, List.getElem_toArray, List.getElem_cons_succ, List.getElem_cons_zero]
          refine wpAnyH_take (i := 14) (v := ?_) rfl (by kernel_rfl) (by kernel_rfl) (by kernel_rfl) (fun _ _ _ h => h) (Or.inl ⟨by rfl, ?_⟩) hHeld ?_
          rotate_left
          · (intro w' hSw; (try dsimp only at hSw); go_simp <;> with_reducible rfl)
          simp only [Act.put, List.setIfInBounds_toArray, List.set_cons_zero, List.set_cons_succ, List.getElem_toArray, List.getElem_cons_succ, List.getElem_cons_zero]
          refine wpAnyH_take (i := 15) (v := ?_) rfl (by kernel_rfl) (by kernel_rfl) (by kernel_rfl) (fun _ _ _ h => h) (Or.inl ⟨by rfl, ?_⟩) hHeld ?_
          rotate_left
          · (intro w' hSw; (try dsimp only at hSw); go_simp <;> with_reducible rfl)
          simp only [Act.put, List.setIfInBounds_toArray, List.set_cons_zero, List.set_cons_succ, List.getElem_toArray, List.getElem_cons_succ, List.getElem_cons_zero]
          refine wpAnyH_take (i := 16) (v := ?_) rfl (by kernel_rfl) (by kernel_rfl) (by kernel_rfl) (fun _ _ _ h => h) (Or.inl ⟨by rfl, ?_⟩) hHeld ?_
          rotate_left
          · (intro w' hSw; (try dsimp only at hSw); go_simp <;> with_reducible rfl)
          simp only [Act.put, List.setIfInBounds_toArray, List.set_cons_zero, List.set_cons_succ, List.getElem_toArray, List.getElem_cons_succ, List.getElem_cons_zero]
          refine wpAnyH_ready (rs := [17]) (by kernel_rfl) (by simp) ?_
          refine AllReadyH.cons rfl (fun K hK => ?_) AllReadyH.nil
          go_simp
          refine (HLs.out w14).mono ?_
          rintro e15 w15 ⟨rfl, F⟩
          have S15 := HS14.out.same F
          have n1_15 : w15.cell? ⟨wc.heap.size, 0, none⟩ = some (.int .i64 (bytesL ls)) := (S15.at_ 2 rfl).cell 0
          have n2_15 : w15.cell? ⟨w2.heap.size, 0, none⟩ = some (.pointer (at0 w0.heap.size)) := (S15.at_ 5 rfl).cell 0
          have n3_15 : w15.cell? ⟨w2.heap.size + 1, 0, none⟩ = some (.pointer (at0 w1.heap.size)) := (S15.at_ 6 rfl).cell 0
          have n4_15 : w15.cell? ⟨w.heap.size, 0, none⟩ = some (.int .i64 a) := (S15.at_ 8 rfl).cell 0
          have n5_15 : w15.cell? ⟨w.heap.size, 1, none⟩ = some (.int .i64 b) := (S15.at_ 8 rfl).cell 1
          have HF15 := Lib.hid (HF14.out.trans F)
          have z15 : w15.frozen? ⟨w.heap.size + 1, 0, none⟩ = false := (S15.at_ 7 rfl).frozen 0
          have r15 : w15.cell? ⟨w.heap.size + 1, 0, none⟩ = some (.bool false) := (S15.at_ 7 rfl).cell 0
          have HS15 := Lib.hid S15
          clear S15 F hHeld
          refine hK.out _ _ ⟨n1_15, n2_15, n3_15, n4_15, n5_15⟩ (fun hHeld => ?_)
          clear hK K
          try simp only [Act.put, List.setIfInBounds_toArray, List.set_cons_zero, List.set_cons_succ, List.getElem_toArray, List.getElem_cons_succ, List.getElem_cons_zero]
          refine wpAnyH_take (i := 18) (v := ?_) rfl (by kernel_rfl) (by kernel_rfl) (by kernel_rfl) (fun _ _ _ h => h) (Or.inl ⟨by rfl, ?_⟩) hHeld ?_
          rotate_left
          · (intro w' hSw; (try dsimp only at hSw); go_simp <;> with_reducible rfl)
          simp only [Act.put, List.setIfInBounds_toArray, List.set_cons_zero, List.set_cons_succ, List.getElem_toArray, List.getElem_cons_succ, List.getElem_cons_zero]
          refine wpAnyH_take (i := 19) (v := ?_) rfl (by kernel_rfl) (by kernel_rfl) (by kernel_rfl) (fun _ _ _ h => h) (Or.inl ⟨by rfl, ?_⟩) hHeld ?_
          rotate_left
          · (intro w' hSw; (try dsimp only at hSw); go_simp <;> with_reducible rfl)
          simp only [Act.put, List.setIfInBounds_toArray, List.set_cons_zero, List.set_cons_succ, List.getElem_toArray, List.getElem_cons_succ, List.getElem_cons_zero]
          refine wpAnyH_take (i := 20) (v := undef) rfl (by kernel_rfl) (by kernel_rfl) (by kernel_rfl) (fun _ _ _ h => h) (Or.inr ⟨by rfl, rfl⟩) hHeld ?_
          simp only [Act.put, List.setIfInBounds_toArray, List.set_cons_zero, List.set_cons_succ, List.getElem_toArray, List.getElem_cons_succ, List.getElem_cons_zero]
          refine wpAnyH_take (i := 21) (v := undef) rfl (by kernel_rfl) (by kernel_rfl) (by kernel_rfl) (fun _ _ _ h => h) (Or.inr ⟨by rfl, rfl⟩) hHeld ?_
          simp only [Act.put, List.setIfInBounds_toArray, List.set_cons_zero, List.set_cons_succ, List.getElem_toArray, List.getElem_cons_succ, List.getElem_cons_zero]
          refine wpAnyH_take (i := 22) (v := undef) rfl (by kernel_rfl) (by kernel_rfl) (by kernel_rfl) (fun _ _ _ h => h) (Or.inr ⟨by rfl, rfl⟩) hHeld ?_
          simp only [Act.put, List.setIfInBounds_toArray, List.set_cons_zero, List.set_cons_succ, List.getElem_toArray, List.getElem_cons_succ, List.getElem_cons_zero]
          refine wpAnyH_take (i := 23) (v := ?_) rfl (by kernel_rfl) (by kernel_rfl) (by kernel_rfl) (fun _ _ _ h => h) (Or.inl ⟨by rfl, ?_⟩) hHeld ?_
          rotate_left
          · (intro w' hSw; (try dsimp only at hSw); go_simp <;> with_reducible rfl)
          simp only [Act.put, List.setIfInBounds_toArray, List.set_cons_zero, List.set_cons_succ, List.getElem_toArray, List.getElem_cons_succ, List.getElem_cons_zero]
          refine wpAnyH_take (i := 24) (v := ?_) rfl (by kernel_rfl) (by kernel_rfl) (by kernel_rfl) (fun _ _ _ h => h) (Or.inl ⟨by rfl, ?_⟩) hHeld ?_
          rotate_left
          · (intro w' hSw; (try dsimp only at hSw); go_simp <;> with_reducible rfl)
          simp only [Act.put, List.setIfInBounds_toArray, List.set_cons_zero, List.set_cons_succ, List.getElem_toArray, List.getElem_cons_succ, List.getElem_cons_zero]
          refine wpAnyH_take (i := 25) (v := ?_) rfl (by kernel_rfl) (by kernel_rfl) (by kernel_rfl) (fun _ _ _ h => h) (Or.inl ⟨by rfl, ?_⟩) hHeld ?_
          rotate_left
          · (intro w' hSw; (try dsimp only at hSw); go_simp <;> with_reducible rfl)
          simp only [Act.put, List.setIfInBounds_toArray, List.set_cons_zero, List.set_cons_succ, List.getElem_toArray, List.getElem_cons_succ, List.getElem_cons_zero]
          refine wpAnyH_ready (rs := [26]) (by kernel_rfl) (by simp) ?_
          refine AllReadyH.cons rfl (fun K hK => ?_) AllReadyH.nil
          go_simp
          refine (known7_any w15).mono ?_
          rintro e17 w17 ⟨rfl, F⟩
          have S17 := HS15.out.same F
          have n1_17 : w17.cell? ⟨wc.heap.size, 0, none⟩ = some (.int .i64 (bytesL ls)) := (S17.at_ 2 rfl).cell 0
          have n2_17 : w17.cell? ⟨w2.heap.size, 0, none⟩ = some (.pointer (at0 w0.heap.size)) := (S17.at_ 5 rfl).cell 0
          have n3_17 : w17.cell? ⟨w2.heap.size + 1, 0, none⟩ = some (.pointer (at0 w1.heap.size)) := (S17.at_ 6 rfl).cell 0
          have n4_17 : w17.cell? ⟨w.heap.size, 0, none⟩ = some (.int .i64 a) := (S17.at_ 8 rfl).cell 0
          have n5_17 : w17.cell? ⟨w.heap.size, 1, none⟩ = some (.int .i64 b) := (S17.at_ 8 rfl).cell 1
          have HF17 := Lib.hid (HF15.out.trans F)
          have z17 : w17.frozen? ⟨w.heap.size + 1, 0, none⟩ = false := (S17.at_ 7 rfl).frozen 0
          have r17 : w17.cell? ⟨w.heap.size + 1, 0, none⟩ = some (.bool false) := (S17.at_ 7 rfl).cell 0
          have HS17 := Lib.hid S17
          clear S17 F hHeld
          refine hK.out _ _ ⟨n1_17, n2_17, n3_17, n4_17, n5_17⟩ (fun hHeld => ?_)
          clear hK K
          try simp only [Act.put, List.setIfInBounds_toArray, List.set_cons_zero, List.set_cons_succ, List.getElem_toArray, List.getElem_cons_succ, List.getElem_cons_zero]
          refine wpAnyH_take (i := 27) (v := ?_) rfl (by kernel_rfl) (by kernel_rfl) (by kernel_rfl) (fun _ _ _ h => h) (Or.inl ⟨by rfl, ?_⟩) hHeld ?_
          rotate_left
          · (intro w' hSw; (try dsimp only at hSw); go_simp <;> with_reducible rfl)
          simp only [Act.put, List.setIfInBounds_toArray, List.set_cons_zero, List.set_cons_succ, List.getElem_toArray, List.getElem_cons_succ, List.getElem_cons_zero]
          refine wpAnyH_ready (rs := [28]) (by kernel_rfl) (by simp) ?_
          refine AllReadyH.cons rfl (fun K hK => ?_) AllReadyH.nil
          go_simp
          refine hK.out _ _ (keep5s hHeld hne.out) (fun hHeld => ?_)
          clear hK K
          refine wpAnyH_done (by kernel_rfl) ?_ _
          refine NoPanic.normal ?_
          all_goals
            have S18 := HS17.out.set 7 rfl 0 (.bool true)
            have hK2f : (w17.setCell ⟨w.heap.size + 1, 0, none⟩ (.bool true)).heap[D2]? = some (.deferred (some [])) := (Below.heap_setCell _ _ _ _ (by show D2 ≠ w.heap.size + 1; have := HD1.out; have := HZ.out; have := HK1.out.1; simp at hD2; omega)).trans ((HF17.out.block D2 HKU.out.2.1 id).trans HKU.out.2.2)
            have hK1f : (w17.setCell ⟨w.heap.size + 1, 0, none⟩ (.bool true)).heap[D1]? = some (.deferred (some [])) := (Below.heap_setCell _ _ _ _ (by show D1 ≠ w.heap.size + 1; have := HD1.out; have := HZ.out; omega)).trans ((HF17.out.block D1 HKU.out.1.1 id).trans HKU.out.1.2)
            have hK1g : ((w17.setCell ⟨w.heap.size + 1, 0, none⟩ (.bool true)).putObj D2 (.deferred none)).heap[D1]? = some (.deferred (some [])) := (World.putObj_heap_other (by omega)).trans hK1f
            have S19 := odd_done (odd_done S18 hK2f (by have := HD1.out; have := HZ.out; have := HK1.out.1; simp at hD2; omega)) hK1g (by have := HD1.out; have := HZ.out; omega)
            have HS19 := Lib.hid S19
            clear S18 S19
            go_wp2_with fail
            refine ⟨by simp, .inl ⟨_, _, rfl, run_takeDeferred hK2f, ?_⟩⟩
            refine ⟨by simp, .inl ⟨_, _, rfl, run_takeDeferred hK1g, ?_⟩⟩
            exact ⟨_, results_cell_boolW rfl _ _ (w.heap.size + 1) true rfl (HS19.out.at_ 7 rfl), rfl, HS19.out.fr.none_below⟩

        · have g1 : (lenS (a, b) == 0) = false := by simpa using hz
          have g2 : ((A.length : Int) == 1) = true := by rw [hlA hz]; rfl
          clear hz hlA
          go_wp2_with fail
          go_region_held3 (fun w' => w'.cell? ⟨wc.heap.size, 0, none⟩ = some (.int .i64 (bytesL ls)) ∧ w'.cell? ⟨w2.heap.size, 0, none⟩ = some (.pointer (at0 w0.heap.size)) ∧ w'.cell? ⟨w2.heap.size + 1, 0, none⟩ = some (.pointer (at0 w1.heap.size)) ∧ w'.cell? ⟨w.heap.size, 0, none⟩ = some (.int .i64 a) ∧ w'.cell? ⟨w.heap.size, 1, none⟩ = some (.int .i64 b)) (first | (with_reducible assumption) | (with_reducible exact keep5s ⟨n1_17, n2_17, n3_17, n4_17, n5_17⟩ hne.out) | (go_keep; done)) (first
            | ((with_reducible refine (HWi.out _ (HSU.out.at_ 3 rfl) (HSU.out.at_ 4 rfl)).mono ?_); rintro e11 w11 ⟨rfl, F⟩; have S11 := HSU.out.same F; have n1_11 : w11.cell? ⟨wc.heap.size, 0, none⟩ = some (.int .i64 (bytesL ls)) := (S11.at_ 2 rfl).cell 0; have n2_11 : w11.cell? ⟨w2.heap.size, 0, none⟩ = some (.pointer (at0 w0.heap.size)) := (S11.at_ 5 rfl).cell 0; have n3_11 : w11.cell? ⟨w2.heap.size + 1, 0, none⟩ = some (.pointer (at0 w1.heap.size)) := (S11.at_ 6 rfl).cell 0; have n4_11 : w11.cell? ⟨w.heap.size, 0, none⟩ = some (.int .i64 a) := (S11.at_ 8 rfl).cell 0; have n5_11 : w11.cell? ⟨w.heap.size, 1, none⟩ = some (.int .i64 b) := (S11.at_ 8 rfl).cell 1; have HF11 := Lib.hid (HFU.out.trans F); have z11 : w11.frozen? ⟨w.heap.size + 1, 0, none⟩ = false := (S11.at_ 7 rfl).frozen 0; have r11 : w11.cell? ⟨w.heap.size + 1, 0, none⟩ = some (.bool false) := (S11.at_ 7 rfl).cell 0; have HS11 := Lib.hid S11; clear S11 F)
            | ((with_reducible refine (HLs.out w11).mono ?_); rintro e12 w12 ⟨rfl, F⟩; have S12 := HS11.out.same F; have n1_12 : w12.cell? ⟨wc.heap.size, 0, none⟩ = some (.int .i64 (bytesL ls)) := (S12.at_ 2 rfl).cell 0; have n2_12 : w12.cell? ⟨w2.heap.size, 0, none⟩ = some (.pointer (at0 w0.heap.size)) := (S12.at_ 5 rfl).cell 0; have n3_12 : w12.cell? ⟨w2.heap.size + 1, 0, none⟩ = some (.pointer (at0 w1.heap.size)) := (S12.at_ 6 rfl).cell 0; have n4_12 : w12.cell? ⟨w.heap.size, 0, none⟩ = some (.int .i64 a) := (S12.at_ 8 rfl).cell 0; have n5_12 : w12.cell? ⟨w.heap.size, 1, none⟩ = some (.int .i64 b) := (S12.at_ 8 rfl).cell 1; have HF12 := Lib.hid (HF11.out.trans F); have z12 : w12.frozen? ⟨w.heap.size + 1, 0, none⟩ = false := (S12.at_ 7 rfl).frozen 0; have r12 : w12.cell? ⟨w.heap.size + 1, 0, none⟩ = some (.bool false) := (S12.at_ 7 rfl).cell 0; have HS12 := Lib.hid S12; clear S12 F)
            | ((with_reducible refine (HBy.out _ (HS12.out.at_ 0 rfl) (HS12.out.at_ 1 rfl)).mono ?_); rintro e13 w13 ⟨rfl, F⟩; have S13 := HS12.out.same F; have n1_13 : w13.cell? ⟨wc.heap.size, 0, none⟩ = some (.int .i64 (bytesL ls)) := (S13.at_ 2 rfl).cell 0; have n2_13 : w13.cell? ⟨w2.heap.size, 0, none⟩ = some (.pointer (at0 w0.heap.size)) := (S13.at_ 5 rfl).cell 0; have n3_13 : w13.cell? ⟨w2.heap.size + 1, 0, none⟩ = some (.pointer (at0 w1.heap.size)) := (S13.at_ 6 rfl).cell 0; have n4_13 : w13.cell? ⟨w.heap.size, 0, none⟩ = some (.int .i64 a) := (S13.at_ 8 rfl).cell 0; have n5_13 : w13.cell? ⟨w.heap.size, 1, none⟩ = some (.int .i64 b) := (S13.at_ 8 rfl).cell 1; have HF13 := Lib.hid (HF12.out.trans F); have z13 : w13.frozen? ⟨w.heap.size + 1, 0, none⟩ = false := (S13.at_ 7 rfl).frozen 0; have r13 : w13.cell? ⟨w.heap.size + 1, 0, none⟩ = some (.bool false) := (S13.at_ 7 rfl).cell 0; have HS13 := Lib.hid S13; clear S13 F)
            | ((with_reducible refine (HLs.out w13).mono ?_); rintro e14 w14 ⟨rfl, F⟩; have S14 := HS13.out.same F; have n1_14 : w14.cell? ⟨wc.heap.size, 0, none⟩ = some (.int .i64 (bytesL ls)) := (S14.at_ 2 rfl).cell 0; have n2_14 : w14.cell? ⟨w2.heap.size, 0, none⟩ = some (.pointer (at0 w0.heap.size)) := (S14.at_ 5 rfl).cell 0; have n3_14 : w14.cell? ⟨w2.heap.size + 1, 0, none⟩ = some (.pointer (at0 w1.heap.size)) := (S14.at_ 6 rfl).cell 0; have n4_14 : w14.cell? ⟨w.heap.size, 0, none⟩ = some (.int .i64 a) := (S14.at_ 8 rfl).cell 0; have n5_14 : w14.cell? ⟨w.heap.size, 1, none⟩ = some (.int .i64 b) := (S14.at_ 8 rfl).cell 1; have HF14 := Lib.hid (HF13.out.trans F); have z14 : w14.frozen? ⟨w.heap.size + 1, 0, none⟩ = false := (S14.at_ 7 rfl).frozen 0; have r14 : w14.cell? ⟨w.heap.size + 1, 0, none⟩ = some (.bool false) := (S14.at_ 7 rfl).cell 0; have HS14 := Lib.hid S14; clear S14 F)
            | ((with_reducible refine (HLs.out w14).mono ?_); rintro e15 w15 ⟨rfl, F⟩; have S15 := HS14.out.same F; have n1_15 : w15.cell? ⟨wc.heap.size, 0, none⟩ = some (.int .i64 (bytesL ls)) := (S15.at_ 2 rfl).cell 0; have n2_15 : w15.cell? ⟨w2.heap.size, 0, none⟩ = some (.pointer (at0 w0.heap.size)) := (S15.at_ 5 rfl).cell 0; have n3_15 : w15.cell? ⟨w2.heap.size + 1, 0, none⟩ = some (.pointer (at0 w1.heap.size)) := (S15.at_ 6 rfl).cell 0; have n4_15 : w15.cell? ⟨w.heap.size, 0, none⟩ = some (.int .i64 a) := (S15.at_ 8 rfl).cell 0; have n5_15 : w15.cell? ⟨w.heap.size, 1, none⟩ = some (.int .i64 b) := (S15.at_ 8 rfl).cell 1; have HF15 := Lib.hid (HF14.out.trans F); have z15 : w15.frozen? ⟨w.heap.size + 1, 0, none⟩ = false := (S15.at_ 7 rfl).frozen 0; have r15 : w15.cell? ⟨w.heap.size + 1, 0, none⟩ = some (.bool false) := (S15.at_ 7 rfl).cell 0; have HS15 := Lib.hid S15; clear S15 F)
            | ((with_reducible refine (HLn.out _ (HS15.out.at_ 0 rfl)).mono ?_); rintro e16 w16 ⟨rfl, rfl⟩; have HS16 := HS15; have HF16 := HF15)
            | ((with_reducible refine (known7_any w16).mono ?_); rintro e17 w17 ⟨rfl, F⟩; have S17 := HS16.out.same F; have n1_17 : w17.cell? ⟨wc.heap.size, 0, none⟩ = some (.int .i64 (bytesL ls)) := (S17.at_ 2 rfl).cell 0; have n2_17 : w17.cell? ⟨w2.heap.size, 0, none⟩ = some (.pointer (at0 w0.heap.size)) := (S17.at_ 5 rfl).cell 0; have n3_17 : w17.cell? ⟨w2.heap.size + 1, 0, none⟩ = some (.pointer (at0 w1.heap.size)) := (S17.at_ 6 rfl).cell 0; have n4_17 : w17.cell? ⟨w.heap.size, 0, none⟩ = some (.int .i64 a) := (S17.at_ 8 rfl).cell 0; have n5_17 : w17.cell? ⟨w.heap.size, 1, none⟩ = some (.int .i64 b) := (S17.at_ 8 rfl).cell 1; have HF17 := Lib.hid (HF16.out.trans F); have z17 : w17.frozen? ⟨w.heap.size + 1, 0, none⟩ = false := (S17.at_ 7 rfl).frozen 0; have r17 : w17.cell? ⟨w.heap.size + 1, 0, none⟩ = some (.bool false) := (S17.at_ 7 rfl).cell 0; have HS17 := Lib.hid S17; clear S17 F)
            | fail)
          all_goals
            have S18 := HS17.out.set 7 rfl 0 (.bool true)
            have hK2f : (w17.setCell ⟨w.heap.size + 1, 0, none⟩ (.bool true)).heap[D2]? = some (.deferred (some [])) := (Below.heap_setCell _ _ _ _ (by show D2 ≠ w.heap.size + 1; have := HD1.out; have := HZ.out; have := HK1.out.1; simp at hD2; omega)).trans ((HF17.out.block D2 HKU.out.2.1 id).trans HKU.out.2.2)
            have hK1f : (w17.setCell ⟨w.heap.size + 1, 0, none⟩ (.bool true)).heap[D1]? = some (.deferred (some [])) := (Below.heap_setCell _ _ _ _ (by show D1 ≠ w.heap.size + 1; have := HD1.out; have := HZ.out; omega)).trans ((HF17.out.block D1 HKU.out.1.1 id).trans HKU.out.1.2)
            have hK1g : ((w17.setCell ⟨w.heap.size + 1, 0, none⟩ (.bool true)).putObj D2 (.deferred none)).heap[D1]? = some (.deferred (some [])) := (World.putObj_heap_other (by omega)).trans hK1f
            have S19 := odd_done (odd_done S18 hK2f (by have := HD1.out; have := HZ.out; have := HK1.out.1; simp at hD2; omega)) hK1g (by have := HD1.out; have := HZ.out; omega)
            have HS19 := Lib.hid S19
            clear S18 S19
            go_wp2_with fail
            refine ⟨by simp, .inl ⟨_, _, rfl, run_takeDeferred hK2f, ?_⟩⟩
            refine ⟨by simp, .inl ⟨_, _, rfl, run_takeDeferred hK1g, ?_⟩⟩
            exact ⟨_, results_cell_boolW rfl _ _ (w.heap.size + 1) true rfl (HS19.out.at_ 7 rfl), rfl, HS19.out.fr.none_below⟩

      case stop2 =>
        rintro D' V pre s _ _ h
        exact h.elim
    case stop =>
      rintro D' V pre s _ _ h
      exact h.elim
end Go.Proofs.Ytfobeheplficgaa
