/- The document's book (layer 14): lose. -/
import Derived.Test.YtckbeppofnnfkaaRf3
namespace Go.Proofs.Ytckbeppofnnfkaa
open Go.RowKit Go.Und
attribute [local go_sem] Oper.semAt_some
attribute [local go_sem ↓] Go.wp_at_zero Go.wp_at_succ

set_option maxRecDepth 100000 in
set_option maxHeartbeats 2000000 in
theorem rfLose_twice (p : Option Addr) (cap : Nat) (l : List Rc) (nxt last order : Int) (k : Nat) (r : Rc) (w : World) (hr : Reads w 7 p l.length cap (fc rcl l)) (hs : l.length ≤ 100000) (hk : l[k]? = some r) (hn : ∀ j x, j < k → l[j]? = some x → x.fr ≠ r.fr) (hl : r.lost = true) :
    Calls Try.prog 66 #[.agg (bk2c p l.length cap nxt last order), .int .i64 r.fr] w fun e w' => e = .returned (.tuple #[.agg (bk2c p l.length cap nxt last order), .int .i64 13]) ∧ Fr None w w' := by
  obtain ⟨rfr, rto, rsent, rorder, rtimes, rout, rlost⟩ := r
  simp only at hl hn
  subst hl
  have hkl : k < l.length := (List.getElem?_eq_some_iff.1 hk).1
  have k0 : (0 : Int) ≤ k := by omega
  have S := Lib.hid (((Sep.law w).alloc (bk2c p l.length cap nxt last order) Bk2T).alloc (bk2c none 0 0 0 0 0) Bk2T)
  have hr0 := Lib.hid hr
  have HF := Lib.hid (fun (W : World) (f : Fr None w W) => rfFind_yes p cap l nxt last order rfr k _ W (hr.fr f (fun _ _ h => h)) (by omega) hk rfl hn)
  have HK := Lib.hid hk
  clear hr hk hn
  go_enter Try.func66, Try.ntmps66
  go_wp2_with fail
  refine (HF.out _ S.out.fr).mono ?_
  rintro e w1 ⟨rfl, f1⟩
  have S1 := S.out.same f1
  simp only [World.size_alloc] at S1
  obtain ⟨gb, off, rfl, gc⟩ := (hr0.out.fr S1.fr (fun _ _ h => h)).elem rcl_len (by decide) HK.out
  have g6 : w1.cell? ⟨gb, off + k * 7 + 6, none⟩ = some (.bool true) := gc 6 _ rfl
  have a0 : w1.cell? ⟨w.heap.size, 0, none⟩ = some (.slice (some ⟨gb, off, none⟩) l.length cap) := (S1.at_ 1 rfl).cell 0
  have a1 : w1.cell? ⟨w.heap.size, 1, none⟩ = some (.int .i64 nxt) := (S1.at_ 1 rfl).cell 1
  have a2 : w1.cell? ⟨w.heap.size, 2, none⟩ = some (.int .i64 last) := (S1.at_ 1 rfl).cell 2
  have a3 : w1.cell? ⟨w.heap.size, 3, none⟩ = some (.int .i64 order) := (S1.at_ 1 rfl).cell 3
  have d0 : w1.cell? ⟨w.heap.size + 1, 0, none⟩ = some (.slice none 0 0) := (S1.at_ 0 rfl).cell 0
  have d1 : w1.cell? ⟨w.heap.size + 1, 1, none⟩ = some (.int .i64 0) := (S1.at_ 0 rfl).cell 1
  have d2 : w1.cell? ⟨w.heap.size + 1, 2, none⟩ = some (.int .i64 0) := (S1.at_ 0 rfl).cell 2
  have d3 : w1.cell? ⟨w.heap.size + 1, 3, none⟩ = some (.int .i64 0) := (S1.at_ 0 rfl).cell 3
  have x0 := (S1.at_ 0 rfl).frozen 0
  have x1 := (S1.at_ 0 rfl).frozen 1
  have x2 := (S1.at_ 0 rfl).frozen 2
  have x3 := (S1.at_ 0 rfl).frozen 3
  have S2 := Lib.hid S1
  clear S1 f1 gc
  go_wp2_with fail
  exact bodyPost_ret (v := .tuple #[.agg (bk2c (some ⟨gb, off, none⟩) l.length cap nxt last order), .int .i64 13]) (by simp [results, Try.results66, go_sem, d0, d1, d2, d3]) rfl
    ⟨rfl, ((((S2.out.set 0 rfl 0 (.slice (some ⟨gb, off, none⟩) l.length cap)).set 0 rfl 1 (.int .i64 nxt)).set 0 rfl 2 (.int .i64 last)).set 0 rfl 3 (.int .i64 order)).fr⟩

set_option maxRecDepth 100000 in
set_option maxHeartbeats 4000000 in
theorem rfLose_once (p : Option Addr) (cap : Nat) (l : List Rc) (nxt last order : Int) (k : Nat) (r : Rc) (w : World) (hr : Reads w 7 p l.length cap (fc rcl l)) (hs : l.length ≤ 100000) (hk : l[k]? = some r) (hn : ∀ j x, j < k → l[j]? = some x → x.fr ≠ r.fr) (hl : r.lost = false) :
    Calls Try.prog 66 #[.agg (bk2c p l.length cap nxt last order), .int .i64 r.fr] w fun e w' => ∃ q c, e = .returned (.tuple #[.agg (bk2c q l.length c nxt last order), .int .i64 0]) ∧
      Owns rcl 7 Rc2T w' (.slice q l.length c) (l.set k { r with lost := true, out := 0 }) ∧ (∀ ad, q = some ad → w.heap.size ≤ ad.block) ∧ Fr None w w' := by
  obtain ⟨rfr, rto, rsent, rorder, rtimes, rout, rlost⟩ := r
  simp only at hl hn
  subst hl
  have hkl : k < l.length := (List.getElem?_eq_some_iff.1 hk).1
  have k0 : (0 : Int) ≤ k := by omega
  have S := Lib.hid (((Sep.law w).alloc (bk2c p l.length cap nxt last order) Bk2T).alloc (bk2c none 0 0 0 0 0) Bk2T)
  have hr0 := Lib.hid hr
  have HF := Lib.hid (fun (W : World) (f : Fr None w W) => rfFind_yes p cap l nxt last order rfr k _ W (hr.fr f (fun _ _ h => h)) (by omega) hk rfl hn)
  have HK := Lib.hid hk
  clear hr hk hn
  obtain ⟨i, hi, hz0, hz1, hz2⟩ := info_parts rc2Info
  have HI := Lib.hid (And.intro hi (And.intro hz0 (And.intro hz1 hz2))); clear hi hz0 hz1 hz2
  go_enter Try.func66, Try.ntmps66
  go_wp2_with fail
  refine (HF.out _ S.out.fr).mono ?_
  rintro e w1 ⟨rfl, f1⟩
  have S1 := S.out.same f1
  simp only [World.size_alloc] at S1
  obtain ⟨gb, off, rfl, gc⟩ := (hr0.out.fr S1.fr (fun _ _ h => h)).elem rcl_len (by decide) HK.out
  have g6 : w1.cell? ⟨gb, off + k * 7 + 6, none⟩ = some (.bool false) := gc 6 _ rfl
  have a0 : w1.cell? ⟨w.heap.size, 0, none⟩ = some (.slice (some ⟨gb, off, none⟩) l.length cap) := (S1.at_ 1 rfl).cell 0
  have l3 : w.heap.size < w1.heap.size := (S1.at_ 1 rfl).lt
  have S2 := Lib.hid S1
  clear S1 f1 gc
  go_wp2_with (at_builtin; refine Hold.out ?_)
  refine Sep.gen _ S2.out ?_
  clear g6 a0 l3
  intro V SV
  have HRV := Lib.hid (hr0.out.fr SV.fr (fun _ _ h => h))
  have HV := Lib.hid SV
  clear SV
  have HG0 := Lib.hid (GrowsR.start rcl 7 Rc2T V)
  have HRV1 := Lib.hid (HRV.out.fr (D := None) ((Fr.refl None V).alloc (.cells #[] Rc2T)) (fun _ _ h => h))
  refine Hold.mk ?_
  refine wpList_append_row _ rfl _ _ _ rfl 0 Rc2T i _ 7 56 Try.underlying50 HI.out.1 HI.out.2.1 HI.out.2.2.1 HI.out.2.2.2 rfl (by omega) _ 0 (fc rcl []) rfl HG0.out.own (some ⟨gb, off, none⟩) l.length cap _ rfl HRV1.out (fc_one rcl_one _) (by simp [maxLen]; omega) (by omega) (Nat.zero_le _) ?_
  intro q1 c1 w2 ho1 hf1 hb1
  have G1 := HG0.out.step (r := l) rfl ho1 hf1 hb1
  simp only [Nat.zero_add, List.nil_append] at G1
  have lq : 0 + l.length = l.length := Nat.zero_add _
  rw [lq]
  obtain ⟨g, rfl, hgl, hgc, hgz⟩ := G1.own.elem rcl_len (by decide) HK.out
  have hgf : V.heap.size ≤ g := G1.far g rfl
  have HG1 := Lib.hid G1; clear G1 ho1 hf1 hb1 HG0 lq
  have S3 := HV.out.same HG1.out.fr
  have a0 : w2.cell? ⟨w.heap.size, 0, none⟩ = some (.slice (some ⟨gb, off, none⟩) l.length cap) := (S3.at_ 1 rfl).cell 0
  have a1 : w2.cell? ⟨w.heap.size, 1, none⟩ = some (.int .i64 nxt) := (S3.at_ 1 rfl).cell 1
  have a2 : w2.cell? ⟨w.heap.size, 2, none⟩ = some (.int .i64 last) := (S3.at_ 1 rfl).cell 2
  have a3 : w2.cell? ⟨w.heap.size, 3, none⟩ = some (.int .i64 order) := (S3.at_ 1 rfl).cell 3
  have y0 := (S3.at_ 1 rfl).frozen 0
  have d0 : w2.cell? ⟨w.heap.size + 1, 0, none⟩ = some (.slice none 0 0) := (S3.at_ 0 rfl).cell 0
  have d1 : w2.cell? ⟨w.heap.size + 1, 1, none⟩ = some (.int .i64 0) := (S3.at_ 0 rfl).cell 1
  have d2 : w2.cell? ⟨w.heap.size + 1, 2, none⟩ = some (.int .i64 0) := (S3.at_ 0 rfl).cell 2
  have d3 : w2.cell? ⟨w.heap.size + 1, 3, none⟩ = some (.int .i64 0) := (S3.at_ 0 rfl).cell 3
  have x0 := (S3.at_ 0 rfl).frozen 0
  have x1 := (S3.at_ 0 rfl).frozen 1
  have x2 := (S3.at_ 0 rfl).frozen 2
  have x3 := (S3.at_ 0 rfl).frozen 3
  have l3 : w.heap.size < w2.heap.size := (S3.at_ 1 rfl).lt
  have l4 : w.heap.size + 1 < V.heap.size := (HV.out.at_ 0 rfl).lt
  have n1 : g ≠ w.heap.size := by omega
  have n2 : g ≠ w.heap.size + 1 := by omega
  have n1' : w.heap.size ≠ g := by omega
  have n2' : w.heap.size + 1 ≠ g := by omega
  have g5 : w2.cell? ⟨g, k * 7 + 5, none⟩ = some (.int .i64 rout) := hgc 5 _ rfl
  have g6 : w2.cell? ⟨g, k * 7 + 6, none⟩ = some (.bool false) := hgc 6 _ rfl
  have HS3 := Lib.hid S3
  clear S3 hgc
  go_wp2_with fail
  have O0 : Owns rcl 7 Rc2T w2 (.slice (some ⟨g, 0, none⟩) l.length c1) l := HG1.out.own
  have O3 := O0.set rcl_len HK.out (x' := ⟨rfr, rto, rsent, rorder, rtimes, rout, true⟩) (j := 6) (u := .bool true) (by decide) rfl
  have O4 := O3.set rcl_len (k := k) (x := ⟨rfr, rto, rsent, rorder, rtimes, rout, true⟩) (x' := ⟨rfr, rto, rsent, rorder, rtimes, 0, true⟩) (j := 5) (u := .int .i64 0) (by simp [hkl]) (by decide) rfl
  simp only [List.set_set] at O4
  have FF : Fr (fun k => k = w.heap.size ∨ k = w.heap.size + 1) ((w2.setCell ⟨g, k * 7 + 6, none⟩ (.bool true)).setCell ⟨g, k * 7 + 5, none⟩ (.int .i64 0)) (((((((w2.setCell ⟨g, k * 7 + 6, none⟩ (.bool true)).setCell ⟨g, k * 7 + 5, none⟩ (.int .i64 0)).setCell ⟨w.heap.size, 0, none⟩ (.slice (some ⟨g, 0, none⟩) l.length c1)).setCell ⟨w.heap.size + 1, 0, none⟩ (.slice (some ⟨g, 0, none⟩) l.length c1)).setCell ⟨w.heap.size + 1, 1, none⟩ (.int .i64 nxt)).setCell ⟨w.heap.size + 1, 2, none⟩ (.int .i64 last)).setCell ⟨w.heap.size + 1, 3, none⟩ (.int .i64 order)) := ((((((Fr.refl _ _).setCell (p := ⟨w.heap.size, 0, none⟩) (fun _ => .inl rfl) _).setCell (p := ⟨w.heap.size + 1, 0, none⟩) (fun _ => .inr rfl) _).setCell (p := ⟨w.heap.size + 1, 1, none⟩) (fun _ => .inr rfl) _).setCell (p := ⟨w.heap.size + 1, 2, none⟩) (fun _ => .inr rfl) _).setCell (p := ⟨w.heap.size + 1, 3, none⟩) (fun _ => .inr rfl) _)
  have FN : Fr None w (((((((w2.setCell ⟨g, k * 7 + 6, none⟩ (.bool true)).setCell ⟨g, k * 7 + 5, none⟩ (.int .i64 0)).setCell ⟨w.heap.size, 0, none⟩ (.slice (some ⟨g, 0, none⟩) l.length c1)).setCell ⟨w.heap.size + 1, 0, none⟩ (.slice (some ⟨g, 0, none⟩) l.length c1)).setCell ⟨w.heap.size + 1, 1, none⟩ (.int .i64 nxt)).setCell ⟨w.heap.size + 1, 2, none⟩ (.int .i64 last)).setCell ⟨w.heap.size + 1, 3, none⟩ (.int .i64 order)) := (((((((HS3.out.fr.setCell (p := ⟨g, k * 7 + 6, none⟩) (fun h => absurd h (by simp; omega)) _).setCell (p := ⟨g, k * 7 + 5, none⟩) (fun h => absurd h (by simp; omega)) _).setCell (p := ⟨w.heap.size, 0, none⟩) (fun h => absurd h (by simp)) _).setCell (p := ⟨w.heap.size + 1, 0, none⟩) (fun h => absurd h (by simp)) _).setCell (p := ⟨w.heap.size + 1, 1, none⟩) (fun h => absurd h (by simp)) _).setCell (p := ⟨w.heap.size + 1, 2, none⟩) (fun h => absurd h (by simp)) _).setCell (p := ⟨w.heap.size + 1, 3, none⟩) (fun h => absurd h (by simp)) _)
  have O := O4.fr FF (fun b hb hd => by cases hb; rcases hd with h | h; exact n1 h; exact n2 h)
  exact bodyPost_ret (v := .tuple #[.agg (bk2c (some ⟨g, 0, none⟩) l.length c1 nxt last order), .int .i64 0]) (by simp [results, Try.results66, go_sem, d0, d1, d2, d3, n2']) rfl
    ⟨_, _, rfl, O, fun ad had => by cases had; simp only; omega, FN⟩
end Go.Proofs.Ytckbeppofnnfkaa
