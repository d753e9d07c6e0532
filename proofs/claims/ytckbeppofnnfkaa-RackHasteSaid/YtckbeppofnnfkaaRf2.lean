/- The document's book (layer 14): send. -/
import Derived.Test.YtckbeppofnnfkaaRf1
namespace Go.Proofs.Ytckbeppofnnfkaa
open Go.RowKit Go.Und
attribute [local go_sem] Oper.semAt_some
attribute [local go_sem ↓] Go.wp_at_zero Go.wp_at_succ

set_option maxRecDepth 100000 in
set_option maxHeartbeats 2000000 in
theorem rfSend_yes (p : Option Addr) (cap : Nat) (l : List Rc) (nxt last order b now : Int) (w : World) (hr : Reads w 7 p l.length cap (fc rcl l)) (hs : l.length ≤ 100000) (h0 : 0 ≤ nxt) (h1 : nxt < b) (h2 : b ≤ 4611686018427387904) (h3 : last ≤ now) (h4 : now ≤ 4611686018427387904) (ho : 0 ≤ order ∧ order ≤ 1000000000) :
    Calls Try.prog 64 #[.agg (bk2c p l.length cap nxt last order), .agg #[.int .i64 nxt, .int .i64 b], .int .i64 now] w fun e w' => ∃ q c, e = .returned (.tuple #[.agg (bk2c q (l.length + 1) c b now (order + 1)), .int .i64 0]) ∧
      Owns rcl 7 Rc2T w' (.slice q (l.length + 1) c) (l ++ [⟨nxt, b, now, order + 1, 1, 1, false⟩]) ∧ (∀ ad, q = some ad → w.heap.size ≤ ad.block) ∧ Fr None w w' := by
  have HL := Lib.hid (rfLen_yes nxt b h0 h1 h2)
  have S := Lib.hid ((((Sep.law w).alloc (bk2c p l.length cap nxt last order) Bk2T).alloc #[.int .i64 nxt, .int .i64 b] SpT).alloc (bk2c none 0 0 0 0 0) Bk2T)
  have hr0 := Lib.hid hr
  clear hr
  have hlen : (b - nxt == 0) = false := by simp; omega
  have h3' : ¬ now < last := by omega
  have h4' : ¬ 4611686018427387904 < now := by omega
  obtain ⟨i, hi, hz0, hz1, hz2⟩ := info_parts rc2Info
  have HI := Lib.hid (And.intro hi (And.intro hz0 (And.intro hz1 hz2))); clear hi hz0 hz1 hz2
  go_enter Try.func64, Try.ntmps64
  go_wp2_with fail
  refine (HL.out _).mono ?_
  rintro e w1 ⟨rfl, f1⟩
  have S1 := S.out.same f1
  simp only [World.size_alloc] at S1
  have a0 : w1.cell? ⟨w.heap.size, 0, none⟩ = some (.slice p l.length cap) := (S1.at_ 2 rfl).cell 0
  have a1 : w1.cell? ⟨w.heap.size, 1, none⟩ = some (.int .i64 nxt) := (S1.at_ 2 rfl).cell 1
  have a2 : w1.cell? ⟨w.heap.size, 2, none⟩ = some (.int .i64 last) := (S1.at_ 2 rfl).cell 2
  have a3 : w1.cell? ⟨w.heap.size, 3, none⟩ = some (.int .i64 order) := (S1.at_ 2 rfl).cell 3
  have y0 := (S1.at_ 2 rfl).frozen 0
  have y1 := (S1.at_ 2 rfl).frozen 1
  have y2 := (S1.at_ 2 rfl).frozen 2
  have y3 := (S1.at_ 2 rfl).frozen 3
  have b0 : w1.cell? ⟨w.heap.size + 1, 0, none⟩ = some (.int .i64 nxt) := (S1.at_ 1 rfl).cell 0
  have b1 : w1.cell? ⟨w.heap.size + 1, 1, none⟩ = some (.int .i64 b) := (S1.at_ 1 rfl).cell 1
  have l3 : w.heap.size < w1.heap.size := (S1.at_ 2 rfl).lt
  have l4 : w.heap.size + 1 < w1.heap.size := (S1.at_ 1 rfl).lt
  have l5 : w.heap.size + 1 + 1 < w1.heap.size := (S1.at_ 0 rfl).lt
  have S2 := Lib.hid (((S1.set 2 rfl 3 (.int .i64 (order + 1))).set 2 rfl 2 (.int .i64 now)).set 2 rfl 1 (.int .i64 b))
  clear S1 f1
  go_wp2_with (at_builtin; refine Hold.out ?_)
  rw [show w1.heap.size = (((w1.setCell ⟨w.heap.size, 3, none⟩ (.int .i64 (order + 1))).setCell ⟨w.heap.size, 2, none⟩ (.int .i64 now)).setCell ⟨w.heap.size, 1, none⟩ (.int .i64 b)).heap.size by simp only [World.size_setCell]]
  refine Sep.gen _ S2.out ?_
  intro V SV
  have HRV := Lib.hid (hr0.out.fr SV.fr (fun _ _ h => h))
  have HV := Lib.hid SV
  clear SV
  have HG0 := Lib.hid (GrowsR.start rcl 7 Rc2T V)
  have HRV1 := Lib.hid (HRV.out.fr (D := None) ((Fr.refl None V).alloc (.cells #[] Rc2T)) (fun _ _ h => h))
  refine Hold.mk ?_
  refine wpList_append_row _ rfl _ _ _ rfl 0 Rc2T i _ 7 56 Try.underlying50 HI.out.1 HI.out.2.1 HI.out.2.2.1 HI.out.2.2.2 rfl (by omega) _ 0 (fc rcl []) rfl HG0.out.own p l.length cap _ rfl HRV1.out (fc_one rcl_one _) (by simp [maxLen]; omega) (by omega) (Nat.zero_le _) ?_
  intro q1 c1 w2 ho1 hf1 hb1
  have G1 := HG0.out.step (r := l) rfl ho1 hf1 hb1
  simp only [Nat.zero_add, List.nil_append] at G1
  have HG1 := Lib.hid G1; clear G1 ho1 hf1 hb1 HG0
  have S3 := HV.out.same HG1.out.fr
  have a0 : w2.cell? ⟨w.heap.size, 0, none⟩ = some (.slice p l.length cap) := (S3.at_ 2 rfl).cell 0
  have a1 : w2.cell? ⟨w.heap.size, 1, none⟩ = some (.int .i64 b) := (S3.at_ 2 rfl).cell 1
  have a2 : w2.cell? ⟨w.heap.size, 2, none⟩ = some (.int .i64 now) := (S3.at_ 2 rfl).cell 2
  have a3 : w2.cell? ⟨w.heap.size, 3, none⟩ = some (.int .i64 (order + 1)) := (S3.at_ 2 rfl).cell 3
  have y0 := (S3.at_ 2 rfl).frozen 0
  have b0 : w2.cell? ⟨w.heap.size + 1, 0, none⟩ = some (.int .i64 nxt) := (S3.at_ 1 rfl).cell 0
  have b1 : w2.cell? ⟨w.heap.size + 1, 1, none⟩ = some (.int .i64 b) := (S3.at_ 1 rfl).cell 1
  have l3 : w.heap.size < w2.heap.size := (S3.at_ 2 rfl).lt
  have l4 : w.heap.size + 1 < w2.heap.size := (S3.at_ 1 rfl).lt
  have HS3 := Lib.hid S3
  clear S3
  go_wp2_with (at_builtin; refine Hold.out ?_)
  refine Hold.mk ?_
  refine wpList_append_row _ rfl _ _ _ rfl 0 Rc2T i _ 7 56 Try.underlying50 HI.out.1 HI.out.2.1 HI.out.2.2.1 HI.out.2.2.2 rfl (by omega) _ l.length (fc rcl l) rfl (HG1.out.row _) (some ⟨w2.heap.size, 0, none⟩) 1 1 (fc rcl [⟨nxt, b, now, order + 1, 1, 1, false⟩]) rfl (reads_oneR w2 Rc2T (⟨nxt, b, now, order + 1, 1, 1, false⟩ : Rc) rcl_len) (fc_one rcl_one _) (by simp [maxLen]; omega) (by omega) (Nat.zero_le _) ?_
  intro q2 c2 w3 ho2 hf2 hb2
  have G2 := (HG1.out.alloc (.cells #[.int .i64 nxt, .int .i64 b, .int .i64 now, .int .i64 (order + 1), .int .i64 1, .int .i64 1, .bool false] Rc2T)).step (r := [(⟨nxt, b, now, order + 1, 1, 1, false⟩ : Rc)]) (m := 1) rfl ho2 hf2 hb2
  have HG2 := Lib.hid G2; clear G2 ho2 hf2 hb2 HG1
  have S4 := HV.out.same HG2.out.fr
  have a0 : w3.cell? ⟨w.heap.size, 0, none⟩ = some (.slice p l.length cap) := (S4.at_ 2 rfl).cell 0
  have a1 : w3.cell? ⟨w.heap.size, 1, none⟩ = some (.int .i64 b) := (S4.at_ 2 rfl).cell 1
  have a2 : w3.cell? ⟨w.heap.size, 2, none⟩ = some (.int .i64 now) := (S4.at_ 2 rfl).cell 2
  have a3 : w3.cell? ⟨w.heap.size, 3, none⟩ = some (.int .i64 (order + 1)) := (S4.at_ 2 rfl).cell 3
  have y0 := (S4.at_ 2 rfl).frozen 0
  have x0 := (S4.at_ 0 rfl).frozen 0
  have x1 := (S4.at_ 0 rfl).frozen 1
  have x2 := (S4.at_ 0 rfl).frozen 2
  have x3 := (S4.at_ 0 rfl).frozen 3
  have d0 : w3.cell? ⟨w.heap.size + 1 + 1, 0, none⟩ = some (.slice none 0 0) := (S4.at_ 0 rfl).cell 0
  have d1 : w3.cell? ⟨w.heap.size + 1 + 1, 1, none⟩ = some (.int .i64 0) := (S4.at_ 0 rfl).cell 1
  have d2 : w3.cell? ⟨w.heap.size + 1 + 1, 2, none⟩ = some (.int .i64 0) := (S4.at_ 0 rfl).cell 2
  have d3 : w3.cell? ⟨w.heap.size + 1 + 1, 3, none⟩ = some (.int .i64 0) := (S4.at_ 0 rfl).cell 3
  have HS4 := Lib.hid S4
  clear S4 HS3
  go_wp2_with fail
  have hl2 : w.heap.size + 1 + 1 < V.heap.size := (HV.out.at_ 0 rfl).lt
  have far := HG2.out.far
  have O2 : Owns rcl 7 Rc2T w3 (.slice q2 (l.length + 1) c2) (l ++ [⟨nxt, b, now, order + 1, 1, 1, false⟩]) := HG2.out.own
  have FF : Fr (fun k => k = w.heap.size ∨ k = w.heap.size + 1 + 1) w3 (((((w3.setCell ⟨w.heap.size, 0, none⟩ (.slice q2 (l.length + 1) c2)).setCell ⟨w.heap.size + 1 + 1, 0, none⟩ (.slice q2 (l.length + 1) c2)).setCell ⟨w.heap.size + 1 + 1, 1, none⟩ (.int .i64 b)).setCell ⟨w.heap.size + 1 + 1, 2, none⟩ (.int .i64 now)).setCell ⟨w.heap.size + 1 + 1, 3, none⟩ (.int .i64 (order + 1))) :=
    (((((Fr.refl _ w3).setCell (fun _ => .inl rfl) _).setCell (fun _ => .inr rfl) _).setCell (fun _ => .inr rfl) _).setCell (fun _ => .inr rfl) _).setCell (fun _ => .inr rfl) _
  have S5 := ((((HS4.out.set 2 rfl 0 (.slice q2 (l.length + 1) c2)).set 0 rfl 0 (.slice q2 (l.length + 1) c2)).set 0 rfl 1 (.int .i64 b)).set 0 rfl 2 (.int .i64 now)).set 0 rfl 3 (.int .i64 (order + 1))
  exact bodyPost_ret (v := .tuple #[.agg (bk2c q2 (l.length + 1) c2 b now (order + 1)), .int .i64 0]) (by simp [results, Try.results64, go_sem, d0, d1, d2, d3]) rfl
    ⟨q2, c2, rfl, O2.fr FF (fun b hb hd => by have := far b hb; omega), fun ad had => by have := far ad.block (by subst had; rfl); omega, S5.fr⟩
end Go.Proofs.Ytckbeppofnnfkaa
