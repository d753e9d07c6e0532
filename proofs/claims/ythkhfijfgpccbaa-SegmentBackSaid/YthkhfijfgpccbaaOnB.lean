/- OptionMay, OptionBack: the laws, walked. -/
import Derived.Test.YthkhfijfgpccbaaOnA
import Derived.Test.YthkhfijfgpccbaaOc3
set_option linter.unusedVariables false
set_option linter.unusedSimpArgs false
namespace Go.Proofs.Ythkhfijfgpccbaa
open Go.RowKit Go.Und
attribute [local go_sem] Oper.semAt_some
attribute [local go_sem ↓] Go.wp_at_zero Go.wp_at_succ

theorem parseO_may {l : List Int} (hb : ∀ x ∈ l, 0 ≤ x ∧ x < 256) : (parseO l).1.May := by
  unfold parseO
  split
  · exact Opt.May.zero
  · exact parse_may _ _ _ Opt.May.zero hb
theorem parseO_err {l : List Int} (h : (parseO l).2 ≠ 0) : (parseO l).1 = Opt.zero := by
  unfold parseO at h ⊢
  split
  · rfl
  · rename_i g
    rw [if_neg g] at h
    exact parse_err _ _ _ h
theorem enc_bytes {o : Opt} (w : o.Wf) (h : checkO o = 0) : ∀ x ∈ encO o, 0 ≤ x ∧ x < 256 := by
  obtain ⟨hm, hs, hn⟩ := check_zero h
  intro x hx
  unfold encO padTo at hx
  rcases List.mem_append.1 hx with hx | hx
  · unfold encL at hx
    simp only [List.mem_append] at hx
    rcases hx with hx | hx | hx | hx | hx
    · unfold encM at hx
      split at hx
      · rcases List.mem_append.1 hx with hx | hx
        · simp at hx; omega
        · exact be_byte hx
      · cases hx
    · unfold encP at hx
      split at hx
      · simp at hx; omega
      · cases hx
    · unfold encT at hx
      split at hx
      · rcases List.mem_append.1 hx with hx | hx
        · rcases List.mem_append.1 hx with hx | hx
          · simp at hx; omega
          · exact be_byte hx
        · exact be_byte hx
      · cases hx
    · unfold encS at hx
      split at hx
      · simp at hx; omega
      · cases hx
    · unfold encB at hx
      split at hx
      · rcases List.mem_append.1 hx with hx | hx
        · simp at hx; omega
        · obtain ⟨b, _, hx⟩ := List.mem_flatMap.1 hx
          rcases List.mem_append.1 hx with hx | hx
          · exact be_byte hx
          · exact be_byte hx
      · cases hx
  · rw [(List.mem_replicate.1 hx).2]; decide
theorem pad_four (l : List Int) : (padTo l).length % 4 = 0 := by
  unfold padTo
  rw [List.length_append, List.length_replicate]
  omega

set_option maxRecDepth 100000 in
set_option maxHeartbeats 4000000 in
theorem optionMay_walk (w : World) (v : Value) (u : U) (hv : (Sh.slice (.int .u8)).holds w u [v]) :
    Calls Try.prog 5 #[v] w fun e w' => e = .returned (.bool true) ∧ Below w.heap.size w w' := by
  obtain ⟨a, c, l, rfl, hb, hl, hr⟩ := bytesB_of hv
  have HR := Lib.hid hr
  have HB := Lib.hid hb
  clear hv hr hb hl
  go_enter Try.func5, Try.ntmps5
  go_wp2_with fail
  refine (known_any _).mono ?_
  rintro e w1 ⟨rfl, f1⟩
  have HF1 := Lib.hid f1
  clear f1
  go_wp2_with fail
  refine (parse_any a c l w1 (HR.out.fr HF1.out) HB.out).mono ?_
  intro e w2 hpost
  have hmay := parseO_may HB.out
  have herr := parseO_err (l := l)
  unfold ParsePost at hpost
  generalize parseO l = r at *
  obtain ⟨o, n⟩ := r
  dsimp only at hpost hmay herr
  obtain ⟨q2, c2, rfl, T2⟩ := hpost
  have HS := Lib.hid ((((Sep.law w).same HF1.out).beside T2).alloc (optc o q2 c2) OpT)
  clear T2
  by_cases hn : n = 0
  · subst hn
    have hc4 := hmay.blocks
    rcases check_may hmay with h0 | ⟨h9, hbare⟩
    · have HC := Lib.hid (fun W => h0 ▸ check_any o q2 c2 W)
      clear h0 hmay herr hc4
      go_wp2_with fail
      refine (HC.out _).mono ?_
      rintro e w3 ⟨rfl, f3⟩
      have F3 := Lib.hid (HS.out.fr.trans f3)
      clear f3 HC HS
      go_wp2_with fail
      refine (known_any _).mono ?_
      rintro e w4 ⟨rfl, f4⟩
      have F4 := Lib.hid (F3.out.trans f4)
      clear f4 F3
      go_wp2_with fail
      exact bodyPost_ret (v := .bool true) (by simp [results, Try.results5, go_sem]) rfl ⟨rfl, F4.out.none_below⟩
    · have HC := Lib.hid (fun W => h9 ▸ check_any o q2 c2 W)
      have HBr := Lib.hid (fun W => rfBare_any o q2 c2 W hc4)
      clear h9 hmay herr
      go_wp2_with fail
      refine (HC.out _).mono ?_
      rintro e w3 ⟨rfl, f3⟩
      have S3 := HS.out.same f3
      have o0 : w3.cell? ⟨w2.heap.size, 0, none⟩ = some (.int .i64 o.mss) := (S3.at_ 0 rfl).cell 0
      have o1 : w3.cell? ⟨w2.heap.size, 1, none⟩ = some (.bool o.permit) := (S3.at_ 0 rfl).cell 1
      have o2 : w3.cell? ⟨w2.heap.size, 2, none⟩ = some (.bool o.ts) := (S3.at_ 0 rfl).cell 2
      have o3 : w3.cell? ⟨w2.heap.size, 3, none⟩ = some (.int .u32 o.val) := (S3.at_ 0 rfl).cell 3
      have o4 : w3.cell? ⟨w2.heap.size, 4, none⟩ = some (.int .u32 o.ecr) := (S3.at_ 0 rfl).cell 4
      have o5 : w3.cell? ⟨w2.heap.size, 5, none⟩ = some (.bool o.has) := (S3.at_ 0 rfl).cell 5
      have o6 : w3.cell? ⟨w2.heap.size, 6, none⟩ = some (.int .i64 o.scale) := (S3.at_ 0 rfl).cell 6
      have o7 : w3.cell? ⟨w2.heap.size, 7, none⟩ = some (.slice q2 o.blocks.length c2) := (S3.at_ 0 rfl).cell 7
      have HS3 := Lib.hid S3
      clear S3 f3 HC HS
      generalize bareO o = b at *
      have b1 : decide (40 < b) = true := by simpa using hbare
      go_wp2_with fail
      refine (HBr.out _).mono ?_
      rintro e w4 ⟨rfl, f4⟩
      have F4 := Lib.hid (HS3.out.fr.trans f4)
      clear f4 HS3
      go_wp2_with fail
      refine (known_any _).mono ?_
      rintro e w5 ⟨rfl, f5⟩
      have F5 := Lib.hid (F4.out.trans f5)
      clear f5 F4
      go_wp2_with fail
      exact bodyPost_ret (v := .bool true) (by simp [results, Try.results5, go_sem]) rfl ⟨rfl, F5.out.none_below⟩
  · obtain rfl := herr hn
    have n1 : (n == 0) = false := by simpa using hn
    have n2 : (n != 0) = true := by simpa using hn
    clear herr hmay hn
    have HC := Lib.hid (fun W => osame_any Opt.zero q2 none c2 0 W (fun h => absurd h (by decide)) (fun h => absurd h (by decide)) (by decide))
    go_wp2_with fail
    refine (HC.out _).mono ?_
    rintro e w3 ⟨rfl, f3⟩
    have F3 := Lib.hid (HS.out.fr.trans f3)
    clear f3 HC HS
    go_wp2_with fail
    refine (known_any _).mono ?_
    rintro e w4 ⟨rfl, f4⟩
    have F4 := Lib.hid (F3.out.trans f4)
    clear f4 F3
    go_wp2_with fail
    exact bodyPost_ret (v := .bool true) (by simp [results, Try.results5, go_sem]) rfl ⟨rfl, F4.out.none_below⟩

set_option maxRecDepth 100000 in
set_option maxHeartbeats 4000000 in
theorem optionBack_walk (w : World) (co : Array Value) (uo : U) (ho : shOpt.holds w uo co.toList) :
    Calls Try.prog 3 #[.agg co] w fun e w' => e = .returned (.bool true) ∧ Below w.heap.size w w' := by
  obtain ⟨o, q, c, eo, hw, hr⟩ := opt_of ho
  obtain rfl : co = optc o q c := Array.ext' eo
  have HR := Lib.hid (fun h : 0 < o.blocks.length => hr.some h)
  have HW := Lib.hid hw
  have S := Lib.hid ((Sep.law w).alloc (optc o q c) OpT)
  clear ho eo hw hr
  go_enter Try.func3, Try.ntmps3
  go_wp2_with fail
  refine (known_any _).mono ?_
  rintro e w1 ⟨rfl, f1⟩
  have S1 := S.out.same f1
  have o0 : w1.cell? ⟨w.heap.size, 0, none⟩ = some (.int .i64 o.mss) := (S1.at_ 0 rfl).cell 0
  have o1 : w1.cell? ⟨w.heap.size, 1, none⟩ = some (.bool o.permit) := (S1.at_ 0 rfl).cell 1
  have o2 : w1.cell? ⟨w.heap.size, 2, none⟩ = some (.bool o.ts) := (S1.at_ 0 rfl).cell 2
  have o3 : w1.cell? ⟨w.heap.size, 3, none⟩ = some (.int .u32 o.val) := (S1.at_ 0 rfl).cell 3
  have o4 : w1.cell? ⟨w.heap.size, 4, none⟩ = some (.int .u32 o.ecr) := (S1.at_ 0 rfl).cell 4
  have o5 : w1.cell? ⟨w.heap.size, 5, none⟩ = some (.bool o.has) := (S1.at_ 0 rfl).cell 5
  have o6 : w1.cell? ⟨w.heap.size, 6, none⟩ = some (.int .i64 o.scale) := (S1.at_ 0 rfl).cell 6
  have o7 : w1.cell? ⟨w.heap.size, 7, none⟩ = some (.slice q o.blocks.length c) := (S1.at_ 0 rfl).cell 7
  have HS1 := Lib.hid S1
  clear S1 f1 S
  by_cases h0 : checkO o = 0
  · have hn := (check_zero h0).2.2
    have HE := Lib.hid (encode_ok o q c w1 HW.out h0 (fun h => (HR.out h).fr HS1.out.fr (fun _ _ h => h)))
    have HP := Lib.hid (parse_enc HW.out h0)
    have HL := Lib.hid (encO_len o hn)
    have HL4 := Lib.hid (pad_four (encL o))
    have hlen : (encO o).length ≤ 60 := by
      have h1 := encO_len o hn
      have h2 := bareO_pos o hn
      unfold sizeO at h1
      rw [if_neg (by omega)] at h1
      omega
    have hen : ∀ x ∈ encO o, 0 ≤ x ∧ x < 256 := enc_bytes HW.out h0
    have HEN := Lib.hid hen
    have HZ := Lib.hid (fun W => size_any o q c W)
    clear h0 hen
    go_wp2_with fail
    refine HE.out.mono ?_
    rintro e w2 ⟨q3, c3, rfl, T2⟩
    have HS2 := Lib.hid (HS1.out.beside T2)
    clear T2 HE HS1 o0 o1 o2 o3 o4 o5 o6 o7
    have hz4 : ((encO o).length % 4 = 0) := HL4.out
    generalize encO o = l at *
    go_wp2_with fail
    refine (parse_any q3 c3 l w2 (.inr (Owns.reads (f := u8c) (T := U8T) (HS2.out.at_ 0 rfl)).2.1) HEN.out).mono ?_
    intro e w3 hpost
    unfold ParsePost at hpost
    rw [HP.out] at hpost
    obtain ⟨q4, c4, rfl, T3⟩ := hpost
    have S3 := (HS2.out.beside T3).alloc (optc o q4 c4) OpT
    have hb1 : w.heap.size < w3.heap.size := ((HS2.out.beside T3).at_ 2 rfl).lt
    have s0 : (w3.alloc (.cells (optc o q4 c4) OpT)).cell? ⟨w.heap.size, 0, none⟩ = some (.int .i64 o.mss) := (S3.at_ 3 rfl).cell 0
    have s1 : (w3.alloc (.cells (optc o q4 c4) OpT)).cell? ⟨w.heap.size, 1, none⟩ = some (.bool o.permit) := (S3.at_ 3 rfl).cell 1
    have s2 : (w3.alloc (.cells (optc o q4 c4) OpT)).cell? ⟨w.heap.size, 2, none⟩ = some (.bool o.ts) := (S3.at_ 3 rfl).cell 2
    have s3 : (w3.alloc (.cells (optc o q4 c4) OpT)).cell? ⟨w.heap.size, 3, none⟩ = some (.int .u32 o.val) := (S3.at_ 3 rfl).cell 3
    have s4 : (w3.alloc (.cells (optc o q4 c4) OpT)).cell? ⟨w.heap.size, 4, none⟩ = some (.int .u32 o.ecr) := (S3.at_ 3 rfl).cell 4
    have s5 : (w3.alloc (.cells (optc o q4 c4) OpT)).cell? ⟨w.heap.size, 5, none⟩ = some (.bool o.has) := (S3.at_ 3 rfl).cell 5
    have s6 : (w3.alloc (.cells (optc o q4 c4) OpT)).cell? ⟨w.heap.size, 6, none⟩ = some (.int .i64 o.scale) := (S3.at_ 3 rfl).cell 6
    have s7 : (w3.alloc (.cells (optc o q4 c4) OpT)).cell? ⟨w.heap.size, 7, none⟩ = some (.slice q o.blocks.length c) := (S3.at_ 3 rfl).cell 7
    have HRq := Lib.hid (fun h : 0 < o.blocks.length => (HR.out h).fr S3.fr (fun _ _ h => h))
    have HR4 := Lib.hid (Owns.reads (f := blc) (T := BlT) (S3.at_ 1 rfl)).2.1
    have HS3 := Lib.hid S3
    clear S3 T3 HS2
    go_wp2_with fail
    refine (osame_any o q q4 c c4 _ HRq.out (fun _ => HR4.out) (by omega)).mono ?_
    rintro e w4 ⟨rfl, f4⟩
    have S4 := HS3.out.same f4
    have t0 : w4.cell? ⟨w.heap.size, 0, none⟩ = some (.int .i64 o.mss) := (S4.at_ 3 rfl).cell 0
    have t1 : w4.cell? ⟨w.heap.size, 1, none⟩ = some (.bool o.permit) := (S4.at_ 3 rfl).cell 1
    have t2 : w4.cell? ⟨w.heap.size, 2, none⟩ = some (.bool o.ts) := (S4.at_ 3 rfl).cell 2
    have t3 : w4.cell? ⟨w.heap.size, 3, none⟩ = some (.int .u32 o.val) := (S4.at_ 3 rfl).cell 3
    have t4 : w4.cell? ⟨w.heap.size, 4, none⟩ = some (.int .u32 o.ecr) := (S4.at_ 3 rfl).cell 4
    have t5 : w4.cell? ⟨w.heap.size, 5, none⟩ = some (.bool o.has) := (S4.at_ 3 rfl).cell 5
    have t6 : w4.cell? ⟨w.heap.size, 6, none⟩ = some (.int .i64 o.scale) := (S4.at_ 3 rfl).cell 6
    have t7 : w4.cell? ⟨w.heap.size, 7, none⟩ = some (.slice q o.blocks.length c) := (S4.at_ 3 rfl).cell 7
    have HS4 := Lib.hid S4
    clear S4 f4 HS3 HRq HR4 s0 s1 s2 s3 s4 s5 s6 s7
    have z1 : ((l.length : Int) % 4 == 0) = true := by simp; omega
    have z2 : ((l.length : Int) == sizeO o) = true := by simpa using HL.out
    generalize sizeO o = z at *
    go_wp2_with fail
    refine (HZ.out _).mono ?_
    rintro e w5 ⟨rfl, f5⟩
    have F5 := Lib.hid (HS4.out.fr.trans f5)
    clear f5 HS4 HZ
    go_wp2_with fail
    refine (known_any _).mono ?_
    rintro e w6 ⟨rfl, f6⟩
    have F6 := Lib.hid (F5.out.trans f6)
    clear f6 F5
    go_wp2_with fail
    exact bodyPost_ret (v := .bool true) (by simp [results, Try.results3, go_sem]) rfl ⟨rfl, F6.out.none_below⟩
  · have HE := Lib.hid (encode_no o q c w1 h0)
    have HC := Lib.hid (fun W => rfCheck_any o q c W)
    have n1 : (checkO o == 0) = false := by simpa using h0
    have n2 : (checkO o != 0) = true := by simpa using h0
    clear h0
    generalize checkO o = z at *
    go_wp2_with fail
    refine HE.out.mono ?_
    rintro e w2 ⟨rfl, f2⟩
    have S2 := HS1.out.same f2
    have p0 : w2.cell? ⟨w.heap.size, 0, none⟩ = some (.int .i64 o.mss) := (S2.at_ 0 rfl).cell 0
    have p1 : w2.cell? ⟨w.heap.size, 1, none⟩ = some (.bool o.permit) := (S2.at_ 0 rfl).cell 1
    have p2 : w2.cell? ⟨w.heap.size, 2, none⟩ = some (.bool o.ts) := (S2.at_ 0 rfl).cell 2
    have p3 : w2.cell? ⟨w.heap.size, 3, none⟩ = some (.int .u32 o.val) := (S2.at_ 0 rfl).cell 3
    have p4 : w2.cell? ⟨w.heap.size, 4, none⟩ = some (.int .u32 o.ecr) := (S2.at_ 0 rfl).cell 4
    have p5 : w2.cell? ⟨w.heap.size, 5, none⟩ = some (.bool o.has) := (S2.at_ 0 rfl).cell 5
    have p6 : w2.cell? ⟨w.heap.size, 6, none⟩ = some (.int .i64 o.scale) := (S2.at_ 0 rfl).cell 6
    have p7 : w2.cell? ⟨w.heap.size, 7, none⟩ = some (.slice q o.blocks.length c) := (S2.at_ 0 rfl).cell 7
    have HS2 := Lib.hid S2
    clear S2 f2 HE HS1 o0 o1 o2 o3 o4 o5 o6 o7
    go_wp2_with fail
    refine (HC.out _).mono ?_
    rintro e w3 ⟨rfl, f3⟩
    have F3 := Lib.hid (HS2.out.fr.trans f3)
    clear f3 HC HS2
    go_wp2_with fail
    refine (known_any _).mono ?_
    rintro e w4 ⟨rfl, f4⟩
    have F4 := Lib.hid (F3.out.trans f4)
    clear f4 F3
    go_wp2_with fail
    exact bodyPost_ret (v := .bool true) (by simp [results, Try.results3, go_sem]) rfl ⟨rfl, F4.out.none_below⟩
end Go.Proofs.Ythkhfijfgpccbaa
