/- Segments: the reference's Check, Size; the references' Same of any two: walked. -/
import Derived.Test.YthkhfijfgpccbaaSe9
set_option linter.unusedVariables false
set_option linter.unusedSimpArgs false
namespace Go.Proofs.Ythkhfijfgpccbaa
open Go.RowKit Go.Und Go.Shelf
attribute [local go_sem] Oper.semAt_some
attribute [local go_sem ↓] Go.wp_at_zero Go.wp_at_succ

set_option maxHeartbeats 4000000 in
theorem rcheck5_any (s : Sgm) (q : Option Addr) (c : Nat) (p : Option Addr) (d : Nat) (w : World) :
    Calls Try.prog 21 #[.agg (sgc s q c p d)] w fun e w' => e = .returned (.int .i64 (checkS s)) ∧ Fr None w w' := by
  have HC := Lib.hid (fun W => rfCheck_any s.opt q c W)
  have S := Lib.hid ((Sep.law w).alloc (sgc s q c p d) SgT)
  obtain ⟨k, num, opt, body⟩ := s
  dsimp only at *
  by_cases hk : k = 1 ∨ k = 2
  · by_cases hz : checkO opt = 0
    · have hlen : (¬ 0 < body.length ∧ ¬ 2048 < body.length) ∨ (0 < body.length ∧ ¬ 2048 < body.length) ∨ (0 < body.length ∧ 2048 < body.length) := by omega
      have hbl : 0 < opt.blocks.length ∨ ¬ 0 < opt.blocks.length := by omega
      rw [hz] at HC
      have HZ := Lib.hid hz
      clear hz
      rcases hk with rfl | rfl <;> rcases hlen with ⟨h, h'⟩ | ⟨h, h'⟩ | ⟨h, h'⟩ <;> rcases hbl with hb | hb
      all_goals
        first
        | (have d2 : ((body.length : Int) == 0) = true := beq_iff_eq.2 (by omega))
        | (have d2 : ((body.length : Int) == 0) = false := beq_eq_false_iff_ne.2 (by omega))
        first
        | (have d3 : decide ((opt.blocks.length : Int) > 0) = true := decide_eq_true (by omega))
        | (have d3 : decide ((opt.blocks.length : Int) > 0) = false := decide_eq_false (by omega))
        first
        | (have d4 : decide ((body.length : Int) > 0) = true := decide_eq_true (by omega))
        | (have d4 : decide ((body.length : Int) > 0) = false := decide_eq_false (by omega))
        first
        | (have d5 : decide ((body.length : Int) > 2048) = true := decide_eq_true (by omega))
        | (have d5 : decide ((body.length : Int) > 2048) = false := decide_eq_false (by omega))
        go_enter Try.func21, Try.ntmps21
        go_wp2_with fail
        refine (HC.out _).mono ?_
        rintro e w1 ⟨rfl, f1⟩
        have S1 := S.out.same f1
        have o0 := (S1.at_ 0 rfl).cell 0
        have o9 : w1.cell? ⟨w.heap.size, 9, none⟩ = some (.slice q opt.blocks.length c) := (S1.at_ 0 rfl).cell 9
        have o10 : w1.cell? ⟨w.heap.size, 10, none⟩ = some (.slice p body.length d) := (S1.at_ 0 rfl).cell 10
        have F := Lib.hid S1.fr
        clear S1 f1 HC S
        go_wp2_with fail
        go_ret
        refine ⟨ret_intO ?_, F.out⟩
        unfold checkS
        dsimp only
        rw [HZ.out]
        repeat' split
        all_goals omega
    · have HQ := Lib.hid (show checkS ⟨k, num, opt, body⟩ = checkO opt by
        unfold checkS; dsimp only; rw [if_neg (by omega), if_pos hz])
      have hz' : (checkO opt != 0) = true := by simpa using hz
      clear hz
      generalize checkO opt = z at *
      rcases hk with rfl | rfl
      all_goals
        go_enter Try.func21, Try.ntmps21
        go_wp2_with fail
        refine (HC.out _).mono ?_
        rintro e w1 ⟨rfl, f1⟩
        have F := Lib.hid (S.out.fr.trans f1)
        clear f1 HC S
        go_wp2_with fail
        go_ret
        exact ⟨by rw [HQ.out]; rfl, F.out⟩
  · have d1 : (k != 1) = true := by simp; omega
    have d2 : (k != 2) = true := by simp; omega
    have HQ := Lib.hid (show checkS ⟨k, num, opt, body⟩ = 8 by unfold checkS; dsimp only; rw [if_pos (by omega)])
    clear hk
    go_enter Try.func21, Try.ntmps21
    go_wp2_with fail
    go_ret
    exact ⟨by rw [HQ.out]; rfl, S.out.fr⟩

def sizeS (s : Sgm) : Int := if checkS s = 0 then 8 + sizeO s.opt + s.body.length else 0
set_option maxHeartbeats 4000000 in
theorem ssize_any (s : Sgm) (q : Option Addr) (c : Nat) (p : Option Addr) (d : Nat) (w : World) :
    Calls Try.prog 20 #[.agg (sgc s q c p d)] w fun e w' => e = .returned (.int .i64 (sizeS s)) ∧ Fr None w w' := by
  have HC := Lib.hid (fun W => scheck_any s q c p d W)
  have S := Lib.hid ((Sep.law w).alloc (sgc s q c p d) SgT)
  unfold sizeS
  by_cases h : checkS s = 0
  · obtain ⟨hk, h2, h3⟩ := checkS_zero h
    obtain ⟨g1, g2, g3, g4⟩ := check_zero0 h2
    have hs0 := bareO_pos s.opt g3
    have hsz : 0 ≤ sizeO s.opt := by unfold sizeO; split <;> omega
    rw [if_pos h]
    rw [h] at HC
    have HZ := Lib.hid (fun W => size_any s.opt q c W)
    clear h h2 hk g1 g2 g3 hs0
    generalize sizeO s.opt = z at *
    go_enter Try.func20, Try.ntmps20
    go_wp2_with fail
    refine (HC.out _).mono ?_
    rintro e w1 ⟨rfl, f1⟩
    have S1 := S.out.same f1
    have o2 : w1.cell? ⟨w.heap.size, 2, none⟩ = some (.int .i64 s.opt.mss) := (S1.at_ 0 rfl).cell 2
    have o3 : w1.cell? ⟨w.heap.size, 3, none⟩ = some (.bool s.opt.permit) := (S1.at_ 0 rfl).cell 3
    have o4 : w1.cell? ⟨w.heap.size, 4, none⟩ = some (.bool s.opt.ts) := (S1.at_ 0 rfl).cell 4
    have o5 : w1.cell? ⟨w.heap.size, 5, none⟩ = some (.int .u32 s.opt.val) := (S1.at_ 0 rfl).cell 5
    have o6 : w1.cell? ⟨w.heap.size, 6, none⟩ = some (.int .u32 s.opt.ecr) := (S1.at_ 0 rfl).cell 6
    have o7 : w1.cell? ⟨w.heap.size, 7, none⟩ = some (.bool s.opt.has) := (S1.at_ 0 rfl).cell 7
    have o8 : w1.cell? ⟨w.heap.size, 8, none⟩ = some (.int .i64 s.opt.scale) := (S1.at_ 0 rfl).cell 8
    have o9 : w1.cell? ⟨w.heap.size, 9, none⟩ = some (.slice q s.opt.blocks.length c) := (S1.at_ 0 rfl).cell 9
    have o10 : w1.cell? ⟨w.heap.size, 10, none⟩ = some (.slice p s.body.length d) := (S1.at_ 0 rfl).cell 10
    have HS1 := Lib.hid S1
    clear S1 f1 HC S
    have e1 : IntKind.i64.wrap (8 + z) = 8 + z := by simp [IntKind.wrap, IntKind.bits, IntKind.signed]; omega
    have e2 : IntKind.i64.wrap (8 + z + s.body.length) = 8 + z + s.body.length := by simp [IntKind.wrap, IntKind.bits, IntKind.signed]; omega
    go_wp2_with fail
    go_region_held3 (fun w' => w'.cell? ⟨w.heap.size, 2, none⟩ = some (.int .i64 s.opt.mss) ∧ w'.cell? ⟨w.heap.size, 3, none⟩ = some (.bool s.opt.permit) ∧ w'.cell? ⟨w.heap.size, 4, none⟩ = some (.bool s.opt.ts) ∧ w'.cell? ⟨w.heap.size, 5, none⟩ = some (.int .u32 s.opt.val) ∧ w'.cell? ⟨w.heap.size, 6, none⟩ = some (.int .u32 s.opt.ecr) ∧ w'.cell? ⟨w.heap.size, 7, none⟩ = some (.bool s.opt.has) ∧ w'.cell? ⟨w.heap.size, 8, none⟩ = some (.int .i64 s.opt.scale) ∧ w'.cell? ⟨w.heap.size, 9, none⟩ = some (.slice q s.opt.blocks.length c) ∧ w'.cell? ⟨w.heap.size, 10, none⟩ = some (.slice p s.body.length d)) (first | (with_reducible assumption) | (go_keep; done)) (first
      | ((with_reducible refine (HZ.out _).mono ?_); rintro e w3 ⟨rfl, f3⟩; have HS3 := Lib.hid (HS1.out.drew.same f3); have K3 := (sg_k (HS3.out.at_ 0 rfl)).2.2; clear f3)
      | fail)
    clear K3 e1 e2 o2 o3 o4 o5 o6 o7 o8 o9 o10
    go_wp2_with fail
    go_ret
    exact ⟨ret_intO (by omega), HS3.out.fr⟩
  · have h' : (checkS s != 0) = true := by simpa using h
    rw [if_neg h]
    clear h
    generalize checkS s = z at *
    go_enter Try.func20, Try.ntmps20
    go_wp2_with fail
    refine (HC.out _).mono ?_
    rintro e w1 ⟨rfl, f1⟩
    have F := Lib.hid (S.out.fr.trans f1)
    clear f1 HC S
    go_wp2_with fail
    go_ret
    exact ⟨rfl, F.out⟩

theorem readsB_elem {w : World} {p : Option Addr} {c : Nat} {α : Type} {f : α → List Value} {n : Nat} {l : List α} {k : Nat} {x : α} (h : ReadsB w n p l.length c (fc f l)) (hf : ∀ x, (f x).length = n) (hn : 0 < n) (hx : l[k]? = some x) :
    ∃ b off, p = some ⟨b, off, none⟩ ∧ ∀ j u, (f x)[j]? = some u → w.cell? ⟨b, off + k * n + j, none⟩ = some u :=
  Reads.elem hf (h.some (by have := (List.getElem?_eq_some_iff.1 hx).1; omega)) hn hx
theorem eq_upto {α : Type} {l m : List α} (hl : l.length = m.length) {k : Nat} (h : l.take k = m.take k) {x y : α} (hx : l[k]? = some x) (hy : m[k]? = some y) : (l.take (k + 1) = m.take (k + 1) ↔ x = y) ∧ (x ≠ y → l ≠ m) := by
  rw [List.take_add_one, List.take_add_one, hx, hy, h]
  refine ⟨by simp, fun hne e => ?_⟩
  subst e
  rw [hx] at hy
  exact hne (Option.some.inj hy)
set_option maxHeartbeats 2000000 in
theorem rbsame_any (p q : Option Addr) (c d : Nat) (l m : List Int) (w : World) (hr : ReadsB w 1 p l.length c (fc u8c l)) (hq : ReadsB w 1 q m.length d (fc u8c m)) (hs : l.length ≤ maxLen) (hs2 : m.length ≤ maxLen) :
    Calls Try.prog 25 #[.slice p l.length c, .slice q m.length d] w fun e w' => e = .returned (.bool (decide (l = m))) ∧ Fr None w w' := by
  unfold maxLen at hs hs2
  by_cases hlm : l.length = m.length
  · have HR := Lib.hid hr; clear hr
    have HQ := Lib.hid hq; clear hq
    have HL := Lib.hid hlm
    rw [← hlm]
    have hz : ((l.length : Int) != l.length) = false := by simp
    clear hlm hs2
    go_enter Try.func25, Try.ntmps25
    go_wp2_with fail
    go_loopg [5] l.length (fun r i wr => ∃ k n : Nat, k + r = l.length ∧ i = .int .i64 k ∧ wr = w.drewN n ∧ l.take k = m.take k)
    case atStart => exact ⟨0, 0, by omega, rfl, rfl, rfl⟩
    case round =>
      obtain ⟨k, n, hk0, rfl, rfl, he⟩ := hrel
      have HE := Lib.hid he
      clear he
      by_cases g : k < l.length
      · have ex := List.getElem?_eq_getElem g
        have ey : m[k]? = some (m[k]'(by have := HL.out; omega)) := List.getElem?_eq_getElem _
        obtain ⟨b, off, rfl, hc⟩ := readsB_elem HR.out u8c_len (by decide) ex
        obtain ⟨b2, off2, rfl, hd⟩ := readsB_elem HQ.out u8c_len (by decide) ey
        have hst := eq_upto HL.out HE.out ex ey
        generalize l[k] = x at *
        generalize m[k]'_ = y at *
        have c1 : w.cell? ⟨b, off + k, none⟩ = some (.int .u8 x) := by have := hc 0 _ rfl; rwa [Nat.mul_one] at this
        have d1 : w.cell? ⟨b2, off2 + k, none⟩ = some (.int .u8 y) := by have := hd 0 _ rfl; rwa [Nat.mul_one] at this
        have hdl : (k : Int) < m.length := by have := HL.out; omega
        have HST := Lib.hid hst
        clear hc hd ex ey hst
        by_cases hxy : x = y
        · subst hxy
          go_wp2_with fail
          go_quiet (fail)
          go_wp2_with fail
          go_roundg (gk - 1)
          case measure => omega
          case rel => exact ⟨k + 1, _, by omega, by go_num, rfl, HST.out.1.2 (by first | rfl | trivial)⟩
        · have hb : (x != y) = true := by simpa using hxy
          have HN := Lib.hid (HST.out.2 hxy)
          clear hxy
          go_wp2_with fail
          go_quiet (fail)
          go_wp2_with fail
          go_ret
          exact ⟨by rw [decide_eq_false HN.out]; rfl, ((Fr.refl None w).drewN _).drewN _⟩
      · have hlm : l = m := by
          have h1 := HE.out
          rwa [List.take_of_length_le (by omega), List.take_of_length_le (by have := HL.out; omega)] at h1
        have HLM := Lib.hid hlm
        clear hlm
        go_wp2_with fail
        go_ret
        exact ⟨by rw [decide_eq_true HLM.out]; rfl, (Fr.refl None w).drewN _⟩
  · have hne : l ≠ m := fun h => hlm (by rw [h])
    have hz : ((l.length : Int) != m.length) = true := by simp; omega
    have HN := Lib.hid hne
    clear hlm hr hq hne
    go_enter Try.func25, Try.ntmps25
    go_wp2_with fail
    go_ret
    exact ⟨by rw [decide_eq_false HN.out]; rfl, Fr.refl None w⟩
end Go.Proofs.Ythkhfijfgpccbaa
