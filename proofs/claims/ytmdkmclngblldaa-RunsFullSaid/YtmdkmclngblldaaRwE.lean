/- RunsFull: walked. -/
import Derived.Test.YtmdkmclngblldaaRwD
import Derived.Test.YtmdkmclngblldaaEls
set_option linter.unusedVariables false
set_option linter.unusedSimpArgs false
namespace Go.Proofs.Ytmdkmclngblldaa
open Go.RowKit Go.Und Go.Shelf
open Go.ChangeShapes Go.WideShapes Go.ChangeAt Go.RowKit Go.Und
attribute [local go_sem] Oper.semAt_some
attribute [local go_sem ↓] Go.wp_at_zero Go.wp_at_succ

theorem addL_end {l : List (Int × Int)} (ok : OkL l) {s : Int × Int} (hs : PrS s) (h : ∀ x ∈ l, x.2 < s.1) : OkL (l ++ [s]) ∧ addL l s = l ++ [s] ∧ lenS s - withinL l s = s.2 - s.1 ∧ fstP (fun x => decide (s.1 ≤ x.2)) l = l.length ∧ fstP (fun x => decide (s.2 < x.1)) l = l.length := by
  have ok2 : OkL (l ++ [s]) := okL_append.2 ⟨ok, ⟨hs, (fun y hy => by cases hy), trivial⟩, fun x hx y hy => by rw [List.mem_singleton.1 hy]; exact h x hx⟩
  have e1 : addL l s = l ++ [s] := by
    refine ok_ext (add_ok ok hs).1 ok2 fun o => ?_
    rw [(add_ok ok hs).2 o, memL_append, memL_cons]
    constructor
    · rintro (g | g)
      · exact .inl g
      · exact .inr (.inl g)
    · rintro (g | g | g)
      · exact .inl g
      · exact .inr g
      · exact absurd g (memL_nil o)
  have e2 := add_bytes ok hs
  rw [e1, bytes_snoc, lenS_of hs] at e2
  refine ⟨ok2, e1, by rw [lenS_of hs]; omega, fstP_is _ l l.length (Nat.le_refl _) (fun i x _ hx => ?_) (fun i x hi hx => ?_), fstP_is _ l l.length (Nat.le_refl _) (fun i x _ hx => ?_) (fun i x hi hx => ?_)⟩
  · have := h x (List.mem_of_getElem? hx); exact decide_eq_false (by omega)
  · have := (List.getElem?_eq_some_iff.1 hx).1; omega
  · have := h x (List.mem_of_getElem? hx); have := (ok.pr x (List.mem_of_getElem? hx)).2.1; have := hs.2.1; exact decide_eq_false (by omega)
  · have := (List.getElem?_eq_some_iff.1 hx).1; omega
theorem add_end_any (p : Nat) (q : Option Addr) (cap : Nat) (l : List (Int × Int)) (a b : Int) (w : World) (ok : OkL l) (hs : PrS (a, b)) (h : ∀ x ∈ l, x.2 < a) (S : Sep (fpL (rns p q cap l)) w w (rns p q cap l)) (hroom : l.length + 1 ≤ 4096) :
    Calls Try.prog 15 #[.pointer (at0 p), .agg #[.int .i64 a, .int .i64 b]] w fun e w' => e = .returned (.tuple #[.int .i64 (b - a), .int .i64 0]) ∧ ∃ q' c', Sep (fpL (rns p q cap l)) w w' (rns p q' c' (l ++ [(a, b)])) := by
  obtain ⟨_, e1, e2, e3, e4⟩ := addL_end ok hs h
  exact add_step p q cap l a b w (l ++ [(a, b)]) (b - a) ok (by omega) hs S (.inr e4) e1 e2 (by simpa using hroom)
theorem add_over_any (p : Nat) (q : Option Addr) (cap : Nat) (l : List (Int × Int)) (a b : Int) (w : World) (ok : OkL l) (hs : PrS (a, b)) (h : ∀ x ∈ l, x.2 < a) (S : Sep (fpL (rns p q cap l)) w w (rns p q cap l)) (hfull : l.length = 4096) :
    Calls Try.prog 15 #[.pointer (at0 p), .agg #[.int .i64 a, .int .i64 b]] w fun e w' => e = .returned (.tuple #[.int .i64 0, .int .i64 4]) ∧ Sep (fpL (rns p q cap l)) w w' (rns p q cap l) := by
  obtain ⟨_, e1, e2, e3, e4⟩ := addL_end ok hs h
  refine (add_do p q cap l a b w ok (by omega) hs S (.inr e4)).mono ?_
  have hl : (addL l (a, b)).length = 4097 := by rw [e1]; simp [hfull]
  rintro e w' (⟨g, _⟩ | ⟨_, rfl, T⟩)
  · omega
  · exact ⟨rfl, T⟩
/-- Spans of a width, a step apart. -/
def rowA (W d : Int) (n : Nat) : List (Int × Int) := (List.range n).map fun (k : Nat) => (W * (k : Int), W * (k : Int) + d)
theorem rowA_next (W d : Int) (n : Nat) : rowA W d (n + 1) = rowA W d n ++ [(W * n, W * n + d)] := by unfold rowA; rw [List.range_succ, List.map_append]; rfl
theorem rowA_len (W d : Int) (n : Nat) : (rowA W d n).length = n := by simp [rowA]
theorem rowA_ok {W d : Int} (hd : 1 ≤ d) (hW : d < W) (hW2 : W ≤ 100) : ∀ (n : Nat), n ≤ 5000 → OkL (rowA W d n) ∧ ∀ x ∈ rowA W d n, x.2 < W * n
  | 0, _ => ⟨trivial, fun x hx => by cases hx⟩
  | n + 1, h => by
    obtain ⟨h1, h2⟩ := rowA_ok hd hW hW2 n (by omega)
    have hm : W * ((n + 1 : Nat) : Int) = W * n + W := by rw [Int.natCast_add, Int.mul_add]; simp
    have h0 : 0 ≤ W * (n : Int) := Int.mul_nonneg (by omega) (by omega)
    have h9 : W * (n : Int) ≤ 100 * 5000 := Int.mul_le_mul hW2 (by omega) (by omega) (by omega)
    rw [rowA_next]
    have hp : PrS (W * (n : Int), W * n + d) := by unfold PrS; simp only; omega
    refine ⟨(addL_end h1 hp h2).1, fun x hx => ?_⟩
    rcases List.mem_append.1 hx with hx | hx
    · have := h2 x hx; omega
    · rw [List.mem_singleton.1 hx]; simp only; omega
theorem rowA_new {W d : Int} (hd : 1 ≤ d) (hW : d < W) (hW2 : W ≤ 100) {n : Nat} (hn : n ≤ 5000) (e : Int) (he : 1 ≤ e) (he2 : e ≤ 100) : PrS (W * (n : Int), W * n + e) := by
  have h0 : 0 ≤ W * (n : Int) := Int.mul_nonneg (by omega) (by omega)
  have h9 : W * (n : Int) ≤ 100 * 5000 := Int.mul_le_mul hW2 (by omega) (by omega) (by omega)
  unfold PrS; simp only; omega
/-- One wide span, and then spans of one. -/
def rowB (n : Nat) : List (Int × Int) := (0, 5) :: (List.range n).map fun (k : Nat) => (10 * ((k : Int) + 1), 10 * ((k : Int) + 1) + 1)
theorem rowB_next (n : Nat) : rowB (n + 1) = rowB n ++ [(10 * ((n : Int) + 1), 10 * ((n : Int) + 1) + 1)] := by unfold rowB; rw [List.range_succ, List.map_append]; rfl
theorem rowB_len (n : Nat) : (rowB n).length = n + 1 := by simp [rowB]
theorem rowB_new {n : Nat} (hn : n ≤ 5000) : PrS (10 * ((n : Int) + 1), 10 * ((n : Int) + 1) + 1) := by unfold PrS; simp only; omega
theorem rowB_ok : ∀ (n : Nat), n ≤ 5000 → (OkL (rowB n) ∧ ∀ x ∈ rowB n, x.2 < 10 * ((n : Int) + 1)) ∧ bytesL (rowB n) = n + 5
  | 0, _ => ⟨⟨⟨by unfold PrS; decide, (fun y hy => by cases hy), trivial⟩, fun x hx => by rw [List.mem_singleton.1 (show x ∈ [(0, 5)] from hx)]; decide⟩, by decide⟩
  | n + 1, h => by
    obtain ⟨⟨h1, h2⟩, h3⟩ := rowB_ok n (by omega)
    rw [rowB_next]
    have hp := rowB_new (show n ≤ 5000 by omega)
    refine ⟨⟨(addL_end h1 hp h2).1, fun x hx => ?_⟩, ?_⟩
    · rcases List.mem_append.1 hx with hx | hx
      · have := h2 x hx; omega
      · rw [List.mem_singleton.1 hx]; simp only; omega
    · rw [bytes_snoc, h3, lenS_of hp]; simp only; omega
theorem rowB_lo (n : Nat) : 0 = fstP (fun x => decide ((2 : Int) < x.2)) (rowB n) := by unfold rowB fstP; rw [List.takeWhile_cons]; rfl
theorem rowB_hi (n : Nat) : 1 = fstP (fun x => decide ((3 : Int) ≤ x.1)) (rowB n) := by
  refine (fstP_is _ _ 1 (by rw [rowB_len]; omega) (fun i x hi hx => ?_) (fun i x hi hx => ?_)).symm
  · obtain rfl : i = 0 := by omega
    have : x = (0, 5) := by unfold rowB at hx; simpa using hx.symm
    rw [this]; rfl
  · obtain ⟨j, rfl⟩ : ∃ j, i = j + 1 := ⟨i - 1, by omega⟩
    unfold rowB at hx
    rw [List.getElem?_cons_succ] at hx
    obtain ⟨k, _, rfl⟩ := List.mem_map.1 (List.mem_of_getElem? hx)
    exact decide_eq_true (by simp only; omega)
theorem rowB_has (n : Nat) : memB (rowB n) 2 = true := memB_true ⟨(0, 5), by unfold rowB; exact List.mem_cons_self, by decide, by decide⟩
theorem rem_over (p : Nat) (q : Option Addr) (cap : Nat) (w : World) (S : Sep (fpL (rns p q cap (rowB 4095))) w w (rns p q cap (rowB 4095))) :
    Calls Try.prog 24 #[.pointer (at0 p), .agg #[.int .i64 2, .int .i64 3]] w fun e w' => e = .returned (.tuple #[.int .i64 0, .int .i64 4]) ∧ ∃ q' c', Sep (fpL (rns p q cap (rowB 4095))) w w' (rns p q' c' (rowB 4095)) := by
  refine (rem_core p q cap (rowB 4095) 2 3 w (rowB_ok 4095 (by decide)).1.1 (by rw [rowB_len]; decide) (by unfold PrS; decide) S 0 1 (rowB_lo _) (rowB_hi _) [(0, 5)] [(0, 2), (3, 5)] (by unfold rowB; rfl) (by decide) 4 (rowB 4095) fun W qv cv SW => ?_).mono fun e w' h => ⟨by rw [h.1]; rfl, h.2⟩
  refine (lay_full p q cap (rowB 4095).length 0 1 qv 2 cv W ((SW.at_ 0 rfl).cell 0) (by decide) (by rw [rowB_len]; decide) (by rw [rowB_len]; decide) (by decide) (by rw [rowB_len]; decide)).mono ?_
  rintro e w' ⟨rfl, rfl⟩
  exact ⟨rfl, q, cap, SW⟩
set_option maxRecDepth 100000 in
set_option maxHeartbeats 8000000 in
theorem runsFull_walk (w : World) (vb : Value) (ub : U) (hb : (Sh.int .u8).holds w ub [vb]) :
    Calls Try.prog 5 #[vb] w fun e w' => e = .returned (.bool true) ∧ Below w.heap.size w w' := by
  obtain ⟨step, _, hb, wb⟩ := hb
  simp only [List.cons.injEq, and_true] at hb
  subst hb
  have hst := wf_u8 wb
  go_enter Try.func5, Try.ntmps5
  go_wp2_with (first
    | ((with_reducible refine (known7_any _).mono ?_); rintro e0 w0 ⟨rfl, F0⟩; have HF0 := Lib.hid F0; clear F0)
    | ((with_reducible refine (new_any _).mono ?_); rintro e1 w1 ⟨rfl, T⟩; have HS1 := Lib.hid T; clear T)
    | fail)
  obtain ⟨W, hW⟩ : ∃ W, W = 3 + step % 9 := ⟨_, rfl⟩
  rw [← hW]
  have hWb : 3 ≤ W ∧ W ≤ 11 := by omega
  have HW := Lib.hid hW
  clear hW
  obtain ⟨D, hD⟩ : ∃ D, D = 2 + step % 3 % (W - 2) := ⟨_, rfl⟩
  have hDb : 2 ≤ D ∧ D < W := by
    have h1 := Int.emod_nonneg (step % 3) (show W - 2 ≠ 0 by omega)
    have h2 := Int.emod_lt_of_pos (step % 3) (show 0 < W - 2 by omega)
    omega
  have HD := Lib.hid hD
  clear hD
  go_loopg [5] 4096 (fun n i wr => ∃ (k : Nat) (q : Option Addr) (c : Nat), k + n = 4096 ∧ i = .int .i64 k ∧ Sep None w0 wr (rns w0.heap.size q c (rowA W D k)))
  case atStart => exact ⟨0, none, 0, by omega, rfl, HS1.out⟩
  case round =>
    clear HS1
    obtain ⟨k, q, c, hk, rfl, S1⟩ := hrel
    obtain ⟨okA, lastA⟩ := rowA_ok (W := W) (d := D) (by omega) hDb.2 (by omega) k (by omega)
    by_cases g : k < 4096
    · have h0 : 0 ≤ W * (k : Int) := Int.mul_nonneg (by omega) (by omega)
      have h9 : W * (k : Int) ≤ 11 * 4096 := Int.mul_le_mul hWb.2 (by omega) (by omega) (by omega)
      have m1 : IntKind.i64.wrap (W * (k : Int)) = W * k := by simp [IntKind.wrap, IntKind.bits, IntKind.signed]; omega
      have m2 : IntKind.i64.wrap (W * (k : Int) + 2) = W * k + 2 := by simp [IntKind.wrap, IntKind.bits, IntKind.signed]; omega
      have m3 : IntKind.i64.wrap (W - 2) = W - 2 := by simp [IntKind.wrap, IntKind.bits, IntKind.signed]; omega
      have m4 : IntKind.i64.wrap (W * (k : Int) + 2 + step % 3 % (W - 2)) = W * k + D := by rw [show W * (k : Int) + 2 + step % 3 % (W - 2) = W * k + D by have := HD.out; omega]; simp [IntKind.wrap, IntKind.bits, IntKind.signed]; omega
      have m5 : wrap64 (W * (k : Int) + 2 + step % 3 % (W - 2)) = W * k + D := by rw [show W * (k : Int) + 2 + step % 3 % (W - 2) = W * k + D by have := HD.out; omega]; unfold wrap64; omega
      have m6 : decide (D < 2) = false := decide_eq_false (by omega)
      have hc := add_end_any w0.heap.size q c (rowA W D k) (W * k) (W * k + D) wr okA (rowA_new (d := D) (by omega) hDb.2 (by omega) (by omega) D (by omega) (by omega)) lastA S1.self (by rw [rowA_len]; omega)
      rw [show W * (k : Int) + D - W * k = D by omega, ← rowA_next] at hc
      have HC := Lib.hid hc
      have HS := Lib.hid S1
      clear S1 hc okA lastA h0 h9 m4
      go_wp2_with ((with_reducible refine (HC.out).mono ?_); rintro e2 w2 ⟨rfl, q2, c2, T⟩; have HS2 := Lib.hid (HS.out.did0 T); clear T)
      go_roundg (gk - 1)
      case measure => omega
      case rel => exact ⟨k + 1, q2, c2, by omega, by go_num, HS2.out⟩
    · obtain rfl : k = 4096 := by omega
      have m1 : IntKind.i64.wrap (W * 4096) = W * 4096 := by simp [IntKind.wrap, IntKind.bits, IntKind.signed]; omega
      have m2 : IntKind.i64.wrap (W * 4096 + 1) = W * 4096 + 1 := by simp [IntKind.wrap, IntKind.bits, IntKind.signed]; omega
      have HC := Lib.hid (add_over_any w0.heap.size q c (rowA W D 4096) (W * 4096) (W * 4096 + 1) wr okA (rowA_new (n := 4096) (d := D) (by omega) hDb.2 (by omega) (by omega) 1 (by omega) (by omega)) lastA S1.self (rowA_len _ _ _))
      have HS := Lib.hid S1
      have hL : (rowA W D 4096).length = 4096 := rowA_len _ _ _
      clear S1 okA lastA
      generalize rowA W D 4096 = L at *
      have HL := Lib.hid hL
      clear hL
      go_wp2_with fail
      (with_reducible refine (HC.out).mono ?_); rintro e2 w2 ⟨rfl, T⟩; have S2 := HS.out.did0 T; have d2 : w2.cell? ⟨w0.heap.size, 0, none⟩ = some (.slice q 4096 c) := by (have h0 := (rns_row (R := []) S2).1; rw [HL.out] at h0; exact h0)
      have HS2 := Lib.hid S2; clear T S2
      go_wp2_with (first
        | ((with_reducible refine (rlen_any w0.heap.size q c 4096 w2 d2).mono ?_); rintro e3 w3 ⟨rfl, h3⟩; have HF3 := Lib.hid (h3 ▸ HS2.out.fr : Fr None w0 w3); clear h3)
        | ((with_reducible refine (new_any _).mono ?_); rintro e4 w4 ⟨rfl, T⟩; have HS4 := Lib.hid T; clear T)
        | (have HC2 := Lib.hid (add_end_any w3.heap.size none 0 [] 0 5 w4 trivial (by unfold PrS; decide) (fun x hx => by cases hx) HS4.out.self (by decide)); (with_reducible refine (HC2.out).mono ?_); rintro e5 w5 ⟨rfl, q5, c5, T⟩; have HS5 := Lib.hid (HS4.out.did0 T); clear T HC2)
        | fail)
      have HF := HF3
      clear HC HS HS4 m1 m2 g hk
      go_loopg [11] 4095 (fun n i wr => ∃ (k : Nat) (x : Int) (q : Option Addr) (c : Nat), k + n = 4095 ∧ x = k + 1 ∧ i = .int .i64 x ∧ Sep None w3 wr (rns w3.heap.size q c (rowB k)))
      case atStart => exact ⟨0, 1, q5, c5, by omega, rfl, rfl, HS5.out⟩
      case round =>
        clear HS5
        obtain ⟨k, x, q6, c6, hk, hx, rfl, S1⟩ := hrel
        obtain ⟨⟨okB, lastB⟩, byB⟩ := rowB_ok k (by omega)
        by_cases g : k < 4095
        · have g1 : decide (x < 4096) = true := decide_eq_true (by omega)
          have m1 : IntKind.i64.wrap (10 * x) = 10 * x := by simp [IntKind.wrap, IntKind.bits, IntKind.signed]; omega
          have m2 : IntKind.i64.wrap (10 * x + 1) = 10 * x + 1 := by simp [IntKind.wrap, IntKind.bits, IntKind.signed]; omega
          have m3 : IntKind.i64.wrap (x + 1) = x + 1 := by simp [IntKind.wrap, IntKind.bits, IntKind.signed]; omega
          have hc := add_end_any w3.heap.size q6 c6 (rowB k) (10 * x) (10 * x + 1) wr okB (by rw [hx]; exact rowB_new (by omega)) (by rw [hx]; exact lastB) S1.self (by rw [rowB_len]; omega)
          rw [show rowB k ++ [(10 * x, 10 * x + 1)] = rowB (k + 1) by rw [rowB_next, hx]] at hc
          have HC := Lib.hid hc
          have HS := Lib.hid S1
          have HX := Lib.hid hx
          clear S1 hc okB lastB byB hx
          go_wp2_with ((with_reducible refine (HC.out).mono ?_); rintro e7 w7 ⟨rfl, q7, c7, T⟩; have HS7 := Lib.hid (HS.out.did0 T); clear T)
          go_roundg (gk - 1)
          case measure => omega
          case rel => exact ⟨k + 1, x + 1, q7, c7, by omega, by have := HX.out; omega, rfl, HS7.out⟩
        · obtain rfl : k = 4095 := by omega
          obtain rfl : x = 4096 := by omega
          have HOK := Lib.hid okB
          have HBy := Lib.hid (show bytesL (rowB 4095) = 4100 by rw [byB]; rfl)
          have HC := Lib.hid (rem_over w3.heap.size q6 c6 wr S1.self)
          have HS := Lib.hid S1
          have HLB := Lib.hid (show (rowB 4095).length ≤ 1000000 by rw [rowB_len]; decide)
          have HMB := Lib.hid (rowB_has 4095)
          clear S1 okB lastB byB
          generalize rowB 4095 = B at *
          go_wp2_with (first
            | ((with_reducible refine (HC.out).mono ?_); rintro e7 w7 ⟨rfl, q7, c7, T⟩; have HS7 := Lib.hid (HS.out.did0 T); clear T HC)
            | (have HC8 := Lib.hid (has_any w3.heap.size q7 c7 B 2 w7 HOK.out HLB.out (rns_row (R := []) HS7.out).1 (rns_row (R := []) HS7.out).2); rw [HMB.out] at HC8; (with_reducible refine (HC8.out).mono ?_); rintro e8 w8 ⟨rfl, F8⟩; have HS8 := Lib.hid (HS7.out.same F8); clear F8 HC8)
            | (have HC9 := Lib.hid (bytes_any w3.heap.size q7 c7 B w8 HOK.out HLB.out (rns_row (R := []) HS8.out).1 (rns_row (R := []) HS8.out).2); rw [HBy.out] at HC9; (with_reducible refine (HC9.out).mono ?_); rintro e9 w9 ⟨rfl, F9⟩; have HF9 := Lib.hid (HS8.out.same F9).fr; clear F9 HC9)
            | ((with_reducible refine (known7_any _).mono ?_); rintro e10 w10 ⟨rfl, F10⟩; have HF10 := Lib.hid F10; clear F10)
            | fail)
          go_ret
          exact ⟨rfl, (HF0.out.trans (HF3.out.trans (HF9.out.trans HF10.out))).none_below⟩
end Go.Proofs.Ytmdkmclngblldaa
