/- The statements' helpers: to, same; walked. -/
import Derived.Test.YtedogalndhackaaDoorScC
set_option linter.unusedVariables false
set_option linter.unusedSimpArgs false
namespace Go.Proofs.YtedogalndhackaaDoor
open Go.RowKit Go.Und Go.Shelf Go.Sort
attribute [local go_sem] Oper.semAt_some
attribute [local go_sem ↓] Go.wp_at_zero Go.wp_at_succ

theorem to_any (k n : Int) (v : Option Addr) (m c : Nat) (w : World) : Calls Tryd.prog 8 #[.agg #[.int .i64 k, .int .i64 n, .slice v m c]] w fun e w' => e = .returned (.agg #[.int .i64 k, .int .i64 n, .slice v m c]) ∧ Fr None w w' := by
  have HF := Lib.hid (((Fr.refl None w).alloc (.cells #[.int .i64 k, .int .i64 n, .slice v m c] LOpT)).alloc (.cells #[.int .i64 k, .int .i64 n, .slice v m c] OpT))
  go_enter Tryd.func8, Tryd.ntmps8
  go_wp2_with fail
  refine bodyPost_ret (v := .agg #[.int .i64 k, .int .i64 n, .slice v m c]) (by simp [results, Tryd.results8, go_sem]) rfl ⟨rfl, HF.out⟩
theorem eq_uptoD {α : Type} {l m : List α} (hl : l.length = m.length) {k : Nat} (h : l.take k = m.take k) {x y : α} (hx : l[k]? = some x) (hy : m[k]? = some y) : (l.take (k + 1) = m.take (k + 1) ↔ x = y) ∧ (x ≠ y → l ≠ m) := by
  rw [List.take_add_one, List.take_add_one, hx, hy, h]
  refine ⟨by simp, fun hne e => ?_⟩
  subst e
  rw [hx] at hy
  exact hne (Option.some.inj hy)
set_option maxHeartbeats 2000000 in
theorem bsameU_any (p q : Option Addr) (c d : Nat) (l m : List UInt8) (w : World) (hr : 0 < l.length → Reads w 1 p l.length c (fc ubc l)) (hq : 0 < m.length → Reads w 1 q m.length d (fc ubc m)) (hs : l.length ≤ 2000000) (hs2 : m.length ≤ 2000000) :
    Calls Tryd.prog 31 #[.slice p l.length c, .slice q m.length d] w fun e w' => e = .returned (.bool (decide (l = m))) ∧ Fr None w w' := by
  by_cases hlm : l.length = m.length
  · have HR := Lib.hid hr; clear hr
    have HQ := Lib.hid hq; clear hq
    have HL := Lib.hid hlm
    rw [← hlm]
    have hz : ((l.length : Int) != l.length) = false := by simp
    clear hlm hs2
    go_enter Tryd.func31, Tryd.ntmps31
    go_wp2_with fail
    go_loopg [5] l.length (fun r i wr => ∃ k n : Nat, k + r = l.length ∧ i = .int .i64 k ∧ wr = w.drewN n ∧ l.take k = m.take k)
    case atStart => exact ⟨0, 0, by omega, rfl, rfl, rfl⟩
    case round =>
      obtain ⟨k, n, hk0, rfl, rfl, he⟩ := hrel
      have HE := Lib.hid he
      clear he
      by_cases g : k < l.length
      · have ex := List.getElem?_eq_getElem g
        have ey : m[k]? = some (m[k]'(by have := HL.out; omega)) := List.getElem?_eq_getElem _
        obtain ⟨b, off, rfl, hc⟩ := (HR.out (by omega)).elem ubc_len (by decide) ex
        obtain ⟨b2, off2, rfl, hd⟩ := (HQ.out (by have := HL.out; omega)).elem ubc_len (by decide) ey
        have hst := eq_uptoD HL.out HE.out ex ey
        generalize l[k] = x at *
        generalize m[k]'_ = y at *
        have c1 : w.cell? ⟨b, off + k, none⟩ = some (.int .u8 (x.toNat : Int)) := by have := hc 0 _ rfl; rwa [Nat.mul_one] at this
        have d1 : w.cell? ⟨b2, off2 + k, none⟩ = some (.int .u8 (y.toNat : Int)) := by have := hd 0 _ rfl; rwa [Nat.mul_one] at this
        have hdl : (k : Int) < m.length := by have := HL.out; omega
        have HST := Lib.hid hst
        clear hc hd ex ey hst
        by_cases hxy : x = y
        · subst hxy
          go_wp2_with fail
          go_quiet (fail)
          go_wp2_with fail
          go_roundg (gk - 1)
          case measure => omega
          case rel => exact ⟨k + 1, _, by omega, by go_num, rfl, HST.out.1.2 (by first | rfl | trivial)⟩
        · have hxn : x.toNat ≠ y.toNat := fun e => hxy (UInt8.toNat_inj.1 e)
          have hb : ((x.toNat : Int) != (y.toNat : Int)) = true := by simpa using fun e : (x.toNat : Int) = y.toNat => hxn (by omega)
          have HN := Lib.hid (HST.out.2 hxy)
          clear hxy hxn
          go_wp2_with fail
          go_quiet (fail)
          go_wp2_with fail
          go_ret
          exact ⟨by rw [decide_eq_false HN.out]; rfl, ((Fr.refl None w).drewN _).drewN _⟩
      · have hlm : l = m := by
          have h1 := HE.out
          rwa [List.take_of_length_le (by omega), List.take_of_length_le (by have := HL.out; omega)] at h1
        have HLM := Lib.hid hlm
        clear hlm
        go_wp2_with fail
        go_ret
        exact ⟨by rw [decide_eq_true HLM.out]; rfl, (Fr.refl None w).drewN _⟩
  · have hne : l ≠ m := fun h => hlm (by rw [h])
    have hz : ((l.length : Int) != m.length) = true := by simp; omega
    have HN := Lib.hid hne
    clear hlm hr hq hne
    go_enter Tryd.func31, Tryd.ntmps31
    go_wp2_with fail
    go_ret
    exact ⟨by rw [decide_eq_false HN.out]; rfl, Fr.refl None w⟩
/-- Are operations the same? -/
def sameO (x y : OpR) : Bool := decide (x.k = y.k ∧ x.n = y.n ∧ x.b = y.b)
set_option maxHeartbeats 1000000 in
theorem same_any (x y : OpR) (w : World) (hx : OpOk w x) (hy : OpOk w y) : Calls Tryd.prog 15 #[.agg (opc x).toArray, .agg (opc y).toArray] w fun e w' => e = .returned (.bool (sameO x y)) ∧ Fr None w w' := by
  obtain ⟨k, n, b, q, c⟩ := x
  obtain ⟨k2, n2, b2, q2, c2⟩ := y
  show Calls _ _ #[.agg #[.int .i64 k, .int .i64 n, .slice q b.length c], .agg #[.int .i64 k2, .int .i64 n2, .slice q2 b2.length c2]] _ _
  have hf := (((Fr.refl None w).alloc (.cells #[.int .i64 k, .int .i64 n, .slice q b.length c] LOpT)).alloc (.cells #[.int .i64 k2, .int .i64 n2, .slice q2 b2.length c2] OpT))
  have HB := Lib.hid (bsameU_any q q2 c c2 b b2 _ (hx.fr hf).2.2 (hy.fr hf).2.2 hx.2.1 hy.2.1)
  have HF := Lib.hid hf
  clear hf hx hy
  by_cases hk : k = k2
  · subst hk
    by_cases hn : n = n2
    · subst hn
      have HE := Lib.hid (show sameO ⟨k, n, b, q, c⟩ ⟨k, n, b2, q2, c2⟩ = decide (b = b2) by simp [sameO])
      generalize hd : decide (b = b2) = z at *
      clear hd
      go_enter Tryd.func15, Tryd.ntmps15
      go_wp2_with ((with_reducible refine HB.out.mono ?_); rintro e1 w1 ⟨rfl, f1⟩; have HF1 := Lib.hid (HF.out.trans f1); clear f1)
      go_ret
      exact ⟨by rw [HE.out]; rfl, HF1.out⟩
    · have HE := Lib.hid (show sameO ⟨k, n, b, q, c⟩ ⟨k, n2, b2, q2, c2⟩ = false by simp [sameO, hn])
      have g1 : (n == n2) = false := by simpa using hn
      clear hn
      go_enter Tryd.func15, Tryd.ntmps15
      go_wp2_with fail
      go_ret
      exact ⟨by rw [HE.out]; rfl, HF.out⟩
  · have HE := Lib.hid (show sameO ⟨k, n, b, q, c⟩ ⟨k2, n2, b2, q2, c2⟩ = false by simp [sameO, hk])
    have g1 : (k == k2) = false := by simpa using hk
    clear hk
    go_enter Tryd.func15, Tryd.ntmps15
    go_wp2_with fail
    go_ret
    exact ⟨by rw [HE.out]; rfl, HF.out⟩
end Go.Proofs.YtedogalndhackaaDoor
