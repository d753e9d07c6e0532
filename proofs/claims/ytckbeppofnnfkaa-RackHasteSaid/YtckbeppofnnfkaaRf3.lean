/- The document's book (layer 14): again. -/
import Derived.Test.YtckbeppofnnfkaaRf2
import Derived.Test.YtckbeppofnnfkaaSegs
namespace Go.Proofs.Ytckbeppofnnfkaa
open Go.RowKit Go.Und
attribute [local go_sem] Oper.semAt_some
attribute [local go_sem ↓] Go.wp_at_zero Go.wp_at_succ

theorem cell_frR {w w' : World} {p b i : Nat} {v : Value} (f : Fr (· = p) w w') (hb : b ≠ p) (h : w.cell? ⟨b, i, none⟩ = some v) : w'.cell? ⟨b, i, none⟩ = some v :=
  (World.cell?_of_block (f.block _ (World.block_lt_of_cell? w _ h) hb)).trans h
theorem keep11 {w w' : World} {T G R K : Nat} {u0 u1 u2 u3 u4 u5 u6 u7 u8 u9 u10 : Value} (f : Fr (· = R) w w') (hT : T ≠ R) (hG : G ≠ R) (h : w.cell? ⟨T, 0, none⟩ = some u0 ∧ w.cell? ⟨T, 1, none⟩ = some u1 ∧ w.cell? ⟨T, 2, none⟩ = some u2 ∧ w.cell? ⟨T, 3, none⟩ = some u3 ∧ w.cell? ⟨G, K, none⟩ = some u4 ∧ w.cell? ⟨G, K + 1, none⟩ = some u5 ∧ w.cell? ⟨G, K + 2, none⟩ = some u6 ∧ w.cell? ⟨G, K + 3, none⟩ = some u7 ∧ w.cell? ⟨G, K + 4, none⟩ = some u8 ∧ w.cell? ⟨G, K + 5, none⟩ = some u9 ∧ w.cell? ⟨G, K + 6, none⟩ = some u10) : w'.cell? ⟨T, 0, none⟩ = some u0 ∧ w'.cell? ⟨T, 1, none⟩ = some u1 ∧ w'.cell? ⟨T, 2, none⟩ = some u2 ∧ w'.cell? ⟨T, 3, none⟩ = some u3 ∧ w'.cell? ⟨G, K, none⟩ = some u4 ∧ w'.cell? ⟨G, K + 1, none⟩ = some u5 ∧ w'.cell? ⟨G, K + 2, none⟩ = some u6 ∧ w'.cell? ⟨G, K + 3, none⟩ = some u7 ∧ w'.cell? ⟨G, K + 4, none⟩ = some u8 ∧ w'.cell? ⟨G, K + 5, none⟩ = some u9 ∧ w'.cell? ⟨G, K + 6, none⟩ = some u10 :=
  ⟨cell_frR f hT h.1, cell_frR f hT h.2.1, cell_frR f hT h.2.2.1, cell_frR f hT h.2.2.2.1, cell_frR f hG h.2.2.2.2.1, cell_frR f hG h.2.2.2.2.2.1, cell_frR f hG h.2.2.2.2.2.2.1, cell_frR f hG h.2.2.2.2.2.2.2.1, cell_frR f hG h.2.2.2.2.2.2.2.2.1, cell_frR f hG h.2.2.2.2.2.2.2.2.2.1, cell_frR f hG h.2.2.2.2.2.2.2.2.2.2⟩

theorem keep11a {w : World} {T G R K : Nat} {u0 u1 u2 u3 u4 u5 u6 u7 u8 u9 u10 x0 x1 x2 x3 : Value} (hT : T ≠ R) (hG : G ≠ R) (h : w.cell? ⟨T, 0, none⟩ = some u0 ∧ w.cell? ⟨T, 1, none⟩ = some u1 ∧ w.cell? ⟨T, 2, none⟩ = some u2 ∧ w.cell? ⟨T, 3, none⟩ = some u3 ∧ w.cell? ⟨G, K, none⟩ = some u4 ∧ w.cell? ⟨G, K + 1, none⟩ = some u5 ∧ w.cell? ⟨G, K + 2, none⟩ = some u6 ∧ w.cell? ⟨G, K + 3, none⟩ = some u7 ∧ w.cell? ⟨G, K + 4, none⟩ = some u8 ∧ w.cell? ⟨G, K + 5, none⟩ = some u9 ∧ w.cell? ⟨G, K + 6, none⟩ = some u10) : ((((w.setCell ⟨R, 0, none⟩ x0).setCell ⟨R, 1, none⟩ x1).setCell ⟨R, 2, none⟩ x2).setCell ⟨R, 3, none⟩ x3).cell? ⟨T, 0, none⟩ = some u0 ∧ ((((w.setCell ⟨R, 0, none⟩ x0).setCell ⟨R, 1, none⟩ x1).setCell ⟨R, 2, none⟩ x2).setCell ⟨R, 3, none⟩ x3).cell? ⟨T, 1, none⟩ = some u1 ∧ ((((w.setCell ⟨R, 0, none⟩ x0).setCell ⟨R, 1, none⟩ x1).setCell ⟨R, 2, none⟩ x2).setCell ⟨R, 3, none⟩ x3).cell? ⟨T, 2, none⟩ = some u2 ∧ ((((w.setCell ⟨R, 0, none⟩ x0).setCell ⟨R, 1, none⟩ x1).setCell ⟨R, 2, none⟩ x2).setCell ⟨R, 3, none⟩ x3).cell? ⟨T, 3, none⟩ = some u3 ∧ ((((w.setCell ⟨R, 0, none⟩ x0).setCell ⟨R, 1, none⟩ x1).setCell ⟨R, 2, none⟩ x2).setCell ⟨R, 3, none⟩ x3).cell? ⟨G, K, none⟩ = some u4 ∧ ((((w.setCell ⟨R, 0, none⟩ x0).setCell ⟨R, 1, none⟩ x1).setCell ⟨R, 2, none⟩ x2).setCell ⟨R, 3, none⟩ x3).cell? ⟨G, K + 1, none⟩ = some u5 ∧ ((((w.setCell ⟨R, 0, none⟩ x0).setCell ⟨R, 1, none⟩ x1).setCell ⟨R, 2, none⟩ x2).setCell ⟨R, 3, none⟩ x3).cell? ⟨G, K + 2, none⟩ = some u6 ∧ ((((w.setCell ⟨R, 0, none⟩ x0).setCell ⟨R, 1, none⟩ x1).setCell ⟨R, 2, none⟩ x2).setCell ⟨R, 3, none⟩ x3).cell? ⟨G, K + 3, none⟩ = some u7 ∧ ((((w.setCell ⟨R, 0, none⟩ x0).setCell ⟨R, 1, none⟩ x1).setCell ⟨R, 2, none⟩ x2).setCell ⟨R, 3, none⟩ x3).cell? ⟨G, K + 4, none⟩ = some u8 ∧ ((((w.setCell ⟨R, 0, none⟩ x0).setCell ⟨R, 1, none⟩ x1).setCell ⟨R, 2, none⟩ x2).setCell ⟨R, 3, none⟩ x3).cell? ⟨G, K + 5, none⟩ = some u9 ∧ ((((w.setCell ⟨R, 0, none⟩ x0).setCell ⟨R, 1, none⟩ x1).setCell ⟨R, 2, none⟩ x2).setCell ⟨R, 3, none⟩ x3).cell? ⟨G, K + 6, none⟩ = some u10 :=
  keep11 (((((Fr.refl (· = R) _).setCell (p := ⟨R, 0, none⟩) (fun _ => rfl) _).setCell (p := ⟨R, 1, none⟩) (fun _ => rfl) _).setCell (p := ⟨R, 2, none⟩) (fun _ => rfl) _).setCell (p := ⟨R, 3, none⟩) (fun _ => rfl) _) hT hG h
theorem keep11b {w : World} {T G R K : Nat} {u0 u1 u2 u3 u4 u5 u6 u7 u8 u9 u10 x0 x1 x2 x3 x4 x5 x6 : Value} (hT : T ≠ R) (hG : G ≠ R) (h : w.cell? ⟨T, 0, none⟩ = some u0 ∧ w.cell? ⟨T, 1, none⟩ = some u1 ∧ w.cell? ⟨T, 2, none⟩ = some u2 ∧ w.cell? ⟨T, 3, none⟩ = some u3 ∧ w.cell? ⟨G, K, none⟩ = some u4 ∧ w.cell? ⟨G, K + 1, none⟩ = some u5 ∧ w.cell? ⟨G, K + 2, none⟩ = some u6 ∧ w.cell? ⟨G, K + 3, none⟩ = some u7 ∧ w.cell? ⟨G, K + 4, none⟩ = some u8 ∧ w.cell? ⟨G, K + 5, none⟩ = some u9 ∧ w.cell? ⟨G, K + 6, none⟩ = some u10) : (((((((w.setCell ⟨R, 0, none⟩ x0).setCell ⟨R, 1, none⟩ x1).setCell ⟨R, 2, none⟩ x2).setCell ⟨R, 3, none⟩ x3).setCell ⟨R, 4, none⟩ x4).setCell ⟨R, 5, none⟩ x5).setCell ⟨R, 6, none⟩ x6).cell? ⟨T, 0, none⟩ = some u0 ∧ (((((((w.setCell ⟨R, 0, none⟩ x0).setCell ⟨R, 1, none⟩ x1).setCell ⟨R, 2, none⟩ x2).setCell ⟨R, 3, none⟩ x3).setCell ⟨R, 4, none⟩ x4).setCell ⟨R, 5, none⟩ x5).setCell ⟨R, 6, none⟩ x6).cell? ⟨T, 1, none⟩ = some u1 ∧ (((((((w.setCell ⟨R, 0, none⟩ x0).setCell ⟨R, 1, none⟩ x1).setCell ⟨R, 2, none⟩ x2).setCell ⟨R, 3, none⟩ x3).setCell ⟨R, 4, none⟩ x4).setCell ⟨R, 5, none⟩ x5).setCell ⟨R, 6, none⟩ x6).cell? ⟨T, 2, none⟩ = some u2 ∧ (((((((w.setCell ⟨R, 0, none⟩ x0).setCell ⟨R, 1, none⟩ x1).setCell ⟨R, 2, none⟩ x2).setCell ⟨R, 3, none⟩ x3).setCell ⟨R, 4, none⟩ x4).setCell ⟨R, 5, none⟩ x5).setCell ⟨R, 6, none⟩ x6).cell? ⟨T, 3, none⟩ = some u3 ∧ (((((((w.setCell ⟨R, 0, none⟩ x0).setCell ⟨R, 1, none⟩ x1).setCell ⟨R, 2, none⟩ x2).setCell ⟨R, 3, none⟩ x3).setCell ⟨R, 4, none⟩ x4).setCell ⟨R, 5, none⟩ x5).setCell ⟨R, 6, none⟩ x6).cell? ⟨G, K, none⟩ = some u4 ∧ (((((((w.setCell ⟨R, 0, none⟩ x0).setCell ⟨R, 1, none⟩ x1).setCell ⟨R, 2, none⟩ x2).setCell ⟨R, 3, none⟩ x3).setCell ⟨R, 4, none⟩ x4).setCell ⟨R, 5, none⟩ x5).setCell ⟨R, 6, none⟩ x6).cell? ⟨G, K + 1, none⟩ = some u5 ∧ (((((((w.setCell ⟨R, 0, none⟩ x0).setCell ⟨R, 1, none⟩ x1).setCell ⟨R, 2, none⟩ x2).setCell ⟨R, 3, none⟩ x3).setCell ⟨R, 4, none⟩ x4).setCell ⟨R, 5, none⟩ x5).setCell ⟨R, 6, none⟩ x6).cell? ⟨G, K + 2, none⟩ = some u6 ∧ (((((((w.setCell ⟨R, 0, none⟩ x0).setCell ⟨R, 1, none⟩ x1).setCell ⟨R, 2, none⟩ x2).setCell ⟨R, 3, none⟩ x3).setCell ⟨R, 4, none⟩ x4).setCell ⟨R, 5, none⟩ x5).setCell ⟨R, 6, none⟩ x6).cell? ⟨G, K + 3, none⟩ = some u7 ∧ (((((((w.setCell ⟨R, 0, none⟩ x0).setCell ⟨R, 1, none⟩ x1).setCell ⟨R, 2, none⟩ x2).setCell ⟨R, 3, none⟩ x3).setCell ⟨R, 4, none⟩ x4).setCell ⟨R, 5, none⟩ x5).setCell ⟨R, 6, none⟩ x6).cell? ⟨G, K + 4, none⟩ = some u8 ∧ (((((((w.setCell ⟨R, 0, none⟩ x0).setCell ⟨R, 1, none⟩ x1).setCell ⟨R, 2, none⟩ x2).setCell ⟨R, 3, none⟩ x3).setCell ⟨R, 4, none⟩ x4).setCell ⟨R, 5, none⟩ x5).setCell ⟨R, 6, none⟩ x6).cell? ⟨G, K + 5, none⟩ = some u9 ∧ (((((((w.setCell ⟨R, 0, none⟩ x0).setCell ⟨R, 1, none⟩ x1).setCell ⟨R, 2, none⟩ x2).setCell ⟨R, 3, none⟩ x3).setCell ⟨R, 4, none⟩ x4).setCell ⟨R, 5, none⟩ x5).setCell ⟨R, 6, none⟩ x6).cell? ⟨G, K + 6, none⟩ = some u10 :=
  keep11 ((((((((Fr.refl (· = R) _).setCell (p := ⟨R, 0, none⟩) (fun _ => rfl) _).setCell (p := ⟨R, 1, none⟩) (fun _ => rfl) _).setCell (p := ⟨R, 2, none⟩) (fun _ => rfl) _).setCell (p := ⟨R, 3, none⟩) (fun _ => rfl) _).setCell (p := ⟨R, 4, none⟩) (fun _ => rfl) _).setCell (p := ⟨R, 5, none⟩) (fun _ => rfl) _).setCell (p := ⟨R, 6, none⟩) (fun _ => rfl) _) hT hG h

theorem keep11ad {w : World} {T G R K : Nat} {u0 u1 u2 u3 u4 u5 u6 u7 u8 u9 u10 x0 x1 x2 x3 : Value} (hT : T ≠ R) (hG : G ≠ R) (h : w.drew.cell? ⟨T, 0, none⟩ = some u0 ∧ w.drew.cell? ⟨T, 1, none⟩ = some u1 ∧ w.drew.cell? ⟨T, 2, none⟩ = some u2 ∧ w.drew.cell? ⟨T, 3, none⟩ = some u3 ∧ w.drew.cell? ⟨G, K, none⟩ = some u4 ∧ w.drew.cell? ⟨G, K + 1, none⟩ = some u5 ∧ w.drew.cell? ⟨G, K + 2, none⟩ = some u6 ∧ w.drew.cell? ⟨G, K + 3, none⟩ = some u7 ∧ w.drew.cell? ⟨G, K + 4, none⟩ = some u8 ∧ w.drew.cell? ⟨G, K + 5, none⟩ = some u9 ∧ w.drew.cell? ⟨G, K + 6, none⟩ = some u10) : ((((w.setCell ⟨R, 0, none⟩ x0).setCell ⟨R, 1, none⟩ x1).setCell ⟨R, 2, none⟩ x2).setCell ⟨R, 3, none⟩ x3).drew.cell? ⟨T, 0, none⟩ = some u0 ∧ ((((w.setCell ⟨R, 0, none⟩ x0).setCell ⟨R, 1, none⟩ x1).setCell ⟨R, 2, none⟩ x2).setCell ⟨R, 3, none⟩ x3).drew.cell? ⟨T, 1, none⟩ = some u1 ∧ ((((w.setCell ⟨R, 0, none⟩ x0).setCell ⟨R, 1, none⟩ x1).setCell ⟨R, 2, none⟩ x2).setCell ⟨R, 3, none⟩ x3).drew.cell? ⟨T, 2, none⟩ = some u2 ∧ ((((w.setCell ⟨R, 0, none⟩ x0).setCell ⟨R, 1, none⟩ x1).setCell ⟨R, 2, none⟩ x2).setCell ⟨R, 3, none⟩ x3).drew.cell? ⟨T, 3, none⟩ = some u3 ∧ ((((w.setCell ⟨R, 0, none⟩ x0).setCell ⟨R, 1, none⟩ x1).setCell ⟨R, 2, none⟩ x2).setCell ⟨R, 3, none⟩ x3).drew.cell? ⟨G, K, none⟩ = some u4 ∧ ((((w.setCell ⟨R, 0, none⟩ x0).setCell ⟨R, 1, none⟩ x1).setCell ⟨R, 2, none⟩ x2).setCell ⟨R, 3, none⟩ x3).drew.cell? ⟨G, K + 1, none⟩ = some u5 ∧ ((((w.setCell ⟨R, 0, none⟩ x0).setCell ⟨R, 1, none⟩ x1).setCell ⟨R, 2, none⟩ x2).setCell ⟨R, 3, none⟩ x3).drew.cell? ⟨G, K + 2, none⟩ = some u6 ∧ ((((w.setCell ⟨R, 0, none⟩ x0).setCell ⟨R, 1, none⟩ x1).setCell ⟨R, 2, none⟩ x2).setCell ⟨R, 3, none⟩ x3).drew.cell? ⟨G, K + 3, none⟩ = some u7 ∧ ((((w.setCell ⟨R, 0, none⟩ x0).setCell ⟨R, 1, none⟩ x1).setCell ⟨R, 2, none⟩ x2).setCell ⟨R, 3, none⟩ x3).drew.cell? ⟨G, K + 4, none⟩ = some u8 ∧ ((((w.setCell ⟨R, 0, none⟩ x0).setCell ⟨R, 1, none⟩ x1).setCell ⟨R, 2, none⟩ x2).setCell ⟨R, 3, none⟩ x3).drew.cell? ⟨G, K + 5, none⟩ = some u9 ∧ ((((w.setCell ⟨R, 0, none⟩ x0).setCell ⟨R, 1, none⟩ x1).setCell ⟨R, 2, none⟩ x2).setCell ⟨R, 3, none⟩ x3).drew.cell? ⟨G, K + 6, none⟩ = some u10 :=
  by
  have e : ∀ (W : World) a, W.drew.cell? a = W.cell? a := fun _ _ => rfl
  simp only [e] at h ⊢
  exact keep11a hT hG h
theorem keep11bd {w : World} {T G R K : Nat} {u0 u1 u2 u3 u4 u5 u6 u7 u8 u9 u10 x0 x1 x2 x3 x4 x5 x6 : Value} (hT : T ≠ R) (hG : G ≠ R) (h : w.drew.cell? ⟨T, 0, none⟩ = some u0 ∧ w.drew.cell? ⟨T, 1, none⟩ = some u1 ∧ w.drew.cell? ⟨T, 2, none⟩ = some u2 ∧ w.drew.cell? ⟨T, 3, none⟩ = some u3 ∧ w.drew.cell? ⟨G, K, none⟩ = some u4 ∧ w.drew.cell? ⟨G, K + 1, none⟩ = some u5 ∧ w.drew.cell? ⟨G, K + 2, none⟩ = some u6 ∧ w.drew.cell? ⟨G, K + 3, none⟩ = some u7 ∧ w.drew.cell? ⟨G, K + 4, none⟩ = some u8 ∧ w.drew.cell? ⟨G, K + 5, none⟩ = some u9 ∧ w.drew.cell? ⟨G, K + 6, none⟩ = some u10) : (((((((w.setCell ⟨R, 0, none⟩ x0).setCell ⟨R, 1, none⟩ x1).setCell ⟨R, 2, none⟩ x2).setCell ⟨R, 3, none⟩ x3).setCell ⟨R, 4, none⟩ x4).setCell ⟨R, 5, none⟩ x5).setCell ⟨R, 6, none⟩ x6).drew.cell? ⟨T, 0, none⟩ = some u0 ∧ (((((((w.setCell ⟨R, 0, none⟩ x0).setCell ⟨R, 1, none⟩ x1).setCell ⟨R, 2, none⟩ x2).setCell ⟨R, 3, none⟩ x3).setCell ⟨R, 4, none⟩ x4).setCell ⟨R, 5, none⟩ x5).setCell ⟨R, 6, none⟩ x6).drew.cell? ⟨T, 1, none⟩ = some u1 ∧ (((((((w.setCell ⟨R, 0, none⟩ x0).setCell ⟨R, 1, none⟩ x1).setCell ⟨R, 2, none⟩ x2).setCell ⟨R, 3, none⟩ x3).setCell ⟨R, 4, none⟩ x4).setCell ⟨R, 5, none⟩ x5).setCell ⟨R, 6, none⟩ x6).drew.cell? ⟨T, 2, none⟩ = some u2 ∧ (((((((w.setCell ⟨R, 0, none⟩ x0).setCell ⟨R, 1, none⟩ x1).setCell ⟨R, 2, none⟩ x2).setCell ⟨R, 3, none⟩ x3).setCell ⟨R, 4, none⟩ x4).setCell ⟨R, 5, none⟩ x5).setCell ⟨R, 6, none⟩ x6).drew.cell? ⟨T, 3, none⟩ = some u3 ∧ (((((((w.setCell ⟨R, 0, none⟩ x0).setCell ⟨R, 1, none⟩ x1).setCell ⟨R, 2, none⟩ x2).setCell ⟨R, 3, none⟩ x3).setCell ⟨R, 4, none⟩ x4).setCell ⟨R, 5, none⟩ x5).setCell ⟨R, 6, none⟩ x6).drew.cell? ⟨G, K, none⟩ = some u4 ∧ (((((((w.setCell ⟨R, 0, none⟩ x0).setCell ⟨R, 1, none⟩ x1).setCell ⟨R, 2, none⟩ x2).setCell ⟨R, 3, none⟩ x3).setCell ⟨R, 4, none⟩ x4).setCell ⟨R, 5, none⟩ x5).setCell ⟨R, 6, none⟩ x6).drew.cell? ⟨G, K + 1, none⟩ = some u5 ∧ (((((((w.setCell ⟨R, 0, none⟩ x0).setCell ⟨R, 1, none⟩ x1).setCell ⟨R, 2, none⟩ x2).setCell ⟨R, 3, none⟩ x3).setCell ⟨R, 4, none⟩ x4).setCell ⟨R, 5, none⟩ x5).setCell ⟨R, 6, none⟩ x6).drew.cell? ⟨G, K + 2, none⟩ = some u6 ∧ (((((((w.setCell ⟨R, 0, none⟩ x0).setCell ⟨R, 1, none⟩ x1).setCell ⟨R, 2, none⟩ x2).setCell ⟨R, 3, none⟩ x3).setCell ⟨R, 4, none⟩ x4).setCell ⟨R, 5, none⟩ x5).setCell ⟨R, 6, none⟩ x6).drew.cell? ⟨G, K + 3, none⟩ = some u7 ∧ (((((((w.setCell ⟨R, 0, none⟩ x0).setCell ⟨R, 1, none⟩ x1).setCell ⟨R, 2, none⟩ x2).setCell ⟨R, 3, none⟩ x3).setCell ⟨R, 4, none⟩ x4).setCell ⟨R, 5, none⟩ x5).setCell ⟨R, 6, none⟩ x6).drew.cell? ⟨G, K + 4, none⟩ = some u8 ∧ (((((((w.setCell ⟨R, 0, none⟩ x0).setCell ⟨R, 1, none⟩ x1).setCell ⟨R, 2, none⟩ x2).setCell ⟨R, 3, none⟩ x3).setCell ⟨R, 4, none⟩ x4).setCell ⟨R, 5, none⟩ x5).setCell ⟨R, 6, none⟩ x6).drew.cell? ⟨G, K + 5, none⟩ = some u9 ∧ (((((((w.setCell ⟨R, 0, none⟩ x0).setCell ⟨R, 1, none⟩ x1).setCell ⟨R, 2, none⟩ x2).setCell ⟨R, 3, none⟩ x3).setCell ⟨R, 4, none⟩ x4).setCell ⟨R, 5, none⟩ x5).setCell ⟨R, 6, none⟩ x6).drew.cell? ⟨G, K + 6, none⟩ = some u10 :=
  by
  have e : ∀ (W : World) a, W.drew.cell? a = W.cell? a := fun _ _ => rfl
  simp only [e] at h ⊢
  exact keep11b hT hG h

set_option maxRecDepth 100000 in
set_option maxHeartbeats 4000000 in
theorem rfAgain_yes (p : Option Addr) (cap : Nat) (l : List Rc) (nxt last order now : Int) (k : Nat) (r : Rc) (w : World) (hr : Reads w 7 p l.length cap (fc rcl l)) (hs : l.length ≤ 100000) (hk : l[k]? = some r) (hn : ∀ j x, j < k → l[j]? = some x → x.fr ≠ r.fr) (h3 : last ≤ now) (h4 : now ≤ 4611686018427387904)
    (ho : 0 ≤ order ∧ order ≤ 1000000000) (ht : 0 ≤ r.times ∧ r.times ≤ 1000000000) (hu : 0 ≤ r.out ∧ r.out ≤ 1000000000) :
    Calls Try.prog 65 #[.agg (bk2c p l.length cap nxt last order), .int .i64 r.fr, .int .i64 now] w fun e w' => ∃ q c x, e = .returned (.tuple #[.agg (bk2c q l.length c nxt now (order + 1)), x, .int .i64 0]) ∧
      Owns rcl 7 Rc2T w' (.slice q l.length c) (l.set k (r.goes now (order + 1))) ∧ (∀ ad, q = some ad → w.heap.size ≤ ad.block) ∧ Fr None w w' := by
  obtain ⟨rfr, rto, rsent, rorder, rtimes, rout, rlost⟩ := r
  simp only at ht hu hn
  have hkl : k < l.length := (List.getElem?_eq_some_iff.1 hk).1
  have S := Lib.hid ((((Sep.law w).alloc (bk2c p l.length cap nxt last order) Bk2T).alloc (bk2c none 0 0 0 0 0) Bk2T).alloc #[.int .i64 0, .int .i64 0, .int .i64 0, .int .i64 0, .int .i64 0, .int .i64 0, .bool false] Rc2T)
  have hr0 := Lib.hid hr
  have HF := Lib.hid (fun (W : World) (f : Fr None w W) => rfFind_yes p cap l nxt last order rfr k _ W (hr.fr f (fun _ _ h => h)) (by omega) hk rfl hn)
  have HK := Lib.hid hk
  clear hr hk hn
  have h3' : ¬ now < last := by omega
  have h4' : ¬ 4611686018427387904 < now := by omega
  obtain ⟨i, hi, hz0, hz1, hz2⟩ := info_parts rc2Info
  have HI := Lib.hid (And.intro hi (And.intro hz0 (And.intro hz1 hz2))); clear hi hz0 hz1 hz2
  go_enter Try.func65, Try.ntmps65
  go_wp2_with fail
  refine (HF.out _ S.out.fr).mono ?_
  rintro e w1 ⟨rfl, f1⟩
  have S1 := S.out.same f1
  simp only [World.size_alloc] at S1
  have a0 : w1.cell? ⟨w.heap.size, 0, none⟩ = some (.slice p l.length cap) := (S1.at_ 2 rfl).cell 0
  have a1 : w1.cell? ⟨w.heap.size, 1, none⟩ = some (.int .i64 nxt) := (S1.at_ 2 rfl).cell 1
  have a2 : w1.cell? ⟨w.heap.size, 2, none⟩ = some (.int .i64 last) := (S1.at_ 2 rfl).cell 2
  have a3 : w1.cell? ⟨w.heap.size, 3, none⟩ = some (.int .i64 order) := (S1.at_ 2 rfl).cell 3
  have l3 : w.heap.size < w1.heap.size := (S1.at_ 2 rfl).lt
  have S2 := Lib.hid S1
  have k0 : (0 : Int) ≤ k := by omega
  clear S1 f1
  go_wp2_with (at_builtin; refine Hold.out ?_)
  refine Sep.gen _ S2.out ?_
  intro V SV
  have HRV := Lib.hid (hr0.out.fr SV.fr (fun _ _ h => h))
  have HV := Lib.hid SV
  clear SV
  have HG0 := Lib.hid (GrowsR.start rcl 7 Rc2T V)
  have HRV1 := Lib.hid (HRV.out.fr (D := None) ((Fr.refl None V).alloc (.cells #[] Rc2T)) (fun _ _ h => h))
  refine Hold.mk ?_
  refine wpList_append_row _ rfl _ _ _ rfl 0 Rc2T i _ 7 56 Try.underlying50 HI.out.1 HI.out.2.1 HI.out.2.2.1 HI.out.2.2.2 rfl (by omega) _ 0 (fc rcl []) rfl HG0.out.own p l.length cap _ rfl HRV1.out (fc_one rcl_one _) (by simp [maxLen]; omega) (by omega) (Nat.zero_le _) ?_
  intro q1 c1 w2 ho1 hf1 hb1
  have G1 := HG0.out.step (r := l) rfl ho1 hf1 hb1
  simp only [Nat.zero_add, List.nil_append] at G1
  have lq : 0 + l.length = l.length := Nat.zero_add _
  rw [lq]
  obtain ⟨g, rfl, hgl, hgc, hgz⟩ := G1.own.elem rcl_len (by decide) HK.out
  have hgf : V.heap.size ≤ g := G1.far g rfl
  have HG1 := Lib.hid G1; clear G1 ho1 hf1 hb1 HG0 lq
  have S3 := HV.out.same HG1.out.fr
  have a0 : w2.cell? ⟨w.heap.size, 0, none⟩ = some (.slice p l.length cap) := (S3.at_ 2 rfl).cell 0
  have a1 : w2.cell? ⟨w.heap.size, 1, none⟩ = some (.int .i64 nxt) := (S3.at_ 2 rfl).cell 1
  have a2 : w2.cell? ⟨w.heap.size, 2, none⟩ = some (.int .i64 last) := (S3.at_ 2 rfl).cell 2
  have a3 : w2.cell? ⟨w.heap.size, 3, none⟩ = some (.int .i64 order) := (S3.at_ 2 rfl).cell 3
  have y0 := (S3.at_ 2 rfl).frozen
  have x0 := (S3.at_ 1 rfl).frozen
  have e0 := (S3.at_ 0 rfl).frozen
  have d0 : w2.cell? ⟨w.heap.size + 1, 0, none⟩ = some (.slice none 0 0) := (S3.at_ 1 rfl).cell 0
  have d1 : w2.cell? ⟨w.heap.size + 1, 1, none⟩ = some (.int .i64 0) := (S3.at_ 1 rfl).cell 1
  have d2 : w2.cell? ⟨w.heap.size + 1, 2, none⟩ = some (.int .i64 0) := (S3.at_ 1 rfl).cell 2
  have d3 : w2.cell? ⟨w.heap.size + 1, 3, none⟩ = some (.int .i64 0) := (S3.at_ 1 rfl).cell 3
  have l3 : w.heap.size < w2.heap.size := (S3.at_ 2 rfl).lt
  have l4 : w.heap.size + 1 < w2.heap.size := (S3.at_ 1 rfl).lt
  have l5 : w.heap.size + 1 + 1 < V.heap.size := (HV.out.at_ 0 rfl).lt
  have n1 : g ≠ w.heap.size := by omega
  have n2 : g ≠ w.heap.size + 1 := by omega
  have n3 : g ≠ w.heap.size + 1 + 1 := by omega
  have n1' : w.heap.size ≠ g := by omega
  have n2' : w.heap.size + 1 ≠ g := by omega
  have n3' : w.heap.size + 1 + 1 ≠ g := by omega
  have g0 : w2.cell? ⟨g, k * 7, none⟩ = some (.int .i64 rfr) := hgc 0 _ rfl
  have g1 : w2.cell? ⟨g, k * 7 + 1, none⟩ = some (.int .i64 rto) := hgc 1 _ rfl
  have g2 : w2.cell? ⟨g, k * 7 + 2, none⟩ = some (.int .i64 rsent) := hgc 2 _ rfl
  have g3 : w2.cell? ⟨g, k * 7 + 3, none⟩ = some (.int .i64 rorder) := hgc 3 _ rfl
  have g4 : w2.cell? ⟨g, k * 7 + 4, none⟩ = some (.int .i64 rtimes) := hgc 4 _ rfl
  have g5 : w2.cell? ⟨g, k * 7 + 5, none⟩ = some (.int .i64 rout) := hgc 5 _ rfl
  have g6 : w2.cell? ⟨g, k * 7 + 6, none⟩ = some (.bool rlost) := hgc 6 _ rfl
  have HS3 := Lib.hid S3
  clear S3 hgc
  go_wp2_with fail
  have O0 : Owns rcl 7 Rc2T w2 (.slice (some ⟨g, 0, none⟩) l.length c1) l := HG1.out.own
  have nd : ∀ b, (Value.slice (some ⟨g, 0, none⟩) l.length c1).ownBlock = some b → ¬ b = w.heap.size := fun b hb => by cases hb; exact n1
  have O2 := (O0.fr ((Fr.refl (· = w.heap.size) _).setCell (p := ⟨w.heap.size, 3, none⟩) (fun _ => rfl) (.int .i64 (order + 1))) nd |>.fr ((Fr.refl (· = w.heap.size) _).setCell (p := ⟨w.heap.size, 2, none⟩) (fun _ => rfl) (.int .i64 now)) nd)
  have O3 := O2.set rcl_len HK.out (x' := ⟨rfr, rto, now, rorder, rtimes, rout, rlost⟩) (j := 2) (u := .int .i64 now) (by decide) rfl
  have O4 := O3.set rcl_len (k := k) (x := ⟨rfr, rto, now, rorder, rtimes, rout, rlost⟩) (x' := ⟨rfr, rto, now, order + 1, rtimes, rout, rlost⟩) (j := 3) (u := .int .i64 (order + 1)) (by simp [hkl]) (by decide) rfl
  have O5 := O4.set rcl_len (k := k) (x := ⟨rfr, rto, now, order + 1, rtimes, rout, rlost⟩) (x' := ⟨rfr, rto, now, order + 1, rtimes + 1, rout, rlost⟩) (j := 4) (u := .int .i64 (rtimes + 1)) (by simp [hkl]) (by decide) rfl
  have O6 := O5.set rcl_len (k := k) (x := ⟨rfr, rto, now, order + 1, rtimes + 1, rout, rlost⟩) (x' := ⟨rfr, rto, now, order + 1, rtimes + 1, rout + 1, rlost⟩) (j := 5) (u := .int .i64 (rout + 1)) (by simp [hkl]) (by decide) rfl
  have O7 := O6.set rcl_len (k := k) (x := ⟨rfr, rto, now, order + 1, rtimes + 1, rout + 1, rlost⟩) (x' := ⟨rfr, rto, now, order + 1, rtimes + 1, rout + 1, false⟩) (j := 6) (u := .bool false) (by simp [hkl]) (by decide) rfl
  simp only [List.set_set] at O7
  have O8 := O7.fr ((Fr.refl (· = w.heap.size) _).setCell (p := ⟨w.heap.size, 0, none⟩) (fun _ => rfl) (.slice (some ⟨g, 0, none⟩) l.length c1)) nd
  have B3 : Blk ((((((((w2.setCell ⟨w.heap.size, 3, none⟩ (.int .i64 (order + 1))).setCell ⟨w.heap.size, 2, none⟩ (.int .i64 now)).setCell ⟨g, k * 7 + 2, none⟩ (.int .i64 now)).setCell ⟨g, k * 7 + 3, none⟩ (.int .i64 (order + 1))).setCell ⟨g, k * 7 + 4, none⟩ (.int .i64 (rtimes + 1))).setCell ⟨g, k * 7 + 5, none⟩ (.int .i64 (rout + 1))).setCell ⟨g, k * 7 + 6, none⟩ (.bool false)).setCell ⟨w.heap.size, 0, none⟩ (.slice (some ⟨g, 0, none⟩) l.length c1)) w.heap.size Bk2T #[.slice (some ⟨g, 0, none⟩) l.length c1, .int .i64 nxt, .int .i64 now, .int .i64 (order + 1)] :=
    ((((((((HS3.out.at_ 2 rfl).set 3 _).set 2 _).far (p := ⟨g, k * 7 + 2, none⟩) n1' _).far (p := ⟨g, k * 7 + 3, none⟩) n1' _).far (p := ⟨g, k * 7 + 4, none⟩) n1' _).far (p := ⟨g, k * 7 + 5, none⟩) n1' _).far (p := ⟨g, k * 7 + 6, none⟩) n1' _).set 0 _
  have B6 : Blk ((((((((w2.setCell ⟨w.heap.size, 3, none⟩ (.int .i64 (order + 1))).setCell ⟨w.heap.size, 2, none⟩ (.int .i64 now)).setCell ⟨g, k * 7 + 2, none⟩ (.int .i64 now)).setCell ⟨g, k * 7 + 3, none⟩ (.int .i64 (order + 1))).setCell ⟨g, k * 7 + 4, none⟩ (.int .i64 (rtimes + 1))).setCell ⟨g, k * 7 + 5, none⟩ (.int .i64 (rout + 1))).setCell ⟨g, k * 7 + 6, none⟩ (.bool false)).setCell ⟨w.heap.size, 0, none⟩ (.slice (some ⟨g, 0, none⟩) l.length c1)) (w.heap.size + 1) Bk2T (bk2c none 0 0 0 0 0) :=
    ((((((((HS3.out.at_ 1 rfl).far (p := ⟨w.heap.size, 3, none⟩) (by simp) _).far (p := ⟨w.heap.size, 2, none⟩) (by simp) _).far (p := ⟨g, k * 7 + 2, none⟩) n2' _).far (p := ⟨g, k * 7 + 3, none⟩) n2' _).far (p := ⟨g, k * 7 + 4, none⟩) n2' _).far (p := ⟨g, k * 7 + 5, none⟩) n2' _).far (p := ⟨g, k * 7 + 6, none⟩) n2' _).far (p := ⟨w.heap.size, 0, none⟩) (by simp) _
  have B7 : Blk ((((((((w2.setCell ⟨w.heap.size, 3, none⟩ (.int .i64 (order + 1))).setCell ⟨w.heap.size, 2, none⟩ (.int .i64 now)).setCell ⟨g, k * 7 + 2, none⟩ (.int .i64 now)).setCell ⟨g, k * 7 + 3, none⟩ (.int .i64 (order + 1))).setCell ⟨g, k * 7 + 4, none⟩ (.int .i64 (rtimes + 1))).setCell ⟨g, k * 7 + 5, none⟩ (.int .i64 (rout + 1))).setCell ⟨g, k * 7 + 6, none⟩ (.bool false)).setCell ⟨w.heap.size, 0, none⟩ (.slice (some ⟨g, 0, none⟩) l.length c1)) (w.heap.size + 1 + 1) Rc2T #[.int .i64 0, .int .i64 0, .int .i64 0, .int .i64 0, .int .i64 0, .int .i64 0, .bool false] :=
    ((((((((HS3.out.at_ 0 rfl).far (p := ⟨w.heap.size, 3, none⟩) (by simp; omega) _).far (p := ⟨w.heap.size, 2, none⟩) (by simp; omega) _).far (p := ⟨g, k * 7 + 2, none⟩) n3' _).far (p := ⟨g, k * 7 + 3, none⟩) n3' _).far (p := ⟨g, k * 7 + 4, none⟩) n3' _).far (p := ⟨g, k * 7 + 5, none⟩) n3' _).far (p := ⟨g, k * 7 + 6, none⟩) n3' _).far (p := ⟨w.heap.size, 0, none⟩) (by simp; omega) _
  have FN : Fr None w ((((((((w2.setCell ⟨w.heap.size, 3, none⟩ (.int .i64 (order + 1))).setCell ⟨w.heap.size, 2, none⟩ (.int .i64 now)).setCell ⟨g, k * 7 + 2, none⟩ (.int .i64 now)).setCell ⟨g, k * 7 + 3, none⟩ (.int .i64 (order + 1))).setCell ⟨g, k * 7 + 4, none⟩ (.int .i64 (rtimes + 1))).setCell ⟨g, k * 7 + 5, none⟩ (.int .i64 (rout + 1))).setCell ⟨g, k * 7 + 6, none⟩ (.bool false)).setCell ⟨w.heap.size, 0, none⟩ (.slice (some ⟨g, 0, none⟩) l.length c1)) :=
    (((((((HS3.out.fr.setCell (p := ⟨w.heap.size, 3, none⟩) (fun h => absurd h (by simp)) _).setCell (p := ⟨w.heap.size, 2, none⟩) (fun h => absurd h (by simp)) _).setCell (p := ⟨g, k * 7 + 2, none⟩) (fun h => absurd h (by simp; omega)) _).setCell (p := ⟨g, k * 7 + 3, none⟩) (fun h => absurd h (by simp; omega)) _).setCell (p := ⟨g, k * 7 + 4, none⟩) (fun h => absurd h (by simp; omega)) _).setCell (p := ⟨g, k * 7 + 5, none⟩) (fun h => absurd h (by simp; omega)) _).setCell (p := ⟨g, k * 7 + 6, none⟩) (fun h => absurd h (by simp; omega)) _).setCell (p := ⟨w.heap.size, 0, none⟩) (fun h => absurd h (by simp)) _
  obtain ⟨U, hU, OU, BU3, BU6, BU7, FU⟩ : ∃ U, U = ((((((((w2.setCell ⟨w.heap.size, 3, none⟩ (.int .i64 (order + 1))).setCell ⟨w.heap.size, 2, none⟩ (.int .i64 now)).setCell ⟨g, k * 7 + 2, none⟩ (.int .i64 now)).setCell ⟨g, k * 7 + 3, none⟩ (.int .i64 (order + 1))).setCell ⟨g, k * 7 + 4, none⟩ (.int .i64 (rtimes + 1))).setCell ⟨g, k * 7 + 5, none⟩ (.int .i64 (rout + 1))).setCell ⟨g, k * 7 + 6, none⟩ (.bool false)).setCell ⟨w.heap.size, 0, none⟩ (.slice (some ⟨g, 0, none⟩) l.length c1)) ∧ Owns rcl 7 Rc2T U (.slice (some ⟨g, 0, none⟩) l.length c1) (l.set k ⟨rfr, rto, now, order + 1, rtimes + 1, rout + 1, false⟩) ∧ Blk U w.heap.size Bk2T #[.slice (some ⟨g, 0, none⟩) l.length c1, .int .i64 nxt, .int .i64 now, .int .i64 (order + 1)] ∧ Blk U (w.heap.size + 1) Bk2T (bk2c none 0 0 0 0 0) ∧ Blk U (w.heap.size + 1 + 1) Rc2T #[.int .i64 0, .int .i64 0, .int .i64 0, .int .i64 0, .int .i64 0, .int .i64 0, .bool false] ∧ Fr None w U := ⟨_, rfl, O8, B3, B6, B7, FN⟩
  rw [← hU]
  clear hU O0 O2 O3 O4 O5 O6 O7 O8 B3 B6 B7 FN a0 a1 a2 a3 d0 d1 d2 d3 g0 g1 g2 g3 g4 g5 g6 y0 x0 e0 l3 l4 hgz
  obtain ⟨g', eg, -, gc, -⟩ := OU.drew.elem rcl_len (by decide) (k := k) (x := ⟨rfr, rto, now, order + 1, rtimes + 1, rout + 1, false⟩) (by simp [hkl])
  obtain rfl : g = g' := by simpa using eg
  have qi : U.drew.cell? ⟨w.heap.size, 0, none⟩ = some (.slice (some ⟨g, 0, none⟩) l.length c1) ∧ U.drew.cell? ⟨w.heap.size, 1, none⟩ = some (.int .i64 nxt) ∧ U.drew.cell? ⟨w.heap.size, 2, none⟩ = some (.int .i64 now) ∧ U.drew.cell? ⟨w.heap.size, 3, none⟩ = some (.int .i64 (order + 1)) ∧ U.drew.cell? ⟨g, k * 7, none⟩ = some (.int .i64 rfr) ∧ U.drew.cell? ⟨g, k * 7 + 1, none⟩ = some (.int .i64 rto) ∧ U.drew.cell? ⟨g, k * 7 + 2, none⟩ = some (.int .i64 now) ∧ U.drew.cell? ⟨g, k * 7 + 3, none⟩ = some (.int .i64 (order + 1)) ∧ U.drew.cell? ⟨g, k * 7 + 4, none⟩ = some (.int .i64 (rtimes + 1)) ∧ U.drew.cell? ⟨g, k * 7 + 5, none⟩ = some (.int .i64 (rout + 1)) ∧ U.drew.cell? ⟨g, k * 7 + 6, none⟩ = some (.bool false) := ⟨BU3.drew.cell 0, BU3.drew.cell 1, BU3.drew.cell 2, BU3.drew.cell 3, gc 0 _ rfl, gc 1 _ rfl, gc 2 _ rfl, gc 3 _ rfl, gc 4 _ rfl, gc 5 _ rfl, gc 6 _ rfl⟩
  have z60 : U.drew.frozen? ⟨w.heap.size + 1, 0, none⟩ = false := BU6.drew.frozen 0
  have z60u : U.frozen? ⟨w.heap.size + 1, 0, none⟩ = false := BU6.frozen 0
  have z61 : U.drew.frozen? ⟨w.heap.size + 1, 1, none⟩ = false := BU6.drew.frozen 1
  have z61u : U.frozen? ⟨w.heap.size + 1, 1, none⟩ = false := BU6.frozen 1
  have z62 : U.drew.frozen? ⟨w.heap.size + 1, 2, none⟩ = false := BU6.drew.frozen 2
  have z62u : U.frozen? ⟨w.heap.size + 1, 2, none⟩ = false := BU6.frozen 2
  have z63 : U.drew.frozen? ⟨w.heap.size + 1, 3, none⟩ = false := BU6.drew.frozen 3
  have z63u : U.frozen? ⟨w.heap.size + 1, 3, none⟩ = false := BU6.frozen 3
  have z70 : U.drew.frozen? ⟨w.heap.size + 1 + 1, 0, none⟩ = false := BU7.drew.frozen 0
  have z70u : U.frozen? ⟨w.heap.size + 1 + 1, 0, none⟩ = false := BU7.frozen 0
  have z71 : U.drew.frozen? ⟨w.heap.size + 1 + 1, 1, none⟩ = false := BU7.drew.frozen 1
  have z71u : U.frozen? ⟨w.heap.size + 1 + 1, 1, none⟩ = false := BU7.frozen 1
  have z72 : U.drew.frozen? ⟨w.heap.size + 1 + 1, 2, none⟩ = false := BU7.drew.frozen 2
  have z72u : U.frozen? ⟨w.heap.size + 1 + 1, 2, none⟩ = false := BU7.frozen 2
  have z73 : U.drew.frozen? ⟨w.heap.size + 1 + 1, 3, none⟩ = false := BU7.drew.frozen 3
  have z73u : U.frozen? ⟨w.heap.size + 1 + 1, 3, none⟩ = false := BU7.frozen 3
  have z74 : U.drew.frozen? ⟨w.heap.size + 1 + 1, 4, none⟩ = false := BU7.drew.frozen 4
  have z74u : U.frozen? ⟨w.heap.size + 1 + 1, 4, none⟩ = false := BU7.frozen 4
  have z75 : U.drew.frozen? ⟨w.heap.size + 1 + 1, 5, none⟩ = false := BU7.drew.frozen 5
  have z75u : U.frozen? ⟨w.heap.size + 1 + 1, 5, none⟩ = false := BU7.frozen 5
  have z76 : U.drew.frozen? ⟨w.heap.size + 1 + 1, 6, none⟩ = false := BU7.drew.frozen 6
  have z76u : U.frozen? ⟨w.heap.size + 1 + 1, 6, none⟩ = false := BU7.frozen 6
  have c60 : U.drew.cell? ⟨w.heap.size + 1, 0, none⟩ = some (.slice none 0 0) := BU6.drew.cell 0
  have c60u : U.cell? ⟨w.heap.size + 1, 0, none⟩ = some (.slice none 0 0) := BU6.cell 0
  have c61 : U.drew.cell? ⟨w.heap.size + 1, 1, none⟩ = some (.int .i64 0) := BU6.drew.cell 1
  have c61u : U.cell? ⟨w.heap.size + 1, 1, none⟩ = some (.int .i64 0) := BU6.cell 1
  have c62 : U.drew.cell? ⟨w.heap.size + 1, 2, none⟩ = some (.int .i64 0) := BU6.drew.cell 2
  have c62u : U.cell? ⟨w.heap.size + 1, 2, none⟩ = some (.int .i64 0) := BU6.cell 2
  have c63 : U.drew.cell? ⟨w.heap.size + 1, 3, none⟩ = some (.int .i64 0) := BU6.drew.cell 3
  have c63u : U.cell? ⟨w.heap.size + 1, 3, none⟩ = some (.int .i64 0) := BU6.cell 3
  have c70 : U.drew.cell? ⟨w.heap.size + 1 + 1, 0, none⟩ = some (.int .i64 0) := BU7.drew.cell 0
  have c70u : U.cell? ⟨w.heap.size + 1 + 1, 0, none⟩ = some (.int .i64 0) := BU7.cell 0
  have c71 : U.drew.cell? ⟨w.heap.size + 1 + 1, 1, none⟩ = some (.int .i64 0) := BU7.drew.cell 1
  have c71u : U.cell? ⟨w.heap.size + 1 + 1, 1, none⟩ = some (.int .i64 0) := BU7.cell 1
  have c72 : U.drew.cell? ⟨w.heap.size + 1 + 1, 2, none⟩ = some (.int .i64 0) := BU7.drew.cell 2
  have c72u : U.cell? ⟨w.heap.size + 1 + 1, 2, none⟩ = some (.int .i64 0) := BU7.cell 2
  have c73 : U.drew.cell? ⟨w.heap.size + 1 + 1, 3, none⟩ = some (.int .i64 0) := BU7.drew.cell 3
  have c73u : U.cell? ⟨w.heap.size + 1 + 1, 3, none⟩ = some (.int .i64 0) := BU7.cell 3
  have c74 : U.drew.cell? ⟨w.heap.size + 1 + 1, 4, none⟩ = some (.int .i64 0) := BU7.drew.cell 4
  have c74u : U.cell? ⟨w.heap.size + 1 + 1, 4, none⟩ = some (.int .i64 0) := BU7.cell 4
  have c75 : U.drew.cell? ⟨w.heap.size + 1 + 1, 5, none⟩ = some (.int .i64 0) := BU7.drew.cell 5
  have c75u : U.cell? ⟨w.heap.size + 1 + 1, 5, none⟩ = some (.int .i64 0) := BU7.cell 5
  have c76 : U.drew.cell? ⟨w.heap.size + 1 + 1, 6, none⟩ = some (.bool false) := BU7.drew.cell 6
  have c76u : U.cell? ⟨w.heap.size + 1 + 1, 6, none⟩ = some (.bool false) := BU7.cell 6
  have HU := Lib.hid (And.intro OU FU)
  have m1 : w.heap.size ≠ w.heap.size + 1 := by omega
  have m2 : w.heap.size ≠ w.heap.size + 1 + 1 := by omega
  clear OU FU BU3 BU6 BU7 gc eg
  go_region_held3 (fun w' => w'.cell? ⟨w.heap.size, 0, none⟩ = some (.slice (some ⟨g, 0, none⟩) l.length c1) ∧ w'.cell? ⟨w.heap.size, 1, none⟩ = some (.int .i64 nxt) ∧ w'.cell? ⟨w.heap.size, 2, none⟩ = some (.int .i64 now) ∧ w'.cell? ⟨w.heap.size, 3, none⟩ = some (.int .i64 (order + 1)) ∧ w'.cell? ⟨g, k * 7, none⟩ = some (.int .i64 rfr) ∧ w'.cell? ⟨g, k * 7 + 1, none⟩ = some (.int .i64 rto) ∧ w'.cell? ⟨g, k * 7 + 2, none⟩ = some (.int .i64 now) ∧ w'.cell? ⟨g, k * 7 + 3, none⟩ = some (.int .i64 (order + 1)) ∧ w'.cell? ⟨g, k * 7 + 4, none⟩ = some (.int .i64 (rtimes + 1)) ∧ w'.cell? ⟨g, k * 7 + 5, none⟩ = some (.int .i64 (rout + 1)) ∧ w'.cell? ⟨g, k * 7 + 6, none⟩ = some (.bool false)) (first | (with_reducible assumption) | (with_reducible exact keep11ad m1 n2 (by assumption)) | (with_reducible exact keep11bd m2 n3 (by assumption))) (fail)
  have FF : Fr (fun k => k = w.heap.size + 1 ∨ k = w.heap.size + 1 + 1) U (((((((((((U.setCell ⟨w.heap.size + 1, 0, none⟩ (.slice (some ⟨g, 0, none⟩) l.length c1)).setCell ⟨w.heap.size + 1, 1, none⟩ (.int .i64 nxt)).setCell ⟨w.heap.size + 1, 2, none⟩ (.int .i64 now)).setCell ⟨w.heap.size + 1, 3, none⟩ (.int .i64 (order + 1))).setCell ⟨w.heap.size + 1 + 1, 0, none⟩ (.int .i64 rfr)).setCell ⟨w.heap.size + 1 + 1, 1, none⟩ (.int .i64 rto)).setCell ⟨w.heap.size + 1 + 1, 2, none⟩ (.int .i64 now)).setCell ⟨w.heap.size + 1 + 1, 3, none⟩ (.int .i64 (order + 1))).setCell ⟨w.heap.size + 1 + 1, 4, none⟩ (.int .i64 (rtimes + 1))).setCell ⟨w.heap.size + 1 + 1, 5, none⟩ (.int .i64 (rout + 1))).setCell ⟨w.heap.size + 1 + 1, 6, none⟩ (.bool false)).drew := ((((((((((((Fr.refl _ U).setCell (p := ⟨w.heap.size + 1, 0, none⟩) (fun _ => .inl rfl) _).setCell (p := ⟨w.heap.size + 1, 1, none⟩) (fun _ => .inl rfl) _).setCell (p := ⟨w.heap.size + 1, 2, none⟩) (fun _ => .inl rfl) _).setCell (p := ⟨w.heap.size + 1, 3, none⟩) (fun _ => .inl rfl) _).setCell (p := ⟨w.heap.size + 1 + 1, 0, none⟩) (fun _ => .inr rfl) _).setCell (p := ⟨w.heap.size + 1 + 1, 1, none⟩) (fun _ => .inr rfl) _).setCell (p := ⟨w.heap.size + 1 + 1, 2, none⟩) (fun _ => .inr rfl) _).setCell (p := ⟨w.heap.size + 1 + 1, 3, none⟩) (fun _ => .inr rfl) _).setCell (p := ⟨w.heap.size + 1 + 1, 4, none⟩) (fun _ => .inr rfl) _).setCell (p := ⟨w.heap.size + 1 + 1, 5, none⟩) (fun _ => .inr rfl) _).setCell (p := ⟨w.heap.size + 1 + 1, 6, none⟩) (fun _ => .inr rfl) _).drew
  have FN : Fr None w (((((((((((U.setCell ⟨w.heap.size + 1, 0, none⟩ (.slice (some ⟨g, 0, none⟩) l.length c1)).setCell ⟨w.heap.size + 1, 1, none⟩ (.int .i64 nxt)).setCell ⟨w.heap.size + 1, 2, none⟩ (.int .i64 now)).setCell ⟨w.heap.size + 1, 3, none⟩ (.int .i64 (order + 1))).setCell ⟨w.heap.size + 1 + 1, 0, none⟩ (.int .i64 rfr)).setCell ⟨w.heap.size + 1 + 1, 1, none⟩ (.int .i64 rto)).setCell ⟨w.heap.size + 1 + 1, 2, none⟩ (.int .i64 now)).setCell ⟨w.heap.size + 1 + 1, 3, none⟩ (.int .i64 (order + 1))).setCell ⟨w.heap.size + 1 + 1, 4, none⟩ (.int .i64 (rtimes + 1))).setCell ⟨w.heap.size + 1 + 1, 5, none⟩ (.int .i64 (rout + 1))).setCell ⟨w.heap.size + 1 + 1, 6, none⟩ (.bool false)).drew := (((((((((((HU.out.2.setCell (p := ⟨w.heap.size + 1, 0, none⟩) (fun h => absurd h (by simp; try omega)) _).setCell (p := ⟨w.heap.size + 1, 1, none⟩) (fun h => absurd h (by simp; try omega)) _).setCell (p := ⟨w.heap.size + 1, 2, none⟩) (fun h => absurd h (by simp; try omega)) _).setCell (p := ⟨w.heap.size + 1, 3, none⟩) (fun h => absurd h (by simp; try omega)) _).setCell (p := ⟨w.heap.size + 1 + 1, 0, none⟩) (fun h => absurd h (by simp; try omega)) _).setCell (p := ⟨w.heap.size + 1 + 1, 1, none⟩) (fun h => absurd h (by simp; try omega)) _).setCell (p := ⟨w.heap.size + 1 + 1, 2, none⟩) (fun h => absurd h (by simp; try omega)) _).setCell (p := ⟨w.heap.size + 1 + 1, 3, none⟩) (fun h => absurd h (by simp; try omega)) _).setCell (p := ⟨w.heap.size + 1 + 1, 4, none⟩) (fun h => absurd h (by simp; try omega)) _).setCell (p := ⟨w.heap.size + 1 + 1, 5, none⟩) (fun h => absurd h (by simp; try omega)) _).setCell (p := ⟨w.heap.size + 1 + 1, 6, none⟩) (fun h => absurd h (by simp; try omega)) _).drew
  have O := HU.out.1.fr FF (fun b hb hd => by cases hb; rcases hd with h | h; exact n2 h; exact n3 h)
  go_wp2_with fail
  exact bodyPost_ret (v := .tuple #[.agg (bk2c (some ⟨g, 0, none⟩) l.length c1 nxt now (order + 1)), .agg #[.int .i64 rfr, .int .i64 rto, .int .i64 now, .int .i64 (order + 1), .int .i64 (rtimes + 1), .int .i64 (rout + 1), .bool false], .int .i64 0]) (by simp [results, Try.results65, go_sem, c60u, c61u, c62u, c63u, c70u, c71u, c72u, c73u, c74u, c75u, c76u]) rfl
    ⟨_, _, _, rfl, O, fun ad had => by cases had; simp only; omega, FN⟩
end Go.Proofs.Ytckbeppofnnfkaa
