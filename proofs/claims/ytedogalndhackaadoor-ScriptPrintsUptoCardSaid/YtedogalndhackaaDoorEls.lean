/- Slices of records, cell by cell. -/
import Derived.Test.YtedogalndhackaaDoorOpen
set_option linter.unusedVariables false
set_option linter.unusedSimpArgs false
namespace Go.Und
open Go.RowKit

theorem addr_of_cell' {W : World} {ad : Addr} {v : Value} (h : W.cell? ad = some v) : ∃ b off, ad = ⟨b, off, none⟩ ∧ b < W.heap.size := by
  have hb := World.block_lt_of_cell? _ _ h
  obtain ⟨b, off, sp⟩ := ad
  cases sp with
  | none => exact ⟨b, off, rfl, hb⟩
  | some s =>
    exfalso
    unfold World.cell? at h
    split at h
    · cases h
    · cases h
theorem add_plain' (b off n : Nat) : (⟨b, off, none⟩ : Addr).add n = ⟨b, off + n, none⟩ := by
  unfold Addr.add; split
  · rename_i h; rw [h]; rfl
  · rfl

theorem elems_of {W : World} {v : Value} {u : U} {sh : Sh} (h : (Sh.slice sh).holds W u [v]) (hn : 0 < sh.size) : ∃ (a : Option Addr) (cap : Nat) (L : List (List Value)), v = .slice a L.length cap ∧ L.length ≤ cap ∧ cap ≤ maxLen ∧
    ∀ k ec, L[k]? = some ec → ec.length = sh.size ∧ (∃ u, sh.holds W u ec) ∧ ∃ b off, a = some ⟨b, off, none⟩ ∧ b < W.heap.size ∧ ∀ j, j < sh.size → W.cell? ⟨b, off + (k * sh.size + j), none⟩ = ec[j]? := by
  obtain ⟨a, cap, l, rfl, hv, h1, h2, h3, h4⟩ := h
  simp only [List.cons.injEq, and_true] at hv
  subst hv
  obtain ⟨L, hlen, hp⟩ := getElem?_some_of_list (f := fun _ => True) (P := fun k (ec : List Value) => ec.length = sh.size ∧ (∃ u, sh.holds W u ec) ∧ ∃ b off, a = some ⟨b, off, none⟩ ∧ b < W.heap.size ∧ ∀ j, j < sh.size → W.cell? ⟨b, off + (k * sh.size + j), none⟩ = ec[j]?) l.length (fun k hk => by
    obtain ⟨ad, ec, rfl, g1, g2, g3⟩ := h4 k l[k] (List.getElem?_eq_getElem hk)
    obtain ⟨b, off, rfl, hb⟩ : ∃ b off, ad = ⟨b, off, none⟩ ∧ b < W.heap.size := by
      obtain ⟨ad', ec, hh, g1, g2, g3⟩ := h4 0 l[0] (List.getElem?_eq_getElem (by omega))
      obtain rfl : ad = ad' := by simpa using hh
      have c0 := g2 0 hn
      rw [List.getElem?_eq_getElem (by omega)] at c0
      exact addr_of_cell' (v := ec[0]) (by simpa [Addr.add] using c0)
    exact ⟨ec, g1, ⟨_, g3⟩, b, off, rfl, hb, fun j hj => by have := g2 j hj; rwa [add_plain'] at this⟩)
  exact ⟨a, cap, L, by rw [hlen], by omega, h2, hp⟩

theorem wf_u8 {x : Int} (h : (Lit.int .u8 x).wf = true) : 0 ≤ x ∧ x < 256 := by
  have h1 : IntKind.u8.min ≤ x ∧ x ≤ IntKind.u8.max := by simpa [Lit.wf] using h
  exact ⟨h1.1, by have : IntKind.u8.max = 255 := by decide
                  omega⟩
theorem wf_u32 {x : Int} (h : (Lit.int .u32 x).wf = true) : 0 ≤ x ∧ x < 4294967296 := by
  have h1 : IntKind.u32.min ≤ x ∧ x ≤ IntKind.u32.max := by simpa [Lit.wf] using h
  exact ⟨h1.1, by have : IntKind.u32.max = 4294967295 := by decide
                  omega⟩
theorem wf_i64 {x : Int} (h : (Lit.int .i64 x).wf = true) : -9223372036854775808 ≤ x ∧ x ≤ 9223372036854775807 := by
  have h1 : IntKind.i64.min ≤ x ∧ x ≤ IntKind.i64.max := by simpa [Lit.wf] using h
  exact h1
end Go.Und
