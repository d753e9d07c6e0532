/- What the program's variables hold when the call begins. -/
import Derived.Test.YtedogalndhackaaDoorScE
import Derived.Test.YtedogalndhackaaDoorRows
import Derived.Lib.LaidTab
set_option linter.unusedVariables false
set_option linter.unusedSimpArgs false
namespace Go.Proofs.YtedogalndhackaaDoor
open Go.RowKit Go.Und Go.Shelf Go.Sort Go.ChangeShapes Go.WideShapes

theorem cells_of_strs {H : Type} {enc : TypeId × Value → H} {P : Program} {w : World} {base : Nat} {sp : Nat → Bool} {held : Bool} {fuel : Nat} {t e : TypeId} {n : Nat} {cs : List Value} {ss : List (List UInt8)} {p : List MemPlace}
    (ht : P.underlying t = some (.array n e)) (he : P.underlying e = some .string) (hce : P.cellsOf e = 1)
    (h : DataW.trod enc P w base sp held fuel t cs = some (.agg (ss.map fun s => .lit (.string s)), p)) : ∀ (k : Nat) (s : List UInt8), ss[k]? = some s → cs[k]? = some (st s) := by
  intro k s hk
  obtain ⟨xs, m, _, hx, hl, hxl, hi⟩ := DataW.trod_array ht h
  have h1 := congrArg Prod.fst hx
  simp only [DataW.agg.injEq] at h1
  have hkl : k < n := by
    have h2 := congrArg List.length h1
    simp at h2
    have := (List.getElem?_eq_some_iff.1 hk).1
    omega
  have h3 := hi k hkl
  rw [List.getElem?_eq_getElem (by omega)] at h3
  obtain ⟨s', e1, e2, _⟩ := DataW.trod_string he h3
  have h4 : (xs.map (·.1))[k]? = some (DataW.lit (.string s)) := by rw [← h1, List.getElem?_map, hk]; rfl
  rw [List.getElem?_map, List.getElem?_eq_getElem (by omega)] at h4
  simp only [Option.map_some, Option.some.injEq] at h4
  rw [e2] at h4
  simp only [DataW.lit.injEq, Lit.string.injEq] at h4
  have h5 := congrArg (·[0]?) e1
  rw [hce, Nat.mul_one] at h5
  simp at h5
  rw [h5, ← h4]
theorem gPow : Tryd.prog.globalNamed "internal/strconv.uint64pow10" = some 2 := by kernel_rfl
theorem gPowT : (Tryd.prog.globals[2]?).map (·.type) = some 107 := by kernel_rfl
theorem gWords : Tryd.prog.globalNamed "undertow/script.words" = some 0 := by kernel_rfl
theorem gWordsT : (Tryd.prog.globals[0]?).map (·.type) = some 56 := by kernel_rfl
theorem cPow : Tryd.prog.cellsOf 107 = 20 := by kernel_rfl
theorem cU64 : Tryd.prog.cellsOf 69 = 1 := by kernel_rfl
theorem cStr : Tryd.prog.cellsOf 9 = 1 := by kernel_rfl
theorem tabs_of {W : World} (h : laidMet Tryd.prog [("math/bits.deBruijn32tab", Rows.laid_math_bits_deBruijn32tab), ("math/bits.deBruijn64tab", Rows.laid_math_bits_deBruijn64tab), ("internal/strconv.uint64pow10", Rows.laid_internal_strconv_uint64pow10), ("undertow/script.words", Rows.laid_undertow_script_words)] W) : Tabs W := by
  obtain ⟨ps, ⟨_, _, _, _, _, _, _, _, _, _, ⟨_, _, _, _, _, _, _, _, _, _, h, _⟩, _⟩, _⟩ := h
  obtain ⟨g, t, cs, fuel, p, q, hg, ht, hv, hd, h, _⟩ := h
  obtain rfl := Option.some.inj (gPow.symm.trans hg)
  obtain rfl := Option.some.inj (gPowT.symm.trans ht)
  obtain ⟨g2, t2, cs2, fuel2, p2, q2, hg2, ht2, hv2, hd2, _, _⟩ := h
  obtain rfl := Option.some.inj (gWords.symm.trans hg2)
  obtain rfl := Option.some.inj (gWordsT.symm.trans ht2)
  refine ⟨?_, fun k hk => ?_⟩
  · show Lib.TabIs _ _ _ _ _
    unfold Lib.TabIs
    rw [hv, ← Lib.cells_of_tab (k := .u64) (zs := Lib.pow10Tab) Tryd.underlying107 Tryd.underlying69 cU64 cPow hd]
  · rw [World.var?_cell gWords hv2 k]
    have hs : wordsL[k]? = some (wordL k) := by
      unfold wordL
      rw [List.getD_eq_getElem?_getD, List.getElem?_eq_getElem (show k < wordsL.length from hk)]; rfl
    have := cells_of_strs (ss := wordsL) Tryd.underlying56 Tryd.underlying9 cStr hd2 k _ hs
    simpa using this
end Go.Proofs.YtedogalndhackaaDoor
