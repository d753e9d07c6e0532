/- Operations that came in; lines apart: plain. -/
import Derived.Test.YtedogalndhackaaDoorScD
import Derived.Test.YtedogalndhackaaDoorOpenB
set_option linter.unusedVariables false
set_option linter.unusedSimpArgs false
namespace Go.Proofs.YtedogalndhackaaDoor
open Go.RowKit Go.Und Go.Shelf Go.Sort

theorem reads_ofU {α : Type} {f : α → List Value} {n : Nat} {w : World} {a : Option Addr} {cap : Nat} {l : List α} (hf : ∀ x, (f x).length = n) (hn : 0 < n) (hc : l.length ≤ cap)
    (h : ∀ k x, l[k]? = some x → ∃ b off, a = some ⟨b, off, none⟩ ∧ ∀ j u, (f x)[j]? = some u → w.cell? ⟨b, off + (k * n + j), none⟩ = some u) (h0 : 0 < l.length) : Reads w n a l.length cap (fc f l) := by
  cases l with
  | nil => simp at h0
  | cons y l =>
    obtain ⟨b, off, rfl, _⟩ := h 0 y rfl
    refine ⟨by rw [fc_length hf], hc, fun h => (by cases h), fun ad h => (by cases h; rfl), fun ad had j u hu => ?_⟩
    cases had
    have hj : j < (y :: l).length * n := by have := (List.getElem?_eq_some_iff.1 hu).1; rwa [fc_length hf] at this
    have hk : j / n < (y :: l).length := (Nat.div_lt_iff_lt_mul hn).2 hj
    have ex := List.getElem?_eq_getElem hk
    obtain ⟨b', off', e, hc'⟩ := h (j / n) _ ex
    cases e
    have hdm : j = j / n * n + j % n := by have := Nat.div_add_mod j n; rw [Nat.mul_comm] at this; omega
    have hlt : j % n < (f ((y :: l)[j / n])).length := by rw [hf]; exact Nat.mod_lt _ hn
    have h1 := fc_at hf ex (List.getElem?_eq_getElem hlt)
    rw [← hdm] at h1
    have h2 := hc' (j % n) _ (List.getElem?_eq_getElem hlt)
    rw [← hdm] at h2
    rw [h1] at hu
    exact h2.trans hu
/-- A slice's elements, each with its datum; no more than N. -/
theorem elemsB_of {W : World} {v : Value} {u : U} {sh : Sh} {N : Nat} (h : (Sh.slice sh).holds W u [v]) (hb : (Sh.slice sh).bounded N u) (hn : 0 < sh.size) : ∃ (a : Option Addr) (cap : Nat) (L : List (U × List Value)), v = .slice a L.length cap ∧ L.length ≤ cap ∧ cap ≤ maxLen ∧ L.length ≤ N ∧
    ∀ (k : Nat) (p : U × List Value), L[k]? = some p → p.2.length = sh.size ∧ sh.holds W p.1 p.2 ∧ sh.bounded N p.1 ∧ ∃ b off, a = some ⟨b, off, none⟩ ∧ ∀ j, j < sh.size → W.cell? ⟨b, off + (k * sh.size + j), none⟩ = p.2[j]? := by
  obtain ⟨a, cap, l, rfl, hv, h1, h2, h3, h4⟩ := h
  obtain ⟨_, _, _, e, hN, hbd⟩ := hb
  cases e
  simp only [List.cons.injEq, and_true] at hv
  subst hv
  obtain ⟨L, hlen, hp⟩ := getElem?_some_of_list (f := fun _ => True) (P := fun k (p : U × List Value) => p.2.length = sh.size ∧ sh.holds W p.1 p.2 ∧ sh.bounded N p.1 ∧ ∃ b off, a = some ⟨b, off, none⟩ ∧ ∀ j, j < sh.size → W.cell? ⟨b, off + (k * sh.size + j), none⟩ = p.2[j]?) l.length (fun k hk => by
    obtain ⟨ad, ec, rfl, g1, g2, g3⟩ := h4 k l[k] (List.getElem?_eq_getElem hk)
    obtain ⟨b, off, rfl, hb⟩ : ∃ b off, ad = ⟨b, off, none⟩ ∧ b < W.heap.size := by
      obtain ⟨ad', ec, hh, g1, g2, g3⟩ := h4 0 l[0] (List.getElem?_eq_getElem (by omega))
      obtain rfl : ad = ad' := by simpa using hh
      have c0 := g2 0 hn
      rw [List.getElem?_eq_getElem (by omega)] at c0
      exact addr_of_cell' (v := ec[0]) (by simpa [Addr.add] using c0)
    exact ⟨(_, ec), g1, g3, hbd _ (List.getElem_mem hk), b, off, rfl, fun j hj => by have := g2 j hj; rwa [add_plain'] at this⟩)
  exact ⟨a, cap, L, by rw [hlen], by omega, h2, by omega, hp⟩
theorem bytesU_of {W : World} {v : Value} {u : U} {N : Nat} (h : (Sh.slice (.int .u8)).holds W u [v]) (hb : (Sh.slice (.int .u8)).bounded N u) : ∃ (a : Option Addr) (cap : Nat) (l : List UInt8), v = .slice a l.length cap ∧ l.length ≤ N ∧ (0 < l.length → Reads W 1 a l.length cap (fc ubc l)) := by
  obtain ⟨a, cap, L, hv, h1, h2, hN, h3⟩ := elemsB_of h hb (by decide)
  obtain ⟨l, hlen, hp⟩ := getElem?_some_of_list (f := fun _ => True) (P := fun k (x : UInt8) => ∃ b off, a = some ⟨b, off, none⟩ ∧ W.cell? ⟨b, off + k, none⟩ = some (.int .u8 (x.toNat : Int))) L.length (fun k hk => by
    obtain ⟨g1, g2, _, b, off, rfl, hc⟩ := h3 k L[k] (List.getElem?_eq_getElem hk)
    obtain ⟨x, _, e0, wx⟩ := g2
    rw [e0] at hc
    have c0 := hc 0 (by decide)
    have hx := wf_u8 wx
    refine ⟨UInt8.ofNat x.toNat, b, off, rfl, ?_⟩
    have e : ((UInt8.ofNat x.toNat).toNat : Int) = x := by rw [UInt8.toNat_ofNat']; omega
    rw [e]
    simpa [Sh.size] using c0)
  refine ⟨a, cap, l, by rw [hv, hlen], by omega, reads_ofU ubc_len (by decide) (by omega) fun k x hx => ?_⟩
  obtain ⟨b, off, e, hc⟩ := hp k x hx
  refine ⟨b, off, e, fun j u hu => ?_⟩
  cases j with
  | zero => simp [ubc] at hu; subst hu; simpa using hc
  | succ j => simp [ubc] at hu
def shLOp : Sh := .agg (.cons (.int .i64) (.cons (.int .i64) (.cons (.slice (.int .u8)) .nil)))
theorem lop_of {W : World} {u : U} {cs : List Value} {N : Nat} (h : shLOp.holds W u cs) (hb : shLOp.bounded N u) (hN : N ≤ 2000000) : ∃ o : OpR, cs = opc o ∧ OpOk W o := by
  obtain ⟨_, rfl, g⟩ := h
  obtain ⟨_, e, hb⟩ := hb
  cases e
  obtain ⟨_, _, _, _, rfl, e0, _, ⟨k, rfl, rfl, wk⟩, g⟩ := g
  obtain ⟨_, _, e, _, hb⟩ := hb
  cases e
  obtain ⟨_, _, _, _, rfl, e1, _, ⟨n, rfl, rfl, wn⟩, g⟩ := g
  obtain ⟨_, _, e, _, hb⟩ := hb
  cases e
  obtain ⟨u3, _, c3, _, rfl, e2, hl3, h3, g⟩ := g
  obtain ⟨_, _, e, hb3, _⟩ := hb
  cases e
  obtain ⟨_, rfl⟩ := g
  have h4 : ∃ v, c3 = [v] := by
    match c3, hl3 with
    | [v], _ => exact ⟨v, rfl⟩
  obtain ⟨v, rfl⟩ := h4
  obtain ⟨a, cap, l, rfl, hl, hr⟩ := bytesU_of h3 hb3
  subst e2 e1 e0
  exact ⟨⟨k, n, l, a, cap⟩, rfl, wf_i64 wn, by show l.length ≤ 2000000; omega, hr⟩

/-- Lines that are alike are of operations that are the same. -/
theorem word_blank : ∀ k : Fin 8, ∀ x ∈ wordL k.val, (x != 32) = true := by decide
theorem word_apart : ∀ j k : Fin 8, wordL j.val = wordL k.val → j = k := by decide
theorem first_word {k : Nat} (hk : k < 8) (r : List UInt8) : (wordL k ++ [32] ++ r).takeWhile (· != 32) = wordL k := by
  have h := word_blank ⟨k, hk⟩
  simp only at h
  rw [List.append_assoc, List.takeWhile_append_of_pos h]
  simp
theorem word_cut {j k : Nat} (hj : j < 8) (hk : k < 8) {r s : List UInt8} (h : wordL j ++ [32] ++ r = wordL k ++ [32] ++ s) : j = k ∧ r = s := by
  have h1 := first_word hj r
  rw [h, first_word hk s] at h1
  have h2 := congrArg Fin.val (word_apart ⟨j, hj⟩ ⟨k, hk⟩ h1.symm)
  simp only at h2
  subst h2
  exact ⟨rfl, List.append_cancel_left h⟩
theorem hexS_inj {l m : List UInt8} (h : hexS l = hexS m) : l = m := by
  have key : ∀ x : List UInt8, x ≠ [] → hexS x = hexL (x.map UInt8.toNat) := fun x hx => by unfold hexS; rw [if_neg hx]
  have len : ∀ x : List UInt8, x ≠ [] → (hexS x).length = 2 * x.length := fun x hx => by rw [key x hx, hexL_len, List.length_map]
  have inj : Function.Injective UInt8.toNat := fun a b h => UInt8.toNat_inj.1 h
  by_cases h1 : l = [] <;> by_cases h2 : m = []
  · rw [h1, h2]
  · have := congrArg List.length h
    rw [len m h2, h1] at this
    simp [hexS] at this
    omega
  · have := congrArg List.length h
    rw [len l h1, h2] at this
    simp [hexS] at this
    omega
  · rw [key l h1, key m h2] at h
    have h3 := hexL_inj (fun x hx => by obtain ⟨b, _, rfl⟩ := List.mem_map.1 hx; exact b.toNat_lt) (fun x hx => by obtain ⟨b, _, rfl⟩ := List.mem_map.1 hx; exact b.toNat_lt) h
    exact (List.map_inj_right (fun _ _ h => inj h)).1 h3
theorem apart_iff {x y : OpR} (ex : errO x = 0) (ey : errO y = 0) : lineO x = lineO y ↔ sameO x y = true := by
  obtain ⟨k, n, b, q, c⟩ := x
  obtain ⟨k2, n2, b2, q2, c2⟩ := y
  have key : ∀ {k n : Int} {b : List UInt8}, errL k n b = 0 → (0 ≤ k ∧ k < 8) ∧ (k = 0 → n = 0) ∧ (k ≠ 0 → b = []) := by
    intro k n b h
    unfold errL at h
    split at h
    · cases h
    · split at h
      · cases h
      · rename_i h1 h2
        refine ⟨by omega, fun e => ?_, fun e => ?_⟩
        · exact Classical.byContradiction fun h3 => h2 (.inl ⟨e, h3⟩)
        · exact Classical.byContradiction fun h3 => h2 (.inr ⟨e, List.length_pos_iff.2 h3⟩)
  obtain ⟨a1, a2, a3⟩ := key (k := k) (n := n) (b := b) ex
  obtain ⟨b1, b2', b3⟩ := key (k := k2) (n := n2) (b := b2) ey
  have line : ∀ {k n : Int} {b : List UInt8}, errL k n b = 0 → lineL k n b = wordL k.toNat ++ [32] ++ (if k = 0 then hexS b else Lib.itoa n) := by
    intro k n b h
    unfold lineL
    rw [h, if_neg (by decide)]
    split
    · rename_i e; subst e; rfl
    · rfl
  simp only [lineO, sameO, decide_eq_true_eq]
  rw [line (k := k) (n := n) (b := b) ex, line (k := k2) (n := n2) (b := b2) ey]
  constructor
  · intro h
    obtain ⟨h1, h2⟩ := word_cut (by omega) (by omega) h
    have hk : k = k2 := by omega
    subst hk
    by_cases k0 : k = 0
    · rw [if_pos k0, if_pos k0] at h2
      exact ⟨rfl, by rw [a2 k0, b2' k0], hexS_inj h2⟩
    · rw [if_neg k0, if_neg k0] at h2
      exact ⟨rfl, itoa_inj h2, by rw [a3 k0, b3 k0]⟩
  · rintro ⟨rfl, rfl, rfl⟩
    rfl
end Go.Proofs.YtedogalndhackaaDoor
