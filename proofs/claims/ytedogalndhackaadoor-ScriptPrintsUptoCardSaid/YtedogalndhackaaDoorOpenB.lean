/- Arguments of bounded bulk: how long their slices and texts are. -/
import Derived.Test.YtedogalndhackaaDoorOpen
import Derived.Test.YtedogalndhackaaDoorRows
set_option linter.unusedVariables false
set_option linter.unusedSimpArgs false
namespace Go.Und
open Go.RowKit Go.ChangeShapes Go.WideShapes Go.Deep
/-- Slices and texts are of at most N places. -/
def Sh.bounded (N : Nat) : Sh → U → Prop
  | .str, u => ∃ s, u = .str s ∧ s.size ≤ N
  | .agg r, u => ∃ v, u = .agg v ∧ r.bounded N v
  | .cons a b, u => ∃ v1 v2, u = .cons v1 v2 ∧ a.bounded N v1 ∧ b.bounded N v2
  | .slice e, u => ∃ a cap l, u = .slice a cap l ∧ l.length ≤ N ∧ ∀ v ∈ l, e.bounded N v
  | _, _ => True
end Go.Und
namespace Go.Proofs.YtedogalndhackaaDoor
open Go.RowKit Go.ChangeShapes Go.WideShapes Go.Deep Go.Und
theorem bulk_one {H : Type} (d : DataW H) : 1 ≤ Rows.uptoBulk d := by
  cases d with
  | lit l => cases l <;> simp [Rows.uptoBulk]
  | nil => simp [Rows.uptoBulk]
  | ptr d => simp [Rows.uptoBulk]
  | slice elems spare => simp [Rows.uptoBulk]
  | agg parts => simp [Rows.uptoBulk]
  | iface t d => simp [Rows.uptoBulk]
  | map entries => simp [Rows.uptoBulk]
  | held h => simp [Rows.uptoBulk]
theorem bulk_part {H : Type} {d : DataW H} {l : List (DataW H)} (h : d ∈ l) : Rows.uptoBulk d ≤ Rows.uptoBulkAll l := by
  induction l with
  | nil => cases h
  | cons x r ih =>
    simp only [Rows.uptoBulkAll]
    cases List.mem_cons.1 h with
    | inl e => subst e; omega
    | inr e => have := ih e; omega
theorem bulk_len {H : Type} (l : List (DataW H)) : l.length ≤ Rows.uptoBulkAll l := by
  induction l with
  | nil => simp [Rows.uptoBulkAll]
  | cons x r ih => have := bulk_one x; simp only [Rows.uptoBulkAll, List.length_cons]; omega
section
variable {H : Type} {enc : TypeId × Value → H} {P : Program} {w : World} {base : Nat} {spare : Nat → Bool} {held : Bool}

theorem open_bothB (N : Nat) : ∀ (sh : Sh),
    (∀ (fuel : Nat) (t : TypeId) (cs : List Value) (x : DataW H × List MemPlace), (sh.fit P).1 t = true → DataW.trod enc P w base spare held fuel t cs = some x → Rows.uptoBulk x.1 ≤ N → ∃ u, sh.holds w u cs ∧ sh.bounded N u) ∧
    (∀ (fuel off : Nat) (l : List (Nat × TypeId)) (cs : List Value), (sh.fit P).2 off l = true → cs.length = off + sh.size →
      (∀ (i o : Nat) (t : TypeId), l[i]? = some (o, t) → ∃ x, DataW.trod enc P w base spare held fuel t ((cs.drop o).take (P.cellsOf t)) = some x ∧ Rows.uptoBulk x.1 ≤ N) → ∃ u, sh.holds w u (cs.drop off) ∧ sh.bounded N u) := by
  intro sh
  induction sh with
  | int k =>
    refine ⟨fun fuel t cs x hf h hN => ?_, fun fuel off l cs hf => by simp [Sh.fit] at hf⟩
    simp only [Sh.fit] at hf
    split at hf
    · rename_i k' hk
      obtain rfl : k' = k := by simpa using hf
      obtain ⟨n, rfl, _, hw⟩ := DataW.trod_int hk h
      exact ⟨_, ⟨n, rfl, rfl, hw⟩, trivial⟩
    · cases hf
  | bool =>
    refine ⟨fun fuel t cs x hf h hN => ?_, fun fuel off l cs hf => by simp [Sh.fit] at hf⟩
    simp only [Sh.fit] at hf
    split at hf
    · rename_i hk
      obtain ⟨b, rfl, _⟩ := DataW.trod_bool hk h
      exact ⟨_, ⟨b, rfl, rfl⟩, trivial⟩
    · cases hf
  | str =>
    refine ⟨fun fuel t cs x hf h hN => ?_, fun fuel off l cs hf => by simp [Sh.fit] at hf⟩
    simp only [Sh.fit] at hf
    split at hf
    · rename_i hk
      obtain ⟨s, rfl, rfl, hs⟩ := DataW.trod_string hk h
      refine ⟨_, ⟨s, rfl, rfl, hs⟩, s, rfl, ?_⟩
      simp only [Rows.uptoBulk] at hN
      have e : s.data.toList.length = s.size := by rw [Array.length_toList]; rfl
      omega
    · cases hf
  | agg r ih =>
    refine ⟨fun fuel t cs x hf h hN => ?_, fun fuel off l cs hf => by simp [Sh.fit] at hf⟩
    simp only [Sh.fit] at hf
    split at hf
    · rename_i fs hs
      simp only [Bool.and_eq_true, decide_eq_true_eq] at hf
      obtain ⟨xs, n, _, rfl, hlen, hxl, hg⟩ := DataW.trod_struct hs h
      have hP : ∀ y ∈ xs, Rows.uptoBulk y.1 ≤ N := fun y hy => by
        have := bulk_part (List.mem_map_of_mem (f := (·.1)) hy)
        simp only [Rows.uptoBulk] at hN; omega
      obtain ⟨u, hu, hbd⟩ := ih.2 n 0 _ cs hf.1 (by rw [hlen, hf.2, Nat.zero_add]) (fun i o t' hi => by
        rw [List.getElem?_map] at hi
        obtain ⟨f, hfi, he⟩ := Option.map_eq_some_iff.1 hi
        simp only [Prod.mk.injEq] at he
        obtain ⟨rfl, rfl⟩ := he
        have h1 := hg i f (by simpa using hfi)
        have hlt : i < xs.length := by rw [hxl]; exact (Array.getElem?_eq_some_iff.1 (by simpa using hfi)).1
        exact ⟨xs[i], by rw [h1, List.getElem?_eq_getElem hlt], hP _ (List.getElem_mem hlt)⟩)
      rw [List.drop_zero] at hu
      exact ⟨.agg u, ⟨u, rfl, hu⟩, u, rfl, hbd⟩
    · rename_i n' e hs
      simp only [Bool.and_eq_true, decide_eq_true_eq] at hf
      obtain ⟨xs, n, _, rfl, hlen, hxl, hg⟩ := DataW.trod_array hs h
      have hP : ∀ y ∈ xs, Rows.uptoBulk y.1 ≤ N := fun y hy => by
        have := bulk_part (List.mem_map_of_mem (f := (·.1)) hy)
        simp only [Rows.uptoBulk] at hN; omega
      obtain ⟨u, hu, hbd⟩ := ih.2 n 0 _ cs hf.1 (by rw [hlen, hf.2, Nat.zero_add]) (fun i o t' hi => by
        rw [List.getElem?_map] at hi
        obtain ⟨f, hfi, he⟩ := Option.map_eq_some_iff.1 hi
        simp only [Prod.mk.injEq] at he
        obtain ⟨rfl, rfl⟩ := he
        have hlt : i < n' := by
          rcases Nat.lt_or_ge i n' with h1 | h1
          · exact h1
          · rw [List.getElem?_eq_none (by simpa using h1)] at hfi; cases hfi
        rw [List.getElem?_range hlt] at hfi
        obtain rfl : i = f := by simpa using hfi
        have h1 := hg i hlt
        exact ⟨xs[i]'(by omega), by rw [h1, List.getElem?_eq_getElem (by omega)], hP _ (List.getElem_mem (by omega))⟩)
      rw [List.drop_zero] at hu
      exact ⟨.agg u, ⟨u, rfl, hu⟩, u, rfl, hbd⟩
    · cases hf
  | nil =>
    refine ⟨fun fuel t cs x hf h hN => by simp [Sh.fit] at hf, fun fuel off l cs _ hl _ => ⟨.nil, ⟨rfl, ?_⟩, trivial⟩⟩
    exact List.drop_eq_nil_of_le (by simp [Sh.size] at hl; omega)
  | cons a b iha ihb =>
    refine ⟨fun fuel t cs x hf h hN => by simp [Sh.fit] at hf, fun fuel off l cs hf hl hg => ?_⟩
    simp only [Sh.fit] at hf
    split at hf
    · cases hf
    · rename_i o t r
      simp only [Bool.and_eq_true, decide_eq_true_eq] at hf
      obtain ⟨⟨⟨rfl, h1⟩, h2⟩, h3⟩ := hf
      simp only [Sh.size] at hl
      obtain ⟨x, hx, hxN⟩ := hg 0 o t rfl
      obtain ⟨v1, hv1, hb1⟩ := iha.1 fuel t _ x h1 hx hxN
      obtain ⟨v2, hv2, hb2⟩ := ihb.2 fuel (o + a.size) r cs h3 (by omega) (fun i o' t' hi => hg (i + 1) o' t' (by simpa using hi))
      rw [h2] at hv1
      refine ⟨.cons v1 v2, ⟨v1, v2, _, _, rfl, ?_, ?_, hv1, hv2⟩, v1, v2, rfl, hb1, hb2⟩
      · rw [← List.drop_drop, List.take_append_drop]
      · rw [List.length_take, List.length_drop]; omega
  | slice e ih =>
    refine ⟨fun fuel t cs x hf h hN => ?_, fun fuel off l cs hf => by simp [Sh.fit] at hf⟩
    simp only [Sh.fit] at hf
    split at hf
    · rename_i et hs
      simp only [Bool.and_eq_true, decide_eq_true_eq] at hf
      rcases open_slice hs h with ⟨rfl, _⟩ | ⟨ad, len, cap, m, n, D, Pl, rfl, _, hl, hm, hmm, rfl, hi⟩
      · exact ⟨.slice none 0 [], ⟨none, 0, [], rfl, rfl, Nat.le_refl _, Nat.zero_le _, fun _ => ⟨rfl, rfl⟩, fun i v hv => by simp at hv⟩, none, 0, [], rfl, Nat.zero_le _, fun v hv => by cases hv⟩
      · have hle : len ≤ m := by rw [hmm]; split <;> omega
        simp only [Rows.uptoBulk] at hN
        have hD : ∀ i, i < len → Rows.uptoBulk (D i) ≤ N := fun i hi' => by
          have := bulk_part (List.mem_map_of_mem (f := D) (List.mem_range.2 hi'))
          omega
        have hlN : len ≤ N := by
          have := bulk_len ((List.range len).map D)
          simp at this; omega
        obtain ⟨l, hlen, hp⟩ := getElem?_some_of_list (f := fun _ => True) (P := fun i (v : U) => ∃ ec, ec.length = e.size ∧ (∀ j, j < e.size → w.cell? (ad.add (i * e.size + j)) = ec[j]?) ∧ e.holds w v ec ∧ e.bounded N v) len (fun i hil => by
          obtain ⟨ec, hc, ht⟩ := hi i (by omega)
          obtain ⟨u, hu, hbd⟩ := ih.1 n et ec _ hf.1 ht (hD i hil)
          obtain ⟨h1, h2⟩ := cells_of hc
          rw [hf.2] at h1 h2
          exact ⟨u, ec, h1, fun j hj => by rw [← h2 j hj, Go.Deep.add_add], hu, hbd⟩)
        refine ⟨.slice (some ad) cap l, ⟨some ad, cap, l, rfl, by rw [hlen], by omega, hm, (by intro h0; cases h0), fun i v hv => ?_⟩, some ad, cap, l, rfl, by omega, fun v hv => ?_⟩
        · obtain ⟨ec, g1, g2, g3, _⟩ := hp i v hv
          exact ⟨ad, ec, rfl, g1, g2, g3⟩
        · obtain ⟨i, hi2⟩ := List.mem_iff_getElem?.1 hv
          obtain ⟨ec, _, _, _, g4⟩ := hp i v hi2
          exact g4
    · cases hf

/-- An argument of a plain type: one cell. -/
theorem open_cellB (N : Nat) {r : Reach} {b0 : Nat} {t : TypeId} {v : Value} {d : DataW H} {p : List MemPlace} (sh : Sh) (hf : (sh.fit P).1 t = true)
    (hone : sh.one = true)
    (hv : Value.okWide P w r b0 t v) (h : DataW.Trod enc P w base spare held t v d p) (hN : Rows.uptoBulk d ≤ N) : ∃ u, sh.holds w u [v] ∧ sh.bounded N u := by
  have hc : v.cells.toList = [v] := by
    cases v with
    | agg cs =>
      exfalso
      revert hf hone
      cases sh with
      | agg r => intro _ hone; cases hone
      | nil => intro _ hone; cases hone
      | cons a b => intro _ hone; cases hone
      | int k => intro hf _; simp only [Sh.fit] at hf; split at hf <;> simp_all [Value.okWide, Cell.okWide, Cell.ok]
      | bool => intro hf _; simp only [Sh.fit] at hf; split at hf <;> simp_all [Value.okWide, Cell.okWide, Cell.ok]
      | str => intro hf _; simp only [Sh.fit] at hf; split at hf <;> simp_all [Value.okWide, Cell.okWide, Cell.ok]
      | slice e => intro hf _; simp only [Sh.fit] at hf; split at hf <;> simp_all [Value.okWide, Cell.okWide, Cell.ok]
    | _ => rfl
  obtain ⟨fuel, h⟩ := h
  rw [hc] at h
  exact (open_bothB N sh).1 fuel t _ _ hf h hN

/-- An argument that is a struct or an array. -/
theorem open_aggB (N : Nat) {r : Reach} {b0 : Nat} {t : TypeId} {v : Value} {d : DataW H} {p : List MemPlace} (sh : Sh) (hf : (sh.fit P).1 t = true) (hag : (match P.underlying t with | some (.struct _) | some (.array _ _) => true | _ => false) = true)
    (hv : Value.okWide P w r b0 t v) (h : DataW.Trod enc P w base spare held t v d p) (hN : Rows.uptoBulk d ≤ N) : ∃ cs u, v = .agg cs ∧ sh.holds w u cs.toList ∧ sh.bounded N u := by
  have ha : ∃ cs, v = .agg cs := by
    unfold Value.okWide at hv
    split at hag
    · rename_i hs; rw [hs] at hv; obtain ⟨cs, h1, _⟩ := hv; exact ⟨cs, h1⟩
    · rename_i hs; rw [hs] at hv; obtain ⟨cs, h1, _⟩ := hv; exact ⟨cs, h1⟩
    · cases hag
  obtain ⟨cs, rfl⟩ := ha
  obtain ⟨fuel, h⟩ := h
  obtain ⟨u, hu, hb⟩ := (open_bothB N sh).1 fuel t _ _ hf h hN
  exact ⟨cs, u, rfl, hu, hb⟩
end
end Go.Proofs.YtedogalndhackaaDoor
