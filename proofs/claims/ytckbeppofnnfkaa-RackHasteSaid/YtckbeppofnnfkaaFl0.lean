/- A flight: the book and the document's list of records, step by step; and a book as an object of a ledger. -/
import Derived.Test.YtckbeppofnnfkaaRk6
import Derived.Test.YtckbeppofnnfkaaRf4
namespace Go.Proofs.Ytckbeppofnnfkaa
open Go.RowKit Go.Und

structure Fly (M : Int) (bk : Bk) (rs : List Rc) (now : Int) : Prop where
  perm : rs.Perm (bk.L.map (·.2))
  rise : rs.Pairwise (fun a b => a.fr < b.fr)
  key : ∀ r ∈ rs, 0 ≤ r.fr ∧ r.fr < r.to ∧ r.fr < bk.nxt
  num : ∀ r ∈ rs, 0 ≤ r.sent ∧ r.sent ≤ now ∧ 0 ≤ r.times ∧ r.times ≤ M ∧ 0 ≤ r.out ∧ r.out ≤ M
  ord : (bk.L.map (·.2.order)).Pairwise (· < ·)
  top : ∀ x ∈ bk.L, x.2.order ≤ bk.order
  nxt : 0 ≤ bk.nxt ∧ bk.nxt ≤ 256 * M
  last : 0 ≤ bk.last ∧ bk.last ≤ now
  order : 0 ≤ bk.order ∧ bk.order ≤ M
  now : 0 ≤ now ∧ now ≤ 255 * M
  len : (rs.length : Int) ≤ M

theorem Fly.mem {M : Int} {bk : Bk} {rs : List Rc} {now : Int} (h : Fly M bk rs now) {x : Nat × Rc} (hx : x ∈ bk.L) : x.2 ∈ rs := h.perm.mem_iff.2 (List.mem_map.2 ⟨x, hx, rfl⟩)
theorem Fly.empty {bk : Bk} (h1 : bk.L = []) (h2 : bk.nxt = 0) (h3 : bk.last = 0) (h4 : bk.order = 0) : Fly 0 bk [] 0 :=
  ⟨by simp [h1], .nil, by simp, by simp, by simp [h1], by simp [h1], by simp [h2], by simp [h3], by simp [h4], by simp, by simp⟩
theorem Fly.send {M : Int} {bk : Bk} {rs : List Rc} {now : Int} (h : Fly M bk rs now) (d s : Int) (hd : 0 ≤ d ∧ d ≤ 255) (hs : 0 ≤ s ∧ s ≤ 255) (t : Tr (Option Nat)) (x : Nat) :
    Fly (M + 1) (bk.sent t x (bk.nxt, bk.nxt + 1 + s) (now + d)) (rs ++ [⟨bk.nxt, bk.nxt + 1 + s, now + d, bk.order + 1, 1, 1, false⟩]) (now + d) := by
  obtain ⟨h1, h2, h3, h4, h5, h6, h7, h8, h9, h10, h11⟩ := h
  have hM : 0 ≤ M := by omega
  refine ⟨?_, ?_, ?_, ?_, ?_, ?_, ?_, ?_, ?_, ?_, ?_⟩
  · simp only [Bk.sent, List.map_append, List.map_cons, List.map_nil]
    exact h1.append_right _
  · refine List.pairwise_append.2 ⟨h2, List.pairwise_singleton _ _, fun a ha b hb => ?_⟩
    rw [List.mem_singleton.1 hb]; exact (h3 a ha).2.2
  · intro r hr
    rcases List.mem_append.1 hr with hr | hr
    · have := h3 r hr; exact ⟨this.1, this.2.1, by simp only [Bk.sent]; omega⟩
    · rw [List.mem_singleton.1 hr]; simp only [Bk.sent]; omega
  · intro r hr
    rcases List.mem_append.1 hr with hr | hr
    · have := h4 r hr; omega
    · rw [List.mem_singleton.1 hr]; dsimp only; omega
  · simp only [Bk.sent, List.map_append, List.map_cons, List.map_nil]
    refine List.pairwise_append.2 ⟨h5, List.pairwise_singleton _ _, fun a ha b hb => ?_⟩
    rw [List.mem_singleton.1 hb]
    obtain ⟨y, hy, rfl⟩ := List.mem_map.1 ha
    have := h6 y hy; omega
  · intro y hy
    simp only [Bk.sent] at hy ⊢
    rcases List.mem_append.1 hy with hy | hy
    · have := h6 y hy; omega
    · rw [List.mem_singleton.1 hy]; exact Int.le_refl _
  · simp only [Bk.sent]; omega
  · simp only [Bk.sent]; omega
  · simp only [Bk.sent]; omega
  · omega
  · simp only [List.length_append, List.length_singleton]; omega

/-- A record's place in the list, and in the book. -/
theorem Fly.place {M : Int} {bk : Bk} {rs : List Rc} {now : Int} (h : Fly M bk rs now) {k : Nat} {r : Rc} (hk : rs[k]? = some r) :
    (∀ j x, j < k → rs[j]? = some x → x.fr ≠ r.fr) ∧ ∃ x l m, bk.L = l ++ (x, r) :: m := by
  refine ⟨fun j x hj hx => ?_, ?_⟩
  · obtain ⟨j1, rfl⟩ := List.getElem?_eq_some_iff.1 hx
    obtain ⟨k1, rfl⟩ := List.getElem?_eq_some_iff.1 hk
    have := List.pairwise_iff_getElem.1 h.rise j k j1 k1 hj
    omega
  · obtain ⟨y, hy, rfl⟩ := List.mem_map.1 (h.perm.mem_iff.1 (List.mem_of_getElem? hk))
    obtain ⟨l, m, e⟩ := List.append_of_mem hy
    exact ⟨y.1, l, m, e⟩
theorem set_split {α : Type} {l : List α} {k : Nat} {r : α} (hk : l[k]? = some r) : ∃ a c, l = a ++ r :: c ∧ ∀ r', l.set k r' = a ++ r' :: c := by
  obtain ⟨hl, rfl⟩ := List.getElem?_eq_some_iff.1 hk
  refine ⟨l.take k, l.drop (k + 1), ?_, fun r' => ?_⟩
  · rw [List.getElem_cons_drop, List.take_append_drop]
  · rw [List.set_eq_take_append_cons_drop, if_pos hl]
theorem perm_swap {α : Type} {a c l m : List α} {r r' : α} (h : (a ++ r :: c).Perm (l ++ r :: m)) : (a ++ r' :: c).Perm (l ++ r' :: m) := by
  have h1 : (r :: (a ++ c)).Perm (r :: (l ++ m)) := (List.perm_middle.symm.trans h).trans List.perm_middle
  have h2 := List.Perm.cons_inv h1
  exact (List.perm_middle.trans (h2.cons r')).trans List.perm_middle.symm

theorem Fly.lose {M : Int} {bk : Bk} {rs : List Rc} {now : Int} (h : Fly M bk rs now) {k : Nat} {r : Rc} (hk : rs[k]? = some r) {x : Nat} {l m : Its} (hL : bk.L = l ++ (x, r) :: m) :
    Fly M { bk with L := l ++ (x, { r with lost := true, out := 0 }) :: m } (rs.set k { r with lost := true, out := 0 }) now := by
  obtain ⟨h1, h2, h3, h4, h5, h6, h7, h8, h9, h10, h11⟩ := h
  obtain ⟨a, c, rfl, hset⟩ := set_split hk
  rw [hset]
  rw [hL] at h1 h5 h6
  simp only [List.map_append, List.map_cons] at h1 h5
  have hr := h4 r (by simp)
  have hM : 0 ≤ M := by omega
  have key : ∀ P : Rc → Prop, (∀ y ∈ a ++ r :: c, P y) → (P r → P { r with lost := true, out := 0 }) → ∀ y ∈ a ++ { r with lost := true, out := 0 } :: c, P y := fun P hP hr y hy => by
    rcases List.mem_append.1 hy with hy | hy
    · exact hP y (by simp [hy])
    · rcases List.mem_cons.1 hy with rfl | hy
      · exact hr (hP r (by simp))
      · exact hP y (by simp [hy])
  refine ⟨?_, ?_, key _ h3 (fun h => h), key _ h4 (fun h => by dsimp only at h ⊢; omega), ?_, ?_, h7, h8, h9, h10, ?_⟩
  · simp only [List.map_append, List.map_cons]
    exact perm_swap h1
  · simp only [List.pairwise_append, List.pairwise_cons, List.mem_cons] at h2 ⊢
    refine ⟨h2.1, ⟨h2.2.1.1, h2.2.1.2⟩, fun y hy z hz => ?_⟩
    rcases hz with rfl | hz
    · exact h2.2.2 y hy r (.inl rfl)
    · exact h2.2.2 y hy z (.inr hz)
  · simpa only [List.map_append, List.map_cons] using h5
  · intro y hy
    simp only at hy
    rcases List.mem_append.1 hy with hy | hy
    · exact h6 y (by simp [hy])
    · rcases List.mem_cons.1 hy with rfl | hy
      · exact h6 (x, r) (by simp)
      · exact h6 y (by simp [hy])
  · simpa using h11
theorem Fly.again {M : Int} {bk : Bk} {rs : List Rc} {now : Int} (h : Fly M bk rs now) {k : Nat} {r : Rc} (hk : rs[k]? = some r) {x : Nat} {l m : Its} (hL : bk.L = l ++ (x, r) :: m) :
    Fly (M + 1) (bk.again l m x r (now + 1)) (rs.set k (r.goes (now + 1) (bk.order + 1))) (now + 1) := by
  obtain ⟨h1, h2, h3, h4, h5, h6, h7, h8, h9, h10, h11⟩ := h
  obtain ⟨a, c, rfl, hset⟩ := set_split hk
  rw [hset]
  rw [hL] at h1 h5 h6
  simp only [List.map_append, List.map_cons] at h1 h5
  have hr := h4 r (by simp)
  have hM : 0 ≤ M := by omega
  have key : ∀ P P' : Rc → Prop, (∀ y ∈ a ++ r :: c, P y) → (∀ y, P y → P' y) → (P r → P' (r.goes (now + 1) (bk.order + 1))) → ∀ y ∈ a ++ r.goes (now + 1) (bk.order + 1) :: c, P' y := fun P P' hP hm hr y hy => by
    rcases List.mem_append.1 hy with hy | hy
    · exact hm y (hP y (by simp [hy]))
    · rcases List.mem_cons.1 hy with rfl | hy
      · exact hr (hP r (by simp))
      · exact hm y (hP y (by simp [hy]))
  refine ⟨?_, ?_, key _ _ h3 (fun y h => h) (fun h => h), key _ _ h4 (fun y h => by omega) (fun h => by simp only [Rc.goes]; omega), ?_, ?_, ?_, ?_, ?_, ?_, ?_⟩
  · simp only [Bk.again, List.map_append, List.map_cons, List.map_nil]
    refine (perm_swap (r' := r.goes (now + 1) (bk.order + 1)) h1).trans ?_
    exact (List.perm_middle.trans (List.perm_append_singleton _ _).symm)
  · simp only [List.pairwise_append, List.pairwise_cons, List.mem_cons] at h2 ⊢
    refine ⟨h2.1, ⟨h2.2.1.1, h2.2.1.2⟩, fun y hy z hz => ?_⟩
    rcases hz with rfl | hz
    · exact h2.2.2 y hy r (.inl rfl)
    · exact h2.2.2 y hy z (.inr hz)
  · simp only [Bk.again, List.map_append, List.map_cons, List.map_nil]
    have hsub : (l.map (·.2.order) ++ m.map (·.2.order)).Sublist (l.map (·.2.order) ++ r.order :: m.map (·.2.order)) := (List.Sublist.refl _).append (List.sublist_cons_self _ _)
    refine List.pairwise_append.2 ⟨h5.sublist hsub, List.pairwise_singleton _ _, fun a ha b hb => ?_⟩
    rw [List.mem_singleton.1 hb]
    simp only [Rc.goes]
    rcases List.mem_append.1 ha with ha | ha <;> obtain ⟨y, hy, rfl⟩ := List.mem_map.1 ha
    · have := h6 y (by simp [hy]); omega
    · have := h6 y (by simp [hy]); omega
  · intro y hy
    simp only [Bk.again] at hy ⊢
    rcases List.mem_append.1 hy with hy | hy
    · rcases List.mem_append.1 hy with hy | hy
      · have := h6 y (by simp [hy]); omega
      · have := h6 y (by simp [hy]); omega
    · rw [List.mem_singleton.1 hy]; simp only [Rc.goes]; omega
  · simp only [Bk.again]; omega
  · simp only [Bk.again]; omega
  · simp only [Bk.again]; omega
  · omega
  · simp only [List.length_append, List.length_cons] at h11 ⊢; omega

theorem line_loc {ty : TypeId} {w w' : World} {l : Its} {p n : Nat} (h : Line ty w p l n) (hf : ∀ k ∈ l.map (·.1), w'.heap[k]? = w.heap[k]?) : Line ty w' p l n := by
  induction l generalizing p with
  | nil => trivial
  | cons x l ih =>
    simp only [List.map_cons, List.mem_cons] at hf
    exact ⟨(hf _ (.inl rfl)).trans h.1, ih h.2 fun k hk => hf k (.inr hk)⟩
theorem inW_loc {w w' : World} {t : Tr (Option Nat)} (h : Itm.inW w t) (hf : ∀ k ∈ t.blocks, w'.heap[k]? = w.heap[k]?) : Itm.inW w' t := by
  induction t with
  | nil => exact h
  | node b k v l r hh n ihl ihr =>
    obtain ⟨h1, h2, h3⟩ := h
    simp only [Tr.blocks_node, List.mem_cons, List.mem_append] at hf
    exact ⟨(hf _ (.inl rfl)).trans h1, ihl h2 fun k hk => hf k (.inr (.inl hk)), ihr h3 fun k hk => hf k (.inr (.inr hk))⟩
/-- A book, in a ledger. -/
def obook (p : Nat) (b : Bk) : Ob where
  fp := bkFp p b
  ok w := BookAt w p b
  cel {w k} h hk := by
    rcases hk with rfl | hk | hk
    · exact ⟨_, _, _, h.blk⟩
    · obtain ⟨ty, cs, hb, _⟩ := tree_blk h.tree k hk
      exact ⟨_, _, _, hb⟩
    · obtain ⟨cs, hb⟩ := ring_blk h.ring k hk
      exact ⟨_, _, _, hb⟩
  loc {w w'} h f := by
    have lt := h.lt
    have hf : ∀ k, bkFp p b k → w'.heap[k]? = w.heap[k]? := fun k hk => f k hk (lt k hk)
    obtain ⟨h1, h2, ⟨h3, h4, h5⟩, h6⟩ := h
    refine ⟨(hf _ (.inl rfl)).trans h1, ?_, ⟨(hf _ (.inr (.inr (.inl rfl)))).trans h3, line_loc h4 fun k hk => hf k (.inr (.inr (.inr hk))), h5⟩, h6⟩
    exact { h2 with blk := (hf _ (.inr (.inl (.inl rfl)))).trans h2.blk, inn := inW_loc h2.inn fun k hk => hf k (.inr (.inl (.inr hk))) }
end Go.Proofs.Ytckbeppofnnfkaa
