/- A book in memory: a tree of items and a ring of them; its steps, walked. -/
import Derived.Test.YtckbeppofnnfkaaBk1
import Derived.Test.YtckbeppofnnfkaaSpn
import Derived.Test.YtckbeppofnnfkaaItmW7
import Derived.Test.YtckbeppofnnfkaaRegionIn
namespace Go.Proofs.Ytckbeppofnnfkaa
open Go.RowKit Go.Und
attribute [local go_sem ↓] Go.wp_at_zero Go.wp_at_succ

abbrev BkT : TypeId := 149
/-- What a book is made of. -/
structure Bk where
  (tp b0 : Nat) (t : Tr (Option Nat)) (L : Its) (nxt last order : Int)
def bkc (tp b0 : Nat) (nxt last order : Int) : Array Value := #[.pointer (at0 tp), .pointer (at0 b0), .int .i64 nxt, .int .i64 last, .int .i64 order]
/-- At block p stands a book. -/
structure BookAt (W : World) (p : Nat) (b : Bk) : Prop where
  blk : Blk W p BkT (bkc b.tp b.b0 b.nxt b.last b.order)
  tree : Itm.TreeAt W b.tp b.t
  ring : Ring ItT W b.b0 b.L
  keys : b.t.items.Perm (b.L.map fun x => (x.2.fr, some x.1))
/-- A book's blocks. -/
def bkFp (p : Nat) (b : Bk) (k : Nat) : Prop := k = p ∨ (k = b.tp ∨ k ∈ b.t.blocks) ∨ (k = b.b0 ∨ k ∈ b.L.map (·.1))

theorem blk_same {w : World} {b : Nat} {t t' : TypeId} {cs cs' : Array Value} (h : Blk w b t cs) (h' : Blk w b t' cs') : t = t' := by
  unfold Blk at h h'; rw [h] at h'; cases h'; rfl
theorem itm_blk {w : World} {t : Tr (Option Nat)} (h : Itm.inW w t) : ∀ x ∈ t.blocks, ∃ cs, Blk w x Itm.NT cs := by
  induction t with
  | nil => intro x hx; cases hx
  | node b k v l r hh n ihl ihr =>
    obtain ⟨h1, h2, h3⟩ := h
    intro x hx
    simp only [Tr.blocks_node, List.mem_cons, List.mem_append] at hx
    rcases hx with rfl | hx | hx
    · exact ⟨_, h1⟩
    · exact ihl h2 x hx
    · exact ihr h3 x hx
theorem ring_blk {w : World} {b0 : Nat} {L : Its} (h : Ring ItT w b0 L) : ∀ x, x = b0 ∨ x ∈ L.map (·.1) → ∃ cs, Blk w x ItT cs := fun x hx => by
  rcases hx with rfl | hx
  · exact ⟨_, h.bare⟩
  · obtain ⟨y, hy, rfl⟩ := List.mem_map.1 hx
    obtain ⟨a, b, hb⟩ := h.line.at hy
    exact ⟨_, hb⟩
theorem tree_blk {w : World} {p : Nat} {t : Tr (Option Nat)} (h : Itm.TreeAt w p t) : ∀ x, x = p ∨ x ∈ t.blocks → ∃ ty cs, Blk w x ty cs ∧ (ty = Itm.TT ∨ ty = Itm.NT) := fun x hx => by
  rcases hx with rfl | hx
  · exact ⟨_, _, h.blk, .inl rfl⟩
  · obtain ⟨cs, hc⟩ := itm_blk h.inn x hx
    exact ⟨_, _, hc, .inr rfl⟩

section
variable {W W' : World} {p : Nat} {b : Bk}
theorem BookAt.fr {D : Nat → Prop} (h : BookAt W p b) (f : Fr D W W') (hd : ∀ k, bkFp p b k → ¬ D k) : BookAt W' p b :=
  ⟨h.blk.fr f (hd _ (.inl rfl)), h.tree.fr f (hd _ (.inr (.inl (.inl rfl)))) (fun k hk => hd _ (.inr (.inl (.inr hk)))), h.ring.fr f (fun k hk => hd k (.inr (.inr hk))), h.keys⟩
theorem BookAt.same (h : BookAt W p b) (f : Fr None W W') : BookAt W' p b := h.fr f fun _ _ h => h
theorem BookAt.lt (h : BookAt W p b) : ∀ k, bkFp p b k → k < W.heap.size := fun k hk => by
  rcases hk with rfl | (rfl | hk) | hk
  · exact h.blk.lt
  · exact h.tree.blk.lt
  · exact h.tree.inn.lt k hk
  · exact h.ring.lt k hk
theorem bk_ring_tree (hr : Ring ItT W b.b0 b.L) (ht : Itm.TreeAt W b.tp b.t) : ∀ x, x = b.b0 ∨ x ∈ b.L.map (·.1) → ¬ (x = b.tp ∨ x ∈ b.t.blocks) := fun x hx h => by
  obtain ⟨cs, h1⟩ := ring_blk hr x hx
  obtain ⟨ty, cs', h2, h3⟩ := tree_blk ht x h
  have e := blk_same h1 h2
  rcases h3 with h3 | h3 <;> rw [h3] at e <;> exact absurd e (by decide)
theorem bk_p_tree (hp : Blk W p BkT (bkc b.tp b.b0 b.nxt b.last b.order)) (ht : Itm.TreeAt W b.tp b.t) : ¬ (p = b.tp ∨ p ∈ b.t.blocks) := fun h => by
  obtain ⟨ty, cs', h2, h3⟩ := tree_blk ht p h
  have e := blk_same hp h2
  rcases h3 with h3 | h3 <;> rw [h3] at e <;> exact absurd e (by decide)
theorem bk_p_ring (hp : Blk W p BkT (bkc b.tp b.b0 b.nxt b.last b.order)) (hr : Ring ItT W b.b0 b.L) : ¬ (p = b.b0 ∨ p ∈ b.L.map (·.1)) := fun h => by
  obtain ⟨cs', h2⟩ := ring_blk hr p h
  exact absurd (blk_same hp h2) (by decide)
end

theorem putL_perm {α : Type} {key : Int} {v : α} {l : List (Int × α)} (h : ∀ y ∈ l, y.1 ≠ key) : (Tr.putL key v l).Perm ((key, v) :: l) := by
  induction l with
  | nil => exact List.Perm.refl _
  | cons x l ih =>
    have hx := h x List.mem_cons_self
    by_cases g : key < x.1
    · have hp : Tr.putL key v (x :: l) = (key, v) :: x :: l := by simp only [Tr.putL]; rw [if_pos g]
      rw [hp]
    · have hp : Tr.putL key v (x :: l) = x :: Tr.putL key v l := by simp only [Tr.putL]; rw [if_neg g, if_pos (by omega)]
      rw [hp]
      exact ((ih fun y hy => h y (List.mem_cons_of_mem _ hy)).cons x).trans (List.Perm.swap _ _ _)

/-! The tree's answer to a key. -/
theorem floorL_mem {key : Int} {v : Option Nat} : ∀ {l : List (Int × Option Nat)}, Tr.Rise l → (key, v) ∈ l → Tr.floorL key l = some (key, v) := by
  intro l hR hm
  have h1 : (key, v) ∈ l.filter (fun x => decide (x.1 ≤ key)) := List.mem_filter.2 ⟨hm, by simp⟩
  unfold Tr.floorL
  obtain ⟨a, c, rfl⟩ := List.append_of_mem hm
  have hr := Tr.rise_mid hR
  have hc : c.filter (fun x => decide (x.1 ≤ key)) = [] := List.filter_eq_nil_iff.2 (fun y hy => by have := hr.2.2.2.1 y hy; simp at this ⊢; omega)
  rw [List.filter_append, List.filter_cons_of_pos (by simp), hc]
  simp
theorem getV_some {key : Int} {v : Option Nat} {t : Itm.TrV} (hR : Tr.Rise t.items) (h : (key, v) ∈ t.items) : Itm.getV key (Tr.floorT key none t) = .tuple #[Itm.E v, .bool true] := by
  rw [Tr.floorT_spec hR, floorL_mem hR h]; simp [Itm.getV]
theorem getV_none {key : Int} {t : Itm.TrV} (hR : Tr.Rise t.items) (h : ∀ x ∈ t.items, x.1 ≠ key) : Itm.getV key (Tr.floorT key none t) = .tuple #[Itm.E none, .bool false] := by
  rw [Tr.floorT_spec hR]
  cases e : Tr.floorL key t.items with
  | none => rfl
  | some x =>
    have := h x (List.mem_filter.1 (List.mem_of_getLast? e)).1
    simp [Itm.getV, this]
theorem BookAt.key_some {W : World} {p : Nat} {b : Bk} (h : BookAt W p b) {x : Nat × Rc} (hx : x ∈ b.L) : (x.2.fr, some x.1) ∈ b.t.items := h.keys.mem_iff.2 (List.mem_map.2 ⟨x, hx, rfl⟩)
theorem BookAt.key_none {W : World} {p : Nat} {b : Bk} (h : BookAt W p b) {key : Int} (hk : ∀ x ∈ b.L, x.2.fr ≠ key) : ∀ y ∈ b.t.items, y.1 ≠ key := fun y hy => by
  obtain ⟨x, hx, rfl⟩ := List.mem_map.1 (h.keys.mem_iff.1 hy)
  exact hk x hx

set_option maxHeartbeats 400000 in
theorem find_some {W : World} {p : Nat} {b : Bk} (h : BookAt W p b) {x : Nat × Rc} (hx : x ∈ b.L) {fr : Int} (hf : x.2.fr = fr) :
    Calls Try.prog 94 #[.pointer (at0 p), .int .i64 fr] W fun e W' => e = .returned (.tuple #[.pointer (at0 x.1), .int .i64 0]) ∧ Fr None W W' := by
  subst hf
  have c0 : W.cell? ⟨p, 0, none⟩ = some (.pointer (at0 b.tp)) := h.blk.cell 0
  have G := Lib.hid (Itm.get_any b.tp b.t x.2.fr W h.tree.blk h.tree.inn)
  rw [getV_some h.tree.rise (h.key_some hx)] at G
  clear h hx
  go_enter Try.func94, Try.ntmps94
  go_wp2_with fail
  refine G.out.mono ?_
  rintro e w2 ⟨rfl, n2, rfl⟩
  have F := Lib.hid ((Fr.refl None W).drewN n2)
  go_wp2_with fail
  go_ret2
  exact ⟨rfl, F.out⟩
set_option maxHeartbeats 400000 in
theorem find_none {W : World} {p : Nat} {b : Bk} (h : BookAt W p b) {fr : Int} (hx : ∀ x ∈ b.L, x.2.fr ≠ fr) :
    Calls Try.prog 94 #[.pointer (at0 p), .int .i64 fr] W fun e W' => e = .returned (.tuple #[.pointer none, .int .i64 10]) ∧ Fr None W W' := by
  have c0 : W.cell? ⟨p, 0, none⟩ = some (.pointer (at0 b.tp)) := h.blk.cell 0
  have G := Lib.hid (Itm.get_any b.tp b.t fr W h.tree.blk h.tree.inn)
  rw [getV_none h.tree.rise (h.key_none hx)] at G
  clear h hx
  go_enter Try.func94, Try.ntmps94
  go_wp2_with fail
  refine G.out.mono ?_
  rintro e w2 ⟨rfl, n2, rfl⟩
  have F := Lib.hid ((Fr.refl None W).drewN n2)
  go_wp2_with fail
  go_ret2
  exact ⟨rfl, F.out⟩

/-- A record that goes once more. -/
def _root_.Go.Und.Rc.goes (r : Rc) (now order : Int) : Rc := { r with sent := now, order := order, lost := false, times := r.times + 1, out := r.out + 1 }

set_option maxHeartbeats 1000000 in
theorem goes_any {W : World} {p tp b0 : Nat} {nxt last order now : Int} {x : Nat} {rx : Rc} {a n : Option Addr} {L : Its} (hp : Blk W p BkT (bkc tp b0 nxt last order)) (hx : Blk W x ItT (itc rx a n)) (hR : Ring ItT W b0 L)
    (hne : x ≠ b0 ∧ x ∉ L.map (·.1)) (ho : 0 ≤ order ∧ order ≤ 1000000000) (ht : 0 ≤ rx.times ∧ rx.times ≤ 1000000000) (hu : 0 ≤ rx.out ∧ rx.out ≤ 1000000000) :
    Calls Try.prog 96 #[.pointer (at0 p), .pointer (at0 x), .int .i64 now] W fun e W' => e = .returned (.tuple #[]) ∧ Blk W' p BkT (bkc tp b0 nxt now (order + 1)) ∧
      Ring ItT W' b0 (L ++ [(x, rx.goes now (order + 1))]) ∧ Fr (fun k => k = p ∨ k = x ∨ k = b0 ∨ k ∈ L.map (·.1)) W W' := by
  obtain ⟨rfr, rto, rsent, rorder, rtimes, rout, rlost⟩ := rx
  simp only at ht hu
  have hpx : p ≠ x := fun e => by subst e; exact absurd (blk_same hp hx) (by decide)
  have hpr : ¬ (p = b0 ∨ p ∈ L.map (·.1)) := fun h => by
    obtain ⟨cs', h2⟩ := ring_blk hR p h
    exact absurd (blk_same hp h2) (by decide)
  have S0 := sep_two hp hx hpx
  have S1 := Lib.hid ((((((S0.set 0 rfl 4 (.int .i64 (order + 1))).set 0 rfl 3 (.int .i64 now)).set 1 rfl 2 (.int .i64 now)).set 1 rfl 3 (.int .i64 (order + 1))).set 1 rfl 6 (.bool false)).set 1 rfl 4 (.int .i64 (rtimes + 1)) |>.set 1 rfl 5 (.int .i64 (rout + 1)))
  have cp1 : W.cell? ⟨p, 1, none⟩ = some (.pointer (at0 b0)) := hp.cell 1
  have cp3 : W.cell? ⟨p, 3, none⟩ = some (.int .i64 last) := hp.cell 3
  have cp4 : W.cell? ⟨p, 4, none⟩ = some (.int .i64 order) := hp.cell 4
  have zp := hp.frozen
  have cx2 : W.cell? ⟨x, 2, none⟩ = some (.int .i64 rsent) := hx.cell 2
  have cx3 : W.cell? ⟨x, 3, none⟩ = some (.int .i64 rorder) := hx.cell 3
  have cx4 : W.cell? ⟨x, 4, none⟩ = some (.int .i64 rtimes) := hx.cell 4
  have cx5 : W.cell? ⟨x, 5, none⟩ = some (.int .i64 rout) := hx.cell 5
  have cx6 : W.cell? ⟨x, 6, none⟩ = some (.bool rlost) := hx.cell 6
  have zx := hx.frozen
  have hxp : x ≠ p := Ne.symm hpx
  have HR := Lib.hid hR
  have HN := Lib.hid (And.intro hne hpr)
  clear S0 hp hx hR hpr hne
  go_enter Try.func96, Try.ntmps96
  go_wp2_with fail
  have X1 := S1.out.at_ 1 rfl
  have R1 := HR.out.fr S1.out.fr (fun k hk h => by
    rcases h with rfl | rfl
    · exact HN.out.2 hk
    · rcases hk with h | h
      · exact HN.out.1.1 h
      · exact HN.out.1.2 h)
  refine (linePut_any b0 x L ⟨rfr, rto, now, order + 1, rtimes + 1, rout + 1, false⟩ a n _ R1 X1 HN.out.1).mono ?_
  rintro e w2 ⟨rfl, q1, q2⟩
  have P2 := Lib.hid (Blk.fr (S1.out.at_ 0 rfl) q2 (fun h => by
    rcases h with h | h | h
    · exact hpx h
    · exact HN.out.2 (.inl h)
    · exact HN.out.2 (.inr h)))
  have F2 := Lib.hid (show Fr (fun k => k = p ∨ k = x ∨ k = b0 ∨ k ∈ L.map (·.1)) W w2 from
    (S1.out.fr.mono (fun k _ h => by rcases h with h | h; exact .inl h; exact .inr (.inl h))).trans (q2.mono (fun k _ h => .inr h)))
  have Q1 := Lib.hid q1
  clear q1 q2 X1 R1 S1 HR HN cp1 cp3 cp4 zp cx2 cx3 cx4 cx5 cx6 zx
  go_wp2_with fail
  go_end0
  exact ⟨rfl, P2.out, Q1.out, F2.out⟩

/-! A book that is made. -/
set_option maxHeartbeats 1000000 in
theorem newBook_any (una : Int) (h0 : 0 ≤ una) (h1 : una ≤ 4611686018427387904) (W : World) :
    Calls Try.prog 50 #[.int .i64 una] W fun e W' => ∃ p b, e = .returned (.tuple #[.pointer (at0 p), .int .i64 0]) ∧ BookAt W' p b ∧ b.L = [] ∧ b.nxt = una ∧ b.last = 0 ∧ b.order = 0 ∧ (∀ k, bkFp p b k → W.heap.size ≤ k) ∧ Fr None W W' := by
  have T := Lib.hid (Itm.newTree_any W)
  go_enter Try.func50, Try.ntmps50
  go_wp2_with fail
  refine T.out.mono ?_
  rintro e w1 ⟨rfl, hw1⟩
  have N := Itm.newTree_at W
  rw [← hw1] at N
  have F1 : Fr None W w1 := by rw [hw1]; exact (Fr.refl None W).alloc _
  have N1 := Lib.hid N; have F1 := Lib.hid F1
  clear N hw1 T
  go_wp2_with fail
  refine (newLine_any w1).mono ?_
  rintro e w2 ⟨b0, rfl, q1, q2, q3⟩
  have P := Lib.hid (show BookAt (w2.alloc (.cells (bkc W.heap.size b0 una 0 0) BkT)) w2.heap.size ⟨W.heap.size, b0, .nil, [], una, 0, 0⟩ ∧ (∀ k, bkFp w2.heap.size ⟨W.heap.size, b0, .nil, [], una, 0, 0⟩ k → W.heap.size ≤ k) ∧ Fr None W (w2.alloc (.cells (bkc W.heap.size b0 una 0 0) BkT)) from
    ⟨⟨Blk.new w2 BkT _, (N1.out.fr q3 (fun h => h) (fun _ _ h => h)).alloc _, q1.fr ((Fr.refl None w2).alloc _) (fun _ _ h => h), List.Perm.nil⟩,
      (fun k hk => by
        have s1 := F1.out.size; have s2 := q3.size
        rcases hk with rfl | (rfl | hk) | (rfl | hk)
        · omega
        · exact Nat.le_refl _
        · cases hk
        · exact Nat.le_trans s1 q2
        · cases hk), (F1.out.trans q3).alloc _⟩)
  clear q1 q2 q3 N1 F1
  go_wp2_with fail
  go_ret2
  exact ⟨_, _, rfl, P.out.1, rfl, rfl, rfl, rfl, P.out.2⟩

/-! A segment is sent. -/
/-- May it be noted? -/
def sendOk (b : Bk) (s : Int × Int) (now : Int) : Prop := lenS s ≠ 0 ∧ s.1 = b.nxt ∧ b.last ≤ now ∧ now ≤ 4611686018427387904

set_option maxHeartbeats 2000000 in
theorem send_no {W : World} {p : Nat} {b : Bk} (h : BookAt W p b) (s : Int × Int) (now : Int) (hn : ¬ sendOk b s now) :
    Calls Try.prog 53 #[.pointer (at0 p), .agg #[.int .i64 s.1, .int .i64 s.2], .int .i64 now] W fun e W' => e = .returned (.int .i64 3) ∧ Fr None W W' := by
  obtain ⟨s1, s2⟩ := s
  have S0 := Lib.hid ((Sep.law W).alloc #[.int .i64 s1, .int .i64 s2] SpT)
  have HL := Lib.hid (len_any s1 s2 (W.alloc (.cells #[.int .i64 s1, .int .i64 s2] SpT)).drew)
  have hB := h.same ((Fr.refl None W).alloc (.cells #[.int .i64 s1, .int .i64 s2] SpT)).drew
  have HB := Lib.hid (fun W1 (f : Fr None (W.alloc (.cells #[.int .i64 s1, .int .i64 s2] SpT)).drew W1) => (hB.same f).blk)
  have HP := Lib.hid (show p ≠ W.heap.size from fun e => by have := h.blk.lt; omega)
  have hn' : lenS (s1, s2) = 0 ∨ s1 ≠ b.nxt ∨ now < b.last ∨ 4611686018427387904 < now := by unfold sendOk at hn; simp only at hn; omega
  have cB : ∀ W1, Fr None (W.alloc (.cells #[.int .i64 s1, .int .i64 s2] SpT)).drew W1 → W1.cell? ⟨W.heap.size, 0, none⟩ = some (.int .i64 s1) ∧ W1.cell? ⟨W.heap.size, 1, none⟩ = some (.int .i64 s2) ∧ W1.cell? ⟨p, 2, none⟩ = some (.int .i64 b.nxt) ∧ W1.cell? ⟨p, 3, none⟩ = some (.int .i64 b.last) := fun W1 f =>
    ⟨Blk.cell ((S0.out.drew.same f).at_ 0 rfl) 0, Blk.cell ((S0.out.drew.same f).at_ 0 rfl) 1, (HB.out W1 f).cell 2, (HB.out W1 f).cell 3⟩
  obtain ⟨i1, i2, i3, i4⟩ := cB _ (Fr.refl None _)
  have c2 : W.cell? ⟨p, 2, none⟩ = some (.int .i64 b.nxt) := h.blk.cell 2
  have c3 : W.cell? ⟨p, 3, none⟩ = some (.int .i64 b.last) := h.blk.cell 3
  have CB := Lib.hid cB
  clear h hB hn cB
  generalize lenS (s1, s2) = len at *
  go_enter Try.func53, Try.ntmps53
  go_wp2_with fail
  refine (wpIn_wide (n := 5)).1 ?_
  refine wpIn_region_segs (by kernel_rfl) ?_
  refine seg_still 1 (by kernel_rfl) ?_
  simp only [List.drop_zero, List.take_succ_cons, List.take_zero, Nat.reduceSub]
  repeat (go_big_quiet_step (fail))
  refine wpQuiet_nil ?_
  refine seg_one (by kernel_rfl) fun K hK => ?_
  simp only [List.drop_succ_cons, List.drop_zero, List.take_succ_cons, List.take_zero]
  gi_wp2_with fail
  first | refine ⟨trivial, (callsIn_wide.2 (HL.out)).mono ?_⟩ | refine ⟨trivial, fun h => (by cases h), (callsIn_wide.2 (HL.out)).mono ?_⟩
  rintro e w1 ⟨rfl, f1⟩
  obtain ⟨d1, d2, d3, d4⟩ := CB.out w1 f1
  have F1 := Lib.hid (show Fr None W w1 from ((Fr.refl None W).alloc _).drew.trans f1)
  clear f1 i1 i2 i3 i4 c2 c3 HL HB CB S0
  dsimp only
  gi_wp2_with fail
  by_cases g1 : len = 0
  · subst g1
    clear hn'
    refine seg_still 25 (by kernel_rfl) ?_
    simp only [List.drop_succ_cons, List.drop_zero, List.take_succ_cons, List.take_zero]
    repeat (go_big_quiet_step (fail))
    refine wpQuiet_nil ?_
    refine seg_done (by rfl) (by kernel_rfl) ?_
    go_wp2_with fail
    go_ret
    exact ⟨rfl, F1.out⟩
  · have e1 : (len == 0) = false := by simpa using g1
    by_cases g2 : s1 = b.nxt
    · have e2 : (s1 != b.nxt) = false := by simp [g2]
      by_cases g3 : now < b.last
      · clear hn' g2
        refine seg_still 25 (by kernel_rfl) ?_
        simp only [List.drop_succ_cons, List.drop_zero, List.take_succ_cons, List.take_zero]
        repeat (go_big_quiet_step (fail))
        refine wpQuiet_nil ?_
        refine seg_done (by rfl) (by kernel_rfl) ?_
        go_wp2_with fail
        go_ret
        exact ⟨rfl, F1.out⟩
      · have g4 : 4611686018427387904 < now := by omega
        clear hn' g2
        refine seg_still 25 (by kernel_rfl) ?_
        simp only [List.drop_succ_cons, List.drop_zero, List.take_succ_cons, List.take_zero]
        repeat (go_big_quiet_step (fail))
        refine wpQuiet_nil ?_
        refine seg_done (by rfl) (by kernel_rfl) ?_
        go_wp2_with fail
        go_ret
        exact ⟨rfl, F1.out⟩
    · have e2 : (s1 != b.nxt) = true := by simpa using g2
      clear hn' g2
      refine seg_still 25 (by kernel_rfl) ?_
      simp only [List.drop_succ_cons, List.drop_zero, List.take_succ_cons, List.take_zero]
      repeat (go_big_quiet_step (fail))
      refine wpQuiet_nil ?_
      refine seg_done (by rfl) (by kernel_rfl) ?_
      go_wp2_with fail
      go_ret
      exact ⟨rfl, F1.out⟩

/-- A book behind a segment that was sent. -/
def Bk.sent (b : Bk) (t : Tr (Option Nat)) (x : Nat) (s : Int × Int) (now : Int) : Bk :=
  { b with t := t, L := b.L ++ [(x, ⟨s.1, s.2, now, b.order + 1, 1, 1, false⟩)], nxt := s.2, last := now, order := b.order + 1 }

set_option maxHeartbeats 4000000 in
theorem send_yes {W : World} {p : Nat} {b : Bk} (h : BookAt W p b) (s : Int × Int) (now : Int) (hn : sendOk b s now) (hk : ∀ x ∈ b.L, x.2.fr < b.nxt) (ho : 0 ≤ b.order ∧ b.order ≤ 1000000000) (hs : b.t.sz ≤ 1000000) :
    Calls Try.prog 53 #[.pointer (at0 p), .agg #[.int .i64 s.1, .int .i64 s.2], .int .i64 now] W fun e W' => e = .returned (.int .i64 0) ∧
      ∃ t x, BookAt W' p (b.sent t x s now) ∧ (∀ k, bkFp p (b.sent t x s now) k → bkFp p b k ∨ W.heap.size ≤ k) ∧ Fr (bkFp p b) W W' := by
  obtain ⟨s1, s2⟩ := s
  obtain ⟨n1, n2, n3, n4⟩ := hn
  simp only at n2
  have S0 := Lib.hid ((Sep.law W).alloc #[.int .i64 s1, .int .i64 s2] SpT)
  have HL := Lib.hid (len_any s1 s2 (W.alloc (.cells #[.int .i64 s1, .int .i64 s2] SpT)).drew)
  have H := Lib.hid h
  have CB : Hid (∀ W1, Fr None (W.alloc (.cells #[.int .i64 s1, .int .i64 s2] SpT)).drew W1 → W1.cell? ⟨W.heap.size, 0, none⟩ = some (.int .i64 s1) ∧ W1.cell? ⟨W.heap.size, 1, none⟩ = some (.int .i64 s2) ∧ W1.cell? ⟨p, 0, none⟩ = some (.pointer (at0 b.tp)) ∧ W1.cell? ⟨p, 2, none⟩ = some (.int .i64 b.nxt) ∧ W1.cell? ⟨p, 3, none⟩ = some (.int .i64 b.last)) := Lib.hid (fun W1 f =>
    ⟨Blk.cell ((S0.out.drew.same f).at_ 0 rfl) 0, Blk.cell ((S0.out.drew.same f).at_ 0 rfl) 1, (H.out.same (((Fr.refl None W).alloc _).drew.trans f)).blk.cell 0, (H.out.same (((Fr.refl None W).alloc _).drew.trans f)).blk.cell 2, (H.out.same (((Fr.refl None W).alloc _).drew.trans f)).blk.cell 3⟩)
  have lb := lenS_bounds (s1, s2)
  have sb := Lib.hid (lenS_pos n1)
  have e1 : (lenS (s1, s2) == 0) = false := by simpa using n1
  have e2 : (s1 != b.nxt) = false := by simp [n2]
  have HN := Lib.hid n2
  have i1 : W.cell? ⟨p, 0, none⟩ = some (.pointer (at0 b.tp)) := h.blk.cell 0
  have i2 : W.cell? ⟨p, 2, none⟩ = some (.int .i64 b.nxt) := h.blk.cell 2
  have i3 : W.cell? ⟨p, 3, none⟩ = some (.int .i64 b.last) := h.blk.cell 3
  clear h n2
  generalize lenS (s1, s2) = len at *
  go_enter Try.func53, Try.ntmps53
  go_wp2_with fail
  refine (wpIn_wide (n := 5)).1 ?_
  refine wpIn_region_segs (by kernel_rfl) ?_
  refine seg_still 1 (by kernel_rfl) ?_
  simp only [List.drop_zero, List.take_succ_cons, List.take_zero, Nat.reduceSub]
  repeat (go_big_quiet_step (fail))
  refine wpQuiet_nil ?_
  refine seg_one (by kernel_rfl) fun K hK => ?_
  simp only [List.drop_succ_cons, List.drop_zero, List.take_succ_cons, List.take_zero]
  gi_wp2_with fail
  first | refine ⟨trivial, (callsIn_wide.2 (HL.out)).mono ?_⟩ | refine ⟨trivial, fun h => (by cases h), (callsIn_wide.2 (HL.out)).mono ?_⟩
  rintro e w1 ⟨rfl, f1⟩
  obtain ⟨d1, d2, d3, d4, d5⟩ := CB.out w1 f1
  have F1 := Lib.hid f1
  clear f1 i1 i2 i3 HL
  dsimp only
  gi_wp2_with fail
  have e3 : ¬ now < b.last := by omega
  have e4 : ¬ 4611686018427387904 < now := by omega
  refine seg_still 25 (by kernel_rfl) ?_
  simp only [List.drop_succ_cons, List.drop_zero, List.take_succ_cons, List.take_zero]
  repeat (go_big_quiet_step (fail))
  refine wpQuiet_nil ?_
  refine seg_done (by rfl) (by kernel_rfl) ?_
  go_wp2_with fail
  have B2 := H.out.same ((((Fr.refl None W).alloc _).drew.trans F1.out).alloc (.cells (itc ⟨s1, s2, 0, 0, 0, 0, false⟩ none none) ItT))
  have X2 := Blk.new w1 ItT (itc ⟨s1, s2, 0, 0, 0, 0, false⟩ none none)
  have C2 := Blk.alloc ((S0.out.drew.same F1.out).at_ 0 rfl) (.cells (itc ⟨s1, s2, 0, 0, 0, 0, false⟩ none none) ItT)
  have G2 := ((((Fr.refl None W).alloc (.cells #[.int .i64 s1, .int .i64 s2] SpT)).drew.trans F1.out).alloc (.cells (itc ⟨s1, s2, 0, 0, 0, 0, false⟩ none none) ItT))
  have hxs := F1.out.size
  simp only [size_drew', World.size_alloc] at hxs
  show Code.wp _ _ _ _ (w1.alloc (.cells (itc ⟨s1, s2, 0, 0, 0, 0, false⟩ none none) ItT))
  generalize (w1.alloc (.cells (itc ⟨s1, s2, 0, 0, 0, 0, false⟩ none none) ItT)) = W2 at *
  generalize w1.heap.size = x at *
  have i0 : W2.cell? ⟨p, 0, none⟩ = some (.pointer (at0 b.tp)) := B2.blk.cell 0
  have i1 : W2.cell? ⟨W.heap.size, 0, none⟩ = some (.int .i64 s1) := Blk.cell C2 0
  have HT := Lib.hid (show Calls _ _ #[.pointer (at0 b.tp), .int .i64 s1, .pointer (at0 x)] _ _ from Itm.putT_tree (p := b.tp) (t := b.t) s1 (some x) (B2.tree.fr (Fr.refl None W2).drew (fun h => h) (fun _ _ h => h)) hs)
  have nb : ∀ k, (k = p ∨ k = x ∨ k = W.heap.size ∨ k = b.b0 ∨ k ∈ b.L.map (·.1)) → ¬ (k = b.tp ∨ k ∈ b.t.blocks) := by
    intro k hk h
    rcases hk with rfl | rfl | rfl | hk
    · exact bk_p_tree B2.blk B2.tree h
    · obtain ⟨ty, cs', h2, h3⟩ := tree_blk B2.tree _ h
      have e := blk_same X2 h2
      rcases h3 with h3 | h3 <;> rw [h3] at e <;> exact absurd e (by decide)
    · obtain ⟨ty, cs', h2, h3⟩ := tree_blk B2.tree _ h
      have e := blk_same C2 h2
      rcases h3 with h3 | h3 <;> rw [h3] at e <;> exact absurd e (by decide)
    · exact bk_ring_tree B2.ring B2.tree k hk h
  have HS2 := Lib.hid (And.intro B2 (And.intro X2 (And.intro C2 (And.intro G2 nb))))
  have KW : Hid (∀ w3, Fr (fun k => k = b.tp ∨ k ∈ b.t.blocks) W2.drew w3 → w3.cell? ⟨p, 0, none⟩ = some (.pointer (at0 b.tp)) ∧ w3.cell? ⟨W.heap.size, 0, none⟩ = some (.int .i64 s1)) :=
    Lib.hid (fun w3 f => ⟨(B2.blk.drew.fr f (nb p (.inl rfl))).cell 0, (C2.drew.fr f (nb _ (.inr (.inr (.inl rfl))))).cell 0⟩)
  clear B2 X2 C2 G2 nb d1 d2 d3 d4 d5 F1 S0 CB
  go_region_held3 (fun w' => w'.cell? ⟨p, 0, none⟩ = some (.pointer (at0 b.tp)) ∧ w'.cell? ⟨W.heap.size, 0, none⟩ = some (.int .i64 s1)) (first | assumption | (go_keep; done))
    (first | ((with_reducible refine HT.out.mono ?_); rintro e w3 ⟨rfl, l1, t', l2, l3, l4, -⟩; have qq := KW.out w3 l1))
  obtain ⟨B2, X2, C2, G2, nb⟩ := HS2.out
  have P3 := B2.blk.drew.fr l1 (nb p (.inl rfl))
  have X3 := X2.drew.fr l1 (nb x (.inr (.inl rfl)))
  have C3 := C2.drew.fr l1 (nb _ (.inr (.inr (.inl rfl))))
  have R3 := B2.ring.fr ((Fr.refl _ W2).drew.trans l1) (fun k hk => nb k (.inr (.inr (.inr hk))))
  have j1 : w3.cell? ⟨W.heap.size, 1, none⟩ = some (.int .i64 s2) := Blk.cell C3 1
  have j2 : w3.cell? ⟨p, 2, none⟩ = some (.int .i64 b.nxt) := Blk.cell P3 2
  have z2 : w3.frozen? ⟨p, 2, none⟩ = false := Blk.frozen P3 2
  have hpx : p ≠ x := fun e => by subst e; exact absurd (blk_same P3 X3) (by decide)
  have hxr : ¬ (x = b.b0 ∨ x ∈ b.L.map (·.1)) := fun h => by
    have := H.out.ring.lt x h
    omega
  have hpr := bk_p_ring B2.blk B2.ring
  have P4 := P3.set 2 (.int .i64 s2)
  have X4 := X3.far (p := ⟨p, 2, none⟩) (Ne.symm hpx) (.int .i64 s2)
  have f4 : Fr (· = p) w3 (w3.setCell ⟨p, 2, none⟩ (.int .i64 s2)) := Fr.setCell (D := (· = p)) (Fr.refl _ w3) (p := ⟨p, 2, none⟩) (fun _ => rfl) _
  have R4 := R3.fr f4 (fun k hk e => hpr (e ▸ hk))
  have HG := Lib.hid (goes_any (now := now) (rx := ⟨s1, s2, 0, 0, 0, 0, false⟩) P4 X4 R4 ⟨fun e => hxr (.inl e), fun e => hxr (.inr e)⟩ ho (by simp) (by simp))
  have T4 := l2.fr f4 (fun e => bk_p_tree B2.blk B2.tree (.inl e.symm)) (fun k hk e => by
    rcases l4 k hk with h | h
    · exact bk_p_tree B2.blk B2.tree (.inr (e ▸ h))
    · have := B2.blk.lt; simp only [size_drew'] at h; omega)
  have nt : ∀ k, (k = p ∨ k = x ∨ k = b.b0 ∨ k ∈ b.L.map (·.1)) → ¬ (k = b.tp ∨ k ∈ t'.blocks) := fun k hk h => by
    obtain ⟨ty, cs', h2, h3⟩ := tree_blk T4 k h
    rcases hk with rfl | rfl | hk
    · have e := blk_same P4 h2
      rcases h3 with h3 | h3 <;> rw [h3] at e <;> exact absurd e (by decide)
    · have e := blk_same X4 h2
      rcases h3 with h3 | h3 <;> rw [h3] at e <;> exact absurd e (by decide)
    · obtain ⟨cs, h1⟩ := ring_blk R4 k hk
      have e := blk_same h1 h2
      rcases h3 with h3 | h3 <;> rw [h3] at e <;> exact absurd e (by decide)
  have kp : t'.items.Perm ((b.L ++ [((x, ⟨s1, s2, now, b.order + 1, 1, 1, false⟩) : Nat × Rc)]).map fun y => (y.2.fr, some y.1)) := by
    rw [l3, List.map_append]
    refine (putL_perm (fun y hy => ?_)).trans ?_
    · obtain ⟨z, hz, rfl⟩ := List.mem_map.1 (H.out.keys.mem_iff.1 hy)
      have := hk z hz; have := HN.out
      dsimp only; omega
    · exact ((H.out.keys.cons _).trans (List.perm_append_singleton _ _).symm)
  have ff : Fr (bkFp p b) W (w3.setCell ⟨p, 2, none⟩ (.int .i64 s2)) := by
    refine ((G2.drew.mono (fun _ _ h => h.elim)).trans (l1.mono (fun k _ h => ?_))).trans (f4.mono (fun k _ h => .inl h))
    exact .inr (.inl h)
  have ft : ∀ k ∈ t'.blocks, k ∈ b.t.blocks ∨ W.heap.size ≤ k := fun k hk => by
    rcases l4 k hk with h | h
    · exact .inl h
    · exact .inr (by rw [h]; exact G2.drew.size)
  have HF := Lib.hid (And.intro T4 (And.intro nt (And.intro kp (And.intro ff (And.intro ft hxs)))))
  clear P3 X3 C3 R3 P4 X4 R4 T4 l1 l2 l3 l4 f4 hxr hpr hpx B2 X2 C2 G2 nb i0 i1 KW HT hxs nt kp ff ft hk
  go_wp2_with fail
  refine HG.out.mono ?_
  rintro e w5 ⟨rfl, q1, q2, q3⟩
  obtain ⟨T4, nt, kp, ff, ft, hxs⟩ := HF.out
  have P := Lib.hid (show ∃ t x, BookAt w5 p (b.sent t x (s1, s2) now) ∧ (∀ k, bkFp p (b.sent t x (s1, s2) now) k → bkFp p b k ∨ W.heap.size ≤ k) ∧ Fr (bkFp p b) W w5 from
    ⟨t', x, ⟨q1, T4.fr q3 (fun h => nt _ h (.inl rfl)) (fun k hk h => nt k h (.inr hk)), q2, kp⟩, (fun k hk => by
      rcases hk with rfl | (rfl | hk) | (rfl | hk)
      · exact .inl (.inl rfl)
      · exact .inl (.inr (.inl (.inl rfl)))
      · rcases ft k hk with h | h
        · exact .inl (.inr (.inl (.inr h)))
        · exact .inr h
      · exact .inl (.inr (.inr (.inl rfl)))
      · simp only [Bk.sent, List.map_append, List.map_cons, List.map_nil, List.mem_append, List.mem_singleton] at hk
        rcases hk with hk | rfl
        · exact .inl (.inr (.inr (.inr hk)))
        · exact .inr (by omega)), ff.trans' q3 (fun k hk h => by
      rcases h with h | h | h | h
      · exact .inl h
      · omega
      · exact .inr (.inr (.inl h))
      · exact .inr (.inr (.inr h)))⟩)
  clear q1 q2 q3 T4 nt kp ff ft hxs HF HS2 HG
  go_wp2_with fail
  go_ret
  exact ⟨rfl, P.out⟩
end Go.Proofs.Ytckbeppofnnfkaa
