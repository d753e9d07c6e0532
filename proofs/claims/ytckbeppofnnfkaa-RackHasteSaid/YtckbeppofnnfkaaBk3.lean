/- A book: a segment that is sent again, one that is deemed lost; walked. -/
import Derived.Test.YtckbeppofnnfkaaBk2
namespace Go.Proofs.Ytckbeppofnnfkaa
open Go.RowKit Go.Und
attribute [local go_sem ↓] Go.wp_at_zero Go.wp_at_succ

/-- A record's value. -/
abbrev rcv (r : Rc) : Value := .agg #[.int .i64 r.fr, .int .i64 r.to, .int .i64 r.sent, .int .i64 r.order, .int .i64 r.times, .int .i64 r.out, .bool r.lost]
abbrev rcc (r : Rc) : Array Value := #[.int .i64 r.fr, .int .i64 r.to, .int .i64 r.sent, .int .i64 r.order, .int .i64 r.times, .int .i64 r.out, .bool r.lost]
abbrev RcT : TypeId := 36

theorem ring_upd {W W' : World} {b0 x : Nat} {l m : Its} {r r' : Rc} (h : Ring ItT W b0 (l ++ (x, r) :: m)) (f : Fr (· = x) W W') (hx : ∀ a n, Blk W x ItT (itc r a n) → Blk W' x ItT (itc r' a n)) : Ring ItT W' b0 (l ++ (x, r') :: m) := by
  obtain ⟨h1, h2, h3⟩ := h
  have hn := List.nodup_cons.1 h3
  have hxb : x ≠ b0 := fun e => hn.1 (by rw [← e]; simp)
  have hn2 := hn.2
  rw [List.map_append, List.map_cons, List.nodup_append] at hn2
  have hfb : firstB (l ++ (x, r') :: m) b0 = firstB (l ++ (x, r) :: m) b0 := by cases l <;> rfl
  have hlb : lastB b0 (l ++ (x, r') :: m) = lastB b0 (l ++ (x, r) :: m) := by rw [lastB_append, lastB_append]; rfl
  rw [line_append] at h2
  refine ⟨by rw [hfb, hlb]; exact h1.fr f (Ne.symm hxb), ?_, by simpa using h3⟩
  rw [line_append]
  refine ⟨h2.1.fr f (fun b hb e => hn2.2.2 b hb x (by simp) e), hx _ _ h2.2.1, h2.2.2.fr f (fun b hb e => ?_)⟩
  subst e
  exact (List.nodup_cons.1 hn2.2.1).1 hb

set_option maxHeartbeats 400000 in
theorem lose_item {W : World} {x : Nat} {r : Rc} {a n : Option Addr} (h : Blk W x ItT (itc r a n)) :
    Calls Try.prog 108 #[.pointer (at0 x)] W fun e W' => e = .returned (.tuple #[]) ∧ Blk W' x ItT (itc { r with lost := true, out := 0 } a n) ∧ W' = (W.setCell ⟨x, 6, none⟩ (.bool true)).setCell ⟨x, 5, none⟩ (.int .i64 0) ∧ Fr (· = x) W W' := by
  have c5 : W.cell? ⟨x, 5, none⟩ = some (.int .i64 r.out) := h.cell 5
  have c6 : W.cell? ⟨x, 6, none⟩ = some (.bool r.lost) := h.cell 6
  have z := h.frozen
  have S := Lib.hid (((Sep.one (.blk x ItT (itc r a n)) h).set 0 rfl 6 (.bool true)).set 0 rfl 5 (.int .i64 0))
  clear h
  go_enter Try.func108, Try.ntmps108
  go_wp2_with fail
  go_end0
  exact ⟨rfl, S.out.at_ 0 rfl, rfl, S.out.fr⟩

/-- A book in which x's record is another one. -/
theorem BookAt.upd {W W' : World} {p x : Nat} {b : Bk} {l m : Its} {r r' : Rc} (h : BookAt W p b) (hL : b.L = l ++ (x, r) :: m) (f : Fr (· = x) W W') (hx : ∀ a n, Blk W x ItT (itc r a n) → Blk W' x ItT (itc r' a n)) (hf : r'.fr = r.fr) :
    BookAt W' p { b with L := l ++ (x, r') :: m } ∧ (∀ k, bkFp p { b with L := l ++ (x, r') :: m } k → bkFp p b k) ∧ Fr (bkFp p b) W W' := by
  have hm : x ∈ b.L.map (·.1) := by rw [hL]; simp
  have e1 : (l ++ (x, r') :: m).map (·.1) = b.L.map (·.1) := by rw [hL]; simp
  have hr := h.ring
  rw [hL] at hr
  refine ⟨⟨h.blk.fr f (fun e => bk_p_ring h.blk h.ring (.inr (e ▸ hm))), h.tree.fr f (fun e => bk_ring_tree h.ring h.tree x (.inr hm) (.inl e.symm)) (fun k hk e => bk_ring_tree h.ring h.tree x (.inr hm) (.inr (e ▸ hk))), ring_upd hr f hx, ?_⟩, fun k hk => ?_, f.mono fun k _ e => .inr (.inr (.inr (e ▸ hm)))⟩
  · have := h.keys
    rw [hL] at this
    simpa [hf] using this
  · rcases hk with hk | hk | (hk | hk)
    · exact .inl hk
    · exact .inr (.inl hk)
    · exact .inr (.inr (.inl hk))
    · exact .inr (.inr (.inr (e1 ▸ hk)))

theorem ring_item {W : World} {b0 x : Nat} {l m : Its} {r : Rc} (h : Ring ItT W b0 (l ++ (x, r) :: m)) : ∃ a n, Blk W x ItT (itc r a n) := by
  obtain ⟨a, n, hb⟩ := h.line.at (x := (x, r)) (by simp)
  exact ⟨_, _, hb⟩

set_option maxHeartbeats 1000000 in
theorem lose_none {W : World} {p : Nat} {b : Bk} (h : BookAt W p b) {fr : Int} (hx : ∀ x ∈ b.L, x.2.fr ≠ fr) :
    Calls Try.prog 54 #[.pointer (at0 p), .int .i64 fr] W fun e W' => e = .returned (.int .i64 10) ∧ Fr None W W' := by
  have H := Lib.hid (find_none h hx)
  clear h hx
  go_enter Try.func54, Try.ntmps54
  go_wp2_with fail
  refine H.out.mono ?_
  rintro e w1 ⟨rfl, f1⟩
  have F := Lib.hid f1; clear f1
  go_wp2_with fail
  go_ret
  exact ⟨rfl, F.out⟩

set_option maxHeartbeats 1000000 in
theorem lose_twice {W : World} {p x : Nat} {b : Bk} {l m : Its} {r : Rc} (h : BookAt W p b) (hL : b.L = l ++ (x, r) :: m) (hl : r.lost = true) :
    Calls Try.prog 54 #[.pointer (at0 p), .int .i64 r.fr] W fun e W' => e = .returned (.int .i64 13) ∧ Fr None W W' := by
  have hr := h.ring
  rw [hL] at hr
  obtain ⟨a, n, hb⟩ := ring_item hr
  have H := Lib.hid (find_some h (x := (x, r)) (by rw [hL]; simp) rfl)
  have HC := Lib.hid (fun W1 (f : Fr None W W1) => (hb.fr f id).cell 6)
  rw [show (itc r a n)[6]? = some (.bool true) by rw [← hl]; rfl] at HC
  clear h hL hr hb hl
  go_enter Try.func54, Try.ntmps54
  go_wp2_with fail
  refine H.out.mono ?_
  rintro e w1 ⟨rfl, f1⟩
  have c6 := HC.out w1 f1
  have F := Lib.hid f1; clear f1
  go_wp2_with fail
  go_ret
  exact ⟨rfl, F.out⟩

set_option maxHeartbeats 1000000 in
theorem lose_once {W : World} {p x : Nat} {b : Bk} {l m : Its} {r : Rc} (h : BookAt W p b) (hL : b.L = l ++ (x, r) :: m) (hl : r.lost = false) :
    Calls Try.prog 54 #[.pointer (at0 p), .int .i64 r.fr] W fun e W' => e = .returned (.int .i64 0) ∧ BookAt W' p { b with L := l ++ (x, { r with lost := true, out := 0 }) :: m } ∧ (∀ k, bkFp p { b with L := l ++ (x, { r with lost := true, out := 0 }) :: m } k → bkFp p b k) ∧ Fr (bkFp p b) W W' := by
  have hr := h.ring
  rw [hL] at hr
  obtain ⟨a, n, hb⟩ := ring_item hr
  have H := Lib.hid (find_some h (x := (x, r)) (by rw [hL]; simp) rfl)
  have HC := Lib.hid (fun W1 (f : Fr None W W1) => (hb.fr f id).cell 6)
  rw [show (itc r a n)[6]? = some (.bool false) by rw [← hl]; rfl] at HC
  have HI := Lib.hid (fun W1 (f : Fr None W W1) => lose_item (hb.fr f id))
  have HB := Lib.hid h
  clear h hr hb hl
  go_enter Try.func54, Try.ntmps54
  go_wp2_with fail
  refine H.out.mono ?_
  rintro e w1 ⟨rfl, f1⟩
  have c6 := HC.out w1 f1
  have F := Lib.hid f1; clear f1
  go_wp2_with fail
  refine (HI.out w1 F.out).mono ?_
  rintro e w2 ⟨rfl, q1, q2, q3⟩
  have U := (HB.out.same F.out).upd (r' := { r with lost := true, out := 0 }) hL q3 (fun a' n' h => by
    have z := q2
    subst z
    exact (h.set 6 (.bool true)).set 5 (.int .i64 0)) rfl
  have P := Lib.hid (And.intro U.1 (And.intro U.2.1 ((F.out.mono fun _ _ h => h.elim).trans U.2.2)))
  clear U q1 q2 q3 HI HC HB F
  go_wp2_with fail
  go_ret
  exact ⟨rfl, P.out⟩

theorem sep_rec7 {D : Nat → Prop} {w0 w : World} {L : List Ob} (S : Sep D w0 w L) (i : Nat) {b : Nat} {t : TypeId} {u0 u1 u2 u3 u4 u5 u6 : Value} (h : L[i]? = some (Ob.blk b t #[u0, u1, u2, u3, u4, u5, u6])) (v0 v1 v2 v3 v4 v5 v6 : Value) :
    Sep D w0 (((((((w.setCell ⟨b, 0, none⟩ v0).setCell ⟨b, 1, none⟩ v1).setCell ⟨b, 2, none⟩ v2).setCell ⟨b, 3, none⟩ v3).setCell ⟨b, 4, none⟩ v4).setCell ⟨b, 5, none⟩ v5).setCell ⟨b, 6, none⟩ v6) (L.set i (Ob.blk b t #[v0, v1, v2, v3, v4, v5, v6])) := by
  have hi := (List.getElem?_eq_some_iff.1 h).1
  have st : ∀ {W : World} {cs : Array Value} {M : List Ob}, i < M.length → Sep D w0 W (M.set i (Ob.blk b t cs)) → ∀ j v, Sep D w0 (W.setCell ⟨b, j, none⟩ v) (M.set i (Ob.blk b t (cs.setIfInBounds j v))) := by
    intro W cs M hM S j v
    have := S.set i (b := b) (t := t) (cs := cs) (by simp [hM]) j v
    rwa [List.set_set] at this
  have S0 : Sep D w0 w (L.set i (Ob.blk b t #[u0, u1, u2, u3, u4, u5, u6])) := by
    have e : L.set i (Ob.blk b t #[u0, u1, u2, u3, u4, u5, u6]) = L := by
      obtain ⟨_, h2⟩ := List.getElem?_eq_some_iff.1 h
      rw [← h2, List.set_getElem_self]
    rw [e]; exact S
  have h7 := st hi (st hi (st hi (st hi (st hi (st hi (st hi S0 0 v0) 1 v1) 2 v2) 3 v3) 4 v4) 5 v5) 6 v6
  simpa only [List.setIfInBounds_toArray, List.set_cons_zero, List.set_cons_succ] using h7

/-! A segment is sent again. -/
set_option maxHeartbeats 1000000 in
theorem again_range {W : World} {p : Nat} {b : Bk} (h : BookAt W p b) (fr now : Int) (hn : now < b.last ∨ 4611686018427387904 < now) :
    Calls Try.prog 46 #[.pointer (at0 p), .int .i64 fr, .int .i64 now] W fun e W' => e = .returned (.tuple #[rcv .zero, .int .i64 3]) ∧ Fr None W W' := by
  have c3 : W.cell? ⟨p, 3, none⟩ = some (.int .i64 b.last) := h.blk.cell 3
  have hlp := h.blk.lt
  have S := Lib.hid ((Sep.law W).alloc (rcc .zero) RcT)
  clear h
  by_cases g : now < b.last
  all_goals
    try have g2 : 4611686018427387904 < now := by omega
    clear hn
    go_enter Try.func46, Try.ntmps46
    go_wp2_with fail
    exact bodyPost_ret (v := .tuple #[rcv .zero, .int .i64 3]) (by simp [results, Try.results46, go_sem, Rc.zero]) rfl ⟨rfl, (Fr.refl None W).alloc _⟩

set_option maxHeartbeats 1000000 in
theorem again_none {W : World} {p : Nat} {b : Bk} (h : BookAt W p b) (fr now : Int) (hn : b.last ≤ now) (hn2 : now ≤ 4611686018427387904) (hx : ∀ x ∈ b.L, x.2.fr ≠ fr) :
    Calls Try.prog 46 #[.pointer (at0 p), .int .i64 fr, .int .i64 now] W fun e W' => e = .returned (.tuple #[rcv .zero, .int .i64 10]) ∧ Fr None W W' := by
  have c3 : W.cell? ⟨p, 3, none⟩ = some (.int .i64 b.last) := h.blk.cell 3
  have hlp := h.blk.lt
  have S := Lib.hid ((Sep.law W).alloc (rcc .zero) RcT)
  have H := Lib.hid (find_none (h.same ((Fr.refl None W).alloc (.cells (rcc .zero) RcT))) hx)
  clear h hx
  go_enter Try.func46, Try.ntmps46
  go_wp2_with fail
  refine H.out.mono ?_
  rintro e w1 ⟨rfl, f1⟩
  have S1 := Lib.hid (S.out.same f1)
  have q := S1.out.at_ 0 rfl
  have cq := Blk.cell q; have zq := Blk.frozen q; have lq := Blk.lt q
  have F := Lib.hid (sep_rec7 S1.out 0 rfl (.int .i64 0) (.int .i64 0) (.int .i64 0) (.int .i64 0) (.int .i64 0) (.int .i64 0) (.bool false)).fr
  clear f1 q S H
  go_wp2_with fail
  exact bodyPost_ret (v := .tuple #[rcv .zero, .int .i64 10]) (by simp [results, Try.results46, go_sem, Rc.zero, cq]) rfl ⟨rfl, F.out⟩

/-- A book behind a segment that was sent again. -/
def Bk.again (b : Bk) (l m : Its) (x : Nat) (r : Rc) (now : Int) : Bk :=
  { b with L := (l ++ m) ++ [(x, r.goes now (b.order + 1))], last := now, order := b.order + 1 }

set_option maxHeartbeats 4000000 in
theorem again_some {W : World} {p x : Nat} {b : Bk} {l m : Its} {r : Rc} (h : BookAt W p b) (hL : b.L = l ++ (x, r) :: m) (now : Int) (hn : b.last ≤ now) (hn2 : now ≤ 4611686018427387904) (ho : 0 ≤ b.order ∧ b.order ≤ 1000000000)
    (ht : 0 ≤ r.times ∧ r.times ≤ 1000000000) (hu : 0 ≤ r.out ∧ r.out ≤ 1000000000) :
    Calls Try.prog 46 #[.pointer (at0 p), .int .i64 r.fr, .int .i64 now] W fun e W' => e = .returned (.tuple #[rcv (r.goes now (b.order + 1)), .int .i64 0]) ∧
      BookAt W' p (b.again l m x r now) ∧ (∀ k, bkFp p (b.again l m x r now) k → bkFp p b k) ∧ Fr (bkFp p b) W W' := by
  have c3 : W.cell? ⟨p, 3, none⟩ = some (.int .i64 b.last) := h.blk.cell 3
  have hlp := h.blk.lt
  have S := Lib.hid ((Sep.law W).alloc (rcc .zero) RcT)
  have h1 := h.same ((Fr.refl None W).alloc (.cells (rcc .zero) RcT))
  have H := Lib.hid (find_some h1 (x := (x, r)) (by rw [hL]; simp) rfl)
  have c1 : ∀ W1, Fr None (W.alloc (.cells (rcc .zero) RcT)) W1 → W1.cell? ⟨p, 1, none⟩ = some (.pointer (at0 b.b0)) := fun W1 f => (h1.same f).blk.cell 1
  have HB := Lib.hid h
  have HO := Lib.hid (And.intro ho (And.intro ht hu))
  have C1 := Lib.hid c1
  have HLT := Lib.hid h.lt
  clear h h1 ho ht hu c1
  go_enter Try.func46, Try.ntmps46
  go_wp2_with fail
  refine H.out.mono ?_
  rintro e w1 ⟨rfl, f1⟩
  have d1 := C1.out w1 f1
  have B1 := HB.out.same (((Fr.refl None W).alloc _).trans f1)
  have F1 := Lib.hid (((Fr.refl None W).alloc (.cells (rcc .zero) RcT)).trans f1)
  have S1 := Lib.hid (S.out.same f1)
  have hr := B1.ring
  rw [hL] at hr
  have HC := Lib.hid (lineCut_any b.b0 x l m r w1 hr)
  have HB1 := Lib.hid B1
  clear f1 B1 hr H C1 S
  go_wp2_with fail
  refine HC.out.mono ?_
  rintro e w2 ⟨rfl, q1, ⟨a, n, q2⟩, q3⟩
  have hrq : ∀ k, (k = b.b0 ∨ k ∈ (l ++ (x, r) :: m).map (·.1)) → (k = b.b0 ∨ k ∈ b.L.map (·.1)) := fun k hk => by rw [hL]; exact hk
  have P2 := HB1.out.blk.fr q3 (fun h => bk_p_ring HB1.out.blk HB1.out.ring (hrq _ h))
  have hnd := HB1.out.ring.nodup
  rw [hL] at hnd
  have hxl : x ≠ b.b0 ∧ x ∉ (l ++ m).map (·.1) := by
    have hn' := List.nodup_cons.1 hnd
    refine ⟨fun e => hn'.1 (by rw [← e]; simp), fun hx => ?_⟩
    have h2 := hn'.2
    rw [List.map_append, List.map_cons, List.nodup_append] at h2
    rw [List.map_append] at hx
    rcases List.mem_append.1 hx with h | h
    · exact h2.2.2 x h x (by simp) rfl
    · exact (List.nodup_cons.1 h2.2.1).1 h
  have HG := Lib.hid (goes_any (now := now) P2 q2 q1 hxl HO.out.1 HO.out.2.1 HO.out.2.2)
  have R2 := Blk.fr (S1.out.at_ 0 rfl) q3 (fun h => by have := HLT.out _ (.inr (.inr (hrq _ h))); omega)
  have T2 := HB1.out.tree.fr q3 (fun h => bk_ring_tree HB1.out.ring HB1.out.tree _ (hrq _ h) (.inl rfl)) (fun k hk h => bk_ring_tree HB1.out.ring HB1.out.tree _ (hrq _ h) (.inr hk))
  have F2 := (F1.out.mono (fun _ _ h => h.elim)).trans (q3.mono (fun k _ h => (Or.inr (Or.inr (hrq k h)) : bkFp p b k)))
  have HS := Lib.hid (And.intro P2 (And.intro q2 (And.intro q1 (And.intro R2 (And.intro T2 F2)))))
  clear P2 q1 q2 q3 R2 T2 F2 d1 HC S1 F1 hnd
  go_wp2_with fail
  refine HG.out.mono ?_
  rintro e w3 ⟨rfl, q1, q2, q3⟩
  obtain ⟨P2, X2, R2, Q2, T2, F2⟩ := HS.out
  have hW : ∀ k, (k = p ∨ k = x ∨ k = b.b0 ∨ k ∈ (l ++ m).map (·.1)) → bkFp p b k := fun k hk => by
    rcases hk with rfl | rfl | hk | hk
    · exact .inl rfl
    · exact .inr (.inr (.inr (by rw [hL]; simp)))
    · exact .inr (.inr (.inl hk))
    · refine .inr (.inr (.inr ?_))
      rw [hL, List.map_append, List.map_cons]
      rw [List.map_append] at hk
      rcases List.mem_append.1 hk with h | h
      · exact List.mem_append_left _ h
      · exact List.mem_append_right _ (List.mem_cons_of_mem _ h)
  have hpt := bk_p_tree HB1.out.blk HB1.out.tree
  have hk2 : ∀ k, (k = x ∨ k = b.b0 ∨ k ∈ (l ++ m).map (·.1)) → (k = b.b0 ∨ k ∈ b.L.map (·.1)) := fun k hk => by
    rcases hk with rfl | hk | hk
    · exact .inr (by rw [hL]; simp)
    · exact .inl hk
    · refine .inr ?_
      rw [hL, List.map_append, List.map_cons]
      rw [List.map_append] at hk
      rcases List.mem_append.1 hk with h | h
      · exact List.mem_append_left _ h
      · exact List.mem_append_right _ (List.mem_cons_of_mem _ h)
  have hnt : ∀ k, (k = p ∨ k = x ∨ k = b.b0 ∨ k ∈ (l ++ m).map (·.1)) → ¬ (k = b.tp ∨ k ∈ b.t.blocks) := fun k hk h => by
    rcases hk with rfl | hk
    · exact hpt h
    · exact bk_ring_tree HB1.out.ring HB1.out.tree k (hk2 k hk) h
  obtain ⟨a', n', X3⟩ := ring_item (l := l ++ m) (m := []) q2
  have R3 := Blk.fr Q2 q3 (fun h => by have := HLT.out _ (hW _ h); omega)
  have T3 := T2.fr q3 (fun h => hnt _ h (.inl rfl)) (fun k hk h => hnt k h (.inr hk))
  have F3 := F2.trans (q3.mono (fun k _ h => hW k h))
  have kp : b.t.items.Perm (((l ++ m) ++ [(x, r.goes now (b.order + 1))]).map fun y => (y.2.fr, some y.1)) := by
    refine HB1.out.keys.trans ?_
    rw [hL]
    refine (List.Perm.map _ (List.perm_middle (l₁ := l) (l₂ := m) (a := (x, r)))).trans ?_
    rw [List.map_cons, List.map_append (l₂ := [(x, r.goes now (b.order + 1))])]
    exact (List.perm_append_singleton _ _).symm
  have B3 : BookAt w3 p (b.again l m x r now) := ⟨q1, T3, q2, kp⟩
  have fpk : ∀ k, bkFp p (b.again l m x r now) k → bkFp p b k := fun k hk => by
    rcases hk with hk | hk | (hk | hk)
    · exact .inl hk
    · exact .inr (.inl hk)
    · exact .inr (.inr (.inl hk))
    · simp only [Bk.again, List.map_append, List.map_cons, List.map_nil, List.mem_append, List.mem_singleton] at hk
      refine .inr (.inr (hk2 k ?_))
      rcases hk with hk | hk
      · exact .inr (.inr (by rw [List.map_append]; exact List.mem_append.2 hk))
      · exact .inl hk
  have hS : W.heap.size ≠ p ∧ ∀ k, bkFp p b k → k ≠ W.heap.size := ⟨by omega, fun k hk e => by have := HLT.out k hk; omega⟩
  have e0 : w3.cell? ⟨x, 0, none⟩ = some (.int .i64 r.fr) := X3.cell 0
  have e1 : w3.cell? ⟨x, 1, none⟩ = some (.int .i64 r.to) := X3.cell 1
  have e2 : w3.cell? ⟨x, 2, none⟩ = some (.int .i64 now) := X3.cell 2
  have e3 : w3.cell? ⟨x, 3, none⟩ = some (.int .i64 (b.order + 1)) := X3.cell 3
  have e4 : w3.cell? ⟨x, 4, none⟩ = some (.int .i64 (r.times + 1)) := X3.cell 4
  have e5 : w3.cell? ⟨x, 5, none⟩ = some (.int .i64 (r.out + 1)) := X3.cell 5
  have e6 : w3.cell? ⟨x, 6, none⟩ = some (.bool false) := X3.cell 6
  have cq := Blk.cell R3; have zq := Blk.frozen R3; have lq := Blk.lt R3
  have hlw := F2.size
  have Z := Lib.hid (sep_rec7 (Sep.one (.blk W.heap.size RcT (rcc .zero)) R3) 0 rfl (.int .i64 r.fr) (.int .i64 r.to) (.int .i64 now) (.int .i64 (b.order + 1)) (.int .i64 (r.times + 1)) (.int .i64 (r.out + 1)) (.bool false))
  have HZ := Lib.hid (And.intro (B3.fr Z.out.fr (fun k hk e => hS.2 k (fpk k hk) e)) (And.intro fpk (F3.trans' Z.out.fr (fun k hk e => by
    have e' : k = W.heap.size := e
    omega))))
  clear q1 q2 q3 P2 X2 R2 Q2 T2 F2 hW hpt hk2 hnt X3 R3 T3 F3 kp B3 fpk hS HG HS HLT HB HB1 hL hxl hrq Z
  go_wp2_with fail
  exact bodyPost_ret (v := .tuple #[rcv (r.goes now (b.order + 1)), .int .i64 0]) (by simp [results, Try.results46, go_sem, Rc.goes, cq]) rfl ⟨rfl, HZ.out⟩
end Go.Proofs.Ytckbeppofnnfkaa
