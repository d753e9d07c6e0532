/- The tree's small functions, walked. -/
import Derived.Test.YtckbeppofnnfkaaTree
import Derived.Test.YtckbeppofnnfkaaRegion
namespace Go.Proofs.Ytckbeppofnnfkaa.Itm
open Go.RowKit Go.Und

/-- The values that the tree holds. -/
abbrev VT : Type := Option Nat
abbrev E (v : VT) : Value := .pointer (v.map fun b => ⟨b, 0, none⟩)
/-- The node's type. -/
abbrev NT : TypeId := 198

abbrev TrV := Tr VT
abbrev inW (w : World) (t : TrV) : Prop := t.In E NT w

theorem ret_int {k : IntKind} {a b : Int} (h : a = b) : Ending.returned (.int k a) = .returned (.int k b) := by rw [h]
theorem ret_bool {a b : Bool} (h : a = b) : Ending.returned (.bool a) = .returned (.bool b) := by rw [h]

set_option maxHeartbeats 400000 in
theorem tall_any (t : TrV) (w : World) (hin : inW w t) :
    Calls Try.prog 176 #[.pointer t.ptr] w fun e w' => e = .returned (.int .i64 t.ht) ∧ w' = w := by
  cases t with
  | nil =>
    show Calls _ _ #[.pointer none] _ _
    go_enter Try.func176, Try.ntmps176
    go_wp2
    go_ret
    exact ⟨rfl, rfl⟩
  | node b k v l r h n =>
    have hc := hin.1.cell
    show Calls _ _ #[.pointer (some ⟨b, 0, none⟩)] _ _
    go_enter Try.func176, Try.ntmps176
    go_wp2
    go_ret
    exact ⟨rfl, rfl⟩

set_option maxHeartbeats 400000 in
theorem size_any (t : TrV) (w : World) (hin : inW w t) :
    Calls Try.prog 139 #[.pointer t.ptr] w fun e w' => e = .returned (.int .i64 t.sz) ∧ w' = w := by
  cases t with
  | nil =>
    show Calls _ _ #[.pointer none] _ _
    go_enter Try.func139, Try.ntmps139
    go_wp2
    go_ret
    exact ⟨rfl, rfl⟩
  | node b k v l r h n =>
    have hc := hin.1.cell
    show Calls _ _ #[.pointer (some ⟨b, 0, none⟩)] _ _
    go_enter Try.func139, Try.ntmps139
    go_wp2
    go_ret
    exact ⟨rfl, rfl⟩

/-- What the numbers of a tree's nodes are bounded by, where the program reckons with them. -/
def Small (t : TrV) : Prop := 0 ≤ t.ht ∧ t.ht ≤ 1000000000 ∧ 0 ≤ t.sz ∧ t.sz ≤ 1000000000

set_option maxHeartbeats 400000 in
theorem lean_any (b : Nat) (k : Int) (v : VT) (l r : TrV) (h n : Int) (w : World) (hin : inW w (.node b k v l r h n)) (hl : Small l) (hr : Small r) :
    Calls Try.prog 172 #[.pointer (some ⟨b, 0, none⟩)] w fun e w' => e = .returned (.int .i64 (l.ht - r.ht)) ∧ ∃ n, w' = w.drewN n := by
  obtain ⟨hb, h1, h2⟩ := hin
  have hc := hb.cell
  obtain ⟨l1, l2, _, _⟩ := hl
  obtain ⟨r1, r2, _, _⟩ := hr
  have tl := fun m => tall_any l (w.drewN m) (h1.fr ((Fr.refl None w).drewN m) fun _ _ h => h)
  have tr := fun m => tall_any r (w.drewN m) (h2.fr ((Fr.refl None w).drewN m) fun _ _ h => h)
  have HL := Lib.hid tl; have HR := Lib.hid tr; clear tl tr h1 h2 hb
  generalize l.ptr = pl at *
  generalize r.ptr = pr at *
  go_enter Try.func172, Try.ntmps172
  go_wp2_with fail
  go_quiet ((first | (with_reducible exact Calls.quiet_of_same (HL.out _)) | (with_reducible exact Calls.quiet_of_same (HR.out _))))
  go_wp2
  go_ret
  exact ⟨rfl, _, rfl⟩

theorem max_if (a b : Int) : (if a < b then b else a) = max a b := by omega

set_option maxHeartbeats 400000 in
theorem tell_any (b : Nat) (k : Int) (v : VT) (l r : TrV) (h n : Int) (w : World) (hin : inW w (.node b k v l r h n)) (hbl : b ∉ l.blocks) (hbr : b ∉ r.blocks) (hl : Small l) (hr : Small r) :
    Calls Try.prog 171 #[.pointer (some ⟨b, 0, none⟩)] w fun e w' => e = .returned (.tuple #[]) ∧ Fr (· = b) w w' ∧ w'.heap.size = w.heap.size ∧
      Blk w' b NT #[.int .i64 k, E v, .pointer l.ptr, .pointer r.ptr, .int .i64 (1 + max l.ht r.ht), .int .i64 (1 + l.sz + r.sz)] := by
  obtain ⟨hb, h1, h2⟩ := hin
  obtain ⟨l1, l2, l3, l4⟩ := hl
  obtain ⟨r1, r2, r3, r4⟩ := hr
  have hbm := fun n => hb.drewN n
  have hc := fun x => (hbm x).cell
  have TL := Lib.hid (fun x => tall_any l _ (h1.fr ((Fr.refl None w).drewN x) (fun _ _ h => h))); have TR := Lib.hid (fun x => tall_any r _ (h2.fr ((Fr.refl None w).drewN x) (fun _ _ h => h)))
  have Hb := Lib.hid hbm
  have H1 := Lib.hid h1; have H2 := Lib.hid h2
  clear hbm hb h1 h2
  go_enter Try.func171, Try.ntmps171
  generalize hl : l.ptr = pl at *
  generalize hr : r.ptr = pr at *
  go_wp2_with fail
  refine wp_region_tail (C := fun w' => ∃ n, w' = w.drewN n) 15 (by kernel_rfl) (by kernel_rfl) ⟨1, rfl⟩ ?_
  simp only [List.take_succ_cons, List.take_zero, List.drop_succ_cons, List.drop_zero]
  repeat (go_big_quiet_step (first | (with_reducible exact Calls.quiet_of_same (TL.out _)) | (with_reducible exact Calls.quiet_of_same (TR.out _))))
  refine wpQuiet_nil ?_
  intro w' hw'
  obtain ⟨n1, rfl⟩ := hw'
  have hf := (Hb.out n1).frozen
  simp only [max_if]
  go_wp2_with fail
  have hb2 := (Hb.out n1).set 4 (.int .i64 (1 + max l.ht r.ht))
  have fr2 := Lib.hid (Fr.setCell (p := ⟨b, 4, none⟩) ((Fr.refl (· = b) w).drewN n1) (fun _ => rfl) (.int .i64 (1 + max l.ht r.ht)))
  have hz2 : ((w.drewN n1).setCell ⟨b, 4, none⟩ (.int .i64 (1 + max l.ht r.ht))).heap.size = w.heap.size := by simp
  simp only [List.setIfInBounds_toArray, List.set_cons_succ, List.set_cons_zero] at hb2
  generalize (w.drewN n1).setCell ⟨b, 4, none⟩ (.int .i64 (1 + max l.ht r.ht)) = w2 at *
  have SL := Lib.hid (fun x => size_any l _ ((H1.out.fr fr2.out (fun x hx e => hbl (e ▸ hx))).fr ((Fr.refl None w2).drewN x) (fun _ _ h => h)))
  have SR := Lib.hid (fun x => size_any r _ ((H2.out.fr fr2.out (fun x hx e => hbr (e ▸ hx))).fr ((Fr.refl None w2).drewN x) (fun _ _ h => h)))
  rw [hl] at SL; rw [hr] at SR
  clear hf hc
  have hc := fun n => (hb2.drewN n).cell
  have Hb2 := Lib.hid hb2; have HZ2 := Lib.hid hz2; clear hb2 hz2
  refine wp_region_tail (C := fun w' => ∃ n, w' = w2.drewN n) 15 (by kernel_rfl) (by kernel_rfl) ⟨1, rfl⟩ ?_
  simp only [List.take_succ_cons, List.take_zero, List.drop_succ_cons, List.drop_zero]
  repeat (go_big_quiet_step (first | (with_reducible exact Calls.quiet_of_same (SL.out _)) | (with_reducible exact Calls.quiet_of_same (SR.out _))))
  refine wpQuiet_nil ?_
  intro w' hw'
  obtain ⟨n2, rfl⟩ := hw'
  have hf := (Hb2.out.drewN n2).frozen
  go_wp2_with fail
  go_end0
  have hb3 := (Hb2.out.drewN n2).set 5 (.int .i64 (1 + l.sz + r.sz))
  simp only [List.setIfInBounds_toArray, List.set_cons_succ, List.set_cons_zero] at hb3
  exact ⟨rfl, fr2.out.trans (Fr.setCell (p := ⟨b, 5, none⟩) ((Fr.refl (· = b) w2).drewN n2) (fun _ => rfl) _), by simp [HZ2.out], hb3⟩

/-- A node that tells rightly: both sides do, and they are small. -/
def Sides (l r : TrV) : Prop := l.Right ∧ r.Right ∧ l.sz + r.sz ≤ 1000000000
theorem Sides.small {l r : TrV} (h : Sides l r) : Small l ∧ Small r := by
  obtain ⟨h1, h2, h3⟩ := h
  have a := h1.len; have b := h2.len
  unfold Small; omega

theorem tell_did (b : Nat) (k : Int) (v : VT) (l r : TrV) (h n : Int) (w : World) (hin : inW w (.node b k v l r h n)) (hd : (Tr.node b k v l r h n).blocks.Nodup) (hs : Sides l r) :
    Calls Try.prog 171 #[.pointer (some ⟨b, 0, none⟩)] w fun e w' => e = .returned (.tuple #[]) ∧ inW w' (Tr.mk b k v l r) ∧ Fr (· = b) w w' ∧ w'.heap.size = w.heap.size := by
  obtain ⟨d1, d2, _⟩ := Tr.nodup_node hd
  refine (tell_any b k v l r h n w hin d1 d2 hs.small.1 hs.small.2).mono fun e w' ⟨he, hf, hz, hb⟩ => ⟨he, ⟨hb, ?_, ?_⟩, hf, hz⟩
  · exact hin.2.1.fr hf (fun x hx e => d1 (e ▸ hx))
  · exact hin.2.2.fr hf (fun x hx e => d2 (e ▸ hx))

set_option maxHeartbeats 400000 in
theorem toRight_any (b b' : Nat) (k k' : Int) (v v' : VT) (l' r' r : TrV) (h n h' n' : Int) (w : World) (hin : inW w (.node b k v (.node b' k' v' l' r' h' n') r h n))
    (hd : (Tr.node b k v (.node b' k' v' l' r' h' n') r h n).blocks.Nodup) (hl : l'.Right) (hr' : r'.Right) (hr : r.Right) (hs : l'.sz + r'.sz + r.sz ≤ 100000000) :
    Calls Try.prog 174 #[.pointer (some ⟨b, 0, none⟩)] w fun e w' => e = .returned (.pointer (some ⟨b', 0, none⟩)) ∧
      inW w' (Tr.mk b' k' v' l' (Tr.mk b k v r' r)) ∧ Fr (fun x => x = b ∨ x = b') w w' ∧ w'.heap.size = w.heap.size := by
  obtain ⟨d1, d2, d3, d4, d5⟩ := Tr.nodup_node hd
  obtain ⟨e1, e2, e3, e4, e5⟩ := Tr.nodup_node d3
  obtain ⟨hb, ⟨hb', h1, h2⟩, h3⟩ := hin
  simp only [Tr.blocks, List.mem_cons, List.mem_append, not_or] at d1 d2
  have L := hl.len; have R' := hr'.len; have R := hr.len
  have hbb : b ≠ b' := d1.1
  have hbb' : b' ≠ b := fun e => hbb e.symm
  have hb'r : b' ∉ r.blocks := d5 _ (by simp [Tr.blocks])
  have hl'r : ∀ x ∈ l'.blocks, x ∉ r.blocks := fun x hx => d5 x (by simp [Tr.blocks, hx])
  have hr'r : ∀ x ∈ r'.blocks, x ∉ r.blocks := fun x hx => d5 x (by simp [Tr.blocks, hx])
  have c1 := hb.cell; have c2 := hb'.cell; have f1 := hb.frozen; have f2 := hb'.frozen
  -- behind the two stores
  have s1 := (hb.set 2 (.pointer r'.ptr)).far (p := ⟨b', 3, none⟩) hbb (.pointer (some ⟨b, 0, none⟩))
  have s2 := (hb'.far (p := ⟨b, 2, none⟩) hbb' (.pointer r'.ptr)).set 3 (.pointer (some ⟨b, 0, none⟩))
  simp only [List.setIfInBounds_toArray, List.set_cons_succ, List.set_cons_zero] at s1 s2
  have fr1 := Fr.setCell (p := ⟨b', 3, none⟩) (Fr.setCell (p := ⟨b, 2, none⟩) (Fr.refl (fun x => x = b ∨ x = b') w) (fun _ => .inl rfl) (.pointer r'.ptr)) (fun _ => .inr rfl) (.pointer (some ⟨b, 0, none⟩))
  have i1 := h1.fr fr1 (fun x hx e => by rcases e with rfl | rfl; exact d1.2.1 hx; exact e1 hx)
  have i2 := h2.fr fr1 (fun x hx e => by rcases e with rfl | rfl; exact d1.2.2 hx; exact e2 hx)
  have i3 := h3.fr fr1 (fun x hx e => by rcases e with rfl | rfl; exact d2 hx; exact hb'r hx)
  have hz1 : ((w.setCell ⟨b, 2, none⟩ (.pointer r'.ptr)).setCell ⟨b', 3, none⟩ (.pointer (some ⟨b, 0, none⟩))).heap.size = w.heap.size := by simp
  have T1 := Lib.hid (fun W (hW : W = (w.setCell ⟨b, 2, none⟩ (.pointer r'.ptr)).setCell ⟨b', 3, none⟩ (.pointer (some ⟨b, 0, none⟩))) =>
    tell_did b k v r' r h n W (by subst hW; exact ⟨s1, i2, i3⟩) (by
      simp only [Tr.blocks, List.nodup_cons, List.mem_append, not_or, List.nodup_append]
      exact ⟨⟨d1.2.2, d2⟩, e4, d4, fun x hx y hy e => hr'r x hx (e ▸ hy)⟩) ⟨hr', hr, by omega⟩)
  have HF := Lib.hid fr1; have S2 := Lib.hid s2; have I1 := Lib.hid i1; have HZ := Lib.hid hz1
  clear s1 s2 fr1 i1 i2 i3 hb hb' h1 h2 h3 hd d3 hz1
  go_enter Try.func174, Try.ntmps174
  go_wp2_with fail
  refine (T1.out _ rfl).mono ?_
  rintro e w2 ⟨rfl, j1, j2, j3⟩
  rw [HZ.out] at j3
  have T2 := Lib.hid (tell_did b' k' v' l' (Tr.mk b k v r' r) h' n' w2 ⟨S2.out.fr j2 hbb', I1.out.fr j2 (fun x hx e => d1.2.1 (e ▸ hx)), j1⟩ (by
    simp only [Tr.blocks, Tr.blocks_mk, List.nodup_cons, List.mem_append, List.mem_cons, not_or, List.nodup_append]
    exact ⟨⟨e1, hbb', e2, hb'r⟩, e3, ⟨⟨d1.2.2, d2⟩, e4, d4, fun x hx y hy e => hr'r x hx (e ▸ hy)⟩,
      fun x hx y hy e => by subst e; rcases hy with rfl | hy | hy; exact d1.2.1 hx; exact e5 _ hx hy; exact hl'r _ hx hy⟩)
    ⟨hl, Tr.mk_right hr' hr, by simp only [Tr.sz_mk]; omega⟩)
  have HF2 := Lib.hid (HF.out.trans' j2 (fun i _ e => .inl e)); have HZ2 := Lib.hid j3
  clear j1 j2 j3
  go_wp2_with fail
  refine T2.out.mono ?_
  rintro e w3 ⟨rfl, q1, q2, q3⟩
  have Q1 := Lib.hid q1; have Q2 := Lib.hid q2; have Q3 := Lib.hid q3; clear q1 q2 q3
  go_wp2_with fail
  go_ret
  exact ⟨rfl, Q1.out, HF2.out.trans' Q2.out (fun i _ e => .inr e), Q3.out.trans HZ2.out⟩

set_option maxHeartbeats 400000 in
theorem toLeft_any (b b' : Nat) (k k' : Int) (v v' : VT) (l l' r' : TrV) (h n h' n' : Int) (w : World) (hin : inW w (.node b k v l (.node b' k' v' l' r' h' n') h n))
    (hd : (Tr.node b k v l (.node b' k' v' l' r' h' n') h n).blocks.Nodup) (hl : l.Right) (hl' : l'.Right) (hr' : r'.Right) (hs : l.sz + l'.sz + r'.sz ≤ 100000000) :
    Calls Try.prog 173 #[.pointer (some ⟨b, 0, none⟩)] w fun e w' => e = .returned (.pointer (some ⟨b', 0, none⟩)) ∧
      inW w' (Tr.mk b' k' v' (Tr.mk b k v l l') r') ∧ Fr (fun x => x = b ∨ x = b') w w' ∧ w'.heap.size = w.heap.size := by
  obtain ⟨d1, d2, d3, d4, d5⟩ := Tr.nodup_node hd
  obtain ⟨e1, e2, e3, e4, e5⟩ := Tr.nodup_node d4
  obtain ⟨hb, h3, hb', h1, h2⟩ := hin
  simp only [Tr.blocks, List.mem_cons, List.mem_append, not_or] at d1 d2
  have L := hl.len; have R' := hr'.len; have R := hl'.len
  have hbb : b ≠ b' := d2.1
  have hbb' : b' ≠ b := fun e => hbb e.symm
  have hb'l : b' ∉ l.blocks := fun hx => d5 _ hx (by simp [Tr.blocks])
  have hll' : ∀ x ∈ l.blocks, x ∉ l'.blocks := fun x hx hy => d5 x hx (by simp [Tr.blocks, hy])
  have hlr' : ∀ x ∈ l.blocks, x ∉ r'.blocks := fun x hx hy => d5 x hx (by simp [Tr.blocks, hy])
  have c1 := hb.cell; have c2 := hb'.cell; have f1 := hb.frozen; have f2 := hb'.frozen
  -- behind the two stores
  have s1 := (hb.set 3 (.pointer l'.ptr)).far (p := ⟨b', 2, none⟩) hbb (.pointer (some ⟨b, 0, none⟩))
  have s2 := (hb'.far (p := ⟨b, 3, none⟩) hbb' (.pointer l'.ptr)).set 2 (.pointer (some ⟨b, 0, none⟩))
  simp only [List.setIfInBounds_toArray, List.set_cons_succ, List.set_cons_zero] at s1 s2
  have fr1 := Fr.setCell (p := ⟨b', 2, none⟩) (Fr.setCell (p := ⟨b, 3, none⟩) (Fr.refl (fun x => x = b ∨ x = b') w) (fun _ => .inl rfl) (.pointer l'.ptr)) (fun _ => .inr rfl) (.pointer (some ⟨b, 0, none⟩))
  have i1 := h1.fr fr1 (fun x hx e => by rcases e with rfl | rfl; exact d2.2.1 hx; exact e1 hx)
  have i2 := h2.fr fr1 (fun x hx e => by rcases e with rfl | rfl; exact d2.2.2 hx; exact e2 hx)
  have i3 := h3.fr fr1 (fun x hx e => by rcases e with rfl | rfl; exact d1 hx; exact hb'l hx)
  have hz1 : ((w.setCell ⟨b, 3, none⟩ (.pointer l'.ptr)).setCell ⟨b', 2, none⟩ (.pointer (some ⟨b, 0, none⟩))).heap.size = w.heap.size := by simp
  have T1 := Lib.hid (fun W (hW : W = (w.setCell ⟨b, 3, none⟩ (.pointer l'.ptr)).setCell ⟨b', 2, none⟩ (.pointer (some ⟨b, 0, none⟩))) =>
    tell_did b k v l l' h n W (by subst hW; exact ⟨s1, i3, i1⟩) (by
      simp only [Tr.blocks, List.nodup_cons, List.mem_append, not_or, List.nodup_append]
      exact ⟨⟨d1, d2.2.1⟩, d3, e3, fun x hx y hy e => hll' x hx (e ▸ hy)⟩) ⟨hl, hl', by omega⟩)
  have HF := Lib.hid fr1; have S2 := Lib.hid s2; have I1 := Lib.hid i2; have HZ := Lib.hid hz1
  clear s1 s2 fr1 i1 i2 i3 hb hb' h1 h2 h3 hd d4 hz1
  go_enter Try.func173, Try.ntmps173
  go_wp2_with fail
  refine (T1.out _ rfl).mono ?_
  rintro e w2 ⟨rfl, j1, j2, j3⟩
  rw [HZ.out] at j3
  have T2 := Lib.hid (tell_did b' k' v' (Tr.mk b k v l l') r' h' n' w2 ⟨S2.out.fr j2 hbb', j1, I1.out.fr j2 (fun x hx e => d2.2.2 (e ▸ hx))⟩ (by
    simp only [Tr.blocks, Tr.blocks_mk, List.nodup_cons, List.mem_append, List.mem_cons, not_or, List.nodup_append, List.cons_append]
    exact ⟨⟨hbb', ⟨hb'l, e1⟩, e2⟩, ⟨⟨d1, d2.2.1⟩, d2.2.2⟩, ⟨d3, e3, fun x hx y hy e => hll' x hx (e ▸ hy)⟩, e4,
      fun x hx y hy e => by subst e; rcases hx with hx | hx; exact hlr' _ hx hy; exact e5 _ hx hy⟩)
    ⟨Tr.mk_right hl hl', hr', by simp only [Tr.sz_mk]; omega⟩)
  have HF2 := Lib.hid (HF.out.trans' j2 (fun i _ e => .inl e)); have HZ2 := Lib.hid j3
  clear j1 j2 j3
  go_wp2_with fail
  refine T2.out.mono ?_
  rintro e w3 ⟨rfl, q1, q2, q3⟩
  have Q1 := Lib.hid q1; have Q2 := Lib.hid q2; have Q3 := Lib.hid q3; clear q1 q2 q3
  go_wp2_with fail
  go_ret
  exact ⟨rfl, Q1.out, HF2.out.trans' Q2.out (fun i _ e => .inr e), Q3.out.trans HZ2.out⟩

end Go.Proofs.Ytckbeppofnnfkaa.Itm
