/- Delete in a tree, walked. -/
import Derived.Test.YtckbeppofnnfkaaItmW3
namespace Go.Proofs.Ytckbeppofnnfkaa.Itm
open Go.RowKit Go.Und

/-- What 'least' leaves. -/
def LeastPost (w : World) (t : TrV) (x : (Nat × Int × VT) × TrV) (e : Ending) (w' : World) : Prop :=
  e = .returned (.tuple #[.pointer (some ⟨x.1.1, 0, none⟩), .pointer x.2.ptr]) ∧ inW w' x.2 ∧ Fr (· ∈ t.blocks) w w' ∧ w'.heap.size = w.heap.size ∧
    ∃ (p q : Option Addr) (h n : Int), Blk w' x.1.1 NT #[.int .i64 x.1.2.1, E x.1.2.2, .pointer p, .pointer q, .int .i64 h, .int .i64 n]

theorem least_nodup {t : TrV} {x : (Nat × Int × VT) × TrV} (hx : Tr.least t = some x) (hd : t.blocks.Nodup) : x.1.1 ∉ x.2.blocks ∧ x.2.blocks.Nodup ∧ ∀ y ∈ x.1.1 :: x.2.blocks, y ∈ t.blocks := by
  obtain ⟨_, p⟩ := Tr.least_items hx
  have := List.nodup_cons.1 (p.nodup_iff.1 hd)
  exact ⟨this.1, this.2, fun y hy => p.mem_iff.2 hy⟩

theorem least_sz {t : TrV} {x : (Nat × Int × VT) × TrV} (hx : Tr.least t = some x) (hR : t.Right) : x.2.sz + 1 = t.sz := by
  have a := hR.len; have b := (Tr.least_right hx hR).len
  have := congrArg List.length (Tr.least_items hx).1
  simp at this
  omega

set_option maxHeartbeats 400000 in
theorem least_any (t : TrV) : ∀ (x : (Nat × Int × VT) × TrV) (w : World), Tr.least t = some x → inW w t → t.blocks.Nodup → t.Right → t.sz ≤ 1000000 →
    Calls Try.prog 162 #[.pointer t.ptr] w (LeastPost w t x) := by
  induction t with
  | nil => intro x w hx; cases hx
  | node b k u l r h n ihl _ =>
    intro x w hx hin hd hR hs
    obtain ⟨d1, d2, d3, d4, d5⟩ := Tr.nodup_node hd
    obtain ⟨hl, hr, e1, e2⟩ := hR
    have L := hl.len; have R := hr.len
    simp only [Tr.sz_node] at hs
    have hsl : l.sz ≤ 1000000 := by omega
    have hss : l.sz + r.sz ≤ 1000000 := by omega
    clear e1 e2
    have hb := hin.1
    have c0 := hb.cell
    show Calls _ _ #[.pointer (some ⟨b, 0, none⟩)] _ _
    cases l with
    | nil =>
      obtain rfl : x = ((b, k, u), r) := by cases hx; rfl
      have HI := Lib.hid hin
      clear hin hb ihl hx
      simp only [Tr.ptr_nil] at c0
      go_enter Try.func162, Try.ntmps162
      go_wp2_with fail
      go_quiet (fail)
      go_wp2_with fail
      go_ret2
      exact ⟨rfl, inW.drewN HI.out.2.2 _, (Fr.refl _ _).drewN _, rfl, _, _, _, _, HI.out.1.drewN _⟩
    | node b1 k1 v1 l1 r1 h1 n1 =>
      generalize hll : Tr.node b1 k1 v1 l1 r1 h1 n1 = l at *
      have hpl : ∃ a, l.ptr = some a := by rw [← hll]; exact ⟨_, rfl⟩
      have hn : l.isNode = true := by rw [← hll]; rfl
      obtain ⟨y, hy⟩ := Tr.least_some hn
      obtain rfl : x = (y.1, Tr.even (.node b k u y.2 r h n)) := by rw [Tr.least_step hn hy] at hx; cases hx; rfl
      obtain ⟨m1, m2, m3⟩ := least_nodup hy d3
      have QR := Tr.least_right hy hl
      have ys := least_sz hy hl
      obtain ⟨⟨bl, kl, vl⟩, l'⟩ := y
      simp only at m1 m2 m3 QR ys ⊢
      have IH := Lib.hid (ihl _ w hy hin.2.1 d3 hl hsl)
      have hbl : b ∉ l'.blocks := fun hx => d1 (m3 b (by simp [hx]))
      have hrl : ∀ x ∈ l'.blocks, x ∉ r.blocks := fun x hx => d5 x (m3 x (by simp [hx]))
      have hd' : (Tr.node b k u l' r h n).blocks.Nodup := by
        simp only [Tr.blocks_node, List.nodup_cons, List.mem_append, not_or, List.nodup_append]
        exact ⟨⟨hbl, d2⟩, m2, d4, fun x hx y hy e => hrl x hx (e ▸ hy)⟩
      have hlow : bl ∉ (Tr.node b k u l' r h n).blocks := by
        simp only [Tr.blocks_node, List.mem_cons, List.mem_append, not_or]
        exact ⟨fun e => d1 (e ▸ m3 bl (by simp)), m1, d5 bl (m3 bl (by simp))⟩
      have hlb : bl ≠ b := fun e => d1 (e ▸ m3 bl (by simp))
      have EV := Lib.hid (fun W hW => even_any b k u l' r h n W hW hd' QR hr (by omega))
      have HI := Lib.hid hin
      have M3 := Lib.hid m3
      clear hin hb ihl hx hy m3 hll
      obtain ⟨a0, ha0⟩ := hpl
      rw [ha0] at IH
      have c0' : ∀ o, w.cell? ⟨b, o, none⟩ = (#[.int .i64 k, E u, .pointer (some a0), .pointer r.ptr, .int .i64 h, .int .i64 n] : Array Value)[o]? := by rw [← ha0]; exact c0
      clear c0 ha0
      go_enter Try.func162, Try.ntmps162
      go_wp2_with fail
      refine IH.out.mono ?_
      rintro e w1 ⟨rfl, q1, q2, q3, p1, p2, h3, n3, q4⟩
      have bk := HI.out.1.fr q2 d1
      have c1 := bk.cell; have f1 := bk.frozen
      have s2 := bk.set 2 (.pointer l'.ptr)
      simp only [List.setIfInBounds_toArray, List.set_cons_succ, List.set_cons_zero] at s2
      have fr2 := Fr.setCell (p := ⟨b, 2, none⟩) (Fr.refl (· = b) w1) (fun _ => rfl) (.pointer l'.ptr)
      have i2 := q1.fr fr2 (fun x hx e => hbl (e ▸ hx))
      have i3 := (HI.out.2.2.fr q2 (fun x hx hy => d5 x hy hx)).fr fr2 (fun x hx e => d2 (e ▸ hx))
      have z2 : (w1.setCell ⟨b, 2, none⟩ (.pointer l'.ptr)).heap.size = w.heap.size := by simp only [size_setCell']; exact q3
      have F1 := Lib.hid q2; have S2 := Lib.hid s2; have FR2 := Lib.hid fr2; have I2 := Lib.hid i2; have I3 := Lib.hid i3; have Z2 := Lib.hid z2; have Q4 := Lib.hid (q4.fr fr2 hlb)
      clear q1 q2 q3 q4 bk s2 fr2 i2 i3 z2
      go_wp2_with fail
      refine (EV.out _ ⟨S2.out, I2.out, I3.out⟩).mono ?_
      rintro e w3 ⟨rfl, q1, q2, q3⟩
      have J3 := Lib.hid q1; have F3 := Lib.hid q2; have Z3 := Lib.hid q3; clear q1 q2 q3
      go_wp2_with fail
      go_ret2
      refine ⟨rfl, J3.out, ?_, Z3.out.trans Z2.out, _, _, _, _, Q4.out.fr F3.out hlow⟩
      refine ((F1.out.mono (fun i _ e => by simp [e])).trans' FR2.out (fun i _ e => by subst e; simp)).trans' F3.out ?_
      intro i hi e
      simp only [Tr.blocks_node, List.mem_cons, List.mem_append] at e ⊢
      rcases e with e | e | e
      · exact .inl e
      · exact .inr (.inl (M3.out i (by simp [e])))
      · exact .inr (.inr e)

/-- What 'cut' leaves. -/
def CutPost (w : World) (t t' : TrV) (m : Bool) (e : Ending) (w' : World) : Prop :=
  e = .returned (.tuple #[.pointer t'.ptr, .bool m]) ∧ inW w' t' ∧ Fr (· ∈ t.blocks) w w' ∧ w'.heap.size = w.heap.size

set_option maxHeartbeats 400000 in
theorem cut_any (key : Int) (t : TrV) : ∀ (w : World), inW w t → t.blocks.Nodup → t.Right → t.sz ≤ 1000000 →
    Calls Try.prog 144 #[.pointer t.ptr, .int .i64 key] w (CutPost w t (Tr.cut key t).1 (Tr.cut key t).2) := by
  induction t with
  | nil =>
    intro w _ _ _ _
    show Calls _ _ #[.pointer none, _] _ _
    go_enter Try.func144, Try.ntmps144
    go_wp2_with fail
    go_ret2
    exact ⟨rfl, trivial, Fr.refl _ w, rfl⟩
  | node b k u l r h n ihl ihr =>
    intro w hin hd hR hs
    obtain ⟨d1, d2, d3, d4, d5⟩ := Tr.nodup_node hd
    obtain ⟨hl, hr, e1, e2⟩ := hR
    have L := hl.len; have R := hr.len
    simp only [Tr.sz_node] at hs
    have hsl : l.sz ≤ 1000000 := by omega
    have hsr : r.sz ≤ 1000000 := by omega
    have hss : l.sz + r.sz ≤ 1000000 := by omega
    clear e1 e2
    have hb := hin.1
    have c0 := hb.cell
    show Calls _ _ #[.pointer (some ⟨b, 0, none⟩), _] _ _
    by_cases g1 : key < k
    · have QR := Tr.cut_right key hl
      have QS := Tr.cut_sz key hl
      obtain ⟨xl, BL⟩ := Tr.cut_blocks key l
      have IH := Lib.hid (ihl w hin.2.1 d3 hl hsl)
      have e0 : Tr.cut key (.node b k u l r h n) = (Tr.even (.node b k u (Tr.cut key l).1 r h n), (Tr.cut key l).2) := by
        simp only [Tr.cut]; rw [if_pos g1]
      rw [e0]
      generalize hp : Tr.cut key l = p at *
      obtain ⟨l', m⟩ := p
      simp only at IH BL QS QR ⊢
      clear ihl ihr e0 hp
      have nb : ∀ x ∈ l'.blocks, x ∈ l.blocks := fun x hx => BL.mem_iff.1 (List.mem_append_left _ hx)
      have nd : l'.blocks.Nodup := (List.nodup_append.1 (BL.nodup_iff.2 d3)).1
      have hbl : b ∉ l'.blocks := fun hx => d1 (nb b hx)
      have hrl : ∀ x ∈ l'.blocks, x ∉ r.blocks := fun x hx hy => d5 x (nb x hx) hy
      have hd' : (Tr.node b k u l' r h n).blocks.Nodup := by
        simp only [Tr.blocks_node, List.nodup_cons, List.mem_append, not_or, List.nodup_append]
        exact ⟨⟨hbl, d2⟩, nd, d4, fun x hx y hy e => hrl x hx (e ▸ hy)⟩
      have EV := Lib.hid (fun W hW => even_any b k u l' r h n W hW hd' QR hr (by omega))
      have HI := Lib.hid hin
      have HN := Lib.hid nb
      clear hin hb BL nb
      go_enter Try.func144, Try.ntmps144
      go_wp2_with fail
      refine IH.out.mono ?_
      rintro e w1 ⟨rfl, q1, q2, q3⟩
      have bk := HI.out.1.fr q2 d1
      have c1 := bk.cell; have f1 := bk.frozen
      have s2 := bk.set 2 (.pointer l'.ptr)
      simp only [List.setIfInBounds_toArray, List.set_cons_succ, List.set_cons_zero] at s2
      have fr2 := Fr.setCell (p := ⟨b, 2, none⟩) (Fr.refl (· = b) w1) (fun _ => rfl) (.pointer l'.ptr)
      have i2 := q1.fr fr2 (fun x hx e => hbl (e ▸ hx))
      have i3 := (HI.out.2.2.fr q2 (fun x hx hy => d5 x hy hx)).fr fr2 (fun x hx e => d2 (e ▸ hx))
      have z2 : (w1.setCell ⟨b, 2, none⟩ (.pointer l'.ptr)).heap.size = w.heap.size := by simp only [size_setCell']; exact q3
      have F1 := Lib.hid q2; have S2 := Lib.hid s2; have FR2 := Lib.hid fr2; have I2 := Lib.hid i2; have I3 := Lib.hid i3; have Z2 := Lib.hid z2
      clear q1 q2 q3 bk s2 fr2 i2 i3 z2
      go_wp2_with fail
      refine (EV.out _ ⟨S2.out, I2.out, I3.out⟩).mono ?_
      rintro e w3 ⟨rfl, q1, q2, q3⟩
      have J3 := Lib.hid q1; have F3 := Lib.hid q2; have Z3 := Lib.hid q3; clear q1 q2 q3
      go_wp2_with fail
      go_ret2
      refine ⟨rfl, J3.out, ?_, Z3.out.trans Z2.out⟩
      refine ((F1.out.mono (fun i _ e => by simp [e])).trans' FR2.out (fun i _ e => by subst e; simp)).trans' F3.out ?_
      intro i hi e
      simp only [Tr.blocks_node, List.mem_cons, List.mem_append] at e ⊢
      rcases e with e | e | e
      · exact .inl e
      · exact .inr (.inl (HN.out i e))
      · exact .inr (.inr e)
    · by_cases g2 : key > k
      · have QR := Tr.cut_right key hr
        have QS := Tr.cut_sz key hr
        obtain ⟨xl, BL⟩ := Tr.cut_blocks key r
        have IH := Lib.hid (ihr w hin.2.2 d4 hr hsr)
        have e0 : Tr.cut key (.node b k u l r h n) = (Tr.even (.node b k u l (Tr.cut key r).1 h n), (Tr.cut key r).2) := by
          simp only [Tr.cut]; rw [if_neg g1, if_pos g2]
        rw [e0]
        generalize hp : Tr.cut key r = p at *
        obtain ⟨r', m⟩ := p
        simp only at IH BL QS QR ⊢
        clear ihl ihr e0 hp
        have nb : ∀ x ∈ r'.blocks, x ∈ r.blocks := fun x hx => BL.mem_iff.1 (List.mem_append_left _ hx)
        have nd : r'.blocks.Nodup := (List.nodup_append.1 (BL.nodup_iff.2 d4)).1
        have hbr : b ∉ r'.blocks := fun hx => d2 (nb b hx)
        have hrl : ∀ x ∈ l.blocks, x ∉ r'.blocks := fun x hx hy => d5 x hx (nb x hy)
        have hd' : (Tr.node b k u l r' h n).blocks.Nodup := by
          simp only [Tr.blocks_node, List.nodup_cons, List.mem_append, not_or, List.nodup_append]
          exact ⟨⟨d1, hbr⟩, d3, nd, fun x hx y hy e => hrl x hx (e ▸ hy)⟩
        have EV := Lib.hid (fun W hW => even_any b k u l r' h n W hW hd' hl QR (by omega))
        have HI := Lib.hid hin
        have HN := Lib.hid nb
        clear hin hb BL nb
        go_enter Try.func144, Try.ntmps144
        go_wp2_with fail
        refine IH.out.mono ?_
        rintro e w1 ⟨rfl, q1, q2, q3⟩
        have bk := HI.out.1.fr q2 d2
        have c1 := bk.cell; have f1 := bk.frozen
        have s2 := bk.set 3 (.pointer r'.ptr)
        simp only [List.setIfInBounds_toArray, List.set_cons_succ, List.set_cons_zero] at s2
        have fr2 := Fr.setCell (p := ⟨b, 3, none⟩) (Fr.refl (· = b) w1) (fun _ => rfl) (.pointer r'.ptr)
        have i2 := q1.fr fr2 (fun x hx e => hbr (e ▸ hx))
        have i3 := (HI.out.2.1.fr q2 (fun x hx hy => d5 x hx hy)).fr fr2 (fun x hx e => d1 (e ▸ hx))
        have z2 : (w1.setCell ⟨b, 3, none⟩ (.pointer r'.ptr)).heap.size = w.heap.size := by simp only [size_setCell']; exact q3
        have F1 := Lib.hid q2; have S2 := Lib.hid s2; have FR2 := Lib.hid fr2; have I2 := Lib.hid i2; have I3 := Lib.hid i3; have Z2 := Lib.hid z2
        clear q1 q2 q3 bk s2 fr2 i2 i3 z2
        go_wp2_with fail
        refine (EV.out _ ⟨S2.out, I3.out, I2.out⟩).mono ?_
        rintro e w3 ⟨rfl, q1, q2, q3⟩
        have J3 := Lib.hid q1; have F3 := Lib.hid q2; have Z3 := Lib.hid q3; clear q1 q2 q3
        go_wp2_with fail
        go_ret2
        refine ⟨rfl, J3.out, ?_, Z3.out.trans Z2.out⟩
        refine ((F1.out.mono (fun i _ e => by simp [e])).trans' FR2.out (fun i _ e => by subst e; simp)).trans' F3.out ?_
        intro i hi e
        simp only [Tr.blocks_node, List.mem_cons, List.mem_append] at e ⊢
        rcases e with e | e | e
        · exact .inl e
        · exact .inr (.inl e)
        · exact .inr (.inr (HN.out i e))
      · obtain rfl : key = k := by omega
        clear ihl ihr
        cases l with
        | nil =>
          rw [Tr.cut_nil_left]
          have HI := Lib.hid hin
          clear hin hb
          go_enter Try.func144, Try.ntmps144
          go_wp2_with fail
          go_ret2
          exact ⟨rfl, HI.out.2.2, Fr.refl _ _, rfl⟩
        | node b1 k1 v1 l1 r1 h1 n1 =>
          cases r with
          | nil =>
            rw [Tr.cut_nil_right]
            have HI := Lib.hid hin
            clear hin hb
            go_enter Try.func144, Try.ntmps144
            go_wp2_with fail
            go_ret2
            exact ⟨rfl, HI.out.2.1, Fr.refl _ _, rfl⟩
          | node b2 k2 v2 l2 r2 h2 n2 =>
            generalize hll : Tr.node b1 k1 v1 l1 r1 h1 n1 = l at *
            generalize hrr : Tr.node b2 k2 v2 l2 r2 h2 n2 = r at *
            have hpl : ∃ a, l.ptr = some a := by rw [← hll]; exact ⟨_, rfl⟩
            have hpr : ∃ a, r.ptr = some a := by rw [← hrr]; exact ⟨_, rfl⟩
            have hln : l.isNode = true := by rw [← hll]; rfl
            have hrn : r.isNode = true := by rw [← hrr]; rfl
            obtain ⟨y, hy⟩ := Tr.least_some hrn
            rw [Tr.cut_node_eq hln hrn hy]
            obtain ⟨m1, m2, m3⟩ := least_nodup hy d4
            have QR := Tr.least_right hy hr
            have ys := least_sz hy hr
            obtain ⟨⟨bl, kl, vl⟩, r'⟩ := y
            simp only at m1 m2 m3 QR ys ⊢
            have IH := Lib.hid (least_any r _ w hy hin.2.2 d4 hr hsr)
            have hlow : bl ∉ l.blocks := fun hx => d5 bl hx (m3 bl (by simp))
            have hrl : ∀ x ∈ l.blocks, x ∉ r'.blocks := fun x hx hy => d5 x hx (m3 x (by simp [hy]))
            have hd' : ∀ h3 n3, (Tr.node bl kl vl l r' h3 n3).blocks.Nodup := fun h3 n3 => by
              simp only [Tr.blocks_node, List.nodup_cons, List.mem_append, not_or, List.nodup_append]
              exact ⟨⟨hlow, m1⟩, d3, m2, fun x hx y hy e => hrl x hx (e ▸ hy)⟩
            have EV := Lib.hid (fun h3 n3 W hW => even_any bl kl vl l r' h3 n3 W hW (hd' h3 n3) hl QR (by omega))
            have ee : ∀ h3 n3, Tr.even (.node bl kl vl l r' h3 n3) = Tr.even (.node bl kl vl l r' 0 0) := fun _ _ => rfl
            have EE := Lib.hid ee
            have HI := Lib.hid hin
            have M3 := Lib.hid m3
            obtain ⟨a0, ha0⟩ := hpl
            obtain ⟨a1, ha1⟩ := hpr
            rw [ha1] at IH
            have c0' : ∀ o, w.cell? ⟨b, o, none⟩ = (#[.int .i64 key, E u, .pointer (some a0), .pointer (some a1), .int .i64 h, .int .i64 n] : Array Value)[o]? := by rw [← ha0, ← ha1]; exact c0
            have B0 : Hid (Blk w b NT #[.int .i64 key, E u, .pointer (some a0), .pointer (some a1), .int .i64 h, .int .i64 n]) := by rw [← ha0, ← ha1]; exact hb
            have HA := Lib.hid ha0
            clear hin hb hy m3 hll hrr c0 ha0 ha1 ee
            go_enter Try.func144, Try.ntmps144
            go_wp2_with fail
            refine IH.out.mono ?_
            rintro e w1 ⟨rfl, q1, q2, q3, p1, p2, h3, n3, q4⟩
            have bk := B0.out.fr q2 d2
            have c1 := bk.cell
            have c2 := q4.cell; have f2 := q4.frozen
            have s2 := (q4.set 2 (.pointer (some a0))).set 3 (.pointer r'.ptr)
            simp only [List.setIfInBounds_toArray, List.set_cons_succ, List.set_cons_zero] at s2
            have fr2 := Fr.setCell (p := ⟨bl, 3, none⟩) (Fr.setCell (p := ⟨bl, 2, none⟩) (Fr.refl (· = bl) w1) (fun _ => rfl) (.pointer (some a0))) (fun _ => rfl) (.pointer r'.ptr)
            have i2 := q1.fr fr2 (fun x hx e => m1 (e ▸ hx))
            have i3 := (HI.out.2.1.fr q2 (fun x hx hy => d5 x hx hy)).fr fr2 (fun x hx e => hlow (e ▸ hx))
            have z2 : ((w1.setCell ⟨bl, 2, none⟩ (.pointer (some a0))).setCell ⟨bl, 3, none⟩ (.pointer r'.ptr)).heap.size = w.heap.size := by simp only [size_setCell']; exact q3
            have F1 := Lib.hid q2; have S2 := Lib.hid s2; have FR2 := Lib.hid fr2; have I2 := Lib.hid i2; have I3 := Lib.hid i3; have Z2 := Lib.hid z2
            clear q1 q2 q3 bk s2 fr2 i2 i3 z2 q4
            go_wp2_with fail
            refine (EV.out _ _ _ ⟨by rw [HA.out]; exact S2.out, I3.out, I2.out⟩).mono ?_
            rintro e w3 ⟨rfl, q1, q2, q3⟩
            rw [EE.out] at q1 ⊢
            have J3 := Lib.hid q1; have F3 := Lib.hid q2; have Z3 := Lib.hid q3; clear q1 q2 q3
            go_wp2_with fail
            go_ret2
            refine ⟨rfl, J3.out, ?_, Z3.out.trans Z2.out⟩
            refine ((F1.out.mono (fun i _ e => by simp [e])).trans' FR2.out (fun i _ e => by subst e; simp [M3.out])).trans' F3.out ?_
            intro i hi e
            simp only [Tr.blocks_node, List.mem_cons, List.mem_append] at e ⊢
            rcases e with e | e | e
            · exact .inr (.inr (M3.out i (by simp [e])))
            · exact .inr (.inl e)
            · exact .inr (.inr (M3.out i (by simp [e])))

end Go.Proofs.Ytckbeppofnnfkaa.Itm
