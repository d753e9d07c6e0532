/- Put and delete in a tree, walked. -/
import Derived.Test.YtckbeppofnnfkaaItmW2
import Derived.Test.YtckbeppofnnfkaaAvl2
namespace Go.Proofs.Ytckbeppofnnfkaa.Itm
open Go.RowKit Go.Und

/-- What 'put' leaves: a tree, in a world that has at most one block more. -/
def PutPost (w : World) (t t' : TrV) (m : Bool) (e : Ending) (w' : World) : Prop :=
  e = .returned (.tuple #[.pointer t'.ptr, .bool m]) ∧ inW w' t' ∧ Fr (· ∈ t.blocks) w w' ∧ w'.heap.size = w.heap.size + m.toNat

theorem leaf_in (w : World) (key : Int) (v : VT) : inW (w.alloc (.cells #[.int .i64 key, E v, .pointer none, .pointer none, .int .i64 1, .int .i64 1] NT)) (.node w.heap.size key v .nil .nil 1 1) :=
  ⟨Blk.new w NT _, trivial, trivial⟩

set_option maxHeartbeats 400000 in
theorem put_any (key : Int) (v : VT) (t : TrV) : ∀ (w : World), inW w t → t.blocks.Nodup → t.Right → t.sz ≤ 1000000 →
    Calls Try.prog 145 #[.pointer t.ptr, .int .i64 key, E v] w (PutPost w t (Tr.put w.heap.size key v t).1 (Tr.put w.heap.size key v t).2) := by
  induction t with
  | nil =>
    intro w _ _ _ _
    show Calls _ _ #[.pointer none, _, _] _ _
    go_enter Try.func145, Try.ntmps145
    go_wp2_with fail
    go_ret2
    exact ⟨rfl, leaf_in w key v, (Fr.refl _ w).alloc _, by simp [Tr.put]⟩
  | node b k u l r h n ihl ihr =>
    intro w hin hd hR hs
    obtain ⟨d1, d2, d3, d4, d5⟩ := Tr.nodup_node hd
    obtain ⟨hl, hr, e1, e2⟩ := hR
    have L := hl.len; have R := hr.len
    simp only [Tr.sz_node] at hs
    have hsl : l.sz ≤ 1000000 := by omega
    have hsr : r.sz ≤ 1000000 := by omega
    have hss : l.sz + r.sz ≤ 1000000 := by omega
    clear e1 e2
    have hb := hin.1
    have c0 := hb.cell
    show Calls _ _ #[.pointer (some ⟨b, 0, none⟩), _, _] _ _
    have P := Tr.put_sz w.heap.size key v hl
    have PR := Tr.put_sz w.heap.size key v hr
    have BL := Tr.put_blocks w.heap.size key v l
    have BR := Tr.put_blocks w.heap.size key v r
    have lt := hin.lt
    by_cases g1 : key < k
    · have QR := Tr.put_right w.heap.size key v hl
      have IH := Lib.hid (ihl w hin.2.1 d3 hl hsl)
      have e0 : Tr.put w.heap.size key v (.node b k u l r h n) = (Tr.even (.node b k u (Tr.put w.heap.size key v l).1 r h n), (Tr.put w.heap.size key v l).2) := by
        simp only [Tr.put]; rw [if_pos g1]
      rw [e0]
      generalize hp : Tr.put w.heap.size key v l = p at *
      obtain ⟨l', m⟩ := p
      simp only at IH BL P QR ⊢
      clear ihl ihr e0 hp
      -- the blocks of the new side
      have nb : ∀ x ∈ l'.blocks, x ∈ l.blocks ∨ x = w.heap.size := fun x hx => by
        have := BL.mem_iff.1 hx
        split at this
        · rcases List.mem_cons.1 this with e | e; exact .inr e; exact .inl e
        · exact .inl this
      have hbl : b ∉ l'.blocks := fun hx => by
        rcases nb b hx with e | e; exact d1 e; have := lt b (by simp); omega
      have hrl : ∀ x ∈ l'.blocks, x ∉ r.blocks := fun x hx hy => by
        rcases nb x hx with e | e; exact d5 x e hy; have := lt x (by simp [hy]); omega
      have nd : l'.blocks.Nodup := by
        refine BL.nodup_iff.2 ?_
        split
        · refine List.nodup_cons.2 ⟨fun hx => ?_, d3⟩
          have := lt _ (show w.heap.size ∈ (Tr.node b k u l r h n).blocks by simp [hx]); omega
        · exact d3
      have hd' : (Tr.node b k u l' r h n).blocks.Nodup := by
        simp only [Tr.blocks_node, List.nodup_cons, List.mem_append, not_or, List.nodup_append]
        exact ⟨⟨hbl, d2⟩, nd, d4, fun x hx y hy e => hrl x hx (e ▸ hy)⟩
      have EV := Lib.hid (fun W hW => even_any b k u l' r h n W hW hd' QR hr (by omega))
      have HI := Lib.hid hin
      have HN := Lib.hid nb
      clear hin hb BL BR lt
      go_enter Try.func145, Try.ntmps145
      go_wp2_with fail
      refine IH.out.mono ?_
      rintro e w1 ⟨rfl, q1, q2, q3⟩
      have bk := HI.out.1.fr q2 d1
      have c1 := bk.cell; have f1 := bk.frozen
      have s2 := bk.set 2 (.pointer l'.ptr)
      simp only [List.setIfInBounds_toArray, List.set_cons_succ, List.set_cons_zero] at s2
      have fr2 := Fr.setCell (p := ⟨b, 2, none⟩) (Fr.refl (· = b) w1) (fun _ => rfl) (.pointer l'.ptr)
      have i2 := q1.fr fr2 (fun x hx e => hbl (e ▸ hx))
      have i3 := (HI.out.2.2.fr q2 (fun x hx hy => d5 x hy hx)).fr fr2 (fun x hx e => d2 (e ▸ hx))
      have z2 : (w1.setCell ⟨b, 2, none⟩ (.pointer l'.ptr)).heap.size = w.heap.size + m.toNat := by simp only [size_setCell']; exact q3
      have F1 := Lib.hid q2; have S2 := Lib.hid s2; have FR2 := Lib.hid fr2; have I2 := Lib.hid i2; have I3 := Lib.hid i3; have Z2 := Lib.hid z2
      clear q1 q2 q3 bk s2 fr2 i2 i3 z2
      go_wp2_with fail
      refine (EV.out _ ⟨S2.out, I2.out, I3.out⟩).mono ?_
      rintro e w3 ⟨rfl, q1, q2, q3⟩
      have J3 := Lib.hid q1; have F3 := Lib.hid q2; have Z3 := Lib.hid q3; clear q1 q2 q3
      go_wp2_with fail
      go_ret2
      refine ⟨rfl, J3.out, ?_, Z3.out.trans Z2.out⟩
      refine ((F1.out.mono (fun i _ e => by simp [e])).trans' FR2.out (fun i _ e => by subst e; simp)).trans' F3.out ?_
      intro i hi e
      simp only [Tr.blocks_node, List.mem_cons, List.mem_append] at e ⊢
      rcases e with e | e | e
      · exact .inl e
      · rcases HN.out i e with e | e; exact .inr (.inl e); omega
      · exact .inr (.inr e)
    · by_cases g2 : key > k
      · have QR := Tr.put_right w.heap.size key v hr
        have IH := Lib.hid (ihr w hin.2.2 d4 hr hsr)
        have e0 : Tr.put w.heap.size key v (.node b k u l r h n) = (Tr.even (.node b k u l (Tr.put w.heap.size key v r).1 h n), (Tr.put w.heap.size key v r).2) := by
          simp only [Tr.put]; rw [if_neg g1, if_pos g2]
        rw [e0]
        generalize hp : Tr.put w.heap.size key v r = p at *
        obtain ⟨r', m⟩ := p
        simp only at IH BR PR QR ⊢
        clear ihl ihr e0 hp
        have nb : ∀ x ∈ r'.blocks, x ∈ r.blocks ∨ x = w.heap.size := fun x hx => by
          have := BR.mem_iff.1 hx
          split at this
          · rcases List.mem_cons.1 this with e | e; exact .inr e; exact .inl e
          · exact .inl this
        have hbr : b ∉ r'.blocks := fun hx => by
          rcases nb b hx with e | e; exact d2 e; have := lt b (by simp); omega
        have hrl : ∀ x ∈ l.blocks, x ∉ r'.blocks := fun x hx hy => by
          rcases nb x hy with e | e; exact d5 x hx e; have := lt x (by simp [hx]); omega
        have nd : r'.blocks.Nodup := by
          refine BR.nodup_iff.2 ?_
          split
          · refine List.nodup_cons.2 ⟨fun hx => ?_, d4⟩
            have := lt _ (show w.heap.size ∈ (Tr.node b k u l r h n).blocks by simp [hx]); omega
          · exact d4
        have hd' : (Tr.node b k u l r' h n).blocks.Nodup := by
          simp only [Tr.blocks_node, List.nodup_cons, List.mem_append, not_or, List.nodup_append]
          exact ⟨⟨d1, hbr⟩, d3, nd, fun x hx y hy e => hrl x hx (e ▸ hy)⟩
        have EV := Lib.hid (fun W hW => even_any b k u l r' h n W hW hd' hl QR (by omega))
        have HI := Lib.hid hin
        have HN := Lib.hid nb
        clear hin hb BL BR lt
        go_enter Try.func145, Try.ntmps145
        go_wp2_with fail
        refine IH.out.mono ?_
        rintro e w1 ⟨rfl, q1, q2, q3⟩
        have bk := HI.out.1.fr q2 d2
        have c1 := bk.cell; have f1 := bk.frozen
        have s2 := bk.set 3 (.pointer r'.ptr)
        simp only [List.setIfInBounds_toArray, List.set_cons_succ, List.set_cons_zero] at s2
        have fr2 := Fr.setCell (p := ⟨b, 3, none⟩) (Fr.refl (· = b) w1) (fun _ => rfl) (.pointer r'.ptr)
        have i2 := q1.fr fr2 (fun x hx e => hbr (e ▸ hx))
        have i3 := (HI.out.2.1.fr q2 (fun x hx hy => d5 x hx hy)).fr fr2 (fun x hx e => d1 (e ▸ hx))
        have z2 : (w1.setCell ⟨b, 3, none⟩ (.pointer r'.ptr)).heap.size = w.heap.size + m.toNat := by simp only [size_setCell']; exact q3
        have F1 := Lib.hid q2; have S2 := Lib.hid s2; have FR2 := Lib.hid fr2; have I2 := Lib.hid i2; have I3 := Lib.hid i3; have Z2 := Lib.hid z2
        clear q1 q2 q3 bk s2 fr2 i2 i3 z2
        go_wp2_with fail
        refine (EV.out _ ⟨S2.out, I3.out, I2.out⟩).mono ?_
        rintro e w3 ⟨rfl, q1, q2, q3⟩
        have J3 := Lib.hid q1; have F3 := Lib.hid q2; have Z3 := Lib.hid q3; clear q1 q2 q3
        go_wp2_with fail
        go_ret2
        refine ⟨rfl, J3.out, ?_, Z3.out.trans Z2.out⟩
        refine ((F1.out.mono (fun i _ e => by simp [e])).trans' FR2.out (fun i _ e => by subst e; simp)).trans' F3.out ?_
        intro i hi e
        simp only [Tr.blocks_node, List.mem_cons, List.mem_append] at e ⊢
        rcases e with e | e | e
        · exact .inl e
        · exact .inr (.inl e)
        · rcases HN.out i e with e | e; exact .inr (.inr e); omega
      · obtain rfl : key = k := by omega
        have e0 : Tr.put w.heap.size key v (.node b key u l r h n) = (Tr.even (.node b key v l r h n), false) := by
          simp only [Tr.put]; rw [if_neg g1, if_neg g2]
        rw [e0]
        have f0 := hb.frozen
        have s2 := hb.set 1 (E v)
        simp only [List.setIfInBounds_toArray, List.set_cons_succ, List.set_cons_zero] at s2
        have fr2 := Fr.setCell (p := ⟨b, 1, none⟩) (Fr.refl (· = b) w) (fun _ => rfl) (E v)
        have i2 := hin.2.1.fr fr2 (fun x hx e => d1 (e ▸ hx))
        have i3 := hin.2.2.fr fr2 (fun x hx e => d2 (e ▸ hx))
        have z2 : (w.setCell ⟨b, 1, none⟩ (E v)).heap.size = w.heap.size := by simp only [size_setCell']
        have EV := Lib.hid (fun W hW => even_any b key v l r h n W hW hd hl hr (by omega))
        have S2 := Lib.hid s2; have FR2 := Lib.hid fr2; have I2 := Lib.hid i2; have I3 := Lib.hid i3; have Z2 := Lib.hid z2
        clear ihl ihr e0 s2 fr2 i2 i3 z2 hin hb lt
        go_enter Try.func145, Try.ntmps145
        go_wp2_with fail
        refine (EV.out _ ⟨S2.out, I2.out, I3.out⟩).mono ?_
        rintro e w3 ⟨rfl, q1, q2, q3⟩
        have J3 := Lib.hid q1; have F3 := Lib.hid q2; have Z3 := Lib.hid q3; clear q1 q2 q3
        go_wp2_with fail
        go_ret2
        refine ⟨rfl, J3.out, ?_, Z3.out.trans Z2.out⟩
        exact (FR2.out.mono (fun i _ e => by subst e; simp)).trans F3.out
end Go.Proofs.Ytckbeppofnnfkaa.Itm
