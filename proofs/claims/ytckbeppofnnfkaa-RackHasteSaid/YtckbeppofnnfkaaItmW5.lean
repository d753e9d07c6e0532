/- The tree's own methods, walked. -/
import Derived.Test.YtckbeppofnnfkaaItmW4
import Derived.Test.YtckbeppofnnfkaaAvl3
import Derived.Deep.LoopGhost
namespace Go.Proofs.Ytckbeppofnnfkaa.Itm
open Go.RowKit Go.Und

/-- The tree's own type: one cell, a pointer to the root. -/
abbrev TT : TypeId := 204

theorem newTree_any (w : World) : Calls Try.prog 101 #[] w fun e w' => e = .returned (.pointer (some ⟨w.heap.size, 0, none⟩)) ∧ w' = w.alloc (.cells #[.pointer none] TT) := by
  go_enter Try.func101, Try.ntmps101
  go_wp2_with fail
  go_ret
  exact ⟨rfl, rfl⟩

set_option maxHeartbeats 400000 in
theorem root_any (p : Nat) (t : TrV) (w : World) (hp : Blk w p TT #[.pointer t.ptr]) :
    Calls Try.prog 138 #[.pointer (some ⟨p, 0, none⟩)] w fun e w' => e = .returned (.pointer t.ptr) ∧ w' = w := by
  have hc := hp.cell
  go_enter Try.func138, Try.ntmps138
  go_wp2_with fail
  go_ret
  exact ⟨rfl, rfl⟩

set_option maxHeartbeats 400000 in
theorem putT_any (p : Nat) (t : TrV) (key : Int) (v : VT) (w : World) (hp : Blk w p TT #[.pointer t.ptr]) (hin : inW w t) (hd : t.blocks.Nodup) (hpn : p ∉ t.blocks) (hR : t.Right) (hs : t.sz ≤ 1000000) :
    Calls Try.prog 106 #[.pointer (some ⟨p, 0, none⟩), .int .i64 key, E v] w fun e w' =>
      e = .returned (.bool (Tr.put w.heap.size key v t).2) ∧ Blk w' p TT #[.pointer (Tr.put w.heap.size key v t).1.ptr] ∧ inW w' (Tr.put w.heap.size key v t).1 ∧ Fr (fun x => x = p ∨ x ∈ t.blocks) w w' ∧
        w'.heap.size = w.heap.size + (Tr.put w.heap.size key v t).2.toNat := by
  have hc := hp.cell
  have PB := Tr.put_blocks w.heap.size key v t
  have IH := Lib.hid (put_any key v t w hin hd hR hs)
  have hlt := hp.lt
  generalize Tr.put w.heap.size key v t = q at *
  obtain ⟨t', m⟩ := q
  simp only at PB ⊢ IH
  have hpn' : p ∉ t'.blocks := fun hx => by
    have := PB.mem_iff.1 hx
    split at this
    · rcases List.mem_cons.1 this with e | e; omega; exact hpn e
    · exact hpn this
  have HP := Lib.hid hp
  clear hp PB hin
  go_enter Try.func106, Try.ntmps106
  go_wp2_with fail
  refine IH.out.mono ?_
  rintro e w1 ⟨rfl, q1, q2, q3⟩
  have bk := HP.out.fr q2 hpn
  have c1 := bk.cell; have f1 := bk.frozen
  have Q1 := Lib.hid q1; have Q2 := Lib.hid q2; have Q3 := Lib.hid q3; have BK := Lib.hid bk
  clear q1 q2 q3 bk
  go_wp2_with fail
  go_ret
  have s2 := BK.out.set 0 (.pointer t'.ptr)
  refine ⟨rfl, s2, Q1.out.fr (D := (· = p)) (Fr.setCell (p := ⟨p, 0, none⟩) (Fr.refl (· = p) w1) (fun _ => rfl) _) (fun x hx e => hpn' (e ▸ hx)), ?_, by simp only [size_setCell']; exact Q3.out⟩
  exact Fr.setCell (p := ⟨p, 0, none⟩) (Q2.out.mono (fun i _ h => .inr h)) (fun _ => .inl rfl) _

set_option maxHeartbeats 400000 in
theorem delT_any (p : Nat) (t : TrV) (key : Int) (w : World) (hp : Blk w p TT #[.pointer t.ptr]) (hin : inW w t) (hd : t.blocks.Nodup) (hpn : p ∉ t.blocks) (hR : t.Right) (hs : t.sz ≤ 1000000) :
    Calls Try.prog 105 #[.pointer (some ⟨p, 0, none⟩), .int .i64 key] w fun e w' =>
      e = .returned (.bool (Tr.cut key t).2) ∧ Blk w' p TT #[.pointer (Tr.cut key t).1.ptr] ∧ inW w' (Tr.cut key t).1 ∧ Fr (fun x => x = p ∨ x ∈ t.blocks) w w' ∧ w'.heap.size = w.heap.size := by
  have hc := hp.cell
  obtain ⟨xs, PB⟩ := Tr.cut_blocks key t
  have IH := Lib.hid (cut_any key t w hin hd hR hs)
  generalize Tr.cut key t = q at *
  obtain ⟨t', m⟩ := q
  simp only at PB ⊢ IH
  have hpn' : p ∉ t'.blocks := fun hx => hpn (PB.mem_iff.1 (List.mem_append_left _ hx))
  have HP := Lib.hid hp
  clear hp PB hin
  go_enter Try.func105, Try.ntmps105
  go_wp2_with fail
  refine IH.out.mono ?_
  rintro e w1 ⟨rfl, q1, q2, q3⟩
  have bk := HP.out.fr q2 hpn
  have c1 := bk.cell; have f1 := bk.frozen
  have Q1 := Lib.hid q1; have Q2 := Lib.hid q2; have Q3 := Lib.hid q3; have BK := Lib.hid bk
  clear q1 q2 q3 bk
  go_wp2_with fail
  go_ret
  have s2 := BK.out.set 0 (.pointer t'.ptr)
  refine ⟨rfl, s2, Q1.out.fr (D := (· = p)) (Fr.setCell (p := ⟨p, 0, none⟩) (Fr.refl (· = p) w1) (fun _ => rfl) _) (fun x hx e => hpn' (e ▸ hx)), ?_, by simp only [size_setCell']; exact Q3.out⟩
  exact Fr.setCell (p := ⟨p, 0, none⟩) (Q2.out.mono (fun i _ h => .inr h)) (fun _ => .inl rfl) _

set_option maxHeartbeats 400000 in
theorem lenT_any (p : Nat) (t : TrV) (w : World) (hp : Blk w p TT #[.pointer t.ptr]) (hin : inW w t) :
    Calls Try.prog 99 #[.pointer (some ⟨p, 0, none⟩)] w fun e w' => e = .returned (.int .i64 t.sz) ∧ w' = w := by
  have R := Lib.hid (root_any p t w hp); have S := Lib.hid (size_any t w hin)
  go_enter Try.func99, Try.ntmps99
  go_wp2_with fail
  refine R.out.mono ?_
  rintro e w1 ⟨rfl, rfl⟩
  go_wp2_with fail
  refine S.out.mono ?_
  rintro e w1 ⟨rfl, rfl⟩
  go_wp2_with fail
  go_ret
  exact ⟨rfl, rfl⟩

/-- What a pair, or none, is told as. -/
def tellV : Option (Int × VT) → Value
  | none => .tuple #[.int .i64 0, E none, .bool false]
  | some x => .tuple #[.int .i64 x.1, E x.2, .bool true]

set_option maxHeartbeats 400000 in
theorem told_any (t : TrV) (w : World) (hin : inW w t) :
    Calls Try.prog 140 #[.pointer t.ptr] w fun e w' => e = .returned (tellV t.item) ∧ ∃ n, w' = w.drewN n := by
  cases t with
  | nil =>
    show Calls _ _ #[.pointer none] _ _
    go_enter Try.func140, Try.ntmps140
    go_wp2_with fail
    go_ret3
    exact ⟨rfl, 0, rfl⟩
  | node b k v l r h n =>
    have hc := hin.1.cell
    clear hin
    show Calls _ _ #[.pointer (some ⟨b, 0, none⟩)] _ _
    go_enter Try.func140, Try.ntmps140
    go_wp2_with fail
    go_quiet (fail)
    go_wp2_with fail
    go_ret3
    exact ⟨rfl, _, rfl⟩

end Go.Proofs.Ytckbeppofnnfkaa.Itm
