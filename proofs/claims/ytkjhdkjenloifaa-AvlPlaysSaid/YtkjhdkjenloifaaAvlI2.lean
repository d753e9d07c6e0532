/- The tree's rising iterator: what it goes through. -/
import Derived.Test.YtkjhdkjenloifaaAvlI1
namespace Go.Proofs.Ytkjhdkjenloifaa
open Go.RowKit Go.Und Go.Shelf
attribute [local go_sem] Oper.semAt_some

section
variable {P : Program} (w : World) (a : Addr) (m : Mode)
theorem run_store_func (f : Fn) (x y : Array Value) : (store a (.func f x y) m).run P w = stored P w a (.func f x y) m := run_store P w a _ m rfl
theorem run_store_nilFunc : (store a .nilFunc m).run P w = stored P w a .nilFunc m := run_store P w a _ m rfl
end
attribute [local go_sem] run_store_func run_store_nilFunc
theorem abides_fr {β : Type} {B : Nat} {J : β → World → Prop} (h : AbidesFrom B J) {s : β} {W C : World} (hs : J s W) (f : Fr None W C) : J s C :=
  h s W C none hs ⟨f.os, f.tape, f.output, f.size, fun k hk _ => f.block k hk id⟩ (fun r e => by cases e)

/-- A loop's result over an iterator. -/
def Went (J Jx : List (Int × VT) → World → Prop) (xs : List (Int × VT)) (e : Ending) (W' : World) : Prop :=
  (∃ v, e = .returned v) ∧ ((∃ ys, ys = xs ∧ J ys W') ∨ (∃ pre, pre <+: xs ∧ Jx pre W'))

set_option maxHeartbeats 1000000 in
theorem from1_in (l kb tb p : Nat) (t : TrV) (key : Int) (D : Nat → TypeId → Prop) (J Jx : List (Int × VT) → World → Prop) (W : World) (hJa : AbidesFrom W.heap.size J)
    (hD : ∀ b, W.heap.size ≤ b → ¬ D b 66 ∧ ¬ D b 26) (hkb : ¬ D kb 3) (hDt : ∀ b ∈ t.blocks, ¬ D b NT) (hk : Blk W kb 3 #[.int .i64 key]) (ht : Blk W tb 24 #[.pointer (some ⟨p, 0, none⟩)]) (hp : Blk W p TT #[.pointer t.ptr]) (hin : inW W t) (hR : Tr.Rise t.items)
    (hY : ∀ m pre x W, J pre W → pre.length < (fromL key t.items).length → YieldAt Fence.wide m Try.prog l (enc2 x) W (Said J Jx D pre x W)) (h0 : J [] W) (n : Nat) :
    CallsIn Fence.wide n Try.prog 34 #[.func (.yield l) #[] #[], .pointer (some ⟨kb, 0, none⟩), .pointer (some ⟨tb, 0, none⟩)] W (Went J Jx (fromL key t.items)) := by
  have hD1 := (hD W.heap.size (Nat.le_refl _)).2
  have hD2 := (hD (W.heap.size + 1) (Nat.le_succ _)).1
  have f1 : Fr None W ((W.alloc (.cells #[.func (.yield l) #[] #[]] 26)).alloc (.cells #[.func (.func 35) #[] #[.pointer (some ⟨kb, 0, none⟩), .pointer (some ⟨W.heap.size + 1, 0, none⟩), .pointer (some ⟨W.heap.size, 0, none⟩)]] 66)) :=
    ((Fr.refl None W).alloc _).alloc _
  have by1 : Blk ((W.alloc (.cells #[.func (.yield l) #[] #[]] 26)).alloc (.cells #[.func (.func 35) #[] #[.pointer (some ⟨kb, 0, none⟩), .pointer (some ⟨W.heap.size + 1, 0, none⟩), .pointer (some ⟨W.heap.size, 0, none⟩)]] 66)) W.heap.size 26 #[.func (.yield l) #[] #[]] :=
    (Blk.new W _ _).alloc _
  have bw1 : Blk ((W.alloc (.cells #[.func (.yield l) #[] #[]] 26)).alloc (.cells #[.func (.func 35) #[] #[.pointer (some ⟨kb, 0, none⟩), .pointer (some ⟨W.heap.size + 1, 0, none⟩), .pointer (some ⟨W.heap.size, 0, none⟩)]] 66)) (W.heap.size + 1) 66 #[.func (.func 35) #[] #[.pointer (some ⟨kb, 0, none⟩), .pointer (some ⟨W.heap.size + 1, 0, none⟩), .pointer (some ⟨W.heap.size, 0, none⟩)]] := by
    have := Blk.new (W.alloc (.cells #[.func (.yield l) #[] #[]] 26)) 66 #[.func (.func 35) #[] #[.pointer (some ⟨kb, 0, none⟩), .pointer (some ⟨W.heap.size + 1, 0, none⟩), .pointer (some ⟨W.heap.size, 0, none⟩)]]
    rwa [World.size_alloc] at this
  generalize eW1 : ((W.alloc (.cells #[.func (.yield l) #[] #[]] 26)).alloc (.cells #[.func (.func 35) #[] #[.pointer (some ⟨kb, 0, none⟩), .pointer (some ⟨W.heap.size + 1, 0, none⟩), .pointer (some ⟨W.heap.size, 0, none⟩)]] 66)) = W1 at f1 by1 bw1
  have HW := Lib.hid (fun n => walkFrom_in l _ kb (W.heap.size + 1) W.heap.size key D J Jx W.heap.size hJa hkb hD2 hD1 hY t n [] W1.drew (inW.frC hin (FrC.none f1.drew) hDt) hDt hR
    ⟨(hk.fr f1 id).drew, bw1.drew, by1.drew⟩ (abides_fr hJa h0 f1.drew) (by simp))
  have HR := Lib.hid (root_any p t W1.drew ((hp.fr f1 id).drew))
  have ct := (ht.fr f1 id).drew.cell
  have cw := bw1.drew.cell
  have c1 := (Blk.new (W.alloc (.cells #[.func (.yield l) #[] #[]] 26)) 66 #[.nilFunc]).cell 0
  have z1 := (Blk.new (W.alloc (.cells #[.func (.yield l) #[] #[]] 26)) 66 #[.nilFunc]).frozen 0
  simp only [World.size_alloc, List.getElem?_toArray, List.getElem?_cons_zero] at c1 z1
  have EW := Lib.hid eW1
  clear eW1 f1 by1 bw1 hk ht hp hin hR hY h0 hJa hD hD1 hD2 hDt hkb
  refine callsIn_of_wp Try.func34 rfl trivial ?_ rfl
  simp only [Try.ntmps34, List.size_toArray, List.length_cons, List.length_nil, Nat.reduceAdd, Nat.reduceSub, Array.replicate_succ, Array.replicate_zero, List.push_toArray, List.append_toArray, List.nil_append, List.cons_append]
  gi_wp2_with fail
  simp only [EW.out]
  clear c1 z1
  refine wpIn_region_segs (by kernel_rfl) ?_
  refine seg_still 3 (by kernel_rfl) ?_
  simp only [List.drop_zero, List.take_succ_cons, List.take_zero, Nat.reduceSub]
  repeat (first | go_big_quiet_skip | (go_big_quiet_want; go_big_quiet_op; first | go_big_quiet_on | (refine ⟨_, HR.out, ?_⟩; go_big_quiet_on)))
  refine wpQuiet_nil ?_
  refine seg_one (by kernel_rfl) fun K hK => ?_
  simp only [List.drop_succ_cons, List.drop_zero, List.take_succ_cons, List.take_zero]
  gi_wp2_with fail
  refine ⟨trivial, fun h => (by cases h), (HW.out _).mono ?_⟩
  rintro e W2 (⟨rfl, h1, h2⟩ | ⟨rfl, q, hq, h1⟩)
  · have H := Lib.hid h1; clear h1 h2
    dsimp only
    gi_wp2_with fail
    refine seg_done (by rfl) (by kernel_rfl) ?_
    gi_wp2_with fail
    go_end0
    exact ⟨⟨_, rfl⟩, .inl ⟨_, rfl, H.out⟩⟩
  · have H := Lib.hid h1; clear h1
    dsimp only
    gi_wp2_with fail
    refine seg_done (by rfl) (by kernel_rfl) ?_
    gi_wp2_with fail
    go_end0
    exact ⟨⟨_, rfl⟩, .inr ⟨_, hq, H.out⟩⟩
end Go.Proofs.Ytkjhdkjenloifaa
