/- Sets of offsets: the iterators All and meets: walked. -/
import Derived.Test.YtfobeheplficgaaRw1
import Derived.Test.YtfobeheplficgaaRangeX
import Derived.Sort.LoopGhostIn
import Derived.Lib.Builder
import Derived.BigFrameIn
import Derived.RangeFuncFrom
set_option linter.unusedVariables false
set_option linter.unusedSimpArgs false
namespace Go.Proofs.Ytfobeheplficgaa
open Go.RowKit Go.Und Go.Shelf
attribute [local go_sem] Oper.semAt_some

theorem _root_.Go.Und.abides_fr {β : Type} {B : Nat} {J : β → World → Prop} (h : AbidesFrom B J) {s : β} {W W' : World} (f : Fr None W W') (hs : J s W) : J s W' :=
  h s W W' none hs ⟨f.os, f.tape, f.output, f.size, fun k hk _ => f.block k hk (fun h => h)⟩ (fun r e => by cases e)
theorem cell_frC {D : Nat → TypeId → Prop} {W W' : World} {a : Addr} {v : Value} (f : FrC D W W') (hd : ∀ t, ¬ D a.block t) (h : W.cell? a = some v) : W'.cell? a = some v := by
  have hb : ∃ cs t z, W.heap[a.block]? = some (.cells cs t z) := by
    unfold World.cell? at h
    split at h <;> first | exact ⟨_, _, _, by assumption⟩ | cases h
  obtain ⟨cs, t, z, hc⟩ := hb
  exact (World.cell?_of_block ((f.block _ _ _ _ hc (hd t)).trans hc.symm)).trans h
theorem reads_frC {D : Nat → TypeId → Prop} {W W' : World} {size n cap : Nat} {p : Option Addr} {xs : List Value} (f : FrC D W W') (hd : xs ≠ [] → ∀ ad, p = some ad → ∀ t, ¬ D ad.block t) (h : Reads W size p n cap xs) : Reads W' size p n cap xs :=
  ⟨h.len, h.room, h.nil, h.spot, fun ad had j u hu => cell_frC f (hd (fun e => by subst e; simp at hu) ad had) (h.cell ad had j u hu)⟩
/-- What an iterator over a set reads. -/
structure RnAt (bb rp : Nat) (q : Option Addr) (cap : Nat) (l : List (Int × Int)) (W : World) : Prop where
  box : W.cell? ⟨bb, 0, none⟩ = some (.pointer (at0 rp))
  set : W.cell? ⟨rp, 0, none⟩ = some (.slice q l.length cap)
  row : Reads W 2 q l.length cap (fc spc l)
theorem RnAt.fr {bb rp : Nat} {q : Option Addr} {cap : Nat} {l : List (Int × Int)} {W W' : World} (h : RnAt bb rp q cap l W) (f : Fr None W W') : RnAt bb rp q cap l W' :=
  ⟨cell_frN f h.box, cell_frN f h.set, h.row.fr f (fun _ _ h => h)⟩
/-- Blocks that a round must leave alone. -/
structure Off (D : Nat → TypeId → Prop) (bb rp : Nat) (q : Option Addr) (l : List (Int × Int)) : Prop where
  box : ∀ t, ¬ D bb t
  set : ∀ t, ¬ D rp t
  row : l ≠ [] → ∀ ad, q = some ad → ∀ t, ¬ D ad.block t
theorem fc_ne {α : Type} {f : α → List Value} {l : List α} (h : fc f l ≠ []) : l ≠ [] := fun e => h (by subst e; rfl)
theorem RnAt.frC {D : Nat → TypeId → Prop} {bb rp : Nat} {q : Option Addr} {cap : Nat} {l : List (Int × Int)} {W W' : World} (h : RnAt bb rp q cap l W) (f : FrC D W W') (hd : Off D bb rp q l) : RnAt bb rp q cap l W' :=
  ⟨cell_frC f hd.box h.box, cell_frC f hd.set h.set, reads_frC f (fun e => hd.row (fc_ne e)) h.row⟩
abbrev encS (x : Int × Int) : Array Value := #[spV x]
theorem take_next {α : Type} {l : List α} {k : Nat} {x : α} (h : l[k]? = some x) : l.take k ++ [x] = l.take (k + 1) := by rw [List.take_add_one, h]; rfl

set_option maxRecDepth 100000 in
set_option maxHeartbeats 2000000 in
theorem all1_in (n yl bb rp : Nat) (q : Option Addr) (cap : Nat) (l : List (Int × Int)) (hl : l.length ≤ 1000000) (J Jx : List (Int × Int) → World → Prop) (W : World) (hJa : AbidesFrom W.heap.size J)
    (hY : ∀ pre x W1, J pre W1 → pre.length < l.length → YieldAt Fence.wide (n - 1) Try.prog yl (encS x) W1 fun e W' =>
      (e = .returned (.bool true) ∧ J (pre ++ [x]) W' ∧ (RnAt bb rp q cap l W1 → RnAt bb rp q cap l W')) ∨ (e = .returned (.bool false) ∧ Jx (pre ++ [x]) W'))
    (hL : RnAt bb rp q cap l W) (h0 : J [] W) :
    CallsIn Fence.wide n Try.prog 61 #[.func (.yield yl) #[] #[], .pointer (at0 bb)] W fun e W' => (∃ v, e = .returned v) ∧
      ((∃ xs, xs = l ∧ J xs W') ∨ (∃ pre, pre <+: l ∧ Jx pre W')) := by
  have HY := Lib.hid hY; clear hY
  have HA := Lib.hid hJa; clear hJa
  have c0 := hL.box
  have c1 := hL.set
  have HL := Lib.hid hL
  have H0 := Lib.hid h0
  clear hL h0
  refine callsIn_of_wp Try.func61 rfl trivial ?_ rfl
  simp only [Try.ntmps61, List.size_toArray, List.length_cons, List.length_nil, Nat.reduceAdd, Nat.reduceSub, Array.replicate_succ, Array.replicate_zero, List.push_toArray, List.append_toArray, List.nil_append, List.cons_append]
  gi_wp2_with fail
  gi_loopg [12] l.length (fun r x wr => ∃ k : Nat, k + r = l.length ∧ x = .int .i64 k ∧ J (l.take k) wr ∧ RnAt bb rp q cap l wr)
  case atStart => exact ⟨0, by omega, rfl, by simpa using H0.out, HL.out⟩
  case round =>
    clear HL H0 c0 c1
    obtain ⟨k, hr, rfl, hJ, hL⟩ := hrel
    by_cases g : k < l.length
    · have ex := List.getElem?_eq_getElem g
      obtain ⟨b, off, rfl, hc⟩ := hL.row.elem spc_len (by decide) ex
      have htk := take_next ex
      have hlen : (l.take k).length < l.length := by rw [List.length_take]; omega
      generalize l[k] = x at *
      obtain ⟨x1, x2⟩ := x
      have d1 : wr.cell? ⟨b, off + k * 2, none⟩ = some (.int .i64 x1) := hc 0 _ rfl
      have d2 : wr.cell? ⟨b, off + k * 2 + 1, none⟩ = some (.int .i64 x2) := hc 1 _ rfl
      have hY2 := HY.out (l.take k) (x1, x2) _ (abides_alloc HA.out (.cells #[.int .i64 x1, .int .i64 x2] SpT) hJ) hlen
      rw [htk] at hY2
      obtain ⟨fn, tmps, assign, body, hyd, hR⟩ := hY2
      have HR := Lib.hid hR
      have HLk := Lib.hid (hL.fr ((Fr.refl None wr).alloc (.cells #[.int .i64 x1, .int .i64 x2] SpT)))
      clear hR hc ex htk hlen hJ hL
      gi_wp2_with fail
      refine ⟨fun h => (by cases h), HR.out.mono ?_⟩
      rintro e W3 (⟨rfl, h1, h2⟩ | ⟨rfl, h1⟩)
      · have H3 := Lib.hid (And.intro h1 (h2 HLk.out))
        clear h1 h2 hyd HR HLk d1 d2
        gi_wp2_with fail
        go_roundg (gk - 1)
        case measure => omega
        case rel => exact ⟨k + 1, by omega, by go_num, H3.out.1, H3.out.2⟩
      · have H3 := Lib.hid h1
        clear h1 hyd HR HLk d1 d2
        gi_wp2_with fail
        refine bodyPost_ret (results_none rfl _ _ _) rfl ?_
        exact ⟨⟨_, rfl⟩, .inr ⟨_, List.take_prefix _ _, H3.out⟩⟩
    · obtain rfl : k = l.length := by omega
      rw [List.take_length] at hJ
      have HJ := Lib.hid hJ
      clear hJ hL
      gi_wp2_with fail
      go_end0
      exact ⟨⟨_, rfl⟩, .inl ⟨l, rfl, HJ.out⟩⟩
theorem all_stops (n bb rp : Nat) (q : Option Addr) (cap : Nat) (l : List (Int × Int)) (w : World) (hl : l.length ≤ 1000000) (D : Nat → TypeId → Prop) (hL : RnAt bb rp q cap l w) (hd : Off D bb rp q l) :
    SeqStopsK Fence.wide n Try.prog 61 #[.pointer (at0 bb)] encS (FrC D) (fun ys => ys = l) (fun pre => pre <+: l) l.length w := by
  intro l' J Jx W hW hJ _ hY h0
  exact all1_in n l' bb rp q cap l hl J Jx W hJ (fun pre x W1 hj hlen => (hY pre x W1 hj hlen).mono fun e W' h => h.imp (fun ⟨p, q, r⟩ => ⟨p, q, fun hw => hw.frC r hd⟩) id) (hL.fr (Fr.of_below (D := None) hW)) h0
theorem allF_any (rp : Nat) (W : World) : Calls Try.prog 19 #[.pointer (at0 rp)] W fun e W' =>
    e = .returned (.func (.func 61) #[] #[.pointer (at0 W.heap.size)]) ∧ W' = W.alloc (.cells #[.pointer (at0 rp)] RpT) := by
  go_enter Try.func19, Try.ntmps19
  go_wp2_with fail
  go_ret
  exact ⟨rfl, rfl⟩
theorem meetsF_any (rp : Nat) (a b : Int) (W : World) : Calls Try.prog 59 #[.pointer (at0 rp), .agg #[.int .i64 a, .int .i64 b]] W fun e W' =>
    e = .returned (.func (.func 90) #[] #[.pointer (at0 W.heap.size), .pointer (at0 (W.heap.size + 1))]) ∧ W' = (W.alloc (.cells #[.pointer (at0 rp)] RpT)).alloc (.cells #[.int .i64 a, .int .i64 b] SpT) := by
  go_enter Try.func59, Try.ntmps59
  go_wp2_with fail
  go_ret
  exact ⟨rfl, rfl⟩
end Go.Proofs.Ytfobeheplficgaa
