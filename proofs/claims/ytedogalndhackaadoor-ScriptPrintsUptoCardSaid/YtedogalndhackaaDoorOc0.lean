/- Bytes in memory: a writer's, a reader's; slices of slices. -/
import Derived.Test.YtedogalndhackaaDoorRowR
import Derived.Test.YtedogalndhackaaDoorSep
import Derived.Test.YtedogalndhackaaDoorOp0
set_option linter.unusedVariables false
set_option linter.unusedSimpArgs false
namespace Go.Und
open Go.RowKit

def u8c (x : Int) : List Value := [.int .u8 x]
theorem u8c_len : ∀ x, (u8c x).length = 1 := fun _ => rfl
theorem u8c_one : ∀ x, ∀ u ∈ u8c x, u.oneCell' = true := fun x u hu => by
  obtain rfl := List.mem_singleton.1 hu
  rfl
def blc (b : Int × Int) : List Value := [.int .u32 b.1, .int .u32 b.2]
theorem blc_len : ∀ x, (blc x).length = 2 := fun _ => rfl
theorem blc_one : ∀ x, ∀ u ∈ blc x, u.oneCell' = true := fun x u hu => by
  simp only [blc, List.mem_cons, List.not_mem_nil, or_false] at hu
  rcases hu with rfl | rfl <;> rfl
/-- All blocks of some objects. -/
abbrev fpL (L : List Ob) (k : Nat) : Prop := ∃ o ∈ L, o.fp k
@[elab_as_elim] theorem Sep.gen {D : Nat → Prop} {w0 : World} {L : List Ob} {P : World → Prop} (w : World) (S : Sep D w0 w L) (h : ∀ V, Sep D w0 V L → P V) : P w := h w S
theorem Sep.self {D : Nat → Prop} {w0 w : World} {L : List Ob} (S : Sep D w0 w L) : Sep (fpL L) w w L := Sep.of L S.ok S.apart
theorem Sep.head {D : Nat → Prop} {w0 w : World} {L R : List Ob} (S : Sep D w0 w (L ++ R)) : Sep (fpL L) w w L := (S.drop (List.sublist_append_left L R)).self
/-- What a callee did to some objects, beside others. -/
theorem Sep.did {D : Nat → Prop} {w0 w w' : World} {L R L' : List Ob} (S : Sep D w0 w (L ++ R)) (S' : Sep (fpL L) w w' L') : Sep D w0 w' (L' ++ R) := by
  have hp := List.pairwise_append.1 S.apart
  have stay : ∀ o ∈ R, ∀ k, o.fp k → ¬ fpL L k := fun o ho k hk ⟨a, ha, hk'⟩ => hp.2.2 a ha o ho k hk' hk
  refine ⟨S.fr.trans' S'.fr fun k hk ⟨a, ha, hk'⟩ => ?_, fun o ho => ?_, fun o ho k hk => ?_, List.pairwise_append.2 ⟨S'.apart, hp.2.1, fun a ha b hb k hk hk' => ?_⟩⟩
  · rcases S.fp a (List.mem_append_left _ ha) k hk' with h | h
    · exact h
    · omega
  · rcases List.mem_append.1 ho with ho | ho
    · exact S'.ok o ho
    · exact o.fr (S.ok o (List.mem_append_right _ ho)) S'.fr (stay o ho)
  · rcases List.mem_append.1 ho with ho | ho
    · rcases S'.fp o ho k hk with ⟨a, ha, hk'⟩ | h
      · exact S.fp a (List.mem_append_left _ ha) k hk'
      · exact .inr (Nat.le_trans S.fr.size h)
    · exact S.fp o (List.mem_append_right _ ho) k hk
  · rcases S'.fp a ha k hk with h | h
    · exact stay b hb k hk' h
    · have := b.lt (S.ok b (List.mem_append_right _ hb)) hk'
      omega
section
variable {P : Program} (w : World) {ops : Array Oper} {rest : List Oper} {o : Oper} {a : Act} {Q : Exit → Act → World → Prop}
theorem run_cut_mid (t e : TypeId) (i : TypeInfo) (size : Nat) (ht : P.underlying t = some (.slice e)) (hi : P.info? e = some i) (hsize : i.size = size) (p : Option Addr) (n cap : Nat) (kl kh : IntKind) (k m : Int) (h0 : 0 ≤ k) (hk : k ≤ m) (hm : m ≤ cap) :
    (Instr.sliceAt t (.slice p n cap) (some (.int kl k)) (some (.int kh m)) none).run P w = .ok (.slice (if cap = k.toNat then p else p.map (·.add (k.toNat * size))) (m.toNat - k.toNat) (cap - k.toNat)) w := by
  have he := elem_of ht
  have ht' : P.underlying t = some (.slice (P.elem t)) := by rw [he]; exact ht
  have h1 : 0 ≤ m := by omega
  rw [run_sliceAt_slice w t _ _ _ _ ht', run_slice_any w t p n cap ht']
  have h2 : k ≤ (m.toNat : Int) := by omega
  have e2 := run_sliceBound (P := P) (w := w) kl k m.toNat .sliceB h0 h2
  simp [Instr.sliceBounds, run_sliceBound, h0, h1, hm, e2, he, sizeOf, typeInfo, hi, sliced, Result.andThen, hsize]
theorem wpList_cut_mid (hgd : o.guard = none) (x l h : Operand) (t e : TypeId) (ho : o.op = .slice t x (some l) (some h) none) (i : TypeInfo) (size : Nat) (ht : P.underlying t = some (.slice e)) (hi : P.info? e = some i) (hsize : i.size = size)
    (p : Option Addr) (n cap : Nat) (xs : List Value) (hx : a.eval x = .slice p n cap) (hr : Reads w size p n cap xs) (kl kh : IntKind) (k m : Int) (hl : a.eval l = .int kl k) (hh : a.eval h = .int kh m) (h0 : 0 ≤ k) (hk : k ≤ m) (hm : m ≤ n)
    (hK : ∀ q, Reads w size q (m.toNat - k.toNat) (cap - k.toNat) ((xs.take (m.toNat * size)).drop (k.toNat * size)) → wpList P ops Q rest (a.put o.dst (.slice q (m.toNat - k.toNat) (cap - k.toNat))) w) : wpList P ops Q (o :: rest) a w := by
  refine wpList_plain hgd fun K hK' => ?_
  have hroom := hr.room
  have hrun := run_cut_mid (P := P) w t e i size ht hi hsize p n cap kl kh k m h0 hk (by omega)
  unfold Oper.wp execOp
  simp only [ho, hx, hl, hh, Option.map_some, Option.map_none, Sem.run_bind, Sem.run_pure, hrun, Result.andThen_ok]
  exact hK' _ _ (hK _ ((hr.take (by omega)).drop (by omega)))
theorem cell_frN {w w' : World} {a : Addr} {v : Value} (f : Fr None w w') (h : w.cell? a = some v) : w'.cell? a = some v :=
  (World.cell?_of_block (f.block _ (World.block_lt_of_cell? w _ h) (fun h => h))).trans h
theorem GrowsR.sep {α : Type} {f : α → List Value} {n : Nat} {T : TypeId} {w w' : World} {p : Option Addr} {m c : Nat} {l : List α} (h : GrowsR f n T w w' p m c l) : Sep None w w' [Ob.row 0 T n (.slice p m c) m (fc f l)] :=
  ⟨h.fr, fun o ho => (by rw [List.mem_singleton.1 ho]; exact h.row0), fun o ho k hk => (by rw [List.mem_singleton.1 ho] at hk; exact .inr (h.far k hk)), List.pairwise_singleton _ _⟩
/-- Append, as one step of a region that draws. -/
theorem step_append_row {K : Act → World → Prop} {E : Prop} (hgd : o.guard = none) (s x : Operand) (t : TypeId)
    (ho : o.op = .call { callee := .builtin .append, args := #[s, x], argTypes := #[t, t] })
    (base : Nat) (e : TypeId) (i : TypeInfo) (z : Value) (size bytes : Nat) (ht : P.underlying t = some (.slice e)) (hi : P.info? e = some i) (hz : i.zero = some z)
    (hsize : i.size = size) (hby : i.bytes = bytes) (hzs : z.cells.size = size) (hsz : 0 < size)
    (v : Value) (n : Nat) (xs : List Value) (hs : a.eval s = v) (hown : w.ownsRow base e size v n xs)
    (p : Option Addr) (m c : Nat) (news : List Value) (hx : a.eval x = .slice p m c) (hr : Reads w size p m c news) (h1 : ∀ u ∈ news, u.oneCell' = true)
    (h63 : n + m ≤ maxLen) (hbytes : (n + m) * bytes ≤ 140737488355328) (hbase : base ≤ w.heap.size)
    (h : ∀ q c' w', w'.ownsRow base e size (.slice q (n + m) c') (n + m) (xs ++ news) → Fr (fun b => v.ownBlock = some b) w w' →
      ((Value.slice q (n + m) c').ownBlock = v.ownBlock ∨ (Value.slice q (n + m) c').ownBlock = some w.heap.size) → K (a.put o.dst (.slice q (n + m) c')) w') :
    if Region.wanted o (yielded ops a.tmps) = true then Oper.wp P o a w K Q else E := by
  have hw : Region.wanted o (yielded ops a.tmps) = true := by simp [Region.wanted, hgd]
  rw [if_pos hw]
  obtain ⟨q, c', w', hrun, h2, h3, h4⟩ := run_append_row (P := P) w t o.type base e i z size bytes ht hi hz hsize hby hzs hsz v n xs hown p m c news hr h1 h63 hbytes hbase
  unfold Oper.wp execOp
  simp only [ho, resolve, invoke, builtin, Sem.run_bind, Sem.run_pure, Result.andThen_ok, List.map_toArray, List.map_cons, List.map_nil, hs, hx, hrun]
  exact h q c' w' h2 h3 h4
end
end Go.Und
