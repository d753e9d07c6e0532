/- Slices: what can be read of one, cuts of it, and appends, nil or not. -/
import Derived.Test.YtedogalndhackaaDoorHeap
import Derived.Deep.AppendLies
import Derived.OwnWalk
import Derived.OwnWalkIn
import Derived.Laws.OwnMore
import Derived.Laws.Slices
import Derived.OneCell
import Derived.Laws.PanicsMore
set_option linter.unusedVariables false
set_option linter.unusedSimpArgs false
namespace Go.Und
open Go.RowKit

/-- The walk stands still here. -/
def Hold (p : Prop) : Prop := p
theorem Hold.out {p : Prop} (h : Hold p) : p := h
theorem Hold.mk {p : Prop} (h : p) : Hold p := h

/-- A slice's cells, of n elements of size cells each. -/
structure Reads (w : World) (size : Nat) (p : Option Addr) (n cap : Nat) (xs : List Value) : Prop where
  len : xs.length = n * size
  room : n ≤ cap
  nil : p = none → n = 0 ∧ cap = 0
  spot : ∀ ad, p = some ad → ad.spot = none
  cell : ∀ ad, p = some ad → ∀ (j : Nat) (u : Value), xs[j]? = some u → w.cell? ⟨ad.block, ad.off + j, none⟩ = some u

theorem Reads.empty (w : World) (size : Nat) : Reads w size none 0 0 [] := ⟨by simp, Nat.le_refl _, fun _ => ⟨rfl, rfl⟩, fun _ h => (by cases h), fun _ h => (by cases h)⟩

theorem addr_add {ad : Addr} (h : ad.spot = none) (j : Nat) : ad.add j = ⟨ad.block, ad.off + j, none⟩ := by
  obtain ⟨b, o, s⟩ := ad
  cases h
  unfold Addr.add; split <;> simp_all
theorem Reads.news {w : World} {size : Nat} {p : Option Addr} {n cap : Nat} {xs : List Value} (h : Reads w size p n cap xs) {ad : Addr} (hp : p = some ad) : ∀ (j : Nat) (u : Value), xs[j]? = some u → w.cell? (ad.add j) = some u := fun j u hu => by
  rw [addr_add (h.spot ad hp)]; exact h.cell ad hp j u hu

/-- What a slice owns it reads. -/
theorem ownsRow_reads {w : World} {base : Nat} {e : TypeId} {size : Nat} {v : Value} {n : Nat} {xs : List Value} (h : w.ownsRow base e size v n xs) :
    ∃ p cap, v = .slice p n cap ∧ Reads w size p n cap xs ∧ v.ownBlock = p.map (·.block) ∧ (∀ ad, p = some ad → ad.off = 0) := by
  have h0 := h
  rcases h.2 with ⟨rfl, rfl⟩ | ⟨g, cap, cur, rfl, hb, hg, hn, hc, hs, ht⟩
  · have : xs = [] := List.eq_nil_of_length_eq_zero (by simpa using h.1)
    subst this
    exact ⟨none, 0, rfl, Reads.empty w size, rfl, fun _ h => by cases h⟩
  · exact ⟨some ⟨g, 0, none⟩, cap, rfl, ⟨h.1, hn, fun h => (by cases h), fun ad had => (by cases had; rfl), fun ad had j u hu => (by
      cases had
      have := h0.cells (g := g) rfl j u hu
      rwa [addr_add rfl] at this)⟩, rfl, fun ad had => (by cases had; rfl)⟩

section
variable {w w' : World} {size : Nat} {p : Option Addr} {n cap : Nat} {xs : List Value}
theorem Reads.fr {D : Nat → Prop} (h : Reads w size p n cap xs) (f : Fr D w w') (hd : ∀ ad, p = some ad → ¬ D ad.block) : Reads w' size p n cap xs :=
  ⟨h.len, h.room, h.nil, h.spot, fun ad hp j u hu => by
    have hc := h.cell ad hp j u hu
    have hlt : ad.block < w.heap.size := by
      unfold World.cell? at hc
      cases hb : w.heap[ad.block]? with
      | none => simp [hb] at hc
      | some o => exact heap_lt hb
    have hb := f.block ad.block hlt (hd ad hp)
    rw [← hc]
    exact World.cell?_of_block (a := ⟨ad.block, ad.off + j, none⟩) hb⟩

theorem Reads.take (h : Reads w size p n cap xs) {k : Nat} (hk : k ≤ n) : Reads w size p k cap (xs.take (k * size)) :=
  ⟨by rw [List.length_take, h.len]; exact Nat.min_eq_left (Nat.mul_le_mul_right _ hk), Nat.le_trans hk h.room, fun hp => ⟨by have := (h.nil hp).1; omega, (h.nil hp).2⟩, h.spot, fun ad hp j u hu => h.cell ad hp j u (by
    rw [List.getElem?_take] at hu; split at hu; exact hu; cases hu)⟩

theorem Reads.drop (h : Reads w size p n cap xs) {k : Nat} (hk : k ≤ n) : Reads w size (if cap = k then p else p.map (·.add (k * size))) (n - k) (cap - k) (xs.drop (k * size)) := by
  have hl : (xs.drop (k * size)).length = (n - k) * size := by rw [List.length_drop, h.len, Nat.sub_mul]
  have hr := h.room
  by_cases hc : cap = k
  · rw [if_pos hc]
    have hn : n - k = 0 := by omega
    have hx : xs.drop (k * size) = [] := List.eq_nil_of_length_eq_zero (by rw [hl, hn]; simp)
    refine ⟨hl, by omega, fun hp => ⟨hn, by omega⟩, h.spot, fun ad hp j u hu => ?_⟩
    rw [hx] at hu; cases hu
  · rw [if_neg hc]
    refine ⟨hl, by omega, fun hp => ?_, fun ad hp => ?_, fun ad hp j u hu => ?_⟩
    · cases p with
      | none => have := (h.nil rfl); omega
      | some ad => cases hp
    · cases p with
      | none => cases hp
      | some ad0 => cases hp; dsimp only; rw [addr_add (h.spot ad0 rfl)]
    · cases p with
      | none => cases hp
      | some ad0 =>
        cases hp
        dsimp only
        rw [addr_add (h.spot ad0 rfl)]
        have := h.cell ad0 rfl (k * size + j) u (by rw [← List.getElem?_drop]; exact hu)
        simpa [Nat.add_assoc] using this
end

section
variable {P : Program} (w : World) {ops : Array Oper} {rest : List Oper} {o : Oper} {a : Act} {Q : Exit → Act → World → Prop}

theorem elem_of {t e : TypeId} (ht : P.underlying t = some (.slice e)) : P.elem t = e := by simp [Program.elem, ht]

theorem run_cut_to (t e : TypeId) (i : TypeInfo) (size : Nat) (ht : P.underlying t = some (.slice e)) (hi : P.info? e = some i) (hsize : i.size = size) (p : Option Addr) (n cap : Nat) (kh : IntKind) (k : Int) (h0 : 0 ≤ k) (hk : k ≤ cap) :
    (Instr.sliceAt t (.slice p n cap) none (some (.int kh k)) none).run P w = .ok (.slice p k.toNat cap) w := by
  have he := elem_of ht
  have ht' : P.underlying t = some (.slice (P.elem t)) := by rw [he]; exact ht
  rw [run_sliceAt_slice w t _ _ _ _ ht', run_slice_h w t p n cap ht' kh k h0 hk, he]
  have hp : (if cap = 0 then p else p.map (·.add (0 * i.size))) = p := by
    split
    · rfl
    · cases p <;> simp [Addr.add]
  simp [sizeOf, typeInfo, hi, sliced, Result.andThen, Addr.add]

theorem run_cut_from (t e : TypeId) (i : TypeInfo) (size : Nat) (ht : P.underlying t = some (.slice e)) (hi : P.info? e = some i) (hsize : i.size = size) (p : Option Addr) (n cap : Nat) (kl : IntKind) (k : Int) (h0 : 0 ≤ k) (hk : k ≤ n) :
    (Instr.sliceAt t (.slice p n cap) (some (.int kl k)) none none).run P w = .ok (.slice (if cap = k.toNat then p else p.map (·.add (k.toNat * size))) (n - k.toNat) (cap - k.toNat)) w := by
  have he := elem_of ht
  have ht' : P.underlying t = some (.slice (P.elem t)) := by rw [he]; exact ht
  rw [run_sliceAt_slice w t _ _ _ _ ht', run_slice_any w t p n cap ht']
  simp [Instr.sliceBounds, run_sliceBound, h0, hk, he, sizeOf, typeInfo, hi, sliced, Result.andThen, hsize]

theorem wpList_cut_to (hgd : o.guard = none) (x h : Operand) (t e : TypeId) (ho : o.op = .slice t x none (some h) none) (i : TypeInfo) (size : Nat) (ht : P.underlying t = some (.slice e)) (hi : P.info? e = some i) (hsize : i.size = size)
    (p : Option Addr) (n cap : Nat) (xs : List Value) (hx : a.eval x = .slice p n cap) (hr : Reads w size p n cap xs) (kh : IntKind) (k : Int) (hh : a.eval h = .int kh k) (h0 : 0 ≤ k) (hk : k ≤ n)
    (hK : Reads w size p k.toNat cap (xs.take (k.toNat * size)) → wpList P ops Q rest (a.put o.dst (.slice p k.toNat cap)) w) : wpList P ops Q (o :: rest) a w := by
  refine wpList_plain hgd fun K hK' => ?_
  have hroom := hr.room
  have hrun := run_cut_to (P := P) w t e i size ht hi hsize p n cap kh k h0 (by omega)
  unfold Oper.wp execOp
  simp only [ho, hx, hh, Option.map_some, Option.map_none, Sem.run_bind, Sem.run_pure, hrun, Result.andThen_ok]
  exact hK' _ _ (hK (hr.take (by omega)))

theorem wpList_cut_from (hgd : o.guard = none) (x h : Operand) (t e : TypeId) (ho : o.op = .slice t x (some h) none none) (i : TypeInfo) (size : Nat) (ht : P.underlying t = some (.slice e)) (hi : P.info? e = some i) (hsize : i.size = size)
    (p : Option Addr) (n cap : Nat) (xs : List Value) (hx : a.eval x = .slice p n cap) (hr : Reads w size p n cap xs) (kh : IntKind) (k : Int) (hh : a.eval h = .int kh k) (h0 : 0 ≤ k) (hk : k ≤ n)
    (hK : ∀ q, Reads w size q (n - k.toNat) (cap - k.toNat) (xs.drop (k.toNat * size)) → wpList P ops Q rest (a.put o.dst (.slice q (n - k.toNat) (cap - k.toNat))) w) : wpList P ops Q (o :: rest) a w := by
  refine wpList_plain hgd fun K hK' => ?_
  have hrun := run_cut_from (P := P) w t e i size ht hi hsize p n cap kh k h0 hk
  unfold Oper.wp execOp
  simp only [ho, hx, hh, Option.map_some, Option.map_none, Sem.run_bind, Sem.run_pure, hrun, Result.andThen_ok]
  exact hK' _ _ (hK _ (hr.drop (by omega)))

/-- Append of what can be read, be it nothing, onto what is owned, be it nothing. -/
theorem run_append_row (t ty : TypeId) (base : Nat) (e : TypeId) (i : TypeInfo) (z : Value) (size bytes : Nat) (ht : P.underlying t = some (.slice e)) (hi : P.info? e = some i) (hz : i.zero = some z)
    (hsize : i.size = size) (hby : i.bytes = bytes) (hzs : z.cells.size = size) (hsz : 0 < size)
    (v : Value) (n : Nat) (xs : List Value) (hown : w.ownsRow base e size v n xs)
    (p : Option Addr) (m c : Nat) (news : List Value) (hr : Reads w size p m c news) (h1 : ∀ u ∈ news, u.oneCell' = true)
    (h63 : n + m ≤ maxLen) (hbytes : (n + m) * bytes ≤ 140737488355328) (hbase : base ≤ w.heap.size) :
    ∃ q c' w', (Builtin.append_ #[t, t] ty #[v, .slice p m c]).run P w = .ok (.slice q (n + m) c') w' ∧ w'.ownsRow base e size (.slice q (n + m) c') (n + m) (xs ++ news) ∧ Fr (fun b => v.ownBlock = some b) w w' ∧
      ((Value.slice q (n + m) c').ownBlock = v.ownBlock ∨ (Value.slice q (n + m) c').ownBlock = some w.heap.size) := by
  cases p with
  | none =>
    obtain ⟨rfl, rfl⟩ := hr.nil rfl
    have hnews : news = [] := List.eq_nil_of_length_eq_zero (by simpa using hr.len)
    subst hnews
    have hrun := run_append_owned_none (P := P) w base t ty e i size ht hi v n xs hown
    obtain ⟨q, c', hv, _⟩ := ownsRow_reads hown
    refine ⟨q, c', w, by rw [hrun, hv]; rfl, by rw [Nat.add_zero, List.append_nil, ← hv]; exact hown, Fr.refl _ w, .inl (by rw [Nat.add_zero, ← hv])⟩
  | some ad =>
    obtain ⟨v', w', h2, h3, h4, _, h5⟩ := run_append_own_at (P := P) w base t ty e i z size bytes ht hi hz hsize hby hzs hsz v n xs hown ad m c news hr.len (hr.news rfl) h1 h63 hbytes hbase
    obtain ⟨q, c', hv, _⟩ := ownsRow_reads h3
    refine ⟨q, c', w', by rw [← hv]; exact h2, by rw [← hv]; exact h3, ⟨h4.os, h4.tape, h4.output, h4.size, fun k hk hn => h4.block k hk (fun e => hn e.symm)⟩, by rw [← hv]; exact h5⟩

theorem wpList_append_row (hgd : o.guard = none) (s x : Operand) (t : TypeId)
    (ho : o.op = .call { callee := .builtin .append, args := #[s, x], argTypes := #[t, t] })
    (base : Nat) (e : TypeId) (i : TypeInfo) (z : Value) (size bytes : Nat) (ht : P.underlying t = some (.slice e)) (hi : P.info? e = some i) (hz : i.zero = some z)
    (hsize : i.size = size) (hby : i.bytes = bytes) (hzs : z.cells.size = size) (hsz : 0 < size)
    (v : Value) (n : Nat) (xs : List Value) (hs : a.eval s = v) (hown : w.ownsRow base e size v n xs)
    (p : Option Addr) (m c : Nat) (news : List Value) (hx : a.eval x = .slice p m c) (hr : Reads w size p m c news) (h1 : ∀ u ∈ news, u.oneCell' = true)
    (h63 : n + m ≤ maxLen) (hbytes : (n + m) * bytes ≤ 140737488355328) (hbase : base ≤ w.heap.size)
    (h : ∀ q c' w', w'.ownsRow base e size (.slice q (n + m) c') (n + m) (xs ++ news) → Fr (fun b => v.ownBlock = some b) w w' →
      ((Value.slice q (n + m) c').ownBlock = v.ownBlock ∨ (Value.slice q (n + m) c').ownBlock = some w.heap.size) → wpList P ops Q rest (a.put o.dst (.slice q (n + m) c')) w') : wpList P ops Q (o :: rest) a w := by
  refine wpList_plain hgd fun K hK => ?_
  obtain ⟨q, c', w', hrun, h2, h3, h4⟩ := run_append_row (P := P) w t o.type base e i z size bytes ht hi hz hsize hby hzs hsz v n xs hown p m c news hr h1 h63 hbytes hbase
  unfold Oper.wp execOp
  simp only [ho, resolve, invoke, builtin, Sem.run_bind, Sem.run_pure, Result.andThen_ok, List.map_toArray, List.map_cons, List.map_nil, hs, hx, hrun]
  exact hK _ _ (h q c' w' h2 h3 h4)

theorem wpListIn_append_row {F : Fence} {d : Nat} (hgd : o.guard = none) (s x : Operand) (t : TypeId)
    (ho : o.op = .call { callee := .builtin .append, args := #[s, x], argTypes := #[t, t] })
    (base : Nat) (e : TypeId) (i : TypeInfo) (z : Value) (size bytes : Nat) (ht : P.underlying t = some (.slice e)) (hi : P.info? e = some i) (hz : i.zero = some z)
    (hsize : i.size = size) (hby : i.bytes = bytes) (hzs : z.cells.size = size) (hsz : 0 < size)
    (v : Value) (n : Nat) (xs : List Value) (hs : a.eval s = v) (hown : w.ownsRow base e size v n xs)
    (p : Option Addr) (m c : Nat) (news : List Value) (hx : a.eval x = .slice p m c) (hr : Reads w size p m c news) (h1 : ∀ u ∈ news, u.oneCell' = true)
    (h63 : n + m ≤ maxLen) (hbytes : (n + m) * bytes ≤ 140737488355328) (hbase : base ≤ w.heap.size)
    (h : ∀ q c' w', w'.ownsRow base e size (.slice q (n + m) c') (n + m) (xs ++ news) → Fr (fun b => v.ownBlock = some b) w w' →
      ((Value.slice q (n + m) c').ownBlock = v.ownBlock ∨ (Value.slice q (n + m) c').ownBlock = some w.heap.size) → wpListIn F d P ops Q rest (a.put o.dst (.slice q (n + m) c')) w') : wpListIn F d P ops Q (o :: rest) a w := by
  refine wpListIn_plain hgd fun K hK' => ?_
  obtain ⟨q, c', w', hrun, h2, h3, h4⟩ := run_append_row (P := P) w t o.type base e i z size bytes ht hi hz hsize hby hzs hsz v n xs hown p m c news hr h1 h63 hbytes hbase
  unfold Oper.wpIn
  refine ⟨?_, ?_⟩
  · simp [Oper.about, ho, resolve, Target.leads, Sem.run_pure]
  · rw [Oper.semAt_plain F _ _ (by rw [ho]; intro c hc'; cases hc')]
    simp [execOp, ho, resolve, invoke, builtin, hs, hx, hrun, Result.andThen]
    exact hK' _ _ (h q c' w' h2 h3 h4)
end
end Go.Und
