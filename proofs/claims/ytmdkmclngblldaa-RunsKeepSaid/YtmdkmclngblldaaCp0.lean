/- Cells laid over cells: copy and clear over records of more than one cell. -/
import Derived.Test.YtmdkmclngblldaaRowR
import Derived.Test.YtmdkmclngblldaaSep
import Derived.Laws.CopyRow
import Derived.Laws.IdiomCopy
import Derived.Lib.Overlaps
import Derived.Lib.AppendZerosOnto
set_option linter.unusedVariables false
set_option linter.unusedSimpArgs false
namespace Go.Und
open Go.RowKit

/-- Some cells laid over others, from a place on. -/
def spl {α : Type} (cur : List α) (o : Nat) (cs : List α) : List α := cur.take o ++ cs ++ cur.drop (o + cs.length)
theorem spl_len {α : Type} {cur : List α} {o : Nat} {cs : List α} (h : o + cs.length ≤ cur.length) : (spl cur o cs).length = cur.length := by
  unfold spl; simp; omega
theorem spl_get {α : Type} {cur : List α} {o : Nat} {cs : List α} (h : o + cs.length ≤ cur.length) (j : Nat) : (spl cur o cs)[j]? = if j < o then cur[j]? else if j < o + cs.length then cs[j - o]? else cur[j]? := by
  unfold spl
  have e : min o cur.length = o := by omega
  rcases Nat.lt_or_ge j o with h1 | h1
  · rw [if_pos h1, List.append_assoc, List.getElem?_append_left (by simp; omega), List.getElem?_take_of_lt h1]
  · rw [if_neg (by omega), List.append_assoc, List.getElem?_append_right (by simp; omega)]
    simp only [List.length_take, e]
    rcases Nat.lt_or_ge j (o + cs.length) with h2 | h2
    · rw [if_pos h2, List.getElem?_append_left (by omega)]
    · rw [if_neg (by omega), List.getElem?_append_right (by omega), List.getElem?_drop]
      congr 1; omega
section
variable {P : Program} (w : World)
theorem run_copy_rowK (dT sT ty elem : TypeId) (k g o dLen dCap : Nat) (a : Addr) (sLen sCap : Nat) (cur : Array Value) (t : TypeId) (cs : List Value)
    (hu : P.underlying dT = some (.slice elem)) (hs : (P.info? elem).map (·.size) = some k)
    (hg : w.heap[g]? = some (.cells cur t (0, 0))) (hn : cs.length = Nat.min sLen dLen * k)
    (hsrc : ∀ j v, cs[j]? = some v → w.cell? (a.add j) = some v) (hfit : o + cs.length ≤ cur.size) (h1 : ∀ v ∈ cs, v.oneCell' = true) :
    (Builtin.copy_ #[dT, sT] ty #[.slice (some ⟨g, o, none⟩) dLen dCap, .slice (some a) sLen sCap]).run P w =
      .ok (goInt (Nat.min sLen dLen)) (w.setRow g (spl cur.toList o cs).toArray) := by
  have hl := run_loadCells_list (P := P) w a cs hsrc
  have hst := run_storeCells_at P g o t cs 0 cur w hg (by simpa using hfit) h1
  cases hq : P.info? elem with
  | none => simp [hq] at hs
  | some i =>
    have hi : i.size = k := by simpa [hq] using hs
    simp [Builtin.copy_, run_underlying hu, Builtin.lenOf, Builtin.firstCells, sizeOf, typeInfo, hq, hi, ← hn, hl, hst, spl]
/-- Nothing goes over. -/
theorem run_copy_noneK (dT sT ty elem : TypeId) (d a : Option Addr) (dLen dCap sLen sCap : Nat) (hu : P.underlying dT = some (.slice elem)) (hs : ((P.info? elem).map (·.size)).isSome = true) (hn : Nat.min sLen dLen = 0) :
    (Builtin.copy_ #[dT, sT] ty #[.slice d dLen dCap, .slice a sLen sCap]).run P w = .ok (goInt 0) w := by
  cases hq : P.info? elem with
  | none => simp [hq] at hs
  | some i =>
    have hl : ∀ (x : Addr), (loadCells x 0).run P w = .ok #[] w := fun x => by simpa using run_loadCells_list (P := P) w x [] (by simp)
    cases d <;> cases a <;> simp [Builtin.copy_, run_underlying hu, Builtin.lenOf, Builtin.firstCells, sizeOf, typeInfo, hq, hn, storeCells, hl]
theorem run_clear_rowK (t e ty : TypeId) (z : Value) (k n1 : Nat) (ht : P.underlying t = some (.slice e)) (hv : ∀ w, (zeroValue e).run P w = .ok z w) (hzs : (Builtin.zeroCells z.cells k).size = k * n1) (hz1 : ∀ v ∈ (Builtin.zeroCells z.cells k).toList, v.oneCell' = true)
    (g o c : Nat) (cur : Array Value) (ct : TypeId) (hg : w.heap[g]? = some (.cells cur ct (0, 0))) (hk : 0 < k) (hfit : o + k * n1 ≤ cur.size) :
    (Builtin.clear_ #[t] ty #[.slice (some ⟨g, o, none⟩) k c]).run P w = .ok (.tuple #[]) (w.setRow g (spl cur.toList o (Builtin.zeroCells z.cells k).toList).toArray) := by
  have hst := run_storeCells_at P g o ct (Builtin.zeroCells z.cells k).toList 0 cur w hg (by simpa [hzs] using hfit) hz1
  simp only [Nat.add_zero] at hst
  obtain ⟨m, rfl⟩ : ∃ m, k = m + 1 := ⟨k - 1, by omega⟩
  simp [Builtin.clear_, run_underlying ht, hv, hst, spl]
theorem setRow_blk {g : Nat} {t : TypeId} {cur : Array Value} (h : Blk w g t cur) (cs : Array Value) : Blk (w.setRow g cs) g t cs := setRow_heap w g cur cs t _ h
theorem setRow_fr (g : Nat) (cs : Array Value) : Fr (· = g) w (w.setRow g cs) := ⟨rfl, rfl, rfl, by simp [World.setRow], fun k _ hn => setRow_other w g k cs hn⟩
end
section
variable {P : Program} {w : World} {ops : Array Oper} {rest : List Oper} {o : Oper} {a : Act} {Q : Exit → Act → World → Prop}
theorem wpList_copy_eq (hgd : o.guard = none) (d s : Operand) (t t' : TypeId) (ho : o.op = .call { callee := .builtin .copy, args := #[d, s], argTypes := #[t, t'] }) (v u : Value) (hd : a.eval d = v) (hs : a.eval s = u) {v' : Value} {w' : World}
    (hr : (Builtin.copy_ #[t, t'] o.type #[v, u]).run P w = .ok v' w') (h : wpList P ops Q rest (a.put o.dst v') w') : wpList P ops Q (o :: rest) a w := by
  refine wpList_plain hgd fun K hK => ?_
  unfold Oper.wp execOp
  simp only [ho, resolve, invoke, builtin, Sem.run_bind, Sem.run_pure, Result.andThen_ok, List.map_toArray, List.map_cons, List.map_nil, hd, hs, hr]
  exact hK _ _ h
theorem wpList_append_eq (hgd : o.guard = none) (d s : Operand) (t t' : TypeId) (ho : o.op = .call { callee := .builtin .append, args := #[d, s], argTypes := #[t, t'] }) (v u : Value) (hd : a.eval d = v) (hs : a.eval s = u) {v' : Value} {w' : World}
    (hr : (Builtin.append_ #[t, t'] o.type #[v, u]).run P w = .ok v' w') (h : wpList P ops Q rest (a.put o.dst v') w') : wpList P ops Q (o :: rest) a w := by
  refine wpList_plain hgd fun K hK => ?_
  unfold Oper.wp execOp
  simp only [ho, resolve, invoke, builtin, Sem.run_bind, Sem.run_pure, Result.andThen_ok, List.map_toArray, List.map_cons, List.map_nil, hd, hs, hr]
  exact hK _ _ h
theorem step_copy_eq {K : Act → World → Prop} {E : Prop} (hgd : o.guard = none) (d s : Operand) (t t' : TypeId) (ho : o.op = .call { callee := .builtin .copy, args := #[d, s], argTypes := #[t, t'] }) (v u : Value) (hd : a.eval d = v) (hs : a.eval s = u) {v' : Value} {w' : World}
    (hr : (Builtin.copy_ #[t, t'] o.type #[v, u]).run P w = .ok v' w') (h : K (a.put o.dst v') w') : if Region.wanted o (yielded ops a.tmps) = true then Oper.wp P o a w K Q else E := by
  have hw : Region.wanted o (yielded ops a.tmps) = true := by simp [Region.wanted, hgd]
  rw [if_pos hw]
  unfold Oper.wp execOp
  simp only [ho, resolve, invoke, builtin, Sem.run_bind, Sem.run_pure, Result.andThen_ok, List.map_toArray, List.map_cons, List.map_nil, hd, hs, hr]
  exact h
theorem wpList_clear_eq (hgd : o.guard = none) (d : Operand) (t : TypeId) (ho : o.op = .call { callee := .builtin .clear, args := #[d], argTypes := #[t] }) (v : Value) (hd : a.eval d = v) {v' : Value} {w' : World}
    (hr : (Builtin.clear_ #[t] o.type #[v]).run P w = .ok v' w') (h : wpList P ops Q rest (a.put o.dst v') w') : wpList P ops Q (o :: rest) a w := by
  refine wpList_plain hgd fun K hK => ?_
  unfold Oper.wp execOp
  simp only [ho, resolve, invoke, builtin, Sem.run_bind, Sem.run_pure, Result.andThen_ok, List.map_toArray, List.map_cons, List.map_nil, hd, hr]
  exact hK _ _ h
end
theorem lay_up {α : Type} {c A V R : List α} (hA : c.take A.length = A) (hl : A.length + V.length + R.length ≤ c.length) : (spl (spl c A.length V) (A.length + V.length) R).take (A.length + V.length + R.length) = A ++ (V ++ R) := by
  have h1 : A.length + V.length ≤ c.length := by omega
  have h2 : A.length + V.length + R.length ≤ (spl c A.length V).length := by rw [spl_len h1]; omega
  apply List.ext_getElem?
  intro j
  rw [List.getElem?_take]
  split
  · rw [spl_get h2, spl_get h1]
    rcases Nat.lt_or_ge j A.length with g | g
    · rw [if_pos (by omega), if_pos g, List.getElem?_append_left g]
      have := congrArg (·[j]?) hA
      simp only [List.getElem?_take_of_lt g] at this
      exact this
    · rcases Nat.lt_or_ge j (A.length + V.length) with k | k
      · rw [if_pos k, if_neg (by omega), if_pos k, List.getElem?_append_right g, List.getElem?_append_left (by omega)]
      · rw [if_neg (by omega), if_pos (by omega), List.getElem?_append_right g, List.getElem?_append_right (by omega)]
        congr 1; omega
  · rw [List.getElem?_eq_none (by simp; omega)]
theorem lay_down {α : Type} {c A V R : List α} (hA : c.take A.length = A) (hl : A.length + V.length + R.length ≤ c.length) : (spl (spl c (A.length + V.length) R) A.length V).take (A.length + V.length + R.length) = A ++ (V ++ R) := by
  have h1 : A.length + V.length + R.length ≤ c.length := by omega
  have h2 : A.length + V.length ≤ (spl c (A.length + V.length) R).length := by rw [spl_len h1]; omega
  apply List.ext_getElem?
  intro j
  rw [List.getElem?_take]
  split
  · rw [spl_get h2, spl_get h1]
    rcases Nat.lt_or_ge j A.length with g | g
    · rw [if_pos g, if_pos (by omega), List.getElem?_append_left g]
      have := congrArg (·[j]?) hA
      simp only [List.getElem?_take_of_lt g] at this
      exact this
    · rcases Nat.lt_or_ge j (A.length + V.length) with k | k
      · rw [if_neg (by omega), if_pos k, List.getElem?_append_right g, List.getElem?_append_left (by omega)]
      · rw [if_neg (by omega), if_neg (by omega), if_neg (by omega), if_pos (by omega), List.getElem?_append_right g, List.getElem?_append_right (by omega)]
        congr 1; omega
  · rw [List.getElem?_eq_none (by simp; omega)]
theorem spl_take {α : Type} {c cs : List α} {o k : Nat} (h : o + cs.length ≤ c.length) (hk : k ≤ o) : (spl c o cs).take k = c.take k := by
  apply List.ext_getElem?
  intro j
  rw [List.getElem?_take, List.getElem?_take]
  split
  · rw [spl_get h, if_pos (by omega)]
  · rfl
theorem spl_mid {α : Type} {c cs : List α} {o a b : Nat} (h : o + cs.length ≤ c.length) (ha : o + cs.length ≤ a) : ((spl c o cs).drop a).take b = (c.drop a).take b := by
  apply List.ext_getElem?
  intro j
  rw [List.getElem?_take, List.getElem?_take]
  split
  · rw [List.getElem?_drop, List.getElem?_drop, spl_get h, if_neg (by omega), if_neg (by omega)]
  · rfl
theorem Sep.setRow {D : Nat → Prop} {w0 w : World} {L : List Ob} (S : Sep D w0 w L) (i : Nat) {b : Nat} {t : TypeId} {cs : Array Value} (h : L[i]? = some (Ob.blk b t cs)) (cs' : Array Value) :
    Sep D w0 (w.setRow b cs') (L.set i (Ob.blk b t cs')) :=
  S.turn i h _ (setRow_fr w b cs') (fun _ _ h => h) (setRow_blk w (S.at_ i h) cs') (fun _ h => .inl h)
end Go.Und
