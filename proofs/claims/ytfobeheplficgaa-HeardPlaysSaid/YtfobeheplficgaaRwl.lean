/- Spans as rows; slices.Insert and slices.Replace; lay; a set's small calls: walked. -/
import Derived.Test.YtfobeheplficgaaRowR
import Derived.Test.YtfobeheplficgaaSep
import Derived.Laws.CopyRow
import Derived.Laws.IdiomCopy
import Derived.Lib.Overlaps
import Derived.Lib.AppendZerosOnto
import Derived.Test.YtfobeheplficgaaRw4
import Derived.BigQuiet
set_option linter.unusedVariables false
set_option linter.unusedSimpArgs false
namespace Go.Und
open Go.RowKit

/-- Some cells laid over others, from a place on. -/
def spl {α : Type} (cur : List α) (o : Nat) (cs : List α) : List α := cur.take o ++ cs ++ cur.drop (o + cs.length)
theorem spl_len {α : Type} {cur : List α} {o : Nat} {cs : List α} (h : o + cs.length ≤ cur.length) : (spl cur o cs).length = cur.length := by
  unfold spl; simp; omega
theorem spl_get {α : Type} {cur : List α} {o : Nat} {cs : List α} (h : o + cs.length ≤ cur.length) (j : Nat) : (spl cur o cs)[j]? = if j < o then cur[j]? else if j < o + cs.length then cs[j - o]? else cur[j]? := by
  unfold spl
  have e : min o cur.length = o := by omega
  rcases Nat.lt_or_ge j o with h1 | h1
  · rw [if_pos h1, List.append_assoc, List.getElem?_append_left (by simp; omega), List.getElem?_take_of_lt h1]
  · rw [if_neg (by omega), List.append_assoc, List.getElem?_append_right (by simp; omega)]
    simp only [List.length_take, e]
    rcases Nat.lt_or_ge j (o + cs.length) with h2 | h2
    · rw [if_pos h2, List.getElem?_append_left (by omega)]
    · rw [if_neg (by omega), List.getElem?_append_right (by omega), List.getElem?_drop]
      congr 1; omega
section
variable {P : Program} (w : World)
theorem run_copy_rowK (dT sT ty elem : TypeId) (k g o dLen dCap : Nat) (a : Addr) (sLen sCap : Nat) (cur : Array Value) (t : TypeId) (cs : List Value)
    (hu : P.underlying dT = some (.slice elem)) (hs : (P.info? elem).map (·.size) = some k)
    (hg : w.heap[g]? = some (.cells cur t (0, 0))) (hn : cs.length = Nat.min sLen dLen * k)
    (hsrc : ∀ j v, cs[j]? = some v → w.cell? (a.add j) = some v) (hfit : o + cs.length ≤ cur.size) (h1 : ∀ v ∈ cs, v.oneCell' = true) :
    (Builtin.copy_ #[dT, sT] ty #[.slice (some ⟨g, o, none⟩) dLen dCap, .slice (some a) sLen sCap]).run P w =
      .ok (goInt (Nat.min sLen dLen)) (w.setRow g (spl cur.toList o cs).toArray) := by
  have hl := run_loadCells_list (P := P) w a cs hsrc
  have hst := run_storeCells_at P g o t cs 0 cur w hg (by simpa using hfit) h1
  cases hq : P.info? elem with
  | none => simp [hq] at hs
  | some i =>
    have hi : i.size = k := by simpa [hq] using hs
    simp [Builtin.copy_, run_underlying hu, Builtin.lenOf, Builtin.firstCells, sizeOf, typeInfo, hq, hi, ← hn, hl, hst, spl]
/-- Nothing goes over. -/
theorem run_copy_noneK (dT sT ty elem : TypeId) (d a : Option Addr) (dLen dCap sLen sCap : Nat) (hu : P.underlying dT = some (.slice elem)) (hs : ((P.info? elem).map (·.size)).isSome = true) (hn : Nat.min sLen dLen = 0) :
    (Builtin.copy_ #[dT, sT] ty #[.slice d dLen dCap, .slice a sLen sCap]).run P w = .ok (goInt 0) w := by
  cases hq : P.info? elem with
  | none => simp [hq] at hs
  | some i =>
    have hl : ∀ (x : Addr), (loadCells x 0).run P w = .ok #[] w := fun x => by simpa using run_loadCells_list (P := P) w x [] (by simp)
    cases d <;> cases a <;> simp [Builtin.copy_, run_underlying hu, Builtin.lenOf, Builtin.firstCells, sizeOf, typeInfo, hq, hn, storeCells, hl]
theorem run_clear_rowK (t e ty : TypeId) (z : Value) (k n1 : Nat) (ht : P.underlying t = some (.slice e)) (hv : ∀ w, (zeroValue e).run P w = .ok z w) (hzs : (Builtin.zeroCells z.cells k).size = k * n1) (hz1 : ∀ v ∈ (Builtin.zeroCells z.cells k).toList, v.oneCell' = true)
    (g o c : Nat) (cur : Array Value) (ct : TypeId) (hg : w.heap[g]? = some (.cells cur ct (0, 0))) (hk : 0 < k) (hfit : o + k * n1 ≤ cur.size) :
    (Builtin.clear_ #[t] ty #[.slice (some ⟨g, o, none⟩) k c]).run P w = .ok (.tuple #[]) (w.setRow g (spl cur.toList o (Builtin.zeroCells z.cells k).toList).toArray) := by
  have hst := run_storeCells_at P g o ct (Builtin.zeroCells z.cells k).toList 0 cur w hg (by simpa [hzs] using hfit) hz1
  simp only [Nat.add_zero] at hst
  obtain ⟨m, rfl⟩ : ∃ m, k = m + 1 := ⟨k - 1, by omega⟩
  simp [Builtin.clear_, run_underlying ht, hv, hst, spl]
theorem setRow_blk {g : Nat} {t : TypeId} {cur : Array Value} (h : Blk w g t cur) (cs : Array Value) : Blk (w.setRow g cs) g t cs := setRow_heap w g cur cs t _ h
theorem setRow_fr (g : Nat) (cs : Array Value) : Fr (· = g) w (w.setRow g cs) := ⟨rfl, rfl, rfl, by simp [World.setRow], fun k _ hn => setRow_other w g k cs hn⟩
end
section
variable {P : Program} {w : World} {ops : Array Oper} {rest : List Oper} {o : Oper} {a : Act} {Q : Exit → Act → World → Prop}
theorem wpList_copy_eq (hgd : o.guard = none) (d s : Operand) (t t' : TypeId) (ho : o.op = .call { callee := .builtin .copy, args := #[d, s], argTypes := #[t, t'] }) (v u : Value) (hd : a.eval d = v) (hs : a.eval s = u) {v' : Value} {w' : World}
    (hr : (Builtin.copy_ #[t, t'] o.type #[v, u]).run P w = .ok v' w') (h : wpList P ops Q rest (a.put o.dst v') w') : wpList P ops Q (o :: rest) a w := by
  refine wpList_plain hgd fun K hK => ?_
  unfold Oper.wp execOp
  simp only [ho, resolve, invoke, builtin, Sem.run_bind, Sem.run_pure, Result.andThen_ok, List.map_toArray, List.map_cons, List.map_nil, hd, hs, hr]
  exact hK _ _ h
theorem wpList_append_eq (hgd : o.guard = none) (d s : Operand) (t t' : TypeId) (ho : o.op = .call { callee := .builtin .append, args := #[d, s], argTypes := #[t, t'] }) (v u : Value) (hd : a.eval d = v) (hs : a.eval s = u) {v' : Value} {w' : World}
    (hr : (Builtin.append_ #[t, t'] o.type #[v, u]).run P w = .ok v' w') (h : wpList P ops Q rest (a.put o.dst v') w') : wpList P ops Q (o :: rest) a w := by
  refine wpList_plain hgd fun K hK => ?_
  unfold Oper.wp execOp
  simp only [ho, resolve, invoke, builtin, Sem.run_bind, Sem.run_pure, Result.andThen_ok, List.map_toArray, List.map_cons, List.map_nil, hd, hs, hr]
  exact hK _ _ h
theorem step_copy_eq {K : Act → World → Prop} {E : Prop} (hgd : o.guard = none) (d s : Operand) (t t' : TypeId) (ho : o.op = .call { callee := .builtin .copy, args := #[d, s], argTypes := #[t, t'] }) (v u : Value) (hd : a.eval d = v) (hs : a.eval s = u) {v' : Value} {w' : World}
    (hr : (Builtin.copy_ #[t, t'] o.type #[v, u]).run P w = .ok v' w') (h : K (a.put o.dst v') w') : if Region.wanted o (yielded ops a.tmps) = true then Oper.wp P o a w K Q else E := by
  have hw : Region.wanted o (yielded ops a.tmps) = true := by simp [Region.wanted, hgd]
  rw [if_pos hw]
  unfold Oper.wp execOp
  simp only [ho, resolve, invoke, builtin, Sem.run_bind, Sem.run_pure, Result.andThen_ok, List.map_toArray, List.map_cons, List.map_nil, hd, hs, hr]
  exact h
theorem wpList_clear_eq (hgd : o.guard = none) (d : Operand) (t : TypeId) (ho : o.op = .call { callee := .builtin .clear, args := #[d], argTypes := #[t] }) (v : Value) (hd : a.eval d = v) {v' : Value} {w' : World}
    (hr : (Builtin.clear_ #[t] o.type #[v]).run P w = .ok v' w') (h : wpList P ops Q rest (a.put o.dst v') w') : wpList P ops Q (o :: rest) a w := by
  refine wpList_plain hgd fun K hK => ?_
  unfold Oper.wp execOp
  simp only [ho, resolve, invoke, builtin, Sem.run_bind, Sem.run_pure, Result.andThen_ok, List.map_toArray, List.map_cons, List.map_nil, hd, hr]
  exact hK _ _ h
end
theorem lay_up {α : Type} {c A V R : List α} (hA : c.take A.length = A) (hl : A.length + V.length + R.length ≤ c.length) : (spl (spl c A.length V) (A.length + V.length) R).take (A.length + V.length + R.length) = A ++ (V ++ R) := by
  have h1 : A.length + V.length ≤ c.length := by omega
  have h2 : A.length + V.length + R.length ≤ (spl c A.length V).length := by rw [spl_len h1]; omega
  apply List.ext_getElem?
  intro j
  rw [List.getElem?_take]
  split
  · rw [spl_get h2, spl_get h1]
    rcases Nat.lt_or_ge j A.length with g | g
    · rw [if_pos (by omega), if_pos g, List.getElem?_append_left g]
      have := congrArg (·[j]?) hA
      simp only [List.getElem?_take_of_lt g] at this
      exact this
    · rcases Nat.lt_or_ge j (A.length + V.length) with k | k
      · rw [if_pos k, if_neg (by omega), if_pos k, List.getElem?_append_right g, List.getElem?_append_left (by omega)]
      · rw [if_neg (by omega), if_pos (by omega), List.getElem?_append_right g, List.getElem?_append_right (by omega)]
        congr 1; omega
  · rw [List.getElem?_eq_none (by simp; omega)]
theorem lay_down {α : Type} {c A V R : List α} (hA : c.take A.length = A) (hl : A.length + V.length + R.length ≤ c.length) : (spl (spl c (A.length + V.length) R) A.length V).take (A.length + V.length + R.length) = A ++ (V ++ R) := by
  have h1 : A.length + V.length + R.length ≤ c.length := by omega
  have h2 : A.length + V.length ≤ (spl c (A.length + V.length) R).length := by rw [spl_len h1]; omega
  apply List.ext_getElem?
  intro j
  rw [List.getElem?_take]
  split
  · rw [spl_get h2, spl_get h1]
    rcases Nat.lt_or_ge j A.length with g | g
    · rw [if_pos g, if_pos (by omega), List.getElem?_append_left g]
      have := congrArg (·[j]?) hA
      simp only [List.getElem?_take_of_lt g] at this
      exact this
    · rcases Nat.lt_or_ge j (A.length + V.length) with k | k
      · rw [if_neg (by omega), if_pos k, List.getElem?_append_right g, List.getElem?_append_left (by omega)]
      · rw [if_neg (by omega), if_neg (by omega), if_neg (by omega), if_pos (by omega), List.getElem?_append_right g, List.getElem?_append_right (by omega)]
        congr 1; omega
  · rw [List.getElem?_eq_none (by simp; omega)]
theorem spl_take {α : Type} {c cs : List α} {o k : Nat} (h : o + cs.length ≤ c.length) (hk : k ≤ o) : (spl c o cs).take k = c.take k := by
  apply List.ext_getElem?
  intro j
  rw [List.getElem?_take, List.getElem?_take]
  split
  · rw [spl_get h, if_pos (by omega)]
  · rfl
theorem spl_mid {α : Type} {c cs : List α} {o a b : Nat} (h : o + cs.length ≤ c.length) (ha : o + cs.length ≤ a) : ((spl c o cs).drop a).take b = (c.drop a).take b := by
  apply List.ext_getElem?
  intro j
  rw [List.getElem?_take, List.getElem?_take]
  split
  · rw [List.getElem?_drop, List.getElem?_drop, spl_get h, if_neg (by omega), if_neg (by omega)]
  · rfl
theorem Sep.setRow {D : Nat → Prop} {w0 w : World} {L : List Ob} (S : Sep D w0 w L) (i : Nat) {b : Nat} {t : TypeId} {cs : Array Value} (h : L[i]? = some (Ob.blk b t cs)) (cs' : Array Value) :
    Sep D w0 (w.setRow b cs') (L.set i (Ob.blk b t cs')) :=
  S.turn i h _ (setRow_fr w b cs') (fun _ _ h => h) (setRow_blk w (S.at_ i h) cs') (fun _ h => .inl h)
end Go.Und
namespace Go.Proofs.Ytfobeheplficgaa
open Go.RowKit Go.Und Go.Shelf
attribute [local go_sem] Oper.semAt_some
attribute [local go_sem ↓] Go.wp_at_zero Go.wp_at_succ

theorem spInfo : (Try.prog.info? SpT).map (fun i => (i.zero, i.size, i.bytes)) = some (some (.agg #[.int .i64 0, .int .i64 0]), 2, 16) := by kernel_rfl
theorem spSize : (Try.prog.info? SpT).map (·.size) = some 2 := by kernel_rfl
/-- A row that is not none, block and cells. -/
theorem row_parts {w : World} {q : Option Addr} {cap : Nat} {l : List (Int × Int)} (h : (srow q cap l).ok w) (hne : 0 < l.length) : ∃ g cur, q = some ⟨g, 0, none⟩ ∧ Blk w g SpT cur ∧ l.length ≤ cap ∧ cap ≤ maxLen ∧ cur.size = cap * 2 ∧ cur.toList.take (l.length * 2) = fc spc l := by
  rcases h.2 with ⟨e, _⟩ | ⟨g, c, cur, e, _, h1, h2, h3, h4, h5⟩
  · injection e with _ e2 _; omega
  · obtain ⟨rfl, rfl⟩ : q = some ⟨g, 0, none⟩ ∧ cap = c := by simpa using e
    exact ⟨g, cur, rfl, h1, h2, h3, h4, h5⟩
theorem row_of {w : World} {g cap : Nat} {cur : Array Value} {l : List (Int × Int)} (hb : Blk w g SpT cur) (h1 : l.length ≤ cap) (h2 : cap ≤ maxLen) (h3 : cur.size = cap * 2) (h4 : cur.toList.take (l.length * 2) = fc spc l) : (srow (some ⟨g, 0, none⟩) cap l).ok w :=
  ⟨by rw [fc_length spc_len], .inr ⟨g, cap, cur, rfl, Nat.zero_le _, hb, h1, h2, h3, h4⟩⟩
theorem add_at (b o j : Nat) : (⟨b, o, none⟩ : Addr).add j = ⟨b, o + j, none⟩ := by unfold Addr.add; split <;> simp_all
theorem cut_from_run {g n cap : Nat} (k : Nat) (hk : k ≤ n) (hc : k < cap) (W : World) : (Instr.sliceAt SlT (.slice (some ⟨g, 0, none⟩) n cap) (some (.int .i64 (k : Int))) none none).run Try.prog W = .ok (.slice (some ⟨g, k * 2, none⟩) (n - k) (cap - k)) W := by
  obtain ⟨i, hi, _, hz1, _⟩ := info_parts spInfo
  have h1 := run_cut_from (P := Try.prog) W SlT SpT i 2 Try.underlying22 hi hz1 (some ⟨g, 0, none⟩) n cap .i64 (k : Int) (by omega) (by omega)
  rw [h1, show (k : Int).toNat = k by omega, if_neg (by omega)]
  simp [Addr.add]
  omega
theorem cut_to_run {q : Option Addr} {n cap : Nat} (k : Nat) (hk : k ≤ cap) (W : World) : (Instr.sliceAt SlT (.slice q n cap) none (some (.int .i64 (k : Int))) none).run Try.prog W = .ok (.slice q k cap) W := by
  obtain ⟨i, hi, _, hz1, _⟩ := info_parts spInfo
  have h1 := run_cut_to (P := Try.prog) W SlT SpT i 2 Try.underlying22 hi hz1 q n cap .i64 (k : Int) (by omega) (by omega)
  rw [h1, show (k : Int).toNat = k by omega]
theorem overlaps_run {ga gb la ca lb cb oa ob : Nat} {ca' cb' : Array Value} {W : World} (hne : ga ≠ gb) (ha : Blk W ga SpT ca') (hb : Blk W gb SpT cb') (hk : 0 < cb'.size) :
    (callFunc 101 #[.slice (some ⟨ga, oa, none⟩) la ca, .slice (some ⟨gb, ob, none⟩) lb cb]).run Try.prog W = .ok (.value (.bool false)) W := by
  have hsa : W.shape? ga = some (SpT, ca'.size) := by unfold Blk at ha; simp [World.shape?, ha]
  have hsb : W.shape? gb = some (SpT, cb'.size) := by unfold Blk at hb; simp [World.shape?, hb]
  rw [run_callFunc_extern Try.func101 (by kernel_rfl) (by kernel_rfl) (by kernel_rfl) (e := Extern.SlicesOverlaps.overlaps #[SlT, SlT] #[4]) (by kernel_rfl),
    Lib.run_overlaps_apart W SlT 4 SpT Try.underlying22 2 Try.sizeOf24 ⟨ga, oa, none⟩ ⟨gb, ob, none⟩ la ca lb cb hne SpT SpT ca'.size cb'.size hsa hsb (by omega) (ha.frozen _) (ha.frozen _)]
  rfl
theorem fc_lay (l vs : List (Int × Int)) (i j : Nat) : fc spc (l.take i ++ (vs ++ l.drop j)) = (fc spc l).take (i * 2) ++ (fc spc vs ++ (fc spc l).drop (j * 2)) := by
  rw [fc_append, fc_append, ← fc_take spc_len, ← fc_drop spc_len]
set_option maxRecDepth 100000 in
set_option maxHeartbeats 4000000 in
/-- There is room: those behind go up by one. -/
theorem insert_shift (g cap : Nat) (cur : Array Value) (l : List (Int × Int)) (i : Nat) (vb : Nat) (x : Int × Int) (w : World) (hi : i < l.length) (hroom : l.length + 1 ≤ cap) (hcap : cap ≤ maxLen) (hl : l.length ≤ 1000000)
    (S : Sep (fpL [Ob.blk g SpT cur, Ob.blk vb SpT #[.int .i64 x.1, .int .i64 x.2]]) w w [Ob.blk g SpT cur, Ob.blk vb SpT #[.int .i64 x.1, .int .i64 x.2]]) (hsz : cur.size = cap * 2) (hcur : cur.toList.take (l.length * 2) = fc spc l) :
    Calls Try.prog 100 #[.slice (some ⟨g, 0, none⟩) l.length cap, .int .i64 (i : Int), .slice (some ⟨vb, 0, none⟩) 1 1] w fun e w' =>
      ∃ cur', e = .returned (.slice (some ⟨g, 0, none⟩) (l.length + 1) cap) ∧ Sep (fpL [Ob.blk g SpT cur, Ob.blk vb SpT #[.int .i64 x.1, .int .i64 x.2]]) w w' [Ob.blk g SpT cur', Ob.blk vb SpT #[.int .i64 x.1, .int .i64 x.2]] ∧ cur'.size = cap * 2 ∧ cur'.toList.take ((l.length + 1) * 2) = fc spc (l.take i ++ ([x] ++ l.drop i)) := by
  have hne : vb ≠ g := fun e => S.ne 0 1 (by decide) rfl rfl g rfl e.symm
  have hR : (fc spc (l.drop i)).length = (l.length - i) * 2 := by rw [fc_length spc_len, List.length_drop]
  have hV : fc spc [x] = [.int .i64 x.1, .int .i64 x.2] := rfl
  have hcl : cur.toList.length = cap * 2 := by rw [Array.length_toList, hsz]
  have c1 : ∀ W, (Instr.sliceAt SlT (.slice (some ⟨g, 0, none⟩) l.length cap) (some (.int .i64 (i : Int))) none none).run Try.prog W = _ := cut_from_run (g := g) i (by omega) (by omega)
  have c2 : ∀ W, (Instr.sliceAt SlT (.slice (some ⟨g, 0, none⟩) l.length cap) none (some (.int .i64 ((l.length + 1 : Nat) : Int))) none).run Try.prog W = _ := cut_to_run (l.length + 1) hroom
  have c3 : ∀ W, (Instr.sliceAt SlT (.slice (some ⟨g, 0, none⟩) (l.length + 1) cap) (some (.int .i64 ((i + 1 : Nat) : Int))) none none).run Try.prog W = _ := cut_from_run (g := g) (i + 1) (by omega) (by omega)
  have c4 : ∀ W, (Instr.sliceAt SlT (.slice (some ⟨g, 0, none⟩) (l.length + 1) cap) (some (.int .i64 (i : Int))) none none).run Try.prog W = _ := cut_from_run (g := g) i (by omega) (by omega)
  rw [Int.natCast_add, Int.natCast_one] at c2 c3
  have hov := fun la ca ob lb cb => overlaps_run (la := la) (ca := ca) (oa := 0) (ob := ob) (lb := lb) (cb := cb) hne (S.at_ 1 rfl) (S.at_ 0 rfl) (by rw [hsz]; omega)
  have e1 : IntKind.i64.wrap ((i : Int) + 1) = i + 1 := by simp [IntKind.wrap, IntKind.bits, IntKind.signed]; omega
  have g1 : ((i : Int) == l.length) = false := beq_eq_false_iff_ne.2 (by omega)
  have hfit1 : (i + 1) * 2 + (fc spc (l.drop i)).length ≤ cur.toList.length := by rw [hR, hcl]; omega
  have hcp1 : ∀ W ty dc sc, Blk W g SpT cur → (Builtin.copy_ #[SlT, SlT] ty #[.slice (some ⟨g, (i + 1) * 2, none⟩) (l.length - i) dc, .slice (some ⟨g, i * 2, none⟩) (l.length + 1 - i) sc]).run Try.prog W = .ok (goInt (Nat.min (l.length + 1 - i) (l.length - i))) (W.setRow g (spl cur.toList ((i + 1) * 2) (fc spc (l.drop i))).toArray) := fun W ty dc sc hb =>
    run_copy_rowK W SlT SlT ty SpT 2 g ((i + 1) * 2) _ dc ⟨g, i * 2, none⟩ _ sc cur SpT (fc spc (l.drop i)) Try.underlying22 spSize hb (by rw [hR]; simp only [Nat.min_def]; split <;> omega) (fun j v hj => by
      have hlt : j < (l.length - i) * 2 := by rw [← hR]; exact (List.getElem?_eq_some_iff.1 hj).1
      rw [← fc_drop spc_len, List.getElem?_drop, ← hcur, List.getElem?_take_of_lt (by omega)] at hj
      rw [add_at, hb.cell]
      simpa using hj) (by rw [Array.length_toList] at hfit1; exact hfit1) (fc_one spc_one _)
  have hfit2 : i * 2 + (fc spc [x]).length ≤ (spl cur.toList ((i + 1) * 2) (fc spc (l.drop i))).length := by rw [spl_len hfit1, hcl, hV]; simp; omega
  have hcp2 : ∀ W ty dc, Blk W g SpT (spl cur.toList ((i + 1) * 2) (fc spc (l.drop i))).toArray → Blk W vb SpT #[.int .i64 x.1, .int .i64 x.2] → (Builtin.copy_ #[SlT, SlT] ty #[.slice (some ⟨g, i * 2, none⟩) (l.length + 1 - i) dc, .slice (some ⟨vb, 0, none⟩) 1 1]).run Try.prog W = .ok (goInt (Nat.min 1 (l.length + 1 - i))) (W.setRow g (spl (spl cur.toList ((i + 1) * 2) (fc spc (l.drop i))) (i * 2) (fc spc [x])).toArray) := fun W ty dc hb hv => by
    have := run_copy_rowK (P := Try.prog) W SlT SlT ty SpT 2 g (i * 2) (l.length + 1 - i) dc ⟨vb, 0, none⟩ 1 1 _ SpT (fc spc [x]) Try.underlying22 spSize hb (by rw [hV]; simp only [Nat.min_def]; split <;> simp <;> omega) (fun j v hj => by
      rw [add_at, hv.cell]
      simpa [hV] using hj) (by simpa using hfit2) (fc_one spc_one _)
    simpa using this
  have S1 := S.drew.setRow 0 rfl (spl cur.toList ((i + 1) * 2) (fc spc (l.drop i))).toArray
  have S2 := S1.setRow 0 rfl (spl (spl cur.toList ((i + 1) * 2) (fc spc (l.drop i))) (i * 2) (fc spc [x])).toArray
  have HB0 := Lib.hid (S.drew.at_ 0 rfl)
  have HB1 := Lib.hid (And.intro (S1.at_ 0 rfl) (S1.at_ 1 rfl))
  have HFin : (spl (spl cur.toList ((i + 1) * 2) (fc spc (l.drop i))) (i * 2) (fc spc [x])).take ((l.length + 1) * 2) = fc spc (l.take i ++ ([x] ++ l.drop i)) := by
    have hA : (fc spc (l.take i)).length = i * 2 := by rw [fc_length spc_len, List.length_take]; omega
    have h := lay_down (c := cur.toList) (A := fc spc (l.take i)) (V := fc spc [x]) (R := fc spc (l.drop i)) (by
      rw [hA, ← fc_take spc_len, ← hcur, List.take_take]; congr 1; omega) (by rw [hA, hR, hV, hcl]; simp; omega)
    rw [hA, hR, hV] at h
    rw [hV]
    rw [fc_append, fc_append, hV, ← h]
    simp only [List.length_cons, List.length_nil]
    rw [show i * 2 + 2 = (i + 1) * 2 by omega, show (i + 1) * 2 + (l.length - i) * 2 = (l.length + 1) * 2 by omega]
  have HFI := Lib.hid HFin
  have HSZ := Lib.hid (show (spl (spl cur.toList ((i + 1) * 2) (fc spc (l.drop i))) (i * 2) (fc spc [x])).toArray.size = cap * 2 by rw [List.size_toArray, spl_len hfit2, spl_len hfit1, hcl])
  have HS2 := Lib.hid S2
  have HCP1 := Lib.hid hcp1
  have HCP2 := Lib.hid hcp2
  clear S S1 S2 HFin hcur hR hV hcl hfit1 hfit2 hcp1 hcp2 hsz
  generalize spl (spl cur.toList ((i + 1) * 2) (fc spc (l.drop i))) (i * 2) (fc spc [x]) = cu2 at *
  generalize spl cur.toList ((i + 1) * 2) (fc spc (l.drop i)) = cu1 at *
  go_enter Try.func100, Try.ntmps100
  go_wp2_with (simp only [hov])
  go_region_law (refine step_copy_eq rfl _ _ SlT SlT rfl _ _ (by simp [Act.eval, Act.put]) (by simp [Act.eval, Act.put]) (HCP1.out w.drew _ (cap - (i + 1)) (cap - i) HB0.out) ?_)
  all_goals
    have q2 := HCP2.out (w.drew.setRow g cu1.toArray) 3 (cap - i) HB1.out.1 HB1.out.2
    go_wp2_with fail
    go_ret
    exact ⟨_, rfl, HS2.out, HSZ.out, by simpa using HFI.out⟩
/-- append(s[:i], make(..)...): what stands ahead, and room behind it. -/
theorem grow_run (g cap : Nat) (cur : Array Value) (l : List (Int × Int)) (i k : Nat) (w : World) (hb : Blk w g SpT cur) (hi : i ≤ l.length) (hcap : cap < i + k) (hle : l.length ≤ cap) (hl : l.length ≤ 1000000) (hk : k ≤ 1000000) (hcur : cur.toList.take (l.length * 2) = fc spc l) :
    ∃ (arr : Array Value) (c2 : Nat), (∀ ty, (Builtin.append_ #[SlT, IntT] ty #[.slice (some ⟨g, 0, none⟩) i cap, .int .i64 (k : Int)]).run Try.prog w = .ok (.slice (some ⟨w.heap.size, 0, none⟩) (i + k) c2) ((w.alloc (.cells arr SpT)).drew)) ∧ i + k ≤ c2 ∧ c2 ≤ maxLen ∧ arr.size = c2 * 2 ∧ arr.toList.take (i * 2) = fc spc (l.take i) := by
  obtain ⟨inf, hi1, hz, hz1, hz2⟩ := info_parts spInfo
  have hlen : (fc spc (l.take i)).length = i * 2 := by rw [fc_length spc_len, List.length_take]; omega
  have hold : (Builtin.firstCells inf.size i (.slice (some ⟨g, 0, none⟩) i cap)).run Try.prog w.drew = .ok (fc spc (l.take i)).toArray w.drew := by
    rw [hz1]
    have := run_loadCells_list (P := Try.prog) w.drew ⟨g, 0, none⟩ (fc spc (l.take i)) (fun j v hj => by
      have hlt : j < i * 2 := by rw [← hlen]; exact (List.getElem?_eq_some_iff.1 hj).1
      rw [← fc_take spc_len, List.getElem?_take_of_lt hlt, ← hcur, List.getElem?_take_of_lt (by omega)] at hj
      rw [add_at, hb.drew.cell, Nat.zero_add]
      simpa using hj)
    rw [hlen] at this
    simpa [Builtin.firstCells] using this
  have hnc : Builtin.nextslicecap (i + k) cap ≤ 2 * (i + k) := nextslicecap_le (by omega)
  refine ⟨_, grownCap w (i + k) cap SpT, fun ty => Lib.run_append_grow_zeros w SlT IntT ty SpT inf (.agg #[.int .i64 0, .int .i64 0]) .i64 .i64 Try.underlying22 Try.underlying3 hi1 hz (some ⟨g, 0, none⟩) i cap (fc spc (l.take i)) hold k (by omega) (by omega) hcap (by omega) (by rw [hz2]; omega) (by rw [hz2]; omega), grownCap_ge w (i + k) cap SpT, grownCap_le_maxLen w (i + k) cap SpT (by unfold maxLen; omega), ?_, ?_⟩
  · have hge := grownCap_ge w (i + k) cap SpT
    simp only [Array.size_append, List.size_toArray, size_zeroCells, hlen, Value.cells]
    simp
    omega
  · rw [Array.toList_append, Array.toList_append, List.append_assoc]
    simp only [List.toList_toArray]
    rw [List.take_left' hlen]
set_option maxRecDepth 100000 in
set_option maxHeartbeats 4000000 in
/-- There is no room: all goes over. -/
theorem insert_grow (g cap : Nat) (cur : Array Value) (l : List (Int × Int)) (i : Nat) (vb : Nat) (x : Int × Int) (w : World) (hi : i < l.length) (hroom : cap < l.length + 1) (hle : l.length ≤ cap) (hl : l.length ≤ 100000)
    (S : Sep (fpL [Ob.blk g SpT cur, Ob.blk vb SpT #[.int .i64 x.1, .int .i64 x.2]]) w w [Ob.blk g SpT cur, Ob.blk vb SpT #[.int .i64 x.1, .int .i64 x.2]]) (hsz : cur.size = cap * 2) (hcur : cur.toList.take (l.length * 2) = fc spc l) :
    Calls Try.prog 100 #[.slice (some ⟨g, 0, none⟩) l.length cap, .int .i64 (i : Int), .slice (some ⟨vb, 0, none⟩) 1 1] w fun e w' =>
      ∃ g2 c2 cur', e = .returned (.slice (some ⟨g2, 0, none⟩) (l.length + 1) c2) ∧ Sep (fpL [Ob.blk g SpT cur, Ob.blk vb SpT #[.int .i64 x.1, .int .i64 x.2]]) w w' [Ob.blk g2 SpT cur', Ob.blk vb SpT #[.int .i64 x.1, .int .i64 x.2]] ∧ l.length + 1 ≤ c2 ∧ c2 ≤ maxLen ∧ cur'.size = c2 * 2 ∧ cur'.toList.take ((l.length + 1) * 2) = fc spc (l.take i ++ ([x] ++ l.drop i)) := by
  obtain ⟨arr, c2, hap, hc2, hc2m, harr, htk⟩ := grow_run g cap cur l i (l.length + 1 - i) w (S.at_ 0 rfl) (by omega) (by omega) hle (by omega) (by omega) hcur
  rw [show i + (l.length + 1 - i) = l.length + 1 by omega] at hap hc2
  rw [show ((l.length + 1 - i : Nat) : Int) = (l.length : Int) + 1 - i by omega] at hap
  have HAP := Lib.hid (hap SlT)
  have hR : (fc spc (l.drop i)).length = (l.length - i) * 2 := by rw [fc_length spc_len, List.length_drop]
  have hV : fc spc [x] = [.int .i64 x.1, .int .i64 x.2] := rfl
  have hcl : arr.toList.length = c2 * 2 := by rw [Array.length_toList, harr]
  have k1 : ∀ W, (Instr.sliceAt SlT (.slice (some ⟨g, 0, none⟩) l.length cap) (some (.int .i64 (i : Int))) none none).run Try.prog W = _ := cut_from_run (g := g) i (by omega) (by omega)
  have k2 : ∀ W, (Instr.sliceAt SlT (.slice (some ⟨g, 0, none⟩) l.length cap) none (some (.int .i64 (i : Int))) none).run Try.prog W = _ := cut_to_run i (by omega)
  have k3 : ∀ W, (Instr.sliceAt SlT (.slice (some ⟨w.heap.size, 0, none⟩) (l.length + 1) c2) (some (.int .i64 (i : Int))) none none).run Try.prog W = _ := cut_from_run (g := w.heap.size) i (by omega) (by omega)
  have k4 : ∀ W, (Instr.sliceAt SlT (.slice (some ⟨w.heap.size, 0, none⟩) (l.length + 1) c2) (some (.int .i64 ((i + 1 : Nat) : Int))) none none).run Try.prog W = _ := cut_from_run (g := w.heap.size) (i + 1) (by omega) (by omega)
  rw [Int.natCast_add, Int.natCast_one] at k4
  have e1 : IntKind.i64.wrap ((i : Int) + 1) = i + 1 := by simp [IntKind.wrap, IntKind.bits, IntKind.signed]; omega
  have g1 : ((i : Int) == l.length) = false := beq_eq_false_iff_ne.2 (by omega)
  have S1 : Sep (fpL [Ob.blk g SpT cur, Ob.blk vb SpT #[.int .i64 x.1, .int .i64 x.2]]) w (w.alloc (.cells arr SpT)).drew [Ob.blk w.heap.size SpT arr, Ob.blk g SpT cur, Ob.blk vb SpT #[.int .i64 x.1, .int .i64 x.2]] := S.drew.alloc arr SpT
  have hfit1 : i * 2 + (fc spc [x]).length ≤ arr.toList.length := by rw [hV, hcl]; simp; omega
  have q1 : (Builtin.copy_ #[SlT, SlT] 3 #[.slice (some ⟨w.heap.size, i * 2, none⟩) (l.length + 1 - i) (c2 - i), .slice (some ⟨vb, 0, none⟩) 1 1]).run Try.prog (w.alloc (.cells arr SpT)).drew = .ok (goInt (Nat.min 1 (l.length + 1 - i))) ((w.alloc (.cells arr SpT)).drew.setRow w.heap.size (spl arr.toList (i * 2) (fc spc [x])).toArray) := by
    have hv := S1.at_ 2 rfl
    exact run_copy_rowK (P := Try.prog) _ SlT SlT _ SpT 2 w.heap.size (i * 2) (l.length + 1 - i) _ ⟨vb, 0, none⟩ 1 1 arr SpT (fc spc [x]) Try.underlying22 spSize (S1.at_ 0 rfl) (by rw [hV, show Nat.min 1 (l.length + 1 - i) = 1 from Nat.min_eq_left (by omega)]; rfl) (fun j v hj => by
      rw [add_at, Blk.cell hv]
      simpa [hV] using hj) (by simpa using hfit1) (fc_one spc_one _)
  have S2 := S1.setRow 0 rfl (spl arr.toList (i * 2) (fc spc [x])).toArray
  have hfit2 : (i + 1) * 2 + (fc spc (l.drop i)).length ≤ (spl arr.toList (i * 2) (fc spc [x])).length := by rw [spl_len hfit1, hR, hcl]; omega
  have q2 : ∀ (W : World) ty, Blk W w.heap.size SpT (spl arr.toList (i * 2) (fc spc [x])).toArray → Blk W g SpT cur → (Builtin.copy_ #[SlT, SlT] ty #[.slice (some ⟨w.heap.size, (i + 1) * 2, none⟩) (l.length - i) (c2 - (i + 1)), .slice (some ⟨g, i * 2, none⟩) (l.length - i) (cap - i)]).run Try.prog W = .ok (goInt (Nat.min (l.length - i) (l.length - i))) (W.setRow w.heap.size (spl (spl arr.toList (i * 2) (fc spc [x])) ((i + 1) * 2) (fc spc (l.drop i))).toArray) := fun W ty hb ho => by
    have := run_copy_rowK (P := Try.prog) W SlT SlT ty SpT 2 w.heap.size ((i + 1) * 2) (l.length - i) (c2 - (i + 1)) ⟨g, i * 2, none⟩ (l.length - i) (cap - i) _ SpT (fc spc (l.drop i)) Try.underlying22 spSize hb (by rw [hR]; simp) (fun j v hj => by
      have hlt : j < (l.length - i) * 2 := by rw [← hR]; exact (List.getElem?_eq_some_iff.1 hj).1
      rw [← fc_drop spc_len, List.getElem?_drop, ← hcur, List.getElem?_take_of_lt (by omega)] at hj
      rw [add_at, ho.cell]
      simpa using hj) (by simpa using hfit2) (fc_one spc_one _)
    simpa using this
  have S3 := S2.drew.setRow 0 rfl (spl (spl arr.toList (i * 2) (fc spc [x])) ((i + 1) * 2) (fc spc (l.drop i))).toArray
  have HB := Lib.hid (And.intro (S2.drew.at_ 0 rfl) (S2.drew.at_ 1 rfl))
  have HFin : (spl (spl arr.toList (i * 2) (fc spc [x])) ((i + 1) * 2) (fc spc (l.drop i))).take ((l.length + 1) * 2) = fc spc (l.take i ++ ([x] ++ l.drop i)) := by
    have hA : (fc spc (l.take i)).length = i * 2 := by rw [fc_length spc_len, List.length_take]; omega
    have h := lay_up (c := arr.toList) (A := fc spc (l.take i)) (V := fc spc [x]) (R := fc spc (l.drop i)) (by
      rw [hA]; exact htk) (by rw [hA, hR, hV, hcl]; simp; omega)
    rw [hA, hR, hV] at h
    rw [hV]
    rw [fc_append, fc_append, hV, ← h]
    simp only [List.length_cons, List.length_nil]
    rw [show i * 2 + 2 = (i + 1) * 2 by omega, show (i + 1) * 2 + (l.length - i) * 2 = (l.length + 1) * 2 by omega]
  have HFI := Lib.hid HFin
  have HSZ := Lib.hid (show (spl (spl arr.toList (i * 2) (fc spc [x])) ((i + 1) * 2) (fc spc (l.drop i))).toArray.size = c2 * 2 by rw [List.size_toArray, spl_len hfit2, spl_len hfit1, hcl])
  have HS3 := Lib.hid (S3.drop (.cons_cons _ (.cons _ (List.Sublist.refl _))))
  have HQ2 := Lib.hid q2
  clear S S1 S2 S3 HFin hcur hR hV hcl hfit1 hfit2 q2 hsz hap htk
  generalize spl (spl arr.toList (i * 2) (fc spc [x])) ((i + 1) * 2) (fc spc (l.drop i)) = cu2 at *
  generalize spl arr.toList (i * 2) (fc spc [x]) = cu1 at *
  go_enter Try.func100, Try.ntmps100
  go_wp2_with (at_builtin; refine wpList_append_eq rfl _ _ SlT IntT rfl _ _ rfl rfl HAP.out ?_)
  go_region_law (refine step_copy_eq rfl _ _ SlT SlT rfl _ _ (by simp [Act.eval, Act.put]) (by simp [Act.eval, Act.put]) (HQ2.out (((w.alloc (.cells arr SpT)).drew.setRow w.heap.size cu1.toArray).drew) _ HB.out.1 HB.out.2) ?_)
  all_goals
    go_wp2_with fail
    go_ret
    exact ⟨_, c2, _, rfl, HS3.out, hc2, hc2m, HSZ.out, by simpa using HFI.out⟩
theorem reads_blk {w : World} {vb : Nat} {x : Int × Int} (h : Blk w vb SpT #[.int .i64 x.1, .int .i64 x.2]) : Reads w 2 (some ⟨vb, 0, none⟩) 1 1 (fc spc [x]) :=
  ⟨rfl, Nat.le_refl _, fun h => (by cases h), fun ad h => (by cases h; rfl), fun ad h' j u hu => by
    cases h'
    rw [h.cell]
    have hu2 : ([.int .i64 x.1, .int .i64 x.2] : List Value)[j]? = some u := hu
    simpa using hu2⟩
theorem fpL_swap {w : World} {a a' b : Ob} (h : ∀ k, a.fp k ↔ a'.fp k) (k : Nat) : fpL [a, b] k ↔ fpL [a', b] k := by
  constructor
  · rintro ⟨o, ho, hk⟩
    rcases List.mem_cons.1 ho with rfl | ho
    · exact ⟨a', by simp, (h k).1 hk⟩
    · exact ⟨o, List.mem_cons_of_mem _ ho, hk⟩
  · rintro ⟨o, ho, hk⟩
    rcases List.mem_cons.1 ho with rfl | ho
    · exact ⟨a, by simp, (h k).2 hk⟩
    · exact ⟨o, List.mem_cons_of_mem _ ho, hk⟩
theorem srow_fp {g cap : Nat} {l : List (Int × Int)} (cur : Array Value) (k : Nat) : (srow (some ⟨g, 0, none⟩) cap l).fp k ↔ (Ob.blk g SpT cur).fp k :=
  ⟨fun h => (Option.some.inj (show some g = some k from h)).symm, fun h => (show some g = some k from congrArg some (show k = g from h).symm)⟩
set_option maxRecDepth 100000 in
set_option maxHeartbeats 4000000 in
theorem insert_any (q : Option Addr) (cap : Nat) (l : List (Int × Int)) (i : Nat) (vb : Nat) (x : Int × Int) (w : World) (hi : i ≤ l.length) (hl : l.length ≤ 100000)
    (S : Sep (fpL [srow q cap l, Ob.blk vb SpT #[.int .i64 x.1, .int .i64 x.2]]) w w [srow q cap l, Ob.blk vb SpT #[.int .i64 x.1, .int .i64 x.2]]) :
    Calls Try.prog 100 #[.slice q l.length cap, .int .i64 (i : Int), .slice (some ⟨vb, 0, none⟩) 1 1] w fun e w' =>
      ∃ q' c', e = .returned (.slice q' (l.take i ++ ([x] ++ l.drop i)).length c') ∧ Sep (fpL [srow q cap l, Ob.blk vb SpT #[.int .i64 x.1, .int .i64 x.2]]) w w' [srow q' c' (l.take i ++ ([x] ++ l.drop i)), Ob.blk vb SpT #[.int .i64 x.1, .int .i64 x.2]] := by
  have hlen : (l.take i ++ ([x] ++ l.drop i)).length = l.length + 1 := by simp; omega
  by_cases hend : i = l.length
  · subst hend
    have hfin : l.take l.length ++ ([x] ++ l.drop l.length) = l ++ [x] := by simp
    rw [hfin] at hlen ⊢
    have hcut : ∃ q1 c1, ∀ W, (Instr.sliceAt SlT (.slice q l.length cap) (some (.int .i64 (l.length : Int))) none none).run Try.prog W = .ok (.slice q1 0 c1) W := by
      obtain ⟨inf, hi1, _, hz1, _⟩ := info_parts spInfo
      refine ⟨(if cap = ((l.length : Int)).toNat then q else q.map (·.add (((l.length : Int)).toNat * 2))), cap - ((l.length : Int)).toNat, fun W => ?_⟩
      have h1 := run_cut_from (P := Try.prog) W SlT SpT inf 2 Try.underlying22 hi1 hz1 q l.length cap .i64 (l.length : Int) (by omega) (by omega)
      rw [h1, show l.length - ((l.length : Int)).toNat = 0 by omega]
    obtain ⟨q1, c1, hcut⟩ := hcut
    obtain ⟨inf, hi1, hz0, hz1, hz2⟩ := info_parts spInfo
    have HI := Lib.hid (And.intro hi1 (And.intro hz0 (And.intro hz1 hz2))); clear hi1 hz0 hz1 hz2
    have HS := Lib.hid S
    have HLn := Lib.hid hlen
    clear S hlen hfin hi
    go_enter Try.func100, Try.ntmps100
    go_wp2_with (at_builtin; refine Hold.out ?_)
    refine Hold.mk ?_
    refine wpList_append_row _ rfl _ _ _ rfl 0 SpT inf _ 2 16 Try.underlying22 HI.out.1 HI.out.2.1 HI.out.2.2.1 HI.out.2.2.2 rfl (by decide) _ l.length (fc spc l) rfl (HS.out.at_ 0 rfl) (some ⟨vb, 0, none⟩) 1 1 (fc spc [x]) rfl (reads_blk (HS.out.at_ 1 rfl)) (fc_one spc_one _) (by simp [maxLen]; omega) (by omega) (Nat.zero_le _) ?_
    intro q2 c2 w2 ho2 hf2 hb2
    have S2 := HS.out.turn 0 rfl (Ob.row 0 SpT 2 (.slice q2 (l.length + 1) c2) (l.length + 1) (fc spc l ++ fc spc [x])) hf2 (fun _ _ h => h) ho2 (fun k hk => by
      have hk' : (Value.slice q2 (l.length + 1) c2).ownBlock = some k := hk
      rcases hb2 with e | e
      · exact .inl (Eq.trans (show (Value.slice q l.length cap).ownBlock = (Value.slice q2 (l.length + 1) c2).ownBlock from e.symm) hk')
      · rw [e] at hk'; cases hk'; exact .inr (Nat.le_refl _))
    simp only [List.set_cons_zero] at S2
    rw [← fc_append] at S2
    have HS2 := Lib.hid S2
    clear S2 ho2 hf2 hb2 HS
    go_wp2_with fail
    go_ret
    exact ⟨q2, c2, by rw [HLn.out]; rfl, by show Sep _ _ _ [Ob.row 0 SpT 2 (.slice q2 (l ++ [x]).length c2) (l ++ [x]).length (fc spc (l ++ [x])), _]; rw [HLn.out]; exact HS2.out⟩
  · obtain ⟨g, cur, rfl, hb, hle, hcm, hsz, htk⟩ := row_parts (S.at_ 0 rfl) (by omega)
    have hfp := fpL_swap (w := w) (b := Ob.blk vb SpT #[.int .i64 x.1, .int .i64 x.2]) (srow_fp (g := g) (cap := cap) (l := l) cur)
    have S' : Sep (fpL [Ob.blk g SpT cur, Ob.blk vb SpT #[.int .i64 x.1, .int .i64 x.2]]) w w [Ob.blk g SpT cur, Ob.blk vb SpT #[.int .i64 x.1, .int .i64 x.2]] := (S.swap (Ob.blk g SpT cur) hb (fun k h => (srow_fp cur k).2 h)).self
    by_cases hroom : l.length + 1 ≤ cap
    · refine (insert_shift g cap cur l i vb x w (by omega) hroom hcm (by omega) S' hsz htk).mono ?_
      rintro e w' ⟨cur', rfl, T, h1, h2⟩
      refine ⟨some ⟨g, 0, none⟩, cap, by rw [hlen], ?_⟩
      have T2 := T.swap (srow (some ⟨g, 0, none⟩) cap (l.take i ++ ([x] ++ l.drop i))) (row_of (T.at_ 0 rfl) (by rw [hlen]; exact hroom) hcm h1 (by rw [hlen]; exact h2)) (fun k h => (srow_fp cur' k).1 h)
      exact ⟨T2.fr.mono (fun k _ h => (hfp k).2 h), T2.ok, fun o ho k hk => (T2.fp o ho k hk).imp (fun h => (hfp k).2 h) id, T2.apart⟩
    · refine (insert_grow g cap cur l i vb x w (by omega) (by omega) hle hl S' hsz htk).mono ?_
      rintro e w' ⟨g2, c2, cur', rfl, T, h0, h1, h2, h3⟩
      refine ⟨some ⟨g2, 0, none⟩, c2, by rw [hlen], ?_⟩
      have T2 := T.swap (srow (some ⟨g2, 0, none⟩) c2 (l.take i ++ ([x] ++ l.drop i))) (row_of (T.at_ 0 rfl) (by rw [hlen]; exact h0) h1 h2 (by rw [hlen]; exact h3)) (fun k h => (srow_fp cur' k).1 h)
      exact ⟨T2.fr.mono (fun k _ h => (hfp k).2 h), T2.ok, fun o ho k hk => (T2.fp o ho k hk).imp (fun h => (hfp k).2 h) id, T2.apart⟩
end Go.Proofs.Ytfobeheplficgaa
namespace Go.Proofs.Ytfobeheplficgaa
open Go.RowKit Go.Und Go.Shelf
attribute [local go_sem] Oper.semAt_some
attribute [local go_sem ↓] Go.wp_at_zero Go.wp_at_succ

/-- Where a cut begins. -/
def cutO (cap k : Nat) : Nat := if cap = k then 0 else k * 2
theorem cutO_lt {cap k : Nat} (h : k < cap) : cutO cap k = k * 2 := by unfold cutO; rw [if_neg (by omega)]
theorem cut_any_run {g n cap : Nat} (k : Nat) (hk : k ≤ n) (W : World) : (Instr.sliceAt SlT (.slice (some ⟨g, 0, none⟩) n cap) (some (.int .i64 (k : Int))) none none).run Try.prog W = .ok (.slice (some ⟨g, cutO cap k, none⟩) (n - k) (cap - k)) W := by
  obtain ⟨i, hi, _, hz1, _⟩ := info_parts spInfo
  have h1 := run_cut_from (P := Try.prog) W SlT SpT i 2 Try.underlying22 hi hz1 (some ⟨g, 0, none⟩) n cap .i64 (k : Int) (by omega) (by omega)
  rw [h1, show (k : Int).toNat = k by omega]
  unfold cutO
  by_cases h : cap = k
  · rw [if_pos h, if_pos h]
  · rw [if_neg h, if_neg h]; simp [add_at]
theorem cut_mid_run {g n cap : Nat} (a b : Nat) (hab : a ≤ b) (hb : b ≤ cap) (W : World) : (Instr.sliceAt SlT (.slice (some ⟨g, 0, none⟩) n cap) (some (.int .i64 (a : Int))) (some (.int .i64 (b : Int))) none).run Try.prog W = .ok (.slice (some ⟨g, cutO cap a, none⟩) (b - a) (cap - a)) W := by
  obtain ⟨i, hi, _, hz1, _⟩ := info_parts spInfo
  have h1 := run_cut_mid (P := Try.prog) W SlT SpT i 2 Try.underlying22 hi hz1 (some ⟨g, 0, none⟩) n cap .i64 .i64 (a : Int) (b : Int) (by omega) (by omega) (by omega)
  rw [h1, show (a : Int).toNat = a by omega, show (b : Int).toNat = b by omega]
  unfold cutO
  by_cases h : cap = a
  · rw [if_pos h, if_pos h]
  · rw [if_neg h, if_neg h]; simp [add_at]
theorem blk_same {W : World} {g o : Nat} {cur : Array Value} (h : Blk W g SpT cur) : W.setRow g (spl cur.toList o []).toArray = W := by
  have e : spl cur.toList o [] = cur.toList := by simp [spl]
  rw [e]
  exact setRow_self W g cur SpT (0, 0) h
/-- Some spans laid over cells, be they none. -/
theorem copyV_run {W : World} {g o dLen dCap cv : Nat} {cur : Array Value} {qv : Option Addr} {vs : List (Int × Int)} (ty : TypeId) (hb : Blk W g SpT cur) (hv : (srow qv cv vs).ok W) (hd : vs.length ≤ dLen) (hfit : o + vs.length * 2 ≤ cur.size) :
    (Builtin.copy_ #[SlT, SlT] ty #[.slice (some ⟨g, o, none⟩) dLen dCap, .slice qv vs.length cv]).run Try.prog W = .ok (goInt vs.length) (W.setRow g (spl cur.toList o (fc spc vs)).toArray) := by
  cases hvs : vs with
  | nil =>
    rw [show fc spc [] = [] from rfl, blk_same hb]
    exact run_copy_noneK W SlT SlT ty SpT _ _ _ _ _ _ Try.underlying22 (by rw [spSize]; rfl) (Nat.zero_min _)
  | cons x r =>
    rw [← hvs]
    obtain ⟨gv, cu, rfl, hbv, hle, _, _, htk⟩ := row_parts hv (by rw [hvs]; simp)
    have := run_copy_rowK (P := Try.prog) W SlT SlT ty SpT 2 g o dLen dCap ⟨gv, 0, none⟩ vs.length cv cur SpT (fc spc vs) Try.underlying22 spSize hb (by rw [fc_length spc_len, show Nat.min vs.length dLen = vs.length from Nat.min_eq_left hd]) (fun j v hj => by
      have hlt : j < vs.length * 2 := by rw [← fc_length spc_len]; exact (List.getElem?_eq_some_iff.1 hj).1
      rw [← htk, List.getElem?_take_of_lt hlt] at hj
      rw [add_at, hbv.cell, Nat.zero_add]
      simpa using hj) (by rw [fc_length spc_len]; exact hfit) (fc_one spc_one _)
    rw [show Nat.min vs.length dLen = vs.length from Nat.min_eq_left hd] at this
    exact this
theorem appendV_run {W : World} {g i cap cv : Nat} {cur : Array Value} {qv : Option Addr} {vs : List (Int × Int)} (ty : TypeId) (hb : Blk W g SpT cur) (hv : (srow qv cv vs).ok W) (hroom : i + vs.length ≤ cap) (hsz : cur.size = cap * 2) :
    (Builtin.append_ #[SlT, SlT] ty #[.slice (some ⟨g, 0, none⟩) i cap, .slice qv vs.length cv]).run Try.prog W = .ok (.slice (some ⟨g, 0, none⟩) (i + vs.length) cap) (W.setRow g (spl cur.toList (i * 2) (fc spc vs)).toArray) := by
  obtain ⟨inf, hi1, _, hz1, _⟩ := info_parts spInfo
  cases qv with
  | none =>
    have hvs : vs = [] := by
      rcases hv.2 with ⟨e, h0⟩ | ⟨_, _, _, e, _⟩
      · exact List.eq_nil_of_length_eq_zero h0
      · cases e
    subst hvs
    rcases hv.2 with ⟨e, _⟩ | ⟨_, _, _, e, _⟩
    · obtain rfl : cv = 0 := by simpa using e
      rw [show fc spc [] = [] from rfl, blk_same hb]
      have hown : W.ownsRow 0 SpT 2 (.slice (some ⟨g, 0, none⟩) i cap) i (cur.toList.take (i * 2)) ∨ True := .inr trivial
      simp [Builtin.append_, run_underlying Try.underlying22, sizeOf, typeInfo, hi1, Builtin.lenOf, show i ≤ cap by omega, Builtin.firstCells, storeCells]
    · cases e
  | some ad =>
    rcases hv.2 with ⟨e, _⟩ | ⟨gv, c, cu, e, _, hbv, _, _, _, htk⟩
    · cases e
    · obtain ⟨rfl, rfl⟩ : ad = ⟨gv, 0, none⟩ ∧ cv = c := by simpa using e
      have := run_append_room (P := Try.prog) W SlT ty SpT inf Try.underlying22 hi1 g i cap cur hb ⟨gv, 0, none⟩ vs.length cv (fc spc vs) (by rw [fc_length spc_len, hz1]) (fun j v hj => by
        have hlt : j < vs.length * 2 := by rw [← fc_length spc_len]; exact (List.getElem?_eq_some_iff.1 hj).1
        rw [← htk, List.getElem?_take_of_lt hlt] at hj
        rw [add_at, Blk.cell (show Blk W gv SpT cu from hbv), Nat.zero_add]
        simpa using hj) (fc_one spc_one _) hroom (by rw [fc_length spc_len, hz1]; omega)
      rw [hz1] at this
      exact this
abbrev zer (n : Nat) : List Value := (Builtin.zeroCells #[.int .i64 0, .int .i64 0] n).toList
theorem zer_len (n : Nat) : (zer n).length = n * 2 := by unfold zer; rw [Array.length_toList, size_zeroCells]; rfl
theorem zer_one (n : Nat) : ∀ v ∈ zer n, v.oneCell' = true := by
  intro v hv
  unfold zer Builtin.zeroCells at hv
  simp at hv
  obtain ⟨i, _, rfl⟩ := hv
  have : i % 2 = 0 ∨ i % 2 = 1 := by omega
  rcases this with h | h <;> rw [h] <;> rfl
theorem clear_run {W : World} {g o k c : Nat} {cur : Array Value} (ty : TypeId) (hb : Blk W g SpT cur) (hfit : 0 < k → o + k * 2 ≤ cur.size) :
    (Builtin.clear_ #[SlT] ty #[.slice (some ⟨g, o, none⟩) k c]).run Try.prog W = .ok (.tuple #[]) (W.setRow g (spl cur.toList o (zer k)).toArray) := by
  rcases Nat.eq_zero_or_pos k with rfl | hk
  · rw [show zer 0 = [] by simp [zer, Builtin.zeroCells], blk_same hb]
    simp [Builtin.clear_, run_underlying Try.underlying22]
  · exact run_clear_rowK (P := Try.prog) W SlT SpT ty (.agg #[.int .i64 0, .int .i64 0]) k 2 Try.underlying22 Try.zeroValue24 (by rw [size_zeroCells]; rfl) (zer_one k) g o c cur SpT hb hk (hfit hk)
end Go.Proofs.Ytfobeheplficgaa
namespace Go.Proofs.Ytfobeheplficgaa
open Go.RowKit Go.Und Go.Shelf
attribute [local go_sem] Oper.semAt_some
attribute [local go_sem ↓] Go.wp_at_zero Go.wp_at_succ

theorem fc_take_len (l : List (Int × Int)) {i : Nat} (h : i ≤ l.length) : (fc spc (l.take i)).length = i * 2 := by rw [fc_length spc_len, List.length_take]; omega
theorem fc_drop_len (l : List (Int × Int)) (j : Nat) : (fc spc (l.drop j)).length = (l.length - j) * 2 := by rw [fc_length spc_len, List.length_drop]
theorem cur_take {cur : Array Value} {l : List (Int × Int)} (hcur : cur.toList.take (l.length * 2) = fc spc l) {i : Nat} (h : i ≤ l.length) : cur.toList.take (i * 2) = fc spc (l.take i) := by
  rw [← fc_take spc_len, ← hcur, List.take_take]; congr 1; omega
set_option maxRecDepth 100000 in
set_option maxHeartbeats 4000000 in
/-- The last ones are put out, and there is room. -/
theorem replace_end (g cap : Nat) (cur : Array Value) (l : List (Int × Int)) (i j : Nat) (qv : Option Addr) (cv : Nat) (vs : List (Int × Int)) (w : World) (hij : i < j) (hj : j ≤ l.length) (hl : l.length ≤ 100000) (hv : vs.length ≤ 100000) (hle : l.length ≤ cap) (hcm : cap ≤ maxLen)
    (S : Sep (fpL [Ob.blk g SpT cur, srow qv cv vs]) w w [Ob.blk g SpT cur, srow qv cv vs]) (hsz : cur.size = cap * 2) (hcur : cur.toList.take (l.length * 2) = fc spc l) (hjn : j = l.length) (hroom : i + vs.length ≤ cap) :
    Calls Try.prog 88 #[.slice (some ⟨g, 0, none⟩) l.length cap, .int .i64 (i : Int), .int .i64 (j : Int), .slice qv vs.length cv] w fun e w' =>
      ∃ cur', e = .returned (.slice (some ⟨g, 0, none⟩) (i + vs.length) cap) ∧ Sep (fpL [Ob.blk g SpT cur, srow qv cv vs]) w w' [Ob.blk g SpT cur', srow qv cv vs] ∧ cur'.size = cap * 2 ∧ cur'.toList.take ((i + vs.length) * 2) = fc spc (l.take i ++ vs) := by
  subst hjn
  have hcl : cur.toList.length = cap * 2 := by rw [Array.length_toList, hsz]
  have k1 : ∀ W, (Instr.sliceAt SlT (.slice (some ⟨g, 0, none⟩) l.length cap) (some (.int .i64 (i : Int))) (some (.int .i64 (l.length : Int))) none).run Try.prog W = _ := cut_mid_run (g := g) (n := l.length) i l.length (by omega) (by omega)
  have k2 : ∀ W, (Instr.sliceAt SlT (.slice (some ⟨g, 0, none⟩) l.length cap) none (some (.int .i64 (i : Int))) none).run Try.prog W = _ := cut_to_run i (by omega)
  have g1 : ((i : Int) == l.length) = false := beq_eq_false_iff_ne.2 (by omega)
  have HAP := Lib.hid (appendV_run SlT (S.at_ 0 rfl) (S.at_ 1 rfl) hroom hsz)
  have hfit1 : i * 2 + (fc spc vs).length ≤ cur.toList.length := by rw [fc_length spc_len, hcl]; omega
  have S1 := S.setRow 0 rfl (spl cur.toList (i * 2) (fc spc vs)).toArray
  have hl1 : (spl cur.toList (i * 2) (fc spc vs)).length = cap * 2 := by rw [spl_len hfit1, hcl]
  have hfin1 : (spl cur.toList (i * 2) (fc spc vs)).take ((i + vs.length) * 2) = fc spc (l.take i ++ vs) := by
    have h := lay_up (c := cur.toList) (A := fc spc (l.take i)) (V := fc spc vs) (R := []) (by rw [fc_take_len l (by omega)]; exact cur_take hcur (by omega)) (by rw [fc_take_len l (by omega), fc_length spc_len, hcl]; simp; omega)
    rw [fc_take_len l (by omega), List.append_nil, ← fc_append, fc_length spc_len] at h
    rw [← h]
    have e : spl (spl cur.toList (i * 2) (fc spc vs)) (i * 2 + vs.length * 2) [] = spl cur.toList (i * 2) (fc spc vs) := by simp [spl]
    rw [e]
    congr 1
    simp; omega
  by_cases hsh : i + vs.length < l.length
  · have g2 : decide ((i : Int) + vs.length < l.length) = true := decide_eq_true (by omega)
    have k3 : ∀ W, (Instr.sliceAt SlT (.slice (some ⟨g, 0, none⟩) l.length cap) (some (.int .i64 ((i + vs.length : Nat) : Int))) none none).run Try.prog W = _ := cut_from_run (g := g) (i + vs.length) (by omega) (by omega)
    rw [Int.natCast_add] at k3
    have q1 : ∀ ty, (Builtin.clear_ #[SlT] ty #[.slice (some ⟨g, (i + vs.length) * 2, none⟩) (l.length - (i + vs.length)) (cap - (i + vs.length))]).run Try.prog (w.setRow g (spl cur.toList (i * 2) (fc spc vs)).toArray) = _ := fun ty => clear_run _ (S1.at_ 0 rfl) (fun _ => by simp [hl1]; omega)
    have S2 := S1.setRow 0 rfl (spl (spl cur.toList (i * 2) (fc spc vs)) ((i + vs.length) * 2) (zer (l.length - (i + vs.length)))).toArray
    have hfit2 : (i + vs.length) * 2 + (zer (l.length - (i + vs.length))).length ≤ (spl cur.toList (i * 2) (fc spc vs)).length := by rw [hl1, zer_len]; omega
    have HF := Lib.hid (show (spl (spl cur.toList (i * 2) (fc spc vs)) ((i + vs.length) * 2) (zer (l.length - (i + vs.length)))).take ((i + vs.length) * 2) = fc spc (l.take i ++ vs) by rw [spl_take hfit2 (Nat.le_refl _)]; exact hfin1)
    have HL := Lib.hid (show (spl (spl cur.toList (i * 2) (fc spc vs)) ((i + vs.length) * 2) (zer (l.length - (i + vs.length)))).toArray.size = cap * 2 by rw [List.size_toArray, spl_len hfit2]; exact hl1)
    have HS2 := Lib.hid S2
    clear S S1 S2 hfin1 hl1 hfit1 hfit2 hcl hcur hsz
    generalize spl (spl cur.toList (i * 2) (fc spc vs)) ((i + vs.length) * 2) (zer (l.length - (i + vs.length))) = cu2 at *
    generalize spl cur.toList (i * 2) (fc spc vs) = cu1 at *
    go_enter Try.func88, Try.ntmps88
    go_wp2_with (at_builtin; refine wpList_append_eq rfl _ _ SlT SlT rfl _ _ rfl rfl HAP.out ?_)
    go_ret
    exact ⟨_, rfl, HS2.out, HL.out, by simpa using HF.out⟩
  · have g2 : decide ((i : Int) + vs.length < l.length) = false := decide_eq_false (by omega)
    have HS1 := Lib.hid S1
    have HF := Lib.hid hfin1
    have HL := Lib.hid (show (spl cur.toList (i * 2) (fc spc vs)).toArray.size = cap * 2 by rw [List.size_toArray]; exact hl1)
    clear S S1 hfin1 hl1 hfit1 hcl hcur hsz
    generalize spl cur.toList (i * 2) (fc spc vs) = cu1 at *
    go_enter Try.func88, Try.ntmps88
    go_wp2_with (at_builtin; refine wpList_append_eq rfl _ _ SlT SlT rfl _ _ rfl rfl HAP.out ?_)
    go_ret
    exact ⟨_, rfl, HS1.out, HL.out, by simpa using HF.out⟩
end Go.Proofs.Ytfobeheplficgaa
namespace Go.Proofs.Ytfobeheplficgaa
open Go.RowKit Go.Und Go.Shelf
attribute [local go_sem] Oper.semAt_some
attribute [local go_sem ↓] Go.wp_at_zero Go.wp_at_succ

abbrev sblk (vb : Nat) (x : Int × Int) : Ob := Ob.blk vb SpT #[.int .i64 x.1, .int .i64 x.2]
theorem srow1_of {w : World} {vb : Nat} {x : Int × Int} (h : (sblk vb x).ok w) : (srow (some ⟨vb, 0, none⟩) 1 [x]).ok w :=
  row_of h (Nat.le_refl _) (by decide) rfl rfl
theorem sblk_of {w : World} {vb : Nat} {x : Int × Int} (h : (srow (some ⟨vb, 0, none⟩) 1 [x]).ok w) : (sblk vb x).ok w := by
  obtain ⟨g, cur, e, hb, _, _, hsz, htk⟩ := row_parts h (by simp)
  obtain rfl : vb = g := congrArg Addr.block (Option.some.inj e)
  have e2 : cur = #[.int .i64 x.1, .int .i64 x.2] := by
    apply Array.toList_inj.1
    have h1 : cur.toList.take (1 * 2) = cur.toList := List.take_of_length_le (by rw [Array.length_toList, hsz]; exact Nat.le_refl _)
    rw [← h1]; exact htk
  rw [e2] at hb
  exact hb
theorem row_reads {w : World} {q : Option Addr} {cap : Nat} {l : List (Int × Int)} (h : (srow q cap l).ok w) : Reads w 2 q l.length cap (fc spc l) := (show Owns spc 2 SpT w (.slice q l.length cap) l from h).reads.2.1
set_option maxRecDepth 100000 in
set_option maxHeartbeats 4000000 in
theorem replace1_any (q : Option Addr) (cap : Nat) (l : List (Int × Int)) (i j : Nat) (vb : Nat) (x : Int × Int) (w : World) (hij : i ≤ j) (hj : j ≤ l.length) (hend : i = j ∨ j = l.length) (hl : l.length ≤ 100000)
    (S : Sep (fpL [srow q cap l, sblk vb x]) w w [srow q cap l, sblk vb x]) :
    Calls Try.prog 88 #[.slice q l.length cap, .int .i64 (i : Int), .int .i64 (j : Int), .slice (some ⟨vb, 0, none⟩) 1 1] w fun e w' =>
      ∃ q' c', e = .returned (.slice q' (l.take i ++ ([x] ++ l.drop j)).length c') ∧ Sep (fpL [srow q cap l, sblk vb x]) w w' [srow q' c' (l.take i ++ ([x] ++ l.drop j)), sblk vb x] := by
  rcases Nat.lt_or_ge i j with h1 | h1
  · obtain rfl : j = l.length := by omega
    obtain ⟨g, cur, rfl, hb, hle, hcm, hsz, htk⟩ := row_parts (S.at_ 0 rfl) (by omega)
    have hfin : l.take i ++ ([x] ++ l.drop l.length) = l.take i ++ [x] := by simp
    have hlen : (l.take i ++ [x]).length = i + 1 := by simp; omega
    rw [hfin]
    have Sa := S.swap (Ob.blk g SpT cur) hb (fun k h => (srow_fp cur k).2 h)
    have Sb := ((Sa.perm (List.Perm.swap _ _ _)).swap (srow (some ⟨vb, 0, none⟩) 1 [x]) (srow1_of (Sa.at_ 1 rfl)) (fun k h => (srow_fp _ k).1 h)).perm (List.Perm.swap _ _ _)
    refine (replace_end g cap cur l i l.length (some ⟨vb, 0, none⟩) 1 [x] w h1 (Nat.le_refl _) hl (by simp) hle hcm Sb.self hsz htk rfl (by simp; omega)).mono ?_
    rintro e w' ⟨cur', rfl, T, h2, h3⟩
    have T1 := Sb.did0 T
    have T2 := T1.swap (srow (some ⟨g, 0, none⟩) cap (l.take i ++ [x])) (row_of (T1.at_ 0 rfl) (by rw [hlen]; omega) hcm h2 (by rw [hlen]; exact h3)) (fun k h => (srow_fp cur' k).1 h)
    have T3 := ((T2.perm (List.Perm.swap _ _ _)).swap (sblk vb x) (sblk_of (T2.at_ 1 rfl)) (fun k h => (srow_fp _ k).2 h)).perm (List.Perm.swap _ _ _)
    exact ⟨some ⟨g, 0, none⟩, cap, by rw [hlen]; rfl, T3⟩
  · obtain rfl : i = j := by omega
    have hcut : ∃ q1 n1 c1, ∀ W, (Instr.sliceAt SlT (.slice q l.length cap) (some (.int .i64 (i : Int))) (some (.int .i64 (i : Int))) none).run Try.prog W = .ok (.slice q1 n1 c1) W := by
      obtain ⟨inf, hi1, _, hz1, _⟩ := info_parts spInfo
      have hcc : l.length ≤ cap := (row_reads (S.at_ 0 rfl)).room
      exact ⟨_, _, _, fun W => run_cut_mid (P := Try.prog) W SlT SpT inf 2 Try.underlying22 hi1 hz1 q l.length cap .i64 .i64 (i : Int) (i : Int) (by omega) (by omega) (by omega)⟩
    obtain ⟨q1, n1, c1, hcut⟩ := hcut
    obtain ⟨L2, e9⟩ : ∃ L2, L2 = l.take i ++ ([x] ++ l.drop i) := ⟨_, rfl⟩
    have HI := Lib.hid (insert_any q cap l i vb x w (by omega) hl S)
    rw [← e9] at HI ⊢
    clear e9
    have g1 : ((i : Int) == i) = true := beq_self_eq_true _
    clear S hend
    go_enter Try.func88, Try.ntmps88
    go_wp2_with ((refine (HI.out).mono ?_); rintro e1 w1 ⟨q2, c2, rfl, T⟩)
    go_ret
    exact ⟨_, _, rfl, T⟩

set_option maxRecDepth 100000 in
set_option maxHeartbeats 4000000 in
/-- There is no room. -/
theorem lay_full (p : Nat) (q : Option Addr) (cap n : Nat) (lo hi : Nat) (qv : Option Addr) (m cv : Nat) (w : World) (c1 : w.cell? ⟨p, 0, none⟩ = some (.slice q n cap)) (hlo : lo ≤ hi) (hhi : hi ≤ n) (hn : n ≤ 100000) (hm : m ≤ 100000) (hfull : 4096 < n - (hi - lo) + m) :
    Calls Try.prog 56 #[.pointer (at0 p), .int .i64 (lo : Int), .int .i64 (hi : Int), .slice qv m cv] w fun e w' => e = .returned (.int .i64 4) ∧ w' = w := by
  have g1 : decide ((4096 : Int) < (n : Int) - ((hi : Int) - lo) + m) = true := decide_eq_true (by omega)
  have e1 : IntKind.i64.wrap ((hi : Int) - lo) = (hi : Int) - lo := by simp [IntKind.wrap, IntKind.bits, IntKind.signed]; omega
  have e2 : IntKind.i64.wrap ((n : Int) - ((hi : Int) - lo)) = (n : Int) - ((hi : Int) - lo) := by simp [IntKind.wrap, IntKind.bits, IntKind.signed]; omega
  have e3 : IntKind.i64.wrap ((n : Int) - ((hi : Int) - lo) + m) = (n : Int) - ((hi : Int) - lo) + m := by simp [IntKind.wrap, IntKind.bits, IntKind.signed]; omega
  go_enter Try.func56, Try.ntmps56
  go_wp2_with fail
  go_ret
  exact ⟨rfl, rfl⟩
set_option maxRecDepth 100000 in
set_option maxHeartbeats 4000000 in
theorem lay1_any (p : Nat) (q : Option Addr) (cap : Nat) (l : List (Int × Int)) (lo hi : Nat) (vb : Nat) (x : Int × Int) (w : World) (hlo : lo ≤ hi) (hhi : hi ≤ l.length) (hend : lo = hi ∨ hi = l.length) (hn : l.length ≤ 100000) (hroom : l.length - (hi - lo) + 1 ≤ 4096)
    (S : Sep (fpL (rns p q cap l ++ [sblk vb x])) w w (rns p q cap l ++ [sblk vb x])) :
    Calls Try.prog 56 #[.pointer (at0 p), .int .i64 (lo : Int), .int .i64 (hi : Int), .slice (some ⟨vb, 0, none⟩) 1 1] w fun e w' =>
      e = .returned (.int .i64 0) ∧ ∃ q' c', Sep (fpL (rns p q cap l ++ [sblk vb x])) w w' (rns p q' c' (l.take lo ++ ([x] ++ l.drop hi)) ++ [sblk vb x]) := by
  have g1 : decide ((4096 : Int) < (l.length : Int) - ((hi : Int) - lo) + 1) = false := decide_eq_false (by omega)
  have e1 : IntKind.i64.wrap ((hi : Int) - lo) = (hi : Int) - lo := by simp [IntKind.wrap, IntKind.bits, IntKind.signed]; omega
  have e2 : IntKind.i64.wrap ((l.length : Int) - ((hi : Int) - lo)) = (l.length : Int) - ((hi : Int) - lo) := by simp [IntKind.wrap, IntKind.bits, IntKind.signed]; omega
  have e3 : IntKind.i64.wrap ((l.length : Int) - ((hi : Int) - lo) + 1) = (l.length : Int) - ((hi : Int) - lo) + 1 := by simp [IntKind.wrap, IntKind.bits, IntKind.signed]; omega
  have c1 : w.cell? ⟨p, 0, none⟩ = some (.slice q l.length cap) := (S.at_ 0 rfl).cell 0
  have S1 : Sep (fpL (rns p q cap l ++ [sblk vb x])) w w ([srow q cap l, sblk vb x] ++ [Ob.blk p RnT #[.slice q l.length cap]]) := S.perm (by
    show List.Perm [_, _, _] [_, _, _]
    exact (List.Perm.swap _ _ _).trans (List.Perm.cons _ (List.Perm.swap _ _ _)))
  have HR := Lib.hid (replace1_any q cap l lo hi vb x w hlo hhi hend hn S1.head)
  obtain ⟨L2, e9⟩ : ∃ L2, L2 = l.take lo ++ ([x] ++ l.drop hi) := ⟨_, rfl⟩
  rw [← e9] at HR ⊢
  clear e9
  have HS := Lib.hid S1
  clear S S1 hend hroom
  go_enter Try.func56, Try.ntmps56
  go_wp2_with ((refine (HR.out).mono ?_); rintro e4 w1 ⟨q2, c2, rfl, T⟩; have S2 := HS.out.did T; have c2' : w1.cell? ⟨p, 0, none⟩ = some (.slice q l.length cap) := (S2.at_ 2 rfl).cell 0; have fz : w1.frozen? ⟨p, 0, none⟩ = false := (S2.at_ 2 rfl).frozen 0; have HS2 := Lib.hid (S2.set 2 rfl 0 (.slice q2 L2.length c2)); clear S2 T)
  go_ret
  refine ⟨rfl, q2, c2, HS2.out.perm ?_⟩
  show List.Perm [_, _, _] [_, _, _]
  exact (List.Perm.cons _ (List.Perm.swap _ _ _)).trans (List.Perm.swap _ _ _)
end Go.Proofs.Ytfobeheplficgaa
namespace Go.Proofs.Ytfobeheplficgaa
open Go.RowKit Go.Und Go.Shelf
attribute [local go_sem] Oper.semAt_some
attribute [local go_sem ↓] Go.wp_at_zero Go.wp_at_succ

set_option maxRecDepth 100000 in
set_option maxHeartbeats 4000000 in
/-- No more than went out. -/
theorem replace_less (g cap : Nat) (cur : Array Value) (l : List (Int × Int)) (i j : Nat) (qv : Option Addr) (cv : Nat) (vs : List (Int × Int)) (w : World) (hij : i < j) (hj : j < l.length) (hl : l.length ≤ 100000) (hv : vs.length ≤ 100000) (hle : l.length ≤ cap) (hcm : cap ≤ maxLen)
    (S : Sep (fpL [Ob.blk g SpT cur, srow qv cv vs]) w w [Ob.blk g SpT cur, srow qv cv vs]) (hsz : cur.size = cap * 2) (hcur : cur.toList.take (l.length * 2) = fc spc l) (hless : i + vs.length ≤ j) :
    Calls Try.prog 88 #[.slice (some ⟨g, 0, none⟩) l.length cap, .int .i64 (i : Int), .int .i64 (j : Int), .slice qv vs.length cv] w fun e w' =>
      ∃ cur', e = .returned (.slice (some ⟨g, 0, none⟩) (i + vs.length + (l.length - j)) cap) ∧ Sep (fpL [Ob.blk g SpT cur, srow qv cv vs]) w w' [Ob.blk g SpT cur', srow qv cv vs] ∧ cur'.size = cap * 2 ∧ cur'.toList.take ((i + vs.length + (l.length - j)) * 2) = fc spc (l.take i ++ (vs ++ l.drop j)) := by
  obtain ⟨T, hT⟩ : ∃ T, T = i + vs.length + (l.length - j) := ⟨_, rfl⟩
  have hcl : cur.toList.length = cap * 2 := by rw [Array.length_toList, hsz]
  have hR : (fc spc (l.drop j)).length = (l.length - j) * 2 := fc_drop_len l j
  have hVl : (fc spc vs).length = vs.length * 2 := fc_length spc_len vs
  have hA : (fc spc (l.take i)).length = i * 2 := fc_take_len l (by omega)
  have hAt : cur.toList.take (i * 2) = fc spc (l.take i) := cur_take hcur (by omega)
  have hsrc : ∀ (n : Nat) v, (fc spc (l.drop j))[n]? = some v → cur.toList[j * 2 + n]? = some v := fun n v hn => by
    have hlt : n < (l.length - j) * 2 := by rw [← hR]; exact (List.getElem?_eq_some_iff.1 hn).1
    rw [← fc_drop spc_len, List.getElem?_drop, ← hcur, List.getElem?_take_of_lt (by omega)] at hn
    exact hn
  have k0 : ∀ W, (Instr.sliceAt SlT (.slice (some ⟨g, 0, none⟩) l.length cap) (some (.int .i64 (i : Int))) (some (.int .i64 (j : Int))) none).run Try.prog W = _ := cut_mid_run (g := g) (n := l.length) i j (by omega) (by omega)
  have k1 : ∀ W, (Instr.sliceAt SlT (.slice (some ⟨g, 0, none⟩) l.length cap) none (some (.int .i64 (i : Int))) none).run Try.prog W = _ := cut_to_run i (by omega)
  have k2 : ∀ W, (Instr.sliceAt SlT (.slice (some ⟨g, 0, none⟩) l.length cap) (some (.int .i64 (j : Int))) none none).run Try.prog W = _ := cut_from_run (g := g) j (by omega) (by omega)
  have e1 : IntKind.i64.wrap ((i : Int) + vs.length) = (i : Int) + vs.length := by simp [IntKind.wrap, IntKind.bits, IntKind.signed]; omega
  have e2 : IntKind.i64.wrap ((i : Int) + vs.length + ((l.length - j : Nat) : Int)) = T := by rw [show (i : Int) + vs.length + ((l.length - j : Nat) : Int) = T by omega]; simp [IntKind.wrap, IntKind.bits, IntKind.signed]; omega
  have g1 : ((i : Int) == j) = false := beq_eq_false_iff_ne.2 (by omega)
  have g2 : ((j : Int) == l.length) = false := beq_eq_false_iff_ne.2 (by omega)
  have g3 : decide ((cap : Int) < T) = false := decide_eq_false (by omega)
  have g3n : decide (cap < T) = false := decide_eq_false (by omega)
  have g4 : decide ((i : Int) + vs.length ≤ j) = true := decide_eq_true (by omega)
  have k3 : ∀ W, (Instr.sliceAt SlT (.slice (some ⟨g, 0, none⟩) l.length cap) none (some (.int .i64 (T : Int))) none).run Try.prog W = _ := cut_to_run T (by omega)
  have k4 : ∀ W, (Instr.sliceAt SlT (.slice (some ⟨g, 0, none⟩) T cap) (some (.int .i64 (i : Int))) none none).run Try.prog W = _ := cut_from_run (g := g) i (by omega) (by omega)
  have k5 : ∀ W, (Instr.sliceAt SlT (.slice (some ⟨g, 0, none⟩) T cap) (some (.int .i64 ((i + vs.length : Nat) : Int))) none none).run Try.prog W = _ := cut_from_run (g := g) (i + vs.length) (by omega) (by omega)
  rw [Int.natCast_add] at k5
  have k6 : ∀ W, (Instr.sliceAt SlT (.slice (some ⟨g, 0, none⟩) l.length cap) (some (.int .i64 (T : Int))) none none).run Try.prog W = _ := cut_any_run (g := g) T (by omega)
  have hTl : T - (i + vs.length) = l.length - j := by omega
  rw [hTl] at k5
  have hfit1 : i * 2 + (fc spc vs).length ≤ cur.toList.length := by rw [hVl, hcl]; omega
  have hfit2 : (i + vs.length) * 2 + (fc spc (l.drop j)).length ≤ (spl cur.toList (i * 2) (fc spc vs)).length := by rw [spl_len hfit1, hR, hcl]; omega
  have hfit3 : 0 < l.length - T → cutO cap T + (l.length - T) * 2 ≤ cap * 2 := fun h => by rw [cutO_lt (by omega)]; omega
  rw [← hT]
  have hnew : (spl (spl cur.toList (i * 2) (fc spc vs)) ((i + vs.length) * 2) (fc spc (l.drop j))).take (T * 2) = fc spc (l.take i ++ (vs ++ l.drop j)) := by
    have h := lay_up (c := cur.toList) (A := fc spc (l.take i)) (V := fc spc vs) (R := fc spc (l.drop j)) (by rw [hA]; exact hAt) (by rw [hA, hR, hVl, hcl]; omega)
    rw [hA, hR, hVl, show i * 2 + vs.length * 2 = (i + vs.length) * 2 by omega, show (i + vs.length) * 2 + (l.length - j) * 2 = T * 2 by omega] at h
    rw [h, fc_append, fc_append]
  obtain ⟨cz, hcz⟩ : ∃ cz, cz = (if 0 < l.length - T then spl (spl (spl cur.toList (i * 2) (fc spc vs)) ((i + vs.length) * 2) (fc spc (l.drop j))) (cutO cap T) (zer (l.length - T)) else spl (spl cur.toList (i * 2) (fc spc vs)) ((i + vs.length) * 2) (fc spc (l.drop j))) := ⟨_, rfl⟩
  have q1 : ∀ (W : World) ty, Blk W g SpT cur → (srow qv cv vs).ok W → (Builtin.copy_ #[SlT, SlT] ty #[.slice (some ⟨g, i * 2, none⟩) (T - i) (cap - i), .slice qv vs.length cv]).run Try.prog W = .ok (goInt vs.length) (W.setRow g (spl cur.toList (i * 2) (fc spc vs)).toArray) := fun W ty hb ho => copyV_run ty hb ho (by omega) (by omega)
  have q2 : ∀ (W : World) ty, Blk W g SpT (spl cur.toList (i * 2) (fc spc vs)).toArray → (Builtin.copy_ #[SlT, SlT] ty #[.slice (some ⟨g, (i + vs.length) * 2, none⟩) (l.length - j) (cap - (i + vs.length)), .slice (some ⟨g, j * 2, none⟩) (l.length - j) (cap - j)]).run Try.prog W = .ok (goInt (Nat.min (l.length - j) (l.length - j))) (W.setRow g (spl (spl cur.toList (i * 2) (fc spc vs)) ((i + vs.length) * 2) (fc spc (l.drop j))).toArray) := fun W ty hb => by
    have := run_copy_rowK (P := Try.prog) W SlT SlT ty SpT 2 g ((i + vs.length) * 2) (l.length - j) (cap - (i + vs.length)) ⟨g, j * 2, none⟩ (l.length - j) (cap - j) _ SpT (fc spc (l.drop j)) Try.underlying22 spSize hb (by rw [hR]; simp) (fun n v hn => by
      have h1 := hsrc n v hn
      rw [add_at, hb.cell]
      have : (spl cur.toList (i * 2) (fc spc vs))[j * 2 + n]? = some v := by rw [spl_get hfit1, if_neg (by omega), if_neg (by rw [hVl]; omega)]; exact h1
      simpa using this) (by simpa using hfit2) (fc_one spc_one _)
    simpa using this
  have hsz2 : (spl (spl cur.toList (i * 2) (fc spc vs)) ((i + vs.length) * 2) (fc spc (l.drop j))).toArray.size = cap * 2 := by rw [List.size_toArray, spl_len hfit2, spl_len hfit1, hcl]
  have q3 : ∀ (W : World) ty, Blk W g SpT (spl (spl cur.toList (i * 2) (fc spc vs)) ((i + vs.length) * 2) (fc spc (l.drop j))).toArray → (Builtin.clear_ #[SlT] ty #[.slice (some ⟨g, cutO cap T, none⟩) (l.length - T) (cap - T)]).run Try.prog W = .ok (.tuple #[]) (W.setRow g (spl (spl (spl cur.toList (i * 2) (fc spc vs)) ((i + vs.length) * 2) (fc spc (l.drop j))) (cutO cap T) (zer (l.length - T))).toArray) := fun W ty hb => clear_run ty hb (fun h => Nat.le_trans (hfit3 h) (Nat.le_of_eq hsz2.symm))
  have hlast : (spl (spl (spl cur.toList (i * 2) (fc spc vs)) ((i + vs.length) * 2) (fc spc (l.drop j))) (cutO cap T) (zer (l.length - T))).length = cap * 2 ∧ (spl (spl (spl cur.toList (i * 2) (fc spc vs)) ((i + vs.length) * 2) (fc spc (l.drop j))) (cutO cap T) (zer (l.length - T))).take (T * 2) = fc spc (l.take i ++ (vs ++ l.drop j)) := by
    rcases Nat.eq_zero_or_pos (l.length - T) with h0 | h0
    · rw [h0]
      have : spl (spl (spl cur.toList (i * 2) (fc spc vs)) ((i + vs.length) * 2) (fc spc (l.drop j))) (cutO cap T) (zer 0) = spl (spl cur.toList (i * 2) (fc spc vs)) ((i + vs.length) * 2) (fc spc (l.drop j)) := by rw [show zer 0 = [] by simp [zer, Builtin.zeroCells]]; simp [spl]
      rw [this]
      exact ⟨by rw [spl_len hfit2, spl_len hfit1, hcl], hnew⟩
    · have hf : cutO cap T + (zer (l.length - T)).length ≤ (spl (spl cur.toList (i * 2) (fc spc vs)) ((i + vs.length) * 2) (fc spc (l.drop j))).length := by rw [zer_len, spl_len hfit2, spl_len hfit1, hcl]; exact hfit3 h0
      exact ⟨by rw [spl_len hf, spl_len hfit2, spl_len hfit1, hcl], by rw [spl_take hf (by rw [cutO_lt (by omega)]; exact Nat.le_refl _)]; exact hnew⟩
  have HLast := Lib.hid hlast
  have HQ1 := Lib.hid q1
  have HQ2 := Lib.hid q2
  have HQ3 := Lib.hid q3
  have HS := Lib.hid S
  have HT := Lib.hid hT
  clear hT
  clear S hlast hsz2 q1 q2 q3 hcz hnew hfit1 hfit2 hfit3 hTl hsrc hAt hA hVl hR hcl hcur hsz cz
  generalize hz3 : spl (spl (spl cur.toList (i * 2) (fc spc vs)) ((i + vs.length) * 2) (fc spc (l.drop j))) (cutO cap T) (zer (l.length - T)) = cu3 at *
  generalize hz2 : spl (spl cur.toList (i * 2) (fc spc vs)) ((i + vs.length) * 2) (fc spc (l.drop j)) = cu2 at *
  generalize hz1 : spl cur.toList (i * 2) (fc spc vs) = cu1 at *
  clear hz1 hz2 hz3
  go_enter Try.func88, Try.ntmps88
  go_wp2_with fail
  go_quiet (fail)
  have SV := HS.out.drewN nq
  generalize w.drewN nq = V at *
  have r1 := fun ty => HQ1.out V ty (SV.at_ 0 rfl) (SV.at_ 1 rfl)
  have S1 := SV.setRow 0 rfl cu1.toArray
  have S2 := S1.drew.setRow 0 rfl cu2.toArray
  have r3 := fun ty => HQ3.out _ ty (S2.at_ 0 rfl)
  have HS3 := Lib.hid (S2.setRow 0 rfl cu3.toArray)
  have HB2 := Lib.hid (S1.drew.at_ 0 rfl)
  clear SV S1 S2 HS
  go_wp2_with fail
  go_region_law (refine step_copy_eq rfl _ _ SlT SlT rfl _ _ (by simp [Act.eval, Act.put]) (by simp [Act.eval, Act.put]) (HQ2.out ((V.setRow g cu1.toArray).drew) _ HB2.out) ?_)
  all_goals
    go_wp2_with fail
    go_ret
    exact ⟨_, rfl, HS3.out, by rw [List.size_toArray]; exact HLast.out.1, by simpa using HLast.out.2⟩
end Go.Proofs.Ytfobeheplficgaa
namespace Go.Proofs.Ytfobeheplficgaa
open Go.RowKit Go.Und Go.Shelf
attribute [local go_sem] Oper.semAt_some
attribute [local go_sem ↓] Go.wp_at_zero Go.wp_at_succ

/-- Some behind others, and there is no room. -/
theorem appendG_run {W : World} {g i cap cv : Nat} {cur : Array Value} {l : List (Int × Int)} {qv : Option Addr} {vs : List (Int × Int)} (hb : Blk W g SpT cur) (hv : (srow qv cv vs).ok W) (hgrow : cap < i + vs.length) (hi : i ≤ l.length) (hle : l.length ≤ cap) (hl : l.length ≤ 100000) (hvl : vs.length ≤ 100000) (hcur : cur.toList.take (l.length * 2) = fc spc l) :
    ∃ (arr : Array Value) (c2 : Nat), (∀ ty, (Builtin.append_ #[SlT, SlT] ty #[.slice (some ⟨g, 0, none⟩) i cap, .slice qv vs.length cv]).run Try.prog W = .ok (.slice (some ⟨W.heap.size, 0, none⟩) (i + vs.length) c2) (W.drew.alloc (.cells arr SpT))) ∧ i + vs.length ≤ c2 ∧ c2 ≤ maxLen ∧ arr.size = c2 * 2 ∧ arr.toList.take ((i + vs.length) * 2) = fc spc (l.take i ++ vs) := by
  obtain ⟨inf, hi1, hz, hz1, hz2⟩ := info_parts spInfo
  obtain ⟨gv, cu, rfl, hbv, hlev, _, _, htk⟩ := row_parts hv (by omega)
  have hlen : (fc spc (l.take i)).length = i * 2 := fc_take_len l hi
  have hVl : (fc spc vs).length = vs.length * 2 := fc_length spc_len vs
  have holds : ∀ j v, (fc spc (l.take i))[j]? = some v → W.cell? ((⟨g, 0, none⟩ : Addr).add j) = some v := fun j v hj => by
    have hlt : j < i * 2 := by rw [← hlen]; exact (List.getElem?_eq_some_iff.1 hj).1
    rw [← cur_take hcur hi, List.getElem?_take_of_lt hlt] at hj
    rw [add_at, hb.cell, Nat.zero_add]
    simpa using hj
  have hnews : ∀ j v, (fc spc vs)[j]? = some v → W.cell? ((⟨gv, 0, none⟩ : Addr).add j) = some v := fun j v hj => by
    have hlt : j < vs.length * 2 := by rw [← hVl]; exact (List.getElem?_eq_some_iff.1 hj).1
    rw [← htk, List.getElem?_take_of_lt hlt] at hj
    rw [add_at, hbv.cell, Nat.zero_add]
    simpa using hj
  have hnc : Builtin.nextslicecap (i + vs.length) cap ≤ 2 * (i + vs.length) := nextslicecap_le (by omega)
  have hge := grownCap_ge W (i + vs.length) cap SpT
  refine ⟨_, grownCap W (i + vs.length) cap SpT, fun ty => run_append_grow (P := Try.prog) W SlT ty SpT inf (.agg #[.int .i64 0, .int .i64 0]) Try.underlying22 hi1 hz ⟨g, 0, none⟩ i cap (fc spc (l.take i)) (by rw [hz1]; exact hlen) holds ⟨gv, 0, none⟩ vs.length cv (fc spc vs) (by rw [hz1]; exact hVl) hnews hgrow (by omega) (by rw [hz2]; omega), hge, grownCap_le_maxLen W (i + vs.length) cap SpT (by unfold maxLen; omega), ?_, ?_⟩
  · simp only [Array.size_append, List.size_toArray, size_zeroCells, hlen, hVl, Value.cells]
    simp
    omega
  · rw [Array.toList_append, Array.toList_append]
    simp only [List.toList_toArray]
    rw [← fc_append]
    exact List.take_left' (by rw [fc_length spc_len]; simp; omega)
set_option maxRecDepth 100000 in
set_option maxHeartbeats 4000000 in
theorem replace_end_grow (g cap : Nat) (cur : Array Value) (l : List (Int × Int)) (i j : Nat) (qv : Option Addr) (cv : Nat) (vs : List (Int × Int)) (w : World) (hij : i < j) (hjn : j = l.length) (hl : l.length ≤ 100000) (hv : vs.length ≤ 100000) (hle : l.length ≤ cap) (hcm : cap ≤ maxLen)
    (S : Sep (fpL [Ob.blk g SpT cur, srow qv cv vs]) w w [Ob.blk g SpT cur, srow qv cv vs]) (hsz : cur.size = cap * 2) (hcur : cur.toList.take (l.length * 2) = fc spc l) (hgrow : cap < i + vs.length) :
    Calls Try.prog 88 #[.slice (some ⟨g, 0, none⟩) l.length cap, .int .i64 (i : Int), .int .i64 (j : Int), .slice qv vs.length cv] w fun e w' =>
      ∃ g2 c2 cur', e = .returned (.slice (some ⟨g2, 0, none⟩) (i + vs.length) c2) ∧ Sep (fpL [Ob.blk g SpT cur, srow qv cv vs]) w w' [Ob.blk g2 SpT cur', srow qv cv vs] ∧ i + vs.length ≤ c2 ∧ c2 ≤ maxLen ∧ cur'.size = c2 * 2 ∧ cur'.toList.take ((i + vs.length) * 2) = fc spc (l.take i ++ vs) := by
  subst hjn
  have k1 : ∀ W, (Instr.sliceAt SlT (.slice (some ⟨g, 0, none⟩) l.length cap) (some (.int .i64 (i : Int))) (some (.int .i64 (l.length : Int))) none).run Try.prog W = _ := cut_mid_run (g := g) (n := l.length) i l.length (by omega) (by omega)
  have k2 : ∀ W, (Instr.sliceAt SlT (.slice (some ⟨g, 0, none⟩) l.length cap) none (some (.int .i64 (i : Int))) none).run Try.prog W = _ := cut_to_run i (by omega)
  have g1 : ((i : Int) == l.length) = false := beq_eq_false_iff_ne.2 (by omega)
  have g2 : decide ((i : Int) + vs.length < l.length) = false := decide_eq_false (by omega)
  obtain ⟨arr, c2, hap, h1, h2, h3, h4⟩ := appendG_run (i := i) (S.at_ 0 rfl) (S.at_ 1 rfl) hgrow (by omega) hle hl hv hcur
  have HAP := Lib.hid (hap SlT)
  have HS := Lib.hid ((S.drew.alloc arr SpT).drop (.cons_cons _ (.cons _ (List.Sublist.refl _))))
  have HF := Lib.hid (And.intro h1 (And.intro h2 (And.intro h3 h4)))
  clear S hap h1 h2 h3 h4 hcur hsz
  go_enter Try.func88, Try.ntmps88
  go_wp2_with (at_builtin; refine wpList_append_eq rfl _ _ SlT SlT rfl _ _ rfl rfl HAP.out ?_)
  go_ret
  exact ⟨_, c2, arr, rfl, HS.out, HF.out.1, HF.out.2.1, HF.out.2.2.1, HF.out.2.2.2⟩
end Go.Proofs.Ytfobeheplficgaa
namespace Go.Proofs.Ytfobeheplficgaa
open Go.RowKit Go.Und Go.Shelf
attribute [local go_sem] Oper.semAt_some
attribute [local go_sem ↓] Go.wp_at_zero Go.wp_at_succ

set_option maxRecDepth 100000 in
set_option maxHeartbeats 4000000 in
theorem replace_grow (g cap : Nat) (cur : Array Value) (l : List (Int × Int)) (i j : Nat) (qv : Option Addr) (cv : Nat) (vs : List (Int × Int)) (w : World) (hij : i < j) (hj : j < l.length) (hl : l.length ≤ 100000) (hv : vs.length ≤ 100000) (hle : l.length ≤ cap) (hcm : cap ≤ maxLen)
    (S : Sep (fpL [Ob.blk g SpT cur, srow qv cv vs]) w w [Ob.blk g SpT cur, srow qv cv vs]) (hsz : cur.size = cap * 2) (hcur : cur.toList.take (l.length * 2) = fc spc l) (hgrow : cap < i + vs.length + (l.length - j)) :
    Calls Try.prog 88 #[.slice (some ⟨g, 0, none⟩) l.length cap, .int .i64 (i : Int), .int .i64 (j : Int), .slice qv vs.length cv] w fun e w' =>
      ∃ g2 c2 cur', e = .returned (.slice (some ⟨g2, 0, none⟩) (i + vs.length + (l.length - j)) c2) ∧ Sep (fpL [Ob.blk g SpT cur, srow qv cv vs]) w w' [Ob.blk g2 SpT cur', srow qv cv vs] ∧ i + vs.length + (l.length - j) ≤ c2 ∧ c2 ≤ maxLen ∧ cur'.size = c2 * 2 ∧ cur'.toList.take ((i + vs.length + (l.length - j)) * 2) = fc spc (l.take i ++ (vs ++ l.drop j)) := by
  obtain ⟨T, hT⟩ : ∃ T, T = i + vs.length + (l.length - j) := ⟨_, rfl⟩
  have hcl : cur.toList.length = cap * 2 := by rw [Array.length_toList, hsz]
  have hR : (fc spc (l.drop j)).length = (l.length - j) * 2 := fc_drop_len l j
  have hVl : (fc spc vs).length = vs.length * 2 := fc_length spc_len vs
  have hA : (fc spc (l.take i)).length = i * 2 := fc_take_len l (by omega)
  have hAt : cur.toList.take (i * 2) = fc spc (l.take i) := cur_take hcur (by omega)
  have hsrc : ∀ (n : Nat) v, (fc spc (l.drop j))[n]? = some v → cur.toList[j * 2 + n]? = some v := fun n v hn => by
    have hlt : n < (l.length - j) * 2 := by rw [← hR]; exact (List.getElem?_eq_some_iff.1 hn).1
    rw [← fc_drop spc_len, List.getElem?_drop, ← hcur, List.getElem?_take_of_lt (by omega)] at hn
    exact hn
  have k0 : ∀ W, (Instr.sliceAt SlT (.slice (some ⟨g, 0, none⟩) l.length cap) (some (.int .i64 (i : Int))) (some (.int .i64 (j : Int))) none).run Try.prog W = _ := cut_mid_run (g := g) (n := l.length) i j (by omega) (by omega)
  have k1 : ∀ W, (Instr.sliceAt SlT (.slice (some ⟨g, 0, none⟩) l.length cap) none (some (.int .i64 (i : Int))) none).run Try.prog W = _ := cut_to_run i (by omega)
  have k2 : ∀ W, (Instr.sliceAt SlT (.slice (some ⟨g, 0, none⟩) l.length cap) (some (.int .i64 (j : Int))) none none).run Try.prog W = _ := cut_from_run (g := g) j (by omega) (by omega)
  have e1 : IntKind.i64.wrap ((i : Int) + vs.length) = (i : Int) + vs.length := by simp [IntKind.wrap, IntKind.bits, IntKind.signed]; omega
  have e2 : IntKind.i64.wrap ((i : Int) + vs.length + ((l.length - j : Nat) : Int)) = T := by rw [show (i : Int) + vs.length + ((l.length - j : Nat) : Int) = T by omega]; simp [IntKind.wrap, IntKind.bits, IntKind.signed]; omega
  have g1 : ((i : Int) == j) = false := beq_eq_false_iff_ne.2 (by omega)
  have g2 : ((j : Int) == l.length) = false := beq_eq_false_iff_ne.2 (by omega)
  have g3 : decide ((cap : Int) < T) = true := decide_eq_true (by omega)
  have g3n : decide (cap < T) = true := decide_eq_true (by omega)
  have e5 : IntKind.i64.wrap ((T : Int) - i) = (T : Int) - i := by simp [IntKind.wrap, IntKind.bits, IntKind.signed]; omega
  have hTl : T - (i + vs.length) = l.length - j := by omega
  have hiT : i < T := by omega
  rw [← hT]
  have HS := Lib.hid S
  have HN := Lib.hid (And.intro hcur (And.intro hA (And.intro hR (And.intro hVl hsrc))))
  have HT := Lib.hid hT
  have HG := Lib.hid (show cap < T by omega)
  clear S hcur hA hAt hR hVl hsrc hcl hsz hT hgrow
  go_enter Try.func88, Try.ntmps88
  go_wp2_with fail
  go_quiet (fail)
  have SV := HS.out.drewN nq
  generalize w.drewN nq = V at *
  obtain ⟨arr, c2, hap, hc2, hc2m, harr, htk⟩ := grow_run g cap cur l i (T - i) V (SV.at_ 0 rfl) (by omega) (by have := HG.out; omega) hle (by omega) (by have := HT.out; omega) HN.out.1
  rw [show i + (T - i) = T by omega] at hap hc2
  rw [show ((T - i : Nat) : Int) = (T : Int) - i by omega] at hap
  have HAP := Lib.hid (hap SlT)
  have hcl : arr.toList.length = c2 * 2 := by rw [Array.length_toList, harr]
  have hR := HN.out.2.2.1
  have hVl := HN.out.2.2.2.1
  have hfit1 : i * 2 + (fc spc vs).length ≤ arr.toList.length := by rw [hVl, hcl]; omega
  have hfit2 : (i + vs.length) * 2 + (fc spc (l.drop j)).length ≤ (spl arr.toList (i * 2) (fc spc vs)).length := by rw [spl_len hfit1, hR, hcl]; omega
  have S1 : Sep (fpL [Ob.blk g SpT cur, srow qv cv vs]) w (V.alloc (.cells arr SpT)).drew [Ob.blk V.heap.size SpT arr, Ob.blk g SpT cur, srow qv cv vs] := (SV.alloc arr SpT).drew
  have S2 := S1.setRow 0 rfl (spl arr.toList (i * 2) (fc spc vs)).toArray
  have S3 := S2.drew.setRow 0 rfl (spl (spl arr.toList (i * 2) (fc spc vs)) ((i + vs.length) * 2) (fc spc (l.drop j))).toArray
  have k4 : ∀ W, (Instr.sliceAt SlT (.slice (some ⟨V.heap.size, 0, none⟩) T c2) (some (.int .i64 (i : Int))) none none).run Try.prog W = _ := cut_from_run (g := V.heap.size) i (by omega) (by omega)
  have k5 : ∀ W, (Instr.sliceAt SlT (.slice (some ⟨V.heap.size, 0, none⟩) T c2) (some (.int .i64 ((i + vs.length : Nat) : Int))) none none).run Try.prog W = _ := cut_from_run (g := V.heap.size) (i + vs.length) (by omega) (by omega)
  rw [Int.natCast_add, hTl] at k5
  have r1 : ∀ ty, (Builtin.copy_ #[SlT, SlT] ty #[.slice (some ⟨V.heap.size, i * 2, none⟩) (T - i) (c2 - i), .slice qv vs.length cv]).run Try.prog (V.alloc (.cells arr SpT)).drew = _ := fun ty => copyV_run ty (S1.at_ 0 rfl) (S1.at_ 2 rfl) (by omega) (by rw [harr]; omega)
  have q2 : ∀ (W : World) ty, Blk W V.heap.size SpT (spl arr.toList (i * 2) (fc spc vs)).toArray → Blk W g SpT cur → (Builtin.copy_ #[SlT, SlT] ty #[.slice (some ⟨V.heap.size, (i + vs.length) * 2, none⟩) (l.length - j) (c2 - (i + vs.length)), .slice (some ⟨g, j * 2, none⟩) (l.length - j) (cap - j)]).run Try.prog W = .ok (goInt (Nat.min (l.length - j) (l.length - j))) (W.setRow V.heap.size (spl (spl arr.toList (i * 2) (fc spc vs)) ((i + vs.length) * 2) (fc spc (l.drop j))).toArray) := fun W ty hb ho => by
    have := run_copy_rowK (P := Try.prog) W SlT SlT ty SpT 2 V.heap.size ((i + vs.length) * 2) (l.length - j) (c2 - (i + vs.length)) ⟨g, j * 2, none⟩ (l.length - j) (cap - j) _ SpT (fc spc (l.drop j)) Try.underlying22 spSize hb (by rw [hR]; simp) (fun n v hn => by
      have h1 := HN.out.2.2.2.2 n v hn
      rw [add_at, ho.cell]
      simpa using h1) (by simpa using hfit2) (fc_one spc_one _)
    simpa using this
  have hnew : (spl (spl arr.toList (i * 2) (fc spc vs)) ((i + vs.length) * 2) (fc spc (l.drop j))).take (T * 2) = fc spc (l.take i ++ (vs ++ l.drop j)) := by
    have hA := HN.out.2.1
    have h := lay_up (c := arr.toList) (A := fc spc (l.take i)) (V := fc spc vs) (R := fc spc (l.drop j)) (by rw [hA]; exact htk) (by rw [hA, hR, hVl, hcl]; have := HT.out; omega)
    rw [hA, hR, hVl, show i * 2 + vs.length * 2 = (i + vs.length) * 2 by omega, show (i + vs.length) * 2 + (l.length - j) * 2 = T * 2 by have := HT.out; omega] at h
    rw [h, fc_append, fc_append]
  have HFI := Lib.hid hnew
  have HSZ := Lib.hid (show (spl (spl arr.toList (i * 2) (fc spc vs)) ((i + vs.length) * 2) (fc spc (l.drop j))).toArray.size = c2 * 2 by rw [List.size_toArray, spl_len hfit2, spl_len hfit1, hcl])
  have HS3 := Lib.hid (S3.drop (.cons_cons _ (.cons _ (List.Sublist.refl _))))
  have HB := Lib.hid (And.intro (S2.drew.at_ 0 rfl) (S2.drew.at_ 1 rfl))
  have HQ2 := Lib.hid q2
  clear SV S1 S2 S3 hap harr htk hcl hfit1 hfit2 q2 hnew hR hVl HS HN
  generalize spl (spl arr.toList (i * 2) (fc spc vs)) ((i + vs.length) * 2) (fc spc (l.drop j)) = cu2 at *
  generalize spl arr.toList (i * 2) (fc spc vs) = cu1 at *
  go_wp2_with (at_builtin; refine wpList_append_eq rfl _ _ SlT IntT rfl _ _ rfl rfl HAP.out ?_)
  go_region_law (refine step_copy_eq rfl _ _ SlT SlT rfl _ _ (by simp [Act.eval, Act.put]) (by simp [Act.eval, Act.put]) (HQ2.out (((V.alloc (.cells arr SpT)).drew.setRow V.heap.size cu1.toArray).drew) _ HB.out.1 HB.out.2) ?_)
  all_goals
    go_wp2_with fail
    go_ret
    exact ⟨_, c2, _, rfl, HS3.out, hc2, hc2m, HSZ.out, by simpa using HFI.out⟩

set_option maxRecDepth 100000 in
set_option maxHeartbeats 4000000 in
theorem replace_more (g cap : Nat) (cur : Array Value) (l : List (Int × Int)) (i j : Nat) (qv : Option Addr) (cv : Nat) (vs : List (Int × Int)) (w : World) (hij : i < j) (hj : j < l.length) (hl : l.length ≤ 100000) (hv : vs.length ≤ 100000) (hle : l.length ≤ cap) (hcm : cap ≤ maxLen)
    (S : Sep (fpL [Ob.blk g SpT cur, srow qv cv vs]) w w [Ob.blk g SpT cur, srow qv cv vs]) (hsz : cur.size = cap * 2) (hcur : cur.toList.take (l.length * 2) = fc spc l) (hmore : j < i + vs.length) (hroom : i + vs.length + (l.length - j) ≤ cap) :
    Calls Try.prog 88 #[.slice (some ⟨g, 0, none⟩) l.length cap, .int .i64 (i : Int), .int .i64 (j : Int), .slice qv vs.length cv] w fun e w' =>
      ∃ cur', e = .returned (.slice (some ⟨g, 0, none⟩) (i + vs.length + (l.length - j)) cap) ∧ Sep (fpL [Ob.blk g SpT cur, srow qv cv vs]) w w' [Ob.blk g SpT cur', srow qv cv vs] ∧ cur'.size = cap * 2 ∧ cur'.toList.take ((i + vs.length + (l.length - j)) * 2) = fc spc (l.take i ++ (vs ++ l.drop j)) := by
  obtain ⟨T, hT⟩ : ∃ T, T = i + vs.length + (l.length - j) := ⟨_, rfl⟩
  have hcl : cur.toList.length = cap * 2 := by rw [Array.length_toList, hsz]
  have hR : (fc spc (l.drop j)).length = (l.length - j) * 2 := fc_drop_len l j
  have hVl : (fc spc vs).length = vs.length * 2 := fc_length spc_len vs
  have hA : (fc spc (l.take i)).length = i * 2 := fc_take_len l (by omega)
  have hAt : cur.toList.take (i * 2) = fc spc (l.take i) := cur_take hcur (by omega)
  have hsrc : ∀ (n : Nat) v, (fc spc (l.drop j))[n]? = some v → cur.toList[j * 2 + n]? = some v := fun n v hn => by
    have hlt : n < (l.length - j) * 2 := by rw [← hR]; exact (List.getElem?_eq_some_iff.1 hn).1
    rw [← fc_drop spc_len, List.getElem?_drop, ← hcur, List.getElem?_take_of_lt (by omega)] at hn
    exact hn
  have k0 : ∀ W, (Instr.sliceAt SlT (.slice (some ⟨g, 0, none⟩) l.length cap) (some (.int .i64 (i : Int))) (some (.int .i64 (j : Int))) none).run Try.prog W = _ := cut_mid_run (g := g) (n := l.length) i j (by omega) (by omega)
  have k1 : ∀ W, (Instr.sliceAt SlT (.slice (some ⟨g, 0, none⟩) l.length cap) none (some (.int .i64 (i : Int))) none).run Try.prog W = _ := cut_to_run i (by omega)
  have k2 : ∀ W, (Instr.sliceAt SlT (.slice (some ⟨g, 0, none⟩) l.length cap) (some (.int .i64 (j : Int))) none none).run Try.prog W = _ := cut_from_run (g := g) j (by omega) (by omega)
  have e1 : IntKind.i64.wrap ((i : Int) + vs.length) = (i : Int) + vs.length := by simp [IntKind.wrap, IntKind.bits, IntKind.signed]; omega
  have e2 : IntKind.i64.wrap ((i : Int) + vs.length + ((l.length - j : Nat) : Int)) = T := by rw [show (i : Int) + vs.length + ((l.length - j : Nat) : Int) = T by omega]; simp [IntKind.wrap, IntKind.bits, IntKind.signed]; omega
  have g1 : ((i : Int) == j) = false := beq_eq_false_iff_ne.2 (by omega)
  have g2 : ((j : Int) == l.length) = false := beq_eq_false_iff_ne.2 (by omega)
  have g3 : decide ((cap : Int) < T) = false := decide_eq_false (by omega)
  have g3n : decide (cap < T) = false := decide_eq_false (by omega)
  have g4 : decide ((i : Int) + vs.length ≤ j) = false := decide_eq_false (by omega)
  have k3 : ∀ W, (Instr.sliceAt SlT (.slice (some ⟨g, 0, none⟩) l.length cap) none (some (.int .i64 (T : Int))) none).run Try.prog W = _ := cut_to_run T (by omega)
  have k4 : ∀ W, (Instr.sliceAt SlT (.slice (some ⟨g, 0, none⟩) T cap) (some (.int .i64 (i : Int))) none none).run Try.prog W = _ := cut_from_run (g := g) i (by omega) (by omega)
  have k5 : ∀ W, (Instr.sliceAt SlT (.slice (some ⟨g, 0, none⟩) T cap) (some (.int .i64 ((i + vs.length : Nat) : Int))) none none).run Try.prog W = _ := cut_from_run (g := g) (i + vs.length) (by omega) (by omega)
  have hTl : T - (i + vs.length) = l.length - j := by omega
  rw [Int.natCast_add, hTl] at k5
  have hfit1 : (i + vs.length) * 2 + (fc spc (l.drop j)).length ≤ cur.toList.length := by rw [hR, hcl]; omega
  have hfit2 : i * 2 + (fc spc vs).length ≤ (spl cur.toList ((i + vs.length) * 2) (fc spc (l.drop j))).length := by rw [spl_len hfit1, hVl, hcl]; omega
  rw [← hT]
  have hnew : (spl (spl cur.toList ((i + vs.length) * 2) (fc spc (l.drop j))) (i * 2) (fc spc vs)).take (T * 2) = fc spc (l.take i ++ (vs ++ l.drop j)) := by
    have h := lay_down (c := cur.toList) (A := fc spc (l.take i)) (V := fc spc vs) (R := fc spc (l.drop j)) (by rw [hA]; exact hAt) (by rw [hA, hR, hVl, hcl]; omega)
    rw [hA, hR, hVl, show i * 2 + vs.length * 2 = (i + vs.length) * 2 by omega, show (i + vs.length) * 2 + (l.length - j) * 2 = T * 2 by omega] at h
    rw [h, fc_append, fc_append]
  have q2 : ∀ (W : World) ty, Blk W g SpT cur → (Builtin.copy_ #[SlT, SlT] ty #[.slice (some ⟨g, (i + vs.length) * 2, none⟩) (l.length - j) (cap - (i + vs.length)), .slice (some ⟨g, j * 2, none⟩) (l.length - j) (cap - j)]).run Try.prog W = .ok (goInt (Nat.min (l.length - j) (l.length - j))) (W.setRow g (spl cur.toList ((i + vs.length) * 2) (fc spc (l.drop j))).toArray) := fun W ty hb => by
    have := run_copy_rowK (P := Try.prog) W SlT SlT ty SpT 2 g ((i + vs.length) * 2) (l.length - j) (cap - (i + vs.length)) ⟨g, j * 2, none⟩ (l.length - j) (cap - j) _ SpT (fc spc (l.drop j)) Try.underlying22 spSize hb (by rw [hR]; simp) (fun n v hn => by
      have h1 := hsrc n v hn
      rw [add_at, hb.cell]
      simpa using h1) (by simpa using hfit1) (fc_one spc_one _)
    simpa using this
  have q1 : ∀ (W : World) ty, Blk W g SpT (spl cur.toList ((i + vs.length) * 2) (fc spc (l.drop j))).toArray → (srow qv cv vs).ok W → (Builtin.copy_ #[SlT, SlT] ty #[.slice (some ⟨g, i * 2, none⟩) (T - i) (cap - i), .slice qv vs.length cv]).run Try.prog W = .ok (goInt vs.length) (W.setRow g (spl (spl cur.toList ((i + vs.length) * 2) (fc spc (l.drop j))) (i * 2) (fc spc vs)).toArray) := fun W ty hb ho => by
    have := copyV_run (o := i * 2) (dLen := T - i) (dCap := cap - i) ty hb ho (by omega) (by rw [List.size_toArray, spl_len hfit1, hcl]; omega)
    simpa using this
  have HLast := Lib.hid (And.intro (show (spl (spl cur.toList ((i + vs.length) * 2) (fc spc (l.drop j))) (i * 2) (fc spc vs)).length = cap * 2 by rw [spl_len hfit2, spl_len hfit1, hcl]) hnew)
  obtain ⟨gv, cu, rfl, hbv, hlev, _, hszv, htkv⟩ := row_parts (S.at_ 1 rfl) (by omega)
  have hne : g ≠ gv := fun e => S.ne 0 1 (by decide) rfl rfl g rfl (by rw [e]; rfl)
  have hov := fun (W : World) (hb : Blk W g SpT cur) (hbv : Blk W gv SpT cu) (la ca : Nat) => overlaps_run (la := la) (ca := ca) (oa := (i + vs.length) * 2) (ob := 0) (lb := vs.length) (cb := cv) (W := W) hne hb hbv (by rw [hszv]; omega)
  have HQ1 := Lib.hid q1
  have HQ2 := Lib.hid q2
  have HOV := Lib.hid hov
  have HBV := Lib.hid hbv
  have HS := Lib.hid S
  have HT := Lib.hid hT
  clear hT S q1 q2 hov hnew hfit1 hfit2 hTl hsrc hAt hA hVl hR hcl hcur hsz hbv htkv
  generalize spl (spl cur.toList ((i + vs.length) * 2) (fc spc (l.drop j))) (i * 2) (fc spc vs) = cu2 at *
  generalize spl cur.toList ((i + vs.length) * 2) (fc spc (l.drop j)) = cu1 at *
  go_enter Try.func88, Try.ntmps88
  go_wp2_with fail
  go_quiet (fail)
  have SV := HS.out.drewN nq
  have hbv : Blk (w.drewN nq) gv SpT cu := by simpa [Blk] using HBV.out
  generalize w.drewN nq = V at *
  have hov := HOV.out V (SV.at_ 0 rfl) hbv
  have S1 := SV.drew.setRow 0 rfl cu1.toArray
  have r1 := fun ty => HQ1.out _ ty (S1.at_ 0 rfl) (S1.at_ 1 rfl)
  have HS2 := Lib.hid (S1.setRow 0 rfl cu2.toArray)
  have HB0 := Lib.hid (SV.drew.at_ 0 rfl)
  clear SV S1 HS hbv
  go_wp2_with (simp only [hov])
  go_region_law (refine step_copy_eq rfl _ _ SlT SlT rfl _ _ (by simp [Act.eval, Act.put]) (by simp [Act.eval, Act.put]) (HQ2.out V.drew _ HB0.out) ?_)
  all_goals
    go_wp2_with fail
    go_ret
    exact ⟨_, rfl, HS2.out, by rw [List.size_toArray]; exact HLast.out.1, by simpa using HLast.out.2⟩
end Go.Proofs.Ytfobeheplficgaa
namespace Go.Proofs.Ytfobeheplficgaa
open Go.RowKit Go.Und Go.Shelf
attribute [local go_sem] Oper.semAt_some
attribute [local go_sem ↓] Go.wp_at_zero Go.wp_at_succ

theorem row_back {D : Nat → Prop} {w w' : World} {g c : Nat} {cur : Array Value} {l : List (Int × Int)} {R : List Ob} (T : Sep D w w' (Ob.blk g SpT cur :: R)) (h1 : l.length ≤ c) (h2 : c ≤ maxLen) (h3 : cur.size = c * 2) (h4 : cur.toList.take (l.length * 2) = fc spc l) : Sep D w w' (srow (some ⟨g, 0, none⟩) c l :: R) :=
  T.swap _ (row_of (T.at_ 0 rfl) h1 h2 h3 h4) (fun k h => (srow_fp cur k).1 h)
set_option maxRecDepth 100000 in
set_option maxHeartbeats 4000000 in
theorem insert_none (q : Option Addr) (cap n i : Nat) (qv : Option Addr) (cv : Nat) (w : World) (hi : i ≤ n) (hn : n ≤ cap) (hl : n ≤ 100000) :
    Calls Try.prog 100 #[.slice q n cap, .int .i64 (i : Int), .slice qv 0 cv] w fun e w' => e = .returned (.slice q n cap) ∧ w' = w := by
  have hcut : ∃ q1 c1, ∀ W, (Instr.sliceAt SlT (.slice q n cap) (some (.int .i64 (i : Int))) none none).run Try.prog W = .ok (.slice q1 (n - i) c1) W := by
    obtain ⟨inf, hi1, _, hz1, _⟩ := info_parts spInfo
    refine ⟨(if cap = ((i : Int)).toNat then q else q.map (·.add (((i : Int)).toNat * 2))), cap - ((i : Int)).toNat, fun W => ?_⟩
    have h1 := run_cut_from (P := Try.prog) W SlT SpT inf 2 Try.underlying22 hi1 hz1 q n cap .i64 (i : Int) (by omega) (by omega)
    rw [h1, show ((i : Int)).toNat = i by omega]
  obtain ⟨q1, c1, hcut⟩ := hcut
  go_enter Try.func100, Try.ntmps100
  go_wp2_with fail
  go_ret
  exact ⟨rfl, rfl⟩
set_option maxRecDepth 100000 in
set_option maxHeartbeats 4000000 in
theorem replace_any (q : Option Addr) (cap : Nat) (l : List (Int × Int)) (i j : Nat) (qv : Option Addr) (cv : Nat) (vs : List (Int × Int)) (w : World) (hij : i ≤ j) (hj : j ≤ l.length) (hcase : i < j ∨ vs = []) (hl : l.length ≤ 100000) (hv : vs.length ≤ 100000)
    (S : Sep (fpL [srow q cap l, srow qv cv vs]) w w [srow q cap l, srow qv cv vs]) :
    Calls Try.prog 88 #[.slice q l.length cap, .int .i64 (i : Int), .int .i64 (j : Int), .slice qv vs.length cv] w fun e w' =>
      ∃ q' c', e = .returned (.slice q' (l.take i ++ (vs ++ l.drop j)).length c') ∧ Sep (fpL [srow q cap l, srow qv cv vs]) w w' [srow q' c' (l.take i ++ (vs ++ l.drop j)), srow qv cv vs] := by
  have hcc : l.length ≤ cap := (row_reads (S.at_ 0 rfl)).room
  rcases Nat.lt_or_ge i j with h1 | h1
  · obtain ⟨g, cur, rfl, hb, hle, hcm, hsz, htk⟩ := row_parts (S.at_ 0 rfl) (by omega)
    have Sa := S.swap (Ob.blk g SpT cur) hb (fun k h => (srow_fp cur k).2 h)
    by_cases hjn : j = l.length
    · have hfin : l.take i ++ (vs ++ l.drop j) = l.take i ++ vs := by rw [hjn]; simp
      have hlen : (l.take i ++ vs).length = i + vs.length := by simp; omega
      rw [hfin]
      by_cases hroom : i + vs.length ≤ cap
      · refine (replace_end g cap cur l i j qv cv vs w h1 hj hl hv hle hcm Sa.self hsz htk hjn hroom).mono ?_
        rintro e w' ⟨cur', rfl, T, h2, h3⟩
        exact ⟨some ⟨g, 0, none⟩, cap, by rw [hlen], row_back (Sa.did0 T) (by rw [hlen]; exact hroom) hcm h2 (by rw [hlen]; exact h3)⟩
      · refine (replace_end_grow g cap cur l i j qv cv vs w h1 hjn hl hv hle hcm Sa.self hsz htk (by omega)).mono ?_
        rintro e w' ⟨g2, c2, cur', rfl, T, h0, h2, h3, h4⟩
        exact ⟨some ⟨g2, 0, none⟩, c2, by rw [hlen], row_back (Sa.did0 T) (by rw [hlen]; exact h0) h2 h3 (by rw [hlen]; exact h4)⟩
    · have hlen : (l.take i ++ (vs ++ l.drop j)).length = i + vs.length + (l.length - j) := by simp; omega
      have hj2 : j < l.length := by omega
      by_cases hroom : i + vs.length + (l.length - j) ≤ cap
      · by_cases hless : i + vs.length ≤ j
        · refine (replace_less g cap cur l i j qv cv vs w h1 hj2 hl hv hle hcm Sa.self hsz htk hless).mono ?_
          rintro e w' ⟨cur', rfl, T, h2, h3⟩
          exact ⟨some ⟨g, 0, none⟩, cap, by rw [hlen], row_back (Sa.did0 T) (by rw [hlen]; exact hroom) hcm h2 (by rw [hlen]; exact h3)⟩
        · refine (replace_more g cap cur l i j qv cv vs w h1 hj2 hl hv hle hcm Sa.self hsz htk (by omega) hroom).mono ?_
          rintro e w' ⟨cur', rfl, T, h2, h3⟩
          exact ⟨some ⟨g, 0, none⟩, cap, by rw [hlen], row_back (Sa.did0 T) (by rw [hlen]; exact hroom) hcm h2 (by rw [hlen]; exact h3)⟩
      · refine (replace_grow g cap cur l i j qv cv vs w h1 hj2 hl hv hle hcm Sa.self hsz htk (by omega)).mono ?_
        rintro e w' ⟨g2, c2, cur', rfl, T, h0, h2, h3, h4⟩
        exact ⟨some ⟨g2, 0, none⟩, c2, by rw [hlen], row_back (Sa.did0 T) (by rw [hlen]; exact h0) h2 h3 (by rw [hlen]; exact h4)⟩
  · obtain rfl : i = j := by omega
    obtain rfl : vs = [] := hcase.resolve_left (by omega)
    have hfin : l.take i ++ ([] ++ l.drop i) = l := by simp
    rw [hfin]
    have hcut : ∃ q1 n1 c1, ∀ W, (Instr.sliceAt SlT (.slice q l.length cap) (some (.int .i64 (i : Int))) (some (.int .i64 (i : Int))) none).run Try.prog W = .ok (.slice q1 n1 c1) W := by
      obtain ⟨inf, hi1, _, hz1, _⟩ := info_parts spInfo
      exact ⟨_, _, _, fun W => run_cut_mid (P := Try.prog) W SlT SpT inf 2 Try.underlying22 hi1 hz1 q l.length cap .i64 .i64 (i : Int) (i : Int) (by omega) (by omega) (by omega)⟩
    obtain ⟨q1, n1, c1, hcut⟩ := hcut
    have HI := Lib.hid (insert_none q cap l.length i qv cv w hj hcc hl)
    have HS := Lib.hid S
    have g1 : ((i : Int) == i) = true := beq_self_eq_true _
    show Calls _ _ #[.slice q l.length cap, .int .i64 (i : Int), .int .i64 (i : Int), .slice qv 0 cv] _ _
    clear S hcase hfin
    go_enter Try.func88, Try.ntmps88
    go_wp2_with ((refine (HI.out).mono ?_); rintro e1 w1 ⟨rfl, rfl⟩)
    go_ret
    exact ⟨_, _, rfl, HS.out⟩
set_option maxRecDepth 100000 in
set_option maxHeartbeats 4000000 in
/-- lay, where there is room. -/
theorem lay_any (p : Nat) (q : Option Addr) (cap : Nat) (l : List (Int × Int)) (lo hi : Nat) (qv : Option Addr) (cv : Nat) (vs : List (Int × Int)) (w : World) (hlo : lo ≤ hi) (hhi : hi ≤ l.length) (hcase : lo < hi ∨ vs = []) (hn : l.length ≤ 100000) (hroom : l.length - (hi - lo) + vs.length ≤ 4096)
    (S : Sep (fpL (rns p q cap l ++ [srow qv cv vs])) w w (rns p q cap l ++ [srow qv cv vs])) :
    Calls Try.prog 56 #[.pointer (at0 p), .int .i64 (lo : Int), .int .i64 (hi : Int), .slice qv vs.length cv] w fun e w' =>
      e = .returned (.int .i64 0) ∧ ∃ q' c', Sep (fpL (rns p q cap l ++ [srow qv cv vs])) w w' (rns p q' c' (l.take lo ++ (vs ++ l.drop hi)) ++ [srow qv cv vs]) := by
  have g1 : decide ((4096 : Int) < (l.length : Int) - ((hi : Int) - lo) + vs.length) = false := decide_eq_false (by omega)
  have e1 : IntKind.i64.wrap ((hi : Int) - lo) = (hi : Int) - lo := by simp [IntKind.wrap, IntKind.bits, IntKind.signed]; omega
  have e2 : IntKind.i64.wrap ((l.length : Int) - ((hi : Int) - lo)) = (l.length : Int) - ((hi : Int) - lo) := by simp [IntKind.wrap, IntKind.bits, IntKind.signed]; omega
  have e3 : IntKind.i64.wrap ((l.length : Int) - ((hi : Int) - lo) + vs.length) = (l.length : Int) - ((hi : Int) - lo) + vs.length := by simp [IntKind.wrap, IntKind.bits, IntKind.signed]; omega
  have c1 : w.cell? ⟨p, 0, none⟩ = some (.slice q l.length cap) := (S.at_ 0 rfl).cell 0
  have S1 : Sep (fpL (rns p q cap l ++ [srow qv cv vs])) w w ([srow q cap l, srow qv cv vs] ++ [Ob.blk p RnT #[.slice q l.length cap]]) := S.perm (by
    show List.Perm [_, _, _] [_, _, _]
    exact (List.Perm.swap _ _ _).trans (List.Perm.cons _ (List.Perm.swap _ _ _)))
  have HR := Lib.hid (replace_any q cap l lo hi qv cv vs w hlo hhi hcase hn (by omega) S1.head)
  obtain ⟨L2, e9⟩ : ∃ L2, L2 = l.take lo ++ (vs ++ l.drop hi) := ⟨_, rfl⟩
  rw [← e9] at HR ⊢
  clear e9
  have HS := Lib.hid S1
  clear S S1 hcase hroom
  go_enter Try.func56, Try.ntmps56
  go_wp2_with ((refine (HR.out).mono ?_); rintro e4 w1 ⟨q2, c2, rfl, T⟩; have S2 := HS.out.did T; have c2' : w1.cell? ⟨p, 0, none⟩ = some (.slice q l.length cap) := (S2.at_ 2 rfl).cell 0; have fz : w1.frozen? ⟨p, 0, none⟩ = false := (S2.at_ 2 rfl).frozen 0; have HS2 := Lib.hid (S2.set 2 rfl 0 (.slice q2 L2.length c2)); clear S2 T)
  go_ret
  refine ⟨rfl, q2, c2, HS2.out.perm ?_⟩
  show List.Perm [_, _, _] [_, _, _]
  exact (List.Perm.cons _ (List.Perm.swap _ _ _)).trans (List.Perm.swap _ _ _)
end Go.Proofs.Ytfobeheplficgaa
namespace Go.Proofs.Ytfobeheplficgaa
open Go.RowKit Go.Und Go.Shelf
attribute [local go_sem] Oper.semAt_some
attribute [local go_sem ↓] Go.wp_at_zero Go.wp_at_succ

set_option maxRecDepth 100000 in
set_option maxHeartbeats 4000000 in
theorem ask_any (p : Nat) (a b : Int) (w : World) : Calls Try.prog 51 #[.pointer (at0 p), .agg #[.int .i64 a, .int .i64 b]] w fun e w' => e = .returned (.int .i64 (if mayS (a, b) = true then 0 else 3)) ∧ Fr None w w' := by
  have F := Lib.hid ((Fr.refl None w).alloc (.cells #[.int .i64 a, .int .i64 b] SpT))
  have HM := Lib.hid (may_any a b (w.alloc (.cells #[.int .i64 a, .int .i64 b] SpT)))
  cases hm : mayS (a, b) <;> rw [hm] at HM
  all_goals
    go_enter Try.func51, Try.ntmps51
    go_wp2_with ((refine (HM.out).mono ?_); rintro e1 w1 ⟨rfl, F1⟩; have F2 := Lib.hid (F.out.trans F1); clear F1)
    go_ret
    exact ⟨rfl, F2.out⟩
set_option maxRecDepth 100000 in
theorem ask_nil (a b : Int) (w : World) : Calls Try.prog 51 #[.pointer none, .agg #[.int .i64 a, .int .i64 b]] w fun e w' => e = .returned (.int .i64 1) ∧ Fr None w w' := by
  have F := Lib.hid ((Fr.refl None w).alloc (.cells #[.int .i64 a, .int .i64 b] SpT))
  go_enter Try.func51, Try.ntmps51
  go_wp2_with fail
  go_ret
  exact ⟨rfl, F.out⟩
set_option maxRecDepth 100000 in
theorem new_any (w : World) : Calls Try.prog 14 #[] w fun e w' => e = .returned (.pointer (at0 w.heap.size)) ∧ Sep None w w' (rns w.heap.size none 0 []) := by
  have S := Lib.hid (((Sep.law w).alloc #[.slice none 0 0] RnT).add (srow none 0 []) (Fr.refl None _) (Owns.nil spc 2 SpT _) (fun k hk => by cases hk))
  go_enter Try.func14, Try.ntmps14
  go_wp2_with fail
  go_ret
  exact ⟨rfl, S.out.perm (List.Perm.swap _ _ _)⟩
set_option maxRecDepth 100000 in
theorem rlen_any (p : Nat) (q : Option Addr) (cap n : Nat) (w : World) (c1 : w.cell? ⟨p, 0, none⟩ = some (.slice q n cap)) : Calls Try.prog 22 #[.pointer (at0 p)] w fun e w' => e = .returned (.int .i64 (n : Int)) ∧ w' = w := by
  go_enter Try.func22, Try.ntmps22
  go_wp2_with fail
  go_ret
  exact ⟨rfl, rfl⟩
theorem mayS_pr {a b : Int} (h : PrS (a, b)) : mayS (a, b) = true := (mayS_iff _).2 ⟨h.1, by have := h.2.1; omega, h.2.2⟩
set_option maxRecDepth 100000 in
set_option maxHeartbeats 4000000 in
/-- What is no span that counts is not put in. -/
theorem add_odd (p : Nat) (a b : Int) (w : World) (h : mayS (a, b) = false ∨ a = b) : Calls Try.prog 15 #[.pointer (at0 p), .agg #[.int .i64 a, .int .i64 b]] w fun e w' => e = .returned (.tuple #[.int .i64 0, .int .i64 (if mayS (a, b) = true then 0 else 3)]) ∧ Fr None w w' := by
  have S0 := (Sep.law w).alloc #[.int .i64 a, .int .i64 b] SpT
  have HK := Lib.hid (ask_any p a b (w.alloc (.cells #[.int .i64 a, .int .i64 b] SpT)))
  have HS := Lib.hid S0
  clear S0
  cases hm : mayS (a, b)
  · rw [hm] at HK
    clear h
    go_enter Try.func15, Try.ntmps15
    go_wp2_with ((refine (HK.out).mono ?_); rintro e1 w1 ⟨rfl, F1⟩; have S1 := HS.out.same F1; clear F1; have HS1 := Lib.hid S1; clear S1)
    go_ret2
    exact ⟨rfl, HS1.out.fr⟩
  · rw [hm] at HK
    have hab : (a == b) = true := beq_iff_eq.2 (h.resolve_left (fun e => by rw [hm] at e; cases e))
    clear h
    go_enter Try.func15, Try.ntmps15
    go_wp2_with ((refine (HK.out).mono ?_); rintro e1 w1 ⟨rfl, F1⟩; have S1 := HS.out.same F1; clear F1; have d1 : w1.cell? ⟨w.heap.size, 0, none⟩ = some (.int .i64 a) := (S1.at_ 0 rfl).cell 0; have d2 : w1.cell? ⟨w.heap.size, 1, none⟩ = some (.int .i64 b) := (S1.at_ 0 rfl).cell 1; have HS1 := Lib.hid S1; clear S1)
    go_ret2
    exact ⟨rfl, HS1.out.fr⟩
end Go.Proofs.Ytfobeheplficgaa
namespace Go.Proofs.Ytfobeheplficgaa
open Go.RowKit Go.Und Go.Shelf

theorem to_srow {D : Nat → Prop} {w0 w : World} {L : List Ob} {vb : Nat} {x : Int × Int} (S : Sep D w0 w (L ++ [sblk vb x])) : Sep D w0 w (L ++ [srow (some ⟨vb, 0, none⟩) 1 [x]]) :=
  have S1 : Sep D w0 w (sblk vb x :: L) := S.perm List.perm_append_comm
  (S1.swap (srow (some ⟨vb, 0, none⟩) 1 [x]) (srow1_of (S1.at_ 0 rfl)) (fun k h => (srow_fp _ k).1 h)).perm (List.perm_append_comm (l₁ := [_]) (l₂ := L))
theorem from_srow {D : Nat → Prop} {w0 w : World} {L : List Ob} {vb : Nat} {x : Int × Int} (S : Sep D w0 w (L ++ [srow (some ⟨vb, 0, none⟩) 1 [x]])) : Sep D w0 w (L ++ [sblk vb x]) :=
  have S1 : Sep D w0 w (srow (some ⟨vb, 0, none⟩) 1 [x] :: L) := S.perm List.perm_append_comm
  (S1.swap (sblk vb x) (sblk_of (S1.at_ 0 rfl)) (fun k h => (srow_fp #[.int .i64 x.1, .int .i64 x.2] k).2 h)).perm (List.perm_append_comm (l₁ := [_]) (l₂ := L))
theorem lay1_all (p : Nat) (q : Option Addr) (cap : Nat) (l : List (Int × Int)) (lo hi : Nat) (vb : Nat) (x : Int × Int) (w : World) (hlo : lo ≤ hi) (hhi : hi ≤ l.length) (hn : l.length ≤ 100000) (hroom : l.length - (hi - lo) + 1 ≤ 4096)
    (S : Sep (fpL (rns p q cap l ++ [sblk vb x])) w w (rns p q cap l ++ [sblk vb x])) :
    Calls Try.prog 56 #[.pointer (at0 p), .int .i64 (lo : Int), .int .i64 (hi : Int), .slice (some ⟨vb, 0, none⟩) 1 1] w fun e w' =>
      e = .returned (.int .i64 0) ∧ ∃ q' c', Sep (fpL (rns p q cap l ++ [sblk vb x])) w w' (rns p q' c' (l.take lo ++ ([x] ++ l.drop hi)) ++ [sblk vb x]) := by
  by_cases h : lo = hi
  · exact lay1_any p q cap l lo hi vb x w hlo hhi (.inl h) hn hroom S
  · have S1 := to_srow S
    refine (lay_any p q cap l lo hi (some ⟨vb, 0, none⟩) 1 [x] w hlo hhi (.inl (by omega)) hn (by simpa using hroom) S1.self).mono ?_
    rintro e w' ⟨rfl, q', c', T⟩
    exact ⟨rfl, q', c', from_srow (S1.did0 T)⟩
end Go.Proofs.Ytfobeheplficgaa
