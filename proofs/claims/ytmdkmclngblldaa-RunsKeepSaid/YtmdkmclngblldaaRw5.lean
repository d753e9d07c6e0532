/- slices.Insert of one span: walked. -/
import Derived.Test.YtmdkmclngblldaaRw4
import Derived.Test.YtmdkmclngblldaaCp0
set_option linter.unusedVariables false
set_option linter.unusedSimpArgs false
namespace Go.Proofs.Ytmdkmclngblldaa
open Go.RowKit Go.Und Go.Shelf
attribute [local go_sem] Oper.semAt_some
attribute [local go_sem ↓] Go.wp_at_zero Go.wp_at_succ

theorem spInfo : (Try.prog.info? SpT).map (fun i => (i.zero, i.size, i.bytes)) = some (some (.agg #[.int .i64 0, .int .i64 0]), 2, 16) := by kernel_rfl
theorem spSize : (Try.prog.info? SpT).map (·.size) = some 2 := by kernel_rfl
/-- A row that is not none, block and cells. -/
theorem row_parts {w : World} {q : Option Addr} {cap : Nat} {l : List (Int × Int)} (h : (srow q cap l).ok w) (hne : 0 < l.length) : ∃ g cur, q = some ⟨g, 0, none⟩ ∧ Blk w g SpT cur ∧ l.length ≤ cap ∧ cap ≤ maxLen ∧ cur.size = cap * 2 ∧ cur.toList.take (l.length * 2) = fc spc l := by
  rcases h.2 with ⟨e, _⟩ | ⟨g, c, cur, e, _, h1, h2, h3, h4, h5⟩
  · injection e with _ e2 _; omega
  · obtain ⟨rfl, rfl⟩ : q = some ⟨g, 0, none⟩ ∧ cap = c := by simpa using e
    exact ⟨g, cur, rfl, h1, h2, h3, h4, h5⟩
theorem row_of {w : World} {g cap : Nat} {cur : Array Value} {l : List (Int × Int)} (hb : Blk w g SpT cur) (h1 : l.length ≤ cap) (h2 : cap ≤ maxLen) (h3 : cur.size = cap * 2) (h4 : cur.toList.take (l.length * 2) = fc spc l) : (srow (some ⟨g, 0, none⟩) cap l).ok w :=
  ⟨by rw [fc_length spc_len], .inr ⟨g, cap, cur, rfl, Nat.zero_le _, hb, h1, h2, h3, h4⟩⟩
theorem add_at (b o j : Nat) : (⟨b, o, none⟩ : Addr).add j = ⟨b, o + j, none⟩ := by unfold Addr.add; split <;> simp_all
theorem cut_from_run {g n cap : Nat} (k : Nat) (hk : k ≤ n) (hc : k < cap) (W : World) : (Instr.sliceAt SlT (.slice (some ⟨g, 0, none⟩) n cap) (some (.int .i64 (k : Int))) none none).run Try.prog W = .ok (.slice (some ⟨g, k * 2, none⟩) (n - k) (cap - k)) W := by
  obtain ⟨i, hi, _, hz1, _⟩ := info_parts spInfo
  have h1 := run_cut_from (P := Try.prog) W SlT SpT i 2 Try.underlying22 hi hz1 (some ⟨g, 0, none⟩) n cap .i64 (k : Int) (by omega) (by omega)
  rw [h1, show (k : Int).toNat = k by omega, if_neg (by omega)]
  simp [Addr.add]
  omega
theorem cut_to_run {q : Option Addr} {n cap : Nat} (k : Nat) (hk : k ≤ cap) (W : World) : (Instr.sliceAt SlT (.slice q n cap) none (some (.int .i64 (k : Int))) none).run Try.prog W = .ok (.slice q k cap) W := by
  obtain ⟨i, hi, _, hz1, _⟩ := info_parts spInfo
  have h1 := run_cut_to (P := Try.prog) W SlT SpT i 2 Try.underlying22 hi hz1 q n cap .i64 (k : Int) (by omega) (by omega)
  rw [h1, show (k : Int).toNat = k by omega]
theorem overlaps_run {ga gb la ca lb cb oa ob : Nat} {ca' cb' : Array Value} {W : World} (hne : ga ≠ gb) (ha : Blk W ga SpT ca') (hb : Blk W gb SpT cb') (hk : 0 < cb'.size) :
    (callFunc 101 #[.slice (some ⟨ga, oa, none⟩) la ca, .slice (some ⟨gb, ob, none⟩) lb cb]).run Try.prog W = .ok (.value (.bool false)) W := by
  have hsa : W.shape? ga = some (SpT, ca'.size) := by unfold Blk at ha; simp [World.shape?, ha]
  have hsb : W.shape? gb = some (SpT, cb'.size) := by unfold Blk at hb; simp [World.shape?, hb]
  rw [run_callFunc_extern Try.func101 (by kernel_rfl) (by kernel_rfl) (by kernel_rfl) (e := Extern.SlicesOverlaps.overlaps #[SlT, SlT] #[4]) (by kernel_rfl),
    Lib.run_overlaps_apart W SlT 4 SpT Try.underlying22 2 Try.sizeOf24 ⟨ga, oa, none⟩ ⟨gb, ob, none⟩ la ca lb cb hne SpT SpT ca'.size cb'.size hsa hsb (by omega) (ha.frozen _) (ha.frozen _)]
  rfl
theorem fc_lay (l vs : List (Int × Int)) (i j : Nat) : fc spc (l.take i ++ (vs ++ l.drop j)) = (fc spc l).take (i * 2) ++ (fc spc vs ++ (fc spc l).drop (j * 2)) := by
  rw [fc_append, fc_append, ← fc_take spc_len, ← fc_drop spc_len]
set_option maxRecDepth 100000 in
set_option maxHeartbeats 4000000 in
/-- There is room: those behind go up by one. -/
theorem insert_shift (g cap : Nat) (cur : Array Value) (l : List (Int × Int)) (i : Nat) (vb : Nat) (x : Int × Int) (w : World) (hi : i < l.length) (hroom : l.length + 1 ≤ cap) (hcap : cap ≤ maxLen) (hl : l.length ≤ 1000000)
    (S : Sep (fpL [Ob.blk g SpT cur, Ob.blk vb SpT #[.int .i64 x.1, .int .i64 x.2]]) w w [Ob.blk g SpT cur, Ob.blk vb SpT #[.int .i64 x.1, .int .i64 x.2]]) (hsz : cur.size = cap * 2) (hcur : cur.toList.take (l.length * 2) = fc spc l) :
    Calls Try.prog 100 #[.slice (some ⟨g, 0, none⟩) l.length cap, .int .i64 (i : Int), .slice (some ⟨vb, 0, none⟩) 1 1] w fun e w' =>
      ∃ cur', e = .returned (.slice (some ⟨g, 0, none⟩) (l.length + 1) cap) ∧ Sep (fpL [Ob.blk g SpT cur, Ob.blk vb SpT #[.int .i64 x.1, .int .i64 x.2]]) w w' [Ob.blk g SpT cur', Ob.blk vb SpT #[.int .i64 x.1, .int .i64 x.2]] ∧ cur'.size = cap * 2 ∧ cur'.toList.take ((l.length + 1) * 2) = fc spc (l.take i ++ ([x] ++ l.drop i)) := by
  have hne : vb ≠ g := fun e => S.ne 0 1 (by decide) rfl rfl g rfl e.symm
  have hR : (fc spc (l.drop i)).length = (l.length - i) * 2 := by rw [fc_length spc_len, List.length_drop]
  have hV : fc spc [x] = [.int .i64 x.1, .int .i64 x.2] := rfl
  have hcl : cur.toList.length = cap * 2 := by rw [Array.length_toList, hsz]
  have c1 : ∀ W, (Instr.sliceAt SlT (.slice (some ⟨g, 0, none⟩) l.length cap) (some (.int .i64 (i : Int))) none none).run Try.prog W = _ := cut_from_run (g := g) i (by omega) (by omega)
  have c2 : ∀ W, (Instr.sliceAt SlT (.slice (some ⟨g, 0, none⟩) l.length cap) none (some (.int .i64 ((l.length + 1 : Nat) : Int))) none).run Try.prog W = _ := cut_to_run (l.length + 1) hroom
  have c3 : ∀ W, (Instr.sliceAt SlT (.slice (some ⟨g, 0, none⟩) (l.length + 1) cap) (some (.int .i64 ((i + 1 : Nat) : Int))) none none).run Try.prog W = _ := cut_from_run (g := g) (i + 1) (by omega) (by omega)
  have c4 : ∀ W, (Instr.sliceAt SlT (.slice (some ⟨g, 0, none⟩) (l.length + 1) cap) (some (.int .i64 (i : Int))) none none).run Try.prog W = _ := cut_from_run (g := g) i (by omega) (by omega)
  rw [Int.natCast_add, Int.natCast_one] at c2 c3
  have hov := fun la ca ob lb cb => overlaps_run (la := la) (ca := ca) (oa := 0) (ob := ob) (lb := lb) (cb := cb) hne (S.at_ 1 rfl) (S.at_ 0 rfl) (by rw [hsz]; omega)
  have e1 : IntKind.i64.wrap ((i : Int) + 1) = i + 1 := by simp [IntKind.wrap, IntKind.bits, IntKind.signed]; omega
  have g1 : ((i : Int) == l.length) = false := beq_eq_false_iff_ne.2 (by omega)
  have hfit1 : (i + 1) * 2 + (fc spc (l.drop i)).length ≤ cur.toList.length := by rw [hR, hcl]; omega
  have hcp1 : ∀ W ty dc sc, Blk W g SpT cur → (Builtin.copy_ #[SlT, SlT] ty #[.slice (some ⟨g, (i + 1) * 2, none⟩) (l.length - i) dc, .slice (some ⟨g, i * 2, none⟩) (l.length + 1 - i) sc]).run Try.prog W = .ok (goInt (Nat.min (l.length + 1 - i) (l.length - i))) (W.setRow g (spl cur.toList ((i + 1) * 2) (fc spc (l.drop i))).toArray) := fun W ty dc sc hb =>
    run_copy_rowK W SlT SlT ty SpT 2 g ((i + 1) * 2) _ dc ⟨g, i * 2, none⟩ _ sc cur SpT (fc spc (l.drop i)) Try.underlying22 spSize hb (by rw [hR]; simp only [Nat.min_def]; split <;> omega) (fun j v hj => by
      have hlt : j < (l.length - i) * 2 := by rw [← hR]; exact (List.getElem?_eq_some_iff.1 hj).1
      rw [← fc_drop spc_len, List.getElem?_drop, ← hcur, List.getElem?_take_of_lt (by omega)] at hj
      rw [add_at, hb.cell]
      simpa using hj) (by rw [Array.length_toList] at hfit1; exact hfit1) (fc_one spc_one _)
  have hfit2 : i * 2 + (fc spc [x]).length ≤ (spl cur.toList ((i + 1) * 2) (fc spc (l.drop i))).length := by rw [spl_len hfit1, hcl, hV]; simp; omega
  have hcp2 : ∀ W ty dc, Blk W g SpT (spl cur.toList ((i + 1) * 2) (fc spc (l.drop i))).toArray → Blk W vb SpT #[.int .i64 x.1, .int .i64 x.2] → (Builtin.copy_ #[SlT, SlT] ty #[.slice (some ⟨g, i * 2, none⟩) (l.length + 1 - i) dc, .slice (some ⟨vb, 0, none⟩) 1 1]).run Try.prog W = .ok (goInt (Nat.min 1 (l.length + 1 - i))) (W.setRow g (spl (spl cur.toList ((i + 1) * 2) (fc spc (l.drop i))) (i * 2) (fc spc [x])).toArray) := fun W ty dc hb hv => by
    have := run_copy_rowK (P := Try.prog) W SlT SlT ty SpT 2 g (i * 2) (l.length + 1 - i) dc ⟨vb, 0, none⟩ 1 1 _ SpT (fc spc [x]) Try.underlying22 spSize hb (by rw [hV]; simp only [Nat.min_def]; split <;> simp <;> omega) (fun j v hj => by
      rw [add_at, hv.cell]
      simpa [hV] using hj) (by simpa using hfit2) (fc_one spc_one _)
    simpa using this
  have S1 := S.drew.setRow 0 rfl (spl cur.toList ((i + 1) * 2) (fc spc (l.drop i))).toArray
  have S2 := S1.setRow 0 rfl (spl (spl cur.toList ((i + 1) * 2) (fc spc (l.drop i))) (i * 2) (fc spc [x])).toArray
  have HB0 := Lib.hid (S.drew.at_ 0 rfl)
  have HB1 := Lib.hid (And.intro (S1.at_ 0 rfl) (S1.at_ 1 rfl))
  have HFin : (spl (spl cur.toList ((i + 1) * 2) (fc spc (l.drop i))) (i * 2) (fc spc [x])).take ((l.length + 1) * 2) = fc spc (l.take i ++ ([x] ++ l.drop i)) := by
    have hA : (fc spc (l.take i)).length = i * 2 := by rw [fc_length spc_len, List.length_take]; omega
    have h := lay_down (c := cur.toList) (A := fc spc (l.take i)) (V := fc spc [x]) (R := fc spc (l.drop i)) (by
      rw [hA, ← fc_take spc_len, ← hcur, List.take_take]; congr 1; omega) (by rw [hA, hR, hV, hcl]; simp; omega)
    rw [hA, hR, hV] at h
    rw [hV]
    rw [fc_append, fc_append, hV, ← h]
    simp only [List.length_cons, List.length_nil]
    rw [show i * 2 + 2 = (i + 1) * 2 by omega, show (i + 1) * 2 + (l.length - i) * 2 = (l.length + 1) * 2 by omega]
  have HFI := Lib.hid HFin
  have HSZ := Lib.hid (show (spl (spl cur.toList ((i + 1) * 2) (fc spc (l.drop i))) (i * 2) (fc spc [x])).toArray.size = cap * 2 by rw [List.size_toArray, spl_len hfit2, spl_len hfit1, hcl])
  have HS2 := Lib.hid S2
  have HCP1 := Lib.hid hcp1
  have HCP2 := Lib.hid hcp2
  clear S S1 S2 HFin hcur hR hV hcl hfit1 hfit2 hcp1 hcp2 hsz
  generalize spl (spl cur.toList ((i + 1) * 2) (fc spc (l.drop i))) (i * 2) (fc spc [x]) = cu2 at *
  generalize spl cur.toList ((i + 1) * 2) (fc spc (l.drop i)) = cu1 at *
  go_enter Try.func100, Try.ntmps100
  go_wp2_with (simp only [hov])
  go_region_law (refine step_copy_eq rfl _ _ SlT SlT rfl _ _ (by simp [Act.eval, Act.put]) (by simp [Act.eval, Act.put]) (HCP1.out w.drew _ (cap - (i + 1)) (cap - i) HB0.out) ?_)
  all_goals
    have q2 := HCP2.out (w.drew.setRow g cu1.toArray) 3 (cap - i) HB1.out.1 HB1.out.2
    go_wp2_with fail
    go_ret
    exact ⟨_, rfl, HS2.out, HSZ.out, by simpa using HFI.out⟩
/-- append(s[:i], make(..)...): what stands ahead, and room behind it. -/
theorem grow_run (g cap : Nat) (cur : Array Value) (l : List (Int × Int)) (i k : Nat) (w : World) (hb : Blk w g SpT cur) (hi : i ≤ l.length) (hcap : cap < i + k) (hle : l.length ≤ cap) (hl : l.length ≤ 1000000) (hk : k ≤ 1000000) (hcur : cur.toList.take (l.length * 2) = fc spc l) :
    ∃ (arr : Array Value) (c2 : Nat), (∀ ty, (Builtin.append_ #[SlT, IntT] ty #[.slice (some ⟨g, 0, none⟩) i cap, .int .i64 (k : Int)]).run Try.prog w = .ok (.slice (some ⟨w.heap.size, 0, none⟩) (i + k) c2) ((w.alloc (.cells arr SpT)).drew)) ∧ i + k ≤ c2 ∧ c2 ≤ maxLen ∧ arr.size = c2 * 2 ∧ arr.toList.take (i * 2) = fc spc (l.take i) := by
  obtain ⟨inf, hi1, hz, hz1, hz2⟩ := info_parts spInfo
  have hlen : (fc spc (l.take i)).length = i * 2 := by rw [fc_length spc_len, List.length_take]; omega
  have hold : (Builtin.firstCells inf.size i (.slice (some ⟨g, 0, none⟩) i cap)).run Try.prog w.drew = .ok (fc spc (l.take i)).toArray w.drew := by
    rw [hz1]
    have := run_loadCells_list (P := Try.prog) w.drew ⟨g, 0, none⟩ (fc spc (l.take i)) (fun j v hj => by
      have hlt : j < i * 2 := by rw [← hlen]; exact (List.getElem?_eq_some_iff.1 hj).1
      rw [← fc_take spc_len, List.getElem?_take_of_lt hlt, ← hcur, List.getElem?_take_of_lt (by omega)] at hj
      rw [add_at, hb.drew.cell, Nat.zero_add]
      simpa using hj)
    rw [hlen] at this
    simpa [Builtin.firstCells] using this
  have hnc : Builtin.nextslicecap (i + k) cap ≤ 2 * (i + k) := nextslicecap_le (by omega)
  refine ⟨_, grownCap w (i + k) cap SpT, fun ty => Lib.run_append_grow_zeros w SlT IntT ty SpT inf (.agg #[.int .i64 0, .int .i64 0]) .i64 .i64 Try.underlying22 Try.underlying3 hi1 hz (some ⟨g, 0, none⟩) i cap (fc spc (l.take i)) hold k (by omega) (by omega) hcap (by omega) (by rw [hz2]; omega) (by rw [hz2]; omega), grownCap_ge w (i + k) cap SpT, grownCap_le_maxLen w (i + k) cap SpT (by unfold maxLen; omega), ?_, ?_⟩
  · have hge := grownCap_ge w (i + k) cap SpT
    simp only [Array.size_append, List.size_toArray, size_zeroCells, hlen, Value.cells]
    simp
    omega
  · rw [Array.toList_append, Array.toList_append, List.append_assoc]
    simp only [List.toList_toArray]
    rw [List.take_left' hlen]
set_option maxRecDepth 100000 in
set_option maxHeartbeats 4000000 in
/-- There is no room: all goes over. -/
theorem insert_grow (g cap : Nat) (cur : Array Value) (l : List (Int × Int)) (i : Nat) (vb : Nat) (x : Int × Int) (w : World) (hi : i < l.length) (hroom : cap < l.length + 1) (hle : l.length ≤ cap) (hl : l.length ≤ 100000)
    (S : Sep (fpL [Ob.blk g SpT cur, Ob.blk vb SpT #[.int .i64 x.1, .int .i64 x.2]]) w w [Ob.blk g SpT cur, Ob.blk vb SpT #[.int .i64 x.1, .int .i64 x.2]]) (hsz : cur.size = cap * 2) (hcur : cur.toList.take (l.length * 2) = fc spc l) :
    Calls Try.prog 100 #[.slice (some ⟨g, 0, none⟩) l.length cap, .int .i64 (i : Int), .slice (some ⟨vb, 0, none⟩) 1 1] w fun e w' =>
      ∃ g2 c2 cur', e = .returned (.slice (some ⟨g2, 0, none⟩) (l.length + 1) c2) ∧ Sep (fpL [Ob.blk g SpT cur, Ob.blk vb SpT #[.int .i64 x.1, .int .i64 x.2]]) w w' [Ob.blk g2 SpT cur', Ob.blk vb SpT #[.int .i64 x.1, .int .i64 x.2]] ∧ l.length + 1 ≤ c2 ∧ c2 ≤ maxLen ∧ cur'.size = c2 * 2 ∧ cur'.toList.take ((l.length + 1) * 2) = fc spc (l.take i ++ ([x] ++ l.drop i)) := by
  obtain ⟨arr, c2, hap, hc2, hc2m, harr, htk⟩ := grow_run g cap cur l i (l.length + 1 - i) w (S.at_ 0 rfl) (by omega) (by omega) hle (by omega) (by omega) hcur
  rw [show i + (l.length + 1 - i) = l.length + 1 by omega] at hap hc2
  rw [show ((l.length + 1 - i : Nat) : Int) = (l.length : Int) + 1 - i by omega] at hap
  have HAP := Lib.hid (hap SlT)
  have hR : (fc spc (l.drop i)).length = (l.length - i) * 2 := by rw [fc_length spc_len, List.length_drop]
  have hV : fc spc [x] = [.int .i64 x.1, .int .i64 x.2] := rfl
  have hcl : arr.toList.length = c2 * 2 := by rw [Array.length_toList, harr]
  have k1 : ∀ W, (Instr.sliceAt SlT (.slice (some ⟨g, 0, none⟩) l.length cap) (some (.int .i64 (i : Int))) none none).run Try.prog W = _ := cut_from_run (g := g) i (by omega) (by omega)
  have k2 : ∀ W, (Instr.sliceAt SlT (.slice (some ⟨g, 0, none⟩) l.length cap) none (some (.int .i64 (i : Int))) none).run Try.prog W = _ := cut_to_run i (by omega)
  have k3 : ∀ W, (Instr.sliceAt SlT (.slice (some ⟨w.heap.size, 0, none⟩) (l.length + 1) c2) (some (.int .i64 (i : Int))) none none).run Try.prog W = _ := cut_from_run (g := w.heap.size) i (by omega) (by omega)
  have k4 : ∀ W, (Instr.sliceAt SlT (.slice (some ⟨w.heap.size, 0, none⟩) (l.length + 1) c2) (some (.int .i64 ((i + 1 : Nat) : Int))) none none).run Try.prog W = _ := cut_from_run (g := w.heap.size) (i + 1) (by omega) (by omega)
  rw [Int.natCast_add, Int.natCast_one] at k4
  have e1 : IntKind.i64.wrap ((i : Int) + 1) = i + 1 := by simp [IntKind.wrap, IntKind.bits, IntKind.signed]; omega
  have g1 : ((i : Int) == l.length) = false := beq_eq_false_iff_ne.2 (by omega)
  have S1 : Sep (fpL [Ob.blk g SpT cur, Ob.blk vb SpT #[.int .i64 x.1, .int .i64 x.2]]) w (w.alloc (.cells arr SpT)).drew [Ob.blk w.heap.size SpT arr, Ob.blk g SpT cur, Ob.blk vb SpT #[.int .i64 x.1, .int .i64 x.2]] := S.drew.alloc arr SpT
  have hfit1 : i * 2 + (fc spc [x]).length ≤ arr.toList.length := by rw [hV, hcl]; simp; omega
  have q1 : (Builtin.copy_ #[SlT, SlT] 3 #[.slice (some ⟨w.heap.size, i * 2, none⟩) (l.length + 1 - i) (c2 - i), .slice (some ⟨vb, 0, none⟩) 1 1]).run Try.prog (w.alloc (.cells arr SpT)).drew = .ok (goInt (Nat.min 1 (l.length + 1 - i))) ((w.alloc (.cells arr SpT)).drew.setRow w.heap.size (spl arr.toList (i * 2) (fc spc [x])).toArray) := by
    have hv := S1.at_ 2 rfl
    exact run_copy_rowK (P := Try.prog) _ SlT SlT _ SpT 2 w.heap.size (i * 2) (l.length + 1 - i) _ ⟨vb, 0, none⟩ 1 1 arr SpT (fc spc [x]) Try.underlying22 spSize (S1.at_ 0 rfl) (by rw [hV, show Nat.min 1 (l.length + 1 - i) = 1 from Nat.min_eq_left (by omega)]; rfl) (fun j v hj => by
      rw [add_at, Blk.cell hv]
      simpa [hV] using hj) (by simpa using hfit1) (fc_one spc_one _)
  have S2 := S1.setRow 0 rfl (spl arr.toList (i * 2) (fc spc [x])).toArray
  have hfit2 : (i + 1) * 2 + (fc spc (l.drop i)).length ≤ (spl arr.toList (i * 2) (fc spc [x])).length := by rw [spl_len hfit1, hR, hcl]; omega
  have q2 : ∀ (W : World) ty, Blk W w.heap.size SpT (spl arr.toList (i * 2) (fc spc [x])).toArray → Blk W g SpT cur → (Builtin.copy_ #[SlT, SlT] ty #[.slice (some ⟨w.heap.size, (i + 1) * 2, none⟩) (l.length - i) (c2 - (i + 1)), .slice (some ⟨g, i * 2, none⟩) (l.length - i) (cap - i)]).run Try.prog W = .ok (goInt (Nat.min (l.length - i) (l.length - i))) (W.setRow w.heap.size (spl (spl arr.toList (i * 2) (fc spc [x])) ((i + 1) * 2) (fc spc (l.drop i))).toArray) := fun W ty hb ho => by
    have := run_copy_rowK (P := Try.prog) W SlT SlT ty SpT 2 w.heap.size ((i + 1) * 2) (l.length - i) (c2 - (i + 1)) ⟨g, i * 2, none⟩ (l.length - i) (cap - i) _ SpT (fc spc (l.drop i)) Try.underlying22 spSize hb (by rw [hR]; simp) (fun j v hj => by
      have hlt : j < (l.length - i) * 2 := by rw [← hR]; exact (List.getElem?_eq_some_iff.1 hj).1
      rw [← fc_drop spc_len, List.getElem?_drop, ← hcur, List.getElem?_take_of_lt (by omega)] at hj
      rw [add_at, ho.cell]
      simpa using hj) (by simpa using hfit2) (fc_one spc_one _)
    simpa using this
  have S3 := S2.drew.setRow 0 rfl (spl (spl arr.toList (i * 2) (fc spc [x])) ((i + 1) * 2) (fc spc (l.drop i))).toArray
  have HB := Lib.hid (And.intro (S2.drew.at_ 0 rfl) (S2.drew.at_ 1 rfl))
  have HFin : (spl (spl arr.toList (i * 2) (fc spc [x])) ((i + 1) * 2) (fc spc (l.drop i))).take ((l.length + 1) * 2) = fc spc (l.take i ++ ([x] ++ l.drop i)) := by
    have hA : (fc spc (l.take i)).length = i * 2 := by rw [fc_length spc_len, List.length_take]; omega
    have h := lay_up (c := arr.toList) (A := fc spc (l.take i)) (V := fc spc [x]) (R := fc spc (l.drop i)) (by
      rw [hA]; exact htk) (by rw [hA, hR, hV, hcl]; simp; omega)
    rw [hA, hR, hV] at h
    rw [hV]
    rw [fc_append, fc_append, hV, ← h]
    simp only [List.length_cons, List.length_nil]
    rw [show i * 2 + 2 = (i + 1) * 2 by omega, show (i + 1) * 2 + (l.length - i) * 2 = (l.length + 1) * 2 by omega]
  have HFI := Lib.hid HFin
  have HSZ := Lib.hid (show (spl (spl arr.toList (i * 2) (fc spc [x])) ((i + 1) * 2) (fc spc (l.drop i))).toArray.size = c2 * 2 by rw [List.size_toArray, spl_len hfit2, spl_len hfit1, hcl])
  have HS3 := Lib.hid (S3.drop (.cons_cons _ (.cons _ (List.Sublist.refl _))))
  have HQ2 := Lib.hid q2
  clear S S1 S2 S3 HFin hcur hR hV hcl hfit1 hfit2 q2 hsz hap htk
  generalize spl (spl arr.toList (i * 2) (fc spc [x])) ((i + 1) * 2) (fc spc (l.drop i)) = cu2 at *
  generalize spl arr.toList (i * 2) (fc spc [x]) = cu1 at *
  go_enter Try.func100, Try.ntmps100
  go_wp2_with (at_builtin; refine wpList_append_eq rfl _ _ SlT IntT rfl _ _ rfl rfl HAP.out ?_)
  go_region_law (refine step_copy_eq rfl _ _ SlT SlT rfl _ _ (by simp [Act.eval, Act.put]) (by simp [Act.eval, Act.put]) (HQ2.out (((w.alloc (.cells arr SpT)).drew.setRow w.heap.size cu1.toArray).drew) _ HB.out.1 HB.out.2) ?_)
  all_goals
    go_wp2_with fail
    go_ret
    exact ⟨_, c2, _, rfl, HS3.out, hc2, hc2m, HSZ.out, by simpa using HFI.out⟩
theorem reads_blk {w : World} {vb : Nat} {x : Int × Int} (h : Blk w vb SpT #[.int .i64 x.1, .int .i64 x.2]) : Reads w 2 (some ⟨vb, 0, none⟩) 1 1 (fc spc [x]) :=
  ⟨rfl, Nat.le_refl _, fun h => (by cases h), fun ad h => (by cases h; rfl), fun ad h' j u hu => by
    cases h'
    rw [h.cell]
    have hu2 : ([.int .i64 x.1, .int .i64 x.2] : List Value)[j]? = some u := hu
    simpa using hu2⟩
theorem fpL_swap {w : World} {a a' b : Ob} (h : ∀ k, a.fp k ↔ a'.fp k) (k : Nat) : fpL [a, b] k ↔ fpL [a', b] k := by
  constructor
  · rintro ⟨o, ho, hk⟩
    rcases List.mem_cons.1 ho with rfl | ho
    · exact ⟨a', by simp, (h k).1 hk⟩
    · exact ⟨o, List.mem_cons_of_mem _ ho, hk⟩
  · rintro ⟨o, ho, hk⟩
    rcases List.mem_cons.1 ho with rfl | ho
    · exact ⟨a, by simp, (h k).2 hk⟩
    · exact ⟨o, List.mem_cons_of_mem _ ho, hk⟩
theorem srow_fp {g cap : Nat} {l : List (Int × Int)} (cur : Array Value) (k : Nat) : (srow (some ⟨g, 0, none⟩) cap l).fp k ↔ (Ob.blk g SpT cur).fp k :=
  ⟨fun h => (Option.some.inj (show some g = some k from h)).symm, fun h => (show some g = some k from congrArg some (show k = g from h).symm)⟩
set_option maxRecDepth 100000 in
set_option maxHeartbeats 4000000 in
theorem insert_any (q : Option Addr) (cap : Nat) (l : List (Int × Int)) (i : Nat) (vb : Nat) (x : Int × Int) (w : World) (hi : i ≤ l.length) (hl : l.length ≤ 100000)
    (S : Sep (fpL [srow q cap l, Ob.blk vb SpT #[.int .i64 x.1, .int .i64 x.2]]) w w [srow q cap l, Ob.blk vb SpT #[.int .i64 x.1, .int .i64 x.2]]) :
    Calls Try.prog 100 #[.slice q l.length cap, .int .i64 (i : Int), .slice (some ⟨vb, 0, none⟩) 1 1] w fun e w' =>
      ∃ q' c', e = .returned (.slice q' (l.take i ++ ([x] ++ l.drop i)).length c') ∧ Sep (fpL [srow q cap l, Ob.blk vb SpT #[.int .i64 x.1, .int .i64 x.2]]) w w' [srow q' c' (l.take i ++ ([x] ++ l.drop i)), Ob.blk vb SpT #[.int .i64 x.1, .int .i64 x.2]] := by
  have hlen : (l.take i ++ ([x] ++ l.drop i)).length = l.length + 1 := by simp; omega
  by_cases hend : i = l.length
  · subst hend
    have hfin : l.take l.length ++ ([x] ++ l.drop l.length) = l ++ [x] := by simp
    rw [hfin] at hlen ⊢
    have hcut : ∃ q1 c1, ∀ W, (Instr.sliceAt SlT (.slice q l.length cap) (some (.int .i64 (l.length : Int))) none none).run Try.prog W = .ok (.slice q1 0 c1) W := by
      obtain ⟨inf, hi1, _, hz1, _⟩ := info_parts spInfo
      refine ⟨(if cap = ((l.length : Int)).toNat then q else q.map (·.add (((l.length : Int)).toNat * 2))), cap - ((l.length : Int)).toNat, fun W => ?_⟩
      have h1 := run_cut_from (P := Try.prog) W SlT SpT inf 2 Try.underlying22 hi1 hz1 q l.length cap .i64 (l.length : Int) (by omega) (by omega)
      rw [h1, show l.length - ((l.length : Int)).toNat = 0 by omega]
    obtain ⟨q1, c1, hcut⟩ := hcut
    obtain ⟨inf, hi1, hz0, hz1, hz2⟩ := info_parts spInfo
    have HI := Lib.hid (And.intro hi1 (And.intro hz0 (And.intro hz1 hz2))); clear hi1 hz0 hz1 hz2
    have HS := Lib.hid S
    have HLn := Lib.hid hlen
    clear S hlen hfin hi
    go_enter Try.func100, Try.ntmps100
    go_wp2_with (at_builtin; refine Hold.out ?_)
    refine Hold.mk ?_
    refine wpList_append_row _ rfl _ _ _ rfl 0 SpT inf _ 2 16 Try.underlying22 HI.out.1 HI.out.2.1 HI.out.2.2.1 HI.out.2.2.2 rfl (by decide) _ l.length (fc spc l) rfl (HS.out.at_ 0 rfl) (some ⟨vb, 0, none⟩) 1 1 (fc spc [x]) rfl (reads_blk (HS.out.at_ 1 rfl)) (fc_one spc_one _) (by simp [maxLen]; omega) (by omega) (Nat.zero_le _) ?_
    intro q2 c2 w2 ho2 hf2 hb2
    have S2 := HS.out.turn 0 rfl (Ob.row 0 SpT 2 (.slice q2 (l.length + 1) c2) (l.length + 1) (fc spc l ++ fc spc [x])) hf2 (fun _ _ h => h) ho2 (fun k hk => by
      have hk' : (Value.slice q2 (l.length + 1) c2).ownBlock = some k := hk
      rcases hb2 with e | e
      · exact .inl (Eq.trans (show (Value.slice q l.length cap).ownBlock = (Value.slice q2 (l.length + 1) c2).ownBlock from e.symm) hk')
      · rw [e] at hk'; cases hk'; exact .inr (Nat.le_refl _))
    simp only [List.set_cons_zero] at S2
    rw [← fc_append] at S2
    have HS2 := Lib.hid S2
    clear S2 ho2 hf2 hb2 HS
    go_wp2_with fail
    go_ret
    exact ⟨q2, c2, by rw [HLn.out]; rfl, by show Sep _ _ _ [Ob.row 0 SpT 2 (.slice q2 (l ++ [x]).length c2) (l ++ [x]).length (fc spc (l ++ [x])), _]; rw [HLn.out]; exact HS2.out⟩
  · obtain ⟨g, cur, rfl, hb, hle, hcm, hsz, htk⟩ := row_parts (S.at_ 0 rfl) (by omega)
    have hfp := fpL_swap (w := w) (b := Ob.blk vb SpT #[.int .i64 x.1, .int .i64 x.2]) (srow_fp (g := g) (cap := cap) (l := l) cur)
    have S' : Sep (fpL [Ob.blk g SpT cur, Ob.blk vb SpT #[.int .i64 x.1, .int .i64 x.2]]) w w [Ob.blk g SpT cur, Ob.blk vb SpT #[.int .i64 x.1, .int .i64 x.2]] := (S.swap (Ob.blk g SpT cur) hb (fun k h => (srow_fp cur k).2 h)).self
    by_cases hroom : l.length + 1 ≤ cap
    · refine (insert_shift g cap cur l i vb x w (by omega) hroom hcm (by omega) S' hsz htk).mono ?_
      rintro e w' ⟨cur', rfl, T, h1, h2⟩
      refine ⟨some ⟨g, 0, none⟩, cap, by rw [hlen], ?_⟩
      have T2 := T.swap (srow (some ⟨g, 0, none⟩) cap (l.take i ++ ([x] ++ l.drop i))) (row_of (T.at_ 0 rfl) (by rw [hlen]; exact hroom) hcm h1 (by rw [hlen]; exact h2)) (fun k h => (srow_fp cur' k).1 h)
      exact ⟨T2.fr.mono (fun k _ h => (hfp k).2 h), T2.ok, fun o ho k hk => (T2.fp o ho k hk).imp (fun h => (hfp k).2 h) id, T2.apart⟩
    · refine (insert_grow g cap cur l i vb x w (by omega) (by omega) hle hl S' hsz htk).mono ?_
      rintro e w' ⟨g2, c2, cur', rfl, T, h0, h1, h2, h3⟩
      refine ⟨some ⟨g2, 0, none⟩, c2, by rw [hlen], ?_⟩
      have T2 := T.swap (srow (some ⟨g2, 0, none⟩) c2 (l.take i ++ ([x] ++ l.drop i))) (row_of (T.at_ 0 rfl) (by rw [hlen]; exact h0) h1 h2 (by rw [hlen]; exact h3)) (fun k h => (srow_fp cur' k).1 h)
      exact ⟨T2.fr.mono (fun k _ h => (hfp k).2 h), T2.ok, fun o ho k hk => (T2.fp o ho k hk).imp (fun h => (hfp k).2 h) id, T2.apart⟩
end Go.Proofs.Ytmdkmclngblldaa
