/- The document's list of pairs: put, delete, compare. -/
import Derived.Test.YtkjhdkjenloifaaAvlL1
namespace Go.Proofs.Ytkjhdkjenloifaa
open Go.RowKit Go.Und

theorem pairInfo : (Try.prog.info? PairT).map (fun i => (i.zero, i.size, i.bytes)) = some (some (.agg #[.int .i64 0, .int .i64 0]), 2, 16) := by kernel_rfl

set_option maxHeartbeats 1000000 in
theorem same_any (p q : Option Addr) (c d : Nat) (l : List (Int × Int)) (w : World) (hr : Reads w 2 p l.length c (pc l)) (hq : Reads w 2 q l.length d (pc l)) (hs : l.length ≤ 1000000) :
    Calls Try.prog 25 #[.slice p l.length c, .slice q l.length d] w fun e w' => e = .returned (.bool true) ∧ ∃ n, w' = w.drewN n := by
  have HR := Lib.hid hr; clear hr
  have HQ := Lib.hid hq; clear hq
  go_enter Try.func25, Try.ntmps25
  go_wp2_with fail
  go_loopg [5] l.length (fun r i wr => ∃ k n : Nat, k + r = l.length ∧ i = .int .i64 k ∧ wr = w.drewN n)
  case atStart => exact ⟨0, 0, by omega, rfl, rfl⟩
  case round =>
    obtain ⟨k, n, hk0, rfl, rfl⟩ := hrel
    by_cases g : k < l.length
    · have ex := List.getElem?_eq_getElem g
      obtain ⟨b, off, rfl, c1, c2⟩ := Pairs.at HR.out ex
      obtain ⟨b2, off2, rfl, d1, d2⟩ := Pairs.at HQ.out ex
      generalize l[k] = x at *
      have EX := Lib.hid ex; clear ex
      go_wp2_with fail
      go_quiet (fail)
      go_wp2_with fail
      go_roundg (gk - 1)
      case measure => omega
      case rel => exact ⟨k + 1, _, by omega, by go_num, rfl⟩
    · go_wp2_with fail
      go_ret
      exact ⟨rfl, _, rfl⟩

/-- A list that is laid anew. -/
def Fresh (w w' : World) (l : List (Int × Int)) (e : Ending) : Prop :=
  ∃ p cap, e = .returned (.slice p l.length cap) ∧ Pairs w' (.slice p l.length cap) l ∧ (∀ ad, p = some ad → w.heap.size ≤ ad.block) ∧ Fr None w w'

theorem owns_none {w : World} {g : Nat} (h : Blk w g PairT #[]) : Pairs w (.slice (some ⟨g, 0, none⟩) 0 0) [] :=
  ⟨by simp [pc], .inr ⟨g, 0, #[], rfl, Nat.zero_le _, h, Nat.le_refl _, by simp [maxLen], rfl, by simp [pc]⟩⟩

/-- A list under way: where it lies, and what is left alone. -/
structure Grows (w w' : World) (p : Option Addr) (n cap : Nat) (l : List (Int × Int)) : Prop where
  cnt : n = l.length
  own : Pairs w' (.slice p n cap) l
  far : ∀ b, (Value.slice p n cap).ownBlock = some b → w.heap.size ≤ b
  fr : Fr None w w'

theorem Grows.step {w w1 w2 : World} {p q : Option Addr} {n c d m : Nat} {l r : List (Int × Int)} (h : Grows w w1 p n c l) (hm : r.length = m)
    (ho : w2.ownsRow 0 PairT 2 (.slice q (n + m) d) (n + m) (pc l ++ pc r)) (hf : Fr (fun b => (Value.slice p n c).ownBlock = some b) w1 w2)
    (hb : (Value.slice q (n + m) d).ownBlock = (Value.slice p n c).ownBlock ∨ (Value.slice q (n + m) d).ownBlock = some w1.heap.size) : Grows w w2 q (n + m) d (l ++ r) := by
  have hn := h.cnt
  refine ⟨by simp [hn, hm], ?_, fun b hb' => ?_, h.fr.trans' hf (fun i hi hd => absurd (h.far i hd) (by omega))⟩
  · unfold Pairs
    rw [pc_append, List.length_append, hm, ← hn]; exact ho
  · rcases hb with e | e
    · exact h.far b (by rw [← e]; exact hb')
    · rw [e] at hb'; cases hb'; exact h.fr.size
theorem Grows.start (w : World) : Grows w (w.alloc (.cells #[] PairT)) (some ⟨w.heap.size, 0, none⟩) 0 0 [] :=
  ⟨rfl, owns_none (Blk.new w PairT #[]), fun b hb => (by cases hb; exact Nat.le_refl _), (Fr.refl None w).alloc _⟩
theorem Grows.alloc {w w1 : World} {p : Option Addr} {n c : Nat} {l : List (Int × Int)} (h : Grows w w1 p n c l) (o : Obj) : Grows w (w1.alloc o) p n c l :=
  ⟨h.cnt, h.own.fr (D := None) ((Fr.refl _ w1).alloc o) (fun _ _ h => h), h.far, h.fr.alloc o⟩
theorem Grows.row {w w1 : World} {p : Option Addr} {n c : Nat} {l : List (Int × Int)} (h : Grows w w1 p n c l) (o : Obj) : (w1.alloc o).ownsRow 0 PairT 2 (.slice p n c) n (pc l) := by
  have h1 := (h.alloc o).own
  have h2 := h.cnt
  unfold Pairs at h1; rw [← h2] at h1; exact h1
theorem Grows.row0 {w w1 : World} {p : Option Addr} {n c : Nat} {l : List (Int × Int)} (h : Grows w w1 p n c l) : w1.ownsRow 0 PairT 2 (.slice p n c) n (pc l) := by
  have h1 := h.own
  have h2 := h.cnt
  unfold Pairs at h1; rw [← h2] at h1; exact h1
theorem Grows.fresh {w w1 : World} {p : Option Addr} {n c : Nat} {l m : List (Int × Int)} (h : Grows w w1 p n c l) (e : l = m) : Fresh w w1 m (.returned (.slice p n c)) := by
  subst e
  obtain ⟨hn, ho, hf, hr⟩ := h
  subst hn
  exact ⟨p, c, rfl, ho, fun ad had => hf _ (by subst had; rfl), hr⟩
theorem reads_pair (W : World) (x : Int × Int) : Reads (W.alloc (.cells #[.int .i64 x.1, .int .i64 x.2] PairT)) 2 (some ⟨W.heap.size, 0, none⟩) 1 1 (pc [x]) :=
  ⟨rfl, Nat.le_refl _, fun h => (by cases h), fun ad h => (by cases h; rfl), fun ad h j u hu => (by
    cases h
    have hb := (Blk.new W PairT #[.int .i64 x.1, .int .i64 x.2]).cell (0 + j)
    rw [hb]
    simpa [pc] using hu)⟩

set_option maxHeartbeats 1000000 in
theorem putRef_any (p : Option Addr) (cap : Nat) (l : List (Int × Int)) (key v : Int) (w : World) (hr : Reads w 2 p l.length cap (pc l)) (hs : l.length ≤ 100000) (hR : Tr.Rise l) :
    Calls Try.prog 14 #[.slice p l.length cap, .int .i64 key, .int .i64 v] w fun e w' => Fresh w w' (Tr.putL key v l) e := by
  have HR := Lib.hid hr; clear hr
  have hle := Tr.rk_le key l
  have HK := Lib.hid (rankRef_any p cap l key w HR.out (by omega))
  have HH := Lib.hid (hasRef_any p cap l key w HR.out (by omega))
  have EP := Lib.hid (Tr.putR_put (key := key) (v := v) hR)
  have hj : Tr.hasR key l = true → Tr.rk key l < l.length := fun h => by
    rcases Nat.lt_or_ge (Tr.rk key l) l.length with g | g
    · exact g
    · simp [Tr.hasR, List.getElem?_eq_none g] at h
  generalize Tr.rk key l = k at *
  generalize Tr.hasR key l = b at *
  obtain ⟨i, hi, hz0, hz1, hz2⟩ := info_parts pairInfo
  have HI := Lib.hid (And.intro hi (And.intro hz0 (And.intro hz1 hz2))); clear hi hz0 hz1 hz2
  have HR1 := Lib.hid (fun W (f : Fr None w W) => HR.out.fr f (fun _ _ h => h))
  go_enter Try.func14, Try.ntmps14
  go_wp2_with fail
  refine HK.out.mono ?_
  rintro e w1 ⟨rfl, rfl⟩
  go_wp2_with fail
  refine HH.out.mono ?_
  rintro e w1 ⟨rfl, rfl⟩
  cases b with
  | true =>
    have hjl : k + 1 ≤ l.length := hj rfl
    have EP2 := Lib.hid (show l.take k ++ (key, v) :: l.drop (k + 1) = Tr.putL key v l by simpa using EP.out)
    clear EP hj
    go_wp2_with (with_reducible refine wpList_cut_to _ rfl _ _ _ PairT rfl i 2 Try.underlying36 HI.out.1 HI.out.2.2.1 p l.length cap (pc l) rfl (HR1.out _ ((Fr.refl None _).alloc _)) .i64 (k : Int) rfl (by omega) (by omega) ?_)
    intro hr2
    rw [pc_take] at hr2
    have G0 := Grows.start w1
    have H2 := Lib.hid hr2; have HG0 := Lib.hid G0; clear hr2 G0
    refine wpList_append_row _ rfl _ _ _ rfl 0 PairT i _ 2 16 Try.underlying36 HI.out.1 HI.out.2.1 HI.out.2.2.1 HI.out.2.2.2 rfl (by omega) _ 0 (pc []) rfl HG0.out.own p k cap _ rfl H2.out (pc_one _) (by simp [maxLen]; omega) (by omega) (Nat.zero_le _) ?_
    intro q1 c1 w2 ho hf hb
    have G1 := HG0.out.step (r := l.take k) (by simp; omega) ho hf hb
    simp only [Nat.zero_add, List.nil_append] at G1
    have HG1 := Lib.hid G1; clear G1 ho hf hb HG0 H2
    go_wp2_with (at_builtin; refine Hold.out ?_)
    refine Hold.mk ?_
    refine wpList_append_row _ rfl _ _ _ rfl 0 PairT i _ 2 16 Try.underlying36 HI.out.1 HI.out.2.1 HI.out.2.2.1 HI.out.2.2.2 rfl (by omega) _ k (pc (l.take k)) rfl (HG1.out.row _) (some ⟨w2.heap.size, 0, none⟩) 1 1 (pc [(key, v)]) rfl (reads_pair w2 (key, v)) (pc_one _) (by simp [maxLen]; omega) (by omega) (Nat.zero_le _) ?_
    intro q2 c2 w3 ho hf hb
    have G2 := (HG1.out.alloc (.cells #[.int .i64 key, .int .i64 v] PairT)).step (r := [(key, v)]) (m := 1) rfl ho hf hb
    have HG2 := Lib.hid G2; clear G2 ho hf hb HG1
    go_wp2_with (with_reducible refine wpList_cut_from _ rfl _ _ _ PairT rfl i 2 Try.underlying36 HI.out.1 HI.out.2.2.1 p l.length cap (pc l) rfl (HR1.out _ HG2.out.fr) .i64 (k + 1 : Int) rfl (by omega) (by omega) ?_)
    intro q3 hr3
    have hr4 : Reads w3 2 q3 (l.length - (k + 1)) (cap - (k + 1)) (pc (l.drop (k + 1))) := by rw [← pc_drop]; exact hr3
    have H4 := Lib.hid hr4; clear hr3 hr4
    refine wpList_append_row _ rfl _ _ _ rfl 0 PairT i _ 2 16 Try.underlying36 HI.out.1 HI.out.2.1 HI.out.2.2.1 HI.out.2.2.2 rfl (by omega) _ (k + 1) (pc (l.take k ++ [(key, v)])) rfl HG2.out.row0 q3 (l.length - (k + 1)) _ (pc (l.drop (k + 1))) rfl H4.out (pc_one _) (by simp [maxLen]; omega) (by omega) (Nat.zero_le _) ?_
    intro q4 c4 w4 ho hf hb
    have G3 := HG2.out.step (r := l.drop (k + 1)) (by simp) ho hf hb
    have HG3 := Lib.hid (G3.fresh (m := Tr.putL key v l) (by rw [← EP2.out]; simp)); clear G3 ho hf hb HG2 H4
    go_wp2_with fail
    go_ret
    have hz := HG3.out
    simp only [show k + 1 + (l.length - (k + 1)) = l.length by omega] at hz
    exact hz
  | false =>
    have hjl : k ≤ l.length := hle
    have EP2 := Lib.hid (show l.take k ++ (key, v) :: l.drop (k) = Tr.putL key v l by simpa using EP.out)
    clear EP hj
    go_wp2_with (with_reducible refine wpList_cut_to _ rfl _ _ _ PairT rfl i 2 Try.underlying36 HI.out.1 HI.out.2.2.1 p l.length cap (pc l) rfl (HR1.out _ ((Fr.refl None _).alloc _)) .i64 (k : Int) rfl (by omega) (by omega) ?_)
    intro hr2
    rw [pc_take] at hr2
    have G0 := Grows.start w1
    have H2 := Lib.hid hr2; have HG0 := Lib.hid G0; clear hr2 G0
    refine wpList_append_row _ rfl _ _ _ rfl 0 PairT i _ 2 16 Try.underlying36 HI.out.1 HI.out.2.1 HI.out.2.2.1 HI.out.2.2.2 rfl (by omega) _ 0 (pc []) rfl HG0.out.own p k cap _ rfl H2.out (pc_one _) (by simp [maxLen]; omega) (by omega) (Nat.zero_le _) ?_
    intro q1 c1 w2 ho hf hb
    have G1 := HG0.out.step (r := l.take k) (by simp; omega) ho hf hb
    simp only [Nat.zero_add, List.nil_append] at G1
    have HG1 := Lib.hid G1; clear G1 ho hf hb HG0 H2
    go_wp2_with (at_builtin; refine Hold.out ?_)
    refine Hold.mk ?_
    refine wpList_append_row _ rfl _ _ _ rfl 0 PairT i _ 2 16 Try.underlying36 HI.out.1 HI.out.2.1 HI.out.2.2.1 HI.out.2.2.2 rfl (by omega) _ k (pc (l.take k)) rfl (HG1.out.row _) (some ⟨w2.heap.size, 0, none⟩) 1 1 (pc [(key, v)]) rfl (reads_pair w2 (key, v)) (pc_one _) (by simp [maxLen]; omega) (by omega) (Nat.zero_le _) ?_
    intro q2 c2 w3 ho hf hb
    have G2 := (HG1.out.alloc (.cells #[.int .i64 key, .int .i64 v] PairT)).step (r := [(key, v)]) (m := 1) rfl ho hf hb
    have HG2 := Lib.hid G2; clear G2 ho hf hb HG1
    go_wp2_with (with_reducible refine wpList_cut_from _ rfl _ _ _ PairT rfl i 2 Try.underlying36 HI.out.1 HI.out.2.2.1 p l.length cap (pc l) rfl (HR1.out _ HG2.out.fr) .i64 (k : Int) rfl (by omega) (by omega) ?_)
    intro q3 hr3
    have hr4 : Reads w3 2 q3 (l.length - (k)) (cap - (k)) (pc (l.drop (k))) := by rw [← pc_drop]; exact hr3
    have H4 := Lib.hid hr4; clear hr3 hr4
    refine wpList_append_row _ rfl _ _ _ rfl 0 PairT i _ 2 16 Try.underlying36 HI.out.1 HI.out.2.1 HI.out.2.2.1 HI.out.2.2.2 rfl (by omega) _ (k + 1) (pc (l.take k ++ [(key, v)])) rfl HG2.out.row0 q3 (l.length - (k)) _ (pc (l.drop (k))) rfl H4.out (pc_one _) (by simp [maxLen]; omega) (by omega) (Nat.zero_le _) ?_
    intro q4 c4 w4 ho hf hb
    have G3 := HG2.out.step (r := l.drop (k)) (by simp) ho hf hb
    have HG3 := Lib.hid (G3.fresh (m := Tr.putL key v l) (by rw [← EP2.out]; simp)); clear G3 ho hf hb HG2 H4
    go_wp2_with fail
    go_ret
    exact HG3.out

/-- A list that is as it was, or laid anew. -/
def Kept (w w' : World) (p : Option Addr) (l : List (Int × Int)) (e : Ending) : Prop :=
  ∃ q cap, e = .returned (.slice q l.length cap) ∧ Pairs w' (.slice q l.length cap) l ∧ (∀ ad, q = some ad → p = some ad ∨ w.heap.size ≤ ad.block) ∧ Fr None w w'
theorem Fresh.kept {w w' : World} {p : Option Addr} {l : List (Int × Int)} {e : Ending} (h : Fresh w w' l e) : Kept w w' p l e := by
  obtain ⟨q, c, h1, h2, h3, h4⟩ := h
  exact ⟨q, c, h1, h2, fun ad had => .inr (h3 ad had), h4⟩

set_option maxHeartbeats 1000000 in
theorem delRef_any (p : Option Addr) (cap : Nat) (l : List (Int × Int)) (key : Int) (w : World) (ho : Pairs w (.slice p l.length cap) l) (hr : Reads w 2 p l.length cap (pc l)) (hs : l.length ≤ 100000) (hR : Tr.Rise l) :
    Calls Try.prog 36 #[.slice p l.length cap, .int .i64 key] w fun e w' => Kept w w' p (Tr.delL key l) e := by
  have HR := Lib.hid hr; clear hr
  have HO := Lib.hid ho; clear ho
  have hle := Tr.rk_le key l
  have HK := Lib.hid (rankRef_any p cap l key w HR.out (by omega))
  have HH := Lib.hid (hasRef_any p cap l key w HR.out (by omega))
  have EP := Lib.hid (Tr.delR_del (key := key) hR)
  have hj : Tr.hasR key l = true → Tr.rk key l < l.length := fun h => by
    rcases Nat.lt_or_ge (Tr.rk key l) l.length with g | g
    · exact g
    · simp [Tr.hasR, List.getElem?_eq_none g] at h
  generalize Tr.rk key l = k at *
  generalize Tr.hasR key l = b at *
  obtain ⟨i, hi, hz0, hz1, hz2⟩ := info_parts pairInfo
  have HI := Lib.hid (And.intro hi (And.intro hz0 (And.intro hz1 hz2))); clear hi hz0 hz1 hz2
  have HR1 := Lib.hid (fun W (f : Fr None w W) => HR.out.fr f (fun _ _ h => h))
  go_enter Try.func36, Try.ntmps36
  go_wp2_with fail
  refine HH.out.mono ?_
  rintro e w1 ⟨rfl, rfl⟩
  cases b with
  | true =>
    have hjl : k + 1 ≤ l.length := hj rfl
    have EP2 := Lib.hid (show l.take k ++ l.drop (k + 1) = Tr.delL key l by simpa using EP.out)
    clear EP hj
    go_wp2_with fail
    refine HK.out.mono ?_
    rintro e w1 ⟨rfl, rfl⟩
    go_wp2_with (with_reducible refine wpList_cut_to _ rfl _ _ _ PairT rfl i 2 Try.underlying36 HI.out.1 HI.out.2.2.1 p l.length cap (pc l) rfl (HR1.out _ ((Fr.refl None _).alloc _)) .i64 (k : Int) rfl (by omega) (by omega) ?_)
    intro hr2
    rw [pc_take] at hr2
    have G0 := Grows.start w1
    have H2 := Lib.hid hr2; have HG0 := Lib.hid G0; clear hr2 G0
    refine wpList_append_row _ rfl _ _ _ rfl 0 PairT i _ 2 16 Try.underlying36 HI.out.1 HI.out.2.1 HI.out.2.2.1 HI.out.2.2.2 rfl (by omega) _ 0 (pc []) rfl HG0.out.own p k cap _ rfl H2.out (pc_one _) (by simp [maxLen]; omega) (by omega) (Nat.zero_le _) ?_
    intro q1 c1 w2 ho hf hb
    have G1 := HG0.out.step (r := l.take k) (by simp; omega) ho hf hb
    simp only [Nat.zero_add, List.nil_append] at G1
    have HG1 := Lib.hid G1; clear G1 ho hf hb HG0 H2
    go_wp2_with (with_reducible refine wpList_cut_from _ rfl _ _ _ PairT rfl i 2 Try.underlying36 HI.out.1 HI.out.2.2.1 p l.length cap (pc l) rfl (HR1.out _ HG1.out.fr) .i64 (k + 1 : Int) rfl (by omega) (by omega) ?_)
    intro q3 hr3
    have hr4 : Reads w2 2 q3 (l.length - (k + 1)) (cap - (k + 1)) (pc (l.drop (k + 1))) := by rw [← pc_drop]; exact hr3
    have H4 := Lib.hid hr4; clear hr3 hr4
    refine wpList_append_row _ rfl _ _ _ rfl 0 PairT i _ 2 16 Try.underlying36 HI.out.1 HI.out.2.1 HI.out.2.2.1 HI.out.2.2.2 rfl (by omega) _ k (pc (l.take k)) rfl HG1.out.row0 q3 (l.length - (k + 1)) _ (pc (l.drop (k + 1))) rfl H4.out (pc_one _) (by simp [maxLen]; omega) (by omega) (Nat.zero_le _) ?_
    intro q4 c4 w4 ho hf hb
    have G3 := HG1.out.step (r := l.drop (k + 1)) (by simp) ho hf hb
    have HG3 := Lib.hid (G3.fresh (m := Tr.delL key l) EP2.out); clear G3 ho hf hb HG1 H4
    go_wp2_with fail
    go_ret
    exact HG3.out.kept
  | false =>
    have EP2 := Lib.hid (show l = Tr.delL key l by simpa using EP.out)
    clear EP hj
    go_wp2_with fail
    go_ret
    unfold Kept
    rw [← EP2.out]
    exact ⟨p, cap, rfl, HO.out, fun ad had => .inl had, Fr.refl None _⟩
end Go.Proofs.Ytkjhdkjenloifaa
