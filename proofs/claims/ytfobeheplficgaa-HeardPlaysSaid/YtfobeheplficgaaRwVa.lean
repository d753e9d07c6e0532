/- Gaps are what the document says (plain); operations as data; a loop over Gaps. -/
import Derived.Test.YtfobeheplficgaaRwU
set_option linter.unusedVariables false
set_option linter.unusedSimpArgs false
namespace Go.Proofs.Ytfobeheplficgaa
open Go.RowKit Go.Und Go.Shelf
open Go.ChangeShapes Go.WideShapes Go.ChangeAt
attribute [local go_sem] Oper.semAt_some
attribute [local go_sem ↓] Go.wp_at_zero Go.wp_at_succ

theorem _root_.Go.Und.mt_ok {s : Int × Int} (hs : PrS s) : ∀ {k : List (Int × Int)}, OkL k → (∀ x ∈ k, s.1 < x.2 ∧ x.1 < s.2) → OkL (k.map fun x => meetS x s) ∧ (∀ y ∈ k.map fun x => meetS x s, s.1 ≤ y.1 ∧ y.2 ≤ s.2) ∧ ∀ o, memL (k.map fun x => meetS x s) o ↔ memL k o ∧ s.1 ≤ o ∧ o < s.2
  | [], _, _ => ⟨trivial, fun y hy => (by simp at hy), fun o => ⟨fun h => absurd h (memL_nil o), fun h => absurd h.1 (memL_nil o)⟩⟩
  | x :: k, ok, h => by
    obtain ⟨px, hx, ok'⟩ := ok
    obtain ⟨i1, i2, i3⟩ := mt_ok hs ok' fun y hy => h y (List.mem_cons_of_mem _ hy)
    have hxs := h x List.mem_cons_self
    have em : meetS x s = (max x.1 s.1, min x.2 s.2) := by
      unfold meetS
      rw [px.plain, hs.plain]
      refine PrS.plain ⟨?_, ?_, ?_⟩
      · have := px.1; simp only; omega
      · have := px.2.1; have := hs.2.1; simp only; omega
      · have := px.2.2; simp only; omega
    have pm : PrS (meetS x s) := by
      rw [em]
      refine ⟨?_, ?_, ?_⟩
      · have := px.1; simp only; omega
      · have := px.2.1; have := hs.2.1; simp only; omega
      · have := px.2.2; simp only; omega
    refine ⟨⟨pm, fun y hy => ?_, i1⟩, fun y hy => ?_, fun o => ?_⟩
    · obtain ⟨z, hz, rfl⟩ := List.mem_map.1 hy
      have h1 := hx z hz
      have hzs := h z (List.mem_cons_of_mem _ hz)
      have pz := ok'.pr z hz
      have ez : meetS z s = (max z.1 s.1, min z.2 s.2) := by
        unfold meetS
        rw [pz.plain, hs.plain]
        refine PrS.plain ⟨?_, ?_, ?_⟩
        · have := pz.1; simp only; omega
        · have := pz.2.1; have := hs.2.1; simp only; omega
        · have := pz.2.2; simp only; omega
      show (meetS x s).2 < (meetS z s).1
      rw [em, ez]; simp only; omega
    · rw [List.map_cons] at hy
      rcases List.mem_cons.1 hy with rfl | hy
      · rw [em]; simp only; omega
      · exact i2 y hy
    · rw [List.map_cons, memL_cons, memL_cons, i3, em]
      simp only
      constructor
      · rintro (g | g)
        · exact ⟨.inl (by omega), by omega⟩
        · exact ⟨.inr g.1, g.2⟩
      · rintro ⟨g | g, g2⟩
        · exact .inl (by omega)
        · exact .inr ⟨g, g2⟩
theorem _root_.Go.Und.mem_takeW {s : Int × Int} : ∀ {m : List (Int × Int)} {x : Int × Int}, x ∈ m.takeWhile (fun x => decide (x.1 < s.2)) → x.1 < s.2
  | [], _, h => by cases h
  | y :: m, x, h => by
    rw [List.takeWhile_cons] at h
    split at h
    · rename_i hy
      rcases List.mem_cons.1 h with rfl | h
      · simpa using hy
      · exact mem_takeW h
    · cases h
theorem _root_.Go.Und.mtL_ok {l : List (Int × Int)} (ok : OkL l) {s : Int × Int} (hs : PrS s) : OkL (mtL l s) ∧ (∀ y ∈ mtL l s, s.1 ≤ y.1 ∧ y.2 ≤ s.2) ∧ ∀ o, memL (mtL l s) o ↔ memL l o ∧ s.1 ≤ o ∧ o < s.2 := by
  obtain ⟨n, hn⟩ : ∃ n, n = fstP (fun x => decide (s.1 < x.2)) l := ⟨_, rfl⟩
  have hlo : ∀ x ∈ l.take n, x.2 ≤ s.1 := fun x hx => by
    have := below_fst (fun x => decide (s.1 < x.2)) l x (by rw [← hn]; exact hx)
    simp only [decide_eq_false_iff_not] at this; omega
  have hhi : ∀ x ∈ l.drop n, s.1 < x.2 := fun x hx => by
    have := above_fst (fun x => decide (s.1 < x.2)) (ok.below_mono s.1) x (by rw [← hn]; exact hx)
    simpa using this
  have okd : OkL (l.drop n) := by
    have := ok
    rw [← List.take_append_drop n l] at this
    exact (okL_append.1 this).2.1
  obtain ⟨k, hk⟩ : ∃ k, k = (l.drop n).takeWhile fun x => decide (x.1 < s.2) := ⟨_, rfl⟩
  have hks : l.drop n = k ++ (l.drop n).dropWhile fun x => decide (x.1 < s.2) := by rw [hk, List.takeWhile_append_dropWhile]
  have hup : ∀ x ∈ (l.drop n).dropWhile (fun x => decide (x.1 < s.2)), s.2 ≤ x.1 := by
    intro x hx
    clear hks hlo hhi
    revert hx
    generalize l.drop n = m at okd
    induction m with
    | nil => intro hx; cases hx
    | cons y m ih =>
      intro hx
      rw [List.dropWhile_cons] at hx
      split at hx
      · exact ih okd.2.2 hx
      · rename_i hy
        have hy' : s.2 ≤ y.1 := by simpa using hy
        rcases List.mem_cons.1 hx with rfl | hx
        · exact hy'
        · have := okd.2.1 x hx; have := okd.1.2.1; omega
  have okk : OkL k := by
    have := okd
    rw [hks] at this
    exact (okL_append.1 this).1
  have hkm : ∀ x ∈ k, s.1 < x.2 ∧ x.1 < s.2 := fun x hx => by
    refine ⟨hhi x (by rw [hks]; exact List.mem_append_left _ hx), ?_⟩
    rw [hk] at hx
    exact mem_takeW hx
  obtain ⟨i1, i2, i3⟩ := mt_ok hs okk hkm
  have e : mtL l s = k.map fun x => meetS x s := by unfold mtL; rw [← hn, ← hk]
  rw [e]
  refine ⟨i1, i2, fun o => ?_⟩
  rw [i3]
  have : memL l o ↔ memL (l.take n) o ∨ memL k o ∨ memL ((l.drop n).dropWhile fun x => decide (x.1 < s.2)) o := by
    rw [← memL_append, ← hks, ← memL_append, List.take_append_drop]
  rw [this]
  constructor
  · rintro ⟨g, g2⟩; exact ⟨.inr (.inl g), g2⟩
  · rintro ⟨g | g | g, g2⟩
    · obtain ⟨x, hx, h1⟩ := g
      have := hlo x hx; omega
    · exact ⟨g, g2⟩
    · obtain ⟨x, hx, h1⟩ := g
      have := hup x hx; omega
theorem _root_.Go.Und.gaps_eq {l : List (Int × Int)} (ok : OkL l) (s : Int × Int) : gapsF s (mtL l s) = gapsR l s := by
  by_cases hz : lenS s = 0
  · unfold gapsF gapsR
    rw [if_pos hz, if_pos hz]
  · have hs := lenS_ne hz
    obtain ⟨m1, m2, m3⟩ := mtL_ok ok hs
    obtain ⟨p1, _, p3⟩ := gapsP_ok s.2 hs.2.2 (mtL l s) s.1 hs.1 m1 m2
    obtain ⟨r1, r2⟩ := gapsR_ok hs l ok
    have e : gapsF s (mtL l s) = gapsP s.2 (mtL l s) s.1 := by unfold gapsF; rw [if_neg hz]
    rw [e]
    refine ok_ext p1 r1 fun o => ?_
    rw [p3, r2, m3]
    constructor
    · rintro ⟨g1, g2⟩; exact ⟨g1, fun h => g2 ⟨h, g1⟩⟩
    · rintro ⟨g1, g2⟩; exact ⟨g1, fun h => g2 h.1⟩
theorem _root_.Go.Und.mtL_len (l : List (Int × Int)) (s : Int × Int) : (mtL l s).length ≤ l.length := by
  unfold mtL
  rw [List.length_map]
  exact Nat.le_trans (List.takeWhile_sublist _).length_le (List.drop_sublist _ _).length_le
theorem _root_.Go.Und.gapsP_len (b : Int) : ∀ (m : List (Int × Int)) (a : Int), (gapsP b m a).length ≤ m.length + 1
  | [], a => by unfold gapsP; split <;> simp
  | x :: r, a => by
    have := gapsP_len b r x.2
    unfold gapsP
    simp only [List.length_append, List.length_cons]
    split <;> simp <;> omega
theorem _root_.Go.Und.gapsF_len (s : Int × Int) (m : List (Int × Int)) : (gapsF s m).length ≤ m.length + 1 := by
  unfold gapsF
  split
  · simp
  · exact gapsP_len _ _ _
theorem ops7_of {W : World} {v : Value} {u : U} (h : (Sh.slice shOp7).holds W u [v]) : ∃ (p : Option Addr) (cap : Nat) (l : List (Bool × Int × Int)), v = .slice p l.length cap ∧ l.length ≤ cap ∧ cap ≤ maxLen ∧
    ∀ k x, l[k]? = some x → ∃ b off, p = some ⟨b, off, none⟩ ∧ W.cell? ⟨b, off + k * 3, none⟩ = some (.bool x.1) ∧ W.cell? ⟨b, off + k * 3 + 1, none⟩ = some (.int .i64 x.2.1) ∧ W.cell? ⟨b, off + k * 3 + 2, none⟩ = some (.int .i64 x.2.2) := by
  obtain ⟨p, cap, L, rfl, h1, h2, h3⟩ := elems_of h (by decide)
  obtain ⟨l, hlen, hp⟩ := getElem?_some_of_list (f := fun _ => True) (P := fun k (x : Bool × Int × Int) => ∃ b off, p = some ⟨b, off, none⟩ ∧ W.cell? ⟨b, off + k * 3, none⟩ = some (.bool x.1) ∧ W.cell? ⟨b, off + k * 3 + 1, none⟩ = some (.int .i64 x.2.1) ∧ W.cell? ⟨b, off + k * 3 + 2, none⟩ = some (.int .i64 x.2.2)) L.length (fun k hk => by
    obtain ⟨g1, ⟨u, g2⟩, b, off, rfl, hb, hc⟩ := h3 k L[k] (List.getElem?_eq_getElem hk)
    obtain ⟨z, x, y, e⟩ := op7_of g2
    rw [e] at hc
    exact ⟨(z, x, y), b, off, rfl, (show W.cell? ⟨b, off + (k * 3 + 0), none⟩ = some (.bool z) from hc 0 (by decide)), (show W.cell? ⟨b, off + (k * 3 + 1), none⟩ = some (.int .i64 x) from hc 1 (by decide)), (show W.cell? ⟨b, off + (k * 3 + 2), none⟩ = some (.int .i64 y) from hc 2 (by decide))⟩)
  exact ⟨p, cap, l, by rw [hlen], by omega, h2, hp⟩
theorem spSame_refl (p q : Option Addr) (c d : Nat) (l : List (Int × Int)) (w : World) (hr : Reads w 2 p l.length c (fc spc l)) (hq : Reads w 2 q l.length d (fc spc l)) (hs : l.length ≤ 1000000) :
    Calls Try.prog 27 #[.slice p l.length c, .slice q l.length d] w fun e w' => e = .returned (.bool true) ∧ Fr None w w' := by
  have := spSame_any p q c d l l w hr hq hs hs
  simpa using this
/-- A loop over Gaps. -/
theorem gaps_seq (p : Nat) (q : Option Addr) (cap : Nat) (l : List (Int × Int)) (a b : Int) (ok : OkL l) (hl : l.length ≤ 1000000) (w : World) (c3 : w.cell? ⟨p, 0, none⟩ = some (.slice q l.length cap)) (hr : Reads w 2 q l.length cap (fc spc l)) (W : World) (hW : W = (w.alloc (.cells #[.pointer (at0 p)] RpT)).alloc (.cells #[.int .i64 a, .int .i64 b] SpT)) (n : Nat) :
    SeqY n Try.prog 58 #[.pointer (at0 (w.heap.size + 1)), .pointer (at0 w.heap.size)] encS (fun k => ShR p q l k ∨ k = w.heap.size ∨ k = w.heap.size + 1) (gapsF (a, b) (mtL l (a, b))) W := by
  have hsl := shR_lt c3 hr
  have f : Fr None w W := by rw [hW]; exact ((Fr.refl None w).alloc _).alloc _
  have b1 : Blk W w.heap.size RpT #[.pointer (at0 p)] := by rw [hW]; exact (Blk.new w RpT _).alloc _
  have b2 : Blk W (w.heap.size + 1) SpT #[.int .i64 a, .int .i64 b] := by
    rw [hW]
    have := Blk.new (w.alloc (.cells #[.pointer (at0 p)] RpT)) SpT #[.int .i64 a, .int .i64 b]
    rwa [World.size_alloc] at this
  have hz : W.heap.size = w.heap.size + 2 := by rw [hW]; simp
  refine gaps1_y n w.heap.size (w.heap.size + 1) (at0 p) (mtL l (a, b)) a b _ W (mtk_set p q cap l (a, b) ok W hl _ (fun k h => .inl h) (cell_frN f c3) (hr.fr f (fun _ _ h => h))) b1 b2 (.inr (.inl rfl)) (.inr (.inr rfl)) ?_
  rintro k (h | rfl | rfl)
  · have := hsl k h; omega
  · omega
  · omega
end Go.Proofs.Ytfobeheplficgaa
