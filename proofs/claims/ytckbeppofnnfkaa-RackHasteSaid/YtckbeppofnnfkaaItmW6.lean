/- Looking into a tree, walked. -/
import Derived.Test.YtckbeppofnnfkaaItmW5
namespace Go.Proofs.Ytckbeppofnnfkaa.Itm
open Go.RowKit Go.Und

/-- What is handed back, draws aside. -/
def Gives (w : World) (v : Value) (e : Ending) (w' : World) : Prop := e = .returned v ∧ ∃ n, w' = w.drewN n

set_option maxHeartbeats 400000 in
theorem floor_any (p : Nat) (t : TrV) (key : Int) (w : World) (hp : Blk w p TT #[.pointer t.ptr]) (hin : inW w t) :
    Calls Try.prog 160 #[.pointer (some ⟨p, 0, none⟩), .int .i64 key] w (Gives w (tellV (Tr.floorT key none t))) := by
  have R := Lib.hid (root_any p t w hp)
  have HI := Lib.hid hin
  clear hp hin
  go_enter Try.func160, Try.ntmps160
  go_wp2_with fail
  refine R.out.mono ?_
  rintro e w1 ⟨rfl, rfl⟩
  go_wp2_with fail
  go_loopg [7, 8] (Tr.depth t) (fun k b x wr => ∃ (s bt : TrV) (n : Nat), s.depth ≤ k ∧ wr = w1.drewN n ∧ b = .pointer bt.ptr ∧ x = .pointer s.ptr ∧ inW w1 bt ∧ inW w1 s ∧ Tr.floorT key bt.item s = Tr.floorT key none t)
  case atStart => exact ⟨t, .nil, 0, Nat.le_refl _, rfl, rfl, rfl, trivial, HI.out, rfl⟩
  case round =>
    obtain ⟨s, bt, n, hk, rfl, rfl, rfl, h1, h2, h3⟩ := hrel
    have T := Lib.hid (fun n => told_any bt (w1.drewN n) (h1.drewN n))
    have H1 := Lib.hid h1; have H3 := Lib.hid h3
    clear h1 h3
    cases s with
    | nil =>
      simp only [Tr.ptr_nil]
      clear h2
      go_wp2_with fail
      refine (T.out n).mono ?_
      have e3 : bt.item = Tr.floorT key none t := H3.out
      rw [e3]
      rintro e w2 ⟨rfl, n2, rfl⟩
      cases hq : Tr.floorT key none t with
      | none =>
        simp only [tellV]
        go_wp2_with fail
        go_ret3
        exact ⟨by rw [hq]; rfl, _, rfl⟩
      | some q =>
        simp only [tellV]
        go_wp2_with fail
        go_ret3
        exact ⟨by rw [hq]; rfl, _, rfl⟩
    | node b k v l r h m =>
      have hc := fun n => (h2.drewN n).1.cell
      have H2 := Lib.hid h2; clear h2
      simp only [Tr.ptr_node]
      by_cases g : key < k
      · go_wp2_with fail
        go_roundg (l.depth)
        case measure => simp only [Tr.depth] at hk; omega
        case rel => exact ⟨l, bt, _, Nat.le_refl _, rfl, rfl, rfl, H1.out, H2.out.2.1, by rw [← H3.out]; exact (if_pos g).symm⟩
      · have g' : k ≤ key := by omega
        clear g
        go_wp2_with fail
        go_quiet (fail)
        go_wp2_with fail
        go_roundg (r.depth)
        case measure => simp only [Tr.depth] at hk; omega
        case rel => exact ⟨r, .node b k v l r h m, n + nq, Nat.le_refl _, World.drewN_drewN .., rfl, rfl, H2.out, H2.out.2.2, by rw [← H3.out]; exact (if_neg (by omega)).symm⟩

/-- The pair at a place, if there is one. -/
def atV (i : Int) (t : TrV) : Option (Int × VT) := if i < 0 ∨ t.sz ≤ i then none else Tr.atT i t

set_option maxHeartbeats 400000 in
theorem at_any (p : Nat) (t : TrV) (i : Int) (w : World) (hi : -9223372036854775808 ≤ i) (hp : Blk w p TT #[.pointer t.ptr]) (hin : inW w t) (hR : t.Right) (hs : t.sz ≤ 1000000) :
    Calls Try.prog 97 #[.pointer (some ⟨p, 0, none⟩), .int .i64 i] w (Gives w (tellV (atV i t))) := by
  have R := Lib.hid (root_any p t w hp)
  have S := Lib.hid (size_any t w hin)
  have Z := hR.len
  by_cases g0 : i < 0
  · have T := Lib.hid (told_any .nil w trivial)
    have A := Lib.hid (show atV i t = none by unfold atV; rw [if_pos (.inl g0)])
    clear hp hin
    go_enter Try.func97, Try.ntmps97
    go_wp2_with fail
    refine R.out.mono ?_
    rintro e w1 ⟨rfl, rfl⟩
    go_wp2_with fail
    refine wp_loop_rounds 1 ?_
    rw [rounds_succ]
    go_wp2_with fail
    refine T.out.mono ?_
    rintro e w2 ⟨rfl, n2, rfl⟩
    simp only [Tr.item, tellV]
    go_wp2_with fail
    go_ret3
    exact ⟨by rw [A.out]; rfl, _, rfl⟩
  · by_cases g1 : t.sz ≤ i
    · have T := Lib.hid (told_any .nil w trivial)
      have A := Lib.hid (show atV i t = none by unfold atV; rw [if_pos (.inr g1)])
      clear hp hin
      go_enter Try.func97, Try.ntmps97
      go_wp2_with fail
      refine R.out.mono ?_
      rintro e w1 ⟨rfl, rfl⟩
      go_wp2_with fail
      refine S.out.mono ?_
      rintro e w1 ⟨rfl, rfl⟩
      go_wp2_with fail
      refine wp_loop_rounds 1 ?_
      rw [rounds_succ]
      go_wp2_with fail
      refine T.out.mono ?_
      rintro e w2 ⟨rfl, n2, rfl⟩
      simp only [Tr.item, tellV]
      go_wp2_with fail
      go_ret3
      exact ⟨by rw [A.out]; rfl, _, rfl⟩
    · have A := Lib.hid (show atV i t = Tr.atT i t by unfold atV; rw [if_neg (by omega)])
      have HI := Lib.hid hin
      clear hp hin
      go_enter Try.func97, Try.ntmps97
      go_wp2_with fail
      refine R.out.mono ?_
      rintro e w1 ⟨rfl, rfl⟩
      go_wp2_with fail
      refine S.out.mono ?_
      rintro e w1 ⟨rfl, rfl⟩
      go_wp2_with fail
      go_loopg [1, 7] (Tr.depth t) (fun k c x wr => ∃ (s : TrV) (j : Int), s.depth ≤ k ∧ wr = w1 ∧ c = .int .i64 j ∧ x = .pointer s.ptr ∧ inW w1 s ∧ s.Right ∧ 0 ≤ j ∧ j < s.sz ∧ s.sz ≤ 1000000 ∧ Tr.atT j s = Tr.atT i t)
      case atStart => exact ⟨t, i, Nat.le_refl _, rfl, rfl, rfl, HI.out, hR, by omega, by omega, hs, rfl⟩
      case round =>
        obtain ⟨s, j, hk, rfl, rfl, rfl, h2, h4, h5, h6, h7, h3⟩ := hrel
        cases s with
        | nil => simp only [Tr.sz_nil] at h6; omega
        | node b k v l r h q =>
          have H3 := Lib.hid h3
          have hc := h2.1.cell
          have T := Lib.hid (told_any (.node b k v l r h q) wr h2)
          have SZ := Lib.hid (size_any l wr h2.2.1)
          have H2 := Lib.hid h2; clear h2 h3
          obtain ⟨hl, hr', e1, e2⟩ := h4
          have L := hl.len; have RR := hr'.len
          simp only [Tr.sz_node] at h6 h7
          have b1 : 0 ≤ l.sz ∧ l.sz ≤ 1000000 ∧ r.sz ≤ 1000000 ∧ j < 1 + l.sz + r.sz ∧ j ≤ 1000000 := by omega
          clear e1 e2 L RR
          simp only [Tr.ptr_node] at T ⊢
          by_cases g : j = l.sz
          · have g' : (j == l.sz) = true := by simp [g]
            have g2 : (j != l.sz) = false := by simp [g]
            have G := Lib.hid g; clear g
            go_wp2_with fail
            refine SZ.out.mono ?_
            rintro e w2 ⟨rfl, rfl⟩
            go_wp2_with fail
            refine T.out.mono ?_
            rintro e w2 ⟨rfl, n2, rfl⟩
            simp only [Tr.item, tellV]
            go_wp2_with fail
            go_ret3
            exact ⟨by rw [A.out, ← H3.out]; simp only [Tr.atT]; rw [if_neg (by have := G.out; omega), if_pos G.out]; rfl, _, rfl⟩
          · have g' : (j == l.sz) = false := by simp [g]
            have g2 : (j != l.sz) = true := by simp [g]
            by_cases g3 : j < l.sz
            · have G := Lib.hid g; clear g
              go_wp2_with fail
              refine SZ.out.mono ?_
              rintro e w2 ⟨rfl, rfl⟩
              go_wp2_with fail
              refine SZ.out.mono ?_
              rintro e w2 ⟨rfl, rfl⟩
              go_wp2_with fail
              go_roundg (l.depth)
              case measure => simp only [Tr.depth] at hk; omega
              case rel => exact ⟨l, j, Nat.le_refl _, rfl, rfl, rfl, H2.out.2.1, hl, h5, g3, b1.2.1, by rw [← H3.out]; exact (if_pos g3).symm⟩
            · have G := Lib.hid g; clear g
              have g4 : l.sz < j := by have := G.out; omega
              clear g3
              go_wp2_with fail
              refine SZ.out.mono ?_
              rintro e w2 ⟨rfl, rfl⟩
              go_wp2_with fail
              refine SZ.out.mono ?_
              rintro e w2 ⟨rfl, rfl⟩
              go_wp2_with fail
              refine SZ.out.mono ?_
              rintro e w2 ⟨rfl, rfl⟩
              go_wp2_with fail
              go_roundg (r.depth)
              case measure => simp only [Tr.depth] at hk; omega
              case rel => exact ⟨r, j - (l.sz + 1), Nat.le_refl _, rfl, rfl, rfl, H2.out.2.2, hr', by omega, by omega, b1.2.2.1, by rw [← H3.out]; exact ((if_neg (by omega)).trans (if_neg G.out)).symm⟩

/-- A key's value, out of the pair that is last not above. -/
def getV (key : Int) : Option (Int × VT) → Value
  | some x => if x.1 = key then .tuple #[E x.2, .bool true] else .tuple #[E none, .bool false]
  | none => .tuple #[E none, .bool false]

set_option maxHeartbeats 400000 in
theorem get_any (p : Nat) (t : TrV) (key : Int) (w : World) (hp : Blk w p TT #[.pointer t.ptr]) (hin : inW w t) :
    Calls Try.prog 137 #[.pointer (some ⟨p, 0, none⟩), .int .i64 key] w
      (Gives w (getV key (Tr.floorT key none t))) := by
  have F := Lib.hid (floor_any p t key w hp hin)
  generalize Tr.floorT key none t = r at *
  clear hp hin
  cases r with
  | none =>
    simp only [tellV] at F
    simp only [getV]
    go_enter Try.func137, Try.ntmps137
    go_wp2_with fail
    refine F.out.mono ?_
    rintro e w2 ⟨rfl, n2, rfl⟩
    go_wp2_with fail
    go_ret2
    exact ⟨rfl, _, rfl⟩
  | some x =>
    simp only [tellV] at F
    by_cases g : x.1 = key
    · have g' : (x.1 == key) = true := by simp [g]
      simp only [getV, if_pos g]
      have G := Lib.hid g; clear g
      go_enter Try.func137, Try.ntmps137
      go_wp2_with fail
      refine F.out.mono ?_
      rintro e w2 ⟨rfl, n2, rfl⟩
      go_wp2_with fail
      go_ret2
      exact ⟨rfl, _, rfl⟩
    · have g' : (x.1 == key) = false := by simp [g]
      simp only [getV, if_neg g]
      have G := Lib.hid g; clear g
      go_enter Try.func137, Try.ntmps137
      go_wp2_with fail
      refine F.out.mono ?_
      rintro e w2 ⟨rfl, n2, rfl⟩
      go_wp2_with fail
      go_ret2
      exact ⟨rfl, _, rfl⟩

end Go.Proofs.Ytckbeppofnnfkaa.Itm
