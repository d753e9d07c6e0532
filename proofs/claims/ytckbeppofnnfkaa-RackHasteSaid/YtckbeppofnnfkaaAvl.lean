/- Balanced trees as the program keeps them, and what is done to them: plain, no program in sight. -/
import Init
namespace Go.Und

/-- A tree whose nodes lie in blocks of memory: block, key, value, left, right, the height and the size that the node tells. -/
inductive Tr (α : Type) where
  | nil
  | node (b : Nat) (k : Int) (v : α) (l r : Tr α) (h n : Int)

namespace Tr
variable {α : Type}

def ht : Tr α → Int | nil => 0 | node _ _ _ _ _ h _ => h
def sz : Tr α → Int | nil => 0 | node _ _ _ _ _ _ n => n
def blocks : Tr α → List Nat | nil => [] | node b _ _ l r _ _ => b :: (l.blocks ++ r.blocks)
def items : Tr α → List (Int × α) | nil => [] | node _ k v l r _ _ => l.items ++ (k, v) :: r.items
def isNode : Tr α → Bool | nil => false | node .. => true

/-- A node that tells its height and size rightly. -/
def mk (b : Nat) (k : Int) (v : α) (l r : Tr α) : Tr α := .node b k v l r (1 + max l.ht r.ht) (1 + l.sz + r.sz)
def tell : Tr α → Tr α | nil => nil | node b k v l r _ _ => mk b k v l r
def lean : Tr α → Int | nil => 0 | node _ _ _ l r _ _ => l.ht - r.ht

def toRight : Tr α → Tr α
  | node b k v (node b' k' v' l' r' _ _) r _ _ => mk b' k' v' l' (mk b k v r' r)
  | t => t
def toLeft : Tr α → Tr α
  | node b k v l (node b' k' v' l' r' _ _) _ _ => mk b' k' v' (mk b k v l l') r'
  | t => t

def even : Tr α → Tr α
  | nil => nil
  | node b k v l r h n =>
    if l.ht - r.ht > 1 then
      if l.lean < 0 then toRight (node b k v l.toLeft r (1 + max l.ht r.ht) (1 + l.sz + r.sz)) else toRight (mk b k v l r)
    else if l.ht - r.ht < -1 then
      if r.lean > 0 then toLeft (node b k v l r.toRight (1 + max l.ht r.ht) (1 + l.sz + r.sz)) else toLeft (mk b k v l r)
    else mk b k v l r

/-- 'f': the block that a new node would get. -/
def put (f : Nat) (key : Int) (v : α) : Tr α → Tr α × Bool
  | nil => (node f key v nil nil 1 1, true)
  | node b k u l r h n =>
    if key < k then (even (node b k u (put f key v l).1 r h n), (put f key v l).2)
    else if key > k then (even (node b k u l (put f key v r).1 h n), (put f key v r).2)
    else (even (node b k v l r h n), false)

/-- The least node (block, key, value), and the tree without it. -/
def least : Tr α → Option ((Nat × Int × α) × Tr α)
  | nil => none
  | node b k v nil r _ _ => some ((b, k, v), r)
  | node b k v l r h n => (least l).map fun x => (x.1, even (node b k v x.2 r h n))

def cut (key : Int) : Tr α → Tr α × Bool
  | nil => (nil, false)
  | node b k u l r h n =>
    if key < k then (even (node b k u (cut key l).1 r h n), (cut key l).2)
    else if key > k then (even (node b k u l (cut key r).1 h n), (cut key r).2)
    else match l, r with
      | nil, r => (r, true)
      | l, nil => (l, true)
      | l, r => match least r with
        | some ((b', k', v'), rest) => (even (node b' k' v' l rest 0 0), true)
        | none => (nil, true)

/-! ### What a tree tells -/
def Right : Tr α → Prop
  | nil => True
  | node _ _ _ l r h n => l.Right ∧ r.Right ∧ h = 1 + max l.ht r.ht ∧ n = 1 + l.sz + r.sz
def Bal : Tr α → Prop
  | nil => True
  | node _ _ _ l r _ _ => l.Bal ∧ r.Bal ∧ l.ht - r.ht ≤ 1 ∧ r.ht - l.ht ≤ 1
/-- Keys rise, and lie between. -/
def Ord : Tr α → Prop
  | nil => True
  | node _ k _ l r _ _ => l.Ord ∧ r.Ord ∧ (∀ x ∈ l.items, x.1 < k) ∧ (∀ x ∈ r.items, k < x.1)

theorem mk_right {b : Nat} {k : Int} {v : α} {l r : Tr α} (hl : l.Right) (hr : r.Right) : (mk b k v l r).Right := ⟨hl, hr, rfl, rfl⟩

theorem Right.len {t : Tr α} (h : t.Right) : t.sz = t.items.length ∧ 0 ≤ t.ht ∧ t.ht ≤ t.sz ∧ (t.sz = 0 ↔ t = nil) ∧ (t.ht = 0 ↔ t = nil) := by
  induction t with
  | nil => simp [sz, items, ht]
  | node b k v l r h n ihl ihr =>
    obtain ⟨hl, hr, e1, e2⟩ := h
    obtain ⟨a1, a2, a3, _⟩ := ihl hl
    obtain ⟨b1, b2, b3, _⟩ := ihr hr
    simp only [sz, ht, items, List.length_append, List.length_cons]
    simp
    omega

@[simp] theorem ht_mk (b : Nat) (k : Int) (v : α) (l r : Tr α) : (mk b k v l r).ht = 1 + max l.ht r.ht := rfl
@[simp] theorem sz_mk (b : Nat) (k : Int) (v : α) (l r : Tr α) : (mk b k v l r).sz = 1 + l.sz + r.sz := rfl
@[simp] theorem items_mk (b : Nat) (k : Int) (v : α) (l r : Tr α) : (mk b k v l r).items = l.items ++ (k, v) :: r.items := rfl
@[simp] theorem blocks_mk (b : Nat) (k : Int) (v : α) (l r : Tr α) : (mk b k v l r).blocks = b :: (l.blocks ++ r.blocks) := rfl

theorem items_toRight (t : Tr α) : t.toRight.items = t.items := by
  unfold toRight; split <;> simp [items]
theorem items_toLeft (t : Tr α) : t.toLeft.items = t.items := by
  unfold toLeft; split <;> simp [items]
theorem blocks_toRight (t : Tr α) : t.toRight.blocks.Perm t.blocks := by
  unfold toRight
  split
  · rename_i b k v b' k' v' l' r' h' n' r h n
    simp only [blocks, blocks_mk, List.cons_append, List.append_assoc]
    refine (List.perm_middle (l₁ := b' :: l'.blocks)).trans ?_
    simp
  · exact List.Perm.refl _
theorem blocks_toLeft (t : Tr α) : t.toLeft.blocks.Perm t.blocks := by
  unfold toLeft
  split
  · rename_i b k v l b' k' v' l' r' h' n' h n
    simp only [blocks, blocks_mk, List.cons_append, List.append_assoc]
    refine List.Perm.trans (List.Perm.swap _ _ _) ?_
    refine List.Perm.cons _ ?_
    exact (List.perm_middle (l₁ := l.blocks)).symm
  · exact List.Perm.refl _

theorem items_even (b : Nat) (k : Int) (v : α) (l r : Tr α) (h n : Int) : (even (node b k v l r h n)).items = l.items ++ (k, v) :: r.items := by
  simp only [even]
  split
  · split <;> rw [items_toRight] <;> simp [items, items_toLeft]
  · split
    · split <;> rw [items_toLeft] <;> simp [items, items_toRight]
    · rfl
theorem blocks_even (b : Nat) (k : Int) (v : α) (l r : Tr α) (h n : Int) : (even (node b k v l r h n)).blocks.Perm (b :: (l.blocks ++ r.blocks)) := by
  simp only [even]
  split
  · split
    · exact (blocks_toRight _).trans (List.Perm.cons _ (List.Perm.append_right _ (blocks_toLeft _)))
    · exact (blocks_toRight _)
  · split
    · split
      · exact (blocks_toLeft _).trans (List.Perm.cons _ (List.Perm.append_left _ (blocks_toRight _)))
      · exact (blocks_toLeft _)
    · exact List.Perm.refl _

theorem toRight_right {t : Tr α} (h : t.Right) : t.toRight.Right := by
  unfold toRight
  split
  · obtain ⟨⟨a, b, _⟩, c, _⟩ := h
    exact mk_right a (mk_right b c)
  · exact h
theorem toLeft_right {t : Tr α} (h : t.Right) : t.toLeft.Right := by
  unfold toLeft
  split
  · obtain ⟨c, ⟨a, b, _⟩, _⟩ := h
    exact mk_right (mk_right c a) b
  · exact h
theorem toRight_right' {b : Nat} {k : Int} {v : α} {l r : Tr α} {h n : Int} (hl : l.Right) (hr : r.Right) (hn : l.isNode = true) : (toRight (node b k v l r h n)).Right := by
  cases l with
  | nil => cases hn
  | node b' k' v' l' r' h' n' => exact mk_right hl.1 (mk_right hl.2.1 hr)
theorem toLeft_right' {b : Nat} {k : Int} {v : α} {l r : Tr α} {h n : Int} (hl : l.Right) (hr : r.Right) (hn : r.isNode = true) : (toLeft (node b k v l r h n)).Right := by
  cases r with
  | nil => cases hn
  | node b' k' v' l' r' h' n' => exact mk_right (mk_right hl hr.1) hr.2.1
theorem isNode_of_ht {t : Tr α} (h : 0 < t.ht) : t.isNode = true := by
  cases t with
  | nil => simp [ht] at h
  | node => rfl
theorem isNode_toLeft {t : Tr α} (h : t.isNode = true) : t.toLeft.isNode = true := by
  unfold toLeft; split
  · rfl
  · exact h
theorem isNode_toRight {t : Tr α} (h : t.isNode = true) : t.toRight.isNode = true := by
  unfold toRight; split
  · rfl
  · exact h

theorem even_right (b : Nat) (k : Int) (v : α) {l r : Tr α} (h n : Int) (hl : l.Right) (hr : r.Right) : (even (node b k v l r h n)).Right := by
  have L := hl.len; have R := hr.len
  simp only [even]
  split
  · have hn : l.isNode = true := isNode_of_ht (by omega)
    split
    · exact toRight_right' (toLeft_right hl) hr (isNode_toLeft hn)
    · exact toRight_right' hl hr hn
  · split
    · have hn : r.isNode = true := isNode_of_ht (by omega)
      split
      · exact toLeft_right' hl (toRight_right hr) (isNode_toRight hn)
      · exact toLeft_right' hl hr hn
    · exact mk_right hl hr

@[simp] theorem ht_nil : (nil : Tr α).ht = 0 := rfl
@[simp] theorem ht_node (b : Nat) (k : Int) (v : α) (l r : Tr α) (h n : Int) : (node b k v l r h n).ht = h := rfl
@[simp] theorem sz_nil : (nil : Tr α).sz = 0 := rfl
@[simp] theorem sz_node (b : Nat) (k : Int) (v : α) (l r : Tr α) (h n : Int) : (node b k v l r h n).sz = n := rfl
@[simp] theorem items_nil : (nil : Tr α).items = [] := rfl
@[simp] theorem items_node (b : Nat) (k : Int) (v : α) (l r : Tr α) (h n : Int) : (node b k v l r h n).items = l.items ++ (k, v) :: r.items := rfl
@[simp] theorem blocks_nil : (nil : Tr α).blocks = [] := rfl
@[simp] theorem blocks_node (b : Nat) (k : Int) (v : α) (l r : Tr α) (h n : Int) : (node b k v l r h n).blocks = b :: (l.blocks ++ r.blocks) := rfl
theorem lean_node (b : Nat) (k : Int) (v : α) (l r : Tr α) (h n : Int) : (node b k v l r h n).lean = l.ht - r.ht := rfl
theorem toRight_node (b b' : Nat) (k k' : Int) (v v' : α) (l' r' r : Tr α) (h n h' n' : Int) : toRight (node b k v (node b' k' v' l' r' h' n') r h n) = mk b' k' v' l' (mk b k v r' r) := rfl
theorem toLeft_node (b b' : Nat) (k k' : Int) (v v' : α) (l l' r' : Tr α) (h n h' n' : Int) : toLeft (node b k v l (node b' k' v' l' r' h' n') h n) = mk b' k' v' (mk b k v l l') r' := rfl
theorem bal_mk (b : Nat) (k : Int) (v : α) (l r : Tr α) : (mk b k v l r).Bal ↔ l.Bal ∧ r.Bal ∧ l.ht - r.ht ≤ 1 ∧ r.ht - l.ht ≤ 1 := Iff.rfl

/-- What 'even' makes of two balanced trees whose heights are at most two apart. -/
theorem even_bal {b : Nat} {k : Int} {v : α} {l r : Tr α} {h n : Int} (hl : l.Right) (hr : r.Right) (bl : l.Bal) (br : r.Bal) (d1 : l.ht - r.ht ≤ 2) (d2 : r.ht - l.ht ≤ 2) :
    (even (node b k v l r h n)).Bal ∧ max l.ht r.ht ≤ (even (node b k v l r h n)).ht ∧ (even (node b k v l r h n)).ht ≤ 1 + max l.ht r.ht ∧
    (l.ht - r.ht ≤ 1 → r.ht - l.ht ≤ 1 → (even (node b k v l r h n)).ht = 1 + max l.ht r.ht) := by
  simp only [even]
  by_cases g1 : l.ht - r.ht > 1
  · rw [if_pos g1]
    cases l with
    | nil => exfalso; have := hr.len; simp only [ht_nil] at *; omega
    | node b1 k1 v1 l1 r1 h1 n1 =>
      obtain ⟨hl1, hr1, e1, _⟩ := hl
      obtain ⟨bl1, br1, c1, c2⟩ := bl
      have L1 := hl1.len; have R1 := hr1.len; have R := hr.len
      rw [lean_node]
      simp only [ht_node] at *
      by_cases g2 : l1.ht - r1.ht < 0
      · rw [if_pos g2]
        cases r1 with
        | nil => exfalso; simp only [ht_nil] at *; omega
        | node b2 k2 v2 l2 r2 h2 n2 =>
          obtain ⟨hl2, hr2, e2, _⟩ := hr1
          obtain ⟨bl2, br2, c3, c4⟩ := br1
          have L2 := hl2.len; have R2 := hr2.len
          rw [toLeft_node]
          unfold mk
          rw [toRight_node]
          simp only [bal_mk, ht_mk, ht_node] at *
          refine ⟨⟨⟨?_, ?_, ?_, ?_⟩, ⟨?_, ?_, ?_, ?_⟩, ?_, ?_⟩, ?_, ?_, ?_⟩ <;> first | assumption | omega
      · rw [if_neg g2]
        unfold mk
        rw [toRight_node]
        simp only [bal_mk, ht_mk] at *
        refine ⟨⟨?_, ⟨?_, ?_, ?_, ?_⟩, ?_, ?_⟩, ?_, ?_, ?_⟩ <;> first | assumption | omega
  · rw [if_neg g1]
    by_cases g3 : l.ht - r.ht < -1
    · rw [if_pos g3]
      cases r with
      | nil => exfalso; have := hl.len; simp only [ht_nil] at *; omega
      | node b1 k1 v1 l1 r1 h1 n1 =>
        obtain ⟨hl1, hr1, e1, _⟩ := hr
        obtain ⟨bl1, br1, c1, c2⟩ := br
        have L1 := hl1.len; have R1 := hr1.len; have L := hl.len
        rw [lean_node]
        simp only [ht_node] at *
        by_cases g2 : l1.ht - r1.ht > 0
        · rw [if_pos g2]
          cases l1 with
          | nil => exfalso; simp only [ht_nil] at *; omega
          | node b2 k2 v2 l2 r2 h2 n2 =>
            obtain ⟨hl2, hr2, e2, _⟩ := hl1
            obtain ⟨bl2, br2, c3, c4⟩ := bl1
            have L2 := hl2.len; have R2 := hr2.len
            rw [toRight_node]
            unfold mk
            rw [toLeft_node]
            simp only [bal_mk, ht_mk, ht_node] at *
            refine ⟨⟨⟨?_, ?_, ?_, ?_⟩, ⟨?_, ?_, ?_, ?_⟩, ?_, ?_⟩, ?_, ?_, ?_⟩ <;> first | assumption | omega
        · rw [if_neg g2]
          unfold mk
          rw [toLeft_node]
          simp only [bal_mk, ht_mk] at *
          refine ⟨⟨⟨?_, ?_, ?_, ?_⟩, ?_, ?_, ?_⟩, ?_, ?_, ?_⟩ <;> first | assumption | omega
    · rw [if_neg g3]
      rw [bal_mk, ht_mk]
      refine ⟨⟨bl, br, ?_, ?_⟩, ?_, ?_, ?_⟩ <;> omega

theorem put_right (f : Nat) (key : Int) (v : α) : ∀ {t : Tr α}, t.Right → (put f key v t).1.Right
  | nil, _ => ⟨trivial, trivial, rfl, rfl⟩
  | node b k u l r h n, ht => by
    obtain ⟨hl, hr, _⟩ := ht
    simp only [put]
    split
    · exact even_right b k u h n (put_right f key v hl) hr
    · split
      · exact even_right b k u h n hl (put_right f key v hr)
      · exact even_right b k v h n hl hr

theorem put_bal (f : Nat) (key : Int) (v : α) : ∀ {t : Tr α}, t.Right → t.Bal → (put f key v t).1.Bal ∧ t.ht ≤ (put f key v t).1.ht ∧ (put f key v t).1.ht ≤ t.ht + 1
  | nil, _, _ => by simp [put, Bal, ht]
  | node b k u l r h n, hR, hB => by
    obtain ⟨hl, hr, e, _⟩ := hR
    obtain ⟨bl, br, c1, c2⟩ := hB
    have L := put_bal f key v hl bl
    have R := put_bal f key v hr br
    simp only [put]
    split
    · have := even_bal (b := b) (k := k) (v := u) (h := h) (n := n) (put_right f key v hl) hr L.1 br (by omega) (by omega)
      refine ⟨this.1, ?_⟩
      simp only [ht_nil, ht_node] at *
      by_cases g : (put f key v l).1.ht - r.ht ≤ 1
      · have := this.2.2.2 g (by omega); omega
      · omega
    · split
      · have := even_bal (b := b) (k := k) (v := u) (h := h) (n := n) hl (put_right f key v hr) bl R.1 (by omega) (by omega)
        refine ⟨this.1, ?_⟩
        simp only [ht_nil, ht_node] at *
        by_cases g : (put f key v r).1.ht - l.ht ≤ 1
        · have := this.2.2.2 (by omega) g; omega
        · omega
      · have := even_bal (b := b) (k := k) (v := v) (h := h) (n := n) hl hr bl br (by omega) (by omega)
        refine ⟨this.1, ?_⟩
        simp only [ht_nil, ht_node] at *
        have := this.2.2.2 c1 c2; omega

theorem least_some {t : Tr α} (h : t.isNode = true) : ∃ x, least t = some x := by
  induction t with
  | nil => cases h
  | node b k v l r h n ihl _ =>
    cases l with
    | nil => exact ⟨_, rfl⟩
    | node b1 k1 v1 l1 r1 h1 n1 =>
      obtain ⟨x, hx⟩ := ihl rfl
      exact ⟨_, by rw [least]; · rw [hx]; rfl
                   · intro h; cases h⟩

theorem least_step {b : Nat} {k : Int} {v : α} {l r : Tr α} {h n : Int} (hn : l.isNode = true) {x : (Nat × Int × α) × Tr α} (hx : least l = some x) :
    least (node b k v l r h n) = some (x.1, even (node b k v x.2 r h n)) := by
  rw [least]
  · rw [hx]; rfl
  · intro h; subst h; cases hn

theorem least_items {t : Tr α} {x : (Nat × Int × α) × Tr α} (h : least t = some x) : t.items = (x.1.2.1, x.1.2.2) :: x.2.items ∧ t.blocks.Perm (x.1.1 :: x.2.blocks) := by
  induction t generalizing x with
  | nil => cases h
  | node b k v l r hh n ihl _ =>
    by_cases hn : l.isNode = true
    · obtain ⟨y, hy⟩ := least_some hn
      rw [least_step hn hy] at h
      cases h
      obtain ⟨i1, i2⟩ := ihl hy
      refine ⟨by rw [items_even]; simp [items, i1], ?_⟩
      simp only [blocks]
      refine List.Perm.trans ?_ (List.Perm.cons _ (blocks_even _ _ _ _ _ _ _).symm)
      refine List.Perm.trans (List.Perm.cons _ (List.Perm.append_right _ i2)) ?_
      exact List.Perm.swap _ _ _
    · cases l with
      | nil => cases h; exact ⟨rfl, List.Perm.refl _⟩
      | node => exact absurd rfl hn

theorem least_right {t : Tr α} {x : (Nat × Int × α) × Tr α} (h : least t = some x) (hR : t.Right) : x.2.Right := by
  induction t generalizing x with
  | nil => cases h
  | node b k v l r hh n ihl _ =>
    obtain ⟨hl, hr, _⟩ := hR
    by_cases hn : l.isNode = true
    · obtain ⟨y, hy⟩ := least_some hn
      rw [least_step hn hy] at h
      cases h
      exact even_right b k v hh n (ihl hy hl) hr
    · cases l with
      | nil => cases h; exact hr
      | node => exact absurd rfl hn

theorem least_bal {t : Tr α} {x : (Nat × Int × α) × Tr α} (h : least t = some x) (hR : t.Right) (hB : t.Bal) : x.2.Bal ∧ x.2.ht ≤ t.ht ∧ t.ht ≤ x.2.ht + 1 := by
  induction t generalizing x with
  | nil => cases h
  | node b k v l r hh n ihl _ =>
    obtain ⟨hl, hr, e, _⟩ := hR
    obtain ⟨bl, br, c1, c2⟩ := hB
    by_cases hn : l.isNode = true
    · obtain ⟨y, hy⟩ := least_some hn
      rw [least_step hn hy] at h
      cases h
      obtain ⟨i1, i2, i3⟩ := ihl hy hl bl
      have := even_bal (b := b) (k := k) (v := v) (h := hh) (n := n) (least_right hy hl) hr i1 br (by omega) (by omega)
      refine ⟨this.1, ?_⟩
      simp only [ht_nil, ht_node] at *
      by_cases g : r.ht - y.2.ht ≤ 1
      · have := this.2.2.2 (by omega) g; omega
      · omega
    · cases l with
      | nil => cases h; simp only [ht_nil, ht_node] at *; have := hr.len; exact ⟨br, by omega, by omega⟩
      | node => exact absurd rfl hn

theorem cut_node_eq {key : Int} {b : Nat} {u : α} {l r : Tr α} {h n : Int} (hl : l.isNode = true) (hr : r.isNode = true) {x : (Nat × Int × α) × Tr α} (hx : least r = some x) :
    cut key (node b key u l r h n) = (even (node x.1.1 x.1.2.1 x.1.2.2 l x.2 0 0), true) := by
  cases l with
  | nil => cases hl
  | node =>
    cases r with
    | nil => cases hr
    | node => simp only [cut]; rw [if_neg (by omega), if_neg (by omega), hx]
theorem cut_nil_left {key : Int} {b : Nat} {u : α} {r : Tr α} {h n : Int} : cut key (node b key u nil r h n) = (r, true) := by
  simp only [cut]; rw [if_neg (by omega), if_neg (by omega)]
theorem cut_nil_right {key : Int} {b : Nat} {u : α} {l : Tr α} {h n : Int} : cut key (node b key u l nil h n) = (l, true) := by
  cases l <;> (simp only [cut]; rw [if_neg (by omega), if_neg (by omega)])

theorem cut_right (key : Int) : ∀ {t : Tr α}, t.Right → (cut key t).1.Right
  | nil, _ => trivial
  | node b k u l r h n, hR => by
    obtain ⟨hl, hr, e⟩ := hR
    by_cases g1 : key < k
    · simp only [cut]; rw [if_pos g1]; exact even_right b k u h n (cut_right key hl) hr
    · by_cases g2 : key > k
      · simp only [cut]; rw [if_neg g1, if_pos g2]; exact even_right b k u h n hl (cut_right key hr)
      · obtain rfl : key = k := by omega
        by_cases hln : l.isNode = true
        · by_cases hrn : r.isNode = true
          · obtain ⟨x, hx⟩ := least_some hrn
            rw [cut_node_eq hln hrn hx]
            exact even_right _ _ _ 0 0 hl (least_right hx hr)
          · cases r with
            | nil => rw [cut_nil_right]; exact hl
            | node => exact absurd rfl hrn
        · cases l with
          | nil => rw [cut_nil_left]; exact hr
          | node => exact absurd rfl hln

theorem cut_bal (key : Int) : ∀ {t : Tr α}, t.Right → t.Bal → (cut key t).1.Bal ∧ (cut key t).1.ht ≤ t.ht ∧ t.ht ≤ (cut key t).1.ht + 1
  | nil, _, _ => by simp [cut, Bal, ht]
  | node b k u l r h n, hR, hB => by
    obtain ⟨hl, hr, e, _⟩ := hR
    obtain ⟨bl, br, c1, c2⟩ := hB
    have L := cut_bal key hl bl
    have R := cut_bal key hr br
    by_cases g1 : key < k
    · simp only [cut]; rw [if_pos g1]
      have := even_bal (b := b) (k := k) (v := u) (h := h) (n := n) (cut_right key hl) hr L.1 br (by omega) (by omega)
      refine ⟨this.1, ?_⟩
      simp only [ht_nil, ht_node] at *
      by_cases g : r.ht - (cut key l).1.ht ≤ 1
      · have := this.2.2.2 (by omega) g; omega
      · omega
    · by_cases g2 : key > k
      · simp only [cut]; rw [if_neg g1, if_pos g2]
        have := even_bal (b := b) (k := k) (v := u) (h := h) (n := n) hl (cut_right key hr) bl R.1 (by omega) (by omega)
        refine ⟨this.1, ?_⟩
        simp only [ht_nil, ht_node] at *
        by_cases g : l.ht - (cut key r).1.ht ≤ 1
        · have := this.2.2.2 g (by omega); omega
        · omega
      · obtain rfl : key = k := by omega
        by_cases hln : l.isNode = true
        · by_cases hrn : r.isNode = true
          · obtain ⟨x, hx⟩ := least_some hrn
            rw [cut_node_eq hln hrn hx]
            obtain ⟨i1, i2, i3⟩ := least_bal hx hr br
            have := even_bal (b := x.1.1) (k := x.1.2.1) (v := x.1.2.2) (h := 0) (n := 0) hl (least_right hx hr) bl i1 (by omega) (by omega)
            refine ⟨this.1, ?_⟩
            simp only [ht_nil, ht_node] at *
            by_cases g : l.ht - x.2.ht ≤ 1
            · have := this.2.2.2 g (by omega); omega
            · omega
          · cases r with
            | nil => rw [cut_nil_right]; simp only [ht_nil, ht_node] at *; have := hl.len; exact ⟨bl, by omega, by omega⟩
            | node => exact absurd rfl hrn
        · cases l with
          | nil => rw [cut_nil_left]; simp only [ht_nil, ht_node] at *; have := hr.len; exact ⟨br, by omega, by omega⟩
          | node => exact absurd rfl hln
end Tr
end Go.Und
