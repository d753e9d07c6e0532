/- What a balanced tree holds: a list of pairs, rising; plain, no program in sight. -/
import Derived.Test.YtckbeppofnnfkaaAvl
namespace Go.Und
namespace Tr
variable {α : Type}

/-- Pairs, rising by their keys. -/
def Rise (l : List (Int × α)) : Prop := l.Pairwise fun a b => a.1 < b.1

def putL (key : Int) (v : α) : List (Int × α) → List (Int × α)
  | [] => [(key, v)]
  | x :: r => if key < x.1 then (key, v) :: x :: r else if key > x.1 then x :: putL key v r else (key, v) :: r
def hasL (key : Int) (l : List (Int × α)) : Bool := l.any fun x => x.1 == key
def delL (key : Int) (l : List (Int × α)) : List (Int × α) := l.filter fun x => x.1 != key

theorem rise_mid {l r : List (Int × α)} {x : Int × α} (h : Rise (l ++ x :: r)) : Rise l ∧ Rise r ∧ (∀ y ∈ l, y.1 < x.1) ∧ (∀ y ∈ r, x.1 < y.1) ∧ (∀ y ∈ l, ∀ z ∈ r, y.1 < z.1) := by
  unfold Rise at *
  obtain ⟨h1, h2, h3⟩ := List.pairwise_append.1 h
  obtain ⟨h4, h5⟩ := List.pairwise_cons.1 h2
  exact ⟨h1, h5, fun y hy => h3 y hy x (by simp), h4, fun y hy z hz => h3 y hy z (by simp [hz])⟩

theorem putL_left {key : Int} {v : α} {x : Int × α} {r : List (Int × α)} (h : key < x.1) : ∀ l : List (Int × α), putL key v (l ++ x :: r) = putL key v l ++ x :: r
  | [] => by simp [putL, h]
  | y :: l => by
    simp only [List.cons_append, putL, putL_left h l]
    split
    · rfl
    · split <;> rfl
theorem putL_right {key : Int} {v : α} {x : Int × α} {r : List (Int × α)} (h : key > x.1) : ∀ l : List (Int × α), (∀ y ∈ l, y.1 < x.1) → putL key v (l ++ x :: r) = l ++ x :: putL key v r
  | [], _ => by simp only [List.nil_append, putL]; rw [if_neg (by omega), if_pos h]
  | y :: l, hl => by
    have hy := hl y (by simp)
    simp only [List.cons_append, putL]
    rw [if_neg (by omega), if_pos (by omega), putL_right h l (fun z hz => hl z (by simp [hz]))]
theorem putL_same {v : α} {x : Int × α} {r : List (Int × α)} : ∀ l : List (Int × α), (∀ y ∈ l, y.1 < x.1) → putL x.1 v (l ++ x :: r) = l ++ (x.1, v) :: r
  | [], _ => by simp only [List.nil_append, putL]; rw [if_neg (by omega), if_neg (by omega)]
  | y :: l, hl => by
    have hy := hl y (by simp)
    simp only [List.cons_append, putL]
    rw [if_neg (by omega), if_pos (by omega), putL_same l (fun z hz => hl z (by simp [hz]))]

theorem mem_putL {key : Int} {v : α} {z : Int × α} : ∀ {l : List (Int × α)}, z ∈ putL key v l → z.1 = key ∨ z ∈ l
  | [], h => by simp [putL] at h; exact .inl (by rw [h])
  | x :: r, h => by
    simp only [putL] at h
    split at h
    · rcases List.mem_cons.1 h with rfl | h; exact .inl rfl; exact .inr h
    · split at h
      · rcases List.mem_cons.1 h with rfl | h
        · exact .inr (by simp)
        · rcases mem_putL h with h | h; exact .inl h; exact .inr (by simp [h])
      · rcases List.mem_cons.1 h with rfl | h; exact .inl rfl; exact .inr (by simp [h])

theorem rise_putL {key : Int} {v : α} : ∀ {l : List (Int × α)}, Rise l → Rise (putL key v l)
  | [], _ => by simp [putL, Rise]
  | x :: r, h => by
    obtain ⟨h1, h2⟩ := List.pairwise_cons.1 h
    simp only [putL]
    split
    · rename_i g
      refine List.pairwise_cons.2 ⟨fun y hy => ?_, h⟩
      rcases List.mem_cons.1 hy with rfl | hy
      · exact g
      · have := h1 y hy; simp only; omega
    · split
      · rename_i g
        refine List.pairwise_cons.2 ⟨fun y hy => ?_, rise_putL h2⟩
        rcases mem_putL hy with hy | hy
        · omega
        · exact h1 y hy
      · rename_i g1 g2
        refine List.pairwise_cons.2 ⟨fun y hy => ?_, h2⟩
        have := h1 y hy; simp only; omega

theorem rise_delL {key : Int} {l : List (Int × α)} (h : Rise l) : Rise (delL key l) := List.Pairwise.filter _ h

theorem delL_of_ne {key : Int} {l : List (Int × α)} (h : ∀ y ∈ l, y.1 ≠ key) : delL key l = l := by
  unfold delL; rw [List.filter_eq_self]; intro y hy; simpa using h y hy
theorem hasL_false {key : Int} {l : List (Int × α)} (h : ∀ y ∈ l, y.1 ≠ key) : hasL key l = false := by
  unfold hasL; rw [List.any_eq_false]; intro y hy; simpa using h y hy
theorem hasL_append (key : Int) (l r : List (Int × α)) : hasL key (l ++ r) = (hasL key l || hasL key r) := by simp [hasL]
theorem hasL_cons (key : Int) (x : Int × α) (r : List (Int × α)) : hasL key (x :: r) = (x.1 == key || hasL key r) := by simp [hasL]
theorem delL_append (key : Int) (l r : List (Int × α)) : delL key (l ++ r) = delL key l ++ delL key r := by simp [delL]
theorem delL_cons_ne {key : Int} {x : Int × α} (h : x.1 ≠ key) (r : List (Int × α)) : delL key (x :: r) = x :: delL key r := by simp [delL, h]
theorem delL_cons_eq {key : Int} {x : Int × α} (h : x.1 = key) (r : List (Int × α)) : delL key (x :: r) = delL key r := by simp [delL, h]

theorem put_spec (f : Nat) (key : Int) (v : α) : ∀ {t : Tr α}, Rise t.items → (put f key v t).1.items = putL key v t.items ∧ (put f key v t).2 = !(hasL key t.items)
  | nil, _ => by simp [put, putL, hasL]
  | node b k u l r h n, hR => by
    rw [items_node] at hR
    obtain ⟨hl, hr, h1, h2, h3⟩ := rise_mid hR
    obtain ⟨L1, L2⟩ := put_spec f key v hl
    obtain ⟨R1, R2⟩ := put_spec f key v hr
    by_cases g1 : key < k
    · have e : put f key v (node b k u l r h n) = (even (node b k u (put f key v l).1 r h n), (put f key v l).2) := by simp only [put]; rw [if_pos g1]
      rw [e]
      refine ⟨by rw [items_even, items_node, putL_left g1, L1], ?_⟩
      simp only at *
      rw [L2, items_node, hasL_append, hasL_cons, hasL_false (l := r.items) (fun y hy => by have := h2 y hy; (try simp only at this); omega), show (k == key) = false from by simp; omega]
      simp
    · by_cases g2 : key > k
      · have e : put f key v (node b k u l r h n) = (even (node b k u l (put f key v r).1 h n), (put f key v r).2) := by simp only [put]; rw [if_neg g1, if_pos g2]
        rw [e]
        refine ⟨by rw [items_even, items_node, putL_right g2 _ h1, R1], ?_⟩
        simp only at *
        rw [R2, items_node, hasL_append, hasL_cons, hasL_false (l := l.items) (fun y hy => by have := h1 y hy; (try simp only at this); omega), show (k == key) = false from by simp; omega]
        simp
      · obtain rfl : key = k := by omega
        have e : put f key v (node b key u l r h n) = (even (node b key v l r h n), false) := by simp only [put]; rw [if_neg g1, if_neg g2]
        rw [e]
        refine ⟨by rw [items_even, items_node]; exact (putL_same (x := (key, u)) _ h1).symm, ?_⟩
        rw [items_node, hasL_append, hasL_cons]; simp

theorem cut_spec (key : Int) : ∀ {t : Tr α}, Rise t.items → (cut key t).1.items = delL key t.items ∧ (cut key t).2 = hasL key t.items
  | nil, _ => by simp [cut, delL, hasL]
  | node b k u l r h n, hR => by
    rw [items_node] at hR
    obtain ⟨hl, hr, h1, h2, h3⟩ := rise_mid hR
    obtain ⟨L1, L2⟩ := cut_spec key hl
    obtain ⟨R1, R2⟩ := cut_spec key hr
    by_cases g1 : key < k
    · have e : cut key (node b k u l r h n) = (even (node b k u (cut key l).1 r h n), (cut key l).2) := by simp only [cut]; rw [if_pos g1]
      rw [e]
      have nr : ∀ y ∈ r.items, y.1 ≠ key := fun y hy => by have := h2 y hy; (try simp only at this); omega
      refine ⟨by rw [items_even, items_node, delL_append, delL_cons_ne (x := (k, u)) (show k ≠ key by omega), delL_of_ne nr, L1], ?_⟩
      simp only at *
      rw [L2, items_node, hasL_append, hasL_cons, hasL_false nr, show (k == key) = false from by simp; omega]
      simp
    · by_cases g2 : key > k
      · have e : cut key (node b k u l r h n) = (even (node b k u l (cut key r).1 h n), (cut key r).2) := by simp only [cut]; rw [if_neg g1, if_pos g2]
        rw [e]
        have nl : ∀ y ∈ l.items, y.1 ≠ key := fun y hy => by have := h1 y hy; (try simp only at this); omega
        refine ⟨by rw [items_even, items_node, delL_append, delL_cons_ne (x := (k, u)) (show k ≠ key by omega), delL_of_ne nl, R1], ?_⟩
        simp only at *
        rw [R2, items_node, hasL_append, hasL_cons, hasL_false nl, show (k == key) = false from by simp; omega]
        simp
      · obtain rfl : key = k := by omega
        have nl : ∀ y ∈ l.items, y.1 ≠ key := fun y hy => by have := h1 y hy; (try simp only at this); omega
        have nr : ∀ y ∈ r.items, y.1 ≠ key := fun y hy => by have := h2 y hy; (try simp only at this); omega
        have hh : hasL key (node b key u l r h n).items = true := by rw [items_node, hasL_append, hasL_cons]; simp
        have hdel : delL key (node b key u l r h n).items = l.items ++ r.items := by rw [items_node, delL_append, delL_cons_eq (x := (key, u)) rfl, delL_of_ne nl, delL_of_ne nr]
        rw [hh, hdel]
        by_cases hln : l.isNode = true
        · by_cases hrn : r.isNode = true
          · obtain ⟨x, hx⟩ := least_some hrn
            rw [cut_node_eq hln hrn hx]
            obtain ⟨i1, _⟩ := least_items hx
            exact ⟨by rw [items_even, i1], rfl⟩
          · cases r with
            | nil => rw [cut_nil_right]; simp
            | node => exact absurd rfl hrn
        · cases l with
          | nil => rw [cut_nil_left]; simp
          | node => exact absurd rfl hln

theorem put_blocks (f : Nat) (key : Int) (v : α) : ∀ (t : Tr α), (put f key v t).1.blocks.Perm (if (put f key v t).2 then f :: t.blocks else t.blocks)
  | nil => by simp [put]
  | node b k u l r h n => by
    have L := put_blocks f key v l
    have R := put_blocks f key v r
    by_cases g1 : key < k
    · have e : put f key v (node b k u l r h n) = (even (node b k u (put f key v l).1 r h n), (put f key v l).2) := by simp only [put]; rw [if_pos g1]
      rw [e]
      refine (blocks_even b k u _ _ h n).trans ?_
      simp only [blocks_node]
      split
      · rename_i g; rw [if_pos g] at L
        exact (List.Perm.cons _ (List.Perm.append_right _ L)).trans (List.Perm.swap _ _ _)
      · rename_i g; rw [if_neg g] at L
        exact List.Perm.cons _ (List.Perm.append_right _ L)
    · by_cases g2 : key > k
      · have e : put f key v (node b k u l r h n) = (even (node b k u l (put f key v r).1 h n), (put f key v r).2) := by simp only [put]; rw [if_neg g1, if_pos g2]
        rw [e]
        refine (blocks_even b k u _ _ h n).trans ?_
        simp only [blocks_node]
        split
        · rename_i g; rw [if_pos g] at R
          refine (List.Perm.cons _ (List.Perm.append_left _ R)).trans ?_
          exact (List.Perm.cons _ List.perm_middle).trans (List.Perm.swap _ _ _)
        · rename_i g; rw [if_neg g] at R
          exact List.Perm.cons _ (List.Perm.append_left _ R)
      · have e : put f key v (node b k u l r h n) = (even (node b k v l r h n), false) := by simp only [put]; rw [if_neg g1, if_neg g2]
        rw [e]
        exact blocks_even b k v _ _ h n

theorem cut_blocks (key : Int) : ∀ (t : Tr α), ∃ x, ((cut key t).1.blocks ++ x).Perm t.blocks
  | nil => ⟨[], List.Perm.refl _⟩
  | node b k u l r h n => by
    obtain ⟨xl, L⟩ := cut_blocks key l
    obtain ⟨xr, R⟩ := cut_blocks key r
    by_cases g1 : key < k
    · have e : cut key (node b k u l r h n) = (even (node b k u (cut key l).1 r h n), (cut key l).2) := by simp only [cut]; rw [if_pos g1]
      rw [e]
      refine ⟨xl, (List.Perm.append_right _ (blocks_even b k u _ _ h n)).trans ?_⟩
      simp only [blocks_node, List.cons_append, List.append_assoc]
      refine List.Perm.cons _ ((List.Perm.append_left _ List.perm_append_comm).trans ?_)
      rw [← List.append_assoc]
      exact List.Perm.append_right _ L
    · by_cases g2 : key > k
      · have e : cut key (node b k u l r h n) = (even (node b k u l (cut key r).1 h n), (cut key r).2) := by simp only [cut]; rw [if_neg g1, if_pos g2]
        rw [e]
        refine ⟨xr, (List.Perm.append_right _ (blocks_even b k u _ _ h n)).trans ?_⟩
        simp only [blocks_node, List.cons_append, List.append_assoc]
        exact List.Perm.cons _ (List.Perm.append_left _ R)
      · obtain rfl : key = k := by omega
        by_cases hln : l.isNode = true
        · by_cases hrn : r.isNode = true
          · obtain ⟨x, hx⟩ := least_some hrn
            rw [cut_node_eq hln hrn hx]
            obtain ⟨_, i2⟩ := least_items hx
            refine ⟨[b], (List.Perm.append_right _ (blocks_even _ _ _ _ _ 0 0)).trans ?_⟩
            simp only [blocks_node]
            refine List.perm_append_comm.trans ?_
            refine List.Perm.cons _ ?_
            refine (List.perm_middle (l₁ := l.blocks)).symm.trans ?_
            exact List.Perm.append_left _ i2.symm
          · cases r with
            | nil => rw [cut_nil_right]; exact ⟨[b], by simp⟩
            | node => exact absurd rfl hrn
        · cases l with
          | nil => rw [cut_nil_left]; exact ⟨[b], by simp⟩
          | node => exact absurd rfl hln

theorem putL_length (key : Int) (v : α) : ∀ (l : List (Int × α)), (putL key v l).length ≤ l.length + 1 ∧ l.length ≤ (putL key v l).length
  | [] => by simp [putL]
  | x :: r => by
    have := putL_length key v r
    simp only [putL]
    split
    · simp
    · split
      · simp; omega
      · simp

theorem put_len (f : Nat) (key : Int) (v : α) : ∀ (t : Tr α), (put f key v t).1.items.length = t.items.length + if (put f key v t).2 then 1 else 0
  | nil => by simp [put]
  | node b k u l r h n => by
    have L := put_len f key v l
    have R := put_len f key v r
    by_cases g1 : key < k
    · have e : put f key v (node b k u l r h n) = (even (node b k u (put f key v l).1 r h n), (put f key v l).2) := by simp only [put]; rw [if_pos g1]
      rw [e, items_even]; simp [L]; omega
    · by_cases g2 : key > k
      · have e : put f key v (node b k u l r h n) = (even (node b k u l (put f key v r).1 h n), (put f key v r).2) := by simp only [put]; rw [if_neg g1, if_pos g2]
        rw [e, items_even]; simp [R]; omega
      · have e : put f key v (node b k u l r h n) = (even (node b k v l r h n), false) := by simp only [put]; rw [if_neg g1, if_neg g2]
        rw [e, items_even]; simp

theorem put_sz (f : Nat) (key : Int) (v : α) {t : Tr α} (h : t.Right) : (put f key v t).1.sz ≤ t.sz + 1 ∧ t.sz ≤ (put f key v t).1.sz := by
  have a := h.len; have b := (put_right f key v h).len; have c := put_len f key v t
  split at c <;> omega

theorem items_len_blocks (t : Tr α) : t.items.length = t.blocks.length := by
  induction t with
  | nil => rfl
  | node b k v l r h n ihl ihr => simp [ihl, ihr]; omega

theorem cut_sz (key : Int) {t : Tr α} (h : t.Right) : (cut key t).1.sz ≤ t.sz := by
  have a := h.len; have b := (cut_right key h).len
  obtain ⟨x, hx⟩ := cut_blocks key t
  have := hx.length_eq
  rw [List.length_append, ← items_len_blocks, ← items_len_blocks] at this
  omega

/-- How many keys a balanced tree of a height has at least. -/
def leastN : Nat → Nat
  | 0 => 0
  | 1 => 1
  | n + 2 => leastN n + leastN (n + 1) + 1

theorem leastN_mono : ∀ n, leastN n ≤ leastN (n + 1)
  | 0 => by simp [leastN]
  | n + 1 => by simp only [leastN]; omega
theorem leastN_le {m n : Nat} (h : m ≤ n) : leastN m ≤ leastN n := by
  induction h with
  | refl => exact Nat.le_refl _
  | step _ ih => exact Nat.le_trans ih (leastN_mono _)

theorem bal_least : ∀ {t : Tr α}, t.Right → t.Bal → leastN t.ht.toNat ≤ t.items.length
  | nil, _, _ => by simp [leastN]
  | node b k v l r h n, hR, hB => by
    obtain ⟨hl, hr, e, _⟩ := hR
    obtain ⟨bl, br, c1, c2⟩ := hB
    have L := bal_least hl bl
    have R := bal_least hr br
    have l1 := hl.len; have r1 := hr.len
    simp only [ht_node, items_node, List.length_append, List.length_cons]
    obtain ⟨a, ha⟩ : ∃ a : Nat, l.ht = a := ⟨l.ht.toNat, by omega⟩
    obtain ⟨c, hc⟩ : ∃ c : Nat, r.ht = c := ⟨r.ht.toNat, by omega⟩
    rw [ha] at L; rw [hc] at R
    simp only [Int.toNat_natCast] at L R
    rcases Nat.lt_trichotomy a c with g | g | g
    · have e1 : h.toNat = a + 2 := by omega
      obtain rfl : c = a + 1 := by omega
      rw [e1]; simp only [leastN]; omega
    · subst g
      have e1 : h.toNat = a + 1 := by omega
      rw [e1]
      cases a with
      | zero => simp only [leastN]; omega
      | succ a => have := leastN_mono a; simp only [leastN] at *; omega
    · have e1 : h.toNat = c + 2 := by omega
      obtain rfl : a = c + 1 := by omega
      rw [e1]; simp only [leastN]; omega
end Tr
end Go.Und
