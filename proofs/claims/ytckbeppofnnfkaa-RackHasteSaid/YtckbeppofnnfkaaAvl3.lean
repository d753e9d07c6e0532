/- Looking into a tree: plain. -/
import Derived.Test.YtckbeppofnnfkaaAvl2
namespace Go.Und
namespace Tr
variable {α : Type}

def item : Tr α → Option (Int × α) | nil => none | node _ k v _ _ _ _ => some (k, v)
def depth : Tr α → Nat | nil => 0 | node _ _ _ l r _ _ => 1 + max l.depth r.depth

/-- The last pair whose key is not above, and the first one whose key is not below. -/
def floorL (key : Int) (l : List (Int × α)) : Option (Int × α) := (l.filter fun x => decide (x.1 ≤ key)).getLast?
def ceilL (key : Int) (l : List (Int × α)) : Option (Int × α) := l.find? fun x => decide (key ≤ x.1)
def rankL (key : Int) (l : List (Int × α)) : Nat := l.countP fun x => decide (x.1 < key)

def floorT (key : Int) (best : Option (Int × α)) : Tr α → Option (Int × α)
  | nil => best
  | node _ k v l r _ _ => if key < k then floorT key best l else floorT key (some (k, v)) r
def ceilT (key : Int) (best : Option (Int × α)) : Tr α → Option (Int × α)
  | nil => best
  | node _ k v l r _ _ => if k < key then ceilT key best r else ceilT key (some (k, v)) l
def rankT (key : Int) (n : Int) : Tr α → Int
  | nil => n
  | node _ k _ l r _ _ => if key ≤ k then rankT key n l else rankT key (n + (l.sz + 1)) r
/-- The node at a place. -/
def atT (i : Int) : Tr α → Option (Int × α)
  | nil => none
  | node _ k v l r _ _ => if i < l.sz then atT i l else if i = l.sz then some (k, v) else atT (i - (l.sz + 1)) r

theorem floorT_spec {key : Int} : ∀ {t : Tr α} {best : Option (Int × α)}, Rise t.items → floorT key best t = (floorL key t.items).or best
  | nil, best, _ => by simp [floorT, floorL]
  | node b k v l r h n, best, hR => by
    rw [items_node] at hR
    obtain ⟨hl, hr, h1, h2, _⟩ := rise_mid hR
    simp only [floorT, items_node]
    by_cases g : key < k
    · rw [if_pos g, floorT_spec hl]
      unfold floorL
      rw [List.filter_append, List.filter_cons_of_neg (by simpa using g), (List.filter_eq_nil_iff (l := r.items)).2 (fun y hy => by have := h2 y hy; simp only at this; simp; omega), List.append_nil]
    · rw [if_neg g, floorT_spec hr]
      unfold floorL
      rw [List.filter_append, List.filter_cons_of_pos (by simp; omega), List.getLast?_append]
      cases hq : (List.filter (fun x => decide (x.1 ≤ key)) r.items).getLast? with
      | none => simp [List.getLast?_cons, hq]
      | some y => simp [List.getLast?_cons, hq]

theorem ceilT_spec {key : Int} : ∀ {t : Tr α} {best : Option (Int × α)}, Rise t.items → ceilT key best t = (ceilL key t.items).or best
  | nil, best, _ => by simp [ceilT, ceilL]
  | node b k v l r h n, best, hR => by
    rw [items_node] at hR
    obtain ⟨hl, hr, h1, h2, _⟩ := rise_mid hR
    simp only [ceilT, items_node]
    unfold ceilL
    rw [List.find?_append]
    by_cases g : k < key
    · rw [if_pos g, ceilT_spec hr, List.find?_eq_none.2 (fun y hy => by have := h1 y hy; simp only at this; simp; omega), List.find?_cons_of_neg (by simpa using g)]
      rfl
    · rw [if_neg g, ceilT_spec hl, List.find?_cons_of_pos (by simp; omega)]
      unfold ceilL
      cases List.find? (fun x => decide (key ≤ x.1)) l.items <;> rfl

theorem rankT_spec {key : Int} : ∀ {t : Tr α} {n : Int}, Rise t.items → t.Right → rankT key n t = n + rankL key t.items
  | nil, n, _, _ => by simp [rankT, rankL]
  | node b k v l r h m, n, hR, hT => by
    rw [items_node] at hR
    obtain ⟨hl, hr, h1, h2, _⟩ := rise_mid hR
    obtain ⟨tl, tr, _⟩ := hT
    have L := tl.len
    simp only [rankT, items_node]
    unfold rankL
    rw [List.countP_append]
    by_cases g : key ≤ k
    · rw [if_pos g, rankT_spec hl tl, List.countP_cons_of_neg (by simpa using g), (List.countP_eq_zero (l := r.items)).2 (fun y hy => by have := h2 y hy; simp only at this; simp; omega)]
      rfl
    · rw [if_neg g, rankT_spec hr tr, List.countP_cons_of_pos (by simp; omega), (List.countP_eq_length (l := l.items)).2 (fun y hy => by have := h1 y hy; simp only at this; simp; omega)]
      unfold rankL
      omega

theorem atT_spec : ∀ {t : Tr α} {i : Int}, t.Right → 0 ≤ i → atT i t = t.items[i.toNat]?
  | nil, i, _, _ => by simp [atT]
  | node b k v l r h m, i, hT, hi => by
    obtain ⟨tl, tr, _⟩ := hT
    have L := tl.len
    simp only [atT, items_node]
    by_cases g : i < l.sz
    · rw [if_pos g, atT_spec tl hi, List.getElem?_append_left (by omega)]
    · rw [if_neg g]
      rw [List.getElem?_append_right (by omega)]
      by_cases g2 : i = l.sz
      · rw [if_pos g2, show i.toNat - l.items.length = 0 by omega]; rfl
      · rw [if_neg g2, atT_spec tr (by omega), show i.toNat - l.items.length = (i - (l.sz + 1)).toNat + 1 by omega]; rfl

theorem rankT_le {key : Int} {t : Tr α} : rankL key t.items ≤ t.items.length := List.countP_le_length

/-- Of n levels there are at most 2^n - 1 keys. -/
theorem bal_most : ∀ {t : Tr α}, t.Right → t.items.length + 1 ≤ 2 ^ t.ht.toNat
  | nil, _ => by simp
  | node b k v l r h n, hR => by
    obtain ⟨hl, hr, e, _⟩ := hR
    have L := bal_most hl
    have R := bal_most hr
    have l1 := hl.len; have r1 := hr.len
    simp only [ht_node, items_node, List.length_append, List.length_cons]
    have e1 : h.toNat = max l.ht.toNat r.ht.toNat + 1 := by omega
    rw [e1, Nat.pow_succ]
    have a := Nat.pow_le_pow_right (n := 2) (by omega) (Nat.le_max_left l.ht.toNat r.ht.toNat)
    have b := Nat.pow_le_pow_right (n := 2) (by omega) (Nat.le_max_right l.ht.toNat r.ht.toNat)
    omega
end Tr
end Go.Und
