/- Options as data: what is written, what is read (plain). -/
import Derived.Test.YtedogalndhackaaDoorHeap
set_option linter.unusedVariables false
set_option linter.unusedSimpArgs false
namespace Go.Und

structure Opt where
  (mss : Int) (permit ts : Bool) (val ecr : Int) (has : Bool) (scale : Int) (blocks : List (Int × Int))
def Opt.zero : Opt := ⟨0, false, false, 0, 0, false, 0, []⟩

/-- A number in k bytes, the highest one first. -/
def be : Nat → Int → List Int
  | 0, _ => []
  | k + 1, n => n / 256 ^ k % 256 :: be k n
theorem be_len (k : Nat) (n : Int) : (be k n).length = k := by
  induction k with
  | zero => rfl
  | succ k ih => simp [be, ih]
/-- The number that bytes say. -/
def valB (l : List Int) : Int := l.foldl (fun n c => n * 256 + c) 0
theorem valB_snoc (l : List Int) (c : Int) : valB (l ++ [c]) = valB l * 256 + c := by simp [valB]
theorem val_go (k : Nat) : ∀ (n a : Int), (be k n).foldl (fun n c => n * 256 + c) a = a * 256 ^ k + n % 256 ^ k := by
  induction k with
  | zero => intro n a; simp [be, Int.emod_one]
  | succ k ih =>
    intro n a
    have h1 : n % 256 ^ (k + 1) = n / 256 ^ k % 256 * 256 ^ k + n % 256 ^ k := by
      have hp : (0 : Int) < 256 ^ k := Int.pow_pos (by decide)
      have := Int.emod_emod_of_dvd n (show (256 ^ k : Int) ∣ 256 ^ (k + 1) from ⟨256, by rw [Int.pow_succ]⟩)
      have e := Int.mul_ediv_add_emod (n % 256 ^ (k + 1)) (256 ^ k)
      have e2 : n % 256 ^ (k + 1) / 256 ^ k = n / 256 ^ k % 256 := by
        rw [Int.pow_succ, Int.mul_comm]
        have := Int.emod_emod_of_dvd
        rw [Int.emod_def, Int.emod_def (n / 256 ^ k), Int.mul_comm 256 (256 ^ k), ← Int.ediv_ediv_of_nonneg (Int.le_of_lt hp), Int.mul_assoc]
        rw [Int.sub_eq_add_neg, ← Int.mul_neg, Int.add_mul_ediv_left _ _ (by omega)]
        omega
      rw [this, e2] at e
      rw [← e, Int.mul_comm]
    rw [be, List.foldl_cons, ih, h1, Int.pow_succ, Int.add_mul, Int.mul_assoc, Int.mul_comm (256 ^ k : Int) 256, Int.add_assoc]
theorem val_be {k : Nat} {n : Int} (h0 : 0 ≤ n) (h1 : n < 256 ^ k) : valB (be k n) = n := by
  rw [valB, val_go, Int.zero_mul, Int.zero_add, Int.emod_eq_of_lt h0 h1]
theorem be_byte {k : Nat} {n c : Int} (h : c ∈ be k n) : 0 ≤ c ∧ c < 256 := by
  induction k with
  | zero => cases h
  | succ k ih =>
    rcases List.mem_cons.1 h with rfl | h
    · omega
    · exact ih h
theorem be_drop (n : Int) : ∀ (s j : Nat), (be s n).drop j = be (s - j) n
  | s, 0 => rfl
  | 0, j + 1 => by simp [be]
  | s + 1, j + 1 => by rw [be, List.drop_succ_cons, be_drop n s j, Nat.add_sub_add_right]
theorem be_get (s j : Nat) (n : Int) (h : j < s) : (be s n)[j]? = some (n / 256 ^ (s - j - 1) % 256) := by
  have := be_drop n s j
  obtain ⟨k, hk⟩ : ∃ k, s - j = k + 1 := ⟨s - j - 1, by omega⟩
  rw [hk, be] at this
  have e := List.getElem?_drop (xs := be s n) (i := j) (j := 0)
  rw [this] at e
  rw [show s - j - 1 = k by omega]
  simpa using e.symm

def blks : Nat → List Int → List (Int × Int)
  | 0, _ => []
  | k + 1, t => (valB (t.take 4), valB ((t.drop 4).take 4)) :: blks k (t.drop 8)
theorem blks_len (k : Nat) : ∀ t, (blks k t).length = k := by
  induction k with
  | zero => intro t; rfl
  | succ k ih => intro t; simp [blks, ih]
/-- What an option says. -/
def saysS (o : Opt) (kind : Int) (t : List Int) : Option Opt :=
  if kind = 2 then if t.length = 2 then some { o with mss := valB t } else none
  else if kind = 3 then if t.length = 1 then some { o with has := true, scale := min (valB t) 14 } else none
  else if kind = 4 then if t.length = 0 then some { o with permit := true } else none
  else if kind = 8 then if t.length = 8 then some { o with ts := true, val := valB (t.take 4), ecr := valB (t.drop 4) } else none
  else if kind = 5 then if t.length % 8 = 0 ∧ 1 ≤ t.length / 8 ∧ t.length / 8 ≤ 4 then some { o with blocks := blks (t.length / 8) t } else none
  else some o
/-- What bytes say. -/
def parseS : Nat → List Int → Opt → Opt × Int
  | 0, _, o => (o, 0)
  | _ + 1, [], o => (o, 0)
  | k + 1, kind :: r, o =>
    if kind = 0 then (o, 0) else if kind = 1 then parseS k r o else
    match r with
    | [] => (Opt.zero, 5)
    | n :: r2 =>
      if n < 2 then (Opt.zero, 6) else if (r2.length : Int) < n - 2 then (Opt.zero, 5) else
      match saysS o kind (r2.take (n - 2).toNat) with
      | none => (Opt.zero, 6)
      | some o' => parseS k (r2.drop (n - 2).toNat) o'
theorem parse_cons (k : Nat) (kind : Int) (r : List Int) (o : Opt) : parseS (k + 1) (kind :: r) o = if kind = 0 then (o, 0) else if kind = 1 then parseS k r o else
    match r with
    | [] => (Opt.zero, 5)
    | n :: r2 =>
      if n < 2 then (Opt.zero, 6) else if (r2.length : Int) < n - 2 then (Opt.zero, 5) else
      match saysS o kind (r2.take (n - 2).toNat) with
      | none => (Opt.zero, 6)
      | some o' => parseS k (r2.drop (n - 2).toNat) o' := rfl
theorem parse_nil (k : Nat) (o : Opt) : parseS k [] o = (o, 0) := by cases k <;> rfl
theorem parse_zero (k : Nat) (r : List Int) (o : Opt) : parseS k (0 :: r) o = (o, 0) := by cases k <;> rfl
theorem parse_one (k : Nat) (r : List Int) (o : Opt) : parseS (k + 1) (1 :: r) o = parseS k r o := rfl
theorem parse_tlv (k : Nat) {kind n : Int} {t r : List Int} {o o' : Opt} (h0 : kind ≠ 0) (h1 : kind ≠ 1) (hn : n = t.length + 2) (hs : saysS o kind t = some o') :
    parseS (k + 1) (kind :: n :: (t ++ r)) o = parseS k r o' := by
  have e : (n - 2).toNat = t.length := by omega
  rw [parse_cons, if_neg h0, if_neg h1]
  dsimp only
  rw [if_neg (by omega), if_neg (by simp; omega), e, List.take_left, List.drop_left, hs]
/-- More rounds say the same. -/
theorem parse_more : ∀ (k : Nat) (l : List Int) (o : Opt), l.length ≤ k → parseS (k + 1) l o = parseS k l o
  | 0, l, o, h => by
    obtain rfl : l = [] := List.length_eq_zero_iff.1 (by omega)
    rfl
  | k + 1, [], o, _ => rfl
  | k + 1, kind :: r, o, h => by
    rw [parse_cons, parse_cons]
    split
    · rfl
    split
    · exact parse_more k r o (by simpa using h)
    cases r with
    | nil => rfl
    | cons n r2 =>
      dsimp only
      split
      · rfl
      split
      · rfl
      cases saysS o kind (r2.take (n - 2).toNat) with
      | none => rfl
      | some o' => exact parse_more k _ o' (by simp at h ⊢; omega)
theorem parse_fuel (d k : Nat) (l : List Int) (o : Opt) (h : l.length ≤ k) : parseS (k + d) l o = parseS k l o := by
  induction d with
  | zero => rfl
  | succ d ih => rw [← Nat.add_assoc, parse_more _ _ _ (by omega), ih]
def parseO (l : List Int) : Opt × Int := if 40 < l.length then (Opt.zero, 9) else parseS l.length l Opt.zero
theorem parse_at {k : Nat} {l : List Int} {o : Opt} (h : l.length ≤ k) : parseS l.length l o = parseS k l o := by
  obtain ⟨d, rfl⟩ : ∃ d, k = l.length + d := ⟨k - l.length, by omega⟩
  rw [parse_fuel d _ _ _ (Nat.le_refl _)]

/-! What is written. -/
def bareO (o : Opt) : Int := (if o.mss ≠ 0 then 4 else 0) + (if o.permit then 2 else 0) + (if o.ts then 10 else 0) + (if o.has then 3 else 0) + (if 0 < o.blocks.length then 2 + 8 * (o.blocks.length : Int) else 0)
def sizeO (o : Opt) : Int := if 4 < o.blocks.length then 0 else (bareO o + 3) / 4 * 4
def checkO (o : Opt) : Int :=
  if o.mss < 0 ∨ 65535 < o.mss ∨ o.scale < 0 ∨ 14 < o.scale then 3
  else if (o.scale ≠ 0 ∧ o.has = false) ∨ ((o.val ≠ 0 ∨ o.ecr ≠ 0) ∧ o.ts = false) then 6
  else if 4 < o.blocks.length ∨ 40 < sizeO o then 9 else 0
def blkB (b : Int × Int) : List Int := be 4 b.1 ++ be 4 b.2
def encM (o : Opt) : List Int := if o.mss ≠ 0 then [2, 4] ++ be 2 o.mss else []
def encP (o : Opt) : List Int := if o.permit then [4, 2] else []
def encT (o : Opt) : List Int := if o.ts then [8, 10] ++ be 4 o.val ++ be 4 o.ecr else []
def encS (o : Opt) : List Int := if o.has then [3, 3, o.scale] else []
def encB (o : Opt) : List Int := if 0 < o.blocks.length then [5, 2 + 8 * (o.blocks.length : Int)] ++ o.blocks.flatMap blkB else []
def encL (o : Opt) : List Int := encM o ++ (encP o ++ (encT o ++ (encS o ++ encB o)))
def padTo (l : List Int) : List Int := l ++ List.replicate ((4 - l.length % 4) % 4) 0
def encO (o : Opt) : List Int := padTo (encL o)
theorem flat_len (l : List (Int × Int)) : (l.flatMap blkB).length = 8 * l.length := by
  induction l with
  | nil => rfl
  | cons b l ih => rw [List.flatMap_cons, List.length_append, ih, blkB, List.length_append, be_len, be_len, List.length_cons]; omega
theorem encL_len (o : Opt) : ((encL o).length : Int) = bareO o := by
  unfold encL bareO encM encP encT encS encB
  simp only [List.length_append]
  split <;> split <;> split <;> split <;> split <;> simp only [List.length_append, List.length_cons, List.length_nil, be_len, flat_len] <;> omega
theorem encO_len (o : Opt) (h : o.blocks.length ≤ 4) : ((encO o).length : Int) = sizeO o := by
  have := encL_len o
  unfold encO padTo sizeO
  rw [if_neg (by omega), List.length_append, List.length_replicate]
  omega
theorem blks_flat (l : List (Int × Int)) (h : ∀ b ∈ l, (0 ≤ b.1 ∧ b.1 < 4294967296) ∧ 0 ≤ b.2 ∧ b.2 < 4294967296) : blks l.length (l.flatMap blkB) = l := by
  induction l with
  | nil => rfl
  | cons b l ih =>
    have hb := h b List.mem_cons_self
    rw [List.length_cons, blks, List.flatMap_cons, blkB]
    have e1 : (be 4 b.1 ++ be 4 b.2 ++ l.flatMap blkB).take 4 = be 4 b.1 := by rw [List.append_assoc, List.take_left' (be_len _ _)]
    have e2 : (be 4 b.1 ++ be 4 b.2 ++ l.flatMap blkB).drop 4 = be 4 b.2 ++ l.flatMap blkB := by rw [List.append_assoc, List.drop_left' (be_len _ _)]
    have e3 : (be 4 b.1 ++ be 4 b.2 ++ l.flatMap blkB).drop 8 = l.flatMap blkB := List.drop_left' (by simp [be_len])
    rw [e1, e2, e3, List.take_left' (be_len _ _), val_be hb.1.1 (by simpa using hb.1.2), val_be hb.2.1 (by simpa using hb.2.2), ih fun x hx => h x (List.mem_cons_of_mem _ hx)]

structure Opt.Wf (o : Opt) : Prop where
  val : 0 ≤ o.val ∧ o.val < 4294967296
  ecr : 0 ≤ o.ecr ∧ o.ecr < 4294967296
  blocks : ∀ b ∈ o.blocks, (0 ≤ b.1 ∧ b.1 < 4294967296) ∧ 0 ≤ b.2 ∧ b.2 < 4294967296

/-- What is written is read as it was. -/
theorem parse_enc {o : Opt} (w : o.Wf) (h : checkO o = 0) : parseO (encO o) = (o, 0) := by
  unfold checkO at h
  split at h
  · cases h
  rename_i h1
  split at h
  · cases h
  rename_i h2
  split at h
  · cases h
  rename_i h3
  have hl := encO_len o (by omega)
  unfold parseO
  rw [if_neg (by omega), parse_at (k := (encO o).length + 6) (by omega)]
  generalize (encO o).length = N
  obtain ⟨mss, permit, ts, val, ecr, has, scale, blocks⟩ := o
  obtain ⟨wv, we, wb⟩ := w
  dsimp only at h1 h2 h3 wv we wb
  unfold encO padTo encL
  generalize hz : (4 - ((encM ⟨mss, permit, ts, val, ecr, has, scale, blocks⟩ ++ (encP ⟨mss, permit, ts, val, ecr, has, scale, blocks⟩ ++ (encT ⟨mss, permit, ts, val, ecr, has, scale, blocks⟩ ++ (encS ⟨mss, permit, ts, val, ecr, has, scale, blocks⟩ ++ encB ⟨mss, permit, ts, val, ecr, has, scale, blocks⟩))))).length % 4) % 4 = z
  clear hz hl
  have fin : ∀ k o', parseS k (List.replicate z 0) o' = (o', 0) := fun k o' => by
    cases z with
    | zero => exact parse_nil k o'
    | succ z => exact parse_zero k _ o'
  have sB : ∀ k, parseS (k + 1) (encB ⟨mss, permit, ts, val, ecr, has, scale, blocks⟩ ++ List.replicate z 0) ⟨mss, permit, ts, val, ecr, has, scale, []⟩ = (⟨mss, permit, ts, val, ecr, has, scale, blocks⟩, 0) := fun k => by
    unfold encB
    dsimp only
    split
    · rename_i g
      rw [List.append_assoc, List.cons_append, List.cons_append, List.nil_append, parse_tlv k (o' := ⟨mss, permit, ts, val, ecr, has, scale, blocks⟩) (by decide) (by decide) (by rw [flat_len]; omega) (by
        unfold saysS
        rw [if_neg (by decide), if_neg (by decide), if_neg (by decide), if_neg (by decide), if_pos rfl, flat_len, if_pos (by omega), show 8 * blocks.length / 8 = blocks.length by omega, blks_flat _ wb]), fin]
    · rename_i g
      obtain rfl : blocks = [] := List.length_eq_zero_iff.1 (by omega)
      exact fin _ _
  have sS : ∀ k, parseS (k + 2) (encS ⟨mss, permit, ts, val, ecr, has, scale, blocks⟩ ++ (encB ⟨mss, permit, ts, val, ecr, has, scale, blocks⟩ ++ List.replicate z 0)) ⟨mss, permit, ts, val, ecr, false, 0, []⟩ = (⟨mss, permit, ts, val, ecr, has, scale, blocks⟩, 0) := fun k => by
    unfold encS
    cases has with
    | true =>
      exact (parse_tlv (k + 1) (kind := 3) (n := 3) (t := [scale]) (o' := ⟨mss, permit, ts, val, ecr, true, scale, []⟩) (by decide) (by decide) rfl (by simp [saysS, valB]; omega)).trans (sB k)
    | false =>
      obtain rfl : scale = 0 := by
        by_cases g : scale = 0
        · exact g
        · exact absurd (.inl ⟨g, rfl⟩) h2
      exact sB (k + 1)
  have sT : ∀ k, parseS (k + 3) (encT ⟨mss, permit, ts, val, ecr, has, scale, blocks⟩ ++ (encS ⟨mss, permit, ts, val, ecr, has, scale, blocks⟩ ++ (encB ⟨mss, permit, ts, val, ecr, has, scale, blocks⟩ ++ List.replicate z 0))) ⟨mss, permit, false, 0, 0, false, 0, []⟩ = (⟨mss, permit, ts, val, ecr, has, scale, blocks⟩, 0) := fun k => by
    unfold encT
    cases ts with
    | true =>
      simp only [if_true]
      rw [List.append_assoc [8, 10], List.append_assoc [8, 10], List.cons_append, List.cons_append, List.nil_append]
      refine (parse_tlv (k + 2) (kind := 8) (n := 10) (o' := ⟨mss, permit, true, val, ecr, false, 0, []⟩) (by decide) (by decide) (by simp [be_len]) ?_).trans (sS k)
      unfold saysS
      rw [if_neg (by decide), if_neg (by decide), if_neg (by decide), if_pos rfl, if_pos (by simp [be_len]), List.take_left' (be_len _ _), List.drop_left' (be_len _ _), val_be wv.1 (by simpa using wv.2), val_be we.1 (by simpa using we.2)]
    | false =>
      have g : val = 0 ∧ ecr = 0 := by
        by_cases g1 : val = 0
        · by_cases g2 : ecr = 0
          · exact ⟨g1, g2⟩
          · exact absurd (.inr ⟨.inr g2, rfl⟩) h2
        · exact absurd (.inr ⟨.inl g1, rfl⟩) h2
      obtain ⟨rfl, rfl⟩ := g
      exact sS (k + 1)
  have sP : ∀ k, parseS (k + 4) (encP ⟨mss, permit, ts, val, ecr, has, scale, blocks⟩ ++ (encT ⟨mss, permit, ts, val, ecr, has, scale, blocks⟩ ++ (encS ⟨mss, permit, ts, val, ecr, has, scale, blocks⟩ ++ (encB ⟨mss, permit, ts, val, ecr, has, scale, blocks⟩ ++ List.replicate z 0)))) ⟨mss, false, false, 0, 0, false, 0, []⟩ = (⟨mss, permit, ts, val, ecr, has, scale, blocks⟩, 0) := fun k => by
    unfold encP
    cases permit with
    | true => exact (parse_tlv (k + 3) (kind := 4) (n := 2) (t := []) (o' := ⟨mss, true, false, 0, 0, false, 0, []⟩) (by decide) (by decide) rfl (by simp [saysS])).trans (sT k)
    | false => exact sT (k + 1)
  simp only [List.append_assoc]
  unfold encM
  dsimp only
  by_cases g : mss = 0
  · subst g
    exact sP (N + 2)
  · rw [if_pos g, List.append_assoc, List.cons_append, List.cons_append, List.nil_append]
    refine (parse_tlv (N + 5) (kind := 2) (n := 4) (o' := ⟨mss, false, false, 0, 0, false, 0, []⟩) (by decide) (by decide) (by simp [be_len]) ?_).trans (sP (N + 1))
    unfold saysS
    rw [if_pos rfl, if_pos (be_len _ _), val_be (by omega) (by omega)]
    rfl

/-- Options that say nothing. -/
theorem parse_skip (m : Nat) {kind n : Int} {t l : List Int} (h : 5 < kind ∧ kind ≠ 8) (hn : n = t.length + 2) (hl : (List.replicate m 1 ++ (kind :: n :: (t ++ l))).length ≤ 40) : parseO (List.replicate m 1 ++ (kind :: n :: (t ++ l))) = parseO l := by
  have hl2 : l.length ≤ 40 := by simp at hl; omega
  unfold parseO
  rw [if_neg (by omega), if_neg (by omega), parse_at (k := (l.length + 1) + m + t.length + 1) (by simp; omega)]
  have go : ∀ (m k : Nat), parseS (k + 1 + m) (List.replicate m 1 ++ (kind :: n :: (t ++ l))) Opt.zero = parseS k l Opt.zero := by
    intro m
    induction m with
    | zero =>
      intro k
      refine parse_tlv k (by omega) (by omega) hn ?_
      unfold saysS
      rw [if_neg (by omega), if_neg (by omega), if_neg (by omega), if_neg h.2, if_neg (by omega)]
    | succ m ih =>
      intro k
      rw [List.replicate_succ, List.cons_append, show k + 1 + (m + 1) = (k + 1 + m) + 1 by omega, parse_one]
      exact ih k
  rw [show l.length + 1 + m + t.length + 1 = (l.length + t.length + 1) + 1 + m by omega, go, show l.length + t.length + 1 = l.length + (t.length + 1) by omega, parse_fuel (t.length + 1) l.length l Opt.zero (Nat.le_refl _)]

structure Opt.May (o : Opt) : Prop where
  mss : 0 ≤ o.mss ∧ o.mss ≤ 65535
  scale : 0 ≤ o.scale ∧ o.scale ≤ 14
  has : o.scale ≠ 0 → o.has = true
  ts : (o.val ≠ 0 ∨ o.ecr ≠ 0) → o.ts = true
  blocks : o.blocks.length ≤ 4
theorem Opt.May.zero : Opt.zero.May := ⟨by decide, by decide, fun h => absurd rfl h, fun h => by rcases h with h | h <;> exact absurd rfl h, by decide⟩
theorem val_bound (l : List Int) (h : ∀ c ∈ l, 0 ≤ c ∧ c < 256) : 0 ≤ valB l ∧ valB l < 256 ^ l.length := by
  have : ∀ (l : List Int) (a : Int) (j : Nat), (∀ c ∈ l, 0 ≤ c ∧ c < 256) → 0 ≤ a ∧ a < 256 ^ j → 0 ≤ l.foldl (fun n c => n * 256 + c) a ∧ l.foldl (fun n c => n * 256 + c) a < 256 ^ (j + l.length) := by
    intro l
    induction l with
    | nil => intro a j _ h; simpa using h
    | cons c l ih =>
      intro a j h ha
      have hc := h c List.mem_cons_self
      rw [List.foldl_cons, List.length_cons, show j + (l.length + 1) = (j + 1) + l.length by omega]
      refine ih _ _ (fun x hx => h x (List.mem_cons_of_mem _ hx)) ⟨by omega, ?_⟩
      rw [Int.pow_succ]; omega
  simpa [valB] using this l 0 0 h (by decide)
theorem says_may {o o' : Opt} {kind : Int} {t : List Int} (h : o.May) (ht : ∀ c ∈ t, 0 ≤ c ∧ c < 256) (hs : saysS o kind t = some o') : o'.May := by
  obtain ⟨h1, h2, h3, h4, h5⟩ := h
  have hv := val_bound t ht
  unfold saysS at hs
  split at hs
  · split at hs
    · rename_i g
      cases hs
      rw [g] at hv
      exact ⟨⟨hv.1, by have := hv.2; dsimp only; omega⟩, h2, h3, h4, h5⟩
    · cases hs
  split at hs
  · split at hs
    · cases hs
      exact ⟨h1, ⟨by dsimp only; omega, by dsimp only; omega⟩, fun _ => rfl, h4, h5⟩
    · cases hs
  split at hs
  · split at hs
    · cases hs; exact ⟨h1, h2, h3, h4, h5⟩
    · cases hs
  split at hs
  · split at hs
    · cases hs; exact ⟨h1, h2, h3, fun _ => rfl, h5⟩
    · cases hs
  split at hs
  · split at hs
    · rename_i g
      cases hs; exact ⟨h1, h2, h3, h4, by dsimp only; rw [blks_len]; exact g.2.2⟩
    · cases hs
  · cases hs; exact ⟨h1, h2, h3, h4, h5⟩
theorem parse_may : ∀ (k : Nat) (l : List Int) (o : Opt), o.May → (∀ c ∈ l, 0 ≤ c ∧ c < 256) → (parseS k l o).1.May
  | 0, _, o, h, _ => h
  | k + 1, [], o, h, _ => h
  | k + 1, kind :: r, o, h, hc => by
    rw [parse_cons]
    split
    · exact h
    split
    · exact parse_may k r o h fun c hx => hc c (List.mem_cons_of_mem _ hx)
    cases r with
    | nil => exact Opt.May.zero
    | cons n r2 =>
      dsimp only
      split
      · exact Opt.May.zero
      split
      · exact Opt.May.zero
      have h2 : ∀ c ∈ r2, 0 ≤ c ∧ c < 256 := fun c hx => hc c (List.mem_cons_of_mem _ (List.mem_cons_of_mem _ hx))
      cases hs : saysS o kind (r2.take (n - 2).toNat) with
      | none => exact Opt.May.zero
      | some o' => exact parse_may k _ o' (says_may h (fun c hx => h2 c (List.mem_of_mem_take hx)) hs) fun c hx => h2 c (List.mem_of_mem_drop hx)
/-- What is read may be written, if there is room. -/
theorem check_may {o : Opt} (h : o.May) : checkO o = 0 ∨ (checkO o = 9 ∧ 40 < bareO o) := by
  obtain ⟨h1, h2, h3, h4, h5⟩ := h
  unfold checkO
  rw [if_neg (by omega), if_neg (by
    rintro (⟨a, b⟩ | ⟨a, b⟩)
    · rw [h3 a] at b; cases b
    · rw [h4 a] at b; cases b)]
  split
  · rename_i g
    refine .inr ⟨rfl, ?_⟩
    unfold sizeO at g
    rw [if_neg (by omega)] at g
    omega
  · exact .inl rfl
theorem parse_err : ∀ (k : Nat) (l : List Int) (o : Opt), (parseS k l o).2 ≠ 0 → (parseS k l o).1 = Opt.zero
  | 0, _, o, h => absurd rfl h
  | k + 1, [], o, h => absurd rfl h
  | k + 1, kind :: r, o, h => by
    rw [parse_cons] at h ⊢
    split
    · rename_i g; rw [if_pos g] at h; exact absurd rfl h
    rename_i g1
    rw [if_neg g1] at h
    split
    · rename_i g; rw [if_pos g] at h; exact parse_err k r o h
    rename_i g2
    rw [if_neg g2] at h
    cases r with
    | nil => rfl
    | cons n r2 =>
      dsimp only at h ⊢
      split
      · rfl
      rename_i g3
      rw [if_neg g3] at h
      split
      · rfl
      rename_i g4
      rw [if_neg g4] at h
      cases hs : saysS o kind (r2.take (n - 2).toNat) with
      | none => rfl
      | some o' => rw [hs] at h; exact parse_err k _ o' h
end Go.Und
