/- Sets of offsets as lists of spans (plain): counting; what is asked. -/
import Derived.Test.YtmdkmclngblldaaRn1
set_option linter.unusedVariables false
set_option linter.unusedSimpArgs false
namespace Go.Und

/-! Counting. -/
def cntP (p : Int → Bool) : Nat → Int
  | 0 => 0
  | n + 1 => cntP p n + if p n = true then 1 else 0
theorem cnt_congr {p q : Int → Bool} : ∀ (n : Nat), (∀ o : Int, p o = q o) → cntP p n = cntP q n
  | 0, _ => rfl
  | n + 1, h => by unfold cntP; rw [cnt_congr n h, h]
theorem cnt_none : ∀ (n : Nat), cntP (fun _ => false) n = 0
  | 0 => rfl
  | n + 1 => by unfold cntP; rw [cnt_none n]; simp
theorem cnt_or {p q : Int → Bool} : ∀ (n : Nat), cntP (fun o => p o || q o) n + cntP (fun o => p o && q o) n = cntP p n + cntP q n
  | 0 => rfl
  | n + 1 => by
    have ih := cnt_or (p := p) (q := q) n
    unfold cntP
    cases hp : p n <;> cases hq : q n <;> simp <;> omega
theorem cnt_split {p q : Int → Bool} : ∀ (n : Nat), cntP p n = cntP (fun o => p o && q o) n + cntP (fun o => p o && !q o) n
  | 0 => rfl
  | n + 1 => by
    have ih := cnt_split (p := p) (q := q) n
    unfold cntP
    cases hp : p n <;> cases hq : q n <;> simp <;> omega
theorem cnt_span (a b : Int) (h0 : 0 ≤ a) (hab : a ≤ b) : ∀ (n : Nat), cntP (fun o => decide (a ≤ o) && decide (o < b)) n = min b n - min a n
  | 0 => by unfold cntP; omega
  | n + 1 => by
    have ih := cnt_span a b h0 hab n
    unfold cntP
    rw [ih]
    by_cases h1 : a ≤ (n : Int) <;> by_cases h2 : (n : Int) < b <;> simp [h1, h2] <;> omega
def memB (l : List (Int × Int)) (o : Int) : Bool := l.any fun x => decide (x.1 ≤ o) && decide (o < x.2)
theorem memB_iff (l : List (Int × Int)) (o : Int) : memB l o = true ↔ memL l o := by
  unfold memB memL
  simp
def inB (s : Int × Int) (o : Int) : Bool := decide (inS s o)
def bytesL (l : List (Int × Int)) : Int := (l.map lenS).sum
theorem len_cnt (s : Int × Int) {n : Nat} (hn : 4611686018427387904 ≤ (n : Int)) : lenS s = cntP (inB s) n := by
  have h := plainS_bounds s
  have e : cntP (inB s) n = cntP (fun o => decide ((plainS s).1 ≤ o) && decide (o < (plainS s).2)) n := cnt_congr n fun o => by
    rw [Bool.eq_iff_iff]; unfold inB; rw [decide_eq_true_eq, Bool.and_eq_true, decide_eq_true_eq, decide_eq_true_eq]; exact Iff.rfl
  rw [e, cnt_span _ _ h.1 h.2.1]
  unfold lenS
  omega
theorem bytes_cnt {n : Nat} (hn : 4611686018427387904 ≤ (n : Int)) : ∀ {l : List (Int × Int)}, OkL l → bytesL l = cntP (memB l) n
  | [], _ => (cnt_none n).symm
  | x :: l, h => by
    obtain ⟨h1, h2, h3⟩ := h
    have ih := bytes_cnt hn h3
    have e1 : bytesL (x :: l) = lenS x + bytesL l := by simp [bytesL]
    have e2 : cntP (memB (x :: l)) n = cntP (fun o => inB x o || memB l o) n := cnt_congr n fun o => by
      rw [Bool.eq_iff_iff, Bool.or_eq_true, memB_iff, memB_iff, memL_cons]
      unfold inB
      rw [decide_eq_true_eq, inS_pr h1]
    have e3 : cntP (fun o => inB x o && memB l o) n = 0 := by
      rw [← cnt_none n]
      refine cnt_congr n fun o => ?_
      rw [Bool.eq_false_iff]
      intro hh
      rw [Bool.and_eq_true, memB_iff] at hh
      obtain ⟨ha, z, hz, hz1, _⟩ := hh
      unfold inB at ha
      rw [decide_eq_true_eq, inS_pr h1] at ha
      have := h2 z hz
      omega
    have e4 := cnt_or (p := inB x) (q := memB l) n
    have e5 := len_cnt x hn
    omega
def withinL (l : List (Int × Int)) (s : Int × Int) : Int := (l.map fun x => lenS (meetS x s)).sum
theorem within_cnt {n : Nat} (hn : 4611686018427387904 ≤ (n : Int)) (s : Int × Int) : ∀ {l : List (Int × Int)}, OkL l → withinL l s = cntP (fun o => memB l o && inB s o) n
  | [], _ => (cnt_none n).symm
  | x :: l, h => by
    obtain ⟨h1, h2, h3⟩ := h
    have ih := within_cnt hn s h3
    have e1 : withinL (x :: l) s = lenS (meetS x s) + withinL l s := by simp [withinL]
    have e2 : cntP (fun o => memB (x :: l) o && inB s o) n = cntP (fun o => inB (meetS x s) o || (memB l o && inB s o)) n := cnt_congr n fun o => by
      rw [Bool.eq_iff_iff, Bool.or_eq_true, Bool.and_eq_true, Bool.and_eq_true, memB_iff, memB_iff, memL_cons]
      unfold inB
      rw [decide_eq_true_eq, decide_eq_true_eq, in_meet, inS_pr h1]
      constructor
      · rintro ⟨h | h, h'⟩
        · exact .inl ⟨h, h'⟩
        · exact .inr ⟨h, h'⟩
      · rintro (h | h)
        · exact ⟨.inl h.1, h.2⟩
        · exact ⟨.inr h.1, h.2⟩
    have e3 : cntP (fun o => inB (meetS x s) o && (memB l o && inB s o)) n = 0 := by
      rw [← cnt_none n]
      refine cnt_congr n fun o => ?_
      rw [Bool.eq_false_iff]
      intro hh
      rw [Bool.and_eq_true, Bool.and_eq_true, memB_iff] at hh
      obtain ⟨ha, ⟨z, hz, hz1, _⟩, _⟩ := hh
      unfold inB at ha
      rw [decide_eq_true_eq, in_meet, inS_pr h1] at ha
      have := h2 z hz
      omega
    have e4 := cnt_or (p := inB (meetS x s)) (q := fun o => memB l o && inB s o) n
    have e5 := len_cnt (meetS x s) hn
    omega
theorem enough : ∃ n : Nat, 4611686018427387904 ≤ (n : Int) := ⟨4611686018427387904, by decide⟩
theorem add_bytes {l : List (Int × Int)} (h : OkL l) {s : Int × Int} (hs : PrS s) : bytesL (addL l s) = bytesL l + (lenS s - withinL l s) := by
  obtain ⟨n, hn⟩ := enough
  obtain ⟨o1, o2⟩ := add_ok h hs
  have e1 := bytes_cnt hn o1
  have e2 := bytes_cnt hn h
  have e3 := len_cnt s hn
  have e4 := within_cnt hn s h
  have e5 : cntP (memB (addL l s)) n = cntP (fun o => memB l o || inB s o) n := cnt_congr n fun o => by
    rw [Bool.eq_iff_iff, Bool.or_eq_true, memB_iff, memB_iff, o2]
    unfold inB
    rw [decide_eq_true_eq, inS_pr hs]
  have e6 := cnt_or (p := memB l) (q := inB s) n
  omega
theorem rem_bytes {l : List (Int × Int)} (h : OkL l) {s : Int × Int} (hs : PrS s) : bytesL (remL l s) = bytesL l - withinL l s := by
  obtain ⟨n, hn⟩ := enough
  obtain ⟨o1, o2, _⟩ := rem_ok hs.2.1 h
  have e1 := bytes_cnt hn o1
  have e2 := bytes_cnt hn h
  have e4 := within_cnt hn s h
  have e5 : cntP (memB (remL l s)) n = cntP (fun o => memB l o && !inB s o) n := cnt_congr n fun o => by
    rw [Bool.eq_iff_iff, Bool.and_eq_true, memB_iff, memB_iff, o2]
    unfold inB
    rw [Bool.not_eq_true', decide_eq_false_iff_not, inS_pr hs]
  have e6 := cnt_split (p := memB l) (q := inB s) n
  omega
theorem within_bounds {l : List (Int × Int)} (h : OkL l) (s : Int × Int) : 0 ≤ withinL l s ∧ withinL l s ≤ lenS s := by
  obtain ⟨n, hn⟩ := enough
  have e1 := len_cnt s hn
  have e2 := within_cnt hn s h
  have mono : ∀ (p q : Int → Bool) (n : Nat), (∀ o, p o = true → q o = true) → 0 ≤ cntP p n ∧ cntP p n ≤ cntP q n := by
    intro p q n hpq
    induction n with
    | zero => exact ⟨Int.le_refl _, Int.le_refl _⟩
    | succ n ih =>
      unfold cntP
      have := hpq n
      cases hp : p n <;> cases hq : q n <;> simp_all <;> omega
  have := mono (fun o => memB l o && inB s o) (inB s) n fun o h => (Bool.and_eq_true _ _ ▸ h).2
  omega
theorem bytes_bounds {l : List (Int × Int)} (h : OkL l) : 0 ≤ bytesL l ∧ bytesL l ≤ 4611686018427387904 := by
  have e : ∀ {l : List (Int × Int)}, OkL l → ∀ b : Int, (∀ x ∈ l, b ≤ x.1) → b ≤ 4611686018427387904 → 0 ≤ bytesL l ∧ bytesL l ≤ 4611686018427387904 - b := by
    intro l
    induction l with
    | nil => intro _ b _ hb; simp [bytesL]; omega
    | cons x l ih =>
      intro h b hb h2
      have h3 := hb x List.mem_cons_self
      have := ih h.2.2 x.2 (fun y hy => by have := h.2.1 y hy; omega) h.1.2.2
      have e1 : bytesL (x :: l) = lenS x + bytesL l := by simp [bytesL]
      have e2 := h.1.len
      have := h.1.2.1
      omega
  have := e h 0 (fun x hx => (h.pr x hx).1) (by decide)
  omega
/-- What of the first so many is within a span. -/
theorem within_snoc (l : List (Int × Int)) (x s : Int × Int) : withinL (l ++ [x]) s = withinL l s + lenS (meetS x s) := by simp [withinL]
theorem bytes_snoc (l : List (Int × Int)) (x : Int × Int) : bytesL (l ++ [x]) = bytesL l + lenS x := by simp [bytesL]

/-! What is asked. -/
/-- The run that has an offset, as the reference finds it. -/
def runL (l : List (Int × Int)) (o : Int) : Int × Int := ((l.find? fun x => inB x o).getD (0, 0))
def nextL (l : List (Int × Int)) (o : Int) : Int × Int := (((l.map fun x => fromS x o).find? fun x => decide (lenS x ≠ 0)).getD (0, 0))
theorem find_of_place {p : Int × Int → Bool} : ∀ {l : List (Int × Int)} {i : Nat} {x : Int × Int}, l[i]? = some x → p x = true → (∀ y ∈ l.take i, p y = false) → l.find? p = some x
  | [], _, _, h, _, _ => by simp at h
  | y :: l, 0, x, h, hp, _ => by
    obtain rfl : y = x := by simpa using h
    rw [List.find?_cons, hp]
  | y :: l, i + 1, x, h, hp, hn => by
    rw [List.find?_cons, hn y (by simp)]
    exact find_of_place (by simpa using h) hp fun z hz => hn z (by rw [List.take_succ_cons]; exact List.mem_cons_of_mem _ hz)
theorem find_none {p : Int × Int → Bool} {l : List (Int × Int)} (h : ∀ x ∈ l, p x = false) : l.find? p = none := by
  rw [List.find?_eq_none]
  intro x hx hp
  rw [h x hx] at hp
  cases hp
/-- The program's way: the first run that ends above. -/
def atL (l : List (Int × Int)) (o : Int) : Nat := fstP (fun x => decide (o < x.2)) l
theorem at_split {l : List (Int × Int)} (h : OkL l) (o : Int) : (∀ x ∈ l.take (atL l o), x.2 ≤ o) ∧ ∀ x ∈ l.drop (atL l o), o < x.2 := by
  refine ⟨fun x hx => ?_, fun x hx => ?_⟩
  · have := below_fst _ l x hx; simpa using this
  · have := above_fst (fun x => decide (o < x.2)) (h.rises.imp fun {a b} hab hp => by simp at hp ⊢; omega) x hx; simpa using this
theorem run_at {l : List (Int × Int)} (h : OkL l) (o : Int) {x : Int × Int} (hx : l[atL l o]? = some x) (hin : x.1 ≤ o) : runL l o = x ∧ memL l o := by
  obtain ⟨h1, h2⟩ := at_split h o
  have hm := List.mem_of_getElem? hx
  have px := h.pr x hm
  have hlt : o < x.2 := h2 x (List.mem_drop_iff_getElem.2 ⟨0, by have := (List.getElem?_eq_some_iff.1 hx).1; omega, by have := (List.getElem?_eq_some_iff.1 hx).2; simpa using this⟩)
  refine ⟨?_, x, hm, hin, hlt⟩
  unfold runL
  rw [find_of_place hx (by unfold inB; rw [decide_eq_true_eq, inS_pr px]; exact ⟨hin, hlt⟩) fun y hy => by
    unfold inB; rw [decide_eq_false_iff_not, inS_pr (h.pr y (List.mem_of_mem_take hy))]; have := h1 y hy; omega]
  rfl
theorem run_out {l : List (Int × Int)} (h : OkL l) (o : Int) (hx : ∀ x, l[atL l o]? = some x → o < x.1) : runL l o = (0, 0) ∧ ¬ memL l o := by
  obtain ⟨h1, h2⟩ := at_split h o
  have hno : ¬ memL l o := by
    rintro ⟨y, hy, hy1, hy2⟩
    rw [← List.take_append_drop (atL l o) l] at hy
    rcases List.mem_append.1 hy with hy | hy
    · have := h1 y hy; omega
    · cases hd : l.drop (atL l o) with
      | nil => rw [hd] at hy; cases hy
      | cons z r =>
        have hz : l[atL l o]? = some z := by
          have := congrArg (fun k => k[0]?) hd
          simpa using this
        have h3 := hx z hz
        rw [hd] at hy
        rcases List.mem_cons.1 hy with rfl | hy
        · omega
        · have h4 : OkL (z :: r) := by
            have := h
            rw [← List.take_append_drop (atL l o) l, hd] at this
            exact (okL_append.1 this).2.1
          have := h4.2.1 y hy
          have := h4.1.2.1
          omega
  refine ⟨?_, hno⟩
  unfold runL
  rw [find_none fun x hx => by
    unfold inB; rw [decide_eq_false_iff_not, inS_pr (h.pr x hx)]; exact fun g => hno ⟨x, hx, g⟩]
  rfl
theorem run_cases {l : List (Int × Int)} (h : OkL l) (o : Int) : (memL l o ∧ runL l o ∈ l ∧ (runL l o).1 ≤ o ∧ o < (runL l o).2) ∨ (¬ memL l o ∧ runL l o = (0, 0)) := by
  by_cases hm : ∃ x, l[atL l o]? = some x ∧ x.1 ≤ o
  · obtain ⟨x, hx, h1⟩ := hm
    obtain ⟨e, hm⟩ := run_at h o hx h1
    have hlt : o < x.2 := (at_split h o).2 x (List.mem_drop_iff_getElem.2 ⟨0, by have := (List.getElem?_eq_some_iff.1 hx).1; omega, by have := (List.getElem?_eq_some_iff.1 hx).2; simpa using this⟩)
    rw [e]
    exact .inl ⟨hm, List.mem_of_getElem? hx, h1, hlt⟩
  · obtain ⟨e, hn⟩ := run_out h o fun x hx => by
      rcases Int.lt_or_le o x.1 with g | g
      · exact g
      · exact absurd ⟨x, hx, g⟩ hm
    exact .inr ⟨hn, e⟩
theorem from_none {x : Int × Int} (hx : PrS x) {o : Int} (h : x.2 ≤ o) : lenS (fromS x o) = 0 := by
  rcases Int.lt_trichotomy 0 (lenS (fromS x o)) with g | g | g
  · have p := lenS_ne (s := fromS x o) (by omega)
    have := (in_from x o (fromS x o).1).1 ((inS_pr p _).2 ⟨Int.le_refl _, p.2.1⟩)
    rw [inS_pr hx] at this
    omega
  · exact g.symm
  · have := (lenS_bounds (fromS x o)).1; omega
theorem from_some {x : Int × Int} (hx : PrS x) {o : Int} (h : o < x.2) : lenS (fromS x o) ≠ 0 := fun e => by
  have h1 := mt (in_from x o (max x.1 o)).2 (inS_zero e _)
  rw [inS_pr hx] at h1
  have := hx.2.1
  omega
theorem next_at {l : List (Int × Int)} (h : OkL l) (o : Int) {x : Int × Int} (hx : l[atL l o]? = some x) : nextL l o = fromS x o ∧ lenS (fromS x o) ≠ 0 := by
  obtain ⟨h1, h2⟩ := at_split h o
  have hlt : o < x.2 := h2 x (List.mem_drop_iff_getElem.2 ⟨0, by have := (List.getElem?_eq_some_iff.1 hx).1; omega, by have := (List.getElem?_eq_some_iff.1 hx).2; simpa using this⟩)
  have hl := from_some (h.pr x (List.mem_of_getElem? hx)) hlt
  refine ⟨?_, hl⟩
  unfold nextL
  rw [find_of_place (i := atL l o) (x := fromS x o) (by rw [List.getElem?_map, hx]; rfl) (by simpa using hl) fun y hy => by
    rw [← List.map_take] at hy
    obtain ⟨z, hz, rfl⟩ := List.mem_map.1 hy
    simpa using from_none (h.pr z (List.mem_of_mem_take hz)) (h1 z hz)]
  rfl
theorem next_out {l : List (Int × Int)} (h : OkL l) (o : Int) (hx : atL l o = l.length) : nextL l o = (0, 0) := by
  obtain ⟨h1, _⟩ := at_split h o
  unfold nextL
  rw [find_none fun y hy => by
    obtain ⟨z, hz, rfl⟩ := List.mem_map.1 hy
    simpa using from_none (h.pr z hz) (h1 z (by rw [hx, List.take_length]; exact hz))]
  rfl
/-- The next offset that is not in. -/
def gapL (l : List (Int × Int)) (k : Int) : Int :=
  let a := min (max k 0) 4611686018427387904
  if lenS (runL l a) = 0 then a else (runL l a).2
/-- What of a span is not in. -/
def gapsR (l : List (Int × Int)) (s : Int × Int) : List (Int × Int) := if lenS s = 0 then [] else l.foldl (fun out x => if lenS x = 0 then out else remL out x) [s]
theorem gapsR_ok {s : Int × Int} (hs : PrS s) (l : List (Int × Int)) (h : OkL l) : OkL (gapsR l s) ∧ ∀ o, memL (gapsR l s) o ↔ (s.1 ≤ o ∧ o < s.2) ∧ ¬ memL l o := by
  have hl : lenS s ≠ 0 := by rw [hs.len]; have := hs.2.1; omega
  unfold gapsR
  rw [if_neg hl]
  revert h
  refine snoc_ind (P := fun l => OkL l → OkL (l.foldl (fun out x => if lenS x = 0 then out else remL out x) [s]) ∧ ∀ o, memL (l.foldl (fun out x => if lenS x = 0 then out else remL out x) [s]) o ↔ (s.1 ≤ o ∧ o < s.2) ∧ ¬ memL l o) ?_ ?_ l
  · intro _
    refine ⟨⟨hs, fun y hy => (by cases hy), trivial⟩, fun o => ?_⟩
    show memL [s] o ↔ _
    rw [memL_cons]
    constructor
    · rintro (h | h)
      · exact ⟨h, memL_nil o⟩
      · exact absurd h (memL_nil o)
    · rintro ⟨h, _⟩; exact .inl h
  · intro l x ih h
    obtain ⟨ol, ox, _⟩ := okL_append.1 h
    obtain ⟨i1, i2⟩ := ih ol
    rw [List.foldl_append]
    show OkL (if lenS x = 0 then _ else remL _ x) ∧ ∀ o, memL (if lenS x = 0 then _ else remL _ x) o ↔ _
    rw [if_neg (by rw [ox.1.len]; have := ox.1.2.1; omega)]
    obtain ⟨r1, r2, _⟩ := rem_ok ox.1.2.1 i1
    refine ⟨r1, fun o => ?_⟩
    rw [r2, i2, memL_append, memL_cons]
    constructor
    · rintro ⟨⟨h1, h2⟩, h3⟩
      refine ⟨h1, ?_⟩
      rintro (h | h | h)
      · exact h2 h
      · exact h3 h
      · exact memL_nil o h
    · rintro ⟨h1, h2⟩
      exact ⟨⟨h1, fun h => h2 (.inl h)⟩, fun h => h2 (.inr (.inl h))⟩
/-- The program's gaps: from a place on, in front of the runs that are left. -/
def gapsP (b : Int) : List (Int × Int) → Int → List (Int × Int)
  | [], a => if a < b then [(a, b)] else []
  | x :: r, a => (if a < x.1 then [(a, x.1)] else []) ++ gapsP b r x.2
theorem gapsP_ok (b : Int) (hb : b ≤ 4611686018427387904) : ∀ (r : List (Int × Int)) (a : Int), 0 ≤ a → OkL r → (∀ x ∈ r, a ≤ x.1 ∧ x.2 ≤ b) → OkL (gapsP b r a) ∧ (∀ y ∈ gapsP b r a, a ≤ y.1) ∧ ∀ o, memL (gapsP b r a) o ↔ (a ≤ o ∧ o < b) ∧ ¬ memL r o
  | [], a, h0, _, _ => by
    unfold gapsP
    by_cases hab : a < b
    · rw [if_pos hab]
      refine ⟨⟨⟨h0, hab, hb⟩, fun y hy => (by cases hy), trivial⟩, fun y hy => (by simp at hy; subst hy; exact Int.le_refl _), fun o => ?_⟩
      rw [memL_cons]
      constructor
      · rintro (h | h)
        · exact ⟨h, memL_nil o⟩
        · exact absurd h (memL_nil o)
      · rintro ⟨h, _⟩; exact .inl h
    · rw [if_neg hab]
      exact ⟨trivial, fun y hy => (by cases hy), fun o => ⟨fun h => absurd h (memL_nil o), fun h => by omega⟩⟩
  | x :: r, a, h0, h, hin => by
    obtain ⟨h1, h2, h3⟩ := h
    have hx := hin x List.mem_cons_self
    have hx0 := h1.1
    have hx1 := h1.2.1
    obtain ⟨i1, i2, i3⟩ := gapsP_ok b hb r x.2 (by omega) h3 fun y hy => ⟨by have := h2 y hy; omega, (hin y (List.mem_cons_of_mem _ hy)).2⟩
    have far : ∀ y ∈ gapsP b r x.2, x.2 ≤ y.1 := i2
    have gap0 : ¬ memL (gapsP b r x.2) x.2 ∨ True := .inr trivial
    unfold gapsP
    by_cases hax : a < x.1
    · rw [if_pos hax]
      refine ⟨⟨⟨h0, hax, by have := h1.2.2; omega⟩, fun y hy => ?_, i1⟩, fun y hy => ?_, fun o => ?_⟩
      · have := far y hy; dsimp only; omega
      · rcases List.mem_cons.1 hy with rfl | hy
        · exact Int.le_refl _
        · have := far y hy; omega
      · rw [List.singleton_append, memL_cons, i3, memL_cons]
        dsimp only
        constructor
        · rintro (h | ⟨h, h'⟩)
          · refine ⟨by omega, ?_⟩
            rintro (g | ⟨z, hz, g, _⟩)
            · omega
            · have := h2 z hz; omega
          · refine ⟨by omega, ?_⟩
            rintro (g | g)
            · omega
            · exact h' g
        · rintro ⟨h, h'⟩
          rcases Int.lt_or_le o x.1 with g | g
          · exact .inl (by omega)
          · refine .inr ⟨⟨?_, h.2⟩, fun k => h' (.inr k)⟩
            rcases Int.lt_or_le o x.2 with k | k
            · exact absurd (.inl ⟨g, k⟩) h'
            · exact k
    · rw [if_neg hax, List.nil_append]
      refine ⟨i1, fun y hy => (by have := far y hy; omega), fun o => ?_⟩
      rw [i3, memL_cons]
      constructor
      · rintro ⟨h, h'⟩
        refine ⟨by omega, ?_⟩
        rintro (g | g)
        · omega
        · exact h' g
      · rintro ⟨h, h'⟩
        refine ⟨⟨?_, h.2⟩, fun k => h' (.inr k)⟩
        rcases Int.lt_or_le o x.2 with k | k
        · exact absurd (.inl ⟨by omega, k⟩) h'
        · exact k
end Go.Und
