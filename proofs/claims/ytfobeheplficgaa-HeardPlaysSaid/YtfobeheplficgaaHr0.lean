/- What a receiver has, as data: the document's bytes, and the ring. -/
import Derived.Test.YtfobeheplficgaaRns
set_option linter.unusedVariables false
set_option linter.unusedSimpArgs false
namespace Go.Und

/-- The shorter way between two numbers. -/
def sdI (x : Int) : Int := (x + 2147483648) % 4294967296 - 2147483648
theorem sdI_bounds (x : Int) : -2147483648 ≤ sdI x ∧ sdI x < 2147483648 := by unfold sdI; omega
theorem sdI_same {x : Int} (h : -2147483648 ≤ x ∧ x < 2147483648) (k : Int) : sdI (x + 4294967296 * k) = x := by unfold sdI; omega
theorem sdI_mod (x : Int) : ∃ k : Int, sdI x = x + 4294967296 * k := ⟨-((x + 2147483648) / 4294967296), by unfold sdI; omega⟩

/-- A byte laid at an offset. -/
def layN (b : List Int) (at_ : Nat) (c : Int) : List Int := (b ++ List.replicate (at_ + 1 - b.length) 0).set at_ c
theorem layN_len (b : List Int) (k : Nat) (c : Int) : (layN b k c).length = max b.length (k + 1) := by unfold layN; simp; omega
theorem layN_at (b : List Int) (k : Nat) (c : Int) : (layN b k c)[k]? = some c := by unfold layN; rw [List.getElem?_set_self (by simp; omega)]
theorem layN_ne (b : List Int) (k : Nat) (c : Int) {j : Nat} (hj : j < b.length) (h : j ≠ k) : (layN b k c)[j]? = b[j]? := by
  unfold layN; rw [List.getElem?_set_ne (Ne.symm h), List.getElem?_append_left hj]
/-- What is not in is laid. -/
def layB (l : List (Int × Int)) : List Int → Nat → List Int → List Int
  | b, _, [] => b
  | b, o, c :: r => layB l (if memB l o = true then b else layN b o c) (o + 1) r
theorem layB_snoc (l : List (Int × Int)) : ∀ (r : List Int) (b : List Int) (o : Nat) (c : Int), layB l b o (r ++ [c]) = if memB l ((o + r.length : Nat) : Int) = true then layB l b o r else layN (layB l b o r) (o + r.length) c
  | [], b, o, c => rfl
  | d :: r, b, o, c => by
    rw [List.cons_append]
    unfold layB
    rw [layB_snoc l r, show o + 1 + r.length = o + (d :: r).length by simp; omega]
theorem layB_len (l : List (Int × Int)) : ∀ (r : List Int) (b : List Int) (o : Nat), b.length ≤ (layB l b o r).length ∧ (layB l b o r).length ≤ max b.length (o + r.length)
  | [], b, o => by unfold layB; simp; omega
  | d :: r, b, o => by
    unfold layB
    have ih := layB_len l r (if memB l o = true then b else layN b o d) (o + 1)
    have hl := layN_len b o d
    simp only [List.length_cons]
    split at ih <;> split <;> first | contradiction | omega
/-- What was there stays, but for what is laid. -/
theorem layB_old (l : List (Int × Int)) {k : Nat} : ∀ (r : List Int) (b : List Int) (o : Nat), k < b.length → (o ≤ k ∧ k < o + r.length → memL l k) → (layB l b o r)[k]? = b[k]?
  | [], b, o, _, _ => rfl
  | d :: r, b, o, hk, hm => by
    unfold layB
    have hl := layN_len b o d
    rw [layB_old l r _ (o + 1) (by split <;> omega) (fun h => hm (by simp only [List.length_cons]; omega))]
    split
    · rfl
    · rename_i hno
      refine layN_ne b o d hk fun e => ?_
      subst e
      exact hno ((memB_iff l k).2 (hm ⟨Nat.le_refl _, by simp⟩))
theorem layB_new (l : List (Int × Int)) {k : Nat} (hm : ¬ memL l k) : ∀ (r : List Int) (b : List Int) (o : Nat), o ≤ k → k < o + r.length → (layB l b o r)[k]? = r[k - o]?
  | [], b, o, h1, h2 => by simp at h2; omega
  | d :: r, b, o, h1, h2 => by
    unfold layB
    by_cases e : o = k
    · subst e
      rw [if_neg (fun h => hm ((memB_iff l o).1 h)), layB_old l r _ (o + 1) (by rw [layN_len]; omega) (fun h => by omega), layN_at]
      simp
    · rw [layB_new l hm r _ (o + 1) (by omega) (by simp only [List.length_cons] at h2; omega), show k - o = (k - (o + 1)) + 1 by omega]
      rfl
/-- How many of some offsets are not in. -/
def frN (l : List (Int × Int)) (o : Int) : Nat → Int
  | 0 => 0
  | n + 1 => frN l o n + if memB l (o + n) = true then 0 else 1
theorem cnt_point (a : Int) (q : Int → Bool) (h0 : 0 ≤ a) : ∀ (n : Nat), cntP (fun o => decide (o = a) && q o) n = if a < n ∧ q a = true then 1 else 0
  | 0 => by unfold cntP; rw [if_neg (by omega)]
  | n + 1 => by
    unfold cntP
    rw [cnt_point a q h0 n]
    by_cases e : (n : Int) = a
    · subst e
      cases q (n : Int) <;> simp <;> omega
    · have : decide ((n : Int) = a) = false := by simpa using e
      rw [this]
      by_cases g : a < (n : Int)
      · rw [if_neg (show ¬ (false && q n) = true by simp)]
        by_cases q1 : q a = true
        · rw [if_pos ⟨g, q1⟩, if_pos ⟨by omega, q1⟩]; rfl
        · rw [if_neg (fun h => q1 h.2), if_neg (fun h => q1 h.2)]; rfl
      · rw [if_neg (fun h => g h.1), if_neg (by simp), if_neg (fun h => by omega)]; rfl
theorem frN_cnt (l : List (Int × Int)) {o : Int} (h0 : 0 ≤ o) {N : Nat} : ∀ (n : Nat), o + n ≤ N → frN l o n = cntP (fun k => (decide (o ≤ k) && decide (k < o + n)) && !memB l k) N
  | 0, _ => by
    unfold frN
    rw [← cnt_none N]
    refine cnt_congr N fun k => ?_
    have : ¬ (o ≤ k ∧ k < o + (0 : Nat)) := by omega
    cases h1 : decide (o ≤ k) <;> cases h2 : decide (k < o + (0 : Nat)) <;> simp at * <;> omega
  | n + 1, h => by
    have ih := frN_cnt l h0 n (N := N) (by omega)
    unfold frN
    rw [ih]
    have hp := cnt_point (o + n) (fun k => !memB l k) (by omega) N
    have ho := cnt_or (p := fun k => (decide (o ≤ k) && decide (k < o + n)) && !memB l k) (q := fun k => decide (k = o + n) && !memB l k) N
    have hz : cntP (fun k => ((decide (o ≤ k) && decide (k < o + n)) && !memB l k) && (decide (k = o + n) && !memB l k)) N = 0 := by
      rw [← cnt_none N]
      refine cnt_congr N fun k => ?_
      rw [Bool.eq_false_iff]
      intro hh
      simp only [Bool.and_eq_true, decide_eq_true_eq] at hh
      omega
    have he : cntP (fun k => (decide (o ≤ k) && decide (k < o + (n + 1 : Nat))) && !memB l k) N = cntP (fun k => ((decide (o ≤ k) && decide (k < o + n)) && !memB l k) || (decide (k = o + n) && !memB l k)) N := cnt_congr N fun k => by
      rw [Bool.eq_iff_iff]
      simp only [Bool.and_eq_true, Bool.or_eq_true, decide_eq_true_eq]
      constructor
      · rintro ⟨⟨h1, h2⟩, h3⟩
        by_cases e : k = o + n
        · exact .inr ⟨e, h3⟩
        · exact .inl ⟨⟨h1, by omega⟩, h3⟩
      · rintro (⟨⟨h1, h2⟩, h3⟩ | ⟨h1, h3⟩)
        · exact ⟨⟨h1, by omega⟩, h3⟩
        · exact ⟨⟨by omega, by omega⟩, h3⟩
    rw [he]
    rw [hz] at ho
    have hh : (if o + (n : Int) < N ∧ (!memB l (o + n)) = true then (1 : Int) else 0) = if memB l (o + n) = true then 0 else 1 := by
      cases hm : memB l (o + n)
      · rw [if_pos ⟨by omega, rfl⟩]; simp
      · simp
    rw [hh] at hp
    omega
/-- What is new of a span. -/
theorem fresh_is {l : List (Int × Int)} (h : OkL l) {o : Int} {n : Nat} (h0 : 0 ≤ o) (h1 : o + n ≤ 4611686018427387904) : lenS (o, o + n) - withinL l (o, o + n) = frN l o n := by
  obtain ⟨N, hN⟩ := enough
  rw [len_cnt _ hN, within_cnt hN _ h, frN_cnt l h0 n (N := N) (by omega)]
  have hs := cnt_split (p := inB (o, o + n)) (q := memB l) N
  have e1 : cntP (fun k => memB l k && inB (o, o + n) k) N = cntP (fun k => inB (o, o + n) k && memB l k) N := cnt_congr N fun k => Bool.and_comm _ _
  have e2 : cntP (fun k => (decide (o ≤ k) && decide (k < o + n)) && !memB l k) N = cntP (fun k => inB (o, o + n) k && !memB l k) N := cnt_congr N fun k => by
    have : inB (o, o + n) k = (decide (o ≤ k) && decide (k < o + n)) := by
      rw [Bool.eq_iff_iff]
      unfold inB
      rw [decide_eq_true_eq, inS_of h0 h1, Bool.and_eq_true, decide_eq_true_eq, decide_eq_true_eq]
    rw [this]
  rw [e1, e2]
  omega

/-! The next one. -/
theorem out_end {l : List (Int × Int)} : OkL l → ∀ x ∈ l, ¬ memL l x.2 := by
  induction l with
  | nil => intro _ x hx; cases hx
  | cons y l ih =>
    rintro ⟨py, ly, ok⟩ x hx hm
    rw [memL_cons] at hm
    rcases List.mem_cons.1 hx with rfl | hx
    · rcases hm with g | ⟨z, hz, h1, h2⟩
      · omega
      · have := ly z hz; omega
    · rcases hm with g | g
      · have := ly x hx; have := (ok.pr x hx).2.1; omega
      · exact ih ok x hx g
theorem gap_spec {l : List (Int × Int)} (ok : OkL l) : 0 ≤ gapL l 0 ∧ (∀ o, 0 ≤ o → o < gapL l 0 → memL l o) ∧ ¬ memL l (gapL l 0) := by
  unfold gapL
  simp only [show min (max (0 : Int) 0) 4611686018427387904 = 0 by omega]
  rcases run_cases ok 0 with ⟨h1, h2, h3, h4⟩ | ⟨h1, h2⟩
  · have hl := lenS_of (ok.pr _ h2)
    rw [if_neg (by omega)]
    exact ⟨by omega, fun o h0 ho => ⟨_, h2, by omega, ho⟩, out_end ok _ h2⟩
  · rw [h2, if_pos (by decide)]
    exact ⟨by omega, fun o h0 ho => by omega, h1⟩
theorem gap_is_of {l : List (Int × Int)} (ok : OkL l) {n : Int} (h0 : 0 ≤ n) (h1 : ∀ o, 0 ≤ o → o < n → memL l o) (h2 : ¬ memL l n) : gapL l 0 = n := by
  obtain ⟨g0, g1, g2⟩ := gap_spec ok
  rcases Int.lt_trichotomy (gapL l 0) n with h | h | h
  · exact absurd (h1 _ g0 h) g2
  · exact h
  · exact absurd (g1 _ h0 h) h2

/-! The ring. -/
theorem mod_inj {n r j k : Nat} (hj : n ≤ j ∧ j < n + r) (hk : n ≤ k ∧ k < n + r) (h : j % r = k % r) : j = k := by
  have h1 := Nat.div_add_mod j r
  have h2 := Nat.div_add_mod k r
  rw [h] at h1
  rcases Nat.lt_trichotomy (j / r) (k / r) with g | g | g
  · have : r * (j / r) + r ≤ r * (k / r) := by rw [← Nat.mul_succ]; exact Nat.mul_le_mul_left _ g
    omega
  · rw [g] at h1; omega
  · have : r * (k / r) + r ≤ r * (j / r) := by rw [← Nat.mul_succ]; exact Nat.mul_le_mul_left _ g
    omega
/-- A ring in which some places have been written. -/
def RgI (room n off : Nat) (body ring r : List Int) (P : Nat → Prop) : Prop :=
  r.length = room ∧ ∀ k, n ≤ k → k < n + room → (P k → r[k % room]? = body[k - off]?) ∧ (¬ P k → r[k % room]? = ring[k % room]?)
theorem RgI.start {room n off : Nat} {body ring : List Int} (h : ring.length = room) : RgI room n off body ring ring (fun _ => False) := ⟨h, fun _ _ _ => ⟨fun h => h.elim, fun _ => rfl⟩⟩
theorem RgI.congr {room n off : Nat} {body ring r : List Int} {P P' : Nat → Prop} (h : RgI room n off body ring r P) (e : ∀ k, n ≤ k → k < n + room → (P k ↔ P' k)) : RgI room n off body ring r P' :=
  ⟨h.1, fun k h1 h2 => ⟨fun hp => (h.2 k h1 h2).1 ((e k h1 h2).2 hp), fun hp => (h.2 k h1 h2).2 fun g => hp ((e k h1 h2).1 g)⟩⟩
theorem RgI.put {room n off : Nat} {body ring r : List Int} {P : Nat → Prop} (h : RgI room n off body ring r P) {j : Nat} (hj : n ≤ j ∧ j < n + room) {c : Int} (hc : body[j - off]? = some c) : RgI room n off body ring (r.set (j % room) c) (fun k => P k ∨ k = j) := by
  have hr : 0 < room := by omega
  have hlt : j % room < r.length := by rw [h.1]; exact Nat.mod_lt _ hr
  refine ⟨by rw [List.length_set]; exact h.1, fun k h1 h2 => ?_⟩
  by_cases e : k = j
  · subst e
    rw [List.getElem?_set_self hlt]
    exact ⟨fun _ => hc.symm, fun g => absurd (Or.inr rfl) g⟩
  · rw [List.getElem?_set_ne (fun g => e (mod_inj ⟨h1, h2⟩ hj g.symm))]
    exact ⟨fun g => (h.2 k h1 h2).1 (g.resolve_right e), fun g => (h.2 k h1 h2).2 fun g' => g (.inl g')⟩
/-- A receiver in memory has what the document says. -/
structure HOk (room : Nat) (l : List (Int × Int)) (b text ring : List Int) : Prop where
  ok : OkL l
  wnd : ∀ o, memL l o → o < text.length + room
  nx : gapL l 0 = text.length
  rl : ring.length = room
  pos : 0 < room
  bl : b.length ≤ text.length + room
  tx : text = b.take text.length
  rg : ∀ k : Nat, memL l k → text.length ≤ k → k < b.length ∧ ring[k % room]? = b[k]?
theorem hok_new {room : Nat} (h : 0 < room) (ring : List Int) (hr : ring.length = room) : HOk room [] [] [] ring :=
  ⟨trivial, fun o h => absurd h (memL_nil o), by decide, hr, h, by simp, rfl, fun k h => absurd h (memL_nil _)⟩
theorem take_old {room : Nat} {l : List (Int × Int)} {b text ring : List Int} (h : HOk room l b text ring) (off : Nat) (body : List Int) : (layB l b off body).take text.length = text := by
  have htl : text.length ≤ b.length := by have := congrArg List.length h.tx; rw [List.length_take] at this; omega
  have hm := (gap_spec h.ok).2.1
  have hl := (layB_len l body b off).1
  conv => rhs; rw [h.tx]
  refine List.ext_getElem? fun k => ?_
  rw [List.getElem?_take, List.getElem?_take]
  split
  · rename_i g
    rw [layB_old l body b off (by omega) fun _ => hm k (by omega) (by rw [h.nx]; omega)]
  · rfl
/-- A segment is taken. -/
theorem take_ok {room : Nat} {l : List (Int × Int)} {b text ring body ring' : List Int} {off : Nat} (h : HOk room l b text ring) (hb : 0 < body.length) (ho : off + body.length ≤ text.length + room) (hbig : text.length + room ≤ 4611686018427387904)
    (hr : RgI room text.length off body ring ring' (fun k => (off ≤ k ∧ k < off + body.length) ∧ ¬ memL l k)) (n' : Nat) (hn' : gapL (addL l ((off : Int), (off : Int) + body.length)) 0 = n') :
    text.length ≤ n' ∧ n' ≤ text.length + room ∧ (∀ j, text.length ≤ j → j < n' → ∃ c, ring'[j % room]? = some c ∧ (layB l b off body).take j ++ [c] = (layB l b off body).take (j + 1)) ∧
      HOk room (addL l ((off : Int), (off : Int) + body.length)) (layB l b off body) ((layB l b off body).take n') ring' := by
  have hs : PrS ((off : Int), (off : Int) + body.length) := ⟨by simp only; omega, by simp only; omega, by simp only; omega⟩
  obtain ⟨ok', mem'⟩ := add_ok h.ok hs
  simp only at mem'
  obtain ⟨g0, g1, g2⟩ := gap_spec h.ok
  obtain ⟨e0, e1, e2⟩ := gap_spec ok'
  rw [h.nx] at g1 g2
  rw [hn'] at e0 e1 e2
  have hw' : ∀ o, memL (addL l ((off : Int), (off : Int) + body.length)) o → o < text.length + room := fun o ho' => by
    rcases (mem' o).1 ho' with g | g
    · exact h.wnd o g
    · omega
  have hle : text.length ≤ n' := by
    rcases Nat.lt_or_ge n' text.length with g | g
    · exact absurd ((mem' _).2 (.inl (g1 n' (by omega) (by omega)))) e2
    · exact g
  have hge : n' ≤ text.length + room := by
    rcases Nat.lt_or_ge 0 n' with g | g
    · have := hw' ((n' - 1 : Nat) : Int) (e1 _ (by omega) (by omega))
      omega
    · omega
  have hB := layB_len l body b off
  have key : ∀ k : Nat, memL (addL l ((off : Int), (off : Int) + body.length)) k → text.length ≤ k → k < (layB l b off body).length ∧ ring'[k % room]? = (layB l b off body)[k]? := fun k hk hge' => by
    have hk2 := hw' k hk
    obtain ⟨r1, r2⟩ := hr.2 k hge' (by omega)
    by_cases hm : memL l k
    · obtain ⟨q1, q2⟩ := h.rg k hm hge'
      exact ⟨by omega, by rw [r2 (fun g => g.2 hm), q2, layB_old l body b off q1 fun _ => hm]⟩
    · have hin : off ≤ k ∧ k < off + body.length := by
        rcases (mem' _).1 hk with g | g
        · exact absurd g hm
        · omega
      have e : (layB l b off body)[k]? = body[k - off]? := layB_new l hm body b off hin.1 hin.2
      rw [r1 ⟨hin, hm⟩, e]
      have hlt : k - off < body.length := by omega
      rw [List.getElem?_eq_getElem hlt] at e
      exact ⟨(List.getElem?_eq_some_iff.1 e).1, rfl⟩
  have hin : ∀ j, text.length ≤ j → j < n' → ∃ c, ring'[j % room]? = some c ∧ (layB l b off body)[j]? = some c := fun j h1 h2 => by
    obtain ⟨k1, k2⟩ := key j (e1 j (by omega) (by omega)) h1
    exact ⟨(layB l b off body)[j], by rw [k2]; exact List.getElem?_eq_getElem k1, List.getElem?_eq_getElem k1⟩
  have htl : text.length ≤ b.length := by have := congrArg List.length h.tx; rw [List.length_take] at this; omega
  have hlen : n' ≤ (layB l b off body).length := by
    rcases Nat.lt_or_ge text.length n' with g | g
    · obtain ⟨c, _, hc⟩ := hin (n' - 1) (by omega) (by omega)
      have := (List.getElem?_eq_some_iff.1 hc).1
      omega
    · omega
  have hn : ((layB l b off body).take n').length = n' := by rw [List.length_take]; omega
  refine ⟨hle, hge, fun j h1 h2 => ?_, ok', fun o ho' => ?_, by rw [hn]; exact hn', hr.1, h.pos, ?_, by rw [hn], fun k hk hge' => ?_⟩
  · obtain ⟨c, c1, c2⟩ := hin j h1 h2
    exact ⟨c, c1, by rw [List.take_add_one, c2]; rfl⟩
  · have := hw' o ho'; rw [hn]; omega
  · have := h.bl; rw [hn]; omega
  · rw [hn] at hge'
    exact key k hk (by omega)
end Go.Und
