/- Sets of offsets: closures, sort.Search, first: walked. -/
import Derived.Test.YtfobeheplficgaaSps
import Derived.Test.YtfobeheplficgaaRns
import Derived.Test.YtfobeheplficgaaOc3
import Derived.Laws.EntriesVeiled
import Derived.RangeFuncOwn
import Derived.Shelf.Abstract
set_option linter.unusedVariables false
set_option linter.unusedSimpArgs false
namespace Go.Proofs.Ytfobeheplficgaa
open Go.RowKit Go.Und Go.Shelf
attribute [local go_sem] Oper.semAt_some
attribute [local go_sem ↓] Go.wp_at_zero Go.wp_at_succ

abbrev RnT : TypeId := 92
abbrev RpT : TypeId := 26
abbrev PfT : TypeId := 95
abbrev SlT : TypeId := 22
abbrev srow (q : Option Addr) (cap : Nat) (l : List (Int × Int)) : Ob := Ob.row 0 SpT 2 (.slice q l.length cap) l.length (fc spc l)
/-- A set in memory. -/
abbrev rns (p : Nat) (q : Option Addr) (cap : Nat) (l : List (Int × Int)) : List Ob := [Ob.blk p RnT #[.slice q l.length cap], srow q cap l]
/-- What a closure says of a span, in whatever world to come. -/
def PredF (g : Nat) (cb : Array Value) (p : Int × Int → Bool) (w : World) : Prop := ∀ (x : Int × Int) (W : World), Fr None w W → Calls Try.prog g (#[spV x] ++ cb) W fun e w' => e = .returned (.bool (p x)) ∧ Fr None W w'
theorem PredF.fr {g : Nat} {cb : Array Value} {p : Int × Int → Bool} {w w' : World} (h : PredF g cb p w) (f : Fr None w w') : PredF g cb p w' := fun x W hf => h x W (f.trans hf)
theorem add1_pred (cb : Nat) (k : Int) (w : World) (hc : w.cell? ⟨cb, 0, none⟩ = some (.int .i64 k)) : PredF 53 #[.pointer (at0 cb)] (fun x => decide (k ≤ x.2)) w := by
  intro x W hf
  obtain ⟨x1, x2⟩ := x
  have c1 := cell_frN hf hc
  have hlt : cb < W.heap.size := World.block_lt_of_cell? W _ c1
  have F := Lib.hid ((Fr.refl None W).alloc (.cells #[.int .i64 x1, .int .i64 x2] SpT))
  clear hf hc
  show Calls _ _ #[.agg #[.int .i64 x1, .int .i64 x2], .pointer (at0 cb)] W _
  go_enter Try.func53, Try.ntmps53
  go_wp2_with fail
  go_ret
  exact ⟨rfl, F.out⟩
theorem add2_pred (cb : Nat) (k : Int) (w : World) (hc : w.cell? ⟨cb, 1, none⟩ = some (.int .i64 k)) : PredF 54 #[.pointer (at0 cb)] (fun x => decide (k < x.1)) w := by
  intro x W hf
  obtain ⟨x1, x2⟩ := x
  have c1 := cell_frN hf hc
  have hlt : cb < W.heap.size := World.block_lt_of_cell? W _ c1
  have F := Lib.hid ((Fr.refl None W).alloc (.cells #[.int .i64 x1, .int .i64 x2] SpT))
  clear hf hc
  show Calls _ _ #[.agg #[.int .i64 x1, .int .i64 x2], .pointer (at0 cb)] W _
  go_enter Try.func54, Try.ntmps54
  go_wp2_with fail
  go_ret
  exact ⟨rfl, F.out⟩
theorem rem1_pred (cb : Nat) (k : Int) (w : World) (hc : w.cell? ⟨cb, 0, none⟩ = some (.int .i64 k)) : PredF 62 #[.pointer (at0 cb)] (fun x => decide (k < x.2)) w := by
  intro x W hf
  obtain ⟨x1, x2⟩ := x
  have c1 := cell_frN hf hc
  have hlt : cb < W.heap.size := World.block_lt_of_cell? W _ c1
  have F := Lib.hid ((Fr.refl None W).alloc (.cells #[.int .i64 x1, .int .i64 x2] SpT))
  clear hf hc
  show Calls _ _ #[.agg #[.int .i64 x1, .int .i64 x2], .pointer (at0 cb)] W _
  go_enter Try.func62, Try.ntmps62
  go_wp2_with fail
  go_ret
  exact ⟨rfl, F.out⟩
theorem rem2_pred (cb : Nat) (k : Int) (w : World) (hc : w.cell? ⟨cb, 1, none⟩ = some (.int .i64 k)) : PredF 63 #[.pointer (at0 cb)] (fun x => decide (k ≤ x.1)) w := by
  intro x W hf
  obtain ⟨x1, x2⟩ := x
  have c1 := cell_frN hf hc
  have hlt : cb < W.heap.size := World.block_lt_of_cell? W _ c1
  have F := Lib.hid ((Fr.refl None W).alloc (.cells #[.int .i64 x1, .int .i64 x2] SpT))
  clear hf hc
  show Calls _ _ #[.agg #[.int .i64 x1, .int .i64 x2], .pointer (at0 cb)] W _
  go_enter Try.func63, Try.ntmps63
  go_wp2_with fail
  go_ret
  exact ⟨rfl, F.out⟩
theorem run1_pred (cb : Nat) (k : Int) (w : World) (hc : w.cell? ⟨cb, 0, none⟩ = some (.int .i64 k)) : PredF 69 #[.pointer (at0 cb)] (fun x => decide (k < x.2)) w := by
  intro x W hf
  obtain ⟨x1, x2⟩ := x
  have c1 := cell_frN hf hc
  have hlt : cb < W.heap.size := World.block_lt_of_cell? W _ c1
  have F := Lib.hid ((Fr.refl None W).alloc (.cells #[.int .i64 x1, .int .i64 x2] SpT))
  clear hf hc
  show Calls _ _ #[.agg #[.int .i64 x1, .int .i64 x2], .pointer (at0 cb)] W _
  go_enter Try.func69, Try.ntmps69
  go_wp2_with fail
  go_ret
  exact ⟨rfl, F.out⟩
theorem next1_pred (cb : Nat) (k : Int) (w : World) (hc : w.cell? ⟨cb, 0, none⟩ = some (.int .i64 k)) : PredF 70 #[.pointer (at0 cb)] (fun x => decide (k < x.2)) w := by
  intro x W hf
  obtain ⟨x1, x2⟩ := x
  have c1 := cell_frN hf hc
  have hlt : cb < W.heap.size := World.block_lt_of_cell? W _ c1
  have F := Lib.hid ((Fr.refl None W).alloc (.cells #[.int .i64 x1, .int .i64 x2] SpT))
  clear hf hc
  show Calls _ _ #[.agg #[.int .i64 x1, .int .i64 x2], .pointer (at0 cb)] W _
  go_enter Try.func70, Try.ntmps70
  go_wp2_with fail
  go_ret
  exact ⟨rfl, F.out⟩
theorem meets11_pred (cb : Nat) (k : Int) (w : World) (hc : w.cell? ⟨cb, 0, none⟩ = some (.int .i64 k)) : PredF 91 #[.pointer (at0 cb)] (fun x => decide (k < x.2)) w := by
  intro x W hf
  obtain ⟨x1, x2⟩ := x
  have c1 := cell_frN hf hc
  have hlt : cb < W.heap.size := World.block_lt_of_cell? W _ c1
  have F := Lib.hid ((Fr.refl None W).alloc (.cells #[.int .i64 x1, .int .i64 x2] SpT))
  clear hf hc
  show Calls _ _ #[.agg #[.int .i64 x1, .int .i64 x2], .pointer (at0 cb)] W _
  go_enter Try.func91, Try.ntmps91
  go_wp2_with fail
  go_ret
  exact ⟨rfl, F.out⟩

set_option maxHeartbeats 2000000 in
theorem search_any (g : Nat) (cb : Array Value) (n : Nat) (p : Nat → Bool) (w : World) (eg : ∀ args w, (callFunc g args).run Try.prog w = .ok (.enter g args) w)
    (hf : ∀ i W, i < n → Fr None w W → Calls Try.prog g (#[.int .i64 (i : Int)] ++ cb) W fun e w' => e = .returned (.bool (p i)) ∧ Fr None W w')
    (mono : ∀ a b, a ≤ b → b < n → p a = true → p b = true) (hn : n ≤ 1000000) :
    Calls Try.prog 85 #[.int .i64 (n : Int), .func (.func g) #[] cb] w fun e w' => ∃ k : Nat, e = .returned (.int .i64 (k : Int)) ∧ k ≤ n ∧ (∀ i, i < k → p i = false) ∧ (∀ i, k ≤ i → i < n → p i = true) ∧ Fr None w w' := by
  have HF := Lib.hid hf
  have HM := Lib.hid mono
  clear hf mono
  go_enter Try.func85, Try.ntmps85
  go_wp2_with fail
  go_loopg [5, 6] n (fun r iv jv wr => ∃ i j : Nat, i + r = j ∧ j ≤ n ∧ iv = .int .i64 (i : Int) ∧ jv = .int .i64 (j : Int) ∧ (∀ a, a < i → p a = false) ∧ (∀ a, j ≤ a → a < n → p a = true) ∧ Fr None w wr)
  case atStart => exact ⟨0, n, by omega, Nat.le_refl _, rfl, rfl, fun a h => (by omega), fun a h1 h2 => (by omega), Fr.refl None w⟩
  case round =>
    obtain ⟨i, j, hr, hj, rfl, rfl, h1, h2, f⟩ := hrel
    have H1 := Lib.hid h1
    have H2 := Lib.hid h2
    have HFr := Lib.hid f
    clear h1 h2 f
    by_cases hij : i < j
    · have hd : decide ((i : Int) < (j : Int)) = true := decide_eq_true (by omega)
      go_wp2_with fail
      obtain ⟨h, hh⟩ : ∃ h : Nat, (i + j) / 2 = h := ⟨_, rfl⟩
      rw [show ((i : Int) + j) / 2 = (h : Int) by omega]
      have hih : i ≤ h := by omega
      have hhj : h < j := by omega
      clear hh
      refine (HF.out h wr (by omega) HFr.out).mono ?_
      rintro e w1 ⟨rfl, f1⟩
      have F1 := Lib.hid (HFr.out.trans f1)
      clear f1 HFr
      cases hp : p h with
      | false =>
        have HP := Lib.hid hp
        clear hp
        go_wp2_with fail
        go_roundg (j - (h + 1))
        case measure => omega
        case rel => exact ⟨h + 1, j, by omega, hj, by go_num, rfl, fun a ha => (by
          cases ha2 : p a with
          | false => rfl
          | true => have := HM.out a h (by omega) (by omega) ha2; rw [HP.out] at this; cases this), H2.out, F1.out⟩
      | true =>
        have HP := Lib.hid hp
        clear hp
        go_wp2_with fail
        go_roundg (h - i)
        case measure => omega
        case rel => exact ⟨i, h, by omega, by omega, rfl, rfl, H1.out, fun a h1 h2 => HM.out h a h1 h2 HP.out, F1.out⟩
    · have hd : decide ((i : Int) < (j : Int)) = false := decide_eq_false (by omega)
      obtain rfl : i = j := by omega
      go_wp2_with fail
      go_ret
      exact ⟨i, rfl, hj, H1.out, H2.out, HFr.out⟩

theorem fstP_is (p : Int × Int → Bool) : ∀ (l : List (Int × Int)) (k : Nat), k ≤ l.length → (∀ i x, i < k → l[i]? = some x → p x = false) → (∀ i x, k ≤ i → l[i]? = some x → p x = true) → fstP p l = k
  | [], k, h, _, _ => by simp at h; subst h; rfl
  | y :: l, 0, _, _, h2 => by
    unfold fstP
    rw [List.takeWhile_cons, if_neg (by have := h2 0 y (Nat.le_refl _) rfl; simp [this])]
    rfl
  | y :: l, k + 1, h, h1, h2 => by
    have ih := fstP_is p l k (by simpa using h) (fun i x hi hx => h1 (i + 1) x (by omega) (by simpa using hx)) (fun i x hi hx => h2 (i + 1) x (by omega) (by simpa using hx))
    unfold fstP at *
    rw [List.takeWhile_cons, if_pos (by have := h1 0 y (by omega) rfl; simp [this]), List.length_cons, ih]
set_option maxRecDepth 100000 in
set_option maxHeartbeats 4000000 in
theorem first1_any (rb hb rp : Nat) (q : Option Addr) (cap : Nat) (l : List (Int × Int)) (g : Nat) (cb : Array Value) (p : Int × Int → Bool) (w : World) (eg : ∀ args w, (callFunc g args).run Try.prog w = .ok (.enter g args) w)
    (c1 : w.cell? ⟨hb, 0, none⟩ = some (.func (.func g) #[] cb)) (c2 : w.cell? ⟨rb, 0, none⟩ = some (.pointer (at0 rp))) (c3 : w.cell? ⟨rp, 0, none⟩ = some (.slice q l.length cap)) (hr : Reads w 2 q l.length cap (fc spc l)) (hp : PredF g cb p w) (hl : l.length ≤ 1000000)
    (i : Nat) (x : Int × Int) (hx : l[i]? = some x) :
    Calls Try.prog 86 #[.int .i64 (i : Int), .pointer (at0 hb), .pointer (at0 rb)] w fun e w' => e = .returned (.bool (p x)) ∧ Fr None w w' := by
  obtain ⟨b, off, rfl, hc⟩ := hr.elem spc_len (by decide) hx
  have hlt := (List.getElem?_eq_some_iff.1 hx).1
  obtain ⟨x1, x2⟩ := x
  have d1 : w.cell? ⟨b, off + i * 2, none⟩ = some (.int .i64 x1) := hc 0 _ rfl
  have d2 : w.cell? ⟨b, off + i * 2 + 1, none⟩ = some (.int .i64 x2) := hc 1 _ rfl
  have HP := Lib.hid (hp (x1, x2))
  clear hp hr hx hc
  go_enter Try.func86, Try.ntmps86
  go_wp2_with fail
  go_region_held3 (fun w' => w'.cell? ⟨hb, 0, none⟩ = some (.func (.func g) #[] cb) ∧ w'.cell? ⟨rb, 0, none⟩ = some (.pointer (at0 rp)) ∧ w'.cell? ⟨rp, 0, none⟩ = some (.slice (some ⟨b, off, none⟩) l.length cap) ∧ w'.cell? ⟨b, off + i * 2, none⟩ = some (.int .i64 x1) ∧ w'.cell? ⟨b, off + i * 2 + 1, none⟩ = some (.int .i64 x2)) (first | (with_reducible assumption) | (go_keep; done)) (first
    | ((with_reducible refine (HP.out _ ((Fr.refl None w).drew)).mono ?_); rintro e w3 ⟨rfl, f3⟩; have HF3 := Lib.hid ((Fr.refl None w).drew.trans f3); have K3 := And.intro (cell_frN HF3.out c1) (And.intro (cell_frN HF3.out c2) (And.intro (cell_frN HF3.out c3) (And.intro (cell_frN HF3.out d1) (cell_frN HF3.out d2)))); clear f3)
    | fail)
  clear K3 c1 c2 c3 d1 d2
  go_wp2_with fail
  go_ret
  exact ⟨rfl, HF3.out⟩
set_option maxRecDepth 100000 in
set_option maxHeartbeats 4000000 in
theorem first_any (rp : Nat) (q : Option Addr) (cap : Nat) (l : List (Int × Int)) (g : Nat) (cb : Array Value) (p : Int × Int → Bool) (w : World) (eg : ∀ args w, (callFunc g args).run Try.prog w = .ok (.enter g args) w)
    (c3 : w.cell? ⟨rp, 0, none⟩ = some (.slice q l.length cap)) (hr : Reads w 2 q l.length cap (fc spc l)) (hp : PredF g cb p w) (hl : l.length ≤ 1000000) (mono : l.Pairwise fun a b => p a = true → p b = true) :
    Calls Try.prog 52 #[.pointer (at0 rp), .func (.func g) #[] cb] w fun e w' => e = .returned (.int .i64 (fstP p l : Int)) ∧ Fr None w w' := by
  have S0 := (((Sep.law w).alloc #[.pointer (at0 rp)] RpT).alloc #[.func (.func g) #[] cb] PfT)
  simp only [World.size_alloc] at S0
  have hlt : rp < w.heap.size := World.block_lt_of_cell? w _ c3
  have HS := Lib.hid S0
  have hse := search_any 86 #[.pointer (at0 (w.heap.size + 1)), .pointer (at0 w.heap.size)] l.length (fun i => match l[i]? with | some x => p x | none => true) _ (enters_of Try.func86 (by kernel_rfl) rfl) (fun i W hi hW => by
      have hx := List.getElem?_eq_getElem hi
      have f := S0.fr.trans hW
      have h1 := first1_any w.heap.size (w.heap.size + 1) rp q cap l g cb p W eg (cell_frN hW ((S0.at_ 0 rfl).cell 0)) (cell_frN hW ((S0.at_ 1 rfl).cell 0)) (cell_frN f c3) (hr.fr f (fun _ _ h => h)) (hp.fr f) hl i l[i] hx
      rw [hx]
      exact h1) (fun a b hab hb ha => by
        have h1 := List.getElem?_eq_getElem hb
        have h2 := List.getElem?_eq_getElem (show a < l.length by omega)
        rw [h2] at ha
        rw [h1]
        rcases Nat.lt_or_ge a b with h | h
        · exact List.pairwise_iff_getElem.1 mono a b (by omega) hb h ha
        · obtain rfl : a = b := by omega
          exact ha) hl
  have HSE := Lib.hid hse
  clear S0 hp hr mono hse
  go_enter Try.func52, Try.ntmps52
  go_wp2_with fail
  refine HSE.out.mono ?_
  rintro e w1 ⟨k, rfl, hk, h1, h2, f1⟩
  have e1 : fstP p l = k := fstP_is p l k hk (fun i x hi hx => by have := h1 i hi; rw [hx] at this; exact this) (fun i x hi hx => by have := h2 i hi (List.getElem?_eq_some_iff.1 hx).1; rw [hx] at this; exact this)
  have E := Lib.hid e1
  have F := Lib.hid (HS.out.fr.trans f1)
  clear h1 h2 f1 HS HSE e1
  go_wp2_with fail
  go_ret
  exact ⟨by rw [E.out]; rfl, F.out⟩
end Go.Proofs.Ytfobeheplficgaa
