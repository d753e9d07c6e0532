import Derived.Test.YtbiimpchbiniaaaRows
import Derived.WalkKit
import Derived.WalkSpells
import Derived.Lib.Hide
import Derived.LoopN
import Derived.WalkLawsBesides
import Derived.BigQuiet
import Derived.Deep.QuietTactic
namespace Go.Proofs.Ytbiimpchbiniaaa
open Go.RowKit

/-- What a constructor hands back: some pointer, and an error's number; nothing that was there has turned. -/
def Made (e : Ending) (n : Int) (w w' : World) : Prop := ∃ p, e = .returned (.tuple #[.pointer p, .int .i64 n]) ∧ Below w.heap.size w w'
theorem Made.mk {p : Option Addr} {m n : Int} {w w' : World} (h : m = n) (hb : Below w.heap.size w w') : Made (.returned (.tuple #[.pointer p, .int .i64 m])) n w w' := ⟨p, by rw [h], hb⟩

abbrev winOk (mss start most : Int) : Prop := 1 ≤ mss ∧ mss ≤ 2048 ∧ mss ≤ most ∧ most ≤ 1048576 ∧ mss ≤ start ∧ start ≤ most
def winE (a b c : Int) : Int := if winOk a b c then 0 else 2
abbrev estOk (least most : Int) : Prop := 1 ≤ least ∧ most ≤ 68719476736 ∧ least ≤ most
def estE (a b : Int) : Int := if estOk a b then 0 else 2
abbrev rackOk (f : Int) : Prop := 0 ≤ f ∧ f ≤ 68719476736
def rackE (a : Int) : Int := if rackOk a then 0 else 2
abbrev bufOk (most : Int) : Prop := 1 ≤ most ∧ most ≤ 65536
def bufE (a : Int) : Int := if bufOk a then 0 else 2

set_option maxHeartbeats 400000 in
theorem winNew_any (a b c : Int) (w : World) :
    Calls Try.prog 9 #[.int .i64 a, .int .i64 b, .int .i64 c] w fun e w' => Made e (winE a b c) w w' := by
  go_enter Try.func9, Try.ntmps9
  go_wp2
  all_goals go_ret2
  all_goals first
    | exact Made.mk (by unfold winE; rw [if_neg (by unfold winOk; omega)]) (Below.refl _ _)
    | exact Made.mk (by unfold winE; rw [if_pos (by unfold winOk; omega)]) ((Below.refl _ _).alloc (Nat.le_refl _) _)

set_option maxHeartbeats 400000 in
theorem estNew_any (a b : Int) (w : World) :
    Calls Try.prog 10 #[.int .i64 a, .int .i64 b] w fun e w' => Made e (estE a b) w w' := by
  go_enter Try.func10, Try.ntmps10
  go_wp2
  all_goals go_ret2
  all_goals first
    | exact Made.mk (by unfold estE; rw [if_neg (by unfold estOk; omega)]) (Below.refl _ _)
    | exact Made.mk (by unfold estE; rw [if_pos (by unfold estOk; omega)]) ((Below.refl _ _).alloc (Nat.le_refl _) _)

set_option maxHeartbeats 400000 in
theorem rackNew_any (a : Int) (w : World) :
    Calls Try.prog 11 #[.int .i64 a] w fun e w' => Made e (rackE a) w w' := by
  go_enter Try.func11, Try.ntmps11
  go_wp2
  all_goals go_ret2
  all_goals first
    | exact Made.mk (by unfold rackE; rw [if_neg (by unfold rackOk; omega)]) (Below.refl _ _)
    | exact Made.mk (by unfold rackE; rw [if_pos (by unfold rackOk; omega)]) ((Below.refl _ _).alloc (Nat.le_refl _) _)

theorem Try.info5 : (Try.prog.info? 5).map (fun i => (i.zero, i.size, i.bytes)) = some (some (.int .u8 0), 1, 1) := by kernel_rfl

theorem run_make_bytes (b : Int) (h0 : 0 ≤ b) (h1 : b ≤ 65536) (w : World) : (Instr.makeSlice 52 (.int .i64 b) (.int .i64 b)).run Try.prog w =
    .ok (.slice (some ⟨w.heap.size, 0, none⟩) b.toNat b.toNat) (w.alloc (.cells (madeCells #[.int .u8 0] b.toNat) 5)) := by
  obtain ⟨i0, hi, hz0, hz1, hz2⟩ := info_parts Try.info5
  have h := run_make (P := Try.prog) w 52 5 i0 (.int .u8 0) Try.underlying52 hi hz0 .i64 .i64 b b h0 (Int.le_refl _) (by rw [hz2]; omega) (by omega)
  rw [hz1, Nat.mul_one] at h
  exact h

set_option maxHeartbeats 400000 in
theorem bufNew_any (b : Int) (w : World) :
    Calls Try.prog 12 #[.int .i64 0, .int .i64 b] w fun e w' => Made e (bufE b) w w' := by
  by_cases hb : 1 ≤ b ∧ b ≤ 65536
  · obtain ⟨h1, h2⟩ := hb
    have hmk := run_make_bytes b (by omega) h2
    go_enter Try.func12, Try.ntmps12
    go_wp2
    all_goals go_ret2
    exact Made.mk (by unfold bufE; rw [if_pos (by unfold bufOk; omega)]) (((Below.refl _ _).alloc (Nat.le_refl _) _).alloc (by simp) _)
  · go_enter Try.func12, Try.ntmps12
    go_wp2
    all_goals go_ret2
    all_goals exact Made.mk (by unfold bufE; rw [if_neg (by unfold bufOk; omega)]) (Below.refl _ _)

def right17 (a b c : Int) : Bool := decide (winOk a b c)
theorem ret_int {k : IntKind} {a b : Int} (h : a = b) : Ending.returned (.int k a) = .returned (.int k b) := by rw [h]
theorem ret_bool {a b : Bool} (h : a = b) : Ending.returned (.bool a) = .returned (.bool b) := by rw [h]

set_option maxHeartbeats 400000 in
theorem right17_any (a b c : Int) (w : World) :
    Calls Try.prog 13 #[.int .i64 a, .int .i64 b, .int .i64 c] w fun e w' => e = .returned (.bool (right17 a b c)) ∧ w = w' := by
  go_enter Try.func13, Try.ntmps13
  go_wp2
  all_goals go_ret
  all_goals refine ⟨ret_bool ?_, rfl⟩
  all_goals (refine Bool.eq_iff_iff.2 ?_; simp [right17, winOk]; omega)

def right11 (a b : Int) : Bool := decide (estOk a b)
set_option maxHeartbeats 400000 in
theorem right11_any (a b : Int) (w : World) :
    Calls Try.prog 14 #[.int .i64 a, .int .i64 b] w fun e w' => e = .returned (.bool (right11 a b)) ∧ w = w' := by
  go_enter Try.func14, Try.ntmps14
  go_wp2
  all_goals go_ret
  all_goals refine ⟨ret_bool ?_, rfl⟩
  all_goals (refine Bool.eq_iff_iff.2 ?_; simp [right11, estOk]; omega)

/-- The configuration as the program holds it. -/
structure Cfg where
  (first mss buffer start most minRto maxRto floor : Int)
def Cfg.val (c : Cfg) : Value := .agg #[.int .u32 c.first, .int .i64 c.mss, .int .i64 c.buffer, .int .i64 c.start, .int .i64 c.most, .int .i64 c.minRto, .int .i64 c.maxRto, .int .i64 c.floor]
abbrev Cfg.right (c : Cfg) : Prop := winOk c.mss c.start c.most ∧ estOk c.minRto c.maxRto ∧ rackOk c.floor ∧ bufOk c.buffer
def Cfg.e (c : Cfg) : Int := if c.right then 0 else 2

theorem winE_cases (a b c : Int) : winE a b c = 0 ∧ winOk a b c ∨ winE a b c = 2 ∧ ¬ winOk a b c := by
  unfold winE; split <;> (rename_i h; first | exact .inl ⟨rfl, h⟩ | exact .inr ⟨rfl, h⟩)
theorem estE_cases (a b : Int) : estE a b = 0 ∧ estOk a b ∨ estE a b = 2 ∧ ¬ estOk a b := by
  unfold estE; split <;> (rename_i h; first | exact .inl ⟨rfl, h⟩ | exact .inr ⟨rfl, h⟩)
theorem rackE_cases (a : Int) : rackE a = 0 ∧ rackOk a ∨ rackE a = 2 ∧ ¬ rackOk a := by
  unfold rackE; split <;> (rename_i h; first | exact .inl ⟨rfl, h⟩ | exact .inr ⟨rfl, h⟩)
theorem bufE_cases (a : Int) : bufE a = 0 ∧ bufOk a ∨ bufE a = 2 ∧ ¬ bufOk a := by
  unfold bufE; split <;> (rename_i h; first | exact .inl ⟨rfl, h⟩ | exact .inr ⟨rfl, h⟩)

/-- Block b reads as these cells. -/
def Reads (w : World) (b : Nat) (cs : Array Value) : Prop := b < w.heap.size ∧ ∀ o, w.cell? ⟨b, o, none⟩ = cs[o]?
theorem Reads.new (w : World) (cs : Array Value) (t : TypeId) : Reads (w.alloc (.cells cs t)) w.heap.size cs := by
  refine ⟨by simp, fun o => ?_⟩
  simp [World.cell?_alloc_new]
theorem Reads.below {w w' : World} {b : Nat} {cs : Array Value} (h : Reads w b cs) (hb : Below w.heap.size w w') : Reads w' b cs :=
  ⟨Nat.lt_of_lt_of_le h.1 hb.size, fun o => (hb.cell (p := ⟨b, o, none⟩) h.1).trans (h.2 o)⟩
theorem Reads.alloc {w : World} {b : Nat} {cs : Array Value} (h : Reads w b cs) (o : Obj) : Reads (w.alloc o) b cs :=
  h.below ((Below.refl _ _).alloc (Nat.le_refl _) _)

/-- The configuration's cells. -/
def Cfg.cells (c : Cfg) : Array Value := #[.int .u32 c.first, .int .i64 c.mss, .int .i64 c.buffer, .int .i64 c.start, .int .i64 c.most, .int .i64 c.minRto, .int .i64 c.maxRto, .int .i64 c.floor]

set_option maxHeartbeats 800000 in
theorem check_any (c : Cfg) (w : World) :
    Calls Try.prog 7 #[c.val] w fun e w' => e = .returned (.int .i64 c.e) ∧ Below w.heap.size w w' := by
  obtain ⟨c0, c1, c2, c3, c4, c5, c6, c7⟩ := c
  simp only [Cfg.val]
  have hr0 := Reads.new w #[.int .u32 c0, .int .i64 c1, .int .i64 c2, .int .i64 c3, .int .i64 c4, .int .i64 c5, .int .i64 c6, .int .i64 c7] 24
  have Hr0 := Lib.hid hr0; clear hr0
  go_enter Try.func7, Try.ntmps7
  go_wp2_with (first
    | (go_at_call 9; refine (winNew_any _ _ _ _).mono ?_; rintro e w1 ⟨p1, rfl, hb1⟩; have hr1 := Hr0.out.below hb1; obtain ⟨_, hc1⟩ := hr1)
    | (go_at_call 10; refine (estNew_any _ _ _).mono ?_; rintro e w2 ⟨p2, rfl, hb2⟩; have hr2 := (Hr0.out.below hb1).below hb2; obtain ⟨_, hc2⟩ := hr2)
    | (go_at_call 11; refine (rackNew_any _ _).mono ?_; rintro e w3 ⟨p3, rfl, hb3⟩; have hr3 := ((Hr0.out.below hb1).below hb2).below hb3; obtain ⟨_, hc3⟩ := hr3)
    | (go_at_call 12; refine (bufNew_any _ _).mono ?_; rintro e w4 ⟨p4, rfl, hb4⟩))
  have W1 := Lib.hid (winE_cases c1 c3 c4)
  have W2 := Lib.hid (estE_cases c5 c6)
  have W3 := Lib.hid (rackE_cases c7)
  have W4 := Lib.hid (bufE_cases c2)
  have HB := Lib.hid (((((Below.refl w.heap.size w).alloc (Nat.le_refl _) (.cells #[.int .u32 c0, .int .i64 c1, .int .i64 c2, .int .i64 c3, .int .i64 c4, .int .i64 c5, .int .i64 c6, .int .i64 c7] 24 (0, 0))).trans (hb1.mono (by simp))).trans (hb2.mono (by have := hb1.size; simp at this; omega))).trans (hb3.mono (by have := hb1.size; have := hb2.size; simp at *; omega)))
  have HB4 := Lib.hid hb4
  have hz : w.heap.size < w3.heap.size := by assumption
  have hz4 := hb4.size
  clear hb1 hb2 hb3 hb4 hc1 hc2 hc3 Hr0
  generalize winE c1 c3 c4 = x1 at *
  generalize estE c5 c6 = x2 at *
  generalize rackE c7 = x3 at *
  generalize bufE c2 = x4 at *
  refine wp_loop_rounds 5 ?_
  repeat any_goals (rw [rounds_succ]; go_wp2_with fail)
  all_goals (go_ret; have W1 := W1.out; have W2 := W2.out; have W3 := W3.out; have W4 := W4.out; have HB := HB.out; simp only [bne_iff_ne, bne_eq_false_iff_eq] at *; refine ⟨ret_int ?_, ?_⟩; rotate_left)
  all_goals first | exact (HB.trans (HB4.out.mono (by omega))).alloc (by omega) _ | skip
  all_goals (show _ = (if winOk c1 c3 c4 ∧ estOk c5 c6 ∧ rackOk c7 ∧ bufOk c2 then (0 : Int) else 2); first | rw [if_pos (by omega)] | rw [if_neg (by omega)])

set_option maxHeartbeats 800000 in
theorem refCheck_any (c : Cfg) (w : World) :
    Calls Try.prog 8 #[c.val] w fun e w' => e = .returned (.int .i64 c.e) ∧ Below w.heap.size w w' := by
  obtain ⟨c0, c1, c2, c3, c4, c5, c6, c7⟩ := c
  simp only [Cfg.val]
  by_cases h1 : winOk c1 c3 c4
  · by_cases h2 : estOk c5 c6
    · have r1 : right17 c1 c3 c4 = true := decide_eq_true h1
      have r2 : right11 c5 c6 = true := decide_eq_true h2
      have H := Lib.hid (And.intro h1 h2); clear h1 h2
      go_enter Try.func8, Try.ntmps8
      go_wp2_with (first
        | (go_at_call 13; refine (right17_any _ _ _ _).mono ?_; rintro e w1 ⟨rfl, rfl⟩)
        | (go_at_call 14; refine (right11_any _ _ _).mono ?_; rintro e w2 ⟨rfl, rfl⟩))
      all_goals (go_ret; obtain ⟨h1, h2⟩ := H.out; refine ⟨ret_int ?_, (Below.refl _ _).alloc (Nat.le_refl _) _⟩)
      all_goals (show _ = (if winOk c1 c3 c4 ∧ estOk c5 c6 ∧ rackOk c7 ∧ bufOk c2 then (0 : Int) else 2); first | rw [if_pos (by omega)] | rw [if_neg (by omega)])
    · have r1 : right17 c1 c3 c4 = true := decide_eq_true h1
      have r2 : right11 c5 c6 = false := decide_eq_false h2
      have H := Lib.hid (And.intro h1 h2); clear h1 h2
      go_enter Try.func8, Try.ntmps8
      go_wp2_with (first
        | (go_at_call 13; refine (right17_any _ _ _ _).mono ?_; rintro e w1 ⟨rfl, rfl⟩)
        | (go_at_call 14; refine (right11_any _ _ _).mono ?_; rintro e w2 ⟨rfl, rfl⟩))
      all_goals (go_ret; obtain ⟨h1, h2⟩ := H.out; refine ⟨ret_int ?_, (Below.refl _ _).alloc (Nat.le_refl _) _⟩)
      all_goals (show _ = (if winOk c1 c3 c4 ∧ estOk c5 c6 ∧ rackOk c7 ∧ bufOk c2 then (0 : Int) else 2); first | rw [if_pos (by omega)] | rw [if_neg (by omega)])
  · have r1 : right17 c1 c3 c4 = false := decide_eq_false h1
    have H := Lib.hid h1; clear h1
    go_enter Try.func8, Try.ntmps8
    go_wp2_with (first
        | (go_at_call 13; refine (right17_any _ _ _ _).mono ?_; rintro e w1 ⟨rfl, rfl⟩))
    all_goals (go_ret; have h1 := H.out; refine ⟨ret_int ?_, (Below.refl _ _).alloc (Nat.le_refl _) _⟩)
    all_goals (show _ = (if winOk c1 c3 c4 ∧ estOk c5 c6 ∧ rackOk c7 ∧ bufOk c2 then (0 : Int) else 2); first | rw [if_pos (by omega)] | rw [if_neg (by omega)])

end Go.Proofs.Ytbiimpchbiniaaa
