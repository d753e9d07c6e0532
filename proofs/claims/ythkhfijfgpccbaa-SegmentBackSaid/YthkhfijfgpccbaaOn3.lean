/- What writes options, walked. -/
import Derived.Test.YthkhfijfgpccbaaOn2
import Derived.Laws.EntriesVeiled
set_option linter.unusedVariables false
set_option linter.unusedSimpArgs false
namespace Go.Proofs.Ythkhfijfgpccbaa
open Go.RowKit Go.Und
attribute [local go_sem] Oper.semAt_some
attribute [local go_sem ↓] Go.wp_at_zero Go.wp_at_succ

abbrev PwT : TypeId := 59
abbrev env (p : Nat) (q : Option Addr) (cap : Nat) (l : List Int) (po : Nat) (o : Opt) (qb : Option Addr) (cb pwb : Nat) : List Ob := wtr p q cap l ++ [Ob.blk po OpT (optc o qb cb), Ob.blk pwb PwT #[.pointer (at0 p)]]
theorem reads_newR {α : Type} {f : α → List Value} {n : Nat} (W : World) (T : TypeId) (r : List α) (hf : ∀ x, (f x).length = n) : Reads (W.alloc (.cells (fc f r).toArray T)) n (some ⟨W.heap.size, 0, none⟩) r.length r.length (fc f r) :=
  ⟨by rw [fc_length hf], Nat.le_refl _, fun h => (by cases h), fun ad h => (by cases h; rfl), fun ad h j u hu => by
    cases h
    have hb := (Blk.new W T (fc f r).toArray).cell (0 + j)
    rw [hb]
    simpa using hu⟩
set_option maxHeartbeats 1000000 in
theorem wr1_any (p : Nat) (q : Option Addr) (cap : Nat) (l : List Int) (po : Nat) (o : Opt) (qb : Option Addr) (cb pwb : Nat) (w : World) (hS : Sep (fpL (env p q cap l po o qb cb pwb)) w w (env p q cap l po o qb cb pwb)) (hl : l.length ≤ 1000) (hm : 0 ≤ o.mss ∧ o.mss ≤ 65535) :
    Calls Try.prog 57 #[.pointer (at0 po), .pointer (at0 pwb)] w fun e w' => e = .returned (.tuple #[]) ∧ ∃ q' cap', Sep (fpL (env p q cap l po o qb cb pwb)) w w' (env p q' cap' (l ++ encM o) po o qb cb pwb) := by
  obtain ⟨mss, permit, ts, val, ecr, has, scale, blocks⟩ := o
  dsimp only at hm
  have o0 : w.cell? ⟨po, 0, none⟩ = some (.int .i64 mss) := (hS.at_ 2 rfl).cell 0
  have b0 : w.cell? ⟨pwb, 0, none⟩ = some (.pointer (at0 p)) := (hS.at_ 3 rfl).cell 0
  have S := Lib.hid hS
  clear hS
  by_cases g : mss = 0
  · subst g
    go_enter Try.func57, Try.ntmps57
    go_wp2_with fail
    exact ⟨by simp, _, results_none rfl _ _ _, rfl, q, cap, by rw [show l ++ encM ⟨0, permit, ts, val, ecr, has, scale, blocks⟩ = l by simp [encM]]; exact S.out⟩
  · have g1 : (mss == 0) = false := by simpa using g
    have g2 : (mss != 0) = true := by simpa using g
    have en : encM ⟨mss, permit, ts, val, ecr, has, scale, blocks⟩ = [2, 4] ++ be 2 mss := by unfold encM; rw [if_pos g]
    have HE := Lib.hid en
    clear en g
    have e9 : IntKind.u16.wrap mss = mss := by simp [IntKind.wrap, IntKind.bits, IntKind.signed]; omega
    go_enter Try.func57, Try.ntmps57
    go_wp2_with fail
    have SA1 := S.out.skip (.cells (fc u8c [2, 4]).toArray U8T)
    refine (wAll_any p q cap l (some ⟨w.heap.size, 0, none⟩) 2 2 [2, 4] _ SA1.head (reads_newR w U8T [2, 4] u8c_len) (by first | omega | (simp [be_len]; omega)) (by decide)).mono ?_
    rintro e w1 ⟨rfl, q1, c1, T1⟩
    have S1 := SA1.did T1
    clear SA1 T1
    have o1 : w1.cell? ⟨po, 0, none⟩ = some (.int .i64 mss) := (S1.at_ 2 rfl).cell 0
    have b1 : w1.cell? ⟨pwb, 0, none⟩ = some (.pointer (at0 p)) := (S1.at_ 3 rfl).cell 0
    have HS1 := Lib.hid S1
    clear S1
    go_wp2_with fail
    refine (wTwo_any p q1 c1 (l ++ [2, 4]) mss _ HS1.out.self.head ⟨hm.1, by omega⟩ (by first | omega | (simp [be_len]; omega))).mono ?_
    rintro e w2 ⟨rfl, q2, c2, T2⟩
    have S2 := HS1.out.did T2
    clear T2
    have HS2 := Lib.hid S2
    clear S2
    go_wp2_with fail
    exact ⟨by simp, _, results_none rfl _ _ _, rfl, q2, c2, by have := HS2.out; rw [HE.out, ← List.append_assoc]; exact this⟩
set_option maxHeartbeats 1000000 in
theorem wr2_any (p : Nat) (q : Option Addr) (cap : Nat) (l : List Int) (po : Nat) (o : Opt) (qb : Option Addr) (cb pwb : Nat) (w : World) (hS : Sep (fpL (env p q cap l po o qb cb pwb)) w w (env p q cap l po o qb cb pwb)) (hl : l.length ≤ 1000) :
    Calls Try.prog 60 #[.pointer (at0 po), .pointer (at0 pwb)] w fun e w' => e = .returned (.tuple #[]) ∧ ∃ q' cap', Sep (fpL (env p q cap l po o qb cb pwb)) w w' (env p q' cap' (l ++ encP o) po o qb cb pwb) := by
  obtain ⟨mss, permit, ts, val, ecr, has, scale, blocks⟩ := o
  have o0 : w.cell? ⟨po, 1, none⟩ = some (.bool permit) := (hS.at_ 2 rfl).cell 1
  have b0 : w.cell? ⟨pwb, 0, none⟩ = some (.pointer (at0 p)) := (hS.at_ 3 rfl).cell 0
  have S := Lib.hid hS
  clear hS
  cases permit
  · go_enter Try.func60, Try.ntmps60
    go_wp2_with fail
    exact ⟨by simp, _, results_none rfl _ _ _, rfl, q, cap, by rw [show l ++ encP ⟨mss, false, ts, val, ecr, has, scale, blocks⟩ = l by simp [encP]]; exact S.out⟩
  · go_enter Try.func60, Try.ntmps60
    go_wp2_with fail
    have SA1 := S.out.skip (.cells (fc u8c [4, 2]).toArray U8T)
    refine (wAll_any p q cap l (some ⟨w.heap.size, 0, none⟩) 2 2 [4, 2] _ SA1.head (reads_newR w U8T [4, 2] u8c_len) (by first | omega | (simp [be_len]; omega)) (by decide)).mono ?_
    rintro e w1 ⟨rfl, q1, c1, T1⟩
    have S1 := SA1.did T1
    clear SA1 T1
    have HS1 := Lib.hid S1
    clear S1
    go_wp2_with fail
    exact ⟨by simp, _, results_none rfl _ _ _, rfl, q1, c1, by have := HS1.out; exact this⟩
set_option maxHeartbeats 1000000 in
theorem wr3_any (p : Nat) (q : Option Addr) (cap : Nat) (l : List Int) (po : Nat) (o : Opt) (qb : Option Addr) (cb pwb : Nat) (w : World) (hS : Sep (fpL (env p q cap l po o qb cb pwb)) w w (env p q cap l po o qb cb pwb)) (hl : l.length ≤ 1000) (hv : 0 ≤ o.val ∧ o.val < 4294967296) (he : 0 ≤ o.ecr ∧ o.ecr < 4294967296) :
    Calls Try.prog 61 #[.pointer (at0 po), .pointer (at0 pwb)] w fun e w' => e = .returned (.tuple #[]) ∧ ∃ q' cap', Sep (fpL (env p q cap l po o qb cb pwb)) w w' (env p q' cap' (l ++ encT o) po o qb cb pwb) := by
  obtain ⟨mss, permit, ts, val, ecr, has, scale, blocks⟩ := o
  dsimp only at hv he
  have o0 : w.cell? ⟨po, 2, none⟩ = some (.bool ts) := (hS.at_ 2 rfl).cell 2
  have b0 : w.cell? ⟨pwb, 0, none⟩ = some (.pointer (at0 p)) := (hS.at_ 3 rfl).cell 0
  have S := Lib.hid hS
  clear hS
  cases ts
  · go_enter Try.func61, Try.ntmps61
    go_wp2_with fail
    exact ⟨by simp, _, results_none rfl _ _ _, rfl, q, cap, by rw [show l ++ encT ⟨mss, permit, false, val, ecr, has, scale, blocks⟩ = l by simp [encT]]; exact S.out⟩
  · go_enter Try.func61, Try.ntmps61
    go_wp2_with fail
    have SA1 := S.out.skip (.cells (fc u8c [8, 10]).toArray U8T)
    refine (wAll_any p q cap l (some ⟨w.heap.size, 0, none⟩) 2 2 [8, 10] _ SA1.head (reads_newR w U8T [8, 10] u8c_len) (by first | omega | (simp [be_len]; omega)) (by decide)).mono ?_
    rintro e w1 ⟨rfl, q1, c1, T1⟩
    have S1 := SA1.did T1
    clear SA1 T1
    have o1 : w1.cell? ⟨po, 3, none⟩ = some (.int .u32 val) := (S1.at_ 2 rfl).cell 3
    have b1 : w1.cell? ⟨pwb, 0, none⟩ = some (.pointer (at0 p)) := (S1.at_ 3 rfl).cell 0
    have HS1 := Lib.hid S1
    clear S1
    go_wp2_with fail
    refine (wFour_any p q1 c1 (l ++ [8, 10]) val _ HS1.out.self.head hv (by first | omega | (simp [be_len]; omega))).mono ?_
    rintro e w2 ⟨rfl, q2, c2, T2⟩
    have S2 := HS1.out.did T2
    clear T2
    have o2 : w2.cell? ⟨po, 4, none⟩ = some (.int .u32 ecr) := (S2.at_ 2 rfl).cell 4
    have b2 : w2.cell? ⟨pwb, 0, none⟩ = some (.pointer (at0 p)) := (S2.at_ 3 rfl).cell 0
    have HS2 := Lib.hid S2
    clear S2
    go_wp2_with fail
    refine (wFour_any p q2 c2 (l ++ [8, 10] ++ be 4 val) ecr _ HS2.out.self.head he (by first | omega | (simp [be_len]; omega))).mono ?_
    rintro e w3 ⟨rfl, q3, c3, T3⟩
    have S3 := HS2.out.did T3
    clear T3
    have HS3 := Lib.hid S3
    clear S3
    go_wp2_with fail
    exact ⟨by simp, _, results_none rfl _ _ _, rfl, q3, c3, by have := HS3.out; simpa [encT] using this⟩
set_option maxHeartbeats 1000000 in
theorem wr4_any (p : Nat) (q : Option Addr) (cap : Nat) (l : List Int) (po : Nat) (o : Opt) (qb : Option Addr) (cb pwb : Nat) (w : World) (hS : Sep (fpL (env p q cap l po o qb cb pwb)) w w (env p q cap l po o qb cb pwb)) (hl : l.length ≤ 1000) (hs : 0 ≤ o.scale ∧ o.scale ≤ 14) :
    Calls Try.prog 63 #[.pointer (at0 po), .pointer (at0 pwb)] w fun e w' => e = .returned (.tuple #[]) ∧ ∃ q' cap', Sep (fpL (env p q cap l po o qb cb pwb)) w w' (env p q' cap' (l ++ encS o) po o qb cb pwb) := by
  obtain ⟨mss, permit, ts, val, ecr, has, scale, blocks⟩ := o
  dsimp only at hs
  have o0 : w.cell? ⟨po, 5, none⟩ = some (.bool has) := (hS.at_ 2 rfl).cell 5
  have o1 : w.cell? ⟨po, 6, none⟩ = some (.int .i64 scale) := (hS.at_ 2 rfl).cell 6
  have b0 : w.cell? ⟨pwb, 0, none⟩ = some (.pointer (at0 p)) := (hS.at_ 3 rfl).cell 0
  have S := Lib.hid hS
  clear hS
  have e9 : IntKind.u8.wrap scale = scale := by simp [IntKind.wrap, IntKind.bits, IntKind.signed]; omega
  cases has
  · go_enter Try.func63, Try.ntmps63
    go_wp2_with fail
    exact ⟨by simp, _, results_none rfl _ _ _, rfl, q, cap, by rw [show l ++ encS ⟨mss, permit, ts, val, ecr, false, scale, blocks⟩ = l by simp [encS]]; exact S.out⟩
  · go_enter Try.func63, Try.ntmps63
    go_wp2_with fail
    have SA1 := S.out.skip (.cells (fc u8c [3, 3, scale]).toArray U8T)
    refine (wAll_any p q cap l (some ⟨w.heap.size, 0, none⟩) 3 3 [3, 3, scale] _ SA1.head (reads_newR w U8T [3, 3, scale] u8c_len) (by first | omega | (simp [be_len]; omega)) (by decide)).mono ?_
    rintro e w1 ⟨rfl, q1, c1, T1⟩
    have S1 := SA1.did T1
    clear SA1 T1
    have HS1 := Lib.hid S1
    clear S1
    go_wp2_with fail
    exact ⟨by simp, _, results_none rfl _ _ _, rfl, q1, c1, by have := HS1.out; exact this⟩
end Go.Proofs.Ythkhfijfgpccbaa
