/- What bytes say (option.Parse), walked. -/
import Derived.Test.YthkhfijfgpccbaaOn7
import Derived.WalkMore
set_option linter.unusedVariables false
set_option linter.unusedSimpArgs false
namespace Go.Proofs.Ythkhfijfgpccbaa
open Go.RowKit Go.Und
attribute [local go_sem] Oper.semAt_some
attribute [local go_sem ↓] Go.wp_at_zero Go.wp_at_succ

theorem valB_one (x : Int) : valB [x] = x := by simp [valB]
theorem at_one {l : List Int} {a : Nat} {x : Int} {r : List Int} (h : l.drop a = x :: r) : valB ((l.drop a).take 1) = x ∧ l.drop (a + 1) = r ∧ l.length = a + 1 + r.length := by
  refine ⟨by rw [h]; exact valB_one x, ?_, ?_⟩
  · rw [← List.drop_drop, h]; rfl
  · have := congrArg List.length h
    rw [List.length_drop, List.length_cons] at this
    omega
abbrev optV (o : Opt) (q : Option Addr) (c : Nat) : Value := .agg (optc o q c)
def ParsePost (l : List Int) (w : World) (e : Ending) (w' : World) : Prop :=
  ∃ q c, e = .returned (.tuple #[optV (parseO l).1 q c, .int .i64 (parseO l).2]) ∧ Sep None w w' [blrow q c (parseO l).1.blocks]
theorem ParsePost.mk {l : List Int} {w w' : World} {o : Opt} {n : Int} {q : Option Addr} {c : Nat} (h : parseO l = (o, n)) (S : Sep None w w' [blrow q c o.blocks]) : ParsePost l w (.returned (.tuple #[optV o q c, .int .i64 n])) w' := by
  refine ⟨q, c, ?_, ?_⟩
  · rw [h]
  · rw [h]; exact S
theorem sep_none {w w' : World} (f : Fr None w w') : Sep None w w' [blrow none 0 []] :=
  ((Sep.law w).same f).add (blrow none 0 []) (Fr.refl None _) (Owns.nil blc 2 BlT _) (fun k hk => by cases hk)
theorem _root_.Go.Und.Sep.swapL {D : Nat → Prop} {w0 w : World} {A B C : List Ob} (S : Sep D w0 w (A ++ (B ++ C))) : Sep D w0 w (B ++ (A ++ C)) := S.perm (List.perm_append_comm_assoc A B C)
theorem _root_.Go.Und.Sep.kept {D : Nat → Prop} {w0 w w' : World} {L R : List Ob} (S : Sep D w0 w (L ++ R)) (f : Fr (fpL L) w w') : Sep D w0 w' R :=
  Sep.did S ⟨f, fun _ h => (by cases h), fun _ h => (by cases h), List.Pairwise.nil⟩

set_option maxRecDepth 100000 in
set_option maxHeartbeats 8000000 in
theorem parse_core (a : Option Addr) (c : Nat) (l : List Int) (w : World) (hN : l.length ≤ 100000 → ∀ W, Fr None w W → Calls Try.prog 33 #[.slice a l.length c] W fun e w' => ∃ p q cap, e = .returned (.pointer (at0 p)) ∧ Sep None W w' (rdr p q cap l 0)) (hb : ∀ x ∈ l, 0 ≤ x ∧ x < 256) :
    Calls Try.prog 12 #[.slice a l.length c] w (ParsePost l w) := by
  by_cases h40 : 40 < l.length
  · have hp : parseO l = (Opt.zero, 9) := by unfold parseO; rw [if_pos h40]
    have HP := Lib.hid hp
    clear hp hN
    go_enter Try.func12, Try.ntmps12
    go_wp2_with fail
    go_step3
    go_wp2_with fail
    rw [Exit.noGoto_ret]
    exact bodyPost_ret (v := .tuple #[optV Opt.zero none 0, .int .i64 9]) (by simp [results, Try.results12, go_sem, Opt.zero]) rfl (ParsePost.mk HP.out (sep_none ((Fr.refl None w).alloc _)))
  have hp : parseO l = parseS l.length l Opt.zero := by unfold parseO; rw [if_neg h40]
  have HP := Lib.hid hp
  have HB := Lib.hid hb
  have h41 : l.length ≤ 40 := by omega
  have S := Lib.hid (((((Sep.law w).alloc (optc Opt.zero none 0) OpT).alloc (optc Opt.zero none 0) OpT).add (blrow none 0 []) (Fr.refl None _) (Owns.nil blc 2 BlT _) (fun k hk => by cases hk)).perm (List.Perm.swap _ _ _))
  simp only [World.size_alloc] at S
  have HR := Lib.hid (hN (by omega) _ S.out.fr)
  clear hp hb hN h40
  go_enter Try.func12, Try.ntmps12
  go_wp2_with fail
  go_step3
  go_wp2_with fail
  refine HR.out.mono ?_
  rintro e w1 ⟨p, q, cap, rfl, T1⟩
  have S2 : Sep None w w1 (opx (w.heap.size + 1) Opt.zero none 0 ++ (rdr p q cap l 0 ++ [Ob.blk w.heap.size OpT (optc Opt.zero none 0)])) := Sep.swapL (S.out.beside T1)
  have HS := Lib.hid S2
  clear S2 T1 S HR
  go_wp2_with fail
  go_step3
  go_wp2_with fail
  go_loopg [] (l.length) (fun g wr => ∃ (at_ : Nat) (o : Opt) (q2 : Option Addr) (c2 : Nat), at_ + g = l.length ∧ parseO l = parseS (l.length - at_) (l.drop at_) o ∧ Sep None w wr (opx (w.heap.size + 1) o q2 c2 ++ (rdr p q cap l at_ ++ [Ob.blk w.heap.size OpT (optc Opt.zero none 0)])))
  case atStart => exact ⟨0, Opt.zero, none, 0, by omega, HP.out, HS.out⟩
  case round =>
    clear HS HP
    obtain ⟨at_, o, q2, c2, hk, hp, S4⟩ := hrel
    have HL := Lib.hid (rLeft_any p q cap l at_ wr (S4.at_ 2 rfl) (by omega) (by omega))
    cases hd : l.drop at_ with
    | nil =>
      have e0 : at_ = l.length := by have := congrArg List.length hd; rw [List.length_drop, List.length_nil] at this; omega
      have z1 : ((l.length - at_ : Nat) : Int) = 0 := by omega
      rw [hd, parse_nil] at hp
      have HE := Lib.hid hp
      have HS4 := Lib.hid S4
      clear hp S4 hd e0
      rw [z1] at HL
      clear z1
      go_wp2_with fail
      refine HL.out.mono ?_
      rintro e w5 ⟨rfl, f5⟩
      have S5 := HS4.out.same f5
      have o0 : w5.cell? ⟨w.heap.size + 1, 0, none⟩ = some (.int .i64 o.mss) := (S5.at_ 0 rfl).cell 0
      have o1 : w5.cell? ⟨w.heap.size + 1, 1, none⟩ = some (.bool o.permit) := (S5.at_ 0 rfl).cell 1
      have o2 : w5.cell? ⟨w.heap.size + 1, 2, none⟩ = some (.bool o.ts) := (S5.at_ 0 rfl).cell 2
      have o3 : w5.cell? ⟨w.heap.size + 1, 3, none⟩ = some (.int .u32 o.val) := (S5.at_ 0 rfl).cell 3
      have o4 : w5.cell? ⟨w.heap.size + 1, 4, none⟩ = some (.int .u32 o.ecr) := (S5.at_ 0 rfl).cell 4
      have o5 : w5.cell? ⟨w.heap.size + 1, 5, none⟩ = some (.bool o.has) := (S5.at_ 0 rfl).cell 5
      have o6 : w5.cell? ⟨w.heap.size + 1, 6, none⟩ = some (.int .i64 o.scale) := (S5.at_ 0 rfl).cell 6
      have o7 : w5.cell? ⟨w.heap.size + 1, 7, none⟩ = some (.slice q2 o.blocks.length c2) := (S5.at_ 0 rfl).cell 7
      have d0 : w5.cell? ⟨w.heap.size, 0, none⟩ = some (.int .i64 0) := (S5.at_ 4 rfl).cell 0
      have x0 : w5.frozen? ⟨w.heap.size, 0, none⟩ = false := (S5.at_ 4 rfl).frozen 0
      have d1 : w5.cell? ⟨w.heap.size, 1, none⟩ = some (.bool false) := (S5.at_ 4 rfl).cell 1
      have x1 : w5.frozen? ⟨w.heap.size, 1, none⟩ = false := (S5.at_ 4 rfl).frozen 1
      have d2 : w5.cell? ⟨w.heap.size, 2, none⟩ = some (.bool false) := (S5.at_ 4 rfl).cell 2
      have x2 : w5.frozen? ⟨w.heap.size, 2, none⟩ = false := (S5.at_ 4 rfl).frozen 2
      have d3 : w5.cell? ⟨w.heap.size, 3, none⟩ = some (.int .u32 0) := (S5.at_ 4 rfl).cell 3
      have x3 : w5.frozen? ⟨w.heap.size, 3, none⟩ = false := (S5.at_ 4 rfl).frozen 3
      have d4 : w5.cell? ⟨w.heap.size, 4, none⟩ = some (.int .u32 0) := (S5.at_ 4 rfl).cell 4
      have x4 : w5.frozen? ⟨w.heap.size, 4, none⟩ = false := (S5.at_ 4 rfl).frozen 4
      have d5 : w5.cell? ⟨w.heap.size, 5, none⟩ = some (.bool false) := (S5.at_ 4 rfl).cell 5
      have x5 : w5.frozen? ⟨w.heap.size, 5, none⟩ = false := (S5.at_ 4 rfl).frozen 5
      have d6 : w5.cell? ⟨w.heap.size, 6, none⟩ = some (.int .i64 0) := (S5.at_ 4 rfl).cell 6
      have x6 : w5.frozen? ⟨w.heap.size, 6, none⟩ = false := (S5.at_ 4 rfl).frozen 6
      have d7 : w5.cell? ⟨w.heap.size, 7, none⟩ = some (.slice none 0 0) := (S5.at_ 4 rfl).cell 7
      have x7 : w5.frozen? ⟨w.heap.size, 7, none⟩ = false := (S5.at_ 4 rfl).frozen 7
      have HS5 := Lib.hid S5
      clear S5 f5 HS4 HL
      go_wp2_with fail
      rw [Exit.noGoto_ret]
      exact bodyPost_ret (v := .tuple #[optV o q2 c2, .int .i64 0]) (by simp [results, Try.results12, go_sem, d0, d1, d2, d3, d4, d5, d6, d7]) rfl (ParsePost.mk HE.out (((((((((HS5.out.set 4 rfl 0 (.int .i64 o.mss)).set 4 rfl 1 (.bool o.permit)).set 4 rfl 2 (.bool o.ts)).set 4 rfl 3 (.int .u32 o.val)).set 4 rfl 4 (.int .u32 o.ecr)).set 4 rfl 5 (.bool o.has)).set 4 rfl 6 (.int .i64 o.scale)).set 4 rfl 7 (.slice q2 o.blocks.length c2)).drop (.cons _ (.cons_cons _ (List.nil_sublist _)))))
    | cons x r =>
      obtain ⟨v1, hd1, hl1⟩ := at_one hd
      have z1 : (0 : Int) < ((l.length - at_ : Nat) : Int) := by omega
      have hx := HB.out x (List.mem_of_mem_drop (by rw [hd]; exact List.mem_cons_self))
      have hone := rOne_ok p q cap l at_
      rw [v1] at hone
      have HO := Lib.hid hone
      have HS4 := Lib.hid S4
      have HD1 := Lib.hid hd1
      rw [hd] at hp
      have HPP := Lib.hid hp
      clear hp S4 hd v1 hd1 hone
      have hat : at_ + 1 + r.length = l.length := hl1.symm
      clear hl1
      go_wp2_with fail
      refine HL.out.mono ?_
      rintro e w5 ⟨rfl, f5⟩
      have S5 := Lib.hid (HS4.out.same f5).swapL
      clear f5 HS4 HL
      go_wp2_with fail
      refine (HO.out w5 S5.out.head (by omega) (by omega) HB.out).mono ?_
      rintro e w6 ⟨rfl, T6⟩
      have S6 := (S5.out.did T6).swapL
      clear T6 S5 HO
      by_cases x0 : x = 0
      · subst x0
        have hp := HPP.out
        rw [parse_zero] at hp
        have HE := Lib.hid hp
        clear hp
        have o0 : w6.cell? ⟨w.heap.size + 1, 0, none⟩ = some (.int .i64 o.mss) := (S6.at_ 0 rfl).cell 0
        have o1 : w6.cell? ⟨w.heap.size + 1, 1, none⟩ = some (.bool o.permit) := (S6.at_ 0 rfl).cell 1
        have o2 : w6.cell? ⟨w.heap.size + 1, 2, none⟩ = some (.bool o.ts) := (S6.at_ 0 rfl).cell 2
        have o3 : w6.cell? ⟨w.heap.size + 1, 3, none⟩ = some (.int .u32 o.val) := (S6.at_ 0 rfl).cell 3
        have o4 : w6.cell? ⟨w.heap.size + 1, 4, none⟩ = some (.int .u32 o.ecr) := (S6.at_ 0 rfl).cell 4
        have o5 : w6.cell? ⟨w.heap.size + 1, 5, none⟩ = some (.bool o.has) := (S6.at_ 0 rfl).cell 5
        have o6 : w6.cell? ⟨w.heap.size + 1, 6, none⟩ = some (.int .i64 o.scale) := (S6.at_ 0 rfl).cell 6
        have o7 : w6.cell? ⟨w.heap.size + 1, 7, none⟩ = some (.slice q2 o.blocks.length c2) := (S6.at_ 0 rfl).cell 7
        have d0 : w6.cell? ⟨w.heap.size, 0, none⟩ = some (.int .i64 0) := (S6.at_ 4 rfl).cell 0
        have x0 : w6.frozen? ⟨w.heap.size, 0, none⟩ = false := (S6.at_ 4 rfl).frozen 0
        have d1 : w6.cell? ⟨w.heap.size, 1, none⟩ = some (.bool false) := (S6.at_ 4 rfl).cell 1
        have x1 : w6.frozen? ⟨w.heap.size, 1, none⟩ = false := (S6.at_ 4 rfl).frozen 1
        have d2 : w6.cell? ⟨w.heap.size, 2, none⟩ = some (.bool false) := (S6.at_ 4 rfl).cell 2
        have x2 : w6.frozen? ⟨w.heap.size, 2, none⟩ = false := (S6.at_ 4 rfl).frozen 2
        have d3 : w6.cell? ⟨w.heap.size, 3, none⟩ = some (.int .u32 0) := (S6.at_ 4 rfl).cell 3
        have x3 : w6.frozen? ⟨w.heap.size, 3, none⟩ = false := (S6.at_ 4 rfl).frozen 3
        have d4 : w6.cell? ⟨w.heap.size, 4, none⟩ = some (.int .u32 0) := (S6.at_ 4 rfl).cell 4
        have x4 : w6.frozen? ⟨w.heap.size, 4, none⟩ = false := (S6.at_ 4 rfl).frozen 4
        have d5 : w6.cell? ⟨w.heap.size, 5, none⟩ = some (.bool false) := (S6.at_ 4 rfl).cell 5
        have x5 : w6.frozen? ⟨w.heap.size, 5, none⟩ = false := (S6.at_ 4 rfl).frozen 5
        have d6 : w6.cell? ⟨w.heap.size, 6, none⟩ = some (.int .i64 0) := (S6.at_ 4 rfl).cell 6
        have x6 : w6.frozen? ⟨w.heap.size, 6, none⟩ = false := (S6.at_ 4 rfl).frozen 6
        have d7 : w6.cell? ⟨w.heap.size, 7, none⟩ = some (.slice none 0 0) := (S6.at_ 4 rfl).cell 7
        have x7 : w6.frozen? ⟨w.heap.size, 7, none⟩ = false := (S6.at_ 4 rfl).frozen 7
        have HS6 := Lib.hid S6
        clear S6
        go_wp2_with fail
        rw [Exit.noGoto_ret]
        exact bodyPost_ret (v := .tuple #[optV o q2 c2, .int .i64 0]) (by simp [results, Try.results12, go_sem, d0, d1, d2, d3, d4, d5, d6, d7]) rfl (ParsePost.mk HE.out (((((((((HS6.out.set 4 rfl 0 (.int .i64 o.mss)).set 4 rfl 1 (.bool o.permit)).set 4 rfl 2 (.bool o.ts)).set 4 rfl 3 (.int .u32 o.val)).set 4 rfl 4 (.int .u32 o.ecr)).set 4 rfl 5 (.bool o.has)).set 4 rfl 6 (.int .i64 o.scale)).set 4 rfl 7 (.slice q2 o.blocks.length c2)).drop (.cons _ (.cons_cons _ (List.nil_sublist _)))))
      have hlen1 : l.length - at_ = r.length + 1 := by omega
      by_cases x1 : x = 1
      · subst x1
        have hp := HPP.out
        rw [hlen1, parse_one, show r.length = l.length - (at_ + 1) by omega, ← HD1.out] at hp
        have HE := Lib.hid hp
        have HS6 := Lib.hid S6
        clear hp S6 x0 hlen1
        go_wp2_with fail
        go_roundg (gk - 1)
        case measure => omega
        case rel => exact ⟨at_ + 1, o, q2, c2, by omega, HE.out, HS6.out⟩
      have hp := HPP.out
      rw [hlen1, parse_cons, if_neg x0, if_neg x1] at hp
      have kx0 : (x == 0) = false := by simpa using x0
      have kx1 : (x == 1) = false := by simpa using x1
      have hlen2 : l.length = at_ + 1 + r.length := by omega
      clear x0 x1 HPP hlen1
      cases r with
      | nil =>
        dsimp only at hp
        have HE := Lib.hid hp
        have HO := Lib.hid (rOne_short p q cap l (at_ + 1) w6 (S6.at_ 2 rfl) (by omega) (by simp at hlen2; omega) (by omega))
        have HS6 := Lib.hid S6
        clear S6 hp hlen2 hat
        go_wp2_with fail
        refine HO.out.mono ?_
        rintro e w7 ⟨rfl, f7⟩
        have S7 := HS6.out.same f7
        have d0 : w7.cell? ⟨w.heap.size, 0, none⟩ = some (.int .i64 0) := (S7.at_ 4 rfl).cell 0
        have x0 : w7.frozen? ⟨w.heap.size, 0, none⟩ = false := (S7.at_ 4 rfl).frozen 0
        have d1 : w7.cell? ⟨w.heap.size, 1, none⟩ = some (.bool false) := (S7.at_ 4 rfl).cell 1
        have x1 : w7.frozen? ⟨w.heap.size, 1, none⟩ = false := (S7.at_ 4 rfl).frozen 1
        have d2 : w7.cell? ⟨w.heap.size, 2, none⟩ = some (.bool false) := (S7.at_ 4 rfl).cell 2
        have x2 : w7.frozen? ⟨w.heap.size, 2, none⟩ = false := (S7.at_ 4 rfl).frozen 2
        have d3 : w7.cell? ⟨w.heap.size, 3, none⟩ = some (.int .u32 0) := (S7.at_ 4 rfl).cell 3
        have x3 : w7.frozen? ⟨w.heap.size, 3, none⟩ = false := (S7.at_ 4 rfl).frozen 3
        have d4 : w7.cell? ⟨w.heap.size, 4, none⟩ = some (.int .u32 0) := (S7.at_ 4 rfl).cell 4
        have x4 : w7.frozen? ⟨w.heap.size, 4, none⟩ = false := (S7.at_ 4 rfl).frozen 4
        have d5 : w7.cell? ⟨w.heap.size, 5, none⟩ = some (.bool false) := (S7.at_ 4 rfl).cell 5
        have x5 : w7.frozen? ⟨w.heap.size, 5, none⟩ = false := (S7.at_ 4 rfl).frozen 5
        have d6 : w7.cell? ⟨w.heap.size, 6, none⟩ = some (.int .i64 0) := (S7.at_ 4 rfl).cell 6
        have x6 : w7.frozen? ⟨w.heap.size, 6, none⟩ = false := (S7.at_ 4 rfl).frozen 6
        have d7 : w7.cell? ⟨w.heap.size, 7, none⟩ = some (.slice none 0 0) := (S7.at_ 4 rfl).cell 7
        have x7 : w7.frozen? ⟨w.heap.size, 7, none⟩ = false := (S7.at_ 4 rfl).frozen 7
        have HS7 := Lib.hid S7
        clear S7 f7 HS6 HO
        go_wp2_with fail
        rw [Exit.noGoto_ret]
        exact bodyPost_ret (v := .tuple #[optV Opt.zero none 0, .int .i64 5]) (by simp [results, Try.results12, go_sem, Opt.zero, d0, d1, d2, d3, d4, d5, d6, d7]) rfl (ParsePost.mk HE.out (sep_none ((((((((HS7.out.set 4 rfl 0 (.int .i64 0)).set 4 rfl 1 (.bool false)).set 4 rfl 2 (.bool false)).set 4 rfl 3 (.int .u32 0)).set 4 rfl 4 (.int .u32 0)).set 4 rfl 5 (.bool false)).set 4 rfl 6 (.int .i64 0)).set 4 rfl 7 (.slice none 0 0)).fr))
      | cons n r2 =>
        obtain ⟨v2, hd2, hl2⟩ := at_one HD1.out
        have hn := HB.out n (List.mem_of_mem_drop (by rw [HD1.out]; exact List.mem_cons_self))
        have hone := rOne_ok p q cap l (at_ + 1) w6 S6.swapL.head (by omega) (by omega) HB.out
        rw [v2] at hone
        have HO := Lib.hid hone
        have HS6 := Lib.hid S6.swapL
        have HD2 := Lib.hid hd2
        dsimp only at hp
        have HPP := Lib.hid hp
        have hat2 : at_ + 1 + 1 + r2.length = l.length := hl2.symm
        clear hp S6 v2 hd2 hone hl2 hlen2 hat HD1
        go_wp2_with fail
        refine HO.out.mono ?_
        rintro e w7 ⟨rfl, T7⟩
        have S7 := HS6.out.did T7
        clear T7 HS6 HO
        by_cases n2 : n < 2
        · have hp := HPP.out
          rw [if_pos n2] at hp
          have HE := Lib.hid hp
          clear hp
          have d0 : w7.cell? ⟨w.heap.size, 0, none⟩ = some (.int .i64 0) := (S7.at_ 4 rfl).cell 0
          have x0 : w7.frozen? ⟨w.heap.size, 0, none⟩ = false := (S7.at_ 4 rfl).frozen 0
          have d1 : w7.cell? ⟨w.heap.size, 1, none⟩ = some (.bool false) := (S7.at_ 4 rfl).cell 1
          have x1 : w7.frozen? ⟨w.heap.size, 1, none⟩ = false := (S7.at_ 4 rfl).frozen 1
          have d2 : w7.cell? ⟨w.heap.size, 2, none⟩ = some (.bool false) := (S7.at_ 4 rfl).cell 2
          have x2 : w7.frozen? ⟨w.heap.size, 2, none⟩ = false := (S7.at_ 4 rfl).frozen 2
          have d3 : w7.cell? ⟨w.heap.size, 3, none⟩ = some (.int .u32 0) := (S7.at_ 4 rfl).cell 3
          have x3 : w7.frozen? ⟨w.heap.size, 3, none⟩ = false := (S7.at_ 4 rfl).frozen 3
          have d4 : w7.cell? ⟨w.heap.size, 4, none⟩ = some (.int .u32 0) := (S7.at_ 4 rfl).cell 4
          have x4 : w7.frozen? ⟨w.heap.size, 4, none⟩ = false := (S7.at_ 4 rfl).frozen 4
          have d5 : w7.cell? ⟨w.heap.size, 5, none⟩ = some (.bool false) := (S7.at_ 4 rfl).cell 5
          have x5 : w7.frozen? ⟨w.heap.size, 5, none⟩ = false := (S7.at_ 4 rfl).frozen 5
          have d6 : w7.cell? ⟨w.heap.size, 6, none⟩ = some (.int .i64 0) := (S7.at_ 4 rfl).cell 6
          have x6 : w7.frozen? ⟨w.heap.size, 6, none⟩ = false := (S7.at_ 4 rfl).frozen 6
          have d7 : w7.cell? ⟨w.heap.size, 7, none⟩ = some (.slice none 0 0) := (S7.at_ 4 rfl).cell 7
          have x7 : w7.frozen? ⟨w.heap.size, 7, none⟩ = false := (S7.at_ 4 rfl).frozen 7
          have HS7 := Lib.hid S7
          clear S7
          go_wp2_with fail
          rw [Exit.noGoto_ret]
          exact bodyPost_ret (v := .tuple #[optV Opt.zero none 0, .int .i64 6]) (by simp [results, Try.results12, go_sem, Opt.zero, d0, d1, d2, d3, d4, d5, d6, d7]) rfl (ParsePost.mk HE.out (sep_none ((((((((HS7.out.set 4 rfl 0 (.int .i64 0)).set 4 rfl 1 (.bool false)).set 4 rfl 2 (.bool false)).set 4 rfl 3 (.int .u32 0)).set 4 rfl 4 (.int .u32 0)).set 4 rfl 5 (.bool false)).set 4 rfl 6 (.int .i64 0)).set 4 rfl 7 (.slice none 0 0)).fr))
        obtain ⟨m, rfl⟩ : ∃ m : Nat, n = m + 2 := ⟨(n - 2).toNat, by omega⟩
        have hp := HPP.out
        rw [if_neg n2, show ((m : Int) + 2 - 2).toNat = m by omega, show (m : Int) + 2 - 2 = m by omega] at hp
        clear n2 HPP
        have e10 : IntKind.i64.wrap ((m : Int) + 2 - 2) = m := by simp [IntKind.wrap, IntKind.bits, IntKind.signed]; omega
        have hm3 : m ≤ 253 := by omega
        by_cases hm : m ≤ r2.length
        · rw [if_neg (by omega)] at hp
          have htk := rTake_ok p q cap l (at_ + 1 + 1) m w7 S7.head (by omega) (by omega)
          rw [HD2.out] at htk
          have HT := Lib.hid htk
          have HPP := Lib.hid hp
          have htl : (r2.take m).length ≤ 300 := by rw [List.length_take]; omega
          have htb : ∀ y ∈ r2.take m, 0 ≤ y ∧ y < 256 := fun y hy => HB.out y (List.mem_of_mem_drop (i := at_ + 1 + 1) (by rw [HD2.out]; exact List.mem_of_mem_take hy))
          have HTB := Lib.hid htb
          have HLN := Lib.hid (show (r2.take m).length = m by rw [List.length_take]; omega)
          have HS7 := Lib.hid S7
          clear hp htk S7 htb
          go_wp2_with fail
          refine HT.out.mono ?_
          rintro e w8 ⟨x8, c8, rfl, T8⟩
          have S8 := (HS7.out.did T8).swapL
          clear T8 HS7 HT
          have hrd := (Owns.reads (f := u8c) (T := U8T) (S8.at_ 2 rfl)).2.1
          have hsay := says_any (w.heap.size + 1) o q2 c2 x x8 c8 (r2.take m) w8 S8.head hrd HTB.out htl
          rw [HLN.out] at hsay
          have HSY := Lib.hid hsay
          have HS8 := Lib.hid S8
          clear S8 hrd hsay
          go_wp2_with fail
          refine HSY.out.mono ?_
          intro e w9 hpost
          cases hs : saysS o x (r2.take m) with
          | none =>
            obtain ⟨rfl, f9⟩ := hpost.1 hs
            have hp := HPP.out
            rw [hs] at hp
            dsimp only at hp
            have HE := Lib.hid hp
            have S9 := HS8.out.kept f9
            have d0 : w9.cell? ⟨w.heap.size, 0, none⟩ = some (.int .i64 0) := (S9.at_ 3 rfl).cell 0
            have x0 : w9.frozen? ⟨w.heap.size, 0, none⟩ = false := (S9.at_ 3 rfl).frozen 0
            have d1 : w9.cell? ⟨w.heap.size, 1, none⟩ = some (.bool false) := (S9.at_ 3 rfl).cell 1
            have x1 : w9.frozen? ⟨w.heap.size, 1, none⟩ = false := (S9.at_ 3 rfl).frozen 1
            have d2 : w9.cell? ⟨w.heap.size, 2, none⟩ = some (.bool false) := (S9.at_ 3 rfl).cell 2
            have x2 : w9.frozen? ⟨w.heap.size, 2, none⟩ = false := (S9.at_ 3 rfl).frozen 2
            have d3 : w9.cell? ⟨w.heap.size, 3, none⟩ = some (.int .u32 0) := (S9.at_ 3 rfl).cell 3
            have x3 : w9.frozen? ⟨w.heap.size, 3, none⟩ = false := (S9.at_ 3 rfl).frozen 3
            have d4 : w9.cell? ⟨w.heap.size, 4, none⟩ = some (.int .u32 0) := (S9.at_ 3 rfl).cell 4
            have x4 : w9.frozen? ⟨w.heap.size, 4, none⟩ = false := (S9.at_ 3 rfl).frozen 4
            have d5 : w9.cell? ⟨w.heap.size, 5, none⟩ = some (.bool false) := (S9.at_ 3 rfl).cell 5
            have x5 : w9.frozen? ⟨w.heap.size, 5, none⟩ = false := (S9.at_ 3 rfl).frozen 5
            have d6 : w9.cell? ⟨w.heap.size, 6, none⟩ = some (.int .i64 0) := (S9.at_ 3 rfl).cell 6
            have x6 : w9.frozen? ⟨w.heap.size, 6, none⟩ = false := (S9.at_ 3 rfl).frozen 6
            have d7 : w9.cell? ⟨w.heap.size, 7, none⟩ = some (.slice none 0 0) := (S9.at_ 3 rfl).cell 7
            have x7 : w9.frozen? ⟨w.heap.size, 7, none⟩ = false := (S9.at_ 3 rfl).frozen 7
            have HS9 := Lib.hid S9
            clear S9 f9 HS8 HPP hp hs hpost HSY
            go_wp2_with fail
            rw [Exit.noGoto_ret]
            exact bodyPost_ret (v := .tuple #[optV Opt.zero none 0, .int .i64 6]) (by simp [results, Try.results12, go_sem, Opt.zero, d0, d1, d2, d3, d4, d5, d6, d7]) rfl (ParsePost.mk HE.out (sep_none ((((((((HS9.out.set 3 rfl 0 (.int .i64 0)).set 3 rfl 1 (.bool false)).set 3 rfl 2 (.bool false)).set 3 rfl 3 (.int .u32 0)).set 3 rfl 4 (.int .u32 0)).set 3 rfl 5 (.bool false)).set 3 rfl 6 (.int .i64 0)).set 3 rfl 7 (.slice none 0 0)).fr))
          | some o' =>
            obtain ⟨rfl, q3, c3, T9⟩ := hpost.2 o' hs
            have hp := HPP.out
            rw [hs] at hp
            dsimp only at hp
            have hd9 : l.drop (at_ + 1 + 1 + m) = r2.drop m := by rw [← List.drop_drop, HD2.out]
            have hfu := parse_fuel (m + 1) (r2.length - m) (r2.drop m) o' (by rw [List.length_drop]; exact Nat.le_refl _)
            rw [show r2.length - m + (m + 1) = (((m : Int) + 2) :: r2).length by simp; omega] at hfu
            rw [hfu, ← hd9, show r2.length - m = l.length - (at_ + 1 + 1 + m) by omega] at hp
            have HE := Lib.hid hp
            have S9 := HS8.out.did T9
            have S10 : Sep None w w9 (opx (w.heap.size + 1) o' q3 c3 ++ (rdr p q cap l (at_ + 1 + 1 + m) ++ [Ob.blk w.heap.size OpT (optc Opt.zero none 0)])) := S9.drop ((List.Sublist.refl _).append ((List.sublist_cons_self _ _)))
            have HS10 := Lib.hid S10
            clear S9 S10 T9 HS8 HPP hp hs hpost HSY hd9 hfu
            go_wp2_with fail
            go_roundg (l.length - (at_ + 1 + 1 + m))
            case measure => omega
            case rel => exact ⟨at_ + 1 + 1 + m, o', q3, c3, by omega, HE.out, HS10.out⟩
        · rw [if_pos (by omega)] at hp
          have HE := Lib.hid hp
          have HT := Lib.hid (rTake_short p q cap l (at_ + 1 + 1) m w7 (S7.at_ 0 rfl) (by omega) (by omega) (by omega) (by omega))
          have HS7 := Lib.hid S7
          clear S7 hp
          go_wp2_with fail
          refine HT.out.mono ?_
          rintro e w8 ⟨v8, rfl, f8⟩
          have S8 := HS7.out.same f8
          have d0 : w8.cell? ⟨w.heap.size, 0, none⟩ = some (.int .i64 0) := (S8.at_ 4 rfl).cell 0
          have x0 : w8.frozen? ⟨w.heap.size, 0, none⟩ = false := (S8.at_ 4 rfl).frozen 0
          have d1 : w8.cell? ⟨w.heap.size, 1, none⟩ = some (.bool false) := (S8.at_ 4 rfl).cell 1
          have x1 : w8.frozen? ⟨w.heap.size, 1, none⟩ = false := (S8.at_ 4 rfl).frozen 1
          have d2 : w8.cell? ⟨w.heap.size, 2, none⟩ = some (.bool false) := (S8.at_ 4 rfl).cell 2
          have x2 : w8.frozen? ⟨w.heap.size, 2, none⟩ = false := (S8.at_ 4 rfl).frozen 2
          have d3 : w8.cell? ⟨w.heap.size, 3, none⟩ = some (.int .u32 0) := (S8.at_ 4 rfl).cell 3
          have x3 : w8.frozen? ⟨w.heap.size, 3, none⟩ = false := (S8.at_ 4 rfl).frozen 3
          have d4 : w8.cell? ⟨w.heap.size, 4, none⟩ = some (.int .u32 0) := (S8.at_ 4 rfl).cell 4
          have x4 : w8.frozen? ⟨w.heap.size, 4, none⟩ = false := (S8.at_ 4 rfl).frozen 4
          have d5 : w8.cell? ⟨w.heap.size, 5, none⟩ = some (.bool false) := (S8.at_ 4 rfl).cell 5
          have x5 : w8.frozen? ⟨w.heap.size, 5, none⟩ = false := (S8.at_ 4 rfl).frozen 5
          have d6 : w8.cell? ⟨w.heap.size, 6, none⟩ = some (.int .i64 0) := (S8.at_ 4 rfl).cell 6
          have x6 : w8.frozen? ⟨w.heap.size, 6, none⟩ = false := (S8.at_ 4 rfl).frozen 6
          have d7 : w8.cell? ⟨w.heap.size, 7, none⟩ = some (.slice none 0 0) := (S8.at_ 4 rfl).cell 7
          have x7 : w8.frozen? ⟨w.heap.size, 7, none⟩ = false := (S8.at_ 4 rfl).frozen 7
          have HS8 := Lib.hid S8
          clear S8 f8 HS7 HT
          go_wp2_with fail
          rw [Exit.noGoto_ret]
          exact bodyPost_ret (v := .tuple #[optV Opt.zero none 0, .int .i64 5]) (by simp [results, Try.results12, go_sem, Opt.zero, d0, d1, d2, d3, d4, d5, d6, d7]) rfl (ParsePost.mk HE.out (sep_none ((((((((HS8.out.set 4 rfl 0 (.int .i64 0)).set 4 rfl 1 (.bool false)).set 4 rfl 2 (.bool false)).set 4 rfl 3 (.int .u32 0)).set 4 rfl 4 (.int .u32 0)).set 4 rfl 5 (.bool false)).set 4 rfl 6 (.int .i64 0)).set 4 rfl 7 (.slice none 0 0)).fr))
end Go.Proofs.Ythkhfijfgpccbaa
