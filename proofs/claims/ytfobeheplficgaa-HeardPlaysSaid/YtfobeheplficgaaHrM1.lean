/- Numbers that go round: walked. -/
import Derived.Test.YtfobeheplficgaaHr0
import Derived.Test.YtfobeheplficgaaRwZ
import Derived.Laws.OwnMore
import Derived.BigQuiet
set_option linter.unusedVariables false
set_option linter.unusedSimpArgs false
namespace Go.Proofs.Ytfobeheplficgaa
open Go.RowKit Go.Und Go.Shelf
attribute [local go_sem] Oper.semAt_some
attribute [local go_sem ↓] Go.wp_at_zero Go.wp_at_succ

theorem ret_i {k : IntKind} {a b : Int} (h : a = b) : (Ending.returned (.int k a) : Ending) = .returned (.int k b) := by rw [h]
theorem wrap_u32 (n : Int) (w : World) : Calls Try.prog 106 #[.int .i64 n] w fun e w' => e = .returned (.int .u32 (n % 4294967296)) ∧ w' = w := by
  go_enter Try.func106, Try.ntmps106
  go_wp2_with fail
  go_ret
  exact ⟨rfl, rfl⟩
theorem dist_eq (a b : Int) : wrap64 (wrap32 ((b - a) % 4294967296)) = sdI (b - a) := by
  unfold wrap64 wrap32 sdI; omega
theorem tm_is (n : Int) : (0 ≤ n.tmod 4294967296 → n.tmod 4294967296 = n % 4294967296) ∧ (n.tmod 4294967296 < 0 → n.tmod 4294967296 + 4294967296 = n % 4294967296 ∧ -4294967296 < n.tmod 4294967296) := by
  have h := Int.tmod_eq_emod (a := n) (b := 4294967296)
  split at h <;> constructor <;> intro g <;> omega
theorem dist_is (a b : Int) (w : World) : Calls Try.prog 105 #[.int .u32 a, .int .u32 b] w fun e w' => e = .returned (.int .i64 (sdI (b - a))) ∧ w' = w := by
  have HE := Lib.hid (dist_eq a b)
  go_enter Try.func105, Try.ntmps105
  go_wp2_with fail
  go_ret
  exact ⟨ret_i HE.out, rfl⟩
theorem fits_any (n : Int) (h : n ≤ 4611686018427387904) (w : World) : Calls Try.prog 104 #[.int .i64 n] w fun e w' => e = .returned (.bool (decide (0 ≤ n))) ∧ w' = w := by
  by_cases h0 : 0 ≤ n
  · have E := Lib.hid (show true = decide (0 ≤ n) by simp [h0])
    go_enter Try.func104, Try.ntmps104
    go_wp2_with fail
    go_ret
    exact ⟨by rw [← E.out]; rfl, rfl⟩
  · have E := Lib.hid (show false = decide (0 ≤ n) by simp [h0])
    go_enter Try.func104, Try.ntmps104
    go_wp2_with fail
    go_ret
    exact ⟨by rw [← E.out]; rfl, rfl⟩
theorem unwrap_any (n s off : Int) (w : World) (h0 : 0 ≤ n) (h1 : n ≤ 1000000000000) (ho : n + sdI (s - n) = off) : Calls Try.prog 97 #[.int .i64 n, .int .u32 s] w fun e w' => e = .returned (.tuple #[.int .i64 (if 0 ≤ off then off else 0), .bool (decide (0 ≤ off))]) ∧ w' = w := by
  have hb := sdI_bounds (s - n)
  have e1 : sdI (s - n % 4294967296) = sdI (s - n) := by unfold sdI; omega
  have H1 := Lib.hid (fits_any n (by omega) w)
  rw [decide_eq_true h0] at H1
  have H2 := Lib.hid (wrap_u32 n w)
  have H3 := Lib.hid (dist_is (n % 4294967296) s w)
  rw [e1] at H3
  have H4 := Lib.hid (fits_any off (by omega) w)
  generalize sdI (s - n) = d at *
  subst ho
  clear e1
  by_cases g : 0 ≤ n + d
  · rw [decide_eq_true g] at *
    rw [if_pos g]
    go_enter Try.func97, Try.ntmps97
    go_wp2_with (first
      | ((with_reducible refine (H1.out).mono ?_); rintro e1 w1 ⟨rfl, rfl⟩)
      | ((with_reducible refine (H2.out).mono ?_); rintro e1 w1 ⟨rfl, rfl⟩)
      | ((with_reducible refine (H3.out).mono ?_); rintro e1 w1 ⟨rfl, rfl⟩)
      | ((with_reducible refine (H4.out).mono ?_); rintro e1 w1 ⟨rfl, rfl⟩)
      | fail)
    go_ret2
    exact ⟨rfl, rfl⟩
  · rw [decide_eq_false g] at *
    rw [if_neg g]
    go_enter Try.func97, Try.ntmps97
    go_wp2_with (first
      | ((with_reducible refine (H1.out).mono ?_); rintro e1 w1 ⟨rfl, rfl⟩)
      | ((with_reducible refine (H2.out).mono ?_); rintro e1 w1 ⟨rfl, rfl⟩)
      | ((with_reducible refine (H3.out).mono ?_); rintro e1 w1 ⟨rfl, rfl⟩)
      | ((with_reducible refine (H4.out).mono ?_); rintro e1 w1 ⟨rfl, rfl⟩)
      | fail)
    go_ret2
    exact ⟨rfl, rfl⟩
theorem rmod_any (n : Int) (w : World) : Calls Try.prog 80 #[.int .i64 n] w fun e w' => e = .returned (.int .i64 (n % 4294967296)) ∧ w' = w := by
  go_enter Try.func80, Try.ntmps80
  go_wp2_with fail
  all_goals go_ret
  · rename_i g
    obtain ⟨e1, e2⟩ := (tm_is n).2 g
    exact ⟨ret_i (by unfold wrap64; omega), rfl⟩
  · rename_i g
    exact ⟨ret_i ((tm_is n).1 (by omega)), rfl⟩
theorem rdist_any (a b : Int) (h0 : 0 ≤ a) (h1 : a < 4294967296) (h2 : 0 ≤ b) (h3 : b < 4294967296) (w : World) : Calls Try.prog 99 #[.int .i64 a, .int .i64 b] w fun e w' => e = .returned (.int .i64 (sdI (b - a))) ∧ w' = w := by
  have HM := Lib.hid (rmod_any (b - a) w)
  have HD : ∀ d, (b - a) % 4294967296 = d → sdI (b - a) = if 2147483648 ≤ d then d - 4294967296 else d := fun d hd => by unfold sdI; split <;> omega
  have HE := Lib.hid (HD _ rfl)
  have hd0 : 0 ≤ (b - a) % 4294967296 := by omega
  have hd1 : (b - a) % 4294967296 < 4294967296 := by omega
  clear HD
  generalize (b - a) % 4294967296 = d at *
  go_enter Try.func99, Try.ntmps99
  go_wp2_with fail
  refine (HM.out).mono ?_
  rintro e1 w1 ⟨rfl, rfl⟩
  go_wp2_with fail
  · go_ret
    exact ⟨ret_i (by rw [HE.out, if_pos (by omega)]), rfl⟩
  · go_ret
    exact ⟨ret_i (by rw [HE.out, if_neg (by omega)]), rfl⟩
theorem runwrap_any (n s off : Int) (w : World) (h0 : 0 ≤ n) (h1 : n ≤ 1000000000000) (h2 : 0 ≤ s) (h3 : s < 4294967296) (ho : n + sdI (s - n) = off) : Calls Try.prog 79 #[.int .i64 n, .int .i64 s] w fun e w' => e = .returned (.int .i64 (if 0 ≤ off then off else -1)) ∧ w' = w := by
  have hb := sdI_bounds (s - n)
  have e1 : sdI (s - n % 4294967296) = sdI (s - n) := by unfold sdI; omega
  have H2 := Lib.hid (rmod_any n w)
  have H3 := Lib.hid (rdist_any (n % 4294967296) s (by omega) (by omega) h2 h3 w)
  rw [e1] at H3
  generalize sdI (s - n) = d at *
  subst ho
  clear e1
  by_cases g : 0 ≤ n + d
  · rw [if_pos g]
    go_enter Try.func79, Try.ntmps79
    go_wp2_with (first
      | ((with_reducible refine (H2.out).mono ?_); rintro e1 w1 ⟨rfl, rfl⟩)
      | ((with_reducible refine (H3.out).mono ?_); rintro e1 w1 ⟨rfl, rfl⟩)
      | fail)
    go_ret
    exact ⟨rfl, rfl⟩
  · rw [if_neg g]
    go_enter Try.func79, Try.ntmps79
    go_wp2_with (first
      | ((with_reducible refine (H2.out).mono ?_); rintro e1 w1 ⟨rfl, rfl⟩)
      | ((with_reducible refine (H3.out).mono ?_); rintro e1 w1 ⟨rfl, rfl⟩)
      | fail)
    go_ret
    exact ⟨rfl, rfl⟩
end Go.Proofs.Ytfobeheplficgaa
/- A receiver in memory; New, Next, Text, Bytes, place, twice: walked. -/
namespace Go.Proofs.Ytfobeheplficgaa
open Go.RowKit Go.Und Go.Shelf
attribute [local go_sem] Oper.semAt_some
attribute [local go_sem ↓] Go.wp_at_zero Go.wp_at_succ

abbrev U8T : TypeId := 5
abbrev BlT : TypeId := 62
abbrev HdT : TypeId := 103
abbrev TdT : TypeId := 68
theorem u8Info : (Try.prog.info? U8T).map (fun i => (i.zero, i.size, i.bytes)) = some (some (.int .u8 0), 1, 1) := by kernel_rfl
abbrev brow (q : Option Addr) (cap : Nat) (l : List Int) : Ob := Ob.row 0 U8T 1 (.slice q l.length cap) l.length (fc u8c l)
/-- A receiver: its struct, its set, its text, its ring. -/
abbrev hcs (first : Int) (gp : Nat) (tq : Option Addr) (tc : Nat) (text : List Int) (rq : Option Addr) (rc : Nat) (ring : List Int) : Array Value := #[.int .u32 first, .pointer (at0 gp), .slice tq text.length tc, .slice rq ring.length rc]
abbrev hrd (hp : Nat) (first : Int) (gp : Nat) (q : Option Addr) (c : Nat) (l : List (Int × Int)) (tq : Option Addr) (tc : Nat) (text : List Int) (rq : Option Addr) (rc : Nat) (ring : List Int) : List Ob :=
  [Ob.blk gp RnT #[.slice q l.length c], srow q c l, Ob.blk hp HdT (hcs first gp tq tc text rq rc ring), brow tq tc text, brow rq rc ring]

theorem made_zeros (n : Nat) : (madeCells #[Value.int IntKind.u8 0] n).toList = fc u8c (List.replicate n 0) := by
  have h : ∀ n, fc u8c (List.replicate n 0) = List.replicate n (Value.int .u8 0) := fun n => by
    induction n with
    | zero => rfl
    | succ n ih => rw [List.replicate_succ, fc_cons, ih, List.replicate_succ]; rfl
  rw [h]
  refine List.ext_getElem? fun k => ?_
  rw [List.getElem?_replicate]
  unfold madeCells
  by_cases g : k < n
  · rw [if_pos g]
    simp [g, Value.cells, Nat.mod_one]
  · rw [if_neg g]
    simp; omega
theorem make_row (w : World) (n : Nat) (h : n ≤ 1000000) : (Instr.makeSlice BlT (.int .i64 (n : Int)) (.int .i64 (n : Int))).run Try.prog w = .ok (.slice (some ⟨w.heap.size, 0, none⟩) n n) (w.alloc (.cells (madeCells #[.int .u8 0] n) U8T)) ∧
    (w.alloc (.cells (madeCells #[.int .u8 0] n) U8T)).ownsRow 0 U8T 1 (.slice (some ⟨w.heap.size, 0, none⟩) n n) n (fc u8c (List.replicate n 0)) := by
  obtain ⟨i, hi, hz0, hz1, hz2⟩ := info_parts u8Info
  have hr := run_make (P := Try.prog) w BlT U8T i _ Try.underlying62 hi hz0 .i64 .i64 n n (by omega) (Int.le_refl _) (by rw [hz2]; omega) (by omega)
  rw [hz1, show (Value.int IntKind.u8 0).cells = #[.int .u8 0] from rfl] at hr
  simp only [Int.toNat_natCast, Nat.mul_one] at hr
  refine ⟨hr, ?_⟩
  rw [← made_zeros]
  exact World.ownsRow_lit w _ n (Nat.zero_le _) (by unfold maxLen; omega) (by rw [size_madeCells, Nat.mul_one])
theorem hnew_ring (first : Int) (ring : List Int) (zs : Array Value) (h0 : 0 < ring.length) (h1 : ring.length ≤ 65536) (w : World)
    (HM : ∀ W : World, (Instr.makeSlice BlT (.int .i64 (ring.length : Int)) (.int .i64 (ring.length : Int))).run Try.prog W = .ok (.slice (some ⟨W.heap.size, 0, none⟩) ring.length ring.length) (W.alloc (.cells zs U8T)))
    (HO : ∀ W : World, (brow (some ⟨W.heap.size, 0, none⟩) ring.length ring).ok (W.alloc (.cells zs U8T))) : Calls Try.prog 41 #[.int .u32 first, .int .i64 ring.length] w fun e w' =>
    ∃ hp gp rb, e = .returned (.tuple #[.pointer (at0 hp), .int .i64 0]) ∧ Sep None w w' (hrd hp first gp none 0 [] none 0 [] (some ⟨rb, 0, none⟩) ring.length ring) := by
  have HO2 := Lib.hid HO
  clear HO
  go_enter Try.func41, Try.ntmps41
  go_wp2_with fail
  go_region_with ((with_reducible refine (new_any _).mono ?_); rintro e1 w1 ⟨rfl, T⟩)
  · have S1 := ((((Sep.law w).drew.beside T).add (brow (some ⟨w1.heap.size, 0, none⟩) ring.length ring) ((Fr.refl None w1).alloc (.cells zs U8T)) (HO2.out w1) (fun k hk => by cases hk; exact Nat.le_refl _)).add (brow none 0 []) (Fr.refl None _) (Owns.nil u8c 1 U8T _) (fun k hk => by cases hk)).alloc (hcs first w.heap.size none 0 [] (some ⟨w1.heap.size, 0, none⟩) ring.length ring) HdT
    have HS := Lib.hid S1
    clear S1 T HM HO2
    go_wp2_with fail
    go_ret2
    simp only [World.size_alloc] at HS
    exact ⟨_, _, _, rfl, ((HS.out.front 3 rfl).front 4 rfl).front 1 rfl⟩
  · have S1 := ((((Sep.law w).add (brow (some ⟨w.heap.size, 0, none⟩) ring.length ring) ((Fr.refl None w).alloc (.cells zs U8T)) (HO2.out w) (fun k hk => by cases hk; exact Nat.le_refl _)).drew.beside T).add (brow none 0 []) (Fr.refl None _) (Owns.nil u8c 1 U8T _) (fun k hk => by cases hk)).alloc (hcs first (w.heap.size + 1) none 0 [] (some ⟨w.heap.size, 0, none⟩) ring.length ring) HdT
    have HS := Lib.hid S1
    simp only [size_drew', World.size_alloc] at HS
    clear S1 T HM HO2
    go_wp2_with fail
    go_ret2
    exact ⟨_, _, _, rfl, (((HS.out.front 2 rfl).front 3 rfl).front 1 rfl)⟩
theorem hnew_any (first : Int) (room : Nat) (h0 : 0 < room) (h1 : room ≤ 65536) (w : World) : Calls Try.prog 41 #[.int .u32 first, .int .i64 room] w fun e w' =>
    ∃ hp gp rb, e = .returned (.tuple #[.pointer (at0 hp), .int .i64 0]) ∧ Sep None w w' (hrd hp first gp none 0 [] none 0 [] (some ⟨rb, 0, none⟩) room (List.replicate room 0)) := by
  have h := hnew_ring first (List.replicate room 0) (madeCells #[.int .u8 0] room) (by simpa using h0) (by simpa using h1) w (fun W => by rw [List.length_replicate]; exact (make_row W room (by omega)).1) (fun W => by rw [List.length_replicate]; have := (make_row W room (by omega)).2; show World.ownsRow _ _ _ _ _ _ _; rw [List.length_replicate]; exact this)
  rw [List.length_replicate] at h
  exact h
theorem hnew_no (first room : Int) (h : room < 1 ∨ 65536 < room) (w : World) : Calls Try.prog 41 #[.int .u32 first, .int .i64 room] w fun e w' => e = .returned (.tuple #[.pointer none, .int .i64 2]) ∧ w' = w := by
  rcases Int.lt_or_le room 1 with g | g
  · go_enter Try.func41, Try.ntmps41
    go_wp2_with fail
    go_ret2
    exact ⟨rfl, rfl⟩
  · have g2 : 65536 < room := by omega
    go_enter Try.func41, Try.ntmps41
    go_wp2_with fail
    go_ret2
    exact ⟨rfl, rfl⟩
theorem hnext_any (hp n : Nat) (tq : Option Addr) (tc : Nat) (w : World) (c2 : w.cell? ⟨hp, 2, none⟩ = some (.slice tq n tc)) : Calls Try.prog 45 #[.pointer (at0 hp)] w fun e w' => e = .returned (.int .i64 n) ∧ w' = w := by
  go_enter Try.func45, Try.ntmps45
  go_wp2_with fail
  go_ret
  exact ⟨rfl, rfl⟩
theorem hnext_nil (w : World) : Calls Try.prog 45 #[.pointer none] w fun e w' => e = .returned (.int .i64 0) ∧ w' = w := by
  go_enter Try.func45, Try.ntmps45
  go_wp2_with fail
  go_ret
  exact ⟨rfl, rfl⟩
theorem hbytes_any (hp gp : Nat) (q : Option Addr) (c : Nat) (l : List (Int × Int)) (w : World) (ok : OkL l) (hl : l.length ≤ 100000) (c1 : w.cell? ⟨hp, 1, none⟩ = some (.pointer (at0 gp))) (c3 : w.cell? ⟨gp, 0, none⟩ = some (.slice q l.length c)) (hr : Reads w 2 q l.length c (fc spc l)) :
    Calls Try.prog 49 #[.pointer (at0 hp)] w fun e w' => e = .returned (.int .i64 (bytesL l)) ∧ Fr None w w' := by
  have H := Lib.hid (bytes_any gp q c l w ok (by omega) c3 hr)
  clear ok c3 hr
  go_enter Try.func49, Try.ntmps49
  go_wp2_with ((with_reducible refine (H.out).mono ?_); rintro e1 w1 ⟨rfl, F1⟩)
  go_ret
  exact ⟨rfl, F1⟩
theorem hbytes_nil (w : World) : Calls Try.prog 49 #[.pointer none] w fun e w' => e = .returned (.int .i64 0) ∧ w' = w := by
  go_enter Try.func49, Try.ntmps49
  go_wp2_with fail
  go_ret
  exact ⟨rfl, rfl⟩
/-- Append of a row onto nothing. -/
theorem htext_any (hp : Nat) (tq : Option Addr) (tc : Nat) (text : List Int) (w : World) (hl : text.length ≤ 100000000) (c2 : w.cell? ⟨hp, 2, none⟩ = some (.slice tq text.length tc)) (hr : Reads w 1 tq text.length tc (fc u8c text)) :
    Calls Try.prog 44 #[.pointer (at0 hp)] w fun e w' => ∃ q' c', e = .returned (.slice q' text.length c') ∧ Sep None w w' [brow q' c' text] := by
  obtain ⟨i, hi, hz0, hz1, hz2⟩ := info_parts u8Info
  have HI := Lib.hid (And.intro hi (And.intro hz0 (And.intro hz1 hz2))); clear hi hz0 hz1 hz2
  have HR := Lib.hid hr; clear hr
  have HS := Lib.hid ((Sep.law w).add (Ob.row 0 U8T 1 (.slice none 0 0) 0 (fc u8c [])) (Fr.refl None _) (Owns.nil u8c 1 U8T _) (fun k hk => by cases hk))
  go_enter Try.func44, Try.ntmps44
  go_wp2_with (at_builtin; refine Hold.out ?_)
  refine Hold.mk ?_
  refine wpList_append_row _ rfl _ _ _ rfl 0 U8T i _ 1 1 Try.underlying62 HI.out.1 HI.out.2.1 HI.out.2.2.1 HI.out.2.2.2 rfl (by decide) _ 0 (fc u8c []) rfl (HS.out.at_ 0 rfl) tq text.length tc (fc u8c text) rfl HR.out (fc_one u8c_one _) (by simp [maxLen]; omega) (by omega) (Nat.zero_le _) ?_
  intro q2 c2' w2 ho2 hf2 hb2
  simp only [Nat.zero_add] at ho2
  have S2 : Sep None w w2 [brow q2 c2' text] := HS.out.turn 0 rfl (brow q2 c2' text) hf2 (fun _ _ h => by cases h) (by rw [fc_nil, List.nil_append] at ho2; exact ho2) (fun k hk => by
    have hk' : (Value.slice q2 text.length c2').ownBlock = some k := hk
    rcases hb2 with e | e
    · rw [Nat.zero_add] at e; rw [e] at hk'; cases hk'
    · rw [Nat.zero_add] at e; rw [e] at hk'; cases hk'; exact .inr (Nat.le_refl _))
  have HS2 := Lib.hid S2
  clear S2 ho2 hf2 hb2 HS HR
  simp only [Nat.zero_add]
  go_wp2_with fail
  go_ret
  exact ⟨_, _, rfl, HS2.out⟩
theorem htext_nil (w : World) : Calls Try.prog 44 #[.pointer none] w fun e w' => e = .returned (.slice none 0 0) ∧ w' = w := by
  go_enter Try.func44, Try.ntmps44
  go_wp2_with fail
  go_ret
  exact ⟨rfl, rfl⟩
end Go.Proofs.Ytfobeheplficgaa
/- place and twice: walked. -/
namespace Go.Proofs.Ytfobeheplficgaa
open Go.RowKit Go.Und Go.Shelf
attribute [local go_sem] Oper.semAt_some
attribute [local go_sem ↓] Go.wp_at_zero Go.wp_at_succ

/-- Where a segment's first byte stands. -/
def _root_.Go.Und.offH (n : Nat) (first num : Int) : Int := n + sdI ((num - first) % 4294967296 - n)
def _root_.Go.Und.codeH (n room len : Nat) (off : Int) : Int := if len = 0 then 6 else if 2048 < len then 9 else if off < 0 then 11 else if (n : Int) + room < off + len then 12 else 0
def _root_.Go.Und.plS (n room len : Nat) (off : Int) : Int × Int := if codeH n room len off = 0 then (off, off + len) else (0, 0)
theorem _root_.Go.Und.plS_of {n room len : Nat} {off c : Int} (h : codeH n room len off = c) : codeH n room len off = c ∧ plS n room len off = if c = 0 then (off, off + len) else (0, 0) := ⟨h, by unfold plS; rw [h]⟩
theorem _root_.Go.Und.code_old {n room len : Nat} {off : Int} (l0 : 0 < len) (l1 : len ≤ 2048) (g : ¬ 0 ≤ off) : codeH n room len off = 11 := by unfold codeH; rw [if_neg (by omega), if_neg (by omega), if_pos (by omega)]
theorem _root_.Go.Und.code_ahead {n room len : Nat} {off : Int} (l0 : 0 < len) (l1 : len ≤ 2048) (g : 0 ≤ off) (g2 : (n : Int) + room < off + len) : codeH n room len off = 12 := by unfold codeH; rw [if_neg (by omega), if_neg (by omega), if_neg (by omega), if_pos g2]
theorem _root_.Go.Und.code_ok {n room len : Nat} {off : Int} (l0 : 0 < len) (l1 : len ≤ 2048) (g : 0 ≤ off) (g2 : ¬ (n : Int) + room < off + len) : codeH n room len off = 0 := by unfold codeH; rw [if_neg (by omega), if_neg (by omega), if_neg (by omega), if_neg g2]
abbrev hcl (first : Int) (gp : Nat) (tq : Option Addr) (n tc : Nat) (rq : Option Addr) (room rc : Nat) : Array Value := #[.int .u32 first, .pointer (at0 gp), .slice tq n tc, .slice rq room rc]

set_option maxHeartbeats 2000000 in
theorem place_ok (hp : Nat) (first num off : Int) (gp : Nat) (tq : Option Addr) (n tc : Nat) (rq : Option Addr) (room rc : Nat) (a : Option Addr) (len cap : Nat) (w : World) (hn : n ≤ 100000000) (hroom : room ≤ 65536)
    (c0 : w.cell? ⟨hp, 0, none⟩ = some (.int .u32 first)) (c2 : w.cell? ⟨hp, 2, none⟩ = some (.slice tq n tc)) (c3 : w.cell? ⟨hp, 3, none⟩ = some (.slice rq room rc)) (ho : offH n first num = off) (l0 : 0 < len) (l1 : len ≤ 2048) :
    Calls Try.prog 75 #[.pointer (at0 hp), .int .u32 num, .slice a len cap] w fun e w' => e = .returned (.tuple #[spV (plS n room len off), .int .i64 (codeH n room len off)]) ∧ Fr None w w' := by
  have hp0 : hp < w.heap.size := World.block_lt_of_cell? w _ c0
  have hb := sdI_bounds ((num - first) % 4294967296 - n)
  unfold offH at ho
  have HU := Lib.hid (fun W => unwrap_any n ((num - first) % 4294967296) off W (by omega) (by omega) ho)
  have S0 := (Sep.law w).alloc #[.int .i64 0, .int .i64 0] SpT
  have HS0 := Lib.hid S0
  have k0 : (w.alloc (.cells #[.int .i64 0, .int .i64 0] SpT)).cell? ⟨hp, 0, none⟩ = some (.int .u32 first) := cell_frN S0.fr c0
  have k2 : (w.alloc (.cells #[.int .i64 0, .int .i64 0] SpT)).cell? ⟨hp, 2, none⟩ = some (.slice tq n tc) := cell_frN S0.fr c2
  have HN0 := Lib.hid (fun (V : World) (k2 : V.cell? ⟨hp, 2, none⟩ = some (.slice tq n tc)) (m : Nat) => hnext_any hp n tq tc (V.drewN m) k2)
  have ho1 : off ≤ 1000000000000 := by omega
  have ho0 : -1000000000000 ≤ off := by omega
  clear ho hb S0
  have k3 : (w.alloc (.cells #[.int .i64 0, .int .i64 0] SpT)).cell? ⟨hp, 3, none⟩ = some (.slice rq room rc) := cell_frN HS0.out.fr c3
  have hz : (w.alloc (.cells #[.int .i64 0, .int .i64 0] SpT)).heap.size = w.heap.size + 1 := by simp
  have wsum : IntKind.i64.wrap (off + (len : Int)) = off + len := IntWalk.i64_in _ (by omega)
  have wsum2 : IntKind.i64.wrap ((n : Int) + (room : Int)) = n + room := IntWalk.i64_in _ (by omega)
  have HZ := Lib.hid hz
  clear c0 c2 c3 hz
  by_cases g : 0 ≤ off
  · have HU2 := HU
    rw [if_pos g, decide_eq_true g] at HU2
    clear HU
    by_cases g2 : (n : Int) + room < off + len
    · have HCC := Lib.hid (plS_of (code_ahead l0 l1 g g2))
      have g3 : decide ((n : Int) + room < off + len) = true := decide_eq_true g2
      go_enter Try.func75, Try.ntmps75
      go_wp2_with fail
      generalize w.alloc (.cells #[.int .i64 0, .int .i64 0] 24) = V at k0 k2 k3 HS0 HZ ⊢
      have HN := Lib.hid (HN0.out V k2)
      go_quiet ((first | (with_reducible exact Calls.quiet_of_same (HN.out _)) | (with_reducible exact Calls.quiet_of_same (HU2.out _))))
      have S1 := HS0.out.drewN nq
      have i2 : (V.drewN nq).cell? ⟨hp, 2, none⟩ = some (.slice tq n tc) := k2
      have i3 : (V.drewN nq).cell? ⟨hp, 3, none⟩ = some (.slice rq room rc) := k3
      have hz1 : (V.drewN nq).heap.size = w.heap.size + 1 := HZ.out
      have HZ1 := Lib.hid hz1
      clear HS0 HN k0 k2 k3 HZ hz1
      generalize V.drewN nq = U at *
      have HS1 := Lib.hid (S1.alloc #[.int .i64 off, .int .i64 (off + len)] SpT)
      clear S1
      go_wp2_with fail
      have j1 : (U.alloc (.cells #[.int .i64 off, .int .i64 (off + len)] 24)).cell? ⟨U.heap.size, 1, none⟩ = some (.int .i64 (off + len)) := (HS1.out.at_ 0 rfl).cell 1
      have j0 : (U.alloc (.cells #[.int .i64 off, .int .i64 (off + len)] 24)).cell? ⟨U.heap.size, 0, none⟩ = some (.int .i64 off) := (HS1.out.at_ 0 rfl).cell 0
      have j2 := cell_frN ((Fr.refl None U).alloc (.cells #[.int .i64 off, .int .i64 (off + len)] SpT)) i2
      have j3 := cell_frN ((Fr.refl None U).alloc (.cells #[.int .i64 off, .int .i64 (off + len)] SpT)) i3
      clear i2 i3
      generalize U.alloc (.cells #[.int .i64 off, .int .i64 (off + len)] 24) = X at *
      have HNX := Lib.hid (HN0.out X j2)
      go_quiet ((with_reducible exact Calls.quiet_of_same (HNX.out _)))
      have HS2 := Lib.hid (HS1.out.drewN nq)
      have u0 : (X.drewN nq).cell? ⟨U.heap.size, 0, none⟩ = some (.int .i64 off) := j0
      have u1 : (X.drewN nq).cell? ⟨U.heap.size, 1, none⟩ = some (.int .i64 (off + len)) := j1
      have r0 : (X.drewN nq).cell? ⟨w.heap.size, 0, none⟩ = some (.int .i64 0) := (HS2.out.at_ 1 rfl).cell 0
      have r1 : (X.drewN nq).cell? ⟨w.heap.size, 1, none⟩ = some (.int .i64 0) := (HS2.out.at_ 1 rfl).cell 1
      have z0 : (X.drewN nq).frozen? ⟨w.heap.size, 0, none⟩ = false := (HS2.out.at_ 1 rfl).frozen 0
      have z1 : (X.drewN nq).frozen? ⟨w.heap.size, 1, none⟩ = false := (HS2.out.at_ 1 rfl).frozen 1
      clear HS1 HNX j0 j1 j2 j3
      generalize X.drewN nq = Y at *
      go_wp2_with fail
      exact bodyPost_ret (v := .tuple #[spV (0, 0), .int .i64 12]) (by simp [results, Try.results75, go_sem, r0, r1]) rfl ⟨by rw [HCC.out.1, HCC.out.2]; rfl, ((HS2.out.set 1 rfl 0 (.int .i64 0)).set 1 rfl 1 (.int .i64 0)).fr⟩
    · have HCC := Lib.hid (plS_of (code_ok l0 l1 g g2))
      have g3 : decide ((n : Int) + room < off + len) = false := decide_eq_false g2
      go_enter Try.func75, Try.ntmps75
      go_wp2_with fail
      generalize w.alloc (.cells #[.int .i64 0, .int .i64 0] 24) = V at k0 k2 k3 HS0 HZ ⊢
      have HN := Lib.hid (HN0.out V k2)
      go_quiet ((first | (with_reducible exact Calls.quiet_of_same (HN.out _)) | (with_reducible exact Calls.quiet_of_same (HU2.out _))))
      have S1 := HS0.out.drewN nq
      have i2 : (V.drewN nq).cell? ⟨hp, 2, none⟩ = some (.slice tq n tc) := k2
      have i3 : (V.drewN nq).cell? ⟨hp, 3, none⟩ = some (.slice rq room rc) := k3
      have hz1 : (V.drewN nq).heap.size = w.heap.size + 1 := HZ.out
      have HZ1 := Lib.hid hz1
      clear HS0 HN k0 k2 k3 HZ hz1
      generalize V.drewN nq = U at *
      have HS1 := Lib.hid (S1.alloc #[.int .i64 off, .int .i64 (off + len)] SpT)
      clear S1
      go_wp2_with fail
      have j1 : (U.alloc (.cells #[.int .i64 off, .int .i64 (off + len)] 24)).cell? ⟨U.heap.size, 1, none⟩ = some (.int .i64 (off + len)) := (HS1.out.at_ 0 rfl).cell 1
      have j0 : (U.alloc (.cells #[.int .i64 off, .int .i64 (off + len)] 24)).cell? ⟨U.heap.size, 0, none⟩ = some (.int .i64 off) := (HS1.out.at_ 0 rfl).cell 0
      have j2 := cell_frN ((Fr.refl None U).alloc (.cells #[.int .i64 off, .int .i64 (off + len)] SpT)) i2
      have j3 := cell_frN ((Fr.refl None U).alloc (.cells #[.int .i64 off, .int .i64 (off + len)] SpT)) i3
      clear i2 i3
      generalize U.alloc (.cells #[.int .i64 off, .int .i64 (off + len)] 24) = X at *
      have HNX := Lib.hid (HN0.out X j2)
      go_quiet ((with_reducible exact Calls.quiet_of_same (HNX.out _)))
      have HS2 := Lib.hid (HS1.out.drewN nq)
      have u0 : (X.drewN nq).cell? ⟨U.heap.size, 0, none⟩ = some (.int .i64 off) := j0
      have u1 : (X.drewN nq).cell? ⟨U.heap.size, 1, none⟩ = some (.int .i64 (off + len)) := j1
      have r0 : (X.drewN nq).cell? ⟨w.heap.size, 0, none⟩ = some (.int .i64 0) := (HS2.out.at_ 1 rfl).cell 0
      have r1 : (X.drewN nq).cell? ⟨w.heap.size, 1, none⟩ = some (.int .i64 0) := (HS2.out.at_ 1 rfl).cell 1
      have z0 : (X.drewN nq).frozen? ⟨w.heap.size, 0, none⟩ = false := (HS2.out.at_ 1 rfl).frozen 0
      have z1 : (X.drewN nq).frozen? ⟨w.heap.size, 1, none⟩ = false := (HS2.out.at_ 1 rfl).frozen 1
      clear HS1 HNX j0 j1 j2 j3
      generalize X.drewN nq = Y at *
      go_wp2_with fail
      exact bodyPost_ret (v := .tuple #[spV (off, off + len), .int .i64 0]) (by simp [results, Try.results75, go_sem, r0, r1]) rfl ⟨by rw [HCC.out.1, HCC.out.2]; rfl, ((HS2.out.set 1 rfl 0 (.int .i64 off)).set 1 rfl 1 (.int .i64 (off + len))).fr⟩
  · have HU2 := HU
    rw [if_neg g, decide_eq_false g] at HU2
    have HCC := Lib.hid (plS_of (n := n) (room := room) (code_old l0 l1 g))
    clear HU
    go_enter Try.func75, Try.ntmps75
    go_wp2_with fail
    generalize w.alloc (.cells #[.int .i64 0, .int .i64 0] 24) = V at k0 k2 k3 HS0 HZ ⊢
    have HN := Lib.hid (HN0.out V k2)
    go_quiet ((first | (with_reducible exact Calls.quiet_of_same (HN.out _)) | (with_reducible exact Calls.quiet_of_same (HU2.out _))))
    have S1 := HS0.out.drewN nq
    generalize V.drewN nq = U at *
    have S2 := (((S1.set 0 rfl 0 (.int .i64 0)).set 0 rfl 1 (.int .i64 0)).alloc #[.int .i64 0, .int .i64 (len : Int)] SpT)
    have HS1 := Lib.hid S2
    have r0' := (S2.at_ 1 rfl).cell 0
    have r1' := (S2.at_ 1 rfl).cell 1
    have HR := Lib.hid (And.intro r0' r1')
    clear S2 r0' r1'
    have z0 : U.frozen? ⟨w.heap.size, 0, none⟩ = false := (S1.at_ 0 rfl).frozen 0
    have z1 : U.frozen? ⟨w.heap.size, 1, none⟩ = false := (S1.at_ 0 rfl).frozen 1
    have r0 : U.cell? ⟨w.heap.size, 0, none⟩ = some (.int .i64 0) := (S1.at_ 0 rfl).cell 0
    have r1 : U.cell? ⟨w.heap.size, 1, none⟩ = some (.int .i64 0) := (S1.at_ 0 rfl).cell 1
    have hlt := Ob.lt _ (S1.at_ 0 rfl) rfl
    clear S1
    go_wp2_with fail
    obtain ⟨t0, t1⟩ := HR.out
    exact bodyPost_ret (v := .tuple #[spV (0, 0), .int .i64 11]) (by simp [results, Try.results75, go_sem, t0, t1]) rfl ⟨by rw [HCC.out.1, HCC.out.2]; rfl, HS1.out.fr⟩
theorem place_short (hp : Nat) (num : Int) (n room : Nat) (off : Int) (a : Option Addr) (len cap : Nat) (w : World) (h : len = 0 ∨ 2048 < len) :
    Calls Try.prog 75 #[.pointer (at0 hp), .int .u32 num, .slice a len cap] w fun e w' => e = .returned (.tuple #[spV (plS n room len off), .int .i64 (codeH n room len off)]) ∧ Fr None w w' := by
  have HF := Lib.hid ((Fr.refl None w).alloc (.cells #[.int .i64 0, .int .i64 0] SpT))
  rcases h with rfl | h
  · have HCC := Lib.hid (plS_of (c := 6) (show codeH n room 0 off = 6 from rfl))
    go_enter Try.func75, Try.ntmps75
    go_wp2_with fail
    exact bodyPost_ret (v := .tuple #[spV (0, 0), .int .i64 6]) (by simp [results, Try.results75, go_sem]) rfl ⟨by rw [HCC.out.1, HCC.out.2]; rfl, HF.out⟩
  · have HCC := Lib.hid (plS_of (c := 9) (show codeH n room len off = 9 by unfold codeH; rw [if_neg (by omega), if_pos h]))
    have h0 : 0 < len := by omega
    go_enter Try.func75, Try.ntmps75
    go_wp2_with fail
    exact bodyPost_ret (v := .tuple #[spV (0, 0), .int .i64 9]) (by simp [results, Try.results75, go_sem]) rfl ⟨by rw [HCC.out.1, HCC.out.2]; rfl, HF.out⟩
end Go.Proofs.Ytfobeheplficgaa
/- twice: walked. -/
namespace Go.Proofs.Ytfobeheplficgaa
open Go.RowKit Go.Und Go.Shelf
attribute [local go_sem] Oper.semAt_some
attribute [local go_sem ↓] Go.wp_at_zero Go.wp_at_succ

theorem keep2s {W : World} {b1 o1 b2 o2 zb : Nat} {v1 v2 x y : Value} (h : W.cell? ⟨b1, o1, none⟩ = some v1 ∧ W.cell? ⟨b2, o2, none⟩ = some v2) (n1 : b1 ≠ zb) (n2 : b2 ≠ zb) :
    ((W.setCell ⟨zb, 0, none⟩ x).setCell ⟨zb, 1, none⟩ y).cell? ⟨b1, o1, none⟩ = some v1 ∧ ((W.setCell ⟨zb, 0, none⟩ x).setCell ⟨zb, 1, none⟩ y).cell? ⟨b2, o2, none⟩ = some v2 := by
  have f : ∀ (k j : Nat), k ≠ zb → ((W.setCell ⟨zb, 0, none⟩ x).setCell ⟨zb, 1, none⟩ y).cell? ⟨k, j, none⟩ = W.cell? ⟨k, j, none⟩ := fun k j hk => by
    apply World.cell?_of_block
    exact (Below.heap_setCell _ _ _ k hk).trans (Below.heap_setCell _ _ _ k hk)
  exact ⟨(f _ _ n1).trans h.1, (f _ _ n2).trans h.2⟩
set_option maxRecDepth 100000 in
set_option maxHeartbeats 4000000 in
theorem twice_any (hp gp : Nat) (q : Option Addr) (c : Nat) (l : List (Int × Int)) (s1 s2 : Int) (w : World) (ok : OkL l) (hl : l.length ≤ 100000) (c1 : w.cell? ⟨hp, 1, none⟩ = some (.pointer (at0 gp))) (c3 : w.cell? ⟨gp, 0, none⟩ = some (.slice q l.length c)) (hr : Reads w 2 q l.length c (fc spc l)) :
    Calls Try.prog 76 #[.pointer (at0 hp), .agg #[.int .i64 s1, .int .i64 s2]] w fun e w' => e = .returned (spV (meetS (nextL l s1) (s1, s2))) ∧ Fr None w w' := by
  have hp0 : hp < w.heap.size := World.block_lt_of_cell? w _ c1
  have HN := Lib.hid (fun (V : World) (f : Fr None w V) => next_any gp q c l s1 V ok (by omega) (cell_frN f c3) (hr.fr f (fun _ _ h => h)))
  have HC := Lib.hid (fun (V : World) (f : Fr None w V) => cell_frN f c1)
  obtain ⟨n1, n2, hn⟩ : ∃ n1 n2, nextL l s1 = (n1, n2) := ⟨_, _, rfl⟩
  have HM := Lib.hid (fun V : World => meet_any n1 n2 s1 s2 V)
  rw [hn] at HN ⊢
  generalize lenS (n1, n2) = ln at *
  obtain ⟨m1, m2, hm⟩ : ∃ m1 m2, meetS (n1, n2) (s1, s2) = (m1, m2) := ⟨_, _, rfl⟩
  rw [hm] at HM ⊢
  have HS0 := Lib.hid (((Sep.law w).alloc #[.int .i64 s1, .int .i64 s2] SpT).alloc #[.int .i64 0, .int .i64 0] SpT)
  simp only [World.size_alloc] at HS0
  clear ok c1 c3 hr hn hm
  go_enter Try.func76, Try.ntmps76
  go_wp2_with fail
  generalize (w.alloc (.cells #[.int .i64 s1, .int .i64 s2] 24)).alloc (.cells #[.int .i64 0, .int .i64 0] 24) = V at *
  have k1 : V.cell? ⟨hp, 1, none⟩ = some (.pointer (at0 gp)) := HC.out V HS0.out.fr
  have k2 : V.cell? ⟨w.heap.size, 0, none⟩ = some (.int .i64 s1) := (HS0.out.at_ 1 rfl).cell 0
  have t1 : hp < V.heap.size := World.block_lt_of_cell? V _ k1
  have t2 : w.heap.size < V.heap.size := World.block_lt_of_cell? V _ k2
  have HV := Lib.hid (show V.cell? ⟨hp, 1, none⟩ = some (.pointer (at0 gp)) ∧ V.cell? ⟨w.heap.size, 0, none⟩ = some (.int .i64 s1) from ⟨k1, k2⟩)
  go_region_held3 (fun w' => w'.cell? ⟨hp, 1, none⟩ = some (.pointer (at0 gp)) ∧ w'.cell? ⟨w.heap.size, 0, none⟩ = some (.int .i64 s1)) (first | (with_reducible exact ⟨z1, z2⟩) | (with_reducible exact keep2s ⟨z1, z2⟩ (by omega) (by omega)) | (go_keep; done)) (first
    | ((with_reducible refine (HN.out _ (by repeat (first | exact HS0.out.fr | refine Fr.drew ?_ | refine Fr.alloc ?_ _))).mono ?_); rintro e6 w6 ⟨rfl, F6⟩; have HF6 := Lib.hid (show Fr None V w6 from Fr.trans (by repeat (first | exact Fr.refl _ _ | refine Fr.drew ?_ | refine Fr.alloc ?_ _)) F6); have t3 : V.heap.size ≤ w6.heap.size := HF6.out.size; have z1 : w6.cell? ⟨hp, 1, none⟩ = some (.pointer (at0 gp)) := cell_frN HF6.out HV.out.1; have z2 : w6.cell? ⟨w.heap.size, 0, none⟩ = some (.int .i64 s1) := cell_frN HF6.out HV.out.2; (first | (have HZ6 : RowKit.Hid (Blk w6 V.heap.size SpT #[.int .i64 0, .int .i64 0]) := Lib.hid (blk_up (by first | exact Blk.new _ _ _ | exact (Blk.new _ _ _).drew) F6); obtain ⟨y1, y2, y3, y4, y5, y6, y7⟩ := zero_cells HZ6.out) | skip); clear F6)
    | fail)
  · obtain ⟨Z, hZ⟩ : ∃ Z, Z = w6.alloc (.cells #[.int .i64 n1, .int .i64 n2] SpT) := ⟨_, rfl⟩
    have HFZ := Lib.hid (show Fr None V Z from hZ ▸ HF6.out.alloc _)
    have HBZ := Lib.hid (show Blk Z w6.heap.size SpT #[.int .i64 n1, .int .i64 n2] by rw [hZ]; exact Blk.new w6 _ _)
    rw [← hZ]
    clear hZ
    have SZ := HS0.out.same HFZ.out
    have i0 : Z.cell? ⟨_, 0, none⟩ = some (.int .i64 n1) := HBZ.out.cell 0
    have i1 : Z.cell? ⟨_, 1, none⟩ = some (.int .i64 n2) := HBZ.out.cell 1
    have i2 : Z.cell? ⟨w.heap.size, 0, none⟩ = some (.int .i64 s1) := (SZ.at_ 1 rfl).cell 0
    have i3 : Z.cell? ⟨w.heap.size, 1, none⟩ = some (.int .i64 s2) := (SZ.at_ 1 rfl).cell 1
    have HSZ := Lib.hid SZ
    clear SZ
    go_wp2_with ((with_reducible refine (HM.out _).mono ?_); rintro e6 w9 ⟨rfl, F9⟩; have S9 := HSZ.out.same F9; have r0 : w9.cell? ⟨w.heap.size + 1, 0, none⟩ = some (.int .i64 0) := (S9.at_ 0 rfl).cell 0; have r1 : w9.cell? ⟨w.heap.size + 1, 1, none⟩ = some (.int .i64 0) := (S9.at_ 0 rfl).cell 1; have r2 : w9.frozen? ⟨w.heap.size + 1, 0, none⟩ = false := (S9.at_ 0 rfl).frozen 0; have r3 : w9.frozen? ⟨w.heap.size + 1, 1, none⟩ = false := (S9.at_ 0 rfl).frozen 1; have HS9 := Lib.hid S9; clear S9)
    exact bodyPost_ret (v := spV (m1, m2)) (by simp [results, Try.results76, go_sem, r0, r1]) rfl ⟨rfl, ((HS9.out.set 0 rfl 0 (.int .i64 m1)).set 0 rfl 1 (.int .i64 m2)).fr⟩
  · have HZZ := store2 (x := n1) (y := n2) HZ6.out HF6.out (Nat.le_refl _)
    generalize (w6.setCell ⟨V.heap.size, 0, none⟩ (.int .i64 n1)).setCell ⟨V.heap.size, 1, none⟩ (.int .i64 n2) = Z at *
    have HFZ := Lib.hid HZZ.out.1
    have HBZ := Lib.hid HZZ.out.2
    have SZ := HS0.out.same HFZ.out
    have i0 : Z.cell? ⟨_, 0, none⟩ = some (.int .i64 n1) := HBZ.out.cell 0
    have i1 : Z.cell? ⟨_, 1, none⟩ = some (.int .i64 n2) := HBZ.out.cell 1
    have i2 : Z.cell? ⟨w.heap.size, 0, none⟩ = some (.int .i64 s1) := (SZ.at_ 1 rfl).cell 0
    have i3 : Z.cell? ⟨w.heap.size, 1, none⟩ = some (.int .i64 s2) := (SZ.at_ 1 rfl).cell 1
    have HSZ := Lib.hid SZ
    clear SZ
    go_wp2_with ((with_reducible refine (HM.out _).mono ?_); rintro e6 w9 ⟨rfl, F9⟩; have S9 := HSZ.out.same F9; have r0 : w9.cell? ⟨w.heap.size + 1, 0, none⟩ = some (.int .i64 0) := (S9.at_ 0 rfl).cell 0; have r1 : w9.cell? ⟨w.heap.size + 1, 1, none⟩ = some (.int .i64 0) := (S9.at_ 0 rfl).cell 1; have r2 : w9.frozen? ⟨w.heap.size + 1, 0, none⟩ = false := (S9.at_ 0 rfl).frozen 0; have r3 : w9.frozen? ⟨w.heap.size + 1, 1, none⟩ = false := (S9.at_ 0 rfl).frozen 1; have HS9 := Lib.hid S9; clear S9)
    exact bodyPost_ret (v := spV (m1, m2)) (by simp [results, Try.results76, go_sem, r0, r1]) rfl ⟨rfl, ((HS9.out.set 0 rfl 0 (.int .i64 m1)).set 0 rfl 1 (.int .i64 m2)).fr⟩
end Go.Proofs.Ytfobeheplficgaa
/- Above, as an adapter: walked. -/
namespace Go.Proofs.Ytfobeheplficgaa
open Go.RowKit Go.Und Go.Shelf
attribute [local go_sem] Oper.semAt_some
attribute [local go_sem ↓] Go.wp_at_zero Go.wp_at_succ

theorem anyQ_onIn {m : Nat} {P : Program} {md : Region.Mode} {ops : Array Oper} {C : World → Prop} {Q : Act → Prop} {Q' : Exit → Act → World → Prop} (hQ : ∀ a w, C w → Q a → Q' .normal a w) :
    ∀ (fuel : Nat) (listed : Array Bool) (a : Act) (w : World), C w → wpAnyQ P md ops C Q fuel listed a → wpAnyIn Fence.wide m P md ops Q' fuel listed a w
  | 0, _, _, _, hw, h => ⟨h.1, hQ _ _ hw h.2⟩
  | fuel + 1, _, _, _, hw, h => ⟨fun h0 => hQ _ _ hw (h.1 h0), fun i hi => wpOpIn_of_qOpIn rfl hw (fun a' w' hw' => anyQ_onIn hQ fuel _ a' w' hw') (qOpIn_wide (F := Fence.wide) (fun _ => trivial) (h.2 i hi))⟩
theorem region_round_quiet {n id r : Nat} {P : Program} {Q : Exit → Act → World → Prop} {a : Act} {w : World} {l : List Oper} (hm : P.follows .mixedOrders = true) (hd : noDefer l.toArray = true) (hB : Region.lexB .any l.toArray = true)
    (h : wpQuiet P l.toArray (fun w' => ∃ n, w' = w.drewN n) (fun a' => ∀ w', (∃ n, w' = w.drewN n) → Q .normal a' w') l a) : (Code.region id l.toArray true).wpIn (Fence.wide.inRound r) n P Q a w := by
  simp only [Region.lexB, Bool.and_eq_true] at hB
  refine wpIn_region_any hm (wpAnyIn_round r rfl hd _ _ _ _ (anyQ_onIn (C := fun w' => ∃ n, w' = w.drewN n) (Q := fun a' => ∀ w', (∃ n, w' = w.drewN n) → Q .normal a' w') (fun _ w' hw' h => h w' hw') _ _ _ _ ⟨1, rfl⟩ ?_))
  have := wpAnyQ_lex (C := fun w' => ∃ n, w' = w.drewN n) (md := .any) hB.1 l.toArray.toList 0 (Array.replicate l.toArray.size false) a (by simp) (by simpa using hB.2) (by simpa using h)
  simpa using this

abbrev HpT : TypeId := 64
def aboveF (n : Nat) (l : List (Int × Int)) : List (Int × Int) := l.filter fun x => decide ((n : Int) ≤ x.1)
theorem aboveF_snoc (n : Nat) (l : List (Int × Int)) (x : Int × Int) : aboveF n (l ++ [x]) = aboveF n l ++ if (n : Int) ≤ x.1 then [x] else [] := by
  unfold aboveF; rw [List.filter_append]; congr 1
  by_cases h : (n : Int) ≤ x.1 <;> simp [List.filter_cons, h]
theorem aboveF_pre (n : Nat) {l m : List (Int × Int)} (h : l <+: m) : aboveF n l <+: aboveF n m := by
  obtain ⟨t, rfl⟩ := h
  exact ⟨aboveF n t, by unfold aboveF; rw [List.filter_append]⟩
structure AbI (J : (Nat → Prop) → List (Int × Int) → World → Prop) (l yb b1 bb hp n : Nat) (hcs : Array Value) (Pri : Nat → Prop) (pre : List (Int × Int)) (Pro : Nat → Prop) (V : World) : Prop where
  j : J Pro (aboveF n pre) V
  own : ∀ k, k = yb ∨ k = b1 → Pro k
  pri : ∀ k, Pri k → Pro k
  off : ¬ Pri yb ∧ ¬ Pri bb ∧ ¬ Pri hp
  y : Blk V yb YspT #[.func (.yield l) #[] #[]]
  b : Blk V bb HpT #[.pointer (at0 hp)]
  h : Blk V hp HdT hcs
  old : ∀ k, Pri k → k < V.heap.size
theorem AbI.turn {J : (Nat → Prop) → List (Int × Int) → World → Prop} {l yb b1 bb hp n : Nat} {hcs : Array Value} {Pri Pri' Pro X : Nat → Prop} {pre : List (Int × Int)} {A C : World} {B B' : Nat} (hJ : OwnP B J) (hB : B ≤ B')
    (h : AbI J l yb b1 bb hp n hcs Pri pre Pro A) (f : Fr X A C) (hX : ∀ k, X k → B' ≤ k ∧ (Pri k ∨ ∃ o : Obj, A.heap[k]? = some o ∧ o.isCells = false)) (hP : ∀ k, Pri' k → Pri k ∨ (A.heap.size ≤ k ∧ k < C.heap.size)) :
    AbI J l yb b1 bb hp n hcs Pri' pre (fun k => Pro k ∨ (A.heap.size ≤ k ∧ k < C.heap.size)) C := by
  have hn : ∀ {k t cs}, Blk A k t cs → ¬ Pri k → ¬ X k := fun {k t cs} hb hk hx => by
    rcases (hX k hx).2 with h1 | ⟨o, h1, h2⟩
    · exact hk h1
    · unfold Blk at hb; rw [hb] at h1; cases h1; cases h2
  have hp : ∀ {k}, k < A.heap.size → ¬ Pri k → ¬ Pri' k := fun {k} hk hn hp' => by
    rcases hP k hp' with h1 | h1
    · exact hn h1
    · omega
  exact ⟨hJ Pro _ X _ A C h.j f (fun k hk => ⟨Nat.le_trans hB (hX k hk).1, (hX k hk).2.imp (h.pri k) id⟩) (fun _ hk => hk), fun k hk => .inl (h.own k hk), fun k hk => (hP k hk).imp (h.pri k) id,
    ⟨hp h.y.lt h.off.1, hp h.b.lt h.off.2.1, hp h.h.lt h.off.2.2⟩, h.y.fr f (hn h.y h.off.1), h.b.fr f (hn h.b h.off.2.1), h.h.fr f (hn h.h h.off.2.2), fun k hk => (hP k hk).elim (fun g => Nat.lt_of_lt_of_le (h.old k g) f.size) (fun g => g.2)⟩
theorem ab_step {J : (Nat → Prop) → List (Int × Int) → World → Prop} {l yb b1 bb hp n B B' : Nat} {hcs : Array Value} {V V3 : World} {Sh Pri Pro : Nat → Prop} {pre pre' : List (Int × Int)} (hB : B ≤ B')
    (h1 : Sh bb) (h2 : Sh hp) (h : AbI J l yb b1 bb hp n hcs Pri pre Pro V) (hk3 : KeepsFrom B V V3) (f : FrC (Pd Pro Sh) V V3) (hj : J Pro (aboveF n pre') V3) :
    KeepsFrom B' V V3 ∧ FrC (Pd Pri fun k => Sh k ∨ k = b1) V V3 ∧ ∃ Pro, AbI J l yb b1 bb hp n hcs Pri pre' Pro V3 := by
  have own := h.own
  refine ⟨KeepsFrom.up hk3 hB, ⟨f.size, fun j cs t z hj hd => ?_⟩, Pro, hj, own, h.pri, h.off, h.y.frC f (fun hn => hn (.inl (own _ (.inl rfl)))), h.b.frC f (fun hn => hn (.inr h1)), h.h.frC f (fun hn => hn (.inr h2)), fun k hk => Nat.lt_of_lt_of_le (h.old k hk) f.size⟩
  have hd' : Pri j ∨ Sh j ∨ j = b1 := Classical.byContradiction hd
  exact f.block j cs t z hj (fun hn => hn (by
    rcases hd' with g | g | g
    · exact .inl (h.pri j g)
    · exact .inr g
    · exact .inl (own j (.inr g))))
set_option maxRecDepth 100000 in
set_option maxHeartbeats 4000000 in
theorem above1_y (n bb hp gp : Nat) (q : Option Addr) (c : Nat) (l : List (Int × Int)) (first : Int) (tq : Option Addr) (tc : Nat) (text : List Int) (rq : Option Addr) (rc : Nat) (ring : List Int) (Sh : Nat → Prop) (w : World) (hl : l.length ≤ 100000) (ht : text.length ≤ 100000000)
    (hb : Blk w bb HpT #[.pointer (at0 hp)]) (hh : Blk w hp HdT (hcs first gp tq tc text rq rc ring)) (c3 : w.cell? ⟨gp, 0, none⟩ = some (.slice q l.length c)) (hr : Reads w 2 q l.length c (fc spc l)) (h1 : Sh bb) (h2 : Sh hp) (h3 : ∀ k, ShR gp q l k → Sh k) (hS0 : ∀ k, Sh k → k < w.heap.size) :
    SeqY n Try.prog 98 #[.pointer (at0 bb)] encS Sh (aboveF text.length l) w := by
  intro lb J Jx W hW hJ hJx hY h0
  have f0 : Fr None w W := Fr.of_below hW
  have hb1 := hb.fr f0 id
  have hh1 := hh.fr f0 id
  have c0 : W.cell? ⟨bb, 0, none⟩ = some (.pointer (at0 hp)) := hb1.cell 0
  have c1 : W.cell? ⟨hp, 1, none⟩ = some (.pointer (at0 gp)) := hh1.cell 1
  have l0 := hb1.lt
  have l1 := hh1.lt
  obtain ⟨hc, eh⟩ : ∃ hc, hc = hcs first gp tq tc text rq rc ring := ⟨_, rfl⟩
  have H2 := Lib.hid (show hc[2]? = some (.slice tq text.length tc) by rw [eh]; rfl)
  rw [← eh] at hh1 hh
  clear eh
  generalize text.length = nt at *
  have J1 : J (fun k => k = W.heap.size ∨ k = W.heap.size + 1) [] ((W.alloc (.cells #[.func (.yield lb) #[] #[]] YspT)).alloc (.cells #[.pointer (at0 gp)] RpT)) :=
    hJ _ _ (fun _ => False) _ _ _ h0 (((Fr.refl _ W).alloc _).alloc _) (fun _ h => h.elim) fun k e => .inr (by simp; rcases e with e | e <;> subst e <;> omega)
  have S4 := (((Sep.law W).alloc #[.func (.yield lb) #[] #[]] YspT).alloc #[.pointer (at0 gp)] RpT)
  simp only [World.size_alloc] at S4
  obtain ⟨W4, hW4⟩ : ∃ W4, W4 = (W.alloc (.cells #[.func (.yield lb) #[] #[]] YspT)).alloc (.cells #[.pointer (at0 gp)] RpT) := ⟨_, rfl⟩
  rw [← hW4] at S4 J1
  have hz4 : W4.heap.size = W.heap.size + 2 := by rw [hW4]; simp
  have G0 : AbI J lb W.heap.size (W.heap.size + 1) bb hp nt hc (fun _ => False) [] (fun k => k = W.heap.size ∨ k = W.heap.size + 1) W4 :=
    ⟨J1, fun _ h => h, fun _ h => h.elim, ⟨id, id, id⟩, S4.at_ 1 rfl, hb1.fr S4.fr id, hh1.fr S4.fr id, fun _ h => h.elim⟩
  have F4 : Fr None w W4 := f0.trans S4.fr
  have HS := Lib.hid (fun n => all_y n (W.heap.size + 1) gp q c l W4 (by omega) (fun k => Sh k ∨ k = W.heap.size + 1) ⟨(S4.at_ 0 rfl).cell 0, cell_frN F4 c3, hr.fr F4 (fun _ _ h => h)⟩ (.inr rfl) (fun k h => .inl (h3 k h)))
  have HG0 := Lib.hid (show ∃ Pro, AbI J lb W.heap.size (W.heap.size + 1) bb hp nt hc (fun _ => False) [] Pro W4 from ⟨_, G0⟩)
  have HZ := Lib.hid hz4
  have EW := Lib.hid hW4.symm
  have HA := Lib.hid (allF_any gp (W.alloc (.cells #[.func (.yield lb) #[] #[]] YspT)))
  have HY := Lib.hid hY
  have HJ := Lib.hid (And.intro hJ hJx)
  have HSh := Lib.hid (And.intro h1 h2)
  clear hb1 hh1 hb hh f0 J1 hY h0 hJ hJx h1 h2 h3 hW hS0 S4 hW4 hz4 G0 F4 c3 hr
  simp only [List.push_toArray, List.append_toArray, List.cons_append, List.nil_append]
  refine callsIn_of_wp_marks Try.func98 rfl trivial ?_ rfl
  simp only [Try.ntmps98, List.size_toArray, List.length_cons, List.length_nil, Nat.reduceAdd, Nat.reduceSub, Array.replicate_succ, Array.replicate_zero, List.push_toArray, List.append_toArray, List.nil_append, List.cons_append]
  gi_wp2_with fail
  first | refine ⟨trivial, (callsIn_wide.2 (HA.out)).mono ?_⟩ | refine ⟨trivial, fun h => (by cases h), (callsIn_wide.2 (HA.out)).mono ?_⟩
  rintro e w3 ⟨rfl, e3⟩
  simp only [World.size_alloc, EW.out] at e3 ⊢
  simp only [e3]
  clear e3 w3 HA
  gi_wp2_with fail
  refine wpIn_rangeY (gf := 61) (lb := #[.pointer (at0 (W.heap.size + 1))]) rfl (enters_of Try.func61 (by kernel_rfl) rfl) (HS.out _) (Below.refl _ _) (fun _ => rfl)
    (fun Pri pre V => ∃ Pro, AbI J lb W.heap.size (W.heap.size + 1) bb hp nt hc Pri pre Pro V) (fun c Pri pre V => c = .ret ∧ ∃ Pro, Jx Pro (aboveF nt pre) V ∧ ∀ k, Pri k → Pro k)
    (fun Pr Pr' X s A C ⟨Pro, h⟩ f hX hP => ⟨_, h.turn HJ.out.1 (by have := HZ.out; omega) f hX hP⟩)
    (fun c Pr Pr' X s A C ⟨e, Pro, h, hp⟩ f hX hP => ⟨e, _, HJ.out.2 Pro (fun k => Pro k ∨ (A.heap.size ≤ k ∧ k < C.heap.size)) X _ A C h f (fun k hk => ⟨by have := (hX k hk).1; have := HZ.out; omega, (hX k hk).2.imp (hp k) id⟩) (fun _ h => h), fun k hk => (hP k hk).imp (hp k) id⟩)
    HG0.out ?fA (fun Pri pre x k V => ∃ Pro, AbI J lb W.heap.size (W.heap.size + 1) bb hp nt hc Pri pre Pro V ∧ Blk V k SpT #[.int .i64 x.1, .int .i64 x.2] ∧ Pro k ∧ ¬ Pri k)
    (fun Pri pre x k s A C row ⟨Pro, h, h1, h2, h3⟩ hg hr => ⟨_, h.turn (Pri' := Pri) HJ.out.1 (by have := HZ.out; omega) (grown_fr hg) (fun k e => ⟨(hr k e).1, .inr (hr k e).2⟩) (fun _ h => .inl h), h1.fr (own_frY hg hr) h1.odd, .inl h2, h3⟩) ?assign ?body ?done ?stop
  case assign =>
    intro l' Pri pre x V K ⟨Pro, hI⟩ hK
    gi_wp2
    have f : Fr None V (V.alloc (.cells #[.int .i64 x.1, .int .i64 x.2] SpT)) := (Fr.refl None V).alloc _
    have hp : ∀ k, Pri k → k < V.heap.size := hI.old
    have hK' := hK V.heap.size (V.alloc (.cells #[.int .i64 x.1, .int .i64 x.2] SpT)) (KeepsFrom.of_fr f (fun _ _ h => h.elim)) (FrC.none f)
      ⟨_, hI.turn (Pri' := Pri) (B' := W4.heap.size) HJ.out.1 (by have := HZ.out; omega) f (fun k h => h.elim) (fun _ h => .inl h), Blk.new V SpT _, .inr ⟨Nat.le_refl _, by simp⟩, fun h => absurd (hp _ h) (by omega)⟩
    clear hI hK f hp
    generalize V.heap.size = k at *
    exact hK'
  case body =>
    rintro l' Pri pre ⟨x1, x2⟩ k V ⟨Pro, hI, hk, hPk, hnk⟩ hpre
    have c0 : V.cell? ⟨W.heap.size, 0, none⟩ = some (.func (.yield lb) #[] #[]) := hI.y.cell 0
    have c1 : V.cell? ⟨bb, 0, none⟩ = some (.pointer (at0 hp)) := hI.b.cell 0
    have c2 : V.cell? ⟨hp, 2, none⟩ = some (.slice tq nt tc) := (hI.h.cell 2).trans H2.out
    have x1c : V.cell? ⟨k, 0, none⟩ = some (.int .i64 x1) := hk.cell 0
    have x2c : V.cell? ⟨k, 1, none⟩ = some (.int .i64 x2) := hk.cell 1
    have HN := Lib.hid (hnext_any hp nt tq tc V.drew c2)
    by_cases g : (nt : Int) ≤ x1
    · have g1 : decide ((nt : Int) ≤ x1) = true := decide_eq_true g
      have e1 : aboveF nt (pre ++ [(x1, x2)]) = aboveF nt pre ++ [(x1, x2)] := by rw [aboveF_snoc, if_pos g]
      have hp2 := aboveF_pre nt hpre
      rw [e1] at hp2
      have HE := Lib.hid e1
      clear e1
      gi_wp2_with fail
      obtain ⟨fn, tmps, assign, body, hy, hR⟩ := HY.out Pro (aboveF nt pre) (x1, x2) V.drew (HJ.out.1 Pro Pro None _ V _ hI.j ((Fr.refl None V).drew) (fun _ h => h.elim) (fun _ h => .inl h)) hp2
      have HR := Lib.hid hR
      have HID := Lib.hid (show AbI J lb W.heap.size (W.heap.size + 1) bb hp nt hc Pri pre Pro V.drew from ⟨HJ.out.1 Pro Pro None _ V _ hI.j ((Fr.refl None V).drew) (fun _ h => h.elim) (fun _ h => .inl h), hI.own, hI.pri, hI.off, hI.y, hI.b, hI.h, hI.old⟩)
      have d0 : V.drew.cell? ⟨W.heap.size, 0, none⟩ = some (.func (.yield lb) #[] #[]) := c0
      have d1 : V.drew.cell? ⟨k, 0, none⟩ = some (.int .i64 x1) := x1c
      have d2 : V.drew.cell? ⟨k, 1, none⟩ = some (.int .i64 x2) := x2c
      clear hR hI hk hp2 hpre g
      refine wpIn_region_round (by kernel_rfl) (by kernel_rfl) ?_
      refine atOp_any (n := 0 + 1 + 1 + 1 + 1 + 1 + 1 + 1 + 1 + 1 + 1 + 1) (L := #[false, false, false, false, false, false, false, false, false, false, false]) (by simp) (by kernel_rfl) ?_
      refine wpAnyIn_take (i := 0) (v := ?_) rfl rfl (by kernel_rfl) (by kernel_rfl) (by kernel_rfl) (fun _ _ _ h => h) ⟨Or.inl ⟨by rfl, by (intro w; go_simp <;> with_reducible rfl)⟩, fun _ => rfl⟩ ?_
      refine wpAnyIn_ready (rs := [1, 2]) (by kernel_rfl) (by simp) ?_
      refine AllReadyIn.cons rfl (fun K hK => ?_) (AllReadyIn.cons rfl (fun K hK => ?_) AllReadyIn.nil)
      all_goals (go_simp; refine hK _ _ ?_; clear hK K)
      · skip
        refine atOp_back (s := 2) (by simp) (by kernel_rfl) ?_
        go_simp
        refine segF_still 3 (by kernel_rfl) ?_
        simp only [List.drop_succ_cons, List.drop_zero, List.take_succ_cons, List.take_zero]
        repeat (go_big_quiet_step (fail))
        refine wpQuiet_nil ?_
        refine seg_one (by kernel_rfl) fun K hK => ?_
        simp only [List.drop_succ_cons, List.drop_zero, List.take_succ_cons, List.take_zero]
        gi_wp2_with fail
        first | refine ⟨trivial, (callsIn_wide.2 (HN.out)).mono ?_⟩ | refine ⟨trivial, fun h => (by cases h), (callsIn_wide.2 (HN.out)).mono ?_⟩
        rintro e w4 ⟨rfl, rfl⟩
        dsimp only
        gi_wp2_with fail
        refine seg_still 8 (by kernel_rfl) ?_
        simp only [List.drop_succ_cons, List.drop_zero, List.take_succ_cons, List.take_zero]
        repeat (go_big_quiet_step (fail))
        refine wpQuiet_nil ?_
        refine seg_one (by kernel_rfl) fun K hK => ?_
        simp only [List.drop_succ_cons, List.drop_zero, List.take_succ_cons, List.take_zero]
        gi_wp2_with fail
        refine ⟨fun h => (by cases h), (roundIn_any rfl HR.out).mono ?_⟩
        rintro e V3 ⟨hk3, (⟨rfl, h1, h2⟩ | ⟨rfl, h1⟩)⟩
        · have P := Lib.hid (ab_step (show W.heap.size ≤ W4.heap.size by have := HZ.out; omega) HSh.out.1 HSh.out.2 HID.out hk3 h2 (by rw [HE.out]; exact h1))
          clear h1 h2 hk3 hy HR HID c0 c1 x1c x2c d0 d1 d2
          dsimp only
          gi_wp2_with fail
          refine seg_still 11 (by kernel_rfl) ?_
          simp only [List.drop_succ_cons, List.drop_zero, List.take_succ_cons, List.take_zero]
          repeat (go_big_quiet_step (fail))
          refine wpQuiet_nil ?_
          refine seg_done (by rfl) (by kernel_rfl) ?_
          gi_wp2_with fail
          exact ⟨(KeepsFrom.of_fr ((Fr.refl None V).drew) (fun _ _ h => h.elim)).trans P.out.1, (FrC.none ((Fr.refl None V).drew)).trans P.out.2.1, P.out.2.2⟩
        · have P := Lib.hid (And.intro (KeepsFrom.up hk3 (show W.heap.size ≤ W4.heap.size by have := HZ.out; omega)) (And.intro h1 HID.out.pri))
          clear h1 hk3 hy HR HID c0 c1 x1c x2c d0 d1 d2
          dsimp only
          gi_wp2_with fail
          refine seg_still 11 (by kernel_rfl) ?_
          simp only [List.drop_succ_cons, List.drop_zero, List.take_succ_cons, List.take_zero]
          repeat (go_big_quiet_step (fail))
          refine wpQuiet_nil ?_
          refine seg_done (by rfl) (by kernel_rfl) ?_
          gi_wp2_with fail
          exact ⟨(KeepsFrom.of_fr ((Fr.refl None V).drew) (fun _ _ h => h.elim)).trans P.out.1, rfl, Pro, by rw [HE.out]; exact P.out.2.1, P.out.2.2⟩
      · skip
        refine wpAnyIn_ready (rs := [1, 3]) (by kernel_rfl) (by simp) ?_
        refine AllReadyIn.cons rfl (fun K hK => ?_) (AllReadyIn.cons rfl (fun K hK => ?_) AllReadyIn.nil)
        · go_simp
          refine hK _ _ ?_
          clear hK K
          refine atOp_back (s := 3) (by simp) (by kernel_rfl) ?_
          go_simp
          refine seg_one (by kernel_rfl) fun K hK => ?_
          simp only [List.drop_succ_cons, List.drop_zero, List.take_succ_cons, List.take_zero]
          gi_wp2_with fail
          first | refine ⟨trivial, (callsIn_wide.2 (HN.out)).mono ?_⟩ | refine ⟨trivial, fun h => (by cases h), (callsIn_wide.2 (HN.out)).mono ?_⟩
          rintro e w4 ⟨rfl, rfl⟩
          dsimp only
          gi_wp2_with fail
          refine seg_still 8 (by kernel_rfl) ?_
          simp only [List.drop_succ_cons, List.drop_zero, List.take_succ_cons, List.take_zero]
          repeat (go_big_quiet_step (fail))
          refine wpQuiet_nil ?_
          refine seg_one (by kernel_rfl) fun K hK => ?_
          simp only [List.drop_succ_cons, List.drop_zero, List.take_succ_cons, List.take_zero]
          gi_wp2_with fail
          refine ⟨fun h => (by cases h), (roundIn_any rfl HR.out).mono ?_⟩
          rintro e V3 ⟨hk3, (⟨rfl, h1, h2⟩ | ⟨rfl, h1⟩)⟩
          · have P := Lib.hid (ab_step (show W.heap.size ≤ W4.heap.size by have := HZ.out; omega) HSh.out.1 HSh.out.2 HID.out hk3 h2 (by rw [HE.out]; exact h1))
            clear h1 h2 hk3 hy HR HID c0 c1 x1c x2c d0 d1 d2
            dsimp only
            gi_wp2_with fail
            refine seg_still 11 (by kernel_rfl) ?_
            simp only [List.drop_succ_cons, List.drop_zero, List.take_succ_cons, List.take_zero]
            repeat (go_big_quiet_step (fail))
            refine wpQuiet_nil ?_
            refine seg_done (by rfl) (by kernel_rfl) ?_
            gi_wp2_with fail
            exact ⟨(KeepsFrom.of_fr ((Fr.refl None V).drew) (fun _ _ h => h.elim)).trans P.out.1, (FrC.none ((Fr.refl None V).drew)).trans P.out.2.1, P.out.2.2⟩
          · have P := Lib.hid (And.intro (KeepsFrom.up hk3 (show W.heap.size ≤ W4.heap.size by have := HZ.out; omega)) (And.intro h1 HID.out.pri))
            clear h1 hk3 hy HR HID c0 c1 x1c x2c d0 d1 d2
            dsimp only
            gi_wp2_with fail
            refine seg_still 11 (by kernel_rfl) ?_
            simp only [List.drop_succ_cons, List.drop_zero, List.take_succ_cons, List.take_zero]
            repeat (go_big_quiet_step (fail))
            refine wpQuiet_nil ?_
            refine seg_done (by rfl) (by kernel_rfl) ?_
            gi_wp2_with fail
            exact ⟨(KeepsFrom.of_fr ((Fr.refl None V).drew) (fun _ _ h => h.elim)).trans P.out.1, rfl, Pro, by rw [HE.out]; exact P.out.2.1, P.out.2.2⟩
        · go_simp
          first | refine ⟨trivial, (callsIn_wide.2 (HN.out)).mono ?_⟩ | refine ⟨trivial, fun h => (by cases h), (callsIn_wide.2 (HN.out)).mono ?_⟩
          rintro e w4 ⟨rfl, rfl⟩
          dsimp only
          refine hK _ _ ?_
          clear hK K
          refine wpAnyIn_ready (rs := [1]) (by kernel_rfl) (by simp) ?_
          refine AllReadyIn.cons rfl (fun K hK => ?_) AllReadyIn.nil
          go_simp
          refine hK _ _ ?_
          clear hK K
          refine atOp_back (s := 4) (by simp) (by kernel_rfl) ?_
          go_simp
          refine seg_still 8 (by kernel_rfl) ?_
          simp only [List.drop_succ_cons, List.drop_zero, List.take_succ_cons, List.take_zero]
          repeat (go_big_quiet_step (fail))
          refine wpQuiet_nil ?_
          refine seg_one (by kernel_rfl) fun K hK => ?_
          simp only [List.drop_succ_cons, List.drop_zero, List.take_succ_cons, List.take_zero]
          gi_wp2_with fail
          refine ⟨fun h => (by cases h), (roundIn_any rfl HR.out).mono ?_⟩
          rintro e V3 ⟨hk3, (⟨rfl, h1, h2⟩ | ⟨rfl, h1⟩)⟩
          · have P := Lib.hid (ab_step (show W.heap.size ≤ W4.heap.size by have := HZ.out; omega) HSh.out.1 HSh.out.2 HID.out hk3 h2 (by rw [HE.out]; exact h1))
            clear h1 h2 hk3 hy HR HID c0 c1 x1c x2c d0 d1 d2
            dsimp only
            gi_wp2_with fail
            refine seg_still 11 (by kernel_rfl) ?_
            simp only [List.drop_succ_cons, List.drop_zero, List.take_succ_cons, List.take_zero]
            repeat (go_big_quiet_step (fail))
            refine wpQuiet_nil ?_
            refine seg_done (by rfl) (by kernel_rfl) ?_
            gi_wp2_with fail
            exact ⟨(KeepsFrom.of_fr ((Fr.refl None V).drew) (fun _ _ h => h.elim)).trans P.out.1, (FrC.none ((Fr.refl None V).drew)).trans P.out.2.1, P.out.2.2⟩
          · have P := Lib.hid (And.intro (KeepsFrom.up hk3 (show W.heap.size ≤ W4.heap.size by have := HZ.out; omega)) (And.intro h1 HID.out.pri))
            clear h1 hk3 hy HR HID c0 c1 x1c x2c d0 d1 d2
            dsimp only
            gi_wp2_with fail
            refine seg_still 11 (by kernel_rfl) ?_
            simp only [List.drop_succ_cons, List.drop_zero, List.take_succ_cons, List.take_zero]
            repeat (go_big_quiet_step (fail))
            refine wpQuiet_nil ?_
            refine seg_done (by rfl) (by kernel_rfl) ?_
            gi_wp2_with fail
            exact ⟨(KeepsFrom.of_fr ((Fr.refl None V).drew) (fun _ _ h => h.elim)).trans P.out.1, rfl, Pro, by rw [HE.out]; exact P.out.2.1, P.out.2.2⟩
    · have g1 : decide ((nt : Int) ≤ x1) = false := decide_eq_false g
      have e1 : aboveF nt (pre ++ [(x1, x2)]) = aboveF nt pre := by rw [aboveF_snoc, if_neg g, List.append_nil]
      have HNn := Lib.hid (fun m => hnext_any hp nt tq tc (V.drewN m) c2)
      have HI := Lib.hid (fun m => ab_step (V3 := V.drewN m) (pre' := pre ++ [(x1, x2)]) (show W.heap.size ≤ W4.heap.size by have := HZ.out; omega) HSh.out.1 HSh.out.2 hI (KeepsFrom.of_fr ((Fr.refl None V).drewN m) (fun _ _ h => h.elim)) (FrC.none ((Fr.refl None V).drewN m)) (by rw [e1]; exact HJ.out.1 Pro Pro None _ V _ hI.j ((Fr.refl None V).drewN m) (fun _ h => h.elim) (fun _ h => .inl h)))
      clear hI hk hpre e1 g
      gi_wp2_with fail
      refine region_round_quiet (by kernel_rfl) (by kernel_rfl) (by kernel_rfl) ?_
      repeat (go_big_quiet_step ((with_reducible exact Calls.quiet_of_same (HNn.out _))))
      refine wpQuiet_nil ?_
      rintro _ ⟨nq, rfl⟩
      gi_wp2_with fail
      exact HI.out _
  case done =>
    rintro D Pr V hD ⟨Pro, hI⟩ hK
    have P := Lib.hid ((HJ.out.1.own _).putObj (.deferred none) hI.j (by have := HZ.out; omega) hK rfl)
    clear hI
    gi_wp2_with fail
    refine ⟨by simp, .inl ⟨_, _, rfl, run_takeDeferred hK, ?_⟩⟩
    exact ⟨_, results_none rfl _ _ _, ⟨⟨_, rfl⟩, .inl ⟨_, P.out⟩⟩⟩
  case stop =>
    rintro D c Pr pre V hD hpre ⟨rfl, Pro, hjx, _⟩ hK
    have P := Lib.hid ((HJ.out.2.own _).putObj (.deferred none) hjx (by have := HZ.out; omega) hK rfl)
    have HP2 := Lib.hid (aboveF_pre nt hpre)
    clear hpre hjx
    gi_wp2_with fail
    refine ⟨by simp, .inl ⟨_, _, rfl, run_takeDeferred hK, ?_⟩⟩
    exact ⟨_, results_none rfl _ _ _, ⟨⟨_, rfl⟩, .inr ⟨aboveF nt pre, Pro, HP2.out, P.out⟩⟩⟩
end Go.Proofs.Ytfobeheplficgaa
