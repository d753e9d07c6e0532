/- Remove: walked (up to what lay answers). -/
import Derived.Test.YtfobeheplficgaaRwC
set_option linter.unusedVariables false
set_option linter.unusedSimpArgs false
namespace Go.Proofs.Ytfobeheplficgaa
open Go.RowKit Go.Und Go.Shelf
attribute [local go_sem] Oper.semAt_some
attribute [local go_sem ↓] Go.wp_at_zero Go.wp_at_succ

theorem mono_fr2 {l : List (Int × Int)} (ok : OkL l) (k : Int) : l.Pairwise fun a b => decide (k ≤ a.1) = true → decide (k ≤ b.1) = true := ok.rises.imp fun h => by simp only [decide_eq_true_eq]; omega
/-- What is left of some. -/
def keepN (ys : List (Int × Int)) : List (Int × Int) := ys.flatMap fun y => if lenS y = 0 then [] else [y]
theorem keep_parts (s x : Int × Int) : partsS s x = keepN [belowS x s.1, fromS x s.2] := by unfold partsS keepN; simp
theorem keep_next {ys : List (Int × Int)} {j : Nat} {y : Int × Int} (h : ys[j]? = some y) : keepN (ys.take (j + 1)) = keepN (ys.take j) ++ if lenS y = 0 then [] else [y] := by
  rw [List.take_add_one, h]; unfold keepN; rw [List.flatMap_append]; simp
theorem keep_len (ys : List (Int × Int)) : (keepN ys).length ≤ ys.length := by
  unfold keepN
  induction ys with
  | nil => simp
  | cons y r ih =>
    rw [List.flatMap_cons, List.length_append, List.length_cons]
    have : (if lenS y = 0 then [] else [y] : List (Int × Int)).length ≤ 1 := by split <;> simp
    omega
theorem parts_len (s : Int × Int) : ∀ (l : List (Int × Int)), (l.flatMap (partsS s)).length ≤ 2 * l.length
  | [] => by simp
  | x :: l => by
    have := parts_len s l
    have h := keep_len [belowS x s.1, fromS x s.2]
    rw [← keep_parts] at h
    simp only [List.flatMap_cons, List.length_append, List.length_cons, List.length_nil] at *
    omega
theorem reads_two {w : World} {yb : Nat} {y1 y2 z1 z2 : Int} (h : Blk w yb SpT #[.int .i64 y1, .int .i64 y2, .int .i64 z1, .int .i64 z2]) : Reads w 2 (some ⟨yb, 0, none⟩) 2 2 (fc spc [(y1, y2), (z1, z2)]) :=
  ⟨rfl, Nat.le_refl _, fun h => (by cases h), fun ad h => (by cases h; rfl), fun ad h' j u hu => by
    cases h'
    rw [h.cell]
    have hu2 : ([.int .i64 y1, .int .i64 y2, .int .i64 z1, .int .i64 z2] : List Value)[j]? = some u := hu
    simpa using hu2⟩
set_option maxRecDepth 100000 in
set_option maxHeartbeats 8000000 in
theorem rem_core (p : Nat) (q : Option Addr) (cap : Nat) (l : List (Int × Int)) (a b : Int) (w : World) (ok : OkL l) (hl : l.length ≤ 10000) (hs : PrS (a, b)) (S : Sep (fpL (rns p q cap l)) w w (rns p q cap l)) (lo hi : Nat) (elo : lo = fstP (fun x => decide (a < x.2)) l) (ehi : hi = fstP (fun x => decide (b ≤ x.1)) l)
    (M vs : List (Int × Int)) (hM : M = (l.take hi).drop lo) (hvs : vs = M.flatMap (partsS (a, b))) (code : Int) (l' : List (Int × Int))
    (HL : ∀ (W : World) (qv : Option Addr) (cv : Nat), Sep (fpL (rns p q cap l ++ [srow qv cv vs])) W W (rns p q cap l ++ [srow qv cv vs]) → Calls Try.prog 56 #[.pointer (at0 p), .int .i64 (lo : Int), .int .i64 (hi : Int), .slice qv vs.length cv] W fun e w' =>
      e = .returned (.int .i64 code) ∧ ∃ q' c', Sep (fpL (rns p q cap l ++ [srow qv cv vs])) W w' (rns p q' c' l' ++ [srow qv cv vs])) :
    Calls Try.prog 24 #[.pointer (at0 p), .agg #[.int .i64 a, .int .i64 b]] w fun e w' =>
      e = .returned (.tuple #[.int .i64 (if code = 0 then withinL l (a, b) else 0), .int .i64 code]) ∧ ∃ q' c', Sep (fpL (rns p q cap l)) w w' (rns p q' c' l') := by
  have hab : (a == b) = false := beq_eq_false_iff_ne.2 (by have := hs.2.1; simp only at this; omega)
  have S0 := S.alloc #[.int .i64 a, .int .i64 b] SpT
  have HK := Lib.hid (ask_any p a b (w.alloc (.cells #[.int .i64 a, .int .i64 b] SpT)))
  rw [mayS_pr hs] at HK
  have hlohi : lo ≤ hi := by rw [elo, ehi]; exact lo_hi2 l ok (a, b) (by have := hs.2.1; simp only at this ⊢; omega)
  have hhi : hi ≤ l.length := by rw [ehi]; exact fstP_le _ l
  have HS0 := Lib.hid S0
  have HO := Lib.hid ok
  have HP := Lib.hid hs
  have HM := Lib.hid hM
  have HV := Lib.hid hvs
  have H1 := Lib.hid elo
  have H2 := Lib.hid ehi
  have HLA := Lib.hid HL
  clear S S0 ok hs elo ehi hM hvs HL
  go_enter Try.func24, Try.ntmps24
  go_wp2_with (first
    | ((refine (HK.out).mono ?_); rintro e1 w1 ⟨rfl, F1⟩; have S1 := HS0.out.same F1; clear F1; have d1 : w1.cell? ⟨w.heap.size, 0, none⟩ = some (.int .i64 a) := (S1.at_ 0 rfl).cell 0; have d2 : w1.cell? ⟨w.heap.size, 1, none⟩ = some (.int .i64 b) := (S1.at_ 0 rfl).cell 1; have d3 : w1.cell? ⟨p, 0, none⟩ = some (.slice q l.length cap) := (S1.at_ 1 rfl).cell 0; have HS1 := Lib.hid S1; clear S1 HS0 HK)
    | (have HC := Lib.hid (first_any p q cap l 62 #[.pointer (at0 w.heap.size)] (fun x => decide (a < x.2)) w1 (enters_of Try.func62 (by kernel_rfl) rfl) d3 (row_reads (HS1.out.at_ 2 rfl)) (rem1_pred _ _ _ d1) (by omega) (mono_to2 HO.out a)); (with_reducible refine (HC.out).mono ?_); clear HC; rintro e2 w2 ⟨rfl, F2⟩; rw [← H1.out]; have S2 := HS1.out.same F2; clear F2; have f1 : w2.cell? ⟨w.heap.size, 0, none⟩ = some (.int .i64 a) := (S2.at_ 0 rfl).cell 0; have f2 : w2.cell? ⟨w.heap.size, 1, none⟩ = some (.int .i64 b) := (S2.at_ 0 rfl).cell 1; have f3 : w2.cell? ⟨p, 0, none⟩ = some (.slice q l.length cap) := (S2.at_ 1 rfl).cell 0; have HS2 := Lib.hid S2; clear S2 HS1)
    | (have HC := Lib.hid (first_any p q cap l 63 #[.pointer (at0 w.heap.size)] (fun x => decide (b ≤ x.1)) w2 (enters_of Try.func63 (by kernel_rfl) rfl) f3 (row_reads (HS2.out.at_ 2 rfl)) (rem2_pred _ _ _ f2) (by omega) (mono_fr2 HO.out b)); (with_reducible refine (HC.out).mono ?_); clear HC; rintro e3 w3 ⟨rfl, F3⟩; rw [← H2.out]; have S3 := HS2.out.same F3; clear F3; have g1 : w3.cell? ⟨w.heap.size, 0, none⟩ = some (.int .i64 a) := (S3.at_ 0 rfl).cell 0; have g2 : w3.cell? ⟨w.heap.size, 1, none⟩ = some (.int .i64 b) := (S3.at_ 0 rfl).cell 1; have g3 : w3.cell? ⟨p, 0, none⟩ = some (.slice q l.length cap) := (S3.at_ 1 rfl).cell 0; have HS3 := Lib.hid S3; clear S3 HS2; have hcap : l.length ≤ cap := (row_reads (HS3.out.at_ 2 rfl)).room; obtain ⟨q3, hq3⟩ : ∃ q3, q3 = (if cap = lo then q else q.map (·.add (lo * 2))) := ⟨_, rfl⟩; have hcut : ∀ W, (Instr.sliceAt SlT (.slice q l.length cap) (some (.int .i64 (lo : Int))) (some (.int .i64 (hi : Int))) none).run Try.prog W = .ok (.slice q3 (hi - lo) (cap - lo)) W := fun W => by
          obtain ⟨inf, hi1, _, hz1, _⟩ := info_parts spInfo
          have h1 := run_cut_mid (P := Try.prog) W SlT SpT inf 2 Try.underlying22 hi1 hz1 q l.length cap .i64 .i64 (lo : Int) (hi : Int) (by omega) (by omega) (by omega)
          rw [h1, hq3]; simp
       have HQ3 := Lib.hid hq3; clear hq3)
    | (have HC := Lib.hid (within_any p q cap l a b w3 HO.out (by omega) g3 (row_reads (HS3.out.at_ 2 rfl))); (with_reducible refine (HC.out).mono ?_); clear HC; rintro e4 w4 ⟨rfl, F4⟩; have S4 := HS3.out.same F4; clear F4; have k1 : w4.cell? ⟨w.heap.size, 0, none⟩ = some (.int .i64 a) := (S4.at_ 0 rfl).cell 0; have k2 : w4.cell? ⟨w.heap.size, 1, none⟩ = some (.int .i64 b) := (S4.at_ 0 rfl).cell 1; have k3 : w4.cell? ⟨p, 0, none⟩ = some (.slice q l.length cap) := (S4.at_ 1 rfl).cell 0; have HS4 := Lib.hid S4; clear S4 HS3)
    | fail)
  have hml : M.length = hi - lo := by rw [HM.out, List.length_drop, List.length_take]; omega
  have hmm : ∀ x ∈ M, x ∈ l := fun x hx => by rw [HM.out] at hx; exact List.mem_of_mem_take (List.mem_of_mem_drop hx)
  have hrd : Reads w4 2 q3 (hi - lo) (cap - lo) (fc spc M) := by
    have r := ((row_reads (HS4.out.at_ 2 rfl)).take hhi).drop hlohi
    rw [← HQ3.out, fc_take spc_len, fc_drop spc_len, ← HM.out] at r
    exact r
  have HRD := Lib.hid hrd
  have HML := Lib.hid hml
  have HMM := Lib.hid hmm
  clear hrd hml hmm
  go_loopg [10, 46] (hi - lo) (fun n lf i wr => ∃ (k : Nat) (ql : Option Addr) (cl : Nat), k + n = hi - lo ∧ i = .int .i64 k ∧ lf = .slice ql ((M.take k).flatMap (partsS (a, b))).length cl ∧ Sep None w4 wr [srow ql cl ((M.take k).flatMap (partsS (a, b)))] ∧
    Sep (fpL (rns p q cap l)) w wr (srow ql cl ((M.take k).flatMap (partsS (a, b))) :: sblk w.heap.size (a, b) :: rns p q cap l))
  case atStart => exact ⟨0, none, 0, by omega, rfl, rfl, (Sep.law w4).add (srow none 0 []) (Fr.refl None _) (Owns.nil spc 2 SpT _) (fun k hk => by cases hk), HS4.out.add (srow none 0 []) (Fr.refl None _) (Owns.nil spc 2 SpT _) (fun k hk => by cases hk)⟩
  case round =>
    clear HS4 k1 k2 k3
    obtain ⟨k, ql, cl, hk, rfl, rfl, R1, S1⟩ := hrel
    by_cases g : k < hi - lo
    · have ex := List.getElem?_eq_getElem (show k < M.length by rw [HML.out]; exact g)
      obtain ⟨bq, off, rfl, hc⟩ := (HRD.out.fr R1.fr (fun _ _ h => h)).elem spc_len (by decide) ex
      have hxl := HMM.out _ (List.mem_of_getElem? ex)
      have hk1 : M.take (k + 1) = M.take k ++ [M[k]'(by rw [HML.out]; exact g)] := by rw [List.take_add_one, ex]; rfl
      generalize M[k]'(by rw [HML.out]; exact g) = x at *
      obtain ⟨x1, x2⟩ := x
      have c1 : wr.cell? ⟨bq, off + k * 2, none⟩ = some (.int .i64 x1) := hc 0 _ rfl
      have c2 : wr.cell? ⟨bq, off + k * 2 + 1, none⟩ = some (.int .i64 x2) := hc 1 _ rfl
      have hnext : (M.take (k + 1)).flatMap (partsS (a, b)) = (M.take k).flatMap (partsS (a, b)) ++ keepN [belowS (x1, x2) a, fromS (x1, x2) b] := by rw [hk1, List.flatMap_append, ← keep_parts (a, b) (x1, x2)]; simp
      have HN := Lib.hid hnext
      have HE := Lib.hid ex
      have HXL := Lib.hid hxl
      have hal : ((M.take k).flatMap (partsS (a, b))).length ≤ 2 * k := Nat.le_trans (parts_len _ _) (by rw [List.length_take]; omega)
      have HR1 := Lib.hid R1
      generalize hacc : (M.take k).flatMap (partsS (a, b)) = acc at *
      have HACC := Lib.hid hacc
      clear hc ex hk1 hnext hxl R1 hacc
      have SU := S1.alloc #[.int .i64 x1, .int .i64 x2] SpT
      have HSU := Lib.hid SU
      have HRU := Lib.hid (HR1.out.skip (.cells #[.int .i64 x1, .int .i64 x2] SpT))
      have HSW := Lib.hid S1
      clear SU S1
      go_wp2_with fail
      generalize wr.alloc (.cells #[.int .i64 x1, .int .i64 x2] SpT) = U at *
      have u1 : U.cell? ⟨wr.heap.size, 0, none⟩ = some (.int .i64 x1) := (HSU.out.at_ 0 rfl).cell 0
      have u2 : U.cell? ⟨wr.heap.size, 1, none⟩ = some (.int .i64 x2) := (HSU.out.at_ 0 rfl).cell 1
      have u3 : U.cell? ⟨w.heap.size, 0, none⟩ = some (.int .i64 a) := (HSU.out.at_ 2 rfl).cell 0
      have u4 : U.cell? ⟨w.heap.size, 1, none⟩ = some (.int .i64 b) := (HSU.out.at_ 2 rfl).cell 1
      have HBe := Lib.hid (fun W => below_any x1 x2 a W)
      have HFo := Lib.hid (fun W => from_any x1 x2 b W)
      generalize belowS (x1, x2) a = y at *
      generalize fromS (x1, x2) b = z at *
      obtain ⟨y1, y2⟩ := y
      obtain ⟨z1, z2⟩ := z
      clear c1 c2 hcut
      go_region_held3 (fun w' => w'.cell? ⟨wr.heap.size, 0, none⟩ = some (.int .i64 x1) ∧ w'.cell? ⟨wr.heap.size, 1, none⟩ = some (.int .i64 x2) ∧ w'.cell? ⟨w.heap.size, 0, none⟩ = some (.int .i64 a) ∧ w'.cell? ⟨w.heap.size, 1, none⟩ = some (.int .i64 b)) (first | (with_reducible assumption) | (go_keep; done)) (first
        | ((with_reducible refine (HBe.out _).mono ?_); rintro e5 w5 ⟨rfl, F5⟩; have HS5 := Lib.hid (HSU.out.same (Fr.trans (by repeat (first | exact Fr.refl _ _ | refine Fr.drew ?_ | refine Fr.alloc ?_ _)) F5)); have HR5 := Lib.hid (HRU.out.same (Fr.trans (by repeat (first | exact Fr.refl _ _ | refine Fr.drew ?_ | refine Fr.alloc ?_ _)) F5)); have v1 : w5.cell? ⟨wr.heap.size, 0, none⟩ = some (.int .i64 x1) := (HS5.out.at_ 0 rfl).cell 0; have v2 : w5.cell? ⟨wr.heap.size, 1, none⟩ = some (.int .i64 x2) := (HS5.out.at_ 0 rfl).cell 1; have v3 : w5.cell? ⟨w.heap.size, 0, none⟩ = some (.int .i64 a) := (HS5.out.at_ 2 rfl).cell 0; have v4 : w5.cell? ⟨w.heap.size, 1, none⟩ = some (.int .i64 b) := (HS5.out.at_ 2 rfl).cell 1; clear F5)
        | ((with_reducible refine (HFo.out _).mono ?_); rintro e6 w6 ⟨rfl, F6⟩; have HS6 := Lib.hid (HS5.out.same (Fr.trans (by repeat (first | exact Fr.refl _ _ | refine Fr.drew ?_ | refine Fr.alloc ?_ _)) F6)); have HR6 := Lib.hid (HR5.out.same (Fr.trans (by repeat (first | exact Fr.refl _ _ | refine Fr.drew ?_ | refine Fr.alloc ?_ _)) F6)); have t1 : w6.cell? ⟨wr.heap.size, 0, none⟩ = some (.int .i64 x1) := (HS6.out.at_ 0 rfl).cell 0; have t2 : w6.cell? ⟨wr.heap.size, 1, none⟩ = some (.int .i64 x2) := (HS6.out.at_ 0 rfl).cell 1; have t3 : w6.cell? ⟨w.heap.size, 0, none⟩ = some (.int .i64 a) := (HS6.out.at_ 2 rfl).cell 0; have t4 : w6.cell? ⟨w.heap.size, 1, none⟩ = some (.int .i64 b) := (HS6.out.at_ 2 rfl).cell 1; clear F6)
        | fail)
      have SV := (HS6.out.drop (List.sublist_cons_self _ _)).alloc #[.int .i64 y1, .int .i64 y2, .int .i64 z1, .int .i64 z2] SpT
      have HSV := Lib.hid SV
      have HRV := Lib.hid (HR6.out.skip (.cells #[.int .i64 y1, .int .i64 y2, .int .i64 z1, .int .i64 z2] SpT))
      clear SV HR1 HRU HR5 HR6 HS5 HS6 HSU HSW HBe HFo u1 u2 u3 u4 v1 v2 v3 v4 t1 t2 t3 t4
      obtain ⟨yb, hyb⟩ : ∃ yb, yb = w6.heap.size := ⟨_, rfl⟩
      obtain ⟨ys, hys⟩ : ∃ ys : List (Int × Int), ys = [(y1, y2), (z1, z2)] := ⟨_, rfl⟩
      rw [← hys] at HN
      have HYS := Lib.hid hys
      go_wp2_with fail
      go_loopg [10, 60] 2 (fun n lf i wi => ∃ (j : Nat) (qi : Option Addr) (ci : Nat), j + n = 2 ∧ i = .int .i64 j ∧ lf = .slice qi (acc ++ keepN (ys.take j)).length ci ∧ Sep None w4 wi [srow qi ci (acc ++ keepN (ys.take j))] ∧
        Sep (fpL (rns p q cap l)) w wi (Ob.blk w6.heap.size SpT #[.int .i64 y1, .int .i64 y2, .int .i64 z1, .int .i64 z2] :: srow qi ci (acc ++ keepN (ys.take j)) :: sblk w.heap.size (a, b) :: rns p q cap l))
      case atStart =>
        have e0 : acc ++ keepN (ys.take 0) = acc := by simp [keepN]
        refine ⟨0, ql, cl, by omega, rfl, ?_, ?_, ?_⟩ <;> rw [e0]
        · exact HRV.out
        · exact HSV.out
      case round =>
        clear HSV HRV
        obtain ⟨j, qi, ci, hj, rfl, rfl, R1, S1⟩ := hrel
        by_cases gj : j < 2
        · obtain ⟨y, hy⟩ : ∃ y, ys[j]? = some y := ⟨_, List.getElem?_eq_getElem (by rw [HYS.out]; exact gj)⟩
          obtain ⟨bb, oo, hbo, hc⟩ := (reads_two (S1.at_ 0 rfl)).elem spc_len (by decide) (by rw [← HYS.out]; exact hy)
          obtain ⟨rfl, rfl⟩ : w6.heap.size = bb ∧ 0 = oo := by simpa using hbo
          have hnx := keep_next hy
          have hkl := Nat.le_trans (keep_len (ys.take j)) (by rw [List.length_take]; exact Nat.min_le_left _ _)
          obtain ⟨e1, e2⟩ := y
          have c1 : wr.cell? ⟨w6.heap.size, j * 2, none⟩ = some (.int .i64 e1) := by have := hc 0 _ rfl; simpa using this
          have c2 : wr.cell? ⟨w6.heap.size, j * 2 + 1, none⟩ = some (.int .i64 e2) := by have := hc 1 _ rfl; simpa using this
          have HLn := Lib.hid (len_any e1 e2 (wr.alloc (.cells #[.int .i64 e1, .int .i64 e2] SpT)))
          have SY := S1.alloc #[.int .i64 e1, .int .i64 e2] SpT
          have RY := R1.skip (.cells #[.int .i64 e1, .int .i64 e2] SpT)
          have HSY := Lib.hid SY
          have HRY := Lib.hid RY
          have HNX := Lib.hid hnx
          obtain ⟨ac, hac⟩ : ∃ ac, ac = acc ++ keepN (ys.take j) := ⟨_, rfl⟩
          have hacl : ac.length ≤ 100000 := by rw [hac, List.length_append]; omega
          have hac2 : acc ++ keepN (ys.take (j + 1)) = ac ++ if lenS (e1, e2) = 0 then [] else [(e1, e2)] := by rw [hnx, ← List.append_assoc, ← hac]
          have HA2 := Lib.hid hac2
          rw [← hac] at HSY HRY ⊢
          clear S1 R1 SY RY hc hbo hy hnx hac hac2
          by_cases gy : lenS (e1, e2) = 0
          · rw [if_pos gy, List.append_nil] at HA2
            rw [gy] at HLn
            clear gy
            go_wp2_with ((with_reducible refine (HLn.out).mono ?_); rintro e7 w7 ⟨rfl, F7⟩; have HS7 := Lib.hid (HSY.out.same F7); have HR7 := Lib.hid (HRY.out.same F7); clear F7)
            go_roundg (2 - (j + 1))
            case measure => omega
            case rel => exact ⟨j + 1, qi, ci, by omega, by go_num, by rw [HA2.out], by rw [HA2.out]; exact HR7.out, by rw [HA2.out]; exact HS7.out.drop (List.sublist_cons_self _ _)⟩
          · rw [if_neg gy] at HA2
            have gp : decide (0 < lenS (e1, e2)) = true := decide_eq_true (by have := (lenS_bounds (e1, e2)).1; omega)
            obtain ⟨n, hn⟩ : ∃ n, n = lenS (e1, e2) := ⟨_, rfl⟩
            rw [← hn] at HLn gp
            obtain ⟨inf, hi1, hz0, hz1, hz2⟩ := info_parts spInfo
            have HI := Lib.hid (And.intro hi1 (And.intro hz0 (And.intro hz1 hz2))); clear hi1 hz0 hz1 hz2
            clear gy hn
            go_wp2_with (first | ((with_reducible refine (HLn.out).mono ?_); rintro e7 w7 ⟨rfl, F7⟩; have HS7 := Lib.hid (HSY.out.same F7); have HR7 := Lib.hid (HRY.out.same F7); have m1 : w7.cell? ⟨wr.heap.size, 0, none⟩ = some (.int .i64 e1) := (HS7.out.at_ 0 rfl).cell 0; have m2 : w7.cell? ⟨wr.heap.size, 1, none⟩ = some (.int .i64 e2) := (HS7.out.at_ 0 rfl).cell 1; clear F7) | (at_builtin; refine Hold.out ?_))
            refine Hold.mk ?_
            refine wpList_append_row _ rfl _ _ _ rfl 0 SpT inf _ 2 16 Try.underlying22 HI.out.1 HI.out.2.1 HI.out.2.2.1 HI.out.2.2.2 rfl (by decide) _ ac.length (fc spc ac) rfl ((HS7.out.skip (.cells #[.int .i64 e1, .int .i64 e2] SpT)).at_ 2 rfl) (some ⟨w7.heap.size, 0, none⟩) 1 1 (fc spc [(e1, e2)]) rfl (reads_oneR w7 SpT (e1, e2) spc_len) (fc_one spc_one _) (by simp [maxLen]; omega) (by omega) (Nat.zero_le _) ?_
            intro q2 c2' w8 ho2 hf2 hb2
            have hob : ∀ k, (Ob.row 0 SpT 2 (.slice q2 (ac.length + 1) c2') (ac.length + 1) (fc spc ac ++ fc spc [(e1, e2)])).fp k → (srow qi ci ac).fp k ∨ (w7.alloc (.cells #[.int .i64 e1, .int .i64 e2] SpT)).heap.size ≤ k := fun k hk => by
              have hk' : (Value.slice q2 (ac.length + 1) c2').ownBlock = some k := hk
              rcases hb2 with e | e
              · exact .inl (Eq.trans (show (Value.slice qi ac.length ci).ownBlock = (Value.slice q2 (ac.length + 1) c2').ownBlock from e.symm) hk')
              · rw [e] at hk'; cases hk'; exact .inr (Nat.le_refl _)
            have S8 := (HS7.out.skip (.cells #[.int .i64 e1, .int .i64 e2] SpT)).turn 2 rfl (Ob.row 0 SpT 2 (.slice q2 (ac.length + 1) c2') (ac.length + 1) (fc spc ac ++ fc spc [(e1, e2)])) hf2 (fun _ _ h => h) ho2 hob
            have R8 := (HR7.out.skip (.cells #[.int .i64 e1, .int .i64 e2] SpT)).turn 0 rfl (Ob.row 0 SpT 2 (.slice q2 (ac.length + 1) c2') (ac.length + 1) (fc spc ac ++ fc spc [(e1, e2)])) hf2 (fun _ _ h => h) ho2 hob
            simp only [List.set_cons_zero, List.set_cons_succ] at S8 R8
            rw [← fc_append] at S8 R8
            have hlen : (ac ++ [(e1, e2)]).length = ac.length + 1 := by simp
            have HS8 := Lib.hid S8
            have HR8 := Lib.hid R8
            have HLen := Lib.hid hlen
            clear S8 R8 hob ho2 hf2 hb2 hlen HS7 HR7 HSY HRY
            go_wp2_with fail
            go_roundg (2 - (j + 1))
            case measure => omega
            case rel =>
              refine ⟨j + 1, q2, c2', by omega, by go_num, by rw [HA2.out, HLen.out], ?_, ?_⟩
              · rw [HA2.out]
                show Sep _ _ _ [Ob.row 0 SpT 2 (.slice q2 (ac ++ [(e1, e2)]).length c2') (ac ++ [(e1, e2)]).length _]
                rw [HLen.out]; exact HR8.out
              · rw [HA2.out]
                show Sep _ _ _ (_ :: Ob.row 0 SpT 2 (.slice q2 (ac ++ [(e1, e2)]).length c2') (ac ++ [(e1, e2)]).length _ :: _)
                rw [HLen.out]; exact HS8.out.drop (List.sublist_cons_self _ _)
        · obtain rfl : j = 2 := by omega
          have hfin : acc ++ keepN (ys.take 2) = acc ++ keepN ys := by rw [HYS.out]; rfl
          rw [hfin] at R1 S1 ⊢
          rw [← HN.out] at R1 S1 ⊢
          have HR1 := Lib.hid R1
          have HS1 := Lib.hid (S1.drop (List.sublist_cons_self _ _))
          clear R1 S1 hfin
          go_wp2_with fail
          go_roundg (hi - lo - (k + 1))
          case measure => omega
          case rel => exact ⟨k + 1, qi, ci, by omega, by go_num, rfl, HR1.out, HS1.out⟩
    · obtain rfl : k = hi - lo := by omega
      have hfin : M.take (hi - lo) = M := List.take_of_length_le (by rw [HML.out]; exact Nat.le_refl _)
      rw [hfin] at R1 S1 ⊢
      rw [← HV.out] at R1 S1 ⊢
      have k1 : wr.cell? ⟨w.heap.size, 0, none⟩ = some (.int .i64 a) := (S1.at_ 1 rfl).cell 0
      have SL : Sep (fpL (rns p q cap l)) w wr ((rns p q cap l ++ [srow ql cl vs]) ++ [sblk w.heap.size (a, b)]) := S1.perm (by
        show List.Perm [_, _, _, _] [_, _, _, _]
        exact (List.Perm.swap _ _ _).trans ((List.perm_append_comm (l₁ := [_, _]) (l₂ := [_, _])).trans (List.Perm.cons _ (List.Perm.cons _ (List.Perm.swap _ _ _)))))
      have HLC := Lib.hid (HLA.out wr ql cl SL.head)
      have HSL := Lib.hid SL
      clear R1 S1 SL hfin HLA
      by_cases hc : code = 0
      · subst hc
        go_wp2_with ((with_reducible refine (HLC.out).mono ?_); rintro e7 w7 ⟨rfl, q7, c7, T7⟩; have HS7 := Lib.hid (HSL.out.did T7); clear T7)
        go_ret2
        exact ⟨rfl, q7, c7, HS7.out.drop (List.sublist_append_of_sublist_left (List.sublist_append_left (rns p q7 c7 l') _))⟩
      · have gc : (code == 0) = false := beq_eq_false_iff_ne.2 hc
        have HCN := Lib.hid hc
        clear hc
        go_wp2_with ((with_reducible refine (HLC.out).mono ?_); rintro e7 w7 ⟨rfl, q7, c7, T7⟩; have HS7 := Lib.hid (HSL.out.did T7); clear T7)
        go_ret2
        exact ⟨rfl, q7, c7, HS7.out.drop (List.sublist_append_of_sublist_left (List.sublist_append_left (rns p q7 c7 l') _))⟩
end Go.Proofs.Ytfobeheplficgaa
