/- The document's sets: Bytes, Within, Run, Next, Gap: walked; append of one span. -/
import Derived.Test.YtfobeheplficgaaRwP
set_option linter.unusedVariables false
set_option linter.unusedSimpArgs false
namespace Go.Proofs.Ytfobeheplficgaa
open Go.RowKit Go.Und Go.Shelf
attribute [local go_sem] Oper.semAt_some
attribute [local go_sem ↓] Go.wp_at_zero Go.wp_at_succ
attribute [local go_sem] field_sa0 field_sa1

/-- A span is appended to a row of a ledger. -/
theorem wpList_push {D : Nat → Prop} {w0 W : World} {L : List Ob} (S : Sep D w0 W L) (i : Nat) {qi : Option Addr} {ci : Nat} {l : List (Int × Int)} (h : L[i]? = some (srow qi ci l)) (e1 e2 : Int) {ops : Array Oper} {o : Oper} {rest : List Oper} {a : Act} {Q : Exit → Act → World → Prop}
    (hgd : o.guard = none) (s x : Operand) (ho : o.op = .call { callee := .builtin .append, args := #[s, x], argTypes := #[SlT, SlT] }) (hs : a.eval s = .slice qi l.length ci) (hx : a.eval x = .slice (some ⟨W.heap.size, 0, none⟩) 1 1) (hl : l.length ≤ 1000000)
    (K : ∀ q' c' W', Sep D w0 W' (L.set i (srow q' c' (l ++ [(e1, e2)]))) → wpList Try.prog ops Q rest (a.put o.dst (.slice q' (l ++ [(e1, e2)]).length c')) W') : wpList Try.prog ops Q (o :: rest) a (W.alloc (.cells #[.int .i64 e1, .int .i64 e2] SpT)) := by
  obtain ⟨inf, hi1, hz0, hz1, hz2⟩ := info_parts spInfo
  refine wpList_append_row _ hgd s x SlT ho 0 SpT inf _ 2 16 Try.underlying22 hi1 hz0 hz1 hz2 rfl (by decide) _ l.length (fc spc l) hs ((S.skip (.cells #[.int .i64 e1, .int .i64 e2] SpT)).at_ i h) (some ⟨W.heap.size, 0, none⟩) 1 1 (fc spc [(e1, e2)]) hx (reads_oneR W SpT (e1, e2) spc_len) (fc_one spc_one _) (by simp [maxLen]; omega) (by omega) (Nat.zero_le _) ?_
  intro q2 c2' w8 ho2 hf2 hb2
  have hob : ∀ k, (Ob.row 0 SpT 2 (.slice q2 (l.length + 1) c2') (l.length + 1) (fc spc l ++ fc spc [(e1, e2)])).fp k → (srow qi ci l).fp k ∨ (W.alloc (.cells #[.int .i64 e1, .int .i64 e2] SpT)).heap.size ≤ k := fun k hk => by
    have hk' : (Value.slice q2 (l.length + 1) c2').ownBlock = some k := hk
    rcases hb2 with e | e
    · exact .inl (Eq.trans (show (Value.slice qi l.length ci).ownBlock = (Value.slice q2 (l.length + 1) c2').ownBlock from e.symm) hk')
    · rw [e] at hk'; cases hk'; exact .inr (Nat.le_refl _)
  have S8 := (S.skip (.cells #[.int .i64 e1, .int .i64 e2] SpT)).turn i h (Ob.row 0 SpT 2 (.slice q2 (l.length + 1) c2') (l.length + 1) (fc spc l ++ fc spc [(e1, e2)])) hf2 (fun _ _ h => h) ho2 hob
  rw [← fc_append] at S8
  have hlen : (l ++ [(e1, e2)]).length = l.length + 1 := by simp
  have := K q2 c2' w8 (by
    show Sep _ _ _ (L.set i (Ob.row 0 SpT 2 (.slice q2 (l ++ [(e1, e2)]).length c2') (l ++ [(e1, e2)]).length _))
    rw [hlen]; exact S8)
  rwa [hlen] at this
theorem okL_take {l : List (Int × Int)} (ok : OkL l) (k : Nat) : OkL (l.take k) := by
  rw [← List.take_append_drop k l] at ok
  exact (okL_append.1 ok).1
theorem bytes_next {l : List (Int × Int)} (ok : OkL l) {k : Nat} {x : Int × Int} (h : l[k]? = some x) : bytesL (l.take (k + 1)) = bytesL (l.take k) + lenS x ∧ 0 ≤ bytesL (l.take k) + lenS x ∧ bytesL (l.take k) + lenS x ≤ 4611686018427387904 := by
  have e : bytesL (l.take (k + 1)) = bytesL (l.take k) + lenS x := by rw [← take_next h, bytes_snoc]
  rw [← e]
  exact ⟨rfl, bytes_bounds (okL_take ok _)⟩
theorem within_next {l : List (Int × Int)} (ok : OkL l) {k : Nat} {x : Int × Int} (h : l[k]? = some x) (s : Int × Int) : withinL (l.take (k + 1)) s = withinL (l.take k) s + lenS (meetS x s) ∧ 0 ≤ withinL (l.take k) s + lenS (meetS x s) ∧ withinL (l.take k) s + lenS (meetS x s) ≤ 4611686018427387904 := by
  have e : withinL (l.take (k + 1)) s = withinL (l.take k) s + lenS (meetS x s) := by rw [← take_next h, within_snoc]
  have := within_bounds (okL_take ok (k + 1)) s
  have := lenS_bounds s
  omega
theorem wrap_small {a : Int} (h : -9223372036854775808 ≤ a ∧ a < 9223372036854775808) : IntKind.i64.wrap a = a := by simp [IntKind.wrap, IntKind.bits, IntKind.signed]; omega
set_option maxRecDepth 100000 in
set_option maxHeartbeats 2000000 in
theorem rbytes_any (p : Option Addr) (c : Nat) (l : List (Int × Int)) (w : World) (ok : OkL l) (hr : Reads w 2 p l.length c (fc spc l)) (hl : l.length ≤ 1000000) :
    Calls Try.prog 29 #[.slice p l.length c] w fun e w' => e = .returned (.int .i64 (bytesL l)) ∧ Fr None w w' := by
  have HO := Lib.hid ok
  have HR := Lib.hid hr
  clear ok hr
  go_enter Try.func29, Try.ntmps29
  go_wp2_with fail
  go_loopg [3, 4] l.length (fun r n i wr => ∃ k : Nat, k + r = l.length ∧ n = .int .i64 (bytesL (l.take k)) ∧ i = .int .i64 k ∧ Fr None w wr)
  case atStart => exact ⟨0, by omega, rfl, rfl, Fr.refl None w⟩
  case round =>
    obtain ⟨k, hk, rfl, rfl, F⟩ := hrel
    by_cases g : k < l.length
    · have ex := List.getElem?_eq_getElem g
      have hb := bytes_next HO.out ex
      obtain ⟨b, off, rfl, hc⟩ := (HR.out.fr F (fun _ _ h => h)).elem spc_len (by decide) ex
      generalize l[k] = x at *
      obtain ⟨x1, x2⟩ := x
      have c1 : wr.cell? ⟨b, off + k * 2, none⟩ = some (.int .i64 x1) := hc 0 _ rfl
      have c2 : wr.cell? ⟨b, off + k * 2 + 1, none⟩ = some (.int .i64 x2) := hc 1 _ rfl
      have HL := Lib.hid (rlenS_any x1 x2 wr)
      have hw : IntKind.i64.wrap (bytesL (l.take k) + lenS (x1, x2)) = bytesL (l.take k) + lenS (x1, x2) := wrap_small (by omega)
      have HF := Lib.hid F
      have HB := Lib.hid hb.1
      clear hc ex hb F
      generalize bytesL (l.take k) = n0 at *
      generalize lenS (x1, x2) = d0 at *
      go_wp2_with ((with_reducible refine (HL.out).mono ?_); rintro e1 w1 ⟨rfl, F1⟩; have HF1 := Lib.hid (HF.out.trans F1); clear F1)
      go_roundg (gk - 1)
      case measure => omega
      case rel => exact ⟨k + 1, by omega, by rw [HB.out], by go_num, HF1.out⟩
    · obtain rfl : k = l.length := by omega
      rw [List.take_length]
      have HF := Lib.hid F
      clear F
      go_wp2_with fail
      go_ret
      exact ⟨rfl, HF.out⟩
set_option maxRecDepth 100000 in
set_option maxHeartbeats 2000000 in
theorem rwithin_any (p : Option Addr) (c : Nat) (l : List (Int × Int)) (a b : Int) (w : World) (ok : OkL l) (hr : Reads w 2 p l.length c (fc spc l)) (hl : l.length ≤ 1000000) :
    Calls Try.prog 34 #[.slice p l.length c, .agg #[.int .i64 a, .int .i64 b]] w fun e w' => e = .returned (.int .i64 (withinL l (a, b))) ∧ Fr None w w' := by
  have HO := Lib.hid ok
  have HR := Lib.hid hr
  have HS0 := Lib.hid ((Sep.law w).alloc #[.int .i64 a, .int .i64 b] SpT)
  clear ok hr
  go_enter Try.func34, Try.ntmps34
  go_wp2_with fail
  go_loopg [5, 6] l.length (fun r n i wr => ∃ k : Nat, k + r = l.length ∧ n = .int .i64 (withinL (l.take k) (a, b)) ∧ i = .int .i64 k ∧ Sep None w wr [Ob.blk w.heap.size SpT #[.int .i64 a, .int .i64 b]])
  case atStart => exact ⟨0, by omega, rfl, rfl, HS0.out⟩
  case round =>
    obtain ⟨k, hk, rfl, rfl, S⟩ := hrel
    clear HS0
    by_cases g : k < l.length
    · have ex := List.getElem?_eq_getElem g
      have hb := within_next HO.out ex (a, b)
      obtain ⟨bb, off, rfl, hc⟩ := (HR.out.fr S.fr (fun _ _ h => h)).elem spc_len (by decide) ex
      generalize l[k] = x at *
      obtain ⟨x1, x2⟩ := x
      have c1 : wr.cell? ⟨bb, off + k * 2, none⟩ = some (.int .i64 x1) := hc 0 _ rfl
      have c2 : wr.cell? ⟨bb, off + k * 2 + 1, none⟩ = some (.int .i64 x2) := hc 1 _ rfl
      have c3 : wr.cell? ⟨w.heap.size, 0, none⟩ = some (.int .i64 a) := (S.at_ 0 rfl).cell 0
      have c4 : wr.cell? ⟨w.heap.size, 1, none⟩ = some (.int .i64 b) := (S.at_ 0 rfl).cell 1
      have HM := Lib.hid (fun W => rmeetS_any x1 x2 a b W)
      have HL := Lib.hid (fun W => rlenS_any (meetS (x1, x2) (a, b)).1 (meetS (x1, x2) (a, b)).2 W)
      have hw : IntKind.i64.wrap (withinL (l.take k) (a, b) + lenS (meetS (x1, x2) (a, b))) = withinL (l.take k) (a, b) + lenS (meetS (x1, x2) (a, b)) := wrap_small (by omega)
      have HS := Lib.hid S
      have HB := Lib.hid hb.1
      clear hc ex hb S
      generalize withinL (l.take k) (a, b) = n0 at *
      generalize meetS (x1, x2) (a, b) = m at *
      obtain ⟨m1, m2⟩ := m
      simp only at HM HL
      generalize lenS (m1, m2) = d0 at *
      go_wp2_with fail
      go_region_held3 (fun w' => w'.cell? ⟨bb, off + k * 2, none⟩ = some (.int .i64 x1) ∧ w'.cell? ⟨bb, off + k * 2 + 1, none⟩ = some (.int .i64 x2) ∧ w'.cell? ⟨w.heap.size, 0, none⟩ = some (.int .i64 a) ∧ w'.cell? ⟨w.heap.size, 1, none⟩ = some (.int .i64 b)) (first | (with_reducible assumption) | (go_keep; done)) (first
        | ((with_reducible refine (HM.out _).mono ?_); rintro e1 w1 ⟨rfl, F1⟩; have G1 := (show Fr None wr w1 from Fr.trans (by repeat (first | exact Fr.refl _ _ | refine Fr.drew ?_)) F1); have HS1 := Lib.hid (HS.out.same G1); have u1 := cell_frN G1 c1; have u2 := cell_frN G1 c2; have u3 := cell_frN G1 c3; have u4 := cell_frN G1 c4; clear F1 G1)
        | ((with_reducible refine (HL.out _).mono ?_); rintro e2 w2 ⟨rfl, F2⟩; have G2 := (show Fr None w1 w2 from Fr.trans (by repeat (first | exact Fr.refl _ _ | refine Fr.drew ?_)) F2); have HS2 := Lib.hid (HS1.out.same G2); have v1 := cell_frN G2 u1; have v2 := cell_frN G2 u2; have v3 := cell_frN G2 u3; have v4 := cell_frN G2 u4; clear F2 G2)
        | fail)
      all_goals
        go_wp2_with fail
        go_roundg (gk - 1)
        case measure => omega
        case rel => exact ⟨k + 1, by omega, by rw [HB.out], by go_num, HS2.out⟩
    · obtain rfl : k = l.length := by omega
      rw [List.take_length]
      have HS := Lib.hid S
      clear S
      go_wp2_with fail
      go_ret
      exact ⟨rfl, HS.out.fr⟩

theorem take_no {p : Int × Int → Bool} {l : List (Int × Int)} {k : Nat} {x : Int × Int} (h : ∀ y ∈ l.take k, p y = false) (hx : l[k]? = some x) (hp : p x = false) : ∀ y ∈ l.take (k + 1), p y = false := by
  rw [← take_next hx]
  intro y hy
  rcases List.mem_append.1 hy with g | g
  · exact h y g
  · rw [List.mem_singleton.1 g]; exact hp
set_option maxRecDepth 100000 in
set_option maxHeartbeats 2000000 in
theorem rrun_any (p : Option Addr) (c : Nat) (l : List (Int × Int)) (o : Int) (w : World) (hr : Reads w 2 p l.length c (fc spc l)) (hl : l.length ≤ 1000000) :
    Calls Try.prog 32 #[.slice p l.length c, .int .i64 o] w fun e w' => e = .returned (spV (runL l o)) ∧ Fr None w w' := by
  have HR := Lib.hid hr
  have HS0 := Lib.hid ((Sep.law w).alloc #[.int .i64 0, .int .i64 0] SpT)
  clear hr
  go_enter Try.func32, Try.ntmps32
  go_wp2_with fail
  go_loopg [5] l.length (fun r i wr => ∃ k : Nat, k + r = l.length ∧ i = .int .i64 k ∧ (∀ y ∈ l.take k, inB y o = false) ∧ Sep None w wr [Ob.blk w.heap.size SpT #[.int .i64 0, .int .i64 0]])
  case atStart => exact ⟨0, by omega, rfl, (fun y hy => by simp at hy), HS0.out⟩
  case round =>
    obtain ⟨k, hk, rfl, hn, S⟩ := hrel
    clear HS0
    have k0 : wr.cell? ⟨w.heap.size, 0, none⟩ = some (.int .i64 0) := (S.at_ 0 rfl).cell 0
    have k1 : wr.cell? ⟨w.heap.size, 1, none⟩ = some (.int .i64 0) := (S.at_ 0 rfl).cell 1
    have y0 : wr.frozen? ⟨w.heap.size, 0, none⟩ = false := (S.at_ 0 rfl).frozen 0
    have y1 : wr.frozen? ⟨w.heap.size, 1, none⟩ = false := (S.at_ 0 rfl).frozen 1
    by_cases g : k < l.length
    · have ex := List.getElem?_eq_getElem g
      obtain ⟨b, off, rfl, hc⟩ := (HR.out.fr S.fr (fun _ _ h => h)).elem spc_len (by decide) ex
      have htn := fun h => take_no hn ex h
      have hfd := fun h => find_of_place ex (p := fun x => inB x o) h hn
      generalize l[k] = x at *
      obtain ⟨x1, x2⟩ := x
      have c1 : wr.cell? ⟨b, off + k * 2, none⟩ = some (.int .i64 x1) := hc 0 _ rfl
      have c2 : wr.cell? ⟨b, off + k * 2 + 1, none⟩ = some (.int .i64 x2) := hc 1 _ rfl
      have HH := Lib.hid (rhas_any x1 x2 o wr)
      rw [show decide (inS (x1, x2) o) = inB (x1, x2) o from rfl] at HH
      have HT := Lib.hid (And.intro htn hfd)
      have HS := Lib.hid S
      clear hc ex S hn htn hfd
      cases hb : inB (x1, x2) o
      · rw [hb] at HH
        have HN := Lib.hid (HT.out.1 hb)
        clear hb HT
        go_wp2_with ((with_reducible refine (HH.out).mono ?_); rintro e1 w1 ⟨rfl, F1⟩; have HS1 := Lib.hid (HS.out.same F1); clear F1)
        go_roundg (gk - 1)
        case measure => omega
        case rel => exact ⟨k + 1, by omega, by go_num, HN.out, HS1.out⟩
      · rw [hb] at HH
        have HN := Lib.hid (HT.out.2 hb)
        clear hb HT
        go_wp2_with ((with_reducible refine (HH.out).mono ?_); rintro e1 w1 ⟨rfl, F1⟩; have u1 := cell_frN F1 c1; have u2 := cell_frN F1 c2; have m0 := cell_frN F1 k0; have m1 := cell_frN F1 k1; have S1 := HS.out.same F1; have z0 : w1.frozen? ⟨w.heap.size, 0, none⟩ = false := (S1.at_ 0 rfl).frozen 0; have z1 : w1.frozen? ⟨w.heap.size, 1, none⟩ = false := (S1.at_ 0 rfl).frozen 1; have HS1 := Lib.hid S1; clear F1 S1)
        exact bodyPost_ret (v := spV (x1, x2)) (by simp [results, Try.results32, go_sem, m0, m1]) rfl ⟨by unfold runL; rw [HN.out]; rfl, ((HS1.out.set 0 rfl 0 (.int .i64 x1)).set 0 rfl 1 (.int .i64 x2)).fr⟩
    · obtain rfl : k = l.length := by omega
      have HN := Lib.hid (find_none (l := l) (p := fun x => inB x o) (by rw [List.take_length] at hn; exact hn))
      have HS := Lib.hid S
      clear S hn
      go_wp2_with fail
      exact bodyPost_ret (v := spV (0, 0)) (by simp [results, Try.results32, go_sem, k0, k1]) rfl ⟨by unfold runL; rw [HN.out]; rfl, ((HS.out.set 0 rfl 0 (.int .i64 0)).set 0 rfl 1 (.int .i64 0)).fr⟩
set_option maxRecDepth 100000 in
set_option maxHeartbeats 2000000 in
theorem rnext_any (p : Option Addr) (c : Nat) (l : List (Int × Int)) (o : Int) (w : World) (hr : Reads w 2 p l.length c (fc spc l)) (hl : l.length ≤ 1000000) :
    Calls Try.prog 33 #[.slice p l.length c, .int .i64 o] w fun e w' => e = .returned (spV (nextL l o)) ∧ Fr None w w' := by
  have HR := Lib.hid hr
  have HS0 := Lib.hid ((Sep.law w).alloc #[.int .i64 0, .int .i64 0] SpT)
  clear hr
  go_enter Try.func33, Try.ntmps33
  go_wp2_with fail
  go_loopg [5] l.length (fun r i wr => ∃ k : Nat, k + r = l.length ∧ i = .int .i64 k ∧ (∀ y ∈ (l.map fun x => fromS x o).take k, decide (lenS y ≠ 0) = false) ∧ Sep None w wr [Ob.blk w.heap.size SpT #[.int .i64 0, .int .i64 0]])
  case atStart => exact ⟨0, by omega, rfl, (fun y hy => by simp at hy), HS0.out⟩
  case round =>
    obtain ⟨k, hk, rfl, hn, S⟩ := hrel
    clear HS0
    have k0 : wr.cell? ⟨w.heap.size, 0, none⟩ = some (.int .i64 0) := (S.at_ 0 rfl).cell 0
    have k1 : wr.cell? ⟨w.heap.size, 1, none⟩ = some (.int .i64 0) := (S.at_ 0 rfl).cell 1
    have y0 : wr.frozen? ⟨w.heap.size, 0, none⟩ = false := (S.at_ 0 rfl).frozen 0
    have y1 : wr.frozen? ⟨w.heap.size, 1, none⟩ = false := (S.at_ 0 rfl).frozen 1
    by_cases g : k < l.length
    · have ex := List.getElem?_eq_getElem g
      have ey : (l.map fun x => fromS x o)[k]? = some (fromS l[k] o) := by rw [List.getElem?_map, ex]; rfl
      obtain ⟨b, off, rfl, hc⟩ := (HR.out.fr S.fr (fun _ _ h => h)).elem spc_len (by decide) ex
      have htn := fun h => take_no hn ey h
      have hfd := fun h => find_of_place ey (p := fun x => decide (lenS x ≠ 0)) h hn
      generalize l[k] = x at *
      obtain ⟨x1, x2⟩ := x
      have c1 : wr.cell? ⟨b, off + k * 2, none⟩ = some (.int .i64 x1) := hc 0 _ rfl
      have c2 : wr.cell? ⟨b, off + k * 2 + 1, none⟩ = some (.int .i64 x2) := hc 1 _ rfl
      have HH := Lib.hid (rfrom_any x1 x2 o wr)
      have HT := Lib.hid (And.intro htn hfd)
      have HS := Lib.hid S
      clear hc ex ey S hn htn hfd
      generalize fromS (x1, x2) o = y at *
      obtain ⟨y1', y2'⟩ := y
      have HL := Lib.hid (fun W => rlenS_any y1' y2' W)
      by_cases hb : lenS (y1', y2') = 0
      · rw [hb] at HL
        have HN := Lib.hid (HT.out.1 (by simp [hb]))
        clear hb HT
        go_wp2_with (first
          | ((with_reducible refine (HH.out).mono ?_); rintro e1 w1 ⟨rfl, F1⟩; have HS1 := Lib.hid ((HS.out.same F1).skip (.cells #[.int .i64 y1', .int .i64 y2'] SpT)); clear F1)
          | ((with_reducible refine (HL.out _).mono ?_); rintro e2 w2 ⟨rfl, F2⟩; have HS2 := Lib.hid (HS1.out.same F2); clear F2)
          | fail)
        go_roundg (gk - 1)
        case measure => omega
        case rel => exact ⟨k + 1, by omega, by go_num, HN.out, HS2.out⟩
      · have hp : decide (0 < lenS (y1', y2')) = true := decide_eq_true (by have := (lenS_bounds (y1', y2')).1; omega)
        have HN := Lib.hid (HT.out.2 (by simp [hb]))
        generalize lenS (y1', y2') = n0 at HL hp
        clear hb HT
        go_wp2_with (first
          | ((with_reducible refine (HH.out).mono ?_); rintro e1 w1 ⟨rfl, F1⟩; have HS1 := Lib.hid ((HS.out.same F1).alloc #[.int .i64 y1', .int .i64 y2'] SpT); clear F1)
          | ((with_reducible refine (HL.out _).mono ?_); rintro e2 w2 ⟨rfl, F2⟩; have S2 := HS1.out.same F2; have u1 : w2.cell? ⟨w1.heap.size, 0, none⟩ = some (.int .i64 y1') := (S2.at_ 0 rfl).cell 0; have u2 : w2.cell? ⟨w1.heap.size, 1, none⟩ = some (.int .i64 y2') := (S2.at_ 0 rfl).cell 1; have m0 : w2.cell? ⟨w.heap.size, 0, none⟩ = some (.int .i64 0) := (S2.at_ 1 rfl).cell 0; have m1 : w2.cell? ⟨w.heap.size, 1, none⟩ = some (.int .i64 0) := (S2.at_ 1 rfl).cell 1; have z0 : w2.frozen? ⟨w.heap.size, 0, none⟩ = false := (S2.at_ 1 rfl).frozen 0; have z1 : w2.frozen? ⟨w.heap.size, 1, none⟩ = false := (S2.at_ 1 rfl).frozen 1; have HS2 := Lib.hid S2; clear F2 S2)
          | fail)
        exact bodyPost_ret (v := spV (y1', y2')) (by simp [results, Try.results33, go_sem, m0, m1]) rfl ⟨by unfold nextL; rw [HN.out]; rfl, ((HS2.out.set 1 rfl 0 (.int .i64 y1')).set 1 rfl 1 (.int .i64 y2')).fr⟩
    · obtain rfl : k = l.length := by omega
      have HN := Lib.hid (find_none (l := l.map fun x => fromS x o) (p := fun x => decide (lenS x ≠ 0)) (by rw [List.take_of_length_le (by rw [List.length_map]; exact Nat.le_refl _)] at hn; exact hn))
      have HS := Lib.hid S
      clear S hn
      go_wp2_with fail
      exact bodyPost_ret (v := spV (0, 0)) (by simp [results, Try.results33, go_sem, k0, k1]) rfl ⟨by unfold nextL; rw [HN.out]; rfl, ((HS.out.set 0 rfl 0 (.int .i64 0)).set 0 rfl 1 (.int .i64 0)).fr⟩
set_option maxRecDepth 100000 in
set_option maxHeartbeats 4000000 in
theorem rgap_any (p : Option Addr) (c : Nat) (l : List (Int × Int)) (k : Int) (w : World) (hr : Reads w 2 p l.length c (fc spc l)) (hl : l.length ≤ 1000000) :
    Calls Try.prog 36 #[.slice p l.length c, .int .i64 k] w fun e w' => e = .returned (.int .i64 (gapL l k)) ∧ Fr None w w' := by
  obtain ⟨A, hA⟩ : ∃ A, A = min (max k 0) 4611686018427387904 := ⟨_, rfl⟩
  have HRA := Lib.hid (rrun_any p c l A w hr hl)
  have e : gapL l k = if lenS (runL l A) = 0 then A else (runL l A).2 := by
    unfold gapL
    simp only []
    rw [← hA]
  rw [e]
  clear e hr
  generalize runL l A = r at *
  obtain ⟨r1, r2⟩ := r
  have HL := Lib.hid (fun W => rlenS_any r1 r2 W)
  have hb := (lenS_bounds (r1, r2)).1
  generalize lenS (r1, r2) = n at *
  have HA := Lib.hid hA
  clear hA
  by_cases hn : n = 0
  · subst hn
    rw [if_pos rfl]
    rcases Int.lt_or_le k 0 with g | g
    · obtain rfl : A = 0 := by have := HA.out; omega
      have g1 : (k < 0) = True := eq_true g
      clear g HA
      go_enter Try.func36, Try.ntmps36
      go_wp2_with (first
        | ((with_reducible refine (HRA.out).mono ?_); rintro e1 w1 ⟨rfl, F1⟩; have HS1 := Lib.hid ((Sep.law w |>.same F1).alloc #[.int .i64 r1, .int .i64 r2] SpT); clear F1)
        | ((with_reducible refine (HL.out _).mono ?_); rintro e2 w2 ⟨rfl, F2⟩; have S2 := HS1.out.same F2; have u1 : w2.cell? ⟨w1.heap.size, 1, none⟩ = some (.int .i64 r2) := (S2.at_ 0 rfl).cell 1; have HS2 := Lib.hid S2; clear F2 S2)
        | fail)
      go_ret
      exact ⟨rfl, HS2.out.fr⟩
    · have g1 : (k < 0) = False := eq_false (by omega)
      rcases Int.lt_or_le 4611686018427387904 k with h | h
      · obtain rfl : A = 4611686018427387904 := by have := HA.out; omega
        have g2 : ((4611686018427387904 : Int) < k) = True := eq_true h
        clear g h HA
        go_enter Try.func36, Try.ntmps36
        go_wp2_with (first
          | ((with_reducible refine (HRA.out).mono ?_); rintro e1 w1 ⟨rfl, F1⟩; have HS1 := Lib.hid ((Sep.law w |>.same F1).alloc #[.int .i64 r1, .int .i64 r2] SpT); clear F1)
          | ((with_reducible refine (HL.out _).mono ?_); rintro e2 w2 ⟨rfl, F2⟩; have S2 := HS1.out.same F2; have u1 : w2.cell? ⟨w1.heap.size, 1, none⟩ = some (.int .i64 r2) := (S2.at_ 0 rfl).cell 1; have HS2 := Lib.hid S2; clear F2 S2)
          | fail)
        go_ret
        exact ⟨rfl, HS2.out.fr⟩
      · have g2 : ((4611686018427387904 : Int) < k) = False := eq_false (by omega)
        have e2 : A = k := by have := HA.out; omega
        clear g h HA
        subst e2
        go_enter Try.func36, Try.ntmps36
        go_wp2_with (first
          | ((with_reducible refine (HRA.out).mono ?_); rintro e1 w1 ⟨rfl, F1⟩; have HS1 := Lib.hid ((Sep.law w |>.same F1).alloc #[.int .i64 r1, .int .i64 r2] SpT); clear F1)
          | ((with_reducible refine (HL.out _).mono ?_); rintro e2 w2 ⟨rfl, F2⟩; have S2 := HS1.out.same F2; have u1 : w2.cell? ⟨w1.heap.size, 1, none⟩ = some (.int .i64 r2) := (S2.at_ 0 rfl).cell 1; have HS2 := Lib.hid S2; clear F2 S2)
          | fail)
        go_ret
        exact ⟨rfl, HS2.out.fr⟩
  · rw [if_neg hn]
    have hp : decide (0 < n) = true := decide_eq_true (by omega)
    clear hn
    rcases Int.lt_or_le k 0 with g | g
    · obtain rfl : A = 0 := by have := HA.out; omega
      have g1 : (k < 0) = True := eq_true g
      clear g HA
      go_enter Try.func36, Try.ntmps36
      go_wp2_with (first
        | ((with_reducible refine (HRA.out).mono ?_); rintro e1 w1 ⟨rfl, F1⟩; have HS1 := Lib.hid ((Sep.law w |>.same F1).alloc #[.int .i64 r1, .int .i64 r2] SpT); clear F1)
        | ((with_reducible refine (HL.out _).mono ?_); rintro e2 w2 ⟨rfl, F2⟩; have S2 := HS1.out.same F2; have u1 : w2.cell? ⟨w1.heap.size, 1, none⟩ = some (.int .i64 r2) := (S2.at_ 0 rfl).cell 1; have HS2 := Lib.hid S2; clear F2 S2)
        | fail)
      go_ret
      exact ⟨rfl, HS2.out.fr⟩
    · have g1 : (k < 0) = False := eq_false (by omega)
      rcases Int.lt_or_le 4611686018427387904 k with h | h
      · obtain rfl : A = 4611686018427387904 := by have := HA.out; omega
        have g2 : ((4611686018427387904 : Int) < k) = True := eq_true h
        clear g h HA
        go_enter Try.func36, Try.ntmps36
        go_wp2_with (first
          | ((with_reducible refine (HRA.out).mono ?_); rintro e1 w1 ⟨rfl, F1⟩; have HS1 := Lib.hid ((Sep.law w |>.same F1).alloc #[.int .i64 r1, .int .i64 r2] SpT); clear F1)
          | ((with_reducible refine (HL.out _).mono ?_); rintro e2 w2 ⟨rfl, F2⟩; have S2 := HS1.out.same F2; have u1 : w2.cell? ⟨w1.heap.size, 1, none⟩ = some (.int .i64 r2) := (S2.at_ 0 rfl).cell 1; have HS2 := Lib.hid S2; clear F2 S2)
          | fail)
        go_ret
        exact ⟨rfl, HS2.out.fr⟩
      · have g2 : ((4611686018427387904 : Int) < k) = False := eq_false (by omega)
        have e2 : A = k := by have := HA.out; omega
        clear g h HA
        subst e2
        go_enter Try.func36, Try.ntmps36
        go_wp2_with (first
          | ((with_reducible refine (HRA.out).mono ?_); rintro e1 w1 ⟨rfl, F1⟩; have HS1 := Lib.hid ((Sep.law w |>.same F1).alloc #[.int .i64 r1, .int .i64 r2] SpT); clear F1)
          | ((with_reducible refine (HL.out _).mono ?_); rintro e2 w2 ⟨rfl, F2⟩; have S2 := HS1.out.same F2; have u1 : w2.cell? ⟨w1.heap.size, 1, none⟩ = some (.int .i64 r2) := (S2.at_ 0 rfl).cell 1; have HS2 := Lib.hid S2; clear F2 S2)
          | fail)
        go_ret
        exact ⟨rfl, HS2.out.fr⟩
end Go.Proofs.Ytfobeheplficgaa
