/- HeardOrder: walked. -/
import Derived.Test.YtfobeheplficgaaHrM6
set_option linter.unusedVariables false
set_option linter.unusedSimpArgs false
namespace Go.Proofs.Ytfobeheplficgaa
open Go.RowKit Go.Und Go.Shelf
open Go.ChangeShapes Go.WideShapes Go.ChangeAt
attribute [local go_sem] Oper.semAt_some
attribute [local go_sem ↓] Go.wp_at_zero Go.wp_at_succ

abbrev shCut : Sh := .agg (.cons (.int .u16) (.cons (.int .u16) .nil))
abbrev CtT : TypeId := 76
theorem cuts_of {W : World} {v : Value} {u : U} (h : (Sh.slice shCut).holds W u [v]) : ∃ (p : Option Addr) (cap : Nat) (l : List (Nat × Nat)), v = .slice p l.length cap ∧ l.length ≤ cap ∧ cap ≤ maxLen ∧
    ∀ k x, l[k]? = some x → (x.1 < 65536 ∧ x.2 < 65536) ∧ ∃ b off, p = some ⟨b, off, none⟩ ∧ W.cell? ⟨b, off + k * 2, none⟩ = some (.int .u16 x.1) ∧ W.cell? ⟨b, off + k * 2 + 1, none⟩ = some (.int .u16 x.2) := by
  obtain ⟨p, cap, L, rfl, h1, h2, h3⟩ := elems_of h (by decide)
  have wf16 : ∀ {x : Int}, (Lit.int .u16 x).wf = true → 0 ≤ x ∧ x < 65536 := fun {x} h => by
    have h1 : IntKind.u16.min ≤ x ∧ x ≤ IntKind.u16.max := by simpa [Lit.wf] using h
    exact ⟨h1.1, by have : IntKind.u16.max = 65535 := by decide
                    omega⟩
  obtain ⟨l, hlen, hp⟩ := getElem?_some_of_list (f := fun _ => True) (P := fun k (x : Nat × Nat) => (x.1 < 65536 ∧ x.2 < 65536) ∧ ∃ b off, p = some ⟨b, off, none⟩ ∧ W.cell? ⟨b, off + k * 2, none⟩ = some (.int .u16 x.1) ∧ W.cell? ⟨b, off + k * 2 + 1, none⟩ = some (.int .u16 x.2)) L.length (fun k hk => by
    obtain ⟨g1, ⟨u, g2⟩, b, off, rfl, hb, hc⟩ := h3 k L[k] (List.getElem?_eq_getElem hk)
    obtain ⟨_, _, g⟩ := g2
    obtain ⟨_, _, _, _, _, e0, _, ⟨x, _, rfl, wx⟩, g⟩ := g
    obtain ⟨_, _, _, _, _, e1, _, ⟨y, _, rfl, wy⟩, g⟩ := g
    obtain ⟨_, rfl⟩ := g
    subst e1
    rw [e0] at hc
    obtain ⟨x, rfl⟩ := Int.eq_ofNat_of_zero_le (wf16 wx).1
    obtain ⟨y, rfl⟩ := Int.eq_ofNat_of_zero_le (wf16 wy).1
    have hx := (wf16 wx).2
    have hy := (wf16 wy).2
    exact ⟨(x, y), ⟨by simp only; omega, by simp only; omega⟩, b, off, rfl, (show W.cell? ⟨b, off + (k * 2 + 0), none⟩ = _ from hc 0 (by decide)), by have h : W.cell? ⟨b, off + (k * 2 + 1), none⟩ = _ := hc 1 (by decide); rw [← Nat.add_assoc] at h; exact h⟩)
  exact ⟨p, cap, l, by rw [hlen], by omega, h2, hp⟩
/-- A receiver of pieces, in memory. -/
def AS (T : List Int) (P : Int → Prop) (hp gp rb : Nat) (first : Int) (n : Nat) (L : List Ob) : Prop :=
  ∃ q c l tq tc text ring b, OrdI T P l b text ring ∧ l.length ≤ n ∧ L = hrd hp first gp q c l tq tc text (some ⟨rb, 0, none⟩) 65536 ring
theorem AS.congr {T : List Int} {P P' : Int → Prop} {hp gp rb : Nat} {first : Int} {n n' : Nat} {L : List Ob} (h : AS T P hp gp rb first n L) (e : ∀ o, P o ↔ P' o) (hn : n ≤ n') : AS T P' hp gp rb first n' L := by
  obtain ⟨q, c, l, tq, tc, text, ring, b, h1, h2, h3⟩ := h
  exact ⟨q, c, l, tq, tc, text, ring, b, h1.congr e, by omega, h3⟩
/-- Ending with some value, the receiver having had one piece more. -/
def PcPost (T : List Int) (P : Int → Prop) (hp gp rb : Nat) (first : Int) (n : Nat) (w0 : World) (R : List Ob) (e : Ending) (w' : World) : Prop :=
  ∃ v L, e = .returned v ∧ AS T P hp gp rb first n L ∧ Sep None w0 w' (L ++ R)
theorem take_piece (T : List Int) (P : Int → Prop) (hp gp rb : Nat) (first : Int) (n : Nat) (L R : List Ob) (w0 w : World) (a : Option Addr) (cap f len : Nat) (h : AS T P hp gp rb first n L) (hT : T.length ≤ 2000) (hn : n ≤ 100) (hf : f + len ≤ T.length) (S : Sep None w0 w (L ++ R)) (hr : Reads w0 1 a len cap (fc u8c ((T.drop f).take len))) :
    Calls Try.prog 42 #[.pointer (at0 hp), .int .u32 ((first + f) % 4294967296), .slice a len cap] w (PcPost T (fun o => P o ∨ inS ((f : Int), ((f + len : Nat) : Int)) o) hp gp rb first (n + 1) w0 R) := by
  obtain ⟨q, c, l, tq, tc, text, ring, b, h1, h2, rfl⟩ := h
  have hbl : ((T.drop f).take len).length = len := by rw [List.length_take, List.length_drop]; omega
  have hrl := h1.hok.rl
  have htl := h1.len
  have H := htake_all (D := None) (w0 := w0) (R := R) hp gp first ((first + f) % 4294967296) q c l tq tc text rb 65536 ring b a cap ((T.drop f).take len) w S (fun V g _ => by rw [hbl]; exact hr.fr (Sep.old S g) (fun _ _ h => h)) (by rw [hrl]; exact h1.hok) (by omega) (by omega) (by omega)
  rw [hbl, hrl] at H
  refine H.mono ?_
  rintro e w' ⟨q', c', tq', tc', text', ring', rfl, hok', _, _, S'⟩
  have h3 := ord_step (first := first) h1 hT hf hok'
  refine ⟨_, _, rfl, ⟨q', c', _, tq', tc', text', ring', _, h3, ?_, rfl⟩, S'⟩
  rcases hT_cases first ((first + f) % 4294967296) text.length 65536 l b ((T.drop f).take len) with ⟨o, _, g1, g2, g3, g4, e⟩ | ⟨_, e⟩
  · rw [e]
    have := hull_len_add h1.hok.ok (s := ((o : Int), (o : Int) + ((T.drop f).take len).length)) ⟨by simp only; omega, by simp only; omega, by simp only; omega⟩
    show (addL _ _).length ≤ _
    omega
  · rw [e]; show l.length ≤ _; omega
/-- Where a piece begins, and where it ends. -/
def pcF (M : Nat) (x : Nat × Nat) : Nat := min x.1 M
def pcE (M : Nat) (x : Nat × Nat) : Nat := min M (pcF M x + x.2)
def pcS (M : Nat) (x : Nat × Nat) : Int × Int := ((pcF M x : Int), (pcE M x : Int))
theorem pc_bd (M : Nat) (x : Nat × Nat) : pcF M x ≤ pcE M x ∧ pcE M x ≤ M := by unfold pcE pcF; omega
theorem cutBM_run (q : Option Addr) (n cap f e : Nat) (h1 : f ≤ e) (h2 : e ≤ cap) (W : World) : (Instr.sliceAt BlT (.slice q n cap) (some (.int .i64 (f : Int))) (some (.int .i64 (e : Int))) none).run Try.prog W = .ok (.slice (if cap = f then q else q.map (·.add (f * 1))) (e - f) (cap - f)) W := by
  obtain ⟨i, hi, _, hz1, _⟩ := info_parts u8Info
  have h1 := run_cut_mid (P := Try.prog) W BlT U8T i 1 Try.underlying62 hi hz1 q n cap .i64 .i64 (f : Int) (e : Int) (by omega) (by omega) (by omega)
  rw [h1, show (f : Int).toNat = f by omega, show (e : Int).toNat = e by omega]
theorem cut_reads {w : World} {q : Option Addr} {cap f e : Nat} {T : List Int} (h : Reads w 1 q T.length cap (fc u8c T)) (h1 : f ≤ e) (h2 : e ≤ T.length) : Reads w 1 (if cap = f then q else q.map (·.add (f * 1))) (e - f) (cap - f) (fc u8c ((T.drop f).take (e - f))) := by
  have h3 := (h.take h2).drop h1
  rw [fc_take u8c_len, fc_drop u8c_len, List.drop_take] at h3
  exact h3
theorem Sep.rot {D : Nat → Prop} {w0 w : World} {A B C : List Ob} (S : Sep D w0 w (A ++ (B ++ C))) : Sep D w0 w (B ++ (C ++ A)) := by
  have h := S.perm (List.perm_append_comm (l₁ := A))
  rw [List.append_assoc] at h
  exact h
theorem pcE_of {M x1 x2 f : Nat} (h : f = pcF M (x1, x2)) : (f + x2 < M ∧ pcE M (x1, x2) = f + x2) ∨ (M ≤ f + x2 ∧ pcE M (x1, x2) = M) := by
  subst h
  unfold pcE
  simp only
  omega
theorem bSame_w (p q : Option Addr) (c d : Nat) (l : List Int) (w : World) (hr : 0 < l.length → Reads w 1 p l.length c (fc u8c l)) (hq : 0 < l.length → Reads w 1 q l.length d (fc u8c l)) (hs : l.length ≤ 100000000) :
    Calls Try.prog 43 #[.slice p l.length c, .slice q l.length d] w fun e w' => e = .returned (.bool true) ∧ Fr None w w' := by
  by_cases h : 0 < l.length
  · exact bSame_refl p q c d l w (hr h) (hq h) hs
  · have h0 : l.length = 0 := by omega
    clear hr hq
    generalize l.length = n at *
    subst h0
    go_enter Try.func43, Try.ntmps43
    go_wp2_with fail
    go_loopg [5] 1 (fun r i wr => r = 1 ∧ i = .int .i64 0 ∧ wr = w)
    case atStart => exact ⟨rfl, rfl, rfl⟩
    case round =>
      obtain ⟨rfl, rfl, rfl⟩ := hrel
      go_wp2_with fail
      go_ret
      exact ⟨rfl, Fr.refl None _⟩
set_option maxRecDepth 100000 in
set_option maxHeartbeats 16000000 in
theorem heardOrder_walk (w : World) (vf : Value) (uf : U) (hf : (Sh.int .u32).holds w uf [vf]) (vt : Value) (ut : U) (ht : (Sh.slice (.int .u8)).holds w ut [vt]) (vl : Value) (ul : U) (hl : (Sh.slice shCut).holds w ul [vl]) :
    Calls Try.prog 10 #[vf, vt, vl] w fun e w' => e = .returned (.bool true) ∧ Below w.heap.size w w' := by
  obtain ⟨first, _, hf, wf⟩ := hf
  simp only [List.cons.injEq, and_true] at hf
  subst hf
  obtain ⟨ta, tc, T, rfl, htc, htm, htr⟩ := bytes_of ht
  obtain ⟨la, lc, l, rfl, hlc, hlm, hat⟩ := cuts_of hl
  have hu := wf_u32 wf
  clear ht hl wf
  unfold maxLen at htm hlm
  by_cases c1 : 2000 < T.length
  · clear htr hat
    generalize T.length = tl at *
    go_enter Try.func10, Try.ntmps10
    go_wp2_with ((with_reducible refine (known23_any _).mono ?_); rintro y0 w0 ⟨rfl, F0⟩; (first | (have HS1 := Lib.hid (Fr.trans HS0.out F0); clear HS0) | (have HS0 := Lib.hid F0)); clear F0)
    go_ret
    exact ⟨by simp, HS1.out.none_below⟩
  have c1' : (T.length : Int) ≤ 2000 := by omega
  have HT := Lib.hid htr
  have HAT := Lib.hid hat
  obtain ⟨N, hN⟩ : ∃ N, N = min l.length 60 := ⟨_, rfl⟩
  have hmn : ((60 < (l.length : Int)) = True ∧ N = 60) ∨ ((60 < (l.length : Int)) = False ∧ N = l.length) := by
    rcases Nat.lt_or_ge 60 l.length with h | h
    · exact .inl ⟨eq_true (by omega), by omega⟩
    · exact .inr ⟨eq_false (by omega), by omega⟩
  have hNl : N ≤ l.length ∧ N ≤ 60 := by omega
  have HNw := Lib.hid (fun W => (show Calls Try.prog 41 #[.int .u32 first, .int .i64 65536] W (fun e w' => ∃ hp gp rb, e = .returned (.tuple #[.pointer (at0 hp), .int .i64 0]) ∧ Sep None W w' (hrd hp first gp none 0 [] none 0 [] (some ⟨rb, 0, none⟩) 65536 (List.replicate 65536 0))) from hnew_any first 65536 (by omega) (by omega) W))
  clear hN htr hat
  go_enter Try.func10, Try.ntmps10
  go_upto_region 9 with (first
    | ((with_reducible refine (known23_any w).mono ?_); rintro e0 w0 ⟨rfl, F0⟩; have HS1 := Lib.hid ((Sep.law w).same F0); clear F0)
    | ((with_reducible refine (HNw.out w0).mono ?_); rintro e1 w1 ⟨hp, gp, rb, rfl, T1⟩; have HS2 := Lib.hid (HS1.out.beside T1); clear T1)
    | ((with_reducible refine (HNw.out w1).mono ?_); rintro e2 w2 ⟨hp', gp', rb', rfl, T1⟩; have HS3 := Lib.hid (HS2.out.beside T1); clear T1)
    | fail)
  go_cut [11] from 36 to 38 (fun v wx => v = .int .i64 (N : Int) ∧ wx = w2)
  case first =>
    rcases hmn with ⟨hm, rfl⟩ | ⟨hm, rfl⟩
    all_goals
      go_wp2_with fail
      go_meet
      exact ⟨by simp, rfl⟩
  case rest =>
    clear hmn
    obtain ⟨rfl, rfl⟩ := hcut
    go_wp2_with fail
    go_loopg [12] N (fun r iv wr => ∃ (k : Nat) (LA LB : List Ob), k + r = N ∧ iv = .int .i64 (k : Int) ∧ AS T (anyIn ((l.map (pcS T.length)).take k)) hp gp rb first k LA ∧ AS T (anyIn (((l.map (pcS T.length)).take N).drop (N - k))) hp' gp' rb' first k LB ∧ Sep None w wr (LB ++ LA))
    case atStart => exact ⟨0, _, _, by omega, rfl, ⟨none, 0, [], none, 0, [], List.replicate 65536 0, [], (ord_new T _ (by rw [List.length_replicate])).congr (fun o => ⟨fun h => h.elim, fun ⟨x, hx, _⟩ => by simp at hx⟩), Nat.le_refl _, rfl⟩, ⟨none, 0, [], none, 0, [], List.replicate 65536 0, [], (ord_new T _ (by rw [List.length_replicate])).congr (fun o => ⟨fun h => h.elim, fun ⟨x, hx, _⟩ => by rw [Nat.sub_zero, List.drop_of_length_le (by simp; omega)] at hx; cases hx⟩), Nat.le_refl _, rfl⟩, by have := HS3.out; rw [List.append_nil] at this; exact this⟩
    case round =>
      clear HS1 HS2 HS3
      obtain ⟨k, LA, LB, hkn, rfl, hA, hB, S1⟩ := hrel
      by_cases g : k < N
      · have ex := List.getElem?_eq_getElem (show k < l.length by omega)
        obtain ⟨j, hj⟩ : ∃ j, j = N - 1 - k := ⟨_, rfl⟩
        have hjl : j < l.length := by omega
        have ey := List.getElem?_eq_getElem hjl
        have HX := Lib.hid (fun o => anyIn_take (l := l.map (pcS T.length)) (k := k) (x := pcS T.length l[k]) (by rw [List.getElem?_map, ex]; rfl) o)
        have HY := Lib.hid (fun o => anyIn_drop (l := (l.map (pcS T.length)).take N) (j := j) (x := pcS T.length l[j]) (by rw [List.getElem?_take_of_lt (by omega), List.getElem?_map, ey]; rfl) o)
        obtain ⟨⟨bx1, bx2⟩, bb, oo, rfl, c1x, c2x⟩ := HAT.out k _ ex
        obtain ⟨⟨by1, by2⟩, bb', oo', hbo, c1y, c2y⟩ := HAT.out j _ ey
        obtain ⟨rfl, rfl⟩ : bb = bb' ∧ oo = oo' := by simpa using hbo
        generalize l[k] = x at *
        generalize l[j] = y at *
        obtain ⟨x1, x2⟩ := x
        obtain ⟨y1, y2⟩ := y
        simp only at bx1 bx2 by1 by2 c1x c2x c1y c2y
        have d1 : wr.cell? ⟨bb, oo + k * 2, none⟩ = some (.int .u16 x1) := cell_frN S1.fr c1x
        have d2 : wr.cell? ⟨bb, oo + k * 2 + 1, none⟩ = some (.int .u16 x2) := cell_frN S1.fr c2x
        have d3 : wr.cell? ⟨bb, oo + j * 2, none⟩ = some (.int .u16 y1) := cell_frN S1.fr c1y
        have d4 : wr.cell? ⟨bb, oo + j * 2 + 1, none⟩ = some (.int .u16 y2) := cell_frN S1.fr c2y
        have g1 : decide (k < N) = true := decide_eq_true g
        have hw1 : IntKind.i64.wrap ((N : Int) - 1) = (N : Int) - 1 := wrap_small (by omega)
        have hw2 : IntKind.i64.wrap ((N : Int) - 1 - (k : Int)) = (j : Int) := by rw [wrap_small (by omega)]; omega
        have hw3 : (N : Int) - 1 - (k : Int) = (j : Int) := by omega
        have hw4 : IntKind.i64.wrap (j : Int) = (j : Int) := wrap_small (by omega)
        have k0 : (0 : Int) ≤ k := by omega
        have k1 : (k : Int) < l.length := by omega
        have j0 : (0 : Int) ≤ j := by omega
        have j1 : (j : Int) < l.length := by omega
        have HJ := Lib.hid hj
        have HC0 := Lib.hid (And.intro c1x (And.intro c2x (And.intro c1y c2y)))
        have HAA := Lib.hid (And.intro hA hB)
        have HS1 := Lib.hid S1
        clear ex ey c1x c2x c1y c2y hA hB S1 hj hbo
        go_upto_region 13 with fail
        go_cut [13, 14] from 44 to 54 (fun xv yv wx => ∃ B1 B2, xv = .pointer (at0 B1) ∧ yv = .pointer (at0 B2) ∧ Sep None w wx (LB ++ (LA ++ [Ob.blk B1 CtT #[.int .u16 x1, .int .u16 x2], Ob.blk B2 CtT #[.int .u16 y1, .int .u16 y2]])))
        case first =>
          refine wp_region_to (S := fun w' => w'.cell? ⟨bb, oo + k * 2, none⟩ = some (.int .u16 x1) ∧ w'.cell? ⟨bb, oo + k * 2 + 1, none⟩ = some (.int .u16 x2) ∧ w'.cell? ⟨bb, oo + j * 2, none⟩ = some (.int .u16 y1) ∧ w'.cell? ⟨bb, oo + j * 2 + 1, none⟩ = some (.int .u16 y2)) 15 (by kernel_rfl) ⟨d1, d2, d3, d4⟩ (fun hHeld => ?_)
          have S2 := HS1.out.drew
          clear d1 d2 d3 d4
          generalize wr.drew = U at *
          refine wpTo_take (i := 0) (v := ?_) rfl (by kernel_rfl) (fun _ _ _ h => h) (Or.inl ⟨by rfl, ?_⟩) hHeld ?_
          rotate_left
          · (intro w' hSw; (try dsimp only at hSw); go_simp <;> with_reducible rfl)
          simp only [Act.put, List.setIfInBounds_toArray, List.set_cons_zero, List.set_cons_succ, List.getElem_toArray, List.getElem_cons_succ, List.getElem_cons_zero]
          refine wpTo_take (i := 1) (v := ?_) rfl (by kernel_rfl) (fun _ _ _ h => h) (Or.inl ⟨by rfl, ?_⟩) hHeld ?_
          rotate_left
          · (intro w' hSw; (try dsimp only at hSw); go_simp <;> with_reducible rfl)
          simp only [Act.put, List.setIfInBounds_toArray, List.set_cons_zero, List.set_cons_succ, List.getElem_toArray, List.getElem_cons_succ, List.getElem_cons_zero]
          refine wpTo_take (i := 2) (v := ?_) rfl (by kernel_rfl) (fun _ _ _ h => h) (Or.inl ⟨by rfl, ?_⟩) hHeld ?_
          rotate_left
          · (intro w' hSw; (try dsimp only at hSw); go_simp <;> with_reducible rfl)
          simp only [Act.put, List.setIfInBounds_toArray, List.set_cons_zero, List.set_cons_succ, List.getElem_toArray, List.getElem_cons_succ, List.getElem_cons_zero]
          refine wpTo_take (i := 3) (v := ?_) rfl (by kernel_rfl) (fun _ _ _ h => h) (Or.inl ⟨by rfl, ?_⟩) hHeld ?_
          rotate_left
          · (intro w' hSw; (try dsimp only at hSw); go_simp <;> with_reducible rfl)
          simp only [Act.put, List.setIfInBounds_toArray, List.set_cons_zero, List.set_cons_succ, List.getElem_toArray, List.getElem_cons_succ, List.getElem_cons_zero]
          refine wpTo_take (i := 4) (v := ?_) rfl (by kernel_rfl) (fun _ _ _ h => h) (Or.inl ⟨by rfl, ?_⟩) hHeld ?_
          rotate_left
          · (intro w' hSw; (try dsimp only at hSw); go_simp <;> with_reducible rfl)
          simp only [Act.put, List.setIfInBounds_toArray, List.set_cons_zero, List.set_cons_succ, List.getElem_toArray, List.getElem_cons_succ, List.getElem_cons_zero]
          refine wpTo_take (i := 5) (v := ?_) rfl (by kernel_rfl) (fun _ _ _ h => h) (Or.inl ⟨by rfl, ?_⟩) hHeld ?_
          rotate_left
          · (intro w' hSw; (try dsimp only at hSw); go_simp <;> with_reducible rfl)
          simp only [Act.put, List.setIfInBounds_toArray, List.set_cons_zero, List.set_cons_succ, List.getElem_toArray, List.getElem_cons_succ, List.getElem_cons_zero]
          refine wpTo_take (i := 6) (v := ?_) rfl (by kernel_rfl) (fun _ _ _ h => h) (Or.inl ⟨by rfl, ?_⟩) hHeld ?_
          rotate_left
          · (intro w' hSw; (try dsimp only at hSw); go_simp <;> with_reducible rfl)
          simp only [Act.put, List.setIfInBounds_toArray, List.set_cons_zero, List.set_cons_succ, List.getElem_toArray, List.getElem_cons_succ, List.getElem_cons_zero]
          refine wpTo_take (i := 7) (v := ?_) rfl (by kernel_rfl) (fun _ _ _ h => h) (Or.inl ⟨by rfl, ?_⟩) hHeld ?_
          rotate_left
          · (intro w' hSw; (try dsimp only at hSw); go_simp <;> with_reducible rfl)
          simp only [Act.put, List.setIfInBounds_toArray, List.set_cons_zero, List.set_cons_succ, List.getElem_toArray, List.getElem_cons_succ, List.getElem_cons_zero]
          refine wpTo_take (i := 8) (v := ?_) rfl (by kernel_rfl) (fun _ _ _ h => h) (Or.inl ⟨by rfl, ?_⟩) hHeld ?_
          rotate_left
          · (intro w' hSw; (try dsimp only at hSw); go_simp <;> with_reducible rfl)
          simp only [Act.put, List.setIfInBounds_toArray, List.set_cons_zero, List.set_cons_succ, List.getElem_toArray, List.getElem_cons_succ, List.getElem_cons_zero]
          refine wpTo_take (i := 9) (v := ?_) rfl (by kernel_rfl) (fun _ _ _ h => h) (Or.inl ⟨by rfl, ?_⟩) hHeld ?_
          rotate_left
          · (intro w' hSw; (try dsimp only at hSw); go_simp <;> with_reducible rfl)
          simp only [Act.put, List.setIfInBounds_toArray, List.set_cons_zero, List.set_cons_succ, List.getElem_toArray, List.getElem_cons_succ, List.getElem_cons_zero]
          refine wpTo_take (i := 10) (v := ?_) rfl (by kernel_rfl) (fun _ _ _ h => h) (Or.inl ⟨by rfl, ?_⟩) hHeld ?_
          rotate_left
          · (intro w' hSw; (try dsimp only at hSw); go_simp <;> with_reducible rfl)
          simp only [Act.put, List.setIfInBounds_toArray, List.set_cons_zero, List.set_cons_succ, List.getElem_toArray, List.getElem_cons_succ, List.getElem_cons_zero]
          refine wpTo_two (i := 11) (j := 12) (by kernel_rfl) rfl rfl (fun K hK => ?_) (fun K hK => ?_)
          · skip
            go_simp
            replace S2 := S2.alloc #[.int .u16 0, .int .u16 0] CtT
            refine hK.out _ _ ⟨cell_frN ((Fr.refl None _).alloc _) hHeld.1, cell_frN ((Fr.refl None _).alloc _) hHeld.2.1, cell_frN ((Fr.refl None _).alloc _) hHeld.2.2.1, cell_frN ((Fr.refl None _).alloc _) hHeld.2.2.2⟩ (fun hHeld => ?_)
            clear hK K
            try simp only [Act.put, List.setIfInBounds_toArray, List.set_cons_zero, List.set_cons_succ, List.getElem_toArray, List.getElem_cons_succ, List.getElem_cons_zero]
            refine wpTo_mid (i := 12) (by kernel_rfl) rfl (fun K hK => ?_)
            go_simp
            replace S2 := S2.alloc #[.int .u16 0, .int .u16 0] CtT
            refine hK.out _ _ ⟨cell_frN ((Fr.refl None _).alloc _) hHeld.1, cell_frN ((Fr.refl None _).alloc _) hHeld.2.1, cell_frN ((Fr.refl None _).alloc _) hHeld.2.2.1, cell_frN ((Fr.refl None _).alloc _) hHeld.2.2.2⟩ (fun hHeld => ?_)
            clear hK K
            try simp only [Act.put, List.setIfInBounds_toArray, List.set_cons_zero, List.set_cons_succ, List.getElem_toArray, List.getElem_cons_succ, List.getElem_cons_zero]
            simp only [World.size_alloc] at S2
            generalize (U.alloc (.cells #[.int .u16 0, .int .u16 0] 76)).alloc (.cells #[.int .u16 0, .int .u16 0] 76) = V at *
            have a0 := (show World.cell? _ ⟨_, 0, none⟩ = some (.int .u16 0) from (S2.at_ 1 rfl).cell 0)
            have z0 := (show World.frozen? _ ⟨_, 0, none⟩ = false from (S2.at_ 1 rfl).frozen 0)
            have a1 := (show World.cell? _ ⟨_, 1, none⟩ = some (.int .u16 0) from (S2.at_ 1 rfl).cell 1)
            have z1 := (show World.frozen? _ ⟨_, 1, none⟩ = false from (S2.at_ 1 rfl).frozen 1)
            replace S2 := (S2.set 1 rfl 0 (.int .u16 x1)).set 1 rfl 1 (.int .u16 x2)
            refine wpTo_mid (i := 13) (by kernel_rfl) rfl (fun K hK => ?_)
            go_simp
            refine hK.out _ _ ⟨cell_frN S2.fr HC0.out.1, cell_frN S2.fr HC0.out.2.1, cell_frN S2.fr HC0.out.2.2.1, cell_frN S2.fr HC0.out.2.2.2⟩ (fun hHeld => ?_)
            clear a0 a1 z0 z1
            clear hK K
            try simp only [Act.put, List.setIfInBounds_toArray, List.set_cons_zero, List.set_cons_succ, List.getElem_toArray, List.getElem_cons_succ, List.getElem_cons_zero]
            have a0 := (show World.cell? _ ⟨_, 0, none⟩ = some (.int .u16 0) from (S2.at_ 0 rfl).cell 0)
            have z0 := (show World.frozen? _ ⟨_, 0, none⟩ = false from (S2.at_ 0 rfl).frozen 0)
            have a1 := (show World.cell? _ ⟨_, 1, none⟩ = some (.int .u16 0) from (S2.at_ 0 rfl).cell 1)
            have z1 := (show World.frozen? _ ⟨_, 1, none⟩ = false from (S2.at_ 0 rfl).frozen 1)
            replace S2 := (S2.set 0 rfl 0 (.int .u16 y1)).set 0 rfl 1 (.int .u16 y2)
            refine wpTo_mid (i := 14) (by kernel_rfl) rfl (fun K hK => ?_)
            go_simp
            refine hK.out _ _ ⟨cell_frN S2.fr HC0.out.1, cell_frN S2.fr HC0.out.2.1, cell_frN S2.fr HC0.out.2.2.1, cell_frN S2.fr HC0.out.2.2.2⟩ (fun hHeld => ?_)
            clear a0 a1 z0 z1
            clear hK K
            try simp only [Act.put, List.setIfInBounds_toArray, List.set_cons_zero, List.set_cons_succ, List.getElem_toArray, List.getElem_cons_succ, List.getElem_cons_zero]
            refine wpTo_done (by kernel_rfl) ?_ _
            go_wp2_with fail
            go_meet
            exact ⟨_, _, rfl, rfl, by
              have h := (S2.front 1 rfl).perm (List.perm_append_comm (l₁ := [_, _]))
              simp only [List.append_eq, List.append_assoc] at h
              exact h⟩
          · skip
            go_simp
            replace S2 := S2.alloc #[.int .u16 0, .int .u16 0] CtT
            refine hK.out _ _ ⟨cell_frN ((Fr.refl None _).alloc _) hHeld.1, cell_frN ((Fr.refl None _).alloc _) hHeld.2.1, cell_frN ((Fr.refl None _).alloc _) hHeld.2.2.1, cell_frN ((Fr.refl None _).alloc _) hHeld.2.2.2⟩ (fun hHeld => ?_)
            clear hK K
            try simp only [Act.put, List.setIfInBounds_toArray, List.set_cons_zero, List.set_cons_succ, List.getElem_toArray, List.getElem_cons_succ, List.getElem_cons_zero]
            refine wpTo_mid (i := 11) (by kernel_rfl) rfl (fun K hK => ?_)
            go_simp
            replace S2 := S2.alloc #[.int .u16 0, .int .u16 0] CtT
            refine hK.out _ _ ⟨cell_frN ((Fr.refl None _).alloc _) hHeld.1, cell_frN ((Fr.refl None _).alloc _) hHeld.2.1, cell_frN ((Fr.refl None _).alloc _) hHeld.2.2.1, cell_frN ((Fr.refl None _).alloc _) hHeld.2.2.2⟩ (fun hHeld => ?_)
            clear hK K
            try simp only [Act.put, List.setIfInBounds_toArray, List.set_cons_zero, List.set_cons_succ, List.getElem_toArray, List.getElem_cons_succ, List.getElem_cons_zero]
            simp only [World.size_alloc] at S2
            generalize (U.alloc (.cells #[.int .u16 0, .int .u16 0] 76)).alloc (.cells #[.int .u16 0, .int .u16 0] 76) = V at *
            have a0 := (show World.cell? _ ⟨_, 0, none⟩ = some (.int .u16 0) from (S2.at_ 0 rfl).cell 0)
            have z0 := (show World.frozen? _ ⟨_, 0, none⟩ = false from (S2.at_ 0 rfl).frozen 0)
            have a1 := (show World.cell? _ ⟨_, 1, none⟩ = some (.int .u16 0) from (S2.at_ 0 rfl).cell 1)
            have z1 := (show World.frozen? _ ⟨_, 1, none⟩ = false from (S2.at_ 0 rfl).frozen 1)
            replace S2 := (S2.set 0 rfl 0 (.int .u16 x1)).set 0 rfl 1 (.int .u16 x2)
            refine wpTo_mid (i := 13) (by kernel_rfl) rfl (fun K hK => ?_)
            go_simp
            refine hK.out _ _ ⟨cell_frN S2.fr HC0.out.1, cell_frN S2.fr HC0.out.2.1, cell_frN S2.fr HC0.out.2.2.1, cell_frN S2.fr HC0.out.2.2.2⟩ (fun hHeld => ?_)
            clear a0 a1 z0 z1
            clear hK K
            try simp only [Act.put, List.setIfInBounds_toArray, List.set_cons_zero, List.set_cons_succ, List.getElem_toArray, List.getElem_cons_succ, List.getElem_cons_zero]
            have a0 := (show World.cell? _ ⟨_, 0, none⟩ = some (.int .u16 0) from (S2.at_ 1 rfl).cell 0)
            have z0 := (show World.frozen? _ ⟨_, 0, none⟩ = false from (S2.at_ 1 rfl).frozen 0)
            have a1 := (show World.cell? _ ⟨_, 1, none⟩ = some (.int .u16 0) from (S2.at_ 1 rfl).cell 1)
            have z1 := (show World.frozen? _ ⟨_, 1, none⟩ = false from (S2.at_ 1 rfl).frozen 1)
            replace S2 := (S2.set 1 rfl 0 (.int .u16 y1)).set 1 rfl 1 (.int .u16 y2)
            refine wpTo_mid (i := 14) (by kernel_rfl) rfl (fun K hK => ?_)
            go_simp
            refine hK.out _ _ ⟨cell_frN S2.fr HC0.out.1, cell_frN S2.fr HC0.out.2.1, cell_frN S2.fr HC0.out.2.2.1, cell_frN S2.fr HC0.out.2.2.2⟩ (fun hHeld => ?_)
            clear a0 a1 z0 z1
            clear hK K
            try simp only [Act.put, List.setIfInBounds_toArray, List.set_cons_zero, List.set_cons_succ, List.getElem_toArray, List.getElem_cons_succ, List.getElem_cons_zero]
            refine wpTo_done (by kernel_rfl) ?_ _
            go_wp2_with fail
            go_meet
            exact ⟨_, _, rfl, rfl, by
              have h := (S2).perm (List.perm_append_comm (l₁ := [_, _]))
              simp only [List.append_eq, List.append_assoc] at h
              exact h⟩
        case rest =>
          clear d1 d2 d3 d4 HS1 HC0
          obtain ⟨B1, B2, rfl, rfl, S2⟩ := hcut
          go_upto_region 14 with fail
          generalize wc = VV at *
          have p1 : VV.cell? ⟨B1, 0, none⟩ = some (.int .u16 x1) := Blk.cell (show Blk VV B1 CtT #[.int .u16 x1, .int .u16 x2] from S2.ok (Ob.blk B1 CtT #[.int .u16 x1, .int .u16 x2]) (by simp)) 0
          have p2 : VV.cell? ⟨B1, 1, none⟩ = some (.int .u16 x2) := Blk.cell (show Blk VV B1 CtT #[.int .u16 x1, .int .u16 x2] from S2.ok (Ob.blk B1 CtT #[.int .u16 x1, .int .u16 x2]) (by simp)) 1
          have p3 : VV.cell? ⟨B2, 0, none⟩ = some (.int .u16 y1) := Blk.cell (show Blk VV B2 CtT #[.int .u16 y1, .int .u16 y2] from S2.ok (Ob.blk B2 CtT #[.int .u16 y1, .int .u16 y2]) (by simp)) 0
          have p4 : VV.cell? ⟨B2, 1, none⟩ = some (.int .u16 y2) := Blk.cell (show Blk VV B2 CtT #[.int .u16 y1, .int .u16 y2] from S2.ok (Ob.blk B2 CtT #[.int .u16 y1, .int .u16 y2]) (by simp)) 1
          have HSV := Lib.hid S2
          clear S2
          go_upto_region 14 with fail
          go_cut [15] from 55 to 60 (fun v wx => v = .int .i64 (pcF T.length (x1, x2) : Int) ∧ wx = VV)
          case first =>
            by_cases h : x1 < T.length
            · have h2 : pcF T.length (x1, x2) = x1 := by unfold pcF; simp only; omega
              have h3 : (x1 : Int) < T.length := by omega
              go_wp2_with fail
              all_goals (go_meet; exact ⟨by rw [h2]; first | done | rfl | (congr 1; omega), rfl⟩)
            · have h2 : pcF T.length (x1, x2) = T.length := by unfold pcF; simp only; omega
              have h3 : (T.length : Int) ≤ x1 := by omega
              go_wp2_with fail
              all_goals (go_meet; exact ⟨by rw [h2]; first | done | rfl | (congr 1; omega), rfl⟩)
          case rest =>
            obtain ⟨rfl, rfl⟩ := hcut
            obtain ⟨fx, hfx⟩ : ∃ fx, fx = pcF T.length (x1, x2) := ⟨_, rfl⟩
            rw [← hfx]
            have HFX := Lib.hid hfx
            have hfb : fx ≤ T.length := by rw [hfx]; unfold pcF; omega
            clear hfx
            go_upto_if 64 with fail
            go_cut [] from 64 to 81 (fun wx => ∃ L', AS T (fun o => (anyIn ((l.map (pcS T.length)).take k)) o ∨ inS (pcS T.length (x1, x2)) o) hp gp rb first (k + 1) L' ∧ Sep None w wx (LB ++ (L' ++ [Ob.blk B1 CtT #[.int .u16 x1, .int .u16 x2], Ob.blk B2 CtT #[.int .u16 y1, .int .u16 y2]])))
            case first =>
              by_cases h : fx < T.length
              · have h3 : (fx : Int) < T.length := by omega
                have h4 := pc_bd T.length (x1, x2)
                have hTr := HT.out (by omega)
                rcases pcE_of (M := T.length) (x1 := x1) (x2 := x2) HFX.out with ⟨g1, g2⟩ | ⟨g1, g2⟩
                · have g3 : (fx : Int) + x2 < T.length := by omega
                  have hcr := cutBM_run ta T.length tc fx (fx + x2) (by omega) (by omega)
                  have hrd := cut_reads hTr (show fx ≤ fx + x2 by omega) (by omega)
                  rw [show fx + x2 - fx = x2 by omega] at hcr hrd
                  generalize (if tc = fx then ta else ta.map (·.add (fx * 1))) = qx at *
                  have hee : ((fx + x2 : Nat) : Int) = (fx : Int) + x2 := by push_cast; rfl
                  rw [hee] at hcr
                  have HTP := Lib.hid (take_piece T (anyIn ((l.map (pcS T.length)).take k)) hp gp rb first k LA ([Ob.blk B1 CtT #[.int .u16 x1, .int .u16 x2], Ob.blk B2 CtT #[.int .u16 y1, .int .u16 y2]] ++ LB) w wc qx (tc - fx) fx x2 HAA.out.1 (by omega) (by omega) (by omega) (Sep.rot HSV.out) hrd)
                  have HPS := Lib.hid (show pcS T.length (x1, x2) = ((fx : Int), ((fx + x2 : Nat) : Int)) by unfold pcS; rw [g2, ← HFX.out])
                  clear hrd hTr hee h4
                  go_wp2_with fail
                  refine HTP.out.mono ?_
                  rintro y7 w7 ⟨v7, L7, rfl, A7, S7⟩
                  have HA7 := Lib.hid A7
                  have HS7 := Lib.hid S7
                  clear A7 S7 HTP
                  go_wp2_with fail
                  go_meet
                  exact ⟨L7, (by rw [HPS.out]; exact HA7.out : AS T (fun o => (anyIn ((l.map (pcS T.length)).take k)) o ∨ inS (pcS T.length (x1, x2)) o) hp gp rb first (k + 1) L7), Sep.rot (Sep.rot HS7.out)⟩
                · have g3 : (T.length : Int) ≤ (fx : Int) + x2 := by omega
                  have hcr := cutBM_run ta T.length tc fx T.length (by omega) (by omega)
                  have hrd := cut_reads hTr (show fx ≤ T.length by omega) (Nat.le_refl _)
                  generalize (if tc = fx then ta else ta.map (·.add (fx * 1))) = qx at *
                  have HTP := Lib.hid (take_piece T (anyIn ((l.map (pcS T.length)).take k)) hp gp rb first k LA ([Ob.blk B1 CtT #[.int .u16 x1, .int .u16 x2], Ob.blk B2 CtT #[.int .u16 y1, .int .u16 y2]] ++ LB) w wc qx (tc - fx) fx (T.length - fx) HAA.out.1 (by omega) (by omega) (by omega) (Sep.rot HSV.out) hrd)
                  have HPS := Lib.hid (show pcS T.length (x1, x2) = ((fx : Int), ((fx + (T.length - fx) : Nat) : Int)) by unfold pcS; rw [g2, ← HFX.out, show fx + (T.length - fx) = T.length by omega])
                  clear hrd hTr h4
                  go_wp2_with fail
                  refine HTP.out.mono ?_
                  rintro y7 w7 ⟨v7, L7, rfl, A7, S7⟩
                  have HA7 := Lib.hid A7
                  have HS7 := Lib.hid S7
                  clear A7 S7 HTP
                  go_wp2_with fail
                  go_meet
                  exact ⟨L7, (by rw [HPS.out]; exact HA7.out : AS T (fun o => (anyIn ((l.map (pcS T.length)).take k)) o ∨ inS (pcS T.length (x1, x2)) o) hp gp rb first (k + 1) L7), Sep.rot (Sep.rot HS7.out)⟩
              · have h3 : (T.length : Int) ≤ fx := by omega
                have h4 := pc_bd T.length (x1, x2)
                have hz : pcS T.length (x1, x2) = ((T.length : Int), (T.length : Int)) := by
                  have h5 := HFX.out
                  unfold pcS
                  rw [show pcF T.length (x1, x2) = T.length by omega, show pcE T.length (x1, x2) = T.length by omega]
                have HM := Lib.hid (HAA.out.1.congr (P' := fun o => (anyIn ((l.map (pcS T.length)).take k)) o ∨ inS (pcS T.length (x1, x2)) o) (n' := k + 1) (fun o => by
                  rw [hz]
                  exact ⟨.inl, fun hh => hh.elim id fun hh => absurd hh (inS_zero (by
                    rcases plainS_cases ((T.length : Int), (T.length : Int)) with ⟨_, h9⟩ | ⟨h9, _⟩
                    · simp only at h9; omega
                    · unfold lenS; rw [h9]; rfl) o)⟩) (by omega))
                clear hz h4
                go_wp2_with fail
                go_meet
                exact ⟨LA, HM.out, HSV.out⟩
            case rest =>
              obtain ⟨L1, A1, S3⟩ := hcut
              clear HFX p1 p2 p3 p4 HSV
              go_upto_region 17 with fail
              generalize wc = VV at *
              have p1 : VV.cell? ⟨B1, 0, none⟩ = some (.int .u16 x1) := Blk.cell (show Blk VV B1 CtT #[.int .u16 x1, .int .u16 x2] from S3.ok (Ob.blk B1 CtT #[.int .u16 x1, .int .u16 x2]) (by simp)) 0
              have p2 : VV.cell? ⟨B1, 1, none⟩ = some (.int .u16 x2) := Blk.cell (show Blk VV B1 CtT #[.int .u16 x1, .int .u16 x2] from S3.ok (Ob.blk B1 CtT #[.int .u16 x1, .int .u16 x2]) (by simp)) 1
              have p3 : VV.cell? ⟨B2, 0, none⟩ = some (.int .u16 y1) := Blk.cell (show Blk VV B2 CtT #[.int .u16 y1, .int .u16 y2] from S3.ok (Ob.blk B2 CtT #[.int .u16 y1, .int .u16 y2]) (by simp)) 0
              have p4 : VV.cell? ⟨B2, 1, none⟩ = some (.int .u16 y2) := Blk.cell (show Blk VV B2 CtT #[.int .u16 y1, .int .u16 y2] from S3.ok (Ob.blk B2 CtT #[.int .u16 y1, .int .u16 y2]) (by simp)) 1
              have HSV := Lib.hid S3
              have HA1 := Lib.hid A1
              clear S3 A1
              go_upto_region 17 with fail
              go_cut [16] from 82 to 87 (fun v wx => v = .int .i64 (pcF T.length (y1, y2) : Int) ∧ wx = VV)
              case first =>
                by_cases h : y1 < T.length
                · have h2 : pcF T.length (y1, y2) = y1 := by unfold pcF; simp only; omega
                  have h3 : (y1 : Int) < T.length := by omega
                  go_wp2_with fail
                  all_goals (go_meet; exact ⟨by rw [h2]; first | done | rfl | (congr 1; omega), rfl⟩)
                · have h2 : pcF T.length (y1, y2) = T.length := by unfold pcF; simp only; omega
                  have h3 : (T.length : Int) ≤ y1 := by omega
                  go_wp2_with fail
                  all_goals (go_meet; exact ⟨by rw [h2]; first | done | rfl | (congr 1; omega), rfl⟩)
              case rest =>
                obtain ⟨rfl, rfl⟩ := hcut
                obtain ⟨fx, hfx⟩ : ∃ fx, fx = pcF T.length (y1, y2) := ⟨_, rfl⟩
                rw [← hfx]
                have HFX := Lib.hid hfx
                have hfb : fx ≤ T.length := by rw [hfx]; unfold pcF; omega
                clear hfx
                by_cases h : fx < T.length
                · have h3 : (fx : Int) < T.length := by omega
                  have h4 := pc_bd T.length (y1, y2)
                  have hTr := HT.out (by omega)
                  rcases pcE_of (M := T.length) (x1 := y1) (x2 := y2) HFX.out with ⟨g1, g2⟩ | ⟨g1, g2⟩
                  · have g3 : (fx : Int) + y2 < T.length := by omega
                    have hcr := cutBM_run ta T.length tc fx (fx + y2) (by omega) (by omega)
                    have hrd := cut_reads hTr (show fx ≤ fx + y2 by omega) (by omega)
                    rw [show fx + y2 - fx = y2 by omega] at hcr hrd
                    generalize (if tc = fx then ta else ta.map (·.add (fx * 1))) = qx at *
                    have hee : ((fx + y2 : Nat) : Int) = (fx : Int) + y2 := by push_cast; rfl
                    rw [hee] at hcr
                    have HTP := Lib.hid (take_piece T (anyIn (((l.map (pcS T.length)).take N).drop (N - k))) hp' gp' rb' first k LB (L1 ++ [Ob.blk B1 CtT #[.int .u16 x1, .int .u16 x2], Ob.blk B2 CtT #[.int .u16 y1, .int .u16 y2]]) w wc qx (tc - fx) fx y2 HAA.out.2 (by omega) (by omega) (by omega) HSV.out hrd)
                    have HPS := Lib.hid (show pcS T.length (y1, y2) = ((fx : Int), ((fx + y2 : Nat) : Int)) by unfold pcS; rw [g2, ← HFX.out])
                    clear hrd hTr hee h4
                    go_wp2_with fail
                    refine HTP.out.mono ?_
                    rintro y7 w7 ⟨v7, L7, rfl, A7, S7⟩
                    have HA7 := Lib.hid A7
                    have HS7 := Lib.hid S7
                    clear A7 S7 HTP
                    go_wp2_with fail
                    go_roundg (gk - 1)
                    case measure => omega
                    case rel => exact ⟨k + 1, L1, L7, by omega, by go_num, HA1.out.congr (fun o => (HX.out o).symm) (Nat.le_refl _), ((by rw [HPS.out]; exact HA7.out : AS T (fun o => (anyIn (((l.map (pcS T.length)).take N).drop (N - k))) o ∨ inS (pcS T.length (y1, y2)) o) hp' gp' rb' first (k + 1) L7)).congr (fun o => by have hy := HY.out o; have hj := HJ.out; rw [show N - (k + 1) = j by omega, hy, show j + 1 = N - k by omega]) (Nat.le_refl _), (HS7.out : Sep None w _ (L7 ++ (L1 ++ [Ob.blk B1 CtT #[.int .u16 x1, .int .u16 x2], Ob.blk B2 CtT #[.int .u16 y1, .int .u16 y2]]))).drop (List.Sublist.append_left (List.sublist_append_left _ _) _)⟩
                  · have g3 : (T.length : Int) ≤ (fx : Int) + y2 := by omega
                    have hcr := cutBM_run ta T.length tc fx T.length (by omega) (by omega)
                    have hrd := cut_reads hTr (show fx ≤ T.length by omega) (Nat.le_refl _)
                    generalize (if tc = fx then ta else ta.map (·.add (fx * 1))) = qx at *
                    have HTP := Lib.hid (take_piece T (anyIn (((l.map (pcS T.length)).take N).drop (N - k))) hp' gp' rb' first k LB (L1 ++ [Ob.blk B1 CtT #[.int .u16 x1, .int .u16 x2], Ob.blk B2 CtT #[.int .u16 y1, .int .u16 y2]]) w wc qx (tc - fx) fx (T.length - fx) HAA.out.2 (by omega) (by omega) (by omega) HSV.out hrd)
                    have HPS := Lib.hid (show pcS T.length (y1, y2) = ((fx : Int), ((fx + (T.length - fx) : Nat) : Int)) by unfold pcS; rw [g2, ← HFX.out, show fx + (T.length - fx) = T.length by omega])
                    clear hrd hTr h4
                    go_wp2_with fail
                    refine HTP.out.mono ?_
                    rintro y7 w7 ⟨v7, L7, rfl, A7, S7⟩
                    have HA7 := Lib.hid A7
                    have HS7 := Lib.hid S7
                    clear A7 S7 HTP
                    go_wp2_with fail
                    go_roundg (gk - 1)
                    case measure => omega
                    case rel => exact ⟨k + 1, L1, L7, by omega, by go_num, HA1.out.congr (fun o => (HX.out o).symm) (Nat.le_refl _), ((by rw [HPS.out]; exact HA7.out : AS T (fun o => (anyIn (((l.map (pcS T.length)).take N).drop (N - k))) o ∨ inS (pcS T.length (y1, y2)) o) hp' gp' rb' first (k + 1) L7)).congr (fun o => by have hy := HY.out o; have hj := HJ.out; rw [show N - (k + 1) = j by omega, hy, show j + 1 = N - k by omega]) (Nat.le_refl _), (HS7.out : Sep None w _ (L7 ++ (L1 ++ [Ob.blk B1 CtT #[.int .u16 x1, .int .u16 x2], Ob.blk B2 CtT #[.int .u16 y1, .int .u16 y2]]))).drop (List.Sublist.append_left (List.sublist_append_left _ _) _)⟩
                · have h3 : (T.length : Int) ≤ fx := by omega
                  have h4 := pc_bd T.length (y1, y2)
                  have hz : pcS T.length (y1, y2) = ((T.length : Int), (T.length : Int)) := by
                    have h5 := HFX.out
                    unfold pcS
                    rw [show pcF T.length (y1, y2) = T.length by omega, show pcE T.length (y1, y2) = T.length by omega]
                  have HM := Lib.hid (HAA.out.2.congr (P' := fun o => (anyIn (((l.map (pcS T.length)).take N).drop (N - k))) o ∨ inS (pcS T.length (y1, y2)) o) (n' := k + 1) (fun o => by
                    rw [hz]
                    exact ⟨.inl, fun hh => hh.elim id fun hh => absurd hh (inS_zero (by
                      rcases plainS_cases ((T.length : Int), (T.length : Int)) with ⟨_, h9⟩ | ⟨h9, _⟩
                      · simp only at h9; omega
                      · unfold lenS; rw [h9]; rfl) o)⟩) (by omega))
                  clear hz h4
                  go_wp2_with fail
                  go_roundg (gk - 1)
                  case measure => omega
                  case rel => exact ⟨k + 1, L1, LB, by omega, by go_num, HA1.out.congr (fun o => (HX.out o).symm) (Nat.le_refl _), (HM.out).congr (fun o => by have hy := HY.out o; have hj := HJ.out; rw [show N - (k + 1) = j by omega, hy, show j + 1 = N - k by omega]) (Nat.le_refl _), (HSV.out : Sep None w _ (LB ++ (L1 ++ [Ob.blk B1 CtT #[.int .u16 x1, .int .u16 x2], Ob.blk B2 CtT #[.int .u16 y1, .int .u16 y2]]))).drop (List.Sublist.append_left (List.sublist_append_left _ _) _)⟩
      · have hke : k = N := by omega
        subst hke
        rw [Nat.sub_self, List.drop_zero] at hB
        obtain ⟨q1, k1, l1, tq1, tc1, text1, ring1, b1, O1, n1, rfl⟩ := hA
        obtain ⟨q2, k2, l2, tq2, tc2, text2, ring2, b2, O2, n2, rfl⟩ := hB
        obtain ⟨rfl, rfl⟩ := O1.same O2
        have hS := (show Sep None w wr (hrd hp' first gp' q2 k2 l1 tq2 tc2 text1 (some ⟨rb', 0, none⟩) 65536 ring2 ++ hrd hp first gp q1 k1 l1 tq1 tc1 text1 (some ⟨rb, 0, none⟩) 65536 ring1) from S1)
        obtain ⟨bh, bg, br, bt, _⟩ := hrd_cells hS
        obtain ⟨ah, ag, ar, at1, _⟩ := hrd_cells (R := hrd hp' first gp' q2 k2 l1 tq2 tc2 text1 (some ⟨rb', 0, none⟩) 65536 ring2) (hS.perm List.perm_append_comm)
        have htl := O1.len
        have htx := O1.text
        have hF := hS.fr
        have hcut : ∀ V, Fr None w V → 0 < text1.length → Reads V 1 ta text1.length tc (fc u8c text1) := fun V f h => by
          have h1 := ((HT.out (by omega)).take htl).fr f (fun _ _ h => h)
          rw [fc_take u8c_len, ← htx] at h1
          exact h1
        have E6 := Lib.hid (fun (V : World) (f : Fr None wr V) => htext_any hp tq1 tc1 text1 V (by omega) ((ah.fr f id).cell 2) (at1.fr f (fun _ _ h => h)))
        have E20 := Lib.hid (fun (V : World) (f : Fr None wr V) => htext_any hp' tq2 tc2 text1 V (by omega) ((bh.fr f id).cell 2) (bt.fr f (fun _ _ h => h)))
        have E0 := Lib.hid (hnext_any hp text1.length tq1 tc1 wr (ah.cell 2))
        have E14 := Lib.hid (fun (V : World) (f : Fr None wr V) => hnext_any hp' text1.length tq2 tc2 V ((bh.fr f id).cell 2))
        have ESm := Lib.hid (fun (V : World) (f : Fr None wr V) (p : Option Addr) (d : Nat) (h : (brow p d text1).ok V) => bSame_w p ta d tc text1 V (fun _ => brow_reads h) (hcut V (hF.trans f)) (by omega))
        have E28 := Lib.hid (fun (V : World) (f : Fr None wr V) => abv_any hp gp first q1 k1 l1 tq1 tc1 text1 (some ⟨rb, 0, none⟩) 65536 ring1 V (by omega) (by omega) (ah.fr f id) (cell_frN f ag) (ar.fr f (fun _ _ h => h)))
        have E30 := Lib.hid (fun (V : World) (f : Fr None wr V) => abv_any hp' gp' first q2 k2 l1 tq2 tc2 text1 (some ⟨rb', 0, none⟩) 65536 ring2 V (by omega) (by omega) (bh.fr f id) (cell_frN f bg) (br.fr f (fun _ _ h => h)))
        have hal := aboveF_len text1.length l1
        generalize aboveF text1.length l1 = al at *
        have E31 := Lib.hid (fun (V : World) (p1 p2 : Option Addr) (d1 d2 : Nat) (h1 : (srow p1 d1 al).ok V) (h2 : (srow p2 d2 al).ok V) => spSame_refl p1 p2 d1 d2 al V (row_reads h1) (row_reads h2) (by omega))
        have HF := Lib.hid hF
        have nT : (text1.length : Int) ≤ T.length := by omega
        have nC : (text1.length : Int) ≤ tc := by omega
        have n0 : (0 : Int) ≤ text1.length := by omega
        have dle : decide (text1.length ≤ T.length) = true := decide_eq_true htl
        have g1 : decide (k < k) = false := by simp
        clear hS bh bg br bt ah ag ar at1 htx hF hcut O1 O2 S1 HAT HNw htl
        go_wp2_with fail
        refine (E0.out).mono ?_
        rintro y0 w3 ⟨rfl, rfl⟩
        clear E0
        go_wp2_with fail
        refine wp_region_to (S := fun _ => True) 37 (by kernel_rfl) trivial (fun hHeld => ?_)
        have F := (Fr.refl None w3).drew
        generalize w3.drew = U at *
        refine wpTo_take (i := 0) (v := ?_) rfl (by kernel_rfl) (fun _ _ _ h => h) (Or.inl ⟨by rfl, ?_⟩) hHeld ?_
        rotate_left
        · (intro w' hSw; (try dsimp only at hSw); go_simp <;> with_reducible rfl)
        simp only [Act.put, List.setIfInBounds_toArray, List.set_cons_zero, List.set_cons_succ, List.getElem_toArray, List.getElem_cons_succ, List.getElem_cons_zero]
        refine wpTo_take (i := 1) (v := ?_) rfl (by kernel_rfl) (fun _ _ _ h => h) (Or.inl ⟨by rfl, ?_⟩) hHeld ?_
        rotate_left
        · (intro w' hSw; (try dsimp only at hSw); go_simp <;> with_reducible rfl)
        simp only [Act.put, List.setIfInBounds_toArray, List.set_cons_zero, List.set_cons_succ, List.getElem_toArray, List.getElem_cons_succ, List.getElem_cons_zero]
        refine wpTo_take (i := 2) (v := ?_) rfl (by kernel_rfl) (fun _ _ _ h => h) (Or.inl ⟨by rfl, ?_⟩) hHeld ?_
        rotate_left
        · (intro w' hSw; (try dsimp only at hSw); go_simp <;> with_reducible rfl)
        simp only [Act.put, List.setIfInBounds_toArray, List.set_cons_zero, List.set_cons_succ, List.getElem_toArray, List.getElem_cons_succ, List.getElem_cons_zero]
        refine wpTo_take (i := 3) (v := ?_) rfl (by kernel_rfl) (fun _ _ _ h => h) (Or.inl ⟨by rfl, ?_⟩) hHeld ?_
        rotate_left
        · (intro w' hSw; (try dsimp only at hSw); go_simp <;> with_reducible rfl)
        simp only [Act.put, List.setIfInBounds_toArray, List.set_cons_zero, List.set_cons_succ, List.getElem_toArray, List.getElem_cons_succ, List.getElem_cons_zero]
        refine wpTo_take (i := 4) (v := ?_) rfl (by kernel_rfl) (fun _ _ _ h => h) (Or.inl ⟨by rfl, ?_⟩) hHeld ?_
        rotate_left
        · (intro w' hSw; (try dsimp only at hSw); go_simp <;> with_reducible rfl)
        simp only [Act.put, List.setIfInBounds_toArray, List.set_cons_zero, List.set_cons_succ, List.getElem_toArray, List.getElem_cons_succ, List.getElem_cons_zero]
        refine wpTo_take (i := 5) (v := ?_) rfl (by kernel_rfl) (fun _ _ _ h => h) (Or.inl ⟨by rfl, ?_⟩) hHeld ?_
        rotate_left
        · (intro w' hSw; (try dsimp only at hSw); go_simp <;> with_reducible rfl)
        simp only [Act.put, List.setIfInBounds_toArray, List.set_cons_zero, List.set_cons_succ, List.getElem_toArray, List.getElem_cons_succ, List.getElem_cons_zero]
        refine wpTo_take (i := 7) (v := ?_) rfl (by kernel_rfl) (fun _ _ _ h => h) (Or.inl ⟨by rfl, ?_⟩) hHeld ?_
        rotate_left
        · (intro w' hSw; (try dsimp only at hSw); go_simp <;> with_reducible rfl)
        simp only [Act.put, List.setIfInBounds_toArray, List.set_cons_zero, List.set_cons_succ, List.getElem_toArray, List.getElem_cons_succ, List.getElem_cons_zero]
        refine wpTo_take (i := 8) (v := ?_) rfl (by kernel_rfl) (fun _ _ _ h => h) (Or.inl ⟨by rfl, ?_⟩) hHeld ?_
        rotate_left
        · (intro w' hSw; (try dsimp only at hSw); go_simp <;> with_reducible rfl)
        simp only [Act.put, List.setIfInBounds_toArray, List.set_cons_zero, List.set_cons_succ, List.getElem_toArray, List.getElem_cons_succ, List.getElem_cons_zero]
        refine wpTo_take (i := 9) (v := ?_) rfl (by kernel_rfl) (fun _ _ _ h => h) (Or.inl ⟨by rfl, ?_⟩) hHeld ?_
        rotate_left
        · (intro w' hSw; (try dsimp only at hSw); go_simp <;> with_reducible rfl)
        simp only [Act.put, List.setIfInBounds_toArray, List.set_cons_zero, List.set_cons_succ, List.getElem_toArray, List.getElem_cons_succ, List.getElem_cons_zero]
        refine wpTo_mid (i := 6) (by kernel_rfl) rfl (fun K hK => ?_)
        go_simp
        refine (E6.out _ F).mono ?_
        rintro y w16 ⟨q7, k7, rfl, T7⟩
        have G := T7.fr
        refine hK.out _ _ trivial (fun hHeld => ?_)
        replace F := F.trans G
        clear G
        clear hK K
        try simp only [Act.put, List.setIfInBounds_toArray, List.set_cons_zero, List.set_cons_succ, List.getElem_toArray, List.getElem_cons_succ, List.getElem_cons_zero]
        refine wpTo_mid (i := 10) (by kernel_rfl) rfl (fun K hK => ?_)
        go_simp
        refine (ESm.out _ F q7 k7 (T7.at_ 0 rfl)).mono ?_
        rintro y w20 ⟨rfl, G⟩
        refine hK.out _ _ trivial (fun hHeld => ?_)
        replace F := F.trans G
        clear G
        clear hK K
        try simp only [Act.put, List.setIfInBounds_toArray, List.set_cons_zero, List.set_cons_succ, List.getElem_toArray, List.getElem_cons_succ, List.getElem_cons_zero]
        refine wpTo_take (i := 11) (v := ?_) rfl (by kernel_rfl) (fun _ _ _ h => h) (Or.inl ⟨by rfl, ?_⟩) hHeld ?_
        rotate_left
        · (intro w' hSw; (try dsimp only at hSw); go_simp <;> with_reducible rfl)
        simp only [Act.put, List.setIfInBounds_toArray, List.set_cons_zero, List.set_cons_succ, List.getElem_toArray, List.getElem_cons_succ, List.getElem_cons_zero]
        refine wpTo_take (i := 12) (v := ?_) rfl (by kernel_rfl) (fun _ _ _ h => h) (Or.inl ⟨by rfl, ?_⟩) hHeld ?_
        rotate_left
        · (intro w' hSw; (try dsimp only at hSw); go_simp <;> with_reducible rfl)
        simp only [Act.put, List.setIfInBounds_toArray, List.set_cons_zero, List.set_cons_succ, List.getElem_toArray, List.getElem_cons_succ, List.getElem_cons_zero]
        refine wpTo_take (i := 13) (v := ?_) rfl (by kernel_rfl) (fun _ _ _ h => h) (Or.inl ⟨by rfl, ?_⟩) hHeld ?_
        rotate_left
        · (intro w' hSw; (try dsimp only at hSw); go_simp <;> with_reducible rfl)
        simp only [Act.put, List.setIfInBounds_toArray, List.set_cons_zero, List.set_cons_succ, List.getElem_toArray, List.getElem_cons_succ, List.getElem_cons_zero]
        refine wpTo_take (i := 15) (v := ?_) rfl (by kernel_rfl) (fun _ _ _ h => h) (Or.inl ⟨by rfl, ?_⟩) hHeld ?_
        rotate_left
        · (intro w' hSw; (try dsimp only at hSw); go_simp <;> with_reducible rfl)
        simp only [Act.put, List.setIfInBounds_toArray, List.set_cons_zero, List.set_cons_succ, List.getElem_toArray, List.getElem_cons_succ, List.getElem_cons_zero]
        refine wpTo_mid (i := 14) (by kernel_rfl) rfl (fun K hK => ?_)
        go_simp
        refine (E14.out _ F).mono ?_
        rintro y w24 ⟨rfl, rfl⟩
        refine hK.out _ _ trivial (fun hHeld => ?_)
        clear hK K
        try simp only [Act.put, List.setIfInBounds_toArray, List.set_cons_zero, List.set_cons_succ, List.getElem_toArray, List.getElem_cons_succ, List.getElem_cons_zero]
        refine wpTo_take (i := 16) (v := ?_) rfl (by kernel_rfl) (fun _ _ _ h => h) (Or.inl ⟨by rfl, ?_⟩) hHeld ?_
        rotate_left
        · (intro w' hSw; (try dsimp only at hSw); go_simp <;> with_reducible rfl)
        simp only [Act.put, List.setIfInBounds_toArray, List.set_cons_zero, List.set_cons_succ, List.getElem_toArray, List.getElem_cons_succ, List.getElem_cons_zero]
        refine wpTo_take (i := 17) (v := ?_) rfl (by kernel_rfl) (fun _ _ _ h => h) (Or.inl ⟨by rfl, ?_⟩) hHeld ?_
        rotate_left
        · (intro w' hSw; (try dsimp only at hSw); go_simp <;> with_reducible rfl)
        simp only [Act.put, List.setIfInBounds_toArray, List.set_cons_zero, List.set_cons_succ, List.getElem_toArray, List.getElem_cons_succ, List.getElem_cons_zero]
        refine wpTo_take (i := 18) (v := ?_) rfl (by kernel_rfl) (fun _ _ _ h => h) (Or.inl ⟨by rfl, ?_⟩) hHeld ?_
        rotate_left
        · (intro w' hSw; (try dsimp only at hSw); go_simp <;> with_reducible rfl)
        simp only [Act.put, List.setIfInBounds_toArray, List.set_cons_zero, List.set_cons_succ, List.getElem_toArray, List.getElem_cons_succ, List.getElem_cons_zero]
        refine wpTo_take (i := 19) (v := ?_) rfl (by kernel_rfl) (fun _ _ _ h => h) (Or.inl ⟨by rfl, ?_⟩) hHeld ?_
        rotate_left
        · (intro w' hSw; (try dsimp only at hSw); go_simp <;> with_reducible rfl)
        simp only [Act.put, List.setIfInBounds_toArray, List.set_cons_zero, List.set_cons_succ, List.getElem_toArray, List.getElem_cons_succ, List.getElem_cons_zero]
        refine wpTo_take (i := 21) (v := ?_) rfl (by kernel_rfl) (fun _ _ _ h => h) (Or.inl ⟨by rfl, ?_⟩) hHeld ?_
        rotate_left
        · (intro w' hSw; (try dsimp only at hSw); go_simp <;> with_reducible rfl)
        simp only [Act.put, List.setIfInBounds_toArray, List.set_cons_zero, List.set_cons_succ, List.getElem_toArray, List.getElem_cons_succ, List.getElem_cons_zero]
        refine wpTo_take (i := 22) (v := ?_) rfl (by kernel_rfl) (fun _ _ _ h => h) (Or.inl ⟨by rfl, ?_⟩) hHeld ?_
        rotate_left
        · (intro w' hSw; (try dsimp only at hSw); go_simp <;> with_reducible rfl)
        simp only [Act.put, List.setIfInBounds_toArray, List.set_cons_zero, List.set_cons_succ, List.getElem_toArray, List.getElem_cons_succ, List.getElem_cons_zero]
        refine wpTo_take (i := 23) (v := ?_) rfl (by kernel_rfl) (fun _ _ _ h => h) (Or.inl ⟨by rfl, ?_⟩) hHeld ?_
        rotate_left
        · (intro w' hSw; (try dsimp only at hSw); go_simp <;> with_reducible rfl)
        simp only [Act.put, List.setIfInBounds_toArray, List.set_cons_zero, List.set_cons_succ, List.getElem_toArray, List.getElem_cons_succ, List.getElem_cons_zero]
        refine wpTo_mid (i := 20) (by kernel_rfl) rfl (fun K hK => ?_)
        go_simp
        refine (E20.out _ F).mono ?_
        rintro y w30 ⟨q8, k8, rfl, T8⟩
        have G := T8.fr
        refine hK.out _ _ trivial (fun hHeld => ?_)
        replace F := F.trans G
        clear G
        clear hK K
        try simp only [Act.put, List.setIfInBounds_toArray, List.set_cons_zero, List.set_cons_succ, List.getElem_toArray, List.getElem_cons_succ, List.getElem_cons_zero]
        refine wpTo_mid (i := 24) (by kernel_rfl) rfl (fun K hK => ?_)
        go_simp
        refine (ESm.out _ F q8 k8 (T8.at_ 0 rfl)).mono ?_
        rintro y w34 ⟨rfl, G⟩
        refine hK.out _ _ trivial (fun hHeld => ?_)
        replace F := F.trans G
        clear G
        clear hK K
        try simp only [Act.put, List.setIfInBounds_toArray, List.set_cons_zero, List.set_cons_succ, List.getElem_toArray, List.getElem_cons_succ, List.getElem_cons_zero]
        refine wpTo_take (i := 25) (v := ?_) rfl (by kernel_rfl) (fun _ _ _ h => h) (Or.inl ⟨by rfl, ?_⟩) hHeld ?_
        rotate_left
        · (intro w' hSw; (try dsimp only at hSw); go_simp <;> with_reducible rfl)
        simp only [Act.put, List.setIfInBounds_toArray, List.set_cons_zero, List.set_cons_succ, List.getElem_toArray, List.getElem_cons_succ, List.getElem_cons_zero]
        refine wpTo_take (i := 26) (v := ?_) rfl (by kernel_rfl) (fun _ _ _ h => h) (Or.inl ⟨by rfl, ?_⟩) hHeld ?_
        rotate_left
        · (intro w' hSw; (try dsimp only at hSw); go_simp <;> with_reducible rfl)
        simp only [Act.put, List.setIfInBounds_toArray, List.set_cons_zero, List.set_cons_succ, List.getElem_toArray, List.getElem_cons_succ, List.getElem_cons_zero]
        refine wpTo_take (i := 27) (v := ?_) rfl (by kernel_rfl) (fun _ _ _ h => h) (Or.inl ⟨by rfl, ?_⟩) hHeld ?_
        rotate_left
        · (intro w' hSw; (try dsimp only at hSw); go_simp <;> with_reducible rfl)
        simp only [Act.put, List.setIfInBounds_toArray, List.set_cons_zero, List.set_cons_succ, List.getElem_toArray, List.getElem_cons_succ, List.getElem_cons_zero]
        refine wpTo_take (i := 29) (v := ?_) rfl (by kernel_rfl) (fun _ _ _ h => h) (Or.inl ⟨by rfl, ?_⟩) hHeld ?_
        rotate_left
        · (intro w' hSw; (try dsimp only at hSw); go_simp <;> with_reducible rfl)
        simp only [Act.put, List.setIfInBounds_toArray, List.set_cons_zero, List.set_cons_succ, List.getElem_toArray, List.getElem_cons_succ, List.getElem_cons_zero]
        refine wpTo_mid (i := 28) (by kernel_rfl) rfl (fun K hK => ?_)
        go_simp
        refine (E28.out _ F).mono ?_
        rintro y w38 ⟨q14, k14, rfl, T14⟩
        have G := T14.fr
        refine hK.out _ _ trivial (fun hHeld => ?_)
        replace F := F.trans G
        clear G
        clear hK K
        try simp only [Act.put, List.setIfInBounds_toArray, List.set_cons_zero, List.set_cons_succ, List.getElem_toArray, List.getElem_cons_succ, List.getElem_cons_zero]
        refine wpTo_mid (i := 30) (by kernel_rfl) rfl (fun K hK => ?_)
        go_simp
        refine (E30.out _ F).mono ?_
        rintro y w40 ⟨q16, k16, rfl, T16⟩
        have G := T16.fr
        replace T14 := T14.same G
        refine hK.out _ _ trivial (fun hHeld => ?_)
        replace F := F.trans G
        clear G
        clear hK K
        try simp only [Act.put, List.setIfInBounds_toArray, List.set_cons_zero, List.set_cons_succ, List.getElem_toArray, List.getElem_cons_succ, List.getElem_cons_zero]
        refine wpTo_mid (i := 31) (by kernel_rfl) rfl (fun K hK => ?_)
        go_simp
        refine (E31.out _ q14 q16 k14 k16 (T14.at_ 0 rfl) (T16.at_ 0 rfl)).mono ?_
        rintro y w41 ⟨rfl, G⟩
        refine hK.out _ _ trivial (fun hHeld => ?_)
        replace F := F.trans G
        clear G
        clear hK K
        try simp only [Act.put, List.setIfInBounds_toArray, List.set_cons_zero, List.set_cons_succ, List.getElem_toArray, List.getElem_cons_succ, List.getElem_cons_zero]
        refine wpTo_take (i := 32) (v := ?_) rfl (by kernel_rfl) (fun _ _ _ h => h) (Or.inl ⟨by rfl, ?_⟩) hHeld ?_
        rotate_left
        · (intro w' hSw; (try dsimp only at hSw); go_simp <;> with_reducible rfl)
        simp only [Act.put, List.setIfInBounds_toArray, List.set_cons_zero, List.set_cons_succ, List.getElem_toArray, List.getElem_cons_succ, List.getElem_cons_zero]
        refine wpTo_take (i := 33) (v := ?_) rfl (by kernel_rfl) (fun _ _ _ h => h) (Or.inl ⟨by rfl, ?_⟩) hHeld ?_
        rotate_left
        · (intro w' hSw; (try dsimp only at hSw); go_simp <;> with_reducible rfl)
        simp only [Act.put, List.setIfInBounds_toArray, List.set_cons_zero, List.set_cons_succ, List.getElem_toArray, List.getElem_cons_succ, List.getElem_cons_zero]
        refine wpTo_mid (i := 34) (by kernel_rfl) rfl (fun K hK => ?_)
        go_simp
        refine (known23_any _).mono ?_
        rintro y w44 ⟨rfl, G⟩
        refine hK.out _ _ trivial (fun hHeld => ?_)
        replace F := F.trans G
        clear G
        clear hK K
        try simp only [Act.put, List.setIfInBounds_toArray, List.set_cons_zero, List.set_cons_succ, List.getElem_toArray, List.getElem_cons_succ, List.getElem_cons_zero]
        refine wpTo_take (i := 35) (v := ?_) rfl (by kernel_rfl) (fun _ _ _ h => h) (Or.inl ⟨by rfl, ?_⟩) hHeld ?_
        rotate_left
        · (intro w' hSw; (try dsimp only at hSw); go_simp <;> with_reducible rfl)
        simp only [Act.put, List.setIfInBounds_toArray, List.set_cons_zero, List.set_cons_succ, List.getElem_toArray, List.getElem_cons_succ, List.getElem_cons_zero]
        refine wpTo_take (i := 36) (v := ?_) rfl (by kernel_rfl) (fun _ _ _ h => h) (Or.inl ⟨by rfl, ?_⟩) hHeld ?_
        rotate_left
        · (intro w' hSw; (try dsimp only at hSw); go_simp <;> with_reducible rfl)
        simp only [Act.put, List.setIfInBounds_toArray, List.set_cons_zero, List.set_cons_succ, List.getElem_toArray, List.getElem_cons_succ, List.getElem_cons_zero]
        refine wpTo_done (by kernel_rfl) ?_ _
        go_wp2_with fail
        go_ret
        exact ⟨by simp, (HF.out.trans F).none_below⟩
end Go.Proofs.Ytfobeheplficgaa
