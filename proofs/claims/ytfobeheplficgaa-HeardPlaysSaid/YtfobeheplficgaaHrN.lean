/- HeardPlays: walked. -/
import Derived.Test.YtfobeheplficgaaHrM6
set_option linter.unusedVariables false
set_option linter.unusedSimpArgs false
namespace Go.Proofs.Ytfobeheplficgaa
open Go.RowKit Go.Und Go.Shelf
open Go.ChangeShapes Go.WideShapes Go.ChangeAt
attribute [local go_sem] Oper.semAt_some
attribute [local go_sem ↓] Go.wp_at_zero Go.wp_at_succ

theorem Sep.rot {D : Nat → Prop} {w0 w : World} {A B C : List Ob} (S : Sep D w0 w (A ++ (B ++ C))) : Sep D w0 w (B ++ (C ++ A)) := by
  have h := S.perm (List.perm_append_comm (l₁ := A))
  rw [List.append_assoc] at h
  exact h
theorem Sep.rot1 {D : Nat → Prop} {w0 w : World} {a : Ob} {B C : List Ob} (S : Sep D w0 w (a :: (B ++ C))) : Sep D w0 w (B ++ (C ++ [a])) := Sep.rot (A := [a]) S
theorem Sep.rotU {D : Nat → Prop} {w0 w : World} {a x y : Ob} {Y : List Ob} (S : Sep D w0 w (a :: x :: y :: Y)) : Sep D w0 w (x :: y :: (Y ++ [a])) := Sep.rot (A := [a]) (B := [x, y]) S
theorem Sep.rotV {D : Nat → Prop} {w0 w : World} {a b x y : Ob} {Y : List Ob} (S : Sep D w0 w (a :: b :: x :: y :: Y)) : Sep D w0 w (x :: y :: (Y ++ [a, b])) := Sep.rot (A := [a, b]) (B := [x, y]) S
theorem Sep.joinE {D : Nat → Prop} {w0 w : World} {a b x y : Ob} {Y : List Ob} (S : Sep D w0 w (x :: y :: ((Y ++ [a]) ++ [b]))) : Sep D w0 w (x :: y :: (Y ++ [a, b])) := by
  rw [List.append_assoc] at S; exact S
theorem Sep.swapE {D : Nat → Prop} {w0 w : World} {a b x y : Ob} {Y : List Ob} (S : Sep D w0 w (x :: y :: ((Y ++ [b]) ++ [a]))) : Sep D w0 w (x :: y :: (Y ++ [a, b])) := by
  rw [List.append_assoc] at S
  exact S.perm (.cons _ (.cons _ (.append_left _ (.swap _ _ _))))
theorem pieces_of {W : World} {v : Value} {u : U} (h : (Sh.slice shPiece).holds W u [v]) : ∃ (p : Option Addr) (n cap : Nat), v = .slice p n cap ∧ n ≤ cap ∧ cap ≤ maxLen ∧
    ∀ k, k < n → ∃ (x : Int) (a : Option Addr) (c : Nat) (l : List Int) (b off : Nat), p = some ⟨b, off, none⟩ ∧ u32B x ∧ (0 < l.length → Reads W 1 a l.length c (fc u8c l)) ∧ W.cell? ⟨b, off + k * 2, none⟩ = some (.int .u32 x) ∧ W.cell? ⟨b, off + k * 2 + 1, none⟩ = some (.slice a l.length c) := by
  obtain ⟨p, cap, L, rfl, h1, h2, h3⟩ := elems_of h (by decide)
  refine ⟨p, L.length, cap, rfl, h1, h2, fun k hk => ?_⟩
  obtain ⟨g1, ⟨u, g2⟩, b, off, rfl, hb, hc⟩ := h3 k L[k] (List.getElem?_eq_getElem hk)
  obtain ⟨x, a, c, l, e, hx, hr⟩ := piece_of g2
  rw [e] at hc
  exact ⟨x, a, c, l, b, off, rfl, hx, hr, (show W.cell? ⟨b, off + (k * 2 + 0), none⟩ = _ from hc 0 (by decide)), by have h : W.cell? ⟨b, off + (k * 2 + 1), none⟩ = _ := hc 1 (by decide); rw [← Nat.add_assoc] at h; exact h⟩
/-- What is told new is what is had anew. -/
theorem hT_bytes {first num : Int} {room : Nat} {l : List (Int × Int)} {b text ring body : List Int} (hok : HOk room l b text ring) (h : text.length + room ≤ 1000000000) (t : HT) (ht : t = hT first num text.length room l b body) : bytesL t.l = bytesL l + t.f := by
  subst ht
  rcases hT_cases first num text.length room l b body with ⟨o, _, g1, g2, g3, g4, e⟩ | ⟨_, e⟩
  · rw [e]
    exact add_bytes hok.ok ⟨by simp only; omega, by simp only; omega, by simp only; omega⟩
  · rw [e]; show bytesL l = bytesL l + 0; omega
theorem hT_len {first num : Int} {room : Nat} {l : List (Int × Int)} {b text ring body : List Int} (hok : HOk room l b text ring) (h : text.length + room ≤ 1000000000) (t : HT) (ht : t = hT first num text.length room l b body) : t.l.length ≤ l.length + 1 := by
  subst ht
  rcases hT_cases first num text.length room l b body with ⟨o, _, g1, g2, g3, g4, e⟩ | ⟨_, e⟩
  · rw [e]
    have := hull_len_add hok.ok (s := ((o : Int), (o : Int) + body.length)) ⟨by simp only; omega, by simp only; omega, by simp only; omega⟩
    show (addL _ _).length ≤ _
    omega
  · rw [e]; show l.length ≤ _; omega
end Go.Proofs.Ytfobeheplficgaa
namespace Go.Und
section
variable {P : Program} {ops : Array Oper} {Q : Exit → Act → World → Prop} {md : Region.Mode} {S : World → Prop} {t : Nat}
/-- One of three comes up. -/
theorem wpTo_three {i j l : Nat} {oi oj ol : Oper} {n : Nat} {listed : Array Bool} {a : Act} {w : World} (hr : Region.ready md ops listed = [i, j, l]) (hi : ops[i]? = some oi) (hj : ops[j]? = some oj) (hl : ops[l]? = some ol)
    (h1 : ∀ K' : Act → World → Prop, Shut (∀ a w, S w → (S w → wpTo P md ops Q S t n (listed.setIfInBounds i true) a w) → K' a w) → if Region.wanted oi (yielded ops a.tmps) = true then Oper.wp P oi a w K' Q else K' (a.put oi.dst undef) w)
    (h2 : ∀ K' : Act → World → Prop, Shut (∀ a w, S w → (S w → wpTo P md ops Q S t n (listed.setIfInBounds j true) a w) → K' a w) → if Region.wanted oj (yielded ops a.tmps) = true then Oper.wp P oj a w K' Q else K' (a.put oj.dst undef) w)
    (h3 : ∀ K' : Act → World → Prop, Shut (∀ a w, S w → (S w → wpTo P md ops Q S t n (listed.setIfInBounds l true) a w) → K' a w) → if Region.wanted ol (yielded ops a.tmps) = true then Oper.wp P ol a w K' Q else K' (a.put ol.dst undef) w) :
    wpTo P md ops Q S t (n + 1) listed a w :=
  ⟨fun h0 => (by rw [hr] at h0; cases h0), fun k hk => by
    rw [hr] at hk
    rcases List.mem_cons.1 hk with rfl | hk
    · exact wpOp_step hi (fun K' hK => h1 K' (fun a w hS hW => hK a w ⟨.inr hS, hW hS⟩))
    · rcases List.mem_cons.1 hk with rfl | hk
      · exact wpOp_step hj (fun K' hK => h2 K' (fun a w hS hW => hK a w ⟨.inr hS, hW hS⟩))
      · obtain rfl := List.mem_singleton.1 hk
        exact wpOp_step hl (fun K' hK => h3 K' (fun a w hS hW => hK a w ⟨.inr hS, hW hS⟩))⟩
end
end Go.Und
namespace Go.Proofs.Ytfobeheplficgaa
open Go.RowKit Go.Und Go.Shelf
open Go.ChangeShapes Go.WideShapes Go.ChangeAt
attribute [local go_sem] Oper.semAt_some
attribute [local go_sem ↓] Go.wp_at_zero Go.wp_at_succ
/-- Take by the document, what stood before being kept. -/
def R3Keep (w : World) (first : Int) (room : Nat) (t : HT) (e : Ending) (w' : World) : Prop :=
  ∃ lq' lc' bq' bc', e = .returned (.tuple #[.agg (r3c first room lq' lc' t.l bq' bc' t.b), t.told, .int .i64 t.c]) ∧ Fr None w w' ∧ Reads w' 2 lq' t.l.length lc' (fc spc t.l) ∧ Reads w' 1 bq' t.b.length bc' (fc u8c t.b)
theorem r3take_keep (first num : Int) (n room : Nat) (lq : Option Addr) (lc : Nat) (l : List (Int × Int)) (bq : Option Addr) (bc : Nat) (b : List Int) (a : Option Addr) (cap : Nat) (body : List Int) (w : World) (ok : OkL l)
    (hlr : Reads w 2 lq l.length lc (fc spc l)) (hbr : Reads w 1 bq b.length bc (fc u8c b)) (hbd : 0 < body.length → Reads w 1 a body.length cap (fc u8c body)) (hl : l.length ≤ 4000) (hbl : b.length ≤ 100000000) (hn : gapL l 0 = n) (hn1 : n ≤ 50000000) (hroom : room ≤ 65536) (hu : u32B num) (hf : u32B first) :
    Calls Try.prog 47 #[.agg (r3c first room lq lc l bq bc b), .int .u32 num, .slice a body.length cap] w (R3Keep w first room (hT first num n room l b body)) := by
  rcases hT_cases first num n room l b body with ⟨o, h0, ho, h1, h2, h3, he⟩ | ⟨h0, he⟩
  · rw [he]
    refine (r3take_yes first num n room lq lc l bq bc b a cap body o w ok hlr hbr (hbd h1) hl hbl hn hn1 hroom hu hf ho h1 h2 h3).mono ?_
    rintro e w' ⟨lq', lc', bq', bc', rfl, T⟩
    exact ⟨lq', lc', bq', bc', rfl, T.fr, row_reads (T.at_ 0 rfl), brow_reads (T.at_ 1 rfl)⟩
  · rw [he]
    have key : ∀ c, codeH n room body.length (offH n first num) = c → Calls Try.prog 47 #[.agg (r3c first room lq lc l bq bc b), .int .u32 num, .slice a body.length cap] w (fun e w' => e = .returned (.tuple #[.agg (r3c first room lq lc l bq bc b), toldZ, .int .i64 c]) ∧ Fr None w w') := fun c hc => by
      by_cases g : 0 < body.length ∧ body.length ≤ 2048
      · refine r3take_off first num _ n room lq lc l bq bc b a body.length cap c w hlr (by omega) hn (by omega) hroom hu hf rfl g.1 g.2 ?_
        unfold codeH at hc h0
        rw [if_neg (by omega), if_neg (by omega)] at hc h0
        split at hc
        · rename_i h; exact .inl ⟨h, hc.symm⟩
        · split at hc
          · rename_i h h'; exact .inr ⟨by omega, h', hc.symm⟩
          · rename_i h h'; rw [if_neg h, if_neg h'] at h0; exact absurd rfl h0
      · refine r3take_short first num room lq lc l bq bc b a body.length cap c w ?_
        unfold codeH at hc
        by_cases g1 : body.length = 0
        · rw [if_pos g1] at hc; exact .inl ⟨g1, hc.symm⟩
        · rw [if_neg g1, if_pos (by omega)] at hc; exact .inr ⟨by omega, hc.symm⟩
    refine (key _ rfl).mono ?_
    rintro e w' ⟨rfl, F⟩
    exact ⟨lq, lc, bq, bc, rfl, F, hlr.fr F (fun _ _ h => h), hbr.fr F (fun _ _ h => h)⟩
theorem brow_at0 {w : World} {q : Option Addr} {c : Nat} {l : List Int} (h : (brow q c l).ok w) (h0 : 0 < l.length) : ∃ b, q = some ⟨b, 0, none⟩ := by
  rcases (show Owns u8c 1 U8T w (.slice q l.length c) l from h).2 with ⟨_, h⟩ | ⟨g, cap, cur, h, _⟩
  · omega
  · injection h with h1 h2 h3
    exact ⟨g, h1⟩
/-- The state of a play. -/
structure Pl (m : Nat) (first : Int) (n k : Nat) (s : List (Int × Int)) (b text ring : List Int) : Prop where
  hok : HOk m s b text ring
  sl : s.length ≤ k
  tl : text.length ≤ k * 65536
  kl : k ≤ 60
  kn : k ≤ n
  mm : m ≤ 65536
  fu : u32B first
set_option maxRecDepth 100000 in
set_option maxHeartbeats 16000000 in
theorem heardPlays_walk (w : World) (vf : Value) (uf : U) (hf : (Sh.int .u32).holds w uf [vf]) (vr : Value) (ur : U) (hr : (Sh.int .i64).holds w ur [vr]) (vl : Value) (ul : U) (hl : (Sh.slice shPiece).holds w ul [vl]) (co : Array Value) (uo : U) (ho : shPiece.holds w uo co.toList) :
    Calls Try.prog 11 #[vf, vr, vl, .agg co] w fun e w' => e = .returned (.bool true) ∧ Below w.heap.size w w' := by
  obtain ⟨first, _, hf, wf⟩ := hf
  simp only [List.cons.injEq, and_true] at hf
  subst hf
  obtain ⟨room, _, hr, wr⟩ := hr
  simp only [List.cons.injEq, and_true] at hr
  subst hr
  obtain ⟨oN, oa, oc, ol, hco, hox, hob⟩ := piece_of ho
  obtain rfl : co = #[.int .u32 oN, .slice oa ol.length oc] := Array.toList_inj.1 hco
  obtain ⟨p, n, lc, rfl, hlc, hlm, hat⟩ := pieces_of hl
  have hu := wf_u32 wf
  unfold maxLen at hlm
  clear ho hco hl wf wr
  by_cases c1 : room < 1 ∨ 65536 < room
  · clear hob hat
    generalize ol.length = oln at *
    have HS0 := Lib.hid ((Sep.law w).alloc #[.int .u32 oN, .slice oa oln oc] PcT)
    have HNo := Lib.hid (hnew_no first room c1)
    by_cases c2 : room < 1
    · clear c1
      go_enter Try.func11, Try.ntmps11
      go_wp2_with (first
        | ((with_reducible refine (known23_any (w.alloc _)).mono ?_); rintro y0 w0 ⟨rfl, F0⟩; have HS1 := Lib.hid (HS0.out.same F0); clear F0)
        | ((with_reducible refine (HNo.out w0).mono ?_); rintro e1 w1 ⟨rfl, rfl⟩)
        | ((with_reducible refine (known23_any _).mono ?_); rintro y2 w2 ⟨rfl, F2⟩; have HS2 := Lib.hid (HS1.out.same F2); clear F2)
        | fail)
      go_ret
      exact ⟨by simp, HS2.out.below⟩
    · have c3 : 65536 < room := by omega
      have c4 : 1 ≤ room := by omega
      clear c1 c2
      go_enter Try.func11, Try.ntmps11
      go_wp2_with (first
        | ((with_reducible refine (known23_any (w.alloc _)).mono ?_); rintro y0 w0 ⟨rfl, F0⟩; have HS1 := Lib.hid (HS0.out.same F0); clear F0)
        | ((with_reducible refine (HNo.out w0).mono ?_); rintro e1 w1 ⟨rfl, rfl⟩)
        | ((with_reducible refine (known23_any _).mono ?_); rintro y2 w2 ⟨rfl, F2⟩; have HS2 := Lib.hid (HS1.out.same F2); clear F2)
        | fail)
      go_ret
      exact ⟨by simp, HS2.out.below⟩
  have c2 : 1 ≤ room ∧ room ≤ 65536 := by omega
  clear c1
  obtain ⟨m, rfl⟩ := Int.eq_ofNat_of_zero_le (show 0 ≤ room by omega)
  obtain ⟨c2, c3⟩ := c2
  have HAT := Lib.hid hat
  have HOB := Lib.hid hob
  have HU := Lib.hid (And.intro hu hox)
  have HS0 := Lib.hid ((Sep.law w).alloc #[.int .u32 oN, .slice oa ol.length oc] PcT)
  clear hob hat hu hox
  go_enter Try.func11, Try.ntmps11
  go_wp2_with (first
    | ((with_reducible refine (known23_any (w.alloc _)).mono ?_); rintro y0 w0 ⟨rfl, F0⟩; have HS1 := Lib.hid (HS0.out.same F0); clear F0)
    | ((with_reducible refine (hnew_any first m (by omega) (by omega) w0).mono ?_); rintro e1 w1 ⟨hp, gp, rb, rfl, T1⟩; have HS2 := Lib.hid (HS1.out.beside T1); clear T1)
    | fail)
  have HS3 := Lib.hid (((HS2.out.add (brow none 0 []) (Fr.refl None _) (Owns.nil u8c 1 U8T _) (fun k hk => by cases hk)).add (srow none 0 []) (Fr.refl None _) (Owns.nil spc 2 SpT _) (fun k hk => by cases hk)).alloc (r3c first m none 0 [] none 0 []) R3T)
  clear HS0 HS1 HS2
  obtain ⟨N, hN⟩ : ∃ N, N = min n 60 := ⟨_, rfl⟩
  have hNl : N ≤ n ∧ N ≤ 60 := by omega
  have HNN := Lib.hid hN
  clear hN
  go_loopg [12, 13] N (fun r sv iv wr => ∃ (k : Nat) (q : Option Addr) (c : Nat) (s : List (Int × Int)) (tq : Option Addr) (tc : Nat) (text ring b : List Int) (lq : Option Addr) (lc' : Nat) (bq : Option Addr) (bc : Nat), k + r = N ∧ sv = .int .i64 (bytesL s) ∧ iv = .int .i64 (k : Int) ∧ Pl m first n k s b text ring ∧ Sep None w wr (hrd hp first gp q c s tq tc text (some ⟨rb, 0, none⟩) m ring ++ ([Ob.blk w.heap.size PcT #[.int .u32 oN, .slice oa ol.length oc], Ob.blk w1.heap.size R3T (r3c first m lq lc' s bq bc b)] ++ [srow lq lc' s, brow bq bc b])))
  case atStart => exact ⟨0, _, _, [], _, _, [], List.replicate m 0, [], _, _, _, _, by omega, rfl, rfl, ⟨hok_new (by omega) _ (by rw [List.length_replicate]), Nat.le_refl _, Nat.zero_le _, by omega, by omega, by omega, HU.out.1⟩, by have h := Sep.rot (A := [_, _, _]) (B := hrd hp first gp none 0 [] none 0 [] (some ⟨rb, 0, none⟩) m (List.replicate m 0)) (C := [_]) HS3.out; exact h⟩
  case round =>
    clear HS3
    obtain ⟨k, q, c, s, tq, tc, text, ring, b, lq, lc', bq, bc, hkn, rfl, rfl, hPl, S1⟩ := hrel
    have hb := bytes_bounds hPl.hok.ok
    have HP := Lib.hid hPl
    have HS1 := Lib.hid S1
    generalize hsum : bytesL s = sum at *
    have HSUM := Lib.hid hsum
    clear hPl S1 hsum
    by_cases g : k < N
    · have k1 : (k : Int) < n := by omega
      have k2 : (k : Int) < 60 := by omega
      have k0 : (0 : Int) ≤ k := by omega
      have k3 : k < n := by omega
      obtain ⟨num, a, cap, body, bb, oo, rfl, hnu, hbd, c1x, c2x⟩ := HAT.out k k3
      have d1 : wr.cell? ⟨bb, oo + k * 2, none⟩ = some (.int .u32 num) := cell_frN HS1.out.fr c1x
      have d2 : wr.cell? ⟨bb, oo + k * 2 + 1, none⟩ = some (.slice a body.length cap) := cell_frN HS1.out.fr c2x
      have HC := Lib.hid (And.intro c1x c2x)
      have HBD := Lib.hid (And.intro hnu hbd)
      clear c1x c2x hnu hbd
      have htl : text.length ≤ 3932160 := by have h1 := HP.out.tl; have h2 := HP.out.kl; exact Nat.le_trans h1 (Nat.le_trans (Nat.mul_le_mul_right _ h2) (by decide))
      have hsl : s.length ≤ 60 := by have := HP.out.sl; have := HP.out.kl; omega
      have hrl : ring.length = m := HP.out.hok.rl
      obtain ⟨t, ht⟩ : ∃ t, t = hT first num text.length m s b body := ⟨_, rfl⟩
      have HT := Lib.hid ht
      clear ht
      go_upto_region 13 with fail
      have HTK := Lib.hid (fun (W : World) (R : List Ob) (S : Sep None w W (hrd hp first gp q c s tq tc text (some ⟨rb, 0, none⟩) m ring ++ R)) => (show Calls Try.prog 42 #[.pointer (at0 hp), .int .u32 num, .slice a body.length cap] W (HTake None w R hp gp rb m m first t text.length) from by have h := htake_all (D := None) (w0 := w) (R := R) hp gp first num q c s tq tc text rb m ring b a cap body W S (fun V f h0 => (HBD.out.2 h0).fr (Sep.old S f) (fun _ _ h => h)) (by rw [hrl]; exact HP.out.hok) (by rw [hrl]; exact HP.out.mm) (by omega) (by omega); rw [hrl, ← HT.out] at h; exact h))
      have HR3 := Lib.hid (fun (W : World) (R : List Ob) (S : Sep None w W (srow lq lc' s :: brow bq bc b :: R)) => (show Calls Try.prog 47 #[.agg (r3c first m lq lc' s bq bc b), .int .u32 num, .slice a body.length cap] W (R3Take None w R first m t) from by have h := r3take_all (D := None) (w0 := w) (R := R) first num text.length m lq lc' s bq bc b a cap body W HP.out.hok.ok S (fun h0 => (HBD.out.2 h0).fr S.fr (fun _ _ h => h)) (by omega) (by have := HP.out.hok.bl; have := HP.out.mm; omega) HP.out.hok.nx (by omega) HP.out.mm HBD.out.1 HP.out.fu; rw [← HT.out] at h; exact h))
      go_cut [14, 15] from 65 to 79 (fun x y wx => ∃ (q' : Option Addr) (c' : Nat) (tq' : Option Addr) (tc' : Nat) (text' ring' : List Int) (B14 : Nat), x = .pointer (at0 B14) ∧ y = .int .i64 t.c ∧ HOk m t.l t.b text' ring' ∧ text'.length ≤ text.length + m ∧ Sep None w wx (hrd hp first gp q' c' t.l tq' tc' text' (some ⟨rb, 0, none⟩) m ring' ++ (([Ob.blk w.heap.size PcT #[.int .u32 oN, .slice oa ol.length oc], Ob.blk w1.heap.size R3T (r3c first m lq lc' s bq bc b)] ++ [srow lq lc' s, brow bq bc b]) ++ [Ob.blk B14 TdT #[.int .i64 t.o, .int .i64 t.e, .int .i64 t.f, .bool t.d, .int .i64 t.d1, .int .i64 t.d2]])))
      case first =>
        refine wp_region_to (S := fun w' => w'.cell? ⟨bb, oo + k * 2, none⟩ = some (.int .u32 num) ∧ w'.cell? ⟨bb, oo + k * 2 + 1, none⟩ = some (.slice a body.length cap)) 18 (by kernel_rfl) ⟨d1, d2⟩ (fun hHeld => ?_)
        have S2 := HS1.out.drew
        clear d1 d2 HR3
        generalize wr.drew = U at *
        refine wpTo_take (i := 0) (v := ?_) rfl (by kernel_rfl) (fun _ _ _ h => h) (Or.inl ⟨by rfl, ?_⟩) hHeld ?_
        rotate_left
        · (intro w' hSw; (try dsimp only at hSw); go_simp <;> with_reducible rfl)
        simp only [Act.put, List.setIfInBounds_toArray, List.set_cons_zero, List.set_cons_succ, List.getElem_toArray, List.getElem_cons_succ, List.getElem_cons_zero]
        refine wpTo_take (i := 1) (v := ?_) rfl (by kernel_rfl) (fun _ _ _ h => h) (Or.inl ⟨by rfl, ?_⟩) hHeld ?_
        rotate_left
        · (intro w' hSw; (try dsimp only at hSw); go_simp <;> with_reducible rfl)
        simp only [Act.put, List.setIfInBounds_toArray, List.set_cons_zero, List.set_cons_succ, List.getElem_toArray, List.getElem_cons_succ, List.getElem_cons_zero]
        refine wpTo_take (i := 2) (v := ?_) rfl (by kernel_rfl) (fun _ _ _ h => h) (Or.inl ⟨by rfl, ?_⟩) hHeld ?_
        rotate_left
        · (intro w' hSw; (try dsimp only at hSw); go_simp <;> with_reducible rfl)
        simp only [Act.put, List.setIfInBounds_toArray, List.set_cons_zero, List.set_cons_succ, List.getElem_toArray, List.getElem_cons_succ, List.getElem_cons_zero]
        refine wpTo_take (i := 3) (v := ?_) rfl (by kernel_rfl) (fun _ _ _ h => h) (Or.inl ⟨by rfl, ?_⟩) hHeld ?_
        rotate_left
        · (intro w' hSw; (try dsimp only at hSw); go_simp <;> with_reducible rfl)
        simp only [Act.put, List.setIfInBounds_toArray, List.set_cons_zero, List.set_cons_succ, List.getElem_toArray, List.getElem_cons_succ, List.getElem_cons_zero]
        refine wpTo_take (i := 4) (v := ?_) rfl (by kernel_rfl) (fun _ _ _ h => h) (Or.inl ⟨by rfl, ?_⟩) hHeld ?_
        rotate_left
        · (intro w' hSw; (try dsimp only at hSw); go_simp <;> with_reducible rfl)
        simp only [Act.put, List.setIfInBounds_toArray, List.set_cons_zero, List.set_cons_succ, List.getElem_toArray, List.getElem_cons_succ, List.getElem_cons_zero]
        refine wpTo_take (i := 5) (v := ?_) rfl (by kernel_rfl) (fun _ _ _ h => h) (Or.inl ⟨by rfl, ?_⟩) hHeld ?_
        rotate_left
        · (intro w' hSw; (try dsimp only at hSw); go_simp <;> with_reducible rfl)
        simp only [Act.put, List.setIfInBounds_toArray, List.set_cons_zero, List.set_cons_succ, List.getElem_toArray, List.getElem_cons_succ, List.getElem_cons_zero]
        refine wpTo_take (i := 6) (v := ?_) rfl (by kernel_rfl) (fun _ _ _ h => h) (Or.inl ⟨by rfl, ?_⟩) hHeld ?_
        rotate_left
        · (intro w' hSw; (try dsimp only at hSw); go_simp <;> with_reducible rfl)
        simp only [Act.put, List.setIfInBounds_toArray, List.set_cons_zero, List.set_cons_succ, List.getElem_toArray, List.getElem_cons_succ, List.getElem_cons_zero]
        refine wpTo_take (i := 7) (v := ?_) rfl (by kernel_rfl) (fun _ _ _ h => h) (Or.inl ⟨by rfl, ?_⟩) hHeld ?_
        rotate_left
        · (intro w' hSw; (try dsimp only at hSw); go_simp <;> with_reducible rfl)
        simp only [Act.put, List.setIfInBounds_toArray, List.set_cons_zero, List.set_cons_succ, List.getElem_toArray, List.getElem_cons_succ, List.getElem_cons_zero]
        refine wpTo_take (i := 8) (v := ?_) rfl (by kernel_rfl) (fun _ _ _ h => h) (Or.inl ⟨by rfl, ?_⟩) hHeld ?_
        rotate_left
        · (intro w' hSw; (try dsimp only at hSw); go_simp <;> with_reducible rfl)
        simp only [Act.put, List.setIfInBounds_toArray, List.set_cons_zero, List.set_cons_succ, List.getElem_toArray, List.getElem_cons_succ, List.getElem_cons_zero]
        refine wpTo_take (i := 9) (v := ?_) rfl (by kernel_rfl) (fun _ _ _ h => h) (Or.inl ⟨by rfl, ?_⟩) hHeld ?_
        rotate_left
        · (intro w' hSw; (try dsimp only at hSw); go_simp <;> with_reducible rfl)
        simp only [Act.put, List.setIfInBounds_toArray, List.set_cons_zero, List.set_cons_succ, List.getElem_toArray, List.getElem_cons_succ, List.getElem_cons_zero]
        refine wpTo_take (i := 10) (v := ?_) rfl (by kernel_rfl) (fun _ _ _ h => h) (Or.inl ⟨by rfl, ?_⟩) hHeld ?_
        rotate_left
        · (intro w' hSw; (try dsimp only at hSw); go_simp <;> with_reducible rfl)
        simp only [Act.put, List.setIfInBounds_toArray, List.set_cons_zero, List.set_cons_succ, List.getElem_toArray, List.getElem_cons_succ, List.getElem_cons_zero]
        refine wpTo_two (i := 11) (j := 15) (by kernel_rfl) rfl rfl (fun K hK => ?_) (fun K hK => ?_)
        · skip
          go_simp
          refine (HTK.out _ _ S2).mono ?_
          clear S2
          rintro e V ⟨q', c', tq', tc', text', ring', rfl, hok', hrl', htl', S2⟩
          refine hK.out _ _ ⟨cell_frN S2.fr HC.out.1, cell_frN S2.fr HC.out.2⟩ (fun hHeld => ?_)
          clear hK K
          try simp only [Act.put, List.setIfInBounds_toArray, List.set_cons_zero, List.set_cons_succ, List.getElem_toArray, List.getElem_cons_succ, List.getElem_cons_zero]
          refine wpTo_take (i := 12) (v := ?_) rfl (by kernel_rfl) (fun _ _ _ h => h) (Or.inl ⟨by rfl, ?_⟩) hHeld ?_
          rotate_left
          · (intro w' hSw; (try dsimp only at hSw); go_simp <;> with_reducible rfl)
          simp only [Act.put, List.setIfInBounds_toArray, List.set_cons_zero, List.set_cons_succ, List.getElem_toArray, List.getElem_cons_succ, List.getElem_cons_zero]
          refine wpTo_take (i := 13) (v := ?_) rfl (by kernel_rfl) (fun _ _ _ h => h) (Or.inl ⟨by rfl, ?_⟩) hHeld ?_
          rotate_left
          · (intro w' hSw; (try dsimp only at hSw); go_simp <;> with_reducible rfl)
          simp only [Act.put, List.setIfInBounds_toArray, List.set_cons_zero, List.set_cons_succ, List.getElem_toArray, List.getElem_cons_succ, List.getElem_cons_zero]
          refine wpTo_take (i := 14) (v := ?_) rfl (by kernel_rfl) (fun _ _ _ h => h) (Or.inl ⟨by rfl, ?_⟩) hHeld ?_
          rotate_left
          · (intro w' hSw; (try dsimp only at hSw); go_simp <;> with_reducible rfl)
          simp only [Act.put, List.setIfInBounds_toArray, List.set_cons_zero, List.set_cons_succ, List.getElem_toArray, List.getElem_cons_succ, List.getElem_cons_zero]
          refine wpTo_mid (i := 15) (by kernel_rfl) rfl (fun K hK => ?_)
          go_simp
          replace S2 := S2.alloc #[.int .i64 0, .int .i64 0, .int .i64 0, .bool false, .int .i64 0, .int .i64 0] TdT
          refine hK.out _ _ ⟨cell_frN ((Fr.refl None _).alloc _) hHeld.1, cell_frN ((Fr.refl None _).alloc _) hHeld.2⟩ (fun hHeld => ?_)
          clear hK K
          try simp only [Act.put, List.setIfInBounds_toArray, List.set_cons_zero, List.set_cons_succ, List.getElem_toArray, List.getElem_cons_succ, List.getElem_cons_zero]
          generalize V.heap.size = B14 at *
          generalize V.alloc (.cells #[.int .i64 0, .int .i64 0, .int .i64 0, .bool false, .int .i64 0, .int .i64 0] 68) = X at *
          replace S2 := Sep.rot1 S2
          have a0 := (show World.cell? _ ⟨_, 0, none⟩ = some (.int .i64 0) from (S2.at_ 9 rfl).cell 0)
          have z0 := (show World.frozen? _ ⟨_, 0, none⟩ = false from (S2.at_ 9 rfl).frozen 0)
          have a1 := (show World.cell? _ ⟨_, 1, none⟩ = some (.int .i64 0) from (S2.at_ 9 rfl).cell 1)
          have z1 := (show World.frozen? _ ⟨_, 1, none⟩ = false from (S2.at_ 9 rfl).frozen 1)
          have a2 := (show World.cell? _ ⟨_, 2, none⟩ = some (.int .i64 0) from (S2.at_ 9 rfl).cell 2)
          have z2 := (show World.frozen? _ ⟨_, 2, none⟩ = false from (S2.at_ 9 rfl).frozen 2)
          have a3 := (show World.cell? _ ⟨_, 3, none⟩ = some (.bool false) from (S2.at_ 9 rfl).cell 3)
          have z3 := (show World.frozen? _ ⟨_, 3, none⟩ = false from (S2.at_ 9 rfl).frozen 3)
          have a4 := (show World.cell? _ ⟨_, 4, none⟩ = some (.int .i64 0) from (S2.at_ 9 rfl).cell 4)
          have z4 := (show World.frozen? _ ⟨_, 4, none⟩ = false from (S2.at_ 9 rfl).frozen 4)
          have a5 := (show World.cell? _ ⟨_, 5, none⟩ = some (.int .i64 0) from (S2.at_ 9 rfl).cell 5)
          have z5 := (show World.frozen? _ ⟨_, 5, none⟩ = false from (S2.at_ 9 rfl).frozen 5)
          replace S2 := ((((((S2.set 9 rfl 0 (.int .i64 t.o)).set 9 rfl 1 (.int .i64 t.e)).set 9 rfl 2 (.int .i64 t.f)).set 9 rfl 3 (.bool t.d)).set 9 rfl 4 (.int .i64 t.d1)).set 9 rfl 5 (.int .i64 t.d2))
          refine wpTo_mid (i := 16) (by kernel_rfl) rfl (fun K hK => ?_)
          go_simp
          refine hK.out _ _ ⟨cell_frN S2.fr HC.out.1, cell_frN S2.fr HC.out.2⟩ (fun hHeld => ?_)
          clear a0 z0 a1 z1 a2 z2 a3 z3 a4 z4 a5 z5
          clear hK K
          try simp only [Act.put, List.setIfInBounds_toArray, List.set_cons_zero, List.set_cons_succ, List.getElem_toArray, List.getElem_cons_succ, List.getElem_cons_zero]
          refine wpTo_take (i := 17) (v := ?_) rfl (by kernel_rfl) (fun _ _ _ h => h) (Or.inl ⟨by rfl, ?_⟩) hHeld ?_
          rotate_left
          · (intro w' hSw; (try dsimp only at hSw); go_simp <;> with_reducible rfl)
          simp only [Act.put, List.setIfInBounds_toArray, List.set_cons_zero, List.set_cons_succ, List.getElem_toArray, List.getElem_cons_succ, List.getElem_cons_zero]
          refine wpTo_done (by kernel_rfl) ?_ _
          go_wp2_with fail
          go_meet
          exact ⟨_, _, _, _, _, _, _, rfl, rfl, hok', htl', S2⟩
        · skip
          go_simp
          replace S2 := S2.alloc #[.int .i64 0, .int .i64 0, .int .i64 0, .bool false, .int .i64 0, .int .i64 0] TdT
          refine hK.out _ _ ⟨cell_frN ((Fr.refl None _).alloc _) hHeld.1, cell_frN ((Fr.refl None _).alloc _) hHeld.2⟩ (fun hHeld => ?_)
          clear hK K
          try simp only [Act.put, List.setIfInBounds_toArray, List.set_cons_zero, List.set_cons_succ, List.getElem_toArray, List.getElem_cons_succ, List.getElem_cons_zero]
          generalize U.heap.size = B14 at *
          generalize U.alloc (.cells #[.int .i64 0, .int .i64 0, .int .i64 0, .bool false, .int .i64 0, .int .i64 0] 68) = X at *
          replace S2 := Sep.rot1 S2
          refine wpTo_mid (i := 11) (by kernel_rfl) rfl (fun K hK => ?_)
          go_simp
          refine (HTK.out _ _ S2).mono ?_
          clear S2
          rintro e V ⟨q', c', tq', tc', text', ring', rfl, hok', hrl', htl', S2⟩
          refine hK.out _ _ ⟨cell_frN S2.fr HC.out.1, cell_frN S2.fr HC.out.2⟩ (fun hHeld => ?_)
          clear hK K
          try simp only [Act.put, List.setIfInBounds_toArray, List.set_cons_zero, List.set_cons_succ, List.getElem_toArray, List.getElem_cons_succ, List.getElem_cons_zero]
          refine wpTo_take (i := 12) (v := ?_) rfl (by kernel_rfl) (fun _ _ _ h => h) (Or.inl ⟨by rfl, ?_⟩) hHeld ?_
          rotate_left
          · (intro w' hSw; (try dsimp only at hSw); go_simp <;> with_reducible rfl)
          simp only [Act.put, List.setIfInBounds_toArray, List.set_cons_zero, List.set_cons_succ, List.getElem_toArray, List.getElem_cons_succ, List.getElem_cons_zero]
          refine wpTo_take (i := 13) (v := ?_) rfl (by kernel_rfl) (fun _ _ _ h => h) (Or.inl ⟨by rfl, ?_⟩) hHeld ?_
          rotate_left
          · (intro w' hSw; (try dsimp only at hSw); go_simp <;> with_reducible rfl)
          simp only [Act.put, List.setIfInBounds_toArray, List.set_cons_zero, List.set_cons_succ, List.getElem_toArray, List.getElem_cons_succ, List.getElem_cons_zero]
          refine wpTo_take (i := 14) (v := ?_) rfl (by kernel_rfl) (fun _ _ _ h => h) (Or.inl ⟨by rfl, ?_⟩) hHeld ?_
          rotate_left
          · (intro w' hSw; (try dsimp only at hSw); go_simp <;> with_reducible rfl)
          simp only [Act.put, List.setIfInBounds_toArray, List.set_cons_zero, List.set_cons_succ, List.getElem_toArray, List.getElem_cons_succ, List.getElem_cons_zero]
          have a0 := (show World.cell? _ ⟨_, 0, none⟩ = some (.int .i64 0) from (S2.at_ 9 rfl).cell 0)
          have z0 := (show World.frozen? _ ⟨_, 0, none⟩ = false from (S2.at_ 9 rfl).frozen 0)
          have a1 := (show World.cell? _ ⟨_, 1, none⟩ = some (.int .i64 0) from (S2.at_ 9 rfl).cell 1)
          have z1 := (show World.frozen? _ ⟨_, 1, none⟩ = false from (S2.at_ 9 rfl).frozen 1)
          have a2 := (show World.cell? _ ⟨_, 2, none⟩ = some (.int .i64 0) from (S2.at_ 9 rfl).cell 2)
          have z2 := (show World.frozen? _ ⟨_, 2, none⟩ = false from (S2.at_ 9 rfl).frozen 2)
          have a3 := (show World.cell? _ ⟨_, 3, none⟩ = some (.bool false) from (S2.at_ 9 rfl).cell 3)
          have z3 := (show World.frozen? _ ⟨_, 3, none⟩ = false from (S2.at_ 9 rfl).frozen 3)
          have a4 := (show World.cell? _ ⟨_, 4, none⟩ = some (.int .i64 0) from (S2.at_ 9 rfl).cell 4)
          have z4 := (show World.frozen? _ ⟨_, 4, none⟩ = false from (S2.at_ 9 rfl).frozen 4)
          have a5 := (show World.cell? _ ⟨_, 5, none⟩ = some (.int .i64 0) from (S2.at_ 9 rfl).cell 5)
          have z5 := (show World.frozen? _ ⟨_, 5, none⟩ = false from (S2.at_ 9 rfl).frozen 5)
          replace S2 := ((((((S2.set 9 rfl 0 (.int .i64 t.o)).set 9 rfl 1 (.int .i64 t.e)).set 9 rfl 2 (.int .i64 t.f)).set 9 rfl 3 (.bool t.d)).set 9 rfl 4 (.int .i64 t.d1)).set 9 rfl 5 (.int .i64 t.d2))
          refine wpTo_mid (i := 16) (by kernel_rfl) rfl (fun K hK => ?_)
          go_simp
          refine hK.out _ _ ⟨cell_frN S2.fr HC.out.1, cell_frN S2.fr HC.out.2⟩ (fun hHeld => ?_)
          clear a0 z0 a1 z1 a2 z2 a3 z3 a4 z4 a5 z5
          clear hK K
          try simp only [Act.put, List.setIfInBounds_toArray, List.set_cons_zero, List.set_cons_succ, List.getElem_toArray, List.getElem_cons_succ, List.getElem_cons_zero]
          refine wpTo_take (i := 17) (v := ?_) rfl (by kernel_rfl) (fun _ _ _ h => h) (Or.inl ⟨by rfl, ?_⟩) hHeld ?_
          rotate_left
          · (intro w' hSw; (try dsimp only at hSw); go_simp <;> with_reducible rfl)
          simp only [Act.put, List.setIfInBounds_toArray, List.set_cons_zero, List.set_cons_succ, List.getElem_toArray, List.getElem_cons_succ, List.getElem_cons_zero]
          refine wpTo_done (by kernel_rfl) ?_ _
          go_wp2_with fail
          go_meet
          exact ⟨_, _, _, _, _, _, _, rfl, rfl, hok', htl', S2⟩
      case rest =>
        obtain ⟨q', c', tq', tc', text', ring', B14, rfl, rfl, hok', htl', S1⟩ := hcut
        have HS2 : Sep None w wc (srow lq lc' s :: brow bq bc b :: (Ob.blk B14 TdT #[.int .i64 t.o, .int .i64 t.e, .int .i64 t.f, .bool t.d, .int .i64 t.d1, .int .i64 t.d2] :: (hrd hp first gp q' c' t.l tq' tc' text' (some ⟨rb, 0, none⟩) m ring' ++ [Ob.blk w.heap.size PcT #[.int .u32 oN, .slice oa ol.length oc], Ob.blk w1.heap.size R3T (r3c first m lq lc' s bq bc b)]))) := Sep.rot (B := [_, _, _]) (Sep.rot (B := [Ob.blk w.heap.size PcT #[.int .u32 oN, .slice oa ol.length oc], Ob.blk w1.heap.size R3T (r3c first m lq lc' s bq bc b)]) S1)
        replace HS2 := Lib.hid HS2
        clear S1 d1 d2 HTK HS1
        generalize wc = W0 at *
        go_upto_region 14 with fail
        go_cut [16, 17, 18] from 80 to 95 (fun x y z wx => ∃ (lq2 : Option Addr) (lc2 : Nat) (bq2 : Option Addr) (bc2 B16 B17 : Nat), x = .pointer (at0 B16) ∧ y = .pointer (at0 B17) ∧ z = .int .i64 t.c ∧ Sep None w wx (srow lq2 lc2 t.l :: brow bq2 bc2 t.b :: ((Ob.blk B14 TdT #[.int .i64 t.o, .int .i64 t.e, .int .i64 t.f, .bool t.d, .int .i64 t.d1, .int .i64 t.d2] :: (hrd hp first gp q' c' t.l tq' tc' text' (some ⟨rb, 0, none⟩) m ring' ++ [Ob.blk w.heap.size PcT #[.int .u32 oN, .slice oa ol.length oc], Ob.blk w1.heap.size R3T (r3c first m lq lc' s bq bc b)])) ++ [Ob.blk B16 R3T (r3c first m lq2 lc2 t.l bq2 bc2 t.b), Ob.blk B17 Q3T #[.int .i64 t.o, .int .i64 t.e, .int .i64 t.f, .bool t.d, .int .i64 t.d1, .int .i64 t.d2]])))
        case first =>
          have S2 := HS2.out.drew
          clear HS2
          refine wp_region_to (S := fun w' => (w'.cell? ⟨w1.heap.size, 0, none⟩ = some (.int .u32 first) ∧ w'.cell? ⟨w1.heap.size, 1, none⟩ = some (.int .i64 m) ∧ w'.cell? ⟨w1.heap.size, 2, none⟩ = some (.slice lq s.length lc') ∧ w'.cell? ⟨w1.heap.size, 3, none⟩ = some (.slice bq b.length bc)) ∧ w'.cell? ⟨bb, oo + k * 2, none⟩ = some (.int .u32 num) ∧ w'.cell? ⟨bb, oo + k * 2 + 1, none⟩ = some (.slice a body.length cap)) 21 (by kernel_rfl) ⟨⟨(S2.at_ 9 rfl).cell 0, (S2.at_ 9 rfl).cell 1, (S2.at_ 9 rfl).cell 2, (S2.at_ 9 rfl).cell 3⟩, cell_frN S2.fr HC.out.1, cell_frN S2.fr HC.out.2⟩ (fun hHeld => ?_)
          generalize W0.drew = U at *
          refine wpTo_take (i := 0) (v := ?_) rfl (by kernel_rfl) (fun _ _ _ h => h) (Or.inl ⟨by rfl, ?_⟩) hHeld ?_
          rotate_left
          · (intro w' hSw; (try dsimp only at hSw); go_simp <;> with_reducible rfl)
          simp only [Act.put, List.setIfInBounds_toArray, List.set_cons_zero, List.set_cons_succ, List.getElem_toArray, List.getElem_cons_succ, List.getElem_cons_zero]
          refine wpTo_take (i := 1) (v := ?_) rfl (by kernel_rfl) (fun _ _ _ h => h) (Or.inl ⟨by rfl, ?_⟩) hHeld ?_
          rotate_left
          · (intro w' hSw; (try dsimp only at hSw); go_simp <;> with_reducible rfl)
          simp only [Act.put, List.setIfInBounds_toArray, List.set_cons_zero, List.set_cons_succ, List.getElem_toArray, List.getElem_cons_succ, List.getElem_cons_zero]
          refine wpTo_take (i := 2) (v := ?_) rfl (by kernel_rfl) (fun _ _ _ h => h) (Or.inl ⟨by rfl, ?_⟩) hHeld ?_
          rotate_left
          · (intro w' hSw; (try dsimp only at hSw); go_simp <;> with_reducible rfl)
          simp only [Act.put, List.setIfInBounds_toArray, List.set_cons_zero, List.set_cons_succ, List.getElem_toArray, List.getElem_cons_succ, List.getElem_cons_zero]
          refine wpTo_take (i := 3) (v := ?_) rfl (by kernel_rfl) (fun _ _ _ h => h) (Or.inl ⟨by rfl, ?_⟩) hHeld ?_
          rotate_left
          · (intro w' hSw; (try dsimp only at hSw); go_simp <;> with_reducible rfl)
          simp only [Act.put, List.setIfInBounds_toArray, List.set_cons_zero, List.set_cons_succ, List.getElem_toArray, List.getElem_cons_succ, List.getElem_cons_zero]
          refine wpTo_take (i := 4) (v := ?_) rfl (by kernel_rfl) (fun _ _ _ h => h) (Or.inl ⟨by rfl, ?_⟩) hHeld ?_
          rotate_left
          · (intro w' hSw; (try dsimp only at hSw); go_simp <;> with_reducible rfl)
          simp only [Act.put, List.setIfInBounds_toArray, List.set_cons_zero, List.set_cons_succ, List.getElem_toArray, List.getElem_cons_succ, List.getElem_cons_zero]
          refine wpTo_take (i := 5) (v := ?_) rfl (by kernel_rfl) (fun _ _ _ h => h) (Or.inl ⟨by rfl, ?_⟩) hHeld ?_
          rotate_left
          · (intro w' hSw; (try dsimp only at hSw); go_simp <;> with_reducible rfl)
          simp only [Act.put, List.setIfInBounds_toArray, List.set_cons_zero, List.set_cons_succ, List.getElem_toArray, List.getElem_cons_succ, List.getElem_cons_zero]
          refine wpTo_take (i := 6) (v := ?_) rfl (by kernel_rfl) (fun _ _ _ h => h) (Or.inl ⟨by rfl, ?_⟩) hHeld ?_
          rotate_left
          · (intro w' hSw; (try dsimp only at hSw); go_simp <;> with_reducible rfl)
          simp only [Act.put, List.setIfInBounds_toArray, List.set_cons_zero, List.set_cons_succ, List.getElem_toArray, List.getElem_cons_succ, List.getElem_cons_zero]
          refine wpTo_take (i := 7) (v := ?_) rfl (by kernel_rfl) (fun _ _ _ h => h) (Or.inl ⟨by rfl, ?_⟩) hHeld ?_
          rotate_left
          · (intro w' hSw; (try dsimp only at hSw); go_simp <;> with_reducible rfl)
          simp only [Act.put, List.setIfInBounds_toArray, List.set_cons_zero, List.set_cons_succ, List.getElem_toArray, List.getElem_cons_succ, List.getElem_cons_zero]
          refine wpTo_take (i := 8) (v := ?_) rfl (by kernel_rfl) (fun _ _ _ h => h) (Or.inl ⟨by rfl, ?_⟩) hHeld ?_
          rotate_left
          · (intro w' hSw; (try dsimp only at hSw); go_simp <;> with_reducible rfl)
          simp only [Act.put, List.setIfInBounds_toArray, List.set_cons_zero, List.set_cons_succ, List.getElem_toArray, List.getElem_cons_succ, List.getElem_cons_zero]
          refine wpTo_take (i := 9) (v := ?_) rfl (by kernel_rfl) (fun _ _ _ h => h) (Or.inl ⟨by rfl, ?_⟩) hHeld ?_
          rotate_left
          · (intro w' hSw; (try dsimp only at hSw); go_simp <;> with_reducible rfl)
          simp only [Act.put, List.setIfInBounds_toArray, List.set_cons_zero, List.set_cons_succ, List.getElem_toArray, List.getElem_cons_succ, List.getElem_cons_zero]
          refine wpTo_take (i := 10) (v := ?_) rfl (by kernel_rfl) (fun _ _ _ h => h) (Or.inl ⟨by rfl, ?_⟩) hHeld ?_
          rotate_left
          · (intro w' hSw; (try dsimp only at hSw); go_simp <;> with_reducible rfl)
          simp only [Act.put, List.setIfInBounds_toArray, List.set_cons_zero, List.set_cons_succ, List.getElem_toArray, List.getElem_cons_succ, List.getElem_cons_zero]
          refine wpTo_three (i := 11) (j := 16) (l := 17) (by kernel_rfl) rfl rfl rfl (fun K hK => ?_) (fun K hK => ?_) (fun K hK => ?_)
          · skip
            go_simp
            refine (HR3.out _ _ S2).mono ?_
            clear S2
            rintro e V ⟨lq2, lc2, bq2, bc2, rfl, S2⟩
            refine hK.out _ _ ⟨⟨(S2.at_ 9 rfl).cell 0, (S2.at_ 9 rfl).cell 1, (S2.at_ 9 rfl).cell 2, (S2.at_ 9 rfl).cell 3⟩, cell_frN S2.fr HC.out.1, cell_frN S2.fr HC.out.2⟩ (fun hHeld => ?_)
            clear hK K
            try simp only [Act.put, List.setIfInBounds_toArray, List.set_cons_zero, List.set_cons_succ, List.getElem_toArray, List.getElem_cons_succ, List.getElem_cons_zero]
            refine wpTo_take (i := 12) (v := ?_) rfl (by kernel_rfl) (fun _ _ _ h => h) (Or.inl ⟨by rfl, ?_⟩) hHeld ?_
            rotate_left
            · (intro w' hSw; (try dsimp only at hSw); go_simp <;> with_reducible rfl)
            simp only [Act.put, List.setIfInBounds_toArray, List.set_cons_zero, List.set_cons_succ, List.getElem_toArray, List.getElem_cons_succ, List.getElem_cons_zero]
            refine wpTo_take (i := 13) (v := ?_) rfl (by kernel_rfl) (fun _ _ _ h => h) (Or.inl ⟨by rfl, ?_⟩) hHeld ?_
            rotate_left
            · (intro w' hSw; (try dsimp only at hSw); go_simp <;> with_reducible rfl)
            simp only [Act.put, List.setIfInBounds_toArray, List.set_cons_zero, List.set_cons_succ, List.getElem_toArray, List.getElem_cons_succ, List.getElem_cons_zero]
            refine wpTo_take (i := 14) (v := ?_) rfl (by kernel_rfl) (fun _ _ _ h => h) (Or.inl ⟨by rfl, ?_⟩) hHeld ?_
            rotate_left
            · (intro w' hSw; (try dsimp only at hSw); go_simp <;> with_reducible rfl)
            simp only [Act.put, List.setIfInBounds_toArray, List.set_cons_zero, List.set_cons_succ, List.getElem_toArray, List.getElem_cons_succ, List.getElem_cons_zero]
            refine wpTo_take (i := 15) (v := ?_) rfl (by kernel_rfl) (fun _ _ _ h => h) (Or.inl ⟨by rfl, ?_⟩) hHeld ?_
            rotate_left
            · (intro w' hSw; (try dsimp only at hSw); go_simp <;> with_reducible rfl)
            simp only [Act.put, List.setIfInBounds_toArray, List.set_cons_zero, List.set_cons_succ, List.getElem_toArray, List.getElem_cons_succ, List.getElem_cons_zero]
            refine wpTo_two (i := 16) (j := 17) (by kernel_rfl) rfl rfl (fun K hK => ?_) (fun K hK => ?_)
            · skip
              go_simp
              replace S2 := S2.alloc #[.int .u32 0, .int .i64 0, .slice none 0 0, .slice none 0 0] R3T
              refine hK.out _ _ ⟨⟨cell_frN ((Fr.refl None _).alloc _) hHeld.1.1, cell_frN ((Fr.refl None _).alloc _) hHeld.1.2.1, cell_frN ((Fr.refl None _).alloc _) hHeld.1.2.2.1, cell_frN ((Fr.refl None _).alloc _) hHeld.1.2.2.2⟩, cell_frN ((Fr.refl None _).alloc _) hHeld.2.1, cell_frN ((Fr.refl None _).alloc _) hHeld.2.2⟩ (fun hHeld => ?_)
              clear hK K
              try simp only [Act.put, List.setIfInBounds_toArray, List.set_cons_zero, List.set_cons_succ, List.getElem_toArray, List.getElem_cons_succ, List.getElem_cons_zero]
              generalize V.heap.size = B16 at *
              generalize V.alloc (.cells #[.int .u32 0, .int .i64 0, .slice none 0 0, .slice none 0 0] 83) = X1 at *
              refine wpTo_mid (i := 17) (by kernel_rfl) rfl (fun K hK => ?_)
              go_simp
              replace S2 := S2.alloc #[.int .i64 0, .int .i64 0, .int .i64 0, .bool false, .int .i64 0, .int .i64 0] Q3T
              refine hK.out _ _ ⟨⟨cell_frN ((Fr.refl None _).alloc _) hHeld.1.1, cell_frN ((Fr.refl None _).alloc _) hHeld.1.2.1, cell_frN ((Fr.refl None _).alloc _) hHeld.1.2.2.1, cell_frN ((Fr.refl None _).alloc _) hHeld.1.2.2.2⟩, cell_frN ((Fr.refl None _).alloc _) hHeld.2.1, cell_frN ((Fr.refl None _).alloc _) hHeld.2.2⟩ (fun hHeld => ?_)
              clear hK K
              try simp only [Act.put, List.setIfInBounds_toArray, List.set_cons_zero, List.set_cons_succ, List.getElem_toArray, List.getElem_cons_succ, List.getElem_cons_zero]
              generalize X1.heap.size = B17 at *
              generalize X1.alloc (.cells #[.int .i64 0, .int .i64 0, .int .i64 0, .bool false, .int .i64 0, .int .i64 0] 84) = X2 at *
              replace S2 := S2.front 1 rfl
              replace S2 := Sep.rotV S2
              have a0 := (show World.cell? _ ⟨_, 0, none⟩ = some (.int .u32 0) from (S2.at_ 10 rfl).cell 0)
              have z0 := (show World.frozen? _ ⟨_, 0, none⟩ = false from (S2.at_ 10 rfl).frozen 0)
              have a1 := (show World.cell? _ ⟨_, 1, none⟩ = some (.int .i64 0) from (S2.at_ 10 rfl).cell 1)
              have z1 := (show World.frozen? _ ⟨_, 1, none⟩ = false from (S2.at_ 10 rfl).frozen 1)
              have a2 := (show World.cell? _ ⟨_, 2, none⟩ = some (.slice none 0 0) from (S2.at_ 10 rfl).cell 2)
              have z2 := (show World.frozen? _ ⟨_, 2, none⟩ = false from (S2.at_ 10 rfl).frozen 2)
              have a3 := (show World.cell? _ ⟨_, 3, none⟩ = some (.slice none 0 0) from (S2.at_ 10 rfl).cell 3)
              have z3 := (show World.frozen? _ ⟨_, 3, none⟩ = false from (S2.at_ 10 rfl).frozen 3)
              replace S2 := ((((S2.set 10 rfl 0 (.int .u32 first)).set 10 rfl 1 (.int .i64 m)).set 10 rfl 2 (.slice lq2 t.l.length lc2)).set 10 rfl 3 (.slice bq2 t.b.length bc2))
              refine wpTo_mid (i := 18) (by kernel_rfl) rfl (fun K hK => ?_)
              go_simp
              refine hK.out _ _ ⟨⟨(S2.at_ 9 rfl).cell 0, (S2.at_ 9 rfl).cell 1, (S2.at_ 9 rfl).cell 2, (S2.at_ 9 rfl).cell 3⟩, cell_frN S2.fr HC.out.1, cell_frN S2.fr HC.out.2⟩ (fun hHeld => ?_)
              clear a0 z0 a1 z1 a2 z2 a3 z3
              clear hK K
              try simp only [Act.put, List.setIfInBounds_toArray, List.set_cons_zero, List.set_cons_succ, List.getElem_toArray, List.getElem_cons_succ, List.getElem_cons_zero]
              have a0 := (show World.cell? _ ⟨_, 0, none⟩ = some (.int .i64 0) from (S2.at_ 11 rfl).cell 0)
              have z0 := (show World.frozen? _ ⟨_, 0, none⟩ = false from (S2.at_ 11 rfl).frozen 0)
              have a1 := (show World.cell? _ ⟨_, 1, none⟩ = some (.int .i64 0) from (S2.at_ 11 rfl).cell 1)
              have z1 := (show World.frozen? _ ⟨_, 1, none⟩ = false from (S2.at_ 11 rfl).frozen 1)
              have a2 := (show World.cell? _ ⟨_, 2, none⟩ = some (.int .i64 0) from (S2.at_ 11 rfl).cell 2)
              have z2 := (show World.frozen? _ ⟨_, 2, none⟩ = false from (S2.at_ 11 rfl).frozen 2)
              have a3 := (show World.cell? _ ⟨_, 3, none⟩ = some (.bool false) from (S2.at_ 11 rfl).cell 3)
              have z3 := (show World.frozen? _ ⟨_, 3, none⟩ = false from (S2.at_ 11 rfl).frozen 3)
              have a4 := (show World.cell? _ ⟨_, 4, none⟩ = some (.int .i64 0) from (S2.at_ 11 rfl).cell 4)
              have z4 := (show World.frozen? _ ⟨_, 4, none⟩ = false from (S2.at_ 11 rfl).frozen 4)
              have a5 := (show World.cell? _ ⟨_, 5, none⟩ = some (.int .i64 0) from (S2.at_ 11 rfl).cell 5)
              have z5 := (show World.frozen? _ ⟨_, 5, none⟩ = false from (S2.at_ 11 rfl).frozen 5)
              replace S2 := ((((((S2.set 11 rfl 0 (.int .i64 t.o)).set 11 rfl 1 (.int .i64 t.e)).set 11 rfl 2 (.int .i64 t.f)).set 11 rfl 3 (.bool t.d)).set 11 rfl 4 (.int .i64 t.d1)).set 11 rfl 5 (.int .i64 t.d2))
              refine wpTo_mid (i := 19) (by kernel_rfl) rfl (fun K hK => ?_)
              go_simp
              refine hK.out _ _ ⟨⟨(S2.at_ 9 rfl).cell 0, (S2.at_ 9 rfl).cell 1, (S2.at_ 9 rfl).cell 2, (S2.at_ 9 rfl).cell 3⟩, cell_frN S2.fr HC.out.1, cell_frN S2.fr HC.out.2⟩ (fun hHeld => ?_)
              clear a0 z0 a1 z1 a2 z2 a3 z3 a4 z4 a5 z5
              clear hK K
              try simp only [Act.put, List.setIfInBounds_toArray, List.set_cons_zero, List.set_cons_succ, List.getElem_toArray, List.getElem_cons_succ, List.getElem_cons_zero]
              refine wpTo_take (i := 20) (v := ?_) rfl (by kernel_rfl) (fun _ _ _ h => h) (Or.inl ⟨by rfl, ?_⟩) hHeld ?_
              rotate_left
              · (intro w' hSw; (try dsimp only at hSw); go_simp <;> with_reducible rfl)
              simp only [Act.put, List.setIfInBounds_toArray, List.set_cons_zero, List.set_cons_succ, List.getElem_toArray, List.getElem_cons_succ, List.getElem_cons_zero]
              refine wpTo_done (by kernel_rfl) ?_ _
              go_wp2_with fail
              go_meet
              exact ⟨_, _, _, _, _, _, rfl, rfl, rfl, S2⟩
            · skip
              go_simp
              replace S2 := S2.alloc #[.int .i64 0, .int .i64 0, .int .i64 0, .bool false, .int .i64 0, .int .i64 0] Q3T
              refine hK.out _ _ ⟨⟨cell_frN ((Fr.refl None _).alloc _) hHeld.1.1, cell_frN ((Fr.refl None _).alloc _) hHeld.1.2.1, cell_frN ((Fr.refl None _).alloc _) hHeld.1.2.2.1, cell_frN ((Fr.refl None _).alloc _) hHeld.1.2.2.2⟩, cell_frN ((Fr.refl None _).alloc _) hHeld.2.1, cell_frN ((Fr.refl None _).alloc _) hHeld.2.2⟩ (fun hHeld => ?_)
              clear hK K
              try simp only [Act.put, List.setIfInBounds_toArray, List.set_cons_zero, List.set_cons_succ, List.getElem_toArray, List.getElem_cons_succ, List.getElem_cons_zero]
              generalize V.heap.size = B17 at *
              generalize V.alloc (.cells #[.int .i64 0, .int .i64 0, .int .i64 0, .bool false, .int .i64 0, .int .i64 0] 84) = X1 at *
              refine wpTo_mid (i := 16) (by kernel_rfl) rfl (fun K hK => ?_)
              go_simp
              replace S2 := S2.alloc #[.int .u32 0, .int .i64 0, .slice none 0 0, .slice none 0 0] R3T
              refine hK.out _ _ ⟨⟨cell_frN ((Fr.refl None _).alloc _) hHeld.1.1, cell_frN ((Fr.refl None _).alloc _) hHeld.1.2.1, cell_frN ((Fr.refl None _).alloc _) hHeld.1.2.2.1, cell_frN ((Fr.refl None _).alloc _) hHeld.1.2.2.2⟩, cell_frN ((Fr.refl None _).alloc _) hHeld.2.1, cell_frN ((Fr.refl None _).alloc _) hHeld.2.2⟩ (fun hHeld => ?_)
              clear hK K
              try simp only [Act.put, List.setIfInBounds_toArray, List.set_cons_zero, List.set_cons_succ, List.getElem_toArray, List.getElem_cons_succ, List.getElem_cons_zero]
              generalize X1.heap.size = B16 at *
              generalize X1.alloc (.cells #[.int .u32 0, .int .i64 0, .slice none 0 0, .slice none 0 0] 83) = X2 at *
              replace S2 := Sep.rotV S2
              have a0 := (show World.cell? _ ⟨_, 0, none⟩ = some (.int .u32 0) from (S2.at_ 10 rfl).cell 0)
              have z0 := (show World.frozen? _ ⟨_, 0, none⟩ = false from (S2.at_ 10 rfl).frozen 0)
              have a1 := (show World.cell? _ ⟨_, 1, none⟩ = some (.int .i64 0) from (S2.at_ 10 rfl).cell 1)
              have z1 := (show World.frozen? _ ⟨_, 1, none⟩ = false from (S2.at_ 10 rfl).frozen 1)
              have a2 := (show World.cell? _ ⟨_, 2, none⟩ = some (.slice none 0 0) from (S2.at_ 10 rfl).cell 2)
              have z2 := (show World.frozen? _ ⟨_, 2, none⟩ = false from (S2.at_ 10 rfl).frozen 2)
              have a3 := (show World.cell? _ ⟨_, 3, none⟩ = some (.slice none 0 0) from (S2.at_ 10 rfl).cell 3)
              have z3 := (show World.frozen? _ ⟨_, 3, none⟩ = false from (S2.at_ 10 rfl).frozen 3)
              replace S2 := ((((S2.set 10 rfl 0 (.int .u32 first)).set 10 rfl 1 (.int .i64 m)).set 10 rfl 2 (.slice lq2 t.l.length lc2)).set 10 rfl 3 (.slice bq2 t.b.length bc2))
              refine wpTo_mid (i := 18) (by kernel_rfl) rfl (fun K hK => ?_)
              go_simp
              refine hK.out _ _ ⟨⟨(S2.at_ 9 rfl).cell 0, (S2.at_ 9 rfl).cell 1, (S2.at_ 9 rfl).cell 2, (S2.at_ 9 rfl).cell 3⟩, cell_frN S2.fr HC.out.1, cell_frN S2.fr HC.out.2⟩ (fun hHeld => ?_)
              clear a0 z0 a1 z1 a2 z2 a3 z3
              clear hK K
              try simp only [Act.put, List.setIfInBounds_toArray, List.set_cons_zero, List.set_cons_succ, List.getElem_toArray, List.getElem_cons_succ, List.getElem_cons_zero]
              have a0 := (show World.cell? _ ⟨_, 0, none⟩ = some (.int .i64 0) from (S2.at_ 11 rfl).cell 0)
              have z0 := (show World.frozen? _ ⟨_, 0, none⟩ = false from (S2.at_ 11 rfl).frozen 0)
              have a1 := (show World.cell? _ ⟨_, 1, none⟩ = some (.int .i64 0) from (S2.at_ 11 rfl).cell 1)
              have z1 := (show World.frozen? _ ⟨_, 1, none⟩ = false from (S2.at_ 11 rfl).frozen 1)
              have a2 := (show World.cell? _ ⟨_, 2, none⟩ = some (.int .i64 0) from (S2.at_ 11 rfl).cell 2)
              have z2 := (show World.frozen? _ ⟨_, 2, none⟩ = false from (S2.at_ 11 rfl).frozen 2)
              have a3 := (show World.cell? _ ⟨_, 3, none⟩ = some (.bool false) from (S2.at_ 11 rfl).cell 3)
              have z3 := (show World.frozen? _ ⟨_, 3, none⟩ = false from (S2.at_ 11 rfl).frozen 3)
              have a4 := (show World.cell? _ ⟨_, 4, none⟩ = some (.int .i64 0) from (S2.at_ 11 rfl).cell 4)
              have z4 := (show World.frozen? _ ⟨_, 4, none⟩ = false from (S2.at_ 11 rfl).frozen 4)
              have a5 := (show World.cell? _ ⟨_, 5, none⟩ = some (.int .i64 0) from (S2.at_ 11 rfl).cell 5)
              have z5 := (show World.frozen? _ ⟨_, 5, none⟩ = false from (S2.at_ 11 rfl).frozen 5)
              replace S2 := ((((((S2.set 11 rfl 0 (.int .i64 t.o)).set 11 rfl 1 (.int .i64 t.e)).set 11 rfl 2 (.int .i64 t.f)).set 11 rfl 3 (.bool t.d)).set 11 rfl 4 (.int .i64 t.d1)).set 11 rfl 5 (.int .i64 t.d2))
              refine wpTo_mid (i := 19) (by kernel_rfl) rfl (fun K hK => ?_)
              go_simp
              refine hK.out _ _ ⟨⟨(S2.at_ 9 rfl).cell 0, (S2.at_ 9 rfl).cell 1, (S2.at_ 9 rfl).cell 2, (S2.at_ 9 rfl).cell 3⟩, cell_frN S2.fr HC.out.1, cell_frN S2.fr HC.out.2⟩ (fun hHeld => ?_)
              clear a0 z0 a1 z1 a2 z2 a3 z3 a4 z4 a5 z5
              clear hK K
              try simp only [Act.put, List.setIfInBounds_toArray, List.set_cons_zero, List.set_cons_succ, List.getElem_toArray, List.getElem_cons_succ, List.getElem_cons_zero]
              refine wpTo_take (i := 20) (v := ?_) rfl (by kernel_rfl) (fun _ _ _ h => h) (Or.inl ⟨by rfl, ?_⟩) hHeld ?_
              rotate_left
              · (intro w' hSw; (try dsimp only at hSw); go_simp <;> with_reducible rfl)
              simp only [Act.put, List.setIfInBounds_toArray, List.set_cons_zero, List.set_cons_succ, List.getElem_toArray, List.getElem_cons_succ, List.getElem_cons_zero]
              refine wpTo_done (by kernel_rfl) ?_ _
              go_wp2_with fail
              go_meet
              exact ⟨_, _, _, _, _, _, rfl, rfl, rfl, S2⟩
          · skip
            go_simp
            replace S2 := S2.alloc #[.int .u32 0, .int .i64 0, .slice none 0 0, .slice none 0 0] R3T
            refine hK.out _ _ ⟨⟨cell_frN ((Fr.refl None _).alloc _) hHeld.1.1, cell_frN ((Fr.refl None _).alloc _) hHeld.1.2.1, cell_frN ((Fr.refl None _).alloc _) hHeld.1.2.2.1, cell_frN ((Fr.refl None _).alloc _) hHeld.1.2.2.2⟩, cell_frN ((Fr.refl None _).alloc _) hHeld.2.1, cell_frN ((Fr.refl None _).alloc _) hHeld.2.2⟩ (fun hHeld => ?_)
            clear hK K
            try simp only [Act.put, List.setIfInBounds_toArray, List.set_cons_zero, List.set_cons_succ, List.getElem_toArray, List.getElem_cons_succ, List.getElem_cons_zero]
            generalize U.heap.size = B16 at *
            generalize U.alloc (.cells #[.int .u32 0, .int .i64 0, .slice none 0 0, .slice none 0 0] 83) = X1 at *
            refine wpTo_two (i := 11) (j := 17) (by kernel_rfl) rfl rfl (fun K hK => ?_) (fun K hK => ?_)
            · skip
              replace S2 := Sep.rotU S2
              go_simp
              refine (HR3.out _ _ S2).mono ?_
              clear S2
              rintro e V ⟨lq2, lc2, bq2, bc2, rfl, S2⟩
              refine hK.out _ _ ⟨⟨(S2.at_ 9 rfl).cell 0, (S2.at_ 9 rfl).cell 1, (S2.at_ 9 rfl).cell 2, (S2.at_ 9 rfl).cell 3⟩, cell_frN S2.fr HC.out.1, cell_frN S2.fr HC.out.2⟩ (fun hHeld => ?_)
              clear hK K
              try simp only [Act.put, List.setIfInBounds_toArray, List.set_cons_zero, List.set_cons_succ, List.getElem_toArray, List.getElem_cons_succ, List.getElem_cons_zero]
              refine wpTo_take (i := 12) (v := ?_) rfl (by kernel_rfl) (fun _ _ _ h => h) (Or.inl ⟨by rfl, ?_⟩) hHeld ?_
              rotate_left
              · (intro w' hSw; (try dsimp only at hSw); go_simp <;> with_reducible rfl)
              simp only [Act.put, List.setIfInBounds_toArray, List.set_cons_zero, List.set_cons_succ, List.getElem_toArray, List.getElem_cons_succ, List.getElem_cons_zero]
              refine wpTo_take (i := 13) (v := ?_) rfl (by kernel_rfl) (fun _ _ _ h => h) (Or.inl ⟨by rfl, ?_⟩) hHeld ?_
              rotate_left
              · (intro w' hSw; (try dsimp only at hSw); go_simp <;> with_reducible rfl)
              simp only [Act.put, List.setIfInBounds_toArray, List.set_cons_zero, List.set_cons_succ, List.getElem_toArray, List.getElem_cons_succ, List.getElem_cons_zero]
              refine wpTo_take (i := 14) (v := ?_) rfl (by kernel_rfl) (fun _ _ _ h => h) (Or.inl ⟨by rfl, ?_⟩) hHeld ?_
              rotate_left
              · (intro w' hSw; (try dsimp only at hSw); go_simp <;> with_reducible rfl)
              simp only [Act.put, List.setIfInBounds_toArray, List.set_cons_zero, List.set_cons_succ, List.getElem_toArray, List.getElem_cons_succ, List.getElem_cons_zero]
              refine wpTo_take (i := 15) (v := ?_) rfl (by kernel_rfl) (fun _ _ _ h => h) (Or.inl ⟨by rfl, ?_⟩) hHeld ?_
              rotate_left
              · (intro w' hSw; (try dsimp only at hSw); go_simp <;> with_reducible rfl)
              simp only [Act.put, List.setIfInBounds_toArray, List.set_cons_zero, List.set_cons_succ, List.getElem_toArray, List.getElem_cons_succ, List.getElem_cons_zero]
              refine wpTo_mid (i := 17) (by kernel_rfl) rfl (fun K hK => ?_)
              go_simp
              replace S2 := S2.alloc #[.int .i64 0, .int .i64 0, .int .i64 0, .bool false, .int .i64 0, .int .i64 0] Q3T
              refine hK.out _ _ ⟨⟨cell_frN ((Fr.refl None _).alloc _) hHeld.1.1, cell_frN ((Fr.refl None _).alloc _) hHeld.1.2.1, cell_frN ((Fr.refl None _).alloc _) hHeld.1.2.2.1, cell_frN ((Fr.refl None _).alloc _) hHeld.1.2.2.2⟩, cell_frN ((Fr.refl None _).alloc _) hHeld.2.1, cell_frN ((Fr.refl None _).alloc _) hHeld.2.2⟩ (fun hHeld => ?_)
              clear hK K
              try simp only [Act.put, List.setIfInBounds_toArray, List.set_cons_zero, List.set_cons_succ, List.getElem_toArray, List.getElem_cons_succ, List.getElem_cons_zero]
              generalize V.heap.size = B17 at *
              generalize V.alloc (.cells #[.int .i64 0, .int .i64 0, .int .i64 0, .bool false, .int .i64 0, .int .i64 0] 84) = X2 at *
              replace S2 := Sep.rotU S2
              replace S2 := Sep.joinE S2
              have a0 := (show World.cell? _ ⟨_, 0, none⟩ = some (.int .u32 0) from (S2.at_ 10 rfl).cell 0)
              have z0 := (show World.frozen? _ ⟨_, 0, none⟩ = false from (S2.at_ 10 rfl).frozen 0)
              have a1 := (show World.cell? _ ⟨_, 1, none⟩ = some (.int .i64 0) from (S2.at_ 10 rfl).cell 1)
              have z1 := (show World.frozen? _ ⟨_, 1, none⟩ = false from (S2.at_ 10 rfl).frozen 1)
              have a2 := (show World.cell? _ ⟨_, 2, none⟩ = some (.slice none 0 0) from (S2.at_ 10 rfl).cell 2)
              have z2 := (show World.frozen? _ ⟨_, 2, none⟩ = false from (S2.at_ 10 rfl).frozen 2)
              have a3 := (show World.cell? _ ⟨_, 3, none⟩ = some (.slice none 0 0) from (S2.at_ 10 rfl).cell 3)
              have z3 := (show World.frozen? _ ⟨_, 3, none⟩ = false from (S2.at_ 10 rfl).frozen 3)
              replace S2 := ((((S2.set 10 rfl 0 (.int .u32 first)).set 10 rfl 1 (.int .i64 m)).set 10 rfl 2 (.slice lq2 t.l.length lc2)).set 10 rfl 3 (.slice bq2 t.b.length bc2))
              refine wpTo_mid (i := 18) (by kernel_rfl) rfl (fun K hK => ?_)
              go_simp
              refine hK.out _ _ ⟨⟨(S2.at_ 9 rfl).cell 0, (S2.at_ 9 rfl).cell 1, (S2.at_ 9 rfl).cell 2, (S2.at_ 9 rfl).cell 3⟩, cell_frN S2.fr HC.out.1, cell_frN S2.fr HC.out.2⟩ (fun hHeld => ?_)
              clear a0 z0 a1 z1 a2 z2 a3 z3
              clear hK K
              try simp only [Act.put, List.setIfInBounds_toArray, List.set_cons_zero, List.set_cons_succ, List.getElem_toArray, List.getElem_cons_succ, List.getElem_cons_zero]
              have a0 := (show World.cell? _ ⟨_, 0, none⟩ = some (.int .i64 0) from (S2.at_ 11 rfl).cell 0)
              have z0 := (show World.frozen? _ ⟨_, 0, none⟩ = false from (S2.at_ 11 rfl).frozen 0)
              have a1 := (show World.cell? _ ⟨_, 1, none⟩ = some (.int .i64 0) from (S2.at_ 11 rfl).cell 1)
              have z1 := (show World.frozen? _ ⟨_, 1, none⟩ = false from (S2.at_ 11 rfl).frozen 1)
              have a2 := (show World.cell? _ ⟨_, 2, none⟩ = some (.int .i64 0) from (S2.at_ 11 rfl).cell 2)
              have z2 := (show World.frozen? _ ⟨_, 2, none⟩ = false from (S2.at_ 11 rfl).frozen 2)
              have a3 := (show World.cell? _ ⟨_, 3, none⟩ = some (.bool false) from (S2.at_ 11 rfl).cell 3)
              have z3 := (show World.frozen? _ ⟨_, 3, none⟩ = false from (S2.at_ 11 rfl).frozen 3)
              have a4 := (show World.cell? _ ⟨_, 4, none⟩ = some (.int .i64 0) from (S2.at_ 11 rfl).cell 4)
              have z4 := (show World.frozen? _ ⟨_, 4, none⟩ = false from (S2.at_ 11 rfl).frozen 4)
              have a5 := (show World.cell? _ ⟨_, 5, none⟩ = some (.int .i64 0) from (S2.at_ 11 rfl).cell 5)
              have z5 := (show World.frozen? _ ⟨_, 5, none⟩ = false from (S2.at_ 11 rfl).frozen 5)
              replace S2 := ((((((S2.set 11 rfl 0 (.int .i64 t.o)).set 11 rfl 1 (.int .i64 t.e)).set 11 rfl 2 (.int .i64 t.f)).set 11 rfl 3 (.bool t.d)).set 11 rfl 4 (.int .i64 t.d1)).set 11 rfl 5 (.int .i64 t.d2))
              refine wpTo_mid (i := 19) (by kernel_rfl) rfl (fun K hK => ?_)
              go_simp
              refine hK.out _ _ ⟨⟨(S2.at_ 9 rfl).cell 0, (S2.at_ 9 rfl).cell 1, (S2.at_ 9 rfl).cell 2, (S2.at_ 9 rfl).cell 3⟩, cell_frN S2.fr HC.out.1, cell_frN S2.fr HC.out.2⟩ (fun hHeld => ?_)
              clear a0 z0 a1 z1 a2 z2 a3 z3 a4 z4 a5 z5
              clear hK K
              try simp only [Act.put, List.setIfInBounds_toArray, List.set_cons_zero, List.set_cons_succ, List.getElem_toArray, List.getElem_cons_succ, List.getElem_cons_zero]
              refine wpTo_take (i := 20) (v := ?_) rfl (by kernel_rfl) (fun _ _ _ h => h) (Or.inl ⟨by rfl, ?_⟩) hHeld ?_
              rotate_left
              · (intro w' hSw; (try dsimp only at hSw); go_simp <;> with_reducible rfl)
              simp only [Act.put, List.setIfInBounds_toArray, List.set_cons_zero, List.set_cons_succ, List.getElem_toArray, List.getElem_cons_succ, List.getElem_cons_zero]
              refine wpTo_done (by kernel_rfl) ?_ _
              go_wp2_with fail
              go_meet
              exact ⟨_, _, _, _, _, _, rfl, rfl, rfl, S2⟩
            · skip
              go_simp
              replace S2 := S2.alloc #[.int .i64 0, .int .i64 0, .int .i64 0, .bool false, .int .i64 0, .int .i64 0] Q3T
              refine hK.out _ _ ⟨⟨cell_frN ((Fr.refl None _).alloc _) hHeld.1.1, cell_frN ((Fr.refl None _).alloc _) hHeld.1.2.1, cell_frN ((Fr.refl None _).alloc _) hHeld.1.2.2.1, cell_frN ((Fr.refl None _).alloc _) hHeld.1.2.2.2⟩, cell_frN ((Fr.refl None _).alloc _) hHeld.2.1, cell_frN ((Fr.refl None _).alloc _) hHeld.2.2⟩ (fun hHeld => ?_)
              clear hK K
              try simp only [Act.put, List.setIfInBounds_toArray, List.set_cons_zero, List.set_cons_succ, List.getElem_toArray, List.getElem_cons_succ, List.getElem_cons_zero]
              generalize X1.heap.size = B17 at *
              generalize X1.alloc (.cells #[.int .i64 0, .int .i64 0, .int .i64 0, .bool false, .int .i64 0, .int .i64 0] 84) = X2 at *
              replace S2 := S2.front 1 rfl
              replace S2 := Sep.rotV S2
              refine wpTo_mid (i := 11) (by kernel_rfl) rfl (fun K hK => ?_)
              go_simp
              refine (HR3.out _ _ S2).mono ?_
              clear S2
              rintro e V ⟨lq2, lc2, bq2, bc2, rfl, S2⟩
              refine hK.out _ _ ⟨⟨(S2.at_ 9 rfl).cell 0, (S2.at_ 9 rfl).cell 1, (S2.at_ 9 rfl).cell 2, (S2.at_ 9 rfl).cell 3⟩, cell_frN S2.fr HC.out.1, cell_frN S2.fr HC.out.2⟩ (fun hHeld => ?_)
              clear hK K
              try simp only [Act.put, List.setIfInBounds_toArray, List.set_cons_zero, List.set_cons_succ, List.getElem_toArray, List.getElem_cons_succ, List.getElem_cons_zero]
              refine wpTo_take (i := 12) (v := ?_) rfl (by kernel_rfl) (fun _ _ _ h => h) (Or.inl ⟨by rfl, ?_⟩) hHeld ?_
              rotate_left
              · (intro w' hSw; (try dsimp only at hSw); go_simp <;> with_reducible rfl)
              simp only [Act.put, List.setIfInBounds_toArray, List.set_cons_zero, List.set_cons_succ, List.getElem_toArray, List.getElem_cons_succ, List.getElem_cons_zero]
              refine wpTo_take (i := 13) (v := ?_) rfl (by kernel_rfl) (fun _ _ _ h => h) (Or.inl ⟨by rfl, ?_⟩) hHeld ?_
              rotate_left
              · (intro w' hSw; (try dsimp only at hSw); go_simp <;> with_reducible rfl)
              simp only [Act.put, List.setIfInBounds_toArray, List.set_cons_zero, List.set_cons_succ, List.getElem_toArray, List.getElem_cons_succ, List.getElem_cons_zero]
              refine wpTo_take (i := 14) (v := ?_) rfl (by kernel_rfl) (fun _ _ _ h => h) (Or.inl ⟨by rfl, ?_⟩) hHeld ?_
              rotate_left
              · (intro w' hSw; (try dsimp only at hSw); go_simp <;> with_reducible rfl)
              simp only [Act.put, List.setIfInBounds_toArray, List.set_cons_zero, List.set_cons_succ, List.getElem_toArray, List.getElem_cons_succ, List.getElem_cons_zero]
              refine wpTo_take (i := 15) (v := ?_) rfl (by kernel_rfl) (fun _ _ _ h => h) (Or.inl ⟨by rfl, ?_⟩) hHeld ?_
              rotate_left
              · (intro w' hSw; (try dsimp only at hSw); go_simp <;> with_reducible rfl)
              simp only [Act.put, List.setIfInBounds_toArray, List.set_cons_zero, List.set_cons_succ, List.getElem_toArray, List.getElem_cons_succ, List.getElem_cons_zero]
              have a0 := (show World.cell? _ ⟨_, 0, none⟩ = some (.int .u32 0) from (S2.at_ 10 rfl).cell 0)
              have z0 := (show World.frozen? _ ⟨_, 0, none⟩ = false from (S2.at_ 10 rfl).frozen 0)
              have a1 := (show World.cell? _ ⟨_, 1, none⟩ = some (.int .i64 0) from (S2.at_ 10 rfl).cell 1)
              have z1 := (show World.frozen? _ ⟨_, 1, none⟩ = false from (S2.at_ 10 rfl).frozen 1)
              have a2 := (show World.cell? _ ⟨_, 2, none⟩ = some (.slice none 0 0) from (S2.at_ 10 rfl).cell 2)
              have z2 := (show World.frozen? _ ⟨_, 2, none⟩ = false from (S2.at_ 10 rfl).frozen 2)
              have a3 := (show World.cell? _ ⟨_, 3, none⟩ = some (.slice none 0 0) from (S2.at_ 10 rfl).cell 3)
              have z3 := (show World.frozen? _ ⟨_, 3, none⟩ = false from (S2.at_ 10 rfl).frozen 3)
              replace S2 := ((((S2.set 10 rfl 0 (.int .u32 first)).set 10 rfl 1 (.int .i64 m)).set 10 rfl 2 (.slice lq2 t.l.length lc2)).set 10 rfl 3 (.slice bq2 t.b.length bc2))
              refine wpTo_mid (i := 18) (by kernel_rfl) rfl (fun K hK => ?_)
              go_simp
              refine hK.out _ _ ⟨⟨(S2.at_ 9 rfl).cell 0, (S2.at_ 9 rfl).cell 1, (S2.at_ 9 rfl).cell 2, (S2.at_ 9 rfl).cell 3⟩, cell_frN S2.fr HC.out.1, cell_frN S2.fr HC.out.2⟩ (fun hHeld => ?_)
              clear a0 z0 a1 z1 a2 z2 a3 z3
              clear hK K
              try simp only [Act.put, List.setIfInBounds_toArray, List.set_cons_zero, List.set_cons_succ, List.getElem_toArray, List.getElem_cons_succ, List.getElem_cons_zero]
              have a0 := (show World.cell? _ ⟨_, 0, none⟩ = some (.int .i64 0) from (S2.at_ 11 rfl).cell 0)
              have z0 := (show World.frozen? _ ⟨_, 0, none⟩ = false from (S2.at_ 11 rfl).frozen 0)
              have a1 := (show World.cell? _ ⟨_, 1, none⟩ = some (.int .i64 0) from (S2.at_ 11 rfl).cell 1)
              have z1 := (show World.frozen? _ ⟨_, 1, none⟩ = false from (S2.at_ 11 rfl).frozen 1)
              have a2 := (show World.cell? _ ⟨_, 2, none⟩ = some (.int .i64 0) from (S2.at_ 11 rfl).cell 2)
              have z2 := (show World.frozen? _ ⟨_, 2, none⟩ = false from (S2.at_ 11 rfl).frozen 2)
              have a3 := (show World.cell? _ ⟨_, 3, none⟩ = some (.bool false) from (S2.at_ 11 rfl).cell 3)
              have z3 := (show World.frozen? _ ⟨_, 3, none⟩ = false from (S2.at_ 11 rfl).frozen 3)
              have a4 := (show World.cell? _ ⟨_, 4, none⟩ = some (.int .i64 0) from (S2.at_ 11 rfl).cell 4)
              have z4 := (show World.frozen? _ ⟨_, 4, none⟩ = false from (S2.at_ 11 rfl).frozen 4)
              have a5 := (show World.cell? _ ⟨_, 5, none⟩ = some (.int .i64 0) from (S2.at_ 11 rfl).cell 5)
              have z5 := (show World.frozen? _ ⟨_, 5, none⟩ = false from (S2.at_ 11 rfl).frozen 5)
              replace S2 := ((((((S2.set 11 rfl 0 (.int .i64 t.o)).set 11 rfl 1 (.int .i64 t.e)).set 11 rfl 2 (.int .i64 t.f)).set 11 rfl 3 (.bool t.d)).set 11 rfl 4 (.int .i64 t.d1)).set 11 rfl 5 (.int .i64 t.d2))
              refine wpTo_mid (i := 19) (by kernel_rfl) rfl (fun K hK => ?_)
              go_simp
              refine hK.out _ _ ⟨⟨(S2.at_ 9 rfl).cell 0, (S2.at_ 9 rfl).cell 1, (S2.at_ 9 rfl).cell 2, (S2.at_ 9 rfl).cell 3⟩, cell_frN S2.fr HC.out.1, cell_frN S2.fr HC.out.2⟩ (fun hHeld => ?_)
              clear a0 z0 a1 z1 a2 z2 a3 z3 a4 z4 a5 z5
              clear hK K
              try simp only [Act.put, List.setIfInBounds_toArray, List.set_cons_zero, List.set_cons_succ, List.getElem_toArray, List.getElem_cons_succ, List.getElem_cons_zero]
              refine wpTo_take (i := 20) (v := ?_) rfl (by kernel_rfl) (fun _ _ _ h => h) (Or.inl ⟨by rfl, ?_⟩) hHeld ?_
              rotate_left
              · (intro w' hSw; (try dsimp only at hSw); go_simp <;> with_reducible rfl)
              simp only [Act.put, List.setIfInBounds_toArray, List.set_cons_zero, List.set_cons_succ, List.getElem_toArray, List.getElem_cons_succ, List.getElem_cons_zero]
              refine wpTo_done (by kernel_rfl) ?_ _
              go_wp2_with fail
              go_meet
              exact ⟨_, _, _, _, _, _, rfl, rfl, rfl, S2⟩
          · skip
            go_simp
            replace S2 := S2.alloc #[.int .i64 0, .int .i64 0, .int .i64 0, .bool false, .int .i64 0, .int .i64 0] Q3T
            refine hK.out _ _ ⟨⟨cell_frN ((Fr.refl None _).alloc _) hHeld.1.1, cell_frN ((Fr.refl None _).alloc _) hHeld.1.2.1, cell_frN ((Fr.refl None _).alloc _) hHeld.1.2.2.1, cell_frN ((Fr.refl None _).alloc _) hHeld.1.2.2.2⟩, cell_frN ((Fr.refl None _).alloc _) hHeld.2.1, cell_frN ((Fr.refl None _).alloc _) hHeld.2.2⟩ (fun hHeld => ?_)
            clear hK K
            try simp only [Act.put, List.setIfInBounds_toArray, List.set_cons_zero, List.set_cons_succ, List.getElem_toArray, List.getElem_cons_succ, List.getElem_cons_zero]
            generalize U.heap.size = B17 at *
            generalize U.alloc (.cells #[.int .i64 0, .int .i64 0, .int .i64 0, .bool false, .int .i64 0, .int .i64 0] 84) = X1 at *
            refine wpTo_two (i := 11) (j := 16) (by kernel_rfl) rfl rfl (fun K hK => ?_) (fun K hK => ?_)
            · skip
              replace S2 := Sep.rotU S2
              go_simp
              refine (HR3.out _ _ S2).mono ?_
              clear S2
              rintro e V ⟨lq2, lc2, bq2, bc2, rfl, S2⟩
              refine hK.out _ _ ⟨⟨(S2.at_ 9 rfl).cell 0, (S2.at_ 9 rfl).cell 1, (S2.at_ 9 rfl).cell 2, (S2.at_ 9 rfl).cell 3⟩, cell_frN S2.fr HC.out.1, cell_frN S2.fr HC.out.2⟩ (fun hHeld => ?_)
              clear hK K
              try simp only [Act.put, List.setIfInBounds_toArray, List.set_cons_zero, List.set_cons_succ, List.getElem_toArray, List.getElem_cons_succ, List.getElem_cons_zero]
              refine wpTo_take (i := 12) (v := ?_) rfl (by kernel_rfl) (fun _ _ _ h => h) (Or.inl ⟨by rfl, ?_⟩) hHeld ?_
              rotate_left
              · (intro w' hSw; (try dsimp only at hSw); go_simp <;> with_reducible rfl)
              simp only [Act.put, List.setIfInBounds_toArray, List.set_cons_zero, List.set_cons_succ, List.getElem_toArray, List.getElem_cons_succ, List.getElem_cons_zero]
              refine wpTo_take (i := 13) (v := ?_) rfl (by kernel_rfl) (fun _ _ _ h => h) (Or.inl ⟨by rfl, ?_⟩) hHeld ?_
              rotate_left
              · (intro w' hSw; (try dsimp only at hSw); go_simp <;> with_reducible rfl)
              simp only [Act.put, List.setIfInBounds_toArray, List.set_cons_zero, List.set_cons_succ, List.getElem_toArray, List.getElem_cons_succ, List.getElem_cons_zero]
              refine wpTo_take (i := 14) (v := ?_) rfl (by kernel_rfl) (fun _ _ _ h => h) (Or.inl ⟨by rfl, ?_⟩) hHeld ?_
              rotate_left
              · (intro w' hSw; (try dsimp only at hSw); go_simp <;> with_reducible rfl)
              simp only [Act.put, List.setIfInBounds_toArray, List.set_cons_zero, List.set_cons_succ, List.getElem_toArray, List.getElem_cons_succ, List.getElem_cons_zero]
              refine wpTo_take (i := 15) (v := ?_) rfl (by kernel_rfl) (fun _ _ _ h => h) (Or.inl ⟨by rfl, ?_⟩) hHeld ?_
              rotate_left
              · (intro w' hSw; (try dsimp only at hSw); go_simp <;> with_reducible rfl)
              simp only [Act.put, List.setIfInBounds_toArray, List.set_cons_zero, List.set_cons_succ, List.getElem_toArray, List.getElem_cons_succ, List.getElem_cons_zero]
              refine wpTo_mid (i := 16) (by kernel_rfl) rfl (fun K hK => ?_)
              go_simp
              replace S2 := S2.alloc #[.int .u32 0, .int .i64 0, .slice none 0 0, .slice none 0 0] R3T
              refine hK.out _ _ ⟨⟨cell_frN ((Fr.refl None _).alloc _) hHeld.1.1, cell_frN ((Fr.refl None _).alloc _) hHeld.1.2.1, cell_frN ((Fr.refl None _).alloc _) hHeld.1.2.2.1, cell_frN ((Fr.refl None _).alloc _) hHeld.1.2.2.2⟩, cell_frN ((Fr.refl None _).alloc _) hHeld.2.1, cell_frN ((Fr.refl None _).alloc _) hHeld.2.2⟩ (fun hHeld => ?_)
              clear hK K
              try simp only [Act.put, List.setIfInBounds_toArray, List.set_cons_zero, List.set_cons_succ, List.getElem_toArray, List.getElem_cons_succ, List.getElem_cons_zero]
              generalize V.heap.size = B16 at *
              generalize V.alloc (.cells #[.int .u32 0, .int .i64 0, .slice none 0 0, .slice none 0 0] 83) = X2 at *
              replace S2 := Sep.rotU S2
              replace S2 := Sep.swapE S2
              have a0 := (show World.cell? _ ⟨_, 0, none⟩ = some (.int .u32 0) from (S2.at_ 10 rfl).cell 0)
              have z0 := (show World.frozen? _ ⟨_, 0, none⟩ = false from (S2.at_ 10 rfl).frozen 0)
              have a1 := (show World.cell? _ ⟨_, 1, none⟩ = some (.int .i64 0) from (S2.at_ 10 rfl).cell 1)
              have z1 := (show World.frozen? _ ⟨_, 1, none⟩ = false from (S2.at_ 10 rfl).frozen 1)
              have a2 := (show World.cell? _ ⟨_, 2, none⟩ = some (.slice none 0 0) from (S2.at_ 10 rfl).cell 2)
              have z2 := (show World.frozen? _ ⟨_, 2, none⟩ = false from (S2.at_ 10 rfl).frozen 2)
              have a3 := (show World.cell? _ ⟨_, 3, none⟩ = some (.slice none 0 0) from (S2.at_ 10 rfl).cell 3)
              have z3 := (show World.frozen? _ ⟨_, 3, none⟩ = false from (S2.at_ 10 rfl).frozen 3)
              replace S2 := ((((S2.set 10 rfl 0 (.int .u32 first)).set 10 rfl 1 (.int .i64 m)).set 10 rfl 2 (.slice lq2 t.l.length lc2)).set 10 rfl 3 (.slice bq2 t.b.length bc2))
              refine wpTo_mid (i := 18) (by kernel_rfl) rfl (fun K hK => ?_)
              go_simp
              refine hK.out _ _ ⟨⟨(S2.at_ 9 rfl).cell 0, (S2.at_ 9 rfl).cell 1, (S2.at_ 9 rfl).cell 2, (S2.at_ 9 rfl).cell 3⟩, cell_frN S2.fr HC.out.1, cell_frN S2.fr HC.out.2⟩ (fun hHeld => ?_)
              clear a0 z0 a1 z1 a2 z2 a3 z3
              clear hK K
              try simp only [Act.put, List.setIfInBounds_toArray, List.set_cons_zero, List.set_cons_succ, List.getElem_toArray, List.getElem_cons_succ, List.getElem_cons_zero]
              have a0 := (show World.cell? _ ⟨_, 0, none⟩ = some (.int .i64 0) from (S2.at_ 11 rfl).cell 0)
              have z0 := (show World.frozen? _ ⟨_, 0, none⟩ = false from (S2.at_ 11 rfl).frozen 0)
              have a1 := (show World.cell? _ ⟨_, 1, none⟩ = some (.int .i64 0) from (S2.at_ 11 rfl).cell 1)
              have z1 := (show World.frozen? _ ⟨_, 1, none⟩ = false from (S2.at_ 11 rfl).frozen 1)
              have a2 := (show World.cell? _ ⟨_, 2, none⟩ = some (.int .i64 0) from (S2.at_ 11 rfl).cell 2)
              have z2 := (show World.frozen? _ ⟨_, 2, none⟩ = false from (S2.at_ 11 rfl).frozen 2)
              have a3 := (show World.cell? _ ⟨_, 3, none⟩ = some (.bool false) from (S2.at_ 11 rfl).cell 3)
              have z3 := (show World.frozen? _ ⟨_, 3, none⟩ = false from (S2.at_ 11 rfl).frozen 3)
              have a4 := (show World.cell? _ ⟨_, 4, none⟩ = some (.int .i64 0) from (S2.at_ 11 rfl).cell 4)
              have z4 := (show World.frozen? _ ⟨_, 4, none⟩ = false from (S2.at_ 11 rfl).frozen 4)
              have a5 := (show World.cell? _ ⟨_, 5, none⟩ = some (.int .i64 0) from (S2.at_ 11 rfl).cell 5)
              have z5 := (show World.frozen? _ ⟨_, 5, none⟩ = false from (S2.at_ 11 rfl).frozen 5)
              replace S2 := ((((((S2.set 11 rfl 0 (.int .i64 t.o)).set 11 rfl 1 (.int .i64 t.e)).set 11 rfl 2 (.int .i64 t.f)).set 11 rfl 3 (.bool t.d)).set 11 rfl 4 (.int .i64 t.d1)).set 11 rfl 5 (.int .i64 t.d2))
              refine wpTo_mid (i := 19) (by kernel_rfl) rfl (fun K hK => ?_)
              go_simp
              refine hK.out _ _ ⟨⟨(S2.at_ 9 rfl).cell 0, (S2.at_ 9 rfl).cell 1, (S2.at_ 9 rfl).cell 2, (S2.at_ 9 rfl).cell 3⟩, cell_frN S2.fr HC.out.1, cell_frN S2.fr HC.out.2⟩ (fun hHeld => ?_)
              clear a0 z0 a1 z1 a2 z2 a3 z3 a4 z4 a5 z5
              clear hK K
              try simp only [Act.put, List.setIfInBounds_toArray, List.set_cons_zero, List.set_cons_succ, List.getElem_toArray, List.getElem_cons_succ, List.getElem_cons_zero]
              refine wpTo_take (i := 20) (v := ?_) rfl (by kernel_rfl) (fun _ _ _ h => h) (Or.inl ⟨by rfl, ?_⟩) hHeld ?_
              rotate_left
              · (intro w' hSw; (try dsimp only at hSw); go_simp <;> with_reducible rfl)
              simp only [Act.put, List.setIfInBounds_toArray, List.set_cons_zero, List.set_cons_succ, List.getElem_toArray, List.getElem_cons_succ, List.getElem_cons_zero]
              refine wpTo_done (by kernel_rfl) ?_ _
              go_wp2_with fail
              go_meet
              exact ⟨_, _, _, _, _, _, rfl, rfl, rfl, S2⟩
            · skip
              go_simp
              replace S2 := S2.alloc #[.int .u32 0, .int .i64 0, .slice none 0 0, .slice none 0 0] R3T
              refine hK.out _ _ ⟨⟨cell_frN ((Fr.refl None _).alloc _) hHeld.1.1, cell_frN ((Fr.refl None _).alloc _) hHeld.1.2.1, cell_frN ((Fr.refl None _).alloc _) hHeld.1.2.2.1, cell_frN ((Fr.refl None _).alloc _) hHeld.1.2.2.2⟩, cell_frN ((Fr.refl None _).alloc _) hHeld.2.1, cell_frN ((Fr.refl None _).alloc _) hHeld.2.2⟩ (fun hHeld => ?_)
              clear hK K
              try simp only [Act.put, List.setIfInBounds_toArray, List.set_cons_zero, List.set_cons_succ, List.getElem_toArray, List.getElem_cons_succ, List.getElem_cons_zero]
              generalize X1.heap.size = B16 at *
              generalize X1.alloc (.cells #[.int .u32 0, .int .i64 0, .slice none 0 0, .slice none 0 0] 83) = X2 at *
              replace S2 := Sep.rotV S2
              refine wpTo_mid (i := 11) (by kernel_rfl) rfl (fun K hK => ?_)
              go_simp
              refine (HR3.out _ _ S2).mono ?_
              clear S2
              rintro e V ⟨lq2, lc2, bq2, bc2, rfl, S2⟩
              refine hK.out _ _ ⟨⟨(S2.at_ 9 rfl).cell 0, (S2.at_ 9 rfl).cell 1, (S2.at_ 9 rfl).cell 2, (S2.at_ 9 rfl).cell 3⟩, cell_frN S2.fr HC.out.1, cell_frN S2.fr HC.out.2⟩ (fun hHeld => ?_)
              clear hK K
              try simp only [Act.put, List.setIfInBounds_toArray, List.set_cons_zero, List.set_cons_succ, List.getElem_toArray, List.getElem_cons_succ, List.getElem_cons_zero]
              refine wpTo_take (i := 12) (v := ?_) rfl (by kernel_rfl) (fun _ _ _ h => h) (Or.inl ⟨by rfl, ?_⟩) hHeld ?_
              rotate_left
              · (intro w' hSw; (try dsimp only at hSw); go_simp <;> with_reducible rfl)
              simp only [Act.put, List.setIfInBounds_toArray, List.set_cons_zero, List.set_cons_succ, List.getElem_toArray, List.getElem_cons_succ, List.getElem_cons_zero]
              refine wpTo_take (i := 13) (v := ?_) rfl (by kernel_rfl) (fun _ _ _ h => h) (Or.inl ⟨by rfl, ?_⟩) hHeld ?_
              rotate_left
              · (intro w' hSw; (try dsimp only at hSw); go_simp <;> with_reducible rfl)
              simp only [Act.put, List.setIfInBounds_toArray, List.set_cons_zero, List.set_cons_succ, List.getElem_toArray, List.getElem_cons_succ, List.getElem_cons_zero]
              refine wpTo_take (i := 14) (v := ?_) rfl (by kernel_rfl) (fun _ _ _ h => h) (Or.inl ⟨by rfl, ?_⟩) hHeld ?_
              rotate_left
              · (intro w' hSw; (try dsimp only at hSw); go_simp <;> with_reducible rfl)
              simp only [Act.put, List.setIfInBounds_toArray, List.set_cons_zero, List.set_cons_succ, List.getElem_toArray, List.getElem_cons_succ, List.getElem_cons_zero]
              refine wpTo_take (i := 15) (v := ?_) rfl (by kernel_rfl) (fun _ _ _ h => h) (Or.inl ⟨by rfl, ?_⟩) hHeld ?_
              rotate_left
              · (intro w' hSw; (try dsimp only at hSw); go_simp <;> with_reducible rfl)
              simp only [Act.put, List.setIfInBounds_toArray, List.set_cons_zero, List.set_cons_succ, List.getElem_toArray, List.getElem_cons_succ, List.getElem_cons_zero]
              have a0 := (show World.cell? _ ⟨_, 0, none⟩ = some (.int .u32 0) from (S2.at_ 10 rfl).cell 0)
              have z0 := (show World.frozen? _ ⟨_, 0, none⟩ = false from (S2.at_ 10 rfl).frozen 0)
              have a1 := (show World.cell? _ ⟨_, 1, none⟩ = some (.int .i64 0) from (S2.at_ 10 rfl).cell 1)
              have z1 := (show World.frozen? _ ⟨_, 1, none⟩ = false from (S2.at_ 10 rfl).frozen 1)
              have a2 := (show World.cell? _ ⟨_, 2, none⟩ = some (.slice none 0 0) from (S2.at_ 10 rfl).cell 2)
              have z2 := (show World.frozen? _ ⟨_, 2, none⟩ = false from (S2.at_ 10 rfl).frozen 2)
              have a3 := (show World.cell? _ ⟨_, 3, none⟩ = some (.slice none 0 0) from (S2.at_ 10 rfl).cell 3)
              have z3 := (show World.frozen? _ ⟨_, 3, none⟩ = false from (S2.at_ 10 rfl).frozen 3)
              replace S2 := ((((S2.set 10 rfl 0 (.int .u32 first)).set 10 rfl 1 (.int .i64 m)).set 10 rfl 2 (.slice lq2 t.l.length lc2)).set 10 rfl 3 (.slice bq2 t.b.length bc2))
              refine wpTo_mid (i := 18) (by kernel_rfl) rfl (fun K hK => ?_)
              go_simp
              refine hK.out _ _ ⟨⟨(S2.at_ 9 rfl).cell 0, (S2.at_ 9 rfl).cell 1, (S2.at_ 9 rfl).cell 2, (S2.at_ 9 rfl).cell 3⟩, cell_frN S2.fr HC.out.1, cell_frN S2.fr HC.out.2⟩ (fun hHeld => ?_)
              clear a0 z0 a1 z1 a2 z2 a3 z3
              clear hK K
              try simp only [Act.put, List.setIfInBounds_toArray, List.set_cons_zero, List.set_cons_succ, List.getElem_toArray, List.getElem_cons_succ, List.getElem_cons_zero]
              have a0 := (show World.cell? _ ⟨_, 0, none⟩ = some (.int .i64 0) from (S2.at_ 11 rfl).cell 0)
              have z0 := (show World.frozen? _ ⟨_, 0, none⟩ = false from (S2.at_ 11 rfl).frozen 0)
              have a1 := (show World.cell? _ ⟨_, 1, none⟩ = some (.int .i64 0) from (S2.at_ 11 rfl).cell 1)
              have z1 := (show World.frozen? _ ⟨_, 1, none⟩ = false from (S2.at_ 11 rfl).frozen 1)
              have a2 := (show World.cell? _ ⟨_, 2, none⟩ = some (.int .i64 0) from (S2.at_ 11 rfl).cell 2)
              have z2 := (show World.frozen? _ ⟨_, 2, none⟩ = false from (S2.at_ 11 rfl).frozen 2)
              have a3 := (show World.cell? _ ⟨_, 3, none⟩ = some (.bool false) from (S2.at_ 11 rfl).cell 3)
              have z3 := (show World.frozen? _ ⟨_, 3, none⟩ = false from (S2.at_ 11 rfl).frozen 3)
              have a4 := (show World.cell? _ ⟨_, 4, none⟩ = some (.int .i64 0) from (S2.at_ 11 rfl).cell 4)
              have z4 := (show World.frozen? _ ⟨_, 4, none⟩ = false from (S2.at_ 11 rfl).frozen 4)
              have a5 := (show World.cell? _ ⟨_, 5, none⟩ = some (.int .i64 0) from (S2.at_ 11 rfl).cell 5)
              have z5 := (show World.frozen? _ ⟨_, 5, none⟩ = false from (S2.at_ 11 rfl).frozen 5)
              replace S2 := ((((((S2.set 11 rfl 0 (.int .i64 t.o)).set 11 rfl 1 (.int .i64 t.e)).set 11 rfl 2 (.int .i64 t.f)).set 11 rfl 3 (.bool t.d)).set 11 rfl 4 (.int .i64 t.d1)).set 11 rfl 5 (.int .i64 t.d2))
              refine wpTo_mid (i := 19) (by kernel_rfl) rfl (fun K hK => ?_)
              go_simp
              refine hK.out _ _ ⟨⟨(S2.at_ 9 rfl).cell 0, (S2.at_ 9 rfl).cell 1, (S2.at_ 9 rfl).cell 2, (S2.at_ 9 rfl).cell 3⟩, cell_frN S2.fr HC.out.1, cell_frN S2.fr HC.out.2⟩ (fun hHeld => ?_)
              clear a0 z0 a1 z1 a2 z2 a3 z3 a4 z4 a5 z5
              clear hK K
              try simp only [Act.put, List.setIfInBounds_toArray, List.set_cons_zero, List.set_cons_succ, List.getElem_toArray, List.getElem_cons_succ, List.getElem_cons_zero]
              refine wpTo_take (i := 20) (v := ?_) rfl (by kernel_rfl) (fun _ _ _ h => h) (Or.inl ⟨by rfl, ?_⟩) hHeld ?_
              rotate_left
              · (intro w' hSw; (try dsimp only at hSw); go_simp <;> with_reducible rfl)
              simp only [Act.put, List.setIfInBounds_toArray, List.set_cons_zero, List.set_cons_succ, List.getElem_toArray, List.getElem_cons_succ, List.getElem_cons_zero]
              refine wpTo_done (by kernel_rfl) ?_ _
              go_wp2_with fail
              go_meet
              exact ⟨_, _, _, _, _, _, rfl, rfl, rfl, S2⟩
        case rest =>
          obtain ⟨lq2, lc2, bq2, bc2, B16, B17, rfl, rfl, rfl, S2⟩ := hcut
          go_upto_region 15 with fail
          generalize wc = W1 at *
          have a0 : W1.cell? ⟨B16, 0, none⟩ = some (.int .u32 first) := (S2.at_ 10 rfl).cell 0
          have a1 : W1.cell? ⟨B16, 1, none⟩ = some (.int .i64 m) := (S2.at_ 10 rfl).cell 1
          have a2 : W1.cell? ⟨B16, 2, none⟩ = some (.slice lq2 t.l.length lc2) := (S2.at_ 10 rfl).cell 2
          have a3 : W1.cell? ⟨B16, 3, none⟩ = some (.slice bq2 t.b.length bc2) := (S2.at_ 10 rfl).cell 3
          have b0 : W1.cell? ⟨w1.heap.size, 0, none⟩ = some (.int .u32 first) := (S2.at_ 9 rfl).cell 0
          have zb0 : W1.frozen? ⟨w1.heap.size, 0, none⟩ = false := (S2.at_ 9 rfl).frozen 0
          have b1 : W1.cell? ⟨w1.heap.size, 1, none⟩ = some (.int .i64 m) := (S2.at_ 9 rfl).cell 1
          have zb1 : W1.frozen? ⟨w1.heap.size, 1, none⟩ = false := (S2.at_ 9 rfl).frozen 1
          have b2 : W1.cell? ⟨w1.heap.size, 2, none⟩ = some (.slice lq s.length lc') := (S2.at_ 9 rfl).cell 2
          have zb2 : W1.frozen? ⟨w1.heap.size, 2, none⟩ = false := (S2.at_ 9 rfl).frozen 2
          have b3 : W1.cell? ⟨w1.heap.size, 3, none⟩ = some (.slice bq b.length bc) := (S2.at_ 9 rfl).cell 3
          have zb3 : W1.frozen? ⟨w1.heap.size, 3, none⟩ = false := (S2.at_ 9 rfl).frozen 3
          have HS2 := Lib.hid S2
          clear S2 HR3
          go_cut [] from 96 to 96 (fun wx => Sep None w wx (srow lq2 lc2 t.l :: brow bq2 bc2 t.b :: ((Ob.blk B14 TdT #[.int .i64 t.o, .int .i64 t.e, .int .i64 t.f, .bool t.d, .int .i64 t.d1, .int .i64 t.d2] :: (hrd hp first gp q' c' t.l tq' tc' text' (some ⟨rb, 0, none⟩) m ring' ++ [Ob.blk w.heap.size PcT #[.int .u32 oN, .slice oa ol.length oc], Ob.blk w1.heap.size R3T (r3c first m lq2 lc2 t.l bq2 bc2 t.b)])) ++ [Ob.blk B16 R3T (r3c first m lq2 lc2 t.l bq2 bc2 t.b), Ob.blk B17 Q3T #[.int .i64 t.o, .int .i64 t.e, .int .i64 t.f, .bool t.d, .int .i64 t.d1, .int .i64 t.d2]])))
          case first =>
            have S3 := ((((HS2.out.set 9 rfl 0 (.int .u32 first)).set 9 rfl 1 (.int .i64 m)).set 9 rfl 2 (.slice lq2 t.l.length lc2)).set 9 rfl 3 (.slice bq2 t.b.length bc2))
            go_wp2_with fail
            go_meet
            exact S3
          case rest =>
            clear a0 b0 zb0 a1 b1 zb1 a2 b2 zb2 a3 b3 zb3 HS2
            have S2 := hcut
            clear hcut
            generalize wc = W2 at *
            have x0 : W2.cell? ⟨B14, 0, none⟩ = some (.int .i64 t.o) := (S2.at_ 2 rfl).cell 0
            have x1 : W2.cell? ⟨B14, 1, none⟩ = some (.int .i64 t.e) := (S2.at_ 2 rfl).cell 1
            have x2 : W2.cell? ⟨B14, 2, none⟩ = some (.int .i64 t.f) := (S2.at_ 2 rfl).cell 2
            have x3 : W2.cell? ⟨B14, 3, none⟩ = some (.bool t.d) := (S2.at_ 2 rfl).cell 3
            have x4 : W2.cell? ⟨B14, 4, none⟩ = some (.int .i64 t.d1) := (S2.at_ 2 rfl).cell 4
            have x5 : W2.cell? ⟨B14, 5, none⟩ = some (.int .i64 t.d2) := (S2.at_ 2 rfl).cell 5
            have y0 : W2.cell? ⟨B17, 0, none⟩ = some (.int .i64 t.o) := (S2.at_ 11 rfl).cell 0
            have y1 : W2.cell? ⟨B17, 1, none⟩ = some (.int .i64 t.e) := (S2.at_ 11 rfl).cell 1
            have y2 : W2.cell? ⟨B17, 2, none⟩ = some (.int .i64 t.f) := (S2.at_ 11 rfl).cell 2
            have y3 : W2.cell? ⟨B17, 3, none⟩ = some (.bool t.d) := (S2.at_ 11 rfl).cell 3
            have y4 : W2.cell? ⟨B17, 4, none⟩ = some (.int .i64 t.d1) := (S2.at_ 11 rfl).cell 4
            have y5 : W2.cell? ⟨B17, 5, none⟩ = some (.int .i64 t.d2) := (S2.at_ 11 rfl).cell 5
            have c0 : W2.cell? ⟨w1.heap.size, 0, none⟩ = some (.int .u32 first) := (S2.at_ 9 rfl).cell 0
            have c1 : W2.cell? ⟨w1.heap.size, 1, none⟩ = some (.int .i64 m) := (S2.at_ 9 rfl).cell 1
            have c2 : W2.cell? ⟨w1.heap.size, 2, none⟩ = some (.slice lq2 t.l.length lc2) := (S2.at_ 9 rfl).cell 2
            have c3 : W2.cell? ⟨w1.heap.size, 3, none⟩ = some (.slice bq2 t.b.length bc2) := (S2.at_ 9 rfl).cell 3
            have htl2 := hT_len HP.out.hok (by have := HP.out.mm; omega) t HT.out
            have hby := hT_bytes HP.out.hok (by have := HP.out.mm; omega) t HT.out
            rw [HSUM.out] at hby
            have hmm := HP.out.mm
            have HEQ := Lib.hid (equal_yes hp gp first q' c' t.l tq' tc' text' (some ⟨rb, 0, none⟩) m ring' m lq2 lc2 bq2 bc2 t.b W2 m hok' (by omega) (by omega) (S2.at_ 5 rfl) ((S2.at_ 3 rfl).cell 0) (row_reads (S2.at_ 4 rfl)) (brow_reads (S2.at_ 6 rfl)) (row_reads (S2.at_ 0 rfl)) (brow_reads (S2.at_ 1 rfl)))
            have HBY := Lib.hid (fun (V : World) (f : Fr None W2 V) => hbytes_any hp gp q' c' t.l V hok'.ok (by omega) (cell_frN f ((S2.at_ 5 rfl).cell 1)) (cell_frN f ((S2.at_ 3 rfl).cell 0)) ((row_reads (S2.at_ 4 rfl)).fr f (fun _ _ h => h)))
            have hbb := bytes_bounds hok'.ok
            have HPl2 := Lib.hid (show Pl m first n (k + 1) t.l t.b text' ring' from ⟨hok', by have := HP.out.sl; omega, by have := HP.out.tl; rw [Nat.succ_mul]; omega, by omega, by omega, hmm, HP.out.fu⟩)
            have HS2 := Lib.hid S2
            clear S2 hok'
            generalize hs2 : bytesL t.l = sum2 at *
            have HSM2 := Lib.hid hs2
            clear hs2
            have hw1 : sum + t.f = sum2 := by omega
            have hw2 : IntKind.i64.wrap sum2 = sum2 := wrap_small (by omega)
            have hw3 : IntKind.i64.wrap (sum + t.f) = sum2 := by rw [hw1, hw2]
            have hw4 : IntKind.i64.wrap ((k : Int) + 1) = (k : Int) + 1 := wrap_small (by omega)
            clear hby
            have he1 : ∀ W, (binOp .neq SpT (.agg #[.int .i64 t.o, .int .i64 t.e]) (.agg #[.int .i64 t.o, .int .i64 t.e])).run Try.prog W = .ok (.bool false) W := fun W => by rw [nqSp]; simp
            have he2 : ∀ W, (binOp .neq SpT (.agg #[.int .i64 t.d1, .int .i64 t.d2]) (.agg #[.int .i64 t.d1, .int .i64 t.d2])).run Try.prog W = .ok (.bool false) W := fun W => by rw [nqSp]; simp
            go_wp2_with (first
              | ((with_reducible refine (HEQ.out).mono ?_); rintro y4 w4 ⟨rfl, F4⟩; have HF4 := Lib.hid F4; clear F4)
              | ((with_reducible refine (HBY.out _ HF4.out).mono ?_); rintro y5 w5 ⟨rfl, F5⟩; have HF5 := Lib.hid F5; clear F5)
              | fail)
            go_roundg (gk - 1)
            case measure => omega
            case rel => exact ⟨k + 1, q', c', t.l, tq', tc', text', ring', t.b, lq2, lc2, bq2, bc2, by omega, by rw [HSM2.out], by go_num, HPl2.out, Sep.rot (A := [_, _]) (B := hrd hp first gp q' c' t.l tq' tc' text' (some ⟨rb, 0, none⟩) m ring') (((HS2.out.same HF4.out).same HF5.out).drop (.cons_cons _ (.cons_cons _ (List.Sublist.trans (.cons _ (.refl _)) (List.sublist_append_left _ _)))))⟩
    · have hk : k = N := by omega
      clear hkn g
      subst hk
      have htl : text.length ≤ 3932160 := by have h1 := HP.out.tl; have h2 := HP.out.kl; exact Nat.le_trans h1 (Nat.le_trans (Nat.mul_le_mul_right _ h2) (by decide))
      have hsl : s.length ≤ 60 := by have := HP.out.sl; have := HP.out.kl; omega
      have hrl : ring.length = m := HP.out.hok.rl
      have hmm := HP.out.mm
      obtain ⟨t, ht⟩ : ∃ t, t = hT first oN text.length m s b ol := ⟨_, rfl⟩
      have HT := Lib.hid ht
      clear ht
      have HCL := Lib.hid (hclone_any hp gp first q c s tq tc text rb m ring wr (by omega) (by omega) (by omega) (HS1.out.at_ 2 rfl) ((HS1.out.at_ 0 rfl).cell 0) (row_reads (HS1.out.at_ 1 rfl)) (brow_reads (HS1.out.at_ 3 rfl)) (brow_reads (HS1.out.at_ 4 rfl)))
      rcases (show (¬ ((k : Int) < n)) ∨ ((k : Int) < n ∧ ¬ ((k : Int) < 60)) by have := HNN.out; omega) with h1 | ⟨h1, h2⟩
      · skip
        go_upto_region 20 with ((with_reducible refine (HCL.out).mono ?_); rintro e6 w6 ⟨hp6, gp6, q6, c6, tq6, tc6, rq6, rc6, rfl, T6⟩)
        have S6 := HS1.out.beside T6
        obtain ⟨rb6, hrb6⟩ := brow_at0 (S6.at_ 4 rfl) (show 0 < ring.length by omega)
        subst hrb6
        have o0 : w6.cell? ⟨w.heap.size, 0, none⟩ = some (.int .u32 oN) := (S6.at_ 10 rfl).cell 0
        have o1 : w6.cell? ⟨w.heap.size, 1, none⟩ = some (.slice oa ol.length oc) := (S6.at_ 10 rfl).cell 1
        have HTK6 := Lib.hid (show Calls Try.prog 42 #[.pointer (at0 hp6), .int .u32 oN, .slice oa ol.length oc] w6 (HTake None w _ hp6 gp6 rb6 rc6 m first t text.length) from by have h := htake_all (D := None) (w0 := w) hp6 gp6 first oN q6 c6 s tq6 tc6 text rb6 rc6 ring b oa oc ol w6 S6 (fun V f h0 => (HOB.out h0).fr (Sep.old S6 f) (fun _ _ h => h)) (by rw [hrl]; exact HP.out.hok) (by omega) (by omega) (by omega); rw [hrl, ← HT.out] at h; exact h)
        have HS6 := Lib.hid S6
        clear S6 T6 HCL
        go_upto_region 21 with ((with_reducible refine (HTK6.out).mono ?_); rintro e7 w7 ⟨q7, c7, tq7, tc7, text7, ring7, rfl, hok7, hrl7, htl7, S7⟩)
        clear o0 o1
        have o0 : w7.cell? ⟨w.heap.size, 0, none⟩ = some (.int .u32 oN) := (S7.at_ 10 rfl).cell 0
        have o1 : w7.cell? ⟨w.heap.size, 1, none⟩ = some (.slice oa ol.length oc) := (S7.at_ 10 rfl).cell 1
        have b0 : w7.cell? ⟨w1.heap.size, 0, none⟩ = some (.int .u32 first) := (S7.at_ 11 rfl).cell 0
        have b1 : w7.cell? ⟨w1.heap.size, 1, none⟩ = some (.int .i64 m) := (S7.at_ 11 rfl).cell 1
        have b2 : w7.cell? ⟨w1.heap.size, 2, none⟩ = some (.slice lq s.length lc') := (S7.at_ 11 rfl).cell 2
        have b3 : w7.cell? ⟨w1.heap.size, 3, none⟩ = some (.slice bq b.length bc) := (S7.at_ 11 rfl).cell 3
        have HB8 := Lib.hid (And.intro b0 (And.intro b1 (And.intro b2 b3)))
        have HRK := Lib.hid (show Calls Try.prog 47 #[.agg (r3c first m lq lc' s bq bc b), .int .u32 oN, .slice oa ol.length oc] w7 (R3Keep w7 first m t) from by have h := r3take_keep first oN text.length m lq lc' s bq bc b oa oc ol w7 HP.out.hok.ok (row_reads (S7.at_ 12 rfl)) (brow_reads (S7.at_ 13 rfl)) (fun h0 => (HOB.out h0).fr S7.fr (fun _ _ h => h)) (by omega) (by have := HP.out.hok.bl; omega) HP.out.hok.nx (by omega) HP.out.mm HU.out.2 HP.out.fu; rw [← HT.out] at h; exact h)
        have HS7 := Lib.hid S7
        have HK7 := Lib.hid hok7
        have htl8 := hT_len HP.out.hok (by omega) t HT.out
        clear S7 hok7 HTK6 HS6
        go_upto_region 22 with ((with_reducible refine (HRK.out).mono ?_); rintro e8 w8 ⟨lq8, lc8, bq8, bc8, rfl, F8, hl8, hb8⟩)
        have S8 := HS7.out.same F8
        have HEQ1 := Lib.hid (fun (V : World) (f : Fr None w8 V) => equal_yes hp6 gp6 first q7 c7 t.l tq7 tc7 text7 (some ⟨rb6, 0, none⟩) rc6 ring7 m lq8 lc8 bq8 bc8 t.b V m HK7.out (by omega) (by omega) ((S8.same f).at_ 2 rfl) (((S8.same f).at_ 0 rfl).cell 0) (row_reads ((S8.same f).at_ 1 rfl)) (brow_reads ((S8.same f).at_ 3 rfl)) (hl8.fr f (fun _ _ h => h)) (hb8.fr f (fun _ _ h => h)))
        have HEQ2 := Lib.hid (fun (V : World) (f : Fr None w8 V) => equal_yes hp gp first q c s tq tc text (some ⟨rb, 0, none⟩) m ring m lq lc' bq bc b V m HP.out.hok (by omega) (by omega) ((S8.same f).at_ 7 rfl) (((S8.same f).at_ 5 rfl).cell 0) (row_reads ((S8.same f).at_ 6 rfl)) (brow_reads ((S8.same f).at_ 8 rfl)) (row_reads ((S8.same f).at_ 12 rfl)) (brow_reads ((S8.same f).at_ 13 rfl)))
        have HA := Lib.hid (((Fr.refl None w8).alloc (.cells (r3c first m lq8 lc8 t.l bq8 bc8 t.b) R3T)).alloc (.cells #[.int .i64 t.o, .int .i64 t.e, .int .i64 t.f, .bool t.d, .int .i64 t.d1, .int .i64 t.d2] Q3T))
        have HF8 := Lib.hid F8
        have HS8 := Lib.hid S8
        clear S8 F8 hl8 hb8 o0 o1 b0 b1 b2 b3
        go_wp2_with (first
          | ((with_reducible refine (HEQ1.out _ HA.out).mono ?_); rintro y9 w9 ⟨rfl, F9⟩; have HF9 := Lib.hid (HA.out.trans F9); clear F9; have b0 : w9.cell? ⟨w1.heap.size, 0, none⟩ = some (.int .u32 first) := cell_frN (HF8.out.trans HF9.out) HB8.out.1; have b1 : w9.cell? ⟨w1.heap.size, 1, none⟩ = some (.int .i64 m) := cell_frN (HF8.out.trans HF9.out) HB8.out.2.1; have b2 : w9.cell? ⟨w1.heap.size, 2, none⟩ = some (.slice lq s.length lc') := cell_frN (HF8.out.trans HF9.out) HB8.out.2.2.1; have b3 : w9.cell? ⟨w1.heap.size, 3, none⟩ = some (.slice bq b.length bc) := cell_frN (HF8.out.trans HF9.out) HB8.out.2.2.2)
          | ((with_reducible refine (HEQ2.out _ HF9.out).mono ?_); rintro y10 w10 ⟨rfl, F10⟩; have HF10 := Lib.hid (HF9.out.trans F10); clear F10)
          | ((with_reducible refine (known23_any _).mono ?_); rintro y11 w11 ⟨rfl, F11⟩; have HF11 := Lib.hid (HF10.out.trans F11); clear F11)
          | fail)
        go_ret
        exact ⟨by simp, (HS8.out.same HF11.out).fr.none_below⟩
      · skip
        go_upto_region 20 with ((with_reducible refine (HCL.out).mono ?_); rintro e6 w6 ⟨hp6, gp6, q6, c6, tq6, tc6, rq6, rc6, rfl, T6⟩)
        have S6 := HS1.out.beside T6
        obtain ⟨rb6, hrb6⟩ := brow_at0 (S6.at_ 4 rfl) (show 0 < ring.length by omega)
        subst hrb6
        have o0 : w6.cell? ⟨w.heap.size, 0, none⟩ = some (.int .u32 oN) := (S6.at_ 10 rfl).cell 0
        have o1 : w6.cell? ⟨w.heap.size, 1, none⟩ = some (.slice oa ol.length oc) := (S6.at_ 10 rfl).cell 1
        have HTK6 := Lib.hid (show Calls Try.prog 42 #[.pointer (at0 hp6), .int .u32 oN, .slice oa ol.length oc] w6 (HTake None w _ hp6 gp6 rb6 rc6 m first t text.length) from by have h := htake_all (D := None) (w0 := w) hp6 gp6 first oN q6 c6 s tq6 tc6 text rb6 rc6 ring b oa oc ol w6 S6 (fun V f h0 => (HOB.out h0).fr (Sep.old S6 f) (fun _ _ h => h)) (by rw [hrl]; exact HP.out.hok) (by omega) (by omega) (by omega); rw [hrl, ← HT.out] at h; exact h)
        have HS6 := Lib.hid S6
        clear S6 T6 HCL
        go_upto_region 21 with ((with_reducible refine (HTK6.out).mono ?_); rintro e7 w7 ⟨q7, c7, tq7, tc7, text7, ring7, rfl, hok7, hrl7, htl7, S7⟩)
        clear o0 o1
        have o0 : w7.cell? ⟨w.heap.size, 0, none⟩ = some (.int .u32 oN) := (S7.at_ 10 rfl).cell 0
        have o1 : w7.cell? ⟨w.heap.size, 1, none⟩ = some (.slice oa ol.length oc) := (S7.at_ 10 rfl).cell 1
        have b0 : w7.cell? ⟨w1.heap.size, 0, none⟩ = some (.int .u32 first) := (S7.at_ 11 rfl).cell 0
        have b1 : w7.cell? ⟨w1.heap.size, 1, none⟩ = some (.int .i64 m) := (S7.at_ 11 rfl).cell 1
        have b2 : w7.cell? ⟨w1.heap.size, 2, none⟩ = some (.slice lq s.length lc') := (S7.at_ 11 rfl).cell 2
        have b3 : w7.cell? ⟨w1.heap.size, 3, none⟩ = some (.slice bq b.length bc) := (S7.at_ 11 rfl).cell 3
        have HB8 := Lib.hid (And.intro b0 (And.intro b1 (And.intro b2 b3)))
        have HRK := Lib.hid (show Calls Try.prog 47 #[.agg (r3c first m lq lc' s bq bc b), .int .u32 oN, .slice oa ol.length oc] w7 (R3Keep w7 first m t) from by have h := r3take_keep first oN text.length m lq lc' s bq bc b oa oc ol w7 HP.out.hok.ok (row_reads (S7.at_ 12 rfl)) (brow_reads (S7.at_ 13 rfl)) (fun h0 => (HOB.out h0).fr S7.fr (fun _ _ h => h)) (by omega) (by have := HP.out.hok.bl; omega) HP.out.hok.nx (by omega) HP.out.mm HU.out.2 HP.out.fu; rw [← HT.out] at h; exact h)
        have HS7 := Lib.hid S7
        have HK7 := Lib.hid hok7
        have htl8 := hT_len HP.out.hok (by omega) t HT.out
        clear S7 hok7 HTK6 HS6
        go_upto_region 22 with ((with_reducible refine (HRK.out).mono ?_); rintro e8 w8 ⟨lq8, lc8, bq8, bc8, rfl, F8, hl8, hb8⟩)
        have S8 := HS7.out.same F8
        have HEQ1 := Lib.hid (fun (V : World) (f : Fr None w8 V) => equal_yes hp6 gp6 first q7 c7 t.l tq7 tc7 text7 (some ⟨rb6, 0, none⟩) rc6 ring7 m lq8 lc8 bq8 bc8 t.b V m HK7.out (by omega) (by omega) ((S8.same f).at_ 2 rfl) (((S8.same f).at_ 0 rfl).cell 0) (row_reads ((S8.same f).at_ 1 rfl)) (brow_reads ((S8.same f).at_ 3 rfl)) (hl8.fr f (fun _ _ h => h)) (hb8.fr f (fun _ _ h => h)))
        have HEQ2 := Lib.hid (fun (V : World) (f : Fr None w8 V) => equal_yes hp gp first q c s tq tc text (some ⟨rb, 0, none⟩) m ring m lq lc' bq bc b V m HP.out.hok (by omega) (by omega) ((S8.same f).at_ 7 rfl) (((S8.same f).at_ 5 rfl).cell 0) (row_reads ((S8.same f).at_ 6 rfl)) (brow_reads ((S8.same f).at_ 8 rfl)) (row_reads ((S8.same f).at_ 12 rfl)) (brow_reads ((S8.same f).at_ 13 rfl)))
        have HA := Lib.hid (((Fr.refl None w8).alloc (.cells (r3c first m lq8 lc8 t.l bq8 bc8 t.b) R3T)).alloc (.cells #[.int .i64 t.o, .int .i64 t.e, .int .i64 t.f, .bool t.d, .int .i64 t.d1, .int .i64 t.d2] Q3T))
        have HF8 := Lib.hid F8
        have HS8 := Lib.hid S8
        clear S8 F8 hl8 hb8 o0 o1 b0 b1 b2 b3
        go_wp2_with (first
          | ((with_reducible refine (HEQ1.out _ HA.out).mono ?_); rintro y9 w9 ⟨rfl, F9⟩; have HF9 := Lib.hid (HA.out.trans F9); clear F9; have b0 : w9.cell? ⟨w1.heap.size, 0, none⟩ = some (.int .u32 first) := cell_frN (HF8.out.trans HF9.out) HB8.out.1; have b1 : w9.cell? ⟨w1.heap.size, 1, none⟩ = some (.int .i64 m) := cell_frN (HF8.out.trans HF9.out) HB8.out.2.1; have b2 : w9.cell? ⟨w1.heap.size, 2, none⟩ = some (.slice lq s.length lc') := cell_frN (HF8.out.trans HF9.out) HB8.out.2.2.1; have b3 : w9.cell? ⟨w1.heap.size, 3, none⟩ = some (.slice bq b.length bc) := cell_frN (HF8.out.trans HF9.out) HB8.out.2.2.2)
          | ((with_reducible refine (HEQ2.out _ HF9.out).mono ?_); rintro y10 w10 ⟨rfl, F10⟩; have HF10 := Lib.hid (HF9.out.trans F10); clear F10)
          | ((with_reducible refine (known23_any _).mono ?_); rintro y11 w11 ⟨rfl, F11⟩; have HF11 := Lib.hid (HF10.out.trans F11); clear F11)
          | fail)
        go_ret
        exact ⟨by simp, (HS8.out.same HF11.out).fr.none_below⟩
end Go.Proofs.Ytfobeheplficgaa
