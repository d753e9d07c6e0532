/- Numerals: the document's and the library's, walked. -/
import Derived.Test.YtedogalndhackaaDoorSc1
import Derived.Test.YtedogalndhackaaDoorShf
import Derived.Lib.AppendIntMem
import Derived.Deep.DrawnRows
set_option linter.unusedVariables false
set_option linter.unusedSimpArgs false
namespace Go.Proofs.YtedogalndhackaaDoor
open Go.RowKit Go.Und Go.Shelf Go.Sort
attribute [local go_sem] Oper.semAt_some
attribute [local go_sem ↓] Go.wp_at_zero Go.wp_at_succ

/-- A text, as a value. -/
abbrev st (l : List UInt8) : Value := .string ⟨l.toArray⟩
/-- Bytes, as numbers. -/
abbrev nb (l : List UInt8) : List Int := l.map fun b => (b.toNat : Int)
theorem strOf_nb (l : List UInt8) : strOfNums (nb l) = ⟨l.toArray⟩ := by
  simp [strOfNums, Function.comp_def]
theorem nb_len (l : List UInt8) : (nb l).length = l.length := by simp
theorem nb_append (l m : List UInt8) : nb (l ++ m) = nb l ++ nb m := by simp
theorem st_add (l m : List UInt8) : (⟨l.toArray⟩ : ByteArray) ++ ⟨m.toArray⟩ = ⟨(l ++ m).toArray⟩ := by
  apply ByteArray.ext
  simp
theorem st_run (x y : List UInt8) (h : x.length + y.length ≤ 9223372036854775807) (W : World) : (Op.stringOp .add ⟨x.toArray⟩ ⟨y.toArray⟩).run Tryd.prog W = .ok (.string ⟨(x ++ y).toArray⟩) W := by
  have h' : ¬ ((9223372036854775807 : Int) < ((⟨x.toArray⟩ : ByteArray).size : Int) + ((⟨y.toArray⟩ : ByteArray).size : Int)) := by
    simp [ByteArray.size]; omega
  simp [Op.stringOp, h', st_add]
/-- A row of bytes. -/
def ubc (b : UInt8) : List Value := [.int .u8 (b.toNat : Int)]
theorem ubc_len : ∀ x, (ubc x).length = 1 := fun _ => rfl
theorem ubc_one : ∀ x, ∀ u ∈ ubc x, u.oneCell' = true := fun x u hu => by
  rw [List.mem_singleton.1 hu]; rfl
theorem fc_ub (l : List UInt8) : fc ubc l = fc u8c (nb l) := by
  induction l with
  | nil => rfl
  | cons x l ih => rw [fc_cons, ih]; rfl
abbrev urow (q : Option Addr) (cap : Nat) (l : List UInt8) : Ob := Ob.row 0 U8T 1 (.slice q l.length cap) l.length (fc ubc l)
theorem urow_brow {w : World} {q : Option Addr} {c : Nat} {l : List UInt8} (h : (urow q c l).ok w) : (brow q c (nb l)).ok w := by
  have h' : w.ownsRow 0 U8T 1 (.slice q l.length c) l.length (fc ubc l) := h
  show w.ownsRow 0 U8T 1 (.slice q (nb l).length c) (nb l).length (fc u8c (nb l))
  rw [nb_len, ← fc_ub]; exact h'
theorem urow_reads {w : World} {q : Option Addr} {c : Nat} {l : List UInt8} (h : (urow q c l).ok w) : Reads w 1 q l.length c (fc ubc l) := (Owns.reads (show Owns ubc 1 U8T w _ l from h)).2.1
theorem urow_lit (w : World) (l : List UInt8) (hl : l.length ≤ maxLen) : (urow (some ⟨w.heap.size, 0, none⟩) l.length l).ok (w.alloc (.cells (fc ubc l).toArray U8T)) := by
  have e : (fc ubc l).length = l.length := by rw [fc_length ubc_len]; omega
  exact World.ownsRow_lit w _ l.length (Nat.zero_le _) hl (by show (fc ubc l).length = l.length * 1; omega)
theorem conv_st {w : World} {q : Option Addr} {c : Nat} {l : List UInt8} (h : (urow q c l).ok w) : (convert BlT 9 (.slice q l.length c)).run Tryd.prog w = .ok (st l) w := by
  have := conv_run (urow_brow h)
  rwa [nb_len, strOf_nb] at this
/-- Append, a byte set ahead of a row. -/
theorem wpList_pre {D : Nat → Prop} {w0 W : World} {L : List Ob} (S : Sep D w0 W L) (i : Nat) {qi : Option Addr} {ci : Nat} {l : List UInt8} (h : L[i]? = some (urow qi ci l)) (e : UInt8) {ops : Array Oper} {o : Oper} {rest : List Oper} {a : Act} {Q : Exit → Act → World → Prop}
    (hgd : o.guard = none) (s x : Operand) (ho : o.op = .call { callee := .builtin .append, args := #[s, x], argTypes := #[BlT, BlT] }) (hs : a.eval s = .slice (some ⟨W.heap.size, 0, none⟩) 1 1) (hx : a.eval x = .slice qi l.length ci) (hl : l.length ≤ 1000000)
    (K : ∀ q' c' W', Sep D w0 W' (urow q' c' (e :: l) :: L) → wpList Tryd.prog ops Q rest (a.put o.dst (.slice q' (e :: l).length c')) W') : wpList Tryd.prog ops Q (o :: rest) a (W.alloc (.cells #[.int .u8 (e.toNat : Int)] U8T)) := by
  obtain ⟨inf, hi1, hz0, hz1, hz2⟩ := info_parts u8Info
  have S1 := S.add (w' := W.alloc (.cells #[.int .u8 (e.toNat : Int)] U8T)) (urow (some ⟨W.heap.size, 0, none⟩) 1 [e]) ((Fr.refl None W).alloc _) (urow_lit W [e] (by simp [maxLen])) (fun k hk => by cases hk; exact Nat.le_refl _)
  have hr := urow_reads (S1.at_ (i + 1) h)
  have hlen : (e :: l).length = 1 + l.length := by simp [Nat.add_comm]
  refine wpList_append_row _ hgd s x BlT ho 0 U8T inf _ 1 1 Tryd.underlying28 hi1 hz0 hz1 hz2 rfl (by decide) _ 1 (fc ubc [e]) hs (S1.at_ 0 rfl) qi l.length ci (fc ubc l) hx hr (fc_one ubc_one _) (by simp [maxLen]; omega) (by omega) (Nat.zero_le _) ?_
  intro q2 c2' w8 ho2 hf2 hb2
  have hob : ∀ k, (Ob.row 0 U8T 1 (.slice q2 (1 + l.length) c2') (1 + l.length) (fc ubc [e] ++ fc ubc l)).fp k → (urow (some ⟨W.heap.size, 0, none⟩) 1 [e]).fp k ∨ (W.alloc (.cells #[.int .u8 (e.toNat : Int)] U8T)).heap.size ≤ k := fun k hk => by
    have hk' : (Value.slice q2 (1 + l.length) c2').ownBlock = some k := hk
    rcases hb2 with e' | e'
    · exact .inl (Eq.trans (show (Value.slice (some ⟨W.heap.size, 0, none⟩) 1 1).ownBlock = (Value.slice q2 (1 + l.length) c2').ownBlock from e'.symm) hk')
    · rw [e'] at hk'; cases hk'; exact .inr (Nat.le_refl _)
  have S8 := S1.turn 0 rfl (Ob.row 0 U8T 1 (.slice q2 (1 + l.length) c2') (1 + l.length) (fc ubc [e] ++ fc ubc l)) hf2 (fun _ _ h => h) ho2 hob
  rw [← fc_append] at S8
  rw [← hlen] at S8 ⊢
  exact K q2 c2' w8 S8
theorem dd_len : ∀ (u : Nat), u < 10 ^ 20 → (dd u).length ≤ 20 := by
  have key : ∀ (k u : Nat), u < 10 ^ k → (dd u).length ≤ k := by
    intro k
    induction k with
    | zero => intro u h; obtain rfl : u = 0 := by omega
              simp [dd]
    | succ k ih =>
      intro u h
      by_cases h0 : u = 0
      · subst h0; simp [dd]
      · rw [dd_step (by omega), List.length_append]
        have := ih (u / 10) (by rw [Nat.pow_succ] at h; omega)
        simp; omega
  exact key 20

theorem dd_le {a b : Nat} {l : List UInt8} (h : dd a ++ l = dd b) : a ≤ b := by
  have key : ∀ (l : List UInt8) (b : Nat), dd a ++ l.reverse = dd b → a ≤ b := by
    intro l
    induction l with
    | nil => intro b h; rw [List.reverse_nil, List.append_nil] at h; exact Nat.le_of_eq (dd_inj h)
    | cons x l ih =>
      intro b h
      by_cases hb : b = 0
      · subst hb; simp [dd] at h
      · rw [dd_step (u := b) (by omega), List.reverse_cons, ← List.append_assoc] at h
        obtain ⟨h1, _⟩ := List.append_inj' h rfl
        have := ih (b / 10) h1
        omega
  exact key l.reverse b (by rw [List.reverse_reverse]; exact h)
set_option maxRecDepth 100000 in
set_option maxHeartbeats 1000000 in
theorem number_any (n : Int) (h0 : -9223372036854775808 ≤ n) (h1 : n ≤ 9223372036854775807) (w : World) :
    Calls Tryd.prog 26 #[.int .i64 n] w fun e w' => e = .returned (st (Lib.itoa n)) ∧ Fr None w w' := by
  by_cases hz : n = 0
  · subst hz
    go_enter Tryd.func26, Tryd.ntmps26
    go_wp2_with fail
    go_ret
    exact ⟨by rw [itoa_dd, if_pos rfl]; rfl, Fr.refl _ _⟩
  · have hnz : (n == 0) = false := by simpa using hz
    go_enter Tryd.func26, Tryd.ntmps26
    go_wp2_with fail
    go_loopg [3, 4, 5] n.natAbs (fun r lf mf xf wr => ∃ (m : Int) (q : Option Addr) (d : Nat) (l : List UInt8), m.natAbs = r ∧ mf = .int .i64 m ∧ lf = .slice q l.length d ∧ (n < 0 → m ≤ 0) ∧ (0 ≤ n → 0 ≤ m) ∧ dd m.natAbs ++ l = dd n.natAbs ∧ Sep None w wr [urow q d l])
    case atStart => exact ⟨n, none, 0, [], rfl, rfl, rfl, fun h => by omega, fun h => by omega, by simp, ((Sep.law w).add (urow none 0 []) (Fr.refl None _) (Owns.nil ubc 1 U8T _) (fun k hk => by cases hk))⟩
    case round =>
      obtain ⟨m, q, d, l, hk, rfl, rfl, hm1, hm2, hd, S⟩ := hrel
      by_cases g : m = 0
      · subst g
        have hmz : ((0 : Int) != 0) = false := rfl
        have hdl : l = dd n.natAbs := by simpa [dd] using hd
        have hc := conv_st (S.at_ 0 rfl)
        have HF := Lib.hid S.fr
        have HE := Lib.hid (itoa_dd n)
        have HB := Lib.hid (And.intro h0 h1)
        rw [if_neg hz] at HE
        have HDL := Lib.hid hdl
        clear S hd hdl h0 h1
        by_cases gn : n < 0
        · rw [if_pos gn] at HE
          have hl2 : l.length ≤ 20 := by rw [HDL.out]; exact dd_len _ (by have := HB.out; omega)
          have hsa := st_run [45] l (by simp; omega)
          go_wp2_with fail
          go_ret
          refine ⟨?_, HF.out⟩
          rw [HE.out, ← HDL.out]
          rfl
        · rw [if_neg gn] at HE
          go_wp2_with fail
          go_ret
          refine ⟨?_, HF.out⟩
          rw [HE.out, ← HDL.out]
          rfl
      · have hmz : (m != 0) = true := by simpa using g
        have HS := Lib.hid S
        have HD := Lib.hid hd
        have hlen : l.length ≤ 1000000 := by
          have e1 := congrArg List.length hd
          have e2 := dd_len n.natAbs (by omega)
          rw [List.length_append] at e1
          omega
        have hq : m.tdiv 10 = if m < 0 then -((m.natAbs / 10 : Nat) : Int) else ((m.natAbs / 10 : Nat) : Int) := by
          by_cases gm : m < 0
          · rw [if_pos gm]
            obtain ⟨u, rfl⟩ : ∃ u : Nat, m = -(u : Int) := ⟨m.natAbs, by omega⟩
            rw [Int.neg_tdiv]; simp
          · rw [if_neg gm]
            obtain ⟨u, rfl⟩ : ∃ u : Nat, m = (u : Int) := ⟨m.natAbs, by omega⟩
            simp
        have hr : m.tmod 10 = if m < 0 then -((m.natAbs % 10 : Nat) : Int) else ((m.natAbs % 10 : Nat) : Int) := by
          by_cases gm : m < 0
          · rw [if_pos gm]
            obtain ⟨u, rfl⟩ : ∃ u : Nat, m = -(u : Int) := ⟨m.natAbs, by omega⟩
            rw [Int.neg_tmod, Int.tmod_eq_emod_of_nonneg (by omega)]; simp
          · rw [if_neg gm]
            obtain ⟨u, rfl⟩ : ∃ u : Nat, m = (u : Int) := ⟨m.natAbs, by omega⟩
            rw [Int.tmod_eq_emod_of_nonneg (by omega)]; simp
        have HQ := Lib.hid hq
        have HR := Lib.hid hr
        have hmb : m.natAbs ≤ 9223372036854775808 := by
          have := dd_le hd
          omega
        have hmd : m.natAbs % 10 < 10 := Nat.mod_lt _ (by decide)
        clear S hd hq hr
        have hx : ((UInt8.ofNat (48 + m.natAbs % 10)).toNat : Int) = 48 + ((m.natAbs % 10 : Nat) : Int) := by
          rw [UInt8.toNat_ofNat']; omega
        have HX := Lib.hid hx
        clear hx
        go_wp2_with (at_builtin; refine Hold.out ?_)
        · refine Hold.mk ?_
          have e : wrap64 (48 + wrap64 (-m.tmod 10)) % 256 = ((UInt8.ofNat (48 + m.natAbs % 10)).toNat : Int) := by
            have hs : m.tmod 10 < 0 := by assumption
            have hr := HR.out
            rw [HX.out]
            have e1 : wrap64 (-m.tmod 10) = ((m.natAbs % 10 : Nat) : Int) := by
              rw [wrap64]; split at hr <;> omega
            rw [e1, wrap64]; omega
          rw [e]
          refine wpList_pre HS.out 0 rfl _ rfl _ _ rfl rfl rfl hlen ?_
          intro q2 c2 W2 S2
          have HS2 := Lib.hid (S2.drop (.cons_cons _ (.cons _ .slnil)))
          clear S2
          go_wp2_with fail
          go_roundg (m.tdiv 10).natAbs
          case measure => rw [tdiv_abs]; omega
          case rel =>
            have hq := HQ.out
            refine ⟨m.tdiv 10, q2, c2, _, rfl, ?_, rfl, fun h => ?_, fun h => ?_, ?_, HS2.out⟩
            · rw [wrap64]; split at hq <;> congr 1 <;> omega
            · have := hm1 h; split at hq <;> omega
            · have := hm2 h; split at hq <;> omega
            · rw [← HD.out, tdiv_abs, dd_step (u := m.natAbs) (by omega)]; simp
        · refine Hold.mk ?_
          have e : wrap64 (48 + m.tmod 10) % 256 = ((UInt8.ofNat (48 + m.natAbs % 10)).toNat : Int) := by
            have hs : 0 ≤ m.tmod 10 := by first | assumption | omega
            have hr := HR.out
            rw [HX.out]
            rw [wrap64]; split at hr <;> omega
          rw [e]
          refine wpList_pre HS.out 0 rfl _ rfl _ _ rfl rfl rfl hlen ?_
          intro q2 c2 W2 S2
          have HS2 := Lib.hid (S2.drop (.cons_cons _ (.cons _ .slnil)))
          clear S2
          go_wp2_with fail
          go_roundg (m.tdiv 10).natAbs
          case measure => rw [tdiv_abs]; omega
          case rel =>
            have hq := HQ.out
            refine ⟨m.tdiv 10, q2, c2, _, rfl, ?_, rfl, fun h => ?_, fun h => ?_, ?_, HS2.out⟩
            · rw [wrap64]; split at hq <;> congr 1 <;> omega
            · have := hm1 h; split at hq <;> omega
            · have := hm2 h; split at hq <;> omega
            · rw [← HD.out, tdiv_abs, dd_step (u := m.natAbs) (by omega)]; simp
end Go.Proofs.YtedogalndhackaaDoor
