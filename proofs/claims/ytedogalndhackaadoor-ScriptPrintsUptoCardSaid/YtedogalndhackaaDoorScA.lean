/- Scripts, in both packages: walked. -/
import Derived.Test.YtedogalndhackaaDoorSc9
set_option linter.unusedVariables false
set_option linter.unusedSimpArgs false
namespace Go.Proofs.YtedogalndhackaaDoor
open Go.RowKit Go.Und Go.Shelf Go.Sort
attribute [local go_sem] Oper.semAt_some
attribute [local go_sem ↓] Go.wp_at_zero Go.wp_at_succ

abbrev BdT : TypeId := 62
theorem fr_below {w w1 w2 : World} (f : Fr None w w1) (b : Below w.heap.size w1 w2) : Fr None w w2 :=
  ⟨b.os.trans f.os, b.tape.trans f.tape, b.output.trans f.output, Nat.le_trans f.size b.size, fun i hi _ => (b.block i hi).trans (f.block i hi (fun h => h))⟩
theorem bldAt_fr {T e : TypeId} {B b : Nat} {p : Value} {bs : List Value} {w w' : World} (h : Lib.BuilderAt T e B b p bs w) (f : Fr None w w') : Lib.BuilderAt T e B b p bs w' := by
  obtain ⟨hB, v, hb, hown, hne⟩ := h
  exact ⟨hB, v, (f.block b (heap_lt hb) (fun h => h)).trans hb, (Ob.row B e 1 v bs.length bs).same hown f, hne⟩
theorem bld_fr {T e : TypeId} {B b : Nat} {bs : List Value} {w w' : World} (h : Lib.IsBuilder T e B b bs w) (f : Fr None w w') : Lib.IsBuilder T e B b bs w' :=
  h.elim (fun h => .inl (bldAt_fr h f)) (fun h => .inr (bldAt_fr h f))
theorem bld_base {T e : TypeId} {B B' b : Nat} {w : World} (h : Lib.IsBuilder T e B b [] w) (hB : B' ≤ B := by omega) : Lib.IsBuilder T e B' b [] w := by
  have key : ∀ p, Lib.BuilderAt T e B b p [] w → Lib.BuilderAt T e B' b p [] w := by
    rintro p ⟨h1, v, hb, ⟨hl, hown⟩, hne⟩
    refine ⟨by omega, v, hb, ⟨hl, ?_⟩, hne⟩
    rcases hown with h2 | ⟨g, cap, cur, rfl, hg, r⟩
    · exact .inl h2
    · exact .inr ⟨g, cap, cur, rfl, by omega, r⟩
  exact h.elim (fun h => .inl (key _ h)) (fun h => .inr (key _ h))
theorem write_any (B b : Nat) (t s : List UInt8) (w : World) (h : Lib.IsBuilder BdT U8T B b (Lib.byteCells t) w) (hl : t.length + s.length ≤ 140737488355328) (hB : B ≤ w.heap.size) :
    Calls Tryd.prog 28 #[.pointer (some ⟨b, 0, none⟩), st s] w fun e w' => e = .returned (.tuple #[.int .i64 s.length, .nilIface]) ∧ Lib.IsBuilder BdT U8T B b (Lib.byteCells (t ++ s)) w' ∧ Below B w w' := by
  have := Tryd.Builder_WriteString B b (Lib.byteCells t) ⟨s.toArray⟩ w h (by rw [Lib.byteCells_length]; exact hl) hB
  refine this.mono ?_
  rintro e w' ⟨rfl, h1, h2⟩
  refine ⟨rfl, .inr ?_, h2⟩
  rw [Lib.byteCells_append]; exact h1

/-- An operation, and where its bytes lie. -/
structure OpR where
  k : Int
  n : Int
  b : List UInt8
  q : Option Addr
  c : Nat
def opc (o : OpR) : List Value := [.int .i64 o.k, .int .i64 o.n, .slice o.q o.b.length o.c]
theorem opc_len : ∀ x, (opc x).length = 3 := fun _ => rfl
theorem opc_one : ∀ x, ∀ u ∈ opc x, u.oneCell' = true := fun x u hu => by
  simp only [opc, List.mem_cons, List.not_mem_nil, or_false] at hu
  rcases hu with rfl | rfl | rfl <;> rfl
def OpOk (w : World) (o : OpR) : Prop := (-9223372036854775808 ≤ o.n ∧ o.n ≤ 9223372036854775807) ∧ o.b.length ≤ 2000000 ∧ (0 < o.b.length → Reads w 1 o.q o.b.length o.c (fc ubc o.b))
theorem OpOk.fr {w w' : World} {o : OpR} (h : OpOk w o) (f : Fr None w w') : OpOk w' o := ⟨h.1, h.2.1, fun g => (h.2.2 g).fr f (fun _ _ h => h)⟩
structure OpsAt (w : World) (qs : Option Addr) (cs : Nat) (l : List OpR) : Prop where
  rd : 0 < l.length → Reads w 3 qs l.length cs (fc opc l)
  ok : ∀ o ∈ l, OpOk w o
theorem OpsAt.fr {w w' : World} {qs : Option Addr} {cs : Nat} {l : List OpR} (h : OpsAt w qs cs l) (f : Fr None w w') : OpsAt w' qs cs l := ⟨fun g => (h.rd g).fr f (fun _ _ h => h), fun o ho => (h.ok o ho).fr f⟩
def errO (o : OpR) : Int := errL o.k o.n o.b
def lineO (o : OpR) : List UInt8 := lineL o.k o.n o.b
def linesS (l : List OpR) : List UInt8 := l.flatMap fun o => lineO o ++ [10]
/-- What is wrong first. -/
def firstE : List OpR → Int
  | [] => 0
  | o :: l => if errO o = 0 then firstE l else errO o
def printE (l : List OpR) : Int := if 4096 < l.length then 9 else firstE l
def printS (c : Cf) (l : List OpR) : List UInt8 := if printE l ≠ 0 then [] else headS c ++ [10] ++ linesS l
theorem firstE_at : ∀ {l : List OpR} {k : Nat} {o : OpR}, (∀ x ∈ l.take k, errO x = 0) → l[k]? = some o → errO o ≠ 0 → firstE l = errO o
  | [], _, _, _, h, _ => by simp at h
  | x :: l, 0, o, _, h, ho => by
    simp only [List.getElem?_cons_zero, Option.some.injEq] at h
    subst h; simp [firstE, ho]
  | x :: l, k + 1, o, hk, h, ho => by
    have h0 : errO x = 0 := hk x (by simp)
    simp only [List.getElem?_cons_succ] at h
    simp only [firstE, h0, if_true]
    exact firstE_at (fun y hy => hk y (by simp [hy])) h ho
theorem firstE_all : ∀ {l : List OpR}, (∀ x ∈ l, errO x = 0) → firstE l = 0
  | [], _ => rfl
  | x :: l, h => by
    simp only [firstE, h x (List.mem_cons_self ..), if_true]
    exact firstE_all (fun y hy => h y (List.mem_cons_of_mem _ hy))
theorem lines_snoc {l : List OpR} {k : Nat} {o : OpR} (h : l[k]? = some o) : linesS (l.take (k + 1)) = linesS (l.take k) ++ (lineO o ++ [10]) := by
  rw [List.take_add_one, h]; simp [linesS]
theorem line_len {k n : Int} {l : List UInt8} (h0 : -9223372036854775808 ≤ n) (h1 : n ≤ 9223372036854775807) (hl : l.length ≤ 2000000) : (lineL k n l).length ≤ 4000100 := by
  unfold lineL
  have h2 : (hexS l).length ≤ 4000001 := by unfold hexS; split <;> simp [hexL_len]; omega
  have h3 := itoa_len n h0 h1
  have h4 := word_len k.toNat
  split
  · simp
  · split
    · simp [wordL, wordsL]; omega
    · simp; omega
theorem lines_len {w : World} {l : List OpR} (h : ∀ o ∈ l, OpOk w o) : (linesS l).length ≤ 4000101 * l.length := by
  induction l with
  | nil => simp [linesS]
  | cons x l ih =>
    have h1 := ih (fun o ho => h o (List.mem_cons_of_mem _ ho))
    have h2 := h x (List.mem_cons_self ..)
    have h3 := line_len (k := x.k) h2.1.1 h2.1.2 h2.2.1
    have e : linesS (x :: l) = (lineO x ++ [10]) ++ linesS l := by simp [linesS]
    rw [e, List.length_append]
    simp only [lineO, List.length_append, List.length_cons, List.length_nil] at *
    omega
theorem head_len {c : Cf} (hc : c.ok) : (headS c).length ≤ 300 := by
  have h1 := nums_len hc.2.2
  have h2 := itoa_len c.f (by omega) (by have := hc.1; omega)
  rw [hc.2.1] at h1
  simp only [headS, senderW, List.length_append, List.length_cons, List.length_nil]
  omega

set_option maxRecDepth 100000 in
set_option maxHeartbeats 2000000 in
theorem print_any (c : Cf) (hc : c.ok) (qs : Option Addr) (cs : Nat) (l : List OpR) (w : World) (hT : Tabs w) (hO : OpsAt w qs cs l) :
    Calls Tryd.prog 11 #[.agg c.cs.toArray, .slice qs l.length cs] w fun e w' => e = .returned (.tuple #[st (printS c l), .int .i64 (printE l)]) ∧ Fr None w w' := by
  have hhl := head_len hc
  have HHd := Lib.hid (fun W (f : Fr None w W) => head_any c hc W (hT.fr f))
  obtain ⟨u, ns⟩ := c
  obtain ⟨hu, h7, hb⟩ := hc
  simp only at hu h7 hb
  obtain ⟨m0, m1, m2, m3, m4, m5, m6, rfl⟩ := seven h7
  have HHd2 := Lib.hid (fun W (f : Fr None w W) => show Calls Tryd.prog 13 #[.agg #[.int .u32 u, .int .i64 m0, .int .i64 m1, .int .i64 m2, .int .i64 m3, .int .i64 m4, .int .i64 m5, .int .i64 m6]] W _ from HHd.out W f)
  clear HHd
  have hf := (Fr.refl None w).alloc (.cells #[.int .u32 u, .int .i64 m0, .int .i64 m1, .int .i64 m2, .int .i64 m3, .int .i64 m4, .int .i64 m5, .int .i64 m6] CfT)
  show Calls _ _ #[.agg #[.int .u32 u, .int .i64 m0, .int .i64 m1, .int .i64 m2, .int .i64 m3, .int .i64 m4, .int .i64 m5, .int .i64 m6], _] _ _
  by_cases hbig : 4096 < l.length
  · have HE := Lib.hid (show printE l = 9 by unfold printE; rw [if_pos hbig])
    have HF := Lib.hid hf
    have g : ((4096 : Int) < l.length) = True := by simp only [eq_iff_iff, iff_true]; omega
    clear hf hO
    go_enter Tryd.func11, Tryd.ntmps11
    go_wp2_with fail
    go_ret2
    refine ⟨?_, HF.out⟩
    unfold printS
    rw [HE.out]; rfl
  · have g : ((4096 : Int) < l.length) = False := by simp only [eq_iff_iff, iff_false]; omega
    have HT := Lib.hid hT
    have HO := Lib.hid hO
    have hB0 := (Lib.fresh_isBuilder BdT U8T (w.alloc (.cells #[.int .u32 u, .int .i64 m0, .int .i64 m1, .int .i64 m2, .int .i64 m3, .int .i64 m4, .int .i64 m5, .int .i64 m6] CfT)))
    have hF := hf.alloc (.cells #[.pointer none, .slice none 0 0] BdT)
    have HH := Lib.hid (HHd2.out _ hF)
    have hsz : (w.alloc (.cells #[.int .u32 u, .int .i64 m0, .int .i64 m1, .int .i64 m2, .int .i64 m3, .int .i64 m4, .int .i64 m5, .int .i64 m6] CfT)).heap.size = w.heap.size + 1 := by simp
    rw [hsz] at hB0
    have HB0 := Lib.hid (show Lib.IsBuilder BdT U8T w.heap.size (w.heap.size + 1) (Lib.byteCells []) _ from bld_base hB0)
    have HF := Lib.hid hF
    have hs0 := st_run (headS ⟨u, [m0, m1, m2, m3, m4, m5, m6]⟩) [10] (by simp; omega)
    have HW := Lib.hid (fun W (h : Lib.IsBuilder BdT U8T w.heap.size (w.heap.size + 1) (Lib.byteCells []) W) (f : w.heap.size ≤ W.heap.size) => write_any w.heap.size (w.heap.size + 1) [] (headS ⟨u, [m0, m1, m2, m3, m4, m5, m6]⟩ ++ [10]) W h (by simp; omega) f)
    have HB := Lib.hid hb
    generalize hhd : headS ⟨u, [m0, m1, m2, m3, m4, m5, m6]⟩ = hd at *
    have HD := Lib.hid hhd
    clear hf hT hO HHd2 hB0 hF hsz hhd hb
    go_enter Tryd.func11, Tryd.ntmps11
    go_wp2_with (first
      | ((with_reducible refine HH.out.mono ?_); rintro e1 w1 ⟨rfl, f1⟩; have HF1 := Lib.hid (HF.out.trans f1); have HB1 := Lib.hid (bld_fr HB0.out f1); clear f1)
      | ((with_reducible refine (HW.out _ HB1.out HF1.out.size).mono ?_); rintro e2 w2 ⟨rfl, hb2, f2⟩; have HF2 := Lib.hid (fr_below HF1.out f2); have HB2 := Lib.hid hb2; clear f2 hb2))
    go_loopg [20] l.length (fun r i wr => ∃ (k : Nat) (t : List UInt8), k + r = l.length ∧ i = .int .i64 k ∧ (∀ x ∈ l.take k, errO x = 0) ∧ t = hd ++ [10] ++ linesS (l.take k) ∧ Lib.IsBuilder BdT U8T w.heap.size (w.heap.size + 1) (Lib.byteCells t) wr ∧ Fr None w wr)
    case atStart => exact ⟨0, _, by omega, rfl, by simp, by simp [linesS], HB2.out, HF2.out⟩
    case round =>
      obtain ⟨k, t, hk, rfl, he, ht, hB, hF⟩ := hrel
      by_cases g2 : k < l.length
      · have ex := List.getElem?_eq_getElem g2
        have hOw := HO.out.fr hF
        obtain ⟨b, off, rfl, hc⟩ := (hOw.rd (by omega)).elem opc_len (by decide) ex
        have hok := HO.out.ok _ (List.getElem_mem g2)
        have hok2 := hok.fr hF
        have HX := Lib.hid (lines_snoc ex)
        have HFE := Lib.hid (fun h => firstE_at he ex h)
        have hlt : t.length ≤ 20000000000 := by
          rw [ht, List.length_append, List.length_append]
          have := lines_len (w := w) (l := l.take k) (fun o ho => HO.out.ok o (List.mem_of_mem_take ho))
          rw [List.length_take] at this
          simp only [List.length_cons, List.length_nil]
          omega
        have HEK := Lib.hid (show errO l[k] = 0 → ∀ x ∈ l.take (k + 1), errO x = 0 from fun h x hx => by
          rw [List.take_add_one, ex] at hx
          rcases List.mem_append.1 hx with h1 | h1
          · exact he x h1
          · simp at h1; rw [h1]; exact h)
        generalize l[k] = o at *
        obtain ⟨ok, on, ob, oq, oc⟩ := o
        have q0 : wr.cell? ⟨b, off + k * 3, none⟩ = some (.int .i64 ok) := hc 0 _ rfl
        have q1 : wr.cell? ⟨b, off + k * 3 + 1, none⟩ = some (.int .i64 on) := hc 1 _ rfl
        have q2 : wr.cell? ⟨b, off + k * 3 + 2, none⟩ = some (.slice oq ob.length oc) := hc 2 _ rfl
        have hll : (lineL ok on ob).length ≤ 4000100 := line_len hok.1.1 hok.1.2 hok.2.1
        have HLn := Lib.hid (fun W (f : Fr None wr W) => line_any ok on hok.1.1 hok.1.2 ob hok.2.1 oq oc W (fun h => (hok2.fr f).2.2 h) (HT.out.fr (hF.trans f)))
        have hw := st_run (lineL ok on ob) [10] (by simp; omega)
        have HW2 := Lib.hid (fun W (h : Lib.IsBuilder BdT U8T w.heap.size (w.heap.size + 1) (Lib.byteCells t) W) (f : w.heap.size ≤ W.heap.size) => write_any w.heap.size (w.heap.size + 1) t (lineL ok on ob ++ [10]) W h (by simp; omega) f)
        have HBw := Lib.hid hB
        have HFw := Lib.hid hF
        have HTt := Lib.hid ht
        by_cases e0 : errL ok on ob = 0
        · have e1 : (errL ok on ob != 0) = false := by simp [e0]
          clear hB hF ht hc hOw hok hok2 ex he hll
          go_wp2_with (first
            | ((with_reducible refine (HLn.out _ (by exact (Fr.refl None wr).alloc _)).mono ?_); rintro e1 w1 ⟨rfl, f1⟩; have G1 := (show Fr None wr w1 from Fr.trans ((Fr.refl None wr).alloc _) f1); have HF1 := Lib.hid (HFw.out.trans G1); have HB1 := Lib.hid (bld_fr HBw.out G1); clear f1 G1)
            | ((with_reducible refine (HW2.out _ HB1.out HF1.out.size).mono ?_); rintro e2 w2 ⟨rfl, hb2, f2⟩; have HF2 := Lib.hid (fr_below HF1.out f2); have HB2 := Lib.hid hb2; clear f2 hb2))
          go_roundg (gk - 1)
          case measure => omega
          case rel => exact ⟨k + 1, _, by omega, rfl, HEK.out e0, by rw [HX.out, HTt.out]; simp [lineO], HB2.out, HF2.out⟩
        · have e1 : (errL ok on ob != 0) = true := by simpa using e0
          have HPE := Lib.hid (show printE l = errL ok on ob by unfold printE; rw [if_neg hbig]; exact HFE.out e0)
          clear hB hF ht hc hOw hok hok2 ex he hll
          go_wp2_with (first
            | ((with_reducible refine (HLn.out _ (by exact (Fr.refl None wr).alloc _)).mono ?_); rintro e1 w1 ⟨rfl, f1⟩; have G1 := (show Fr None wr w1 from Fr.trans ((Fr.refl None wr).alloc _) f1); have HF1 := Lib.hid (HFw.out.trans G1); have HB1 := Lib.hid (bld_fr HBw.out G1); clear f1 G1)
            | fail)
          go_ret2
          refine ⟨?_, HF1.out⟩
          unfold printS
          rw [HPE.out, if_pos e0]; rfl
      · obtain rfl : k = l.length := by omega
        rw [List.take_length] at he ht
        have HPE := Lib.hid (show printE l = 0 by unfold printE; rw [if_neg hbig]; exact firstE_all he)
        have HBw := Lib.hid hB
        have HFw := Lib.hid hF
        have HTt := Lib.hid ht
        have HSt := Lib.hid (Tryd.Builder_String_any w.heap.size (w.heap.size + 1) t wr hB hF.size)
        clear hB hF ht he
        go_wp2_with ((with_reducible refine HSt.out.mono ?_); rintro e2 w2 ⟨rfl, f2⟩; have HF2 := Lib.hid (fr_below HFw.out f2); clear f2)
        go_ret2
        refine ⟨?_, HF2.out⟩
        unfold printS
        rw [HPE.out, HTt.out, HD.out]; rfl
end Go.Proofs.YtedogalndhackaaDoor
