/- ScriptPrints: walked. -/
import Derived.Test.YtedogalndhackaaDoorScF
set_option linter.unusedVariables false
set_option linter.unusedSimpArgs false
namespace Go.Proofs.YtedogalndhackaaDoor
open Go.RowKit Go.Und Go.Shelf Go.Sort
attribute [local go_sem] Oper.semAt_some
attribute [local go_sem ↓] Go.wp_at_zero Go.wp_at_succ

abbrev OpsT : TypeId := 27
theorem opInfo : (Tryd.prog.info? OpT).map (fun i => (i.zero, i.size, i.bytes)) = some (some (.agg #[.int .i64 0, .int .i64 0, .slice none 0 0]), 3, 40) := by kernel_rfl
abbrev orow (q : Option Addr) (cap : Nat) (l : List OpR) : Ob := Ob.row 0 OpT 3 (.slice q l.length cap) l.length (fc opc l)
theorem wpList_pushO {D : Nat → Prop} {w0 W : World} {L : List Ob} (S : Sep D w0 W L) (i : Nat) {qi : Option Addr} {ci : Nat} {l : List OpR} (h : L[i]? = some (orow qi ci l)) (e : OpR) (n : Nat) (hn : l.length = n) {ops : Array Oper} {o : Oper} {rest : List Oper} {a : Act} {Q : Exit → Act → World → Prop}
    (hgd : o.guard = none) (s x : Operand) (ho : o.op = .call { callee := .builtin .append, args := #[s, x], argTypes := #[OpsT, OpsT] }) (hs : a.eval s = .slice qi n ci) (hx : a.eval x = .slice (some ⟨W.heap.size, 0, none⟩) 1 1) (hl : n ≤ 10000000)
    (K : ∀ q' c' W', Sep D w0 W' (L.set i (orow q' c' (l ++ [e]))) → wpList Tryd.prog ops Q rest (a.put o.dst (.slice q' (n + 1) c')) W') : wpList Tryd.prog ops Q (o :: rest) a (W.alloc (.cells (opc e).toArray OpT)) := by
  subst hn
  obtain ⟨inf, hi1, hz0, hz1, hz2⟩ := info_parts opInfo
  refine wpList_append_row _ hgd s x OpsT ho 0 OpT inf _ 3 40 Tryd.underlying27 hi1 hz0 hz1 hz2 rfl (by decide) _ l.length (fc opc l) hs ((S.skip _).at_ i h) (some ⟨W.heap.size, 0, none⟩) 1 1 (fc opc [e]) hx (reads_oneR W OpT e opc_len) (fc_one opc_one _) (by simp [maxLen]; omega) (by omega) (Nat.zero_le _) ?_
  intro q2 c2' w8 ho2 hf2 hb2
  have hob : ∀ k, (Ob.row 0 OpT 3 (.slice q2 (l.length + 1) c2') (l.length + 1) (fc opc l ++ fc opc [e])).fp k → (orow qi ci l).fp k ∨ (W.alloc (.cells (opc e).toArray OpT)).heap.size ≤ k := fun k hk => by
    have hk' : (Value.slice q2 (l.length + 1) c2').ownBlock = some k := hk
    rcases hb2 with e' | e'
    · exact .inl (Eq.trans (show (Value.slice qi l.length ci).ownBlock = (Value.slice q2 (l.length + 1) c2').ownBlock from e'.symm) hk')
    · rw [e'] at hk'; cases hk'; exact .inr (Nat.le_refl _)
  have S8 := (S.skip (.cells (opc e).toArray OpT)).turn i h (Ob.row 0 OpT 3 (.slice q2 (l.length + 1) c2') (l.length + 1) (fc opc l ++ fc opc [e])) hf2 (fun _ _ h => h) ho2 hob
  rw [← fc_append] at S8
  refine K q2 c2' w8 ?_
  have hlen : (l ++ [e]).length = l.length + 1 := by simp
  show Sep D w0 w8 (L.set i (Ob.row 0 OpT 3 (.slice q2 (l ++ [e]).length c2') (l ++ [e]).length (fc opc (l ++ [e]))))
  rw [hlen]; exact S8

set_option maxRecDepth 100000 in
set_option maxHeartbeats 4000000 in
theorem prints_walk (c : Cf) (hc : c.ok) (qs : Option Addr) (cs : Nat) (l : List OpR) (hl : l.length ≤ 1048576) (w : World) (hT : Tabs w) (hO : OpsAt w qs cs l) :
    Calls Tryd.prog 3 #[.agg c.cs.toArray, .slice qs l.length cs] w fun e w' => e = .returned (.bool true) ∧ Fr None w w' := by
  have HP1 := Lib.hid (fun W (f : Fr None w W) => print_any c hc qs cs l W (hT.fr f) (hO.fr f))
  have HP2 := Lib.hid (fun q2 c2 W (h : OpsAt W q2 c2 l) => rprint_any c hc q2 c2 l W h)
  have HH1 := Lib.hid (fun W (f : Fr None w W) => head_any c hc W (hT.fr f))
  have HH2 := Lib.hid (fun W => rhead_any c hc W)
  have HK := Lib.hid (fun W (f : Fr None w W) => known_any W (hT.fr f))
  obtain ⟨u, ns⟩ := c
  obtain ⟨hu, h7, hb⟩ := hc
  simp only at hu h7 hb
  obtain ⟨m0, m1, m2, m3, m4, m5, m6, rfl⟩ := seven h7
  have HP1 := Lib.hid (fun W f => show Calls Tryd.prog 11 #[.agg #[.int .u32 u, .int .i64 m0, .int .i64 m1, .int .i64 m2, .int .i64 m3, .int .i64 m4, .int .i64 m5, .int .i64 m6], .slice qs l.length cs] W _ from HP1.out W f)
  have HP2 := Lib.hid (fun q2 c2 W h => show Calls Tryd.prog 12 #[.agg #[.int .u32 u, .int .i64 m0, .int .i64 m1, .int .i64 m2, .int .i64 m3, .int .i64 m4, .int .i64 m5, .int .i64 m6], .slice q2 l.length c2] W _ from HP2.out q2 c2 W h)
  have HH1 := Lib.hid (fun W f => show Calls Tryd.prog 13 #[.agg #[.int .u32 u, .int .i64 m0, .int .i64 m1, .int .i64 m2, .int .i64 m3, .int .i64 m4, .int .i64 m5, .int .i64 m6]] W _ from HH1.out W f)
  have HH2 := Lib.hid (fun W => show Calls Tryd.prog 14 #[.agg #[.int .u32 u, .int .i64 m0, .int .i64 m1, .int .i64 m2, .int .i64 m3, .int .i64 m4, .int .i64 m5, .int .i64 m6]] W _ from HH2.out W)
  have S0 := (Sep.law w).alloc #[.int .u32 u, .int .i64 m0, .int .i64 m1, .int .i64 m2, .int .i64 m3, .int .i64 m4, .int .i64 m5, .int .i64 m6] CfT
  have HS0 := Lib.hid S0
  have HT := Lib.hid hT
  have HO := Lib.hid hO
  clear hT hO S0 hb h7 hu
  generalize printS ⟨u, [m0, m1, m2, m3, m4, m5, m6]⟩ l = ps at *
  generalize printE l = pe at *
  generalize headS ⟨u, [m0, m1, m2, m3, m4, m5, m6]⟩ = hd at *
  show Calls _ _ #[.agg #[.int .u32 u, .int .i64 m0, .int .i64 m1, .int .i64 m2, .int .i64 m3, .int .i64 m4, .int .i64 m5, .int .i64 m6], _] _ _
  go_enter Tryd.func3, Tryd.ntmps3
  go_wp2_with ((with_reducible refine (HK.out _ HS0.out.fr).mono ?_); rintro e1 w1 ⟨rfl, f1⟩; have HS1 := Lib.hid (HS0.out.same f1); clear f1)
  go_loopg [5, 6] l.length (fun r s i wr => ∃ (k : Nat) (q2 : Option Addr) (c2 : Nat), k + r = l.length ∧ i = .int .i64 k ∧ s = .slice q2 k c2 ∧ Sep None w wr [orow q2 c2 (l.take k), Ob.blk w.heap.size CfT #[.int .u32 u, .int .i64 m0, .int .i64 m1, .int .i64 m2, .int .i64 m3, .int .i64 m4, .int .i64 m5, .int .i64 m6]])
  case atStart => exact ⟨0, none, 0, by omega, rfl, rfl, HS1.out.add (orow none 0 []) (Fr.refl None _) (Owns.nil opc 3 OpT _) (fun k hk => by cases hk)⟩
  case round =>
    obtain ⟨k, q2, c2, hk, rfl, rfl, S⟩ := hrel
    by_cases g2 : k < l.length
    · have ex := List.getElem?_eq_getElem g2
      have hOw := HO.out.fr S.fr
      obtain ⟨b, off, rfl, hc⟩ := (hOw.rd (by omega)).elem opc_len (by decide) ex
      have hok := HO.out.ok _ (List.getElem_mem g2)
      have htk : l.take k ++ [l[k]] = l.take (k + 1) := by rw [List.take_add_one, ex]; rfl
      have hlk : (l.take k).length = k := by rw [List.length_take]; omega
      have HL1 := Lib.hid (fun W (f : Fr None w W) => line_any l[k].k l[k].n hok.1.1 hok.1.2 l[k].b hok.2.1 l[k].q l[k].c W (fun h => (hok.fr f).2.2 h) (HT.out.fr f))
      have HL2 := Lib.hid (fun W (f : Fr None w W) => rline_any l[k].k l[k].n hok.1.1 hok.1.2 l[k].b hok.2.1 l[k].q l[k].c W (fun h => (hok.fr f).2.2 h))
      generalize l[k] = o at *
      obtain ⟨ok, on, ob, oq, oc⟩ := o
      simp only at HL1 HL2
      have q0 : wr.cell? ⟨b, off + k * 3, none⟩ = some (.int .i64 ok) := hc 0 _ rfl
      have q1 : wr.cell? ⟨b, off + k * 3 + 1, none⟩ = some (.int .i64 on) := hc 1 _ rfl
      have q2' : wr.cell? ⟨b, off + k * 3 + 2, none⟩ = some (.slice oq ob.length oc) := hc 2 _ rfl
      have HTo := Lib.hid (fun W => to_any ok on oq ob.length oc W)
      have HTK := Lib.hid htk
      have HLK := Lib.hid hlk
      have HS := Lib.hid S
      have HX := Lib.hid ex
      generalize lineL ok on ob = ln at *
      generalize errL ok on ob = en at *
      have hq0 : w.cell? ⟨b, off + k * 3, none⟩ = some (.int .i64 ok) := by obtain ⟨_, _, e, hw⟩ := (HO.out.rd (by omega)).elem opc_len (by decide) ex; cases e; exact hw 0 _ rfl
      have hq1 : w.cell? ⟨b, off + k * 3 + 1, none⟩ = some (.int .i64 on) := by obtain ⟨_, _, e, hw⟩ := (HO.out.rd (by omega)).elem opc_len (by decide) ex; cases e; exact hw 1 _ rfl
      have hq2 : w.cell? ⟨b, off + k * 3 + 2, none⟩ = some (.slice oq ob.length oc) := by obtain ⟨_, _, e, hw⟩ := (HO.out.rd (by omega)).elem opc_len (by decide) ex; cases e; exact hw 2 _ rfl
      have HQ0 := Lib.hid (fun W (f : Fr None w W) => cell_frN f hq0)
      have HQ1 := Lib.hid (fun W (f : Fr None w W) => cell_frN f hq1)
      have HQ2 := Lib.hid (fun W (f : Fr None w W) => cell_frN f hq2)
      have hk1 : ((k : Int) < (k : Int) + 1) = True := eq_true (by omega)
      clear hc hOw hok htk hlk S ex hq0 hq1 hq2
      go_wp2_with (first
        | ((with_reducible refine (HTo.out _).mono ?_); rintro e1 w1 ⟨rfl, f1⟩; have HS2 := Lib.hid (HS.out.same f1); clear f1)
        | (at_builtin; refine Hold.out ?_))
      refine Hold.mk ?_
      refine wpList_pushO HS2.out 0 rfl ⟨ok, on, ob, oq, oc⟩ k HLK.out rfl _ _ rfl rfl rfl (by omega) ?_
      intro q3 c3 w3 S3
      simp only [List.set_cons_zero] at S3
      rw [HTK.out] at S3
      obtain ⟨g, rfl, _, hcc, _⟩ := Owns.elem opc_len (show Owns opc 3 OpT w3 (.slice q3 (l.take (k + 1)).length c3) (l.take (k + 1)) from S3.at_ 0 rfl) (by decide) (k := k) (by rw [List.getElem?_take, if_pos (by omega)]; exact HX.out)
      have p0 : w3.cell? ⟨g, k * 3, none⟩ = some (.int .i64 ok) := hcc 0 _ rfl
      have p1 : w3.cell? ⟨g, k * 3 + 1, none⟩ = some (.int .i64 on) := hcc 1 _ rfl
      have p2 : w3.cell? ⟨g, k * 3 + 2, none⟩ = some (.slice oq ob.length oc) := hcc 2 _ rfl
      have t0 : w3.cell? ⟨b, off + k * 3, none⟩ = some (.int .i64 ok) := HQ0.out _ S3.fr
      have t1 : w3.cell? ⟨b, off + k * 3 + 1, none⟩ = some (.int .i64 on) := HQ1.out _ S3.fr
      have t2 : w3.cell? ⟨b, off + k * 3 + 2, none⟩ = some (.slice oq ob.length oc) := HQ2.out _ S3.fr
      have HS3 := Lib.hid S3
      clear S3 hcc q0 q1 q2'
      by_cases g50 : k < 50
      · have g51 : ((k : Int) < 50) = True := by simp; omega
        go_wp2_with (first
          | ((with_reducible refine (HL1.out _ HS3.out.fr).mono ?_); rintro e4 w4 ⟨rfl, f4⟩; have HS4 := Lib.hid (HS3.out.same f4); have p0' := cell_frN f4 p0; have p1' := cell_frN f4 p1; have p2'' := cell_frN f4 p2; clear f4)
          | ((with_reducible refine (HL2.out _ HS4.out.fr).mono ?_); rintro e5 w5 ⟨rfl, f5⟩; have HS5 := Lib.hid (HS4.out.same f5); clear f5)
          | fail)
        go_roundg (gk - 1)
        case measure => omega
        case rel => exact ⟨k + 1, _, c3, by omega, rfl, rfl, HS5.out⟩
      · have g51 : ((k : Int) < 50) = False := by simp; omega
        go_wp2_with fail
        go_roundg (gk - 1)
        case measure => omega
        case rel => exact ⟨k + 1, _, c3, by omega, rfl, rfl, HS3.out⟩
    · obtain rfl : k = l.length := by omega
      rw [List.take_length] at S
      have HS := Lib.hid S
      have y0 : wr.cell? ⟨w.heap.size, 0, none⟩ = some (.int .u32 u) := (HS.out.at_ 1 rfl).cell 0
      have y1 : wr.cell? ⟨w.heap.size, 1, none⟩ = some (.int .i64 m0) := (HS.out.at_ 1 rfl).cell 1
      have y2 : wr.cell? ⟨w.heap.size, 2, none⟩ = some (.int .i64 m1) := (HS.out.at_ 1 rfl).cell 2
      have y3 : wr.cell? ⟨w.heap.size, 3, none⟩ = some (.int .i64 m2) := (HS.out.at_ 1 rfl).cell 3
      have y4 : wr.cell? ⟨w.heap.size, 4, none⟩ = some (.int .i64 m3) := (HS.out.at_ 1 rfl).cell 4
      have y5 : wr.cell? ⟨w.heap.size, 5, none⟩ = some (.int .i64 m4) := (HS.out.at_ 1 rfl).cell 5
      have y6 : wr.cell? ⟨w.heap.size, 6, none⟩ = some (.int .i64 m5) := (HS.out.at_ 1 rfl).cell 6
      have y7 : wr.cell? ⟨w.heap.size, 7, none⟩ = some (.int .i64 m6) := (HS.out.at_ 1 rfl).cell 7
      clear S
      go_wp2_with (first
        | ((with_reducible refine (HP1.out _ HS.out.fr).mono ?_); rintro e4 w4 ⟨rfl, f4⟩; have HS4 := Lib.hid (HS.out.same f4); have x0 : w4.cell? ⟨w.heap.size, 0, none⟩ = some (.int .u32 u) := (HS4.out.at_ 1 rfl).cell 0; have x1 : w4.cell? ⟨w.heap.size, 1, none⟩ = some (.int .i64 m0) := (HS4.out.at_ 1 rfl).cell 1; have x2 : w4.cell? ⟨w.heap.size, 2, none⟩ = some (.int .i64 m1) := (HS4.out.at_ 1 rfl).cell 2; have x3 : w4.cell? ⟨w.heap.size, 3, none⟩ = some (.int .i64 m2) := (HS4.out.at_ 1 rfl).cell 3; have x4 : w4.cell? ⟨w.heap.size, 4, none⟩ = some (.int .i64 m3) := (HS4.out.at_ 1 rfl).cell 4; have x5 : w4.cell? ⟨w.heap.size, 5, none⟩ = some (.int .i64 m4) := (HS4.out.at_ 1 rfl).cell 5; have x6 : w4.cell? ⟨w.heap.size, 6, none⟩ = some (.int .i64 m5) := (HS4.out.at_ 1 rfl).cell 6; have x7 : w4.cell? ⟨w.heap.size, 7, none⟩ = some (.int .i64 m6) := (HS4.out.at_ 1 rfl).cell 7; clear f4)
        | ((with_reducible refine (HP2.out q2 c2 _ ⟨fun _ => ((Owns.reads (show Owns opc 3 OpT _ (.slice q2 l.length c2) l from HS4.out.at_ 0 rfl)).2.1), fun o ho => (HO.out.ok o ho).fr HS4.out.fr⟩).mono ?_); rintro e5 w5 ⟨rfl, f5⟩; have HS5 := Lib.hid (HS4.out.same f5); have v0 : w5.cell? ⟨w.heap.size, 0, none⟩ = some (.int .u32 u) := (HS5.out.at_ 1 rfl).cell 0; have v1 : w5.cell? ⟨w.heap.size, 1, none⟩ = some (.int .i64 m0) := (HS5.out.at_ 1 rfl).cell 1; have v2 : w5.cell? ⟨w.heap.size, 2, none⟩ = some (.int .i64 m1) := (HS5.out.at_ 1 rfl).cell 2; have v3 : w5.cell? ⟨w.heap.size, 3, none⟩ = some (.int .i64 m2) := (HS5.out.at_ 1 rfl).cell 3; have v4 : w5.cell? ⟨w.heap.size, 4, none⟩ = some (.int .i64 m3) := (HS5.out.at_ 1 rfl).cell 4; have v5 : w5.cell? ⟨w.heap.size, 5, none⟩ = some (.int .i64 m4) := (HS5.out.at_ 1 rfl).cell 5; have v6 : w5.cell? ⟨w.heap.size, 6, none⟩ = some (.int .i64 m5) := (HS5.out.at_ 1 rfl).cell 6; have v7 : w5.cell? ⟨w.heap.size, 7, none⟩ = some (.int .i64 m6) := (HS5.out.at_ 1 rfl).cell 7; clear f5)
        | fail)
      have d0 : ∀ x, (Mix None w5 x).cell? ⟨w.heap.size, 0, none⟩ = some (.int .u32 u) := fun x => mix_cell v0
      have d1 : ∀ x, (Mix None w5 x).cell? ⟨w.heap.size, 1, none⟩ = some (.int .i64 m0) := fun x => mix_cell v1
      have d2 : ∀ x, (Mix None w5 x).cell? ⟨w.heap.size, 2, none⟩ = some (.int .i64 m1) := fun x => mix_cell v2
      have d3 : ∀ x, (Mix None w5 x).cell? ⟨w.heap.size, 3, none⟩ = some (.int .i64 m2) := fun x => mix_cell v3
      have d4 : ∀ x, (Mix None w5 x).cell? ⟨w.heap.size, 4, none⟩ = some (.int .i64 m3) := fun x => mix_cell v4
      have d5 : ∀ x, (Mix None w5 x).cell? ⟨w.heap.size, 5, none⟩ = some (.int .i64 m4) := fun x => mix_cell v5
      have d6 : ∀ x, (Mix None w5 x).cell? ⟨w.heap.size, 6, none⟩ = some (.int .i64 m5) := fun x => mix_cell v6
      have d7 : ∀ x, (Mix None w5 x).cell? ⟨w.heap.size, 7, none⟩ = some (.int .i64 m6) := fun x => mix_cell v7

      refine wp_region_class (C := fun w' => ∃ x, w' = Mix None w5 x) (by kernel_rfl) (by kernel_rfl) (mix_drew None w5) ?_
      repeat (go_big_quiet_step ((first | (with_reducible exact mix_call (fun _ _ h => h) (HH1.out _ (HS5.out.fr.trans (mix_fr _ _ _)))) | (with_reducible exact mix_call (fun _ _ h => h) (HH2.out _)) | (with_reducible exact mix_call (fun _ _ h => h) (HK.out _ (HS5.out.fr.trans (mix_fr _ _ _)))))))
      refine wpQuiet_nil ?_
      rintro _ ⟨x, rfl⟩
      go_wp2_with fail
      go_ret
      exact ⟨rfl, HS5.out.fr.trans (mix_fr _ _ _)⟩
end Go.Proofs.YtedogalndhackaaDoor
