/- Options that came in; the same bytes, the same options; fixed calls: walked. -/
import Derived.Test.YthkhfijfgpccbaaOn9
set_option linter.unusedVariables false
set_option linter.unusedSimpArgs false
namespace Go.Proofs.Ythkhfijfgpccbaa
open Go.RowKit Go.Und
attribute [local go_sem] Oper.semAt_some
attribute [local go_sem ↓] Go.wp_at_zero Go.wp_at_succ

abbrev shBl : Sh := .agg (.cons (.int .u32) (.cons (.int .u32) .nil))
abbrev shOpt : Sh := .agg (.cons (.int .i64) (.cons .bool (.cons .bool (.cons (.int .u32) (.cons (.int .u32) (.cons .bool (.cons (.int .i64) (.cons (.slice shBl) .nil))))))))
theorem blocks_of {W : World} {v : Value} {u : U} (h : (Sh.slice shBl).holds W u [v]) : ∃ (a : Option Addr) (cap : Nat) (l : List (Int × Int)), v = .slice a l.length cap ∧ (∀ b ∈ l, (0 ≤ b.1 ∧ b.1 < 4294967296) ∧ 0 ≤ b.2 ∧ b.2 < 4294967296) ∧ ReadsB W 2 a l.length cap (fc blc l) := by
  obtain ⟨a, cap, L, hv, h1, h2, h3⟩ := elems_of h (by decide)
  have hnil := nil_of h hv
  obtain ⟨l, hlen, hp⟩ := getElem?_some_of_list (f := fun _ => True) (P := fun k (x : Int × Int) => ((0 ≤ x.1 ∧ x.1 < 4294967296) ∧ 0 ≤ x.2 ∧ x.2 < 4294967296) ∧ ∃ b off, a = some ⟨b, off, none⟩ ∧ W.cell? ⟨b, off + (k * 2 + 0), none⟩ = some (.int .u32 x.1) ∧ W.cell? ⟨b, off + (k * 2 + 1), none⟩ = some (.int .u32 x.2)) L.length (fun k hk => by
    obtain ⟨g1, ⟨u, g2⟩, b, off, rfl, hb, hc⟩ := h3 k L[k] (List.getElem?_eq_getElem hk)
    obtain ⟨_, _, g⟩ := g2
    obtain ⟨_, _, _, _, _, e0, _, ⟨x, _, rfl, wx⟩, g⟩ := g
    obtain ⟨_, _, _, _, _, e1, _, ⟨y, _, rfl, wy⟩, g⟩ := g
    obtain ⟨_, rfl⟩ := g
    subst e1
    rw [e0] at hc
    exact ⟨(x, y), ⟨wf_u32 wx, wf_u32 wy⟩, b, off, rfl, hc 0 (by decide), hc 1 (by decide)⟩)
  refine ⟨a, cap, l, by rw [hv, hlen], fun x hx => ?_, readsB_of blc_len (by decide) (by omega) (fun h => ?_) fun k x hx => ?_⟩
  · obtain ⟨k, hk⟩ := List.getElem?_of_mem hx
    exact (hp k x hk).1
  · obtain ⟨e1, e2⟩ := hnil h
    exact ⟨List.length_eq_zero_iff.1 (by omega), e2⟩
  · obtain ⟨_, b, off, e, hc0, hc1⟩ := hp k x hx
    refine ⟨b, off, e, fun j u hu => ?_⟩
    match j with
    | 0 => simp only [blc, List.getElem?_cons_zero, Option.some.injEq] at hu; subst hu; exact hc0
    | 1 => simp only [blc, List.getElem?_cons_succ, List.getElem?_cons_zero, Option.some.injEq] at hu; subst hu; exact hc1
    | j + 2 => simp [blc] at hu
theorem opt_of {W : World} {u : U} {cs : List Value} (h : shOpt.holds W u cs) : ∃ (o : Opt) (q : Option Addr) (c : Nat), cs = (optc o q c).toList ∧ o.Wf ∧ ReadsB W 2 q o.blocks.length c (fc blc o.blocks) := by
  obtain ⟨_, _, g⟩ := h
  obtain ⟨_, _, _, _, _, e0, _, ⟨mss, _, rfl, _⟩, g⟩ := g
  obtain ⟨_, _, _, _, _, e1, _, ⟨permit, _, rfl⟩, g⟩ := g
  obtain ⟨_, _, _, _, _, e2, _, ⟨ts, _, rfl⟩, g⟩ := g
  obtain ⟨_, _, _, _, _, e3, _, ⟨val, _, rfl, w3⟩, g⟩ := g
  obtain ⟨_, _, _, _, _, e4, _, ⟨ecr, _, rfl, w4⟩, g⟩ := g
  obtain ⟨_, _, _, _, _, e5, _, ⟨has, _, rfl⟩, g⟩ := g
  obtain ⟨_, _, _, _, _, e6, _, ⟨scale, _, rfl, _⟩, g⟩ := g
  obtain ⟨_, _, c7, _, _, e7, l7, hb, g⟩ := g
  obtain ⟨_, rfl⟩ := g
  obtain ⟨v, rfl⟩ := List.length_eq_one_iff.1 (show c7.length = 1 from l7)
  obtain ⟨a, cap, l, rfl, hw, hr⟩ := blocks_of hb
  subst e7 e6 e5 e4 e3 e2 e1 e0
  exact ⟨⟨mss, permit, ts, val, ecr, has, scale, l⟩, a, cap, rfl, ⟨wf_u32 w3, wf_u32 w4, hw⟩, hr⟩

set_option maxHeartbeats 1000000 in
theorem bsame_any (p q : Option Addr) (c d : Nat) (l : List Int) (w : World) (hr : Reads w 1 p l.length c (fc u8c l)) (hq : Reads w 1 q l.length d (fc u8c l)) (hs : l.length ≤ 1000000) :
    Calls Try.prog 25 #[.slice p l.length c, .slice q l.length d] w fun e w' => e = .returned (.bool true) ∧ ∃ n, w' = w.drewN n := by
  have HR := Lib.hid hr; clear hr
  have HQ := Lib.hid hq; clear hq
  go_enter Try.func25, Try.ntmps25
  go_wp2_with fail
  go_loopg [5] l.length (fun r i wr => ∃ k n : Nat, k + r = l.length ∧ i = .int .i64 k ∧ wr = w.drewN n)
  case atStart => exact ⟨0, 0, by omega, rfl, rfl⟩
  case round =>
    obtain ⟨k, n, hk0, rfl, rfl⟩ := hrel
    by_cases g : k < l.length
    · have ex := List.getElem?_eq_getElem g
      obtain ⟨b, off, rfl, hc⟩ := HR.out.elem u8c_len (by decide) ex
      obtain ⟨b2, off2, rfl, hd⟩ := HQ.out.elem u8c_len (by decide) ex
      generalize l[k] = x at *
      have c1 : w.cell? ⟨b, off + k, none⟩ = some (.int .u8 x) := by have := hc 0 _ rfl; rwa [Nat.mul_one] at this
      have d1 : w.cell? ⟨b2, off2 + k, none⟩ = some (.int .u8 x) := by have := hd 0 _ rfl; rwa [Nat.mul_one] at this
      clear hc hd ex
      go_wp2_with fail
      go_quiet (fail)
      go_wp2_with fail
      go_roundg (gk - 1)
      case measure => omega
      case rel => exact ⟨k + 1, _, by omega, by go_num, rfl⟩
    · go_wp2_with fail
      go_ret
      exact ⟨rfl, _, rfl⟩
set_option maxRecDepth 100000 in
set_option maxHeartbeats 2000000 in
theorem osame_any (o : Opt) (p q : Option Addr) (c d : Nat) (w : World) (hr : 0 < o.blocks.length → Reads w 2 p o.blocks.length c (fc blc o.blocks)) (hq : 0 < o.blocks.length → Reads w 2 q o.blocks.length d (fc blc o.blocks)) (hs : o.blocks.length ≤ 1000000) :
    Calls Try.prog 13 #[optV o p c, optV o q d] w fun e w' => e = .returned (.bool true) ∧ Fr None w w' := by
  obtain ⟨mss, permit, ts, val, ecr, has, scale, blocks⟩ := o
  dsimp only at hr hq hs
  have S := Lib.hid (((Sep.law w).alloc (optc ⟨mss, permit, ts, val, ecr, has, scale, blocks⟩ p c) OpT).alloc (optc ⟨mss, permit, ts, val, ecr, has, scale, blocks⟩ q d) OpT)
  simp only [World.size_alloc] at S
  have HR := Lib.hid hr; clear hr
  have HQ := Lib.hid hq; clear hq
  go_enter Try.func13, Try.ntmps13
  go_wp2_with fail
  refine Sep.gen _ S.out ?_
  intro V SV
  have a0 : V.cell? ⟨w.heap.size, 0, none⟩ = some (.int .i64 mss) := (SV.at_ 1 rfl).cell 0
  have a1 : V.cell? ⟨w.heap.size, 1, none⟩ = some (.bool permit) := (SV.at_ 1 rfl).cell 1
  have a2 : V.cell? ⟨w.heap.size, 2, none⟩ = some (.bool ts) := (SV.at_ 1 rfl).cell 2
  have a3 : V.cell? ⟨w.heap.size, 3, none⟩ = some (.int .u32 val) := (SV.at_ 1 rfl).cell 3
  have a4 : V.cell? ⟨w.heap.size, 4, none⟩ = some (.int .u32 ecr) := (SV.at_ 1 rfl).cell 4
  have a5 : V.cell? ⟨w.heap.size, 5, none⟩ = some (.bool has) := (SV.at_ 1 rfl).cell 5
  have a6 : V.cell? ⟨w.heap.size, 6, none⟩ = some (.int .i64 scale) := (SV.at_ 1 rfl).cell 6
  have a7 : V.cell? ⟨w.heap.size, 7, none⟩ = some (.slice p blocks.length c) := (SV.at_ 1 rfl).cell 7
  have b0 : V.cell? ⟨w.heap.size + 1, 0, none⟩ = some (.int .i64 mss) := (SV.at_ 0 rfl).cell 0
  have b1 : V.cell? ⟨w.heap.size + 1, 1, none⟩ = some (.bool permit) := (SV.at_ 0 rfl).cell 1
  have b2 : V.cell? ⟨w.heap.size + 1, 2, none⟩ = some (.bool ts) := (SV.at_ 0 rfl).cell 2
  have b3 : V.cell? ⟨w.heap.size + 1, 3, none⟩ = some (.int .u32 val) := (SV.at_ 0 rfl).cell 3
  have b4 : V.cell? ⟨w.heap.size + 1, 4, none⟩ = some (.int .u32 ecr) := (SV.at_ 0 rfl).cell 4
  have b5 : V.cell? ⟨w.heap.size + 1, 5, none⟩ = some (.bool has) := (SV.at_ 0 rfl).cell 5
  have b6 : V.cell? ⟨w.heap.size + 1, 6, none⟩ = some (.int .i64 scale) := (SV.at_ 0 rfl).cell 6
  have b7 : V.cell? ⟨w.heap.size + 1, 7, none⟩ = some (.slice q blocks.length d) := (SV.at_ 0 rfl).cell 7
  have HV := Lib.hid SV
  clear S SV
  go_loopg [5] blocks.length (fun r i wr => ∃ k n : Nat, k + r = blocks.length ∧ i = .int .i64 k ∧ wr = V.drewN n)
  case atStart => exact ⟨0, 0, by omega, rfl, rfl⟩
  case round =>
    obtain ⟨k, n, hk0, rfl, rfl⟩ := hrel
    by_cases g : k < blocks.length
    · have ex := List.getElem?_eq_getElem g
      obtain ⟨b, off, rfl, hc⟩ := ((HR.out (by omega)).fr HV.out.fr (fun _ _ h => h)).elem blc_len (by decide) ex
      obtain ⟨b2, off2, rfl, hd⟩ := ((HQ.out (by omega)).fr HV.out.fr (fun _ _ h => h)).elem blc_len (by decide) ex
      generalize blocks[k] = x at *
      have c1 : V.cell? ⟨b, off + k * 2, none⟩ = some (.int .u32 x.1) := hc 0 _ rfl
      have c2 : V.cell? ⟨b, off + k * 2 + 1, none⟩ = some (.int .u32 x.2) := hc 1 _ rfl
      have d1 : V.cell? ⟨b2, off2 + k * 2, none⟩ = some (.int .u32 x.1) := hd 0 _ rfl
      have d2 : V.cell? ⟨b2, off2 + k * 2 + 1, none⟩ = some (.int .u32 x.2) := hd 1 _ rfl
      clear hc hd ex
      go_wp2_with fail
      go_quiet (fail)
      go_wp2_with fail
      go_roundg (gk - 1)
      case measure => omega
      case rel => exact ⟨k + 1, _, by omega, by go_num, rfl⟩
    · go_wp2_with fail
      go_ret
      exact ⟨rfl, HV.out.fr.drewN _⟩

/-! The fixed calls. -/
def kOpt : Opt := ⟨0, true, false, 0, 0, false, 0, [(1, 2)]⟩
theorem known_any (w : World) : Calls Try.prog 9 #[] w fun e w' => e = .returned (.bool true) ∧ Fr None w w' := by
  have he : encO kOpt = [4, 2, 5, 10, 0, 0, 0, 1, 0, 0, 0, 2] := by decide
  have S0 := (Sep.law w).alloc (fc blc [((1 : Int), (2 : Int))]).toArray BlT
  have H1 := encode_ok kOpt (some ⟨w.heap.size, 0, none⟩) 1 _ ⟨by decide, by decide, by decide⟩ (by decide) (fun _ => reads_newR w BlT [((1 : Int), (2 : Int))] blc_len)
  rw [he] at H1
  have HE := Lib.hid H1
  have HS := Lib.hid S0
  clear H1 S0 he
  go_enter Try.func9, Try.ntmps9
  go_wp2_with fail
  refine HE.out.mono ?_
  rintro e w1 ⟨q1, c1, rfl, T1⟩
  have S1 := HS.out.beside T1
  have HS1 := Lib.hid S1
  clear S1 T1 HE HS
  go_wp2_with fail
  have SA := HS1.out.skip (.cells (fc u8c [(2 : Int), 4, 5]).toArray U8T)
  have hp := parse_any (some ⟨w1.heap.size, 0, none⟩) 3 [2, 4, 5] _ (.inr (reads_newR w1 U8T [(2 : Int), 4, 5] u8c_len)) (by decide)
  have e2 : parseO [2, 4, 5] = (Opt.zero, 5) := rfl
  refine hp.mono ?_
  intro e w2 hpost
  unfold ParsePost at hpost
  rw [e2] at hpost
  obtain ⟨q2, c2, rfl, T2⟩ := hpost
  have S2 := (SA.beside T2).drop (List.sublist_append_right _ _)
  have HS2 := Lib.hid S2
  clear S2 T2 SA hp HS1 e2
  go_wp2_with fail
  have SB := (HS2.out.skip (.cells (optc Opt.zero q2 c2) OpT)).skip (.cells (fc u8c [(4 : Int), 2, 5, 10, 0, 0, 0, 1, 0, 0, 0, 2]).toArray U8T)
  have hsm := bsame_any q1 (some ⟨w2.heap.size + 1, 0, none⟩) c1 12 [4, 2, 5, 10, 0, 0, 0, 1, 0, 0, 0, 2] _ (Owns.reads (f := u8c) (T := U8T) (SB.at_ 0 rfl)).2.1 (by have := reads_newR (w2.alloc (.cells (optc Opt.zero q2 c2) OpT)) U8T [(4 : Int), 2, 5, 10, 0, 0, 0, 1, 0, 0, 0, 2] u8c_len; rw [World.size_alloc] at this; exact this) (by decide)
  refine hsm.mono ?_
  rintro e w3 ⟨rfl, n3, rfl⟩
  have F3 := Lib.hid (SB.fr.drewN n3)
  clear SB hsm HS2
  go_wp2_with fail
  go_ret
  exact ⟨rfl, F3.out⟩
end Go.Proofs.Ythkhfijfgpccbaa
