/- A book's records by their order, walked. -/
import Derived.Test.YtckbeppofnnfkaaBkI
import Derived.Test.YtckbeppofnnfkaaRangeX
namespace Go.Proofs.Ytckbeppofnnfkaa
open Go.RowKit Go.Und Go.Shelf
attribute [local go_sem] Oper.semAt_some

abbrev YT : TypeId := 172
abbrev PbT : TypeId := 49
/-- What yield is handed. -/
abbrev encR {L : Its} (x : It L) : Array Value := #[rcv x.1.2]

theorem ring_frC {D : Nat → TypeId → Prop} {W W' : World} {b0 : Nat} {L : Its} (h : Ring ItT W b0 L) (f : FrC D W W') (hd : ∀ b, b = b0 ∨ b ∈ L.map (·.1) → ¬ D b ItT) : Ring ItT W' b0 L := by
  refine ⟨h.bare.frC f (hd _ (.inl rfl)), ?_, h.nodup⟩
  have hd' : ∀ b ∈ L.map (·.1), ¬ D b ItT := fun b hb => hd b (.inr hb)
  have hl := h.line
  clear h hd
  revert hl
  generalize hp : b0 = p0
  have : ∀ (p n : Nat) (l : Its), (∀ b ∈ l.map (·.1), ¬ D b ItT) → Line ItT W p l n → Line ItT W' p l n := by
    intro p n l
    induction l generalizing p with
    | nil => exact fun _ _ => trivial
    | cons x l ih => exact fun hd h => ⟨h.1.frC f (hd _ List.mem_cons_self), ih _ (fun b hb => hd b (List.mem_cons_of_mem _ hb)) h.2⟩
  exact this _ _ L hd'

theorem Links.frC {bb b0 : Nat} {bs : List Nat} {D : Nat → TypeId → Prop} {W W' : World} (h : Links bb b0 bs W) (f : FrC D W W') (h1 : ¬ D bb LnT) (h2 : ∀ k, ¬ D k ItT) : Links bb b0 bs W' :=
  ⟨h.box.frC f h1, nexts_mono (fun _ _ ⟨cs, k1, k2⟩ => ⟨cs, k1.frC f (h2 _), k2⟩) h.nx⟩
theorem Links.putObj {bb b0 : Nat} {bs : List Nat} {W : World} {l : Nat} {o : Obj} (o' : Obj) (h : Links bb b0 bs W) (hl : W.heap[l]? = some o) (ho : o.isCells = false) : Links bb b0 bs (W.putObj l o') :=
  h.frC (D := fun _ _ => False) (FrC.putObj W l o o' hl ho) (fun h => h) (fun _ h => h)
theorem own_fr {B : Nat} {A C : World} {row : Option Nat} (hg : A.grownBy C row) (hr : ∀ r, row = some r → B ≤ r ∧ ∃ o : Obj, A.heap[r]? = some o ∧ o.isCells = false) : Fr (Odd B A) A C :=
  ⟨hg.os, hg.tape, hg.output, hg.size, fun k hk hn => hg.block k hk (fun e => hn (hr k e.symm))⟩
theorem ring_odd {B : Nat} {A C : World} {b0 : Nat} {L : Its} (h : Ring ItT A b0 L) (f : Fr (Odd B A) A C) : Ring ItT C b0 L := h.fr f fun k hk hd => by
  obtain ⟨cs, hc⟩ := ring_blk h k hk
  exact hc.odd hd

/-- The inner loop's standing. -/
structure InI (L : Its) (J : List (It L) → World → Prop) (l Y b0 : Nat) (pre : List (It L)) (W : World) : Prop where
  j : J pre W
  y : Blk W Y YT #[.func (.yield l) #[] #[]]
  r : Ring ItT W b0 L

set_option maxRecDepth 100000 in
set_option maxHeartbeats 4000000 in
theorem inOrder_x (n : Nat) (p pb : Nat) (b : Bk) (w : World) (D : Nat → TypeId → Prop) (hB : BookAt w p b) (hpb : Blk w pb PbT #[.pointer (at0 p)]) (hD : ∀ k, w.heap.size ≤ k → ¬ D k YT ∧ ¬ D k LnT) (hD2 : ∀ k, ¬ D k ItT) :
    SeqX n Try.prog 115 #[.pointer (at0 pb)] (encR (L := b.L)) (FrC D) (fun ys => ys = b.L.attach) (fun pre => pre <+: b.L.attach) b.L.length w := by
  intro l J Jx W hW hJ hJx hY h0
  have f0 : Fr None w W := Fr.of_below hW
  have hB1 := hB.same f0
  have hpb1 := hpb.fr f0 id
  have HS := Lib.hid (fun n => SeqX.of_k (lineAll_stops n (W.heap.size + 1) b.b0 b.L ((W.alloc (.cells #[.func (.yield l) #[] #[]] YT)).alloc (.cells #[.pointer (at0 b.b0)] LnT)) hB.ring.nodup
    ⟨by have := Blk.new (W.alloc (.cells #[.func (.yield l) #[] #[]] YT)) LnT #[.pointer (at0 b.b0)]; rwa [World.size_alloc] at this, ring_nexts ((hB1.ring.fr ((Fr.refl None W).alloc _) (fun _ _ h => h)).fr ((Fr.refl None _).alloc _) (fun _ _ h => h))⟩))
  have c0 : W.cell? ⟨pb, 0, none⟩ = some (.pointer (at0 p)) := hpb1.cell 0
  have c1 : W.cell? ⟨p, 1, none⟩ = some (.pointer (at0 b.b0)) := hB1.blk.cell 1
  have l0 := hpb1.lt
  have l1 := hB1.blk.lt
  have y0 := Blk.new W YT #[.func (.yield l) #[] #[]]
  have hI : InI b.L J l W.heap.size b.b0 [] ((W.alloc (.cells #[.func (.yield l) #[] #[]] YT)).alloc (.cells #[.pointer (at0 b.b0)] LnT)) :=
    ⟨hJ.alloc _ (hJ.alloc _ h0), y0.alloc _, (hB1.ring.fr ((Fr.refl None W).alloc _) (fun _ _ h => h)).fr ((Fr.refl None _).alloc _) (fun _ _ h => h)⟩
  have HI := Lib.hid hI
  have HA := Lib.hid (lineAll_any b.b0 (W.alloc (.cells #[.func (.yield l) #[] #[]] YT)))
  have HY := Lib.hid hY
  have HW := Lib.hid hW.size
  have HJ := Lib.hid (And.intro hJ hJx)
  clear hI y0 hpb1 hB1 hY h0 hJ hJx f0 hW
  simp only [List.push_toArray, List.append_toArray, List.cons_append, List.nil_append]
  refine callsIn_of_wp_marks Try.func115 rfl trivial ?_ rfl
  simp only [Try.ntmps115, List.size_toArray, List.length_cons, List.length_nil, Nat.reduceAdd, Nat.reduceSub, Array.replicate_succ, Array.replicate_zero, List.push_toArray, List.append_toArray, List.nil_append, List.cons_append]
  gi_wp2_with fail
  first | refine ⟨trivial, (callsIn_wide.2 (HA.out)).mono ?_⟩ | refine ⟨trivial, fun h => (by cases h), (callsIn_wide.2 (HA.out)).mono ?_⟩
  rintro e w1 ⟨rfl, rfl⟩
  gi_wp2_with fail
  refine wpIn_rangeX (gf := 143) (lb := #[.pointer (at0 (W.heap.size + 1))]) rfl (enters_of Try.func143 (by kernel_rfl) rfl) (HS.out _) (fun h k x => k (h x)) (fun V k o o' _ hk ho _ h => h.putObj o' hk ho) (Below.refl _ _) (fun _ => rfl)
    (InI b.L J l W.heap.size b.b0) (fun c pre V => c = .ret ∧ Jx pre V)
    (fun s A C row hs hg hr => ⟨HJ.out.1 s A C row hs.j hg (fun r e => ⟨by have := (hr r e).1; simp at this; omega, (hr r e).2⟩), hs.y.fr (own_fr hg hr) hs.y.odd, ring_odd hs.r (own_fr hg hr)⟩)
    (fun c s A C row hs hg hr => ⟨hs.1, HJ.out.2 s A C row hs.2 hg (fun r e => ⟨by have := (hr r e).1; simp at this; omega, (hr r e).2⟩)⟩) HI.out ?a1 ?assign ?body ?done ?stop (fun _ h => h)
  case assign =>
    intro l' x V K hK
    gi_wp2
    exact hK
  case body =>
    rintro l' pre x V ⟨hj, hy0, hr⟩ hlen
    obtain ⟨a', n', hx⟩ := hr.line.at x.2
    have c0 : V.cell? ⟨W.heap.size, 0, none⟩ = some (.func (.yield l) #[] #[]) := hy0.cell 0
    have d0 : V.cell? ⟨x.1.1, 0, none⟩ = some (.int .i64 x.1.2.fr) := hx.cell 0
    have d1 : V.cell? ⟨x.1.1, 1, none⟩ = some (.int .i64 x.1.2.to) := hx.cell 1
    have d2 : V.cell? ⟨x.1.1, 2, none⟩ = some (.int .i64 x.1.2.sent) := hx.cell 2
    have d3 : V.cell? ⟨x.1.1, 3, none⟩ = some (.int .i64 x.1.2.order) := hx.cell 3
    have d4 : V.cell? ⟨x.1.1, 4, none⟩ = some (.int .i64 x.1.2.times) := hx.cell 4
    have d5 : V.cell? ⟨x.1.1, 5, none⟩ = some (.int .i64 x.1.2.out) := hx.cell 5
    have d6 : V.cell? ⟨x.1.1, 6, none⟩ = some (.bool x.1.2.lost) := hx.cell 6
    obtain ⟨fn, tmps, assign, body, hy, hR⟩ := HY.out pre x V.drew (abides_drew (OwnFrom.abides HJ.out.1) hj) hlen
    have HR := Lib.hid hR
    have HV := Lib.hid (And.intro hy0 hr)
    clear hR hy0 hr hx hj
    gi_wp2_with fail
    refine wpIn_region_round (by kernel_rfl) (by kernel_rfl) ?_
    refine seg_still 5 (by kernel_rfl) ?_
    simp only [List.drop_zero, List.take_succ_cons, List.take_zero, Nat.reduceSub]
    repeat (go_big_quiet_step (fail))
    refine wpQuiet_nil ?_
    refine seg_one (by kernel_rfl) fun K hK => ?_
    simp only [List.drop_succ_cons, List.drop_zero, List.take_succ_cons, List.take_zero]
    gi_wp2_with fail
    refine ⟨fun h => (by cases h), (roundIn_any rfl HR.out).mono ?_⟩
    rintro e V3 ⟨hk, (⟨rfl, h1, h2⟩ | ⟨rfl, h1⟩)⟩
    · have K1 := KeepsFrom.up hk (show W.heap.size ≤ ((W.alloc (.cells #[.func (.yield l) #[] #[]] YT)).alloc (.cells #[.pointer (at0 b.b0)] LnT)).heap.size by simp; omega)
      have f2 : FrC D V V3 := (FrC.drew D V).trans h2
      have P := Lib.hid (show KeepsFrom ((W.alloc (.cells #[.func (.yield l) #[] #[]] YT)).alloc (.cells #[.pointer (at0 b.b0)] LnT)).heap.size V V3 ∧ (Links (W.heap.size + 1) b.b0 (b.L.map (·.1)) V → Links (W.heap.size + 1) b.b0 (b.L.map (·.1)) V3) ∧ InI b.L J l W.heap.size b.b0 (pre ++ [x]) V3 from
        ⟨⟨K1.size, K1.same⟩, fun h => h.frC f2 (hD _ (by have := HW.out; omega)).2 hD2, h1, HV.out.1.frC f2 (hD _ HW.out).1, ring_frC HV.out.2 f2 (fun _ _ => hD2 _)⟩)
      clear h1 h2 hk K1 f2 hy HR HV c0 d0 d1 d2 d3 d4 d5 d6
      dsimp only
      gi_wp2_with fail
      refine seg_still 7 (by kernel_rfl) ?_
      simp only [List.drop_succ_cons, List.drop_zero, List.take_succ_cons, List.take_zero]
      repeat (go_big_quiet_step (fail))
      refine wpQuiet_nil ?_
      refine seg_done (by rfl) (by kernel_rfl) ?_
      gi_wp2_with fail
      exact P.out
    · have K1 := KeepsFrom.up hk (show W.heap.size ≤ ((W.alloc (.cells #[.func (.yield l) #[] #[]] YT)).alloc (.cells #[.pointer (at0 b.b0)] LnT)).heap.size by simp; omega)
      have P := Lib.hid (show KeepsFrom ((W.alloc (.cells #[.func (.yield l) #[] #[]] YT)).alloc (.cells #[.pointer (at0 b.b0)] LnT)).heap.size V V3 ∧ Jx (pre ++ [x]) V3 from ⟨⟨K1.size, K1.same⟩, h1⟩)
      clear h1 hk K1 hy HR HV c0 d0 d1 d2 d3 d4 d5 d6
      dsimp only
      gi_wp2_with fail
      refine seg_still 7 (by kernel_rfl) ?_
      simp only [List.drop_succ_cons, List.drop_zero, List.take_succ_cons, List.take_zero]
      repeat (go_big_quiet_step (fail))
      refine wpQuiet_nil ?_
      refine seg_done (by rfl) (by kernel_rfl) ?_
      gi_wp2_with fail
      exact ⟨P.out.1, rfl, P.out.2⟩
  case done =>
    rintro Dd xs V hDd rfl hI hK
    have P := Lib.hid (HJ.out.1.putObj (.deferred none) hI.j (by simp at hDd; omega) hK rfl)
    gi_wp2_with fail
    refine ⟨by simp, .inl ⟨_, _, rfl, run_takeDeferred hK, ?_⟩⟩
    exact ⟨_, results_none rfl _ _ _, ⟨⟨_, rfl⟩, .inl ⟨_, rfl, P.out⟩⟩⟩
  case stop =>
    rintro Dd c pre V hDd hSp ⟨rfl, hjx⟩ hK
    have P := Lib.hid (HJ.out.2.putObj (.deferred none) hjx (by simp at hDd; omega) hK rfl)
    gi_wp2_with fail
    refine ⟨by simp, .inl ⟨_, _, rfl, run_takeDeferred hK, ?_⟩⟩
    exact ⟨_, results_none rfl _ _ _, ⟨⟨_, rfl⟩, .inr ⟨_, hSp, P.out⟩⟩⟩
end Go.Proofs.Ytckbeppofnnfkaa
