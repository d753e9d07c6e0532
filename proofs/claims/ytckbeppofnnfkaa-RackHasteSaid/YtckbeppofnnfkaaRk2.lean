/- What is late: the walk. -/
import Derived.Test.YtckbeppofnnfkaaRk1
namespace Go.Proofs.Ytckbeppofnnfkaa
open Go.RowKit Go.Und Go.Shelf
attribute [local go_sem] Oper.semAt_some

/-- Part of what stands is walked by itself. -/
theorem Sep.comp {D : Nat → Prop} {w0 w w' : World} {L R L' : List Ob} (S : Sep D w0 w (L ++ R)) (S' : Sep (fun k => ∃ o ∈ L, o.fp k) w w' L') : Sep D w0 w' (L' ++ R) := by
  have hp := List.pairwise_append.1 S.apart
  have hf : ∀ k, (∃ o ∈ L, o.fp k) → D k ∨ w0.heap.size ≤ k := fun k ⟨o, ho, hk⟩ => S.fp o (List.mem_append_left _ ho) k hk
  have hfr : ∀ o ∈ R, ∀ k, o.fp k → ¬ ∃ o ∈ L, o.fp k := fun o ho k hk ⟨a, ha, hk'⟩ => hp.2.2 a ha o ho k hk' hk
  refine ⟨S.fr.trans' S'.fr fun k hk he => ?_, fun o ho => ?_, fun o ho k hk => ?_, List.pairwise_append.2 ⟨S'.apart, hp.2.1, fun a ha o ho k hk hk' => ?_⟩⟩
  · rcases hf k he with h | h
    · exact h
    · omega
  · rcases List.mem_append.1 ho with ho | ho
    · exact S'.ok o ho
    · exact o.fr (S.ok o (List.mem_append_right _ ho)) S'.fr (hfr o ho)
  · rcases List.mem_append.1 ho with ho | ho
    · rcases S'.fp o ho k hk with h | h
      · exact hf k h
      · exact .inr (Nat.le_trans S.fr.size h)
    · exact S.fp o (List.mem_append_right _ ho) k hk
  · rcases S'.fp a ha k hk with h | h
    · exact hfr o ho k hk' h
    · have := o.lt (S.ok o (List.mem_append_right _ ho)) hk'; omega

theorem wpIn_rangeXB {α : Type} {n : Nat} {P : Program} {g : Operand} {ps : Array Tmp} {assign body : Code} {Q : Exit → Act → World → Prop} {a : Act} {w : World}
    {gf : Nat} {lb : Array Value} (hg : a.eval g = .func (.func gf) #[] lb) (eg : ∀ args w, (callFunc gf args).run P w = .ok (.enter gf args) w)
    {encs : α → Array Value} {Kp : World → World → Prop} {S Sp : List α → Prop} {N : Nat} {w0 : World} (hseq : SeqX (n - 1) P gf lb encs Kp S Sp N w0)
    (hKt : ∀ {A B C : World}, Kp A B → Kp B C → Kp A C) (hKb : ∀ (W : World) (l : Nat) (o o' : Obj), w.heap.size ≤ l → W.heap[l]? = some o → o.isCells = false → o.isWalk = false → Kp W (W.putObj l o')) (hb0 : Below w0.heap.size w0 w) (hps : ∀ x, (encs x).size = ps.size)
    (I : List α → World → Prop) (Ix : Code → List α → World → Prop) (hI : OwnFrom w.heap.size I) (hIx : ∀ c, OwnFrom w.heap.size (Ix c)) (h0 : I [] w) (fA : α → Nat → Act) (Ax : α → Nat → World → Prop) (hAx : ∀ x k, OwnFrom w.heap.size (fun (_ : Unit) W => Ax x k W))
    (hassign : ∀ (l : Nat) (pre : List α) (x : α) (W : World) (K : Act → World → Prop), I pre W → (∀ k W', KeepsFrom w.heap.size W W' → Kp W W' → I pre W' → Ax x k W' → K (fA x k) W') →
      assign.wpIn (Fence.wide.inRound l) (n - 1 - 1) P (Exit.then K (fun _ _ _ => False)) { tmps := (ps.zip (encs x)).foldl (fun t (p, v) => t.setIfInBounds p v) a.tmps, defers := [] } W)
    (hbody : ∀ (l : Nat) (pre : List α) (x : α) (k : Nat) (W : World), I pre W → Ax x k W → pre.length < N → body.wpIn (Fence.wide.inRound l) (n - 1 - 1) P (ownPostG w.heap.size Kp I Ix (pre ++ [x]) W) (fA x k) W)
    (hdone : ∀ (D : Nat) (xs : List α) (W : World), w.heap.size ≤ D → S xs → I xs W → W.heap[D]? = some (.deferred (some [])) → Q .normal { a with defers := { target := .collected D, args := #[] } :: a.defers } W)
    (hstop : ∀ (D : Nat) (c : Code) (pre : List α) (W : World), w.heap.size ≤ D → Sp pre → Ix c pre W → W.heap[D]? = some (.deferred (some [])) → c.wpIn Fence.wide n P Q { a with defers := { target := .collected D, args := #[] } :: a.defers } W) :
    (Code.rangeFunc g ps assign body).wpIn Fence.wide n P Q a w :=
  wpIn_rangeXA hg eg hseq (fun h k => hKt h k) hKb hb0 hps I Ix hI hIx h0 (fun x a' W => ∃ k, a' = fA x k ∧ Ax x k W)
    (fun x a' s A C row hs hg hr => hs.imp fun k h => ⟨h.1, hAx x k s A C row h.2 hg hr⟩)
    (fun l pre x W K hi hK => hassign l pre x W K hi fun k W' h1 h2 h3 h4 => hK _ _ h1 h2 h3 ⟨k, rfl, h4⟩)
    (fun l pre x a' W hi ⟨k, e, hx⟩ hl => by subst e; exact hbody l pre x k W hi hx hl) hdone hstop

theorem anyQ_onIn {m : Nat} {P : Program} {md : Region.Mode} {ops : Array Oper} {C : World → Prop} {Q : Act → Prop} {Q' : Exit → Act → World → Prop} (hQ : ∀ a w, C w → Q a → Q' .normal a w) :
    ∀ (fuel : Nat) (listed : Array Bool) (a : Act) (w : World), C w → wpAnyQ P md ops C Q fuel listed a → wpAnyIn Fence.wide m P md ops Q' fuel listed a w
  | 0, _, _, _, hw, h => ⟨h.1, hQ _ _ hw h.2⟩
  | fuel + 1, _, _, _, hw, h => ⟨fun h0 => hQ _ _ hw (h.1 h0), fun i hi => wpOpIn_of_qOpIn rfl hw (fun a' w' hw' => anyQ_onIn hQ fuel _ a' w' hw') (qOpIn_wide (F := Fence.wide) (fun _ => trivial) (h.2 i hi))⟩
/-- A region that only reads, its callees too, within a round: one walk. -/
theorem region_round_quiet {n id r : Nat} {P : Program} {Q : Exit → Act → World → Prop} {a : Act} {w : World} {l : List Oper} (hm : P.follows .mixedOrders = true) (hd : noDefer l.toArray = true) (hB : Region.lexB .any l.toArray = true)
    (h : wpQuiet P l.toArray (fun w' => ∃ n, w' = w.drewN n) (fun a' => ∀ w', (∃ n, w' = w.drewN n) → Q .normal a' w') l a) : (Code.region id l.toArray true).wpIn (Fence.wide.inRound r) n P Q a w := by
  simp only [Region.lexB, Bool.and_eq_true] at hB
  refine wpIn_region_any hm (wpAnyIn_round r rfl hd _ _ _ _ (anyQ_onIn (C := fun w' => ∃ n, w' = w.drewN n) (Q := fun a' => ∀ w', (∃ n, w' = w.drewN n) → Q .normal a' w') (fun _ w' hw' h => h w' hw') _ _ _ _ ⟨1, rfl⟩ ?_))
  have := wpAnyQ_lex (C := fun w' => ∃ n, w' = w.drewN n) (md := .any) hB.1 l.toArray.toList 0 (Array.replicate l.toArray.size false) a (by simp) (by simpa using hB.2) (by simpa using h)
  simpa using this

/-- The types of what the loop's body turns. -/
def LtD (_ : Nat) (t : TypeId) : Prop := t = SpsT ∨ t = SpT ∨ t = 3 ∨ t = 4
theorem spInfo : (Try.prog.info? SpT).map (fun i => (i.zero, i.size, i.bytes)) = some (some (.agg #[.int .i64 0, .int .i64 0]), 2, 16) := by kernel_rfl

/-- What the loop turns, and what it reads. -/
abbrev ltL (W0 : Nat) (s : LtS) (q : Option Addr) (cap : Nat) : List Ob :=
  [Ob.row 0 SpT 2 (.slice q s.out.length cap) s.out.length (pc s.out), Ob.blk (W0 + 5) 4 #[.bool s.some], Ob.blk (W0 + 4) 3 #[.int .i64 s.next], Ob.blk (W0 + 3) SpsT #[.slice q s.out.length cap]]
abbrev ltR (W0 px : Nat) (now win : Int) : List Ob := [Ob.blk (W0 + 2) 3 #[.int .i64 win], Ob.blk (W0 + 1) 3 #[.int .i64 now], Ob.blk W0 PrT #[.pointer (at0 px)]]
/-- The loop's standing. -/
def LtI (w : World) (px : Nat) (x : Rk) (now win : Int) {L : Its} (pre : List (It L)) (W : World) : Prop :=
  (∃ q cap, Sep None w W (ltL w.heap.size (x.goes now win (pre.map (·.1.2))) q cap ++ ltR w.heap.size px now win)) ∧ ∀ y ∈ pre, y.1.2.order < x.order
theorem LtI.odd {w A C : World} {px S : Nat} {x : Rk} {now win : Int} {L : Its} {pre : List (It L)} (h : LtI w px x now win pre A) (f : Fr (Odd S A) A C) (hS : w.heap.size ≤ S) : LtI w px x now win pre C :=
  ⟨h.1.imp fun _ h => h.imp fun _ h => h.odd f hS, h.2⟩
theorem frC_b {D : Nat → TypeId → Prop} {S : Nat} (W : World) (l : Nat) (o o' : Obj) (_ : S ≤ l) (h : W.heap[l]? = some o) (hc : o.isCells = false) (_ : o.isWalk = false) : FrC D W (W.putObj l o') := FrC.putObj W l o o' h hc
theorem row_none (e : TypeId) (size : Nat) (W : World) : (Ob.row 0 e size (.slice none 0 0) 0 []).ok W := ⟨by simp, .inl ⟨rfl, rfl⟩⟩

theorem goes_snoc (x : Rk) (now win : Int) (l : List Rc) (r : Rc) : x.goes now win (l ++ [r]) = x.step now win (x.goes now win l) r := by simp [Rk.goes, List.foldl_append]
theorem row_block {W : World} {base : Nat} {e : TypeId} {size n : Nat} {v : Value} {xs : List Value} (h : W.ownsRow base e size v n xs) {b : Nat} (hb : v.ownBlock = some b) : ∃ cs, Blk W b e cs := by
  rcases h.2 with ⟨rfl, _⟩ | ⟨g, cap, cur, rfl, _, hg, _⟩
  · cases hb
  · cases hb; exact ⟨cur, hg⟩
theorem lt_types {W : World} {W0 : Nat} {s : LtS} {q : Option Addr} {cap : Nat} (h : ∀ o ∈ ltL W0 s q cap, o.ok W) {k : Nat} (hk : ∃ o ∈ ltL W0 s q cap, o.fp k) : ∃ cs t, Blk W k t cs ∧ LtD k t := by
  obtain ⟨o, ho, hk⟩ := hk
  have hok := h o ho
  simp only [ltL, List.mem_cons, List.not_mem_nil, or_false] at ho
  rcases ho with rfl | rfl | rfl | rfl
  · obtain ⟨cs, hc⟩ := row_block hok hk
    exact ⟨cs, _, hc, .inr (.inl rfl)⟩
  · obtain rfl : k = _ := hk
    exact ⟨_, _, hok, .inr (.inr (.inr rfl))⟩
  · obtain rfl : k = _ := hk
    exact ⟨_, _, hok, .inr (.inr (.inl rfl))⟩
  · obtain rfl : k = _ := hk
    exact ⟨_, _, hok, .inl rfl⟩
/-- A round's end. -/
theorem lt_fin {w V W' : World} {px : Nat} {x : Rk} {now win : Int} {L : Its} {pre : List (It L)} {y : It L} {s s' : LtS} {q q' : Option Addr} {cap cap' B : Nat}
    (S : Sep None w V (ltL w.heap.size s q cap ++ ltR w.heap.size px now win)) (ho : ∀ y ∈ pre, y.1.2.order < x.order) (hy : y.1.2.order < x.order)
    (hsn : x.goes now win ((pre ++ [y]).map (·.1.2)) = x.step now win s y.1.2) (e : x.step now win s y.1.2 = s')
    (S' : Sep (fun k => ∃ o ∈ ltL w.heap.size s q cap, o.fp k) V W' (ltL w.heap.size s' q' cap')) : KeepsFrom B V W' ∧ FrC LtD V W' ∧ LtI w px x now win (pre ++ [y]) W' := by
  have hok : ∀ o ∈ ltL w.heap.size s q cap, o.ok V := fun o h => S.ok o (List.mem_append_left _ h)
  refine ⟨KeepsFrom.of_fr S'.fr fun k o hk _ h => ?_, FrC.of_fr S'.fr fun k cs t z h hk => ?_, ⟨q', cap', ?_⟩, fun z hz => ?_⟩
  · obtain ⟨cs, t, hc, _⟩ := lt_types hok hk
    unfold Blk at hc; rw [hc] at h; cases h; rfl
  · obtain ⟨cs', t', hc, hd⟩ := lt_types hok hk
    unfold Blk at hc; rw [hc] at h; cases h; exact hd
  · rw [hsn, e]
    exact Sep.comp S S'
  · rcases List.mem_append.1 hz with h | h
    · exact ho z h
    · obtain rfl := List.mem_singleton.1 h
      exact hy
theorem step_len (x : Rk) (now win : Int) (s : LtS) (r : Rc) : (x.step now win s r).out.length ≤ s.out.length + 1 := by
  unfold Rk.step
  split
  · exact Nat.le_add_right _ _
  · split
    · simp
    · split <;> exact Nat.le_add_right _ _
theorem goes_len (x : Rk) (now win : Int) (l : List Rc) : (x.goes now win l).out.length ≤ l.length := by
  have : ∀ (l : List Rc) (s : LtS), (l.foldl (x.step now win) s).out.length ≤ s.out.length + l.length := by
    intro l
    induction l with
    | nil => intro s; exact Nat.le_refl _
    | cons r l ih =>
      intro s
      have h1 := ih (x.step now win s r)
      have h2 := step_len x now win s r
      simp only [List.foldl_cons, List.length_cons]
      omega
  simpa [Rk.goes] using this l ⟨[], 0, false⟩

/-- The end: what is handed out. -/
theorem lt_done {w V : World} {px Dd : Nat} {now win : Int} {s : LtS} {q : Option Addr} {cap : Nat} (S : Sep None w V (ltL w.heap.size s q cap ++ ltR w.heap.size px now win)) (n : Nat) (hK : V.heap[Dd]? = some (.deferred (some []))) (hD : w.heap.size ≤ Dd) :
    Sep None w ((V.drewN n).putObj Dd (.deferred none)) [Ob.row 0 SpT 2 (.slice q s.out.length cap) s.out.length (pc s.out)] :=
  ((S.drewN n).odd (w' := (V.drewN n).putObj Dd (.deferred none)) (B := Dd) ⟨rfl, rfl, rfl, by simp, fun k hk hn => World.putObj_heap_other (fun e => hn (by subst e; exact ⟨Nat.le_refl _, _, hK, rfl⟩))⟩ hD).drop (by simp)
theorem attach_recs (L : Its) : L.attach.map (fun y : It L => y.1.2) = L.map (·.2) := by
  conv => rhs; rw [← List.attach_map_subtype_val L]
  rw [List.map_map]; rfl
theorem takeWhile_all {α : Type} {p : α → Bool} {l : List α} (h : ∀ a ∈ l, p a = true) : l.takeWhile p = l := by
  induction l with
  | nil => rfl
  | cons a l ih => rw [List.takeWhile_cons_of_pos (h a List.mem_cons_self), ih fun b hb => h b (List.mem_cons_of_mem _ hb)]
theorem takeWhile_till {α : Type} {p : α → Bool} {l m : List α} {a : α} (h : ∀ b ∈ l, p b = true) (ha : p a = false) : (l ++ a :: m).takeWhile p = l := by
  induction l with
  | nil => rw [List.nil_append, List.takeWhile_cons_of_neg (by simp [ha])]
  | cons b l ih => rw [List.cons_append, List.takeWhile_cons_of_pos (h b List.mem_cons_self), ih fun c hc => h c (List.mem_cons_of_mem _ hc)]

set_option maxRecDepth 100000 in
set_option maxHeartbeats 4000000 in
theorem late_any (p px : Nat) (b : Bk) (x : Rk) (now win : Int) (w : World) (hB : BookAt w p b) (hx : Blk w px RkT (rkc x)) (hr : 0 ≤ x.rtt ∧ x.rtt ≤ 4398046511104) (hL : ∀ y ∈ b.L, 0 ≤ y.2.sent ∧ y.2.sent ≤ 1099511627776) (hn : b.L.length ≤ 1000000) :
    Calls Try.prog 20 #[.pointer (at0 px), .pointer (at0 p), .int .i64 now, .int .i64 win] w fun e w' =>
      ∃ q cap, e = .returned (.tuple #[.slice q (x.late now win (b.L.map (·.2))).out.length cap, .int .i64 (x.late now win (b.L.map (·.2))).next, .bool (x.late now win (b.L.map (·.2))).some]) ∧
        Sep None w w' [Ob.row 0 SpT 2 (.slice q (x.late now win (b.L.map (·.2))).out.length cap) (x.late now win (b.L.map (·.2))).out.length (pc (x.late now win (b.L.map (·.2))).out)] := by
  have S0 := ((((((((Sep.law w).alloc #[.pointer (at0 px)] PrT).alloc #[.int .i64 now] 3).alloc #[.int .i64 win] 3).alloc #[.slice none 0 0] SpsT).alloc #[.int .i64 0] 3).alloc #[.bool false] 4))
  have HA := Lib.hid (inOrder_any p ((((((w.alloc (.cells #[.pointer (at0 px)] PrT)).alloc (.cells #[.int .i64 now] 3)).alloc (.cells #[.int .i64 win] 3)).alloc (.cells #[.slice none 0 0] SpsT)).alloc (.cells #[.int .i64 0] 3)).alloc (.cells #[.bool false] 4)))
  simp only [World.size_alloc] at HA S0
  obtain ⟨i, hi, hz0, hz1, hz2⟩ := info_parts spInfo
  have HI := Lib.hid (And.intro hi (And.intro hz0 (And.intro hz1 hz2))); clear hi hz0 hz1 hz2
  have S1 := S0.skip (.cells #[.pointer (at0 p)] PbT)
  have hpb := Blk.new ((((((w.alloc (.cells #[.pointer (at0 px)] PrT)).alloc (.cells #[.int .i64 now] 3)).alloc (.cells #[.int .i64 win] 3)).alloc (.cells #[.slice none 0 0] SpsT)).alloc (.cells #[.int .i64 0] 3)).alloc (.cells #[.bool false] 4)) PbT #[.pointer (at0 p)]
  have S2 := S1.add (Ob.row 0 SpT 2 (.slice none 0 0) 0 (pc [])) (Fr.refl None _) (row_none _ _ _) (fun k hk => (by cases hk))
  simp only [World.size_alloc] at hpb
  have hsz : ((((((((w.alloc (.cells #[.pointer (at0 px)] PrT)).alloc (.cells #[.int .i64 now] 3)).alloc (.cells #[.int .i64 win] 3)).alloc (.cells #[.slice none 0 0] SpsT)).alloc (.cells #[.int .i64 0] 3)).alloc (.cells #[.bool false] 4)).alloc (.cells #[.pointer (at0 p)] PbT))).heap.size = w.heap.size + 7 := by simp
  generalize eW : ((((((((w.alloc (.cells #[.pointer (at0 px)] PrT)).alloc (.cells #[.int .i64 now] 3)).alloc (.cells #[.int .i64 win] 3)).alloc (.cells #[.slice none 0 0] SpsT)).alloc (.cells #[.int .i64 0] 3)).alloc (.cells #[.bool false] 4)).alloc (.cells #[.pointer (at0 p)] PbT))) = W0 at S1 S2 hpb hsz
  have EW := Lib.hid eW; clear eW
  have HS := Lib.hid (fun n => inOrder_x n p (w.heap.size + 6) b W0 LtD (hB.same S2.fr) hpb (fun k _ => ⟨by unfold LtD; decide, by unfold LtD; decide⟩) (fun k => by unfold LtD; decide))
  have HX := Lib.hid hx
  have H0 := Lib.hid (show LtI (L := b.L) w px x now win [] W0 from ⟨⟨none, 0, S2⟩, fun _ h => (by cases h)⟩)
  have HZ := Lib.hid hsz
  clear S0 S1 S2 hpb hsz hB hx
  refine (callsIn_wide (n := 5)).1 ?_
  refine callsIn_of_wp_marks Try.func20 rfl trivial ?_ rfl
  simp only [Try.ntmps20, List.size_toArray, List.length_cons, List.length_nil, Nat.reduceAdd, Nat.reduceSub, Array.replicate_succ, Array.replicate_zero, List.push_toArray, List.append_toArray, List.nil_append, List.cons_append]
  gi_wp2_with fail
  refine ⟨trivial, (callsIn_wide.2 HA.out).mono ?_⟩
  rintro e w1 ⟨rfl, e1⟩
  simp only [EW.out] at e1
  simp only [e1]
  clear e1 w1
  gi_wp2_with fail
  refine wpIn_rangeXB (gf := 115) (lb := #[.pointer (at0 (w.heap.size + 6))]) rfl (enters_of Try.func115 (by kernel_rfl) rfl) (HS.out _) (fun h k => h.trans k) frC_b (Below.refl _ _) (fun _ => rfl)
    (LtI w px x now win) (fun c pre V => c = .exit 0 ∧ ∃ pre' y, pre = pre' ++ [y] ∧ LtI w px x now win pre' V ∧ x.order ≤ y.1.2.order)
    (ownFrom_of fun s A C h f => h.odd f (by rw [HZ.out]; omega)) (fun c => ownFrom_of fun s A C h f => ⟨h.1, by obtain ⟨_, u, v, h1, h2, h3⟩ := h; exact ⟨u, v, h1, h2.odd f (by rw [HZ.out]; omega), h3⟩⟩) H0.out
    ?fA (fun y k V => Blk V k RcT (rcc y.1.2)) (fun y k => ownFrom_of fun s A C h f => h.fr f h.odd) ?assign ?body ?done ?stop
  case assign =>
    intro l pre y V K hI hK
    gi_wp2
    have f : Fr None V (V.alloc (.cells (rcc y.1.2) RcT)) := (Fr.refl None V).alloc _
    have hK' := hK V.heap.size (V.alloc (.cells (rcc y.1.2) RcT)) (KeepsFrom.of_fr f (fun _ _ h => h.elim)) (FrC.none f) ⟨hI.1.imp fun _ h => h.imp fun _ h => h.same f, hI.2⟩ (Blk.new V RcT (rcc y.1.2))
    clear hI hK f
    generalize V.heap.size = k at *
    exact hK'
  case body =>
    rintro l pre y k V ⟨⟨q, cap, S⟩, ho⟩ hk hlen
    have hsn := goes_snoc x now win (pre.map (·.1.2)) y.1.2
    rw [show pre.map (fun z : It b.L => z.1.2) ++ [y.1.2] = (pre ++ [y]).map (fun z : It b.L => z.1.2) by simp] at hsn
    have hls := goes_len x now win (pre.map (·.1.2))
    rw [List.length_map] at hls
    have hX := HX.out.fr S.fr id
    have hI : LtI w px x now win pre V := ⟨⟨q, cap, S⟩, ho⟩
    generalize hgs : x.goes now win (pre.map (·.1.2)) = s at S hsn hls
    clear hgs
    have r1 : V.cell? ⟨k, 2, none⟩ = some (.int .i64 y.1.2.sent) := hk.cell 2
    have r2 : V.cell? ⟨k, 3, none⟩ = some (.int .i64 y.1.2.order) := hk.cell 3
    have r5 : V.cell? ⟨k, 6, none⟩ = some (.bool y.1.2.lost) := hk.cell 6
    have x1 : V.cell? ⟨px, 1, none⟩ = some (.int .i64 x.rtt) := hX.cell 1
    have x2 : V.cell? ⟨px, 2, none⟩ = some (.int .i64 x.order) := hX.cell 2
    have b0 : V.cell? ⟨w.heap.size, 0, none⟩ = some (.pointer (at0 px)) := (S.at_ 6 rfl).cell 0
    have b1 : V.cell? ⟨w.heap.size + 1, 0, none⟩ = some (.int .i64 now) := (S.at_ 5 rfl).cell 0
    have b2 : V.cell? ⟨w.heap.size + 2, 0, none⟩ = some (.int .i64 win) := (S.at_ 4 rfl).cell 0
    by_cases g : x.order ≤ y.1.2.order
    · have HI := Lib.hid hI
      clear hI S ho hsn hls hk hX r1 r5
      gi_wp2_with fail
      refine region_round_quiet (by kernel_rfl) (by kernel_rfl) (by kernel_rfl) ?_
      repeat (go_big_quiet_step (fail))
      refine wpQuiet_nil ?_
      rintro _ ⟨nq, rfl⟩
      gi_wp2_with fail
      exact ⟨KeepsFrom.of_fr ((Fr.refl None V).drewN nq) (fun _ _ h => h.elim), rfl, pre, y, rfl, ⟨HI.out.1.imp fun _ h => h.imp fun _ h => h.drewN nq, HI.out.2⟩, g⟩
    · have hy : y.1.2.order < x.order := by omega
      have ht := timeS_bounds win
      have hs := hL y.1 y.2
      have SV : Sep (fun k => ∃ o ∈ ltL w.heap.size s q cap, o.fp k) V V (ltL w.heap.size s q cap) := Sep.of _ (fun o h => S.ok o (List.mem_append_left _ h)) (List.pairwise_append.1 S.apart).1
      have b3 : V.cell? ⟨w.heap.size + 3, 0, none⟩ = some (.slice q s.out.length cap) := (SV.at_ 3 rfl).cell 0
      have b4 : V.cell? ⟨w.heap.size + 4, 0, none⟩ = some (.int .i64 s.next) := (SV.at_ 2 rfl).cell 0
      have b5 : V.cell? ⟨w.heap.size + 5, 0, none⟩ = some (.bool s.some) := (SV.at_ 1 rfl).cell 0
      have z4 : V.frozen? ⟨w.heap.size + 1 + 1 + 1 + 1, 0, none⟩ = false := Blk.frozen (SV.at_ 2 rfl) 0
      have z5 : V.frozen? ⟨w.heap.size + 1 + 1 + 1 + 1 + 1, 0, none⟩ = false := Blk.frozen (SV.at_ 1 rfl) 0
      have r0 : V.cell? ⟨k, 0, none⟩ = some (.int .i64 y.1.2.fr) := hk.cell 0
      have r01 : V.cell? ⟨k, 1, none⟩ = some (.int .i64 y.1.2.to) := hk.cell 1
      have FIN := Lib.hid (fun W' s' q' cap' => lt_fin (W' := W') (s' := s') (q' := q') (cap' := cap') (B := W0.heap.size) S ho hy hsn)
      have HV := Lib.hid SV
      clear S SV ho hk hX hI hsn hL
      by_cases g1 : y.1.2.lost = true
      · rw [g1] at r5
        gi_wp2_with fail
        refine region_round_quiet (by kernel_rfl) (by kernel_rfl) (by kernel_rfl) ?_
        repeat (go_big_quiet_step (fail))
        refine wpQuiet_nil ?_
        rintro _ ⟨nq, rfl⟩
        gi_wp2_with fail
        refine region_round_quiet (by kernel_rfl) (by kernel_rfl) (by kernel_rfl) ?_
        repeat (go_big_quiet_step ((exact (time_any _ _).mono (by rintro e w1 ⟨rfl, rfl⟩; exact ⟨rfl, _, rfl⟩))))
        refine wpQuiet_nil ?_
        rintro _ ⟨nq2, rfl⟩
        gi_wp2_with fail
        exact FIN.out _ _ _ _ (by unfold Rk.step; rw [if_pos g1]) (HV.out.drewN _)
      · rw [Bool.eq_false_iff.2 g1] at r5
        by_cases g2 : y.1.2.sent + x.rtt + timeS win < now
        · gi_wp2_with fail
          refine region_round_quiet (by kernel_rfl) (by kernel_rfl) (by kernel_rfl) ?_
          repeat (go_big_quiet_step (fail))
          refine wpQuiet_nil ?_
          rintro _ ⟨nq, rfl⟩
          gi_wp2_with fail
          refine region_round_quiet (by kernel_rfl) (by kernel_rfl) (by kernel_rfl) ?_
          repeat (go_big_quiet_step ((exact (time_any _ _).mono (by rintro e w1 ⟨rfl, rfl⟩; exact ⟨rfl, _, rfl⟩))))
          refine wpQuiet_nil ?_
          rintro _ ⟨nq2, rfl⟩
          gi_wp2_with (with_reducible refine HoldIn.out ?_)
          refine HoldIn.mk ?_
          generalize nq + nq2 = m
          have S1 := HV.out.drewN m
          refine wpListIn_append_row _ rfl _ _ _ rfl 0 SpT i _ 2 16 Try.underlying59 HI.out.1 HI.out.2.1 HI.out.2.2.1 HI.out.2.2.2 rfl (by omega) (.slice q s.out.length cap) s.out.length (pc s.out) rfl
            ((S1.skip (.cells #[.int .i64 y.1.2.fr, .int .i64 y.1.2.to] SpT)).at_ 0 rfl) (some ⟨V.heap.size, 0, none⟩) 1 1 (pc [(y.1.2.fr, y.1.2.to)]) rfl (reads_one (V.drewN m) SpT (y.1.2.fr, y.1.2.to)) (pc_one _) (by simp [maxLen]; omega) (by omega) (Nat.zero_le _) ?_
          intro q' cap' w1 ho hf hb
          have S2 := Sep.append S1 0 rfl _ ho hf hb
          have S3 := S2.set 3 rfl 0 (.slice q' (s.out.length + 1) cap')
          have c3 : w1.cell? ⟨w.heap.size + 3, 0, none⟩ = some (.slice q s.out.length cap) := (S2.at_ 3 rfl).cell 0
          have z3 : w1.frozen? ⟨w.heap.size + 1 + 1 + 1, 0, none⟩ = false := Blk.frozen (S2.at_ 3 rfl) 0
          have H3 := Lib.hid S3
          clear ho hf hb S1 S2 S3 b3
          gi_wp2_with fail
          refine FIN.out _ { s with out := s.out ++ [(y.1.2.fr, y.1.2.to)] } q' cap' (by unfold Rk.step; rw [if_neg g1, if_pos g2]) ?_
          have e2 : (s.out ++ [(y.1.2.fr, y.1.2.to)]).length = s.out.length + 1 := by simp
          show Sep _ V _ [Ob.row 0 SpT 2 (.slice q' (s.out ++ [(y.1.2.fr, y.1.2.to)]).length cap') (s.out ++ [(y.1.2.fr, y.1.2.to)]).length (pc (s.out ++ [(y.1.2.fr, y.1.2.to)])), Ob.blk _ 4 #[.bool s.some], Ob.blk _ 3 #[.int .i64 s.next], Ob.blk _ SpsT #[.slice q' (s.out ++ [(y.1.2.fr, y.1.2.to)]).length cap']]
          rw [pc_append, e2]
          exact H3.out
        · have hst : x.step now win s y.1.2 = if s.some = false ∨ y.1.2.sent + x.rtt + timeS win + 1 < s.next then { s with next := y.1.2.sent + x.rtt + timeS win + 1, some := true } else s := by
            unfold Rk.step; rw [if_neg g1, if_neg g2]
          cases hsm : s.some with
          | false =>
            rw [hsm] at b5
            gi_wp2_with fail
            refine region_round_quiet (by kernel_rfl) (by kernel_rfl) (by kernel_rfl) ?_
            repeat (go_big_quiet_step (fail))
            refine wpQuiet_nil ?_
            rintro _ ⟨nq, rfl⟩
            gi_wp2_with fail
            refine region_round_quiet (by kernel_rfl) (by kernel_rfl) (by kernel_rfl) ?_
            repeat (go_big_quiet_step ((exact (time_any _ _).mono (by rintro e w1 ⟨rfl, rfl⟩; exact ⟨rfl, _, rfl⟩))))
            refine wpQuiet_nil ?_
            rintro _ ⟨nq2, rfl⟩
            gi_wp2_with fail
            exact FIN.out _ _ _ _ (by rw [hst, if_pos (.inl hsm)]) (((HV.out.drewN _).set 2 rfl 0 _).set 1 rfl 0 _)
          | true =>
            rw [hsm] at b5
            by_cases g3 : y.1.2.sent + x.rtt + timeS win + 1 < s.next
            · gi_wp2_with fail
              refine region_round_quiet (by kernel_rfl) (by kernel_rfl) (by kernel_rfl) ?_
              repeat (go_big_quiet_step (fail))
              refine wpQuiet_nil ?_
              rintro _ ⟨nq, rfl⟩
              gi_wp2_with fail
              refine region_round_quiet (by kernel_rfl) (by kernel_rfl) (by kernel_rfl) ?_
              repeat (go_big_quiet_step ((exact (time_any _ _).mono (by rintro e w1 ⟨rfl, rfl⟩; exact ⟨rfl, _, rfl⟩))))
              refine wpQuiet_nil ?_
              rintro _ ⟨nq2, rfl⟩
              gi_wp2_with fail
              exact FIN.out _ _ _ _ (by rw [hst, if_pos (.inr g3)]) (((HV.out.drewN _).set 2 rfl 0 _).set 1 rfl 0 _)
            · gi_wp2_with fail
              refine region_round_quiet (by kernel_rfl) (by kernel_rfl) (by kernel_rfl) ?_
              repeat (go_big_quiet_step (fail))
              refine wpQuiet_nil ?_
              rintro _ ⟨nq, rfl⟩
              gi_wp2_with fail
              refine region_round_quiet (by kernel_rfl) (by kernel_rfl) (by kernel_rfl) ?_
              repeat (go_big_quiet_step ((exact (time_any _ _).mono (by rintro e w1 ⟨rfl, rfl⟩; exact ⟨rfl, _, rfl⟩))))
              refine wpQuiet_nil ?_
              rintro _ ⟨nq2, rfl⟩
              gi_wp2_with fail
              exact FIN.out _ _ _ _ (by rw [hst, if_neg (by rw [hsm]; simp; omega)]) (HV.out.drewN _)
  case done =>
    rintro Dd xs V hDd rfl hI hK
    have e : x.goes now win (b.L.attach.map (·.1.2)) = x.late now win (b.L.map (·.2)) := by
      unfold Rk.late
      rw [takeWhile_all fun r hr => ?_, attach_recs]
      obtain ⟨y, hy, rfl⟩ := List.mem_map.1 hr
      exact decide_eq_true (hI.2 ⟨y, hy⟩ (List.mem_attach _ _))
    obtain ⟨⟨q, cap, S⟩, ho⟩ := hI
    rw [e] at S
    have b3 := (S.at_ 3 rfl).cell 0
    have b4 := (S.at_ 2 rfl).cell 0
    have b5 := (S.at_ 1 rfl).cell 0
    have HV := Lib.hid S
    clear S ho e
    gi_wp2_with fail
    refine wpIn_wide.2 ?_
    go_quiet (fail)
    have hK' : (V.drewN nq).heap[Dd]? = some (.deferred (some [])) := hK
    gi_wp2_with fail
    refine ⟨by simp, .inl ⟨_, _, rfl, run_takeDeferred hK', ?_⟩⟩
    refine ⟨.tuple #[_, _, _], by simp [results, Try.results20, go_sem]; exact ⟨rfl, rfl, rfl⟩, ?_⟩
    exact ⟨q, cap, rfl, lt_done HV.out nq hK (by have := HZ.out; omega)⟩
  case stop =>
    rintro Dd c pre V hDd ⟨rest, hSp⟩ ⟨rfl, pre', y, rfl, hI, hy⟩ hK
    have e : x.goes now win (pre'.map (·.1.2)) = x.late now win (b.L.map (·.2)) := by
      unfold Rk.late
      rw [← attach_recs, ← hSp, List.append_assoc, List.map_append, List.singleton_append, List.map_cons, takeWhile_till (p := fun r : Rc => decide (r.order < x.order)) (fun r hr => ?_) (by simpa using hy)]
      obtain ⟨z, hz, rfl⟩ := List.mem_map.1 hr
      exact decide_eq_true (hI.2 z hz)
    obtain ⟨⟨q, cap, S⟩, ho⟩ := hI
    rw [e] at S
    have b3 := (S.at_ 3 rfl).cell 0
    have b4 := (S.at_ 2 rfl).cell 0
    have b5 := (S.at_ 1 rfl).cell 0
    have HV := Lib.hid S
    clear S ho e hSp
    gi_wp2_with fail
    refine wpIn_wide.2 ?_
    go_quiet (fail)
    have hK' : (V.drewN nq).heap[Dd]? = some (.deferred (some [])) := hK
    gi_wp2_with fail
    refine ⟨by simp, .inl ⟨_, _, rfl, run_takeDeferred hK', ?_⟩⟩
    refine ⟨.tuple #[_, _, _], by simp [results, Try.results20, go_sem]; exact ⟨rfl, rfl, rfl⟩, ?_⟩
    exact ⟨q, cap, rfl, lt_done HV.out nq hK (by have := HZ.out; omega)⟩
end Go.Proofs.Ytckbeppofnnfkaa
