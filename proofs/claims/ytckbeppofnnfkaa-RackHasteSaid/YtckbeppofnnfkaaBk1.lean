/- The ring's own steps, walked. -/
import Derived.Test.YtckbeppofnnfkaaBk0
import Derived.Test.YtckbeppofnnfkaaSep
import Derived.WalkSpells
import Derived.WalkLawsBesides
import Derived.Deep.QuietTactic
import Derived.BigQuiet
import Derived.Deep.RegionHeld3
import Derived.Deep.DrawnRows
import Derived.Handy
import Derived.Outline
namespace Go.Proofs.Ytckbeppofnnfkaa
open Go.RowKit Go.Und
attribute [local go_sem ↓] Go.wp_at_zero Go.wp_at_succ

abbrev ItT : TypeId := 155
abbrev LnT : TypeId := 147

theorem cell_farB {W : World} {b : Nat} {o : Nat} {q : Addr} (h : b ≠ q.block) (v : Value) : (W.setCell q v).cell? ⟨b, o, none⟩ = W.cell? ⟨b, o, none⟩ :=
  World.cell?_of_block (a := ⟨b, o, none⟩) (Below.heap_setCell W q v b h)

theorem cell_dr (W : World) (a : Addr) : W.drew.cell? a = W.cell? a := rfl
theorem cell_new_at {W : World} {n : Nat} (h : W.heap.size = n) (cs : Array Value) (t : TypeId) (o : Nat) : (W.alloc (.cells cs t)).cell? ⟨n, o, none⟩ = cs[o]? := by subst h; exact (Blk.new W t cs).cell o
theorem cell_old_at {W : World} {b : Nat} (h : b < W.heap.size) (x : Obj) (o : Nat) : (W.alloc x).cell? ⟨b, o, none⟩ = W.cell? ⟨b, o, none⟩ := World.cell?_of_block (a := ⟨b, o, none⟩) (Below.heap_alloc W x b h)

set_option maxHeartbeats 1000000 in
theorem newLine_any (w : World) : Calls Try.prog 102 #[] w fun e w' => ∃ b0, e = .returned (.agg #[.pointer (at0 b0)]) ∧ Ring ItT w' b0 [] ∧ w.heap.size ≤ b0 ∧ Fr None w w' := by
  go_enter Try.func102, Try.ntmps102
  go_wp2_with fail
  have f0 : Fr None w ((w.alloc (.cells #[.pointer (at0 (w.heap.size + 1))] LnT)).alloc (.cells (itc .zero (at0 (w.heap.size + 1)) (at0 (w.heap.size + 1))) ItT)) := ((Fr.refl None w).alloc _).alloc _
  have r0 : Ring ItT ((w.alloc (.cells #[.pointer (at0 (w.heap.size + 1))] LnT)).alloc (.cells (itc .zero (at0 (w.heap.size + 1)) (at0 (w.heap.size + 1))) ItT)) (w.heap.size + 1) [] :=
    ⟨by have := Blk.new (w.alloc (.cells #[.pointer (at0 (w.heap.size + 1))] LnT)) ItT (itc .zero (at0 (w.heap.size + 1)) (at0 (w.heap.size + 1))); rwa [World.size_alloc] at this, trivial, by simp⟩
  exact bodyPost_ret (v := .agg #[.pointer (at0 (w.heap.size + 1))]) (by simp [results, Try.results102, go_sem]) rfl ⟨_, rfl, r0, by omega, f0⟩

/-- Two items, side by side. -/
theorem sep_two {W : World} {x y : Nat} {t t' : TypeId} {cs cs' : Array Value} (hx : Blk W x t cs) (hy : Blk W y t' cs') (h : x ≠ y) : Sep (fun k => k = x ∨ k = y) W W [.blk x t cs, .blk y t' cs'] :=
  ⟨Fr.refl _ W, fun o ho => by
    rcases List.mem_cons.1 ho with rfl | ho
    · exact hx
    · rw [List.mem_singleton.1 ho]; exact hy, fun o ho k hk => by
    rcases List.mem_cons.1 ho with rfl | ho
    · exact .inl (.inl hk)
    · rw [List.mem_singleton.1 ho] at hk; exact .inl (.inr hk),
    List.pairwise_cons.2 ⟨fun o ho k hk hk' => by rw [List.mem_singleton.1 ho] at hk'; exact h (hk.symm.trans hk'), List.pairwise_singleton _ _⟩⟩

set_option maxHeartbeats 2000000 in
theorem linePut_nil (b0 x : Nat) (rx : Rc) (p n : Option Addr) (W : World) (hb : Blk W b0 ItT (itc .zero (at0 b0) (at0 b0))) (hx : Blk W x ItT (itc rx p n)) (hne : x ≠ b0) :
    Calls Try.prog 110 #[.agg #[.pointer (at0 b0)], .pointer (at0 x)] W fun e W' => e = .returned (.tuple #[]) ∧ Blk W' b0 ItT (itc .zero (at0 x) (at0 x)) ∧ Blk W' x ItT (itc rx (at0 b0) (at0 b0)) ∧ Fr (fun k => k = x ∨ k = b0) W W' := by
  have S0 := Lib.hid (sep_two hx hb hne)
  have hlx := hx.lt
  have hlb := hb.lt
  have cb7 : W.cell? ⟨b0, 7, none⟩ = some (.pointer (at0 b0)) := hb.cell 7
  have zb := hb.frozen
  have cx7 : W.cell? ⟨x, 7, none⟩ = some (.pointer p) := hx.cell 7
  have cx8 : W.cell? ⟨x, 8, none⟩ = some (.pointer n) := hx.cell 8
  have zx := hx.frozen
  clear hb hx
  have hne' : b0 ≠ x := Ne.symm hne
  go_enter Try.func110, Try.ntmps110
  go_wp2_with fail
  go_region_held3 (fun w' => w'.cell? ⟨W.heap.size, 0, none⟩ = some (.pointer (at0 b0)) ∧ w'.cell? ⟨b0, 7, none⟩ = some (.pointer (at0 b0))) (first | (go_keep; done) | exact ⟨(cell_dr _ _).trans (cell_new_at (by simp) _ _ _), (cell_dr _ _).trans ((cell_old_at (by simpa using hlb) _ _).trans ((cell_farB hne' _).trans cb7))⟩ | exact ⟨(cell_dr _ _).trans (cell_new_at (by simp) _ _ _), (cell_dr _ _).trans ((cell_old_at (by simpa using hlb) _ _).trans ((cell_farB hne' _).trans ((cell_farB hne' _).trans cb7)))⟩) (fail)
  all_goals
    have S1 := Lib.hid (((S0.out.set 0 rfl 7 (.pointer (at0 b0))).set 0 rfl 8 (.pointer (at0 b0))).skip (.cells #[.pointer (at0 b0)] LnT)).drew
    clear S0 cb7 zb cx7 cx8 zx hlx hlb
    generalize (((W.setCell ⟨x, 7, none⟩ (.pointer (at0 b0))).setCell ⟨x, 8, none⟩ (.pointer (at0 b0))).alloc (.cells #[.pointer (at0 b0)] LnT)).drew = W1 at *
    have hx := S1.out.at_ 0 rfl
    have hb := S1.out.at_ 1 rfl
    have cx7 : W1.cell? ⟨x, 7, none⟩ = some (.pointer (at0 b0)) := Blk.cell hx 7
    have cx8 : W1.cell? ⟨x, 8, none⟩ = some (.pointer (at0 b0)) := Blk.cell hx 8
    have cb7 : W1.cell? ⟨b0, 7, none⟩ = some (.pointer (at0 b0)) := Blk.cell hb 7
    have cb8 : W1.cell? ⟨b0, 8, none⟩ = some (.pointer (at0 b0)) := Blk.cell hb 8
    have zb : ∀ o, W1.frozen? ⟨b0, o, none⟩ = false := Blk.frozen hb
    clear hx hb
    go_wp2_with fail
    go_region_held3 (fun w' => w'.cell? ⟨x, 7, none⟩ = some (.pointer (at0 b0)) ∧ w'.cell? ⟨x, 8, none⟩ = some (.pointer (at0 b0))) (first | (go_keep; done) | exact ⟨(cell_farB hne _).trans cx7, (cell_farB hne _).trans cx8⟩ | exact ⟨(cell_farB hne _).trans ((cell_farB hne _).trans cx7), (cell_farB hne _).trans ((cell_farB hne _).trans cx8)⟩) (fail)
    all_goals
      have S2 := Lib.hid ((S1.out.set 1 rfl 8 (.pointer (at0 x))).set 1 rfl 7 (.pointer (at0 x))).drew
      clear cx7 cx8 cb7 cb8 zb S1
      go_wp2_with fail
      go_end0
      exact ⟨rfl, S2.out.at_ 1 rfl, S2.out.at_ 0 rfl, S2.out.fr⟩

theorem sep_three {W : World} {x y z : Nat} {t t' t'' : TypeId} {cs cs' cs'' : Array Value} (hx : Blk W x t cs) (hy : Blk W y t' cs') (hz : Blk W z t'' cs'') (h1 : x ≠ y) (h2 : x ≠ z) (h3 : y ≠ z) :
    Sep (fun k => k = x ∨ k = y ∨ k = z) W W [.blk x t cs, .blk y t' cs', .blk z t'' cs''] := by
  refine ⟨Fr.refl _ W, fun o ho => ?_, fun o ho k hk => .inl ?_, ?_⟩
  · simp only [List.mem_cons, List.not_mem_nil, or_false] at ho
    rcases ho with rfl | rfl | rfl
    · exact hx
    · exact hy
    · exact hz
  · simp only [List.mem_cons, List.not_mem_nil, or_false] at ho
    rcases ho with rfl | rfl | rfl
    · exact .inl hk
    · exact .inr (.inl hk)
    · exact .inr (.inr hk)
  · simp only [List.pairwise_cons, List.mem_cons, List.not_mem_nil, or_false, List.Pairwise.nil, and_true]
    refine ⟨fun o ho k hk hk' => ?_, fun o ho k hk hk' => ?_, fun _ h => h.elim⟩
    · rcases ho with rfl | rfl
      · exact h1 (hk.symm.trans hk')
      · exact h2 (hk.symm.trans hk')
    · subst ho; exact h3 (hk.symm.trans hk')

set_option maxHeartbeats 2000000 in
theorem linePut_snoc (b0 x y f : Nat) (rx ry : Rc) (p n q : Option Addr) (W : World) (hb : Blk W b0 ItT (itc .zero (at0 y) (at0 f))) (hx : Blk W x ItT (itc rx p n)) (hy : Blk W y ItT (itc ry q (at0 b0))) (hne : x ≠ b0) (hxy : x ≠ y) (hyb : y ≠ b0) :
    Calls Try.prog 110 #[.agg #[.pointer (at0 b0)], .pointer (at0 x)] W fun e W' => e = .returned (.tuple #[]) ∧ Blk W' b0 ItT (itc .zero (at0 x) (at0 f)) ∧ Blk W' y ItT (itc ry q (at0 x)) ∧ Blk W' x ItT (itc rx (at0 y) (at0 b0)) ∧ Fr (fun k => k = x ∨ k = b0 ∨ k = y) W W' := by
  have S0 := Lib.hid (sep_three hx hb hy hne hxy (Ne.symm hyb))
  have hlx := hx.lt
  have hlb := hb.lt
  have cb7 : W.cell? ⟨b0, 7, none⟩ = some (.pointer (at0 y)) := hb.cell 7
  have zb := hb.frozen
  have cx7 : W.cell? ⟨x, 7, none⟩ = some (.pointer p) := hx.cell 7
  have cx8 : W.cell? ⟨x, 8, none⟩ = some (.pointer n) := hx.cell 8
  have zx := hx.frozen
  clear hb hx hy
  have hne' : b0 ≠ x := Ne.symm hne
  go_enter Try.func110, Try.ntmps110
  go_wp2_with fail
  go_region_held3 (fun w' => w'.cell? ⟨W.heap.size, 0, none⟩ = some (.pointer (at0 b0)) ∧ w'.cell? ⟨b0, 7, none⟩ = some (.pointer (at0 y))) (first | (go_keep; done) | exact ⟨(cell_dr _ _).trans (cell_new_at (by simp) _ _ _), (cell_dr _ _).trans ((cell_old_at (by simpa using hlb) _ _).trans ((cell_farB hne' _).trans cb7))⟩ | exact ⟨(cell_dr _ _).trans (cell_new_at (by simp) _ _ _), (cell_dr _ _).trans ((cell_old_at (by simpa using hlb) _ _).trans ((cell_farB hne' _).trans ((cell_farB hne' _).trans cb7)))⟩) (fail)
  all_goals
    have S1 := Lib.hid (((S0.out.set 0 rfl 7 (.pointer (at0 y))).set 0 rfl 8 (.pointer (at0 b0))).skip (.cells #[.pointer (at0 b0)] LnT)).drew
    clear S0 cb7 zb cx7 cx8 zx hlx hlb
    generalize (((W.setCell ⟨x, 7, none⟩ (.pointer (at0 y))).setCell ⟨x, 8, none⟩ (.pointer (at0 b0))).alloc (.cells #[.pointer (at0 b0)] LnT)).drew = W1 at *
    have hx := S1.out.at_ 0 rfl
    have hb := S1.out.at_ 1 rfl
    have hy := S1.out.at_ 2 rfl
    have cx7 : W1.cell? ⟨x, 7, none⟩ = some (.pointer (at0 y)) := Blk.cell hx 7
    have cx8 : W1.cell? ⟨x, 8, none⟩ = some (.pointer (at0 b0)) := Blk.cell hx 8
    have cy8 : W1.cell? ⟨y, 8, none⟩ = some (.pointer (at0 b0)) := Blk.cell hy 8
    have cb7 : W1.cell? ⟨b0, 7, none⟩ = some (.pointer (at0 y)) := Blk.cell hb 7
    have zb : ∀ o, W1.frozen? ⟨b0, o, none⟩ = false := Blk.frozen hb
    have zy : ∀ o, W1.frozen? ⟨y, o, none⟩ = false := Blk.frozen hy
    clear hx hb hy
    have hyb' : b0 ≠ y := Ne.symm hyb
    go_wp2_with fail
    go_region_held3 (fun w' => w'.cell? ⟨x, 7, none⟩ = some (.pointer (at0 y)) ∧ w'.cell? ⟨x, 8, none⟩ = some (.pointer (at0 b0))) (first | (go_keep; done) | exact ⟨(cell_farB hxy _).trans cx7, (cell_farB hxy _).trans cx8⟩ | exact ⟨(cell_farB hne _).trans ((cell_farB hxy _).trans cx7), (cell_farB hne _).trans ((cell_farB hxy _).trans cx8)⟩) (fail)
    all_goals
      have S2 := Lib.hid ((S1.out.set 2 rfl 8 (.pointer (at0 x))).set 1 rfl 7 (.pointer (at0 x))).drew
      clear cx7 cx8 cb7 cy8 zb zy S1
      go_wp2_with fail
      go_end0
      exact ⟨rfl, S2.out.at_ 1 rfl, S2.out.at_ 2 rfl, S2.out.at_ 0 rfl, S2.out.fr⟩

/-- An item is put behind all. -/
theorem linePut_any (b0 x : Nat) (L : Its) (rx : Rc) (p n : Option Addr) (W : World) (hR : Ring ItT W b0 L) (hx : Blk W x ItT (itc rx p n)) (hne : x ≠ b0 ∧ x ∉ L.map (·.1)) :
    Calls Try.prog 110 #[.agg #[.pointer (at0 b0)], .pointer (at0 x)] W fun e W' => e = .returned (.tuple #[]) ∧ Ring ItT W' b0 (L ++ [(x, rx)]) ∧ Fr (fun k => k = x ∨ k = b0 ∨ k ∈ L.map (·.1)) W W' := by
  rcases List.eq_nil_or_concat L with rfl | ⟨L', y, rfl⟩
  · refine (linePut_nil b0 x rx p n W hR.bare hx hne.1).mono fun e W' ⟨h1, h2, h3, h4⟩ => ⟨h1, Ring.put_nil h2 h3 hne.1, h4.mono fun k _ h => ?_⟩
    rcases h with h | h
    · exact .inl h
    · exact .inr (.inl h)
  · rw [List.concat_eq_append] at *
    obtain ⟨y, ry⟩ := y
    have hl := hR.line
    rw [line_append] at hl
    have hbare := hR.bare
    rw [lastB_append] at hbare
    have hn := List.nodup_cons.1 hR.nodup
    have hym : y ∈ (L' ++ [(y, ry)]).map (·.1) := by simp
    refine (linePut_snoc b0 x y _ rx ry p n _ W hbare hx hl.2.1 hne.1 (fun e => hne.2 (e ▸ hym)) (fun e => hn.1 (e ▸ hym))).mono fun e W' ⟨h1, h2, h3, h4, h5⟩ =>
      ⟨h1, hR.put_snoc h5 (fun _ h => h) hne h2 h3 h4, h5.mono fun k _ h => ?_⟩
    rcases h with h | h | h
    · exact .inl h
    · exact .inr (.inl h)
    · exact .inr (.inr (h ▸ hym))

set_option maxHeartbeats 2000000 in
theorem lineCut_one (c x y : Nat) (rx r : Rc) (W : World) (hx : Blk W x ItT (itc rx (at0 y) (at0 y))) (hy : Blk W y ItT (itc r (at0 x) (at0 x))) (hxy : x ≠ y) :
    Calls Try.prog 95 #[.agg #[.pointer (at0 c)], .pointer (at0 x)] W fun e W' => e = .returned (.tuple #[]) ∧ Blk W' y ItT (itc r (at0 y) (at0 y)) ∧ Fr (fun k => k = x ∨ k = y) W W' ∧ Blk W' x ItT (itc rx (at0 y) (at0 y)) := by
  have S0 := Lib.hid ((sep_two hx hy hxy).skip (.cells #[.pointer (at0 c)] LnT))
  have hlx := hx.lt
  clear hx hy
  go_enter Try.func95, Try.ntmps95
  go_wp2_with fail
  generalize W.alloc (.cells #[.pointer (at0 c)] LnT) = W1 at *
  have hx := S0.out.at_ 0 rfl
  have hy := S0.out.at_ 1 rfl
  have cx7 : W1.cell? ⟨x, 7, none⟩ = some (.pointer (at0 y)) := Blk.cell hx 7
  have cx8 : W1.cell? ⟨x, 8, none⟩ = some (.pointer (at0 y)) := Blk.cell hx 8
  have cy7 : W1.cell? ⟨y, 7, none⟩ = some (.pointer (at0 x)) := Blk.cell hy 7
  have cy8 : W1.cell? ⟨y, 8, none⟩ = some (.pointer (at0 x)) := Blk.cell hy 8
  have zy : ∀ o, W1.frozen? ⟨y, o, none⟩ = false := Blk.frozen hy
  clear hx hy
  have hyx : y ≠ x := Ne.symm hxy
  go_region_held3 (fun w' => w'.cell? ⟨x, 7, none⟩ = some (.pointer (at0 y)) ∧ w'.cell? ⟨x, 8, none⟩ = some (.pointer (at0 y))) (first | (go_keep; done) | exact ⟨(cell_farB hxy _).trans cx7, (cell_farB hxy _).trans cx8⟩ | exact ⟨(cell_farB hxy _).trans ((cell_farB hxy _).trans cx7), (cell_farB hxy _).trans ((cell_farB hxy _).trans cx8)⟩) (fail)
  all_goals
    have S2 := Lib.hid ((S0.out.set 1 rfl 8 (.pointer (at0 y))).set 1 rfl 7 (.pointer (at0 y))).drew
    clear cx7 cx8 cy7 cy8 zy S0
    go_wp2_with fail
    go_end0
    exact ⟨rfl, S2.out.at_ 1 rfl, S2.out.fr, S2.out.at_ 0 rfl⟩

set_option maxHeartbeats 2000000 in
theorem lineCut_two (c x y z : Nat) (rx ry rz : Rc) (a b : Option Addr) (W : World) (hx : Blk W x ItT (itc rx (at0 y) (at0 z))) (hy : Blk W y ItT (itc ry a (at0 x))) (hz : Blk W z ItT (itc rz (at0 x) b)) (hxy : x ≠ y) (hxz : x ≠ z) (hyz : y ≠ z) :
    Calls Try.prog 95 #[.agg #[.pointer (at0 c)], .pointer (at0 x)] W fun e W' => e = .returned (.tuple #[]) ∧ Blk W' y ItT (itc ry a (at0 z)) ∧ Blk W' z ItT (itc rz (at0 y) b) ∧ Fr (fun k => k = x ∨ k = y ∨ k = z) W W' ∧ Blk W' x ItT (itc rx (at0 y) (at0 z)) := by
  have S0 := Lib.hid ((sep_three hx hy hz hxy hxz hyz).skip (.cells #[.pointer (at0 c)] LnT))
  have hlx := hx.lt
  clear hx hy hz
  go_enter Try.func95, Try.ntmps95
  go_wp2_with fail
  generalize W.alloc (.cells #[.pointer (at0 c)] LnT) = W1 at *
  have hx := S0.out.at_ 0 rfl
  have hy := S0.out.at_ 1 rfl
  have hz := S0.out.at_ 2 rfl
  have cx7 : W1.cell? ⟨x, 7, none⟩ = some (.pointer (at0 y)) := Blk.cell hx 7
  have cx8 : W1.cell? ⟨x, 8, none⟩ = some (.pointer (at0 z)) := Blk.cell hx 8
  have cz7 : W1.cell? ⟨z, 7, none⟩ = some (.pointer (at0 x)) := Blk.cell hz 7
  have cy8 : W1.cell? ⟨y, 8, none⟩ = some (.pointer (at0 x)) := Blk.cell hy 8
  have zy : ∀ o, W1.frozen? ⟨y, o, none⟩ = false := Blk.frozen hy
  have zz : ∀ o, W1.frozen? ⟨z, o, none⟩ = false := Blk.frozen hz
  clear hx hy hz
  have hyx : y ≠ x := Ne.symm hxy
  have hzx : z ≠ x := Ne.symm hxz
  have hzy : z ≠ y := Ne.symm hyz
  go_region_held3 (fun w' => w'.cell? ⟨x, 7, none⟩ = some (.pointer (at0 y)) ∧ w'.cell? ⟨x, 8, none⟩ = some (.pointer (at0 z))) (first | (go_keep; done) | exact ⟨(cell_farB hxy _).trans cx7, (cell_farB hxy _).trans cx8⟩ | exact ⟨(cell_farB hxz _).trans ((cell_farB hxy _).trans cx7), (cell_farB hxz _).trans ((cell_farB hxy _).trans cx8)⟩) (fail)
  all_goals
    have S2 := Lib.hid ((S0.out.set 1 rfl 8 (.pointer (at0 z))).set 2 rfl 7 (.pointer (at0 y))).drew
    clear cx7 cx8 cz7 cy8 zy zz S0
    go_wp2_with fail
    go_end0
    exact ⟨rfl, S2.out.at_ 1 rfl, S2.out.at_ 2 rfl, S2.out.fr, S2.out.at_ 0 rfl⟩

/-- An item is cut out. -/
theorem lineCut_any (b0 x : Nat) (l m : Its) (rx : Rc) (W : World) (hR : Ring ItT W b0 (l ++ (x, rx) :: m)) :
    Calls Try.prog 95 #[.agg #[.pointer (at0 b0)], .pointer (at0 x)] W fun e W' => e = .returned (.tuple #[]) ∧ Ring ItT W' b0 (l ++ m) ∧ (∃ p n, Blk W' x ItT (itc rx p n)) ∧ Fr (fun k => k = b0 ∨ k ∈ (l ++ (x, rx) :: m).map (·.1)) W W' := by
  have hl := hR.line
  rw [line_append] at hl
  obtain ⟨hl1, hx, hm⟩ := hl
  have hb := hR.bare
  have hn := List.nodup_cons.1 hR.nodup
  have hn2 := hn.2
  rw [List.map_append, List.map_cons, List.nodup_append] at hn2
  have hxl : x ∉ l.map (·.1) := fun h => hn2.2.2 x h x (by simp) rfl
  have hxm : x ∉ m.map (·.1) := (List.nodup_cons.1 hn2.2.1).1
  have hxb : x ≠ b0 := fun e => hn.1 (by rw [← e]; simp)
  have hxp : x ≠ lastB b0 l := fun e => by rcases lastB_mem b0 l with h | h; exact hxb (e.trans h); exact hxl (e ▸ h)
  have hxn : x ≠ firstB m b0 := fun e => by rcases firstB_mem m b0 with h | h; exact hxb (e.trans h); exact hxm (e ▸ h)
  have hmp : lastB b0 l = b0 ∨ lastB b0 l ∈ (l ++ (x, rx) :: m).map (·.1) := by
    rcases lastB_mem b0 l with h | h
    · exact .inl h
    · exact .inr (by rw [List.map_append]; exact List.mem_append_left _ h)
  have hmn : firstB m b0 = b0 ∨ firstB m b0 ∈ (l ++ (x, rx) :: m).map (·.1) := by
    rcases firstB_mem m b0 with h | h
    · exact .inl h
    · exact .inr (by rw [List.map_append, List.map_cons]; exact List.mem_append_right _ (List.mem_cons_of_mem _ h))
  have hmx : x ∈ (l ++ (x, rx) :: m).map (·.1) := by simp
  -- the item ahead, and the one behind
  have hp : ∃ r a, Blk W (lastB b0 l) ItT (itc r a (at0 x)) := by
    rcases List.eq_nil_or_concat l with rfl | ⟨l', y, rfl⟩
    · exact ⟨_, _, hb⟩
    · rw [List.concat_eq_append] at *
      rw [line_append] at hl1
      rw [lastB_append]
      exact ⟨_, _, hl1.2.1⟩
  have hq : ∃ r a, Blk W (firstB m b0) ItT (itc r (at0 x) a) := by
    cases m with
    | nil =>
      rw [lastB_append, lastB_cons, lastB_nil] at hb
      exact ⟨_, _, hb⟩
    | cons y m => exact ⟨_, _, hm.1⟩
  obtain ⟨ry, a, hy⟩ := hp
  obtain ⟨rz, b, hz⟩ := hq
  by_cases hyz : lastB b0 l = firstB m b0
  · have h1 : lastB b0 l = b0 ∧ firstB m b0 = b0 := by
      rcases lastB_mem b0 l with h | h
      · exact ⟨h, hyz ▸ h⟩
      · rcases firstB_mem m b0 with h' | h'
        · rw [hyz, h'] at h; exact absurd (by rw [List.map_append]; exact List.mem_append_left _ h) hn.1
        · rw [← hyz] at h'; exact absurd rfl (hn2.2.2 _ h _ (List.mem_cons_of_mem _ h'))
    obtain ⟨e1, e2⟩ := h1
    have hy' : Blk W b0 ItT (itc .zero (at0 x) (at0 x)) := by
      rw [e1] at hy
      rw [e2] at hz
      have e3 := hb
      rw [lastB_append, firstB_append, lastB_cons, firstB_cons] at e3
      have i1 := (e3.cell 8).symm.trans (hy.cell 8)
      have i2 := (e3.cell 7).symm.trans (hz.cell 7)
      simp [itc] at i1 i2
      rw [i1, i2] at e3
      exact e3
    rw [e1, e2] at hx
    refine (lineCut_one b0 x b0 rx .zero W hx hy' hxb).mono fun e W' ⟨h1, h2, h3, h4⟩ => ⟨h1, ?_, ⟨_, _, h4⟩, h3.mono fun k _ h => by rcases h with rfl | rfl; exact .inr hmx; exact .inl rfl⟩
    have hlm : l = [] ∧ m = [] := by
      refine ⟨?_, ?_⟩
      · rcases List.eq_nil_or_concat l with rfl | ⟨l', y, rfl⟩
        · rfl
        · rw [List.concat_eq_append, lastB_append, lastB_cons, lastB_nil] at e1
          exact absurd (by rw [← e1]; simp) hn.1
      · cases m with
        | nil => rfl
        | cons y m => rw [firstB_cons] at e2; exact absurd (by rw [← e2]; simp) hn.1
    obtain ⟨rfl, rfl⟩ := hlm
    exact ⟨h2, trivial, by simp⟩
  · refine (lineCut_two b0 x _ _ rx ry rz a b W hx hy hz hxp hxn hyz).mono fun e W' ⟨h1, h2, h3, h4, h5⟩ => ⟨h1, ?_, ⟨_, _, h5⟩, h4.mono fun k _ h => by rcases h with rfl | rfl | rfl; exact .inr hmx; exact hmp; exact hmn⟩
    have hf : Fr (fun k => k = lastB b0 l ∨ k = firstB m b0) W W' := by
      refine ⟨h4.os, h4.tape, h4.output, h4.size, fun k hk hnk => ?_⟩
      by_cases e : k = x
      · subst e
        unfold Blk at hx h5
        rw [h5, hx]
      · exact h4.block k hk (fun h => by rcases h with h | h; exact e h; exact hnk h)
    have same : ∀ {b : Nat} {c d : Array Value}, Blk W b ItT c → Blk W b ItT d → c = d := fun h h' => by
      unfold Blk at h h'; rw [h] at h'; cases h'; rfl
    refine hR.cut_of hf (fun _ h => h) (fun r a' h _ => ?_) (fun r a' h _ => ?_) (fun r _ e1 e2 => absurd (e1.trans e2.symm) hyz)
    · have := same h hy
      simp [itc] at this
      obtain ⟨i1, i2, i3, i4, i5, i6, i7, rfl⟩ := this
      have : r = ry := by cases r; cases ry; simp_all
      subst this; exact h2
    · have := same h hz
      simp [itc] at this
      obtain ⟨i1, i2, i3, i4, i5, i6, i7, rfl⟩ := this
      have : r = rz := by cases r; cases rz; simp_all
      subst this; exact h3
end Go.Proofs.Ytckbeppofnnfkaa
