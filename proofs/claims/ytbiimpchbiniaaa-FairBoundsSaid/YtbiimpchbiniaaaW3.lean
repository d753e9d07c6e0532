import Derived.Test.YtbiimpchbiniaaaW2
namespace Go.Proofs.Ytbiimpchbiniaaa
open Go.RowKit

/-- A world that holds below W's end what W holds. -/
noncomputable def Mix (W x : World) : World := open Classical in if Below W.heap.size W x then x else W
theorem mix_below (W x : World) : Below W.heap.size W (Mix W x) := by
  unfold Mix; split
  · assumption
  · exact Below.refl _ _
theorem mix_of {W w' : World} (h : Below W.heap.size W w') : ∃ x, w' = Mix W x := ⟨w', by unfold Mix; rw [if_pos h]⟩
theorem mix_step {W w' : World} {x : World} (h : Below (Mix W x).heap.size (Mix W x) w') : ∃ y, w' = Mix W y :=
  mix_of ((mix_below W x).trans (h.mono (mix_below W x).size))
theorem Reads.mix {W : World} {b : Nat} {cs : Array Value} (h : Reads W b cs) : ∀ x o, (Mix W x).cell? ⟨b, o, none⟩ = cs[o]? :=
  fun x => (h.below (mix_below W x)).2

theorem wp_region_class {P : Program} {C : World → Prop} {id : Nat} {Q : Exit → Act → World → Prop} {a : Act} {w : World} {l : List Oper} (hm : P.follows .mixedOrders = true) (hB : Region.lexB .any l.toArray = true)
    (hC : C { w with drawn := w.drawn + 1 }) (h : wpQuiet P l.toArray C (fun a' => ∀ w', C w' → Q .normal a' w') l a) : (Code.region id l.toArray true).wp P Q a w :=
  wp_region_quiet (C := C) hm hB hC (by simpa using h)

theorem boundV_pos {c : Cfg} {b k t d : Int} : 0 ≤ boundV c b k t d := by
  unfold boundV
  split
  · rename_i h
    obtain ⟨B1, B2, B3⟩ := bound_in (m := c.maxRto) ⟨by omega, by omega⟩ h.2
    omega
  · omega

theorem boundV_mono {c : Cfg} {b k t d : Int} {x y z u : Int} (hx : 0 ≤ x) (hy : 0 ≤ y) (hz : 0 ≤ z) (hu : 0 ≤ u) (xs : x ≤ 255) (ys : y ≤ 7) (zs : z ≤ 255) (us : u ≤ 255)
    (h0 : boundV c b k t d ≠ 0) (hb : b ≤ 65000) (hk : k ≤ 8) (ht : t ≤ 34359738368) (hd : d ≤ 34359738368) :
    boundV c b k t d ≤ boundV c (b + x) (k + y) (t + z) (d + u) ∧ d ≤ boundV c b k t d := by
  have hr : c.right ∧ numsOk b k t d := by
    by_cases h : c.right ∧ numsOk b k t d
    · exact h
    · exact absurd (by unfold boundV; rw [if_neg h]) h0
  have e1 : boundV c b k t d = b * (k * k * (c.maxRto + d) + 2 * (t + d) + d) + d := by unfold boundV; rw [if_pos hr]
  have e2 : boundV c (b + x) (k + y) (t + z) (d + u) = (b + x) * ((k + y) * (k + y) * (c.maxRto + (d + u)) + 2 * ((t + z) + (d + u)) + (d + u)) + (d + u) := by
    unfold boundV; rw [if_pos ⟨hr.1, by unfold numsOk at *; omega⟩]
  rw [e1, e2]
  obtain ⟨hc, hn⟩ := hr
  obtain ⟨B1, B2, B3⟩ := bound_in (m := c.maxRto) ⟨by omega, by omega⟩ hn
  have f1 : k * k ≤ (k + y) * (k + y) := Int.mul_le_mul (by omega) (by omega) (by omega) (by omega)
  have f2 : k * k * (c.maxRto + d) ≤ (k + y) * (k + y) * (c.maxRto + (d + u)) := Int.mul_le_mul f1 (by omega) (by omega) (by omega)
  have f3 : b * (k * k * (c.maxRto + d) + 2 * (t + d) + d) ≤ (b + x) * ((k + y) * (k + y) * (c.maxRto + (d + u)) + 2 * ((t + z) + (d + u)) + (d + u)) :=
    Int.mul_le_mul (by omega) (by omega) (by omega) (by omega)
  constructor <;> omega

theorem boundV_wrap {c : Cfg} {b k t d m0 m1 m2 m3 : Int} (hm : (0 ≤ m0 ∧ m0 ≤ 255) ∧ (0 ≤ m1 ∧ m1 ≤ 255) ∧ (0 ≤ m2 ∧ m2 ≤ 255) ∧ (0 ≤ m3 ∧ m3 ≤ 255))
    (h0 : boundV c b k t d ≠ 0) (hb : b ≤ 65000) (hk : k ≤ 8) (ht : t ≤ 34359738368) (hd : d ≤ 34359738368) :
    boundV c b k t d ≤ boundV c (wrap64 (b + m0)) (wrap64 (k + m1 % 8)) (wrap64 (t + m2)) (wrap64 (d + m3)) ∧ d ≤ boundV c b k t d := by
  have hr : c.right ∧ numsOk b k t d := by
    by_cases h : c.right ∧ numsOk b k t d
    · exact h
    · exact absurd (by unfold boundV; rw [if_neg h]) h0
  obtain ⟨hc, hn⟩ := hr
  rw [IntWalk.wrap64_in (b + m0) (by omega), IntWalk.wrap64_in (k + m1 % 8) (by omega), IntWalk.wrap64_in (t + m2) (by omega), IntWalk.wrap64_in (d + m3) (by omega)]
  exact boundV_mono (by omega) (by omega) (by omega) (by omega) (by omega) (by omega) (by omega) (by omega) h0 hb hk ht hd

def A4 (m0 m1 m2 m3 : Int) : Value := .agg #[.int .u8 m0, .int .u8 m1, .int .u8 m2, .int .u8 m3]

theorem quiet_mix {f : FuncId} {args : Array Value} {W : World} {v : Value} {x : World}
    (h : Calls Try.prog f args (Mix W x) fun e w' => e = .returned v ∧ Below (Mix W x).heap.size (Mix W x) w') :
    Calls Try.prog f args (Mix W x) fun e w' => e = .returned v ∧ ∃ y, w' = Mix W y :=
  h.mono fun _ _ ⟨he, hb⟩ => ⟨he, mix_step hb⟩

set_option maxHeartbeats 800000 in
theorem law_any (c : Cfg) (b k t d m0 m1 m2 m3 : Int) (w : World)
    (hm : (0 ≤ m0 ∧ m0 ≤ 255) ∧ (0 ≤ m1 ∧ m1 ≤ 255) ∧ (0 ≤ m2 ∧ m2 ≤ 255) ∧ (0 ≤ m3 ∧ m3 ≤ 255)) :
    Calls Try.prog 3 #[c.val, .int .i64 b, .int .i64 k, .int .i64 t, .int .i64 d, A4 m0 m1 m2 m3] w fun e w' => e = .returned (.bool true) ∧ Below w.heap.size w w' := by
  have hb := fun b k t d w => bound_any c b k t d w
  have hr := fun b k t d w => refBound_any c b k t d w
  have hkn := fun w => known_any w
  obtain ⟨c0, c1, c2, c3, c4, c5, c6, c7⟩ := c
  have HP := Lib.hid (boundV_pos (c := ⟨c0, c1, c2, c3, c4, c5, c6, c7⟩) (b := b) (k := k) (t := t) (d := d))
  have HM := Lib.hid (fun (h0 : ¬ boundV ⟨c0, c1, c2, c3, c4, c5, c6, c7⟩ b k t d = 0) h1 h2 h3 h4 =>
    boundV_wrap (c := ⟨c0, c1, c2, c3, c4, c5, c6, c7⟩) (b := b) (k := k) (t := t) (d := d) hm h0 h1 h2 h3 h4)
  generalize hF : boundV ⟨c0, c1, c2, c3, c4, c5, c6, c7⟩ = F at *
  simp only [Cfg.val, A4] at *
  have HF := Lib.hid hF; clear hF
  have HB := Lib.hid hb; clear hb
  have HR := Lib.hid hr; clear hr
  have HK := Lib.hid hkn; clear hkn
  go_enter Try.func3, Try.ntmps3
  go_wp2_with fail
  have hW : ∃ W, W = ((w.alloc (.cells #[.int .u32 c0, .int .i64 c1, .int .i64 c2, .int .i64 c3, .int .i64 c4, .int .i64 c5, .int .i64 c6, .int .i64 c7] 24)).alloc (.cells #[.int .u8 m0, .int .u8 m1, .int .u8 m2, .int .u8 m3] 25)) := ⟨_, rfl⟩
  have r1 := (Reads.new w #[.int .u32 c0, .int .i64 c1, .int .i64 c2, .int .i64 c3, .int .i64 c4, .int .i64 c5, .int .i64 c6, .int .i64 c7] 24).alloc (.cells #[.int .u8 m0, .int .u8 m1, .int .u8 m2, .int .u8 m3] 25)
  have r2 := Reads.new (w.alloc (.cells #[.int .u32 c0, .int .i64 c1, .int .i64 c2, .int .i64 c3, .int .i64 c4, .int .i64 c5, .int .i64 c6, .int .i64 c7] 24)) #[.int .u8 m0, .int .u8 m1, .int .u8 m2, .int .u8 m3] 25
  have hz : (w.alloc (.cells #[.int .u32 c0, .int .i64 c1, .int .i64 c2, .int .i64 c3, .int .i64 c4, .int .i64 c5, .int .i64 c6, .int .i64 c7] 24)).heap.size = w.heap.size + 1 := by simp
  rw [hz] at r2
  have HBW : Hid (Below w.heap.size w ((w.alloc (.cells #[.int .u32 c0, .int .i64 c1, .int .i64 c2, .int .i64 c3, .int .i64 c4, .int .i64 c5, .int .i64 c6, .int .i64 c7] 24)).alloc (.cells #[.int .u8 m0, .int .u8 m1, .int .u8 m2, .int .u8 m3] 25))) :=
    ((Below.refl _ _).alloc (Nat.le_refl _) _).alloc (by simp) _
  obtain ⟨W, hW⟩ := hW
  rw [← hW] at r1 r2 HBW ⊢
  clear hW hz
  have R1 := Lib.hid r1; have R2 := Lib.hid r2
  have g1 := r1.mix; have g2 := r2.mix; clear r1 r2
  refine wp_region_class (C := fun w' => ∃ x, w' = Mix W x) (by kernel_rfl) (by kernel_rfl) (mix_of ((Below.refl W.heap.size W).drew)) ?_
  repeat (go_big_quiet_step (first
    | (go_at_call 4; exact quiet_mix (HK.out _))
    | (go_at_call 5; exact quiet_mix (HB.out _ _ _ _ _))
    | (go_at_call 6; exact quiet_mix (HR.out _ _ _ _ _))))
  refine wpQuiet_nil ?_
  intro w' hw'
  obtain ⟨x, rfl⟩ := hw'
  have HBx := Lib.hid (mix_below W x)
  clear g1 g2
  have S1 := Lib.hid (R1.out.below (mix_below W x)); have S2 := Lib.hid (R2.out.below (mix_below W x))
  have g1 := S1.out.2; have g2 := S2.out.2
  generalize Mix W x = W1 at *
  go_wp2_with (first
    | (go_at_call 5; refine (HB.out _ _ _ _ _).mono ?_; rintro e w1 ⟨rfl, hb1⟩; have k1 := (S1.out.below hb1).2; have k2 := (S2.out.below hb1).2)
    | (go_at_call 5; refine (HB.out _ _ _ _ _).mono ?_; rintro e w2 ⟨rfl, hb2⟩))
  all_goals go_ret
  all_goals (refine ⟨ret_bool (b := true) ?_, ?_⟩; rotate_left)
  all_goals first
    | exact (HBW.out.trans (HBx.out.mono HBW.out.size)).trans (hb1.mono (Nat.le_trans HBW.out.size HBx.out.size))
    | exact ((HBW.out.trans (HBx.out.mono HBW.out.size)).trans (hb1.mono (Nat.le_trans HBW.out.size HBx.out.size))).trans (hb2.mono (Nat.le_trans (Nat.le_trans HBW.out.size HBx.out.size) hb1.size))
    | rfl
    | exact decide_eq_true HP.out
    | (exact decide_eq_true (HM.out (by assumption) (by omega) (by omega) (by omega) (by omega)).2)
    | (have := (HM.out (by assumption) (by omega) (by omega) (by omega) (by omega)).1; omega)

end Go.Proofs.Ytbiimpchbiniaaa
