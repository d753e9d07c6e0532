import Derived.Test.YtbiimpchbiniaaaW3
import Derived.Test.YtbiimpchbiniaaaOpen
namespace Go.Proofs.Ytbiimpchbiniaaa
open Go.RowKit Go.Und

abbrev I : Sh := .int .i64
abbrev shCfg : Sh := .agg (.cons (.int .u32) (.cons I (.cons I (.cons I (.cons I (.cons I (.cons I (.cons I .nil))))))))
abbrev sh4 : Sh := .agg (.cons (.int .u8) (.cons (.int .u8) (.cons (.int .u8) (.cons (.int .u8) .nil))))

theorem cfg_of {W : World} {cs : Array Value} {u : U} (h : shCfg.holds W u cs.toList) : ∃ c : Cfg, cs = c.cells := by
  obtain ⟨_, rfl, h⟩ := h
  obtain ⟨_, _, _, _, rfl, h0, _, ⟨n0, rfl, rfl, _⟩, h⟩ := h
  obtain ⟨_, _, _, _, rfl, rfl, _, ⟨n1, rfl, rfl, _⟩, h⟩ := h
  obtain ⟨_, _, _, _, rfl, rfl, _, ⟨n2, rfl, rfl, _⟩, h⟩ := h
  obtain ⟨_, _, _, _, rfl, rfl, _, ⟨n3, rfl, rfl, _⟩, h⟩ := h
  obtain ⟨_, _, _, _, rfl, rfl, _, ⟨n4, rfl, rfl, _⟩, h⟩ := h
  obtain ⟨_, _, _, _, rfl, rfl, _, ⟨n5, rfl, rfl, _⟩, h⟩ := h
  obtain ⟨_, _, _, _, rfl, rfl, _, ⟨n6, rfl, rfl, _⟩, h⟩ := h
  obtain ⟨_, _, _, _, rfl, rfl, _, ⟨n7, rfl, rfl, _⟩, h⟩ := h
  obtain ⟨rfl, rfl⟩ := h
  exact ⟨⟨n0, n1, n2, n3, n4, n5, n6, n7⟩, by cases cs; simpa [Cfg.cells] using h0⟩

theorem four_of {W : World} {cs : Array Value} {u : U} (h : sh4.holds W u cs.toList) :
    ∃ m0 m1 m2 m3 : Int, .agg cs = A4 m0 m1 m2 m3 ∧ ((0 ≤ m0 ∧ m0 ≤ 255) ∧ (0 ≤ m1 ∧ m1 ≤ 255) ∧ (0 ≤ m2 ∧ m2 ≤ 255) ∧ (0 ≤ m3 ∧ m3 ≤ 255)) := by
  obtain ⟨_, rfl, h⟩ := h
  obtain ⟨_, _, _, _, rfl, h0, _, ⟨n0, rfl, rfl, w0⟩, h⟩ := h
  obtain ⟨_, _, _, _, rfl, rfl, _, ⟨n1, rfl, rfl, w1⟩, h⟩ := h
  obtain ⟨_, _, _, _, rfl, rfl, _, ⟨n2, rfl, rfl, w2⟩, h⟩ := h
  obtain ⟨_, _, _, _, rfl, rfl, _, ⟨n3, rfl, rfl, w3⟩, h⟩ := h
  obtain ⟨rfl, rfl⟩ := h
  refine ⟨n0, n1, n2, n3, ?_, bounds_u8 w0, bounds_u8 w1, bounds_u8 w2, bounds_u8 w3⟩
  cases cs
  simp at h0
  subst h0
  rfl

theorem fairBounds_walk (W : World) (c0 : Array Value) (u0 : U) (h0 : shCfg.holds W u0 c0.toList) (v1 : Value) (u1 : U) (h1 : I.holds W u1 [v1]) (v2 : Value) (u2 : U) (h2 : I.holds W u2 [v2])
    (v3 : Value) (u3 : U) (h3 : I.holds W u3 [v3]) (v4 : Value) (u4 : U) (h4 : I.holds W u4 [v4]) (c5 : Array Value) (u5 : U) (h5 : sh4.holds W u5 c5.toList) :
    Calls Try.prog 3 #[.agg c0, v1, v2, v3, v4, .agg c5] W fun e w' => e = .returned (.bool true) ∧ Below W.heap.size W w' := by
  obtain ⟨c, rfl⟩ := cfg_of h0
  obtain ⟨b, _, hb, _⟩ := h1
  obtain ⟨k, _, hk, _⟩ := h2
  obtain ⟨t, _, ht, _⟩ := h3
  obtain ⟨d, _, hd, _⟩ := h4
  simp only [List.cons.injEq, and_true] at hb hk ht hd
  subst hb hk ht hd
  obtain ⟨m0, m1, m2, m3, e5, hm⟩ := four_of h5
  rw [e5]
  exact law_any c b k t d m0 m1 m2 m3 W hm
end Go.Proofs.Ytbiimpchbiniaaa
