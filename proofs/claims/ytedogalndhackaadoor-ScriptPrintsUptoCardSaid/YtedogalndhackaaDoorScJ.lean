/- ScriptPrints, as the statement has its arguments. -/
import Derived.Test.YtedogalndhackaaDoorScI
import Derived.Test.YtedogalndhackaaDoorScG
set_option linter.unusedVariables false
set_option linter.unusedSimpArgs false
namespace Go.Proofs.YtedogalndhackaaDoor
open Go.RowKit Go.Und Go.Shelf Go.Sort
def shI : Sh := .int .i64
def shCf : Sh := .agg (.cons (.int .u32) (.cons (.int .i64) (.cons (.int .i64) (.cons (.int .i64) (.cons (.int .i64) (.cons (.int .i64) (.cons (.int .i64) (.cons (.int .i64) .nil))))))))
theorem cf_of {W : World} {u : U} {cs : List Value} (h : shCf.holds W u cs) : ∃ c : Cf, cs = c.cs ∧ c.ok := by
  obtain ⟨_, rfl, g⟩ := h
  obtain ⟨_, _, _, _, rfl, e0, _, ⟨f, rfl, rfl, wf⟩, g⟩ := g
  obtain ⟨_, _, _, _, rfl, e1, _, ⟨m0, rfl, rfl, w0⟩, g⟩ := g
  obtain ⟨_, _, _, _, rfl, e2, _, ⟨m1, rfl, rfl, w1⟩, g⟩ := g
  obtain ⟨_, _, _, _, rfl, e3, _, ⟨m2, rfl, rfl, w2⟩, g⟩ := g
  obtain ⟨_, _, _, _, rfl, e4, _, ⟨m3, rfl, rfl, w3⟩, g⟩ := g
  obtain ⟨_, _, _, _, rfl, e5, _, ⟨m4, rfl, rfl, w4⟩, g⟩ := g
  obtain ⟨_, _, _, _, rfl, e6, _, ⟨m5, rfl, rfl, w5⟩, g⟩ := g
  obtain ⟨_, _, _, _, rfl, e7, _, ⟨m6, rfl, rfl, w6⟩, g⟩ := g
  obtain ⟨_, rfl⟩ := g
  subst e7 e6 e5 e4 e3 e2 e1 e0
  have hf := wf_u32 wf
  refine ⟨⟨f.toNat, [m0, m1, m2, m3, m4, m5, m6]⟩, ?_, ?_, rfl, ?_⟩
  · show _ = (Value.int .u32 (f.toNat : Int)) :: _
    rw [Int.toNat_of_nonneg hf.1]; rfl
  · show f.toNat < 4294967296; omega
  · intro n hn
    simp only [List.mem_cons, List.not_mem_nil, or_false] at hn
    rcases hn with rfl | rfl | rfl | rfl | rfl | rfl | rfl
    · exact wf_i64 w0
    · exact wf_i64 w1
    · exact wf_i64 w2
    · exact wf_i64 w3
    · exact wf_i64 w4
    · exact wf_i64 w5
    · exact wf_i64 w6
theorem ops_of {W : World} {v : Value} {u : U} {N : Nat} (h : (Sh.slice shLOp).holds W u [v]) (hb : (Sh.slice shLOp).bounded N u) (hN : N ≤ 2000000) : ∃ (qs : Option Addr) (cs : Nat) (l : List OpR), v = .slice qs l.length cs ∧ l.length ≤ N ∧ OpsAt W qs cs l := by
  obtain ⟨a, cap, L, hv, h1, h2, hL, h3⟩ := elemsB_of h hb (by decide)
  obtain ⟨l, hlen, hp⟩ := getElem?_some_of_list (f := fun _ => True) (P := fun k (o : OpR) => OpOk W o ∧ ∃ b off, a = some ⟨b, off, none⟩ ∧ ∀ j u, (opc o)[j]? = some u → W.cell? ⟨b, off + (k * 3 + j), none⟩ = some u) L.length (fun k hk => by
    obtain ⟨g1, g2, g3, b, off, rfl, hc⟩ := h3 k L[k] (List.getElem?_eq_getElem hk)
    obtain ⟨o, e, ho⟩ := lop_of g2 g3 hN
    refine ⟨o, ho, b, off, rfl, fun j u hu => ?_⟩
    have hj : j < 3 := by have := (List.getElem?_eq_some_iff.1 hu).1; rwa [opc_len] at this
    have := hc j hj
    rw [e, hu] at this
    exact this)
  refine ⟨a, cap, l, by rw [hv, hlen], by omega, reads_ofU opc_len (by decide) (by omega) fun k x hx => (hp k x hx).2, fun o ho => ?_⟩
  obtain ⟨k, hk⟩ := List.getElem?_of_mem ho
  exact (hp k o hk).1
theorem scriptPrints_walk (w : World) (c0 : Array Value) (u0 : U) (h0 : shCf.holds w u0 c0.toList) (b0 : shCf.bounded 1048576 u0) (v1 : Value) (u1 : U) (h1 : (Sh.slice shLOp).holds w u1 [v1]) (b1 : (Sh.slice shLOp).bounded 1048576 u1) (hT : Tabs w) :
    Calls Tryd.prog 3 #[.agg c0, v1] w fun e w' => e = .returned (.bool true) ∧ Below w.heap.size w w' := by
  obtain ⟨c, e0, hc⟩ := cf_of h0
  obtain ⟨qs, cs, l, rfl, hl, hO⟩ := ops_of h1 b1 (by decide)
  obtain rfl : c0 = c.cs.toArray := by rw [← e0]
  exact (prints_walk c hc qs cs l hl w hT hO).mono fun e w' ⟨h, f⟩ => ⟨h, f.none_below⟩
end Go.Proofs.YtedogalndhackaaDoor
