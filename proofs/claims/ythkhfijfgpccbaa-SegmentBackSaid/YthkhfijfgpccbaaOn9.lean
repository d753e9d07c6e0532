/- Slices that came in; the same bytes, the same options; fixed calls: walked. -/
import Derived.Test.YthkhfijfgpccbaaOn8
import Derived.Test.YthkhfijfgpccbaaEls
set_option linter.unusedVariables false
set_option linter.unusedSimpArgs false
namespace Go.Proofs.Ythkhfijfgpccbaa
open Go.RowKit Go.Und
attribute [local go_sem] Oper.semAt_some
attribute [local go_sem ↓] Go.wp_at_zero Go.wp_at_succ

/-- What can be read, or nothing at whatever address. -/
def ReadsB (w : World) (size : Nat) (p : Option Addr) (n cap : Nat) (xs : List Value) : Prop := ((∃ ad, p = some ad) ∧ n = 0 ∧ xs = []) ∨ Reads w size p n cap xs
theorem ReadsB.fr {w w' : World} {size n cap : Nat} {p : Option Addr} {xs : List Value} (h : ReadsB w size p n cap xs) (f : Fr None w w') : ReadsB w' size p n cap xs :=
  h.imp id fun h => h.fr f (fun _ _ h => h)
theorem ReadsB.some {w : World} {size n cap : Nat} {p : Option Addr} {xs : List Value} (h : ReadsB w size p n cap xs) (h0 : 0 < n) : Reads w size p n cap xs := by
  rcases h with ⟨_, h, _⟩ | h
  · omega
  · exact h
theorem wf_u32 {x : Int} (h : (Lit.int .u32 x).wf = true) : 0 ≤ x ∧ x < 4294967296 := by
  have h1 : IntKind.u32.min ≤ x ∧ x ≤ IntKind.u32.max := by simpa [Lit.wf] using h
  exact ⟨h1.1, by have : IntKind.u32.max = 4294967295 := by decide
                  omega⟩
section
variable {P : Program} (w : World) {ops : Array Oper} {rest : List Oper} {o : Oper} {a : Act} {Q : Exit → Act → World → Prop}
theorem wpList_append_rowB (hgd : o.guard = none) (s x : Operand) (t : TypeId)
    (ho : o.op = .call { callee := .builtin .append, args := #[s, x], argTypes := #[t, t] })
    (base : Nat) (e : TypeId) (i : TypeInfo) (z : Value) (size bytes : Nat) (ht : P.underlying t = some (.slice e)) (hi : P.info? e = some i) (hz : i.zero = some z)
    (hsize : i.size = size) (hby : i.bytes = bytes) (hzs : z.cells.size = size) (hsz : 0 < size)
    (v : Value) (n : Nat) (xs : List Value) (hs : a.eval s = v) (hown : w.ownsRow base e size v n xs)
    (p : Option Addr) (m c : Nat) (news : List Value) (hx : a.eval x = .slice p m c) (hr : ReadsB w size p m c news) (h1 : ∀ u ∈ news, u.oneCell' = true)
    (h63 : n + m ≤ maxLen) (hbytes : (n + m) * bytes ≤ 140737488355328) (hbase : base ≤ w.heap.size)
    (h : ∀ q c' w', w'.ownsRow base e size (.slice q (n + m) c') (n + m) (xs ++ news) → Fr (fun b => v.ownBlock = some b) w w' →
      ((Value.slice q (n + m) c').ownBlock = v.ownBlock ∨ (Value.slice q (n + m) c').ownBlock = some w.heap.size) → wpList P ops Q rest (a.put o.dst (.slice q (n + m) c')) w') : wpList P ops Q (o :: rest) a w := by
  rcases hr with ⟨⟨ad, rfl⟩, rfl, rfl⟩ | hr
  · refine wpList_plain hgd fun K hK => ?_
    obtain ⟨v', w', hrun, h3, h4, _, h5⟩ := run_append_own_at (P := P) w base t o.type e i z size bytes ht hi hz hsize hby hzs hsz v n xs hown ad 0 c [] (by simp) (fun j u hu => by simp at hu) (fun u hu => by cases hu) h63 hbytes hbase
    obtain ⟨q, c', hv, _⟩ := ownsRow_reads h3
    unfold Oper.wp execOp
    simp only [ho, resolve, invoke, builtin, Sem.run_bind, Sem.run_pure, Result.andThen_ok, List.map_toArray, List.map_cons, List.map_nil, hs, hx, hrun]
    rw [hv]
    exact hK _ _ (h q c' w' (by rw [← hv]; exact h3) ⟨h4.os, h4.tape, h4.output, h4.size, fun k hk hn => h4.block k hk (fun e => hn e.symm)⟩ (by rw [← hv]; exact h5))
  · exact wpList_append_row w hgd s x t ho base e i z size bytes ht hi hz hsize hby hzs hsz v n xs hs hown p m c news hx hr h1 h63 hbytes hbase h
end
theorem newReaderB_any (a : Option Addr) (c : Nat) (l : List Int) (w : World) (hr : ReadsB w 1 a l.length c (fc u8c l)) (hl : l.length ≤ 100000) :
    Calls Try.prog 33 #[.slice a l.length c] w fun e w' => ∃ p q cap, e = .returned (.pointer (at0 p)) ∧ Sep None w w' (rdr p q cap l 0) := by
  have HR1 := Lib.hid (hr.fr ((Fr.refl None w).alloc (.cells #[] U8T)))
  have HG0 := Lib.hid (GrowsR.start u8c 1 U8T w)
  clear hr
  obtain ⟨i, hi, hz0, hz1, hz2⟩ := info_parts u8Info
  have HI := Lib.hid (And.intro hi (And.intro hz0 (And.intro hz1 hz2))); clear hi hz0 hz1 hz2
  go_enter Try.func33, Try.ntmps33
  go_wp2_with (at_builtin; refine Hold.out ?_)
  refine Hold.mk ?_
  refine wpList_append_rowB _ rfl _ _ _ rfl 0 U8T i _ 1 1 Try.underlying27 HI.out.1 HI.out.2.1 HI.out.2.2.1 HI.out.2.2.2 rfl (by decide) _ 0 (fc u8c []) rfl HG0.out.row0 a l.length c (fc u8c l) rfl HR1.out (fc_one u8c_one _) (by simp [maxLen]; omega) (by omega) (Nat.zero_le _) ?_
  intro q2 c2 w2 ho2 hf2 hb2
  have G1 := HG0.out.step (r := l) rfl ho2 hf2 hb2
  simp only [Nat.zero_add, List.nil_append] at G1
  have HG1 := Lib.hid (G1.sep.alloc #[.slice q2 l.length c2, .int .i64 0] RdT)
  clear G1 ho2 hf2 hb2 HG0 HR1
  go_wp2_with fail
  exact bodyPost_ret (v := .pointer (at0 w2.heap.size)) (by simp [results, Try.results33, go_sem]) rfl ⟨_, q2, c2, rfl, HG1.out⟩
theorem parse_any (a : Option Addr) (c : Nat) (l : List Int) (w : World) (hr : ReadsB w 1 a l.length c (fc u8c l)) (hb : ∀ x ∈ l, 0 ≤ x ∧ x < 256) :
    Calls Try.prog 12 #[.slice a l.length c] w (ParsePost l w) :=
  parse_core a c l w (fun hl W f => newReaderB_any a c l W (hr.fr f) hl) hb

/-! Arguments. -/
theorem readsB_of {α : Type} {f : α → List Value} {n : Nat} {w : World} {a : Option Addr} {cap : Nat} {l : List α} (hf : ∀ x, (f x).length = n) (hn : 0 < n) (hc : l.length ≤ cap) (h0 : a = none → l = [] ∧ cap = 0)
    (h : ∀ k x, l[k]? = some x → ∃ b off, a = some ⟨b, off, none⟩ ∧ ∀ j u, (f x)[j]? = some u → w.cell? ⟨b, off + (k * n + j), none⟩ = some u) : ReadsB w n a l.length cap (fc f l) := by
  cases l with
  | nil =>
    cases a with
    | none =>
      obtain ⟨_, rfl⟩ := h0 rfl
      exact .inr (Reads.empty _ _)
    | some ad => exact .inl ⟨⟨ad, rfl⟩, rfl, rfl⟩
  | cons y l =>
    obtain ⟨b, off, rfl, _⟩ := h 0 y rfl
    refine .inr ⟨by rw [fc_length hf], hc, fun h => (by cases h), fun ad h => (by cases h; rfl), fun ad had j u hu => ?_⟩
    cases had
    have hj : j < (y :: l).length * n := by have := (List.getElem?_eq_some_iff.1 hu).1; rwa [fc_length hf] at this
    have hk : j / n < (y :: l).length := (Nat.div_lt_iff_lt_mul hn).2 hj
    obtain ⟨b', off', e, hcell⟩ := h (j / n) (y :: l)[j / n] (List.getElem?_eq_getElem hk)
    cases e
    have hlt : j % n < (f (y :: l)[j / n]).length := by rw [hf]; exact Nat.mod_lt _ hn
    have e1 := fc_at hf (List.getElem?_eq_getElem hk) (List.getElem?_eq_getElem hlt)
    have ej : j / n * n + j % n = j := by rw [Nat.mul_comm]; exact Nat.div_add_mod j n
    rw [ej] at e1
    have e2 := hcell (j % n) _ (List.getElem?_eq_getElem hlt)
    rw [ej] at e2
    rw [e2, ← e1, hu]
theorem nil_of {W : World} {v : Value} {u : U} {sh : Sh} {a : Option Addr} {n cap : Nat} (h : (Sh.slice sh).holds W u [v]) (hv : v = .slice a n cap) : a = none → n = 0 ∧ cap = 0 := by
  obtain ⟨a', cap', l, _, hv', _, _, h3, _⟩ := h
  simp only [List.cons.injEq, and_true] at hv'
  subst hv'
  simp only [Value.slice.injEq] at hv
  obtain ⟨rfl, rfl, rfl⟩ := hv
  intro h
  obtain ⟨rfl, h⟩ := h3 h
  exact ⟨rfl, h⟩
theorem bytesB_of {W : World} {v : Value} {u : U} (h : (Sh.slice (.int .u8)).holds W u [v]) : ∃ (a : Option Addr) (cap : Nat) (l : List Int), v = .slice a l.length cap ∧ (∀ x ∈ l, 0 ≤ x ∧ x < 256) ∧ l.length ≤ maxLen ∧ ReadsB W 1 a l.length cap (fc u8c l) := by
  obtain ⟨a, cap, L, hv, h1, h2, h3⟩ := elems_of h (by decide)
  have hnil := nil_of h hv
  obtain ⟨l, hlen, hp⟩ := getElem?_some_of_list (f := fun _ => True) (P := fun k (x : Int) => (0 ≤ x ∧ x < 256) ∧ ∃ b off, a = some ⟨b, off, none⟩ ∧ W.cell? ⟨b, off + k, none⟩ = some (.int .u8 x)) L.length (fun k hk => by
    obtain ⟨g1, ⟨u, g2⟩, b, off, rfl, hb, hc⟩ := h3 k L[k] (List.getElem?_eq_getElem hk)
    obtain ⟨x, _, e0, wx⟩ := g2
    rw [e0] at hc
    have c0 := hc 0 (by decide)
    exact ⟨x, wf_u8 wx, b, off, rfl, by simpa [Sh.size] using c0⟩)
  refine ⟨a, cap, l, by rw [hv, hlen], fun x hx => ?_, by omega, readsB_of u8c_len (by decide) (by omega) (fun h => ?_) fun k x hx => ?_⟩
  · obtain ⟨k, hk⟩ := List.getElem?_of_mem hx
    exact (hp k x hk).1
  · obtain ⟨e1, e2⟩ := hnil h
    exact ⟨List.length_eq_zero_iff.1 (by omega), e2⟩
  · obtain ⟨_, b, off, e, hc⟩ := hp k x hx
    refine ⟨b, off, e, fun j u hu => ?_⟩
    cases j with
    | zero => simp only [u8c, List.getElem?_cons_zero, Option.some.injEq] at hu; subst hu; rw [Nat.mul_one, Nat.add_zero]; exact hc
    | succ j => simp [u8c] at hu
end Go.Proofs.Ythkhfijfgpccbaa
