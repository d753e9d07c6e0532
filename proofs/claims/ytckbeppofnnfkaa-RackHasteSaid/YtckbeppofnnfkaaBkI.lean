/- A book's iterators, walked. -/
import Derived.Test.YtckbeppofnnfkaaBk3
import Derived.Test.YtckbeppofnnfkaaRange
import Derived.Sort.LoopGhostIn
import Derived.LaidEqlPtr
import Derived.Lib.Builder
import Derived.BigFrameIn
import Derived.Test.YtckbeppofnnfkaaRegionIn
namespace Go.Proofs.Ytckbeppofnnfkaa
open Go.RowKit Go.Und Go.Shelf
attribute [local go_sem] Oper.semAt_some

def firstN : List Nat → Nat → Nat
  | [], z => z
  | x :: _, _ => x
theorem firstN_nil (z : Nat) : firstN [] z = z := rfl
theorem firstN_cons (x : Nat) (l : List Nat) (z : Nat) : firstN (x :: l) z = x := rfl
theorem firstN_map (l : Its) (z : Nat) : firstN (l.map (·.1)) z = firstB l z := by cases l <;> rfl
/-- A block whose link leads to z. -/
def lk (W : World) (a z : Nat) : Prop := ∃ cs, Blk W a ItT cs ∧ cs[8]? = some (.pointer (at0 z))
/-- Where the links lead, from block a on. -/
def nexts (W : World) : Nat → List Nat → Nat → Prop
  | a, [], z => lk W a z
  | a, x :: l, z => lk W a x ∧ nexts W x l z
/-- What an iterator over a ring reads: its box, and the links. -/
structure Links (bb b0 : Nat) (bs : List Nat) (W : World) : Prop where
  box : Blk W bb LnT #[.pointer (at0 b0)]
  nx : nexts W b0 bs b0
theorem nexts_line {W : World} : ∀ {p : Nat} {l : Its} {n : Nat} {a : Nat}, lk W a (firstB l n) → Line ItT W p l n → nexts W a (l.map (·.1)) n
  | _, [], _, _, h, _ => h
  | _, _ :: _, _, _, h, hl => ⟨h, nexts_line ⟨_, hl.1, rfl⟩ hl.2⟩
theorem ring_nexts {W : World} {b0 : Nat} {L : Its} (h : Ring ItT W b0 L) : nexts W b0 (L.map (·.1)) b0 := nexts_line ⟨_, h.bare, rfl⟩ h.line
theorem lk_mono {W W' : World} {D : Nat → Prop} (f : Fr D W W') (hd : ∀ b, D b → W.heap.size ≤ b) {a z : Nat} (h : lk W a z) : lk W' a z := by
  obtain ⟨cs, h1, h2⟩ := h
  exact ⟨cs, h1.fr f (fun h => by have := hd _ h; have := h1.lt; omega), h2⟩
theorem nexts_mono {W W' : World} (h : ∀ a z, lk W a z → lk W' a z) : ∀ {a : Nat} {l : List Nat} {z : Nat}, nexts W a l z → nexts W' a l z
  | _, [], _, hn => h _ _ hn
  | _, _ :: _, _, hn => ⟨h _ _ hn.1, nexts_mono h hn.2⟩
theorem Links.fr {bb b0 : Nat} {bs : List Nat} {W W' : World} {D : Nat → Prop} (h : Links bb b0 bs W) (f : Fr D W W') (hd : ∀ b, D b → W.heap.size ≤ b) : Links bb b0 bs W' :=
  ⟨h.box.fr f (fun h' => by have := hd _ h'; have := h.box.lt; omega), nexts_mono (fun _ _ => lk_mono f hd) h.nx⟩
theorem Links.below {bb b0 : Nat} {bs : List Nat} {w W : World} (h : Links bb b0 bs w) (b : Below w.heap.size w W) : Links bb b0 bs W := h.fr (Fr.of_below (D := None) b) (fun _ h => h.elim)
theorem nexts_at {W : World} : ∀ {a : Nat} {pre : List Nat} {x : Nat} {rest : List Nat} {z : Nat}, nexts W a (pre ++ x :: rest) z → lk W x (firstN rest z)
  | _, [], _, [], _, h => h.2
  | _, [], _, _ :: _, _, h => h.2.1
  | _, _ :: _, _, _, _, h => nexts_at h.2
theorem nexts_head {W : World} {a : Nat} {l : List Nat} {z : Nat} (h : nexts W a l z) : lk W a (firstN l z) := by
  cases l with
  | nil => exact h
  | cons x l => exact h.1
theorem run_neq_ptr_other {P : Program} (w : World) {tp te : TypeId} {j : TypeInfo} {a b : Addr} {ca cb : Array Value} {ta tb : TypeId} (hp : P.underlying tp = some (.pointer te)) (hte : P.info? te = some j) (hsz : j.size ≠ 0)
    (hne : a ≠ b) (ha : w.heap[a.block]? = some (.cells ca ta (0, 0))) (hb : w.heap[b.block]? = some (.cells cb tb (0, 0))) :
    (binOp .neq tp (.pointer (some a)) (.pointer (some b))).run P w = .ok (.bool true) w := by
  have h : ∀ d : Nat, (Op.equalIn (d + 1) tp (.pointer (some a)) (.pointer (some b))).run P w = .ok false w := fun d => by
    simp [Op.equalIn, run_underlying hp, sizeOf, typeInfo, hte, hsz, run_sameAddr_other w hne ha hb]
  simp only [binOp]
  simp [Op.equal, Op.maxDepth, h 9999]
theorem itInfo : (Try.prog.info? ItT).map (fun i => i.size) = some 9 := by kernel_rfl
/-- Two items are held against each other. -/
theorem neq_items {w : World} {a b z z' : Nat} (ha : lk w a z) (hb : lk w b z') (hne : a ≠ b) : (binOp .neq 145 (.pointer (at0 a)) (.pointer (at0 b))).run Try.prog w = .ok (.bool true) w := by
  obtain ⟨ca, ha, _⟩ := ha
  obtain ⟨cb, hb, _⟩ := hb
  have hi := itInfo
  cases e : Try.prog.info? ItT with
  | none => rw [e] at hi; cases hi
  | some j =>
    rw [e] at hi
    have hs : j.size = 9 := by simpa using hi
    exact run_neq_ptr_other w Try.underlying145 e (by omega) (fun h => hne (by cases h; rfl)) ha hb
theorem neq_same {w : World} {a : Nat} : (binOp .neq 145 (.pointer (at0 a)) (.pointer (at0 a))).run Try.prog w = .ok (.bool false) w := by
  have hi := itInfo
  cases e : Try.prog.info? ItT with
  | none => rw [e] at hi; cases hi
  | some j => exact Lib.run_neq_ptr_same w _ Try.underlying145 e

/-- An item of a line. -/
abbrev It (L : Its) := { x : Nat × Rc // x ∈ L }
abbrev encI {L : Its} (x : It L) : Array Value := #[.pointer (at0 x.1.1)]
theorem attach_blocks (L : Its) : L.attach.map (fun x => x.1.1) = L.map (·.1) := by
  conv => rhs; rw [← List.attach_map_subtype_val L]
  rw [List.map_map]; rfl

set_option maxRecDepth 100000 in
set_option maxHeartbeats 2000000 in
theorem lineAll1_in (n l bb b0 : Nat) (L : Its) (hnd : (b0 :: L.map (·.1)).Nodup) (J Jx : List (It L) → World → Prop) (W : World)
    (hY : ∀ pre x W1, J pre W1 → pre.length < L.length → YieldAt Fence.wide (n - 1) Try.prog l (encI x) W1 fun e W' =>
      (e = .returned (.bool true) ∧ J (pre ++ [x]) W' ∧ (Links bb b0 (L.map (·.1)) W1 → Links bb b0 (L.map (·.1)) W')) ∨ (e = .returned (.bool false) ∧ Jx (pre ++ [x]) W'))
    (hL : Links bb b0 (L.map (·.1)) W) (h0 : J [] W) :
    CallsIn Fence.wide n Try.prog 143 #[.func (.yield l) #[] #[], .pointer (at0 bb)] W fun e W' => (∃ v, e = .returned v) ∧
      ((∃ xs, xs = L.attach ∧ J xs W') ∨ (∃ pre, pre <+: L.attach ∧ Jx pre W')) := by
  have HY := Lib.hid hY; clear hY
  have c0 : W.cell? ⟨bb, 0, none⟩ = some (.pointer (at0 b0)) := hL.box.cell 0
  have c1 : W.cell? ⟨b0, 8, none⟩ = some (.pointer (at0 (firstN (L.map (·.1)) b0))) := by
    obtain ⟨cs, h1, h2⟩ := nexts_head hL.nx
    rw [h1.cell 8, h2]
  have hbs := attach_blocks L
  have HL := Lib.hid hL
  have HN := Lib.hid hnd
  have hf : firstN (L.map (·.1)) b0 = firstN (L.attach.map (fun x => x.1.1)) b0 := by rw [hbs]
  rw [hf] at c1
  have HB := Lib.hid hbs
  clear hL hf hnd hbs
  refine callsIn_of_wp Try.func143 rfl trivial ?_ rfl
  simp only [Try.ntmps143, List.size_toArray, List.length_cons, List.length_nil, Nat.reduceAdd, Nat.reduceSub, Array.replicate_succ, Array.replicate_zero, List.push_toArray, List.append_toArray, List.nil_append, List.cons_append]
  gi_wp2_with fail
  gi_loopg [3] L.length (fun r x wr => ∃ pre rest : List (It L), L.attach = pre ++ rest ∧ r = rest.length ∧ x = .pointer (at0 (firstN (rest.map (fun x => x.1.1)) b0)) ∧ J pre wr ∧ Links bb b0 (L.map (·.1)) wr)
  case atStart => exact ⟨[], L.attach, rfl, by simp, rfl, h0, HL.out⟩
  case round =>
    obtain ⟨pre, rest, hx, rfl, rfl, hJ, hLk⟩ := hrel
    have d0 : wr.cell? ⟨bb, 0, none⟩ = some (.pointer (at0 b0)) := hLk.box.cell 0
    have l0 := nexts_head hLk.nx
    cases rest with
    | nil =>
      have HJ := Lib.hid hJ; have HX := Lib.hid hx; clear hJ hx l0
      have e1 := neq_same (w := wr) (a := b0)
      rw [List.map_nil, firstN_nil]
      gi_wp2_with fail
      go_end0
      exact ⟨⟨_, rfl⟩, .inl ⟨pre, by simp [HX.out], HJ.out⟩⟩
    | cons x rest =>
      have hlen : pre.length < L.length := by
        have := congrArg List.length hx
        simp at this; omega
      have hxb : x.1.1 ≠ b0 := fun e => (List.nodup_cons.1 HN.out).1 (by rw [← e]; exact List.mem_map.2 ⟨x.1, x.2, rfl⟩)
      have hnx : ∀ W', Links bb b0 (L.map (·.1)) W' → lk W' x.1.1 (firstN (rest.map (fun x => x.1.1)) b0) := fun W' h => by
        have h' := h.nx
        rw [← HB.out, hx, List.map_append, List.map_cons] at h'
        exact nexts_at h'
      obtain ⟨fn, tmps, assign, body, hy, hR⟩ := HY.out pre x wr hJ hlen
      have e1 := neq_items (hnx wr hLk) l0 hxb
      have HR := Lib.hid hR; have HX := Lib.hid hx; have HK := Lib.hid hnx; have HLk := Lib.hid hLk
      clear hR hx hnx hJ hLk l0
      rw [List.map_cons, firstN_cons]
      gi_wp2_with fail
      refine ⟨fun h => (by cases h), HR.out.mono ?_⟩
      rintro e W3 (⟨rfl, h1, h2⟩ | ⟨rfl, h1⟩)
      · have L3 := h2 HLk.out
        have c3 : W3.cell? ⟨x.1.1, 8, none⟩ = some (.pointer (at0 (firstN (rest.map (fun x => x.1.1)) b0))) := by
          obtain ⟨cs, k1, k2⟩ := HK.out W3 L3
          rw [k1.cell 8, k2]
        have H3 := Lib.hid (And.intro h1 L3)
        clear h1 h2 L3 e1 hy d0
        gi_wp2_with fail
        go_roundg rest.length
        case measure => simp
        case rel => exact ⟨pre ++ [x], rest, by rw [HX.out]; simp, rfl, rfl, H3.out.1, H3.out.2⟩
      · have H3 := Lib.hid h1
        clear h1 e1 hy d0
        gi_wp2_with fail
        refine bodyPost_ret (results_none rfl _ _ _) rfl ?_
        exact ⟨⟨_, rfl⟩, .inr ⟨pre ++ [x], ⟨rest, by rw [HX.out]; simp⟩, H3.out⟩⟩

theorem lineAll_stops (n bb b0 : Nat) (L : Its) (w : World) (hnd : (b0 :: L.map (·.1)).Nodup) (hL : Links bb b0 (L.map (·.1)) w) :
    SeqStopsK Fence.wide n Try.prog 143 #[.pointer (at0 bb)] (encI (L := L)) (fun A B => Links bb b0 (L.map (·.1)) A → Links bb b0 (L.map (·.1)) B) (fun ys => ys = L.attach) (fun pre => pre <+: L.attach) L.length w := by
  intro l J Jx W hW _ _ hY h0
  exact lineAll1_in n l bb b0 L hnd J Jx W hY (hL.below hW) h0

theorem lineAll_any (b0 : Nat) (W : World) : Calls Try.prog 103 #[.agg #[.pointer (at0 b0)]] W fun e W' =>
    e = .returned (.func (.func 143) #[] #[.pointer (at0 W.heap.size)]) ∧ W' = W.alloc (.cells #[.pointer (at0 b0)] LnT) := by
  go_enter Try.func103, Try.ntmps103
  go_wp2_with fail
  go_ret
  exact ⟨rfl, rfl⟩
theorem inOrder_any (p : Nat) (W : World) : Calls Try.prog 70 #[.pointer (at0 p)] W fun e W' =>
    e = .returned (.func (.func 115) #[] #[.pointer (at0 W.heap.size)]) ∧ W' = W.alloc (.cells #[.pointer (at0 p)] 49) := by
  go_enter Try.func70, Try.ntmps70
  go_wp2_with fail
  go_ret
  exact ⟨rfl, rfl⟩
end Go.Proofs.Ytckbeppofnnfkaa
