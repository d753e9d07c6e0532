/- The document's book (layer 14): find, send. -/
import Derived.Test.YtckbeppofnnfkaaBk3
import Derived.Test.YtckbeppofnnfkaaPc
import Derived.Test.YtckbeppofnnfkaaRowR
import Derived.Test.YtckbeppofnnfkaaRk4
import Derived.Deep.DrawnRows
namespace Go.Proofs.Ytckbeppofnnfkaa
open Go.RowKit Go.Und
attribute [local go_sem] Oper.semAt_some
attribute [local go_sem ↓] Go.wp_at_zero Go.wp_at_succ

abbrev Rc2T : TypeId := 56
abbrev Rc2sT : TypeId := 50
abbrev Bk2T : TypeId := 52
def rcl (r : Rc) : List Value := [.int .i64 r.fr, .int .i64 r.to, .int .i64 r.sent, .int .i64 r.order, .int .i64 r.times, .int .i64 r.out, .bool r.lost]
theorem rcl_len : ∀ r, (rcl r).length = 7 := fun _ => rfl
theorem rcl_one : ∀ r, ∀ u ∈ rcl r, u.oneCell' = true := fun r u hu => by
  simp only [rcl, List.mem_cons, List.not_mem_nil, or_false] at hu
  rcases hu with rfl | rfl | rfl | rfl | rfl | rfl | rfl <;> rfl
theorem rc2Info : (Try.prog.info? Rc2T).map (fun i => (i.zero, i.size, i.bytes)) = some (some (.agg #[.int .i64 0, .int .i64 0, .int .i64 0, .int .i64 0, .int .i64 0, .int .i64 0, .bool false]), 7, 56) := by kernel_rfl
abbrev bk2c (q : Option Addr) (m cap : Nat) (nxt last order : Int) : Array Value := #[.slice q m cap, .int .i64 nxt, .int .i64 last, .int .i64 order]

theorem rfMay_yes (a b : Int) (h0 : 0 ≤ a) (h1 : a ≤ b) (h2 : b ≤ 4611686018427387904) (w : World) : Calls Try.prog 164 #[.agg #[.int .i64 a, .int .i64 b]] w fun e w' => e = .returned (.bool true) ∧ Fr None w w' := by
  go_enter Try.func164, Try.ntmps164
  go_wp2_with fail
  exact bodyPost_ret (v := .bool true) (by simp [results, Try.results164, go_sem]) rfl ⟨rfl, (Fr.refl None w).alloc _⟩
theorem rfOf_yes (a b : Int) (h0 : 0 ≤ a) (h1 : a < b) (h2 : b ≤ 4611686018427387904) (w : World) : Calls Try.prog 147 #[.agg #[.int .i64 a, .int .i64 b]] w fun e w' => e = .returned (.agg #[.int .i64 a, .int .i64 b]) ∧ Fr None w w' := by
  have HM := Lib.hid (rfMay_yes a b h0 (by omega) h2)
  have S := Lib.hid (((Sep.law w).alloc #[.int .i64 a, .int .i64 b] SpT).alloc #[.int .i64 0, .int .i64 0] SpT)
  have hn : ¬ a = b := by omega
  go_enter Try.func147, Try.ntmps147
  go_wp2_with fail
  refine (HM.out _).mono ?_
  rintro e w1 ⟨rfl, f1⟩
  have S1 := S.out.same f1
  simp only [World.size_alloc] at S1
  have c0 : w1.cell? ⟨w.heap.size, 0, none⟩ = some (.int .i64 a) := (S1.at_ 1 rfl).cell 0
  have c1 : w1.cell? ⟨w.heap.size, 1, none⟩ = some (.int .i64 b) := (S1.at_ 1 rfl).cell 1
  have z0 : w1.frozen? ⟨w.heap.size + 1, 0, none⟩ = false := (S1.at_ 0 rfl).frozen 0
  have z1 : w1.frozen? ⟨w.heap.size + 1, 1, none⟩ = false := (S1.at_ 0 rfl).frozen 1
  have d0 : w1.cell? ⟨w.heap.size + 1, 0, none⟩ = some (.int .i64 0) := (S1.at_ 0 rfl).cell 0
  have d1 : w1.cell? ⟨w.heap.size + 1, 1, none⟩ = some (.int .i64 0) := (S1.at_ 0 rfl).cell 1
  have HS := Lib.hid S1
  clear S1 f1
  go_wp2_with fail
  exact bodyPost_ret (v := .agg #[.int .i64 a, .int .i64 b]) (by simp [results, Try.results147, go_sem, d0, d1]) rfl ⟨rfl, ((HS.out.set 0 rfl 0 (.int .i64 a)).set 0 rfl 1 (.int .i64 b)).fr⟩
theorem field_sp0 (a b : Int) (w : World) : (Instr.field SpT (.agg #[.int .i64 a, .int .i64 b]) 0).run Try.prog w = .ok (.int .i64 a) w := by simp [Instr.field, go_sem, asAgg]
theorem field_sp1 (a b : Int) (w : World) : (Instr.field SpT (.agg #[.int .i64 a, .int .i64 b]) 1).run Try.prog w = .ok (.int .i64 b) w := by simp [Instr.field, go_sem, asAgg]
attribute [local go_sem] field_sp0 field_sp1
set_option maxRecDepth 100000 in
set_option maxHeartbeats 1000000 in
theorem rfLen_yes (a b : Int) (h0 : 0 ≤ a) (h1 : a < b) (h2 : b ≤ 4611686018427387904) (w : World) : Calls Try.prog 112 #[.agg #[.int .i64 a, .int .i64 b]] w fun e w' => e = .returned (.int .i64 (b - a)) ∧ Fr None w w' := by
  have HM := Lib.hid (rfOf_yes a b h0 h1 h2)
  have S := Lib.hid ((Sep.law w).alloc #[.int .i64 a, .int .i64 b] SpT)
  go_enter Try.func112, Try.ntmps112
  go_wp2_with fail
  refine Sep.gen _ S.out ?_
  intro V SV
  have c0 : V.cell? ⟨w.heap.size, 0, none⟩ = some (.int .i64 a) := (SV.at_ 0 rfl).cell 0
  have c1 : V.cell? ⟨w.heap.size, 1, none⟩ = some (.int .i64 b) := (SV.at_ 0 rfl).cell 1
  have HV := Lib.hid SV
  clear SV
  have kp : ∀ V' V'' : World, Fr None V' V'' → V'.cell? ⟨w.heap.size, 0, none⟩ = some (.int .i64 a) ∧ V'.cell? ⟨w.heap.size, 1, none⟩ = some (.int .i64 b) → V''.cell? ⟨w.heap.size, 0, none⟩ = some (.int .i64 a) ∧ V''.cell? ⟨w.heap.size, 1, none⟩ = some (.int .i64 b) := fun V' V'' f h => ⟨(World.cell?_of_block (f.block _ (World.block_lt_of_cell? _ _ h.1) (fun h => h))).trans h.1, (World.cell?_of_block (f.block _ (World.block_lt_of_cell? _ _ h.2) (fun h => h))).trans h.2⟩
  have qi := kp V V.drew ((Fr.refl None V).drew) ⟨c0, c1⟩
  have KP := Lib.hid kp
  have F0 := Lib.hid ((Fr.refl None V).drew)
  clear kp
  go_region_held3 (fun w' => w'.cell? ⟨w.heap.size, 0, none⟩ = some (.int .i64 a) ∧ w'.cell? ⟨w.heap.size, 1, none⟩ = some (.int .i64 b)) (with_reducible assumption) (first | ((with_reducible refine (HM.out _).mono ?_); rintro e w2 ⟨rfl, f2⟩; have qq := KP.out _ _ f2 (by with_reducible assumption); (first | (have F2 := Lib.hid (F1.out.trans f2)) | (have F1 := Lib.hid f2))))
  all_goals
    go_wp2_with fail
    have hw : IntKind.i64.wrap (b - a) = b - a := by simp [IntKind.wrap, IntKind.bits, IntKind.signed]; omega
    exact bodyPost_ret (v := .int .i64 (b - a)) (by simp [results, Try.results112, go_sem, hw]) rfl ⟨rfl, (HV.out.fr.trans F0.out).trans F2.out⟩

set_option maxHeartbeats 1000000 in
/-- A record is found at its place. -/
theorem rfFind_yes (p : Option Addr) (cap : Nat) (l : List Rc) (nxt last order fr : Int) (k : Nat) (r : Rc) (w : World) (hr : Reads w 7 p l.length cap (fc rcl l)) (hs : l.length ≤ 1000000) (hk : l[k]? = some r) (hf : r.fr = fr) (hn : ∀ j x, j < k → l[j]? = some x → x.fr ≠ fr) :
    Calls Try.prog 23 #[.agg (bk2c p l.length cap nxt last order), .int .i64 fr] w fun e w' => e = .returned (.int .i64 k) ∧ Fr None w w' := by
  have hkl : k < l.length := (List.getElem?_eq_some_iff.1 hk).1
  have S := Lib.hid ((Sep.law w).alloc (bk2c p l.length cap nxt last order) Bk2T)
  have HR := Lib.hid (hr.fr (D := None) ((Fr.refl None w).alloc (.cells (bk2c p l.length cap nxt last order) Bk2T)) (fun _ _ h => h))
  have HN := Lib.hid hn
  have HK := Lib.hid hk
  clear hn hr hk
  go_enter Try.func23, Try.ntmps23
  go_wp2_with fail
  go_loopg [5] l.length (fun q i wr => ∃ j : Nat, j + q = l.length ∧ i = .int .i64 j ∧ j ≤ k ∧ wr = w.alloc (.cells (bk2c p l.length cap nxt last order) Bk2T))
  case atStart => exact ⟨0, by omega, rfl, Nat.zero_le _, rfl⟩
  case round =>
    obtain ⟨j, hj0, rfl, hjk, rfl⟩ := hrel
    have hjl : j < l.length := by omega
    have ex := List.getElem?_eq_getElem hjl
    obtain ⟨b, off, rfl, hc⟩ := HR.out.elem rcl_len (by decide) ex
    have c0 : (w.alloc (.cells (bk2c (some ⟨b, off, none⟩) l.length cap nxt last order) Bk2T)).cell? ⟨b, off + j * 7, none⟩ = some (.int .i64 l[j].fr) := hc 0 _ rfl
    rcases Nat.lt_or_eq_of_le hjk with g | rfl
    · have hne := HN.out j l[j] g ex
      generalize l[j] = x at *
      clear hc ex
      go_wp2_with fail
      go_roundg (gk - 1)
      case measure => omega
      case rel => exact ⟨j + 1, by omega, by go_num, by omega, rfl⟩
    · have e1 : l[j] = r := by have := HK.out; rw [ex] at this; simpa using this
      rw [e1, hf] at c0
      clear hc ex e1
      go_wp2_with fail
      go_ret
      exact ⟨rfl, (Fr.refl None w).alloc _⟩
end Go.Proofs.Ytckbeppofnnfkaa
