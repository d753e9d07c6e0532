/- The same spans (ref06.Same), walked. -/
import Derived.Test.YtckbeppofnnfkaaLt2
namespace Go.Proofs.Ytckbeppofnnfkaa
open Go.RowKit Go.Und
attribute [local go_sem] Oper.semAt_some
theorem pc_spl (l : List (Int × Int)) : pc l = fc spl l := rfl

set_option maxHeartbeats 1000000 in
theorem rfSame_any (p q : Option Addr) (c d : Nat) (l : List (Int × Int)) (w : World) (hr : Reads w 2 p l.length c (fc spl l)) (hq : Reads w 2 q l.length d (fc spl l)) (hs : l.length ≤ 1000000) :
    Calls Try.prog 22 #[.slice p l.length c, .slice q l.length d] w fun e w' => e = .returned (.bool true) ∧ ∃ n, w' = w.drewN n := by
  have HR := Lib.hid hr; clear hr
  have HQ := Lib.hid hq; clear hq
  go_enter Try.func22, Try.ntmps22
  go_wp2_with fail
  go_loopg [5] l.length (fun r i wr => ∃ k n : Nat, k + r = l.length ∧ i = .int .i64 k ∧ wr = w.drewN n)
  case atStart => exact ⟨0, 0, by omega, rfl, rfl⟩
  case round =>
    obtain ⟨k, n, hk0, rfl, rfl⟩ := hrel
    by_cases g : k < l.length
    · have ex := List.getElem?_eq_getElem g
      obtain ⟨b, off, rfl, hc⟩ := HR.out.elem spl_len (by decide) ex
      obtain ⟨b2, off2, rfl, hd⟩ := HQ.out.elem spl_len (by decide) ex
      generalize l[k] = x at *
      have c1 : w.cell? ⟨b, off + k * 2, none⟩ = some (.int .i64 x.1) := hc 0 _ rfl
      have c2 : w.cell? ⟨b, off + k * 2 + 1, none⟩ = some (.int .i64 x.2) := hc 1 _ rfl
      have d1 : w.cell? ⟨b2, off2 + k * 2, none⟩ = some (.int .i64 x.1) := hd 0 _ rfl
      have d2 : w.cell? ⟨b2, off2 + k * 2 + 1, none⟩ = some (.int .i64 x.2) := hd 1 _ rfl
      clear hc hd ex
      go_wp2_with fail
      go_quiet (fail)
      go_wp2_with fail
      go_roundg (gk - 1)
      case measure => omega
      case rel => exact ⟨k + 1, _, by omega, by go_num, rfl⟩
    · go_wp2_with fail
      go_ret
      exact ⟨rfl, _, rfl⟩
end Go.Proofs.Ytckbeppofnnfkaa
