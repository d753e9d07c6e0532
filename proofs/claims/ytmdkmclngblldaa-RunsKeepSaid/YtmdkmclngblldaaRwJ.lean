/- lay by one span: walked for all. -/
import Derived.Test.YtmdkmclngblldaaRwI
import Derived.Test.YtmdkmclngblldaaRw9
set_option linter.unusedVariables false
set_option linter.unusedSimpArgs false
namespace Go.Proofs.Ytmdkmclngblldaa
open Go.RowKit Go.Und Go.Shelf

theorem to_srow {D : Nat → Prop} {w0 w : World} {L : List Ob} {vb : Nat} {x : Int × Int} (S : Sep D w0 w (L ++ [sblk vb x])) : Sep D w0 w (L ++ [srow (some ⟨vb, 0, none⟩) 1 [x]]) :=
  have S1 : Sep D w0 w (sblk vb x :: L) := S.perm List.perm_append_comm
  (S1.swap (srow (some ⟨vb, 0, none⟩) 1 [x]) (srow1_of (S1.at_ 0 rfl)) (fun k h => (srow_fp _ k).1 h)).perm (List.perm_append_comm (l₁ := [_]) (l₂ := L))
theorem from_srow {D : Nat → Prop} {w0 w : World} {L : List Ob} {vb : Nat} {x : Int × Int} (S : Sep D w0 w (L ++ [srow (some ⟨vb, 0, none⟩) 1 [x]])) : Sep D w0 w (L ++ [sblk vb x]) :=
  have S1 : Sep D w0 w (srow (some ⟨vb, 0, none⟩) 1 [x] :: L) := S.perm List.perm_append_comm
  (S1.swap (sblk vb x) (sblk_of (S1.at_ 0 rfl)) (fun k h => (srow_fp #[.int .i64 x.1, .int .i64 x.2] k).2 h)).perm (List.perm_append_comm (l₁ := [_]) (l₂ := L))
theorem lay1_all (p : Nat) (q : Option Addr) (cap : Nat) (l : List (Int × Int)) (lo hi : Nat) (vb : Nat) (x : Int × Int) (w : World) (hlo : lo ≤ hi) (hhi : hi ≤ l.length) (hn : l.length ≤ 100000) (hroom : l.length - (hi - lo) + 1 ≤ 4096)
    (S : Sep (fpL (rns p q cap l ++ [sblk vb x])) w w (rns p q cap l ++ [sblk vb x])) :
    Calls Try.prog 56 #[.pointer (at0 p), .int .i64 (lo : Int), .int .i64 (hi : Int), .slice (some ⟨vb, 0, none⟩) 1 1] w fun e w' =>
      e = .returned (.int .i64 0) ∧ ∃ q' c', Sep (fpL (rns p q cap l ++ [sblk vb x])) w w' (rns p q' c' (l.take lo ++ ([x] ++ l.drop hi)) ++ [sblk vb x]) := by
  by_cases h : lo = hi
  · exact lay1_any p q cap l lo hi vb x w hlo hhi (.inl h) hn hroom S
  · have S1 := to_srow S
    refine (lay_any p q cap l lo hi (some ⟨vb, 0, none⟩) 1 [x] w hlo hhi (.inl (by omega)) hn (by simpa using hroom) S1.self).mono ?_
    rintro e w' ⟨rfl, q', c', T⟩
    exact ⟨rfl, q', c', from_srow (S1.did0 T)⟩
end Go.Proofs.Ytmdkmclngblldaa
