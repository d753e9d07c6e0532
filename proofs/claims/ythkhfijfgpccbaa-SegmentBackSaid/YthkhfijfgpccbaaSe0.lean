/- Segments as data (plain). -/
import Derived.Test.YthkhfijfgpccbaaSg0
set_option linter.unusedVariables false
set_option linter.unusedSimpArgs false
namespace Go.Und

structure Sgm where
  (kind num : Int) (opt : Opt) (body : List Int)
def Sgm.zero : Sgm := ⟨0, 0, Opt.zero, []⟩
def checkS (s : Sgm) : Int :=
  if s.kind ≠ 1 ∧ s.kind ≠ 2 then 8
  else if checkO s.opt ≠ 0 then checkO s.opt
  else if ¬ (s.kind = 1 ↔ 0 < s.body.length) ∨ (s.kind = 1 ∧ 0 < s.opt.blocks.length) then 6
  else if 2048 < s.body.length then 9 else 0
/-- The bytes, with a check. -/
def formS (s : Sgm) (ob : List Int) (c : Int) : List Int := [s.kind, (ob.length : Int) / 4] ++ be 2 c ++ be 4 s.num ++ ob ++ s.body
def chkS (s : Sgm) : Int := 65535 - sumB (formS s (encO s.opt) 0)
def encS_ (s : Sgm) : List Int := formS s (encO s.opt) (chkS s)
structure Sgm.Wf (s : Sgm) : Prop where
  num : 0 ≤ s.num ∧ s.num < 4294967296
  opt : s.opt.Wf
  body : ∀ x ∈ s.body, 0 ≤ x ∧ x < 256
theorem be2 (c : Int) (h0 : 0 ≤ c) (h1 : c ≤ 65535) : be 2 c = [c / 256, c % 256] := by
  simp only [be]
  rw [show (256 : Int) ^ 1 = 256 by decide, show (256 : Int) ^ 0 = 1 by decide, Int.ediv_one, Int.emod_eq_of_lt (by omega) (by omega)]
theorem formS_split (s : Sgm) (ob : List Int) (c : Int) (h0 : 0 ≤ c) (h1 : c ≤ 65535) : formS s ob c = [s.kind, (ob.length : Int) / 4] ++ (c / 256 :: c % 256 :: (be 4 s.num ++ ob ++ s.body)) := by
  unfold formS
  rw [be2 c h0 h1]
  simp [List.append_assoc]
theorem chkS_bound (s : Sgm) : 0 ≤ chkS s ∧ chkS s ≤ 65535 := by
  have := oc_bound (sumP false (formS s (encO s.opt) 0))
  unfold chkS sumB
  omega
theorem checkS_zero {s : Sgm} (h : checkS s = 0) : (s.kind = 1 ∨ s.kind = 2) ∧ checkO s.opt = 0 ∧ s.body.length ≤ 2048 := by
  unfold checkS at h
  split at h
  · cases h
  rename_i h1
  split at h
  · rename_i h2; exact absurd h h2
  rename_i h2
  split at h
  · cases h
  split at h
  · cases h
  exact ⟨by omega, by omega, by omega⟩
theorem encO_bytes {o : Opt} (w : o.Wf) (hm : 0 ≤ o.mss ∧ o.mss ≤ 65535) (hs : 0 ≤ o.scale ∧ o.scale ≤ 14) (hn : o.blocks.length ≤ 4) : ∀ x ∈ encO o, 0 ≤ x ∧ x < 256 := by
  intro x hx
  unfold encO padTo at hx
  rcases List.mem_append.1 hx with hx | hx
  · unfold encL at hx
    simp only [List.mem_append] at hx
    rcases hx with hx | hx | hx | hx | hx
    · unfold encM at hx
      split at hx
      · rcases List.mem_append.1 hx with hx | hx
        · simp at hx; omega
        · exact be_byte hx
      · cases hx
    · unfold encP at hx
      split at hx
      · simp at hx; omega
      · cases hx
    · unfold encT at hx
      split at hx
      · rcases List.mem_append.1 hx with hx | hx
        · rcases List.mem_append.1 hx with hx | hx
          · simp at hx; omega
          · exact be_byte hx
        · exact be_byte hx
      · cases hx
    · unfold encS at hx
      split at hx
      · simp at hx; omega
      · cases hx
    · unfold encB at hx
      split at hx
      · rcases List.mem_append.1 hx with hx | hx
        · simp at hx; omega
        · obtain ⟨b, _, hx⟩ := List.mem_flatMap.1 hx
          rcases List.mem_append.1 hx with hx | hx
          · exact be_byte hx
          · exact be_byte hx
      · cases hx
  · rw [(List.mem_replicate.1 hx).2]; decide
theorem check_zero0 {o : Opt} (h : checkO o = 0) : (0 ≤ o.mss ∧ o.mss ≤ 65535) ∧ (0 ≤ o.scale ∧ o.scale ≤ 14) ∧ o.blocks.length ≤ 4 ∧ sizeO o ≤ 40 := by
  unfold checkO at h
  split at h
  · cases h
  split at h
  · cases h
  split at h
  · cases h
  omega
theorem formS_bytes {s : Sgm} (w : s.Wf) (h : checkS s = 0) (c : Int) : ∀ x ∈ formS s (encO s.opt) c, 0 ≤ x ∧ x < 256 := by
  obtain ⟨h1, h2, h3⟩ := checkS_zero h
  obtain ⟨g1, g2, g3, g4⟩ := check_zero0 h2
  have hl := encO_len s.opt g3
  have hb := encO_bytes w.opt g1 g2 g3
  intro x hx
  unfold formS at hx
  rcases List.mem_append.1 hx with hx | hx
  · rcases List.mem_append.1 hx with hx | hx
    · rcases List.mem_append.1 hx with hx | hx
      · rcases List.mem_append.1 hx with hx | hx
        · simp at hx; omega
        · exact be_byte hx
      · exact be_byte hx
    · exact hb x hx
  · exact w.body x hx
/-- What is encoded has the right sum. -/
theorem encS_fine {s : Sgm} (w : s.Wf) (h : checkS s = 0) : sumB (encS_ s) = 65535 := by
  have hc := chkS_bound s
  have hf := formS_bytes w h 0
  unfold encS_
  rw [formS_split s _ _ hc.1 hc.2]
  refine sum_check rfl (fun x hx => ?_) (fun x hx => ?_) ?_
  · exact (hf x (by unfold formS; simp only [List.append_assoc]; exact List.mem_append_left _ hx)).1
  · refine (hf x ?_).1
    unfold formS
    simp only [List.append_assoc] at hx ⊢
    exact List.mem_append_right _ (List.mem_append_right _ hx)
  · rw [chkS, formS_split s _ 0 (by decide) (by decide)]; rfl
theorem encS_len (s : Sgm) : (encS_ s).length = 8 + (encO s.opt).length + s.body.length := by
  unfold encS_ formS
  simp only [List.length_append, be_len, List.length_cons, List.length_nil]
end Go.Und
