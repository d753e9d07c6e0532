/- The sum of bytes (package sum), walked. -/
import Derived.Test.YthkhfijfgpccbaaOc2
import Derived.Test.YthkhfijfgpccbaaOc3
import Derived.Test.YthkhfijfgpccbaaSe0
import Derived.Test.YthkhfijfgpccbaaRangeX
import Derived.Sort.LoopGhostIn
import Derived.Lib.Builder
import Derived.BigFrameIn
set_option linter.unusedVariables false
set_option linter.unusedSimpArgs false
namespace Go.Proofs.Ythkhfijfgpccbaa
open Go.RowKit Go.Und Go.Shelf
attribute [local go_sem] Oper.semAt_some

abbrev U16T : TypeId := 71
abbrev BsT : TypeId := 27
abbrev BssT : TypeId := 90
theorem add_any (a b : Int) (w : World) (ha : 0 ≤ a ∧ a ≤ 65535) (hb : 0 ≤ b ∧ b ≤ 65535) : Calls Try.prog 74 #[.int .u16 a, .int .u16 b] w fun e w' => e = .returned (.int .u16 (oc (a + b))) ∧ w' = w := by
  have e1 : bits .and .u32 (a + b) 65535 = (a + b) % 65536 := bits_mask .u32 32 (by decide) (fun n h0 h1 => by rw [IntKind.wrap_u32]; omega) 16 (by decide) (a + b) (by omega) (by omega)
  have e2 : (a + b) % 65536 + (a + b) / 65536 = oc (a + b) := by
    rcases Int.lt_or_le (a + b) 65536 with h | h
    · rw [oc_small (by omega) (by omega)]; omega
    · rw [oc_fold h (by omega)]
  have e3 := oc_bound (a + b)
  go_enter Try.func74, Try.ntmps74
  go_wp2_with fail
  go_ret
  exact ⟨rfl, rfl⟩

/-- The words of bytes. -/
def wordsL : List Int → List Int
  | [] => []
  | [x] => [256 * x]
  | x :: y :: r => (256 * x + y) :: wordsL r
theorem words_sum : ∀ (l : List Int) (s : Int), (∀ c ∈ l, 0 ≤ c) → 0 ≤ s → (wordsL l).foldl (fun s w => oc (s + w)) (oc s) = oc (s + sumP false l)
  | [], s, _, _ => by simp [wordsL, sumP]
  | [x], s, h, hs => by
    have := h x (by simp)
    simp only [wordsL, List.foldl_cons, List.foldl_nil, sumP]
    rw [oc_add hs (by omega)]; simp
  | x :: y :: r, s, h, hs => by
    have h1 := h x (by simp)
    have h2 := h y (by simp)
    have ih := words_sum r (s + (256 * x + y)) (fun c hc => h c (by simp [hc])) (by omega)
    simp only [wordsL, List.foldl_cons, sumP]
    rw [oc_add hs (by omega), ih]
    congr 1; omega
theorem words_at : ∀ (l : List Int) (k : Nat) (x y : Int), l[2 * k]? = some x → l[2 * k + 1]? = some y → (wordsL l)[k]? = some (256 * x + y)
  | [], k, x, y, h, _ => by simp at h
  | [a], k, x, y, _, h => by
    have := (List.getElem?_eq_some_iff.1 h).1
    simp at this
  | a :: b :: r, 0, x, y, h1, h2 => by
    simp at h1 h2; subst h1 h2; rfl
  | a :: b :: r, k + 1, x, y, h1, h2 => by
    have := words_at r k x y (by simpa [Nat.mul_add] using h1) (by simpa [Nat.mul_add] using h2)
    simpa [wordsL] using this
theorem words_len : ∀ (l : List Int), (wordsL l).length = (l.length + 1) / 2
  | [] => by simp [wordsL]
  | [x] => by simp [wordsL]
  | x :: y :: r => by simp only [wordsL, List.length_cons, words_len r]; omega
theorem words_last : ∀ (l : List Int) (k : Nat) (x : Int), l.length = 2 * k + 1 → l[2 * k]? = some x → (wordsL l)[k]? = some (256 * x)
  | [], k, x, h, _ => by simp at h
  | [a], k, x, h, h2 => by
    obtain rfl : k = 0 := by simp at h; omega
    simp at h2; subst h2; rfl
  | a :: b :: r, 0, x, h, _ => by simp at h
  | a :: b :: r, k + 1, x, h1, h2 => by
    have := words_last r k x (by simp at h1; omega) (by simpa [Nat.mul_add] using h2)
    simpa [wordsL] using this

/-! The iterator over words. -/
abbrev Wd := { x : Int // 0 ≤ x ∧ x ≤ 65535 }
structure WordsAt (bb sb : Nat) (a : Option Addr) (c : Nat) (l : List Int) (W : World) : Prop where
  box : W.cell? ⟨bb, 0, none⟩ = some (.slice (some ⟨sb, 0, none⟩) 1 1)
  elem : W.cell? ⟨sb, 0, none⟩ = some (.slice a l.length c)
  bytes : Reads W 1 a l.length c (fc u8c l)
theorem WordsAt.fr {bb sb : Nat} {a : Option Addr} {c : Nat} {l : List Int} {W W' : World} (h : WordsAt bb sb a c l W) (f : Fr None W W') : WordsAt bb sb a c l W' :=
  ⟨cell_frN f h.box, cell_frN f h.elem, h.bytes.fr f (fun _ _ h => h)⟩
theorem u16_join (v y : Int) (hv : 0 ≤ v ∧ v < 256) (hy : 0 ≤ y ∧ y < 256) : bits .or .u16 (256 * v) y = 256 * v + y :=
  bits_join .u16 16 (by decide) (fun n h0 h1 => by simp [IntKind.wrap, IntKind.bits, IntKind.signed]; omega) 8 (256 * v) y (by omega) (by omega) (by omega) hy.1 hy.2 (by omega)
def WSt (J : List Wd → World → Prop) (bb sb : Nat) (a : Option Addr) (c : Nat) (l : List Int) (ws : List Wd) (k : Nat) (h o : Value) (W : World) : Prop :=
  (k % 2 = 0 ∧ o = .bool false ∧ (∃ hv, h = .int .u16 hv) ∧ J (ws.take (k / 2)) W ∧ WordsAt bb sb a c l W) ∨
  (k % 2 = 1 ∧ o = .bool true ∧ (∃ x, l[k - 1]? = some x ∧ h = .int .u16 (256 * x)) ∧ J (ws.take (k / 2)) W ∧ WordsAt bb sb a c l W)

set_option maxRecDepth 100000 in
set_option maxHeartbeats 2000000 in
theorem words1_in (n yl bb sb : Nat) (a : Option Addr) (c : Nat) (l : List Int) (ws : List Wd) (hws : ws.map (·.1) = wordsL l) (hb : ∀ x ∈ l, 0 ≤ x ∧ x < 256) (hl : l.length ≤ 100000) (J Jx : List Wd → World → Prop) (W : World)
    (hY : ∀ pre x W1, J pre W1 → pre.length < ws.length → YieldAt Fence.wide (n - 1) Try.prog yl #[.int .u16 x.1] W1 fun e W' =>
      (e = .returned (.bool true) ∧ J (pre ++ [x]) W' ∧ (WordsAt bb sb a c l W1 → WordsAt bb sb a c l W')) ∨ (e = .returned (.bool false) ∧ Jx (pre ++ [x]) W'))
    (hL : WordsAt bb sb a c l W) (h0 : J [] W) :
    CallsIn Fence.wide n Try.prog 75 #[.func (.yield yl) #[] #[], .pointer (at0 bb)] W fun e W' => (∃ v, e = .returned v) ∧
      ((∃ xs, xs = ws ∧ J xs W') ∨ (∃ pre, pre <+: ws ∧ Jx pre W')) := by
  have HY := Lib.hid hY; clear hY
  have HB := Lib.hid hb; clear hb
  have HWS := Lib.hid hws; clear hws
  have c0 := hL.box
  have HL := Lib.hid hL
  have H0 := Lib.hid h0
  clear hL h0
  refine callsIn_of_wp Try.func75 rfl trivial ?_ rfl
  simp only [Try.ntmps75, List.size_toArray, List.length_cons, List.length_nil, Nat.reduceAdd, Nat.reduceSub, Array.replicate_succ, Array.replicate_zero, List.push_toArray, List.append_toArray, List.nil_append, List.cons_append]
  gi_wp2_with fail
  gi_loopg [3, 4, 11] 1 (fun g hv ov iv wr => ∃ i : Nat, i + g = 1 ∧ iv = .int .i64 i ∧ WSt J bb sb a c l ws (if i = 0 then 0 else l.length) hv ov wr)
  case atStart => exact ⟨0, rfl, rfl, .inl ⟨rfl, rfl, ⟨0, rfl⟩, by simpa using H0.out, HL.out⟩⟩
  case round =>
    clear HL H0 c0
    obtain ⟨i, hi, rfl, hst⟩ := hrel
    have HST := Lib.hid hst
    clear hst
    have hi2 : i = 0 ∨ i = 1 := by omega
    rcases hi2 with rfl | rfl
    · have W0 : WordsAt bb sb a c l wr := by rcases HST.out with ⟨_, _, _, _, h⟩ | ⟨_, _, _, _, h⟩ <;> exact h
      have c0 := W0.box
      have c1 := W0.elem
      have HW0 := Lib.hid W0
      clear W0
      have HST0 : Hid (WSt J bb sb a c l ws 0 u3 u4 wr) := Lib.hid (by simpa using HST.out)
      clear HST
      gi_wp2_with fail
      gi_loopg [3, 4, 17] l.length (fun g hv ov iv wr => ∃ k : Nat, k + g = l.length ∧ iv = .int .i64 k ∧ WSt J bb sb a c l ws k hv ov wr)
      case atStart => exact ⟨0, by simp, rfl, HST0.out⟩
      case round =>
        clear HST0 HW0 c0 c1
        obtain ⟨k, hk, rfl, hst⟩ := hrel
        have HST := Lib.hid hst
        clear hst
        rcases Nat.lt_or_ge k l.length with h | h
        · have hd : decide ((k : Int) < (l.length : Int)) = true := by simpa using h
          obtain ⟨y, hy⟩ : ∃ y, l[k]? = some y := ⟨_, List.getElem?_eq_getElem h⟩
          have hyb := HB.out y (List.mem_of_getElem? hy)
          rcases HST.out with ⟨hp, rfl, ⟨hv, rfl⟩, hJ, hW⟩ | ⟨hp, rfl, ⟨x, hx, rfl⟩, hJ, hW⟩
          · obtain ⟨b, off, rfl, hc⟩ := hW.bytes.elem u8c_len (by decide) hy
            have d1 : wr.cell? ⟨b, off + k, none⟩ = some (.int .u8 y) := by have := hc 0 _ rfl; rwa [Nat.mul_one] at this
            have HJ := Lib.hid hJ
            have HW := Lib.hid hW
            have HY0 := Lib.hid hy
            clear hJ hW HST hc hy
            gi_wp2_with fail
            go_roundg (gk - 1)
            case measure => omega
            case rel => exact ⟨k + 1, by omega, by go_num, .inr ⟨by omega, rfl, ⟨y, by simpa using HY0.out, by rw [Int.mul_comm]⟩, by rw [show (k + 1) / 2 = k / 2 by omega]; exact HJ.out, HW.out⟩⟩
          · obtain ⟨b, off, rfl, hc⟩ := hW.bytes.elem u8c_len (by decide) hy
            have d1 : wr.cell? ⟨b, off + k, none⟩ = some (.int .u8 y) := by have := hc 0 _ rfl; rwa [Nat.mul_one] at this
            have hxb := HB.out x (List.mem_of_getElem? hx)
            have ek : k = 2 * (k / 2) + 1 := by omega
            have hwl : (wordsL l)[k / 2]? = some (256 * x + y) := words_at l (k / 2) x y (by rw [show 2 * (k / 2) = k - 1 by omega]; exact hx) (by rw [← ek]; exact hy)
            rw [← HWS.out, List.getElem?_map, Option.map_eq_some_iff] at hwl
            obtain ⟨wd, hwd, ewd⟩ := hwl
            have hlen : (ws.take (k / 2)).length < ws.length := by
              have := (List.getElem?_eq_some_iff.1 hwd).1
              rw [List.length_take]; omega
            have hY2 := HY.out _ wd wr hJ hlen
            rw [show wd.1 = bits .or .u16 (256 * x) y by rw [u16_join x y hxb hyb]; exact ewd] at hY2
            obtain ⟨fn, tmps, assign, body, hyd, hR⟩ := hY2
            have htk : ws.take (k / 2) ++ [wd] = ws.take ((k + 1) / 2) := by
              rw [show (k + 1) / 2 = k / 2 + 1 by omega, List.take_add_one, hwd]; rfl
            have HR := Lib.hid hR
            have HJ := Lib.hid hJ
            have HW := Lib.hid hW
            have HT := Lib.hid htk
            clear hJ hW HST hc hy hR hx hwd htk hlen ewd ek
            gi_wp2_with fail
            refine ⟨fun h => (by cases h), HR.out.mono ?_⟩
            rintro e W3 (⟨rfl, h1, h2⟩ | ⟨rfl, h1⟩)
            · have L3 := h2 HW.out
              rw [HT.out] at h1
              have H3 := Lib.hid (And.intro h1 L3)
              clear h1 h2 L3 d1 hyd HR HW HJ
              gi_wp2_with fail
              go_roundg (gk - 1)
              case measure => omega
              case rel => exact ⟨k + 1, by omega, by go_num, .inl ⟨by omega, rfl, ⟨_, rfl⟩, H3.out.1, H3.out.2⟩⟩
            · have H3 := Lib.hid h1
              clear h1 d1 hyd HR HW HJ
              gi_wp2_with fail
              refine bodyPost_ret (results_none rfl _ _ _) rfl ?_
              exact ⟨⟨_, rfl⟩, .inr ⟨_, by rw [HT.out]; exact List.take_prefix _ _, H3.out⟩⟩
        · have hd : decide ((k : Int) < (l.length : Int)) = false := by simpa using h
          gi_wp2_with fail
          go_roundg 0
          case measure => omega
          case rel => exact ⟨1, rfl, rfl, by rw [if_neg (by decide)]; rw [show l.length = k by omega]; exact HST.out⟩
    · have hst : WSt J bb sb a c l ws l.length u3 u4 wr := by simpa using HST.out
      have hwl : ws.length = (l.length + 1) / 2 := by rw [← words_len, ← HWS.out, List.length_map]
      clear HST
      rcases hst with ⟨hp, rfl, ⟨hv, rfl⟩, hJ, hW⟩ | ⟨hp, rfl, ⟨x, hx, rfl⟩, hJ, hW⟩
      · have c0 := hW.box
        rw [List.take_of_length_le (by omega)] at hJ
        have HJ := Lib.hid hJ
        clear hJ hW hwl
        gi_wp2_with fail
        go_end0
        exact ⟨⟨_, rfl⟩, .inl ⟨ws, rfl, HJ.out⟩⟩
      · have c0 := hW.box
        have h2 : l.length = 2 * (l.length / 2) + 1 := by omega
        have hlw : (wordsL l)[l.length / 2]? = some (256 * x) := words_last l (l.length / 2) x h2 (by rw [show 2 * (l.length / 2) = l.length - 1 by omega]; exact hx)
        rw [← HWS.out, List.getElem?_map, Option.map_eq_some_iff] at hlw
        obtain ⟨wd, hwd, ewd⟩ := hlw
        have hlen : (ws.take (l.length / 2)).length < ws.length := by
          rw [List.length_take]; omega
        have hY2 := HY.out _ wd wr hJ hlen
        rw [ewd] at hY2
        have htk : ws.take (l.length / 2) ++ [wd] = ws := by
          have : ws.take (l.length / 2 + 1) = ws := List.take_of_length_le (by omega)
          rw [List.take_add_one, hwd] at this; exact this
        rw [htk] at hY2
        obtain ⟨fn, tmps, assign, body, hyd, hR⟩ := hY2
        have HR := Lib.hid hR
        clear hR hW hJ hx hwd htk hlen ewd h2 hwl
        gi_wp2_with fail
        refine ⟨fun h => (by cases h), HR.out.mono ?_⟩
        rintro e W3 (⟨rfl, h1, _⟩ | ⟨rfl, h1⟩)
        · have H3 := Lib.hid h1
          clear h1 hyd HR
          gi_wp2_with fail
          go_end0
          exact ⟨⟨_, rfl⟩, .inl ⟨ws, rfl, H3.out⟩⟩
        · have H3 := Lib.hid h1
          clear h1 hyd HR
          gi_wp2_with fail
          go_end0
          exact ⟨⟨_, rfl⟩, .inr ⟨ws, List.prefix_refl _, H3.out⟩⟩
end Go.Proofs.Ythkhfijfgpccbaa
