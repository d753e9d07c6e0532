/- The sum of bytes, walked: Of. -/
import Derived.Test.YthkhfijfgpccbaaSe1
import Derived.Test.YthkhfijfgpccbaaRange
import Derived.RangeFuncFrom
set_option linter.unusedVariables false
set_option linter.unusedSimpArgs false
namespace Go.Proofs.Ythkhfijfgpccbaa
open Go.RowKit Go.Und Go.Shelf
attribute [local go_sem] Oper.semAt_some

theorem cell_frC {D : Nat → TypeId → Prop} {W W' : World} {a : Addr} {v : Value} (f : FrC D W W') (hd : ∀ t, ¬ D a.block t) (h : W.cell? a = some v) : W'.cell? a = some v := by
  have hb : ∃ cs t z, W.heap[a.block]? = some (.cells cs t z) := by
    unfold World.cell? at h
    split at h <;> first | exact ⟨_, _, _, by assumption⟩ | cases h
  obtain ⟨cs, t, z, hc⟩ := hb
  exact (World.cell?_of_block ((f.block _ _ _ _ hc (hd t)).trans hc.symm)).trans h
def OfD (B : Nat) (b : Nat) (_ : TypeId) : Prop := b = B
theorem WordsAt.frC {bb sb B : Nat} {a : Option Addr} {c : Nat} {l : List Int} {W W' : World} (h : WordsAt bb sb a c l W) (f : FrC (OfD B) W W') (h1 : bb ≠ B) (h2 : sb ≠ B) (h3 : l ≠ [] → ∀ ad, a = some ad → ad.block ≠ B) : WordsAt bb sb a c l W' :=
  ⟨cell_frC f (fun _ => h1) h.box, cell_frC f (fun _ => h2) h.elem, ⟨h.bytes.len, h.bytes.room, h.bytes.nil, h.bytes.spot, fun ad had j u hu => cell_frC f (fun _ => h3 (fun e => by subst e; simp [fc] at hu) ad had) (h.bytes.cell ad had j u hu)⟩⟩
abbrev encW (x : Wd) : Array Value := #[.int .u16 x.1]
theorem words_wd (l : List Int) (hb : ∀ x ∈ l, 0 ≤ x ∧ x < 256) : ∃ ws : List Wd, ws.map (·.1) = wordsL l := by
  have h : ∀ x ∈ wordsL l, 0 ≤ x ∧ x ≤ 65535 := by
    intro x hx
    obtain ⟨k, hk⟩ := List.mem_iff_getElem?.1 hx
    have hlt := (List.getElem?_eq_some_iff.1 hk).1
    rw [words_len] at hlt
    have g1 : 2 * k < l.length := by omega
    have b1 := hb _ (List.getElem_mem g1)
    rcases Nat.lt_or_ge (2 * k + 1) l.length with g | g
    · have b2 := hb _ (List.getElem_mem g)
      have := words_at l k _ _ (List.getElem?_eq_getElem g1) (List.getElem?_eq_getElem g)
      rw [hk] at this; cases this; omega
    · have := words_last l k _ (by omega) (List.getElem?_eq_getElem g1)
      rw [hk] at this; cases this; omega
  generalize wordsL l = m at h
  clear hb
  induction m with
  | nil => exact ⟨[], rfl⟩
  | cons x m ih =>
    obtain ⟨ws, hw⟩ := ih (fun y hy => h y (by simp [hy]))
    exact ⟨⟨x, h x (by simp)⟩ :: ws, by simp [hw]⟩
theorem words_stops (n bb sb B : Nat) (a : Option Addr) (c : Nat) (l : List Int) (ws : List Wd) (w : World) (hws : ws.map (·.1) = wordsL l) (hb : ∀ x ∈ l, 0 ≤ x ∧ x < 256) (hl : l.length ≤ 100000) (hL : WordsAt bb sb a c l w) (h1 : bb ≠ B) (h2 : sb ≠ B) (h3 : l ≠ [] → ∀ ad, a = some ad → ad.block ≠ B) (hlt : bb < w.heap.size) :
    SeqStopsK Fence.wide n Try.prog 75 #[.pointer (at0 bb)] encW (FrC (OfD B)) (fun ys => ys = ws) (fun pre => pre <+: ws) ws.length w := by
  intro l' J Jx W hW _ _ hY h0
  exact words1_in n l' bb sb a c l ws hws hb hl J Jx W (fun pre x W1 hj hlen => (hY pre x W1 hj hlen).mono fun e W' h => h.imp (fun ⟨p, q, r⟩ => ⟨p, q, fun hw => hw.frC r h1 h2 h3⟩) id) (hL.fr (Fr.of_below (D := None) hW)) h0
theorem words_any (p : Option Addr) (m c : Nat) (W : World) : Calls Try.prog 73 #[.slice p m c] W fun e W' =>
    e = .returned (.func (.func 75) #[] #[.pointer (at0 W.heap.size)]) ∧ W' = W.alloc (.cells #[.slice p m c] BssT) := by
  go_enter Try.func73, Try.ntmps73
  go_wp2_with fail
  go_ret
  exact ⟨rfl, rfl⟩
/-- The sum so far. -/
def sumW (l : List Wd) : Int := (l.map (·.1)).foldl (fun s w => oc (s + w)) 0
theorem sumW_snoc (l : List Wd) (x : Wd) : sumW (l ++ [x]) = oc (sumW l + x.1) := by simp [sumW]
theorem sumW_bound (l : List Wd) : 0 ≤ sumW l ∧ sumW l ≤ 65535 := by
  rcases List.eq_nil_or_concat l with rfl | ⟨l, x, rfl⟩
  · exact ⟨by decide, by decide⟩
  · rw [List.concat_eq_append, sumW_snoc]; exact oc_bound _
theorem sumW_all {ws : List Wd} {l : List Int} (hws : ws.map (·.1) = wordsL l) (hb : ∀ x ∈ l, 0 ≤ x ∧ x < 256) : sumW ws = oc (sumP false l) := by
  unfold sumW
  rw [hws]
  have := words_sum l 0 (fun c hc => (hb c hc).1) (Int.le_refl _)
  rw [Int.zero_add] at this
  exact this
def OfI (w : World) (pre : List Wd) (V : World) : Prop := Sep None w V [Ob.blk w.heap.size U16T #[.int .u16 (sumW pre)]]
set_option maxRecDepth 100000 in
set_option maxHeartbeats 2000000 in
theorem of_any (sb : Nat) (a : Option Addr) (c : Nat) (l : List Int) (w : World) (he : w.cell? ⟨sb, 0, none⟩ = some (.slice a l.length c)) (hr : Reads w 1 a l.length c (fc u8c l)) (hb : ∀ x ∈ l, 0 ≤ x ∧ x < 256) (hl : l.length ≤ 100000) :
    Calls Try.prog 69 #[.slice (some ⟨sb, 0, none⟩) 1 1] w fun e w' => e = .returned (.int .u16 (oc (sumP false l))) ∧ Fr None w w' := by
  obtain ⟨ws, hws⟩ := words_wd l hb
  have S0 := ((Sep.law w).alloc #[.int .u16 0] U16T).skip (.cells #[.slice (some ⟨sb, 0, none⟩) 1 1] BssT)
  have HA := Lib.hid (words_any (some ⟨sb, 0, none⟩) 1 1 (w.alloc (.cells #[.int .u16 0] U16T)))
  have hbx := (Blk.new (w.alloc (.cells #[.int .u16 0] U16T)) BssT #[.slice (some ⟨sb, 0, none⟩) 1 1]).cell 0
  have hsb : sb < w.heap.size := World.block_lt_of_cell? w _ he
  have hsz : ((w.alloc (.cells #[.int .u16 0] U16T)).alloc (.cells #[.slice (some ⟨sb, 0, none⟩) 1 1] BssT)).heap.size = w.heap.size + 2 := by simp
  simp only [World.size_alloc] at HA hbx
  generalize eW : (w.alloc (.cells #[.int .u16 0] U16T)).alloc (.cells #[.slice (some ⟨sb, 0, none⟩) 1 1] BssT) = W0 at S0 hbx hsz
  have EW := Lib.hid eW; clear eW
  have hWA : WordsAt (w.heap.size + 1) sb a c l W0 := ⟨hbx, cell_frN S0.fr he, hr.fr S0.fr (fun _ _ h => h)⟩
  have HS := Lib.hid (fun n => words_stops n (w.heap.size + 1) sb w.heap.size a c l ws W0 hws hb hl hWA (by omega) (by omega) (fun g ad had => by
    · have := hr.lt (by rw [fc_length u8c_len]; have := List.length_pos_iff.2 g; omega) ad had; omega) (by omega))
  have H0 := Lib.hid (show OfI w [] W0 from S0)
  have HZ := Lib.hid hsz
  clear S0 hbx hsz hWA he hr
  refine (callsIn_wide (n := 5)).1 ?_
  refine callsIn_of_wp_marks Try.func69 rfl trivial ?_ rfl
  simp only [Try.ntmps69, List.size_toArray, List.length_cons, List.length_nil, Nat.reduceAdd, Nat.reduceSub, Array.replicate_succ, Array.replicate_zero, List.push_toArray, List.append_toArray, List.nil_append, List.cons_append]
  gi_wp2_with fail
  refine ⟨trivial, (callsIn_wide.2 HA.out).mono ?_⟩
  rintro e w1 ⟨rfl, e1⟩
  simp only [EW.out] at e1
  simp only [e1]
  clear e1 w1
  gi_wp2_with fail
  refine wpIn_rangeFunc_ownF rfl (by omega) (gf := 75) (lb := #[.pointer (at0 (w.heap.size + 1))]) rfl trivial (enters_of Try.func75 (by kernel_rfl) rfl) (HS.out _) (fun h k => h.trans k) (fun W l o o' _ h hc _ => FrC.putObj W l o o' h hc) (Below.refl _ _) (fun _ => rfl)
    (OfI w) (fun _ _ _ => False) (ownFrom_of fun s A C h f => Sep.odd h f (by rw [HZ.out]; omega)) (fun _ _ _ _ _ h _ _ => h) H0.out ?a1 ?assign ?body ?done ?stop
  case assign =>
    intro l x W K hK
    gi_wp2
    exact hK
  case body =>
    rintro l pre x W hI hlen
    have c1 := (hI.at_ 0 rfl).cell 0
    have z1 := (hI.at_ 0 rfl).frozen 0
    have HI := Lib.hid hI; clear hI
    gi_wp2_with fail
    refine ⟨trivial, ((callsIn_wide.2 (add_any _ _ W (sumW_bound pre) x.2)).inRound l).mono ?_⟩
    rintro e w1 ⟨rfl, rfl⟩
    rw [← sumW_snoc]
    have S2 := HI.out.set 0 rfl 0 (.int .u16 (sumW (pre ++ [x])))
    have hB := HI.out.at_ 0 rfl
    have f1 : Fr (· = w.heap.size) w1 (w1.setCell ⟨w.heap.size, 0, none⟩ (.int .u16 (sumW (pre ++ [x])))) := Fr.setCell (D := (· = w.heap.size)) (Fr.refl _ w1) (p := ⟨w.heap.size, 0, none⟩) (fun _ => rfl) _
    have HX := Lib.hid (And.intro (keepsOthers_of_fr f1 (fun k o hk ho => by subst hk; unfold Ob.blk at hB; have hB2 : Blk w1 w.heap.size U16T _ := hB; unfold Blk at hB2; rw [hB2] at ho; cases ho; rfl)) (And.intro (FrC.of_fr (D := OfD w.heap.size) f1 (fun i cs t z _ h => h)) (show OfI w (pre ++ [x]) _ from S2)))
    clear S2 hB f1
    gi_wp2_with fail
    exact HX.out
  case done =>
    rintro D' ys W hD rfl hI hK
    have c1 := (hI.at_ 0 rfl).cell 0
    have HI := Lib.hid hI; clear hI
    gi_wp2_with fail
    refine ⟨by simp, .inl ⟨_, _, rfl, run_takeDeferred hK, ?_⟩⟩
    refine ⟨_, results_tmp (t := 2) rfl _ _ _, by rw [← sumW_all hws hb]; rfl, ?_⟩
    have S2 := Sep.odd HI.out (w' := W.putObj D' (.deferred none)) (B := D') ⟨rfl, rfl, rfl, by simp, fun k hk hn => World.putObj_heap_other (fun e => hn (by subst e; exact ⟨Nat.le_refl _, _, hK, rfl⟩))⟩ (by rw [HZ.out] at hD; omega)
    exact S2.fr
  case stop =>
    rintro D' c pre W _ _ h _
    exact h.elim
end Go.Proofs.Ythkhfijfgpccbaa
