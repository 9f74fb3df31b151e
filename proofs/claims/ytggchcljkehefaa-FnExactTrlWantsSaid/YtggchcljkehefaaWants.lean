/- Contracts: TrlWants, of the reference and of the program. -/
import Derived.Test.YtggchcljkehefaaI1
import Derived.Test.YtggchcljkehefaaXTState
import Derived.Deep.RegionHeld3
namespace Go.Proofs.Ytggchcljkehefaa
open Go.RowKit
set_option linter.unusedVariables false
set_option maxRecDepth 100000
def wants (s : TState) : Term × Int := if h : s.status = 6 ∧ s.choices ≠ [] then (canon (s.choices.getLast h.2).call, (s.choices.getLast h.2).far) else ([], 0)
theorem wants_no (s : TState) (h : ¬ (s.status = 6 ∧ s.choices ≠ [])) : wants s = ([], 0) := dif_neg h
theorem wants_at (s : TState) (k : Nat) (h : s.status = 6) (hk : s.choices.length = k + 1) : wants s = (canon (s.choices[k]'(by omega)).call, (s.choices[k]'(by omega)).far) := by
  have hne : s.choices ≠ [] := by intro e; rw [e] at hk; simp at hk
  unfold wants
  rw [dif_pos ⟨h, hne⟩, List.getLast_eq_getElem]
  simp [hk]
theorem wrap_in (n : Int) (h0 : -9223372036854775808 ≤ n) (h1 : n ≤ 9223372036854775807) : IntKind.i64.wrap n = n := by rw [IntKind.wrap_i64]; omega
theorem new_cells (w0 W : World) (n : Nat) (hn : W.heap.size = n) (h : w0.heap.size ≤ n) : kCell.R (W.alloc (.cells #[] 62)) (fun k => w0.heap.size ≤ k) (.slice (some ⟨n, 0, none⟩) 0 0) [] := by
  subst hn
  exact Kd.R_empty kCell h
theorem sWants_c (s : TState) (cs : List Value) (ok : Nat → Prop) (w : World) (hK : kTState.K w ok s cs) :
    Calls Try.prog 6 #[.agg cs.toArray] w fun e w' => ∃ u, e = .returned (.tuple #[u, .int .i64 (wants s).2]) ∧ kCell.R w' (fun k => w.heap.size ≤ k) u (wants s).1 ∧ Below w.heap.size w w' := by
  obtain ⟨v1, v2, v4, v5, v6, rfl, -, -, h4, -, -⟩ := kTState_K hK
  clear hK
  obtain ⟨A, c, rfl, h1, h2, h3, hC, _⟩ := h4
  have HC := Sec.mk hC
  clear hC
  have hu := Try.underlying36
  have hu2 := Try.underlying55
  by_cases hs : s.status = 6
  · by_cases hn : s.choices = []
    · have hw := Sec.mk (wants_no s (fun h => h.2 hn))
      rw [hn] at *
      have hs' : (s.status != 6) = false := by simp [hs]
      clear hs
      go_enter Try.func6, Try.ntmps6
      go_wp2
      refine bodyPost_ret (v := .tuple #[.slice (some ⟨w.heap.size + 1, 0, none⟩) 0 0, .int .i64 0]) (by simp [results, Try.results6, go_sem]) rfl ?_
      rw [hw.out]
      exact ⟨_, rfl, new_cells w _ _ (by simp) (by omega), belA (belA (Below.refl _ _) _) _⟩
    · obtain ⟨k, hk⟩ : ∃ k, s.choices.length = k + 1 := ⟨s.choices.length - 1, by have := List.length_pos_iff.2 hn; omega⟩
      have hw := Sec.mk (wants_at s k hs hk)
      obtain ⟨b, off, ce, rfl, hob, hKe, hce⟩ := Kd.C_get HC.out (List.getElem?_eq_getElem (show k < s.choices.length by omega))
      generalize s.choices[k]'(by omega) = x at *
      obtain ⟨x0, x3, rfl, -, hx3⟩ := kTChoice_K hKe
      have HX := Sec.mk hx3
      have hat : Sec (∀ W : World, Below w.heap.size w W → W.cell? ⟨b, off + k * 6 + 3, none⟩ = some x3 ∧ W.cell? ⟨b, off + k * 6 + 5, none⟩ = some (.int .i64 x.far)) := ⟨fun W h => ⟨Raw.cell_below h (hce 3 _ rfl), Raw.cell_below h (hce 5 _ rfl)⟩⟩
      have hs' : (s.status != 6) = false := by simp [hs]
      clear hs hKe hce hx3
      generalize s.choices.length = n at *
      have i0 : (0 : Int) ≤ (k : Int) := by omega
      have i1 : (k : Int) < (n : Int) := by omega
      have i2 : (n : Int) - 1 = (k : Int) := by omega
      have i3 : IntKind.i64.wrap ((n : Int) - 1) = (k : Int) := by rw [i2]; exact wrap_in _ (by omega) (by omega)
      have i4 : IntKind.i64.wrap (k : Int) = (k : Int) := wrap_in _ (by omega) (by omega)
      have n1 : ((n : Int) == 0) = false := beq_eq_false_iff_ne.2 (by omega)
      have HKN := Sec.mk hk
      clear hk
      go_enter Try.func6, Try.ntmps6
      go_wp2
      have hbx : Sec (∀ W : World, Below (w.alloc (.cells #[.int .i64 s.status, v1, v2, .int .i64 s.vars, .slice (some ⟨b, off, none⟩) n c, v5, v6] 36)).heap.size (w.alloc (.cells #[.int .i64 s.status, v1, v2, .int .i64 s.vars, .slice (some ⟨b, off, none⟩) n c, v5, v6] 36)) W → W.cell? ⟨w.heap.size, 4, none⟩ = some (.slice (some ⟨b, off, none⟩) n c)) := ⟨fun W h => (box_cells h (box1 _ _)).2.1 4 _ rfl⟩
      have y4 := hbx.out _ (Below.refl _ _)
      obtain ⟨y3, y5⟩ := hat.out _ (belA (Below.refl _ _) (.cells #[.int .i64 s.status, v1, v2, .int .i64 s.vars, .slice (some ⟨b, off, none⟩) n c, v5, v6] 36))
      generalize hW0 : w.alloc (.cells #[.int .i64 s.status, v1, v2, .int .i64 s.vars, .slice (some ⟨b, off, none⟩) n c, v5, v6] 36) = W0 at *
      have BW : Sec (Below w.heap.size w W0) := ⟨by rw [← hW0]; exact belA (Below.refl _ _) _⟩
      clear hW0
      go_region_held3 (fun W => W.cell? ⟨w.heap.size, 4, none⟩ = some (.slice (some ⟨b, off, none⟩) n c) ∧ W.cell? ⟨b, off + k * 6 + 3, none⟩ = some x3 ∧ W.cell? ⟨b, off + k * 6 + 5, none⟩ = some (.int .i64 x.far))
        (first | (refine ⟨?_, ?_, ?_⟩ <;> assumption) | go_keep)
        (first | (go_at_call 23; refine (TrmCanon_c x3 x.call ok _ (Kd.V_below HX.out (belD BW.out) (by decide))).mono ?_; rintro e w1 ⟨u, rfl, hR, hb1⟩; have B0 := Sec.mk (bel (belD (Below.refl _ _)) hb1); have HR := Sec.mk (Kd.R_mono (S1 := fun k => w.heap.size ≤ k) hR (fun k h _ => Nat.le_trans BW.out.size h)); have B1 := Sec.mk (bel BW.out B0.out); clear y3 y4 y5; have y4 := hbx.out _ B0.out; obtain ⟨y3, y5⟩ := hat.out _ B1.out; clear hb1 hR))
      all_goals
        go_wp2
        refine bodyPost_ret (v := .tuple #[u, .int .i64 x.far]) (by simp [results, Try.results6, go_sem]) rfl ?_
        rw [hw.out]
        exact ⟨u, rfl, HR.out, B1.out⟩
  · have hw := Sec.mk (wants_no s (fun h => hs h.1))
    have hs' : (s.status != 6) = true := by simp [hs]
    clear hs
    go_enter Try.func6, Try.ntmps6
    go_wp2
    refine bodyPost_ret (v := .tuple #[.slice (some ⟨w.heap.size + 1, 0, none⟩) 0 0, .int .i64 0]) (by simp [results, Try.results6, go_sem]) rfl ?_
    rw [hw.out]
    exact ⟨_, rfl, new_cells w _ _ (by simp) (by omega), belA (belA (Below.refl _ _) _) _⟩
theorem iWants_c (s : TState) (cs : List Value) (ok : Nat → Prop) (w : World) (hK : kTState.K w ok s cs) :
    Calls Try.prog 8 #[.agg cs.toArray] w fun e w' => ∃ u, e = .returned (.tuple #[u, .int .i64 (wants s).2]) ∧ kCell.R w' (fun k => w.heap.size ≤ k) u (wants s).1 ∧ Below w.heap.size w w' := by
  obtain ⟨v1, v2, v4, v5, v6, rfl, -, -, h4, -, -⟩ := kTState_K hK
  clear hK
  obtain ⟨A, c, rfl, h1, h2, h3, hC, _⟩ := h4
  have HC := Sec.mk hC
  clear hC
  have hu := Try.underlying36
  have hu2 := Try.underlying55
  by_cases hs : s.status = 6
  · by_cases hn : s.choices = []
    · have hw := Sec.mk (wants_no s (fun h => h.2 hn))
      rw [hn] at *
      have hs' : (s.status != 6) = false := by simp [hs]
      clear hs
      go_enter Try.func8, Try.ntmps8
      go_wp2
      refine bodyPost_ret (v := .tuple #[.slice none 0 0, .int .i64 0]) (by simp [results, Try.results8, go_sem]) rfl ?_
      rw [hw.out]
      exact ⟨_, rfl, Kd.R_nil _ _ _, belA (Below.refl _ _) _⟩
    · obtain ⟨k, hk⟩ : ∃ k, s.choices.length = k + 1 := ⟨s.choices.length - 1, by have := List.length_pos_iff.2 hn; omega⟩
      have hw := Sec.mk (wants_at s k hs hk)
      obtain ⟨b, off, ce, rfl, hob, hKe, hce⟩ := Kd.C_get HC.out (List.getElem?_eq_getElem (show k < s.choices.length by omega))
      generalize s.choices[k]'(by omega) = x at *
      obtain ⟨x0, x3, rfl, -, hx3⟩ := kTChoice_K hKe
      have HX := Sec.mk hx3
      have hat : Sec (∀ W : World, Below w.heap.size w W → W.cell? ⟨b, off + k * 6 + 3, none⟩ = some x3 ∧ W.cell? ⟨b, off + k * 6 + 5, none⟩ = some (.int .i64 x.far)) := ⟨fun W h => ⟨Raw.cell_below h (hce 3 _ rfl), Raw.cell_below h (hce 5 _ rfl)⟩⟩
      have hs' : (s.status != 6) = false := by simp [hs]
      clear hs hKe hce hx3
      generalize s.choices.length = n at *
      have i0 : (0 : Int) ≤ (k : Int) := by omega
      have i1 : (k : Int) < (n : Int) := by omega
      have i2 : (n : Int) - 1 = (k : Int) := by omega
      have i3 : IntKind.i64.wrap ((n : Int) - 1) = (k : Int) := by rw [i2]; exact wrap_in _ (by omega) (by omega)
      have i4 : IntKind.i64.wrap (k : Int) = (k : Int) := wrap_in _ (by omega) (by omega)
      have n1 : ((n : Int) == 0) = false := beq_eq_false_iff_ne.2 (by omega)
      have HKN := Sec.mk hk
      clear hk
      go_enter Try.func8, Try.ntmps8
      go_wp2
      have hbx : Sec (∀ W : World, Below (w.alloc (.cells #[.int .i64 s.status, v1, v2, .int .i64 s.vars, .slice (some ⟨b, off, none⟩) n c, v5, v6] 36)).heap.size (w.alloc (.cells #[.int .i64 s.status, v1, v2, .int .i64 s.vars, .slice (some ⟨b, off, none⟩) n c, v5, v6] 36)) W → W.cell? ⟨w.heap.size, 4, none⟩ = some (.slice (some ⟨b, off, none⟩) n c)) := ⟨fun W h => (box_cells h (box1 _ _)).2.1 4 _ rfl⟩
      have y4 := hbx.out _ (Below.refl _ _)
      obtain ⟨y3, y5⟩ := hat.out _ (belA (Below.refl _ _) (.cells #[.int .i64 s.status, v1, v2, .int .i64 s.vars, .slice (some ⟨b, off, none⟩) n c, v5, v6] 36))
      generalize hW0 : w.alloc (.cells #[.int .i64 s.status, v1, v2, .int .i64 s.vars, .slice (some ⟨b, off, none⟩) n c, v5, v6] 36) = W0 at *
      have BW : Sec (Below w.heap.size w W0) := ⟨by rw [← hW0]; exact belA (Below.refl _ _) _⟩
      clear hW0
      go_region_held3 (fun W => W.cell? ⟨w.heap.size, 4, none⟩ = some (.slice (some ⟨b, off, none⟩) n c) ∧ W.cell? ⟨b, off + k * 6 + 3, none⟩ = some x3 ∧ W.cell? ⟨b, off + k * 6 + 5, none⟩ = some (.int .i64 x.far))
        (first | (refine ⟨?_, ?_, ?_⟩ <;> assumption) | go_keep)
        (first | (go_at_call 28; refine (TrmCanon_i x3 x.call ok _ (Kd.V_below HX.out (belD BW.out) (by decide))).mono ?_; rintro e w1 ⟨u, rfl, hR, hb1⟩; have B0 := Sec.mk (bel (belD (Below.refl _ _)) hb1); have HR := Sec.mk (Kd.R_mono (S1 := fun k => w.heap.size ≤ k) hR (fun k h _ => Nat.le_trans BW.out.size h)); have B1 := Sec.mk (bel BW.out B0.out); clear y3 y4 y5; have y4 := hbx.out _ B0.out; obtain ⟨y3, y5⟩ := hat.out _ B1.out; clear hb1 hR))
      all_goals
        go_wp2
        refine bodyPost_ret (v := .tuple #[u, .int .i64 x.far]) (by simp [results, Try.results8, go_sem]) rfl ?_
        rw [hw.out]
        exact ⟨u, rfl, HR.out, B1.out⟩
  · have hw := Sec.mk (wants_no s (fun h => hs h.1))
    have hs' : (s.status != 6) = true := by simp [hs]
    clear hs
    go_enter Try.func8, Try.ntmps8
    go_wp2
    refine bodyPost_ret (v := .tuple #[.slice none 0 0, .int .i64 0]) (by simp [results, Try.results8, go_sem]) rfl ?_
    rw [hw.out]
    exact ⟨_, rfl, Kd.R_nil _ _ _, belA (Below.refl _ _) _⟩
end Go.Proofs.Ytggchcljkehefaa
