/- Contracts: the program's own small functions on terms. -/
import Derived.Test.YtenigopoknajgaaGreatDoorF3
import Derived.Lib.SliceRun
namespace Go.Proofs.YtenigopoknajgaaGreatDoor
open Go.RowKit
set_option linter.unusedVariables false
set_option maxRecDepth 100000
theorem in_c (n lo hi : Int) (w : World) : Calls Tryz.prog 33 #[.int .i64 n, .int .i64 lo, .int .i64 hi] w fun e w' => e = .returned (.bool (inB n lo hi)) ∧ w = w' := by
  by_cases h1 : lo ≤ n
  · by_cases h2 : n ≤ hi
    · have hf : Sec (inB n lo hi = true) := ⟨by simp [inB, h1, h2]⟩
      go_enter Tryz.func33, Tryz.ntmps33
      go_wp2
      go_ret
      exact ⟨rb hf.out.symm, rfl⟩
    · have hf : Sec (inB n lo hi = false) := ⟨by simp [inB, h1]; omega⟩
      go_enter Tryz.func33, Tryz.ntmps33
      go_wp2
      go_ret
      exact ⟨rb hf.out.symm, rfl⟩
  · have hf : Sec (inB n lo hi = false) := ⟨by simp [inB]; omega⟩
    go_enter Tryz.func33, Tryz.ntmps33
    go_wp2
    go_ret
    exact ⟨rb hf.out.symm, rfl⟩
theorem cloneCells_c (v : Value) (t : Term) (ok : Nat → Prop) (w : World) (hV : kCell.V w ok v t) :
    Calls Tryz.prog 38 #[v] w fun e w' => ∃ u, e = .returned u ∧ kCell.R w' (fun k => w.heap.size ≤ k) u t ∧ Below w.heap.size w w' := by
  obtain ⟨A, c, rfl, h1, h2, h3, hC, h0⟩ := hV
  have hut := Tryz.underlying56
  cases A with
  | none =>
    have ht : t = [] := by
      rcases hC with h | ⟨b, off, hA, _⟩
      · exact h
      · cases hA
    subst ht
    obtain rfl := h0 rfl
    have hq := Go.Lib.run_eql_slice_nil (P := Tryz.prog) w 56 _ none 0 0 0 0 hut
    go_enter Tryz.func38, Tryz.ntmps38
    go_wp2
    go_ret
    exact ⟨_, rfl, Kd.R_nil _ _ _, Below.refl _ _⟩
  | some a =>
    have HV : Sec (kCell.V w ok (.slice (some a) t.length c) t) := ⟨⟨_, c, rfl, h1, h2, h3, hC, h0⟩⟩
    clear hC h0
    have hq := Go.Lib.run_eql_slice_nil (P := Tryz.prog) w 56 _ (some a) t.length c 0 0 hut
    go_enter Tryz.func38, Tryz.ntmps38
    go_wp2_with (at_builtin; refine Kd.W_cat kCell rfl (.tmp 5) (.tmp 6) 56 (.agg #[.int .i64 0, .int .i64 0, .string ⟨#[]⟩]) 32 rfl Tryz.underlying56 info_cell rfl (by decide) (by decide) (.slice (some ⟨w.heap.size, 0, none⟩) 0 0) (.slice (some a) t.length c) [] t (fun k => w.heap.size ≤ k) (fun k => k < w.heap.size) rfl rfl (Kd.W_empty kCell w _ _ (Nat.le_refl _)) (Kd.V_move (fun k hk hl => ⟨⟨hl, fun e => absurd (show k = w.heap.size by simpa [Value.ownBlock] using e) (by omega)⟩, Below.heap_alloc _ _ _ hl⟩) HV.out (by decide)) (by simpa using h3) ?_; intro v1 w1 hW hg; have HR := Sec.mk (kCell_W_R hW); have HB := Sec.mk ((belA (Below.refl w.heap.size w) _).grown hg (by simp) (fun k e => Nat.le_of_eq (show w.heap.size = k by simpa [Value.ownBlock] using e))); clear hW hg)
    go_ret
    exact ⟨_, rfl, by have := HR.out; simp only [List.nil_append] at this; exact Kd.R_mono this (fun k h _ => h.elim id (fun h => by simp at h; omega)), HB.out⟩
end Go.Proofs.YtenigopoknajgaaGreatDoor
