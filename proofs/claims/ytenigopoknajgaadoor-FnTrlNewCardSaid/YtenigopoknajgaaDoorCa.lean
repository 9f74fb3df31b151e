/- Contracts: the laws' own comparisons. -/
import Derived.Test.YtenigopoknajgaaDoorXByte
import Derived.Test.YtenigopoknajgaaDoorI2
namespace Go.Proofs.YtenigopoknajgaaDoor
open Go.RowKit
set_option linter.unusedVariables false
set_option maxRecDepth 100000
theorem cell_cases (x y : Cell) : (x = y ∧ (x.kind == y.kind) = true ∧ (x.n == y.n) = true ∧ (x.name.toList == y.name.toList) = true) ∨ (¬ x = y ∧ ((x.kind == y.kind) = false ∨ ((x.kind == y.kind) = true ∧ (x.n == y.n) = false) ∨ ((x.kind == y.kind) = true ∧ (x.n == y.n) = true ∧ (x.name.toList == y.name.toList) = false))) := by
  by_cases h1 : x.kind = y.kind
  · by_cases h2 : x.n = y.n
    · by_cases h3 : x.name = y.name
      · exact .inl ⟨(Cell.ext_iff x y).2 ⟨h1, h2, h3⟩, beq_iff_eq.2 h1, beq_iff_eq.2 h2, beq_iff_eq.2 (by rw [h3])⟩
      · exact .inr ⟨fun e => h3 (by rw [e]), .inr (.inr ⟨beq_iff_eq.2 h1, beq_iff_eq.2 h2, beq_eq_false_iff_ne.2 (fun h => h3 (toList_inj.1 h))⟩)⟩
    · exact .inr ⟨fun e => h2 (by rw [e]), .inr (.inl ⟨beq_iff_eq.2 h1, beq_eq_false_iff_ne.2 h2⟩)⟩
  · exact .inr ⟨fun e => h1 (by rw [e]), .inl (beq_eq_false_iff_ne.2 h1)⟩
theorem caTerm_c (v u : Value) (t s : Term) (ok ok' : Nat → Prop) (w : World) (hV : kCell.V w ok v t) (hU : kCell.V w ok' u s) :
    Calls Tryd.prog 32 #[v, u] w fun e w' => e = .returned (.bool (decide (t = s))) ∧ Below w.heap.size w w' := by
  obtain ⟨A, c, rfl, h1, h2, h3, hC, _⟩ := hV
  obtain ⟨B, d, rfl, k1, k2, k3, hD, _⟩ := hU
  have HC := Sec.mk hC
  have HD := Sec.mk hD
  clear hC hD
  have hu := Tryd.underlying54
  by_cases hl : t.length = s.length
  · rw [← hl]
    have HL := Sec.mk hl
    clear hl
    go_enter Tryd.func32, Tryd.ntmps32
    go_wp2
    go_loopw [5] (fun i wr => ∃ k : Nat, k ≤ t.length ∧ i = .int .i64 k ∧ Sec (t.take k = s.take k) ∧ Sec (Below w.heap.size w wr)) (fun i _ => t.length - (intOf i).toNat)
    case atStart => exact ⟨0, Nat.zero_le _, rfl, ⟨by simp⟩, ⟨Below.refl _ _⟩⟩
    case round =>
      obtain ⟨k, hk, rfl, hT, hb⟩ := hrel
      by_cases hlt : k < t.length
      · have hlt2 : k < s.length := by have := HL.out; omega
        obtain ⟨b, off, rfl, _, x0, x1, x2, _⟩ := cell_at (Kd.C_below HC.out hb.out (by decide)) k hlt
        obtain ⟨b2, off2, rfl, _, y0, y1, y2, _⟩ := cell_at (Kd.C_below HD.out hb.out (by decide)) k hlt2
        have hT1 : Sec (t[k] = s[k] → t.take (k + 1) = s.take (k + 1)) := ⟨fun e => by rw [List.take_succ_eq_append_getElem hlt, List.take_succ_eq_append_getElem hlt2, hT.out, e]⟩
        have hT2 : Sec (t = s → t[k] = s[k]) := ⟨fun e => by subst e; rfl⟩
        generalize t[k] = x at *
        generalize s[k] = y at *
        have i0 : (0 : Int) ≤ (k : Int) := by omega
        have i1 : (k : Int) < (t.length : Int) := by omega
        have B1 : Sec (Below w.heap.size w wr.drew) := ⟨belD hb.out⟩
        rcases cell_cases x y with ⟨hxy, g1, g2, g3⟩ | ⟨hxy, hg⟩
        · have HE : Sec (t.take (k + 1) = s.take (k + 1)) := ⟨hT1.out hxy⟩
          clear hxy
          go_wp2
          go_region_held3 (fun W => (W.cell? ⟨b, off + k * 3, none⟩ = some (.int .i64 x.kind) ∧ W.cell? ⟨b, off + k * 3 + 1, none⟩ = some (.int .i64 x.n) ∧ W.cell? ⟨b, off + k * 3 + 2, none⟩ = some (.string x.name)) ∧ (W.cell? ⟨b2, off2 + k * 3, none⟩ = some (.int .i64 y.kind) ∧ W.cell? ⟨b2, off2 + k * 3 + 1, none⟩ = some (.int .i64 y.n) ∧ W.cell? ⟨b2, off2 + k * 3 + 2, none⟩ = some (.string y.name))) (first | (refine ⟨⟨?_, ?_, ?_⟩, ?_, ?_, ?_⟩ <;> assumption) | go_keep) (fail)
          all_goals
            go_wp2
            go_roundw
            case rel => exact ⟨k + 1, by omega, by go_num, HE, by first | exact hb | exact B1 | exact ⟨belD B1.out⟩⟩
            case measure => simp [intOf]; omega
        · have HE : Sec (decide (t = s) = false) := ⟨decide_eq_false (fun e => hxy (hT2.out e))⟩
          clear hxy
          rcases hg with g1 | ⟨g1, g2⟩ | ⟨g1, g2, g3⟩
          all_goals
            go_wp2
            go_region_held3 (fun W => (W.cell? ⟨b, off + k * 3, none⟩ = some (.int .i64 x.kind) ∧ W.cell? ⟨b, off + k * 3 + 1, none⟩ = some (.int .i64 x.n) ∧ W.cell? ⟨b, off + k * 3 + 2, none⟩ = some (.string x.name)) ∧ (W.cell? ⟨b2, off2 + k * 3, none⟩ = some (.int .i64 y.kind) ∧ W.cell? ⟨b2, off2 + k * 3 + 1, none⟩ = some (.int .i64 y.n) ∧ W.cell? ⟨b2, off2 + k * 3 + 2, none⟩ = some (.string y.name))) (first | (refine ⟨⟨?_, ?_, ?_⟩, ?_, ?_, ?_⟩ <;> assumption) | go_keep) (fail)
            all_goals
              go_wp2
              go_ret
              exact ⟨rb HE.out.symm, by first | exact hb.out | exact B1.out | exact belD B1.out⟩
      · have HE : Sec (decide (t = s) = true) := ⟨decide_eq_true (by have := hT.out; have h2 := HL.out; rwa [List.take_of_length_le (by omega), List.take_of_length_le (by omega)] at this)⟩
        go_wp2
        go_ret
        exact ⟨rb HE.out.symm, hb.out⟩
  · have hl' : ((t.length : Int) == (s.length : Int)) = false := beq_eq_false_iff_ne.2 (by omega)
    have HE : Sec (decide (t = s) = false) := ⟨decide_eq_false (fun e => hl (by rw [e]))⟩
    go_enter Tryd.func32, Tryd.ntmps32
    go_wp2
    go_ret
    exact ⟨rb HE.out.symm, Below.refl _ _⟩
theorem caOk_c (w : World) : Calls Tryd.prog 13 #[] w fun e w' => e = .returned (.bool true) ∧ Below w.heap.size w w' := by
  have H := Sec.mk (fun W (h : kCell.V W (fun k => w.heap.size ≤ k) (.slice (some ⟨w.heap.size, 0, none⟩) 1 1) [⟨2, 1, ⟨#[]⟩⟩]) => TrmOk_i _ [⟨2, 1, ⟨#[]⟩⟩] (fun k => w.heap.size ≤ k) W h)
  have hV : Sec (kCell.V (w.alloc (.cells #[.int .i64 2, .int .i64 1, .string ⟨#[]⟩] 54)) (fun k => w.heap.size ≤ k) (.slice (some ⟨w.heap.size, 0, none⟩) 1 1) [⟨2, 1, ⟨#[]⟩⟩]) := ⟨⟨_, 1, rfl, Nat.le_refl _, by simp [maxLen], by simp, .inr ⟨w.heap.size, 0, rfl, Nat.le_refl _, fun i x hx => by
    have hi : i = 0 := by have := (List.getElem?_eq_some_iff.1 hx).1; simpa using this
    subst hi
    obtain rfl : (⟨2, 1, ⟨#[]⟩⟩ : Cell) = x := by simpa using hx
    refine ⟨_, Kd.O_K _ (kCell_mk _ _ ⟨2, 1, ⟨#[]⟩⟩ (by decide)), fun j u hu => ?_⟩
    have := (box_at (heap_alloc_new w (.cells #[.int .i64 2, .int .i64 1, .string ⟨#[]⟩] 54))).2.1 j u (by simpa [cellC] using hu)
    simpa using this⟩, fun h => by cases h⟩⟩
  have hT : trmOk [⟨2, 1, ⟨#[]⟩⟩] = true := by
    have h1 : cellOk ⟨2, 1, ⟨#[]⟩⟩ = true := by
      unfold cellOk
      rw [if_neg (by decide), if_pos rfl, Bool.and_eq_true]
      exact ⟨by decide, by rw [toList_data]; rfl⟩
    have h2 : skip 1 [⟨2, 1, ⟨#[]⟩⟩] = some [] := by simp [skip, arity]
    unfold trmOk
    rw [List.all_cons, h1, h2]
    decide
  rw [hT] at H
  clear hT
  go_enter Tryd.func13, Tryd.ntmps13
  go_wp2_with (go_at_call 36; refine (H.out _ hV.out).mono ?_; rintro e w1 ⟨rfl, hb⟩; have B1 := Sec.mk (bel (belA (Below.refl _ _) _) hb); clear hb)
  go_ret
  exact ⟨rfl, B1.out⟩
end Go.Proofs.YtenigopoknajgaaDoor
