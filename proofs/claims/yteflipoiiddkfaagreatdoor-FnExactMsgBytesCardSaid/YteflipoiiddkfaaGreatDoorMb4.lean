/- Contracts: two terms are the same, cell by cell; questions; and what goes with it. -/
import Derived.Test.YteflipoiiddkfaaGreatDoorMb1
import Derived.Test.YteflipoiiddkfaaGreatDoorMb2
import Derived.Test.YteflipoiiddkfaaGreatDoorMb3
import Derived.Outline
import Derived.RangeFuncNested
import Derived.RangeFuncBox
import Derived.RangeFuncBound
import Derived.RangeFuncCalls
import Derived.RangeFuncLeaves
import Derived.Shelf.Abstract
import Derived.Shelf.RegionOpen
import Derived.OwnWalkIn
import Derived.TacticsInMore
import Derived.LoopNIn
import Derived.LoopIn
import Derived.WalkSpells
import Derived.Deep.LoopGhost
import Derived.Maps.Own
import Derived.Maps.OwnOps
import Derived.Maps.Views
namespace Go.Proofs.YteflipoiiddkfaaGreatDoor
section
open Go.RowKit
set_option linter.unusedVariables false
set_option maxRecDepth 100000
theorem TrmSame_c (v u : Value) (t s : Term) (ok ok' : Nat → Prop) (w : World) (hV : kCell.V w ok v t) (hU : kCell.V w ok' u s) :
    Calls Tryz.prog 60 #[v, u] w fun e w' => e = .returned (.bool (decide (t = s))) ∧ Below w.heap.size w w' := by
  obtain ⟨A, c, rfl, h1, h2, h3, hC, _⟩ := hV
  obtain ⟨B, d, rfl, k1, k2, k3, hD, _⟩ := hU
  have HC := Sec.mk hC
  have HD := Sec.mk hD
  clear hC hD
  have hu := Tryz.underlying77
  by_cases hl : t.length = s.length
  · rw [← hl]
    have HL := Sec.mk hl
    clear hl
    go_enter Tryz.func60, Tryz.ntmps60
    go_wp2
    go_loopw [5] (fun i wr => ∃ k : Nat, k ≤ t.length ∧ i = .int .i64 k ∧ Sec (t.take k = s.take k) ∧ Sec (Below w.heap.size w wr)) (fun i _ => t.length - (intOf i).toNat)
    case atStart => exact ⟨0, Nat.zero_le _, rfl, ⟨by simp⟩, ⟨Below.refl _ _⟩⟩
    case round =>
      obtain ⟨k, hk, rfl, hT, hb⟩ := hrel
      by_cases hlt : k < t.length
      · have hlt2 : k < s.length := by have := HL.out; omega
        obtain ⟨b, off, rfl, _, x0, x1, x2, _⟩ := cell_at (Kd.C_below HC.out hb.out (by decide)) k hlt
        obtain ⟨b2, off2, rfl, _, y0, y1, y2, _⟩ := cell_at (Kd.C_below HD.out hb.out (by decide)) k hlt2
        have hT1 : Sec (t[k] = s[k] → t.take (k + 1) = s.take (k + 1)) := ⟨fun e => by rw [List.take_succ_eq_append_getElem hlt, List.take_succ_eq_append_getElem hlt2, hT.out, e]⟩
        have hT2 : Sec (t = s → t[k] = s[k]) := ⟨fun e => by subst e; rfl⟩
        generalize t[k] = x at *
        generalize s[k] = y at *
        have i0 : (0 : Int) ≤ (k : Int) := by omega
        have i1 : (k : Int) < (t.length : Int) := by omega
        have B1 : Sec (Below w.heap.size w wr.drew) := ⟨belD hb.out⟩
        rcases cell_cases x y with ⟨hxy, g1, g2, g3⟩ | ⟨hxy, hg⟩
        · have HE : Sec (t.take (k + 1) = s.take (k + 1)) := ⟨hT1.out hxy⟩
          clear hxy
          go_wp2
          go_region_held3 (fun W => (W.cell? ⟨b, off + k * 3, none⟩ = some (.int .i64 x.kind) ∧ W.cell? ⟨b, off + k * 3 + 1, none⟩ = some (.int .i64 x.n) ∧ W.cell? ⟨b, off + k * 3 + 2, none⟩ = some (.string x.name)) ∧ (W.cell? ⟨b2, off2 + k * 3, none⟩ = some (.int .i64 y.kind) ∧ W.cell? ⟨b2, off2 + k * 3 + 1, none⟩ = some (.int .i64 y.n) ∧ W.cell? ⟨b2, off2 + k * 3 + 2, none⟩ = some (.string y.name))) (first | (refine ⟨⟨?_, ?_, ?_⟩, ?_, ?_, ?_⟩ <;> assumption) | go_keep) (fail)
          all_goals
            go_wp2
            go_roundw
            case rel => exact ⟨k + 1, by omega, by go_num, HE, by first | exact hb | exact B1 | exact ⟨belD B1.out⟩⟩
            case measure => simp [intOf]; omega
        · have HE : Sec (decide (t = s) = false) := ⟨decide_eq_false (fun e => hxy (hT2.out e))⟩
          clear hxy
          rcases hg with g1 | ⟨g1, g2⟩ | ⟨g1, g2, g3⟩
          all_goals
            go_wp2
            go_region_held3 (fun W => (W.cell? ⟨b, off + k * 3, none⟩ = some (.int .i64 x.kind) ∧ W.cell? ⟨b, off + k * 3 + 1, none⟩ = some (.int .i64 x.n) ∧ W.cell? ⟨b, off + k * 3 + 2, none⟩ = some (.string x.name)) ∧ (W.cell? ⟨b2, off2 + k * 3, none⟩ = some (.int .i64 y.kind) ∧ W.cell? ⟨b2, off2 + k * 3 + 1, none⟩ = some (.int .i64 y.n) ∧ W.cell? ⟨b2, off2 + k * 3 + 2, none⟩ = some (.string y.name))) (first | (refine ⟨⟨?_, ?_, ?_⟩, ?_, ?_, ?_⟩ <;> assumption) | go_keep) (fail)
            all_goals
              go_wp2
              go_ret
              exact ⟨rb HE.out.symm, by first | exact hb.out | exact B1.out | exact belD B1.out⟩
      · have HE : Sec (decide (t = s) = true) := ⟨decide_eq_true (by have := hT.out; have h2 := HL.out; rwa [List.take_of_length_le (by omega), List.take_of_length_le (by omega)] at this)⟩
        go_wp2
        go_ret
        exact ⟨rb HE.out.symm, hb.out⟩
  · have hl' : ((t.length : Int) == (s.length : Int)) = false := beq_eq_false_iff_ne.2 (by omega)
    have HE : Sec (decide (t = s) = false) := ⟨decide_eq_false (fun e => hl (by rw [e]))⟩
    go_enter Tryz.func60, Tryz.ntmps60
    go_wp2
    go_ret
    exact ⟨rb HE.out.symm, Below.refl _ _⟩
theorem equalCells_c (v u : Value) (t s : Term) (ok ok' : Nat → Prop) (w : World) (hV : kCell.V w ok v t) (hU : kCell.V w ok' u s) :
    Calls Tryz.prog 81 #[v, u] w fun e w' => e = .returned (.bool (decide (t = s))) ∧ Below w.heap.size w w' := by
  obtain ⟨A, c, rfl, h1, h2, h3, hC, _⟩ := hV
  obtain ⟨B, d, rfl, k1, k2, k3, hD, _⟩ := hU
  have HC := Sec.mk hC
  have HD := Sec.mk hD
  clear hC hD
  have hu := Tryz.underlying77
  by_cases hl : t.length = s.length
  · rw [← hl]
    have HL := Sec.mk hl
    clear hl
    go_enter Tryz.func81, Tryz.ntmps81
    go_wp2
    go_loopw [13] (fun i wr => ∃ k : Nat, k ≤ t.length ∧ i = .int .i64 k ∧ Sec (t.take k = s.take k) ∧ Sec (Below w.heap.size w wr)) (fun i _ => t.length - (intOf i).toNat)
    case atStart => exact ⟨0, Nat.zero_le _, rfl, ⟨by simp⟩, ⟨Below.refl _ _⟩⟩
    case round =>
      obtain ⟨k, hk, rfl, hT, hb⟩ := hrel
      by_cases hlt : k < t.length
      · have hlt2 : k < s.length := by have := HL.out; omega
        obtain ⟨b, off, rfl, _, x0, x1, x2, _⟩ := cell_at (Kd.C_below HC.out hb.out (by decide)) k hlt
        obtain ⟨b2, off2, rfl, _, y0, y1, y2, _⟩ := cell_at (Kd.C_below HD.out hb.out (by decide)) k hlt2
        have hT1 : Sec (t[k] = s[k] → t.take (k + 1) = s.take (k + 1)) := ⟨fun e => by rw [List.take_succ_eq_append_getElem hlt, List.take_succ_eq_append_getElem hlt2, hT.out, e]⟩
        have hT2 : Sec (t = s → t[k] = s[k]) := ⟨fun e => by subst e; rfl⟩
        generalize t[k] = x at *
        generalize s[k] = y at *
        have i0 : (0 : Int) ≤ (k : Int) := by omega
        have i1 : (k : Int) < (t.length : Int) := by omega
        have B1 : Sec (Below w.heap.size w wr.drew) := ⟨belD hb.out⟩
        rcases cell_cases x y with ⟨hxy, g1, g2, g3⟩ | ⟨hxy, hg⟩
        · have HE : Sec (t.take (k + 1) = s.take (k + 1)) := ⟨hT1.out hxy⟩
          clear hxy
          go_wp2
          go_region_held3 (fun W => (W.cell? ⟨b, off + k * 3, none⟩ = some (.int .i64 x.kind) ∧ W.cell? ⟨b, off + k * 3 + 1, none⟩ = some (.int .i64 x.n) ∧ W.cell? ⟨b, off + k * 3 + 2, none⟩ = some (.string x.name)) ∧ (W.cell? ⟨b2, off2 + k * 3, none⟩ = some (.int .i64 y.kind) ∧ W.cell? ⟨b2, off2 + k * 3 + 1, none⟩ = some (.int .i64 y.n) ∧ W.cell? ⟨b2, off2 + k * 3 + 2, none⟩ = some (.string y.name))) (first | (refine ⟨⟨?_, ?_, ?_⟩, ?_, ?_, ?_⟩ <;> assumption) | go_keep) (fail)
          all_goals
            go_wp2
            go_roundw
            case rel => exact ⟨k + 1, by omega, by go_num, HE, by first | exact hb | exact B1 | exact ⟨belD B1.out⟩⟩
            case measure => simp [intOf]; omega
        · have HE : Sec (decide (t = s) = false) := ⟨decide_eq_false (fun e => hxy (hT2.out e))⟩
          clear hxy
          rcases hg with g1 | ⟨g1, g2⟩ | ⟨g1, g2, g3⟩
          all_goals
            go_wp2
            go_region_held3 (fun W => (W.cell? ⟨b, off + k * 3, none⟩ = some (.int .i64 x.kind) ∧ W.cell? ⟨b, off + k * 3 + 1, none⟩ = some (.int .i64 x.n) ∧ W.cell? ⟨b, off + k * 3 + 2, none⟩ = some (.string x.name)) ∧ (W.cell? ⟨b2, off2 + k * 3, none⟩ = some (.int .i64 y.kind) ∧ W.cell? ⟨b2, off2 + k * 3 + 1, none⟩ = some (.int .i64 y.n) ∧ W.cell? ⟨b2, off2 + k * 3 + 2, none⟩ = some (.string y.name))) (first | (refine ⟨⟨?_, ?_, ?_⟩, ?_, ?_, ?_⟩ <;> assumption) | go_keep) (fail)
            all_goals
              go_wp2
              go_ret
              exact ⟨rb HE.out.symm, by first | exact hb.out | exact B1.out | exact belD B1.out⟩
      · have HE : Sec (decide (t = s) = true) := ⟨decide_eq_true (by have := hT.out; have h2 := HL.out; rwa [List.take_of_length_le (by omega), List.take_of_length_le (by omega)] at this)⟩
        go_wp2
        go_ret
        exact ⟨rb HE.out.symm, hb.out⟩
  · have hl' : ((t.length : Int) == (s.length : Int)) = false := beq_eq_false_iff_ne.2 (by omega)
    have HE : Sec (decide (t = s) = false) := ⟨decide_eq_false (fun e => hl (by rw [e]))⟩
    go_enter Tryz.func81, Tryz.ntmps81
    go_wp2
    go_ret
    exact ⟨rb HE.out.symm, Below.refl _ _⟩
theorem TrmSame_i (v u : Value) (t s : Term) (ok ok' : Nat → Prop) (w : World) (hV : kCell.V w ok v t) (hU : kCell.V w ok' u s) :
    Calls Tryz.prog 67 #[v, u] w fun e w' => e = .returned (.bool (decide (t = s))) ∧ Below w.heap.size w w' := by
  have H := equalCells_c v u t s ok ok' w hV hU
  obtain ⟨A, c, rfl, -⟩ := hV
  obtain ⟨B, d, rfl, -⟩ := hU
  have H := Sec.mk H
  generalize hq : decide (t = s) = q at *
  have HQ := Sec.mk hq
  clear hq
  go_enter Tryz.func67, Tryz.ntmps67
  go_wp2_with (go_at_call 81; refine H.out.mono ?_; rintro e w1 ⟨rfl, hb⟩; have B1 := Sec.mk hb; clear hb)
  go_ret
  exact ⟨rfl, B1.out⟩
end
section
open Go.RowKit
set_option linter.unusedVariables false
set_option maxRecDepth 100000
def headFun : Term → Bool
  | [] => false
  | c :: _ => c.kind == 3
def question (t : Term) : Bool := trmOk t && headFun t && decide (canon t = t)
theorem trmOk_ne {t : Term} (h : trmOk t = true) : t ≠ [] := by rintro rfl; simp [trmOk] at h
theorem question_no1 {t : Term} (h : trmOk t = false) : question t = false := by simp [question, h]
theorem question_no2 {t : Term} (h : headFun t = false) : question t = false := by simp [question, h]
theorem question_at {t : Term} (h : trmOk t = true) (h2 : headFun t = true) : question t = decide (canon t = t) := by simp [question, h, h2]
theorem l3Call_c (v : Value) (t : Term) (ok : Nat → Prop) (w : World) (hV : kCell.V w ok v t) :
    Calls Tryz.prog 59 #[v] w fun e w' => e = .returned (.bool (headFun t)) ∧ Below w.heap.size w w' := by
  obtain ⟨A, c, rfl, h1, h2, h3, hC, -⟩ := hV
  cases t with
  | nil =>
    clear hC
    simp only [List.length_nil] at *
    have hq : decide ((0 : Int) > ((0 : Nat) : Int)) = false := by decide
    go_enter Tryz.func59, Tryz.ntmps59
    go_wp2
    go_ret
    exact ⟨rfl, Below.refl _ _⟩
  | cons x r =>
    obtain ⟨b, off, rfl, _, x0, -, -, -⟩ := cell_at hC 0 (by simp)
    simp only [List.getElem_cons_zero, Nat.zero_mul, Nat.add_zero] at x0
    have hl : 0 < (x :: r).length := by simp
    generalize hn : (x :: r).length = n at *
    have HN := Sec.mk hn
    clear hn hC
    have i1 : (0 : Int) < (n : Int) := by omega
    have hq : decide ((n : Int) > 0) = true := decide_eq_true i1
    go_enter Tryz.func59, Tryz.ntmps59
    go_wp2
    go_ret
    exact ⟨rfl, Below.refl _ _⟩
theorem l4Top_c (v : Value) (t : Term) (ok : Nat → Prop) (w : World) (hV : kCell.V w ok v t) (hok : ∀ k, ok k → k < w.heap.size) :
    Calls Tryz.prog 45 #[v] w fun e w' => e = .returned (.bool (question t)) ∧ Below w.heap.size w w' := by
  have HV := Sec.mk hV
  have FV : ∀ {w' : World}, Below w.heap.size w w' → kCell.V w' ok v t := fun hb => Kd.V_below HV.out hb (by decide)
  obtain ⟨A, c, rfl, -⟩ := hV
  cases ht : trmOk t with
  | false =>
    rw [question_no1 ht]
    have H1 := Sec.mk ht
    clear ht
    go_enter Tryz.func45, Tryz.ntmps45
    go_wp2_with (go_at_call 48; refine (TrmOk_c _ t _ _ HV.out).mono ?_; rw [H1.out]; rintro e w1 ⟨rfl, hb⟩; have B1 := Sec.mk hb; clear hb)
    go_ret
    exact ⟨rfl, B1.out⟩
  | true =>
    cases hh : headFun t with
    | false =>
      rw [question_no2 hh]
      have H1 := Sec.mk ht
      have H2 := Sec.mk hh
      clear ht hh
      go_enter Tryz.func45, Tryz.ntmps45
      go_wp2_with (first | (go_at_call 48; refine (TrmOk_c _ t _ _ HV.out).mono ?_; rw [H1.out]; rintro e w1 ⟨rfl, hb⟩; have B1 := Sec.mk hb; clear hb) | (go_at_call 59; refine (l3Call_c _ t _ _ (FV B1.out)).mono ?_; rw [H2.out]; rintro e w2 ⟨rfl, hb⟩; have B2 := Sec.mk (bel B1.out hb); clear hb))
      go_ret
      exact ⟨rfl, B2.out⟩
    | true =>
      rw [question_at ht hh]
      generalize hq : decide (canon t = t) = q at *
      have HQ := Sec.mk hq
      have H1 := Sec.mk ht
      have H2 := Sec.mk hh
      clear ht hh hq
      go_enter Tryz.func45, Tryz.ntmps45
      go_wp2_with (first | (go_at_call 48; refine (TrmOk_c _ t _ _ HV.out).mono ?_; rw [H1.out]; rintro e w1 ⟨rfl, hb⟩; have B1 := Sec.mk hb; clear hb) | (go_at_call 59; refine (l3Call_c _ t _ _ (FV B1.out)).mono ?_; rw [H2.out]; rintro e w2 ⟨rfl, hb⟩; have B2 := Sec.mk (bel B1.out hb); clear hb) | (go_at_call 61; refine (TrmCanon_c _ t _ _ (FV B2.out)).mono ?_; rintro e w3 ⟨u, rfl, hR, hb⟩; have R3 := Sec.mk (Kd.R_V hR); have B3 := Sec.mk (bel B2.out hb); clear hR hb) | (go_at_call 60; refine (TrmSame_c _ _ (canon t) t _ _ _ R3.out (FV B3.out)).mono ?_; rw [HQ.out]; rintro e w4 ⟨rfl, hb⟩; have B4 := Sec.mk (bel B3.out hb); clear hb))
      go_ret
      exact ⟨rfl, B4.out⟩
theorem called_i (v : Value) (t : Term) (ok : Nat → Prop) (w : World) (hV : kCell.V w ok v t) :
    Calls Tryz.prog 66 #[v] w fun e w' => e = .returned (.bool (trmOk t && headFun t)) ∧ Below w.heap.size w w' := by
  have HV := Sec.mk hV
  cases ht : trmOk t with
  | false =>
    rw [Bool.false_and]
    obtain ⟨A, c, rfl, -⟩ := hV
    have H1 := Sec.mk ht
    clear ht
    go_enter Tryz.func66, Tryz.ntmps66
    go_wp2_with (go_at_call 54; refine (TrmOk_i _ t _ _ HV.out).mono ?_; rw [H1.out]; rintro e w1 ⟨rfl, hb⟩; have B1 := Sec.mk hb; clear hb)
    go_ret
    exact ⟨rfl, B1.out⟩
  | true =>
    rw [Bool.true_and]
    obtain ⟨A, c, rfl, h1, h2, h3, hC, -⟩ := hV
    cases t with
    | nil => exact absurd rfl (trmOk_ne ht)
    | cons x r =>
      have H1 := Sec.mk ht
      clear ht
      have HC := Sec.mk hC
      obtain ⟨b, off, rfl, _, x0, -, -, -⟩ := cell_at hC 0 (by simp)
      clear x0
      have H0 : ∀ {w' : World}, Below w.heap.size w w' → w'.cell? ⟨b, off, none⟩ = some (.int .i64 x.kind) := fun hb => by
        obtain ⟨b', off', e, _, y0, -, -, -⟩ := cell_at (Kd.C_below HC.out hb (by decide)) 0 (by simp)
        simp only [List.getElem_cons_zero, Nat.zero_mul, Nat.add_zero] at y0
        cases e
        exact y0
      have hl : 0 < (x :: r).length := by simp
      have HT : Sec (headFun (x :: r) = (x.kind == 3)) := ⟨rfl⟩
      rw [HT.out]
      generalize hn : (x :: r).length = n at *
      generalize ht : (x :: r) = t at *
      have HN := Sec.mk hn
      clear hn hC ht
      have i1 : (0 : Int) < (n : Int) := by omega
      go_enter Tryz.func66, Tryz.ntmps66
      go_wp2_with (go_at_call 54; refine (TrmOk_i _ t _ _ HV.out).mono ?_; rw [H1.out]; rintro e w1 ⟨rfl, hb⟩; have x0 := H0 hb; have B1 := Sec.mk hb; clear hb)
      go_ret
      exact ⟨rfl, B1.out⟩
theorem isQuestion_i (v : Value) (t : Term) (ok : Nat → Prop) (w : World) (hV : kCell.V w ok v t) :
    Calls Tryz.prog 51 #[v] w fun e w' => e = .returned (.bool (question t)) ∧ Below w.heap.size w w' := by
  have HV := Sec.mk hV
  have FV : ∀ {w' : World}, Below w.heap.size w w' → kCell.V w' ok v t := fun hb => Kd.V_below HV.out hb (by decide)
  obtain ⟨A, c, rfl, -⟩ := hV
  have hc : question t = ((trmOk t && headFun t) && decide (canon t = t)) := rfl
  rw [hc]
  clear hc
  cases ht : (trmOk t && headFun t) with
  | false =>
    rw [Bool.false_and]
    have H1 := Sec.mk ht
    clear ht
    go_enter Tryz.func51, Tryz.ntmps51
    go_wp2_with (go_at_call 66; refine (called_i _ t _ _ HV.out).mono ?_; rw [H1.out]; rintro e w1 ⟨rfl, hb⟩; have B1 := Sec.mk hb; clear hb)
    go_ret
    exact ⟨rfl, B1.out⟩
  | true =>
    rw [Bool.true_and]
    have H1 := Sec.mk ht
    clear ht
    have hs : decide (t = canon t) = decide (canon t = t) := decide_eq_decide.2 eq_comm
    generalize hq : decide (canon t = t) = q at *
    have HQ := Sec.mk hs
    clear hs hq
    go_enter Tryz.func51, Tryz.ntmps51
    go_wp2_with (first | (go_at_call 66; refine (called_i _ t _ _ HV.out).mono ?_; rw [H1.out]; rintro e w1 ⟨rfl, hb⟩; have B1 := Sec.mk hb; clear hb) | (go_at_call 68; refine (TrmCanon_i _ t _ _ (FV B1.out)).mono ?_; rintro e w3 ⟨u, rfl, hR, hb⟩; have R3 := Sec.mk (Kd.R_V hR); have B3 := Sec.mk (bel B1.out hb); clear hR hb) | (go_at_call 67; refine (TrmSame_i _ _ t (canon t) _ _ _ (FV B3.out) R3.out).mono ?_; rw [HQ.out]; rintro e w4 ⟨rfl, hb⟩; have B4 := Sec.mk (bel B3.out hb); clear hb))
    go_ret
    exact ⟨rfl, B4.out⟩
end
section
open Go.RowKit
set_option linter.unusedVariables false
set_option maxRecDepth 100000
open Classical in
/-- Whether two terms can be made the same. -/
noncomputable def sameU (a b : Term) : Bool := decide (∃ n s1, uniF n [] a b = some (some s1))
theorem sameU_eq {n : Nat} {a b : Term} {r : Option (List Bind)} (h : uniF n [] a b = some r) : r.isSome = sameU a b := by
  unfold sameU
  cases r with
  | some s1 =>
    have h2 : ∃ n s1, uniF n [] a b = some (some s1) := ⟨n, s1, h⟩
    simp [h2]
  | none =>
    have h2 : ¬ ∃ n s1, uniF n [] a b = some (some s1) := by
      rintro ⟨m, s1, h2⟩
      have := uniF_det h h2
      cases this
    simp only [h2]
    rfl
theorem sameU_swap {a b : Term} (ha : trmOk a = true) (hb : trmOk b = true) : sameU a b = sameU b a := by
  obtain ⟨n, r, h1, _⟩ := uni_total BOk.nil ha hb
  obtain ⟨m, r2, h2, _⟩ := uni_total BOk.nil hb ha
  rw [← sameU_eq h1, ← sameU_eq h2]
  exact uni_swap BOk.nil ha hb h1 h2
theorem skip_map {f : Cell → Cell} (hf : ∀ c, arity (f c) = arity c) : ∀ (t : Term) (m : Nat), skip m (t.map f) = (skip m t).map (List.map f)
  | t, 0 => by simp [skip]
  | [], m + 1 => rfl
  | c :: r, m + 1 => by
    rw [List.map_cons, skip, skip, hf]
    exact skip_map hf r _
theorem place_low {l : List Int} {n : Int} (h : n ∈ l) : 0 ≤ place l n ∧ place l n < l.length := by
  have : ∃ k, ∃ h : k < l.length, ¬ n ∈ l.take k ∧ l[k] = n := by
    induction l with
    | nil => simp at h
    | cons x r ih =>
      by_cases hx : x = n
      · exact ⟨0, by simp, by simp, by simpa using hx⟩
      · obtain ⟨k, hk, h1, h2⟩ := ih (by rcases List.mem_cons.1 h with e | e; exact absurd e.symm hx; exact e)
        refine ⟨k + 1, by simpa using hk, ?_, by simpa using h2⟩
        rw [List.take_succ_cons, List.mem_cons]
        rintro (e | e)
        · exact hx e.symm
        · exact h1 e
  obtain ⟨k, hk, h1, h2⟩ := this
  rw [place_at l n k hk h1 h2]
  omega
theorem mem_free' (t : Term) : ∀ (out : List Int) (c : Cell), c ∈ t → c.kind = 1 → c.n ∈ t.foldl freeStep out := by
  have keep : ∀ (t : Term) (out : List Int) (y : Int), y ∈ out → y ∈ t.foldl freeStep out := by
    intro t
    induction t with
    | nil => intro out y h; exact h
    | cons d r ih =>
      intro out y h
      rw [List.foldl_cons]
      refine ih _ y ?_
      unfold freeStep
      split
      · exact List.mem_append_left _ h
      · exact h
  induction t with
  | nil => intro out c h; simp at h
  | cons d r ih =>
    intro out c h hk
    rw [List.foldl_cons]
    rcases List.mem_cons.1 h with rfl | h
    · refine keep r _ _ ?_
      unfold freeStep
      split
      · exact List.mem_append_right _ (by simp)
      · rename_i h2
        exact Classical.byContradiction (fun h3 => h2 ⟨hk, h3⟩)
    · exact ih _ c h hk
/-- A question with its variables on is a term. -/
theorem shift_ok {t : Term} (h : question t = true) {n : Nat} (hn : n ≤ 40) : trmOk (shifted t n) = true := by
  have hq := h
  unfold question at hq
  simp only [Bool.and_eq_true, decide_eq_true_eq] at hq
  obtain ⟨⟨ht, _⟩, hc⟩ := hq
  obtain ⟨h1, h2, h3, h4⟩ := trmOk_iff.1 ht
  have hfree : (free t).length ≤ 40 := Nat.le_trans (free_len t) h2
  have hvar : ∀ c ∈ t, c.kind = 1 → 0 ≤ c.n ∧ c.n < 40 := by
    intro c hct hk
    rw [← hc] at hct
    unfold canon at hct
    obtain ⟨d, hd, rfl⟩ := List.mem_map.1 hct
    unfold canonC at hk ⊢
    split at hk
    · rename_i hkd
      rw [if_pos hkd]
      have h5 := place_low (l := free t) (n := d.n) (by unfold free; exact mem_free' t [] d hd hkd)
      simp only
      omega
    · rename_i hkd
      exact absurd hk hkd
  have har : ∀ c, arity (shiftC n c) = arity c := by
    intro c
    unfold shiftC arity
    split
    · rename_i hk
      simp only
      rw [if_neg (by rw [hk]; decide), if_neg (by rw [hk]; decide)]
    · rfl
  refine trmOk_iff.2 ⟨by unfold shifted; rw [List.length_map]; exact h1, by unfold shifted; rw [List.length_map]; exact h2, ?_, ?_⟩
  · refine List.all_eq_true.2 (fun c hc => ?_)
    obtain ⟨d, hd, rfl⟩ := List.mem_map.1 hc
    have hdk := List.all_eq_true.1 h3 d hd
    unfold shiftC
    split
    · rename_i hk
      have h5 := hvar d hd hk
      have e : wrap64 (d.n + n) = d.n + n := IntWalk.wrap64_in _ (by omega)
      rw [e]
      unfold cellOk at hdk ⊢
      rw [if_pos hk] at hdk
      simp only
      rw [if_pos hk]
      simp only [Bool.and_eq_true] at hdk ⊢
      refine ⟨?_, hdk.2⟩
      unfold inB
      simp
      omega
    · exact hdk
  · unfold Trm at h4 ⊢
    unfold shifted
    rw [skip_map har, h4]
    rfl
/-- Whether an outcome may be one of a question. -/
noncomputable def outOk (top : Term) (st : Int) (t : Term) : Bool :=
  question top && (if st = 2 then trmOk t && decide (canon t = t) && sameU (shifted top t.length) t else inB st 3 5 && decide (t = []))
end
section
open Go.RowKit
set_option linter.unusedVariables false
set_option maxRecDepth 100000
def kTerm : Kd Term := Kd.slice 30 kCell (by decide)
theorem info_term : (Tryz.prog.info? 30).map (fun i => (i.zero, i.size, i.bytes)) = some (some (.slice none 0 0), 1, 24) := by kernel_rfl
theorem sizeOf_app {t : Term} (h : Trm t) (r : Term) : sizeOf_ (t ++ r) = (t.length : Int) := by
  unfold sizeOf_
  rw [h.skip r]
  simp
theorem cV_take {w : World} {ok : Nat → Prop} {A : Option Addr} {c : Nat} {n : Nat} {t r : Term} (h : kCell.V w ok (.slice A n c) (t ++ r)) : kCell.V w ok (.slice A t.length c) t := by
  obtain ⟨A', c', hv, h1, h2, h3, hC, hz⟩ := h
  simp only [Value.slice.injEq] at hv
  obtain ⟨rfl, rfl, rfl⟩ := hv
  rw [List.length_append] at h1 h3
  refine ⟨A, c, rfl, by omega, h2, by omega, ?_, hz⟩
  have := Kd.C_take hC t.length
  rwa [List.take_left] at this
theorem cV_from {w : World} {ok : Nat → Prop} {b off c : Nat} {n : Nat} {t r : Term} (h : kCell.V w ok (.slice (some ⟨b, off, none⟩) n c) (t ++ r)) : kCell.V w ok (.slice (some ⟨b, off + t.length * 3, none⟩) r.length (c - t.length)) r := by
  obtain ⟨A', c', hv, h1, h2, h3, hC, hz⟩ := h
  simp only [Value.slice.injEq] at hv
  obtain ⟨rfl, rfl, rfl⟩ := hv
  rw [List.length_append] at h1 h3
  refine ⟨_, _, rfl, by omega, by omega, by omega, ?_, fun e => by cases e⟩
  have := Kd.C_drop hC t.length
  rwa [List.drop_left] at this
theorem cV_nil (w : World) (ok : Nat → Prop) (b off : Nat) : kCell.V w ok (.slice (some ⟨b, off, none⟩) 0 0) [] := ⟨_, 0, rfl, Nat.le_refl _, by simp [maxLen], by simp, .inl rfl, fun _ => rfl⟩
theorem argOwn {w W : World} {okb : Nat → Prop} (hlt : ∀ k, okb k → k < w.heap.size) {v u : Value} {tk : List Term} {a : Term} (hW : kTerm.W W (fun k => w.heap.size ≤ k) okb v tk) (hV : kCell.V W okb u a) : kCell.V W (fun k => okb k ∧ some k ≠ v.ownBlock) u a := by
  obtain ⟨_, _, _, h3⟩ := Kd.W_own hW
  exact Kd.V_mono hV (fun k hk => ⟨hk, fun e => by have := (h3 k e.symm).1; have := hlt k hk; omega⟩) (by decide)
theorem cV_if {w : World} {ok : Nat → Prop} {p : Prop} [Decidable p] {X Y : Addr} {c : Nat} {q : Term} (h : kCell.V w ok (.slice (some X) q.length c) q) (hp : p → c = 0) : kCell.V w ok (.slice (if p then some Y else some X) q.length c) q := by
  split
  · rename_i e
    obtain ⟨_, _, hv, h1, h2, h3, -, -⟩ := h
    simp only [Value.slice.injEq] at hv
    obtain ⟨-, -, rfl⟩ := hv
    have := hp e
    have h0 : q = [] := List.eq_nil_of_length_eq_zero (by omega)
    subst h0
    exact ⟨_, _, rfl, h1, h2, h3, .inl rfl, fun e => by cases e⟩
  · exact h
set_option maxHeartbeats 2000000 in
theorem args_i (v : Value) (t : Term) (ok : Nat → Prop) (w : World) (hV : kCell.V w ok v t) (ht : trmOk t = true) :
    Calls Tryz.prog 87 #[v] w fun e w' => ∃ u, e = .returned u ∧ kTerm.W w' (fun k => w.heap.size ≤ k) (fun k => ok k ∧ k < w.heap.size) u (args t) ∧ Below w.heap.size w w' := by
  obtain ⟨okb, hokb, hVb⟩ : ∃ okb : Nat → Prop, okb = (fun k => ok k ∧ k < w.heap.size) ∧ kCell.V w okb v t := ⟨_, rfl, Kd.V_move (fun k h1 h2 => ⟨⟨h1, h2⟩, rfl⟩) hV (by decide)⟩
  rw [← hokb]
  have hlt : Sec (∀ k, okb k → k < w.heap.size) := ⟨fun k h => by rw [hokb] at h; exact h.2⟩
  clear hV hokb
  obtain ⟨x, r, rfl⟩ : ∃ c r, t = c :: r := by
    cases t with
    | nil => have := (trmOk_len ht).1; simp at this
    | cons c r => exact ⟨c, r, rfl⟩
  obtain ⟨e1, e2, e3⟩ := (trmOk_Trm ht).eq
  have e4 := trmOk_args ht
  have hlen := (trmOk_len ht).2
  have hok := cellOk_arity (trmOk_cell ht List.mem_cons_self)
  have harr : (if x.kind = 3 then x.n else 0) = (arity x : Int) := by
    unfold arity
    split
    · next h => have := hok.2 h; omega
    · rfl
  have hx3 := hok.1
  generalize args (x :: r) = L at *
  subst e1
  rw [← e2] at harr hx3
  have HA := Sec.mk harr
  have hW := hVb
  obtain ⟨A, cp, rfl, h1, h2, h3, hC, -⟩ := hVb
  obtain ⟨b, off, rfl, -, c0, c1, c2, -⟩ := cell_at hC 0 (by simp)
  simp only [List.getElem_cons_zero, Nat.zero_mul, Nat.add_zero] at c0 c1 c2
  have hL := Sec.mk e2
  have h0 : kCell.V w okb (if cp = 1 then .slice (some ⟨b, off, none⟩) 0 0 else .slice (some ⟨b, off + 3, none⟩) L.flatten.length (cp - 1)) L.flatten := by
    have hf : (x :: L.flatten) = [x] ++ L.flatten := rfl
    rw [hf] at hW
    have := cV_from hW
    split
    · rename_i hc
      have hn : L.flatten = [] := by
        rw [List.length_cons] at h1
        exact List.eq_nil_of_length_eq_zero (by omega)
      rw [hn]; exact cV_nil _ _ _ _
    · exact this
  have Hnum := Sec.mk h0
  have Hall := Sec.mk e3
  have Hok := Sec.mk e4
  have hu := Tryz.underlying77
  have h13 : L.flatten.length ≤ 39 := by rw [List.length_cons] at hlen; omega
  simp only [List.length_cons] at h1 h3 ⊢
  generalize hfl : L.flatten.length = fl at *
  have HFL := Sec.mk hfl
  have i1 : (1 : Int) ≤ ((fl + 1 : Nat) : Int) := by omega
  have i2 : (1 : Int) ≤ (cp : Int) := by omega
  have i3 : ((fl + 1 : Nat) : Int) ≤ (cp : Int) := by omega
  have i4 : (0 : Int) < ((fl + 1 : Nat) : Int) := by omega
  clear hW hC h0 e3 e4 e2 harr hok ht hfl hlen
  go_enter Tryz.func87, Tryz.ntmps87
  go_wp2_with (go_at_call 90; refine (arity_i x _).mono ?_; rw [HA.out]; rintro e w1 ⟨rfl, hb⟩; have B1 := Sec.mk hb; clear hb)
  all_goals
    go_loopw [3, 4, 12] (fun ov rv iv wr => ∃ (k : Nat) (A1 : Option Addr) (c1 : Nat), k ≤ L.length ∧ iv = .int .i64 k ∧ rv = .slice A1 (L.drop k).flatten.length c1 ∧ Sec (kCell.V wr okb (.slice A1 (L.drop k).flatten.length c1) (L.drop k).flatten) ∧ Sec (kTerm.W wr (fun k => w.heap.size ≤ k) okb ov (L.take k)) ∧ Sec (Below w.heap.size w wr)) (fun _ _ iv _ => 3 - (intOf iv).toNat)
    case atStart =>
      refine ⟨0, _, _, Nat.zero_le _, rfl, by rw [List.drop_zero, HFL.out], ⟨?_⟩, ⟨Kd.W_nil _ _ _ _⟩, B1⟩
      rw [List.drop_zero, HFL.out]
      have := Kd.V_below Hnum.out B1.out (by decide)
      first | (rw [if_neg (by omega)] at this; exact this) | (have hc : cp = 1 := (by omega); have hf : fl = 0 := (by omega); rw [if_pos hc] at this; rw [hf]; exact this)
    case round =>
      obtain ⟨k, A1, cq, hk, rfl, rfl, hV, hW, hB⟩ := hrel
      by_cases hlk : k < L.length
      · have hd := List.drop_eq_getElem_cons hlk
        have ht1 := List.take_succ_eq_append_getElem hlk
        have ha1 := Hall.out _ (List.getElem_mem hlk)
        have ha2 := Hok.out _ (List.getElem_mem hlk)
        have hfl : (L.drop k).flatten = L[k] ++ (L.drop (k + 1)).flatten := by rw [hd, List.flatten_cons]
        have hal : ((L.drop k).flatten).all cellOk = true := List.all_eq_true.2 (fun c hc => by
          obtain ⟨q, hq, hcq⟩ := List.mem_flatten.1 hc
          exact trmOk_cell (Hok.out q (List.mem_of_mem_drop hq)) hcq)
        rw [hfl] at hV hal
        obtain ⟨tk, htk⟩ : ∃ tk, L.take k = tk := ⟨_, rfl⟩
        rw [htk] at hW ht1
        have HT1 := Sec.mk ht1
        generalize L[k] = a at *
        generalize hq : (L.drop (k + 1)).flatten = q at *
        have HQ := Sec.mk hq
        rw [hfl]
        obtain ⟨A2, c2, hv2, g1, g2, g3, gC, gz⟩ := hV.out
        simp only [Value.slice.injEq] at hv2
        obtain ⟨rfl, -, rfl⟩ := hv2
        obtain ⟨b2, off2, rfl⟩ := Kd.C_addr gC (by have := List.length_pos_iff.2 ha1.ne; rw [List.length_append]; omega)
        have s1 := sizeOf_app ha1 q
        have hlen := trmOk_len ha2
        have HVa := Sec.mk (cV_take hV.out)
        have HVq := Sec.mk (cV_from hV.out)
        have HAL := Sec.mk hal
        rw [List.length_append] at g1 g3
        have j1 : (0 : Int) ≤ (a.length : Int) := by omega
        have j2 : (a.length : Int) ≤ (cq : Int) := by omega
        have j3 : (a.length : Int) ≤ ((a ++ q).length : Int) := by rw [List.length_append]; omega
        obtain ⟨A3, c3, rfl, -, -, -⟩ := Kd.W_form hW.out
        have HS1 := Sec.mk s1
        have HQL : Sec ((a ++ q).length = a.length + q.length) := ⟨List.length_append⟩
        clear hd ht1 ha1 ha2 hfl hal hq gC gz s1
        have HV2 : Sec (kCell.V wr okb (.slice (some ⟨b2, off2, none⟩) (a.length + q.length) cq) (a ++ q)) := ⟨by have := hV.out; rwa [List.length_append] at this⟩
        have htl : tk.length ≤ 3 := by rw [← htk, List.length_take]; omega
        clear htk
        go_wp2_with (first | (at_builtin; refine Kd.W_app kTerm rfl (.tmp 16) (.tmp 20) 99 (.slice none 0 0) 24 rfl Tryz.underlying99 info_term rfl (by decide) (by decide) _ tk a [.slice (some ⟨b2, off2, none⟩) a.length cq] (fun k => w.heap.size ≤ k) okb rfl rfl rfl HW2.out ⟨_, rfl, HP.out⟩ (by omega) ?_; intro v1 w3 hW3 hg3) | (go_at_call 74; refine (size_i _ (a ++ q) okb wr HV2.out HAL.out).mono ?_; rw [HS1.out]; rintro e w2 ⟨rfl, hb⟩; have B2 := Sec.mk hb; have HW2 := Sec.mk (Kd.W_move (Keeps.below hb _) (Keeps.below hb _) hW.out); have HP := Sec.mk (argOwn hlt.out HW2.out (Kd.V_below HVa.out hb (by decide))); clear hb))
        all_goals
          go_roundw
          case rel =>
            have hk3 := hg3.size
            have hB3 : Below w.heap.size w w3 := (bel hB.out B2.out).grown hg3 (bel hB.out B2.out).size (fun j e => by obtain ⟨_, _, _, h3⟩ := Kd.W_own HW2.out; exact (h3 j e).1)
            refine ⟨k + 1, _, _, by omega, by go_num, by rw [HQ.out], ⟨?_⟩, ⟨by rw [HT1.out]; exact Kd.W_move (Keeps.mono fun j hj _ => hj.elim id (fun h => Nat.le_trans (bel hB.out B2.out).size h)) (Keeps.mono fun j hj _ => hj) hW3⟩, ⟨hB3⟩⟩
            rw [HQ.out]
            exact cV_if (Kd.V_move (fun j h1 h2 => ⟨h1, (hB3.block j (hlt.out j h1)).trans (hB.out.block j (hlt.out j h1)).symm⟩) HVq.out (by decide)) (fun e => by omega)
          case measure => simp [intOf]; omega
      · go_wp2
        go_ret
        rw [List.take_of_length_le (by omega)] at hW
        exact ⟨_, rfl, hW.out, hB.out⟩
end
section
open Go.RowKit
set_option linter.unusedVariables false
set_option maxRecDepth 100000
theorem kCell_K {w : World} {ok : Nat → Prop} {x : Cell} {cs : List Value} (h : kCell.K w ok x cs) : cs = [.int .i64 x.kind, .int .i64 x.n, .string x.name] ∧ x.name.size ≤ 1073741824 := kCell_open h
theorem kCell_f_kind : Kd.Fld kCell (Kd.int 3) 0 (fun x => x.kind) (fun x y => { x with kind := y }) := Kd.Fld.iso _ (Kd.Fld.fst (Kd.Fld.self _)) (fun _ _ => rfl)
theorem kCell_f_n : Kd.Fld kCell (Kd.int 3) 1 (fun x => x.n) (fun x y => { x with n := y }) := Kd.Fld.iso _ (Kd.Fld.snd (Kd.Fld.fst (Kd.Fld.self _))) (fun _ _ => rfl)
theorem kCell_f_name : Kd.Fld kCell (Kd.str 9) 2 (fun x => x.name) (fun x y => { x with name := y }) := Kd.Fld.iso _ (Kd.Fld.snd (Kd.Fld.snd (Kd.Fld.self _))) (fun _ _ => rfl)
def mCell : Mk Cell := ⟨fun x => 1 + 1 + 1, fun x k => ⟨k, k + 1, mt (k + 1 + 1)⟩⟩
theorem mCell_cnt (x : Cell) : mCell.cnt x = 1 + 1 + 1 := rfl
set_option maxHeartbeats 2000000 in
theorem markSCell_c (v : Value) (t : List Cell) (S : Nat → Prop) (k : Int) (hk : 0 ≤ k) (hk2 : k + mCell.cnts t ≤ 1000000000000000000) (w : World) (hR : kCell.R w S v t) :
    Calls Tryz.prog 33 #[v, .int .i64 k] w fun e w' => e = .returned (.int .i64 (k + mCell.cnts t)) ∧ kCell.R w' S v (mCell.mks t k) ∧ Foot S w w' := by
  obtain ⟨A, cp, hv, g1, g2⟩ := Kd.R_form hR
  subst hv
  have h3 : t.length ≤ 1073741824 := hR.1
  have HR := Sec.mk hR
  have hu := Tryz.underlying77
  clear hR
  have HN := Sec.mk (mCell.cnts_take t)
  have HM := Sec.mk (mCell.cnts_le t)
  have HX := Sec.mk (mCell.next t k)
  go_enter Tryz.func33, Tryz.ntmps33
  go_wp2
  go_loopw [1, 5] (fun kv iv wr => ∃ i : Nat, i ≤ t.length ∧ iv = .int .i64 i ∧ kv = .int .i64 (k + ↑(mCell.cnts (t.take i))) ∧ Sec (kCell.R wr S (.slice A t.length cp) (mCell.mks (t.take i) k ++ t.drop i)) ∧ Sec (Foot S w wr)) (fun _ iv _ => t.length - (intOf iv).toNat)
  case atStart => exact ⟨0, Nat.zero_le _, rfl, by simp [Mk.cnts], ⟨by simpa [Mk.mks] using HR.out⟩, ⟨Foot.refl _ _⟩⟩
  case round =>
    obtain ⟨i, hi, rfl, rfl, hM, hF⟩ := hrel
    by_cases hlt : i < t.length
    · have hL : (mCell.mks (t.take i) k ++ t.drop i).length = t.length := mCell.len_ t k i
      have hil : i < (mCell.mks (t.take i) k ++ t.drop i).length := by omega
      obtain ⟨b, rfl, -, hSb, hbb, -⟩ := Kd.R_block hM.out (by omega)
      obtain ⟨cs, hA, -⟩ := Kd.At.of_R hM.out hil
      rw [mCell.at_ t k i hlt] at hA
      have hnext := Sec.mk (HX.out i hlt)
      have hn1 := HN.out i hlt
      have hn2 := HM.out (i + 1)
      rw [hn1] at hn2
      have HN1 := Sec.mk hn1
      have F0 := hF
      clear hM hn1 hL
      generalize mCell.mks (t.take i) k ++ t.drop i = L at *
      generalize t[i] = x at *
      generalize mCell.cnts (t.take i) = c at *
      have hcx : Sec (mCell.cnt x = _) := ⟨mCell_cnt x⟩
      rw [mCell_cnt x] at hn2
      have hAt := hA
      obtain ⟨rfl, -⟩ := kCell_K hA.K
      have A0 := Sec.mk hA
      clear hA hAt
      have c0_0 : wr.cell? ⟨b, i * 3, none⟩ = some (.int .i64 x.kind) := Kd.At.cell A0.out 0 _ rfl
      have c0_1 : wr.cell? ⟨b, i * 3 + 1, none⟩ = some (.int .i64 x.n) := Kd.At.cell A0.out 1 _ rfl
      have c0_2 : wr.cell? ⟨b, i * 3 + 2, none⟩ = some (.string x.name) := Kd.At.cell A0.out 2 _ rfl
      have f0_0 : wr.frozen? ⟨b, i * 3, none⟩ = false := Kd.At.frozen A0.out (i * 3)
      have f0_1 : wr.frozen? ⟨b, i * 3 + 1, none⟩ = false := Kd.At.frozen A0.out (i * 3 + 1)
      have f0_2 : wr.frozen? ⟨b, i * 3 + 2, none⟩ = false := Kd.At.frozen A0.out (i * 3 + 2)
      have A1 : Sec (Kd.At kCell (wr.setCell ⟨b, i * 3, none⟩ (.int .i64 (k + (c : Int)))) S b t.length cp L i ⟨k + (c : Int), x.n, x.name⟩ [.int .i64 (k + (c : Int)), .int .i64 x.n, .string x.name]) := ⟨Kd.At.store (e := (Kd.int 3)) A0.out kCell_f_kind rfl (k + (c : Int)) (.int .i64 (k + (c : Int))) (fun _ _ => ⟨rfl, trivial⟩)⟩
      have F1 : Sec (Foot S w (wr.setCell ⟨b, i * 3, none⟩ (.int .i64 (k + (c : Int))))) := ⟨F0.out.set (g := b) (.inl hSb) (i * 3) (.int .i64 (k + (c : Int)))⟩
      have A2 : Sec (Kd.At kCell ((wr.setCell ⟨b, i * 3, none⟩ (.int .i64 (k + (c : Int)))).setCell ⟨b, i * 3 + 1, none⟩ (.int .i64 (k + (c : Int) + 1))) S b t.length cp L i ⟨k + (c : Int), k + (c : Int) + 1, x.name⟩ [.int .i64 (k + (c : Int)), .int .i64 (k + (c : Int) + 1), .string x.name]) := ⟨Kd.At.store (e := (Kd.int 3)) A1.out kCell_f_n rfl (k + (c : Int) + 1) (.int .i64 (k + (c : Int) + 1)) (fun _ _ => ⟨rfl, trivial⟩)⟩
      have F2 : Sec (Foot S w ((wr.setCell ⟨b, i * 3, none⟩ (.int .i64 (k + (c : Int)))).setCell ⟨b, i * 3 + 1, none⟩ (.int .i64 (k + (c : Int) + 1)))) := ⟨F1.out.set (g := b) (.inl hSb) (i * 3 + 1) (.int .i64 (k + (c : Int) + 1))⟩
      have T0 : Sec True := ⟨trivial⟩
      go_wp2_with (first | (clear T0; go_at_call 56; have T1 : Sec True := ⟨trivial⟩; refine (markText_c (k + (c : Int) + 1 + 1) (by omega) _).mono ?_; rintro e w1 ⟨rfl, hz, hb'⟩; have A3 : Sec (Kd.At kCell w1 S b t.length cp L i ⟨k + (c : Int), k + (c : Int) + 1, x.name⟩ [.int .i64 (k + (c : Int)), .int .i64 (k + (c : Int) + 1), .string x.name]) := ⟨Kd.At.below A2.out hb'⟩; have F3 : Sec (Foot S w w1) := ⟨F2.out.trans (Foot.of_below (S := S) hb') (fun _ _ h => h)⟩; clear hb'; clear c0_0 f0_0 c0_1 f0_1 c0_2 f0_2; have c1_0 : w1.cell? ⟨b, i * 3, none⟩ = some (.int .i64 (k + (c : Int))) := Kd.At.cell A3.out 0 _ rfl; have c1_1 : w1.cell? ⟨b, i * 3 + 1, none⟩ = some (.int .i64 (k + (c : Int) + 1)) := Kd.At.cell A3.out 1 _ rfl; have c1_2 : w1.cell? ⟨b, i * 3 + 2, none⟩ = some (.string x.name) := Kd.At.cell A3.out 2 _ rfl; have f1_0 : w1.frozen? ⟨b, i * 3, none⟩ = false := Kd.At.frozen A3.out (i * 3); have f1_1 : w1.frozen? ⟨b, i * 3 + 1, none⟩ = false := Kd.At.frozen A3.out (i * 3 + 1); have f1_2 : w1.frozen? ⟨b, i * 3 + 2, none⟩ = false := Kd.At.frozen A3.out (i * 3 + 2); have A4 : Sec (Kd.At kCell (w1.setCell ⟨b, i * 3 + 2, none⟩ (.string (mt (k + (c : Int) + 1 + 1)))) S b t.length cp L i ⟨k + (c : Int), k + (c : Int) + 1, (mt (k + (c : Int) + 1 + 1))⟩ [.int .i64 (k + (c : Int)), .int .i64 (k + (c : Int) + 1), .string (mt (k + (c : Int) + 1 + 1))]) := ⟨Kd.At.store (e := (Kd.str 9)) A3.out kCell_f_name rfl (mt (k + (c : Int) + 1 + 1)) (.string (mt (k + (c : Int) + 1 + 1))) (fun _ _ => ⟨rfl, hz⟩)⟩; have F4 : Sec (Foot S w (w1.setCell ⟨b, i * 3 + 2, none⟩ (.string (mt (k + (c : Int) + 1 + 1))))) := ⟨F3.out.set (g := b) (.inl hSb) (i * 3 + 2) (.string (mt (k + (c : Int) + 1 + 1)))⟩; clear hz))
      go_roundw
      case rel => exact ⟨i + 1, by omega, by go_num, by rw [HN1.out, hcx.out]; congr 1; omega, ⟨by rw [← hnext.out]; exact A4.out.R⟩, F4⟩
      case measure => simp [intOf]; omega
    · have hfin : Sec (mCell.mks (t.take i) k ++ t.drop i = mCell.mks t k) := ⟨by rw [List.take_of_length_le (by omega), List.drop_of_length_le (by omega), List.append_nil]⟩
      have hM2 := hM.out
      rw [hfin.out] at hM2
      have HM2 := Sec.mk hM2
      have hi2 : Sec (k + ↑(mCell.cnts (t.take i)) = k + ↑(mCell.cnts t)) := ⟨by rw [List.take_of_length_le (by omega)]⟩
      clear hM2 hM hfin
      go_wp2
      go_ret
      exact ⟨ri hi2.out, HM2.out, hF.out⟩
theorem rCell_le6 (x : Cell) : mCell.cnt x ≤ 8 + 8 * rCell.wt x := by rw [mCell_cnt]; omega
end
section
open Go.RowKit
set_option linter.unusedVariables false
set_option maxRecDepth 100000
def kBind : Kd Bind := Kd.iso 110 (Kd.pair (Kd.int 3) (Kd.slice 30 kCell (by decide))) (fun x => (x.v, x.term))
theorem kBind_K {w : World} {ok : Nat → Prop} {x : Bind} {cs : List Value} (h : kBind.K w ok x cs) : ∃ v1, cs = [.int .i64 x.v, v1] ∧ kCell.V w ok v1 x.term := by
  obtain ⟨_, _, rfl, ⟨rfl, _⟩, ⟨v1, rfl, h1⟩⟩ := h
  exact ⟨v1, rfl, h1⟩
theorem Bind.ext_iff (a b : Bind) : a = b ↔ a.v = b.v ∧ a.term = b.term := by
  cases a; cases b; simp
instance : DecidableEq Bind := fun a b => decidable_of_iff _ (Bind.ext_iff a b).symm
def zeroBind : Bind := ⟨0, []⟩
def mBind : Mk Bind := ⟨fun x => 1 + mCell.cnts x.term, fun x k => ⟨k, mCell.mks x.term (k + 1)⟩⟩
def mBindt : Mk Bind := ⟨fun x => mCell.cnts x.term, fun x k => ⟨x.v, mCell.mks x.term (k)⟩⟩
end
section
open Go.RowKit Go.Shelf
set_option linter.unusedVariables false
set_option maxRecDepth 100000
attribute [local go_sem] Oper.semAt_some
theorem cnew (W : World) (v : Value) (t : TypeId) : (W.alloc (.cells #[v] t)).cell? ⟨W.heap.size, 0, none⟩ = some v ∧ (W.alloc (.cells #[v] t)).frozen? ⟨W.heap.size, 0, none⟩ = false := by
  have h := heap_alloc_new W (.cells #[v] t)
  exact ⟨by rw [cell_of_row _ _ _ _ _ _ h]; rfl, by unfold World.frozen?; simp only [h]; rfl⟩
theorem calloc {W : World} {a : Addr} {v : Value} (o : Obj) (h : W.cell? a = some v) : (W.alloc o).cell? a = some v := cell_kept h (World.grownBy_alloc W o none) (fun r e => by cases e)
theorem falloc {W : World} {a : Addr} {v : Value} (o : Obj) (h : W.cell? a = some v) (hf : W.frozen? a = false) : (W.alloc o).frozen? a = false := (frozen_kept h (World.grownBy_alloc W o none) (fun r e => by cases e)).trans hf
/-- The numbers below n from m on, the greatest first. -/
def dn (n m : Nat) : List Nat := (List.range (n - m)).map (fun j => n - 1 - j)
theorem dn_len (n m : Nat) : (dn n m).length = n - m := by simp [dn]
theorem dn_succ {n m : Nat} (h : m < n) : dn n (m + 1) ++ [m] = dn n m := by
  unfold dn
  rw [show n - m = (n - (m + 1)) + 1 by omega, List.range_succ, List.map_append, List.map_singleton, show n - 1 - (n - (m + 1)) = m by omega]
theorem mem_dn {n m j : Nat} : j ∈ dn n m ↔ m ≤ j ∧ j < n := by
  unfold dn
  rw [List.mem_map]
  constructor
  · rintro ⟨i, hi, rfl⟩
    have := List.mem_range.1 hi
    omega
  · rintro ⟨h1, h2⟩
    exact ⟨n - 1 - j, List.mem_range.2 (by omega), by omega⟩
/-- A row of bindings as it lies: numbers, and slices. -/
structure BRow where
  v : Nat → Int
  a : Nat → Option Addr
  n : Nat → Nat
  c : Nat → Nat
def BRow.enc (r : BRow) (i : Nat) : Array Value := #[.int .i64 (i : Int), .agg #[.int .i64 (r.v i), .slice (r.a i) (r.n i) (r.c i)]]
def BRow.At (r : BRow) (W : World) (b off len : Nat) : Prop := ∀ j, j < len → W.cell? ⟨b, off + j * 2, none⟩ = some (.int .i64 (r.v j)) ∧ W.cell? ⟨b, off + j * 2 + 1, none⟩ = some (.slice (r.a j) (r.n j) (r.c j))
set_option maxHeartbeats 1000000 in
theorem back1_in (F : Fence) (n : Nat) (hF : F.fn 106) (hro : F.round = none) (hn : 1 ≤ n) (l Bs n₀ b off len cap : Nat) (r : BRow) (hl : len ≤ 1073741824) (hb : b < n₀) (J Jx : List Nat → World → Prop)
    (hY : ∀ pre x W, J pre W → pre.length < len → YieldAt F (n - 1) Tryz.prog l (r.enc x) W fun e W' =>
      (e = .returned (.bool true) ∧ J (pre ++ [x]) W' ∧ Below n₀ W W') ∨ (e = .returned (.bool false) ∧ Jx (pre ++ [x]) W'))
    (W : World) (hBs : W.cell? ⟨Bs, 0, none⟩ = some (.slice (some ⟨b, off, none⟩) len cap)) (hBn : Bs < n₀) (hc : r.At W b off len) (h0 : J [] W) :
    CallsIn F n Tryz.prog 106 #[.func (.yield l) #[] #[], .pointer (some ⟨Bs, 0, none⟩)] W fun e W' => (∃ v, e = .returned v) ∧
      ((∃ ys, ys = dn len 0 ∧ J ys W') ∨ (∃ pre, (∃ k, k < len ∧ pre = dn len k) ∧ Jx pre W')) := by
  have hu := Tryz.underlying110
  have hsz : Sec (∀ k, (dn len k).length = len - k) := ⟨dn_len len⟩
  have i0 : (0 : Int) ≤ (len : Int) := by omega
  have hR := Sec.mk hc
  have hYS := Sec.mk hY
  clear hc hY
  refine callsIn_of_wp Tryz.func106 rfl hF ?_ hro
  simp only [Tryz.ntmps106, List.size_toArray, List.length_cons, List.length_nil, Nat.reduceAdd, Nat.reduceSub, Array.replicate_succ, Array.replicate_zero, List.push_toArray, List.append_toArray, List.nil_append, List.cons_append]
  gi_wp2
  gi_loopw [3] (fun i wr => ∃ (m : Nat) (i0 : Int), m ≤ len ∧ i = .int .i64 i0 ∧ i0 = (m : Int) - 1 ∧ J (dn len m) wr ∧ Below n₀ W wr)
    (fun i _ => (intOf i + 1).toNat)
  case atStart => exact ⟨len, _, Nat.le_refl _, rfl, rfl, by simpa [dn] using h0, Below.refl _ _⟩
  case round =>
    obtain ⟨m, i0, hm, rfl, hi, hJs, hnx⟩ := hrel
    cases m with
    | zero =>
      have hn0 : i0 < 0 := by omega
      have hn1 : -1 ≤ i0 := by omega
      have hn2 : decide (i0 ≥ 0) = false := decide_eq_false (by omega)
      clear hi
      gi_wp2
      go_end0
      exact ⟨⟨_, rfl⟩, .inl ⟨_, rfl, hJs⟩⟩
    | succ m =>
      obtain rfl : i0 = (m : Int) := by omega
      obtain ⟨c0, c1⟩ := hR.out m (by omega)
      have d0 := (hnx.cell (p := ⟨b, off + m * 2, none⟩) hb).trans c0
      have d1 := (hnx.cell (p := ⟨b, off + m * 2 + 1, none⟩) hb).trans c1
      have hBs' := (hnx.cell (p := ⟨Bs, 0, none⟩) hBn).trans hBs
      obtain ⟨fn, tmps, assign, body, hy, hRd⟩ := hYS.out _ m wr hJs (by rw [dn_len]; omega)
      simp only [BRow.enc] at hy
      have j0 : (0 : Int) ≤ (m : Int) := by omega
      have j1 : (m : Int) < (len : Int) := by omega
      have hd := Sec.mk (dn_succ (n := len) (m := m) (by omega))
      clear hBs c0 c1 hi
      gi_wp2
      refine hRd.mono ?_
      rintro e W3 (⟨rfl, hJ3, hk3⟩ | ⟨rfl, hJx3⟩)
      · gi_wp2
        go_roundw
        case rel => exact ⟨m, _, by omega, rfl, by omega, by rw [← hd.out]; exact hJ3, hnx.trans hk3⟩
        case measure => simp [intOf]
      · gi_wp2
        refine bodyPost_ret (results_none rfl _ _ _) rfl ?_
        exact ⟨⟨_, rfl⟩, .inr ⟨_, ⟨m, by omega, hd.out⟩, hJx3⟩⟩
theorem back1_nil_in (F : Fence) (n : Nat) (hF : F.fn 106) (hro : F.round = none) (l Bs : Nat) (A : Option Addr) (c : Nat) (J : List Nat → World → Prop) (W : World) (hBs : W.cell? ⟨Bs, 0, none⟩ = some (.slice A 0 c)) (h0 : J [] W) :
    CallsIn F n Tryz.prog 106 #[.func (.yield l) #[] #[], .pointer (some ⟨Bs, 0, none⟩)] W fun e W' => (∃ v, e = .returned v) ∧ J [] W' := by
  refine callsIn_of_wp Tryz.func106 rfl hF ?_ hro
  simp only [Tryz.ntmps106, List.size_toArray, List.length_cons, List.length_nil, Nat.reduceAdd, Nat.reduceSub, Array.replicate_succ, Array.replicate_zero, List.push_toArray, List.append_toArray, List.nil_append, List.cons_append]
  gi_wp2
  gi_loopw [3] (fun i wr => (∃ i0 : Int, i = .int .i64 i0 ∧ i0 = -1) ∧ J [] wr) (fun _ _ => 0)
  case atStart => exact ⟨⟨_, rfl, rfl⟩, h0⟩
  case round =>
    obtain ⟨⟨i0, rfl, hi⟩, hJs⟩ := hrel
    have hn0 : i0 < 0 := by omega
    have hn1 : -1 ≤ i0 := by omega
    have hn2 : decide (i0 ≥ 0) = false := decide_eq_false (by omega)
    clear hi
    gi_wp2
    go_end0
    exact ⟨⟨_, rfl⟩, hJs⟩
theorem back_in (F : Fence) (n : Nat) (hF : F.fn 98) (hro : F.round = none) (a : Option Addr) (len cap : Nat) (w : World) :
    CallsIn F n Tryz.prog 98 #[.slice a len cap] w fun e w' => e = .returned (.func (.func 106) #[] #[.pointer (some ⟨w.heap.size, 0, none⟩)]) ∧ w' = w.alloc (.cells #[.slice a len cap] 90) := by
  refine callsIn_of_wp Tryz.func98 rfl hF ?_ hro
  simp only [Tryz.ntmps98, List.size_toArray, List.length_cons, List.length_nil, Nat.reduceAdd, Nat.reduceSub, Array.replicate_succ, Array.replicate_zero, List.push_toArray, List.append_toArray, List.nil_append, List.cons_append]
  gi_wp2
  go_ret
  exact ⟨rfl, rfl⟩
theorem back_stops (F : Fence) (n : Nat) (hF : F.fn 106) (hro : F.round = none) (hn : 1 ≤ n) (Bs n₀ : Nat) (A : Option Addr) (len cap : Nat) (r : BRow) (hl : len ≤ 1073741824) (w : World) (hBs : Bs < n₀) (hn₀ : n₀ ≤ w.heap.size)
    (hc : w.cell? ⟨Bs, 0, none⟩ = some (.slice A len cap)) (hI : len = 0 ∨ ∃ b off, A = some ⟨b, off, none⟩ ∧ b < n₀ ∧ r.At w b off len) :
    SeqStopsK F n Tryz.prog 106 #[.pointer (some ⟨Bs, 0, none⟩)] r.enc (Below n₀) (fun ys => ys = dn len 0)
      (fun pre => ∃ k, k < len ∧ pre = dn len k) len w := fun l J Jx W hW _ _ hY h0 => by
  have hW' := hW.mono hn₀
  have hc' := (hW'.cell (p := ⟨Bs, 0, none⟩) hBs).trans hc
  rcases hI with rfl | ⟨b, off, rfl, hb, hat⟩
  · exact (back1_nil_in F n hF hro l Bs A cap J W hc' h0).mono fun e W' ⟨he, hj⟩ => ⟨he, .inl ⟨[], rfl, hj⟩⟩
  · exact back1_in F n hF hro hn l Bs n₀ b off len cap r hl hb J Jx hY W hc' hBs (fun j hj => ⟨(hW'.cell (p := ⟨b, _, none⟩) hb).trans (hat j hj).1, (hW'.cell (p := ⟨b, _, none⟩) hb).trans (hat j hj).2⟩) h0
set_option maxHeartbeats 2000000 in
theorem get_in (F : Fence) (n : Nat) (h1f : F.fn 95) (h2f : F.fn 98) (h3f : F.fn 106) (hro : F.round = none) (hn : 3 ≤ n) (r : BRow) (A : Option Addr) (len cap : Nat) (v : Int) (hl : len ≤ 1073741824) (w : World)
    (hI : len = 0 ∨ ∃ b off, A = some ⟨b, off, none⟩ ∧ b < w.heap.size ∧ r.At w b off len) :
    CallsIn F n Tryz.prog 95 #[.slice A len cap, .int .i64 v] w fun e W' =>
      ((e = .returned (.slice none 0 0) ∧ ∀ j, j < len → r.v j ≠ v) ∨ (∃ k, k < len ∧ e = .returned (.slice (r.a k) (r.n k) (r.c k)) ∧ r.v k = v)) ∧ Below w.heap.size w W' := by
  have h1 : 1 ≤ n := by omega
  have hu := Tryz.underlying110
  have HI := Sec.mk hI
  clear hI
  refine callsIn_of_wp_marks Tryz.func95 rfl h1f ?_ hro
  simp only [Tryz.ntmps95, List.size_toArray, List.length_cons, List.length_nil, Nat.reduceAdd, Nat.reduceSub, Array.replicate_succ, Array.replicate_zero, List.push_toArray, List.append_toArray, List.nil_append, List.cons_append]
  gi_wp2_with (gi_at_call 98; refine (back_in F (n - 1) h2f hro _ _ _ _).mono ?_; rintro e w' ⟨rfl, rfl⟩)
  have c0 := cnew w (.int .i64 v) 3
  have c1 := cnew (w.alloc (.cells #[.int .i64 v] 3)) (.slice none 0 0) 30
  have c2 := cnew ((w.alloc (.cells #[.int .i64 v] 3)).alloc (.cells #[.slice none 0 0] 30)) (.slice A len cap) 90
  simp only [World.size_alloc] at c1 c2
  have hB0 : Below w.heap.size w (((w.alloc (.cells #[.int .i64 v] 3)).alloc (.cells #[.slice none 0 0] 30)).alloc (.cells #[.slice A len cap] 90)) := (((Below.refl _ w).alloc (Nat.le_refl _) _).alloc (by simp) _).alloc (by simp; omega) _
  have k0 := calloc (.cells #[.slice A len cap] 90) (calloc (.cells #[.slice none 0 0] 30) c0.1)
  have k1 := calloc (.cells #[.slice A len cap] 90) c1.1
  have k2 := falloc (.cells #[.slice A len cap] 90) c1.1 c1.2
  have k3 := c2.1
  have hsz : (((w.alloc (.cells #[.int .i64 v] 3)).alloc (.cells #[.slice none 0 0] 30)).alloc (.cells #[.slice A len cap] 90)).heap.size = w.heap.size + 3 := by simp
  obtain ⟨W0, hW0⟩ : ∃ W0, ((w.alloc (.cells #[.int .i64 v] 3)).alloc (.cells #[.slice none 0 0] 30)).alloc (.cells #[.slice A len cap] 90) = W0 := ⟨_, rfl⟩
  rw [hW0] at hB0 k0 k1 k2 k3 hsz ⊢
  clear c0 c1 c2 hW0
  have HI2 : Sec (len = 0 ∨ ∃ b off, A = some ⟨b, off, none⟩ ∧ b < W0.heap.size ∧ r.At W0 b off len) := ⟨HI.out.imp id (fun ⟨b, off, e, hb, hat⟩ => ⟨b, off, e, by omega, fun j hj => ⟨(hB0.cell (p := ⟨b, _, none⟩) hb).trans (hat j hj).1, (hB0.cell (p := ⟨b, _, none⟩) hb).trans (hat j hj).2⟩⟩)⟩
  refine wpIn_rangeFunc_ownH hro h1 (gf := 106) (lb := #[.pointer (some ⟨w.heap.size + 1 + 1, 0, none⟩)]) rfl h3f (enters_of Tryz.func106 (by kernel_rfl) rfl)
    (back_stops F (n - 1) h3f hro (by omega) (w.heap.size + 1 + 1) W0.heap.size A len cap r hl W0 (by omega) (Nat.le_refl _) k3 HI2.out) belowK_t (belowK_b (Nat.le_refl _)) (Below.refl _ _) (fun _ => rfl)
    (fun pre W => ((∀ j ∈ pre, r.v j ≠ v) ∧ W.cell? ⟨w.heap.size, 0, none⟩ = some (.int .i64 v) ∧ W.cell? ⟨w.heap.size + 1, 0, none⟩ = some (.slice none 0 0) ∧ W.frozen? ⟨w.heap.size + 1, 0, none⟩ = false ∧ W0.heap.size ≤ W.heap.size) ∧ Below w.heap.size w W)
    (fun c pre W => (c = .ret ∧ ∃ ini last, pre = ini ++ [last] ∧ r.v last = v ∧ W.cell? ⟨w.heap.size + 1, 0, none⟩ = some (.slice (r.a last) (r.n last) (r.c last))) ∧ Below w.heap.size w W)
    (OwnFrom.and (Own.from (fun s A B row hs hg hr => ⟨hs.1, cell_kept hs.2.1 hg hr, cell_kept hs.2.2.1 hg hr, (frozen_kept hs.2.2.1 hg hr).trans hs.2.2.2.1, Nat.le_trans hs.2.2.2.2 hg.size⟩) _) (ownFrom_below (Nat.le_refl _) (by omega)))
    (fun c => OwnFrom.and (Own.from (fun s A B row hs hg hr => by obtain ⟨hc, ini, last, e1, e2, e3⟩ := hs; exact ⟨hc, ini, last, e1, e2, cell_kept e3 hg hr⟩) _) (ownFrom_below (Nat.le_refl _) (by omega)))
    ⟨⟨by simp, k0, k1, k2, Nat.le_refl _⟩, hB0⟩
    (fun x a' W => ∃ Bx, w.heap.size + 2 < Bx ∧ W.cell? ⟨Bx, 0, none⟩ = some (.int .i64 (r.v x)) ∧ W.cell? ⟨Bx, 1, none⟩ = some (.slice (r.a x) (r.n x) (r.c x)) ∧ a' = { tmps := #[.slice A len cap, .int .i64 v, undef, .pointer (some ⟨w.heap.size, 0, none⟩), .pointer (some ⟨w.heap.size + 1, 0, none⟩), undef, .pointer (some ⟨Bx, 0, none⟩), .slice A len cap, .func (.func 106) #[] #[.pointer (some ⟨w.heap.size + 1 + 1, 0, none⟩)], .int .i64 (x : Int), .agg #[.int .i64 (r.v x), .slice (r.a x) (r.n x) (r.c x)], undef, undef, undef, undef, undef, undef], defers := [] })
    (fun x a' => Own.from (fun _ X Y row hs hg hr => by obtain ⟨Bx, h1, h2, h3, h4⟩ := hs; exact ⟨Bx, h1, cell_kept h2 hg hr, cell_kept h3 hg hr, h4⟩) _)
    ?assign ?body ?done ?stop
  case assign =>
    rintro l pre x W K ⟨⟨hp, hcv, hcr, hfr, hzz⟩, hB1⟩ hK
    unfold BRow.enc
    gi_wp2
    have hnb := heap_alloc_new W (.cells #[.int .i64 (r.v x), .slice (r.a x) (r.n x) (r.c x)] 110)
    exact hK _ _ ((KeepsOthers.alloc _ _).from _) ((Below.refl _ W).alloc hzz _) ⟨⟨hp, calloc _ hcv, calloc _ hcr, falloc _ hcr hfr, by simp; omega⟩, hB1.alloc hB1.size _⟩ ⟨W.heap.size, by omega, by rw [cell_of_row _ _ _ _ _ _ hnb]; rfl, by rw [cell_of_row _ _ _ _ _ _ hnb]; rfl, rfl⟩
  case body =>
    rintro l pre x a' W hl ⟨rr, hr⟩ ⟨⟨hp, hcv, hcr, hfr, hzz⟩, hB⟩ ⟨Bx, hBx, cx0, cx1, rfl⟩ hlt
    gi_wp2
    · have hx : (r.v x == v) = true := by assumption
      exact ⟨(KeepsOthers.setCell _ _ _).from _, ⟨rfl, pre, x, rfl, eq_of_beq hx, World.cell?_setCell_same' _ _ _ (by rw [hcr]; rfl)⟩, hB.setCell (p := ⟨w.heap.size + 1, 0, none⟩) (by simp) _⟩
    · have hx : (r.v x == v) = false := by assumption
      exact ⟨KeepsFrom.refl _ _, Below.refl _ _, ⟨fun j hj => (List.mem_append.1 hj).elim (hp j) (fun e e' => by simp at e; subst e; rw [e'] at hx; simp at hx), hcv, hcr, hfr, hzz⟩, hB⟩
  case done =>
    rintro D ys W hD rfl ⟨⟨hp, hcv, hcr, hfr, hzz⟩, hB⟩ hK
    have hp2 := Sec.mk hp
    clear hp
    gi_wp2
    have hK' := (KeepsOthers.setCell W ⟨w.heap.size + 1, 0, none⟩ (.slice none 0 0)).same D _ hK rfl
    refine ⟨by simp, .inl ⟨_, _, rfl, run_takeDeferred hK', ?_⟩⟩
    have hc5 := cell_kept (World.cell?_setCell_same' W ⟨w.heap.size + 1, 0, none⟩ (.slice none 0 0) (by rw [hcr]; rfl)) (grownBy_putObj' _ D (.deferred none)) (fun r e => by cases e; exact ⟨_, hK', rfl⟩)
    refine ⟨.slice none 0 0, ?_, .inl ⟨rfl, fun j hj => hp2.out j (mem_dn.2 ⟨Nat.zero_le _, hj⟩)⟩, (hB.setCell (p := ⟨w.heap.size + 1, 0, none⟩) (by simp) _).trans (belowK_b (w := w) (Nat.le_refl _) _ D _ _ (by omega) hK' rfl rfl)⟩
    simp [results, Tryz.f95, go_sem, hc5]
  case stop =>
    rintro D c pre W hD ⟨k, hk, rfl⟩ ⟨⟨rfl, ini, last, e1, e2, hcr⟩, hB⟩ hK
    have hlast : last = k := by
      rw [← dn_succ hk] at e1
      exact ((List.append_inj' e1 rfl).2 |> List.cons.inj |>.1).symm
    subst hlast
    have E2 := Sec.mk e2
    clear e1 e2
    gi_wp2
    refine ⟨by simp, .inl ⟨_, _, rfl, run_takeDeferred hK, ?_⟩⟩
    have hc5 := cell_kept hcr (grownBy_putObj' _ D (.deferred none)) (fun r e => by cases e; exact ⟨_, hK, rfl⟩)
    refine ⟨.slice (r.a last) (r.n last) (r.c last), ?_, .inr ⟨last, hk, rfl, E2.out⟩, hB.trans (belowK_b (w := w) (Nat.le_refl _) W D _ _ (by omega) hK rfl rfl)⟩
    simp [results, Tryz.f95, go_sem, hc5]
/-- A row of bindings, read: its own block satisfies okR; what its terms read satisfies okE. -/
def BV2 (w : World) (okR okE : Nat → Prop) (v : Value) (s : List Bind) : Prop := ∃ A c, v = .slice A s.length c ∧ s.length ≤ c ∧ c ≤ maxLen ∧ s.length ≤ 1073741824 ∧ (s = [] ∨ ∃ b off, A = some ⟨b, off, none⟩ ∧ okR b ∧ kBind.E w okE s (fun j => w.cell? ⟨b, off + j, none⟩))
theorem E_move2 {w w1 : World} {ok ok1 : Nat → Prop} {b off : Nat} {s : List Bind} (hk : Keeps w w1 ok ok1) (hb : b < w.heap.size → w1.heap[b]? = w.heap[b]?) (h : kBind.E w ok s (fun j => w.cell? ⟨b, off + j, none⟩)) : kBind.E w1 ok1 s (fun j => w1.cell? ⟨b, off + j, none⟩) := by
  intro i x hx
  obtain ⟨cs, h1, h2⟩ := h i x hx
  refine ⟨cs, kBind.K_move hk h1, fun j u hu => ?_⟩
  have h3 := h2 j u hu
  have hl := World.block_lt_of_cell? w _ h3
  exact (World.cell?_of_block (w := w) (w' := w1) (hb hl)).trans h3
theorem BV2.lt {w : World} {okE : Nat → Prop} {s : List Bind} {b off : Nat} (h : kBind.E w okE s (fun j => w.cell? ⟨b, off + j, none⟩)) (hs : s ≠ []) : b < w.heap.size := by
  cases s with
  | nil => exact absurd rfl hs
  | cons x r =>
    obtain ⟨cs, h1, h2⟩ := h 0 x rfl
    have hl := kBind.K_len h1
    have hl2 : 0 < cs.length := by rw [hl]; decide
    exact World.block_lt_of_cell? w _ (h2 0 (cs[0]'hl2) (List.getElem?_eq_getElem hl2))
theorem BV2.move {w w1 : World} {okR okE okR1 okE1 : Nat → Prop} {v : Value} {s : List Bind} (h : BV2 w okR okE v s) (hR : Keeps w w1 okR okR1) (hE : Keeps w w1 okE okE1) : BV2 w1 okR1 okE1 v s := by
  obtain ⟨A, c, h1, h2, h3, h4, h5⟩ := h
  refine ⟨A, c, h1, h2, h3, h4, ?_⟩
  by_cases hs : s = []
  · exact .inl hs
  · rcases h5 with h5 | ⟨b, off, hA, hb, hh⟩
    · exact .inl h5
    · have hl := BV2.lt hh hs
      exact .inr ⟨b, off, hA, (hR b hb hl).1, E_move2 hE (fun _ => (hR b hb hl).2) hh⟩
theorem BV2.below {w w1 : World} {okR okE : Nat → Prop} {v : Value} {s : List Bind} (h : BV2 w okR okE v s) (hb : Below w.heap.size w w1) : BV2 w1 okR okE v s := h.move (Keeps.below hb _) (Keeps.below hb _)
theorem BV2.mono {w : World} {okR okE okR1 okE1 : Nat → Prop} {v : Value} {s : List Bind} (h : BV2 w okR okE v s) (hR : ∀ k, okR k → k < w.heap.size → okR1 k) (hE : ∀ k, okE k → k < w.heap.size → okE1 k) : BV2 w okR1 okE1 v s := h.move (Keeps.mono hR) (Keeps.mono hE)
theorem BV2.form {w : World} {okR okE : Nat → Prop} {v : Value} {s : List Bind} (h : BV2 w okR okE v s) : ∃ A c, v = .slice A s.length c := by
  obtain ⟨A, c, h1, _⟩ := h
  exact ⟨A, c, h1⟩
theorem bind_cells {w : World} {okE : Nat → Prop} {A : Option Addr} {s : List Bind} (hC : s = [] ∨ ∃ b off, A = some ⟨b, off, none⟩ ∧ kBind.E w okE s (fun j => w.cell? ⟨b, off + j, none⟩)) : ∃ r : BRow, (∀ i (h : i < s.length), r.v i = s[i].v ∧ kCell.V w okE (.slice (r.a i) (r.n i) (r.c i)) s[i].term) ∧ (s.length = 0 ∨ ∃ b off, A = some ⟨b, off, none⟩ ∧ b < w.heap.size ∧ r.At w b off s.length) := by
  by_cases hs : s = []
  · subst hs
    exact ⟨⟨fun _ => 0, fun _ => none, fun _ => 0, fun _ => 0⟩, fun i h => absurd h (Nat.not_lt_zero _), .inl rfl⟩
  obtain ⟨b, off, hA, hE⟩ := hC.resolve_left hs
  have h : ∀ i, ∃ x : Option Addr × Nat × Nat, ∀ h : i < s.length, kCell.V w okE (.slice x.1 x.2.1 x.2.2) s[i].term ∧ w.cell? ⟨b, off + i * 2, none⟩ = some (.int .i64 s[i].v) ∧ w.cell? ⟨b, off + i * 2 + 1, none⟩ = some (.slice x.1 x.2.1 x.2.2) := by
    intro i
    by_cases hi : i < s.length
    · obtain ⟨cs, hK, hc⟩ := hE i s[i] (List.getElem?_eq_getElem hi)
      obtain ⟨v1, rfl, hv⟩ := kBind_K hK
      have hv1 := hv
      obtain ⟨A1, c1, rfl, _⟩ := hv
      exact ⟨(A1, s[i].term.length, c1), fun _ => ⟨hv1, hc 0 _ rfl, hc 1 _ rfl⟩⟩
    · exact ⟨(none, 0, 0), fun h => absurd h hi⟩
  obtain ⟨f, hf⟩ := Classical.skolem.1 h
  refine ⟨⟨fun i => (s[i]?.map (·.v)).getD 0, fun i => (f i).1, fun i => (f i).2.1, fun i => (f i).2.2⟩, fun i hi => ⟨by simp [hi], (hf i hi).1⟩, .inr ⟨b, off, hA, BV2.lt hE hs, fun j hj => ?_⟩⟩
  have := (hf j hj).2
  refine ⟨?_, this.2⟩
  rw [this.1]
  show some (Value.int .i64 s[j].v) = some (.int .i64 ((s[j]?.map (·.v)).getD 0))
  rw [List.getElem?_eq_getElem hj]; rfl
theorem get_i (val : Value) (s : List Bind) (v : Int) (okR okE : Nat → Prop) (w : World) (hV : BV2 w okR okE val s) (hs : Nd s) :
    Calls Tryz.prog 95 #[val, .int .i64 v] w fun e w' => ((e = .returned (.slice none 0 0) ∧ bget s v = none) ∨ ∃ u t, e = .returned u ∧ bget s v = some t ∧ kCell.V w' okE u t) ∧ Below w.heap.size w w' := by
  obtain ⟨A, c, rfl, h1, h2, h3, hC⟩ := hV
  obtain ⟨r, hr, hI⟩ := bind_cells (hC.imp id (fun ⟨b, off, e, _, h⟩ => ⟨b, off, e, h⟩))
  refine (callsIn_wide (n := 3)).1 ((get_in Fence.wide 3 trivial trivial trivial rfl (Nat.le_refl _) r A s.length c v h3 w hI).mono ?_)
  rintro e w' ⟨h | ⟨k, hk, rfl, hv⟩, hb⟩
  · obtain ⟨rfl, hno⟩ := h
    refine ⟨.inl ⟨rfl, bget_none.2 (fun ⟨b, hb, e⟩ => ?_)⟩, hb⟩
    obtain ⟨i, hi, rfl⟩ := List.mem_iff_getElem.1 hb
    exact hno i hi ((hr i hi).1.trans e)
  · refine ⟨.inr ⟨_, s[k].term, rfl, ?_, Kd.V_below (hr k hk).2 hb (by decide)⟩, hb⟩
    rw [← hv, (hr k hk).1]
    exact bget_at hs hk
theorem get_none_i (val : Value) (s : List Bind) (v : Int) (okR okE : Nat → Prop) (w : World) (hV : BV2 w okR okE val s) (hs : BOk s) (hg : bget s v = none) :
    Calls Tryz.prog 95 #[val, .int .i64 v] w fun e w' => e = .returned (.slice none 0 0) ∧ Below w.heap.size w w' :=
  (get_i val s v okR okE w hV hs.tri.nd).mono fun e w' ⟨h, hb⟩ => by
    rcases h with ⟨h, _⟩ | ⟨u, t, _, h, _⟩
    · exact ⟨h, hb⟩
    · rw [hg] at h; cases h
theorem get_some_i (val : Value) (s : List Bind) (v : Int) (t : Term) (okR okE : Nat → Prop) (w : World) (hV : BV2 w okR okE val s) (hs : BOk s) (hg : bget s v = some t) :
    Calls Tryz.prog 95 #[val, .int .i64 v] w fun e w' => ∃ u, e = .returned u ∧ kCell.V w' okE u t ∧ Below w.heap.size w w' :=
  (get_i val s v okR okE w hV hs.tri.nd).mono fun e w' ⟨h, hb⟩ => by
    rcases h with ⟨_, h⟩ | ⟨u, t1, h1, h, h2⟩
    · rw [hg] at h; cases h
    · rw [hg] at h; cases h
      exact ⟨u, h1, h2, hb⟩
end
section
open Go.RowKit
set_option linter.unusedVariables false
set_option maxRecDepth 100000
theorem cV_cons {w : World} {ok : Nat → Prop} {v : Value} {c : Cell} {r : Term} (h : kCell.V w ok v (c :: r)) : ∃ b off cp, v = .slice (some ⟨b, off, none⟩) (r.length + 1) cp ∧ r.length + 1 ≤ cp ∧ w.cell? ⟨b, off, none⟩ = some (.int .i64 c.kind) ∧ w.cell? ⟨b, off + 1, none⟩ = some (.int .i64 c.n) ∧ w.cell? ⟨b, off + 2, none⟩ = some (.string c.name) := by
  obtain ⟨A, cp, rfl, h1, h2, h3, hC, -⟩ := h
  obtain ⟨b, off, rfl, -, c0, c1, c2, -⟩ := cell_at hC 0 (by simp)
  simp only [List.getElem_cons_zero, Nat.zero_mul, Nat.add_zero] at c0 c1 c2
  exact ⟨b, off, cp, rfl, h1, c0, c1, c2⟩
set_option maxHeartbeats 1000000 in
theorem walk_i (n : Nat) (val v : Value) (s : List Bind) (t u : Term) (okR ok : Nat → Prop) (w : World) (hs : BOk s) (hV : BV2 w okR ok val s) (hT : kCell.V w ok v t) (ht : trmOk t = true) (h : walkF s n t = some u) :
    Calls Tryz.prog 85 #[val, v] w fun e w' => ∃ z, e = .returned z ∧ kCell.V w' ok z u ∧ Below w.heap.size w w' := by
  have HV := Sec.mk hV
  have HS := Sec.mk hs
  have hq := fun (w : World) (a : Option Addr) (n c : Nat) => Lib.run_eql_slice_nil (P := Tryz.prog) w 30 77 a n c 0 0 Tryz.underlying30
  have H0 : Sec (kCell.V w ok v t ∧ trmOk t = true ∧ walkF s n t = some u) := ⟨hT, ht, h⟩
  obtain ⟨Ab, cb, rfl⟩ := hV.form
  obtain ⟨At, ct, rfl, -⟩ := hT
  clear hs h ht hV
  go_enter Tryz.func85, Tryz.ntmps85
  go_wp2
  go_loopg [1] n (fun g tv wr => Sec (∃ t1, kCell.V wr ok tv t1 ∧ trmOk t1 = true ∧ walkF s g t1 = some u) ∧ Sec (Below w.heap.size w wr))
  case atStart => exact ⟨⟨t, H0.out⟩, ⟨Below.refl _ _⟩⟩
  case round =>
    obtain ⟨hr, hb⟩ := hrel
    obtain ⟨t1, h1, h2, h3⟩ := hr.out
    cases t1 with
    | nil => exact absurd (trmOk_len h2).1 (by simp)
    | cons c r =>
    cases gk with
    | zero => cases h3
    | succ g =>
    obtain ⟨b, off, cp, rfl, i0, c0, c1, c2⟩ := cV_cons h1
    have T1 := Sec.mk h1
    have i1 : (0 : Int) < ((r.length + 1 : Nat) : Int) := by omega
    rw [walkF] at h3
    clear hr h1
    by_cases hk : c.kind = 1
    · rw [if_pos hk] at h3
      have d1 : (c.kind == 1) = true := beq_iff_eq.2 hk
      clear hk
      cases hg : bget s c.n with
      | none =>
        rw [hg] at h3
        cases h3
        have HG := Sec.mk hg
        clear hg
        go_wp2_with (go_at_call 95; refine (get_none_i _ s c.n okR ok _ (HV.out.below hb.out) HS.out HG.out).mono ?_; rintro e w2 ⟨rfl, hb2⟩; have B2 := Sec.mk (bel hb.out hb2); have T2 := Sec.mk (Kd.V_below T1.out hb2 (by decide)); clear hb2 c0 c1 c2)
        go_ret
        exact ⟨_, rfl, T2.out, B2.out⟩
      | some t2 =>
        rw [hg] at h3
        have HG := Sec.mk hg
        have HW := Sec.mk h3
        have ht2 := HS.out.get hg
        obtain ⟨c9, r9, h9⟩ : ∃ c9 r9, t2 = c9 :: r9 := by
          cases t2 with
          | nil => exact absurd (trmOk_len ht2).1 (by simp)
          | cons c9 r9 => exact ⟨c9, r9, rfl⟩
        have H9 := Sec.mk h9
        clear hg h3 h9
        go_wp2_with (go_at_call 95; refine (get_some_i _ s c.n t2 okR ok _ (HV.out.below hb.out) HS.out HG.out).mono ?_; rintro e w2 ⟨z, rfl, hz, hb2⟩; have B2 := Sec.mk (bel hb.out hb2); have T2 := Sec.mk hz; rw [H9.out] at hz; obtain ⟨b9, off9, cp9, rfl, -⟩ := cV_cons hz; clear hb2 hz c0 c1 c2)
        go_roundg g
        case rel => exact ⟨⟨t2, T2.out, ht2, HW.out⟩, B2⟩
        case measure => exact Nat.lt_succ_self _
    · rw [if_neg hk] at h3
      have d1 : (c.kind == 1) = false := beq_eq_false_iff_ne.2 hk
      cases h3
      clear hk
      go_wp2
      go_ret
      exact ⟨_, rfl, T1.out, hb.out⟩
end
section
open Go.RowKit
set_option linter.unusedVariables false
set_option maxRecDepth 100000
theorem foldl_mem (t : Term) : ∀ (out : List Int) (y : Int), y ∈ t.foldl freeStep out ↔ y ∈ out ∨ vin y t := by
  induction t with
  | nil => intro out y; simp [vin]
  | cons c r ih =>
    intro out y
    rw [List.foldl_cons, ih]
    have h : y ∈ freeStep out c ↔ y ∈ out ∨ (c.kind = 1 ∧ c.n = y) := by
      unfold freeStep
      split
      · rename_i h
        rw [List.mem_append, List.mem_singleton]
        exact ⟨fun h1 => h1.imp id (fun e => ⟨h.1, e.symm⟩), fun h1 => h1.imp id (fun e => e.2.symm)⟩
      · rename_i h
        refine ⟨.inl, fun h1 => h1.elim id (fun e => ?_)⟩
        exact Classical.byContradiction (fun h2 => h ⟨e.1, by rw [e.2]; exact h2⟩)
    rw [h]
    constructor
    · rintro ((h1 | ⟨h1, h2⟩) | ⟨d, hd, h1⟩)
      · exact .inl h1
      · exact .inr ⟨c, List.mem_cons_self, h1, h2⟩
      · exact .inr ⟨d, List.mem_cons_of_mem _ hd, h1⟩
    · rintro (h1 | ⟨d, hd, h1⟩)
      · exact .inl (.inl h1)
      · rcases List.mem_cons.1 hd with rfl | hd
        · exact .inl (.inr h1)
        · exact .inr ⟨d, hd, h1⟩
theorem mem_free {t : Term} {y : Int} : y ∈ free t ↔ vin y t := by
  unfold free
  rw [foldl_mem]; simp
/-- How many variables are in a set. -/
def cntS (f : Int → Bool) : Nat := allV.countP f
def updS (f : Int → Bool) (v : Int) : Int → Bool := fun y => if y = v then true else f y
theorem allV_len : allV.length = 100000 := by unfold allV; rw [List.length_map, List.length_range]
theorem cntS_le (f : Int → Bool) : cntS f ≤ 100000 := by
  have := List.countP_le_length (p := f) (l := allV)
  rwa [allV_len] at this
theorem cntS_upd {f : Int → Bool} {v : Int} (h0 : 0 ≤ v) (h1 : v ≤ 99999) (h : f v = false) : cntS f + 1 ≤ cntS (updS f v) := by
  have hm : v ∈ allV := mem_allV.2 ⟨h0, h1⟩
  obtain ⟨l1, l2, e⟩ := List.append_of_mem hm
  have hle : ∀ l : List Int, l.countP f ≤ l.countP (updS f v) := fun l => List.countP_mono_left (fun x _ hx => by
    unfold updS; split
    · rfl
    · exact hx)
  unfold cntS
  rw [e, List.countP_append, List.countP_append, List.countP_cons, List.countP_cons]
  have h2 := hle l1
  have h3 := hle l2
  have h4 : updS f v v = true := by simp [updS]
  rw [h4, h]
  simp only [if_true]
  simp
  omega
/-- Block b is a set of variables. -/
def SeenM (w : World) (b : Nat) (f : Int → Bool) : Prop := ∃ D : DataW Unit, w.ownsMap Tryz.prog 3 (plainElem Tryz.prog 4) b (cntS f) D ∧ Maps.IsMap D ∧ ∀ v : Int, 0 ≤ v → v ≤ 99999 → D.atKey (.int .i64 v) (.lit (.bool false)) = .lit (.bool (f v))
theorem seen_made (w : World) : SeenM (w.alloc (.map #[] 0)) w.heap.size (fun _ => false) :=
  ⟨.map [], (World.ownsMap_made w Tryz.prog 3 (plainElem Tryz.prog 4)).mono (Nat.zero_le _), Maps.isMap_empty, fun v _ _ => rfl⟩
theorem SeenM.lt {w : World} {b : Nat} {f : Int → Bool} (h : SeenM w b f) : b < w.heap.size := by
  obtain ⟨D, h1, -, -⟩ := h
  exact h1.lt
theorem SeenM.kept {w w1 : World} {b : Nat} {f : Int → Bool} (h : SeenM w b f) (hk : w1.heap[b]? = w.heap[b]?) : SeenM w1 b f := by
  obtain ⟨D, ⟨es, cl, h1, h2, h3, h4⟩, h5, h6⟩ := h
  exact ⟨D, ⟨es, cl, hk.trans h1, h2, h3, h4⟩, h5, h6⟩
theorem SeenM.below {w w1 : World} {b : Nat} {f : Int → Bool} (h : SeenM w b f) (hb : Below w.heap.size w w1) : SeenM w1 b f := h.kept (hb.block b h.lt)
theorem plainElem_bool_inv {v : Value} {x : Bool} {ps : List MemPlace} (h : plainElem (H := Unit) Tryz.prog 4 v = some (.lit (.bool x), ps)) : v = .bool x := by
  unfold plainElem at h
  rw [Tryz.underlying4] at h
  cases v <;> simp at h
  rw [h.1]
theorem seen_look {w : World} {b : Nat} {f : Int → Bool} (h : SeenM w b f) {v : Int} (h0 : 0 ≤ v) (h1 : v ≤ 99999) : (Instr.lookup 113 (.map (some b)) (.int .i64 v) false).run Tryz.prog w = .ok (.bool (f v)) w := by
  obtain ⟨D, hown, hD, hf⟩ := h
  obtain ⟨u, ps, hrun, hu⟩ := hown.lookup (Maps.int_keyed Tryz.underlying3) Tryz.underlying113 (z := .bool false) (by kernel_rfl) (plainElem_bool Tryz.underlying4 false) (Maps.keyOf_int_mk Tryz.underlying3 (WalkArith.wf_i64 (n := v) (by omega)))
  rw [hf v h0 h1] at hu
  rw [hrun, plainElem_bool_inv hu]
theorem seen_put {w : World} {ops : Array Oper} {rest : List Oper} {o : Oper} {a : Act} {Q : Exit → Act → World → Prop} {b : Nat} {f : Int → Bool} (h : SeenM w b f) {v : Int} (h0 : 0 ≤ v) (h1 : v ≤ 99999) (hn : f v = false)
    (hg : o.guard = none) (m x y : Operand) (hop : o.op = Op.mapUpdate 113 m x y) (hm : a.eval m = .map (some b)) (hx : a.eval x = .int .i64 v) (hy : a.eval y = .bool true)
    (hK : ∀ w', SeenM w' b (updS f v) → w.grownBy w' (some b) → wpList Tryz.prog ops Q rest (a.put o.dst undef) w') : wpList Tryz.prog ops Q (o :: rest) a w := by
  obtain ⟨D, hown, hD, hf⟩ := h
  have hle := cntS_le f
  refine wpList_mapUpdate_own w hg m x y 113 hop 3 4 (Maps.int_keyed Tryz.underlying3) Tryz.underlying113 (plainElem Tryz.prog 4) b (cntS f) D hm hown (by unfold maxLen; omega) (.int .i64 v) (.bool true) (.int .i64 v) hx hy
    (Maps.keyOf_int_mk Tryz.underlying3 (WalkArith.wf_i64 (n := v) (by omega))) (.lit (.bool true)) [] (plainElem_bool Tryz.underlying4 true) (fun w' r1 r2 => hK w' ⟨_, r1.mono (cntS_upd h0 h1 hn), hD.put _ _, fun z hz0 hz1 => ?_⟩ r2)
  unfold updS
  by_cases e : z = v
  · subst e
    rw [if_pos rfl]
    exact Maps.atKey_put_same hD (by simp [WideAt.IsKeyLit]) _ _
  · rw [if_neg e, Maps.atKey_put_other (fun e2 => e (by simpa using e2))]
    exact hf z hz0 hz1
theorem foot_grown {w w1 : World} {S : Nat → Prop} {row : Option Nat} (hg : w.grownBy w1 row) (hr : ∀ k, row = some k → S k) : Foot S w w1 :=
  ⟨hg.os, hg.tape, hg.output, hg.size, fun k hk hS => hg.block k hk (fun e => hS (hr k e.symm))⟩
theorem intAt {w : World} {ok : Nat → Prop} {A : Option Addr} {xs : List Int} (h : kInt.C w ok A xs) (i : Nat) (hi : i < xs.length) : ∃ b off, A = some ⟨b, off, none⟩ ∧ w.cell? ⟨b, off + i, none⟩ = some (.int .i64 xs[i]) := by
  obtain ⟨b, off, cs, hA, hb, hK, hc⟩ := Kd.C_get h (List.getElem?_eq_getElem hi)
  obtain ⟨rfl, -⟩ := hK
  have := hc 0 _ rfl
  rw [show kInt.sz = 1 from rfl, Nat.mul_one, Nat.add_zero] at this
  exact ⟨b, off, hA, this⟩
theorem Foot_keeps_ne {w w1 : World} {b : Nat} {ok : Nat → Prop} (h : Foot (fun k => k = b) w w1) (hb : ∀ k, ok k → k ≠ b) : Keeps w w1 ok ok := Foot.keeps h (fun k hk => hb k hk)
theorem holds_end {s : List Bind} {x : Int} {t : Term} (h : ∀ (j : Nat) (hj : j < (free t).length), ¬ vin x (sig s (free t)[j])) : vinB x (sub (sig s) t) = false := by
  rw [Bool.eq_false_iff]
  intro e
  obtain ⟨y, hy, hv⟩ := vin_sub.1 (vinB_iff.1 e)
  obtain ⟨j, hj, rfl⟩ := List.mem_iff_getElem.1 (mem_free.2 hy)
  exact h j hj hv
theorem holds_yes {s : List Bind} {x y : Int} {t : Term} (hy : vin y t) (hv : vin x (sig s y)) : vinB x (sub (sig s) t) = true := vinB_iff.2 (vin_sub.2 ⟨y, hy, hv⟩)
set_option maxHeartbeats 4000000 in
theorem holds_i {s : List Bind} (hs : BOk s) (x : Int) (hx : bget s x = none) (rk : Int → Nat) (hrk : ∀ v t, bget s v = some t → ∀ y, vin y t → rk y < rk v) : ∀ (R : Nat) (val v : Value) (t : Term) (b : Nat) (f : Int → Bool) (okR ok : Nat → Prop) (w : World), BV2 w okR ok val s → kCell.V w ok v t → trmOk t = true → (∀ k, okR k → k < w.heap.size → k ≠ b) → (∀ k, ok k → k < w.heap.size → k ≠ b) → (∀ y, vin y t → rk y < R) → SeenM w b f → (∀ y, f y = true → rk y < R → ¬ vin x (sig s y)) →
    Calls Tryz.prog 96 #[val, v, .int .i64 x, .map (some b)] w fun e w' => ∃ f1, e = .returned (.bool (vinB x (sub (sig s) t))) ∧ Foot (fun k => k = b) w w' ∧ SeenM w' b f1 ∧ (vinB x (sub (sig s) t) = false → ∀ y, f1 y = true → f y = true ∨ (rk y < R ∧ ¬ vin x (sig s y))) := by
  intro R
  induction R using Nat.strongRecOn with
  | ind R IH =>
  intro val v t b f okR0 ok0 w hV0 hT0 ht hokr0 hok0 hR hM hf
  obtain ⟨okR, hokr, hV1⟩ : ∃ okR : Nat → Prop, (∀ k, okR k → k ≠ b) ∧ BV2 w okR ok0 val s := ⟨fun k => okR0 k ∧ k < w.heap.size, fun k h => hokr0 k h.1 h.2, hV0.mono (fun k h1 h2 => ⟨h1, h2⟩) (fun k h _ => h)⟩
  obtain ⟨ok, hok, hV, hT, hback⟩ : ∃ ok : Nat → Prop, (∀ k, ok k → k ≠ b) ∧ BV2 w okR ok val s ∧ kCell.V w ok v t ∧ True := ⟨fun k => ok0 k ∧ k < w.heap.size, fun k h => hok0 k h.1 h.2, hV1.mono (fun k h _ => h) (fun k h1 h2 => ⟨h1, h2⟩), Kd.V_move (fun k h1 h2 => ⟨⟨h1, h2⟩, rfl⟩) hT0 (by decide), trivial⟩
  clear hV0 hV1 hT0 hokr0 hok0 hback
  have HV := Sec.mk hV
  have HT := Sec.mk hT
  have HM := Sec.mk hM
  have hbl := hM.lt
  have HF := Sec.mk hf
  have HR := Sec.mk hR
  have HOK := Sec.mk hok
  have HOR := Sec.mk hokr
  have IHS := Sec.mk IH
  have HS := Sec.mk hs
  have HX := Sec.mk hx
  have HRK := Sec.mk hrk
  have HTV := Sec.mk (trmOk_V ht)
  have hq := fun (w : World) (a : Option Addr) (n c : Nat) => run_neq_slice_nil_any (P := Tryz.prog) w 30 77 a n c 0 0 Tryz.underlying30
  obtain ⟨L, hL⟩ : ∃ L, free t = L := ⟨_, rfl⟩
  have HL := Sec.mk hL
  have hl3 : L.length ≤ 40 := by have := free_len t; have := (trmOk_len ht).2; rw [hL] at *; omega
  obtain ⟨Ab, cb, rfl⟩ := hV.form
  clear hV hT hM hf hR hok hokr IH ht hL hs hx hrk
  go_enter Tryz.func96, Tryz.ntmps96
  go_wp2_with (go_at_call 82; refine (TrmFree_i _ t ok _ HT.out).mono ?_; rintro e w1 ⟨u, rfl, hu, hb1⟩; rw [HL.out] at hu; have U1 := Sec.mk hu; obtain ⟨Au, cu, rfl, -, -⟩ := Kd.R_form hu; have B1 := Sec.mk hb1; clear hu hb1)
  go_loopw [15] (fun iv wr => ∃ k : Nat, k ≤ L.length ∧ iv = .int .i64 k ∧ Sec (∃ f1, SeenM wr b f1 ∧ ∀ y, f1 y = true → f y = true ∨ (rk y < R ∧ ¬ vin x (sig s y))) ∧ Sec (∀ (j : Nat) (hj : j < L.length), j < k → ¬ vin x (sig s L[j])) ∧ Sec (Foot (fun k => k = b) w1 wr)) (fun iv _ => L.length - (intOf iv).toNat)
  case atStart => exact ⟨0, Nat.zero_le _, rfl, ⟨f, HM.out.below B1.out, fun y h => .inl h⟩, ⟨fun j hj h => absurd h (Nat.not_lt_zero _)⟩, ⟨Foot.refl _ _⟩⟩
  case round =>
    obtain ⟨k, hk, rfl, hsm, hno, hft⟩ := hrel
    have FT : Sec (Foot (fun k => k = b) w wr) := ⟨Foot.trans (S' := fun k => k = b) (Foot.of_below (S := fun k => k = b) B1.out) hft.out (fun _ _ h => h)⟩
    by_cases hlk : k < L.length
    · have hV1 := Kd.V_move (Foot_keeps_ne hft.out (fun q hq => by intro e; rw [e] at hq; omega)) (Kd.R_V U1.out) (by decide)
      obtain ⟨bu, offu, rfl, i0⟩ := intAt (Kd.V_C hV1) k hlk
      have hmem : L[k] ∈ free t := by rw [HL.out]; exact List.getElem_mem hlk
      have hvin := mem_free.1 hmem
      have hrn := HR.out _ hvin
      obtain ⟨h0, h1⟩ := mem_allV.1 (HTV.out _ hvin)
      have hstep : Sec (¬ vin x (sig s L[k]) → ∀ (j : Nat) (hj : j < L.length), j < k + 1 → ¬ vin x (sig s L[j])) := ⟨fun h2 j hj h3 => by
        by_cases e : j = k
        · subst e; exact h2
        · exact hno.out j hj (by omega)⟩
      have hyes : Sec (vin x (sig s L[k]) → vinB x (sub (sig s) t) = true) := ⟨fun h2 => holds_yes hvin h2⟩
      obtain ⟨f1, hm1, hf1⟩ := hsm.out
      have M1 := Sec.mk hm1
      have F1 := Sec.mk hf1
      have j0 : (0 : Int) ≤ (k : Int) := by omega
      have j1 : (k : Int) < (L.length : Int) := by omega
      have HRN := Sec.mk hrn
      generalize L[k] = n at *
      clear hV1 hmem hvin hsm hno hm1 hf1 hrn
      by_cases hnx : n = x
      · have d1 : (n == x) = true := beq_iff_eq.2 hnx
        have hfin : Sec (vinB x (sub (sig s) t) = true) := ⟨hyes.out (by rw [hnx, sig_out HX.out]; exact ⟨_, List.mem_singleton.2 rfl, rfl, rfl⟩)⟩
        clear hnx
        go_wp2
        go_ret
        rw [hfin.out]
        exact ⟨f1, rfl, FT.out, M1.out, fun h => by cases h⟩
      · have d1 : (n == x) = false := beq_eq_false_iff_ne.2 hnx
        have HNX := Sec.mk hnx
        clear hnx
        cases hfn : f1 n with
        | true =>
          have hlook := seen_look M1.out h0 h1
          rw [hfn] at hlook
          have hnot : Sec (¬ vin x (sig s n)) := ⟨by
            rcases F1.out n hfn with h2 | h2
            · exact HF.out n h2 HRN.out
            · exact h2.2⟩
          clear hfn
          go_wp2
          go_roundw
          case rel => exact ⟨k + 1, by omega, by go_num, ⟨f1, M1.out, F1.out⟩, ⟨hstep.out hnot.out⟩, hft⟩
          case measure => simp [intOf]; omega
        | false =>
          have hlook := seen_look M1.out h0 h1
          rw [hfn] at hlook
          have HFN := Sec.mk hfn
          clear hfn
          cases hg : bget s n with
          | none =>
            have HG := Sec.mk hg
            have hnot : Sec (¬ vin x (sig s n)) := ⟨by
              rw [sig_out hg]
              rintro ⟨c, hc, _, e⟩
              rw [List.mem_singleton] at hc
              subst hc
              exact HNX.out e⟩
            clear hg
            go_wp2_with (first | (go_at_call 95; refine (get_none_i _ s n okR ok _ V2.out HS.out HG.out).mono ?_; rintro e w3 ⟨rfl, hb3⟩; have M3 := Sec.mk (M2.out.below hb3); have G3 := Sec.mk (Foot.trans (S' := fun k => k = b) G2.out (Foot.of_below (S := fun k => k = b) hb3) (fun _ _ h => h)); clear hb3) | (at_mapUpdate; refine seen_put (f := f1) M1.out h0 h1 HFN.out rfl _ _ _ rfl rfl rfl rfl ?_; intro w2 hm2 hg2; have M2 := Sec.mk hm2; have F2 := Sec.mk (Foot.trans (S' := fun k => k = b) FT.out (foot_grown hg2 (fun k e => by cases e; rfl)) (fun _ _ h => h)); have G2 := Sec.mk (Foot.trans (S' := fun k => k = b) hft.out (foot_grown hg2 (fun k e => by cases e; rfl)) (fun _ _ h => h)); have V2 := Sec.mk (HV.out.move (Foot_keeps_ne F2.out HOR.out) (Foot_keeps_ne F2.out HOK.out)); clear hm2 hg2))
            go_roundw
            case rel => exact ⟨k + 1, by omega, by go_num, ⟨_, M3.out, fun y hy => by
              unfold updS at hy
              split at hy
              · rename_i e
                rw [e]; exact .inr ⟨HRN.out, hnot.out⟩
              · exact F1.out y hy⟩, ⟨hstep.out hnot.out⟩, G3⟩
            case measure => simp [intOf]; omega
          | some t2 =>
            have HG := Sec.mk hg
            have hsig : Sec (vinB x (sub (sig s) t2) = vinB x (sig s n)) := ⟨by rw [sig_in HS.out.tri hg]⟩
            have ht2 := Sec.mk (HS.out.get hg)
            have hcond : Sec (∀ y, updS f1 n y = true → rk y < rk n → ¬ vin x (sig s y)) := ⟨fun y hy hr => by
              unfold updS at hy
              split at hy
              · rename_i e
                rw [e] at hr; omega
              · rcases F1.out y hy with h2 | h2
                · exact HF.out y h2 (Nat.lt_trans hr HRN.out)
                · exact h2.2⟩
            obtain ⟨c9, r9, h9⟩ : ∃ c9 r9, t2 = c9 :: r9 := by
              cases t2 with
              | nil => exact absurd (trmOk_len ht2.out).1 (by simp)
              | cons c9 r9 => exact ⟨c9, r9, rfl⟩
            have H9 := Sec.mk h9
            clear hg h9
            cases hres : vinB x (sub (sig s) t2) with
            | true =>
              have HRS := Sec.mk hres
              have hfin : Sec (vinB x (sub (sig s) t) = true) := ⟨hyes.out (vinB_iff.1 (by rw [← hsig.out]; exact hres))⟩
              clear hres
              go_wp2_with (first | (go_at_call 96; refine (IHS.out (rk n) HRN.out _ _ t2 b (updS f1 n) okR ok _ V3.out T3.out ht2.out (fun k h _ => HOR.out k h) (fun k h _ => HOK.out k h) (fun y hy => HRK.out n t2 HG.out y hy) M3.out hcond.out).mono ?_; rw [HRS.out]; rintro e w4 ⟨f4, rfl, hF4, hM4, hf4⟩; have M4 := Sec.mk hM4; have P4 := Sec.mk hf4; have K4 := Sec.mk (Foot.trans (S' := fun k => k = b) F3.out hF4 (fun _ _ h => h)); have G4 := Sec.mk (Foot.trans (S' := fun k => k = b) G3.out hF4 (fun _ _ h => h)); clear hF4 hM4 hf4) | (go_at_call 95; refine (get_some_i _ s n t2 okR ok _ V2.out HS.out HG.out).mono ?_; rintro e w3 ⟨z, rfl, hz, hb3⟩; have T3 := Sec.mk hz; have M3 := Sec.mk (M2.out.below hb3); have V3 := Sec.mk (V2.out.below hb3); have F3 := Sec.mk (Foot.trans (S' := fun k => k = b) F2.out (Foot.of_below (S := fun k => k = b) hb3) (fun _ _ h => h)); have G3 := Sec.mk (Foot.trans (S' := fun k => k = b) G2.out (Foot.of_below (S := fun k => k = b) hb3) (fun _ _ h => h)); rw [H9.out] at hz; obtain ⟨b9, off9, cp9, rfl, -⟩ := cV_cons hz; clear hz hb3) | (at_mapUpdate; refine seen_put (f := f1) M1.out h0 h1 HFN.out rfl _ _ _ rfl rfl rfl rfl ?_; intro w2 hm2 hg2; have M2 := Sec.mk hm2; have F2 := Sec.mk (Foot.trans (S' := fun k => k = b) FT.out (foot_grown hg2 (fun k e => by cases e; rfl)) (fun _ _ h => h)); have G2 := Sec.mk (Foot.trans (S' := fun k => k = b) hft.out (foot_grown hg2 (fun k e => by cases e; rfl)) (fun _ _ h => h)); have V2 := Sec.mk (HV.out.move (Foot_keeps_ne F2.out HOR.out) (Foot_keeps_ne F2.out HOK.out)); clear hm2 hg2))
              go_ret
              rw [hfin.out]
              exact ⟨f4, rfl, K4.out, M4.out, fun h => by cases h⟩
            | false =>
              have HRS := Sec.mk hres
              have hnot : Sec (¬ vin x (sig s n)) := ⟨fun h => by have h2 := vinB_iff.2 h; rw [← hsig.out, hres] at h2; cases h2⟩
              clear hres
              go_wp2_with (first | (go_at_call 96; refine (IHS.out (rk n) HRN.out _ _ t2 b (updS f1 n) okR ok _ V3.out T3.out ht2.out (fun k h _ => HOR.out k h) (fun k h _ => HOK.out k h) (fun y hy => HRK.out n t2 HG.out y hy) M3.out hcond.out).mono ?_; rw [HRS.out]; rintro e w4 ⟨f4, rfl, hF4, hM4, hf4⟩; have M4 := Sec.mk hM4; have P4 := Sec.mk hf4; have K4 := Sec.mk (Foot.trans (S' := fun k => k = b) F3.out hF4 (fun _ _ h => h)); have G4 := Sec.mk (Foot.trans (S' := fun k => k = b) G3.out hF4 (fun _ _ h => h)); clear hF4 hM4 hf4) | (go_at_call 95; refine (get_some_i _ s n t2 okR ok _ V2.out HS.out HG.out).mono ?_; rintro e w3 ⟨z, rfl, hz, hb3⟩; have T3 := Sec.mk hz; have M3 := Sec.mk (M2.out.below hb3); have V3 := Sec.mk (V2.out.below hb3); have F3 := Sec.mk (Foot.trans (S' := fun k => k = b) F2.out (Foot.of_below (S := fun k => k = b) hb3) (fun _ _ h => h)); have G3 := Sec.mk (Foot.trans (S' := fun k => k = b) G2.out (Foot.of_below (S := fun k => k = b) hb3) (fun _ _ h => h)); rw [H9.out] at hz; obtain ⟨b9, off9, cp9, rfl, -⟩ := cV_cons hz; clear hz hb3) | (at_mapUpdate; refine seen_put (f := f1) M1.out h0 h1 HFN.out rfl _ _ _ rfl rfl rfl rfl ?_; intro w2 hm2 hg2; have M2 := Sec.mk hm2; have F2 := Sec.mk (Foot.trans (S' := fun k => k = b) FT.out (foot_grown hg2 (fun k e => by cases e; rfl)) (fun _ _ h => h)); have G2 := Sec.mk (Foot.trans (S' := fun k => k = b) hft.out (foot_grown hg2 (fun k e => by cases e; rfl)) (fun _ _ h => h)); have V2 := Sec.mk (HV.out.move (Foot_keeps_ne F2.out HOR.out) (Foot_keeps_ne F2.out HOK.out)); clear hm2 hg2))
              go_roundw
              case rel => exact ⟨k + 1, by omega, by go_num, ⟨f4, M4.out, fun y hy => by
                rcases P4.out (by first | trivial | rfl | exact HRS.out) y hy with h2 | h2
                · unfold updS at h2
                  split at h2
                  · rename_i e
                    rw [e]; exact .inr ⟨HRN.out, hnot.out⟩
                  · exact F1.out y h2
                · exact .inr ⟨Nat.lt_trans h2.1 HRN.out, h2.2⟩⟩, ⟨hstep.out hnot.out⟩, G4⟩
              case measure => simp [intOf]; omega
    · have hfin : Sec (vinB x (sub (sig s) t) = false) := ⟨holds_end (by rw [HL.out]; exact fun j hj => hno.out j hj (by omega))⟩
      obtain ⟨f1, h1, h2⟩ := hsm.out
      have M1 := Sec.mk h1
      have F1 := Sec.mk h2
      clear h1 h2 hsm hno
      go_wp2
      go_ret
      rw [hfin.out]
      exact ⟨f1, rfl, FT.out, M1.out, fun _ => F1.out⟩
end
end Go.Proofs.YteflipoiiddkfaaGreatDoor
