/- Contracts: two terms are the same, cell by cell; questions; and what goes with it. -/
import Derived.Test.YtgiobpggonceeaaGreatDoorXw2
namespace Go.Proofs.YtgiobpggonceeaaGreatDoor
section
open Go.RowKit
set_option linter.unusedVariables false
set_option maxRecDepth 100000
theorem TrmSame_c (v u : Value) (t s : Term) (ok ok' : Nat → Prop) (w : World) (hV : kCell.V w ok v t) (hU : kCell.V w ok' u s) :
    Calls Tryz.prog 125 #[v, u] w fun e w' => e = .returned (.bool (decide (t = s))) ∧ Below w.heap.size w w' := by
  obtain ⟨A, c, rfl, h1, h2, h3, hC, _⟩ := hV
  obtain ⟨B, d, rfl, k1, k2, k3, hD, _⟩ := hU
  have HC := Sec.mk hC
  have HD := Sec.mk hD
  clear hC hD
  have hu := Tryz.underlying39
  by_cases hl : t.length = s.length
  · rw [← hl]
    have HL := Sec.mk hl
    clear hl
    go_enter Tryz.func125, Tryz.ntmps125
    go_wp2
    go_loopw [5] (fun i wr => ∃ k : Nat, k ≤ t.length ∧ i = .int .i64 k ∧ Sec (t.take k = s.take k) ∧ Sec (Below w.heap.size w wr)) (fun i _ => t.length - (intOf i).toNat)
    case atStart => exact ⟨0, Nat.zero_le _, rfl, ⟨by simp⟩, ⟨Below.refl _ _⟩⟩
    case round =>
      obtain ⟨k, hk, rfl, hT, hb⟩ := hrel
      by_cases hlt : k < t.length
      · have hlt2 : k < s.length := by have := HL.out; omega
        obtain ⟨b, off, rfl, _, x0, x1, x2, _⟩ := cell_at (Kd.C_below HC.out hb.out (by decide)) k hlt
        obtain ⟨b2, off2, rfl, _, y0, y1, y2, _⟩ := cell_at (Kd.C_below HD.out hb.out (by decide)) k hlt2
        have hT1 : Sec (t[k] = s[k] → t.take (k + 1) = s.take (k + 1)) := ⟨fun e => by rw [List.take_succ_eq_append_getElem hlt, List.take_succ_eq_append_getElem hlt2, hT.out, e]⟩
        have hT2 : Sec (t = s → t[k] = s[k]) := ⟨fun e => by subst e; rfl⟩
        generalize t[k] = x at *
        generalize s[k] = y at *
        have i0 : (0 : Int) ≤ (k : Int) := by omega
        have i1 : (k : Int) < (t.length : Int) := by omega
        have B1 : Sec (Below w.heap.size w wr.drew) := ⟨belD hb.out⟩
        rcases cell_cases x y with ⟨hxy, g1, g2, g3⟩ | ⟨hxy, hg⟩
        · have HE : Sec (t.take (k + 1) = s.take (k + 1)) := ⟨hT1.out hxy⟩
          clear hxy
          go_wp2
          go_region_held3 (fun W => (W.cell? ⟨b, off + k * 3, none⟩ = some (.int .i64 x.kind) ∧ W.cell? ⟨b, off + k * 3 + 1, none⟩ = some (.int .i64 x.n) ∧ W.cell? ⟨b, off + k * 3 + 2, none⟩ = some (.string x.name)) ∧ (W.cell? ⟨b2, off2 + k * 3, none⟩ = some (.int .i64 y.kind) ∧ W.cell? ⟨b2, off2 + k * 3 + 1, none⟩ = some (.int .i64 y.n) ∧ W.cell? ⟨b2, off2 + k * 3 + 2, none⟩ = some (.string y.name))) (first | (refine ⟨⟨?_, ?_, ?_⟩, ?_, ?_, ?_⟩ <;> assumption) | go_keep) (fail)
          all_goals
            go_wp2
            go_roundw
            case rel => exact ⟨k + 1, by omega, by go_num, HE, by first | exact hb | exact B1 | exact ⟨belD B1.out⟩⟩
            case measure => simp [intOf]; omega
        · have HE : Sec (decide (t = s) = false) := ⟨decide_eq_false (fun e => hxy (hT2.out e))⟩
          clear hxy
          rcases hg with g1 | ⟨g1, g2⟩ | ⟨g1, g2, g3⟩
          all_goals
            go_wp2
            go_region_held3 (fun W => (W.cell? ⟨b, off + k * 3, none⟩ = some (.int .i64 x.kind) ∧ W.cell? ⟨b, off + k * 3 + 1, none⟩ = some (.int .i64 x.n) ∧ W.cell? ⟨b, off + k * 3 + 2, none⟩ = some (.string x.name)) ∧ (W.cell? ⟨b2, off2 + k * 3, none⟩ = some (.int .i64 y.kind) ∧ W.cell? ⟨b2, off2 + k * 3 + 1, none⟩ = some (.int .i64 y.n) ∧ W.cell? ⟨b2, off2 + k * 3 + 2, none⟩ = some (.string y.name))) (first | (refine ⟨⟨?_, ?_, ?_⟩, ?_, ?_, ?_⟩ <;> assumption) | go_keep) (fail)
            all_goals
              go_wp2
              go_ret
              exact ⟨rb HE.out.symm, by first | exact hb.out | exact B1.out | exact belD B1.out⟩
      · have HE : Sec (decide (t = s) = true) := ⟨decide_eq_true (by have := hT.out; have h2 := HL.out; rwa [List.take_of_length_le (by omega), List.take_of_length_le (by omega)] at this)⟩
        go_wp2
        go_ret
        exact ⟨rb HE.out.symm, hb.out⟩
  · have hl' : ((t.length : Int) == (s.length : Int)) = false := beq_eq_false_iff_ne.2 (by omega)
    have HE : Sec (decide (t = s) = false) := ⟨decide_eq_false (fun e => hl (by rw [e]))⟩
    go_enter Tryz.func125, Tryz.ntmps125
    go_wp2
    go_ret
    exact ⟨rb HE.out.symm, Below.refl _ _⟩
theorem equalCells_c (v u : Value) (t s : Term) (ok ok' : Nat → Prop) (w : World) (hV : kCell.V w ok v t) (hU : kCell.V w ok' u s) :
    Calls Tryz.prog 196 #[v, u] w fun e w' => e = .returned (.bool (decide (t = s))) ∧ Below w.heap.size w w' := by
  obtain ⟨A, c, rfl, h1, h2, h3, hC, _⟩ := hV
  obtain ⟨B, d, rfl, k1, k2, k3, hD, _⟩ := hU
  have HC := Sec.mk hC
  have HD := Sec.mk hD
  clear hC hD
  have hu := Tryz.underlying39
  by_cases hl : t.length = s.length
  · rw [← hl]
    have HL := Sec.mk hl
    clear hl
    go_enter Tryz.func196, Tryz.ntmps196
    go_wp2
    go_loopw [13] (fun i wr => ∃ k : Nat, k ≤ t.length ∧ i = .int .i64 k ∧ Sec (t.take k = s.take k) ∧ Sec (Below w.heap.size w wr)) (fun i _ => t.length - (intOf i).toNat)
    case atStart => exact ⟨0, Nat.zero_le _, rfl, ⟨by simp⟩, ⟨Below.refl _ _⟩⟩
    case round =>
      obtain ⟨k, hk, rfl, hT, hb⟩ := hrel
      by_cases hlt : k < t.length
      · have hlt2 : k < s.length := by have := HL.out; omega
        obtain ⟨b, off, rfl, _, x0, x1, x2, _⟩ := cell_at (Kd.C_below HC.out hb.out (by decide)) k hlt
        obtain ⟨b2, off2, rfl, _, y0, y1, y2, _⟩ := cell_at (Kd.C_below HD.out hb.out (by decide)) k hlt2
        have hT1 : Sec (t[k] = s[k] → t.take (k + 1) = s.take (k + 1)) := ⟨fun e => by rw [List.take_succ_eq_append_getElem hlt, List.take_succ_eq_append_getElem hlt2, hT.out, e]⟩
        have hT2 : Sec (t = s → t[k] = s[k]) := ⟨fun e => by subst e; rfl⟩
        generalize t[k] = x at *
        generalize s[k] = y at *
        have i0 : (0 : Int) ≤ (k : Int) := by omega
        have i1 : (k : Int) < (t.length : Int) := by omega
        have B1 : Sec (Below w.heap.size w wr.drew) := ⟨belD hb.out⟩
        rcases cell_cases x y with ⟨hxy, g1, g2, g3⟩ | ⟨hxy, hg⟩
        · have HE : Sec (t.take (k + 1) = s.take (k + 1)) := ⟨hT1.out hxy⟩
          clear hxy
          go_wp2
          go_region_held3 (fun W => (W.cell? ⟨b, off + k * 3, none⟩ = some (.int .i64 x.kind) ∧ W.cell? ⟨b, off + k * 3 + 1, none⟩ = some (.int .i64 x.n) ∧ W.cell? ⟨b, off + k * 3 + 2, none⟩ = some (.string x.name)) ∧ (W.cell? ⟨b2, off2 + k * 3, none⟩ = some (.int .i64 y.kind) ∧ W.cell? ⟨b2, off2 + k * 3 + 1, none⟩ = some (.int .i64 y.n) ∧ W.cell? ⟨b2, off2 + k * 3 + 2, none⟩ = some (.string y.name))) (first | (refine ⟨⟨?_, ?_, ?_⟩, ?_, ?_, ?_⟩ <;> assumption) | go_keep) (fail)
          all_goals
            go_wp2
            go_roundw
            case rel => exact ⟨k + 1, by omega, by go_num, HE, by first | exact hb | exact B1 | exact ⟨belD B1.out⟩⟩
            case measure => simp [intOf]; omega
        · have HE : Sec (decide (t = s) = false) := ⟨decide_eq_false (fun e => hxy (hT2.out e))⟩
          clear hxy
          rcases hg with g1 | ⟨g1, g2⟩ | ⟨g1, g2, g3⟩
          all_goals
            go_wp2
            go_region_held3 (fun W => (W.cell? ⟨b, off + k * 3, none⟩ = some (.int .i64 x.kind) ∧ W.cell? ⟨b, off + k * 3 + 1, none⟩ = some (.int .i64 x.n) ∧ W.cell? ⟨b, off + k * 3 + 2, none⟩ = some (.string x.name)) ∧ (W.cell? ⟨b2, off2 + k * 3, none⟩ = some (.int .i64 y.kind) ∧ W.cell? ⟨b2, off2 + k * 3 + 1, none⟩ = some (.int .i64 y.n) ∧ W.cell? ⟨b2, off2 + k * 3 + 2, none⟩ = some (.string y.name))) (first | (refine ⟨⟨?_, ?_, ?_⟩, ?_, ?_, ?_⟩ <;> assumption) | go_keep) (fail)
            all_goals
              go_wp2
              go_ret
              exact ⟨rb HE.out.symm, by first | exact hb.out | exact B1.out | exact belD B1.out⟩
      · have HE : Sec (decide (t = s) = true) := ⟨decide_eq_true (by have := hT.out; have h2 := HL.out; rwa [List.take_of_length_le (by omega), List.take_of_length_le (by omega)] at this)⟩
        go_wp2
        go_ret
        exact ⟨rb HE.out.symm, hb.out⟩
  · have hl' : ((t.length : Int) == (s.length : Int)) = false := beq_eq_false_iff_ne.2 (by omega)
    have HE : Sec (decide (t = s) = false) := ⟨decide_eq_false (fun e => hl (by rw [e]))⟩
    go_enter Tryz.func196, Tryz.ntmps196
    go_wp2
    go_ret
    exact ⟨rb HE.out.symm, Below.refl _ _⟩
theorem TrmSame_i (v u : Value) (t s : Term) (ok ok' : Nat → Prop) (w : World) (hV : kCell.V w ok v t) (hU : kCell.V w ok' u s) :
    Calls Tryz.prog 141 #[v, u] w fun e w' => e = .returned (.bool (decide (t = s))) ∧ Below w.heap.size w w' := by
  have H := equalCells_c v u t s ok ok' w hV hU
  obtain ⟨A, c, rfl, -⟩ := hV
  obtain ⟨B, d, rfl, -⟩ := hU
  have H := Sec.mk H
  generalize hq : decide (t = s) = q at *
  have HQ := Sec.mk hq
  clear hq
  go_enter Tryz.func141, Tryz.ntmps141
  go_wp2_with (go_at_call 196; refine H.out.mono ?_; rintro e w1 ⟨rfl, hb⟩; have B1 := Sec.mk hb; clear hb)
  go_ret
  exact ⟨rfl, B1.out⟩
end
section
open Go.RowKit
set_option linter.unusedVariables false
set_option maxRecDepth 100000
def headFun : Term → Bool
  | [] => false
  | c :: _ => c.kind == 3
def question (t : Term) : Bool := trmOk t && headFun t && decide (canon t = t)
theorem trmOk_ne {t : Term} (h : trmOk t = true) : t ≠ [] := by rintro rfl; simp [trmOk] at h
theorem question_no1 {t : Term} (h : trmOk t = false) : question t = false := by simp [question, h]
theorem question_no2 {t : Term} (h : headFun t = false) : question t = false := by simp [question, h]
theorem question_at {t : Term} (h : trmOk t = true) (h2 : headFun t = true) : question t = decide (canon t = t) := by simp [question, h, h2]
theorem l3Call_c (v : Value) (t : Term) (ok : Nat → Prop) (w : World) (hV : kCell.V w ok v t) :
    Calls Tryz.prog 124 #[v] w fun e w' => e = .returned (.bool (headFun t)) ∧ Below w.heap.size w w' := by
  obtain ⟨A, c, rfl, h1, h2, h3, hC, -⟩ := hV
  cases t with
  | nil =>
    clear hC
    simp only [List.length_nil] at *
    have hq : decide ((0 : Int) > ((0 : Nat) : Int)) = false := by decide
    go_enter Tryz.func124, Tryz.ntmps124
    go_wp2
    go_ret
    exact ⟨rfl, Below.refl _ _⟩
  | cons x r =>
    obtain ⟨b, off, rfl, _, x0, -, -, -⟩ := cell_at hC 0 (by simp)
    simp only [List.getElem_cons_zero, Nat.zero_mul, Nat.add_zero] at x0
    have hl : 0 < (x :: r).length := by simp
    generalize hn : (x :: r).length = n at *
    have HN := Sec.mk hn
    clear hn hC
    have i1 : (0 : Int) < (n : Int) := by omega
    have hq : decide ((n : Int) > 0) = true := decide_eq_true i1
    go_enter Tryz.func124, Tryz.ntmps124
    go_wp2
    go_ret
    exact ⟨rfl, Below.refl _ _⟩
theorem l4Top_c (v : Value) (t : Term) (ok : Nat → Prop) (w : World) (hV : kCell.V w ok v t) (hok : ∀ k, ok k → k < w.heap.size) :
    Calls Tryz.prog 51 #[v] w fun e w' => e = .returned (.bool (question t)) ∧ Below w.heap.size w w' := by
  have HV := Sec.mk hV
  have FV : ∀ {w' : World}, Below w.heap.size w w' → kCell.V w' ok v t := fun hb => Kd.V_below HV.out hb (by decide)
  obtain ⟨A, c, rfl, -⟩ := hV
  cases ht : trmOk t with
  | false =>
    rw [question_no1 ht]
    have H1 := Sec.mk ht
    clear ht
    go_enter Tryz.func51, Tryz.ntmps51
    go_wp2_with (go_at_call 12; refine (TrmOk_c _ t _ _ HV.out).mono ?_; rw [H1.out]; rintro e w1 ⟨rfl, hb⟩; have B1 := Sec.mk hb; clear hb)
    go_ret
    exact ⟨rfl, B1.out⟩
  | true =>
    cases hh : headFun t with
    | false =>
      rw [question_no2 hh]
      have H1 := Sec.mk ht
      have H2 := Sec.mk hh
      clear ht hh
      go_enter Tryz.func51, Tryz.ntmps51
      go_wp2_with (first | (go_at_call 12; refine (TrmOk_c _ t _ _ HV.out).mono ?_; rw [H1.out]; rintro e w1 ⟨rfl, hb⟩; have B1 := Sec.mk hb; clear hb) | (go_at_call 124; refine (l3Call_c _ t _ _ (FV B1.out)).mono ?_; rw [H2.out]; rintro e w2 ⟨rfl, hb⟩; have B2 := Sec.mk (bel B1.out hb); clear hb))
      go_ret
      exact ⟨rfl, B2.out⟩
    | true =>
      rw [question_at ht hh]
      generalize hq : decide (canon t = t) = q at *
      have HQ := Sec.mk hq
      have H1 := Sec.mk ht
      have H2 := Sec.mk hh
      clear ht hh hq
      go_enter Tryz.func51, Tryz.ntmps51
      go_wp2_with (first | (go_at_call 12; refine (TrmOk_c _ t _ _ HV.out).mono ?_; rw [H1.out]; rintro e w1 ⟨rfl, hb⟩; have B1 := Sec.mk hb; clear hb) | (go_at_call 124; refine (l3Call_c _ t _ _ (FV B1.out)).mono ?_; rw [H2.out]; rintro e w2 ⟨rfl, hb⟩; have B2 := Sec.mk (bel B1.out hb); clear hb) | (go_at_call 14; refine (TrmCanon_c _ t _ _ (FV B2.out)).mono ?_; rintro e w3 ⟨u, rfl, hR, hb⟩; have R3 := Sec.mk (Kd.R_V hR); have B3 := Sec.mk (bel B2.out hb); clear hR hb) | (go_at_call 125; refine (TrmSame_c _ _ (canon t) t _ _ _ R3.out (FV B3.out)).mono ?_; rw [HQ.out]; rintro e w4 ⟨rfl, hb⟩; have B4 := Sec.mk (bel B3.out hb); clear hb))
      go_ret
      exact ⟨rfl, B4.out⟩
theorem called_i (v : Value) (t : Term) (ok : Nat → Prop) (w : World) (hV : kCell.V w ok v t) :
    Calls Tryz.prog 155 #[v] w fun e w' => e = .returned (.bool (trmOk t && headFun t)) ∧ Below w.heap.size w w' := by
  have HV := Sec.mk hV
  cases ht : trmOk t with
  | false =>
    rw [Bool.false_and]
    obtain ⟨A, c, rfl, -⟩ := hV
    have H1 := Sec.mk ht
    clear ht
    go_enter Tryz.func155, Tryz.ntmps155
    go_wp2_with (go_at_call 56; refine (TrmOk_i _ t _ _ HV.out).mono ?_; rw [H1.out]; rintro e w1 ⟨rfl, hb⟩; have B1 := Sec.mk hb; clear hb)
    go_ret
    exact ⟨rfl, B1.out⟩
  | true =>
    rw [Bool.true_and]
    obtain ⟨A, c, rfl, h1, h2, h3, hC, -⟩ := hV
    cases t with
    | nil => exact absurd rfl (trmOk_ne ht)
    | cons x r =>
      have H1 := Sec.mk ht
      clear ht
      have HC := Sec.mk hC
      obtain ⟨b, off, rfl, _, x0, -, -, -⟩ := cell_at hC 0 (by simp)
      clear x0
      have H0 : ∀ {w' : World}, Below w.heap.size w w' → w'.cell? ⟨b, off, none⟩ = some (.int .i64 x.kind) := fun hb => by
        obtain ⟨b', off', e, _, y0, -, -, -⟩ := cell_at (Kd.C_below HC.out hb (by decide)) 0 (by simp)
        simp only [List.getElem_cons_zero, Nat.zero_mul, Nat.add_zero] at y0
        cases e
        exact y0
      have hl : 0 < (x :: r).length := by simp
      have HT : Sec (headFun (x :: r) = (x.kind == 3)) := ⟨rfl⟩
      rw [HT.out]
      generalize hn : (x :: r).length = n at *
      generalize ht : (x :: r) = t at *
      have HN := Sec.mk hn
      clear hn hC ht
      have i1 : (0 : Int) < (n : Int) := by omega
      go_enter Tryz.func155, Tryz.ntmps155
      go_wp2_with (go_at_call 56; refine (TrmOk_i _ t _ _ HV.out).mono ?_; rw [H1.out]; rintro e w1 ⟨rfl, hb⟩; have x0 := H0 hb; have B1 := Sec.mk hb; clear hb)
      go_ret
      exact ⟨rfl, B1.out⟩
theorem isQuestion_i (v : Value) (t : Term) (ok : Nat → Prop) (w : World) (hV : kCell.V w ok v t) :
    Calls Tryz.prog 70 #[v] w fun e w' => e = .returned (.bool (question t)) ∧ Below w.heap.size w w' := by
  have HV := Sec.mk hV
  have FV : ∀ {w' : World}, Below w.heap.size w w' → kCell.V w' ok v t := fun hb => Kd.V_below HV.out hb (by decide)
  obtain ⟨A, c, rfl, -⟩ := hV
  have hc : question t = ((trmOk t && headFun t) && decide (canon t = t)) := rfl
  rw [hc]
  clear hc
  cases ht : (trmOk t && headFun t) with
  | false =>
    rw [Bool.false_and]
    have H1 := Sec.mk ht
    clear ht
    go_enter Tryz.func70, Tryz.ntmps70
    go_wp2_with (go_at_call 155; refine (called_i _ t _ _ HV.out).mono ?_; rw [H1.out]; rintro e w1 ⟨rfl, hb⟩; have B1 := Sec.mk hb; clear hb)
    go_ret
    exact ⟨rfl, B1.out⟩
  | true =>
    rw [Bool.true_and]
    have H1 := Sec.mk ht
    clear ht
    have hs : decide (t = canon t) = decide (canon t = t) := decide_eq_decide.2 eq_comm
    generalize hq : decide (canon t = t) = q at *
    have HQ := Sec.mk hs
    clear hs hq
    go_enter Tryz.func70, Tryz.ntmps70
    go_wp2_with (first | (go_at_call 155; refine (called_i _ t _ _ HV.out).mono ?_; rw [H1.out]; rintro e w1 ⟨rfl, hb⟩; have B1 := Sec.mk hb; clear hb) | (go_at_call 142; refine (TrmCanon_i _ t _ _ (FV B1.out)).mono ?_; rintro e w3 ⟨u, rfl, hR, hb⟩; have R3 := Sec.mk (Kd.R_V hR); have B3 := Sec.mk (bel B1.out hb); clear hR hb) | (go_at_call 141; refine (TrmSame_i _ _ t (canon t) _ _ _ (FV B3.out) R3.out).mono ?_; rw [HQ.out]; rintro e w4 ⟨rfl, hb⟩; have B4 := Sec.mk (bel B3.out hb); clear hb))
    go_ret
    exact ⟨rfl, B4.out⟩
end
section
open Go.RowKit
set_option linter.unusedVariables false
set_option maxRecDepth 100000
theorem kCell_K {w : World} {ok : Nat → Prop} {x : Cell} {cs : List Value} (h : kCell.K w ok x cs) : cs = [.int .i64 x.kind, .int .i64 x.n, .string x.name] ∧ x.name.size ≤ 1073741824 := kCell_open h
theorem kCell_f_kind : Kd.Fld kCell (Kd.int 3) 0 (fun x => x.kind) (fun x y => { x with kind := y }) := Kd.Fld.iso _ (Kd.Fld.fst (Kd.Fld.self _)) (fun _ _ => rfl)
theorem kCell_f_n : Kd.Fld kCell (Kd.int 3) 1 (fun x => x.n) (fun x y => { x with n := y }) := Kd.Fld.iso _ (Kd.Fld.snd (Kd.Fld.fst (Kd.Fld.self _))) (fun _ _ => rfl)
theorem kCell_f_name : Kd.Fld kCell (Kd.str 9) 2 (fun x => x.name) (fun x y => { x with name := y }) := Kd.Fld.iso _ (Kd.Fld.snd (Kd.Fld.snd (Kd.Fld.self _))) (fun _ _ => rfl)
def mCell : Mk Cell := ⟨fun x => 1 + 1 + 1, fun x k => ⟨k, k + 1, mt (k + 1 + 1)⟩⟩
theorem mCell_cnt (x : Cell) : mCell.cnt x = 1 + 1 + 1 := rfl
set_option maxHeartbeats 2000000 in
theorem markSCell_c (v : Value) (t : List Cell) (S : Nat → Prop) (k : Int) (hk : 0 ≤ k) (hk2 : k + mCell.cnts t ≤ 1000000000000000000) (w : World) (hR : kCell.R w S v t) :
    Calls Tryz.prog 28 #[v, .int .i64 k] w fun e w' => e = .returned (.int .i64 (k + mCell.cnts t)) ∧ kCell.R w' S v (mCell.mks t k) ∧ Foot S w w' := by
  obtain ⟨A, cp, hv, g1, g2⟩ := Kd.R_form hR
  subst hv
  have h3 : t.length ≤ 1073741824 := hR.1
  have HR := Sec.mk hR
  have hu := Tryz.underlying39
  clear hR
  have HN := Sec.mk (mCell.cnts_take t)
  have HM := Sec.mk (mCell.cnts_le t)
  have HX := Sec.mk (mCell.next t k)
  go_enter Tryz.func28, Tryz.ntmps28
  go_wp2
  go_loopw [1, 5] (fun kv iv wr => ∃ i : Nat, i ≤ t.length ∧ iv = .int .i64 i ∧ kv = .int .i64 (k + ↑(mCell.cnts (t.take i))) ∧ Sec (kCell.R wr S (.slice A t.length cp) (mCell.mks (t.take i) k ++ t.drop i)) ∧ Sec (Foot S w wr)) (fun _ iv _ => t.length - (intOf iv).toNat)
  case atStart => exact ⟨0, Nat.zero_le _, rfl, by simp [Mk.cnts], ⟨by simpa [Mk.mks] using HR.out⟩, ⟨Foot.refl _ _⟩⟩
  case round =>
    obtain ⟨i, hi, rfl, rfl, hM, hF⟩ := hrel
    by_cases hlt : i < t.length
    · have hL : (mCell.mks (t.take i) k ++ t.drop i).length = t.length := mCell.len_ t k i
      have hil : i < (mCell.mks (t.take i) k ++ t.drop i).length := by omega
      obtain ⟨b, rfl, -, hSb, hbb, -⟩ := Kd.R_block hM.out (by omega)
      obtain ⟨cs, hA, -⟩ := Kd.At.of_R hM.out hil
      rw [mCell.at_ t k i hlt] at hA
      have hnext := Sec.mk (HX.out i hlt)
      have hn1 := HN.out i hlt
      have hn2 := HM.out (i + 1)
      rw [hn1] at hn2
      have HN1 := Sec.mk hn1
      have F0 := hF
      clear hM hn1 hL
      generalize mCell.mks (t.take i) k ++ t.drop i = L at *
      generalize t[i] = x at *
      generalize mCell.cnts (t.take i) = c at *
      have hcx : Sec (mCell.cnt x = _) := ⟨mCell_cnt x⟩
      rw [mCell_cnt x] at hn2
      have hAt := hA
      obtain ⟨rfl, -⟩ := kCell_K hA.K
      have A0 := Sec.mk hA
      clear hA hAt
      have c0_0 : wr.cell? ⟨b, i * 3, none⟩ = some (.int .i64 x.kind) := Kd.At.cell A0.out 0 _ rfl
      have c0_1 : wr.cell? ⟨b, i * 3 + 1, none⟩ = some (.int .i64 x.n) := Kd.At.cell A0.out 1 _ rfl
      have c0_2 : wr.cell? ⟨b, i * 3 + 2, none⟩ = some (.string x.name) := Kd.At.cell A0.out 2 _ rfl
      have f0_0 : wr.frozen? ⟨b, i * 3, none⟩ = false := Kd.At.frozen A0.out (i * 3)
      have f0_1 : wr.frozen? ⟨b, i * 3 + 1, none⟩ = false := Kd.At.frozen A0.out (i * 3 + 1)
      have f0_2 : wr.frozen? ⟨b, i * 3 + 2, none⟩ = false := Kd.At.frozen A0.out (i * 3 + 2)
      have A1 : Sec (Kd.At kCell (wr.setCell ⟨b, i * 3, none⟩ (.int .i64 (k + (c : Int)))) S b t.length cp L i ⟨k + (c : Int), x.n, x.name⟩ [.int .i64 (k + (c : Int)), .int .i64 x.n, .string x.name]) := ⟨Kd.At.store (e := (Kd.int 3)) A0.out kCell_f_kind rfl (k + (c : Int)) (.int .i64 (k + (c : Int))) (fun _ _ => ⟨rfl, trivial⟩)⟩
      have F1 : Sec (Foot S w (wr.setCell ⟨b, i * 3, none⟩ (.int .i64 (k + (c : Int))))) := ⟨F0.out.set (g := b) (.inl hSb) (i * 3) (.int .i64 (k + (c : Int)))⟩
      have A2 : Sec (Kd.At kCell ((wr.setCell ⟨b, i * 3, none⟩ (.int .i64 (k + (c : Int)))).setCell ⟨b, i * 3 + 1, none⟩ (.int .i64 (k + (c : Int) + 1))) S b t.length cp L i ⟨k + (c : Int), k + (c : Int) + 1, x.name⟩ [.int .i64 (k + (c : Int)), .int .i64 (k + (c : Int) + 1), .string x.name]) := ⟨Kd.At.store (e := (Kd.int 3)) A1.out kCell_f_n rfl (k + (c : Int) + 1) (.int .i64 (k + (c : Int) + 1)) (fun _ _ => ⟨rfl, trivial⟩)⟩
      have F2 : Sec (Foot S w ((wr.setCell ⟨b, i * 3, none⟩ (.int .i64 (k + (c : Int)))).setCell ⟨b, i * 3 + 1, none⟩ (.int .i64 (k + (c : Int) + 1)))) := ⟨F1.out.set (g := b) (.inl hSb) (i * 3 + 1) (.int .i64 (k + (c : Int) + 1))⟩
      have T0 : Sec True := ⟨trivial⟩
      go_wp2_with (first | (clear T0; go_at_call 82; have T1 : Sec True := ⟨trivial⟩; refine (markText_c (k + (c : Int) + 1 + 1) (by omega) _).mono ?_; rintro e w1 ⟨rfl, hz, hb'⟩; have A3 : Sec (Kd.At kCell w1 S b t.length cp L i ⟨k + (c : Int), k + (c : Int) + 1, x.name⟩ [.int .i64 (k + (c : Int)), .int .i64 (k + (c : Int) + 1), .string x.name]) := ⟨Kd.At.below A2.out hb'⟩; have F3 : Sec (Foot S w w1) := ⟨F2.out.trans (Foot.of_below (S := S) hb') (fun _ _ h => h)⟩; clear hb'; clear c0_0 f0_0 c0_1 f0_1 c0_2 f0_2; have c1_0 : w1.cell? ⟨b, i * 3, none⟩ = some (.int .i64 (k + (c : Int))) := Kd.At.cell A3.out 0 _ rfl; have c1_1 : w1.cell? ⟨b, i * 3 + 1, none⟩ = some (.int .i64 (k + (c : Int) + 1)) := Kd.At.cell A3.out 1 _ rfl; have c1_2 : w1.cell? ⟨b, i * 3 + 2, none⟩ = some (.string x.name) := Kd.At.cell A3.out 2 _ rfl; have f1_0 : w1.frozen? ⟨b, i * 3, none⟩ = false := Kd.At.frozen A3.out (i * 3); have f1_1 : w1.frozen? ⟨b, i * 3 + 1, none⟩ = false := Kd.At.frozen A3.out (i * 3 + 1); have f1_2 : w1.frozen? ⟨b, i * 3 + 2, none⟩ = false := Kd.At.frozen A3.out (i * 3 + 2); have A4 : Sec (Kd.At kCell (w1.setCell ⟨b, i * 3 + 2, none⟩ (.string (mt (k + (c : Int) + 1 + 1)))) S b t.length cp L i ⟨k + (c : Int), k + (c : Int) + 1, (mt (k + (c : Int) + 1 + 1))⟩ [.int .i64 (k + (c : Int)), .int .i64 (k + (c : Int) + 1), .string (mt (k + (c : Int) + 1 + 1))]) := ⟨Kd.At.store (e := (Kd.str 9)) A3.out kCell_f_name rfl (mt (k + (c : Int) + 1 + 1)) (.string (mt (k + (c : Int) + 1 + 1))) (fun _ _ => ⟨rfl, hz⟩)⟩; have F4 : Sec (Foot S w (w1.setCell ⟨b, i * 3 + 2, none⟩ (.string (mt (k + (c : Int) + 1 + 1))))) := ⟨F3.out.set (g := b) (.inl hSb) (i * 3 + 2) (.string (mt (k + (c : Int) + 1 + 1)))⟩; clear hz))
      go_roundw
      case rel => exact ⟨i + 1, by omega, by go_num, by rw [HN1.out, hcx.out]; congr 1; omega, ⟨by rw [← hnext.out]; exact A4.out.R⟩, F4⟩
      case measure => simp [intOf]; omega
    · have hfin : Sec (mCell.mks (t.take i) k ++ t.drop i = mCell.mks t k) := ⟨by rw [List.take_of_length_le (by omega), List.drop_of_length_le (by omega), List.append_nil]⟩
      have hM2 := hM.out
      rw [hfin.out] at hM2
      have HM2 := Sec.mk hM2
      have hi2 : Sec (k + ↑(mCell.cnts (t.take i)) = k + ↑(mCell.cnts t)) := ⟨by rw [List.take_of_length_le (by omega)]⟩
      clear hM2 hM hfin
      go_wp2
      go_ret
      exact ⟨ri hi2.out, HM2.out, hF.out⟩
theorem rCell_le6 (x : Cell) : mCell.cnt x ≤ 8 + 8 * rCell.wt x := by rw [mCell_cnt]; omega
set_option maxHeartbeats 1000000 in
theorem heldSCell_c (v : Value) (t : List Cell) (ok : Nat → Prop) (k : Int) (hk : 0 ≤ k) (hk2 : k + mCell.cnts t ≤ 1000000000000000000) (w : World) (hV : kCell.V w ok v (mCell.mks t k)) :
    Calls Tryz.prog 88 #[v, .int .i64 k] w fun e w' => e = .returned (.int .i64 (k + mCell.cnts t)) ∧ Below w.heap.size w w' := by
  obtain ⟨A, cp, rfl, g1, g2, g3, hC, _⟩ := hV
  rw [Mk.mks_len] at g1 g3
  rw [Mk.mks_len]
  have HC := Sec.mk hC
  have hu := Tryz.underlying39
  clear hC
  have HN := Sec.mk (mCell.cnts_take t)
  have HM := Sec.mk (mCell.cnts_le t)
  have HG := Sec.mk (mCell.get t k)
  have HLn := Sec.mk (mCell.mks_len t k)
  go_enter Tryz.func88, Tryz.ntmps88
  go_wp2
  go_loopw [1, 5] (fun kv iv wr => ∃ i : Nat, i ≤ t.length ∧ iv = .int .i64 i ∧ kv = .int .i64 (k + ↑(mCell.cnts (t.take i))) ∧ Sec (Below w.heap.size w wr)) (fun _ iv _ => t.length - (intOf iv).toNat)
  case atStart => exact ⟨0, Nat.zero_le _, rfl, by simp [Mk.cnts], ⟨Below.refl _ _⟩⟩
  case round =>
    obtain ⟨i, hi, rfl, rfl, hb⟩ := hrel
    by_cases hlt : i < t.length
    · obtain ⟨b, off, cs, rfl, hob, hK, hc⟩ := Kd.C_get HC.out (List.getElem?_eq_getElem (by rw [HLn.out]; exact hlt))
      rw [HG.out i hlt] at hK
      have hn1 := HN.out i hlt
      have hn2 := HM.out (i + 1)
      rw [hn1] at hn2
      have HN1 := Sec.mk hn1
      clear hn1
      generalize t[i] = x at *
      generalize mCell.cnts (t.take i) = c at *
      have hcx : Sec (mCell.cnt x = _) := ⟨mCell_cnt x⟩
      rw [mCell_cnt x] at hn2
      obtain ⟨rfl, -⟩ := kCell_K hK
      have hat : Sec (∀ W : World, Below w.heap.size w W → W.cell? ⟨b, off + i * 3, none⟩ = some (.int .i64 (k + (c : Int))) ∧ W.cell? ⟨b, off + i * 3 + 1, none⟩ = some (.int .i64 (k + (c : Int) + 1)) ∧ W.cell? ⟨b, off + i * 3 + 2, none⟩ = some (.string (mt (k + (c : Int) + 1 + 1)))) := ⟨fun W h => ⟨Raw.cell_below h (hc 0 _ rfl), Raw.cell_below h (hc 1 _ rfl), Raw.cell_below h (hc 2 _ rfl)⟩⟩
      have i0 : (0 : Int) ≤ (i : Int) := by omega
      have i1 : (i : Int) < (t.length : Int) := by omega
      clear hc hK
      obtain ⟨c0, c1, c2⟩ := hat.out _ hb.out
      have B0 := hb
      go_wp2
      go_region_held3 (fun W => W.cell? ⟨b, off + i * 3, none⟩ = some (.int .i64 (k + (c : Int))) ∧ W.cell? ⟨b, off + i * 3 + 1, none⟩ = some (.int .i64 (k + (c : Int) + 1)) ∧ W.cell? ⟨b, off + i * 3 + 2, none⟩ = some (.string (mt (k + (c : Int) + 1 + 1))))
          (first | (refine ⟨?_, ?_, ?_⟩ <;> assumption) | go_keep)
          (first | (go_at_call 82; refine (markText_c (k + (c : Int) + 1 + 1) (by omega) _).mono ?_; rintro e w1 ⟨rfl, hz, hb1⟩; have B1 := Sec.mk (bel (belD hb.out) hb1); clear c0 c1 c2; obtain ⟨c0, c1, c2⟩ := hat.out _ B1.out; clear hb1))
      all_goals
        go_wp2
        go_roundw
        case rel => exact ⟨i + 1, by omega, by go_num, by rw [HN1.out, hcx.out]; congr 1; omega, B1⟩
        case measure => simp [intOf]; omega
    · have hi2 : Sec (k + ↑(mCell.cnts (t.take i)) = k + ↑(mCell.cnts t)) := ⟨by rw [List.take_of_length_le (by omega)]⟩
      go_wp2
      go_ret
      exact ⟨ri hi2.out, hb.out⟩
end
section
open Go.RowKit
set_option linter.unusedVariables false
set_option maxRecDepth 100000
def kGoal : Kd Goal := Kd.iso 100 (Kd.pair (Kd.int 3) (Kd.pair (Kd.slice 23 kCell (by decide)) (Kd.pair (Kd.slice 23 kCell (by decide)) (Kd.slice 23 kCell (by decide))))) (fun x => (x.kind, x.a, x.b, x.c))
theorem kGoal_K {w : World} {ok : Nat → Prop} {x : Goal} {cs : List Value} (h : kGoal.K w ok x cs) : ∃ v1 v2 v3, cs = [.int .i64 x.kind, v1, v2, v3] ∧ kCell.V w ok v1 x.a ∧ kCell.V w ok v2 x.b ∧ kCell.V w ok v3 x.c := by
  obtain ⟨_, _, rfl, ⟨rfl, _⟩, ⟨_, _, rfl, ⟨v1, rfl, h1⟩, ⟨_, _, rfl, ⟨v2, rfl, h2⟩, ⟨v3, rfl, h3⟩⟩⟩⟩ := h
  exact ⟨v1, v2, v3, rfl, h1, h2, h3⟩
def rGoal : Raw Goal := Raw.iso 273 (Raw.pair (Raw.int 3) (Raw.pair (Raw.slice 50 rCell) (Raw.pair (Raw.slice 50 rCell) (Raw.slice 50 rCell)))) (fun x => (x.kind, x.a, x.b, x.c))
theorem rGoal_K {w : World} {x : Goal} {cs : List Value} (h : rGoal.K w x cs) : ∃ v1 v2 v3, cs = [.int .i64 x.kind, v1, v2, v3] ∧ rCell.V w v1 x.a ∧ rCell.V w v2 x.b ∧ rCell.V w v3 x.c := by
  obtain ⟨_, _, rfl, ⟨rfl, _⟩, ⟨_, _, rfl, ⟨v1, rfl, h1⟩, ⟨_, _, rfl, ⟨v2, rfl, h2⟩, ⟨v3, rfl, h3⟩⟩⟩⟩ := h
  exact ⟨v1, v2, v3, rfl, h1, h2, h3⟩
theorem rGoal_mono : Raw.Mono rGoal := Raw.mono_iso (Raw.mono_pair Raw.mono_scalar (Raw.mono_pair (Raw.mono_slice rCell_mono) (Raw.mono_pair (Raw.mono_slice rCell_mono) (Raw.mono_slice rCell_mono))))
theorem rGoal_wt (x : Goal) : rGoal.wt x = (HAdd.hAdd 0 (HAdd.hAdd (rCell.wts x.a) (HAdd.hAdd (rCell.wts x.b) (rCell.wts x.c)))) := rfl
theorem rGoal_fits : Raw.Fits rGoal kGoal := Raw.fits_iso (Raw.fits_pair (Raw.fits_int _ _) (Raw.fits_pair (Raw.fits_slice rCell_fits _ _ (by decide)) (Raw.fits_pair (Raw.fits_slice rCell_fits _ _ (by decide)) (Raw.fits_slice rCell_fits _ _ (by decide))))) _ _ _
theorem rGoal_opn : Raw.Opn Tryz.prog rGoal := Raw.opn_struct Tryz.underlying273 (by kernel_rfl) (fun b => ⟨⟨b.1, b.2.1, b.2.2.1, b.2.2.2⟩, rfl⟩) (Raw.opnF_cons (Raw.opn_int Tryz.underlying3) rfl rfl (by kernel_rfl) (by decide) (Raw.opnF_cons (Raw.opn_slice (r := rCell) Tryz.underlying50 (by kernel_rfl) (by decide) rCell_opn) rfl rfl (by kernel_rfl) (by decide) (Raw.opnF_cons (Raw.opn_slice (r := rCell) Tryz.underlying50 (by kernel_rfl) (by decide) rCell_opn) rfl rfl (by kernel_rfl) (by decide) (Raw.opnF_last (Raw.opn_slice (r := rCell) Tryz.underlying50 (by kernel_rfl) (by decide) rCell_opn) rfl rfl (by kernel_rfl) (by decide)))))
theorem Goal.ext_iff (a b : Goal) : a = b ↔ a.kind = b.kind ∧ a.a = b.a ∧ a.b = b.b ∧ a.c = b.c := by
  cases a; cases b; simp
instance : DecidableEq Goal := fun a b => decidable_of_iff _ (Goal.ext_iff a b).symm
def zeroGoal : Goal := ⟨0, [], [], []⟩
theorem kGoal_zero (w : World) : kGoal.O w (fun _ => False) zeroGoal [.int .i64 0, .slice none 0 0, .slice none 0 0, .slice none 0 0] := (Kd.O_pair0 (d := (Kd.int 3)) (e := (Kd.pair (Kd.slice 23 kCell (by decide)) (Kd.pair (Kd.slice 23 kCell (by decide)) (Kd.slice 23 kCell (by decide))))) ⟨rfl, trivial⟩ (Kd.O_pair0 (d := (Kd.slice 23 kCell (by decide))) (e := (Kd.pair (Kd.slice 23 kCell (by decide)) (Kd.slice 23 kCell (by decide)))) ⟨_, rfl, Kd.R_nil _ _ _⟩ (Kd.O_pair0 (d := (Kd.slice 23 kCell (by decide))) (e := (Kd.slice 23 kCell (by decide))) ⟨_, rfl, Kd.R_nil _ _ _⟩ ⟨_, rfl, Kd.R_nil _ _ _⟩)))
theorem kGoal_f_kind : Kd.Fld kGoal (Kd.int 3) 0 (fun x => x.kind) (fun x y => { x with kind := y }) := Kd.Fld.iso _ (Kd.Fld.fst (Kd.Fld.self _)) (fun _ _ => rfl)
theorem kGoal_f_a : Kd.Fld kGoal (Kd.slice 23 kCell (by decide)) 1 (fun x => x.a) (fun x y => { x with a := y }) := Kd.Fld.iso _ (Kd.Fld.snd (Kd.Fld.fst (Kd.Fld.self _))) (fun _ _ => rfl)
theorem kGoal_f_b : Kd.Fld kGoal (Kd.slice 23 kCell (by decide)) 2 (fun x => x.b) (fun x y => { x with b := y }) := Kd.Fld.iso _ (Kd.Fld.snd (Kd.Fld.snd (Kd.Fld.fst (Kd.Fld.self _)))) (fun _ _ => rfl)
theorem kGoal_f_c : Kd.Fld kGoal (Kd.slice 23 kCell (by decide)) 3 (fun x => x.c) (fun x y => { x with c := y }) := Kd.Fld.iso _ (Kd.Fld.snd (Kd.Fld.snd (Kd.Fld.snd (Kd.Fld.self _)))) (fun _ _ => rfl)
theorem szPrgGoal_c (x : Goal) (cs : List Value) (left : Nat) (hl : left ≤ 1048576) (w : World) (hK : rGoal.K w x cs) :
    Calls Tryz.prog 231 #[.agg cs.toArray, .int .i64 left] w fun e w' => e = .returned (.int .i64 (Raw.spent (rGoal.wt x) left)) ∧ Below w.heap.size w w' := by
  obtain ⟨_, _, rfl, ⟨rfl, _⟩, ⟨_, _, rfl, ⟨v1, rfl, h1⟩, ⟨_, _, rfl, ⟨v2, rfl, h2⟩, ⟨v3, rfl, h3⟩⟩⟩⟩ := hK
  have H1 := Sec.mk h1
  clear h1
  have H2 := Sec.mk h2
  clear h2
  have H3 := Sec.mk h3
  clear h3
  have hu := Tryz.underlying273
  have hb0 := hl
  have T0 : Sec True := ⟨trivial⟩
  by_cases e0 : rCell.wts x.a ≤ left
  · have s0 := Raw.spent_le e0
    have L0 := Sec.mk (show (left - rCell.wts x.a) + rCell.wts x.a = left by omega)
    have hb1 : left - rCell.wts x.a ≤ 1048576 := by omega
    generalize left - rCell.wts x.a = l0 at *
    have n0 : ¬ ((l0 : Int) < 0) := by omega
    by_cases e1 : rCell.wts x.b ≤ l0
    · have s1 := Raw.spent_le e1
      have L1 := Sec.mk (show (l0 - rCell.wts x.b) + rCell.wts x.b = l0 by omega)
      have hb2 : l0 - rCell.wts x.b ≤ 1048576 := by omega
      generalize l0 - rCell.wts x.b = l1 at *
      have n1 : ¬ ((l1 : Int) < 0) := by omega
      by_cases e2 : rCell.wts x.c ≤ l1
      · have s2 := Raw.spent_le e2
        have L2 := Sec.mk (show (l1 - rCell.wts x.c) + rCell.wts x.c = l1 by omega)
        have hb3 : l1 - rCell.wts x.c ≤ 1048576 := by omega
        generalize l1 - rCell.wts x.c = l2 at *
        have n2 : ¬ ((l2 : Int) < 0) := by omega
        have hfin : Sec ((l2 : Int) = Raw.spent (rGoal.wt x) left) := ⟨by rw [Raw.spent_le (by rw [rGoal_wt]; have := L0.out; have := L1.out; have := L2.out; omega), rGoal_wt]; have := L0.out; have := L1.out; have := L2.out; omega⟩
        go_enter Tryz.func231, Tryz.ntmps231
        go_wp2_with (first | (clear T2; go_at_call 19; have T3 : Sec True := ⟨trivial⟩; refine (szSCell_c v3 x.c l1 hb2 _ (Raw.mono_V rCell_mono B1.out H3.out)).mono ?_; rintro e w3 ⟨rfl, hb1⟩; rw [s2]; have B2 := Sec.mk (bel B1.out hb1); have Q := box_cells hb1 (P1.out.1); have P2 := Sec.mk Q; clear Q hb1) | (clear T1; go_at_call 19; have T2 : Sec True := ⟨trivial⟩; refine (szSCell_c v2 x.b l0 hb1 _ (Raw.mono_V rCell_mono B0.out H2.out)).mono ?_; rintro e w2 ⟨rfl, hb1⟩; rw [s1]; have B1 := Sec.mk (bel B0.out hb1); have Q := box_cells hb1 (P0.out.1); have c1_0 := Q.2.1 0 _ rfl; have c1_1 := Q.2.1 1 _ rfl; have c1_2 := Q.2.1 2 _ rfl; have c1_3 := Q.2.1 3 _ rfl; have P1 := Sec.mk Q; clear Q hb1) | (clear T0; go_at_call 19; have T1 : Sec True := ⟨trivial⟩; refine (szSCell_c v1 x.a left hb0 _ (Raw.mono_V rCell_mono (belA (Below.refl _ _) _) H1.out)).mono ?_; rintro e w1 ⟨rfl, hb1⟩; rw [s0]; have B0 := Sec.mk (bel (belA (Below.refl _ _) _) hb1); have Q := box_cells hb1 (box1 _ _); have c0_0 := Q.2.1 0 _ rfl; have c0_1 := Q.2.1 1 _ rfl; have c0_2 := Q.2.1 2 _ rfl; have c0_3 := Q.2.1 3 _ rfl; have P0 := Sec.mk Q; clear Q hb1))
        go_ret
        exact ⟨ri hfin.out, B2.out⟩
      · have s2 := Raw.spent_gt e2
        have hfin : Sec (Raw.spent (rGoal.wt x) left = -1) := ⟨Raw.spent_gt (by rw [rGoal_wt]; have := L0.out; have := L1.out; omega)⟩
        go_enter Tryz.func231, Tryz.ntmps231
        go_wp2_with (first | (clear T2; go_at_call 19; have T3 : Sec True := ⟨trivial⟩; refine (szSCell_c v3 x.c l1 hb2 _ (Raw.mono_V rCell_mono B1.out H3.out)).mono ?_; rintro e w3 ⟨rfl, hb1⟩; rw [s2]; have B2 := Sec.mk (bel B1.out hb1); have Q := box_cells hb1 (P1.out.1); have P2 := Sec.mk Q; clear Q hb1) | (clear T1; go_at_call 19; have T2 : Sec True := ⟨trivial⟩; refine (szSCell_c v2 x.b l0 hb1 _ (Raw.mono_V rCell_mono B0.out H2.out)).mono ?_; rintro e w2 ⟨rfl, hb1⟩; rw [s1]; have B1 := Sec.mk (bel B0.out hb1); have Q := box_cells hb1 (P0.out.1); have c1_0 := Q.2.1 0 _ rfl; have c1_1 := Q.2.1 1 _ rfl; have c1_2 := Q.2.1 2 _ rfl; have c1_3 := Q.2.1 3 _ rfl; have P1 := Sec.mk Q; clear Q hb1) | (clear T0; go_at_call 19; have T1 : Sec True := ⟨trivial⟩; refine (szSCell_c v1 x.a left hb0 _ (Raw.mono_V rCell_mono (belA (Below.refl _ _) _) H1.out)).mono ?_; rintro e w1 ⟨rfl, hb1⟩; rw [s0]; have B0 := Sec.mk (bel (belA (Below.refl _ _) _) hb1); have Q := box_cells hb1 (box1 _ _); have c0_0 := Q.2.1 0 _ rfl; have c0_1 := Q.2.1 1 _ rfl; have c0_2 := Q.2.1 2 _ rfl; have c0_3 := Q.2.1 3 _ rfl; have P0 := Sec.mk Q; clear Q hb1))
        go_ret
        exact ⟨ri hfin.out.symm, B2.out⟩
    · have s1 := Raw.spent_gt e1
      have hfin : Sec (Raw.spent (rGoal.wt x) left = -1) := ⟨Raw.spent_gt (by rw [rGoal_wt]; have := L0.out; omega)⟩
      go_enter Tryz.func231, Tryz.ntmps231
      go_wp2_with (first | (clear T1; go_at_call 19; have T2 : Sec True := ⟨trivial⟩; refine (szSCell_c v2 x.b l0 hb1 _ (Raw.mono_V rCell_mono B0.out H2.out)).mono ?_; rintro e w2 ⟨rfl, hb1⟩; rw [s1]; have B1 := Sec.mk (bel B0.out hb1); have Q := box_cells hb1 (P0.out.1); have P1 := Sec.mk Q; clear Q hb1) | (clear T0; go_at_call 19; have T1 : Sec True := ⟨trivial⟩; refine (szSCell_c v1 x.a left hb0 _ (Raw.mono_V rCell_mono (belA (Below.refl _ _) _) H1.out)).mono ?_; rintro e w1 ⟨rfl, hb1⟩; rw [s0]; have B0 := Sec.mk (bel (belA (Below.refl _ _) _) hb1); have Q := box_cells hb1 (box1 _ _); have c0_0 := Q.2.1 0 _ rfl; have c0_1 := Q.2.1 1 _ rfl; have c0_2 := Q.2.1 2 _ rfl; have c0_3 := Q.2.1 3 _ rfl; have P0 := Sec.mk Q; clear Q hb1))
      go_ret
      exact ⟨ri hfin.out.symm, B1.out⟩
  · have s0 := Raw.spent_gt e0
    have hfin : Sec (Raw.spent (rGoal.wt x) left = -1) := ⟨Raw.spent_gt (by rw [rGoal_wt]; omega)⟩
    go_enter Tryz.func231, Tryz.ntmps231
    go_wp2_with (first | (clear T0; go_at_call 19; have T1 : Sec True := ⟨trivial⟩; refine (szSCell_c v1 x.a left hb0 _ (Raw.mono_V rCell_mono (belA (Below.refl _ _) _) H1.out)).mono ?_; rintro e w1 ⟨rfl, hb1⟩; rw [s0]; have B0 := Sec.mk (bel (belA (Below.refl _ _) _) hb1); have Q := box_cells hb1 (box1 _ _); have P0 := Sec.mk Q; clear Q hb1))
    go_ret
    exact ⟨ri hfin.out.symm, B0.out⟩
set_option maxHeartbeats 1000000 in
theorem szSGoal_c (v : Value) (t : List Goal) (left : Nat) (hl : left ≤ 1048576) (w : World) (hV : rGoal.V w v t) :
    Calls Tryz.prog 198 #[v, .int .i64 left] w fun e w' => e = .returned (.int .i64 (Raw.spent (rGoal.wts t) left)) ∧ Below w.heap.size w w' := by
  obtain ⟨A, c, rfl, h1, h2, hC, _⟩ := hV
  have HC := Sec.mk hC
  clear hC
  have h3 : t.length ≤ 9223372036854775807 := by have : c ≤ 9223372036854775807 := by simpa [maxLen] using h2
                                                 omega
  have hu2 := Tryz.underlying273
  by_cases hlen : t.length ≤ left
  · obtain ⟨l1, hl1⟩ : ∃ l1 : Nat, (left : Int) - t.length = l1 := ⟨left - t.length, by omega⟩
    have hl2 : l1 + t.length = left := by omega
    have HL := Sec.mk hl1
    have HS : Sec (∀ (k : Nat) (hk : k < t.length), ((t.take (k + 1)).map rGoal.wt).sum = ((t.take k).map rGoal.wt).sum + rGoal.wt t[k] ∧ ((t.take (k + 1)).map rGoal.wt).sum ≤ (t.map rGoal.wt).sum) := ⟨fun k hk => ⟨Raw.wts_take _ _ _ hk, Raw.wts_take_le _ _ _⟩⟩
    go_enter Tryz.func198, Tryz.ntmps198
    go_wp2
    go_loopw [1, 5] (fun l i wr => ∃ k m : Nat, k ≤ t.length ∧ i = .int .i64 k ∧ l = .int .i64 m ∧ m ≤ 1048576 ∧ Sec (m + ((t.take k).map rGoal.wt).sum = l1) ∧ Sec (Below w.heap.size w wr)) (fun _ i _ => t.length - (intOf i).toNat)
    case atStart => exact ⟨0, l1, Nat.zero_le _, rfl, rfl, by omega, ⟨by simp⟩, ⟨Below.refl _ _⟩⟩
    case round =>
      obtain ⟨k, m, hk, rfl, rfl, hm, hM, hb⟩ := hrel
      by_cases hlt : k < t.length
      · obtain ⟨b, off, cs, rfl, hK, hc⟩ := Raw.C_get HC.out k hlt
        obtain ⟨s1, s2⟩ := HS.out k hlt
        have S1 := Sec.mk s1
        have S2 := Sec.mk s2
        clear s1 s2
        generalize t[k] = x at *
        have HK := Sec.mk hK
        obtain ⟨v1, v2, v3, rfl, -, -, -⟩ := rGoal_K hK
        have c0 : wr.cell? ⟨b, off + k * 4, none⟩ = some (.int .i64 x.kind) := Raw.cell_below hb.out (hc 0 _ rfl)
        have c1 : wr.cell? ⟨b, off + k * 4 + 1, none⟩ = some (v1) := Raw.cell_below hb.out (hc 1 _ rfl)
        have c2 : wr.cell? ⟨b, off + k * 4 + 2, none⟩ = some (v2) := Raw.cell_below hb.out (hc 2 _ rfl)
        have c3 : wr.cell? ⟨b, off + k * 4 + 3, none⟩ = some (v3) := Raw.cell_below hb.out (hc 3 _ rfl)
        clear hc hK
        by_cases hx : rGoal.wt x ≤ m
        · have e1 := Raw.spent_le hx
          have e2 : ¬ (((m - rGoal.wt x : Nat) : Int) < 0) := by omega
          generalize hm2 : m - rGoal.wt x = m2 at *
          have HM2 : Sec (m2 + ((t.take (k + 1)).map rGoal.wt).sum = l1) := ⟨by rw [S1.out]; have := hM.out; omega⟩
          have hm3 : m2 ≤ 1048576 := by omega
          clear hm2
          go_wp2_with (go_at_call 231; refine (szPrgGoal_c x _ m hm wr (rGoal_mono _ _ _ _ hb.out HK.out)).mono ?_; rintro e w1 ⟨rfl, hb1⟩; have B1 := Sec.mk (bel hb.out hb1); rw [e1]; clear c0 c1 c2 c3)
          go_roundw
          case rel => exact ⟨k + 1, m2, by omega, by go_num, rfl, hm3, HM2, B1⟩
          case measure => simp [intOf]; omega
        · have e1 := Raw.spent_gt hx
          have hfin : Sec (Raw.spent (rGoal.wts t) left = -1) := ⟨Raw.spent_gt (by unfold Raw.wts; have := S1.out; have := S2.out; have := hM.out; omega)⟩
          go_wp2_with (go_at_call 231; refine (szPrgGoal_c x _ m hm wr (rGoal_mono _ _ _ _ hb.out HK.out)).mono ?_; rintro e w1 ⟨rfl, hb1⟩; have B1 := Sec.mk (bel hb.out hb1); rw [e1]; clear c0 c1 c2 c3)
          go_ret
          exact ⟨ri hfin.out.symm, B1.out⟩
      · have hfin : Sec ((m : Int) = Raw.spent (rGoal.wts t) left) := ⟨by
          have h1 := hM.out
          rw [List.take_of_length_le (by omega)] at h1
          rw [Raw.spent_le (by unfold Raw.wts; omega)]
          unfold Raw.wts
          omega⟩
        go_wp2
        go_ret
        exact ⟨ri hfin.out, hb.out⟩
  · have hfin : Sec (Raw.spent (rGoal.wts t) left = -1) := ⟨Raw.spent_gt (by unfold Raw.wts; omega)⟩
    go_enter Tryz.func198, Tryz.ntmps198
    go_wp2
    go_ret
    exact ⟨ri hfin.out.symm, Below.refl _ _⟩
set_option maxHeartbeats 1000000 in
theorem toPrgGoal_c (x : Goal) (cs : List Value) (ok : Nat → Prop) (w : World) (hK : kGoal.K w ok x cs) :
    Calls Tryz.prog 232 #[.agg cs.toArray] w fun e w' => ∃ c : List Value, e = .returned (.agg c.toArray) ∧ kGoal.O w' (fun k => w.heap.size ≤ k) x c ∧ Below w.heap.size w w' := by
  obtain ⟨_, _, rfl, ⟨rfl, _⟩, ⟨_, _, rfl, ⟨v1, rfl, h1⟩, ⟨_, _, rfl, ⟨v2, rfl, h2⟩, ⟨v3, rfl, h3⟩⟩⟩⟩ := hK
  have H1 := Sec.mk h1
  clear h1
  have H2 := Sec.mk h2
  clear h2
  have H3 := Sec.mk h3
  clear h3
  have hu := Tryz.underlying273
  have hu2 := Tryz.underlying100
  have T0 : Sec True := ⟨trivial⟩
  go_enter Tryz.func232, Tryz.ntmps232
  go_wp2_with (first | (clear T2; go_at_call 22; have T3 : Sec True := ⟨trivial⟩; refine (toSCell_c v3 x.c ok _ (Kd.V_below H3.out (B2.out.setCell (p := ⟨w.heap.size + 1 + 1, 2, none⟩) (by show w.heap.size ≤ w.heap.size + 1 + 1; omega) _) (by decide))).mono ?_; rintro e w3 ⟨u3, rfl, hR, hb1⟩; obtain ⟨A3, n3, rfl, -, -⟩ := Kd.R_form hR; have Z3 : w2.heap.size ≤ w3.heap.size := (by have := hb1.size; simpa [World.setCell] using this); have R3 := Sec.mk (Kd.R_mono (S1 := fun k => w2.heap.size ≤ k ∧ k < w3.heap.size) hR (fun k h1 h2 => ⟨by simpa [World.setCell] using h1, h2⟩)); have G3 := Sec.mk (Foot.call ((Foot.refl (Own w 3) w2).set (.inl ⟨by omega, by omega⟩) _ _) hb1); have B3 := Sec.mk (bel (B2.out.setCell (p := ⟨w.heap.size + 1 + 1, 2, none⟩) (by show w.heap.size ≤ w.heap.size + 1 + 1; omega) _) hb1); have X := box_cells (b := w.heap.size) (cs := #[.int .i64 x.kind, v1, v2, v3]) (t := 273) hb1 ((Below.heap_setCell _ _ _ _ (by show w.heap.size ≠ w.heap.size + 1 + 1; omega)).trans P2.out.1); have p3_0 := X.2.1 0 _ rfl; have p3_1 := X.2.1 1 _ rfl; have p3_2 := X.2.1 2 _ rfl; have p3_3 := X.2.1 3 _ rfl; have P3 := Sec.mk X; clear X; have X := box_cells (b := w.heap.size + 1) (cs := #[.int .i64 0, .slice none 0 0, .slice none 0 0, .slice none 0 0]) (t := 100) hb1 ((Below.heap_setCell _ _ _ _ (by show w.heap.size + 1 ≠ w.heap.size + 1 + 1; omega)).trans Q2.out.1); have q3_0 := X.2.1 0 _ rfl; have qf3_0 := X.2.2 0; have q3_1 := X.2.1 1 _ rfl; have qf3_1 := X.2.2 1; have q3_2 := X.2.1 2 _ rfl; have qf3_2 := X.2.2 2; have q3_3 := X.2.1 3 _ rfl; have qf3_3 := X.2.2 3; have Q3 := Sec.mk X; clear X; have X := box_cells (b := w.heap.size + 1 + 1) (cs := #[.int .i64 x.kind, .slice A1 x.a.length n1, .slice A2 x.b.length n2, .slice none 0 0]) (t := 100) hb1 (box_store _ _ O2.out.1); have o3_0 := X.2.1 0 _ rfl; have of3_0 := X.2.2 0; have o3_1 := X.2.1 1 _ rfl; have of3_1 := X.2.2 1; have o3_2 := X.2.1 2 _ rfl; have of3_2 := X.2.2 2; have o3_3 := X.2.1 3 _ rfl; have of3_3 := X.2.2 3; have O3 := Sec.mk X; clear X; clear hb1 hR; clear p2_0 q2_0 qf2_0 o2_0 of2_0 p2_1 q2_1 qf2_1 o2_1 of2_1 p2_2 q2_2 qf2_2 o2_2 of2_2 p2_3 q2_3 qf2_3 o2_3 of2_3) | (clear T1; go_at_call 22; have T2 : Sec True := ⟨trivial⟩; refine (toSCell_c v2 x.b ok _ (Kd.V_below H2.out (B1.out.setCell (p := ⟨w.heap.size + 1 + 1, 1, none⟩) (by show w.heap.size ≤ w.heap.size + 1 + 1; omega) _) (by decide))).mono ?_; rintro e w2 ⟨u2, rfl, hR, hb1⟩; obtain ⟨A2, n2, rfl, -, -⟩ := Kd.R_form hR; have Z2 : w1.heap.size ≤ w2.heap.size := (by have := hb1.size; simpa [World.setCell] using this); have R2 := Sec.mk (Kd.R_mono (S1 := fun k => w1.heap.size ≤ k ∧ k < w2.heap.size) hR (fun k h1 h2 => ⟨by simpa [World.setCell] using h1, h2⟩)); have G2 := Sec.mk (Foot.call ((Foot.refl (Own w 3) w1).set (.inl ⟨by omega, by omega⟩) _ _) hb1); have B2 := Sec.mk (bel (B1.out.setCell (p := ⟨w.heap.size + 1 + 1, 1, none⟩) (by show w.heap.size ≤ w.heap.size + 1 + 1; omega) _) hb1); have X := box_cells (b := w.heap.size) (cs := #[.int .i64 x.kind, v1, v2, v3]) (t := 273) hb1 ((Below.heap_setCell _ _ _ _ (by show w.heap.size ≠ w.heap.size + 1 + 1; omega)).trans P1.out.1); have p2_0 := X.2.1 0 _ rfl; have p2_1 := X.2.1 1 _ rfl; have p2_2 := X.2.1 2 _ rfl; have p2_3 := X.2.1 3 _ rfl; have P2 := Sec.mk X; clear X; have X := box_cells (b := w.heap.size + 1) (cs := #[.int .i64 0, .slice none 0 0, .slice none 0 0, .slice none 0 0]) (t := 100) hb1 ((Below.heap_setCell _ _ _ _ (by show w.heap.size + 1 ≠ w.heap.size + 1 + 1; omega)).trans Q1.out.1); have q2_0 := X.2.1 0 _ rfl; have qf2_0 := X.2.2 0; have q2_1 := X.2.1 1 _ rfl; have qf2_1 := X.2.2 1; have q2_2 := X.2.1 2 _ rfl; have qf2_2 := X.2.2 2; have q2_3 := X.2.1 3 _ rfl; have qf2_3 := X.2.2 3; have Q2 := Sec.mk X; clear X; have X := box_cells (b := w.heap.size + 1 + 1) (cs := #[.int .i64 x.kind, .slice A1 x.a.length n1, .slice none 0 0, .slice none 0 0]) (t := 100) hb1 (box_store _ _ O1.out.1); have o2_0 := X.2.1 0 _ rfl; have of2_0 := X.2.2 0; have o2_1 := X.2.1 1 _ rfl; have of2_1 := X.2.2 1; have o2_2 := X.2.1 2 _ rfl; have of2_2 := X.2.2 2; have o2_3 := X.2.1 3 _ rfl; have of2_3 := X.2.2 3; have O2 := Sec.mk X; clear X; clear hb1 hR; clear p1_0 q1_0 qf1_0 o1_0 of1_0 p1_1 q1_1 qf1_1 o1_1 of1_1 p1_2 q1_2 qf1_2 o1_2 of1_2 p1_3 q1_3 qf1_3 o1_3 of1_3) | (clear T0; go_at_call 22; have T1 : Sec True := ⟨trivial⟩; refine (toSCell_c v1 x.a ok _ (Kd.V_below H1.out (belA (belA (belA (Below.refl _ _) _) _) _) (by decide))).mono ?_; rintro e w1 ⟨u1, rfl, hR, hb1⟩; obtain ⟨A1, n1, rfl, -, -⟩ := Kd.R_form hR; have Z1 : w.heap.size + 3 ≤ w1.heap.size := (by have := hb1.size; simp at this; omega); have R1 := Sec.mk (Kd.R_mono (S1 := fun k => w.heap.size + 3 ≤ k ∧ k < w1.heap.size) hR (fun k h1 h2 => ⟨by simp at h1; omega, h2⟩)); have G1 := Sec.mk (Foot.call ((((Foot.refl (Own w 3) w).alloc _).alloc _).alloc _) hb1); have B1 := Sec.mk (bel (belA (belA (belA (Below.refl _ _) _) _) _) hb1); have X := box_cells (b := w.heap.size) (cs := #[.int .i64 x.kind, v1, v2, v3]) (t := 273) hb1 (box3 _ _ _ _).1; have p1_0 := X.2.1 0 _ rfl; have p1_1 := X.2.1 1 _ rfl; have p1_2 := X.2.1 2 _ rfl; have p1_3 := X.2.1 3 _ rfl; have P1 := Sec.mk X; clear X; have X := box_cells (b := w.heap.size + 1) (cs := #[.int .i64 0, .slice none 0 0, .slice none 0 0, .slice none 0 0]) (t := 100) hb1 (box3 _ _ _ _).2.1; have q1_0 := X.2.1 0 _ rfl; have qf1_0 := X.2.2 0; have q1_1 := X.2.1 1 _ rfl; have qf1_1 := X.2.2 1; have q1_2 := X.2.1 2 _ rfl; have qf1_2 := X.2.2 2; have q1_3 := X.2.1 3 _ rfl; have qf1_3 := X.2.2 3; have Q1 := Sec.mk X; clear X; have X := box_cells (b := w.heap.size + 1 + 1) (cs := #[.int .i64 x.kind, .slice none 0 0, .slice none 0 0, .slice none 0 0]) (t := 100) hb1 (box3 _ _ _ _).2.2; have o1_0 := X.2.1 0 _ rfl; have of1_0 := X.2.2 0; have o1_1 := X.2.1 1 _ rfl; have of1_1 := X.2.2 1; have o1_2 := X.2.1 2 _ rfl; have of1_2 := X.2.2 2; have o1_3 := X.2.1 3 _ rfl; have of1_3 := X.2.2 3; have O1 := Sec.mk X; clear X; clear hb1 hR))
  refine bodyPost_ret (v := .agg #[.int .i64 x.kind, .slice A1 x.a.length n1, .slice A2 x.b.length n2, .slice A3 x.c.length n3]) (by simp [results, Tryz.results232, go_sem, q3_0, q3_1, q3_2, q3_3]) rfl ⟨[.int .i64 x.kind, .slice A1 x.a.length n1, .slice A2 x.b.length n2, .slice A3 x.c.length n3], rfl, ?_, ?_⟩
  rotate_left
  · refine Foot.own (n := 3) (Foot.trans (S' := Own w 3) ((G1.out.trans G2.out (fun _ _ h => h)).trans G3.out (fun _ _ h => h)) ?_ (fun _ _ h => h))
    exact (Foot.set (Foot.set (Foot.set (Foot.set (Foot.set (Foot.refl _ _) (.inl ⟨by omega, by omega⟩) _ _) (.inl ⟨by omega, by omega⟩) _ _) (.inl ⟨by omega, by omega⟩) _ _) (.inl ⟨by omega, by omega⟩) _ _) (.inl ⟨by omega, by omega⟩) _ _)
  · have FF : ∀ W, Foot (Own w 3) w3 W → kGoal.O W (fun k => w.heap.size ≤ k) x [.int .i64 x.kind, .slice A1 x.a.length n1, .slice A2 x.b.length n2, .slice A3 x.c.length n3] := fun W FF => ?_
    · refine FF _ ?_
      exact (Foot.set (Foot.set (Foot.set (Foot.set (Foot.set (Foot.refl _ _) (.inl ⟨by omega, by omega⟩) _ _) (.inl ⟨by omega, by omega⟩) _ _) (.inl ⟨by omega, by omega⟩) _ _) (.inl ⟨by omega, by omega⟩) _ _) (.inl ⟨by omega, by omega⟩) _ _)
    · exact (Kd.O_stack (d := (Kd.int 3)) (e := (Kd.pair (Kd.slice 23 kCell (by decide)) (Kd.pair (Kd.slice 23 kCell (by decide)) (Kd.slice 23 kCell (by decide))))) (n0 := w.heap.size) (n1 := w.heap.size) ⟨rfl, trivial⟩ (Kd.O_stack (d := (Kd.slice 23 kCell (by decide))) (e := (Kd.pair (Kd.slice 23 kCell (by decide)) (Kd.slice 23 kCell (by decide)))) (n0 := w.heap.size) (n1 := w1.heap.size) ⟨_, rfl, Kd.R_mono (Foot.R (Foot.trans (S' := Own w 3) (G2.out.trans G3.out (fun _ _ h => h)) FF (fun _ _ h => h)) R1.out (fun k h1 h2 => by have := h1.1; have := h2.2; omega)) (fun k h _ => by have := h.1; have := h.2; omega)⟩ (Kd.O_stack (d := (Kd.slice 23 kCell (by decide))) (e := (Kd.slice 23 kCell (by decide))) (n0 := w1.heap.size) (n1 := w2.heap.size) ⟨_, rfl, Kd.R_mono (Foot.R (Foot.trans (S' := Own w 3) G3.out FF (fun _ _ h => h)) R2.out (fun k h1 h2 => by have := h1.1; have := h2.2; omega)) (fun k h _ => by have := h.1; have := h.2; omega)⟩ ⟨_, rfl, Kd.R_mono (Foot.R FF R3.out (fun k h1 h2 => by have := h1.1; have := h2.2; omega)) (fun k h _ => by have := h.1; have := h.2; omega)⟩ (by omega)) (by omega)) (by omega))
set_option maxHeartbeats 1000000 in
theorem toSGoal_c (v : Value) (t : List Goal) (ok : Nat → Prop) (w : World) (hV : kGoal.V w ok v t) :
    Calls Tryz.prog 200 #[v] w fun e w' => ∃ u, e = .returned u ∧ kGoal.R w' (fun k => w.heap.size ≤ k) u t ∧ Below w.heap.size w w' := by
  obtain ⟨A, c, rfl, h1, h2, h3, hC, _⟩ := hV
  have HC := Sec.mk hC
  clear hC
  have hu := Tryz.underlying100
  have hu2 := Tryz.underlying273
  have hmk := made (P := Tryz.prog) 111 100 (.agg #[.int .i64 0, .slice none 0 0, .slice none 0 0, .slice none 0 0]) 4 80 Tryz.underlying111 (by kernel_rfl) (by decide) t.length h3
  have HM := Sec.mk (Kd.R_made (d := kGoal) (w := w) (B := w.heap.size) (x0 := zeroGoal) (z := #[.int .i64 0, .slice none 0 0, .slice none 0 0, .slice none 0 0]) (n := t.length) (fun w => kGoal_zero w) rfl (Nat.le_refl _) h3)
  go_enter Tryz.func200, Tryz.ntmps200
  go_wp2
  clear hmk
  go_loopw [4] (fun i wr => ∃ k : Nat, k ≤ t.length ∧ i = .int .i64 k ∧ Sec (kGoal.R wr (fun k => w.heap.size ≤ k) (.slice (some ⟨w.heap.size, 0, none⟩) t.length t.length) (t.take k ++ List.replicate (t.length - k) zeroGoal)) ∧ Sec (Below w.heap.size w wr)) (fun i _ => t.length - (intOf i).toNat)
  case atStart => exact ⟨0, Nat.zero_le _, rfl, ⟨HM.out⟩, ⟨belA (Below.refl _ _) _⟩⟩
  case round =>
    obtain ⟨k, hk, rfl, hR, hb⟩ := hrel
    by_cases hlt : k < t.length
    · obtain ⟨b, off, cs, rfl, hob, hK, hc⟩ := Kd.C_get (Kd.C_below HC.out hb.out (by decide)) (List.getElem?_eq_getElem hlt)
      have hL : Sec ((t.take k ++ List.replicate (t.length - k) zeroGoal).length = t.length) := ⟨by simp; omega⟩
      have hset : Sec ((t.take k ++ List.replicate (t.length - k) zeroGoal).set k t[k] = t.take (k + 1) ++ List.replicate (t.length - (k + 1)) zeroGoal) := ⟨put_next t zeroGoal k hlt⟩
      generalize t[k] = x at *
      have HK := Sec.mk hK
      obtain ⟨v1, v2, v3, rfl, -, -, -⟩ := kGoal_K hK
      have c0 : wr.cell? ⟨b, off + k * 4, none⟩ = some (.int .i64 x.kind) := hc 0 _ rfl
      have c1 : wr.cell? ⟨b, off + k * 4 + 1, none⟩ = some (v1) := hc 1 _ rfl
      have c2 : wr.cell? ⟨b, off + k * 4 + 2, none⟩ = some (v2) := hc 2 _ rfl
      have c3 : wr.cell? ⟨b, off + k * 4 + 3, none⟩ = some (v3) := hc 3 _ rfl
      clear hc hK
      go_wp2_with (go_at_call 232; refine (toPrgGoal_c x _ ok _ HK.out).mono ?_; rintro e w1 ⟨d0, rfl, hO, hb1⟩; have HO := Sec.mk hO; obtain ⟨u1, u2, u3, rfl, k1, k2, k3⟩ := kGoal_K (Kd.O_K _ hO); clear hO; obtain ⟨A1, n1, rfl, -⟩ := k1; obtain ⟨A2, n2, rfl, -⟩ := k2; obtain ⟨A3, n3, rfl, -⟩ := k3; have R1 := Sec.mk (Kd.R_below (Kd.R_mono hR.out (S1 := fun k => w.heap.size ≤ k ∧ k < wr.heap.size) (fun k h1 h2 => ⟨h1, h2⟩)) hb1); have B1 := Sec.mk (bel hb.out hb1); have hsz := Sec.mk hb.out.size; obtain ⟨q0, e0, f0⟩ := Kd.R_cell R1.out k 0 (by rw [hL.out]; exact hlt) (by decide); obtain ⟨q1, e1, f1⟩ := Kd.R_cell R1.out k 1 (by rw [hL.out]; exact hlt) (by decide); obtain ⟨q2, e2, f2⟩ := Kd.R_cell R1.out k 2 (by rw [hL.out]; exact hlt) (by decide); obtain ⟨q3, e3, f3⟩ := Kd.R_cell R1.out k 3 (by rw [hL.out]; exact hlt) (by decide); rw [show kGoal.sz = 4 from rfl] at e0 f0 e1 f1 e2 f2 e3 f3; rw [Nat.add_zero] at e0 f0; have P1 := Sec.mk (Kd.R_put R1.out k (by rw [hL.out]; exact hlt) HO.out (fun k h1 h2 => absurd h2.2 (Nat.not_lt.2 h1))); have F1 := Sec.mk ((Foot.refl (fun k => w.heap.size ≤ k) w1).setCells (g := w.heap.size) (.inl (Nat.le_refl _)) [.int .i64 x.kind, .slice A1 x.a.length n1, .slice A2 x.b.length n2, .slice A3 x.c.length n3] (k * 4)); clear hb1 c0 c1 c2 c3)
      go_roundw
      case rel => exact ⟨k + 1, by omega, by go_num, ⟨by rw [← hset.out]; exact Kd.R_mono P1.out (fun k h _ => h.elim (fun h => h.1) (fun h => Nat.le_trans hsz.out h))⟩, ⟨F1.out.below B1.out (fun _ h => h)⟩⟩
      case measure => simp [intOf]; omega
    · have hfin : Sec (t.take k ++ List.replicate (t.length - k) zeroGoal = t) := ⟨by rw [List.take_of_length_le (by omega), show t.length - k = 0 by omega]; simp⟩
      have hR2 := hR.out
      rw [hfin.out] at hR2
      have HR2 := Sec.mk hR2
      clear hR2 hfin hR
      go_wp2
      go_ret
      exact ⟨_, rfl, HR2.out, hb.out⟩
set_option maxHeartbeats 2000000 in
theorem eqPrgGoal_c (x y : Goal) (cs ds : List Value) (ok ok' : Nat → Prop) (w : World) (hK : kGoal.K w ok x cs) (hD : kGoal.K w ok' y ds) :
    Calls Tryz.prog 242 #[.agg cs.toArray, .agg ds.toArray] w fun e w' => e = .returned (.bool (decide (x = y))) ∧ Below w.heap.size w w' := by
  obtain ⟨_, _, rfl, ⟨rfl, _⟩, ⟨_, _, rfl, ⟨v1, rfl, h1⟩, ⟨_, _, rfl, ⟨v2, rfl, h2⟩, ⟨v3, rfl, h3⟩⟩⟩⟩ := hK
  have H1 := Sec.mk h1
  clear h1
  have H2 := Sec.mk h2
  clear h2
  have H3 := Sec.mk h3
  clear h3
  obtain ⟨_, _, rfl, ⟨rfl, _⟩, ⟨_, _, rfl, ⟨u1, rfl, g1⟩, ⟨_, _, rfl, ⟨u2, rfl, g2⟩, ⟨u3, rfl, g3⟩⟩⟩⟩ := hD
  have G1 := Sec.mk g1
  clear g1
  have G2 := Sec.mk g2
  clear g2
  have G3 := Sec.mk g3
  clear g3
  have hu := Tryz.underlying100
  have hxy := Sec.mk (Goal.ext_iff x y)
  have T0 : Sec True := ⟨trivial⟩
  by_cases h0 : x.kind = y.kind
  · have E0 := Sec.mk h0
    have d0 : (x.kind == y.kind) = true := beq_iff_eq.2 h0
    clear h0
    by_cases h1 : x.a = y.a
    · have E1 := Sec.mk h1
      have d1 : decide (x.a = y.a) = true := decide_eq_true h1
      clear h1
      by_cases h2 : x.b = y.b
      · have E2 := Sec.mk h2
        have d2 : decide (x.b = y.b) = true := decide_eq_true h2
        clear h2
        by_cases h3 : x.c = y.c
        · have E3 := Sec.mk h3
          have d3 : decide (x.c = y.c) = true := decide_eq_true h3
          clear h3
          have hd : Sec (decide (x = y) = true) := ⟨by rw [decide_eq_true_eq, hxy.out]; exact ⟨E0.out, E1.out, E2.out, E3.out⟩⟩
          go_enter Tryz.func242, Tryz.ntmps242
          go_wp2_with (first | (clear T2; go_at_call 26; have T3 : Sec True := ⟨trivial⟩; refine (eqSCell_c v3 u3 x.c y.c ok ok' _ (Kd.V_below H3.out B2.out (by decide)) (Kd.V_below G3.out B2.out (by decide))).mono ?_; rintro e w3 ⟨rfl, hb1⟩; rw [d3]; have B3 := Sec.mk (bel B2.out hb1); have X := box_cells (b := w.heap.size) (cs := #[.int .i64 x.kind, v1, v2, v3]) (t := 100) hb1 P2.out.1; have p3_3 := X.2.1 3 _ rfl; have P3 := Sec.mk X; clear X; have X := box_cells (b := w.heap.size + 1) (cs := #[.int .i64 y.kind, u1, u2, u3]) (t := 100) hb1 Q2.out.1; have q3_3 := X.2.1 3 _ rfl; have Q3 := Sec.mk X; clear X hb1) | (clear T1; go_at_call 26; have T2 : Sec True := ⟨trivial⟩; refine (eqSCell_c v2 u2 x.b y.b ok ok' _ (Kd.V_below H2.out B1.out (by decide)) (Kd.V_below G2.out B1.out (by decide))).mono ?_; rintro e w2 ⟨rfl, hb1⟩; rw [d2]; have B2 := Sec.mk (bel B1.out hb1); have X := box_cells (b := w.heap.size) (cs := #[.int .i64 x.kind, v1, v2, v3]) (t := 100) hb1 P1.out.1; have p2_2 := X.2.1 2 _ rfl; have p2_3 := X.2.1 3 _ rfl; have P2 := Sec.mk X; clear X; have X := box_cells (b := w.heap.size + 1) (cs := #[.int .i64 y.kind, u1, u2, u3]) (t := 100) hb1 Q1.out.1; have q2_2 := X.2.1 2 _ rfl; have q2_3 := X.2.1 3 _ rfl; have Q2 := Sec.mk X; clear X hb1) | (clear T0; go_at_call 26; have T1 : Sec True := ⟨trivial⟩; refine (eqSCell_c v1 u1 x.a y.a ok ok' _ (Kd.V_below H1.out (belA (belA (Below.refl _ _) _) _) (by decide)) (Kd.V_below G1.out (belA (belA (Below.refl _ _) _) _) (by decide))).mono ?_; rintro e w1 ⟨rfl, hb1⟩; rw [d1]; have B1 := Sec.mk (bel (belA (belA (Below.refl _ _) _) _) hb1); have X := box_cells (b := w.heap.size) (cs := #[.int .i64 x.kind, v1, v2, v3]) (t := 100) hb1 (box2 _ _ _).1; have p1_1 := X.2.1 1 _ rfl; have p1_2 := X.2.1 2 _ rfl; have p1_3 := X.2.1 3 _ rfl; have P1 := Sec.mk X; clear X; have X := box_cells (b := w.heap.size + 1) (cs := #[.int .i64 y.kind, u1, u2, u3]) (t := 100) hb1 (box2 _ _ _).2; have q1_1 := X.2.1 1 _ rfl; have q1_2 := X.2.1 2 _ rfl; have q1_3 := X.2.1 3 _ rfl; have Q1 := Sec.mk X; clear X hb1))
          go_ret
          exact ⟨rb hd.out.symm, B3.out⟩
        · have hd : Sec (decide (x = y) = false) := ⟨by rw [decide_eq_false_iff_not, hxy.out]; exact fun h => h3 h.2.2.2⟩
          have d3 : decide (x.c = y.c) = false := decide_eq_false h3
          clear h3
          go_enter Tryz.func242, Tryz.ntmps242
          go_wp2_with (first | (clear T2; go_at_call 26; have T3 : Sec True := ⟨trivial⟩; refine (eqSCell_c v3 u3 x.c y.c ok ok' _ (Kd.V_below H3.out B2.out (by decide)) (Kd.V_below G3.out B2.out (by decide))).mono ?_; rintro e w3 ⟨rfl, hb1⟩; rw [d3]; have B3 := Sec.mk (bel B2.out hb1); have X := box_cells (b := w.heap.size) (cs := #[.int .i64 x.kind, v1, v2, v3]) (t := 100) hb1 P2.out.1; have p3_3 := X.2.1 3 _ rfl; have P3 := Sec.mk X; clear X; have X := box_cells (b := w.heap.size + 1) (cs := #[.int .i64 y.kind, u1, u2, u3]) (t := 100) hb1 Q2.out.1; have q3_3 := X.2.1 3 _ rfl; have Q3 := Sec.mk X; clear X hb1) | (clear T1; go_at_call 26; have T2 : Sec True := ⟨trivial⟩; refine (eqSCell_c v2 u2 x.b y.b ok ok' _ (Kd.V_below H2.out B1.out (by decide)) (Kd.V_below G2.out B1.out (by decide))).mono ?_; rintro e w2 ⟨rfl, hb1⟩; rw [d2]; have B2 := Sec.mk (bel B1.out hb1); have X := box_cells (b := w.heap.size) (cs := #[.int .i64 x.kind, v1, v2, v3]) (t := 100) hb1 P1.out.1; have p2_2 := X.2.1 2 _ rfl; have p2_3 := X.2.1 3 _ rfl; have P2 := Sec.mk X; clear X; have X := box_cells (b := w.heap.size + 1) (cs := #[.int .i64 y.kind, u1, u2, u3]) (t := 100) hb1 Q1.out.1; have q2_2 := X.2.1 2 _ rfl; have q2_3 := X.2.1 3 _ rfl; have Q2 := Sec.mk X; clear X hb1) | (clear T0; go_at_call 26; have T1 : Sec True := ⟨trivial⟩; refine (eqSCell_c v1 u1 x.a y.a ok ok' _ (Kd.V_below H1.out (belA (belA (Below.refl _ _) _) _) (by decide)) (Kd.V_below G1.out (belA (belA (Below.refl _ _) _) _) (by decide))).mono ?_; rintro e w1 ⟨rfl, hb1⟩; rw [d1]; have B1 := Sec.mk (bel (belA (belA (Below.refl _ _) _) _) hb1); have X := box_cells (b := w.heap.size) (cs := #[.int .i64 x.kind, v1, v2, v3]) (t := 100) hb1 (box2 _ _ _).1; have p1_1 := X.2.1 1 _ rfl; have p1_2 := X.2.1 2 _ rfl; have p1_3 := X.2.1 3 _ rfl; have P1 := Sec.mk X; clear X; have X := box_cells (b := w.heap.size + 1) (cs := #[.int .i64 y.kind, u1, u2, u3]) (t := 100) hb1 (box2 _ _ _).2; have q1_1 := X.2.1 1 _ rfl; have q1_2 := X.2.1 2 _ rfl; have q1_3 := X.2.1 3 _ rfl; have Q1 := Sec.mk X; clear X hb1))
          go_ret
          exact ⟨rb hd.out.symm, B3.out⟩
      · have hd : Sec (decide (x = y) = false) := ⟨by rw [decide_eq_false_iff_not, hxy.out]; exact fun h => h2 h.2.2.1⟩
        have d2 : decide (x.b = y.b) = false := decide_eq_false h2
        clear h2
        go_enter Tryz.func242, Tryz.ntmps242
        go_wp2_with (first | (clear T1; go_at_call 26; have T2 : Sec True := ⟨trivial⟩; refine (eqSCell_c v2 u2 x.b y.b ok ok' _ (Kd.V_below H2.out B1.out (by decide)) (Kd.V_below G2.out B1.out (by decide))).mono ?_; rintro e w2 ⟨rfl, hb1⟩; rw [d2]; have B2 := Sec.mk (bel B1.out hb1); have X := box_cells (b := w.heap.size) (cs := #[.int .i64 x.kind, v1, v2, v3]) (t := 100) hb1 P1.out.1; have p2_2 := X.2.1 2 _ rfl; have p2_3 := X.2.1 3 _ rfl; have P2 := Sec.mk X; clear X; have X := box_cells (b := w.heap.size + 1) (cs := #[.int .i64 y.kind, u1, u2, u3]) (t := 100) hb1 Q1.out.1; have q2_2 := X.2.1 2 _ rfl; have q2_3 := X.2.1 3 _ rfl; have Q2 := Sec.mk X; clear X hb1) | (clear T0; go_at_call 26; have T1 : Sec True := ⟨trivial⟩; refine (eqSCell_c v1 u1 x.a y.a ok ok' _ (Kd.V_below H1.out (belA (belA (Below.refl _ _) _) _) (by decide)) (Kd.V_below G1.out (belA (belA (Below.refl _ _) _) _) (by decide))).mono ?_; rintro e w1 ⟨rfl, hb1⟩; rw [d1]; have B1 := Sec.mk (bel (belA (belA (Below.refl _ _) _) _) hb1); have X := box_cells (b := w.heap.size) (cs := #[.int .i64 x.kind, v1, v2, v3]) (t := 100) hb1 (box2 _ _ _).1; have p1_1 := X.2.1 1 _ rfl; have p1_2 := X.2.1 2 _ rfl; have p1_3 := X.2.1 3 _ rfl; have P1 := Sec.mk X; clear X; have X := box_cells (b := w.heap.size + 1) (cs := #[.int .i64 y.kind, u1, u2, u3]) (t := 100) hb1 (box2 _ _ _).2; have q1_1 := X.2.1 1 _ rfl; have q1_2 := X.2.1 2 _ rfl; have q1_3 := X.2.1 3 _ rfl; have Q1 := Sec.mk X; clear X hb1))
        go_ret
        exact ⟨rb hd.out.symm, B2.out⟩
    · have hd : Sec (decide (x = y) = false) := ⟨by rw [decide_eq_false_iff_not, hxy.out]; exact fun h => h1 h.2.1⟩
      have d1 : decide (x.a = y.a) = false := decide_eq_false h1
      clear h1
      go_enter Tryz.func242, Tryz.ntmps242
      go_wp2_with (first | (clear T0; go_at_call 26; have T1 : Sec True := ⟨trivial⟩; refine (eqSCell_c v1 u1 x.a y.a ok ok' _ (Kd.V_below H1.out (belA (belA (Below.refl _ _) _) _) (by decide)) (Kd.V_below G1.out (belA (belA (Below.refl _ _) _) _) (by decide))).mono ?_; rintro e w1 ⟨rfl, hb1⟩; rw [d1]; have B1 := Sec.mk (bel (belA (belA (Below.refl _ _) _) _) hb1); have X := box_cells (b := w.heap.size) (cs := #[.int .i64 x.kind, v1, v2, v3]) (t := 100) hb1 (box2 _ _ _).1; have p1_1 := X.2.1 1 _ rfl; have p1_2 := X.2.1 2 _ rfl; have p1_3 := X.2.1 3 _ rfl; have P1 := Sec.mk X; clear X; have X := box_cells (b := w.heap.size + 1) (cs := #[.int .i64 y.kind, u1, u2, u3]) (t := 100) hb1 (box2 _ _ _).2; have q1_1 := X.2.1 1 _ rfl; have q1_2 := X.2.1 2 _ rfl; have q1_3 := X.2.1 3 _ rfl; have Q1 := Sec.mk X; clear X hb1))
      go_ret
      exact ⟨rb hd.out.symm, B1.out⟩
  · have hd : Sec (decide (x = y) = false) := ⟨by rw [decide_eq_false_iff_not, hxy.out]; exact fun h => h0 h.1⟩
    have d0 : (x.kind == y.kind) = false := beq_eq_false_iff_ne.2 h0
    clear h0
    go_enter Tryz.func242, Tryz.ntmps242
    go_wp2
    go_ret
    exact ⟨rb hd.out.symm, (belA (belA (Below.refl _ _) _) _)⟩
set_option maxHeartbeats 2000000 in
theorem eqSGoal_c (v u : Value) (t s : List Goal) (ok ok' : Nat → Prop) (w : World) (hV : kGoal.V w ok v t) (hU : kGoal.V w ok' u s) :
    Calls Tryz.prog 208 #[v, u] w fun e w' => e = .returned (.bool (decide (t = s))) ∧ Below w.heap.size w w' := by
  obtain ⟨A, c, rfl, h1, h2, h3, hC, _⟩ := hV
  obtain ⟨B, d, rfl, k1, k2, k3, hD, _⟩ := hU
  have HC := Sec.mk hC
  have HD := Sec.mk hD
  clear hC hD
  have hu := Tryz.underlying100
  by_cases hl : t.length = s.length
  · rw [← hl]
    have HL := Sec.mk hl
    clear hl
    go_enter Tryz.func208, Tryz.ntmps208
    go_wp2
    go_loopw [5] (fun i wr => ∃ k : Nat, k ≤ t.length ∧ i = .int .i64 k ∧ Sec (t.take k = s.take k) ∧ Sec (Below w.heap.size w wr)) (fun i _ => t.length - (intOf i).toNat)
    case atStart => exact ⟨0, Nat.zero_le _, rfl, ⟨by simp⟩, ⟨Below.refl _ _⟩⟩
    case round =>
      obtain ⟨k, hk, rfl, hT, hb⟩ := hrel
      by_cases hlt : k < t.length
      · have hlt2 : k < s.length := by have := HL.out; omega
        obtain ⟨b, off, cs, rfl, hob, hK, hc⟩ := Kd.C_get HC.out (List.getElem?_eq_getElem hlt)
        obtain ⟨b2, off2, cs2, rfl, hob2, hK2, hc2⟩ := Kd.C_get HD.out (List.getElem?_eq_getElem hlt2)
        have hT1 : Sec (t[k] = s[k] → t.take (k + 1) = s.take (k + 1)) := ⟨fun e => by rw [List.take_succ_eq_append_getElem hlt, List.take_succ_eq_append_getElem hlt2, hT.out, e]⟩
        have hT2 : Sec (t = s → t[k] = s[k]) := ⟨fun e => by subst e; rfl⟩
        generalize t[k] = x at *
        generalize s[k] = y at *
        have HK := Sec.mk hK
        have HK2 := Sec.mk hK2
        obtain ⟨v1, v2, v3, rfl, -, -, -⟩ := kGoal_K hK
        obtain ⟨u1, u2, u3, rfl, -, -, -⟩ := kGoal_K hK2
        have hat : Sec (∀ W : World, Below w.heap.size w W → W.cell? ⟨b, off + k * 4, none⟩ = some (.int .i64 x.kind) ∧ W.cell? ⟨b, off + k * 4 + 1, none⟩ = some (v1) ∧ W.cell? ⟨b, off + k * 4 + 2, none⟩ = some (v2) ∧ W.cell? ⟨b, off + k * 4 + 3, none⟩ = some (v3) ∧ W.cell? ⟨b2, off2 + k * 4, none⟩ = some (.int .i64 y.kind) ∧ W.cell? ⟨b2, off2 + k * 4 + 1, none⟩ = some (u1) ∧ W.cell? ⟨b2, off2 + k * 4 + 2, none⟩ = some (u2) ∧ W.cell? ⟨b2, off2 + k * 4 + 3, none⟩ = some (u3)) := ⟨fun W h => ⟨Raw.cell_below h (hc 0 _ rfl), Raw.cell_below h (hc 1 _ rfl), Raw.cell_below h (hc 2 _ rfl), Raw.cell_below h (hc 3 _ rfl), Raw.cell_below h (hc2 0 _ rfl), Raw.cell_below h (hc2 1 _ rfl), Raw.cell_below h (hc2 2 _ rfl), Raw.cell_below h (hc2 3 _ rfl)⟩⟩
        clear hc hc2 hK hK2
        obtain ⟨x0, x1, x2, x3, y0, y1, y2, y3⟩ := hat.out _ hb.out
        have i0 : (0 : Int) ≤ (k : Int) := by omega
        have i1 : (k : Int) < (t.length : Int) := by omega
        obtain ⟨bb, hbb⟩ : ∃ bb, decide (x = y) = bb := ⟨_, rfl⟩
        have Hc : Sec (∀ W, Below w.heap.size w W → Calls Tryz.prog 242 #[.agg #[.int .i64 x.kind, v1, v2, v3], .agg #[.int .i64 y.kind, u1, u2, u3]] W fun e w' => e = .returned (.bool bb) ∧ Below W.heap.size W w') := ⟨fun W hB => by rw [← hbb]; exact eqPrgGoal_c x y _ _ ok ok' W (Kd.K_below HK.out hB) (Kd.K_below HK2.out hB)⟩
        have HBB := Sec.mk hbb
        clear hbb
        go_wp2
        go_region_held3 (fun W => W.cell? ⟨b, off + k * 4, none⟩ = some (.int .i64 x.kind) ∧ W.cell? ⟨b, off + k * 4 + 1, none⟩ = some (v1) ∧ W.cell? ⟨b, off + k * 4 + 2, none⟩ = some (v2) ∧ W.cell? ⟨b, off + k * 4 + 3, none⟩ = some (v3) ∧ W.cell? ⟨b2, off2 + k * 4, none⟩ = some (.int .i64 y.kind) ∧ W.cell? ⟨b2, off2 + k * 4 + 1, none⟩ = some (u1) ∧ W.cell? ⟨b2, off2 + k * 4 + 2, none⟩ = some (u2) ∧ W.cell? ⟨b2, off2 + k * 4 + 3, none⟩ = some (u3))
          (first | (refine ⟨?_, ?_, ?_, ?_, ?_, ?_, ?_, ?_⟩ <;> assumption) | go_keep)
          (first | (go_at_call 242; refine (Hc.out _ (belD hb.out)).mono ?_; rintro e w1 ⟨rfl, hb1⟩; have B1 := Sec.mk (bel (belD hb.out) hb1); clear x0 x1 x2 x3 y0 y1 y2 y3; obtain ⟨x0, x1, x2, x3, y0, y1, y2, y3⟩ := hat.out _ B1.out; clear hb1))
        all_goals
          cases bb with
          | true =>
            have HE : Sec (t.take (k + 1) = s.take (k + 1)) := ⟨hT1.out (of_decide_eq_true HBB.out)⟩
            go_wp2
            go_roundw
            case rel => exact ⟨k + 1, by omega, by go_num, HE, B1⟩
            case measure => simp [intOf]; omega
          | false =>
            have HE : Sec (decide (t = s) = false) := ⟨decide_eq_false (fun e => of_decide_eq_false HBB.out (hT2.out e))⟩
            go_wp2
            go_ret
            exact ⟨rb HE.out.symm, B1.out⟩
      · have HE : Sec (decide (t = s) = true) := ⟨decide_eq_true (by have := hT.out; have h2 := HL.out; rwa [List.take_of_length_le (by omega), List.take_of_length_le (by omega)] at this)⟩
        go_wp2
        go_ret
        exact ⟨rb HE.out.symm, hb.out⟩
  · have hl' : ((t.length : Int) == (s.length : Int)) = false := beq_eq_false_iff_ne.2 (by omega)
    have HE : Sec (decide (t = s) = false) := ⟨decide_eq_false (fun e => hl (by rw [e]))⟩
    go_enter Tryz.func208, Tryz.ntmps208
    go_wp2
    go_ret
    exact ⟨rb HE.out.symm, Below.refl _ _⟩
def mGoal : Mk Goal := ⟨fun x => 1 + mCell.cnts x.a + mCell.cnts x.b + mCell.cnts x.c, fun x k => ⟨k, mCell.mks x.a (k + 1), mCell.mks x.b (k + 1 + ((mCell.cnts x.a : Nat) : Int)), mCell.mks x.c (k + 1 + ((mCell.cnts x.a : Nat) : Int) + ((mCell.cnts x.b : Nat) : Int))⟩⟩
theorem mGoal_cnt (x : Goal) : mGoal.cnt x = 1 + mCell.cnts x.a + mCell.cnts x.b + mCell.cnts x.c := rfl
set_option maxHeartbeats 2000000 in
theorem markSGoal_c (v : Value) (t : List Goal) (S : Nat → Prop) (k : Int) (hk : 0 ≤ k) (hk2 : k + mGoal.cnts t ≤ 1000000000000000000) (w : World) (hR : kGoal.R w S v t) :
    Calls Tryz.prog 162 #[v, .int .i64 k] w fun e w' => e = .returned (.int .i64 (k + mGoal.cnts t)) ∧ kGoal.R w' S v (mGoal.mks t k) ∧ Foot S w w' := by
  obtain ⟨A, cp, hv, g1, g2⟩ := Kd.R_form hR
  subst hv
  have h3 : t.length ≤ 1073741824 := hR.1
  have HR := Sec.mk hR
  have hu := Tryz.underlying100
  clear hR
  have HN := Sec.mk (mGoal.cnts_take t)
  have HM := Sec.mk (mGoal.cnts_le t)
  have HX := Sec.mk (mGoal.next t k)
  go_enter Tryz.func162, Tryz.ntmps162
  go_wp2
  go_loopw [1, 5] (fun kv iv wr => ∃ i : Nat, i ≤ t.length ∧ iv = .int .i64 i ∧ kv = .int .i64 (k + ↑(mGoal.cnts (t.take i))) ∧ Sec (kGoal.R wr S (.slice A t.length cp) (mGoal.mks (t.take i) k ++ t.drop i)) ∧ Sec (Foot S w wr)) (fun _ iv _ => t.length - (intOf iv).toNat)
  case atStart => exact ⟨0, Nat.zero_le _, rfl, by simp [Mk.cnts], ⟨by simpa [Mk.mks] using HR.out⟩, ⟨Foot.refl _ _⟩⟩
  case round =>
    obtain ⟨i, hi, rfl, rfl, hM, hF⟩ := hrel
    by_cases hlt : i < t.length
    · have hL : (mGoal.mks (t.take i) k ++ t.drop i).length = t.length := mGoal.len_ t k i
      have hil : i < (mGoal.mks (t.take i) k ++ t.drop i).length := by omega
      obtain ⟨b, rfl, -, hSb, hbb, -⟩ := Kd.R_block hM.out (by omega)
      obtain ⟨cs, hA, -⟩ := Kd.At.of_R hM.out hil
      rw [mGoal.at_ t k i hlt] at hA
      have hnext := Sec.mk (HX.out i hlt)
      have hn1 := HN.out i hlt
      have hn2 := HM.out (i + 1)
      rw [hn1] at hn2
      have HN1 := Sec.mk hn1
      have F0 := hF
      clear hM hn1 hL
      generalize mGoal.mks (t.take i) k ++ t.drop i = L at *
      generalize t[i] = x at *
      generalize mGoal.cnts (t.take i) = c at *
      have hcx : Sec (mGoal.cnt x = _) := ⟨mGoal_cnt x⟩
      rw [mGoal_cnt x] at hn2
      have hAt := hA
      obtain ⟨v1, v2, v3, rfl, -, -, -⟩ := kGoal_K hA.K
      have A0 := Sec.mk hA
      clear hA hAt
      have c0_0 : wr.cell? ⟨b, i * 4, none⟩ = some (.int .i64 x.kind) := Kd.At.cell A0.out 0 _ rfl
      have c0_1 : wr.cell? ⟨b, i * 4 + 1, none⟩ = some (v1) := Kd.At.cell A0.out 1 _ rfl
      have c0_2 : wr.cell? ⟨b, i * 4 + 2, none⟩ = some (v2) := Kd.At.cell A0.out 2 _ rfl
      have c0_3 : wr.cell? ⟨b, i * 4 + 3, none⟩ = some (v3) := Kd.At.cell A0.out 3 _ rfl
      have f0_0 : wr.frozen? ⟨b, i * 4, none⟩ = false := Kd.At.frozen A0.out (i * 4)
      have f0_1 : wr.frozen? ⟨b, i * 4 + 1, none⟩ = false := Kd.At.frozen A0.out (i * 4 + 1)
      have f0_2 : wr.frozen? ⟨b, i * 4 + 2, none⟩ = false := Kd.At.frozen A0.out (i * 4 + 2)
      have f0_3 : wr.frozen? ⟨b, i * 4 + 3, none⟩ = false := Kd.At.frozen A0.out (i * 4 + 3)
      have A1 : Sec (Kd.At kGoal (wr.setCell ⟨b, i * 4, none⟩ (.int .i64 (k + (c : Int)))) S b t.length cp L i ⟨k + (c : Int), x.a, x.b, x.c⟩ [.int .i64 (k + (c : Int)), v1, v2, v3]) := ⟨Kd.At.store (e := (Kd.int 3)) A0.out kGoal_f_kind rfl (k + (c : Int)) (.int .i64 (k + (c : Int))) (fun _ _ => ⟨rfl, trivial⟩)⟩
      have F1 : Sec (Foot S w (wr.setCell ⟨b, i * 4, none⟩ (.int .i64 (k + (c : Int))))) := ⟨F0.out.set (g := b) (.inl hSb) (i * 4) (.int .i64 (k + (c : Int)))⟩
      obtain ⟨S1, r1, hs1, bk1⟩ := Kd.At.sub A1.out kGoal_f_a (v := v1) rfl
      have SR1 := Sec.mk r1
      have SS1 := Sec.mk hs1
      have BK1 := Sec.mk bk1
      clear r1 hs1 bk1
      have T0 : Sec True := ⟨trivial⟩
      go_wp2_with (first | (clear T2; go_at_call 28; have T3 : Sec True := ⟨trivial⟩; refine (markSCell_c v3 x.c S3 (k + (c : Int) + 1 + ((mCell.cnts x.a : Nat) : Int) + ((mCell.cnts x.b : Nat) : Int)) (by omega) (by omega) _ SR3.out).mono ?_; rintro e w3 ⟨rfl, hR', hF'⟩; have A4 : Sec (Kd.At kGoal w3 S b t.length cp L i ⟨k + (c : Int), (mCell.mks x.a (k + (c : Int) + 1)), (mCell.mks x.b (k + (c : Int) + 1 + ((mCell.cnts x.a : Nat) : Int))), (mCell.mks x.c (k + (c : Int) + 1 + ((mCell.cnts x.a : Nat) : Int) + ((mCell.cnts x.b : Nat) : Int)))⟩ [.int .i64 (k + (c : Int)), v1, v2, v3]) := ⟨BK3.out w3 _ hR' hF'⟩; have F4 : Sec (Foot S w w3) := ⟨F3.out.trans hF' (fun k _ h => (SS3.out k h).1)⟩; clear hR' hF'; clear c2_0 f2_0 c2_1 f2_1 c2_2 f2_2 c2_3 f2_3; have c3_0 : w3.cell? ⟨b, i * 4, none⟩ = some (.int .i64 (k + (c : Int))) := Kd.At.cell A4.out 0 _ rfl; have c3_1 : w3.cell? ⟨b, i * 4 + 1, none⟩ = some (v1) := Kd.At.cell A4.out 1 _ rfl; have c3_2 : w3.cell? ⟨b, i * 4 + 2, none⟩ = some (v2) := Kd.At.cell A4.out 2 _ rfl; have c3_3 : w3.cell? ⟨b, i * 4 + 3, none⟩ = some (v3) := Kd.At.cell A4.out 3 _ rfl; have f3_0 : w3.frozen? ⟨b, i * 4, none⟩ = false := Kd.At.frozen A4.out (i * 4); have f3_1 : w3.frozen? ⟨b, i * 4 + 1, none⟩ = false := Kd.At.frozen A4.out (i * 4 + 1); have f3_2 : w3.frozen? ⟨b, i * 4 + 2, none⟩ = false := Kd.At.frozen A4.out (i * 4 + 2); have f3_3 : w3.frozen? ⟨b, i * 4 + 3, none⟩ = false := Kd.At.frozen A4.out (i * 4 + 3)) | (clear T1; go_at_call 28; have T2 : Sec True := ⟨trivial⟩; refine (markSCell_c v2 x.b S2 (k + (c : Int) + 1 + ((mCell.cnts x.a : Nat) : Int)) (by omega) (by omega) _ SR2.out).mono ?_; rintro e w2 ⟨rfl, hR', hF'⟩; have A3 : Sec (Kd.At kGoal w2 S b t.length cp L i ⟨k + (c : Int), (mCell.mks x.a (k + (c : Int) + 1)), (mCell.mks x.b (k + (c : Int) + 1 + ((mCell.cnts x.a : Nat) : Int))), x.c⟩ [.int .i64 (k + (c : Int)), v1, v2, v3]) := ⟨BK2.out w2 _ hR' hF'⟩; have F3 : Sec (Foot S w w2) := ⟨F2.out.trans hF' (fun k _ h => (SS2.out k h).1)⟩; clear hR' hF'; clear c1_0 f1_0 c1_1 f1_1 c1_2 f1_2 c1_3 f1_3; have c2_0 : w2.cell? ⟨b, i * 4, none⟩ = some (.int .i64 (k + (c : Int))) := Kd.At.cell A3.out 0 _ rfl; have c2_1 : w2.cell? ⟨b, i * 4 + 1, none⟩ = some (v1) := Kd.At.cell A3.out 1 _ rfl; have c2_2 : w2.cell? ⟨b, i * 4 + 2, none⟩ = some (v2) := Kd.At.cell A3.out 2 _ rfl; have c2_3 : w2.cell? ⟨b, i * 4 + 3, none⟩ = some (v3) := Kd.At.cell A3.out 3 _ rfl; have f2_0 : w2.frozen? ⟨b, i * 4, none⟩ = false := Kd.At.frozen A3.out (i * 4); have f2_1 : w2.frozen? ⟨b, i * 4 + 1, none⟩ = false := Kd.At.frozen A3.out (i * 4 + 1); have f2_2 : w2.frozen? ⟨b, i * 4 + 2, none⟩ = false := Kd.At.frozen A3.out (i * 4 + 2); have f2_3 : w2.frozen? ⟨b, i * 4 + 3, none⟩ = false := Kd.At.frozen A3.out (i * 4 + 3); obtain ⟨S3, r3, hs3, bk3⟩ := Kd.At.sub A3.out kGoal_f_c (v := v3) rfl; have SR3 := Sec.mk r3; have SS3 := Sec.mk hs3; have BK3 := Sec.mk bk3; clear r3 hs3 bk3) | (clear T0; go_at_call 28; have T1 : Sec True := ⟨trivial⟩; refine (markSCell_c v1 x.a S1 (k + (c : Int) + 1) (by omega) (by omega) _ SR1.out).mono ?_; rintro e w1 ⟨rfl, hR', hF'⟩; have A2 : Sec (Kd.At kGoal w1 S b t.length cp L i ⟨k + (c : Int), (mCell.mks x.a (k + (c : Int) + 1)), x.b, x.c⟩ [.int .i64 (k + (c : Int)), v1, v2, v3]) := ⟨BK1.out w1 _ hR' hF'⟩; have F2 : Sec (Foot S w w1) := ⟨F1.out.trans hF' (fun k _ h => (SS1.out k h).1)⟩; clear hR' hF'; clear c0_0 f0_0 c0_1 f0_1 c0_2 f0_2 c0_3 f0_3; have c1_0 : w1.cell? ⟨b, i * 4, none⟩ = some (.int .i64 (k + (c : Int))) := Kd.At.cell A2.out 0 _ rfl; have c1_1 : w1.cell? ⟨b, i * 4 + 1, none⟩ = some (v1) := Kd.At.cell A2.out 1 _ rfl; have c1_2 : w1.cell? ⟨b, i * 4 + 2, none⟩ = some (v2) := Kd.At.cell A2.out 2 _ rfl; have c1_3 : w1.cell? ⟨b, i * 4 + 3, none⟩ = some (v3) := Kd.At.cell A2.out 3 _ rfl; have f1_0 : w1.frozen? ⟨b, i * 4, none⟩ = false := Kd.At.frozen A2.out (i * 4); have f1_1 : w1.frozen? ⟨b, i * 4 + 1, none⟩ = false := Kd.At.frozen A2.out (i * 4 + 1); have f1_2 : w1.frozen? ⟨b, i * 4 + 2, none⟩ = false := Kd.At.frozen A2.out (i * 4 + 2); have f1_3 : w1.frozen? ⟨b, i * 4 + 3, none⟩ = false := Kd.At.frozen A2.out (i * 4 + 3); obtain ⟨S2, r2, hs2, bk2⟩ := Kd.At.sub A2.out kGoal_f_b (v := v2) rfl; have SR2 := Sec.mk r2; have SS2 := Sec.mk hs2; have BK2 := Sec.mk bk2; clear r2 hs2 bk2))
      go_roundw
      case rel => exact ⟨i + 1, by omega, by go_num, by rw [HN1.out, hcx.out]; congr 1; omega, ⟨by rw [← hnext.out]; exact A4.out.R⟩, F4⟩
      case measure => simp [intOf]; omega
    · have hfin : Sec (mGoal.mks (t.take i) k ++ t.drop i = mGoal.mks t k) := ⟨by rw [List.take_of_length_le (by omega), List.drop_of_length_le (by omega), List.append_nil]⟩
      have hM2 := hM.out
      rw [hfin.out] at hM2
      have HM2 := Sec.mk hM2
      have hi2 : Sec (k + ↑(mGoal.cnts (t.take i)) = k + ↑(mGoal.cnts t)) := ⟨by rw [List.take_of_length_le (by omega)]⟩
      clear hM2 hM hfin
      go_wp2
      go_ret
      exact ⟨ri hi2.out, HM2.out, hF.out⟩
set_option maxHeartbeats 2000000 in
theorem heldSGoal_c (v : Value) (t : List Goal) (ok : Nat → Prop) (k : Int) (hk : 0 ≤ k) (hk2 : k + mGoal.cnts t ≤ 1000000000000000000) (w : World) (hV : kGoal.V w ok v (mGoal.mks t k)) :
    Calls Tryz.prog 212 #[v, .int .i64 k] w fun e w' => e = .returned (.int .i64 (k + mGoal.cnts t)) ∧ Below w.heap.size w w' := by
  obtain ⟨A, cp, rfl, g1, g2, g3, hC, _⟩ := hV
  rw [Mk.mks_len] at g1 g3
  rw [Mk.mks_len]
  have HC := Sec.mk hC
  have hu := Tryz.underlying100
  clear hC
  have HN := Sec.mk (mGoal.cnts_take t)
  have HM := Sec.mk (mGoal.cnts_le t)
  have HG := Sec.mk (mGoal.get t k)
  have HLn := Sec.mk (mGoal.mks_len t k)
  go_enter Tryz.func212, Tryz.ntmps212
  go_wp2
  go_loopw [1, 5] (fun kv iv wr => ∃ i : Nat, i ≤ t.length ∧ iv = .int .i64 i ∧ kv = .int .i64 (k + ↑(mGoal.cnts (t.take i))) ∧ Sec (Below w.heap.size w wr)) (fun _ iv _ => t.length - (intOf iv).toNat)
  case atStart => exact ⟨0, Nat.zero_le _, rfl, by simp [Mk.cnts], ⟨Below.refl _ _⟩⟩
  case round =>
    obtain ⟨i, hi, rfl, rfl, hb⟩ := hrel
    by_cases hlt : i < t.length
    · obtain ⟨b, off, cs, rfl, hob, hK, hc⟩ := Kd.C_get HC.out (List.getElem?_eq_getElem (by rw [HLn.out]; exact hlt))
      rw [HG.out i hlt] at hK
      have hn1 := HN.out i hlt
      have hn2 := HM.out (i + 1)
      rw [hn1] at hn2
      have HN1 := Sec.mk hn1
      clear hn1
      generalize t[i] = x at *
      generalize mGoal.cnts (t.take i) = c at *
      have hcx : Sec (mGoal.cnt x = _) := ⟨mGoal_cnt x⟩
      rw [mGoal_cnt x] at hn2
      obtain ⟨v1, v2, v3, rfl, h1, h2, h3⟩ := kGoal_K hK
      have hat : Sec (∀ W : World, Below w.heap.size w W → W.cell? ⟨b, off + i * 4, none⟩ = some (.int .i64 (k + (c : Int))) ∧ W.cell? ⟨b, off + i * 4 + 1, none⟩ = some (v1) ∧ W.cell? ⟨b, off + i * 4 + 2, none⟩ = some (v2) ∧ W.cell? ⟨b, off + i * 4 + 3, none⟩ = some (v3)) := ⟨fun W h => ⟨Raw.cell_below h (hc 0 _ rfl), Raw.cell_below h (hc 1 _ rfl), Raw.cell_below h (hc 2 _ rfl), Raw.cell_below h (hc 3 _ rfl)⟩⟩
      have i0 : (0 : Int) ≤ (i : Int) := by omega
      have i1 : (i : Int) < (t.length : Int) := by omega
      have H1 : Sec (kCell.V w ok v1 (mCell.mks x.a (k + (c : Int) + 1))) := ⟨h1⟩
      clear h1
      have H2 : Sec (kCell.V w ok v2 (mCell.mks x.b (k + (c : Int) + 1 + ((mCell.cnts x.a : Nat) : Int)))) := ⟨h2⟩
      clear h2
      have H3 : Sec (kCell.V w ok v3 (mCell.mks x.c (k + (c : Int) + 1 + ((mCell.cnts x.a : Nat) : Int) + ((mCell.cnts x.b : Nat) : Int)))) := ⟨h3⟩
      clear h3
      clear hc hK
      obtain ⟨c0, c1, c2, c3⟩ := hat.out _ hb.out
      have B0 := hb
      have T0 : Sec True := ⟨trivial⟩
      go_wp2_with (first | (clear T2; go_at_call 88; have T3 : Sec True := ⟨trivial⟩; refine (heldSCell_c v3 x.c ok (k + (c : Int) + 1 + ((mCell.cnts x.a : Nat) : Int) + ((mCell.cnts x.b : Nat) : Int)) (by omega) (by omega) _ (Kd.V_below H3.out B2.out (by decide))).mono ?_; rintro e w3 ⟨rfl, hb1⟩; have B3 := Sec.mk (bel B2.out hb1); clear hb1 c0 c1 c2 c3; obtain ⟨c0, c1, c2, c3⟩ := hat.out _ B3.out) | (clear T1; go_at_call 88; have T2 : Sec True := ⟨trivial⟩; refine (heldSCell_c v2 x.b ok (k + (c : Int) + 1 + ((mCell.cnts x.a : Nat) : Int)) (by omega) (by omega) _ (Kd.V_below H2.out B1.out (by decide))).mono ?_; rintro e w2 ⟨rfl, hb1⟩; have B2 := Sec.mk (bel B1.out hb1); clear hb1 c0 c1 c2 c3; obtain ⟨c0, c1, c2, c3⟩ := hat.out _ B2.out) | (clear T0; go_at_call 88; have T1 : Sec True := ⟨trivial⟩; refine (heldSCell_c v1 x.a ok (k + (c : Int) + 1) (by omega) (by omega) _ (Kd.V_below H1.out B0.out (by decide))).mono ?_; rintro e w1 ⟨rfl, hb1⟩; have B1 := Sec.mk (bel B0.out hb1); clear hb1 c0 c1 c2 c3; obtain ⟨c0, c1, c2, c3⟩ := hat.out _ B1.out))
      go_roundw
      case rel => exact ⟨i + 1, by omega, by go_num, by rw [HN1.out, hcx.out]; congr 1; omega, B3⟩
      case measure => simp [intOf]; omega
    · have hi2 : Sec (k + ↑(mGoal.cnts (t.take i)) = k + ↑(mGoal.cnts t)) := ⟨by rw [List.take_of_length_le (by omega)]⟩
      go_wp2
      go_ret
      exact ⟨ri hi2.out, hb.out⟩
def mGoalt : Mk Goal := ⟨fun x => mCell.cnts x.a + mCell.cnts x.b + mCell.cnts x.c, fun x k => ⟨x.kind, mCell.mks x.a (k), mCell.mks x.b (k + ((mCell.cnts x.a : Nat) : Int)), mCell.mks x.c (k + ((mCell.cnts x.a : Nat) : Int) + ((mCell.cnts x.b : Nat) : Int))⟩⟩
theorem rGoal_le6 (x : Goal) : mGoal.cnt x ≤ 8 + 8 * rGoal.wt x := by
  rw [mGoal_cnt]; rw [rGoal_wt]; have := Mk.cnts_le6 rCell_le6 x.a; have := Mk.cnts_le6 rCell_le6 x.b; have := Mk.cnts_le6 rCell_le6 x.c; omega
end
end Go.Proofs.YtgiobpggonceeaaGreatDoor
