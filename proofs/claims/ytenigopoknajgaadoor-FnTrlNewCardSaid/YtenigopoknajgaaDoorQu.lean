/- Contracts: a question. -/
import Derived.Test.YtenigopoknajgaaDoorSame
namespace Go.Proofs.YtenigopoknajgaaDoor
open Go.RowKit
set_option linter.unusedVariables false
set_option maxRecDepth 100000
def headFun : Term → Bool
  | [] => false
  | c :: _ => c.kind == 3
def question (t : Term) : Bool := trmOk t && headFun t && decide (canon t = t)
theorem trmOk_ne {t : Term} (h : trmOk t = true) : t ≠ [] := by rintro rfl; simp [trmOk] at h
theorem question_no1 {t : Term} (h : trmOk t = false) : question t = false := by simp [question, h]
theorem question_no2 {t : Term} (h : headFun t = false) : question t = false := by simp [question, h]
theorem question_at {t : Term} (h : trmOk t = true) (h2 : headFun t = true) : question t = decide (canon t = t) := by simp [question, h, h2]
theorem l3Call_c (v : Value) (t : Term) (ok : Nat → Prop) (w : World) (hV : kCell.V w ok v t) :
    Calls Tryd.prog 73 #[v] w fun e w' => e = .returned (.bool (headFun t)) ∧ Below w.heap.size w w' := by
  obtain ⟨A, c, rfl, h1, h2, h3, hC, -⟩ := hV
  cases t with
  | nil =>
    clear hC
    simp only [List.length_nil] at *
    have hq : decide ((0 : Int) > ((0 : Nat) : Int)) = false := by decide
    go_enter Tryd.func73, Tryd.ntmps73
    go_wp2
    go_ret
    exact ⟨rfl, Below.refl _ _⟩
  | cons x r =>
    obtain ⟨b, off, rfl, _, x0, -, -, -⟩ := cell_at hC 0 (by simp)
    simp only [List.getElem_cons_zero, Nat.zero_mul, Nat.add_zero] at x0
    have hl : 0 < (x :: r).length := by simp
    generalize hn : (x :: r).length = n at *
    have HN := Sec.mk hn
    clear hn hC
    have i1 : (0 : Int) < (n : Int) := by omega
    have hq : decide ((n : Int) > 0) = true := decide_eq_true i1
    go_enter Tryd.func73, Tryd.ntmps73
    go_wp2
    go_ret
    exact ⟨rfl, Below.refl _ _⟩
theorem l4Top_c (v : Value) (t : Term) (ok : Nat → Prop) (w : World) (hV : kCell.V w ok v t) (hok : ∀ k, ok k → k < w.heap.size) :
    Calls Tryd.prog 51 #[v] w fun e w' => e = .returned (.bool (question t)) ∧ Below w.heap.size w w' := by
  have HV := Sec.mk hV
  have FV : ∀ {w' : World}, Below w.heap.size w w' → kCell.V w' ok v t := fun hb => Kd.V_below HV.out hb (by decide)
  obtain ⟨A, c, rfl, -⟩ := hV
  cases ht : trmOk t with
  | false =>
    rw [question_no1 ht]
    have H1 := Sec.mk ht
    clear ht
    go_enter Tryd.func51, Tryd.ntmps51
    go_wp2_with (go_at_call 72; refine (TrmOk_c _ t _ _ HV.out).mono ?_; rw [H1.out]; rintro e w1 ⟨rfl, hb⟩; have B1 := Sec.mk hb; clear hb)
    go_ret
    exact ⟨rfl, B1.out⟩
  | true =>
    cases hh : headFun t with
    | false =>
      rw [question_no2 hh]
      have H1 := Sec.mk ht
      have H2 := Sec.mk hh
      clear ht hh
      go_enter Tryd.func51, Tryd.ntmps51
      go_wp2_with (first | (go_at_call 72; refine (TrmOk_c _ t _ _ HV.out).mono ?_; rw [H1.out]; rintro e w1 ⟨rfl, hb⟩; have B1 := Sec.mk hb; clear hb) | (go_at_call 73; refine (l3Call_c _ t _ _ (FV B1.out)).mono ?_; rw [H2.out]; rintro e w2 ⟨rfl, hb⟩; have B2 := Sec.mk (bel B1.out hb); clear hb))
      go_ret
      exact ⟨rfl, B2.out⟩
    | true =>
      rw [question_at ht hh]
      generalize hq : decide (canon t = t) = q at *
      have HQ := Sec.mk hq
      have H1 := Sec.mk ht
      have H2 := Sec.mk hh
      clear ht hh hq
      go_enter Tryd.func51, Tryd.ntmps51
      go_wp2_with (first | (go_at_call 72; refine (TrmOk_c _ t _ _ HV.out).mono ?_; rw [H1.out]; rintro e w1 ⟨rfl, hb⟩; have B1 := Sec.mk hb; clear hb) | (go_at_call 73; refine (l3Call_c _ t _ _ (FV B1.out)).mono ?_; rw [H2.out]; rintro e w2 ⟨rfl, hb⟩; have B2 := Sec.mk (bel B1.out hb); clear hb) | (go_at_call 75; refine (TrmCanon_c _ t _ _ (FV B2.out)).mono ?_; rintro e w3 ⟨u, rfl, hR, hb⟩; have R3 := Sec.mk (Kd.R_V hR); have B3 := Sec.mk (bel B2.out hb); clear hR hb) | (go_at_call 74; refine (TrmSame_c _ _ (canon t) t _ _ _ R3.out (FV B3.out)).mono ?_; rw [HQ.out]; rintro e w4 ⟨rfl, hb⟩; have B4 := Sec.mk (bel B3.out hb); clear hb))
      go_ret
      exact ⟨rfl, B4.out⟩
theorem called_i (v : Value) (t : Term) (ok : Nat → Prop) (w : World) (hV : kCell.V w ok v t) :
    Calls Tryd.prog 59 #[v] w fun e w' => e = .returned (.bool (trmOk t && headFun t)) ∧ Below w.heap.size w w' := by
  have HV := Sec.mk hV
  cases ht : trmOk t with
  | false =>
    rw [Bool.false_and]
    obtain ⟨A, c, rfl, -⟩ := hV
    have H1 := Sec.mk ht
    clear ht
    go_enter Tryd.func59, Tryd.ntmps59
    go_wp2_with (go_at_call 36; refine (TrmOk_i _ t _ _ HV.out).mono ?_; rw [H1.out]; rintro e w1 ⟨rfl, hb⟩; have B1 := Sec.mk hb; clear hb)
    go_ret
    exact ⟨rfl, B1.out⟩
  | true =>
    rw [Bool.true_and]
    obtain ⟨A, c, rfl, h1, h2, h3, hC, -⟩ := hV
    cases t with
    | nil => exact absurd rfl (trmOk_ne ht)
    | cons x r =>
      have H1 := Sec.mk ht
      clear ht
      have HC := Sec.mk hC
      obtain ⟨b, off, rfl, _, x0, -, -, -⟩ := cell_at hC 0 (by simp)
      clear x0
      have H0 : ∀ {w' : World}, Below w.heap.size w w' → w'.cell? ⟨b, off, none⟩ = some (.int .i64 x.kind) := fun hb => by
        obtain ⟨b', off', e, _, y0, -, -, -⟩ := cell_at (Kd.C_below HC.out hb (by decide)) 0 (by simp)
        simp only [List.getElem_cons_zero, Nat.zero_mul, Nat.add_zero] at y0
        cases e
        exact y0
      have hl : 0 < (x :: r).length := by simp
      have HT : Sec (headFun (x :: r) = (x.kind == 3)) := ⟨rfl⟩
      rw [HT.out]
      generalize hn : (x :: r).length = n at *
      generalize ht : (x :: r) = t at *
      have HN := Sec.mk hn
      clear hn hC ht
      have i1 : (0 : Int) < (n : Int) := by omega
      go_enter Tryd.func59, Tryd.ntmps59
      go_wp2_with (go_at_call 36; refine (TrmOk_i _ t _ _ HV.out).mono ?_; rw [H1.out]; rintro e w1 ⟨rfl, hb⟩; have x0 := H0 hb; have B1 := Sec.mk hb; clear hb)
      go_ret
      exact ⟨rfl, B1.out⟩
theorem isQuestion_i (v : Value) (t : Term) (ok : Nat → Prop) (w : World) (hV : kCell.V w ok v t) :
    Calls Tryd.prog 27 #[v] w fun e w' => e = .returned (.bool (question t)) ∧ Below w.heap.size w w' := by
  have HV := Sec.mk hV
  have FV : ∀ {w' : World}, Below w.heap.size w w' → kCell.V w' ok v t := fun hb => Kd.V_below HV.out hb (by decide)
  obtain ⟨A, c, rfl, -⟩ := hV
  have hc : question t = ((trmOk t && headFun t) && decide (canon t = t)) := rfl
  rw [hc]
  clear hc
  cases ht : (trmOk t && headFun t) with
  | false =>
    rw [Bool.false_and]
    have H1 := Sec.mk ht
    clear ht
    go_enter Tryd.func27, Tryd.ntmps27
    go_wp2_with (go_at_call 59; refine (called_i _ t _ _ HV.out).mono ?_; rw [H1.out]; rintro e w1 ⟨rfl, hb⟩; have B1 := Sec.mk hb; clear hb)
    go_ret
    exact ⟨rfl, B1.out⟩
  | true =>
    rw [Bool.true_and]
    have H1 := Sec.mk ht
    clear ht
    have hs : decide (t = canon t) = decide (canon t = t) := decide_eq_decide.2 eq_comm
    generalize hq : decide (canon t = t) = q at *
    have HQ := Sec.mk hs
    clear hs hq
    go_enter Tryd.func27, Tryd.ntmps27
    go_wp2_with (first | (go_at_call 59; refine (called_i _ t _ _ HV.out).mono ?_; rw [H1.out]; rintro e w1 ⟨rfl, hb⟩; have B1 := Sec.mk hb; clear hb) | (go_at_call 61; refine (TrmCanon_i _ t _ _ (FV B1.out)).mono ?_; rintro e w3 ⟨u, rfl, hR, hb⟩; have R3 := Sec.mk (Kd.R_V hR); have B3 := Sec.mk (bel B1.out hb); clear hR hb) | (go_at_call 60; refine (TrmSame_i _ _ t (canon t) _ _ _ (FV B3.out) R3.out).mono ?_; rw [HQ.out]; rintro e w4 ⟨rfl, hb⟩; have B4 := Sec.mk (bel B3.out hb); clear hb))
    go_ret
    exact ⟨rfl, B4.out⟩
end Go.Proofs.YtenigopoknajgaaDoor
