/- FnExactTrmTake: what it does, whatever it is given: it returns true. -/
import Derived.Test.YtkdfmnaijgkfhaaDoorT9
import Derived.Test.YtkdfmnaijgkfhaaDoorXCell
import Derived.Test.YtkdfmnaijgkfhaaDoorCode
namespace Go.Proofs.YtkdfmnaijgkfhaaDoor
open Go.RowKit
set_option linter.unusedVariables false
set_option maxRecDepth 100000
/-- Between two numbers. -/
def Rg (a b : Nat) (k : Nat) : Prop := a ≤ k ∧ k < b
theorem tru_ {α : Type} [DecidableEq α] (t : List α) : decide (t = t) = true := decide_eq_true rfl
theorem takeD_len (bs : List UInt8) : (takeD bs).1.length ≤ 40 ∧ ∀ x ∈ (takeD bs).1, x.name.size ≤ 8 := by
  cases h : (takeD bs).2 with
  | false => rw [takeD_no h]; simp
  | true =>
    obtain ⟨h1, h2⟩ := trmOk_all (takeD_some h).1
    refine ⟨h1, fun x hx => ?_⟩
    have hc := List.all_eq_true.1 h2 x hx
    by_cases h3 : x.kind = 3
    · exact cellOk_name hc h3
    · rw [cellOk_noname hc h3]; decide
theorem mCell_cnts (t : Term) : mCell.cnts t = 3 * t.length := by
  unfold Mk.cnts
  induction t with
  | nil => rfl
  | cons x t ih => rw [List.map_cons, List.sum_cons, ih, List.length_cons]; show 1 + 1 + 1 + _ = _; omega
set_option maxHeartbeats 4000000 in
theorem FnExactTrmTake_law_c (a : Option Addr) (len cap : Nat) (zs : List Int) (w : World) (hr : CodeRow w a len cap zs) :
    Calls Tryd.prog 4 #[.slice a len cap] w fun e w' => e = .returned (.bool true) ∧ Below w.heap.size w w' := by
  by_cases hl : len ≤ 1048576
  · obtain ⟨bs, rfl, hV⟩ := hr.view (by omega)
    have AV := Sec.mk hV
    have hk := (takeD_len bs).1
    have HB : Sec (1 + mByte.cnts bs ≤ 100000000000) := ⟨by rw [mByte_cnts]; omega⟩
    obtain ⟨p, hp⟩ : ∃ p, takeD bs = p := ⟨_, rfl⟩
    have HD := Sec.mk hp
    rw [hp] at hk
    obtain ⟨t, bb⟩ := p
    simp only at hk
    have HC : Sec (1 + mCell.cnts t ≤ 100000000000) := ⟨by rw [mCell_cnts]; omega⟩
    clear hV hr hp
    have T0 : Sec True := ⟨trivial⟩
    cases bb <;>
    · go_enter Tryd.func4, Tryd.ntmps4
      go_wp2_with (first | (clear T14; go_at_call 20; have T15 : Sec True := ⟨trivial⟩; refine (heldSCell_c _ t _ 1 (by omega) (by have := HC.out; omega) _ (Kd.R_V M_14.out)).mono ?_; rintro e w15 ⟨rfl, hb⟩; have Z15 := Sec.mk hb.size; have B_15 := Sec.mk (bel B_14.out hb); clear hb) | (clear T13; go_at_call 13; have T14 : Sec True := ⟨trivial⟩; refine (eqSCell_c _ _ t t _ _ _ (Kd.R_V H_13.out) (Kd.R_V U_13.out)).mono ?_; rintro e w14 ⟨rfl, hb⟩; rw [tru_]; have Z14 := Sec.mk hb.size; have B_14 := Sec.mk (bel B_13.out hb); have M_14 := Sec.mk (Kd.R_below M_13.out hb); clear hb) | (clear T12; go_at_call 19; have T13 : Sec True := ⟨trivial⟩; refine (TrmTake_i _ bs _ (by omega) _ (Kd.R_V Y2_12.out)).mono ?_; rw [HD.out]; rintro e w13 ⟨u2, rfl, hR, hb⟩; obtain ⟨A2, n2, rfl, -, -⟩ := Kd.R_form hR; have Z13 := Sec.mk hb.size; have H_13 : Sec (kCell.R w13 (Rg w12.heap.size w13.heap.size) (.slice A2 t.length n2) t) := ⟨Kd.R_mono hR (fun k h1 h2 => ⟨h1, h2⟩)⟩; have B_13 := Sec.mk (bel B_12.out hb); have U_13 := Sec.mk (Kd.R_below U_12.out hb); have M_13 := Sec.mk (Kd.R_below M_12.out hb); clear hb hR) | (clear T11; go_at_call 18; have T12 : Sec True := ⟨trivial⟩; refine (toSByte_c _ bs _ _ (Kd.V_below AV.out B_11.out (by decide))).mono ?_; rintro e w12 ⟨y2, rfl, hR, hb⟩; have Z12 := Sec.mk hb.size; have Y2_12 : Sec (kByte.R w12 (Rg w11.heap.size w12.heap.size) y2 bs) := ⟨Kd.R_mono hR (fun k h1 h2 => ⟨h1, h2⟩)⟩; have B_12 := Sec.mk (bel B_11.out hb); have U_12 := Sec.mk (Kd.R_below U_11.out hb); have M_12 := Sec.mk (Kd.R_below M_11.out hb); clear hb hR) | (clear T10; go_at_call 20; have T11 : Sec True := ⟨trivial⟩; refine (heldSCell_c _ t _ 1 (by omega) (by have := HC.out; omega) _ (Kd.R_V M_10.out)).mono ?_; rintro e w11 ⟨rfl, hb⟩; have Z11 := Sec.mk hb.size; have B_11 := Sec.mk (bel B_10.out hb); have U_11 := Sec.mk (Kd.R_below U_10.out hb); have M_11 := Sec.mk (Kd.R_below M_10.out hb); clear hb) | (clear T9; go_at_call 14; have T10 : Sec True := ⟨trivial⟩; refine (markSCell_c _ t _ 1 (by omega) (by have := HC.out; omega) _ G_9.out).mono ?_; rintro e w10 ⟨rfl, hR', hF⟩; have Z10 := Sec.mk hF.size; have M_10 := Sec.mk (hR'); have B_10 := Sec.mk (hF.below B_9.out (fun k h => by unfold Rg at h; have z1 := Z1.out; have z2 := Z2.out; have z3 := Z3.out; have z4 := Z4.out; have z5 := Z5.out; have z6 := Z6.out; have z7 := Z7.out; have z8 := Z8.out; have z9 := Z9.out; omega)); have U_10 := Sec.mk (Foot.R hF U_9.out (fun k h1 h2 => by unfold Rg at h1 h2; have z1 := Z1.out; have z2 := Z2.out; have z3 := Z3.out; have z4 := Z4.out; have z5 := Z5.out; have z6 := Z6.out; have z7 := Z7.out; have z8 := Z8.out; have z9 := Z9.out; omega)); clear hF hR') | (clear T8; go_at_call 13; have T9 : Sec True := ⟨trivial⟩; refine (eqSCell_c _ _ t t _ _ _ (Kd.R_V G_8.out) (Kd.R_V U_8.out)).mono ?_; rintro e w9 ⟨rfl, hb⟩; rw [tru_]; have Z9 := Sec.mk hb.size; have B_9 := Sec.mk (bel B_8.out hb); have U_9 := Sec.mk (Kd.R_below U_8.out hb); have G_9 := Sec.mk (Kd.R_below G_8.out hb); clear hb) | (clear T7; go_at_call 15; have T8 : Sec True := ⟨trivial⟩; refine (markSByte_c _ bs _ 1 (by omega) (by have := HB.out; omega) _ X_7.out).mono ?_; rintro e w8 ⟨rfl, -, hF⟩; have c1 : ¬ (1 + ((mByte.cnts bs : Nat) : Int) < 0) := (by omega); have Z8 := Sec.mk hF.size; have B_8 := Sec.mk (hF.below B_7.out (fun k h => by unfold Rg at h; have z1 := Z1.out; have z2 := Z2.out; have z3 := Z3.out; have z4 := Z4.out; have z5 := Z5.out; have z6 := Z6.out; have z7 := Z7.out; omega)); have U_8 := Sec.mk (Foot.R hF U_7.out (fun k h1 h2 => by unfold Rg at h1 h2; have z1 := Z1.out; have z2 := Z2.out; have z3 := Z3.out; have z4 := Z4.out; have z5 := Z5.out; have z6 := Z6.out; have z7 := Z7.out; omega)); have G_8 := Sec.mk (Foot.R hF G_7.out (fun k h1 h2 => by unfold Rg at h1 h2; have z1 := Z1.out; have z2 := Z2.out; have z3 := Z3.out; have z4 := Z4.out; have z5 := Z5.out; have z6 := Z6.out; have z7 := Z7.out; omega)); clear hF) | (clear T6; go_at_call 12; have T7 : Sec True := ⟨trivial⟩; refine (eqSByte_c _ _ bs bs _ _ _ (Kd.R_V X_6.out) (Kd.R_V Z_6.out)).mono ?_; rintro e w7 ⟨rfl, hb⟩; rw [tru_]; have Z7 := Sec.mk hb.size; have B_7 := Sec.mk (bel B_6.out hb); have U_7 := Sec.mk (Kd.R_below U_6.out hb); have X_7 := Sec.mk (Kd.R_below X_6.out hb); have G_7 := Sec.mk (Kd.R_below G_6.out hb); clear hb) | (clear T5; go_at_call 18; have T6 : Sec True := ⟨trivial⟩; refine (toSByte_c _ bs _ _ (Kd.V_below AV.out B_5.out (by decide))).mono ?_; rintro e w6 ⟨z, rfl, hR, hb⟩; have Z6 := Sec.mk hb.size; have Z_6 : Sec (kByte.R w6 (Rg w5.heap.size w6.heap.size) z bs) := ⟨Kd.R_mono hR (fun k h1 h2 => ⟨h1, h2⟩)⟩; have B_6 := Sec.mk (bel B_5.out hb); have U_6 := Sec.mk (Kd.R_below U_5.out hb); have X_6 := Sec.mk (Kd.R_below X_5.out hb); have G_6 := Sec.mk (Kd.R_below G_5.out hb); clear hb hR) | (clear T4; go_at_call 13; have T5 : Sec True := ⟨trivial⟩; refine (eqSCell_c _ _ t t _ _ _ (Kd.R_V G_4.out) (Kd.R_V U_4.out)).mono ?_; rintro e w5 ⟨rfl, hb⟩; rw [tru_]; have Z5 := Sec.mk hb.size; have B_5 := Sec.mk (bel B_4.out hb); have U_5 := Sec.mk (Kd.R_below U_4.out hb); have X_5 := Sec.mk (Kd.R_below X_4.out hb); have G_5 := Sec.mk (Kd.R_below G_4.out hb); clear hb) | (clear T3; go_at_call 19; have T4 : Sec True := ⟨trivial⟩; refine (TrmTake_i _ bs _ (by omega) _ (Kd.R_V X_3.out)).mono ?_; rw [HD.out]; rintro e w4 ⟨u1, rfl, hR, hb⟩; obtain ⟨A1, n1, rfl, -, -⟩ := Kd.R_form hR; have Z4 := Sec.mk hb.size; have G_4 : Sec (kCell.R w4 (Rg w3.heap.size w4.heap.size) (.slice A1 t.length n1) t) := ⟨Kd.R_mono hR (fun k h1 h2 => ⟨h1, h2⟩)⟩; have B_4 := Sec.mk (bel B_3.out hb); have U_4 := Sec.mk (Kd.R_below U_3.out hb); have X_4 := Sec.mk (Kd.R_below X_3.out hb); clear hb hR) | (clear T2; go_at_call 18; have T3 : Sec True := ⟨trivial⟩; refine (toSByte_c _ bs _ _ (Kd.V_below AV.out B_2.out (by decide))).mono ?_; rintro e w3 ⟨x, rfl, hR, hb⟩; have Z3 := Sec.mk hb.size; have X_3 : Sec (kByte.R w3 (Rg w2.heap.size w3.heap.size) x bs) := ⟨Kd.R_mono hR (fun k h1 h2 => ⟨h1, h2⟩)⟩; have B_3 := Sec.mk (bel B_2.out hb); have U_3 := Sec.mk (Kd.R_below U_2.out hb); clear hb hR) | (clear T1; go_at_call 17; have T2 : Sec True := ⟨trivial⟩; refine (specTrmTake_c _ bs _ (by omega) _ (Kd.R_V Y_1.out)).mono ?_; rw [HD.out]; rintro e w2 ⟨u0, rfl, hR, hb⟩; obtain ⟨A0, n0, rfl, -, -⟩ := Kd.R_form hR; have Z2 := Sec.mk hb.size; have U_2 : Sec (kCell.R w2 (Rg w1.heap.size w2.heap.size) (.slice A0 t.length n0) t) := ⟨Kd.R_mono hR (fun k h1 h2 => ⟨h1, h2⟩)⟩; have B_2 := Sec.mk (bel B_1.out hb); clear hb hR) | (clear T0; go_at_call 18; have T1 : Sec True := ⟨trivial⟩; refine (toSByte_c _ bs _ _ AV.out).mono ?_; rintro e w1 ⟨y, rfl, hR, hb⟩; have Z1 := Sec.mk hb.size; have Y_1 : Sec (kByte.R w1 (Rg w.heap.size w1.heap.size) y bs) := ⟨Kd.R_mono hR (fun k h1 h2 => ⟨h1, h2⟩)⟩; have B_1 := Sec.mk (bel (Below.refl w.heap.size w) hb); clear hb hR))
      go_ret
      exact ⟨rfl, B_15.out⟩
  · go_enter Tryd.func4, Tryd.ntmps4
    go_wp2
    go_ret
    exact ⟨rfl, Below.refl _ _⟩
end Go.Proofs.YtkdfmnaijgkfhaaDoor
