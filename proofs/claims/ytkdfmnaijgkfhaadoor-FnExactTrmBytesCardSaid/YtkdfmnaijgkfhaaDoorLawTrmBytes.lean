/- FnExactTrmBytes: what it does, whatever it is given: it returns true. -/
import Derived.Test.YtkdfmnaijgkfhaaDoorI4
import Derived.Test.YtkdfmnaijgkfhaaDoorXByte
import Derived.Test.YtkdfmnaijgkfhaaDoorXCell
namespace Go.Proofs.YtkdfmnaijgkfhaaDoor
open Go.RowKit
set_option linter.unusedVariables false
set_option maxRecDepth 100000
/-- Between two numbers. -/
def Rg (a b : Nat) (k : Nat) : Prop := a ≤ k ∧ k < b
theorem Rg.apart {a b c d : Nat} (h : b ≤ c ∨ d ≤ a) (k : Nat) (h1 : Rg a b k) (h2 : Rg c d k) : False := by
  unfold Rg at h1 h2; omega
theorem tru_ {α : Type} [DecidableEq α] (t : List α) : decide (t = t) = true := decide_eq_true rfl

set_option maxHeartbeats 4000000 in
theorem FnExactTrmBytes_law_c (v : Value) (t : List Cell) (w : World) (hV : rCell.V w v t) :
    Calls Tryd.prog 3 #[v] w fun e w' => e = .returned (.bool true) ∧ Below w.heap.size w w' := by
  have HR := Sec.mk hV
  have T0 : Sec True := ⟨trivial⟩
  by_cases hbud : rCell.wts t ≤ 1048576
  · have HA := Sec.mk (Raw.V_fits rCell_fits hV (by omega))
    have HL : Sec (1 + mByte.cnts (trmBytes t) ≤ 100000000000) := ⟨by rw [mByte_cnts]; have := trmBytes_len t; omega⟩
    have HC : Sec (1 + mCell.cnts t ≤ 100000000000) := ⟨by have := Mk.cnts_le6 rCell_le6 t; omega⟩
    have hsp := Raw.spent_le hbud
    generalize 1048576 - rCell.wts t = l at hsp
    have hl0 : ¬ ((l : Int) < 0) := by omega
    obtain ⟨A9, c9, rfl, -⟩ := hV
    clear hbud
    go_enter Tryd.func3, Tryd.ntmps3
    go_wp2_with (first | (clear T15; go_at_call 16; have T16 : Sec True := ⟨trivial⟩; refine (heldSByte_c u1 (trmBytes t) _ 1 (by omega) (by have := HL.out; omega) _ (Kd.R_V G15.out)).mono ?_; rintro e w16 ⟨rfl, hb⟩; have B16 := Sec.mk (bel B15.out hb); clear hb) | (clear T14; go_at_call 12; have T15 : Sec True := ⟨trivial⟩; refine (eqSByte_c u2 u0 (trmBytes t) (trmBytes t) _ _ _ (Kd.R_V H14.out) (Kd.R_V U14.out)).mono ?_; rintro e w15 ⟨rfl, hb⟩; rw [tru_]; have B15 := Sec.mk (bel B14.out hb); have G15 := Sec.mk (Kd.R_below G14.out hb); clear hb) | (clear T13; go_at_call 11; have T14 : Sec True := ⟨trivial⟩; refine (TrmBytes_i w13 z3 t _ (Kd.R_V Y13.out)).mono ?_; rintro e w14 ⟨u2, rfl, hR, hb⟩; have H14 := Sec.mk (hR); have B14 := Sec.mk (bel B13.out hb); have U14 := Sec.mk (Kd.R_below U13.out hb); have G14 := Sec.mk (Kd.R_below G13.out hb); clear hb hR) | (clear T12; go_at_call 10; have T13 : Sec True := ⟨trivial⟩; refine (toSCell_c _ t _ _ (Kd.V_below HA.out B12.out (by decide))).mono ?_; rintro e w13 ⟨z3, rfl, hR, hb⟩; have Y13 := Sec.mk (hR); have B13 := Sec.mk (bel B12.out hb); have U13 := Sec.mk (Kd.R_below U12.out hb); have G13 := Sec.mk (Kd.R_below G12.out hb); clear hb hR) | (clear T11; go_at_call 16; have T12 : Sec True := ⟨trivial⟩; refine (heldSByte_c u1 (trmBytes t) _ 1 (by omega) (by have := HL.out; omega) _ (Kd.R_V G11.out)).mono ?_; rintro e w12 ⟨rfl, hb⟩; have B12 := Sec.mk (bel B11.out hb); have U12 := Sec.mk (Kd.R_below U11.out hb); have G12 := Sec.mk (Kd.R_below G11.out hb); clear hb) | (clear T10; go_at_call 15; have T11 : Sec True := ⟨trivial⟩; refine (markSByte_c u1 (trmBytes t) (Rg w4.heap.size w5.heap.size) 1 (by omega) (by have := HL.out; omega) _ G10.out).mono ?_; rintro e w11 ⟨rfl, hR', hF⟩; have U11 := Sec.mk (Foot.R hF U10.out (fun k h1 h2 => Rg.apart (.inl Z4.out) k h1 h2)); have G11 := Sec.mk (hR'); have B11 := Sec.mk (hF.below B10.out (fun k h => Nat.le_trans B4.out.size h.1)); have c2 : ¬ (1 + ((mByte.cnts (trmBytes t) : Nat) : Int) < 0) := (by omega); clear hR' hF) | (clear T9; go_at_call 12; have T10 : Sec True := ⟨trivial⟩; refine (eqSByte_c u1 u0 (trmBytes t) (trmBytes t) _ _ _ (Kd.R_V G9.out) (Kd.R_V U9.out)).mono ?_; rintro e w10 ⟨rfl, hb⟩; rw [tru_]; have B10 := Sec.mk (bel B9.out hb); have U10 := Sec.mk (Kd.R_below U9.out hb); have G10 := Sec.mk (Kd.R_below G9.out hb); clear hb) | (clear T8; go_at_call 14; have T9 : Sec True := ⟨trivial⟩; refine (markSCell_c x t (Rg w3.heap.size w4.heap.size) 1 (by omega) (by have := HC.out; omega) _ X8.out).mono ?_; rintro e w9 ⟨rfl, hR', hF⟩; have U9 := Sec.mk (Foot.R hF U8.out (fun k h1 h2 => Rg.apart (.inl (Nat.le_refl _)) k h1 h2)); have G9 := Sec.mk (Foot.R hF G8.out (fun k h1 h2 => Rg.apart (.inr (Nat.le_refl _)) k h1 h2)); have B9 := Sec.mk (hF.below B8.out (fun k h => Nat.le_trans B3.out.size h.1)); have c1 : ¬ (1 + ((mCell.cnts t : Nat) : Int) < 0) := (by omega); clear hR' hF) | (clear T7; go_at_call 13; have T8 : Sec True := ⟨trivial⟩; refine (eqSCell_c x z t t _ _ _ (Kd.R_V X7.out) (Kd.R_V Y7.out)).mono ?_; rintro e w8 ⟨rfl, hb⟩; rw [tru_]; have B8 := Sec.mk (bel B7.out hb); have U8 := Sec.mk (Kd.R_below U7.out hb); have X8 := Sec.mk (Kd.R_below X7.out hb); have G8 := Sec.mk (Kd.R_below G7.out hb); clear hb) | (clear T6; go_at_call 10; have T7 : Sec True := ⟨trivial⟩; refine (toSCell_c _ t _ _ (Kd.V_below HA.out B6.out (by decide))).mono ?_; rintro e w7 ⟨z, rfl, hR, hb⟩; have Y7 := Sec.mk (hR); have B7 := Sec.mk (bel B6.out hb); have U7 := Sec.mk (Kd.R_below U6.out hb); have X7 := Sec.mk (Kd.R_below X6.out hb); have G7 := Sec.mk (Kd.R_below G6.out hb); clear hb hR) | (clear T5; go_at_call 12; have T6 : Sec True := ⟨trivial⟩; refine (eqSByte_c u1 u0 (trmBytes t) (trmBytes t) _ _ _ (Kd.R_V G5.out) (Kd.R_V U5.out)).mono ?_; rintro e w6 ⟨rfl, hb⟩; rw [tru_]; have B6 := Sec.mk (bel B5.out hb); have U6 := Sec.mk (Kd.R_below U5.out hb); have X6 := Sec.mk (Kd.R_below X5.out hb); have G6 := Sec.mk (Kd.R_below G5.out hb); clear hb) | (clear T4; go_at_call 11; have T5 : Sec True := ⟨trivial⟩; refine (TrmBytes_i w4 x t _ (Kd.R_V X4.out)).mono ?_; rintro e w5 ⟨u1, rfl, hR, hb⟩; have G5 : Sec (kByte.R w5 (Rg w4.heap.size w5.heap.size) u1 (trmBytes t)) := ⟨Kd.R_mono hR (fun k h1 h2 => ⟨h1, h2⟩)⟩; have B5 := Sec.mk (bel B4.out hb); have U5 := Sec.mk (Kd.R_below U4.out hb); have X5 := Sec.mk (Kd.R_below X4.out hb); clear hb hR) | (clear T3; go_at_call 10; have T4 : Sec True := ⟨trivial⟩; refine (toSCell_c _ t _ _ (Kd.V_below HA.out B3.out (by decide))).mono ?_; rintro e w4 ⟨x, rfl, hR, hb⟩; have X4 : Sec (kCell.R w4 (Rg w3.heap.size w4.heap.size) x t) := ⟨Kd.R_mono hR (fun k h1 h2 => ⟨h1, h2⟩)⟩; have B4 := Sec.mk (bel B3.out hb); have U4 := Sec.mk (Kd.R_below U3.out hb); have Z4 := Sec.mk (hb.size); clear hb hR) | (clear T2; go_at_call 9; have T3 : Sec True := ⟨trivial⟩; refine (TrmBytes_c w2 y t _ (Kd.R_V Y2.out)).mono ?_; rintro e w3 ⟨u0, rfl, hR, hb⟩; have B3 := Sec.mk (bel B2.out hb); have U3 : Sec (kByte.R w3 (Rg w2.heap.size w3.heap.size) u0 (trmBytes t)) := ⟨Kd.R_mono hR (fun k h1 h2 => ⟨h1, h2⟩)⟩; clear hb hR) | (clear T1; go_at_call 10; have T2 : Sec True := ⟨trivial⟩; refine (toSCell_c _ t _ _ (Kd.V_below HA.out B1.out (by decide))).mono ?_; rintro e w2 ⟨y, rfl, hR, hb⟩; have Y2 := Sec.mk (hR); have B2 := Sec.mk (bel B1.out hb); clear hb hR) | (clear T0; go_at_call 8; have T1 : Sec True := ⟨trivial⟩; refine (szSCell_c _ t 1048576 (Nat.le_refl _) _ HR.out).mono ?_; rintro e w1 ⟨rfl, hb⟩; rw [hsp]; have B1 := Sec.mk (hb); clear hb))
    go_ret
    exact ⟨rfl, B16.out⟩
  · have hsp := Raw.spent_gt hbud
    obtain ⟨A9, c9, rfl, -⟩ := hV
    clear hbud
    go_enter Tryd.func3, Tryd.ntmps3
    go_wp2_with (clear T0; go_at_call 8; refine (szSCell_c _ t 1048576 (Nat.le_refl _) _ HR.out).mono ?_; rintro e w1 ⟨rfl, hb⟩; rw [hsp]; have B1 := Sec.mk hb; clear hb)
    go_ret
    exact ⟨rfl, B1.out⟩
end Go.Proofs.YtkdfmnaijgkfhaaDoor
