/- FnTrmBytes: what it does, whatever it is given: it returns true. -/
import Derived.Test.YtkdfmnaijgkfhaaDoorT9
import Derived.Test.YtkdfmnaijgkfhaaDoorCa
import Derived.Test.YtkdfmnaijgkfhaaDoorCode
import Derived.Test.YtkdfmnaijgkfhaaDoorDraw6
namespace Go.Proofs.YtkdfmnaijgkfhaaDoor
open Go.RowKit
set_option linter.unusedVariables false
set_option maxRecDepth 100000
/-- Between two numbers. -/
def Rg (a b : Nat) (k : Nat) : Prop := a ≤ k ∧ k < b
theorem tru_ {α : Type} [DecidableEq α] (t : List α) : decide (t = t) = true := decide_eq_true rfl
theorem DrawTrmBytes_c (w : World) (v : Value) (code : List UInt8) (ok : Nat → Prop) (hV : kByte.V w ok v code) :
    Calls Tryd.prog 21 #[v] w fun e w' => ∃ u t, e = .returned u ∧ kCell.R w' (fun k => w.heap.size ≤ k) u t ∧ Below w.heap.size w w' := by
  have H0 := Sec.mk (open_c w v code ok hV)
  obtain ⟨A, c, rfl, _⟩ := hV
  go_enter Tryd.func21, Tryd.ntmps21
  go_wp2_with fail
  refine H0.out.mono ?_
  rintro e w1 ⟨g, rfl, hR1, hB1⟩
  have R1 := Sec.mk hR1
  have z1 := hB1.size
  clear hR1 hB1
  go_wp2_with fail
  refine (termOr_c w w1 g 0 5 R1.out (by omega) (by omega) (by omega)).mono ?_
  rintro e w2 ⟨u2, t, rfl, hR2, hl2, hD2, hRd2, hO2⟩
  have T2 := Sec.mk hR2
  have R2 := Sec.mk hRd2.bel
  clear hR2 hl2 hD2 hRd2 hO2
  go_wp2
  go_ret
  exact ⟨_, _, rfl, Kd.R_mono T2.out (fun k h _ => by omega), R2.out⟩
set_option maxHeartbeats 8000000 in
theorem FnTrmBytes_law_c (a : Option Addr) (len cap : Nat) (zs : List Int) (a2 : Option Addr) (len2 cap2 : Nat) (zs2 : List Int) (w0 : World) (hr : CodeRow w0 a len cap zs) (hr2 : CodeRow w0 a2 len2 cap2 zs2) :
    Calls Tryd.prog 5 #[.slice a len cap, .slice a2 len2 cap2] w0 fun e w' => e = .returned (.bool true) ∧ Below w0.heap.size w0 w' := by
  by_cases hl : len ≤ 1048576
  · by_cases hl2 : len2 ≤ 1048576
    · obtain ⟨code, rfl, hV⟩ := hr.view (by omega)
      obtain ⟨more, rfl, hV2⟩ := hr2.view (by omega)
      have H0 := Sec.mk (DrawTrmBytes_c w0 _ code _ hV)
      have M0 := Sec.mk hV2
      clear hV hV2 hr hr2
      go_enter Tryd.func5, Tryd.ntmps5
      go_wp2_with fail
      refine H0.out.mono ?_
      rintro e wa ⟨ut, t, rfl, hR, hb⟩
      obtain ⟨At, nt, rfl, -, -⟩ := Kd.R_form hR
      have TA := Sec.mk hR
      have BA := Sec.mk hb
      clear hR hb
      go_wp2_with fail
      refine (DrawTrmTake_c wa _ more _ (Kd.V_below M0.out BA.out (by decide))).mono ?_
      rintro e w ⟨ub, bs, rfl, hR, hlb, hb⟩
      obtain ⟨Ab, nb, rfl, -, -⟩ := Kd.R_form hR
      have BB := Sec.mk (bel BA.out hb)
      have D_0 := Sec.mk (Kd.R_mono hR (S1 := Rg wa.heap.size w.heap.size) (fun k h1 h2 => ⟨h1, h2⟩))
      have T_0 := Sec.mk (Kd.R_below (Kd.R_mono TA.out (S1 := Rg w0.heap.size wa.heap.size) (fun k h1 h2 => ⟨h1, h2⟩)) hb)
      clear hR hb H0 M0
      obtain ⟨p, hp⟩ : ∃ p, takeD bs = p := ⟨_, rfl⟩
      have HD := Sec.mk hp
      have HXX : Sec (p.2 = true → trmOk p.1 = true ∧ trmBytes p.1 = bs) := ⟨fun h => by rw [← hp] at h ⊢; exact takeD_some h⟩
      obtain ⟨x, b9⟩ := p
      clear hp
      obtain ⟨k9, hk9⟩ : ∃ k, trmOk t = k := ⟨_, rfl⟩
      have HK := Sec.mk hk9
      cases b9 with
      | false =>
        clear HXX
        cases k9 with
        | false =>
          have HE : Sec (trmBytes t = []) := ⟨if_neg (by simp [hk9])⟩
          clear hk9
          have T0 : Sec True := ⟨trivial⟩
          go_wp2_with (first | (clear T7; go_at_call 27; have T8 : Sec True := ⟨trivial⟩; refine (caOk_c _).mono ?_; rintro e w8 ⟨rfl, hb⟩; have Z8 := Sec.mk hb.size; have B_8 := Sec.mk (bel B_7.out hb); clear hb) | (clear T6; go_at_call 26; have T7 : Sec True := ⟨trivial⟩; refine (TrmOk_c _ t _ _ (Kd.R_V T_6.out)).mono ?_; rw [HK.out]; rintro e w7 ⟨rfl, hb⟩; have Z7 := Sec.mk hb.size; have B_7 := Sec.mk (bel B_6.out hb); have he := HE.out; clear hb) | (clear T5; go_at_call 24; have T6 : Sec True := ⟨trivial⟩; refine (caTerm_c _ _ x x _ _ _ (Kd.R_V X_5.out) (Kd.R_V Y_5.out)).mono ?_; rintro e w6 ⟨rfl, hb⟩; rw [tru_]; have Z6 := Sec.mk hb.size; have B_6 := Sec.mk (bel B_5.out hb); have T_6 := Sec.mk (Kd.R_below T_5.out hb); clear hb) | (clear T4; go_at_call 23; have T5 : Sec True := ⟨trivial⟩; refine (caBytes_c _ _ (trmBytes t) (trmBytes t) _ _ _ (Kd.R_V W_4.out) (Kd.R_V W2_4.out)).mono ?_; rintro e w5 ⟨rfl, hb⟩; rw [tru_]; have Z5 := Sec.mk hb.size; have B_5 := Sec.mk (bel B_4.out hb); have T_5 := Sec.mk (Kd.R_below T_4.out hb); have X_5 := Sec.mk (Kd.R_below X_4.out hb); have Y_5 := Sec.mk (Kd.R_below Y_4.out hb); clear hb) | (clear T3; go_at_call 9; have T4 : Sec True := ⟨trivial⟩; refine (TrmBytes_c _ _ t _ (Kd.R_V T_3.out)).mono ?_; rintro e w4 ⟨u4, rfl, hR, hb⟩; obtain ⟨A4, n4, rfl, -, -⟩ := Kd.R_form hR; have Z4 := Sec.mk hb.size; have W2_4 : Sec (kByte.R w4 (Rg w3.heap.size w4.heap.size) (.slice A4 (trmBytes t).length n4) (trmBytes t)) := ⟨Kd.R_mono hR (fun k h1 h2 => ⟨h1, h2⟩)⟩; have B_4 := Sec.mk (bel B_3.out hb); have T_4 := Sec.mk (Kd.R_below T_3.out hb); have W_4 := Sec.mk (Kd.R_below W_3.out hb); have X_4 := Sec.mk (Kd.R_below X_3.out hb); have Y_4 := Sec.mk (Kd.R_below Y_3.out hb); clear hb hR) | (clear T2; go_at_call 17; have T3 : Sec True := ⟨trivial⟩; refine (specTrmTake_c _ bs _ (by omega) _ (Kd.R_V D_2.out)).mono ?_; rw [HD.out]; rintro e w3 ⟨u3, rfl, hR, hb⟩; obtain ⟨A3, n3, rfl, -, -⟩ := Kd.R_form hR; have Z3 := Sec.mk hb.size; have Y_3 : Sec (kCell.R w3 (Rg w2.heap.size w3.heap.size) (.slice A3 x.length n3) x) := ⟨Kd.R_mono hR (fun k h1 h2 => ⟨h1, h2⟩)⟩; have B_3 := Sec.mk (bel B_2.out hb); have T_3 := Sec.mk (Kd.R_below T_2.out hb); have W_3 := Sec.mk (Kd.R_below W_2.out hb); have X_3 := Sec.mk (Kd.R_below X_2.out hb); clear hb hR) | (clear T1; go_at_call 19; have T2 : Sec True := ⟨trivial⟩; refine (TrmTake_i _ bs _ (by omega) _ (Kd.R_V D_1.out)).mono ?_; rw [HD.out]; rintro e w2 ⟨u2, rfl, hR, hb⟩; obtain ⟨A2, n2, rfl, -, -⟩ := Kd.R_form hR; have Z2 := Sec.mk hb.size; have X_2 : Sec (kCell.R w2 (Rg w1.heap.size w2.heap.size) (.slice A2 x.length n2) x) := ⟨Kd.R_mono hR (fun k h1 h2 => ⟨h1, h2⟩)⟩; have B_2 := Sec.mk (bel B_1.out hb); have T_2 := Sec.mk (Kd.R_below T_1.out hb); have D_2 := Sec.mk (Kd.R_below D_1.out hb); have W_2 := Sec.mk (Kd.R_below W_1.out hb); clear hb hR) | (clear T0; go_at_call 11; have T1 : Sec True := ⟨trivial⟩; refine (TrmBytes_i _ _ t _ (Kd.R_V T_0.out)).mono ?_; rintro e w1 ⟨u1, rfl, hR, hb⟩; obtain ⟨A1, n1, rfl, -, -⟩ := Kd.R_form hR; have Z1 := Sec.mk hb.size; have W_1 : Sec (kByte.R w1 (Rg w.heap.size w1.heap.size) (.slice A1 (trmBytes t).length n1) (trmBytes t)) := ⟨Kd.R_mono hR (fun k h1 h2 => ⟨h1, h2⟩)⟩; have B_1 := Sec.mk (bel BB.out hb); have T_1 := Sec.mk (Kd.R_below T_0.out hb); have D_1 := Sec.mk (Kd.R_below D_0.out hb); clear hb hR))
          go_ret
          exact ⟨rfl, B_8.out⟩
        | true =>
          have HE := Sec.mk (takeD_of (t := t) hk9 rfl)
          clear hk9
          have T0 : Sec True := ⟨trivial⟩
          go_wp2_with (first | (clear T8; go_at_call 24; have T9 : Sec True := ⟨trivial⟩; refine (caTerm_c _ _ t t _ _ _ (Kd.R_V V_8.out) (Kd.R_V T_8.out)).mono ?_; rintro e w9 ⟨rfl, hb⟩; rw [tru_]; have Z9 := Sec.mk hb.size; have B_9 := Sec.mk (bel B_8.out hb); clear hb) | (clear T7; go_at_call 19; have T8 : Sec True := ⟨trivial⟩; refine (TrmTake_i _ (trmBytes t) _ (by have := trmBytes_len t; omega) _ (Kd.R_V W_7.out)).mono ?_; rw [HE.out]; rintro e w8 ⟨u6, rfl, hR, hb⟩; obtain ⟨A6, n6, rfl, -, -⟩ := Kd.R_form hR; have Z8 := Sec.mk hb.size; have V_8 : Sec (kCell.R w8 (Rg w7.heap.size w8.heap.size) (.slice A6 t.length n6) t) := ⟨Kd.R_mono hR (fun k h1 h2 => ⟨h1, h2⟩)⟩; have B_8 := Sec.mk (bel B_7.out hb); have T_8 := Sec.mk (Kd.R_below T_7.out hb); clear hb hR) | (clear T6; go_at_call 26; have T7 : Sec True := ⟨trivial⟩; refine (TrmOk_c _ t _ _ (Kd.R_V T_6.out)).mono ?_; rw [HK.out]; rintro e w7 ⟨rfl, hb⟩; have Z7 := Sec.mk hb.size; have B_7 := Sec.mk (bel B_6.out hb); have T_7 := Sec.mk (Kd.R_below T_6.out hb); have W_7 := Sec.mk (Kd.R_below W_6.out hb); clear hb) | (clear T5; go_at_call 24; have T6 : Sec True := ⟨trivial⟩; refine (caTerm_c _ _ x x _ _ _ (Kd.R_V X_5.out) (Kd.R_V Y_5.out)).mono ?_; rintro e w6 ⟨rfl, hb⟩; rw [tru_]; have Z6 := Sec.mk hb.size; have B_6 := Sec.mk (bel B_5.out hb); have T_6 := Sec.mk (Kd.R_below T_5.out hb); have W_6 := Sec.mk (Kd.R_below W_5.out hb); clear hb) | (clear T4; go_at_call 23; have T5 : Sec True := ⟨trivial⟩; refine (caBytes_c _ _ (trmBytes t) (trmBytes t) _ _ _ (Kd.R_V W_4.out) (Kd.R_V W2_4.out)).mono ?_; rintro e w5 ⟨rfl, hb⟩; rw [tru_]; have Z5 := Sec.mk hb.size; have B_5 := Sec.mk (bel B_4.out hb); have T_5 := Sec.mk (Kd.R_below T_4.out hb); have W_5 := Sec.mk (Kd.R_below W_4.out hb); have X_5 := Sec.mk (Kd.R_below X_4.out hb); have Y_5 := Sec.mk (Kd.R_below Y_4.out hb); clear hb) | (clear T3; go_at_call 9; have T4 : Sec True := ⟨trivial⟩; refine (TrmBytes_c _ _ t _ (Kd.R_V T_3.out)).mono ?_; rintro e w4 ⟨u4, rfl, hR, hb⟩; obtain ⟨A4, n4, rfl, -, -⟩ := Kd.R_form hR; have Z4 := Sec.mk hb.size; have W2_4 : Sec (kByte.R w4 (Rg w3.heap.size w4.heap.size) (.slice A4 (trmBytes t).length n4) (trmBytes t)) := ⟨Kd.R_mono hR (fun k h1 h2 => ⟨h1, h2⟩)⟩; have B_4 := Sec.mk (bel B_3.out hb); have T_4 := Sec.mk (Kd.R_below T_3.out hb); have W_4 := Sec.mk (Kd.R_below W_3.out hb); have X_4 := Sec.mk (Kd.R_below X_3.out hb); have Y_4 := Sec.mk (Kd.R_below Y_3.out hb); clear hb hR) | (clear T2; go_at_call 17; have T3 : Sec True := ⟨trivial⟩; refine (specTrmTake_c _ bs _ (by omega) _ (Kd.R_V D_2.out)).mono ?_; rw [HD.out]; rintro e w3 ⟨u3, rfl, hR, hb⟩; obtain ⟨A3, n3, rfl, -, -⟩ := Kd.R_form hR; have Z3 := Sec.mk hb.size; have Y_3 : Sec (kCell.R w3 (Rg w2.heap.size w3.heap.size) (.slice A3 x.length n3) x) := ⟨Kd.R_mono hR (fun k h1 h2 => ⟨h1, h2⟩)⟩; have B_3 := Sec.mk (bel B_2.out hb); have T_3 := Sec.mk (Kd.R_below T_2.out hb); have W_3 := Sec.mk (Kd.R_below W_2.out hb); have X_3 := Sec.mk (Kd.R_below X_2.out hb); clear hb hR) | (clear T1; go_at_call 19; have T2 : Sec True := ⟨trivial⟩; refine (TrmTake_i _ bs _ (by omega) _ (Kd.R_V D_1.out)).mono ?_; rw [HD.out]; rintro e w2 ⟨u2, rfl, hR, hb⟩; obtain ⟨A2, n2, rfl, -, -⟩ := Kd.R_form hR; have Z2 := Sec.mk hb.size; have X_2 : Sec (kCell.R w2 (Rg w1.heap.size w2.heap.size) (.slice A2 x.length n2) x) := ⟨Kd.R_mono hR (fun k h1 h2 => ⟨h1, h2⟩)⟩; have B_2 := Sec.mk (bel B_1.out hb); have T_2 := Sec.mk (Kd.R_below T_1.out hb); have D_2 := Sec.mk (Kd.R_below D_1.out hb); have W_2 := Sec.mk (Kd.R_below W_1.out hb); clear hb hR) | (clear T0; go_at_call 11; have T1 : Sec True := ⟨trivial⟩; refine (TrmBytes_i _ _ t _ (Kd.R_V T_0.out)).mono ?_; rintro e w1 ⟨u1, rfl, hR, hb⟩; obtain ⟨A1, n1, rfl, -, -⟩ := Kd.R_form hR; have Z1 := Sec.mk hb.size; have W_1 : Sec (kByte.R w1 (Rg w.heap.size w1.heap.size) (.slice A1 (trmBytes t).length n1) (trmBytes t)) := ⟨Kd.R_mono hR (fun k h1 h2 => ⟨h1, h2⟩)⟩; have B_1 := Sec.mk (bel BB.out hb); have T_1 := Sec.mk (Kd.R_below T_0.out hb); have D_1 := Sec.mk (Kd.R_below D_0.out hb); clear hb hR))
          go_ret
          exact ⟨rfl, B_9.out⟩
      | true =>
        have HX := Sec.mk (HXX.out rfl)
        clear HXX
        simp only at HX
        cases k9 with
        | false =>
          have HE : Sec (trmBytes t = []) := ⟨if_neg (by simp [hk9])⟩
          clear hk9
          have T0 : Sec True := ⟨trivial⟩
          go_wp2_with (first | (clear T10; go_at_call 27; have T11 : Sec True := ⟨trivial⟩; refine (caOk_c _).mono ?_; rintro e w11 ⟨rfl, hb⟩; have Z11 := Sec.mk hb.size; have B_11 := Sec.mk (bel B_10.out hb); clear hb) | (clear T9; go_at_call 26; have T10 : Sec True := ⟨trivial⟩; refine (TrmOk_c _ t _ _ (Kd.R_V T_9.out)).mono ?_; rw [HK.out]; rintro e w10 ⟨rfl, hb⟩; have Z10 := Sec.mk hb.size; have B_10 := Sec.mk (bel B_9.out hb); have he := HE.out; clear hb) | (clear T8; go_at_call 23; have T9 : Sec True := ⟨trivial⟩; refine (caBytes_c _ _ bs bs _ _ _ (Kd.R_V Z_8.out) (Kd.R_V D_8.out)).mono ?_; rintro e w9 ⟨rfl, hb⟩; rw [tru_]; have Z9 := Sec.mk hb.size; have B_9 := Sec.mk (bel B_8.out hb); have T_9 := Sec.mk (Kd.R_below T_8.out hb); clear hb) | (clear T7; go_at_call 11; have T8 : Sec True := ⟨trivial⟩; refine (TrmBytes_i _ _ x _ (Kd.R_V X_7.out)).mono ?_; rintro e w8 ⟨u5, rfl, hR, hb⟩; rw [HX.out.2] at hR; obtain ⟨A5, n5, rfl, -, -⟩ := Kd.R_form hR; have Z8 := Sec.mk hb.size; have Z_8 : Sec (kByte.R w8 (Rg w7.heap.size w8.heap.size) (.slice A5 bs.length n5) bs) := ⟨Kd.R_mono hR (fun k h1 h2 => ⟨h1, h2⟩)⟩; have B_8 := Sec.mk (bel B_7.out hb); have T_8 := Sec.mk (Kd.R_below T_7.out hb); have D_8 := Sec.mk (Kd.R_below D_7.out hb); clear hb hR) | (clear T6; go_at_call 25; have T7 : Sec True := ⟨trivial⟩; refine (TrmOk_i _ x _ _ (Kd.R_V X_6.out)).mono ?_; rw [HX.out.1]; rintro e w7 ⟨rfl, hb⟩; have Z7 := Sec.mk hb.size; have B_7 := Sec.mk (bel B_6.out hb); have T_7 := Sec.mk (Kd.R_below T_6.out hb); have D_7 := Sec.mk (Kd.R_below D_6.out hb); have X_7 := Sec.mk (Kd.R_below X_6.out hb); clear hb) | (clear T5; go_at_call 24; have T6 : Sec True := ⟨trivial⟩; refine (caTerm_c _ _ x x _ _ _ (Kd.R_V X_5.out) (Kd.R_V Y_5.out)).mono ?_; rintro e w6 ⟨rfl, hb⟩; rw [tru_]; have Z6 := Sec.mk hb.size; have B_6 := Sec.mk (bel B_5.out hb); have T_6 := Sec.mk (Kd.R_below T_5.out hb); have D_6 := Sec.mk (Kd.R_below D_5.out hb); have X_6 := Sec.mk (Kd.R_below X_5.out hb); clear hb) | (clear T4; go_at_call 23; have T5 : Sec True := ⟨trivial⟩; refine (caBytes_c _ _ (trmBytes t) (trmBytes t) _ _ _ (Kd.R_V W_4.out) (Kd.R_V W2_4.out)).mono ?_; rintro e w5 ⟨rfl, hb⟩; rw [tru_]; have Z5 := Sec.mk hb.size; have B_5 := Sec.mk (bel B_4.out hb); have T_5 := Sec.mk (Kd.R_below T_4.out hb); have D_5 := Sec.mk (Kd.R_below D_4.out hb); have X_5 := Sec.mk (Kd.R_below X_4.out hb); have Y_5 := Sec.mk (Kd.R_below Y_4.out hb); clear hb) | (clear T3; go_at_call 9; have T4 : Sec True := ⟨trivial⟩; refine (TrmBytes_c _ _ t _ (Kd.R_V T_3.out)).mono ?_; rintro e w4 ⟨u4, rfl, hR, hb⟩; obtain ⟨A4, n4, rfl, -, -⟩ := Kd.R_form hR; have Z4 := Sec.mk hb.size; have W2_4 : Sec (kByte.R w4 (Rg w3.heap.size w4.heap.size) (.slice A4 (trmBytes t).length n4) (trmBytes t)) := ⟨Kd.R_mono hR (fun k h1 h2 => ⟨h1, h2⟩)⟩; have B_4 := Sec.mk (bel B_3.out hb); have T_4 := Sec.mk (Kd.R_below T_3.out hb); have D_4 := Sec.mk (Kd.R_below D_3.out hb); have W_4 := Sec.mk (Kd.R_below W_3.out hb); have X_4 := Sec.mk (Kd.R_below X_3.out hb); have Y_4 := Sec.mk (Kd.R_below Y_3.out hb); clear hb hR) | (clear T2; go_at_call 17; have T3 : Sec True := ⟨trivial⟩; refine (specTrmTake_c _ bs _ (by omega) _ (Kd.R_V D_2.out)).mono ?_; rw [HD.out]; rintro e w3 ⟨u3, rfl, hR, hb⟩; obtain ⟨A3, n3, rfl, -, -⟩ := Kd.R_form hR; have Z3 := Sec.mk hb.size; have Y_3 : Sec (kCell.R w3 (Rg w2.heap.size w3.heap.size) (.slice A3 x.length n3) x) := ⟨Kd.R_mono hR (fun k h1 h2 => ⟨h1, h2⟩)⟩; have B_3 := Sec.mk (bel B_2.out hb); have T_3 := Sec.mk (Kd.R_below T_2.out hb); have D_3 := Sec.mk (Kd.R_below D_2.out hb); have W_3 := Sec.mk (Kd.R_below W_2.out hb); have X_3 := Sec.mk (Kd.R_below X_2.out hb); clear hb hR) | (clear T1; go_at_call 19; have T2 : Sec True := ⟨trivial⟩; refine (TrmTake_i _ bs _ (by omega) _ (Kd.R_V D_1.out)).mono ?_; rw [HD.out]; rintro e w2 ⟨u2, rfl, hR, hb⟩; obtain ⟨A2, n2, rfl, -, -⟩ := Kd.R_form hR; have Z2 := Sec.mk hb.size; have X_2 : Sec (kCell.R w2 (Rg w1.heap.size w2.heap.size) (.slice A2 x.length n2) x) := ⟨Kd.R_mono hR (fun k h1 h2 => ⟨h1, h2⟩)⟩; have B_2 := Sec.mk (bel B_1.out hb); have T_2 := Sec.mk (Kd.R_below T_1.out hb); have D_2 := Sec.mk (Kd.R_below D_1.out hb); have W_2 := Sec.mk (Kd.R_below W_1.out hb); clear hb hR) | (clear T0; go_at_call 11; have T1 : Sec True := ⟨trivial⟩; refine (TrmBytes_i _ _ t _ (Kd.R_V T_0.out)).mono ?_; rintro e w1 ⟨u1, rfl, hR, hb⟩; obtain ⟨A1, n1, rfl, -, -⟩ := Kd.R_form hR; have Z1 := Sec.mk hb.size; have W_1 : Sec (kByte.R w1 (Rg w.heap.size w1.heap.size) (.slice A1 (trmBytes t).length n1) (trmBytes t)) := ⟨Kd.R_mono hR (fun k h1 h2 => ⟨h1, h2⟩)⟩; have B_1 := Sec.mk (bel BB.out hb); have T_1 := Sec.mk (Kd.R_below T_0.out hb); have D_1 := Sec.mk (Kd.R_below D_0.out hb); clear hb hR))
          go_ret
          exact ⟨rfl, B_11.out⟩
        | true =>
          have HE := Sec.mk (takeD_of (t := t) hk9 rfl)
          clear hk9
          have T0 : Sec True := ⟨trivial⟩
          go_wp2_with (first | (clear T11; go_at_call 24; have T12 : Sec True := ⟨trivial⟩; refine (caTerm_c _ _ t t _ _ _ (Kd.R_V V_11.out) (Kd.R_V T_11.out)).mono ?_; rintro e w12 ⟨rfl, hb⟩; rw [tru_]; have Z12 := Sec.mk hb.size; have B_12 := Sec.mk (bel B_11.out hb); clear hb) | (clear T10; go_at_call 19; have T11 : Sec True := ⟨trivial⟩; refine (TrmTake_i _ (trmBytes t) _ (by have := trmBytes_len t; omega) _ (Kd.R_V W_10.out)).mono ?_; rw [HE.out]; rintro e w11 ⟨u6, rfl, hR, hb⟩; obtain ⟨A6, n6, rfl, -, -⟩ := Kd.R_form hR; have Z11 := Sec.mk hb.size; have V_11 : Sec (kCell.R w11 (Rg w10.heap.size w11.heap.size) (.slice A6 t.length n6) t) := ⟨Kd.R_mono hR (fun k h1 h2 => ⟨h1, h2⟩)⟩; have B_11 := Sec.mk (bel B_10.out hb); have T_11 := Sec.mk (Kd.R_below T_10.out hb); clear hb hR) | (clear T9; go_at_call 26; have T10 : Sec True := ⟨trivial⟩; refine (TrmOk_c _ t _ _ (Kd.R_V T_9.out)).mono ?_; rw [HK.out]; rintro e w10 ⟨rfl, hb⟩; have Z10 := Sec.mk hb.size; have B_10 := Sec.mk (bel B_9.out hb); have T_10 := Sec.mk (Kd.R_below T_9.out hb); have W_10 := Sec.mk (Kd.R_below W_9.out hb); clear hb) | (clear T8; go_at_call 23; have T9 : Sec True := ⟨trivial⟩; refine (caBytes_c _ _ bs bs _ _ _ (Kd.R_V Z_8.out) (Kd.R_V D_8.out)).mono ?_; rintro e w9 ⟨rfl, hb⟩; rw [tru_]; have Z9 := Sec.mk hb.size; have B_9 := Sec.mk (bel B_8.out hb); have T_9 := Sec.mk (Kd.R_below T_8.out hb); have W_9 := Sec.mk (Kd.R_below W_8.out hb); clear hb) | (clear T7; go_at_call 11; have T8 : Sec True := ⟨trivial⟩; refine (TrmBytes_i _ _ x _ (Kd.R_V X_7.out)).mono ?_; rintro e w8 ⟨u5, rfl, hR, hb⟩; rw [HX.out.2] at hR; obtain ⟨A5, n5, rfl, -, -⟩ := Kd.R_form hR; have Z8 := Sec.mk hb.size; have Z_8 : Sec (kByte.R w8 (Rg w7.heap.size w8.heap.size) (.slice A5 bs.length n5) bs) := ⟨Kd.R_mono hR (fun k h1 h2 => ⟨h1, h2⟩)⟩; have B_8 := Sec.mk (bel B_7.out hb); have T_8 := Sec.mk (Kd.R_below T_7.out hb); have D_8 := Sec.mk (Kd.R_below D_7.out hb); have W_8 := Sec.mk (Kd.R_below W_7.out hb); clear hb hR) | (clear T6; go_at_call 25; have T7 : Sec True := ⟨trivial⟩; refine (TrmOk_i _ x _ _ (Kd.R_V X_6.out)).mono ?_; rw [HX.out.1]; rintro e w7 ⟨rfl, hb⟩; have Z7 := Sec.mk hb.size; have B_7 := Sec.mk (bel B_6.out hb); have T_7 := Sec.mk (Kd.R_below T_6.out hb); have D_7 := Sec.mk (Kd.R_below D_6.out hb); have W_7 := Sec.mk (Kd.R_below W_6.out hb); have X_7 := Sec.mk (Kd.R_below X_6.out hb); clear hb) | (clear T5; go_at_call 24; have T6 : Sec True := ⟨trivial⟩; refine (caTerm_c _ _ x x _ _ _ (Kd.R_V X_5.out) (Kd.R_V Y_5.out)).mono ?_; rintro e w6 ⟨rfl, hb⟩; rw [tru_]; have Z6 := Sec.mk hb.size; have B_6 := Sec.mk (bel B_5.out hb); have T_6 := Sec.mk (Kd.R_below T_5.out hb); have D_6 := Sec.mk (Kd.R_below D_5.out hb); have W_6 := Sec.mk (Kd.R_below W_5.out hb); have X_6 := Sec.mk (Kd.R_below X_5.out hb); clear hb) | (clear T4; go_at_call 23; have T5 : Sec True := ⟨trivial⟩; refine (caBytes_c _ _ (trmBytes t) (trmBytes t) _ _ _ (Kd.R_V W_4.out) (Kd.R_V W2_4.out)).mono ?_; rintro e w5 ⟨rfl, hb⟩; rw [tru_]; have Z5 := Sec.mk hb.size; have B_5 := Sec.mk (bel B_4.out hb); have T_5 := Sec.mk (Kd.R_below T_4.out hb); have D_5 := Sec.mk (Kd.R_below D_4.out hb); have W_5 := Sec.mk (Kd.R_below W_4.out hb); have X_5 := Sec.mk (Kd.R_below X_4.out hb); have Y_5 := Sec.mk (Kd.R_below Y_4.out hb); clear hb) | (clear T3; go_at_call 9; have T4 : Sec True := ⟨trivial⟩; refine (TrmBytes_c _ _ t _ (Kd.R_V T_3.out)).mono ?_; rintro e w4 ⟨u4, rfl, hR, hb⟩; obtain ⟨A4, n4, rfl, -, -⟩ := Kd.R_form hR; have Z4 := Sec.mk hb.size; have W2_4 : Sec (kByte.R w4 (Rg w3.heap.size w4.heap.size) (.slice A4 (trmBytes t).length n4) (trmBytes t)) := ⟨Kd.R_mono hR (fun k h1 h2 => ⟨h1, h2⟩)⟩; have B_4 := Sec.mk (bel B_3.out hb); have T_4 := Sec.mk (Kd.R_below T_3.out hb); have D_4 := Sec.mk (Kd.R_below D_3.out hb); have W_4 := Sec.mk (Kd.R_below W_3.out hb); have X_4 := Sec.mk (Kd.R_below X_3.out hb); have Y_4 := Sec.mk (Kd.R_below Y_3.out hb); clear hb hR) | (clear T2; go_at_call 17; have T3 : Sec True := ⟨trivial⟩; refine (specTrmTake_c _ bs _ (by omega) _ (Kd.R_V D_2.out)).mono ?_; rw [HD.out]; rintro e w3 ⟨u3, rfl, hR, hb⟩; obtain ⟨A3, n3, rfl, -, -⟩ := Kd.R_form hR; have Z3 := Sec.mk hb.size; have Y_3 : Sec (kCell.R w3 (Rg w2.heap.size w3.heap.size) (.slice A3 x.length n3) x) := ⟨Kd.R_mono hR (fun k h1 h2 => ⟨h1, h2⟩)⟩; have B_3 := Sec.mk (bel B_2.out hb); have T_3 := Sec.mk (Kd.R_below T_2.out hb); have D_3 := Sec.mk (Kd.R_below D_2.out hb); have W_3 := Sec.mk (Kd.R_below W_2.out hb); have X_3 := Sec.mk (Kd.R_below X_2.out hb); clear hb hR) | (clear T1; go_at_call 19; have T2 : Sec True := ⟨trivial⟩; refine (TrmTake_i _ bs _ (by omega) _ (Kd.R_V D_1.out)).mono ?_; rw [HD.out]; rintro e w2 ⟨u2, rfl, hR, hb⟩; obtain ⟨A2, n2, rfl, -, -⟩ := Kd.R_form hR; have Z2 := Sec.mk hb.size; have X_2 : Sec (kCell.R w2 (Rg w1.heap.size w2.heap.size) (.slice A2 x.length n2) x) := ⟨Kd.R_mono hR (fun k h1 h2 => ⟨h1, h2⟩)⟩; have B_2 := Sec.mk (bel B_1.out hb); have T_2 := Sec.mk (Kd.R_below T_1.out hb); have D_2 := Sec.mk (Kd.R_below D_1.out hb); have W_2 := Sec.mk (Kd.R_below W_1.out hb); clear hb hR) | (clear T0; go_at_call 11; have T1 : Sec True := ⟨trivial⟩; refine (TrmBytes_i _ _ t _ (Kd.R_V T_0.out)).mono ?_; rintro e w1 ⟨u1, rfl, hR, hb⟩; obtain ⟨A1, n1, rfl, -, -⟩ := Kd.R_form hR; have Z1 := Sec.mk hb.size; have W_1 : Sec (kByte.R w1 (Rg w.heap.size w1.heap.size) (.slice A1 (trmBytes t).length n1) (trmBytes t)) := ⟨Kd.R_mono hR (fun k h1 h2 => ⟨h1, h2⟩)⟩; have B_1 := Sec.mk (bel BB.out hb); have T_1 := Sec.mk (Kd.R_below T_0.out hb); have D_1 := Sec.mk (Kd.R_below D_0.out hb); clear hb hR))
          go_ret
          exact ⟨rfl, B_12.out⟩
    · go_enter Tryd.func5, Tryd.ntmps5
      go_wp2
      go_ret
      exact ⟨rfl, Below.refl _ _⟩
  · go_enter Tryd.func5, Tryd.ntmps5
    go_wp2
    go_ret
    exact ⟨rfl, Below.refl _ _⟩
end Go.Proofs.YtkdfmnaijgkfhaaDoor
