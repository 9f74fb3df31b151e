/- FnExactTrlWants: what it does, whatever it is given: it returns true. -/
import Derived.Test.YtggchcljkehefaaWants
namespace Go.Proofs.Ytggchcljkehefaa
open Go.RowKit
set_option linter.unusedVariables false
set_option maxRecDepth 100000
theorem carry {S : Nat → Prop} {w W : World} {b : Nat} {o : Obj} (h : Foot S w W) (hb : w.heap[b]? = some o) (hS : ¬ S b) : W.heap[b]? = some o := (h.block b (Array.getElem?_eq_some_iff.1 hb).1 hS).trans hb
theorem carryB {w W : World} {b : Nat} {o : Obj} (h : Below w.heap.size w W) (hb : w.heap[b]? = some o) : W.heap[b]? = some o := (h.block b (Array.getElem?_eq_some_iff.1 hb).1).trans hb
/-- Between two numbers. -/
def Rg (a b : Nat) (k : Nat) : Prop := a ≤ k ∧ k < b
theorem Rg.apart {a b c d : Nat} (h : b ≤ c ∨ d ≤ a) (k : Nat) (h1 : Rg a b k) (h2 : Rg c d k) : False := by
  unfold Rg at h1 h2; omega
theorem canon_len (t : Term) : (canon t).length = t.length := by simp [canon]
theorem wants_len (s : TState) : (wants s).1.length ≤ rTState.wt s := by
  unfold wants
  split
  · next h =>
    rw [canon_len, rTState_wt]
    have h1 := Raw.wt_of_mem (r := rTChoice) (List.getLast_mem h.2)
    rw [rTChoice_wt] at h1
    unfold Raw.wts at *
    omega
  · simp
theorem tru (t : Term) : decide (t = t) = true := decide_eq_true rfl
set_option maxHeartbeats 4000000 in
theorem FnExactTrlWants_law_c (s : TState) (cs : List Value) (w : World) (hK : rTState.K w s cs) :
    Calls Try.prog 3 #[.agg cs.toArray] w fun e w' => e = .returned (.bool true) ∧ Below w.heap.size w w' := by
  have HR := Sec.mk hK
  have hA := rTState_fits.2 w s cs hK
  obtain ⟨v1, v2, v4, v5, v6, rfl, -, -, -, -, -⟩ := rTState_K hK
  have hu := Try.underlying27
  have hu2 := Try.underlying36
  have T0 : Sec True := ⟨trivial⟩
  by_cases hbud : rTState.wt s ≤ 1048576
  · have HA := Sec.mk (hA (by omega))
    have HL : Sec (1 + mCell.cnts (wants s).1 ≤ 100000000000) := ⟨by
      have h1 := wants_len s
      have h2 : mCell.cnts (wants s).1 = 3 * (wants s).1.length := by
        unfold Mk.cnts
        generalize (wants s).1 = t
        induction t with
        | nil => rfl
        | cons x t ih => rw [List.map_cons, List.sum_cons, ih, mCell_cnt, List.length_cons]; omega
      omega⟩
    have HC : Sec (1 + mTStatet.cnt s ≤ 100000000000) := ⟨by have := rTState_tle s; omega⟩
    have hsp := Raw.spent_le hbud
    generalize 1048576 - rTState.wt s = l at hsp
    have hl0 : ¬ ((l : Int) < 0) := by omega
    clear hbud hA hK
    go_enter Try.func3, Try.ntmps3
    go_wp2_with (first
      | (clear T5; go_at_call 9; have T6 : Sec True := ⟨trivial⟩; refine (eqSCell_c u1 u0 (wants s).1 (wants s).1 _ _ _ (Kd.R_V G5.out) (Kd.R_V U5.out)).mono ?_; rintro e w6 ⟨rfl, hb⟩; rw [tru];
          have B6 := Sec.mk (bel B5.out hb); have P6 := Sec.mk (carryB hb P5.out); have X6 := Sec.mk (carryB hb X5.out); have U6 := Sec.mk (Kd.R_below U5.out hb); have G6 := Sec.mk (Kd.R_below G5.out hb); have O6 := Sec.mk (Kd.O_below O5.out hb); have Z6 := Sec.mk hb.size; clear hb)
      | (clear T4; go_at_call 8; have T5 : Sec True := ⟨trivial⟩; refine (iWants_c s _ _ _ (kTState.O_K (Kd.O_below O4.out (belA (Below.refl _ _) _)))).mono ?_; rintro e w5 ⟨u1, rfl, hR, hb⟩;
          have hb2 := bel (belA (Below.refl w4.heap.size w4) _) hb; have B5 := Sec.mk (bel B4.out hb2); have P5 := Sec.mk (carryB hb2 P4.out); have X5 := Sec.mk (carryB hb (box1 w4 _)); have U5 := Sec.mk (Kd.R_below U4.out hb2); have O5 := Sec.mk (Kd.O_below O4.out hb2);
          have Z5 : Sec (w4.heap.size < w5.heap.size) := ⟨by have := hb.size; simp at this; omega⟩;
          have G5 : Sec (kCell.R w5 (Rg (w4.heap.size + 1) w5.heap.size) u1 (wants s).1) := ⟨Kd.R_mono hR (fun k h1 h2 => ⟨by simpa using h1, h2⟩)⟩; clear hb hb2 hR)
      | (clear T3; go_at_call 7; have T4 : Sec True := ⟨trivial⟩; refine (toTrlState_c s _ _ _ (Kd.K_below HA.out B3.out)).mono ?_; rintro e w4 ⟨d1, rfl, hO, hb⟩; obtain ⟨a1, a2, a4, a5, a6, rfl, k1, k2, k4, k5, k6⟩ := kTState_K (kTState.O_K hO); obtain ⟨A1, n1, rfl, -⟩ := k1; obtain ⟨A2, n2, rfl, -⟩ := k2; obtain ⟨A4, n4, rfl, -⟩ := k4; obtain ⟨A5, n5, rfl, -⟩ := k5; obtain ⟨A6, n6, rfl, -⟩ := k6;
          have O4 : Sec (kTState.O w4 (Rg w3.heap.size w4.heap.size) s _) := ⟨kTState.O_mono hO (fun k h1 h2 => ⟨h1, h2⟩)⟩; have B4 := Sec.mk (bel B3.out hb); have P4 := Sec.mk (carryB hb P3.out); have U4 := Sec.mk (Kd.R_below U3.out hb); have Z4 := Sec.mk hb.size; clear hb hO)
      | (clear T2; go_at_call 6; have T3 : Sec True := ⟨trivial⟩; refine (sWants_c s _ _ _ (kTState.O_K O2.out)).mono ?_; rintro e w3 ⟨u0, rfl, hR, hb⟩;
          have B3 := Sec.mk (bel B2.out hb); have P3 := Sec.mk (carryB hb P2.out); have Z3 := Sec.mk hb.size; have U3 : Sec (kCell.R w3 (Rg w2.heap.size w3.heap.size) u0 (wants s).1) := ⟨Kd.R_mono hR (fun k h1 h2 => ⟨h1, h2⟩)⟩; have X := (box_at P3.out).2.1; have p0 := X 0 _ rfl; have p1 := X 1 _ rfl; have p2 := X 2 _ rfl; have p3 := X 3 _ rfl; have p4 := X 4 _ rfl; have p5 := X 5 _ rfl; have p6 := X 6 _ rfl; clear hb hR X)
      | (clear T1; go_at_call 7; have T2 : Sec True := ⟨trivial⟩; refine (toTrlState_c s _ _ _ (Kd.K_below HA.out B1.out)).mono ?_; rintro e w2 ⟨d0, rfl, hO, hb⟩;
          have O2 := Sec.mk hO; have B2 := Sec.mk (bel B1.out hb); have P2 := Sec.mk (carryB hb P1.out); have Z2 := Sec.mk hb.size; clear hb hO p0 p1 p2 p3 p4 p5 p6)
      | (clear T0; go_at_call 5; have T1 : Sec True := ⟨trivial⟩; refine (szTrlState_c s _ 1048576 (Nat.le_refl _) _ (rTState_mono _ _ _ _ (belA (Below.refl _ _) _) HR.out)).mono ?_; rintro e w1 ⟨rfl, hb⟩; rw [hsp];
          have B1 := Sec.mk (bel (belA (Below.refl _ _) _) hb); have P1 := Sec.mk (box_cells hb (box1 w _)).1; have Z1 : Sec (w.heap.size < w1.heap.size) := ⟨by have := hb.size; simp at this; omega⟩; have X := (box_at P1.out).2.1; have p0 := X 0 _ rfl; have p1 := X 1 _ rfl; have p2 := X 2 _ rfl; have p3 := X 3 _ rfl; have p4 := X 4 _ rfl; have p5 := X 5 _ rfl; have p6 := X 6 _ rfl; clear hb X))
    have hat : Sec (∀ W : World, W.heap[w.heap.size]? = some (.cells #[.int .i64 s.status, v1, v2, .int .i64 s.vars, v4, v5, v6] 27) → W.heap[w4.heap.size]? = some (.cells #[.int .i64 s.status, .slice A1 s.goals.length n1, .slice A2 s.binds.length n2, .int .i64 s.vars, .slice A4 s.choices.length n4, .slice A5 s.top.length n5, .slice A6 s.out.length n6] 36) → W.cell? ⟨w.heap.size, 0, none⟩ = some (.int .i64 s.status) ∧ W.cell? ⟨w.heap.size, 1, none⟩ = some (v1) ∧ W.cell? ⟨w.heap.size, 2, none⟩ = some (v2) ∧ W.cell? ⟨w.heap.size, 3, none⟩ = some (.int .i64 s.vars) ∧ W.cell? ⟨w.heap.size, 4, none⟩ = some (v4) ∧ W.cell? ⟨w.heap.size, 5, none⟩ = some (v5) ∧ W.cell? ⟨w.heap.size, 6, none⟩ = some (v6) ∧ W.cell? ⟨w4.heap.size, 0, none⟩ = some (.int .i64 s.status) ∧ W.cell? ⟨w4.heap.size, 1, none⟩ = some (.slice A1 s.goals.length n1) ∧ W.cell? ⟨w4.heap.size, 2, none⟩ = some (.slice A2 s.binds.length n2) ∧ W.cell? ⟨w4.heap.size, 3, none⟩ = some (.int .i64 s.vars) ∧ W.cell? ⟨w4.heap.size, 4, none⟩ = some (.slice A4 s.choices.length n4) ∧ W.cell? ⟨w4.heap.size, 5, none⟩ = some (.slice A5 s.top.length n5) ∧ W.cell? ⟨w4.heap.size, 6, none⟩ = some (.slice A6 s.out.length n6)) := ⟨fun W h1 h2 => ⟨(box_at h1).2.1 0 _ rfl, (box_at h1).2.1 1 _ rfl, (box_at h1).2.1 2 _ rfl, (box_at h1).2.1 3 _ rfl, (box_at h1).2.1 4 _ rfl, (box_at h1).2.1 5 _ rfl, (box_at h1).2.1 6 _ rfl, (box_at h2).2.1 0 _ rfl, (box_at h2).2.1 1 _ rfl, (box_at h2).2.1 2 _ rfl, (box_at h2).2.1 3 _ rfl, (box_at h2).2.1 4 _ rfl, (box_at h2).2.1 5 _ rfl, (box_at h2).2.1 6 _ rfl⟩⟩
    obtain ⟨p0, p1, p2, p3, p4, p5, p6, q0, q1, q2, q3, q4, q5, q6⟩ := hat.out _ P6.out X6.out
    have Hto : Sec (∀ W : World, Below w6.heap.size w6 W → Calls Try.prog 7 #[.agg #[.int .i64 s.status, v1, v2, .int .i64 s.vars, v4, v5, v6]] W fun e w' => ∃ c : List Value, e = .returned (.agg c.toArray) ∧ kTState.O w' (fun k => W.heap.size ≤ k) s c ∧ Below W.heap.size W w') := ⟨fun W h => toTrlState_c s _ _ _ (Kd.K_below HA.out (bel B6.out h))⟩
    have Heq : Sec (∀ (W : World) (d : List Value) (S : Nat → Prop), Below w6.heap.size w6 W → kTState.O W S s d → Calls Try.prog 10 #[.agg #[.int .i64 s.status, .slice A1 s.goals.length n1, .slice A2 s.binds.length n2, .int .i64 s.vars, .slice A4 s.choices.length n4, .slice A5 s.top.length n5, .slice A6 s.out.length n6], .agg d.toArray] W fun e w' => e = .returned (.bool true) ∧ Below W.heap.size W w') := ⟨fun W d S h hO => (eqTrlState_c s s _ d _ _ W (kTState.O_K (Kd.O_below O6.out h)) (kTState.O_K hO)).mono (by rintro e w' ⟨rfl, hb⟩; exact ⟨rb (decide_eq_true rfl), hb⟩)⟩
    go_region_held3 (fun W => W.cell? ⟨w.heap.size, 0, none⟩ = some (.int .i64 s.status) ∧ W.cell? ⟨w.heap.size, 1, none⟩ = some (v1) ∧ W.cell? ⟨w.heap.size, 2, none⟩ = some (v2) ∧ W.cell? ⟨w.heap.size, 3, none⟩ = some (.int .i64 s.vars) ∧ W.cell? ⟨w.heap.size, 4, none⟩ = some (v4) ∧ W.cell? ⟨w.heap.size, 5, none⟩ = some (v5) ∧ W.cell? ⟨w.heap.size, 6, none⟩ = some (v6) ∧ W.cell? ⟨w4.heap.size, 0, none⟩ = some (.int .i64 s.status) ∧ W.cell? ⟨w4.heap.size, 1, none⟩ = some (.slice A1 s.goals.length n1) ∧ W.cell? ⟨w4.heap.size, 2, none⟩ = some (.slice A2 s.binds.length n2) ∧ W.cell? ⟨w4.heap.size, 3, none⟩ = some (.int .i64 s.vars) ∧ W.cell? ⟨w4.heap.size, 4, none⟩ = some (.slice A4 s.choices.length n4) ∧ W.cell? ⟨w4.heap.size, 5, none⟩ = some (.slice A5 s.top.length n5) ∧ W.cell? ⟨w4.heap.size, 6, none⟩ = some (.slice A6 s.out.length n6))
      (first | (refine ⟨?_, ?_, ?_, ?_, ?_, ?_, ?_, ?_, ?_, ?_, ?_, ?_, ?_, ?_⟩ <;> assumption) | go_keep)
      (first
        | (clear T6; go_at_call 7; have T7 : Sec True := ⟨trivial⟩; refine (Hto.out _ (belD (Below.refl _ _))).mono ?_; rintro e w7 ⟨d2, rfl, hO, hb⟩; have hb2 := bel (belD (Below.refl w6.heap.size w6)) hb; have B7 := Sec.mk hb2; have O7 := Sec.mk hO; clear p0 p1 p2 p3 p4 p5 p6 q0 q1 q2 q3 q4 q5 q6; obtain ⟨p0, p1, p2, p3, p4, p5, p6, q0, q1, q2, q3, q4, q5, q6⟩ := hat.out _ (carryB hb2 P6.out) (carryB hb2 X6.out); clear hb hb2 hO)
        | (clear T7; go_at_call 10; have T8 : Sec True := ⟨trivial⟩; refine (Heq.out _ _ _ B7.out O7.out).mono ?_; rintro e w8 ⟨rfl, hb⟩; have hb2 := bel B7.out hb; have B8 := Sec.mk hb2; clear p0 p1 p2 p3 p4 p5 p6 q0 q1 q2 q3 q4 q5 q6; obtain ⟨p0, p1, p2, p3, p4, p5, p6, q0, q1, q2, q3, q4, q5, q6⟩ := hat.out _ (carryB hb2 P6.out) (carryB hb2 X6.out); clear hb hb2))
    all_goals
      go_wp2_with (first
        | (clear T15; go_at_call 13; have T16 : Sec True := ⟨trivial⟩; refine (heldSCell_c u1 (wants s).1 _ 1 (by omega) (by have := HL.out; omega) _ (Kd.R_V G15.out)).mono ?_; rintro e w16 ⟨rfl, hb⟩; have B16 := Sec.mk (bel B15.out hb); clear hb)
        | (clear T14; go_at_call 9; have T15 : Sec True := ⟨trivial⟩; refine (eqSCell_c u2 u0 (wants s).1 (wants s).1 _ _ _ (Kd.R_V H14.out) (Kd.R_V U14.out)).mono ?_; rintro e w15 ⟨rfl, hb⟩; rw [tru];
              have B15 := Sec.mk (bel B14.out hb); have G15 := Sec.mk (Kd.R_below G14.out hb); clear hb)
        | (clear T13; go_at_call 8; have T14 : Sec True := ⟨trivial⟩; refine (iWants_c s _ _ _ (kTState.O_K O13.out)).mono ?_; rintro e w14 ⟨u2, rfl, hR, hb⟩;
              have H14 := Sec.mk hR; have B14 := Sec.mk (bel B13.out hb); have U14 := Sec.mk (Kd.R_below U13.out hb); have G14 := Sec.mk (Kd.R_below G13.out hb); clear hb hR)
        | (clear T12; go_at_call 7; have T13 : Sec True := ⟨trivial⟩; refine (toTrlState_c s _ _ _ (Kd.K_below HA.out B12.out)).mono ?_; rintro e w13 ⟨d3, rfl, hO, hb⟩;
              have O13 := Sec.mk hO; have B13 := Sec.mk (bel B12.out hb); have U13 := Sec.mk (Kd.R_below U12.out hb); have G13 := Sec.mk (Kd.R_below G12.out hb); clear hb hO p0 p1 p2 p3 p4 p5 p6)
        | (clear T11; go_at_call 13; have T12 : Sec True := ⟨trivial⟩; refine (heldSCell_c u1 (wants s).1 _ 1 (by omega) (by have := HL.out; omega) _ (Kd.R_V G11.out)).mono ?_; rintro e w12 ⟨rfl, hb⟩;
              have B12 := Sec.mk (bel B11.out hb); have P12 := Sec.mk (carryB hb P11.out); have U12 := Sec.mk (Kd.R_below U11.out hb); have G12 := Sec.mk (Kd.R_below G11.out hb); have X := (box_at P12.out).2.1; have p0 := X 0 _ rfl; have p1 := X 1 _ rfl; have p2 := X 2 _ rfl; have p3 := X 3 _ rfl; have p4 := X 4 _ rfl; have p5 := X 5 _ rfl; have p6 := X 6 _ rfl; clear hb X)
        | (clear T10; go_at_call 12; have T11 : Sec True := ⟨trivial⟩; refine (markSCell_c u1 (wants s).1 (Rg (w4.heap.size + 1) w5.heap.size) 1 (by omega) (by have := HL.out; omega) _ G10.out).mono ?_; rintro e w11 ⟨rfl, hR', hF⟩;
              have P11 := Sec.mk (carry hF P10.out (fun h => by have := h.1; have := Z1.out; have := Z2.out; have := Z3.out; have := Z4.out; omega)); have U11 := Sec.mk (Foot.R hF U10.out (fun k h1 h2 => Rg.apart (.inl (by have := Z4.out; omega)) k h1 h2)); have G11 := Sec.mk hR';
              have B11 := Sec.mk (hF.below B10.out (fun k h => by have := h.1; have := Z1.out; have := Z2.out; have := Z3.out; have := Z4.out; omega)); have c2 : ¬ (1 + ((mCell.cnts (wants s).1 : Nat) : Int) < 0) := (by omega); clear hR' hF)
        | (clear T9; go_at_call 9; have T10 : Sec True := ⟨trivial⟩; refine (eqSCell_c u1 u0 (wants s).1 (wants s).1 _ _ _ (Kd.R_V G9.out) (Kd.R_V U9.out)).mono ?_; rintro e w10 ⟨rfl, hb⟩; rw [tru];
              have B10 := Sec.mk (bel B9.out hb); have P10 := Sec.mk (carryB hb P9.out); have U10 := Sec.mk (Kd.R_below U9.out hb); have G10 := Sec.mk (Kd.R_below G9.out hb); clear hb)
        | (clear T8; go_at_call 11; have T9 : Sec True := ⟨trivial⟩; refine (markTrlState_c s _ (Rg w3.heap.size w4.heap.size) 1 (by omega) (by have := HC.out; omega) _ (Kd.O_below O6.out B8.out)).mono ?_; rintro e w9 ⟨rfl, hO', hF⟩;
              have P9 := Sec.mk (carry hF (carryB B8.out P6.out) (fun h => by have := h.1; have := Z1.out; have := Z2.out; have := Z3.out; omega)); have U9 := Sec.mk (Foot.R hF (Kd.R_below U6.out B8.out) (fun k h1 h2 => Rg.apart (.inl (Nat.le_refl _)) k h1 h2)); have G9 := Sec.mk (Foot.R hF (Kd.R_below G6.out B8.out) (fun k h1 h2 => Rg.apart (.inr (Nat.le_succ _)) k h1 h2));
              have B9 := Sec.mk (hF.below (bel B6.out B8.out) (fun k h => by have := h.1; have := Z1.out; have := Z2.out; have := Z3.out; omega)); have c1 : ¬ (1 + ((mTStatet.cnt s : Nat) : Int) < 0) := (by omega); clear hO' hF p0 p1 p2 p3 p4 p5 p6 q0 q1 q2 q3 q4 q5 q6))
      go_ret
      exact ⟨rfl, B16.out⟩
  · have hsp := Raw.spent_gt hbud
    clear hbud hA hK
    go_enter Try.func3, Try.ntmps3
    go_wp2_with (clear T0; go_at_call 5; refine (szTrlState_c s _ 1048576 (Nat.le_refl _) _ (rTState_mono _ _ _ _ (belA (Below.refl _ _) _) HR.out)).mono ?_; rintro e w1 ⟨rfl, hb⟩; rw [hsp]; have B1 := Sec.mk (bel (belA (Below.refl _ _) _) hb); clear hb)
    go_ret
    exact ⟨rfl, B1.out⟩
end Go.Proofs.Ytggchcljkehefaa
