/- Contracts: what may stand in a program (the reference). -/
import Derived.Test.YtenigopoknajgaaGreatDoorPrg
namespace Go.Proofs.YtenigopoknajgaaGreatDoor
open Go.RowKit
set_option linter.unusedVariables false
set_option maxRecDepth 100000
theorem l3Term_c (v : Value) (t : Term) (ok : Nat → Prop) (w : World) (hV : kCell.V w ok v t) :
    Calls Tryz.prog 49 #[v] w fun e w' => e = .returned (.bool (termIn t)) ∧ Below w.heap.size w w' := by
  have HV := Sec.mk hV
  obtain ⟨A, c, rfl, h1, h2, h3, hC, -⟩ := hV
  have HC := Sec.mk hC
  clear hC
  cases ht : trmOk t with
  | false =>
    have HE : Sec (termIn t = false) := ⟨by simp [termIn, ht]⟩
    have H1 := Sec.mk ht
    clear ht
    go_enter Tryz.func49, Tryz.ntmps49
    go_wp2_with (go_at_call 67; refine (TrmOk_c _ t _ _ HV.out).mono ?_; rw [H1.out]; rintro e w1 ⟨rfl, hb⟩; have B1 := Sec.mk hb; clear hb)
    go_ret
    exact ⟨rb HE.out.symm, B1.out⟩
  | true =>
    have H1 := Sec.mk ht
    by_cases hl : t.length ≤ 12
    · have HL : Sec (termIn t = t.all varIn) := ⟨by simp [termIn, ht, hl]⟩
      clear ht
      have q1 : decide ((t.length : Int) > 12) = false := decide_eq_false (by omega)
      go_enter Tryz.func49, Tryz.ntmps49
      go_wp2_with (go_at_call 67; refine (TrmOk_c _ t _ _ HV.out).mono ?_; rw [H1.out]; rintro e w1 ⟨rfl, hb⟩; have B1 := Sec.mk hb; clear hb)
      go_loopw [3] (fun i wr => ∃ k : Nat, k ≤ t.length ∧ i = .int .i64 k ∧ Sec ((t.take k).all varIn = true) ∧ Sec (Below w.heap.size w wr)) (fun i _ => t.length - (intOf i).toNat)
      case atStart => exact ⟨0, Nat.zero_le _, rfl, ⟨by simp⟩, B1⟩
      case round =>
        obtain ⟨k, hk, rfl, hT, hb⟩ := hrel
        by_cases hlt : k < t.length
        · obtain ⟨b, off, rfl, _, x0, x1, -, -⟩ := cell_at (Kd.C_below HC.out hb.out (by decide)) k hlt
          have hTk : Sec ((t.take (k + 1)).all varIn = varIn t[k]) := ⟨by rw [take_all varIn t k hlt, hT.out, Bool.true_and]⟩
          have hAll : Sec (varIn t[k] = false → t.all varIn = false) := ⟨fun h => List.all_eq_false.2 ⟨t[k], List.getElem_mem hlt, by rw [h]; decide⟩⟩
          generalize t[k] = x at *
          have i0 : (0 : Int) ≤ (k : Int) := by omega
          have i1 : (k : Int) < (t.length : Int) := by omega
          by_cases hk1 : x.kind = 1
          · have g1 : (x.kind == 1) = true := beq_iff_eq.2 hk1
            by_cases hn : 8 ≤ x.n
            · have HE : Sec (termIn t = false) := ⟨by rw [HL.out]; exact hAll.out (by simp [varIn, hk1, hn])⟩
              have g2 : decide (x.n ≥ 8) = true := decide_eq_true hn
              clear hk1
              go_wp2
              go_ret
              exact ⟨rb HE.out.symm, hb.out⟩
            · have HE : Sec ((t.take (k + 1)).all varIn = true) := ⟨by rw [hTk.out]; simp [varIn, hn]⟩
              have g2 : decide (x.n ≥ 8) = false := decide_eq_false hn
              clear hk1
              go_wp2
              go_roundw
              case rel => exact ⟨k + 1, by omega, by go_num, HE, hb⟩
              case measure => simp [intOf]; omega
          · have g1 : (x.kind == 1) = false := beq_eq_false_iff_ne.2 hk1
            have HE : Sec ((t.take (k + 1)).all varIn = true) := ⟨by rw [hTk.out]; simp [varIn, hk1]⟩
            clear hk1
            go_wp2
            go_roundw
            case rel => exact ⟨k + 1, by omega, by go_num, HE, hb⟩
            case measure => simp [intOf]; omega
        · have HE : Sec (termIn t = true) := ⟨by rw [HL.out]; have := hT.out; rwa [List.take_of_length_le (by omega)] at this⟩
          go_wp2
          go_ret
          exact ⟨rb HE.out.symm, hb.out⟩
    · have HE : Sec (termIn t = false) := ⟨by simp [termIn, hl]⟩
      clear ht
      have q1 : decide ((t.length : Int) > 12) = true := decide_eq_true (by omega)
      go_enter Tryz.func49, Tryz.ntmps49
      go_wp2_with (go_at_call 67; refine (TrmOk_c _ t _ _ HV.out).mono ?_; rw [H1.out]; rintro e w1 ⟨rfl, hb⟩; have B1 := Sec.mk hb; clear hb)
      go_ret
      exact ⟨rb HE.out.symm, B1.out⟩
set_option maxHeartbeats 2000000 in
theorem specGoalOk_c (g : Goal) (cs : List Value) (ok : Nat → Prop) (w : World) (hK : kGoal.K w ok g cs) :
    Calls Tryz.prog 51 #[.agg cs.toArray] w fun e w' => e = .returned (.bool (goalOk g)) ∧ Below w.heap.size w w' := by
  obtain ⟨v1, v2, v3, rfl, h1, h2, h3⟩ := kGoal_K hK
  have H1 := Sec.mk h1
  have H2 := Sec.mk h2
  have H3 := Sec.mk h3
  obtain ⟨E1, m1, rfl, -, -, l1, -⟩ := h1
  obtain ⟨E2, m2, rfl, -, -, l2, -⟩ := h2
  obtain ⟨E3, m3, rfl, -, -, l3, -⟩ := h3
  have B0 := Sec.mk (belA (Below.refl w.heap.size w) (.cells #[.int .i64 g.kind, .slice E1 g.a.length m1, .slice E2 g.b.length m2, .slice E3 g.c.length m3] 63))
  have P0 := Sec.mk (heap_alloc_new w (.cells #[.int .i64 g.kind, .slice E1 g.a.length m1, .slice E2 g.b.length m2, .slice E3 g.c.length m3] 63))
  have T0 : Sec True := ⟨trivial⟩
  clear hK
  have X := (box_at P0.out).2.1
  have y0 := X 0 _ rfl
  have y1 := X 1 _ rfl
  have y2 := X 2 _ rfl
  have y3 := X 3 _ rfl
  clear X
  have w1 : IntKind.i64.wrap ((g.b.length : Int) + (g.c.length : Int)) = (g.b.length : Int) + (g.c.length : Int) := IntWalk.i64_in _ (by omega)
  have w2 : IntKind.i64.wrap ((g.a.length : Int) + (g.b.length : Int)) = (g.a.length : Int) + (g.b.length : Int) := IntWalk.i64_in _ (by omega)
  have w3 : IntKind.i64.wrap ((g.a.length : Int) + (g.b.length : Int) + (g.c.length : Int)) = (g.a.length : Int) + (g.b.length : Int) + (g.c.length : Int) := IntWalk.i64_in _ (by omega)
  obtain ⟨q1, hq1⟩ : ∃ q, ((g.b.length : Int) + (g.c.length : Int) == 0) = q := ⟨_, rfl⟩
  obtain ⟨q2, hq2⟩ : ∃ q, ((g.a.length : Int) + (g.b.length : Int) + (g.c.length : Int) == 0) = q := ⟨_, rfl⟩
  obtain ⟨q3, hq3⟩ : ∃ q, ((g.c.length : Int) == 0) = q := ⟨_, rfl⟩
  have HG := Sec.mk (goalOk_int g)
  rw [hq1, hq2, hq3] at HG
  obtain ⟨a, ha⟩ : ∃ a, termIn g.a = a := ⟨_, rfl⟩
  obtain ⟨b, hb⟩ : ∃ b, termIn g.b = b := ⟨_, rfl⟩
  obtain ⟨c, hc⟩ : ∃ c, termIn g.c = c := ⟨_, rfl⟩
  obtain ⟨d, hd⟩ : ∃ d, headFun g.a = d := ⟨_, rfl⟩
  have HA := Sec.mk ha
  have HB := Sec.mk hb
  have HC := Sec.mk hc
  have HD := Sec.mk hd
  rw [ha, hb, hc, hd] at HG
  clear ha hb hc hd
  rcases Decidable.em (g.kind = 1) with hk | hk
  · have HE := Sec.mk (goalOkI_1 hk HG.out)
    have k1 : (g.kind == 1) = true := by rw [hk]; rfl
    have k2 : (g.kind == 2) = false := by rw [hk]; rfl
    have k3 : (g.kind == 3) = false := by rw [hk]; rfl
    have k4 : (g.kind == 4) = false := by rw [hk]; rfl
    have k5 : (g.kind == 5) = false := by rw [hk]; rfl
    clear hk HG
    cases a with
    | false =>
      go_enter Tryz.func51, Tryz.ntmps51
      go_wp2_with (first | (clear T0; go_at_call 49; have T1 : Sec True := ⟨trivial⟩; refine (l3Term_c _ g.a ok _ (Kd.V_below H1.out B0.out (by decide))).mono ?_; rw [HA.out]; rintro e w1 ⟨rfl, hb⟩; have B1 := Sec.mk (bel B0.out hb); have P1 := Sec.mk ((hb.block _ (Array.getElem?_eq_some_iff.1 P0.out).1).trans P0.out); have X := (box_at P1.out).2.1; have y1 := X 1 _ rfl; have y2 := X 2 _ rfl; have y3 := X 3 _ rfl; clear hb X))
      go_ret
      exact ⟨rb HE.out.symm, B1.out⟩
    | true =>
      cases d with
      | false =>
        go_enter Tryz.func51, Tryz.ntmps51
        go_wp2_with (first | (clear T1; go_at_call 50; have T2 : Sec True := ⟨trivial⟩; refine (l3Call_c _ g.a ok _ (Kd.V_below H1.out B1.out (by decide))).mono ?_; rw [HD.out]; rintro e w2 ⟨rfl, hb⟩; have B2 := Sec.mk (bel B1.out hb); have P2 := Sec.mk ((hb.block _ (Array.getElem?_eq_some_iff.1 P1.out).1).trans P1.out); have X := (box_at P2.out).2.1; have y1 := X 1 _ rfl; have y2 := X 2 _ rfl; have y3 := X 3 _ rfl; clear hb X) | (clear T0; go_at_call 49; have T1 : Sec True := ⟨trivial⟩; refine (l3Term_c _ g.a ok _ (Kd.V_below H1.out B0.out (by decide))).mono ?_; rw [HA.out]; rintro e w1 ⟨rfl, hb⟩; have B1 := Sec.mk (bel B0.out hb); have P1 := Sec.mk ((hb.block _ (Array.getElem?_eq_some_iff.1 P0.out).1).trans P0.out); have X := (box_at P1.out).2.1; have y1 := X 1 _ rfl; have y2 := X 2 _ rfl; have y3 := X 3 _ rfl; clear hb X))
        go_ret
        exact ⟨rb HE.out.symm, B2.out⟩
      | true =>
        go_enter Tryz.func51, Tryz.ntmps51
        go_wp2_with (first | (clear T1; go_at_call 50; have T2 : Sec True := ⟨trivial⟩; refine (l3Call_c _ g.a ok _ (Kd.V_below H1.out B1.out (by decide))).mono ?_; rw [HD.out]; rintro e w2 ⟨rfl, hb⟩; have B2 := Sec.mk (bel B1.out hb); have P2 := Sec.mk ((hb.block _ (Array.getElem?_eq_some_iff.1 P1.out).1).trans P1.out); have X := (box_at P2.out).2.1; have y1 := X 1 _ rfl; have y2 := X 2 _ rfl; have y3 := X 3 _ rfl; clear hb X) | (clear T0; go_at_call 49; have T1 : Sec True := ⟨trivial⟩; refine (l3Term_c _ g.a ok _ (Kd.V_below H1.out B0.out (by decide))).mono ?_; rw [HA.out]; rintro e w1 ⟨rfl, hb⟩; have B1 := Sec.mk (bel B0.out hb); have P1 := Sec.mk ((hb.block _ (Array.getElem?_eq_some_iff.1 P0.out).1).trans P0.out); have X := (box_at P1.out).2.1; have y1 := X 1 _ rfl; have y2 := X 2 _ rfl; have y3 := X 3 _ rfl; clear hb X))
        go_ret
        exact ⟨rb HE.out.symm, B2.out⟩
  rcases Decidable.em (g.kind = 3) with hk | hk
  · have HE := Sec.mk (goalOkI_3 hk HG.out)
    have k1 : (g.kind == 1) = false := by rw [hk]; rfl
    have k2 : (g.kind == 2) = false := by rw [hk]; rfl
    have k3 : (g.kind == 3) = true := by rw [hk]; rfl
    have k4 : (g.kind == 4) = false := by rw [hk]; rfl
    have k5 : (g.kind == 5) = false := by rw [hk]; rfl
    clear hk HG
    go_enter Tryz.func51, Tryz.ntmps51
    go_wp2
    go_ret
    exact ⟨rb HE.out.symm, B0.out⟩
  rcases Decidable.em (g.kind = 2) with hk | hk
  · have HE := Sec.mk (goalOkI_2 hk HG.out)
    have k1 : (g.kind == 1) = false := by rw [hk]; rfl
    have k2 : (g.kind == 2) = true := by rw [hk]; rfl
    have k3 : (g.kind == 3) = false := by rw [hk]; rfl
    have k4 : (g.kind == 4) = false := by rw [hk]; rfl
    have k5 : (g.kind == 5) = false := by rw [hk]; rfl
    clear hk HG
    cases a with
    | false =>
      go_enter Tryz.func51, Tryz.ntmps51
      go_wp2_with (first | (clear T0; go_at_call 49; have T1 : Sec True := ⟨trivial⟩; refine (l3Term_c _ g.a ok _ (Kd.V_below H1.out B0.out (by decide))).mono ?_; rw [HA.out]; rintro e w1 ⟨rfl, hb⟩; have B1 := Sec.mk (bel B0.out hb); have P1 := Sec.mk ((hb.block _ (Array.getElem?_eq_some_iff.1 P0.out).1).trans P0.out); have X := (box_at P1.out).2.1; have y1 := X 1 _ rfl; have y2 := X 2 _ rfl; have y3 := X 3 _ rfl; clear hb X))
      go_ret
      exact ⟨rb HE.out.symm, B1.out⟩
    | true =>
      cases b with
      | false =>
        go_enter Tryz.func51, Tryz.ntmps51
        go_wp2_with (first | (clear T1; go_at_call 49; have T2 : Sec True := ⟨trivial⟩; refine (l3Term_c _ g.b ok _ (Kd.V_below H2.out B1.out (by decide))).mono ?_; rw [HB.out]; rintro e w2 ⟨rfl, hb⟩; have B2 := Sec.mk (bel B1.out hb); have P2 := Sec.mk ((hb.block _ (Array.getElem?_eq_some_iff.1 P1.out).1).trans P1.out); have X := (box_at P2.out).2.1; have y1 := X 1 _ rfl; have y2 := X 2 _ rfl; have y3 := X 3 _ rfl; clear hb X) | (clear T0; go_at_call 49; have T1 : Sec True := ⟨trivial⟩; refine (l3Term_c _ g.a ok _ (Kd.V_below H1.out B0.out (by decide))).mono ?_; rw [HA.out]; rintro e w1 ⟨rfl, hb⟩; have B1 := Sec.mk (bel B0.out hb); have P1 := Sec.mk ((hb.block _ (Array.getElem?_eq_some_iff.1 P0.out).1).trans P0.out); have X := (box_at P1.out).2.1; have y1 := X 1 _ rfl; have y2 := X 2 _ rfl; have y3 := X 3 _ rfl; clear hb X))
        go_ret
        exact ⟨rb HE.out.symm, B2.out⟩
      | true =>
        go_enter Tryz.func51, Tryz.ntmps51
        go_wp2_with (first | (clear T1; go_at_call 49; have T2 : Sec True := ⟨trivial⟩; refine (l3Term_c _ g.b ok _ (Kd.V_below H2.out B1.out (by decide))).mono ?_; rw [HB.out]; rintro e w2 ⟨rfl, hb⟩; have B2 := Sec.mk (bel B1.out hb); have P2 := Sec.mk ((hb.block _ (Array.getElem?_eq_some_iff.1 P1.out).1).trans P1.out); have X := (box_at P2.out).2.1; have y1 := X 1 _ rfl; have y2 := X 2 _ rfl; have y3 := X 3 _ rfl; clear hb X) | (clear T0; go_at_call 49; have T1 : Sec True := ⟨trivial⟩; refine (l3Term_c _ g.a ok _ (Kd.V_below H1.out B0.out (by decide))).mono ?_; rw [HA.out]; rintro e w1 ⟨rfl, hb⟩; have B1 := Sec.mk (bel B0.out hb); have P1 := Sec.mk ((hb.block _ (Array.getElem?_eq_some_iff.1 P0.out).1).trans P0.out); have X := (box_at P1.out).2.1; have y1 := X 1 _ rfl; have y2 := X 2 _ rfl; have y3 := X 3 _ rfl; clear hb X))
        go_ret
        exact ⟨rb HE.out.symm, B2.out⟩
  rcases Decidable.em (g.kind = 4) with hk | hk
  · have HE := Sec.mk (goalOkI_4 hk HG.out)
    have k1 : (g.kind == 1) = false := by rw [hk]; rfl
    have k2 : (g.kind == 2) = false := by rw [hk]; rfl
    have k3 : (g.kind == 3) = false := by rw [hk]; rfl
    have k4 : (g.kind == 4) = true := by rw [hk]; rfl
    have k5 : (g.kind == 5) = false := by rw [hk]; rfl
    clear hk HG
    cases a with
    | false =>
      go_enter Tryz.func51, Tryz.ntmps51
      go_wp2_with (first | (clear T0; go_at_call 49; have T1 : Sec True := ⟨trivial⟩; refine (l3Term_c _ g.a ok _ (Kd.V_below H1.out B0.out (by decide))).mono ?_; rw [HA.out]; rintro e w1 ⟨rfl, hb⟩; have B1 := Sec.mk (bel B0.out hb); have P1 := Sec.mk ((hb.block _ (Array.getElem?_eq_some_iff.1 P0.out).1).trans P0.out); have X := (box_at P1.out).2.1; have y1 := X 1 _ rfl; have y2 := X 2 _ rfl; have y3 := X 3 _ rfl; clear hb X))
      go_ret
      exact ⟨rb HE.out.symm, B1.out⟩
    | true =>
      cases b with
      | false =>
        go_enter Tryz.func51, Tryz.ntmps51
        go_wp2_with (first | (clear T1; go_at_call 49; have T2 : Sec True := ⟨trivial⟩; refine (l3Term_c _ g.b ok _ (Kd.V_below H2.out B1.out (by decide))).mono ?_; rw [HB.out]; rintro e w2 ⟨rfl, hb⟩; have B2 := Sec.mk (bel B1.out hb); have P2 := Sec.mk ((hb.block _ (Array.getElem?_eq_some_iff.1 P1.out).1).trans P1.out); have X := (box_at P2.out).2.1; have y1 := X 1 _ rfl; have y2 := X 2 _ rfl; have y3 := X 3 _ rfl; clear hb X) | (clear T0; go_at_call 49; have T1 : Sec True := ⟨trivial⟩; refine (l3Term_c _ g.a ok _ (Kd.V_below H1.out B0.out (by decide))).mono ?_; rw [HA.out]; rintro e w1 ⟨rfl, hb⟩; have B1 := Sec.mk (bel B0.out hb); have P1 := Sec.mk ((hb.block _ (Array.getElem?_eq_some_iff.1 P0.out).1).trans P0.out); have X := (box_at P1.out).2.1; have y1 := X 1 _ rfl; have y2 := X 2 _ rfl; have y3 := X 3 _ rfl; clear hb X))
        go_ret
        exact ⟨rb HE.out.symm, B2.out⟩
      | true =>
        go_enter Tryz.func51, Tryz.ntmps51
        go_wp2_with (first | (clear T1; go_at_call 49; have T2 : Sec True := ⟨trivial⟩; refine (l3Term_c _ g.b ok _ (Kd.V_below H2.out B1.out (by decide))).mono ?_; rw [HB.out]; rintro e w2 ⟨rfl, hb⟩; have B2 := Sec.mk (bel B1.out hb); have P2 := Sec.mk ((hb.block _ (Array.getElem?_eq_some_iff.1 P1.out).1).trans P1.out); have X := (box_at P2.out).2.1; have y1 := X 1 _ rfl; have y2 := X 2 _ rfl; have y3 := X 3 _ rfl; clear hb X) | (clear T0; go_at_call 49; have T1 : Sec True := ⟨trivial⟩; refine (l3Term_c _ g.a ok _ (Kd.V_below H1.out B0.out (by decide))).mono ?_; rw [HA.out]; rintro e w1 ⟨rfl, hb⟩; have B1 := Sec.mk (bel B0.out hb); have P1 := Sec.mk ((hb.block _ (Array.getElem?_eq_some_iff.1 P0.out).1).trans P0.out); have X := (box_at P1.out).2.1; have y1 := X 1 _ rfl; have y2 := X 2 _ rfl; have y3 := X 3 _ rfl; clear hb X))
        go_ret
        exact ⟨rb HE.out.symm, B2.out⟩
  rcases Decidable.em (g.kind = 5) with hk | hk
  · have HE := Sec.mk (goalOkI_5 hk HG.out)
    have k1 : (g.kind == 1) = false := by rw [hk]; rfl
    have k2 : (g.kind == 2) = false := by rw [hk]; rfl
    have k3 : (g.kind == 3) = false := by rw [hk]; rfl
    have k4 : (g.kind == 4) = false := by rw [hk]; rfl
    have k5 : (g.kind == 5) = true := by rw [hk]; rfl
    clear hk HG
    cases a with
    | false =>
      go_enter Tryz.func51, Tryz.ntmps51
      go_wp2_with (first | (clear T0; go_at_call 49; have T1 : Sec True := ⟨trivial⟩; refine (l3Term_c _ g.a ok _ (Kd.V_below H1.out B0.out (by decide))).mono ?_; rw [HA.out]; rintro e w1 ⟨rfl, hb⟩; have B1 := Sec.mk (bel B0.out hb); have P1 := Sec.mk ((hb.block _ (Array.getElem?_eq_some_iff.1 P0.out).1).trans P0.out); have X := (box_at P1.out).2.1; have y1 := X 1 _ rfl; have y2 := X 2 _ rfl; have y3 := X 3 _ rfl; clear hb X))
      go_ret
      exact ⟨rb HE.out.symm, B1.out⟩
    | true =>
      cases b with
      | false =>
        go_enter Tryz.func51, Tryz.ntmps51
        go_wp2_with (first | (clear T1; go_at_call 49; have T2 : Sec True := ⟨trivial⟩; refine (l3Term_c _ g.b ok _ (Kd.V_below H2.out B1.out (by decide))).mono ?_; rw [HB.out]; rintro e w2 ⟨rfl, hb⟩; have B2 := Sec.mk (bel B1.out hb); have P2 := Sec.mk ((hb.block _ (Array.getElem?_eq_some_iff.1 P1.out).1).trans P1.out); have X := (box_at P2.out).2.1; have y1 := X 1 _ rfl; have y2 := X 2 _ rfl; have y3 := X 3 _ rfl; clear hb X) | (clear T0; go_at_call 49; have T1 : Sec True := ⟨trivial⟩; refine (l3Term_c _ g.a ok _ (Kd.V_below H1.out B0.out (by decide))).mono ?_; rw [HA.out]; rintro e w1 ⟨rfl, hb⟩; have B1 := Sec.mk (bel B0.out hb); have P1 := Sec.mk ((hb.block _ (Array.getElem?_eq_some_iff.1 P0.out).1).trans P0.out); have X := (box_at P1.out).2.1; have y1 := X 1 _ rfl; have y2 := X 2 _ rfl; have y3 := X 3 _ rfl; clear hb X))
        go_ret
        exact ⟨rb HE.out.symm, B2.out⟩
      | true =>
        go_enter Tryz.func51, Tryz.ntmps51
        go_wp2_with (first | (clear T2; go_at_call 49; have T3 : Sec True := ⟨trivial⟩; refine (l3Term_c _ g.c ok _ (Kd.V_below H3.out B2.out (by decide))).mono ?_; rw [HC.out]; rintro e w3 ⟨rfl, hb⟩; have B3 := Sec.mk (bel B2.out hb); have P3 := Sec.mk ((hb.block _ (Array.getElem?_eq_some_iff.1 P2.out).1).trans P2.out); have X := (box_at P3.out).2.1; have y1 := X 1 _ rfl; have y2 := X 2 _ rfl; have y3 := X 3 _ rfl; clear hb X) | (clear T1; go_at_call 49; have T2 : Sec True := ⟨trivial⟩; refine (l3Term_c _ g.b ok _ (Kd.V_below H2.out B1.out (by decide))).mono ?_; rw [HB.out]; rintro e w2 ⟨rfl, hb⟩; have B2 := Sec.mk (bel B1.out hb); have P2 := Sec.mk ((hb.block _ (Array.getElem?_eq_some_iff.1 P1.out).1).trans P1.out); have X := (box_at P2.out).2.1; have y1 := X 1 _ rfl; have y2 := X 2 _ rfl; have y3 := X 3 _ rfl; clear hb X) | (clear T0; go_at_call 49; have T1 : Sec True := ⟨trivial⟩; refine (l3Term_c _ g.a ok _ (Kd.V_below H1.out B0.out (by decide))).mono ?_; rw [HA.out]; rintro e w1 ⟨rfl, hb⟩; have B1 := Sec.mk (bel B0.out hb); have P1 := Sec.mk ((hb.block _ (Array.getElem?_eq_some_iff.1 P0.out).1).trans P0.out); have X := (box_at P1.out).2.1; have y1 := X 1 _ rfl; have y2 := X 2 _ rfl; have y3 := X 3 _ rfl; clear hb X))
        go_ret
        exact ⟨rb HE.out.symm, B3.out⟩
  have HE := Sec.mk (goalOkI_0 (by assumption) (by assumption) (by assumption) (by assumption) (by assumption) HG.out)
  clear HG
  have k1 : (g.kind == 1) = false := beq_eq_false_iff_ne.2 (by assumption)
  have k2 : (g.kind == 2) = false := beq_eq_false_iff_ne.2 (by assumption)
  have k3 : (g.kind == 3) = false := beq_eq_false_iff_ne.2 (by assumption)
  have k4 : (g.kind == 4) = false := beq_eq_false_iff_ne.2 (by assumption)
  have k5 : (g.kind == 5) = false := beq_eq_false_iff_ne.2 (by assumption)
  go_enter Tryz.func51, Tryz.ntmps51
  go_wp2
  go_ret
  exact ⟨rb HE.out.symm, B0.out⟩
theorem l3Place_c (p : Place) (w : World) :
    Calls Tryz.prog 28 #[.agg #[.string p.name, .int .i64 p.n, .int .i64 p.node]] w fun e w' => e = .returned (.bool (placeOk p)) ∧ Below w.heap.size w w' := by
  have B0 := Sec.mk (belA (Below.refl w.heap.size w) (.cells #[.string p.name, .int .i64 p.n, .int .i64 p.node] 61))
  have P0 := heap_alloc_new w (.cells #[.string p.name, .int .i64 p.n, .int .i64 p.node] 61)
  have X := (box_at P0).2.1
  have y0 := X 0 _ rfl
  have y1 := X 1 _ rfl
  have y2 := X 2 _ rfl
  clear X P0
  have HE : Sec (placeOk p = (nameOk p.name && inB p.n 0 3 && inB p.node 1 2)) := ⟨rfl⟩
  cases h1 : nameOk p.name with
  | false =>
    rw [h1] at HE
    have H1 := Sec.mk h1
    clear h1
    go_enter Tryz.func28, Tryz.ntmps28
    go_wp2_with (go_at_call 52; refine (l1Name_c _ _).mono ?_; rw [H1.out]; rintro e w1 ⟨rfl, rfl⟩)
    go_ret
    exact ⟨rb HE.out.symm, B0.out⟩
  | true =>
    cases h2 : inB p.n 0 3 with
    | false =>
      rw [h1, h2] at HE
      have H1 := Sec.mk h1
      have H2 := Sec.mk h2
      clear h1 h2
      go_enter Tryz.func28, Tryz.ntmps28
      go_wp2_with (first | (go_at_call 52; refine (l1Name_c _ _).mono ?_; rw [H1.out]; rintro e w1 ⟨rfl, rfl⟩) | (go_at_call 53; refine (l1In_c _ _ _ _).mono ?_; rw [H2.out]; rintro e w1 ⟨rfl, rfl⟩))
      go_ret
      exact ⟨rb HE.out.symm, B0.out⟩
    | true =>
      rw [h1, h2] at HE
      have H1 := Sec.mk h1
      have H2 := Sec.mk h2
      clear h1 h2
      go_enter Tryz.func28, Tryz.ntmps28
      go_wp2_with (first | (go_at_call 52; refine (l1Name_c _ _).mono ?_; rw [H1.out]; rintro e w1 ⟨rfl, rfl⟩) | (go_at_call 53; refine (l1In_c _ _ _ _).mono ?_; rw [H2.out]; rintro e w1 ⟨rfl, rfl⟩) | (go_at_call 53; refine (l1In_c _ _ _ _).mono ?_; rintro e w1 ⟨rfl, rfl⟩))
      go_ret
      exact ⟨rb HE.out.symm, B0.out⟩
end Go.Proofs.YtenigopoknajgaaGreatDoor
