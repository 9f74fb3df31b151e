/- Contracts: what may stand in a program (the reference); and what goes with it. -/
import Derived.Test.YtgiobpggonceeaaGreatDoorXw2
import Derived.Test.YtgiobpggonceeaaGreatDoorXw3
import Derived.Test.YtgiobpggonceeaaGreatDoorXw4
import Derived.Test.YtgiobpggonceeaaGreatDoorXw5
import Derived.Test.YtgiobpggonceeaaGreatDoorXw6
import Derived.BigQuiet
namespace Go.Proofs.YtgiobpggonceeaaGreatDoor
section
open Go.RowKit
set_option linter.unusedVariables false
set_option maxRecDepth 100000
theorem l3Term_c (v : Value) (t : Term) (ok : Nat → Prop) (w : World) (hV : kCell.V w ok v t) :
    Calls Tryz.prog 144 #[v] w fun e w' => e = .returned (.bool (termIn t)) ∧ Below w.heap.size w w' := by
  have HV := Sec.mk hV
  obtain ⟨A, c, rfl, h1, h2, h3, hC, -⟩ := hV
  have HC := Sec.mk hC
  clear hC
  cases ht : trmOk t with
  | false =>
    have HE : Sec (termIn t = false) := ⟨by simp [termIn, ht]⟩
    have H1 := Sec.mk ht
    clear ht
    go_enter Tryz.func144, Tryz.ntmps144
    go_wp2_with (go_at_call 12; refine (TrmOk_c _ t _ _ HV.out).mono ?_; rw [H1.out]; rintro e w1 ⟨rfl, hb⟩; have B1 := Sec.mk hb; clear hb)
    go_ret
    exact ⟨rb HE.out.symm, B1.out⟩
  | true =>
    have H1 := Sec.mk ht
    by_cases hl : t.length ≤ 12
    · have HL : Sec (termIn t = t.all varIn) := ⟨by simp [termIn, ht, hl]⟩
      clear ht
      have q1 : decide ((t.length : Int) > 12) = false := decide_eq_false (by omega)
      go_enter Tryz.func144, Tryz.ntmps144
      go_wp2_with (go_at_call 12; refine (TrmOk_c _ t _ _ HV.out).mono ?_; rw [H1.out]; rintro e w1 ⟨rfl, hb⟩; have B1 := Sec.mk hb; clear hb)
      go_loopw [3] (fun i wr => ∃ k : Nat, k ≤ t.length ∧ i = .int .i64 k ∧ Sec ((t.take k).all varIn = true) ∧ Sec (Below w.heap.size w wr)) (fun i _ => t.length - (intOf i).toNat)
      case atStart => exact ⟨0, Nat.zero_le _, rfl, ⟨by simp⟩, B1⟩
      case round =>
        obtain ⟨k, hk, rfl, hT, hb⟩ := hrel
        by_cases hlt : k < t.length
        · obtain ⟨b, off, rfl, _, x0, x1, -, -⟩ := cell_at (Kd.C_below HC.out hb.out (by decide)) k hlt
          have hTk : Sec ((t.take (k + 1)).all varIn = varIn t[k]) := ⟨by rw [take_all varIn t k hlt, hT.out, Bool.true_and]⟩
          have hAll : Sec (varIn t[k] = false → t.all varIn = false) := ⟨fun h => List.all_eq_false.2 ⟨t[k], List.getElem_mem hlt, by rw [h]; decide⟩⟩
          generalize t[k] = x at *
          have i0 : (0 : Int) ≤ (k : Int) := by omega
          have i1 : (k : Int) < (t.length : Int) := by omega
          by_cases hk1 : x.kind = 1
          · have g1 : (x.kind == 1) = true := beq_iff_eq.2 hk1
            by_cases hn : 8 ≤ x.n
            · have HE : Sec (termIn t = false) := ⟨by rw [HL.out]; exact hAll.out (by simp [varIn, hk1, hn])⟩
              have g2 : decide (x.n ≥ 8) = true := decide_eq_true hn
              clear hk1
              go_wp2
              go_ret
              exact ⟨rb HE.out.symm, hb.out⟩
            · have HE : Sec ((t.take (k + 1)).all varIn = true) := ⟨by rw [hTk.out]; simp [varIn, hn]⟩
              have g2 : decide (x.n ≥ 8) = false := decide_eq_false hn
              clear hk1
              go_wp2
              go_roundw
              case rel => exact ⟨k + 1, by omega, by go_num, HE, hb⟩
              case measure => simp [intOf]; omega
          · have g1 : (x.kind == 1) = false := beq_eq_false_iff_ne.2 hk1
            have HE : Sec ((t.take (k + 1)).all varIn = true) := ⟨by rw [hTk.out]; simp [varIn, hk1]⟩
            clear hk1
            go_wp2
            go_roundw
            case rel => exact ⟨k + 1, by omega, by go_num, HE, hb⟩
            case measure => simp [intOf]; omega
        · have HE : Sec (termIn t = true) := ⟨by rw [HL.out]; have := hT.out; rwa [List.take_of_length_le (by omega)] at this⟩
          go_wp2
          go_ret
          exact ⟨rb HE.out.symm, hb.out⟩
    · have HE : Sec (termIn t = false) := ⟨by simp [termIn, hl]⟩
      clear ht
      have q1 : decide ((t.length : Int) > 12) = true := decide_eq_true (by omega)
      go_enter Tryz.func144, Tryz.ntmps144
      go_wp2_with (go_at_call 12; refine (TrmOk_c _ t _ _ HV.out).mono ?_; rw [H1.out]; rintro e w1 ⟨rfl, hb⟩; have B1 := Sec.mk hb; clear hb)
      go_ret
      exact ⟨rb HE.out.symm, B1.out⟩
set_option maxHeartbeats 2000000 in
theorem specGoalOk_c (g : Goal) (cs : List Value) (ok : Nat → Prop) (w : World) (hK : kGoal.K w ok g cs) :
    Calls Tryz.prog 145 #[.agg cs.toArray] w fun e w' => e = .returned (.bool (goalOk g)) ∧ Below w.heap.size w w' := by
  obtain ⟨v1, v2, v3, rfl, h1, h2, h3⟩ := kGoal_K hK
  have H1 := Sec.mk h1
  have H2 := Sec.mk h2
  have H3 := Sec.mk h3
  obtain ⟨E1, m1, rfl, -, -, l1, -⟩ := h1
  obtain ⟨E2, m2, rfl, -, -, l2, -⟩ := h2
  obtain ⟨E3, m3, rfl, -, -, l3, -⟩ := h3
  have B0 := Sec.mk (belA (Below.refl w.heap.size w) (.cells #[.int .i64 g.kind, .slice E1 g.a.length m1, .slice E2 g.b.length m2, .slice E3 g.c.length m3] 100))
  have P0 := Sec.mk (heap_alloc_new w (.cells #[.int .i64 g.kind, .slice E1 g.a.length m1, .slice E2 g.b.length m2, .slice E3 g.c.length m3] 100))
  have T0 : Sec True := ⟨trivial⟩
  clear hK
  have X := (box_at P0.out).2.1
  have y0 := X 0 _ rfl
  have y1 := X 1 _ rfl
  have y2 := X 2 _ rfl
  have y3 := X 3 _ rfl
  clear X
  have w1 : IntKind.i64.wrap ((g.b.length : Int) + (g.c.length : Int)) = (g.b.length : Int) + (g.c.length : Int) := IntWalk.i64_in _ (by omega)
  have w2 : IntKind.i64.wrap ((g.a.length : Int) + (g.b.length : Int)) = (g.a.length : Int) + (g.b.length : Int) := IntWalk.i64_in _ (by omega)
  have w3 : IntKind.i64.wrap ((g.a.length : Int) + (g.b.length : Int) + (g.c.length : Int)) = (g.a.length : Int) + (g.b.length : Int) + (g.c.length : Int) := IntWalk.i64_in _ (by omega)
  obtain ⟨q1, hq1⟩ : ∃ q, ((g.b.length : Int) + (g.c.length : Int) == 0) = q := ⟨_, rfl⟩
  obtain ⟨q2, hq2⟩ : ∃ q, ((g.a.length : Int) + (g.b.length : Int) + (g.c.length : Int) == 0) = q := ⟨_, rfl⟩
  obtain ⟨q3, hq3⟩ : ∃ q, ((g.c.length : Int) == 0) = q := ⟨_, rfl⟩
  have HG := Sec.mk (goalOk_int g)
  rw [hq1, hq2, hq3] at HG
  obtain ⟨a, ha⟩ : ∃ a, termIn g.a = a := ⟨_, rfl⟩
  obtain ⟨b, hb⟩ : ∃ b, termIn g.b = b := ⟨_, rfl⟩
  obtain ⟨c, hc⟩ : ∃ c, termIn g.c = c := ⟨_, rfl⟩
  obtain ⟨d, hd⟩ : ∃ d, headFun g.a = d := ⟨_, rfl⟩
  have HA := Sec.mk ha
  have HB := Sec.mk hb
  have HC := Sec.mk hc
  have HD := Sec.mk hd
  rw [ha, hb, hc, hd] at HG
  clear ha hb hc hd
  rcases Decidable.em (g.kind = 1) with hk | hk
  · have HE := Sec.mk (goalOkI_1 hk HG.out)
    have k1 : (g.kind == 1) = true := by rw [hk]; rfl
    have k2 : (g.kind == 2) = false := by rw [hk]; rfl
    have k3 : (g.kind == 3) = false := by rw [hk]; rfl
    have k4 : (g.kind == 4) = false := by rw [hk]; rfl
    have k5 : (g.kind == 5) = false := by rw [hk]; rfl
    clear hk HG
    cases a with
    | false =>
      go_enter Tryz.func145, Tryz.ntmps145
      go_wp2_with (first | (clear T0; go_at_call 144; have T1 : Sec True := ⟨trivial⟩; refine (l3Term_c _ g.a ok _ (Kd.V_below H1.out B0.out (by decide))).mono ?_; rw [HA.out]; rintro e w1 ⟨rfl, hb⟩; have B1 := Sec.mk (bel B0.out hb); have P1 := Sec.mk ((hb.block _ (Array.getElem?_eq_some_iff.1 P0.out).1).trans P0.out); have X := (box_at P1.out).2.1; have y1 := X 1 _ rfl; have y2 := X 2 _ rfl; have y3 := X 3 _ rfl; clear hb X))
      go_ret
      exact ⟨rb HE.out.symm, B1.out⟩
    | true =>
      cases d with
      | false =>
        go_enter Tryz.func145, Tryz.ntmps145
        go_wp2_with (first | (clear T1; go_at_call 124; have T2 : Sec True := ⟨trivial⟩; refine (l3Call_c _ g.a ok _ (Kd.V_below H1.out B1.out (by decide))).mono ?_; rw [HD.out]; rintro e w2 ⟨rfl, hb⟩; have B2 := Sec.mk (bel B1.out hb); have P2 := Sec.mk ((hb.block _ (Array.getElem?_eq_some_iff.1 P1.out).1).trans P1.out); have X := (box_at P2.out).2.1; have y1 := X 1 _ rfl; have y2 := X 2 _ rfl; have y3 := X 3 _ rfl; clear hb X) | (clear T0; go_at_call 144; have T1 : Sec True := ⟨trivial⟩; refine (l3Term_c _ g.a ok _ (Kd.V_below H1.out B0.out (by decide))).mono ?_; rw [HA.out]; rintro e w1 ⟨rfl, hb⟩; have B1 := Sec.mk (bel B0.out hb); have P1 := Sec.mk ((hb.block _ (Array.getElem?_eq_some_iff.1 P0.out).1).trans P0.out); have X := (box_at P1.out).2.1; have y1 := X 1 _ rfl; have y2 := X 2 _ rfl; have y3 := X 3 _ rfl; clear hb X))
        go_ret
        exact ⟨rb HE.out.symm, B2.out⟩
      | true =>
        go_enter Tryz.func145, Tryz.ntmps145
        go_wp2_with (first | (clear T1; go_at_call 124; have T2 : Sec True := ⟨trivial⟩; refine (l3Call_c _ g.a ok _ (Kd.V_below H1.out B1.out (by decide))).mono ?_; rw [HD.out]; rintro e w2 ⟨rfl, hb⟩; have B2 := Sec.mk (bel B1.out hb); have P2 := Sec.mk ((hb.block _ (Array.getElem?_eq_some_iff.1 P1.out).1).trans P1.out); have X := (box_at P2.out).2.1; have y1 := X 1 _ rfl; have y2 := X 2 _ rfl; have y3 := X 3 _ rfl; clear hb X) | (clear T0; go_at_call 144; have T1 : Sec True := ⟨trivial⟩; refine (l3Term_c _ g.a ok _ (Kd.V_below H1.out B0.out (by decide))).mono ?_; rw [HA.out]; rintro e w1 ⟨rfl, hb⟩; have B1 := Sec.mk (bel B0.out hb); have P1 := Sec.mk ((hb.block _ (Array.getElem?_eq_some_iff.1 P0.out).1).trans P0.out); have X := (box_at P1.out).2.1; have y1 := X 1 _ rfl; have y2 := X 2 _ rfl; have y3 := X 3 _ rfl; clear hb X))
        go_ret
        exact ⟨rb HE.out.symm, B2.out⟩
  rcases Decidable.em (g.kind = 3) with hk | hk
  · have HE := Sec.mk (goalOkI_3 hk HG.out)
    have k1 : (g.kind == 1) = false := by rw [hk]; rfl
    have k2 : (g.kind == 2) = false := by rw [hk]; rfl
    have k3 : (g.kind == 3) = true := by rw [hk]; rfl
    have k4 : (g.kind == 4) = false := by rw [hk]; rfl
    have k5 : (g.kind == 5) = false := by rw [hk]; rfl
    clear hk HG
    go_enter Tryz.func145, Tryz.ntmps145
    go_wp2
    go_ret
    exact ⟨rb HE.out.symm, B0.out⟩
  rcases Decidable.em (g.kind = 2) with hk | hk
  · have HE := Sec.mk (goalOkI_2 hk HG.out)
    have k1 : (g.kind == 1) = false := by rw [hk]; rfl
    have k2 : (g.kind == 2) = true := by rw [hk]; rfl
    have k3 : (g.kind == 3) = false := by rw [hk]; rfl
    have k4 : (g.kind == 4) = false := by rw [hk]; rfl
    have k5 : (g.kind == 5) = false := by rw [hk]; rfl
    clear hk HG
    cases a with
    | false =>
      go_enter Tryz.func145, Tryz.ntmps145
      go_wp2_with (first | (clear T0; go_at_call 144; have T1 : Sec True := ⟨trivial⟩; refine (l3Term_c _ g.a ok _ (Kd.V_below H1.out B0.out (by decide))).mono ?_; rw [HA.out]; rintro e w1 ⟨rfl, hb⟩; have B1 := Sec.mk (bel B0.out hb); have P1 := Sec.mk ((hb.block _ (Array.getElem?_eq_some_iff.1 P0.out).1).trans P0.out); have X := (box_at P1.out).2.1; have y1 := X 1 _ rfl; have y2 := X 2 _ rfl; have y3 := X 3 _ rfl; clear hb X))
      go_ret
      exact ⟨rb HE.out.symm, B1.out⟩
    | true =>
      cases b with
      | false =>
        go_enter Tryz.func145, Tryz.ntmps145
        go_wp2_with (first | (clear T1; go_at_call 144; have T2 : Sec True := ⟨trivial⟩; refine (l3Term_c _ g.b ok _ (Kd.V_below H2.out B1.out (by decide))).mono ?_; rw [HB.out]; rintro e w2 ⟨rfl, hb⟩; have B2 := Sec.mk (bel B1.out hb); have P2 := Sec.mk ((hb.block _ (Array.getElem?_eq_some_iff.1 P1.out).1).trans P1.out); have X := (box_at P2.out).2.1; have y1 := X 1 _ rfl; have y2 := X 2 _ rfl; have y3 := X 3 _ rfl; clear hb X) | (clear T0; go_at_call 144; have T1 : Sec True := ⟨trivial⟩; refine (l3Term_c _ g.a ok _ (Kd.V_below H1.out B0.out (by decide))).mono ?_; rw [HA.out]; rintro e w1 ⟨rfl, hb⟩; have B1 := Sec.mk (bel B0.out hb); have P1 := Sec.mk ((hb.block _ (Array.getElem?_eq_some_iff.1 P0.out).1).trans P0.out); have X := (box_at P1.out).2.1; have y1 := X 1 _ rfl; have y2 := X 2 _ rfl; have y3 := X 3 _ rfl; clear hb X))
        go_ret
        exact ⟨rb HE.out.symm, B2.out⟩
      | true =>
        go_enter Tryz.func145, Tryz.ntmps145
        go_wp2_with (first | (clear T1; go_at_call 144; have T2 : Sec True := ⟨trivial⟩; refine (l3Term_c _ g.b ok _ (Kd.V_below H2.out B1.out (by decide))).mono ?_; rw [HB.out]; rintro e w2 ⟨rfl, hb⟩; have B2 := Sec.mk (bel B1.out hb); have P2 := Sec.mk ((hb.block _ (Array.getElem?_eq_some_iff.1 P1.out).1).trans P1.out); have X := (box_at P2.out).2.1; have y1 := X 1 _ rfl; have y2 := X 2 _ rfl; have y3 := X 3 _ rfl; clear hb X) | (clear T0; go_at_call 144; have T1 : Sec True := ⟨trivial⟩; refine (l3Term_c _ g.a ok _ (Kd.V_below H1.out B0.out (by decide))).mono ?_; rw [HA.out]; rintro e w1 ⟨rfl, hb⟩; have B1 := Sec.mk (bel B0.out hb); have P1 := Sec.mk ((hb.block _ (Array.getElem?_eq_some_iff.1 P0.out).1).trans P0.out); have X := (box_at P1.out).2.1; have y1 := X 1 _ rfl; have y2 := X 2 _ rfl; have y3 := X 3 _ rfl; clear hb X))
        go_ret
        exact ⟨rb HE.out.symm, B2.out⟩
  rcases Decidable.em (g.kind = 4) with hk | hk
  · have HE := Sec.mk (goalOkI_4 hk HG.out)
    have k1 : (g.kind == 1) = false := by rw [hk]; rfl
    have k2 : (g.kind == 2) = false := by rw [hk]; rfl
    have k3 : (g.kind == 3) = false := by rw [hk]; rfl
    have k4 : (g.kind == 4) = true := by rw [hk]; rfl
    have k5 : (g.kind == 5) = false := by rw [hk]; rfl
    clear hk HG
    cases a with
    | false =>
      go_enter Tryz.func145, Tryz.ntmps145
      go_wp2_with (first | (clear T0; go_at_call 144; have T1 : Sec True := ⟨trivial⟩; refine (l3Term_c _ g.a ok _ (Kd.V_below H1.out B0.out (by decide))).mono ?_; rw [HA.out]; rintro e w1 ⟨rfl, hb⟩; have B1 := Sec.mk (bel B0.out hb); have P1 := Sec.mk ((hb.block _ (Array.getElem?_eq_some_iff.1 P0.out).1).trans P0.out); have X := (box_at P1.out).2.1; have y1 := X 1 _ rfl; have y2 := X 2 _ rfl; have y3 := X 3 _ rfl; clear hb X))
      go_ret
      exact ⟨rb HE.out.symm, B1.out⟩
    | true =>
      cases b with
      | false =>
        go_enter Tryz.func145, Tryz.ntmps145
        go_wp2_with (first | (clear T1; go_at_call 144; have T2 : Sec True := ⟨trivial⟩; refine (l3Term_c _ g.b ok _ (Kd.V_below H2.out B1.out (by decide))).mono ?_; rw [HB.out]; rintro e w2 ⟨rfl, hb⟩; have B2 := Sec.mk (bel B1.out hb); have P2 := Sec.mk ((hb.block _ (Array.getElem?_eq_some_iff.1 P1.out).1).trans P1.out); have X := (box_at P2.out).2.1; have y1 := X 1 _ rfl; have y2 := X 2 _ rfl; have y3 := X 3 _ rfl; clear hb X) | (clear T0; go_at_call 144; have T1 : Sec True := ⟨trivial⟩; refine (l3Term_c _ g.a ok _ (Kd.V_below H1.out B0.out (by decide))).mono ?_; rw [HA.out]; rintro e w1 ⟨rfl, hb⟩; have B1 := Sec.mk (bel B0.out hb); have P1 := Sec.mk ((hb.block _ (Array.getElem?_eq_some_iff.1 P0.out).1).trans P0.out); have X := (box_at P1.out).2.1; have y1 := X 1 _ rfl; have y2 := X 2 _ rfl; have y3 := X 3 _ rfl; clear hb X))
        go_ret
        exact ⟨rb HE.out.symm, B2.out⟩
      | true =>
        go_enter Tryz.func145, Tryz.ntmps145
        go_wp2_with (first | (clear T1; go_at_call 144; have T2 : Sec True := ⟨trivial⟩; refine (l3Term_c _ g.b ok _ (Kd.V_below H2.out B1.out (by decide))).mono ?_; rw [HB.out]; rintro e w2 ⟨rfl, hb⟩; have B2 := Sec.mk (bel B1.out hb); have P2 := Sec.mk ((hb.block _ (Array.getElem?_eq_some_iff.1 P1.out).1).trans P1.out); have X := (box_at P2.out).2.1; have y1 := X 1 _ rfl; have y2 := X 2 _ rfl; have y3 := X 3 _ rfl; clear hb X) | (clear T0; go_at_call 144; have T1 : Sec True := ⟨trivial⟩; refine (l3Term_c _ g.a ok _ (Kd.V_below H1.out B0.out (by decide))).mono ?_; rw [HA.out]; rintro e w1 ⟨rfl, hb⟩; have B1 := Sec.mk (bel B0.out hb); have P1 := Sec.mk ((hb.block _ (Array.getElem?_eq_some_iff.1 P0.out).1).trans P0.out); have X := (box_at P1.out).2.1; have y1 := X 1 _ rfl; have y2 := X 2 _ rfl; have y3 := X 3 _ rfl; clear hb X))
        go_ret
        exact ⟨rb HE.out.symm, B2.out⟩
  rcases Decidable.em (g.kind = 5) with hk | hk
  · have HE := Sec.mk (goalOkI_5 hk HG.out)
    have k1 : (g.kind == 1) = false := by rw [hk]; rfl
    have k2 : (g.kind == 2) = false := by rw [hk]; rfl
    have k3 : (g.kind == 3) = false := by rw [hk]; rfl
    have k4 : (g.kind == 4) = false := by rw [hk]; rfl
    have k5 : (g.kind == 5) = true := by rw [hk]; rfl
    clear hk HG
    cases a with
    | false =>
      go_enter Tryz.func145, Tryz.ntmps145
      go_wp2_with (first | (clear T0; go_at_call 144; have T1 : Sec True := ⟨trivial⟩; refine (l3Term_c _ g.a ok _ (Kd.V_below H1.out B0.out (by decide))).mono ?_; rw [HA.out]; rintro e w1 ⟨rfl, hb⟩; have B1 := Sec.mk (bel B0.out hb); have P1 := Sec.mk ((hb.block _ (Array.getElem?_eq_some_iff.1 P0.out).1).trans P0.out); have X := (box_at P1.out).2.1; have y1 := X 1 _ rfl; have y2 := X 2 _ rfl; have y3 := X 3 _ rfl; clear hb X))
      go_ret
      exact ⟨rb HE.out.symm, B1.out⟩
    | true =>
      cases b with
      | false =>
        go_enter Tryz.func145, Tryz.ntmps145
        go_wp2_with (first | (clear T1; go_at_call 144; have T2 : Sec True := ⟨trivial⟩; refine (l3Term_c _ g.b ok _ (Kd.V_below H2.out B1.out (by decide))).mono ?_; rw [HB.out]; rintro e w2 ⟨rfl, hb⟩; have B2 := Sec.mk (bel B1.out hb); have P2 := Sec.mk ((hb.block _ (Array.getElem?_eq_some_iff.1 P1.out).1).trans P1.out); have X := (box_at P2.out).2.1; have y1 := X 1 _ rfl; have y2 := X 2 _ rfl; have y3 := X 3 _ rfl; clear hb X) | (clear T0; go_at_call 144; have T1 : Sec True := ⟨trivial⟩; refine (l3Term_c _ g.a ok _ (Kd.V_below H1.out B0.out (by decide))).mono ?_; rw [HA.out]; rintro e w1 ⟨rfl, hb⟩; have B1 := Sec.mk (bel B0.out hb); have P1 := Sec.mk ((hb.block _ (Array.getElem?_eq_some_iff.1 P0.out).1).trans P0.out); have X := (box_at P1.out).2.1; have y1 := X 1 _ rfl; have y2 := X 2 _ rfl; have y3 := X 3 _ rfl; clear hb X))
        go_ret
        exact ⟨rb HE.out.symm, B2.out⟩
      | true =>
        go_enter Tryz.func145, Tryz.ntmps145
        go_wp2_with (first | (clear T2; go_at_call 144; have T3 : Sec True := ⟨trivial⟩; refine (l3Term_c _ g.c ok _ (Kd.V_below H3.out B2.out (by decide))).mono ?_; rw [HC.out]; rintro e w3 ⟨rfl, hb⟩; have B3 := Sec.mk (bel B2.out hb); have P3 := Sec.mk ((hb.block _ (Array.getElem?_eq_some_iff.1 P2.out).1).trans P2.out); have X := (box_at P3.out).2.1; have y1 := X 1 _ rfl; have y2 := X 2 _ rfl; have y3 := X 3 _ rfl; clear hb X) | (clear T1; go_at_call 144; have T2 : Sec True := ⟨trivial⟩; refine (l3Term_c _ g.b ok _ (Kd.V_below H2.out B1.out (by decide))).mono ?_; rw [HB.out]; rintro e w2 ⟨rfl, hb⟩; have B2 := Sec.mk (bel B1.out hb); have P2 := Sec.mk ((hb.block _ (Array.getElem?_eq_some_iff.1 P1.out).1).trans P1.out); have X := (box_at P2.out).2.1; have y1 := X 1 _ rfl; have y2 := X 2 _ rfl; have y3 := X 3 _ rfl; clear hb X) | (clear T0; go_at_call 144; have T1 : Sec True := ⟨trivial⟩; refine (l3Term_c _ g.a ok _ (Kd.V_below H1.out B0.out (by decide))).mono ?_; rw [HA.out]; rintro e w1 ⟨rfl, hb⟩; have B1 := Sec.mk (bel B0.out hb); have P1 := Sec.mk ((hb.block _ (Array.getElem?_eq_some_iff.1 P0.out).1).trans P0.out); have X := (box_at P1.out).2.1; have y1 := X 1 _ rfl; have y2 := X 2 _ rfl; have y3 := X 3 _ rfl; clear hb X))
        go_ret
        exact ⟨rb HE.out.symm, B3.out⟩
  have HE := Sec.mk (goalOkI_0 (by assumption) (by assumption) (by assumption) (by assumption) (by assumption) HG.out)
  clear HG
  have k1 : (g.kind == 1) = false := beq_eq_false_iff_ne.2 (by assumption)
  have k2 : (g.kind == 2) = false := beq_eq_false_iff_ne.2 (by assumption)
  have k3 : (g.kind == 3) = false := beq_eq_false_iff_ne.2 (by assumption)
  have k4 : (g.kind == 4) = false := beq_eq_false_iff_ne.2 (by assumption)
  have k5 : (g.kind == 5) = false := beq_eq_false_iff_ne.2 (by assumption)
  go_enter Tryz.func145, Tryz.ntmps145
  go_wp2
  go_ret
  exact ⟨rb HE.out.symm, B0.out⟩
theorem l3Place_c (p : Place) (w : World) :
    Calls Tryz.prog 60 #[.agg #[.string p.name, .int .i64 p.n, .int .i64 p.node]] w fun e w' => e = .returned (.bool (placeOk p)) ∧ Below w.heap.size w w' := by
  have B0 := Sec.mk (belA (Below.refl w.heap.size w) (.cells #[.string p.name, .int .i64 p.n, .int .i64 p.node] 116))
  have P0 := heap_alloc_new w (.cells #[.string p.name, .int .i64 p.n, .int .i64 p.node] 116)
  have X := (box_at P0).2.1
  have y0 := X 0 _ rfl
  have y1 := X 1 _ rfl
  have y2 := X 2 _ rfl
  clear X P0
  have HE : Sec (placeOk p = (nameOk p.name && inB p.n 0 3 && inB p.node 1 2)) := ⟨rfl⟩
  cases h1 : nameOk p.name with
  | false =>
    rw [h1] at HE
    have H1 := Sec.mk h1
    clear h1
    go_enter Tryz.func60, Tryz.ntmps60
    go_wp2_with (go_at_call 128; refine (l1Name_c _ _).mono ?_; rw [H1.out]; rintro e w1 ⟨rfl, rfl⟩)
    go_ret
    exact ⟨rb HE.out.symm, B0.out⟩
  | true =>
    cases h2 : inB p.n 0 3 with
    | false =>
      rw [h1, h2] at HE
      have H1 := Sec.mk h1
      have H2 := Sec.mk h2
      clear h1 h2
      go_enter Tryz.func60, Tryz.ntmps60
      go_wp2_with (first | (go_at_call 128; refine (l1Name_c _ _).mono ?_; rw [H1.out]; rintro e w1 ⟨rfl, rfl⟩) | (go_at_call 127; refine (l1In_c _ _ _ _).mono ?_; rw [H2.out]; rintro e w1 ⟨rfl, rfl⟩))
      go_ret
      exact ⟨rb HE.out.symm, B0.out⟩
    | true =>
      rw [h1, h2] at HE
      have H1 := Sec.mk h1
      have H2 := Sec.mk h2
      clear h1 h2
      go_enter Tryz.func60, Tryz.ntmps60
      go_wp2_with (first | (go_at_call 128; refine (l1Name_c _ _).mono ?_; rw [H1.out]; rintro e w1 ⟨rfl, rfl⟩) | (go_at_call 127; refine (l1In_c _ _ _ _).mono ?_; rw [H2.out]; rintro e w1 ⟨rfl, rfl⟩) | (go_at_call 127; refine (l1In_c _ _ _ _).mono ?_; rintro e w1 ⟨rfl, rfl⟩))
      go_ret
      exact ⟨rb HE.out.symm, B0.out⟩
end
section
open Go.RowKit
set_option linter.unusedVariables false
set_option maxRecDepth 100000
theorem goal_at {w : World} {ok : Nat → Prop} {A : Option Addr} {xs : List Goal} (h : kGoal.C w ok A xs) (i : Nat) (hi : i < xs.length) : ∃ b off E1 m1 E2 m2 E3 m3, A = some ⟨b, off, none⟩ ∧ ok b ∧
    w.cell? ⟨b, off + i * 4, none⟩ = some (.int .i64 xs[i].kind) ∧ w.cell? ⟨b, off + i * 4 + 1, none⟩ = some (.slice E1 xs[i].a.length m1) ∧ w.cell? ⟨b, off + i * 4 + 2, none⟩ = some (.slice E2 xs[i].b.length m2) ∧ w.cell? ⟨b, off + i * 4 + 3, none⟩ = some (.slice E3 xs[i].c.length m3) ∧
    kGoal.K w ok xs[i] [.int .i64 xs[i].kind, .slice E1 xs[i].a.length m1, .slice E2 xs[i].b.length m2, .slice E3 xs[i].c.length m3] := by
  obtain ⟨b, off, cs, hA, hb, hK, hc⟩ := Kd.C_get h (List.getElem?_eq_getElem hi)
  obtain ⟨v1, v2, v3, rfl, ⟨E1, m1, rfl, -⟩, ⟨E2, m2, rfl, -⟩, ⟨E3, m3, rfl, -⟩⟩ := kGoal_K hK
  exact ⟨b, off, E1, m1, E2, m2, E3, m3, hA, hb, hc 0 _ rfl, hc 1 _ rfl, hc 2 _ rfl, hc 3 _ rfl, hK⟩
theorem clauseOk_1 {c : Clause} (h : termIn c.head = false) : clauseOk c = false := by simp [clauseOk, h]
theorem clauseOk_2 {c : Clause} (h : headFun c.head = false) : clauseOk c = false := by simp [clauseOk, h]
theorem clauseOk_3 {c : Clause} (h : ¬ c.body.length ≤ 4) : clauseOk c = false := by simp [clauseOk, h]
theorem clauseOk_4 {c : Clause} (h1 : termIn c.head = true) (h2 : headFun c.head = true) (h3 : c.body.length ≤ 4) : clauseOk c = c.body.all goalOk := by simp [clauseOk, h1, h2, h3]
set_option maxHeartbeats 2000000 in
theorem l3Clause_c (c : Clause) (cs : List Value) (ok : Nat → Prop) (w : World) (hK : kClause.K w ok c cs) :
    Calls Tryz.prog 59 #[.agg cs.toArray] w fun e w' => e = .returned (.bool (clauseOk c)) ∧ Below w.heap.size w w' := by
  obtain ⟨v0, v1, rfl, h0, h1⟩ := kClause_K hK
  have H0 := Sec.mk h0
  obtain ⟨E0, m0, rfl, -, -, l0, -⟩ := h0
  obtain ⟨E1, m1, rfl, -, -, l1, hC, -⟩ := h1
  have B0 := Sec.mk (belA (Below.refl w.heap.size w) (.cells #[.slice E0 c.head.length m0, .slice E1 c.body.length m1] 113))
  have P0 := Sec.mk (heap_alloc_new w (.cells #[.slice E0 c.head.length m0, .slice E1 c.body.length m1] 113))
  have HC := Sec.mk hC
  have T0 : Sec True := ⟨trivial⟩
  clear hK hC
  have X := (box_at P0.out).2.1
  have y0 := X 0 _ rfl
  have y1 := X 1 _ rfl
  clear X
  cases ht : termIn c.head with
  | false =>
    have HE : Sec (clauseOk c = false) := ⟨clauseOk_1 ht⟩
    have H1 := Sec.mk ht
    clear ht
    go_enter Tryz.func59, Tryz.ntmps59
    go_wp2_with (go_at_call 144; refine (l3Term_c _ c.head ok _ (Kd.V_below H0.out B0.out (by decide))).mono ?_; rw [H1.out]; rintro e w1 ⟨rfl, hb⟩; have B1 := Sec.mk (bel B0.out hb); clear hb)
    go_ret
    exact ⟨rb HE.out.symm, B1.out⟩
  | true =>
    have H1 := Sec.mk ht
    cases hf : headFun c.head with
    | false =>
      have HE : Sec (clauseOk c = false) := ⟨clauseOk_2 hf⟩
      have H2 := Sec.mk hf
      clear ht hf
      go_enter Tryz.func59, Tryz.ntmps59
      go_wp2_with (first | (go_at_call 144; refine (l3Term_c _ c.head ok _ (Kd.V_below H0.out B0.out (by decide))).mono ?_; rw [H1.out]; rintro e w1 ⟨rfl, hb⟩; have B1 := Sec.mk (bel B0.out hb); have P1 := Sec.mk ((hb.block _ (Array.getElem?_eq_some_iff.1 P0.out).1).trans P0.out); have X := (box_at P1.out).2.1; have z0 := X 0 _ rfl; have z1 := X 1 _ rfl; clear hb X) | (go_at_call 124; refine (l3Call_c _ c.head ok _ (Kd.V_below H0.out B1.out (by decide))).mono ?_; rw [H2.out]; rintro e w2 ⟨rfl, hb⟩; have B2 := Sec.mk (bel B1.out hb); clear hb))
      go_ret
      exact ⟨rb HE.out.symm, B2.out⟩
    | true =>
      have H2 := Sec.mk hf
      by_cases hl : c.body.length ≤ 4
      · have HL : Sec (clauseOk c = c.body.all goalOk) := ⟨clauseOk_4 ht hf hl⟩
        have q1 : decide ((c.body.length : Int) > 4) = false := decide_eq_false (by omega)
        clear ht hf
        go_enter Tryz.func59, Tryz.ntmps59
        go_wp2_with (first | (go_at_call 144; refine (l3Term_c _ c.head ok _ (Kd.V_below H0.out B0.out (by decide))).mono ?_; rw [H1.out]; rintro e w1 ⟨rfl, hb⟩; have B1 := Sec.mk (bel B0.out hb); have P1 := Sec.mk ((hb.block _ (Array.getElem?_eq_some_iff.1 P0.out).1).trans P0.out); have X := (box_at P1.out).2.1; have z0 := X 0 _ rfl; have z1 := X 1 _ rfl; clear hb X) | (go_at_call 124; refine (l3Call_c _ c.head ok _ (Kd.V_below H0.out B1.out (by decide))).mono ?_; rw [H2.out]; rintro e w2 ⟨rfl, hb⟩; have B2 := Sec.mk (bel B1.out hb); have P2 := Sec.mk ((hb.block _ (Array.getElem?_eq_some_iff.1 P1.out).1).trans P1.out); have X := (box_at P2.out).2.1; have s1 := X 1 _ rfl; clear hb X))
        go_loopw [3] (fun i wr => ∃ k : Nat, k ≤ c.body.length ∧ i = .int .i64 k ∧ Sec ((c.body.take k).all goalOk = true) ∧ Sec (Below w.heap.size w wr ∧ wr.heap[w.heap.size]? = some (.cells #[.slice E0 c.head.length m0, .slice E1 c.body.length m1] 113 (0, 0)))) (fun i _ => c.body.length - (intOf i).toNat)
        case atStart => exact ⟨0, Nat.zero_le _, rfl, ⟨by simp⟩, ⟨B2.out, P2.out⟩⟩
        case round =>
          obtain ⟨k, hk, rfl, hT, hb⟩ := hrel
          have X := (box_at hb.out.2).2.1
          have u1 := X 1 _ rfl
          clear X
          by_cases hlt : k < c.body.length
          · obtain ⟨b, off, F1, n1, F2, n2, F3, n3, rfl, _, x0, x1, x2, x3, hKg⟩ := goal_at (Kd.C_below HC.out hb.out.1 (by decide)) k hlt
            have hTk : Sec ((c.body.take (k + 1)).all goalOk = goalOk c.body[k]) := ⟨by rw [take_all goalOk c.body k hlt, hT.out, Bool.true_and]⟩
            have hAll : Sec (goalOk c.body[k] = false → c.body.all goalOk = false) := ⟨fun h => List.all_eq_false.2 ⟨c.body[k], List.getElem_mem hlt, by rw [h]; decide⟩⟩
            have HG := Sec.mk (specGoalOk_c c.body[k] _ ok wr hKg)
            generalize c.body[k] = g at *
            clear hKg
            have i0 : (0 : Int) ≤ (k : Int) := by omega
            have i1 : (k : Int) < (c.body.length : Int) := by omega
            cases hg : goalOk g with
            | false =>
              have HE : Sec (clauseOk c = false) := ⟨by rw [HL.out]; exact hAll.out hg⟩
              rw [hg] at HG
              clear hg
              go_wp2_with (go_at_call 145; refine HG.out.mono ?_; rintro e w5 ⟨rfl, hb5⟩; have B5 := Sec.mk (bel hb.out.1 hb5); clear hb5)
              go_ret
              exact ⟨rb HE.out.symm, B5.out⟩
            | true =>
              have HE : Sec ((c.body.take (k + 1)).all goalOk = true) := ⟨by rw [hTk.out, hg]⟩
              rw [hg] at HG
              clear hg
              go_wp2_with (go_at_call 145; refine HG.out.mono ?_; rintro e w5 ⟨rfl, hb5⟩; have B5 := Sec.mk (bel hb.out.1 hb5); have P5 := Sec.mk ((hb5.block _ (Array.getElem?_eq_some_iff.1 hb.out.2).1).trans hb.out.2); clear hb5)
              go_roundw
              case rel => exact ⟨k + 1, by omega, by go_num, HE, ⟨B5.out, P5.out⟩⟩
              case measure => simp [intOf]; omega
          · have HE : Sec (clauseOk c = true) := ⟨by rw [HL.out]; have := hT.out; rwa [List.take_of_length_le (by omega)] at this⟩
            go_wp2
            go_ret
            exact ⟨rb HE.out.symm, hb.out.1⟩
      · have HE : Sec (clauseOk c = false) := ⟨clauseOk_3 hl⟩
        have q1 : decide ((c.body.length : Int) > 4) = true := decide_eq_true (by omega)
        clear ht hf
        go_enter Tryz.func59, Tryz.ntmps59
        go_wp2_with (first | (go_at_call 144; refine (l3Term_c _ c.head ok _ (Kd.V_below H0.out B0.out (by decide))).mono ?_; rw [H1.out]; rintro e w1 ⟨rfl, hb⟩; have B1 := Sec.mk (bel B0.out hb); have P1 := Sec.mk ((hb.block _ (Array.getElem?_eq_some_iff.1 P0.out).1).trans P0.out); have X := (box_at P1.out).2.1; have z0 := X 0 _ rfl; have z1 := X 1 _ rfl; clear hb X) | (go_at_call 124; refine (l3Call_c _ c.head ok _ (Kd.V_below H0.out B1.out (by decide))).mono ?_; rw [H2.out]; rintro e w2 ⟨rfl, hb⟩; have B2 := Sec.mk (bel B1.out hb); have P2 := Sec.mk ((hb.block _ (Array.getElem?_eq_some_iff.1 P1.out).1).trans P1.out); have X := (box_at P2.out).2.1; have s1 := X 1 _ rfl; clear hb X))
        go_ret
        exact ⟨rb HE.out.symm, B2.out⟩
end
section
open Go.RowKit
set_option linter.unusedVariables false
set_option maxRecDepth 100000
theorem belDN {n q : Nat} {w W : World} (h : Below n w W) : Below n w (W.drewN q) := ⟨h.os, h.tape, h.output, h.size, h.block⟩
theorem clause_at {w : World} {ok : Nat → Prop} {A : Option Addr} {xs : List Clause} (h : kClause.C w ok A xs) (i : Nat) (hi : i < xs.length) : ∃ b off E1 m1 E2 m2, A = some ⟨b, off, none⟩ ∧ ok b ∧
    w.cell? ⟨b, off + i * 2, none⟩ = some (.slice E1 xs[i].head.length m1) ∧ w.cell? ⟨b, off + i * 2 + 1, none⟩ = some (.slice E2 xs[i].body.length m2) ∧
    kClause.K w ok xs[i] [.slice E1 xs[i].head.length m1, .slice E2 xs[i].body.length m2] := by
  obtain ⟨b, off, cs, hA, hb, hK, hc⟩ := Kd.C_get h (List.getElem?_eq_getElem hi)
  obtain ⟨v1, v2, rfl, ⟨E1, m1, rfl, -⟩, ⟨E2, m2, rfl, -⟩⟩ := kClause_K hK
  exact ⟨b, off, E1, m1, E2, m2, hA, hb, hc 0 _ rfl, hc 1 _ rfl, hK⟩
theorem place_at' {w : World} {ok : Nat → Prop} {A : Option Addr} {xs : List Place} (h : kPlace.C w ok A xs) (i : Nat) (hi : i < xs.length) : ∃ b off, A = some ⟨b, off, none⟩ ∧ ok b ∧
    w.cell? ⟨b, off + i * 3, none⟩ = some (.string xs[i].name) ∧ w.cell? ⟨b, off + i * 3 + 1, none⟩ = some (.int .i64 xs[i].n) ∧ w.cell? ⟨b, off + i * 3 + 2, none⟩ = some (.int .i64 xs[i].node) ∧ xs[i].name.size ≤ 1073741824 := by
  obtain ⟨b, off, cs, hA, hb, hK, hc⟩ := Kd.C_get h (List.getElem?_eq_getElem hi)
  obtain ⟨rfl, hn⟩ := kPlace_K hK
  exact ⟨b, off, hA, hb, hc 0 _ rfl, hc 1 _ rfl, hc 2 _ rfl, hn⟩
set_option maxHeartbeats 4000000 in
theorem specPrgOk_c (p : Prog) (cs : List Value) (ok : Nat → Prop) (w : World) (hK : kProg.K w ok p cs) (hok : ∀ k, ok k → k < w.heap.size) :
    Calls Tryz.prog 17 #[.agg cs.toArray] w fun e w' => e = .returned (.bool (prgOk p)) ∧ Below w.heap.size w w' := by
  obtain ⟨v0, v1, rfl, h0, h1⟩ := kProg_K hK
  obtain ⟨E0, m0, rfl, -, -, l0, hC0, -⟩ := h0
  obtain ⟨E1, m1, rfl, -, -, l1, hC1, -⟩ := h1
  have B0 := Sec.mk (belA (Below.refl w.heap.size w) (.cells #[.slice E0 p.clauses.length m0, .slice E1 p.places.length m1] 28))
  have P0 := Sec.mk (heap_alloc_new w (.cells #[.slice E0 p.clauses.length m0, .slice E1 p.places.length m1] 28))
  have HC0 := Sec.mk hC0
  have HC1 := Sec.mk hC1
  have HOK := Sec.mk hok
  clear hK hC0 hC1 hok
  have X := (box_at P0.out).2.1
  have y0 := X 0 _ rfl
  have y1 := X 1 _ rfl
  clear X
  by_cases hl0 : p.clauses.length ≤ 12
  · have q0 : decide ((p.clauses.length : Int) > 12) = false := decide_eq_false (by omega)
    by_cases hl1 : p.places.length ≤ 6
    · have q1 : decide ((p.places.length : Int) > 6) = false := decide_eq_false (by omega)
      go_enter Tryz.func17, Tryz.ntmps17
      go_wp2
      go_loopw [3] (fun i wr => ∃ k : Nat, k ≤ p.clauses.length ∧ i = .int .i64 k ∧ Sec ((p.clauses.take k).all clauseOk = true) ∧ Sec (Below w.heap.size w wr ∧ wr.heap[w.heap.size]? = some (.cells #[.slice E0 p.clauses.length m0, .slice E1 p.places.length m1] 28 (0, 0)))) (fun i _ => p.clauses.length - (intOf i).toNat)
      case atStart => exact ⟨0, Nat.zero_le _, rfl, ⟨by simp⟩, ⟨B0.out, P0.out⟩⟩
      case round =>
        obtain ⟨k, hk, rfl, hT, hb⟩ := hrel
        have X := (box_at hb.out.2).2.1
        have u0 := X 0 _ rfl
        have u1 := X 1 _ rfl
        clear X
        by_cases hlt : k < p.clauses.length
        · obtain ⟨b, off, F1, n1, F2, n2, rfl, _, x0, x1, hKg⟩ := clause_at (Kd.C_below HC0.out hb.out.1 (by decide)) k hlt
          have hTk : Sec ((p.clauses.take (k + 1)).all clauseOk = clauseOk p.clauses[k]) := ⟨by rw [take_all clauseOk p.clauses k hlt, hT.out, Bool.true_and]⟩
          have hAll : Sec (clauseOk p.clauses[k] = false → p.clauses.all clauseOk = false) := ⟨fun h => List.all_eq_false.2 ⟨p.clauses[k], List.getElem_mem hlt, by rw [h]; decide⟩⟩
          have HG := Sec.mk (l3Clause_c p.clauses[k] _ ok wr hKg)
          generalize p.clauses[k] = g at *
          clear hKg
          have i0 : (0 : Int) ≤ (k : Int) := by omega
          have i1 : (k : Int) < (p.clauses.length : Int) := by omega
          cases hg : clauseOk g with
          | false =>
            have HE : Sec (prgOk p = false) := ⟨prgOk_3 (hAll.out hg)⟩
            rw [hg] at HG
            clear hg
            go_wp2_with (go_at_call 59; refine HG.out.mono ?_; rintro e w5 ⟨rfl, hb5⟩; have B5 := Sec.mk (bel hb.out.1 hb5); clear hb5)
            go_ret
            exact ⟨rb HE.out.symm, B5.out⟩
          | true =>
            have HE : Sec ((p.clauses.take (k + 1)).all clauseOk = true) := ⟨by rw [hTk.out, hg]⟩
            rw [hg] at HG
            clear hg
            go_wp2_with (go_at_call 59; refine HG.out.mono ?_; rintro e w5 ⟨rfl, hb5⟩; have B5 := Sec.mk (bel hb.out.1 hb5); have P5 := Sec.mk ((hb5.block _ (Array.getElem?_eq_some_iff.1 hb.out.2).1).trans hb.out.2); clear hb5)
            go_roundw
            case rel => exact ⟨k + 1, by omega, by go_num, HE, ⟨B5.out, P5.out⟩⟩
            case measure => simp [intOf]; omega
        · have HCL : Sec (p.clauses.all clauseOk = true) := ⟨by have := hT.out; rwa [List.take_of_length_le (by omega)] at this⟩
          clear hT
          go_wp2
          go_loopw [4] (fun i ws => ∃ k : Nat, k ≤ p.places.length ∧ i = .int .i64 k ∧ Sec ((List.range k).all (newAt p.places) = true) ∧ Sec (Below w.heap.size w ws ∧ ws.heap[w.heap.size]? = some (.cells #[.slice E0 p.clauses.length m0, .slice E1 p.places.length m1] 28 (0, 0)))) (fun i _ => p.places.length - (intOf i).toNat)
          case atStart => exact ⟨0, Nat.zero_le _, rfl, ⟨by simp⟩, ⟨hb.out.1, hb.out.2⟩⟩
          case round =>
            clear u0 u1
            obtain ⟨m, hm, rfl, hT, hb'⟩ := hrel
            have X := (box_at hb'.out.2).2.1
            have u0 := X 0 _ rfl
            have u1 := X 1 _ rfl
            clear X
            by_cases hlt2 : m < p.places.length
            · obtain ⟨b, off, rfl, _, x0, x1, x2, hsz⟩ := place_at' (Kd.C_below HC1.out hb'.out.1 (by decide)) m hlt2
              have HN := Sec.mk (newAt_at hlt2)
              have HB := Sec.mk (fun h => places_no hlt2 h)
              have HR := Sec.mk (range_all (p := newAt p.places) m)
              have i0 : (0 : Int) ≤ (m : Int) := by omega
              have i1 : (m : Int) < (p.places.length : Int) := by omega
              have HX : Sec (p.places[m]? = some p.places[m]) := ⟨List.getElem?_eq_getElem hlt2⟩
              generalize p.places[m] = x at *
              have HPL := Sec.mk (l3Place_c x wr)
              cases hpl : placeOk x with
              | false =>
                have HE : Sec (prgOk p = false) := ⟨prgOk_4 (HB.out (by rw [HN.out, hpl]; rfl))⟩
                rw [hpl] at HPL
                clear hpl
                go_wp2_with (go_at_call 60; refine HPL.out.mono ?_; rintro e w5 ⟨rfl, hb5⟩; have B5 := Sec.mk (bel hb'.out.1 hb5); clear hb5)
                go_ret
                exact ⟨rb HE.out.symm, B5.out⟩
              | true =>
                have HN2 : Sec (newAt p.places m = (p.places.take m).all (fun q => !samePlace q x)) := ⟨by rw [HN.out, hpl, Bool.true_and]⟩
                rw [hpl] at HPL
                clear hpl
                go_wp2_with (go_at_call 60; refine HPL.out.mono ?_; rintro e w5 ⟨rfl, hb5⟩; have B5 := Sec.mk (bel hb'.out.1 hb5); have P5 := Sec.mk ((hb5.block _ (Array.getElem?_eq_some_iff.1 hb'.out.2).1).trans hb'.out.2); clear hb5)
                go_loopw [5] (fun i wt => ∃ j : Nat, j ≤ m ∧ i = .int .i64 j ∧ Sec ((p.places.take j).all (fun q => !samePlace q x) = true) ∧ Sec (Below w.heap.size w wt ∧ wt.heap[w.heap.size]? = some (.cells #[.slice E0 p.clauses.length m0, .slice (some ⟨b, off, none⟩) p.places.length m1] 28 (0, 0)))) (fun i _ => m - (intOf i).toNat)
                case atStart => exact ⟨0, Nat.zero_le _, rfl, ⟨by simp⟩, ⟨B5.out, P5.out⟩⟩
                case round =>
                  clear u0 u1 x0 x1 x2
                  obtain ⟨j, hj, rfl, hT2, hb2⟩ := hrel
                  have X := (box_at hb2.out.2).2.1
                  have u0 := X 0 _ rfl
                  have u1 := X 1 _ rfl
                  clear X
                  by_cases hlt3 : j < m
                  · obtain ⟨b3, off3, e3, _, x0, x1, x2, -⟩ := place_at' (Kd.C_below HC1.out hb2.out.1 (by decide)) m hlt2
                    obtain ⟨b4, off4, e4, _, z0, z1, z2, -⟩ := place_at' (Kd.C_below HC1.out hb2.out.1 (by decide)) j (by omega)
                    cases e3
                    cases e4
                    have ex : p.places[m] = x := by have := HX.out; rw [List.getElem?_eq_getElem hlt2] at this; exact Option.some.inj this
                    rw [ex] at x0 x1 x2
                    have hTj : Sec ((p.places.take (j + 1)).all (fun q => !samePlace q x) = !samePlace p.places[j] x) := ⟨by rw [take_all _ p.places j (by omega), hT2.out, Bool.true_and]⟩
                    have hAll : Sec (samePlace p.places[j] x = true → newAt p.places m = false) := ⟨fun h => by rw [HN2.out]; exact List.all_eq_false.2 ⟨p.places[j], by rw [List.mem_take_iff_getElem]; exact ⟨j, by omega, rfl⟩, by rw [h]; decide⟩⟩
                    have hs : Sec (samePlace p.places[j] x = (p.places[j].name.toList == x.name.toList && p.places[j].n == x.n)) := ⟨rfl⟩
                    generalize p.places[j] = y at *
                    have j0 : (0 : Int) ≤ (j : Int) := by omega
                    have j1 : (j : Int) < (p.places.length : Int) := by omega
                    have j2 : (j : Int) < (m : Int) := by omega
                    cases hn : (y.name.toList == x.name.toList) with
                    | false =>
                      have HE : Sec ((p.places.take (j + 1)).all (fun q => !samePlace q x) = true) := ⟨by rw [hTj.out, hs.out, hn]; rfl⟩
                      go_wp2
                      go_quiet (fail)
                      go_wp2
                      go_roundw
                      case rel => exact ⟨j + 1, by omega, by go_num, HE, ⟨belDN hb2.out.1, hb2.out.2⟩⟩
                      case measure => simp [intOf]; omega
                    | true =>
                      cases hn2 : (y.n == x.n) with
                      | false =>
                        have HE : Sec ((p.places.take (j + 1)).all (fun q => !samePlace q x) = true) := ⟨by rw [hTj.out, hs.out, hn, hn2]; rfl⟩
                        go_wp2
                        go_quiet (fail)
                        go_wp2
                        go_roundw
                        case rel => exact ⟨j + 1, by omega, by go_num, HE, ⟨belDN hb2.out.1, hb2.out.2⟩⟩
                        case measure => simp [intOf]; omega
                      | true =>
                        have HE : Sec (prgOk p = false) := ⟨prgOk_4 (HB.out (hAll.out (by rw [hs.out, hn, hn2]; rfl)))⟩
                        go_wp2
                        go_quiet (fail)
                        go_wp2
                        go_ret
                        exact ⟨rb HE.out.symm, belDN hb2.out.1⟩
                  · have HE : Sec ((List.range (m + 1)).all (newAt p.places) = true) := ⟨by rw [HR.out, hT.out, HN2.out]; have := hT2.out; rwa [show j = m by omega] at this⟩
                    go_wp2
                    go_roundw
                    case rel => exact ⟨m + 1, by omega, by go_num, HE, hb2⟩
                    case measure => simp [intOf]; omega
            · have HE : Sec (prgOk p = true) := ⟨prgOk_5 hl0 hl1 HCL.out (by have := hT.out; rwa [show m = p.places.length by omega] at this)⟩
              go_wp2
              go_ret
              exact ⟨rb HE.out.symm, hb'.out.1⟩
    · have HE : Sec (prgOk p = false) := ⟨prgOk_2 hl1⟩
      have q1 : decide ((p.places.length : Int) > 6) = true := decide_eq_true (by omega)
      go_enter Tryz.func17, Tryz.ntmps17
      go_wp2
      go_ret
      exact ⟨rb HE.out.symm, B0.out⟩
  · have HE : Sec (prgOk p = false) := ⟨prgOk_1 hl0⟩
    have q0 : decide ((p.clauses.length : Int) > 12) = true := decide_eq_true (by omega)
    go_enter Tryz.func17, Tryz.ntmps17
    go_wp2
    go_ret
    exact ⟨rb HE.out.symm, B0.out⟩
end
section
open Go.RowKit
set_option linter.unusedVariables false
set_option maxRecDepth 100000
theorem goalOk_shape (g : Goal) : goalOk g = (!decide (g.kind = 6) && shapeOk g) := by
  unfold goalOk shapeOk shapeI
  rw [termIn_may, termIn_may, termIn_may]
  have e1 : ((g.a.length : Int) == 0) = decide (g.a.length = 0) := by exact decide_eq_decide.2 (by omega)
  have e2 : ((g.b.length : Int) == 0) = decide (g.b.length = 0) := by exact decide_eq_decide.2 (by omega)
  have e3 : ((g.c.length : Int) == 0) = decide (g.c.length = 0) := by exact decide_eq_decide.2 (by omega)
  have f1 : decide (g.b.length + g.c.length = 0) = (decide (g.b.length = 0) && decide (g.c.length = 0)) := by rw [← Bool.decide_and]; exact decide_eq_decide.2 (by omega)
  have f2 : decide (g.a.length + g.b.length + g.c.length = 0) = (decide (g.a.length = 0) && decide (g.b.length = 0) && decide (g.c.length = 0)) := by rw [← Bool.decide_and, ← Bool.decide_and]; exact decide_eq_decide.2 (by omega)
  rw [e1, e2, e3, f1, f2]
  generalize decide (g.a.length = 0) = qa
  generalize decide (g.b.length = 0) = qb
  generalize decide (g.c.length = 0) = qc
  generalize trmOk g.a = ta
  generalize trmOk g.b = tb
  generalize trmOk g.c = tc
  generalize mayIn g.a = ma
  generalize mayIn g.b = mb
  generalize mayIn g.c = mc
  generalize headFun g.a = ha
  generalize g.kind = k
  by_cases h1 : k = 1
  · subst h1; cases ta <;> cases ma <;> cases ha <;> cases qb <;> cases qc <;> rfl
  by_cases h6 : k = 6
  · subst h6; rfl
  by_cases h3 : k = 3
  · subst h3; cases qa <;> cases qb <;> cases qc <;> rfl
  by_cases h2 : k = 2
  · subst h2; rfl
  by_cases h4 : k = 4
  · subst h4; rfl
  by_cases h5 : k = 5
  · subst h5; rfl
  simp [h1, h2, h3, h4, h5, h6]
def anyAt {α : Type} (p : α → Bool) (t : List α) (i : Int) : Prop := decide (0 ≤ i) = t.any p
theorem take_any {α : Type} (p : α → Bool) (t : List α) (k : Nat) (h : k < t.length) : (t.take (k + 1)).any p = ((t.take k).any p || p t[k]) := by
  rw [List.take_succ_eq_append_getElem h, List.any_append]; simp
theorem GoalOk_i (g : Goal) (cs : List Value) (ok : Nat → Prop) (w : World) (hK : kGoal.K w ok g cs) :
    Calls Tryz.prog 203 #[.agg cs.toArray] w fun e w' => e = .returned (.bool (goalOk g)) ∧ Below w.heap.size w w' := by
  have HS := Sec.mk (fun (W : World) (hb : Below w.heap.size w W) => goalShape_i g cs ok W (Kd.K_below hK hb))
  obtain ⟨v1, v2, v3, rfl, h1, h2, h3⟩ := kGoal_K hK
  clear hK h1 h2 h3
  have B0 := Sec.mk (belA (Below.refl w.heap.size w) (.cells #[.int .i64 g.kind, v1, v2, v3] 100))
  have X := (box_at (heap_alloc_new w (.cells #[.int .i64 g.kind, v1, v2, v3] 100))).2.1
  have y0 := X 0 _ rfl
  have y1 := X 1 _ rfl
  have y2 := X 2 _ rfl
  have y3 := X 3 _ rfl
  clear X
  have HE := Sec.mk (goalOk_shape g)
  generalize goalOk g = res at *
  generalize shapeOk g = s at *
  have hu := Tryz.underlying100
  by_cases hk : g.kind = 6
  · have HE : Sec (res = false) := ⟨by rw [HE.out, decide_eq_true hk]; rfl⟩
    have k6 : (g.kind != 6) = false := by rw [hk]; rfl
    clear hk HS
    go_enter Tryz.func203, Tryz.ntmps203
    go_wp2
    go_ret
    exact ⟨rb HE.out.symm, B0.out⟩
  · have HE : Sec (res = s) := ⟨by rw [HE.out, decide_eq_false hk]; rfl⟩
    have k6 : (g.kind != 6) = true := bne_iff_ne.2 hk
    clear hk
    go_enter Tryz.func203, Tryz.ntmps203
    go_wp2_with (go_at_call 190; refine (HS.out _ B0.out).mono ?_; rintro e w1 ⟨rfl, hb⟩; have B1 := Sec.mk (bel B0.out hb); clear hb)
    go_ret
    exact ⟨rb HE.out.symm, B1.out⟩
theorem wrongGoal_i1 (x : Goal) (cs : List Value) (ok : Nat → Prop) (w : World) (hK : kGoal.K w ok x cs) : Calls Tryz.prog 202 #[.agg cs.toArray] w fun e w' => e = .returned (.bool (!goalOk x)) ∧ Below w.heap.size w w' := by
  have HS := Sec.mk (fun (W : World) (hb : Below w.heap.size w W) => GoalOk_i x cs ok W (Kd.K_below hK hb))
  obtain ⟨v1, v2, v3, rfl, h1, h2, h3⟩ := kGoal_K hK
  clear hK h1 h2 h3
  have B0 := Sec.mk (belA (Below.refl w.heap.size w) (.cells #[.int .i64 x.kind, v1, v2, v3] 100))
  have X := (box_at (heap_alloc_new w (.cells #[.int .i64 x.kind, v1, v2, v3] 100))).2.1
  have y0 := X 0 _ rfl
  have y1 := X 1 _ rfl
  have y2 := X 2 _ rfl
  have y3 := X 3 _ rfl
  clear X
  have hu := Tryz.underlying100
  generalize goalOk x = s at *
  go_enter Tryz.func202, Tryz.ntmps202
  go_wp2_with (go_at_call 203; refine (HS.out _ B0.out).mono ?_; rintro e w1 ⟨rfl, hb⟩; have B1 := Sec.mk (bel B0.out hb); clear hb)
  go_ret
  exact ⟨rfl, B1.out⟩
theorem wrongGoal_i2 (v : Value) (t : List Goal) (ok : Nat → Prop) (w : World) (hV : kGoal.V w ok v t) :
    Calls Tryz.prog 240 #[v, .func (.func 202) #[] #[]] w fun e w' => ∃ i : Int, e = .returned (.int .i64 i) ∧ anyAt (fun x => !goalOk x) t i ∧ Below w.heap.size w w' := by
  obtain ⟨A, c, rfl, h1, h2, h3, hC, hz⟩ := hV
  have HC := Sec.mk hC
  clear hC hz
  have hu := Tryz.underlying100
  go_enter Tryz.func240, Tryz.ntmps240
  go_wp2
  go_loopw [8] (fun iv wr => ∃ k : Nat, k ≤ t.length ∧ iv = .int .i64 k ∧ Sec ((t.take k).any (fun x => !goalOk x) = false) ∧ Sec (Below w.heap.size w wr)) (fun iv _ => t.length - (intOf iv).toNat)
  case atStart => exact ⟨0, Nat.zero_le _, rfl, ⟨rfl⟩, ⟨Below.refl _ _⟩⟩
  case round =>
    obtain ⟨k, hk, rfl, hT, hb⟩ := hrel
    by_cases hlt : k < t.length
    · obtain ⟨b, off, E1, m1, E2, m2, E3, m3, rfl, hob, c0, c1, c2, c3, hKx⟩ := goal_at (Kd.C_below HC.out hb.out (by decide)) k hlt
      have hA : Sec ((t.take (k + 1)).any (fun x => !goalOk x) = !goalOk t[k]) := ⟨by rw [take_any _ t k hlt, hT.out, Bool.false_or]⟩
      have hmem : Sec (t[k] ∈ t) := ⟨List.getElem_mem hlt⟩
      have HW := Sec.mk (wrongGoal_i1 t[k] _ ok wr hKx)
      clear hKx
      generalize t[k] = x at *
      obtain ⟨bb, hbb⟩ : ∃ b, goalOk x = b := ⟨_, rfl⟩
      have HB := Sec.mk hbb
      rw [hbb] at HW
      clear hbb
      cases bb with
      | true =>
        have hA' : Sec ((t.take (k + 1)).any (fun x => !goalOk x) = false) := ⟨by rw [hA.out, HB.out]; rfl⟩
        go_wp2_with (go_at_call 202; refine HW.out.mono ?_; rintro e w1 ⟨rfl, hb1⟩; have B1 := Sec.mk (bel hb.out hb1); clear hb1)
        go_roundw
        case rel => exact ⟨k + 1, by omega, by go_num, hA', B1⟩
        case measure => simp [intOf]; omega
      | false =>
        have hF : Sec (anyAt (fun x => !goalOk x) t k) := ⟨by
          have : t.any (fun x => !goalOk x) = true := List.any_eq_true.2 ⟨x, hmem.out, by rw [HB.out]; rfl⟩
          unfold anyAt; rw [this]; simp⟩
        go_wp2_with (go_at_call 202; refine HW.out.mono ?_; rintro e w1 ⟨rfl, hb1⟩; have B1 := Sec.mk (bel hb.out hb1); clear hb1)
        go_ret
        exact ⟨_, rfl, hF.out, B1.out⟩
    · have hF : Sec (anyAt (fun x => !goalOk x) t (-1)) := ⟨by
        have : t.any (fun x => !goalOk x) = false := by have := hT.out; rwa [List.take_of_length_le (by omega)] at this
        unfold anyAt; rw [this]; rfl⟩
      go_wp2
      go_ret
      exact ⟨_, rfl, hF.out, hb.out⟩
theorem wrongGoal_i3 (v : Value) (t : List Goal) (ok : Nat → Prop) (w : World) (hV : kGoal.V w ok v t) :
    Calls Tryz.prog 205 #[v, .func (.func 202) #[] #[]] w fun e w' => e = .returned (.bool (!t.all goalOk)) ∧ Below w.heap.size w w' := by
  have HI := Sec.mk (wrongGoal_i2 v t ok w hV)
  obtain ⟨A, c, rfl, h1, h2, h3, hC, hz⟩ := hV
  clear hC hz
  have hq : t.any (fun x => !goalOk x) = !t.all goalOk := by simp [List.any_eq_not_all_not]
  generalize hall : (!t.all goalOk) = al at *
  have HAL := Sec.mk hq
  clear hall hq
  go_enter Tryz.func205, Tryz.ntmps205
  go_wp2_with (go_at_call 240; refine HI.out.mono ?_; rintro e w1 ⟨i, rfl, hw, hb⟩; have B1 := Sec.mk hb; have HW := Sec.mk hw; clear hb hw)
  go_ret
  exact ⟨rb (by have := HW.out; unfold anyAt at this; rw [HAL.out] at this; exact this), B1.out⟩
theorem clauseOk_eq (c : Clause) : clauseOk c = (((trmOk c.head && headFun c.head) && mayIn c.head && decide ((c.body.length : Int) ≤ 4)) && !(!c.body.all goalOk)) := by
  unfold clauseOk
  rw [termIn_may]
  have e : decide ((c.body.length : Int) ≤ 4) = decide (c.body.length ≤ 4) := decide_eq_decide.2 (by omega)
  rw [e]
  generalize trmOk c.head = a
  generalize mayIn c.head = b
  generalize headFun c.head = d
  generalize decide (c.body.length ≤ 4) = q
  generalize c.body.all goalOk = r
  cases a <;> cases b <;> cases d <;> cases q <;> cases r <;> rfl
set_option maxHeartbeats 1000000 in
theorem clauseOk_i (c : Clause) (cs : List Value) (ok : Nat → Prop) (w : World) (hK : kClause.K w ok c cs) :
    Calls Tryz.prog 153 #[.agg cs.toArray] w fun e w' => e = .returned (.bool (clauseOk c)) ∧ Below w.heap.size w w' := by
  obtain ⟨v1, v2, rfl, h1, h2⟩ := kClause_K hK
  have BODY := Sec.mk (fun (W : World) (hb : Below w.heap.size w W) => wrongGoal_i3 v2 c.body ok W (Kd.V_below h2 hb (by decide)))
  have HEAD := Sec.mk (fun (W : World) (hb : Below w.heap.size w W) => called_i v1 c.head ok W (Kd.V_below h1 hb (by decide)))
  have MAY := Sec.mk (fun (W : World) (hb : Below w.heap.size w W) => inClause_i v1 c.head ok W (Kd.V_below h1 hb (by decide)))
  obtain ⟨E2, m2, rfl, -, -, l2, -⟩ := h2
  obtain ⟨E1, m1, rfl, -⟩ := h1
  clear hK
  have B0 := Sec.mk (belA (Below.refl w.heap.size w) (.cells #[.slice E1 c.head.length m1, .slice E2 c.body.length m2] 113))
  have P0 := Sec.mk (heap_alloc_new w (.cells #[.slice E1 c.head.length m1, .slice E2 c.body.length m2] 113))
  have X := (box_at P0.out).2.1
  have y0 := X 0 _ rfl
  have y1 := X 1 _ rfl
  clear X
  have HE := Sec.mk (clauseOk_eq c)
  have hm : (decide (c.head.length ≤ 12) && c.head.all varIn) = mayIn c.head := rfl
  rw [hm] at MAY
  clear hm
  generalize clauseOk c = res at *
  generalize (trmOk c.head && headFun c.head) = p1 at *
  generalize mayIn c.head = p2 at *
  generalize (!c.body.all goalOk) = p4 at *
  have T0 : Sec True := ⟨trivial⟩
  obtain ⟨p3, hp3⟩ : ∃ p, decide ((c.body.length : Int) ≤ 4) = p := ⟨_, rfl⟩
  rw [hp3] at HE
  cases p1 with
  | false =>
    clear hp3
    cases p2 <;> cases p3 <;> (
      go_enter Tryz.func153, Tryz.ntmps153
      go_wp2_with (clear T0; go_at_call 155; have T1 : Sec True := ⟨trivial⟩; refine (HEAD.out _ B0.out).mono ?_; rintro e w1 ⟨rfl, hb⟩; have B1 := Sec.mk (bel B0.out hb); have P1 := Sec.mk ((hb.block _ (Array.getElem?_eq_some_iff.1 P0.out).1).trans P0.out); have X := (box_at P1.out).2.1; have z0 := X 0 _ rfl; clear hb X)
      go_ret
      exact ⟨rb HE.out.symm, B1.out⟩)
  | true =>
    cases p2 with
    | false =>
      clear hp3
      cases p3 <;> (
        go_enter Tryz.func153, Tryz.ntmps153
        go_wp2_with (first | (clear T1; go_at_call 204; have T2 : Sec True := ⟨trivial⟩; refine (MAY.out _ B1.out).mono ?_; rintro e w2 ⟨rfl, hb⟩; have B2 := Sec.mk (bel B1.out hb); have P2 := Sec.mk ((hb.block _ (Array.getElem?_eq_some_iff.1 P1.out).1).trans P1.out); have X := (box_at P2.out).2.1; have u1 := X 1 _ rfl; clear hb X) | (clear T0; go_at_call 155; have T1 : Sec True := ⟨trivial⟩; refine (HEAD.out _ B0.out).mono ?_; rintro e w1 ⟨rfl, hb⟩; have B1 := Sec.mk (bel B0.out hb); have P1 := Sec.mk ((hb.block _ (Array.getElem?_eq_some_iff.1 P0.out).1).trans P0.out); have X := (box_at P1.out).2.1; have z0 := X 0 _ rfl; clear hb X))
        go_ret
        exact ⟨rb HE.out.symm, B2.out⟩)
    | true =>
      cases p3 with
      | false =>
        go_enter Tryz.func153, Tryz.ntmps153
        go_wp2_with (first | (clear T1; go_at_call 204; have T2 : Sec True := ⟨trivial⟩; refine (MAY.out _ B1.out).mono ?_; rintro e w2 ⟨rfl, hb⟩; have B2 := Sec.mk (bel B1.out hb); have P2 := Sec.mk ((hb.block _ (Array.getElem?_eq_some_iff.1 P1.out).1).trans P1.out); have X := (box_at P2.out).2.1; have u1 := X 1 _ rfl; clear hb X) | (clear T0; go_at_call 155; have T1 : Sec True := ⟨trivial⟩; refine (HEAD.out _ B0.out).mono ?_; rintro e w1 ⟨rfl, hb⟩; have B1 := Sec.mk (bel B0.out hb); have P1 := Sec.mk ((hb.block _ (Array.getElem?_eq_some_iff.1 P0.out).1).trans P0.out); have X := (box_at P1.out).2.1; have z0 := X 0 _ rfl; clear hb X))
        go_ret
        exact ⟨rb HE.out.symm, B2.out⟩
      | true =>
        go_enter Tryz.func153, Tryz.ntmps153
        go_wp2_with (first | (clear T2; go_at_call 205; refine (BODY.out _ B2.out).mono ?_; rintro e w3 ⟨rfl, hb⟩; have B3 := Sec.mk (bel B2.out hb); clear hb) | (clear T1; go_at_call 204; have T2 : Sec True := ⟨trivial⟩; refine (MAY.out _ B1.out).mono ?_; rintro e w2 ⟨rfl, hb⟩; have B2 := Sec.mk (bel B1.out hb); have P2 := Sec.mk ((hb.block _ (Array.getElem?_eq_some_iff.1 P1.out).1).trans P1.out); have X := (box_at P2.out).2.1; have u1 := X 1 _ rfl; clear hb X) | (clear T0; go_at_call 155; have T1 : Sec True := ⟨trivial⟩; refine (HEAD.out _ B0.out).mono ?_; rintro e w1 ⟨rfl, hb⟩; have B1 := Sec.mk (bel B0.out hb); have P1 := Sec.mk ((hb.block _ (Array.getElem?_eq_some_iff.1 P0.out).1).trans P0.out); have X := (box_at P1.out).2.1; have z0 := X 0 _ rfl; clear hb X))
        go_ret
        exact ⟨rb HE.out.symm, B3.out⟩
theorem wrongClause_i1 (x : Clause) (cs : List Value) (ok : Nat → Prop) (w : World) (hK : kClause.K w ok x cs) : Calls Tryz.prog 152 #[.agg cs.toArray] w fun e w' => e = .returned (.bool (!clauseOk x)) ∧ Below w.heap.size w w' := by
  have HS := Sec.mk (fun (W : World) (hb : Below w.heap.size w W) => clauseOk_i x cs ok W (Kd.K_below hK hb))
  obtain ⟨v1, v2, rfl, h1, h2⟩ := kClause_K hK
  clear hK h1 h2
  have B0 := Sec.mk (belA (Below.refl w.heap.size w) (.cells #[v1, v2] 113))
  have X := (box_at (heap_alloc_new w (.cells #[v1, v2] 113))).2.1
  have y0 := X 0 _ rfl
  have y1 := X 1 _ rfl
  clear X
  have hu := Tryz.underlying113
  generalize clauseOk x = s at *
  go_enter Tryz.func152, Tryz.ntmps152
  go_wp2_with (go_at_call 153; refine (HS.out _ B0.out).mono ?_; rintro e w1 ⟨rfl, hb⟩; have B1 := Sec.mk (bel B0.out hb); clear hb)
  go_ret
  exact ⟨rfl, B1.out⟩
theorem wrongClause_i2 (v : Value) (t : List Clause) (ok : Nat → Prop) (w : World) (hV : kClause.V w ok v t) :
    Calls Tryz.prog 206 #[v, .func (.func 152) #[] #[]] w fun e w' => ∃ i : Int, e = .returned (.int .i64 i) ∧ anyAt (fun x => !clauseOk x) t i ∧ Below w.heap.size w w' := by
  obtain ⟨A, c, rfl, h1, h2, h3, hC, hz⟩ := hV
  have HC := Sec.mk hC
  clear hC hz
  have hu := Tryz.underlying113
  go_enter Tryz.func206, Tryz.ntmps206
  go_wp2
  go_loopw [8] (fun iv wr => ∃ k : Nat, k ≤ t.length ∧ iv = .int .i64 k ∧ Sec ((t.take k).any (fun x => !clauseOk x) = false) ∧ Sec (Below w.heap.size w wr)) (fun iv _ => t.length - (intOf iv).toNat)
  case atStart => exact ⟨0, Nat.zero_le _, rfl, ⟨rfl⟩, ⟨Below.refl _ _⟩⟩
  case round =>
    obtain ⟨k, hk, rfl, hT, hb⟩ := hrel
    by_cases hlt : k < t.length
    · obtain ⟨b, off, E1, m1, E2, m2, rfl, hob, c0, c1, hKx⟩ := clause_at (Kd.C_below HC.out hb.out (by decide)) k hlt
      have hA : Sec ((t.take (k + 1)).any (fun x => !clauseOk x) = !clauseOk t[k]) := ⟨by rw [take_any _ t k hlt, hT.out, Bool.false_or]⟩
      have hmem : Sec (t[k] ∈ t) := ⟨List.getElem_mem hlt⟩
      have HW := Sec.mk (wrongClause_i1 t[k] _ ok wr hKx)
      clear hKx
      generalize t[k] = x at *
      obtain ⟨bb, hbb⟩ : ∃ b, clauseOk x = b := ⟨_, rfl⟩
      have HB := Sec.mk hbb
      rw [hbb] at HW
      clear hbb
      cases bb with
      | true =>
        have hA' : Sec ((t.take (k + 1)).any (fun x => !clauseOk x) = false) := ⟨by rw [hA.out, HB.out]; rfl⟩
        go_wp2_with (go_at_call 152; refine HW.out.mono ?_; rintro e w1 ⟨rfl, hb1⟩; have B1 := Sec.mk (bel hb.out hb1); clear hb1)
        go_roundw
        case rel => exact ⟨k + 1, by omega, by go_num, hA', B1⟩
        case measure => simp [intOf]; omega
      | false =>
        have hF : Sec (anyAt (fun x => !clauseOk x) t k) := ⟨by
          have : t.any (fun x => !clauseOk x) = true := List.any_eq_true.2 ⟨x, hmem.out, by rw [HB.out]; rfl⟩
          unfold anyAt; rw [this]; simp⟩
        go_wp2_with (go_at_call 152; refine HW.out.mono ?_; rintro e w1 ⟨rfl, hb1⟩; have B1 := Sec.mk (bel hb.out hb1); clear hb1)
        go_ret
        exact ⟨_, rfl, hF.out, B1.out⟩
    · have hF : Sec (anyAt (fun x => !clauseOk x) t (-1)) := ⟨by
        have : t.any (fun x => !clauseOk x) = false := by have := hT.out; rwa [List.take_of_length_le (by omega)] at this
        unfold anyAt; rw [this]; rfl⟩
      go_wp2
      go_ret
      exact ⟨_, rfl, hF.out, hb.out⟩
theorem wrongClause_i3 (v : Value) (t : List Clause) (ok : Nat → Prop) (w : World) (hV : kClause.V w ok v t) :
    Calls Tryz.prog 154 #[v, .func (.func 152) #[] #[]] w fun e w' => e = .returned (.bool (!t.all clauseOk)) ∧ Below w.heap.size w w' := by
  have HI := Sec.mk (wrongClause_i2 v t ok w hV)
  obtain ⟨A, c, rfl, h1, h2, h3, hC, hz⟩ := hV
  clear hC hz
  have hq : t.any (fun x => !clauseOk x) = !t.all clauseOk := by simp [List.any_eq_not_all_not]
  generalize hall : (!t.all clauseOk) = al at *
  have HAL := Sec.mk hq
  clear hall hq
  go_enter Tryz.func154, Tryz.ntmps154
  go_wp2_with (go_at_call 206; refine HI.out.mono ?_; rintro e w1 ⟨i, rfl, hw, hb⟩; have B1 := Sec.mk hb; have HW := Sec.mk hw; clear hb hw)
  go_ret
  exact ⟨rb (by have := HW.out; unfold anyAt at this; rw [HAL.out] at this; exact this), B1.out⟩
end
section
open Go.RowKit
set_option linter.unusedVariables false
set_option maxRecDepth 100000
theorem carryBx {w W : World} {b : Nat} {o : Obj} (h : Below w.heap.size w W) (hb : w.heap[b]? = some o) : W.heap[b]? = some o := (h.block b (Array.getElem?_eq_some_iff.1 hb).1).trans hb
theorem samePlace_eq (x y : Place) : samePlace y x = ((x.name.toList == y.name.toList) && x.n == y.n) := by
  unfold samePlace
  have e1 : (y.name.toList == x.name.toList) = (x.name.toList == y.name.toList) := by
    by_cases h : x.name.toList = y.name.toList
    · rw [h]
    · rw [beq_eq_false_iff_ne.2 h, beq_eq_false_iff_ne.2 (Ne.symm h)]
  have e2 : (y.n == x.n) = (x.n == y.n) := by
    by_cases h : x.n = y.n
    · rw [h]
    · rw [beq_eq_false_iff_ne.2 h, beq_eq_false_iff_ne.2 (Ne.symm h)]
  rw [e1, e2]
theorem prgOk_tests (p : Prog) (h : placesOk p.places = true) : prgOk p = (decide ((p.clauses.length : Int) ≤ 12) && decide ((p.places.length : Int) ≤ 6) && !(!p.clauses.all clauseOk)) := by
  have e1 : decide ((p.clauses.length : Int) ≤ 12) = decide (p.clauses.length ≤ 12) := decide_eq_decide.2 (by omega)
  have e2 : decide ((p.places.length : Int) ≤ 6) = decide (p.places.length ≤ 6) := decide_eq_decide.2 (by omega)
  rw [e1, e2]; unfold prgOk; rw [h]; simp
set_option maxHeartbeats 4000000 in
theorem PrgOk_i (p : Prog) (cs : List Value) (ok : Nat → Prop) (w : World) (hK : kProg.K w ok p cs) :
    Calls Tryz.prog 69 #[.agg cs.toArray] w fun e w' => e = .returned (.bool (prgOk p)) ∧ Below w.heap.size w w' := by
  obtain ⟨v0, v1, rfl, h0, h1⟩ := kProg_K hK
  have CL := Sec.mk (fun (W : World) (hb : Below w.heap.size w W) => wrongClause_i3 v0 p.clauses ok W (Kd.V_below h0 hb (by decide)))
  obtain ⟨E0, m0, rfl, -, -, l0, -⟩ := h0
  obtain ⟨E1, m1, rfl, hm1, -, l1, hC1, -⟩ := h1
  have B0 := Sec.mk (belA (Below.refl w.heap.size w) (.cells #[.slice E0 p.clauses.length m0, .slice E1 p.places.length m1] 28))
  have P0 := Sec.mk (heap_alloc_new w (.cells #[.slice E0 p.clauses.length m0, .slice E1 p.places.length m1] 28))
  have HC1 := Sec.mk hC1
  clear hK hC1
  have hu := Tryz.underlying116
  have X := (box_at P0.out).2.1
  have y0 := X 0 _ rfl
  have y1 := X 1 _ rfl
  clear X
  go_enter Tryz.func69, Tryz.ntmps69
  go_wp2
  clear y0 y1
  go_loopw [11] (fun i wr => ∃ k : Nat, k ≤ p.places.length ∧ i = .int .i64 k ∧ Sec ((List.range k).all (newAt p.places) = true) ∧ Sec (Below w.heap.size w wr ∧ wr.heap[w.heap.size]? = some (.cells #[.slice E0 p.clauses.length m0, .slice E1 p.places.length m1] 28 (0, 0)))) (fun i _ => p.places.length - (intOf i).toNat)
  case atStart => exact ⟨0, Nat.zero_le _, rfl, ⟨by simp⟩, ⟨B0.out, P0.out⟩⟩
  case round =>
    obtain ⟨k, hk, rfl, hT, hb⟩ := hrel
    by_cases hlt : k < p.places.length
    · obtain ⟨b, off, rfl, _, x0, x1, x2, hsz⟩ := place_at' (Kd.C_below HC1.out hb.out.1 (by decide)) k hlt
      have HN := Sec.mk (newAt_at hlt)
      have HB := Sec.mk (fun h => places_no hlt h)
      have HR := Sec.mk (range_all (p := newAt p.places) k)
      have i0 : (0 : Int) ≤ (k : Int) := by omega
      have i1 : (k : Int) < (p.places.length : Int) := by omega
      have HX : Sec (p.places[k]? = some p.places[k]) := ⟨List.getElem?_eq_getElem hlt⟩
      generalize p.places[k] = x at *
      have HNM := Sec.mk (fun W => nameOk_i x.name hsz W)
      have HPO : Sec (placeOk x = (nameOk x.name && inB x.n 0 3 && inB x.node 1 2)) := ⟨rfl⟩
      have HI1 := Sec.mk (fun W => in_c x.n 0 3 W)
      have HI2 := Sec.mk (fun W => in_c x.node 1 2 W)
      generalize nameOk x.name = n1 at *
      generalize inB x.n 0 3 = n2 at *
      generalize inB x.node 1 2 = n3 at *
      have T0 : Sec True := ⟨trivial⟩
      have BW := Sec.mk (belA hb.out.1 (.cells #[.string x.name, .int .i64 x.n, .int .i64 x.node] 116))
      have PW := Sec.mk (heap_alloc_new wr (.cells #[.string x.name, .int .i64 x.n, .int .i64 x.node] 116))
      have PP := Sec.mk ((Below.heap_alloc wr (.cells #[.string x.name, .int .i64 x.n, .int .i64 x.node] 116 (0, 0)) _ (Array.getElem?_eq_some_iff.1 hb.out.2).1).trans hb.out.2)
      cases n1 with
      | false =>
        have HE : Sec (prgOk p = false) := ⟨prgOk_4 (HB.out (by rw [HN.out, HPO.out]; rfl))⟩
        cases n2 <;> cases n3 <;> (
          go_wp2_with (go_at_call 151; refine (HNM.out _).mono ?_; rintro e w5 ⟨rfl, hb5⟩; have B5 := Sec.mk (bel BW.out hb5); clear hb5)
          go_ret
          exact ⟨rb HE.out.symm, B5.out⟩)
      | true =>
        cases n2 with
        | false =>
          have HE : Sec (prgOk p = false) := ⟨prgOk_4 (HB.out (by rw [HN.out, HPO.out]; rfl))⟩
          cases n3 <;> (
            go_wp2_with (first | (clear T0; go_at_call 151; have T1 : Sec True := ⟨trivial⟩; refine (HNM.out _).mono ?_; rintro e w5 ⟨rfl, hb5⟩; have B5 := Sec.mk (bel BW.out hb5); have X := (box_at (carryBx hb5 PW.out)).2.1; have z1 := X 1 _ rfl; have z2 := X 2 _ rfl; clear hb5 X) | (clear T1; go_at_call 121; refine (HI1.out _).mono ?_; rintro e w6 ⟨rfl, rfl⟩))
            go_ret
            exact ⟨rb HE.out.symm, B5.out⟩)
        | true =>
          cases n3 with
          | false =>
            have HE : Sec (prgOk p = false) := ⟨prgOk_4 (HB.out (by rw [HN.out, HPO.out]; rfl))⟩
            go_wp2_with (first | (clear T0; go_at_call 151; have T1 : Sec True := ⟨trivial⟩; refine (HNM.out _).mono ?_; rintro e w5 ⟨rfl, hb5⟩; have B5 := Sec.mk (bel BW.out hb5); have X := (box_at (carryBx hb5 PW.out)).2.1; have z1 := X 1 _ rfl; have z2 := X 2 _ rfl; clear hb5 X) | (clear T1; go_at_call 121; have T2 : Sec True := ⟨trivial⟩; refine (HI1.out _).mono ?_; rintro e w6 ⟨rfl, rfl⟩) | (clear T2; go_at_call 121; refine (HI2.out _).mono ?_; rintro e w6 ⟨rfl, rfl⟩))
            go_ret
            exact ⟨rb HE.out.symm, B5.out⟩
          | true =>
            have HN2 : Sec (newAt p.places k = (p.places.take k).all (fun q => !samePlace q x)) := ⟨by rw [HN.out, HPO.out]; simp⟩
            have s0 : (k : Int) ≤ (m1 : Int) := by omega
            go_wp2_with (first | (clear T0; go_at_call 151; have T1 : Sec True := ⟨trivial⟩; refine (HNM.out _).mono ?_; rintro e w5 ⟨rfl, hb5⟩; have B5 := Sec.mk (bel BW.out hb5); have P5 := Sec.mk (carryBx hb5 PW.out); have Q5 := Sec.mk (carryBx hb5 PP.out); have X := (box_at P5.out).2.1; have z1 := X 1 _ rfl; have z2 := X 2 _ rfl; have X := (box_at Q5.out).2.1; have u1 := X 1 _ rfl; clear hb5 X) | (clear T1; go_at_call 121; have T2 : Sec True := ⟨trivial⟩; refine (HI1.out _).mono ?_; rintro e w6 ⟨rfl, rfl⟩) | (clear T2; go_at_call 121; refine (HI2.out _).mono ?_; rintro e w6 ⟨rfl, rfl⟩))
            clear z1 z2 u1 x0 x1 x2
            go_loopw [37] (fun i wt => ∃ j : Nat, j ≤ k ∧ i = .int .i64 j ∧ Sec ((p.places.take j).all (fun q => !samePlace q x) = true) ∧ Sec (Below w.heap.size w wt ∧ wt.heap[w.heap.size]? = some (.cells #[.slice E0 p.clauses.length m0, .slice (some ⟨b, off, none⟩) p.places.length m1] 28 (0, 0)) ∧ wt.heap[wr.heap.size]? = some (.cells #[.string x.name, .int .i64 x.n, .int .i64 x.node] 116 (0, 0)))) (fun i _ => k - (intOf i).toNat)
            case atStart => exact ⟨0, Nat.zero_le _, rfl, ⟨by simp⟩, ⟨B5.out, Q5.out, P5.out⟩⟩
            case round =>
              obtain ⟨j, hj, rfl, hT2, hb2⟩ := hrel
              by_cases hlt3 : j < k
              · obtain ⟨b4, off4, e4, _, z0, z1, z2, -⟩ := place_at' (Kd.C_below HC1.out hb2.out.1 (by decide)) j (by omega)
                cases e4
                have hTj : Sec ((p.places.take (j + 1)).all (fun q => !samePlace q x) = !samePlace p.places[j] x) := ⟨by rw [take_all _ p.places j (by omega), hT2.out, Bool.true_and]⟩
                have hAll : Sec (samePlace p.places[j] x = true → newAt p.places k = false) := ⟨fun h => by rw [HN2.out]; exact List.all_eq_false.2 ⟨p.places[j], by rw [List.mem_take_iff_getElem]; exact ⟨j, by omega, rfl⟩, by rw [h]; decide⟩⟩
                have hs := Sec.mk (samePlace_eq x p.places[j])
                generalize p.places[j] = y at *
                have X := box_cells (belA (Below.refl wr.heap.size wr) (.cells #[.string y.name, .int .i64 y.n, .int .i64 y.node] 116)) hb2.out.2.2
                have g0 := X.2.1 0 _ rfl
                have g1 := X.2.1 1 _ rfl
                clear X
                have X := (box_at (heap_alloc_new wr (.cells #[.string y.name, .int .i64 y.n, .int .i64 y.node] 116))).2.1
                have k0 := X 0 _ rfl
                have k1 := X 1 _ rfl
                clear X
                have BT := Sec.mk (belA hb2.out.1 (.cells #[.string y.name, .int .i64 y.n, .int .i64 y.node] 116))
                have QT := Sec.mk ((Below.heap_alloc wr (.cells #[.string y.name, .int .i64 y.n, .int .i64 y.node] 116 (0, 0)) _ (Array.getElem?_eq_some_iff.1 hb2.out.2.1).1).trans hb2.out.2.1)
                have PT := Sec.mk ((Below.heap_alloc wr (.cells #[.string y.name, .int .i64 y.n, .int .i64 y.node] 116 (0, 0)) _ (Array.getElem?_eq_some_iff.1 hb2.out.2.2).1).trans hb2.out.2.2)
                have j0 : (0 : Int) ≤ (j : Int) := by omega
                have j1 : (j : Int) < (k : Int) := by omega
                cases hn : (x.name.toList == y.name.toList) with
                | false =>
                  have HE : Sec ((p.places.take (j + 1)).all (fun q => !samePlace q x) = true) := ⟨by rw [hTj.out, hs.out, hn]; rfl⟩
                  go_wp2
                  go_roundw
                  case rel => exact ⟨j + 1, by omega, by go_num, HE, ⟨BT.out, QT.out, PT.out⟩⟩
                  case measure => simp [intOf]; omega
                | true =>
                  cases hn2 : (x.n == y.n) with
                  | false =>
                    have HE : Sec ((p.places.take (j + 1)).all (fun q => !samePlace q x) = true) := ⟨by rw [hTj.out, hs.out, hn, hn2]; rfl⟩
                    go_wp2
                    go_roundw
                    case rel => exact ⟨j + 1, by omega, by go_num, HE, ⟨BT.out, QT.out, PT.out⟩⟩
                    case measure => simp [intOf]; omega
                  | true =>
                    have HE : Sec (prgOk p = false) := ⟨prgOk_4 (HB.out (hAll.out (by rw [hs.out, hn, hn2]; rfl)))⟩
                    go_wp2
                    go_ret
                    exact ⟨rb HE.out.symm, BT.out⟩
              · have HE : Sec ((List.range (k + 1)).all (newAt p.places) = true) := ⟨by rw [HR.out, hT.out, HN2.out]; have := hT2.out; rwa [show j = k by omega] at this⟩
                go_wp2
                go_roundw
                case rel => exact ⟨k + 1, by omega, by go_num, HE, ⟨hb2.out.1, hb2.out.2.1⟩⟩
                case measure => simp [intOf]; omega
    · have HT := Sec.mk (prgOk_tests p (by have := hT.out; rwa [show k = p.places.length by omega] at this))
      have X := (box_at hb.out.2).2.1
      have u0 := X 0 _ rfl
      have u1 := X 1 _ rfl
      clear X hT
      generalize (!p.clauses.all clauseOk) = q3 at *
      obtain ⟨q1, hq1⟩ : ∃ q, decide ((p.clauses.length : Int) ≤ 12) = q := ⟨_, rfl⟩
      obtain ⟨q2, hq2⟩ : ∃ q, decide ((p.places.length : Int) ≤ 6) = q := ⟨_, rfl⟩
      rw [hq1, hq2] at HT
      cases q1 with
      | false =>
        clear hq2
        cases q2 <;> (
          go_wp2
          go_ret
          exact ⟨rb HT.out.symm, hb.out.1⟩)
      | true =>
        cases q2 with
        | false =>
          go_wp2
          go_ret
          exact ⟨rb HT.out.symm, hb.out.1⟩
        | true =>
          go_wp2_with (go_at_call 154; refine (CL.out _ hb.out.1).mono ?_; rintro e w5 ⟨rfl, hb5⟩; have B5 := Sec.mk (bel hb.out.1 hb5); clear hb5)
          go_ret
          exact ⟨rb HT.out.symm, B5.out⟩
end
section
open Go.RowKit
set_option linter.unusedVariables false
set_option maxRecDepth 100000
theorem kGoal_O3 {w : World} {S1 S2 S3 : Nat → Prop} {x : Goal} {v1 v2 v3 : Value} (h1 : kCell.R w S1 v1 x.a) (h2 : kCell.R w S2 v2 x.b) (h3 : kCell.R w S3 v3 x.c) (d1 : ∀ k, S1 k → ¬ S2 k) (d2 : ∀ k, S1 k → ¬ S3 k) (d3 : ∀ k, S2 k → ¬ S3 k) :
    kGoal.O w (fun k => S1 k ∨ S2 k ∨ S3 k) x [.int .i64 x.kind, v1, v2, v3] :=
  ⟨fun _ => False, fun k => S1 k ∨ S2 k ∨ S3 k, [.int .i64 x.kind], [v1, v2, v3], rfl, fun k h => h.elim, fun k h => h, ⟨rfl, trivial⟩,
    S1, fun k => S2 k ∨ S3 k, [v1], [v2, v3], rfl, fun k h => ⟨.inl h, fun e => e.elim (d1 k h) (d2 k h)⟩, fun k h => .inr h, ⟨v1, rfl, h1⟩,
    S2, S3, [v2], [v3], rfl, fun k h => ⟨.inl h, d3 k h⟩, fun k h => .inr h, ⟨v2, rfl, h2⟩, ⟨v3, rfl, h3⟩⟩
set_option maxHeartbeats 1000000 in
theorem l3Goal_c (x : Goal) (cs : List Value) (ok : Nat → Prop) (w : World) (hK : kGoal.K w ok x cs) (hok : ∀ k, ok k → k < w.heap.size) :
    Calls Tryz.prog 199 #[.agg cs.toArray] w fun e w' => ∃ c : List Value, e = .returned (.agg c.toArray) ∧ kGoal.O w' (fun k => w.heap.size ≤ k) x c ∧ Below w.heap.size w w' := by
  obtain ⟨v1, v2, v3, rfl, h1, h2, h3⟩ := kGoal_K hK
  have L1 : Sec (x.a.length ≤ 1073741824) := ⟨by obtain ⟨_, _, _, _, _, h, _⟩ := h1; exact h⟩
  have L2 : Sec (x.b.length ≤ 1073741824) := ⟨by obtain ⟨_, _, _, _, _, h, _⟩ := h2; exact h⟩
  have L3 : Sec (x.c.length ≤ 1073741824) := ⟨by obtain ⟨_, _, _, _, _, h, _⟩ := h3; exact h⟩
  have HB := Sec.mk hok
  have hu := Tryz.underlying100
  have BB := belA (belA (Below.refl w.heap.size w) (.cells #[.int .i64 x.kind, v1, v2, v3] 100)) (.cells #[.int .i64 0, .slice none 0 0, .slice none 0 0, .slice none 0 0] 100)
  have V1 := Sec.mk (Kd.V_below h1 BB (by decide))
  have V2 := Sec.mk (Kd.V_below h2 BB (by decide))
  have V3 := Sec.mk (Kd.V_below h3 BB (by decide))
  have B0 := Sec.mk BB
  have X := (box_at (box2 w (.cells #[.int .i64 x.kind, v1, v2, v3] 100) (.cells #[.int .i64 0, .slice none 0 0, .slice none 0 0, .slice none 0 0] 100)).1).2.1
  have p0 : _ = some (Value.int .i64 x.kind) := X 0 _ rfl
  have p1 : _ = some v1 := X 1 _ rfl
  have p2 : _ = some v2 := X 2 _ rfl
  have p3 : _ = some v3 := X 3 _ rfl
  have P1 := Sec.mk (box2 w (.cells #[.int .i64 x.kind, v1, v2, v3] 100) (.cells #[.int .i64 0, .slice none 0 0, .slice none 0 0, .slice none 0 0] 100)).2
  have Z0 : Sec (w.heap.size + 1 < ((w.alloc (.cells #[.int .i64 x.kind, v1, v2, v3] 100)).alloc (.cells #[.int .i64 0, .slice none 0 0, .slice none 0 0, .slice none 0 0] 100)).heap.size) := ⟨by simp⟩
  clear hK h1 h2 h3 X BB hok
  go_enter Tryz.func199, Tryz.ntmps199
  go_wp2
  generalize (w.alloc (.cells #[.int .i64 x.kind, v1, v2, v3] 100)).alloc (.cells #[.int .i64 0, .slice none 0 0, .slice none 0 0, .slice none 0 0] 100) = w0 at *
  refine wp_region_lists [[3], [4], [5], [6], [7], [8], [9], [10], [11], [12], [13], [14], [15], [16], [17], [], []]
    [fun val _ _ => val 3 = .pointer (some ⟨w.heap.size, 0, none⟩),
      fun val _ _ => val 4 = .int .i64 x.kind,
      onR kCell 5 [],
      fun val _ _ => val 6 = .pointer (some ⟨w.heap.size, 1, none⟩),
      fun val _ _ => val 7 = v1,
      onR kCell 8 x.a,
      onR kCell 9 [],
      fun val _ _ => val 10 = .pointer (some ⟨w.heap.size, 2, none⟩),
      fun val _ _ => val 11 = v2,
      onR kCell 12 x.b,
      onR kCell 13 [],
      fun val _ _ => val 14 = .pointer (some ⟨w.heap.size, 3, none⟩),
      fun val _ _ => val 15 = v3,
      onR kCell 16 x.c,
      onO kGoal 17 x,
      onAt kGoal (w.heap.size + 1) 100 x,
      onCells (w.heap.size + 1) #[.int .i64 0, .slice none 0 0, .slice none 0 0, .slice none 0 0] 100]
    [[], [], [], [], [], [2], [], [], [], [6], [], [], [], [10], [5, 9, 13], [14, 16], []] 1 (fun k => k = w.heap.size + 1) (fun i k => i = 16 ∧ k = w.heap.size + 1) (by kernel_rfl) ⟨by kernel_rfl, by kernel_rfl, by kernel_rfl, by kernel_rfl, by kernel_rfl⟩
    (.cons (stab_val 3 (fun v => v = .pointer (some ⟨w.heap.size, 0, none⟩))) (.cons (stab_val 4 (fun v => v = .int .i64 x.kind)) (.cons (stab_R kCell 5 []) (.cons (stab_val 6 (fun v => v = .pointer (some ⟨w.heap.size, 1, none⟩))) (.cons (stab_val 7 (fun v => v = v1)) (.cons (stab_R kCell 8 x.a) (.cons (stab_R kCell 9 []) (.cons (stab_val 10 (fun v => v = .pointer (some ⟨w.heap.size, 2, none⟩))) (.cons (stab_val 11 (fun v => v = v2)) (.cons (stab_R kCell 12 x.b) (.cons (stab_R kCell 13 []) (.cons (stab_val 14 (fun v => v = .pointer (some ⟨w.heap.size, 3, none⟩))) (.cons (stab_val 15 (fun v => v = v3)) (.cons (stab_R kCell 16 x.c) (.cons (stab_O kGoal 17 x) (.cons (stab_at kGoal (w.heap.size + 1) 100 x) (.cons (stab_cells (w.heap.size + 1) #[.int .i64 0, .slice none 0 0, .slice none 0 0, .slice none 0 0] 100) .nil)))))))))))))))))
    (fun i j k h1 h2 => h1.1.trans h2.1.symm) (fun i k h => ⟨by rw [h.1]; decide, h.2, by rw [h.2]; exact Z0.out⟩) (fun i h1 h2 => by (obtain rfl : i = 16 := (by simp at h1 h2; omega)); exact ⟨P1.out, rfl, rfl⟩) (.cons ?_ (.cons ?_ (.cons ?_ (.cons ?_ (.cons ?_ (.cons ?_ (.cons ?_ (.cons ?_ (.cons ?_ (.cons ?_ (.cons ?_ (.cons ?_ (.cons ?_ (.cons ?_ (.cons ?_ (.cons ?_ .nil)))))))))))))))) ?_
  · intro a W own hfor huse hap hmi hF K hK
    have e1 : a.eval (.tmp 1) = .pointer (some ⟨w.heap.size, 0, none⟩) := hfor 1 (by kernel_rfl)
    refine op_val (.pointer (some ⟨w.heap.size, 0, none⟩)) W rfl ?_ (hK _ _ (post_pure ?_))
    · clear hfor huse hap hmi hK hF
      generalize a.eval = ρ at *
      go_simp
    · exact (if_pos rfl)
  · intro a W own hfor huse hap hmi hF K hK
    have e3 : a.eval (.tmp 3) = .pointer (some ⟨w.heap.size, 0, none⟩) := huse 0 (by kernel_rfl)
    have c0 := foot_cell hF (by omega) p0
    refine op_val (.int .i64 x.kind) W rfl ?_ (hK _ _ (post_pure ?_))
    · clear hfor huse hap hmi hK hF
      generalize a.eval = ρ at *
      go_simp
    · exact (if_pos rfl)
  · intro a W own hfor huse hap hmi hF K hK
    refine op_val (.slice (some ⟨W.heap.size, 0, none⟩) 0 0) (W.alloc (.cells #[] kCell.ty)) rfl ?_ (hK _ _ (post_new (belA (Below.refl _ _) _) ?_))
    · clear hfor huse hap hmi hK hF
      generalize a.eval = ρ at *
      go_simp
      try rfl
    · show kCell.R _ _ (if _ then _ else _) []
      rw [if_pos rfl]
      exact Kd.R_mono (Kd.R_empty (w := W) kCell (Nat.le_refl _)) (fun k h1 h2 => ⟨h1, h2⟩)
  · intro a W own hfor huse hap hmi hF K hK
    have e1 : a.eval (.tmp 1) = .pointer (some ⟨w.heap.size, 0, none⟩) := hfor 1 (by kernel_rfl)
    refine op_val (.pointer (some ⟨w.heap.size, 1, none⟩)) W rfl ?_ (hK _ _ (post_pure ?_))
    · clear hfor huse hap hmi hK hF
      generalize a.eval = ρ at *
      go_simp
    · exact (if_pos rfl)
  · intro a W own hfor huse hap hmi hF K hK
    have e6 : a.eval (.tmp 6) = .pointer (some ⟨w.heap.size, 1, none⟩) := huse 3 (by kernel_rfl)
    have c1 := foot_cell hF (by omega) p1
    refine op_val (v1) W rfl ?_ (hK _ _ (post_pure ?_))
    · clear hfor huse hap hmi hK hF
      generalize a.eval = ρ at *
      go_simp
    · exact (if_pos rfl)
  · intro a W own hfor huse hap hmi hF K hK
    have e7 : a.eval (.tmp 7) = v1 := huse 4 (by kernel_rfl)
    have r0 : kCell.R W (own 2) (a.eval (.tmp 5)) [] := huse 2 (by kernel_rfl)
    have hV := foot_V hF (fun k h => by have := HB.out k h; omega) (V1.out) (by decide)
    refine step_cells rfl (.tmp 5) (.tmp 7) rfl rfl e7 r0 hV ?_ ?_ (fun v1 w1 hR hF1 => hK _ _ ⟨fun k => own 2 k ∨ (W.heap.size ≤ k ∧ k < w1.heap.size), Foot.mono hF1 (fun k h => ⟨2, by decide, h⟩), ?_, fun k h => Or.imp (fun h => ⟨2, by decide, h⟩) id h⟩)
    · exact fun k h1 h2 => by have h3 := (hmi 2 k h2).1; have h4 := HB.out k h1; have z0 := Z0.out; simp at h3; omega
    · have := L1.out; simpa using this
    · show kCell.R _ _ (if _ then _ else _) x.a
      rw [if_pos rfl]
      exact hR
  · intro a W own hfor huse hap hmi hF K hK
    refine op_val (.slice (some ⟨W.heap.size, 0, none⟩) 0 0) (W.alloc (.cells #[] kCell.ty)) rfl ?_ (hK _ _ (post_new (belA (Below.refl _ _) _) ?_))
    · clear hfor huse hap hmi hK hF
      generalize a.eval = ρ at *
      go_simp
      try rfl
    · show kCell.R _ _ (if _ then _ else _) []
      rw [if_pos rfl]
      exact Kd.R_mono (Kd.R_empty (w := W) kCell (Nat.le_refl _)) (fun k h1 h2 => ⟨h1, h2⟩)
  · intro a W own hfor huse hap hmi hF K hK
    have e1 : a.eval (.tmp 1) = .pointer (some ⟨w.heap.size, 0, none⟩) := hfor 1 (by kernel_rfl)
    refine op_val (.pointer (some ⟨w.heap.size, 2, none⟩)) W rfl ?_ (hK _ _ (post_pure ?_))
    · clear hfor huse hap hmi hK hF
      generalize a.eval = ρ at *
      go_simp
    · exact (if_pos rfl)
  · intro a W own hfor huse hap hmi hF K hK
    have e10 : a.eval (.tmp 10) = .pointer (some ⟨w.heap.size, 2, none⟩) := huse 7 (by kernel_rfl)
    have c2 := foot_cell hF (by omega) p2
    refine op_val (v2) W rfl ?_ (hK _ _ (post_pure ?_))
    · clear hfor huse hap hmi hK hF
      generalize a.eval = ρ at *
      go_simp
    · exact (if_pos rfl)
  · intro a W own hfor huse hap hmi hF K hK
    have e11 : a.eval (.tmp 11) = v2 := huse 8 (by kernel_rfl)
    have r0 : kCell.R W (own 6) (a.eval (.tmp 9)) [] := huse 6 (by kernel_rfl)
    have hV := foot_V hF (fun k h => by have := HB.out k h; omega) (V2.out) (by decide)
    refine step_cells rfl (.tmp 9) (.tmp 11) rfl rfl e11 r0 hV ?_ ?_ (fun v1 w1 hR hF1 => hK _ _ ⟨fun k => own 6 k ∨ (W.heap.size ≤ k ∧ k < w1.heap.size), Foot.mono hF1 (fun k h => ⟨6, by decide, h⟩), ?_, fun k h => Or.imp (fun h => ⟨6, by decide, h⟩) id h⟩)
    · exact fun k h1 h2 => by have h3 := (hmi 6 k h2).1; have h4 := HB.out k h1; have z0 := Z0.out; simp at h3; omega
    · have := L2.out; simpa using this
    · show kCell.R _ _ (if _ then _ else _) x.b
      rw [if_pos rfl]
      exact hR
  · intro a W own hfor huse hap hmi hF K hK
    refine op_val (.slice (some ⟨W.heap.size, 0, none⟩) 0 0) (W.alloc (.cells #[] kCell.ty)) rfl ?_ (hK _ _ (post_new (belA (Below.refl _ _) _) ?_))
    · clear hfor huse hap hmi hK hF
      generalize a.eval = ρ at *
      go_simp
      try rfl
    · show kCell.R _ _ (if _ then _ else _) []
      rw [if_pos rfl]
      exact Kd.R_mono (Kd.R_empty (w := W) kCell (Nat.le_refl _)) (fun k h1 h2 => ⟨h1, h2⟩)
  · intro a W own hfor huse hap hmi hF K hK
    have e1 : a.eval (.tmp 1) = .pointer (some ⟨w.heap.size, 0, none⟩) := hfor 1 (by kernel_rfl)
    refine op_val (.pointer (some ⟨w.heap.size, 3, none⟩)) W rfl ?_ (hK _ _ (post_pure ?_))
    · clear hfor huse hap hmi hK hF
      generalize a.eval = ρ at *
      go_simp
    · exact (if_pos rfl)
  · intro a W own hfor huse hap hmi hF K hK
    have e14 : a.eval (.tmp 14) = .pointer (some ⟨w.heap.size, 3, none⟩) := huse 11 (by kernel_rfl)
    have c3 := foot_cell hF (by omega) p3
    refine op_val (v3) W rfl ?_ (hK _ _ (post_pure ?_))
    · clear hfor huse hap hmi hK hF
      generalize a.eval = ρ at *
      go_simp
    · exact (if_pos rfl)
  · intro a W own hfor huse hap hmi hF K hK
    have e15 : a.eval (.tmp 15) = v3 := huse 12 (by kernel_rfl)
    have r0 : kCell.R W (own 10) (a.eval (.tmp 13)) [] := huse 10 (by kernel_rfl)
    have hV := foot_V hF (fun k h => by have := HB.out k h; omega) (V3.out) (by decide)
    refine step_cells rfl (.tmp 13) (.tmp 15) rfl rfl e15 r0 hV ?_ ?_ (fun v1 w1 hR hF1 => hK _ _ ⟨fun k => own 10 k ∨ (W.heap.size ≤ k ∧ k < w1.heap.size), Foot.mono hF1 (fun k h => ⟨10, by decide, h⟩), ?_, fun k h => Or.imp (fun h => ⟨10, by decide, h⟩) id h⟩)
    · exact fun k h1 h2 => by have h3 := (hmi 10 k h2).1; have h4 := HB.out k h1; have z0 := Z0.out; simp at h3; omega
    · have := L3.out; simpa using this
    · show kCell.R _ _ (if _ then _ else _) x.c
      rw [if_pos rfl]
      exact hR
  · intro a W own hfor huse hap hmi hF K hK
    have r0 : kCell.R W (own 5) (a.eval (.tmp 8)) x.a := huse 5 (by kernel_rfl)
    have r1 : kCell.R W (own 9) (a.eval (.tmp 12)) x.b := huse 9 (by kernel_rfl)
    have r2 : kCell.R W (own 13) (a.eval (.tmp 16)) x.c := huse 13 (by kernel_rfl)
    obtain ⟨A0, n0, e8, -, -⟩ := Kd.R_form r0
    obtain ⟨A1, n1, e12, -, -⟩ := Kd.R_form r1
    obtain ⟨A2, n2, e16, -, -⟩ := Kd.R_form r2
    rw [e8] at r0
    rw [e12] at r1
    rw [e16] at r2
    have e4 : a.eval (.tmp 4) = .int .i64 x.kind := huse 1 (by kernel_rfl)
    refine op_val (.agg #[.int .i64 x.kind, .slice A0 x.a.length n0, .slice A1 x.b.length n1, .slice A2 x.c.length n2]) W rfl ?_ (hK _ _ ⟨fun k => own 5 k ∨ own 9 k ∨ own 13 k, Foot.refl _ _, ?_, ?_⟩)
    · clear hfor huse hap hmi hK hF
      generalize a.eval = ρ at *
      go_simp
    · refine ⟨[.int .i64 x.kind, .slice A0 x.a.length n0, .slice A1 x.b.length n1, .slice A2 x.c.length n2], if_pos rfl, ?_⟩
      exact kGoal_O3 r0 r1 r2 (fun k h1 h2 => by have := hap 5 9 k h1 h2; omega) (fun k h1 h2 => by have := hap 5 13 k h1 h2; omega) (fun k h1 h2 => by have := hap 9 13 k h1 h2; omega)
    · intro k h
      left
      rcases h with h | h | h
      · exact ⟨5, by decide, h⟩
      · exact ⟨9, by decide, h⟩
      · exact ⟨13, by decide, h⟩
  · intro a W own hfor huse hap hmi hF K hK
    have e2 : a.eval (.tmp 2) = .pointer (some ⟨w.heap.size + 1, 0, none⟩) := hfor 2 (by kernel_rfl)
    obtain ⟨cs, e17, hO⟩ := (huse 14 (by kernel_rfl) : onO kGoal 17 x (slotsOf a) (own 14) W)
    have e17 : a.eval (.tmp 17) = .agg cs.toArray := e17
    obtain ⟨hb, hS⟩ := (huse 16 (by kernel_rfl) : onCells (w.heap.size + 1) #[.int .i64 0, .slice none 0 0, .slice none 0 0, .slice none 0 0] 100 (slotsOf a) (own 16) W)
    obtain ⟨y1, y2, y3, rfl, ⟨A1, c1, rfl, -⟩, ⟨A2, c2, rfl, -⟩, ⟨A3, c3, rfl, -⟩⟩ := kGoal_K (kGoal.O_K hO)
    have hn : ∀ k, own 14 k → k ≠ w.heap.size + 1 := fun k h e => by have := hap 14 16 k h (e ▸ hS); omega
    have q := box_at hb
    have q0 := q.2.1 0 _ rfl
    have q1 := q.2.1 1 _ rfl
    have q2 := q.2.1 2 _ rfl
    have q3 := q.2.1 3 _ rfl
    have f0 := q.2.2 0
    have f1 := q.2.2 1
    have f2 := q.2.2 2
    have f3 := q.2.2 3
    have F : Foot (fun k => k = w.heap.size + 1) W ((((W.setCell ⟨w.heap.size + 1, 0, none⟩ (.int .i64 x.kind)).setCell ⟨w.heap.size + 1, 1, none⟩ (.slice A1 x.a.length c1)).setCell ⟨w.heap.size + 1, 2, none⟩ (.slice A2 x.b.length c2)).setCell ⟨w.heap.size + 1, 3, none⟩ (.slice A3 x.c.length c3)) := Foot.set (Foot.set (Foot.set (Foot.set (Foot.refl (fun k => k = w.heap.size + 1) W) (.inl rfl) _ _) (.inl rfl) _ _) (.inl rfl) _ _) (.inl rfl) _ _
    have hb4 := box_store 3 (.slice A3 x.c.length c3) (box_store 2 (.slice A2 x.b.length c2) (box_store 1 (.slice A1 x.a.length c1) (box_store 0 (.int .i64 x.kind) hb)))
    refine op_skip ((((W.setCell ⟨w.heap.size + 1, 0, none⟩ (.int .i64 x.kind)).setCell ⟨w.heap.size + 1, 1, none⟩ (.slice A1 x.a.length c1)).setCell ⟨w.heap.size + 1, 2, none⟩ (.slice A2 x.b.length c2)).setCell ⟨w.heap.size + 1, 3, none⟩ (.slice A3 x.c.length c3)) rfl ?_ (hK _ _ ⟨fun k => own 14 k ∨ k = w.heap.size + 1, Foot.mono F (fun k e => ⟨16, by decide, by subst e; exact hS⟩), ?_, ?_⟩)
    · clear hfor huse hap hmi hK hF q
      generalize a.eval = ρ at *
      go_simp
    · refine ⟨_, by simpa using hb4, .inr rfl, ?_⟩
      exact kGoal.O_mono (F.O hO (fun k h1 h2 => hn k h1 h2)) (fun k h _ => ⟨.inl h, hn k h⟩)
    · intro k h
      left
      rcases h with h | rfl
      · exact ⟨14, by decide, h⟩
      · exact ⟨16, by decide, hS⟩

  intro a' W own hf
  have hsz := hf.st.size
  have hdf := hf.st.rest
  obtain ⟨⟨l⟩, df⟩ := a'
  have hl0 : l.length = 18 := hsz
  clear hsz
  obtain rfl : df = [] := hdf
  obtain ⟨x0, l0, rfl, hl1⟩ := lst_cons hl0
  clear hl0
  obtain ⟨x1, l1, rfl, hl2⟩ := lst_cons hl1
  clear hl1
  obtain ⟨x2, l2, rfl, hl3⟩ := lst_cons hl2
  clear hl2
  obtain ⟨x3, l3, rfl, hl4⟩ := lst_cons hl3
  clear hl3
  obtain ⟨x4, l4, rfl, hl5⟩ := lst_cons hl4
  clear hl4
  obtain ⟨x5, l5, rfl, hl6⟩ := lst_cons hl5
  clear hl5
  obtain ⟨x6, l6, rfl, hl7⟩ := lst_cons hl6
  clear hl6
  obtain ⟨x7, l7, rfl, hl8⟩ := lst_cons hl7
  clear hl7
  obtain ⟨x8, l8, rfl, hl9⟩ := lst_cons hl8
  clear hl8
  obtain ⟨x9, l9, rfl, hl10⟩ := lst_cons hl9
  clear hl9
  obtain ⟨x10, l10, rfl, hl11⟩ := lst_cons hl10
  clear hl10
  obtain ⟨x11, l11, rfl, hl12⟩ := lst_cons hl11
  clear hl11
  obtain ⟨x12, l12, rfl, hl13⟩ := lst_cons hl12
  clear hl12
  obtain ⟨x13, l13, rfl, hl14⟩ := lst_cons hl13
  clear hl13
  obtain ⟨x14, l14, rfl, hl15⟩ := lst_cons hl14
  clear hl14
  obtain ⟨x15, l15, rfl, hl16⟩ := lst_cons hl15
  clear hl15
  obtain ⟨x16, l16, rfl, hl17⟩ := lst_cons hl16
  clear hl16
  obtain ⟨x17, l17, rfl, hl18⟩ := lst_cons hl17
  clear hl17
  obtain rfl := List.eq_nil_of_length_eq_zero hl18
  have e2 : x2 = .pointer (some ⟨w.heap.size + 1, 0, none⟩) := hf.st.kept 2 (by kernel_rfl)
  subst e2
  obtain ⟨cs, hb, hS, hO⟩ := (hf.get 15 (by kernel_rfl) : onAt kGoal (w.heap.size + 1) 100 x _ (own 15) W)
  obtain ⟨y1, y2, y3, rfl, ⟨A1, c1, rfl, -⟩, ⟨A2, c2, rfl, -⟩, ⟨A3, c3, rfl, -⟩⟩ := kGoal_K (kGoal.O_K hO)
  have q := box_at hb
  have q0 := q.2.1 0 _ rfl
  have q1 := q.2.1 1 _ rfl
  have q2 := q.2.1 2 _ rfl
  have q3 := q.2.1 3 _ rfl
  have HO := Sec.mk hO
  have HF := Sec.mk (hf.st.foot)
  have HM := Sec.mk (hf.st.mine)
  clear hf q hb hO hS
  go_wp2
  refine bodyPost_ret (v := .agg #[.int .i64 x.kind, .slice A1 x.a.length c1, .slice A2 x.b.length c2, .slice A3 x.c.length c3]) (by simp [results, Tryz.results199, go_sem, q0, q1, q2, q3]) rfl ⟨[.int .i64 x.kind, .slice A1 x.a.length c1, .slice A2 x.b.length c2, .slice A3 x.c.length c3], rfl, ?_, ?_⟩
  · exact kGoal.O_mono HO.out (fun k h _ => by
      have h1 := (HM.out 15 k h.1).1
      have z := B0.out.size
      rcases h1 with h1 | h1
      · exact Nat.le_trans z h1
      · have h2 : k = w.heap.size + 1 := h1
        omega)
  · exact HF.out.below (belD B0.out) (fun k h => by have h1 : k = w.heap.size + 1 := h; omega)
end
end Go.Proofs.YtgiobpggonceeaaGreatDoor
