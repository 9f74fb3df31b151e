/- Contracts: what may stand in a program (the reference); and what goes with it. -/
import Derived.Test.YtgiobpggonceeaaGreatDoorSn1
import Derived.Test.YtgiobpggonceeaaGreatDoorSn2
import Derived.Test.YtgiobpggonceeaaGreatDoorSn3
import Derived.Test.YtgiobpggonceeaaGreatDoorSn4
import Derived.BigQuiet
import Derived.Deep.RegionHeld3
namespace Go.Proofs.YtgiobpggonceeaaGreatDoor
section
open Go.RowKit
set_option linter.unusedVariables false
set_option maxRecDepth 100000
theorem l3Term_c (v : Value) (t : Term) (ok : Nat → Prop) (w : World) (hV : kCell.V w ok v t) :
    Calls Tryz.prog 144 #[v] w fun e w' => e = .returned (.bool (termIn t)) ∧ Below w.heap.size w w' := by
  have HV := Sec.mk hV
  obtain ⟨A, c, rfl, h1, h2, h3, hC, -⟩ := hV
  have HC := Sec.mk hC
  clear hC
  cases ht : trmOk t with
  | false =>
    have HE : Sec (termIn t = false) := ⟨by simp [termIn, ht]⟩
    have H1 := Sec.mk ht
    clear ht
    go_enter Tryz.func144, Tryz.ntmps144
    go_wp2_with (go_at_call 12; refine (TrmOk_c _ t _ _ HV.out).mono ?_; rw [H1.out]; rintro e w1 ⟨rfl, hb⟩; have B1 := Sec.mk hb; clear hb)
    go_ret
    exact ⟨rb HE.out.symm, B1.out⟩
  | true =>
    have H1 := Sec.mk ht
    by_cases hl : t.length ≤ 12
    · have HL : Sec (termIn t = t.all varIn) := ⟨by simp [termIn, ht, hl]⟩
      clear ht
      have q1 : decide ((t.length : Int) > 12) = false := decide_eq_false (by omega)
      go_enter Tryz.func144, Tryz.ntmps144
      go_wp2_with (go_at_call 12; refine (TrmOk_c _ t _ _ HV.out).mono ?_; rw [H1.out]; rintro e w1 ⟨rfl, hb⟩; have B1 := Sec.mk hb; clear hb)
      go_loopw [3] (fun i wr => ∃ k : Nat, k ≤ t.length ∧ i = .int .i64 k ∧ Sec ((t.take k).all varIn = true) ∧ Sec (Below w.heap.size w wr)) (fun i _ => t.length - (intOf i).toNat)
      case atStart => exact ⟨0, Nat.zero_le _, rfl, ⟨by simp⟩, B1⟩
      case round =>
        obtain ⟨k, hk, rfl, hT, hb⟩ := hrel
        by_cases hlt : k < t.length
        · obtain ⟨b, off, rfl, _, x0, x1, -, -⟩ := cell_at (Kd.C_below HC.out hb.out (by decide)) k hlt
          have hTk : Sec ((t.take (k + 1)).all varIn = varIn t[k]) := ⟨by rw [take_all varIn t k hlt, hT.out, Bool.true_and]⟩
          have hAll : Sec (varIn t[k] = false → t.all varIn = false) := ⟨fun h => List.all_eq_false.2 ⟨t[k], List.getElem_mem hlt, by rw [h]; decide⟩⟩
          generalize t[k] = x at *
          have i0 : (0 : Int) ≤ (k : Int) := by omega
          have i1 : (k : Int) < (t.length : Int) := by omega
          by_cases hk1 : x.kind = 1
          · have g1 : (x.kind == 1) = true := beq_iff_eq.2 hk1
            by_cases hn : 8 ≤ x.n
            · have HE : Sec (termIn t = false) := ⟨by rw [HL.out]; exact hAll.out (by simp [varIn, hk1, hn])⟩
              have g2 : decide (x.n ≥ 8) = true := decide_eq_true hn
              clear hk1
              go_wp2
              go_ret
              exact ⟨rb HE.out.symm, hb.out⟩
            · have HE : Sec ((t.take (k + 1)).all varIn = true) := ⟨by rw [hTk.out]; simp [varIn, hn]⟩
              have g2 : decide (x.n ≥ 8) = false := decide_eq_false hn
              clear hk1
              go_wp2
              go_roundw
              case rel => exact ⟨k + 1, by omega, by go_num, HE, hb⟩
              case measure => simp [intOf]; omega
          · have g1 : (x.kind == 1) = false := beq_eq_false_iff_ne.2 hk1
            have HE : Sec ((t.take (k + 1)).all varIn = true) := ⟨by rw [hTk.out]; simp [varIn, hk1]⟩
            clear hk1
            go_wp2
            go_roundw
            case rel => exact ⟨k + 1, by omega, by go_num, HE, hb⟩
            case measure => simp [intOf]; omega
        · have HE : Sec (termIn t = true) := ⟨by rw [HL.out]; have := hT.out; rwa [List.take_of_length_le (by omega)] at this⟩
          go_wp2
          go_ret
          exact ⟨rb HE.out.symm, hb.out⟩
    · have HE : Sec (termIn t = false) := ⟨by simp [termIn, hl]⟩
      clear ht
      have q1 : decide ((t.length : Int) > 12) = true := decide_eq_true (by omega)
      go_enter Tryz.func144, Tryz.ntmps144
      go_wp2_with (go_at_call 12; refine (TrmOk_c _ t _ _ HV.out).mono ?_; rw [H1.out]; rintro e w1 ⟨rfl, hb⟩; have B1 := Sec.mk hb; clear hb)
      go_ret
      exact ⟨rb HE.out.symm, B1.out⟩
set_option maxHeartbeats 2000000 in
theorem specGoalOk_c (g : Goal) (cs : List Value) (ok : Nat → Prop) (w : World) (hK : kGoal.K w ok g cs) :
    Calls Tryz.prog 145 #[.agg cs.toArray] w fun e w' => e = .returned (.bool (goalOk g)) ∧ Below w.heap.size w w' := by
  obtain ⟨v1, v2, v3, rfl, h1, h2, h3⟩ := kGoal_K hK
  have H1 := Sec.mk h1
  have H2 := Sec.mk h2
  have H3 := Sec.mk h3
  obtain ⟨E1, m1, rfl, -, -, l1, -⟩ := h1
  obtain ⟨E2, m2, rfl, -, -, l2, -⟩ := h2
  obtain ⟨E3, m3, rfl, -, -, l3, -⟩ := h3
  have B0 := Sec.mk (belA (Below.refl w.heap.size w) (.cells #[.int .i64 g.kind, .slice E1 g.a.length m1, .slice E2 g.b.length m2, .slice E3 g.c.length m3] 100))
  have P0 := Sec.mk (heap_alloc_new w (.cells #[.int .i64 g.kind, .slice E1 g.a.length m1, .slice E2 g.b.length m2, .slice E3 g.c.length m3] 100))
  have T0 : Sec True := ⟨trivial⟩
  clear hK
  have X := (box_at P0.out).2.1
  have y0 := X 0 _ rfl
  have y1 := X 1 _ rfl
  have y2 := X 2 _ rfl
  have y3 := X 3 _ rfl
  clear X
  have w1 : IntKind.i64.wrap ((g.b.length : Int) + (g.c.length : Int)) = (g.b.length : Int) + (g.c.length : Int) := IntWalk.i64_in _ (by omega)
  have w2 : IntKind.i64.wrap ((g.a.length : Int) + (g.b.length : Int)) = (g.a.length : Int) + (g.b.length : Int) := IntWalk.i64_in _ (by omega)
  have w3 : IntKind.i64.wrap ((g.a.length : Int) + (g.b.length : Int) + (g.c.length : Int)) = (g.a.length : Int) + (g.b.length : Int) + (g.c.length : Int) := IntWalk.i64_in _ (by omega)
  obtain ⟨q1, hq1⟩ : ∃ q, ((g.b.length : Int) + (g.c.length : Int) == 0) = q := ⟨_, rfl⟩
  obtain ⟨q2, hq2⟩ : ∃ q, ((g.a.length : Int) + (g.b.length : Int) + (g.c.length : Int) == 0) = q := ⟨_, rfl⟩
  obtain ⟨q3, hq3⟩ : ∃ q, ((g.c.length : Int) == 0) = q := ⟨_, rfl⟩
  have HG := Sec.mk (goalOk_int g)
  rw [hq1, hq2, hq3] at HG
  obtain ⟨a, ha⟩ : ∃ a, termIn g.a = a := ⟨_, rfl⟩
  obtain ⟨b, hb⟩ : ∃ b, termIn g.b = b := ⟨_, rfl⟩
  obtain ⟨c, hc⟩ : ∃ c, termIn g.c = c := ⟨_, rfl⟩
  obtain ⟨d, hd⟩ : ∃ d, headFun g.a = d := ⟨_, rfl⟩
  have HA := Sec.mk ha
  have HB := Sec.mk hb
  have HC := Sec.mk hc
  have HD := Sec.mk hd
  rw [ha, hb, hc, hd] at HG
  clear ha hb hc hd
  rcases Decidable.em (g.kind = 1) with hk | hk
  · have HE := Sec.mk (goalOkI_1 hk HG.out)
    have k1 : (g.kind == 1) = true := by rw [hk]; rfl
    have k2 : (g.kind == 2) = false := by rw [hk]; rfl
    have k3 : (g.kind == 3) = false := by rw [hk]; rfl
    have k4 : (g.kind == 4) = false := by rw [hk]; rfl
    have k5 : (g.kind == 5) = false := by rw [hk]; rfl
    clear hk HG
    cases a with
    | false =>
      go_enter Tryz.func145, Tryz.ntmps145
      go_wp2_with (first | (clear T0; go_at_call 144; have T1 : Sec True := ⟨trivial⟩; refine (l3Term_c _ g.a ok _ (Kd.V_below H1.out B0.out (by decide))).mono ?_; rw [HA.out]; rintro e w1 ⟨rfl, hb⟩; have B1 := Sec.mk (bel B0.out hb); have P1 := Sec.mk ((hb.block _ (Array.getElem?_eq_some_iff.1 P0.out).1).trans P0.out); have X := (box_at P1.out).2.1; have y1 := X 1 _ rfl; have y2 := X 2 _ rfl; have y3 := X 3 _ rfl; clear hb X))
      go_ret
      exact ⟨rb HE.out.symm, B1.out⟩
    | true =>
      cases d with
      | false =>
        go_enter Tryz.func145, Tryz.ntmps145
        go_wp2_with (first | (clear T1; go_at_call 124; have T2 : Sec True := ⟨trivial⟩; refine (l3Call_c _ g.a ok _ (Kd.V_below H1.out B1.out (by decide))).mono ?_; rw [HD.out]; rintro e w2 ⟨rfl, hb⟩; have B2 := Sec.mk (bel B1.out hb); have P2 := Sec.mk ((hb.block _ (Array.getElem?_eq_some_iff.1 P1.out).1).trans P1.out); have X := (box_at P2.out).2.1; have y1 := X 1 _ rfl; have y2 := X 2 _ rfl; have y3 := X 3 _ rfl; clear hb X) | (clear T0; go_at_call 144; have T1 : Sec True := ⟨trivial⟩; refine (l3Term_c _ g.a ok _ (Kd.V_below H1.out B0.out (by decide))).mono ?_; rw [HA.out]; rintro e w1 ⟨rfl, hb⟩; have B1 := Sec.mk (bel B0.out hb); have P1 := Sec.mk ((hb.block _ (Array.getElem?_eq_some_iff.1 P0.out).1).trans P0.out); have X := (box_at P1.out).2.1; have y1 := X 1 _ rfl; have y2 := X 2 _ rfl; have y3 := X 3 _ rfl; clear hb X))
        go_ret
        exact ⟨rb HE.out.symm, B2.out⟩
      | true =>
        go_enter Tryz.func145, Tryz.ntmps145
        go_wp2_with (first | (clear T1; go_at_call 124; have T2 : Sec True := ⟨trivial⟩; refine (l3Call_c _ g.a ok _ (Kd.V_below H1.out B1.out (by decide))).mono ?_; rw [HD.out]; rintro e w2 ⟨rfl, hb⟩; have B2 := Sec.mk (bel B1.out hb); have P2 := Sec.mk ((hb.block _ (Array.getElem?_eq_some_iff.1 P1.out).1).trans P1.out); have X := (box_at P2.out).2.1; have y1 := X 1 _ rfl; have y2 := X 2 _ rfl; have y3 := X 3 _ rfl; clear hb X) | (clear T0; go_at_call 144; have T1 : Sec True := ⟨trivial⟩; refine (l3Term_c _ g.a ok _ (Kd.V_below H1.out B0.out (by decide))).mono ?_; rw [HA.out]; rintro e w1 ⟨rfl, hb⟩; have B1 := Sec.mk (bel B0.out hb); have P1 := Sec.mk ((hb.block _ (Array.getElem?_eq_some_iff.1 P0.out).1).trans P0.out); have X := (box_at P1.out).2.1; have y1 := X 1 _ rfl; have y2 := X 2 _ rfl; have y3 := X 3 _ rfl; clear hb X))
        go_ret
        exact ⟨rb HE.out.symm, B2.out⟩
  rcases Decidable.em (g.kind = 3) with hk | hk
  · have HE := Sec.mk (goalOkI_3 hk HG.out)
    have k1 : (g.kind == 1) = false := by rw [hk]; rfl
    have k2 : (g.kind == 2) = false := by rw [hk]; rfl
    have k3 : (g.kind == 3) = true := by rw [hk]; rfl
    have k4 : (g.kind == 4) = false := by rw [hk]; rfl
    have k5 : (g.kind == 5) = false := by rw [hk]; rfl
    clear hk HG
    go_enter Tryz.func145, Tryz.ntmps145
    go_wp2
    go_ret
    exact ⟨rb HE.out.symm, B0.out⟩
  rcases Decidable.em (g.kind = 2) with hk | hk
  · have HE := Sec.mk (goalOkI_2 hk HG.out)
    have k1 : (g.kind == 1) = false := by rw [hk]; rfl
    have k2 : (g.kind == 2) = true := by rw [hk]; rfl
    have k3 : (g.kind == 3) = false := by rw [hk]; rfl
    have k4 : (g.kind == 4) = false := by rw [hk]; rfl
    have k5 : (g.kind == 5) = false := by rw [hk]; rfl
    clear hk HG
    cases a with
    | false =>
      go_enter Tryz.func145, Tryz.ntmps145
      go_wp2_with (first | (clear T0; go_at_call 144; have T1 : Sec True := ⟨trivial⟩; refine (l3Term_c _ g.a ok _ (Kd.V_below H1.out B0.out (by decide))).mono ?_; rw [HA.out]; rintro e w1 ⟨rfl, hb⟩; have B1 := Sec.mk (bel B0.out hb); have P1 := Sec.mk ((hb.block _ (Array.getElem?_eq_some_iff.1 P0.out).1).trans P0.out); have X := (box_at P1.out).2.1; have y1 := X 1 _ rfl; have y2 := X 2 _ rfl; have y3 := X 3 _ rfl; clear hb X))
      go_ret
      exact ⟨rb HE.out.symm, B1.out⟩
    | true =>
      cases b with
      | false =>
        go_enter Tryz.func145, Tryz.ntmps145
        go_wp2_with (first | (clear T1; go_at_call 144; have T2 : Sec True := ⟨trivial⟩; refine (l3Term_c _ g.b ok _ (Kd.V_below H2.out B1.out (by decide))).mono ?_; rw [HB.out]; rintro e w2 ⟨rfl, hb⟩; have B2 := Sec.mk (bel B1.out hb); have P2 := Sec.mk ((hb.block _ (Array.getElem?_eq_some_iff.1 P1.out).1).trans P1.out); have X := (box_at P2.out).2.1; have y1 := X 1 _ rfl; have y2 := X 2 _ rfl; have y3 := X 3 _ rfl; clear hb X) | (clear T0; go_at_call 144; have T1 : Sec True := ⟨trivial⟩; refine (l3Term_c _ g.a ok _ (Kd.V_below H1.out B0.out (by decide))).mono ?_; rw [HA.out]; rintro e w1 ⟨rfl, hb⟩; have B1 := Sec.mk (bel B0.out hb); have P1 := Sec.mk ((hb.block _ (Array.getElem?_eq_some_iff.1 P0.out).1).trans P0.out); have X := (box_at P1.out).2.1; have y1 := X 1 _ rfl; have y2 := X 2 _ rfl; have y3 := X 3 _ rfl; clear hb X))
        go_ret
        exact ⟨rb HE.out.symm, B2.out⟩
      | true =>
        go_enter Tryz.func145, Tryz.ntmps145
        go_wp2_with (first | (clear T1; go_at_call 144; have T2 : Sec True := ⟨trivial⟩; refine (l3Term_c _ g.b ok _ (Kd.V_below H2.out B1.out (by decide))).mono ?_; rw [HB.out]; rintro e w2 ⟨rfl, hb⟩; have B2 := Sec.mk (bel B1.out hb); have P2 := Sec.mk ((hb.block _ (Array.getElem?_eq_some_iff.1 P1.out).1).trans P1.out); have X := (box_at P2.out).2.1; have y1 := X 1 _ rfl; have y2 := X 2 _ rfl; have y3 := X 3 _ rfl; clear hb X) | (clear T0; go_at_call 144; have T1 : Sec True := ⟨trivial⟩; refine (l3Term_c _ g.a ok _ (Kd.V_below H1.out B0.out (by decide))).mono ?_; rw [HA.out]; rintro e w1 ⟨rfl, hb⟩; have B1 := Sec.mk (bel B0.out hb); have P1 := Sec.mk ((hb.block _ (Array.getElem?_eq_some_iff.1 P0.out).1).trans P0.out); have X := (box_at P1.out).2.1; have y1 := X 1 _ rfl; have y2 := X 2 _ rfl; have y3 := X 3 _ rfl; clear hb X))
        go_ret
        exact ⟨rb HE.out.symm, B2.out⟩
  rcases Decidable.em (g.kind = 4) with hk | hk
  · have HE := Sec.mk (goalOkI_4 hk HG.out)
    have k1 : (g.kind == 1) = false := by rw [hk]; rfl
    have k2 : (g.kind == 2) = false := by rw [hk]; rfl
    have k3 : (g.kind == 3) = false := by rw [hk]; rfl
    have k4 : (g.kind == 4) = true := by rw [hk]; rfl
    have k5 : (g.kind == 5) = false := by rw [hk]; rfl
    clear hk HG
    cases a with
    | false =>
      go_enter Tryz.func145, Tryz.ntmps145
      go_wp2_with (first | (clear T0; go_at_call 144; have T1 : Sec True := ⟨trivial⟩; refine (l3Term_c _ g.a ok _ (Kd.V_below H1.out B0.out (by decide))).mono ?_; rw [HA.out]; rintro e w1 ⟨rfl, hb⟩; have B1 := Sec.mk (bel B0.out hb); have P1 := Sec.mk ((hb.block _ (Array.getElem?_eq_some_iff.1 P0.out).1).trans P0.out); have X := (box_at P1.out).2.1; have y1 := X 1 _ rfl; have y2 := X 2 _ rfl; have y3 := X 3 _ rfl; clear hb X))
      go_ret
      exact ⟨rb HE.out.symm, B1.out⟩
    | true =>
      cases b with
      | false =>
        go_enter Tryz.func145, Tryz.ntmps145
        go_wp2_with (first | (clear T1; go_at_call 144; have T2 : Sec True := ⟨trivial⟩; refine (l3Term_c _ g.b ok _ (Kd.V_below H2.out B1.out (by decide))).mono ?_; rw [HB.out]; rintro e w2 ⟨rfl, hb⟩; have B2 := Sec.mk (bel B1.out hb); have P2 := Sec.mk ((hb.block _ (Array.getElem?_eq_some_iff.1 P1.out).1).trans P1.out); have X := (box_at P2.out).2.1; have y1 := X 1 _ rfl; have y2 := X 2 _ rfl; have y3 := X 3 _ rfl; clear hb X) | (clear T0; go_at_call 144; have T1 : Sec True := ⟨trivial⟩; refine (l3Term_c _ g.a ok _ (Kd.V_below H1.out B0.out (by decide))).mono ?_; rw [HA.out]; rintro e w1 ⟨rfl, hb⟩; have B1 := Sec.mk (bel B0.out hb); have P1 := Sec.mk ((hb.block _ (Array.getElem?_eq_some_iff.1 P0.out).1).trans P0.out); have X := (box_at P1.out).2.1; have y1 := X 1 _ rfl; have y2 := X 2 _ rfl; have y3 := X 3 _ rfl; clear hb X))
        go_ret
        exact ⟨rb HE.out.symm, B2.out⟩
      | true =>
        go_enter Tryz.func145, Tryz.ntmps145
        go_wp2_with (first | (clear T1; go_at_call 144; have T2 : Sec True := ⟨trivial⟩; refine (l3Term_c _ g.b ok _ (Kd.V_below H2.out B1.out (by decide))).mono ?_; rw [HB.out]; rintro e w2 ⟨rfl, hb⟩; have B2 := Sec.mk (bel B1.out hb); have P2 := Sec.mk ((hb.block _ (Array.getElem?_eq_some_iff.1 P1.out).1).trans P1.out); have X := (box_at P2.out).2.1; have y1 := X 1 _ rfl; have y2 := X 2 _ rfl; have y3 := X 3 _ rfl; clear hb X) | (clear T0; go_at_call 144; have T1 : Sec True := ⟨trivial⟩; refine (l3Term_c _ g.a ok _ (Kd.V_below H1.out B0.out (by decide))).mono ?_; rw [HA.out]; rintro e w1 ⟨rfl, hb⟩; have B1 := Sec.mk (bel B0.out hb); have P1 := Sec.mk ((hb.block _ (Array.getElem?_eq_some_iff.1 P0.out).1).trans P0.out); have X := (box_at P1.out).2.1; have y1 := X 1 _ rfl; have y2 := X 2 _ rfl; have y3 := X 3 _ rfl; clear hb X))
        go_ret
        exact ⟨rb HE.out.symm, B2.out⟩
  rcases Decidable.em (g.kind = 5) with hk | hk
  · have HE := Sec.mk (goalOkI_5 hk HG.out)
    have k1 : (g.kind == 1) = false := by rw [hk]; rfl
    have k2 : (g.kind == 2) = false := by rw [hk]; rfl
    have k3 : (g.kind == 3) = false := by rw [hk]; rfl
    have k4 : (g.kind == 4) = false := by rw [hk]; rfl
    have k5 : (g.kind == 5) = true := by rw [hk]; rfl
    clear hk HG
    cases a with
    | false =>
      go_enter Tryz.func145, Tryz.ntmps145
      go_wp2_with (first | (clear T0; go_at_call 144; have T1 : Sec True := ⟨trivial⟩; refine (l3Term_c _ g.a ok _ (Kd.V_below H1.out B0.out (by decide))).mono ?_; rw [HA.out]; rintro e w1 ⟨rfl, hb⟩; have B1 := Sec.mk (bel B0.out hb); have P1 := Sec.mk ((hb.block _ (Array.getElem?_eq_some_iff.1 P0.out).1).trans P0.out); have X := (box_at P1.out).2.1; have y1 := X 1 _ rfl; have y2 := X 2 _ rfl; have y3 := X 3 _ rfl; clear hb X))
      go_ret
      exact ⟨rb HE.out.symm, B1.out⟩
    | true =>
      cases b with
      | false =>
        go_enter Tryz.func145, Tryz.ntmps145
        go_wp2_with (first | (clear T1; go_at_call 144; have T2 : Sec True := ⟨trivial⟩; refine (l3Term_c _ g.b ok _ (Kd.V_below H2.out B1.out (by decide))).mono ?_; rw [HB.out]; rintro e w2 ⟨rfl, hb⟩; have B2 := Sec.mk (bel B1.out hb); have P2 := Sec.mk ((hb.block _ (Array.getElem?_eq_some_iff.1 P1.out).1).trans P1.out); have X := (box_at P2.out).2.1; have y1 := X 1 _ rfl; have y2 := X 2 _ rfl; have y3 := X 3 _ rfl; clear hb X) | (clear T0; go_at_call 144; have T1 : Sec True := ⟨trivial⟩; refine (l3Term_c _ g.a ok _ (Kd.V_below H1.out B0.out (by decide))).mono ?_; rw [HA.out]; rintro e w1 ⟨rfl, hb⟩; have B1 := Sec.mk (bel B0.out hb); have P1 := Sec.mk ((hb.block _ (Array.getElem?_eq_some_iff.1 P0.out).1).trans P0.out); have X := (box_at P1.out).2.1; have y1 := X 1 _ rfl; have y2 := X 2 _ rfl; have y3 := X 3 _ rfl; clear hb X))
        go_ret
        exact ⟨rb HE.out.symm, B2.out⟩
      | true =>
        go_enter Tryz.func145, Tryz.ntmps145
        go_wp2_with (first | (clear T2; go_at_call 144; have T3 : Sec True := ⟨trivial⟩; refine (l3Term_c _ g.c ok _ (Kd.V_below H3.out B2.out (by decide))).mono ?_; rw [HC.out]; rintro e w3 ⟨rfl, hb⟩; have B3 := Sec.mk (bel B2.out hb); have P3 := Sec.mk ((hb.block _ (Array.getElem?_eq_some_iff.1 P2.out).1).trans P2.out); have X := (box_at P3.out).2.1; have y1 := X 1 _ rfl; have y2 := X 2 _ rfl; have y3 := X 3 _ rfl; clear hb X) | (clear T1; go_at_call 144; have T2 : Sec True := ⟨trivial⟩; refine (l3Term_c _ g.b ok _ (Kd.V_below H2.out B1.out (by decide))).mono ?_; rw [HB.out]; rintro e w2 ⟨rfl, hb⟩; have B2 := Sec.mk (bel B1.out hb); have P2 := Sec.mk ((hb.block _ (Array.getElem?_eq_some_iff.1 P1.out).1).trans P1.out); have X := (box_at P2.out).2.1; have y1 := X 1 _ rfl; have y2 := X 2 _ rfl; have y3 := X 3 _ rfl; clear hb X) | (clear T0; go_at_call 144; have T1 : Sec True := ⟨trivial⟩; refine (l3Term_c _ g.a ok _ (Kd.V_below H1.out B0.out (by decide))).mono ?_; rw [HA.out]; rintro e w1 ⟨rfl, hb⟩; have B1 := Sec.mk (bel B0.out hb); have P1 := Sec.mk ((hb.block _ (Array.getElem?_eq_some_iff.1 P0.out).1).trans P0.out); have X := (box_at P1.out).2.1; have y1 := X 1 _ rfl; have y2 := X 2 _ rfl; have y3 := X 3 _ rfl; clear hb X))
        go_ret
        exact ⟨rb HE.out.symm, B3.out⟩
  have HE := Sec.mk (goalOkI_0 (by assumption) (by assumption) (by assumption) (by assumption) (by assumption) HG.out)
  clear HG
  have k1 : (g.kind == 1) = false := beq_eq_false_iff_ne.2 (by assumption)
  have k2 : (g.kind == 2) = false := beq_eq_false_iff_ne.2 (by assumption)
  have k3 : (g.kind == 3) = false := beq_eq_false_iff_ne.2 (by assumption)
  have k4 : (g.kind == 4) = false := beq_eq_false_iff_ne.2 (by assumption)
  have k5 : (g.kind == 5) = false := beq_eq_false_iff_ne.2 (by assumption)
  go_enter Tryz.func145, Tryz.ntmps145
  go_wp2
  go_ret
  exact ⟨rb HE.out.symm, B0.out⟩
theorem l3Place_c (p : Place) (w : World) :
    Calls Tryz.prog 60 #[.agg #[.string p.name, .int .i64 p.n, .int .i64 p.node]] w fun e w' => e = .returned (.bool (placeOk p)) ∧ Below w.heap.size w w' := by
  have B0 := Sec.mk (belA (Below.refl w.heap.size w) (.cells #[.string p.name, .int .i64 p.n, .int .i64 p.node] 116))
  have P0 := heap_alloc_new w (.cells #[.string p.name, .int .i64 p.n, .int .i64 p.node] 116)
  have X := (box_at P0).2.1
  have y0 := X 0 _ rfl
  have y1 := X 1 _ rfl
  have y2 := X 2 _ rfl
  clear X P0
  have HE : Sec (placeOk p = (nameOk p.name && inB p.n 0 3 && inB p.node 1 2)) := ⟨rfl⟩
  cases h1 : nameOk p.name with
  | false =>
    rw [h1] at HE
    have H1 := Sec.mk h1
    clear h1
    go_enter Tryz.func60, Tryz.ntmps60
    go_wp2_with (go_at_call 128; refine (l1Name_c _ _).mono ?_; rw [H1.out]; rintro e w1 ⟨rfl, rfl⟩)
    go_ret
    exact ⟨rb HE.out.symm, B0.out⟩
  | true =>
    cases h2 : inB p.n 0 3 with
    | false =>
      rw [h1, h2] at HE
      have H1 := Sec.mk h1
      have H2 := Sec.mk h2
      clear h1 h2
      go_enter Tryz.func60, Tryz.ntmps60
      go_wp2_with (first | (go_at_call 128; refine (l1Name_c _ _).mono ?_; rw [H1.out]; rintro e w1 ⟨rfl, rfl⟩) | (go_at_call 127; refine (l1In_c _ _ _ _).mono ?_; rw [H2.out]; rintro e w1 ⟨rfl, rfl⟩))
      go_ret
      exact ⟨rb HE.out.symm, B0.out⟩
    | true =>
      rw [h1, h2] at HE
      have H1 := Sec.mk h1
      have H2 := Sec.mk h2
      clear h1 h2
      go_enter Tryz.func60, Tryz.ntmps60
      go_wp2_with (first | (go_at_call 128; refine (l1Name_c _ _).mono ?_; rw [H1.out]; rintro e w1 ⟨rfl, rfl⟩) | (go_at_call 127; refine (l1In_c _ _ _ _).mono ?_; rw [H2.out]; rintro e w1 ⟨rfl, rfl⟩) | (go_at_call 127; refine (l1In_c _ _ _ _).mono ?_; rintro e w1 ⟨rfl, rfl⟩))
      go_ret
      exact ⟨rb HE.out.symm, B0.out⟩
end
section
open Go.RowKit
set_option linter.unusedVariables false
set_option maxRecDepth 100000
theorem goal_at {w : World} {ok : Nat → Prop} {A : Option Addr} {xs : List Goal} (h : kGoal.C w ok A xs) (i : Nat) (hi : i < xs.length) : ∃ b off E1 m1 E2 m2 E3 m3, A = some ⟨b, off, none⟩ ∧ ok b ∧
    w.cell? ⟨b, off + i * 4, none⟩ = some (.int .i64 xs[i].kind) ∧ w.cell? ⟨b, off + i * 4 + 1, none⟩ = some (.slice E1 xs[i].a.length m1) ∧ w.cell? ⟨b, off + i * 4 + 2, none⟩ = some (.slice E2 xs[i].b.length m2) ∧ w.cell? ⟨b, off + i * 4 + 3, none⟩ = some (.slice E3 xs[i].c.length m3) ∧
    kGoal.K w ok xs[i] [.int .i64 xs[i].kind, .slice E1 xs[i].a.length m1, .slice E2 xs[i].b.length m2, .slice E3 xs[i].c.length m3] := by
  obtain ⟨b, off, cs, hA, hb, hK, hc⟩ := Kd.C_get h (List.getElem?_eq_getElem hi)
  obtain ⟨v1, v2, v3, rfl, ⟨E1, m1, rfl, -⟩, ⟨E2, m2, rfl, -⟩, ⟨E3, m3, rfl, -⟩⟩ := kGoal_K hK
  exact ⟨b, off, E1, m1, E2, m2, E3, m3, hA, hb, hc 0 _ rfl, hc 1 _ rfl, hc 2 _ rfl, hc 3 _ rfl, hK⟩
theorem clauseOk_1 {c : Clause} (h : termIn c.head = false) : clauseOk c = false := by simp [clauseOk, h]
theorem clauseOk_2 {c : Clause} (h : headFun c.head = false) : clauseOk c = false := by simp [clauseOk, h]
theorem clauseOk_3 {c : Clause} (h : ¬ c.body.length ≤ 4) : clauseOk c = false := by simp [clauseOk, h]
theorem clauseOk_4 {c : Clause} (h1 : termIn c.head = true) (h2 : headFun c.head = true) (h3 : c.body.length ≤ 4) : clauseOk c = c.body.all goalOk := by simp [clauseOk, h1, h2, h3]
set_option maxHeartbeats 2000000 in
theorem l3Clause_c (c : Clause) (cs : List Value) (ok : Nat → Prop) (w : World) (hK : kClause.K w ok c cs) :
    Calls Tryz.prog 59 #[.agg cs.toArray] w fun e w' => e = .returned (.bool (clauseOk c)) ∧ Below w.heap.size w w' := by
  obtain ⟨v0, v1, rfl, h0, h1⟩ := kClause_K hK
  have H0 := Sec.mk h0
  obtain ⟨E0, m0, rfl, -, -, l0, -⟩ := h0
  obtain ⟨E1, m1, rfl, -, -, l1, hC, -⟩ := h1
  have B0 := Sec.mk (belA (Below.refl w.heap.size w) (.cells #[.slice E0 c.head.length m0, .slice E1 c.body.length m1] 113))
  have P0 := Sec.mk (heap_alloc_new w (.cells #[.slice E0 c.head.length m0, .slice E1 c.body.length m1] 113))
  have HC := Sec.mk hC
  have T0 : Sec True := ⟨trivial⟩
  clear hK hC
  have X := (box_at P0.out).2.1
  have y0 := X 0 _ rfl
  have y1 := X 1 _ rfl
  clear X
  cases ht : termIn c.head with
  | false =>
    have HE : Sec (clauseOk c = false) := ⟨clauseOk_1 ht⟩
    have H1 := Sec.mk ht
    clear ht
    go_enter Tryz.func59, Tryz.ntmps59
    go_wp2_with (go_at_call 144; refine (l3Term_c _ c.head ok _ (Kd.V_below H0.out B0.out (by decide))).mono ?_; rw [H1.out]; rintro e w1 ⟨rfl, hb⟩; have B1 := Sec.mk (bel B0.out hb); clear hb)
    go_ret
    exact ⟨rb HE.out.symm, B1.out⟩
  | true =>
    have H1 := Sec.mk ht
    cases hf : headFun c.head with
    | false =>
      have HE : Sec (clauseOk c = false) := ⟨clauseOk_2 hf⟩
      have H2 := Sec.mk hf
      clear ht hf
      go_enter Tryz.func59, Tryz.ntmps59
      go_wp2_with (first | (go_at_call 144; refine (l3Term_c _ c.head ok _ (Kd.V_below H0.out B0.out (by decide))).mono ?_; rw [H1.out]; rintro e w1 ⟨rfl, hb⟩; have B1 := Sec.mk (bel B0.out hb); have P1 := Sec.mk ((hb.block _ (Array.getElem?_eq_some_iff.1 P0.out).1).trans P0.out); have X := (box_at P1.out).2.1; have z0 := X 0 _ rfl; have z1 := X 1 _ rfl; clear hb X) | (go_at_call 124; refine (l3Call_c _ c.head ok _ (Kd.V_below H0.out B1.out (by decide))).mono ?_; rw [H2.out]; rintro e w2 ⟨rfl, hb⟩; have B2 := Sec.mk (bel B1.out hb); clear hb))
      go_ret
      exact ⟨rb HE.out.symm, B2.out⟩
    | true =>
      have H2 := Sec.mk hf
      by_cases hl : c.body.length ≤ 4
      · have HL : Sec (clauseOk c = c.body.all goalOk) := ⟨clauseOk_4 ht hf hl⟩
        have q1 : decide ((c.body.length : Int) > 4) = false := decide_eq_false (by omega)
        clear ht hf
        go_enter Tryz.func59, Tryz.ntmps59
        go_wp2_with (first | (go_at_call 144; refine (l3Term_c _ c.head ok _ (Kd.V_below H0.out B0.out (by decide))).mono ?_; rw [H1.out]; rintro e w1 ⟨rfl, hb⟩; have B1 := Sec.mk (bel B0.out hb); have P1 := Sec.mk ((hb.block _ (Array.getElem?_eq_some_iff.1 P0.out).1).trans P0.out); have X := (box_at P1.out).2.1; have z0 := X 0 _ rfl; have z1 := X 1 _ rfl; clear hb X) | (go_at_call 124; refine (l3Call_c _ c.head ok _ (Kd.V_below H0.out B1.out (by decide))).mono ?_; rw [H2.out]; rintro e w2 ⟨rfl, hb⟩; have B2 := Sec.mk (bel B1.out hb); have P2 := Sec.mk ((hb.block _ (Array.getElem?_eq_some_iff.1 P1.out).1).trans P1.out); have X := (box_at P2.out).2.1; have s1 := X 1 _ rfl; clear hb X))
        go_loopw [3] (fun i wr => ∃ k : Nat, k ≤ c.body.length ∧ i = .int .i64 k ∧ Sec ((c.body.take k).all goalOk = true) ∧ Sec (Below w.heap.size w wr ∧ wr.heap[w.heap.size]? = some (.cells #[.slice E0 c.head.length m0, .slice E1 c.body.length m1] 113 (0, 0)))) (fun i _ => c.body.length - (intOf i).toNat)
        case atStart => exact ⟨0, Nat.zero_le _, rfl, ⟨by simp⟩, ⟨B2.out, P2.out⟩⟩
        case round =>
          obtain ⟨k, hk, rfl, hT, hb⟩ := hrel
          have X := (box_at hb.out.2).2.1
          have u1 := X 1 _ rfl
          clear X
          by_cases hlt : k < c.body.length
          · obtain ⟨b, off, F1, n1, F2, n2, F3, n3, rfl, _, x0, x1, x2, x3, hKg⟩ := goal_at (Kd.C_below HC.out hb.out.1 (by decide)) k hlt
            have hTk : Sec ((c.body.take (k + 1)).all goalOk = goalOk c.body[k]) := ⟨by rw [take_all goalOk c.body k hlt, hT.out, Bool.true_and]⟩
            have hAll : Sec (goalOk c.body[k] = false → c.body.all goalOk = false) := ⟨fun h => List.all_eq_false.2 ⟨c.body[k], List.getElem_mem hlt, by rw [h]; decide⟩⟩
            have HG := Sec.mk (specGoalOk_c c.body[k] _ ok wr hKg)
            generalize c.body[k] = g at *
            clear hKg
            have i0 : (0 : Int) ≤ (k : Int) := by omega
            have i1 : (k : Int) < (c.body.length : Int) := by omega
            cases hg : goalOk g with
            | false =>
              have HE : Sec (clauseOk c = false) := ⟨by rw [HL.out]; exact hAll.out hg⟩
              rw [hg] at HG
              clear hg
              go_wp2_with (go_at_call 145; refine HG.out.mono ?_; rintro e w5 ⟨rfl, hb5⟩; have B5 := Sec.mk (bel hb.out.1 hb5); clear hb5)
              go_ret
              exact ⟨rb HE.out.symm, B5.out⟩
            | true =>
              have HE : Sec ((c.body.take (k + 1)).all goalOk = true) := ⟨by rw [hTk.out, hg]⟩
              rw [hg] at HG
              clear hg
              go_wp2_with (go_at_call 145; refine HG.out.mono ?_; rintro e w5 ⟨rfl, hb5⟩; have B5 := Sec.mk (bel hb.out.1 hb5); have P5 := Sec.mk ((hb5.block _ (Array.getElem?_eq_some_iff.1 hb.out.2).1).trans hb.out.2); clear hb5)
              go_roundw
              case rel => exact ⟨k + 1, by omega, by go_num, HE, ⟨B5.out, P5.out⟩⟩
              case measure => simp [intOf]; omega
          · have HE : Sec (clauseOk c = true) := ⟨by rw [HL.out]; have := hT.out; rwa [List.take_of_length_le (by omega)] at this⟩
            go_wp2
            go_ret
            exact ⟨rb HE.out.symm, hb.out.1⟩
      · have HE : Sec (clauseOk c = false) := ⟨clauseOk_3 hl⟩
        have q1 : decide ((c.body.length : Int) > 4) = true := decide_eq_true (by omega)
        clear ht hf
        go_enter Tryz.func59, Tryz.ntmps59
        go_wp2_with (first | (go_at_call 144; refine (l3Term_c _ c.head ok _ (Kd.V_below H0.out B0.out (by decide))).mono ?_; rw [H1.out]; rintro e w1 ⟨rfl, hb⟩; have B1 := Sec.mk (bel B0.out hb); have P1 := Sec.mk ((hb.block _ (Array.getElem?_eq_some_iff.1 P0.out).1).trans P0.out); have X := (box_at P1.out).2.1; have z0 := X 0 _ rfl; have z1 := X 1 _ rfl; clear hb X) | (go_at_call 124; refine (l3Call_c _ c.head ok _ (Kd.V_below H0.out B1.out (by decide))).mono ?_; rw [H2.out]; rintro e w2 ⟨rfl, hb⟩; have B2 := Sec.mk (bel B1.out hb); have P2 := Sec.mk ((hb.block _ (Array.getElem?_eq_some_iff.1 P1.out).1).trans P1.out); have X := (box_at P2.out).2.1; have s1 := X 1 _ rfl; clear hb X))
        go_ret
        exact ⟨rb HE.out.symm, B2.out⟩
end
section
open Go.RowKit
set_option linter.unusedVariables false
set_option maxRecDepth 100000
theorem belDN {n q : Nat} {w W : World} (h : Below n w W) : Below n w (W.drewN q) := ⟨h.os, h.tape, h.output, h.size, h.block⟩
theorem clause_at {w : World} {ok : Nat → Prop} {A : Option Addr} {xs : List Clause} (h : kClause.C w ok A xs) (i : Nat) (hi : i < xs.length) : ∃ b off E1 m1 E2 m2, A = some ⟨b, off, none⟩ ∧ ok b ∧
    w.cell? ⟨b, off + i * 2, none⟩ = some (.slice E1 xs[i].head.length m1) ∧ w.cell? ⟨b, off + i * 2 + 1, none⟩ = some (.slice E2 xs[i].body.length m2) ∧
    kClause.K w ok xs[i] [.slice E1 xs[i].head.length m1, .slice E2 xs[i].body.length m2] := by
  obtain ⟨b, off, cs, hA, hb, hK, hc⟩ := Kd.C_get h (List.getElem?_eq_getElem hi)
  obtain ⟨v1, v2, rfl, ⟨E1, m1, rfl, -⟩, ⟨E2, m2, rfl, -⟩⟩ := kClause_K hK
  exact ⟨b, off, E1, m1, E2, m2, hA, hb, hc 0 _ rfl, hc 1 _ rfl, hK⟩
theorem place_at' {w : World} {ok : Nat → Prop} {A : Option Addr} {xs : List Place} (h : kPlace.C w ok A xs) (i : Nat) (hi : i < xs.length) : ∃ b off, A = some ⟨b, off, none⟩ ∧ ok b ∧
    w.cell? ⟨b, off + i * 3, none⟩ = some (.string xs[i].name) ∧ w.cell? ⟨b, off + i * 3 + 1, none⟩ = some (.int .i64 xs[i].n) ∧ w.cell? ⟨b, off + i * 3 + 2, none⟩ = some (.int .i64 xs[i].node) ∧ xs[i].name.size ≤ 1073741824 := by
  obtain ⟨b, off, cs, hA, hb, hK, hc⟩ := Kd.C_get h (List.getElem?_eq_getElem hi)
  obtain ⟨rfl, hn⟩ := kPlace_K hK
  exact ⟨b, off, hA, hb, hc 0 _ rfl, hc 1 _ rfl, hc 2 _ rfl, hn⟩
set_option maxHeartbeats 4000000 in
theorem specPrgOk_c (p : Prog) (cs : List Value) (ok : Nat → Prop) (w : World) (hK : kProg.K w ok p cs) (hok : ∀ k, ok k → k < w.heap.size) :
    Calls Tryz.prog 17 #[.agg cs.toArray] w fun e w' => e = .returned (.bool (prgOk p)) ∧ Below w.heap.size w w' := by
  obtain ⟨v0, v1, rfl, h0, h1⟩ := kProg_K hK
  obtain ⟨E0, m0, rfl, -, -, l0, hC0, -⟩ := h0
  obtain ⟨E1, m1, rfl, -, -, l1, hC1, -⟩ := h1
  have B0 := Sec.mk (belA (Below.refl w.heap.size w) (.cells #[.slice E0 p.clauses.length m0, .slice E1 p.places.length m1] 28))
  have P0 := Sec.mk (heap_alloc_new w (.cells #[.slice E0 p.clauses.length m0, .slice E1 p.places.length m1] 28))
  have HC0 := Sec.mk hC0
  have HC1 := Sec.mk hC1
  have HOK := Sec.mk hok
  clear hK hC0 hC1 hok
  have X := (box_at P0.out).2.1
  have y0 := X 0 _ rfl
  have y1 := X 1 _ rfl
  clear X
  by_cases hl0 : p.clauses.length ≤ 12
  · have q0 : decide ((p.clauses.length : Int) > 12) = false := decide_eq_false (by omega)
    by_cases hl1 : p.places.length ≤ 6
    · have q1 : decide ((p.places.length : Int) > 6) = false := decide_eq_false (by omega)
      go_enter Tryz.func17, Tryz.ntmps17
      go_wp2
      go_loopw [3] (fun i wr => ∃ k : Nat, k ≤ p.clauses.length ∧ i = .int .i64 k ∧ Sec ((p.clauses.take k).all clauseOk = true) ∧ Sec (Below w.heap.size w wr ∧ wr.heap[w.heap.size]? = some (.cells #[.slice E0 p.clauses.length m0, .slice E1 p.places.length m1] 28 (0, 0)))) (fun i _ => p.clauses.length - (intOf i).toNat)
      case atStart => exact ⟨0, Nat.zero_le _, rfl, ⟨by simp⟩, ⟨B0.out, P0.out⟩⟩
      case round =>
        obtain ⟨k, hk, rfl, hT, hb⟩ := hrel
        have X := (box_at hb.out.2).2.1
        have u0 := X 0 _ rfl
        have u1 := X 1 _ rfl
        clear X
        by_cases hlt : k < p.clauses.length
        · obtain ⟨b, off, F1, n1, F2, n2, rfl, _, x0, x1, hKg⟩ := clause_at (Kd.C_below HC0.out hb.out.1 (by decide)) k hlt
          have hTk : Sec ((p.clauses.take (k + 1)).all clauseOk = clauseOk p.clauses[k]) := ⟨by rw [take_all clauseOk p.clauses k hlt, hT.out, Bool.true_and]⟩
          have hAll : Sec (clauseOk p.clauses[k] = false → p.clauses.all clauseOk = false) := ⟨fun h => List.all_eq_false.2 ⟨p.clauses[k], List.getElem_mem hlt, by rw [h]; decide⟩⟩
          have HG := Sec.mk (l3Clause_c p.clauses[k] _ ok wr hKg)
          generalize p.clauses[k] = g at *
          clear hKg
          have i0 : (0 : Int) ≤ (k : Int) := by omega
          have i1 : (k : Int) < (p.clauses.length : Int) := by omega
          cases hg : clauseOk g with
          | false =>
            have HE : Sec (prgOk p = false) := ⟨prgOk_3 (hAll.out hg)⟩
            rw [hg] at HG
            clear hg
            go_wp2_with (go_at_call 59; refine HG.out.mono ?_; rintro e w5 ⟨rfl, hb5⟩; have B5 := Sec.mk (bel hb.out.1 hb5); clear hb5)
            go_ret
            exact ⟨rb HE.out.symm, B5.out⟩
          | true =>
            have HE : Sec ((p.clauses.take (k + 1)).all clauseOk = true) := ⟨by rw [hTk.out, hg]⟩
            rw [hg] at HG
            clear hg
            go_wp2_with (go_at_call 59; refine HG.out.mono ?_; rintro e w5 ⟨rfl, hb5⟩; have B5 := Sec.mk (bel hb.out.1 hb5); have P5 := Sec.mk ((hb5.block _ (Array.getElem?_eq_some_iff.1 hb.out.2).1).trans hb.out.2); clear hb5)
            go_roundw
            case rel => exact ⟨k + 1, by omega, by go_num, HE, ⟨B5.out, P5.out⟩⟩
            case measure => simp [intOf]; omega
        · have HCL : Sec (p.clauses.all clauseOk = true) := ⟨by have := hT.out; rwa [List.take_of_length_le (by omega)] at this⟩
          clear hT
          go_wp2
          go_loopw [4] (fun i ws => ∃ k : Nat, k ≤ p.places.length ∧ i = .int .i64 k ∧ Sec ((List.range k).all (newAt p.places) = true) ∧ Sec (Below w.heap.size w ws ∧ ws.heap[w.heap.size]? = some (.cells #[.slice E0 p.clauses.length m0, .slice E1 p.places.length m1] 28 (0, 0)))) (fun i _ => p.places.length - (intOf i).toNat)
          case atStart => exact ⟨0, Nat.zero_le _, rfl, ⟨by simp⟩, ⟨hb.out.1, hb.out.2⟩⟩
          case round =>
            clear u0 u1
            obtain ⟨m, hm, rfl, hT, hb'⟩ := hrel
            have X := (box_at hb'.out.2).2.1
            have u0 := X 0 _ rfl
            have u1 := X 1 _ rfl
            clear X
            by_cases hlt2 : m < p.places.length
            · obtain ⟨b, off, rfl, _, x0, x1, x2, hsz⟩ := place_at' (Kd.C_below HC1.out hb'.out.1 (by decide)) m hlt2
              have HN := Sec.mk (newAt_at hlt2)
              have HB := Sec.mk (fun h => places_no hlt2 h)
              have HR := Sec.mk (range_all (p := newAt p.places) m)
              have i0 : (0 : Int) ≤ (m : Int) := by omega
              have i1 : (m : Int) < (p.places.length : Int) := by omega
              have HX : Sec (p.places[m]? = some p.places[m]) := ⟨List.getElem?_eq_getElem hlt2⟩
              generalize p.places[m] = x at *
              have HPL := Sec.mk (l3Place_c x wr)
              cases hpl : placeOk x with
              | false =>
                have HE : Sec (prgOk p = false) := ⟨prgOk_4 (HB.out (by rw [HN.out, hpl]; rfl))⟩
                rw [hpl] at HPL
                clear hpl
                go_wp2_with (go_at_call 60; refine HPL.out.mono ?_; rintro e w5 ⟨rfl, hb5⟩; have B5 := Sec.mk (bel hb'.out.1 hb5); clear hb5)
                go_ret
                exact ⟨rb HE.out.symm, B5.out⟩
              | true =>
                have HN2 : Sec (newAt p.places m = (p.places.take m).all (fun q => !samePlace q x)) := ⟨by rw [HN.out, hpl, Bool.true_and]⟩
                rw [hpl] at HPL
                clear hpl
                go_wp2_with (go_at_call 60; refine HPL.out.mono ?_; rintro e w5 ⟨rfl, hb5⟩; have B5 := Sec.mk (bel hb'.out.1 hb5); have P5 := Sec.mk ((hb5.block _ (Array.getElem?_eq_some_iff.1 hb'.out.2).1).trans hb'.out.2); clear hb5)
                go_loopw [5] (fun i wt => ∃ j : Nat, j ≤ m ∧ i = .int .i64 j ∧ Sec ((p.places.take j).all (fun q => !samePlace q x) = true) ∧ Sec (Below w.heap.size w wt ∧ wt.heap[w.heap.size]? = some (.cells #[.slice E0 p.clauses.length m0, .slice (some ⟨b, off, none⟩) p.places.length m1] 28 (0, 0)))) (fun i _ => m - (intOf i).toNat)
                case atStart => exact ⟨0, Nat.zero_le _, rfl, ⟨by simp⟩, ⟨B5.out, P5.out⟩⟩
                case round =>
                  clear u0 u1 x0 x1 x2
                  obtain ⟨j, hj, rfl, hT2, hb2⟩ := hrel
                  have X := (box_at hb2.out.2).2.1
                  have u0 := X 0 _ rfl
                  have u1 := X 1 _ rfl
                  clear X
                  by_cases hlt3 : j < m
                  · obtain ⟨b3, off3, e3, _, x0, x1, x2, -⟩ := place_at' (Kd.C_below HC1.out hb2.out.1 (by decide)) m hlt2
                    obtain ⟨b4, off4, e4, _, z0, z1, z2, -⟩ := place_at' (Kd.C_below HC1.out hb2.out.1 (by decide)) j (by omega)
                    cases e3
                    cases e4
                    have ex : p.places[m] = x := by have := HX.out; rw [List.getElem?_eq_getElem hlt2] at this; exact Option.some.inj this
                    rw [ex] at x0 x1 x2
                    have hTj : Sec ((p.places.take (j + 1)).all (fun q => !samePlace q x) = !samePlace p.places[j] x) := ⟨by rw [take_all _ p.places j (by omega), hT2.out, Bool.true_and]⟩
                    have hAll : Sec (samePlace p.places[j] x = true → newAt p.places m = false) := ⟨fun h => by rw [HN2.out]; exact List.all_eq_false.2 ⟨p.places[j], by rw [List.mem_take_iff_getElem]; exact ⟨j, by omega, rfl⟩, by rw [h]; decide⟩⟩
                    have hs : Sec (samePlace p.places[j] x = (p.places[j].name.toList == x.name.toList && p.places[j].n == x.n)) := ⟨rfl⟩
                    generalize p.places[j] = y at *
                    have j0 : (0 : Int) ≤ (j : Int) := by omega
                    have j1 : (j : Int) < (p.places.length : Int) := by omega
                    have j2 : (j : Int) < (m : Int) := by omega
                    cases hn : (y.name.toList == x.name.toList) with
                    | false =>
                      have HE : Sec ((p.places.take (j + 1)).all (fun q => !samePlace q x) = true) := ⟨by rw [hTj.out, hs.out, hn]; rfl⟩
                      go_wp2
                      go_quiet (fail)
                      go_wp2
                      go_roundw
                      case rel => exact ⟨j + 1, by omega, by go_num, HE, ⟨belDN hb2.out.1, hb2.out.2⟩⟩
                      case measure => simp [intOf]; omega
                    | true =>
                      cases hn2 : (y.n == x.n) with
                      | false =>
                        have HE : Sec ((p.places.take (j + 1)).all (fun q => !samePlace q x) = true) := ⟨by rw [hTj.out, hs.out, hn, hn2]; rfl⟩
                        go_wp2
                        go_quiet (fail)
                        go_wp2
                        go_roundw
                        case rel => exact ⟨j + 1, by omega, by go_num, HE, ⟨belDN hb2.out.1, hb2.out.2⟩⟩
                        case measure => simp [intOf]; omega
                      | true =>
                        have HE : Sec (prgOk p = false) := ⟨prgOk_4 (HB.out (hAll.out (by rw [hs.out, hn, hn2]; rfl)))⟩
                        go_wp2
                        go_quiet (fail)
                        go_wp2
                        go_ret
                        exact ⟨rb HE.out.symm, belDN hb2.out.1⟩
                  · have HE : Sec ((List.range (m + 1)).all (newAt p.places) = true) := ⟨by rw [HR.out, hT.out, HN2.out]; have := hT2.out; rwa [show j = m by omega] at this⟩
                    go_wp2
                    go_roundw
                    case rel => exact ⟨m + 1, by omega, by go_num, HE, hb2⟩
                    case measure => simp [intOf]; omega
            · have HE : Sec (prgOk p = true) := ⟨prgOk_5 hl0 hl1 HCL.out (by have := hT.out; rwa [show m = p.places.length by omega] at this)⟩
              go_wp2
              go_ret
              exact ⟨rb HE.out.symm, hb'.out.1⟩
    · have HE : Sec (prgOk p = false) := ⟨prgOk_2 hl1⟩
      have q1 : decide ((p.places.length : Int) > 6) = true := decide_eq_true (by omega)
      go_enter Tryz.func17, Tryz.ntmps17
      go_wp2
      go_ret
      exact ⟨rb HE.out.symm, B0.out⟩
  · have HE : Sec (prgOk p = false) := ⟨prgOk_1 hl0⟩
    have q0 : decide ((p.clauses.length : Int) > 12) = true := decide_eq_true (by omega)
    go_enter Tryz.func17, Tryz.ntmps17
    go_wp2
    go_ret
    exact ⟨rb HE.out.symm, B0.out⟩
end
section
open Go.RowKit
set_option linter.unusedVariables false
set_option maxRecDepth 100000
theorem goalOk_shape (g : Goal) : goalOk g = (!decide (g.kind = 6) && shapeOk g) := by
  unfold goalOk shapeOk shapeI
  rw [termIn_may, termIn_may, termIn_may]
  have e1 : ((g.a.length : Int) == 0) = decide (g.a.length = 0) := by exact decide_eq_decide.2 (by omega)
  have e2 : ((g.b.length : Int) == 0) = decide (g.b.length = 0) := by exact decide_eq_decide.2 (by omega)
  have e3 : ((g.c.length : Int) == 0) = decide (g.c.length = 0) := by exact decide_eq_decide.2 (by omega)
  have f1 : decide (g.b.length + g.c.length = 0) = (decide (g.b.length = 0) && decide (g.c.length = 0)) := by rw [← Bool.decide_and]; exact decide_eq_decide.2 (by omega)
  have f2 : decide (g.a.length + g.b.length + g.c.length = 0) = (decide (g.a.length = 0) && decide (g.b.length = 0) && decide (g.c.length = 0)) := by rw [← Bool.decide_and, ← Bool.decide_and]; exact decide_eq_decide.2 (by omega)
  rw [e1, e2, e3, f1, f2]
  generalize decide (g.a.length = 0) = qa
  generalize decide (g.b.length = 0) = qb
  generalize decide (g.c.length = 0) = qc
  generalize trmOk g.a = ta
  generalize trmOk g.b = tb
  generalize trmOk g.c = tc
  generalize mayIn g.a = ma
  generalize mayIn g.b = mb
  generalize mayIn g.c = mc
  generalize headFun g.a = ha
  generalize g.kind = k
  by_cases h1 : k = 1
  · subst h1; cases ta <;> cases ma <;> cases ha <;> cases qb <;> cases qc <;> rfl
  by_cases h6 : k = 6
  · subst h6; rfl
  by_cases h3 : k = 3
  · subst h3; cases qa <;> cases qb <;> cases qc <;> rfl
  by_cases h2 : k = 2
  · subst h2; rfl
  by_cases h4 : k = 4
  · subst h4; rfl
  by_cases h5 : k = 5
  · subst h5; rfl
  simp [h1, h2, h3, h4, h5, h6]
def anyAt {α : Type} (p : α → Bool) (t : List α) (i : Int) : Prop := decide (0 ≤ i) = t.any p
theorem take_any {α : Type} (p : α → Bool) (t : List α) (k : Nat) (h : k < t.length) : (t.take (k + 1)).any p = ((t.take k).any p || p t[k]) := by
  rw [List.take_succ_eq_append_getElem h, List.any_append]; simp
theorem GoalOk_i (g : Goal) (cs : List Value) (ok : Nat → Prop) (w : World) (hK : kGoal.K w ok g cs) :
    Calls Tryz.prog 203 #[.agg cs.toArray] w fun e w' => e = .returned (.bool (goalOk g)) ∧ Below w.heap.size w w' := by
  have HS := Sec.mk (fun (W : World) (hb : Below w.heap.size w W) => goalShape_i g cs ok W (Kd.K_below hK hb))
  obtain ⟨v1, v2, v3, rfl, h1, h2, h3⟩ := kGoal_K hK
  clear hK h1 h2 h3
  have B0 := Sec.mk (belA (Below.refl w.heap.size w) (.cells #[.int .i64 g.kind, v1, v2, v3] 100))
  have X := (box_at (heap_alloc_new w (.cells #[.int .i64 g.kind, v1, v2, v3] 100))).2.1
  have y0 := X 0 _ rfl
  have y1 := X 1 _ rfl
  have y2 := X 2 _ rfl
  have y3 := X 3 _ rfl
  clear X
  have HE := Sec.mk (goalOk_shape g)
  generalize goalOk g = res at *
  generalize shapeOk g = s at *
  have hu := Tryz.underlying100
  by_cases hk : g.kind = 6
  · have HE : Sec (res = false) := ⟨by rw [HE.out, decide_eq_true hk]; rfl⟩
    have k6 : (g.kind != 6) = false := by rw [hk]; rfl
    clear hk HS
    go_enter Tryz.func203, Tryz.ntmps203
    go_wp2
    go_ret
    exact ⟨rb HE.out.symm, B0.out⟩
  · have HE : Sec (res = s) := ⟨by rw [HE.out, decide_eq_false hk]; rfl⟩
    have k6 : (g.kind != 6) = true := bne_iff_ne.2 hk
    clear hk
    go_enter Tryz.func203, Tryz.ntmps203
    go_wp2_with (go_at_call 190; refine (HS.out _ B0.out).mono ?_; rintro e w1 ⟨rfl, hb⟩; have B1 := Sec.mk (bel B0.out hb); clear hb)
    go_ret
    exact ⟨rb HE.out.symm, B1.out⟩
theorem wrongGoal_i1 (x : Goal) (cs : List Value) (ok : Nat → Prop) (w : World) (hK : kGoal.K w ok x cs) : Calls Tryz.prog 202 #[.agg cs.toArray] w fun e w' => e = .returned (.bool (!goalOk x)) ∧ Below w.heap.size w w' := by
  have HS := Sec.mk (fun (W : World) (hb : Below w.heap.size w W) => GoalOk_i x cs ok W (Kd.K_below hK hb))
  obtain ⟨v1, v2, v3, rfl, h1, h2, h3⟩ := kGoal_K hK
  clear hK h1 h2 h3
  have B0 := Sec.mk (belA (Below.refl w.heap.size w) (.cells #[.int .i64 x.kind, v1, v2, v3] 100))
  have X := (box_at (heap_alloc_new w (.cells #[.int .i64 x.kind, v1, v2, v3] 100))).2.1
  have y0 := X 0 _ rfl
  have y1 := X 1 _ rfl
  have y2 := X 2 _ rfl
  have y3 := X 3 _ rfl
  clear X
  have hu := Tryz.underlying100
  generalize goalOk x = s at *
  go_enter Tryz.func202, Tryz.ntmps202
  go_wp2_with (go_at_call 203; refine (HS.out _ B0.out).mono ?_; rintro e w1 ⟨rfl, hb⟩; have B1 := Sec.mk (bel B0.out hb); clear hb)
  go_ret
  exact ⟨rfl, B1.out⟩
theorem wrongGoal_i2 (v : Value) (t : List Goal) (ok : Nat → Prop) (w : World) (hV : kGoal.V w ok v t) :
    Calls Tryz.prog 240 #[v, .func (.func 202) #[] #[]] w fun e w' => ∃ i : Int, e = .returned (.int .i64 i) ∧ anyAt (fun x => !goalOk x) t i ∧ Below w.heap.size w w' := by
  obtain ⟨A, c, rfl, h1, h2, h3, hC, hz⟩ := hV
  have HC := Sec.mk hC
  clear hC hz
  have hu := Tryz.underlying100
  go_enter Tryz.func240, Tryz.ntmps240
  go_wp2
  go_loopw [8] (fun iv wr => ∃ k : Nat, k ≤ t.length ∧ iv = .int .i64 k ∧ Sec ((t.take k).any (fun x => !goalOk x) = false) ∧ Sec (Below w.heap.size w wr)) (fun iv _ => t.length - (intOf iv).toNat)
  case atStart => exact ⟨0, Nat.zero_le _, rfl, ⟨rfl⟩, ⟨Below.refl _ _⟩⟩
  case round =>
    obtain ⟨k, hk, rfl, hT, hb⟩ := hrel
    by_cases hlt : k < t.length
    · obtain ⟨b, off, E1, m1, E2, m2, E3, m3, rfl, hob, c0, c1, c2, c3, hKx⟩ := goal_at (Kd.C_below HC.out hb.out (by decide)) k hlt
      have hA : Sec ((t.take (k + 1)).any (fun x => !goalOk x) = !goalOk t[k]) := ⟨by rw [take_any _ t k hlt, hT.out, Bool.false_or]⟩
      have hmem : Sec (t[k] ∈ t) := ⟨List.getElem_mem hlt⟩
      have HW := Sec.mk (wrongGoal_i1 t[k] _ ok wr hKx)
      clear hKx
      generalize t[k] = x at *
      obtain ⟨bb, hbb⟩ : ∃ b, goalOk x = b := ⟨_, rfl⟩
      have HB := Sec.mk hbb
      rw [hbb] at HW
      clear hbb
      cases bb with
      | true =>
        have hA' : Sec ((t.take (k + 1)).any (fun x => !goalOk x) = false) := ⟨by rw [hA.out, HB.out]; rfl⟩
        go_wp2_with (go_at_call 202; refine HW.out.mono ?_; rintro e w1 ⟨rfl, hb1⟩; have B1 := Sec.mk (bel hb.out hb1); clear hb1)
        go_roundw
        case rel => exact ⟨k + 1, by omega, by go_num, hA', B1⟩
        case measure => simp [intOf]; omega
      | false =>
        have hF : Sec (anyAt (fun x => !goalOk x) t k) := ⟨by
          have : t.any (fun x => !goalOk x) = true := List.any_eq_true.2 ⟨x, hmem.out, by rw [HB.out]; rfl⟩
          unfold anyAt; rw [this]; simp⟩
        go_wp2_with (go_at_call 202; refine HW.out.mono ?_; rintro e w1 ⟨rfl, hb1⟩; have B1 := Sec.mk (bel hb.out hb1); clear hb1)
        go_ret
        exact ⟨_, rfl, hF.out, B1.out⟩
    · have hF : Sec (anyAt (fun x => !goalOk x) t (-1)) := ⟨by
        have : t.any (fun x => !goalOk x) = false := by have := hT.out; rwa [List.take_of_length_le (by omega)] at this
        unfold anyAt; rw [this]; rfl⟩
      go_wp2
      go_ret
      exact ⟨_, rfl, hF.out, hb.out⟩
theorem wrongGoal_i3 (v : Value) (t : List Goal) (ok : Nat → Prop) (w : World) (hV : kGoal.V w ok v t) :
    Calls Tryz.prog 205 #[v, .func (.func 202) #[] #[]] w fun e w' => e = .returned (.bool (!t.all goalOk)) ∧ Below w.heap.size w w' := by
  have HI := Sec.mk (wrongGoal_i2 v t ok w hV)
  obtain ⟨A, c, rfl, h1, h2, h3, hC, hz⟩ := hV
  clear hC hz
  have hq : t.any (fun x => !goalOk x) = !t.all goalOk := by simp [List.any_eq_not_all_not]
  generalize hall : (!t.all goalOk) = al at *
  have HAL := Sec.mk hq
  clear hall hq
  go_enter Tryz.func205, Tryz.ntmps205
  go_wp2_with (go_at_call 240; refine HI.out.mono ?_; rintro e w1 ⟨i, rfl, hw, hb⟩; have B1 := Sec.mk hb; have HW := Sec.mk hw; clear hb hw)
  go_ret
  exact ⟨rb (by have := HW.out; unfold anyAt at this; rw [HAL.out] at this; exact this), B1.out⟩
theorem clauseOk_eq (c : Clause) : clauseOk c = (((trmOk c.head && headFun c.head) && mayIn c.head && decide ((c.body.length : Int) ≤ 4)) && !(!c.body.all goalOk)) := by
  unfold clauseOk
  rw [termIn_may]
  have e : decide ((c.body.length : Int) ≤ 4) = decide (c.body.length ≤ 4) := decide_eq_decide.2 (by omega)
  rw [e]
  generalize trmOk c.head = a
  generalize mayIn c.head = b
  generalize headFun c.head = d
  generalize decide (c.body.length ≤ 4) = q
  generalize c.body.all goalOk = r
  cases a <;> cases b <;> cases d <;> cases q <;> cases r <;> rfl
set_option maxHeartbeats 1000000 in
theorem clauseOk_i (c : Clause) (cs : List Value) (ok : Nat → Prop) (w : World) (hK : kClause.K w ok c cs) :
    Calls Tryz.prog 153 #[.agg cs.toArray] w fun e w' => e = .returned (.bool (clauseOk c)) ∧ Below w.heap.size w w' := by
  obtain ⟨v1, v2, rfl, h1, h2⟩ := kClause_K hK
  have BODY := Sec.mk (fun (W : World) (hb : Below w.heap.size w W) => wrongGoal_i3 v2 c.body ok W (Kd.V_below h2 hb (by decide)))
  have HEAD := Sec.mk (fun (W : World) (hb : Below w.heap.size w W) => called_i v1 c.head ok W (Kd.V_below h1 hb (by decide)))
  have MAY := Sec.mk (fun (W : World) (hb : Below w.heap.size w W) => inClause_i v1 c.head ok W (Kd.V_below h1 hb (by decide)))
  obtain ⟨E2, m2, rfl, -, -, l2, -⟩ := h2
  obtain ⟨E1, m1, rfl, -⟩ := h1
  clear hK
  have B0 := Sec.mk (belA (Below.refl w.heap.size w) (.cells #[.slice E1 c.head.length m1, .slice E2 c.body.length m2] 113))
  have P0 := Sec.mk (heap_alloc_new w (.cells #[.slice E1 c.head.length m1, .slice E2 c.body.length m2] 113))
  have X := (box_at P0.out).2.1
  have y0 := X 0 _ rfl
  have y1 := X 1 _ rfl
  clear X
  have HE := Sec.mk (clauseOk_eq c)
  have hm : (decide (c.head.length ≤ 12) && c.head.all varIn) = mayIn c.head := rfl
  rw [hm] at MAY
  clear hm
  generalize clauseOk c = res at *
  generalize (trmOk c.head && headFun c.head) = p1 at *
  generalize mayIn c.head = p2 at *
  generalize (!c.body.all goalOk) = p4 at *
  have T0 : Sec True := ⟨trivial⟩
  obtain ⟨p3, hp3⟩ : ∃ p, decide ((c.body.length : Int) ≤ 4) = p := ⟨_, rfl⟩
  rw [hp3] at HE
  cases p1 with
  | false =>
    clear hp3
    cases p2 <;> cases p3 <;> (
      go_enter Tryz.func153, Tryz.ntmps153
      go_wp2_with (clear T0; go_at_call 155; have T1 : Sec True := ⟨trivial⟩; refine (HEAD.out _ B0.out).mono ?_; rintro e w1 ⟨rfl, hb⟩; have B1 := Sec.mk (bel B0.out hb); have P1 := Sec.mk ((hb.block _ (Array.getElem?_eq_some_iff.1 P0.out).1).trans P0.out); have X := (box_at P1.out).2.1; have z0 := X 0 _ rfl; clear hb X)
      go_ret
      exact ⟨rb HE.out.symm, B1.out⟩)
  | true =>
    cases p2 with
    | false =>
      clear hp3
      cases p3 <;> (
        go_enter Tryz.func153, Tryz.ntmps153
        go_wp2_with (first | (clear T1; go_at_call 204; have T2 : Sec True := ⟨trivial⟩; refine (MAY.out _ B1.out).mono ?_; rintro e w2 ⟨rfl, hb⟩; have B2 := Sec.mk (bel B1.out hb); have P2 := Sec.mk ((hb.block _ (Array.getElem?_eq_some_iff.1 P1.out).1).trans P1.out); have X := (box_at P2.out).2.1; have u1 := X 1 _ rfl; clear hb X) | (clear T0; go_at_call 155; have T1 : Sec True := ⟨trivial⟩; refine (HEAD.out _ B0.out).mono ?_; rintro e w1 ⟨rfl, hb⟩; have B1 := Sec.mk (bel B0.out hb); have P1 := Sec.mk ((hb.block _ (Array.getElem?_eq_some_iff.1 P0.out).1).trans P0.out); have X := (box_at P1.out).2.1; have z0 := X 0 _ rfl; clear hb X))
        go_ret
        exact ⟨rb HE.out.symm, B2.out⟩)
    | true =>
      cases p3 with
      | false =>
        go_enter Tryz.func153, Tryz.ntmps153
        go_wp2_with (first | (clear T1; go_at_call 204; have T2 : Sec True := ⟨trivial⟩; refine (MAY.out _ B1.out).mono ?_; rintro e w2 ⟨rfl, hb⟩; have B2 := Sec.mk (bel B1.out hb); have P2 := Sec.mk ((hb.block _ (Array.getElem?_eq_some_iff.1 P1.out).1).trans P1.out); have X := (box_at P2.out).2.1; have u1 := X 1 _ rfl; clear hb X) | (clear T0; go_at_call 155; have T1 : Sec True := ⟨trivial⟩; refine (HEAD.out _ B0.out).mono ?_; rintro e w1 ⟨rfl, hb⟩; have B1 := Sec.mk (bel B0.out hb); have P1 := Sec.mk ((hb.block _ (Array.getElem?_eq_some_iff.1 P0.out).1).trans P0.out); have X := (box_at P1.out).2.1; have z0 := X 0 _ rfl; clear hb X))
        go_ret
        exact ⟨rb HE.out.symm, B2.out⟩
      | true =>
        go_enter Tryz.func153, Tryz.ntmps153
        go_wp2_with (first | (clear T2; go_at_call 205; refine (BODY.out _ B2.out).mono ?_; rintro e w3 ⟨rfl, hb⟩; have B3 := Sec.mk (bel B2.out hb); clear hb) | (clear T1; go_at_call 204; have T2 : Sec True := ⟨trivial⟩; refine (MAY.out _ B1.out).mono ?_; rintro e w2 ⟨rfl, hb⟩; have B2 := Sec.mk (bel B1.out hb); have P2 := Sec.mk ((hb.block _ (Array.getElem?_eq_some_iff.1 P1.out).1).trans P1.out); have X := (box_at P2.out).2.1; have u1 := X 1 _ rfl; clear hb X) | (clear T0; go_at_call 155; have T1 : Sec True := ⟨trivial⟩; refine (HEAD.out _ B0.out).mono ?_; rintro e w1 ⟨rfl, hb⟩; have B1 := Sec.mk (bel B0.out hb); have P1 := Sec.mk ((hb.block _ (Array.getElem?_eq_some_iff.1 P0.out).1).trans P0.out); have X := (box_at P1.out).2.1; have z0 := X 0 _ rfl; clear hb X))
        go_ret
        exact ⟨rb HE.out.symm, B3.out⟩
theorem wrongClause_i1 (x : Clause) (cs : List Value) (ok : Nat → Prop) (w : World) (hK : kClause.K w ok x cs) : Calls Tryz.prog 152 #[.agg cs.toArray] w fun e w' => e = .returned (.bool (!clauseOk x)) ∧ Below w.heap.size w w' := by
  have HS := Sec.mk (fun (W : World) (hb : Below w.heap.size w W) => clauseOk_i x cs ok W (Kd.K_below hK hb))
  obtain ⟨v1, v2, rfl, h1, h2⟩ := kClause_K hK
  clear hK h1 h2
  have B0 := Sec.mk (belA (Below.refl w.heap.size w) (.cells #[v1, v2] 113))
  have X := (box_at (heap_alloc_new w (.cells #[v1, v2] 113))).2.1
  have y0 := X 0 _ rfl
  have y1 := X 1 _ rfl
  clear X
  have hu := Tryz.underlying113
  generalize clauseOk x = s at *
  go_enter Tryz.func152, Tryz.ntmps152
  go_wp2_with (go_at_call 153; refine (HS.out _ B0.out).mono ?_; rintro e w1 ⟨rfl, hb⟩; have B1 := Sec.mk (bel B0.out hb); clear hb)
  go_ret
  exact ⟨rfl, B1.out⟩
theorem wrongClause_i2 (v : Value) (t : List Clause) (ok : Nat → Prop) (w : World) (hV : kClause.V w ok v t) :
    Calls Tryz.prog 206 #[v, .func (.func 152) #[] #[]] w fun e w' => ∃ i : Int, e = .returned (.int .i64 i) ∧ anyAt (fun x => !clauseOk x) t i ∧ Below w.heap.size w w' := by
  obtain ⟨A, c, rfl, h1, h2, h3, hC, hz⟩ := hV
  have HC := Sec.mk hC
  clear hC hz
  have hu := Tryz.underlying113
  go_enter Tryz.func206, Tryz.ntmps206
  go_wp2
  go_loopw [8] (fun iv wr => ∃ k : Nat, k ≤ t.length ∧ iv = .int .i64 k ∧ Sec ((t.take k).any (fun x => !clauseOk x) = false) ∧ Sec (Below w.heap.size w wr)) (fun iv _ => t.length - (intOf iv).toNat)
  case atStart => exact ⟨0, Nat.zero_le _, rfl, ⟨rfl⟩, ⟨Below.refl _ _⟩⟩
  case round =>
    obtain ⟨k, hk, rfl, hT, hb⟩ := hrel
    by_cases hlt : k < t.length
    · obtain ⟨b, off, E1, m1, E2, m2, rfl, hob, c0, c1, hKx⟩ := clause_at (Kd.C_below HC.out hb.out (by decide)) k hlt
      have hA : Sec ((t.take (k + 1)).any (fun x => !clauseOk x) = !clauseOk t[k]) := ⟨by rw [take_any _ t k hlt, hT.out, Bool.false_or]⟩
      have hmem : Sec (t[k] ∈ t) := ⟨List.getElem_mem hlt⟩
      have HW := Sec.mk (wrongClause_i1 t[k] _ ok wr hKx)
      clear hKx
      generalize t[k] = x at *
      obtain ⟨bb, hbb⟩ : ∃ b, clauseOk x = b := ⟨_, rfl⟩
      have HB := Sec.mk hbb
      rw [hbb] at HW
      clear hbb
      cases bb with
      | true =>
        have hA' : Sec ((t.take (k + 1)).any (fun x => !clauseOk x) = false) := ⟨by rw [hA.out, HB.out]; rfl⟩
        go_wp2_with (go_at_call 152; refine HW.out.mono ?_; rintro e w1 ⟨rfl, hb1⟩; have B1 := Sec.mk (bel hb.out hb1); clear hb1)
        go_roundw
        case rel => exact ⟨k + 1, by omega, by go_num, hA', B1⟩
        case measure => simp [intOf]; omega
      | false =>
        have hF : Sec (anyAt (fun x => !clauseOk x) t k) := ⟨by
          have : t.any (fun x => !clauseOk x) = true := List.any_eq_true.2 ⟨x, hmem.out, by rw [HB.out]; rfl⟩
          unfold anyAt; rw [this]; simp⟩
        go_wp2_with (go_at_call 152; refine HW.out.mono ?_; rintro e w1 ⟨rfl, hb1⟩; have B1 := Sec.mk (bel hb.out hb1); clear hb1)
        go_ret
        exact ⟨_, rfl, hF.out, B1.out⟩
    · have hF : Sec (anyAt (fun x => !clauseOk x) t (-1)) := ⟨by
        have : t.any (fun x => !clauseOk x) = false := by have := hT.out; rwa [List.take_of_length_le (by omega)] at this
        unfold anyAt; rw [this]; rfl⟩
      go_wp2
      go_ret
      exact ⟨_, rfl, hF.out, hb.out⟩
theorem wrongClause_i3 (v : Value) (t : List Clause) (ok : Nat → Prop) (w : World) (hV : kClause.V w ok v t) :
    Calls Tryz.prog 154 #[v, .func (.func 152) #[] #[]] w fun e w' => e = .returned (.bool (!t.all clauseOk)) ∧ Below w.heap.size w w' := by
  have HI := Sec.mk (wrongClause_i2 v t ok w hV)
  obtain ⟨A, c, rfl, h1, h2, h3, hC, hz⟩ := hV
  clear hC hz
  have hq : t.any (fun x => !clauseOk x) = !t.all clauseOk := by simp [List.any_eq_not_all_not]
  generalize hall : (!t.all clauseOk) = al at *
  have HAL := Sec.mk hq
  clear hall hq
  go_enter Tryz.func154, Tryz.ntmps154
  go_wp2_with (go_at_call 206; refine HI.out.mono ?_; rintro e w1 ⟨i, rfl, hw, hb⟩; have B1 := Sec.mk hb; have HW := Sec.mk hw; clear hb hw)
  go_ret
  exact ⟨rb (by have := HW.out; unfold anyAt at this; rw [HAL.out] at this; exact this), B1.out⟩
end
section
open Go.RowKit
set_option linter.unusedVariables false
set_option maxRecDepth 100000
theorem carryBx {w W : World} {b : Nat} {o : Obj} (h : Below w.heap.size w W) (hb : w.heap[b]? = some o) : W.heap[b]? = some o := (h.block b (Array.getElem?_eq_some_iff.1 hb).1).trans hb
theorem samePlace_eq (x y : Place) : samePlace y x = ((x.name.toList == y.name.toList) && x.n == y.n) := by
  unfold samePlace
  have e1 : (y.name.toList == x.name.toList) = (x.name.toList == y.name.toList) := by
    by_cases h : x.name.toList = y.name.toList
    · rw [h]
    · rw [beq_eq_false_iff_ne.2 h, beq_eq_false_iff_ne.2 (Ne.symm h)]
  have e2 : (y.n == x.n) = (x.n == y.n) := by
    by_cases h : x.n = y.n
    · rw [h]
    · rw [beq_eq_false_iff_ne.2 h, beq_eq_false_iff_ne.2 (Ne.symm h)]
  rw [e1, e2]
theorem prgOk_tests (p : Prog) (h : placesOk p.places = true) : prgOk p = (decide ((p.clauses.length : Int) ≤ 12) && decide ((p.places.length : Int) ≤ 6) && !(!p.clauses.all clauseOk)) := by
  have e1 : decide ((p.clauses.length : Int) ≤ 12) = decide (p.clauses.length ≤ 12) := decide_eq_decide.2 (by omega)
  have e2 : decide ((p.places.length : Int) ≤ 6) = decide (p.places.length ≤ 6) := decide_eq_decide.2 (by omega)
  rw [e1, e2]; unfold prgOk; rw [h]; simp
set_option maxHeartbeats 4000000 in
theorem PrgOk_i (p : Prog) (cs : List Value) (ok : Nat → Prop) (w : World) (hK : kProg.K w ok p cs) :
    Calls Tryz.prog 69 #[.agg cs.toArray] w fun e w' => e = .returned (.bool (prgOk p)) ∧ Below w.heap.size w w' := by
  obtain ⟨v0, v1, rfl, h0, h1⟩ := kProg_K hK
  have CL := Sec.mk (fun (W : World) (hb : Below w.heap.size w W) => wrongClause_i3 v0 p.clauses ok W (Kd.V_below h0 hb (by decide)))
  obtain ⟨E0, m0, rfl, -, -, l0, -⟩ := h0
  obtain ⟨E1, m1, rfl, hm1, -, l1, hC1, -⟩ := h1
  have B0 := Sec.mk (belA (Below.refl w.heap.size w) (.cells #[.slice E0 p.clauses.length m0, .slice E1 p.places.length m1] 28))
  have P0 := Sec.mk (heap_alloc_new w (.cells #[.slice E0 p.clauses.length m0, .slice E1 p.places.length m1] 28))
  have HC1 := Sec.mk hC1
  clear hK hC1
  have hu := Tryz.underlying116
  have X := (box_at P0.out).2.1
  have y0 := X 0 _ rfl
  have y1 := X 1 _ rfl
  clear X
  go_enter Tryz.func69, Tryz.ntmps69
  go_wp2
  clear y0 y1
  go_loopw [11] (fun i wr => ∃ k : Nat, k ≤ p.places.length ∧ i = .int .i64 k ∧ Sec ((List.range k).all (newAt p.places) = true) ∧ Sec (Below w.heap.size w wr ∧ wr.heap[w.heap.size]? = some (.cells #[.slice E0 p.clauses.length m0, .slice E1 p.places.length m1] 28 (0, 0)))) (fun i _ => p.places.length - (intOf i).toNat)
  case atStart => exact ⟨0, Nat.zero_le _, rfl, ⟨by simp⟩, ⟨B0.out, P0.out⟩⟩
  case round =>
    obtain ⟨k, hk, rfl, hT, hb⟩ := hrel
    by_cases hlt : k < p.places.length
    · obtain ⟨b, off, rfl, _, x0, x1, x2, hsz⟩ := place_at' (Kd.C_below HC1.out hb.out.1 (by decide)) k hlt
      have HN := Sec.mk (newAt_at hlt)
      have HB := Sec.mk (fun h => places_no hlt h)
      have HR := Sec.mk (range_all (p := newAt p.places) k)
      have i0 : (0 : Int) ≤ (k : Int) := by omega
      have i1 : (k : Int) < (p.places.length : Int) := by omega
      have HX : Sec (p.places[k]? = some p.places[k]) := ⟨List.getElem?_eq_getElem hlt⟩
      generalize p.places[k] = x at *
      have HNM := Sec.mk (fun W => nameOk_i x.name hsz W)
      have HPO : Sec (placeOk x = (nameOk x.name && inB x.n 0 3 && inB x.node 1 2)) := ⟨rfl⟩
      have HI1 := Sec.mk (fun W => in_c x.n 0 3 W)
      have HI2 := Sec.mk (fun W => in_c x.node 1 2 W)
      generalize nameOk x.name = n1 at *
      generalize inB x.n 0 3 = n2 at *
      generalize inB x.node 1 2 = n3 at *
      have T0 : Sec True := ⟨trivial⟩
      have BW := Sec.mk (belA hb.out.1 (.cells #[.string x.name, .int .i64 x.n, .int .i64 x.node] 116))
      have PW := Sec.mk (heap_alloc_new wr (.cells #[.string x.name, .int .i64 x.n, .int .i64 x.node] 116))
      have PP := Sec.mk ((Below.heap_alloc wr (.cells #[.string x.name, .int .i64 x.n, .int .i64 x.node] 116 (0, 0)) _ (Array.getElem?_eq_some_iff.1 hb.out.2).1).trans hb.out.2)
      cases n1 with
      | false =>
        have HE : Sec (prgOk p = false) := ⟨prgOk_4 (HB.out (by rw [HN.out, HPO.out]; rfl))⟩
        cases n2 <;> cases n3 <;> (
          go_wp2_with (go_at_call 151; refine (HNM.out _).mono ?_; rintro e w5 ⟨rfl, hb5⟩; have B5 := Sec.mk (bel BW.out hb5); clear hb5)
          go_ret
          exact ⟨rb HE.out.symm, B5.out⟩)
      | true =>
        cases n2 with
        | false =>
          have HE : Sec (prgOk p = false) := ⟨prgOk_4 (HB.out (by rw [HN.out, HPO.out]; rfl))⟩
          cases n3 <;> (
            go_wp2_with (first | (clear T0; go_at_call 151; have T1 : Sec True := ⟨trivial⟩; refine (HNM.out _).mono ?_; rintro e w5 ⟨rfl, hb5⟩; have B5 := Sec.mk (bel BW.out hb5); have X := (box_at (carryBx hb5 PW.out)).2.1; have z1 := X 1 _ rfl; have z2 := X 2 _ rfl; clear hb5 X) | (clear T1; go_at_call 121; refine (HI1.out _).mono ?_; rintro e w6 ⟨rfl, rfl⟩))
            go_ret
            exact ⟨rb HE.out.symm, B5.out⟩)
        | true =>
          cases n3 with
          | false =>
            have HE : Sec (prgOk p = false) := ⟨prgOk_4 (HB.out (by rw [HN.out, HPO.out]; rfl))⟩
            go_wp2_with (first | (clear T0; go_at_call 151; have T1 : Sec True := ⟨trivial⟩; refine (HNM.out _).mono ?_; rintro e w5 ⟨rfl, hb5⟩; have B5 := Sec.mk (bel BW.out hb5); have X := (box_at (carryBx hb5 PW.out)).2.1; have z1 := X 1 _ rfl; have z2 := X 2 _ rfl; clear hb5 X) | (clear T1; go_at_call 121; have T2 : Sec True := ⟨trivial⟩; refine (HI1.out _).mono ?_; rintro e w6 ⟨rfl, rfl⟩) | (clear T2; go_at_call 121; refine (HI2.out _).mono ?_; rintro e w6 ⟨rfl, rfl⟩))
            go_ret
            exact ⟨rb HE.out.symm, B5.out⟩
          | true =>
            have HN2 : Sec (newAt p.places k = (p.places.take k).all (fun q => !samePlace q x)) := ⟨by rw [HN.out, HPO.out]; simp⟩
            have s0 : (k : Int) ≤ (m1 : Int) := by omega
            go_wp2_with (first | (clear T0; go_at_call 151; have T1 : Sec True := ⟨trivial⟩; refine (HNM.out _).mono ?_; rintro e w5 ⟨rfl, hb5⟩; have B5 := Sec.mk (bel BW.out hb5); have P5 := Sec.mk (carryBx hb5 PW.out); have Q5 := Sec.mk (carryBx hb5 PP.out); have X := (box_at P5.out).2.1; have z1 := X 1 _ rfl; have z2 := X 2 _ rfl; have X := (box_at Q5.out).2.1; have u1 := X 1 _ rfl; clear hb5 X) | (clear T1; go_at_call 121; have T2 : Sec True := ⟨trivial⟩; refine (HI1.out _).mono ?_; rintro e w6 ⟨rfl, rfl⟩) | (clear T2; go_at_call 121; refine (HI2.out _).mono ?_; rintro e w6 ⟨rfl, rfl⟩))
            clear z1 z2 u1 x0 x1 x2
            go_loopw [37] (fun i wt => ∃ j : Nat, j ≤ k ∧ i = .int .i64 j ∧ Sec ((p.places.take j).all (fun q => !samePlace q x) = true) ∧ Sec (Below w.heap.size w wt ∧ wt.heap[w.heap.size]? = some (.cells #[.slice E0 p.clauses.length m0, .slice (some ⟨b, off, none⟩) p.places.length m1] 28 (0, 0)) ∧ wt.heap[wr.heap.size]? = some (.cells #[.string x.name, .int .i64 x.n, .int .i64 x.node] 116 (0, 0)))) (fun i _ => k - (intOf i).toNat)
            case atStart => exact ⟨0, Nat.zero_le _, rfl, ⟨by simp⟩, ⟨B5.out, Q5.out, P5.out⟩⟩
            case round =>
              obtain ⟨j, hj, rfl, hT2, hb2⟩ := hrel
              by_cases hlt3 : j < k
              · obtain ⟨b4, off4, e4, _, z0, z1, z2, -⟩ := place_at' (Kd.C_below HC1.out hb2.out.1 (by decide)) j (by omega)
                cases e4
                have hTj : Sec ((p.places.take (j + 1)).all (fun q => !samePlace q x) = !samePlace p.places[j] x) := ⟨by rw [take_all _ p.places j (by omega), hT2.out, Bool.true_and]⟩
                have hAll : Sec (samePlace p.places[j] x = true → newAt p.places k = false) := ⟨fun h => by rw [HN2.out]; exact List.all_eq_false.2 ⟨p.places[j], by rw [List.mem_take_iff_getElem]; exact ⟨j, by omega, rfl⟩, by rw [h]; decide⟩⟩
                have hs := Sec.mk (samePlace_eq x p.places[j])
                generalize p.places[j] = y at *
                have X := box_cells (belA (Below.refl wr.heap.size wr) (.cells #[.string y.name, .int .i64 y.n, .int .i64 y.node] 116)) hb2.out.2.2
                have g0 := X.2.1 0 _ rfl
                have g1 := X.2.1 1 _ rfl
                clear X
                have X := (box_at (heap_alloc_new wr (.cells #[.string y.name, .int .i64 y.n, .int .i64 y.node] 116))).2.1
                have k0 := X 0 _ rfl
                have k1 := X 1 _ rfl
                clear X
                have BT := Sec.mk (belA hb2.out.1 (.cells #[.string y.name, .int .i64 y.n, .int .i64 y.node] 116))
                have QT := Sec.mk ((Below.heap_alloc wr (.cells #[.string y.name, .int .i64 y.n, .int .i64 y.node] 116 (0, 0)) _ (Array.getElem?_eq_some_iff.1 hb2.out.2.1).1).trans hb2.out.2.1)
                have PT := Sec.mk ((Below.heap_alloc wr (.cells #[.string y.name, .int .i64 y.n, .int .i64 y.node] 116 (0, 0)) _ (Array.getElem?_eq_some_iff.1 hb2.out.2.2).1).trans hb2.out.2.2)
                have j0 : (0 : Int) ≤ (j : Int) := by omega
                have j1 : (j : Int) < (k : Int) := by omega
                cases hn : (x.name.toList == y.name.toList) with
                | false =>
                  have HE : Sec ((p.places.take (j + 1)).all (fun q => !samePlace q x) = true) := ⟨by rw [hTj.out, hs.out, hn]; rfl⟩
                  go_wp2
                  go_roundw
                  case rel => exact ⟨j + 1, by omega, by go_num, HE, ⟨BT.out, QT.out, PT.out⟩⟩
                  case measure => simp [intOf]; omega
                | true =>
                  cases hn2 : (x.n == y.n) with
                  | false =>
                    have HE : Sec ((p.places.take (j + 1)).all (fun q => !samePlace q x) = true) := ⟨by rw [hTj.out, hs.out, hn, hn2]; rfl⟩
                    go_wp2
                    go_roundw
                    case rel => exact ⟨j + 1, by omega, by go_num, HE, ⟨BT.out, QT.out, PT.out⟩⟩
                    case measure => simp [intOf]; omega
                  | true =>
                    have HE : Sec (prgOk p = false) := ⟨prgOk_4 (HB.out (hAll.out (by rw [hs.out, hn, hn2]; rfl)))⟩
                    go_wp2
                    go_ret
                    exact ⟨rb HE.out.symm, BT.out⟩
              · have HE : Sec ((List.range (k + 1)).all (newAt p.places) = true) := ⟨by rw [HR.out, hT.out, HN2.out]; have := hT2.out; rwa [show j = k by omega] at this⟩
                go_wp2
                go_roundw
                case rel => exact ⟨k + 1, by omega, by go_num, HE, ⟨hb2.out.1, hb2.out.2.1⟩⟩
                case measure => simp [intOf]; omega
    · have HT := Sec.mk (prgOk_tests p (by have := hT.out; rwa [show k = p.places.length by omega] at this))
      have X := (box_at hb.out.2).2.1
      have u0 := X 0 _ rfl
      have u1 := X 1 _ rfl
      clear X hT
      generalize (!p.clauses.all clauseOk) = q3 at *
      obtain ⟨q1, hq1⟩ : ∃ q, decide ((p.clauses.length : Int) ≤ 12) = q := ⟨_, rfl⟩
      obtain ⟨q2, hq2⟩ : ∃ q, decide ((p.places.length : Int) ≤ 6) = q := ⟨_, rfl⟩
      rw [hq1, hq2] at HT
      cases q1 with
      | false =>
        clear hq2
        cases q2 <;> (
          go_wp2
          go_ret
          exact ⟨rb HT.out.symm, hb.out.1⟩)
      | true =>
        cases q2 with
        | false =>
          go_wp2
          go_ret
          exact ⟨rb HT.out.symm, hb.out.1⟩
        | true =>
          go_wp2_with (go_at_call 154; refine (CL.out _ hb.out.1).mono ?_; rintro e w5 ⟨rfl, hb5⟩; have B5 := Sec.mk (bel hb.out.1 hb5); clear hb5)
          go_ret
          exact ⟨rb HT.out.symm, B5.out⟩
end
section
open Go.RowKit
set_option linter.unusedVariables false
set_option maxRecDepth 100000
def kSGoal : Kd SGoal := Kd.iso 102 (Kd.pair kGoal (Kd.int 3)) (fun x => (x.goal, x.cut))
theorem kSGoal_K {w : World} {ok : Nat → Prop} {x : SGoal} {cs : List Value} (h : kSGoal.K w ok x cs) : ∃ v1 v2 v3, cs = [.int .i64 x.goal.kind, v1, v2, v3, .int .i64 x.cut] ∧ kCell.V w ok v1 x.goal.a ∧ kCell.V w ok v2 x.goal.b ∧ kCell.V w ok v3 x.goal.c := by
  obtain ⟨_, _, rfl, g0, ⟨rfl, _⟩⟩ := h
  obtain ⟨v1, v2, v3, rfl, h1, h2, h3⟩ := kGoal_K g0
  exact ⟨v1, v2, v3, rfl, h1, h2, h3⟩
theorem SGoal.ext_iff (a b : SGoal) : a = b ↔ a.goal = b.goal ∧ a.cut = b.cut := by
  cases a; cases b; simp
instance : DecidableEq SGoal := fun a b => decidable_of_iff _ (SGoal.ext_iff a b).symm
def zeroSGoal : SGoal := ⟨⟨0, [], [], []⟩, 0⟩
def mSGoal : Mk SGoal := ⟨fun x => 1 + mCell.cnts x.goal.a + mCell.cnts x.goal.b + mCell.cnts x.goal.c + 1, fun x k => ⟨⟨k, mCell.mks x.goal.a (k + 1), mCell.mks x.goal.b (k + 1 + ((mCell.cnts x.goal.a : Nat) : Int)), mCell.mks x.goal.c (k + 1 + ((mCell.cnts x.goal.a : Nat) : Int) + ((mCell.cnts x.goal.b : Nat) : Int))⟩, k + 1 + ((mCell.cnts x.goal.a : Nat) : Int) + ((mCell.cnts x.goal.b : Nat) : Int) + ((mCell.cnts x.goal.c : Nat) : Int)⟩⟩
def mSGoalt : Mk SGoal := ⟨fun x => mGoalt.cnt x.goal, fun x k => ⟨mGoalt.one x.goal (k), x.cut⟩⟩
end
section
open Go.RowKit
set_option linter.unusedVariables false
set_option maxRecDepth 100000
/-- The variables of a question are numbered as they come first: all are below their number. -/
theorem over_free {t : Term} (h : canon t = t) : t.any (overC ((free t).length : Int)) = false := by
  rw [List.any_eq_false]
  intro x hx ho
  simp only [overC, Bool.and_eq_true, beq_iff_eq, decide_eq_true_eq] at ho
  obtain ⟨i, hi, rfl⟩ := List.mem_iff_getElem.1 hx
  have h1 : (canon t)[i]? = t[i]? := by rw [h]
  rw [canon, List.getElem?_map, List.getElem?_eq_getElem hi, Option.map_some, Option.some.injEq, canonC, if_pos ho.1] at h1
  have h2 : place (free t) t[i].n = t[i].n := congrArg Cell.n h1
  unfold place at h2
  split at h2
  · rename_i hm
    have := List.idxOf_lt_length_of_mem hm
    omega
  · omega
theorem free_le (t : Term) : (free t).length ≤ t.length := by
  have := foldl_free_len t []
  simpa [free] using this
theorem question_parts {t : Term} (h : question t = true) : (trmOk t && headFun t) = true ∧ canon t = t ∧ t.length ≤ 40 := by
  unfold question at h
  simp only [Bool.and_eq_true, decide_eq_true_eq] at h
  refine ⟨by rw [h.1.1, h.1.2]; rfl, h.2, ?_⟩
  have h1 := h.1.1
  unfold trmOk at h1
  simp only [Bool.and_eq_true, decide_eq_true_eq] at h1
  exact h1.1.1.2
theorem indexNilB_c (A : Option Addr) (c : Nat) (f : Value) (w : World) : Calls Tryz.prog 228 #[.slice A 0 c, f] w fun e w' => e = .returned (.int .i64 (-1)) ∧ w = w' := by
  go_enter Tryz.func228, Tryz.ntmps228
  go_wp2
  go_loop [8] (fun i => i = .int .i64 0) (fun _ => 0)
  case atStart => rfl
  case round =>
    subst hrel
    go_wp2
    go_ret
    exact ⟨rfl, rfl⟩
theorem containsNilB_c (A : Option Addr) (c : Nat) (f : Value) (w : World) : Calls Tryz.prog 184 #[.slice A 0 c, f] w fun e w' => e = .returned (.bool false) ∧ w = w' := by
  go_enter Tryz.func184, Tryz.ntmps184
  go_wp2_with (go_at_call 228; refine (indexNilB_c _ _ _ _).mono ?_; rintro e w' ⟨rfl, rfl⟩)
  go_ret
  exact ⟨rfl, rfl⟩
theorem bindsBelow0_i (A : Option Addr) (c : Nat) (n : Int) (w : World) : Calls Tryz.prog 136 #[.slice A 0 c, .int .i64 n] w fun e w' => e = .returned (.bool true) ∧ Below w.heap.size w w' := by
  have B0 := Sec.mk (belA (Below.refl w.heap.size w) (.cells #[.int .i64 n] 3))
  go_enter Tryz.func136, Tryz.ntmps136
  go_wp2_with (go_at_call 184; refine (containsNilB_c _ _ _ _).mono ?_; rintro e w' ⟨rfl, rfl⟩)
  go_ret
  exact ⟨rfl, B0.out⟩
theorem choicesOk0_i (S : Nat) (A : Option Addr) (c : Nat) (w : World) (hc : w.cell? ⟨S, 4, none⟩ = some (.slice A 0 c)) : Calls Tryz.prog 138 #[.pointer (some ⟨S, 0, none⟩)] w fun e w' => e = .returned (.bool true) ∧ w = w' := by
  have hu := Tryz.underlying187
  have hu2 := Tryz.underlying93
  go_enter Tryz.func138, Tryz.ntmps138
  go_wp2
  go_loop [13] (fun i => i = .int .i64 0) (fun _ => 0)
  case atStart => rfl
  case round =>
    subst hrel
    go_wp2
    go_ret
    exact ⟨rfl, rfl⟩
theorem may1_i (v : Value) (t : Term) (n : Int) (b : Nat) (ok : Nat → Prop) (w : World) (hV : kCell.V w ok v t) (hb : w.cell? ⟨b, 0, none⟩ = some (.int .i64 n)) : Calls Tryz.prog 188 #[v, .pointer (some ⟨b, 0, none⟩)] w fun e w' => e = .returned (.bool (!t.any (overC n))) ∧ Below w.heap.size w w' := by
  have HB := Sec.mk (below_i v t n ok w hV)
  obtain ⟨A, c, rfl, -⟩ := hV
  generalize (!t.any (overC n)) = q at *
  go_enter Tryz.func188, Tryz.ntmps188
  go_wp2_with (go_at_call 139; refine HB.out.mono ?_; rintro e w1 ⟨rfl, hb⟩; have B1 := Sec.mk hb; clear hb)
  go_ret
  exact ⟨rfl, B1.out⟩
set_option maxHeartbeats 2000000 in
theorem goalShapeCall_i (t : Term) (E1 E2 E3 : Option Addr) (m1 m2 m3 : Nat) (b : Nat) (n : Int) (ok : Nat → Prop) (w : World) (hV : kCell.V w ok (.slice E1 t.length m1) t) (hb : w.cell? ⟨b, 0, none⟩ = some (.int .i64 n)) (hc : (trmOk t && headFun t) = true) (ho : t.any (overC n) = false) :
    Calls Tryz.prog 190 #[.agg #[.int .i64 1, .slice E1 t.length m1, .slice E2 0 m2, .slice E3 0 m3], .func (.func 188) #[] #[.pointer (some ⟨b, 0, none⟩)]] w fun e w' => e = .returned (.bool true) ∧ Below w.heap.size w w' := by
  have B0 := Sec.mk (belA (Below.refl w.heap.size w) (.cells #[.int .i64 1, .slice E1 t.length m1, .slice E2 0 m2, .slice E3 0 m3] 100))
  have P0 := Sec.mk (heap_alloc_new w (.cells #[.int .i64 1, .slice E1 t.length m1, .slice E2 0 m2, .slice E3 0 m3] 100))
  have V0 := Sec.mk (Kd.V_below hV B0.out (by decide))
  have C0 : Sec ((w.alloc (.cells #[.int .i64 1, .slice E1 t.length m1, .slice E2 0 m2, .slice E3 0 m3] 100)).cell? ⟨b, 0, none⟩ = some (.int .i64 n)) := ⟨Raw.cell_below (belA (Below.refl _ _) _) hb⟩
  have X := (box_at P0.out).2.1
  have y0 := X 0 _ rfl
  have y1 := X 1 _ rfl
  have y2 := X 2 _ rfl
  have y3 := X 3 _ rfl
  have HC := Sec.mk hc
  have HO := Sec.mk ho
  have BB : Sec (∀ W, Below (w.alloc (.cells #[.int .i64 1, .slice E1 t.length m1, .slice E2 0 m2, .slice E3 0 m3] 100)).heap.size (w.alloc (.cells #[.int .i64 1, .slice E1 t.length m1, .slice E2 0 m2, .slice E3 0 m3] 100)) W → Below w.heap.size w W) := ⟨fun W h => bel B0.out h⟩
  have T0 : Sec True := ⟨trivial⟩
  have hu := Tryz.underlying100
  obtain ⟨qa, hqa⟩ : ∃ q, ((t.length : Int) == 0) = q := ⟨_, rfl⟩
  clear X hV hb hc ho
  go_enter Tryz.func190, Tryz.ntmps190
  go_wp2
  go_quiet (fail)
  generalize w.alloc (.cells #[.int .i64 1, .slice E1 t.length m1, .slice E2 0 m2, .slice E3 0 m3] 100) = wx at *
  go_wp2_with (first | (clear T1; go_at_call 188; have T2 : Sec True := ⟨trivial⟩; refine (may1_i _ t n b ok _ (Kd.V_below V0.out B1.out (by decide)) (Raw.cell_below B1.out C0.out)).mono ?_; rw [HO.out]; rintro e w2 ⟨rfl, hb⟩; have B2 := Sec.mk (bel B1.out hb); have Q2 := Sec.mk ((B2.out.block _ (Array.getElem?_eq_some_iff.1 P0.out).1).trans P0.out); have r0 := (box_at Q2.out).2.1 0 _ rfl; have r1 := (box_at Q2.out).2.1 1 _ rfl; clear hb) | (clear T0; go_at_call 155; have T1 : Sec True := ⟨trivial⟩; refine (called_i _ t ok _ (Kd.V_below V0.out (belDN (Below.refl _ _)) (by decide))).mono ?_; rw [HC.out]; rintro e w1 ⟨rfl, hb⟩; have B1 := Sec.mk (bel (belDN (Below.refl wx.heap.size wx)) hb); have Q1 := Sec.mk ((B1.out.block _ (Array.getElem?_eq_some_iff.1 P0.out).1).trans P0.out); have r0 := (box_at Q1.out).2.1 0 _ rfl; have r1 := (box_at Q1.out).2.1 1 _ rfl; clear hb))
  go_ret
  exact ⟨rfl, BB.out _ B2.out⟩
theorem SubOk0_i (A : Option Addr) (c : Nat) (w : World) : Calls Tryz.prog 135 #[.slice A 0 c] w fun e w' => e = .returned (.bool true) ∧ Below w.heap.size w w' := by
  have hmm := @run_makeMap Tryz.prog
  go_enter Tryz.func135, Tryz.ntmps135
  go_wp2
  go_loopw [12] (fun iv wr => iv = .int .i64 0 ∧ Sec (Below w.heap.size w wr)) (fun _ _ => 0)
  case atStart => exact ⟨rfl, ⟨by first | exact belA (Below.refl _ _) _ | exact belA (belA (Below.refl _ _) _) _⟩⟩
  case round =>
    obtain ⟨rfl, hb⟩ := hrel
    go_wp2_with (go_at_call 184; refine (containsNilB_c _ _ _ _).mono ?_; rintro e w' ⟨rfl, rfl⟩)
    go_ret
    exact ⟨rfl, by first | exact belA hb.out _ | exact belA (belA hb.out _) _⟩
theorem wrong1_i (t : Term) (E1 E2 E3 : Option Addr) (m1 m2 m3 : Nat) (b bf bc : Nat) (n : Int) (ok : Nat → Prop) (w : World) (hV : kCell.V w ok (.slice E1 t.length m1) t) (hb : w.cell? ⟨b, 0, none⟩ = some (.int .i64 n)) (hf : w.cell? ⟨bf, 0, none⟩ = some (.func (.func 188) #[] #[.pointer (some ⟨b, 0, none⟩)])) (hz : w.cell? ⟨bc, 0, none⟩ = some (.int .i64 0)) (hc : (trmOk t && headFun t) = true) (ho : t.any (overC n) = false) :
    Calls Tryz.prog 189 #[.agg #[.int .i64 1, .slice E1 t.length m1, .slice E2 0 m2, .slice E3 0 m3, .int .i64 0], .pointer (some ⟨bf, 0, none⟩), .pointer (some ⟨bc, 0, none⟩)] w fun e w' => e = .returned (.bool false) ∧ Below w.heap.size w w' := by
  have WB := belA (Below.refl w.heap.size w) (.cells #[.int .i64 1, .slice E1 t.length m1, .slice E2 0 m2, .slice E3 0 m3, .int .i64 0] 102)
  have B0 := Sec.mk WB
  have P0 := Sec.mk (heap_alloc_new w (.cells #[.int .i64 1, .slice E1 t.length m1, .slice E2 0 m2, .slice E3 0 m3, .int .i64 0] 102))
  have HG := Sec.mk (goalShapeCall_i t E1 E2 E3 m1 m2 m3 b n ok _ (Kd.V_below hV WB (by decide)) (Raw.cell_below WB hb) hc ho)
  have f0 := Raw.cell_below WB hf
  have z0 := Raw.cell_below WB hz
  have Z0 := Sec.mk z0
  have X := (box_at P0.out).2.1
  have y0 := X 0 _ rfl
  have y1 := X 1 _ rfl
  have y2 := X 2 _ rfl
  have y3 := X 3 _ rfl
  have y4 := X 4 _ rfl
  have T0 : Sec True := ⟨trivial⟩
  have hu := Tryz.underlying102
  have hu2 := Tryz.underlying100
  clear X hV hb hc ho hf hz WB
  go_enter Tryz.func189, Tryz.ntmps189
  go_wp2_with (first | (clear T1; go_at_call 121; have T2 : Sec True := ⟨trivial⟩; refine (in_c 0 0 0 _).mono ?_; rw [show inB 0 0 0 = true from rfl]; rintro e w2 ⟨rfl, rfl⟩) | (clear T0; go_at_call 190; have T1 : Sec True := ⟨trivial⟩; refine HG.out.mono ?_; rintro e w1 ⟨rfl, hb⟩; have B1 := Sec.mk (bel B0.out hb); have Q1 := Sec.mk ((hb.block _ (Array.getElem?_eq_some_iff.1 P0.out).1).trans P0.out); have r0 := (box_at Q1.out).2.1 0 _ rfl; have r4 := (box_at Q1.out).2.1 4 _ rfl; have z1 := Raw.cell_below hb Z0.out; clear hb))
  go_ret
  exact ⟨rfl, B1.out⟩
end
section
open Go.RowKit
set_option linter.unusedVariables false
theorem any_seq {P : Program} {ops : Array Oper} {Q : Exit → Act → World → Prop} (hb : (List.range ops.size).all (fun i => ((ops[i]?).map (fun o => (depsOf o).all (· < i))).getD true) = true) :
    ∀ (fuel k : Nat) (listed : Array Bool) (a : Act) (w : World), listed.size = ops.size → (∀ i, i < k → listed.getD i true = true) → (∀ i, k ≤ i → i < ops.size → listed.getD i true = false) → k + fuel = ops.size →
      wpAny P .any ops Q fuel listed a w → wpOps P ops Q (List.range' k fuel) a w := by
  intro fuel
  induction fuel with
  | zero => intro k listed a w hs h1 h2 hk h; simpa [wpOps] using h.2
  | succ fuel ih =>
    intro k listed a w hs h1 h2 hk h
    rw [List.range'_succ, wpOps_cons]
    have hi : k < ops.size := by omega
    have hr : k ∈ Region.ready .any ops listed := mem_ready.2 ⟨h2 k (Nat.le_refl _) hi, ops[k], Array.getElem?_eq_getElem hi, fun e he hbd => by
      have hb' := all_range hb hi
      simp only [Array.getElem?_eq_getElem hi, Option.map_some, Option.getD_some] at hb'
      have hlt : e.on < k := by
        have := List.all_eq_true.1 hb' e.on (List.mem_map.2 ⟨e, List.mem_filter.2 ⟨by simpa using he, hbd⟩, rfl⟩)
        simpa using this
      have := h1 e.on hlt
      have hsz : e.on < listed.size := by omega
      simpa [hsz] using this⟩
    refine wpOp_mono (fun a w h => ih (k + 1) _ a w (by simpa using hs) ?_ ?_ (by omega) h) (h.2 k hr)
    · intro i hi'
      rcases Nat.lt_or_ge i k with h' | h'
      · have := h1 i h'
        rw [Array.getD_eq_getD_getElem?, Array.getElem?_setIfInBounds]
        rw [Array.getD_eq_getD_getElem?] at this
        split
        · omega
        · exact this
      · obtain rfl : i = k := by omega
        simp [hs, hi]
    · intro i h' hi'
      have := h2 i (by omega) hi'
      rw [Array.getD_eq_getD_getElem?, Array.getElem?_setIfInBounds, if_neg (by omega)]
      rwa [Array.getD_eq_getD_getElem?] at this
theorem gd_false {n i : Nat} (h : i < n) : (Array.replicate n false).getD i true = false := by simp [h]
/-- A stretch that keeps its order: the rule in lists. -/
theorem wpList_lists {P : Program} {Q : Exit → Act → World → Prop} {l : List Oper} {a : Act} {w : World} (sls : List (List Nat)) (ons : List On) (eats : List (List Nat)) (N : Nat) (T : Nat → Prop) (own : Nat → Nat → Prop)
    (hc : FitB l.toArray (fun i => (sls[i]?).getD []) (eatOf eats) N a.tmps.size) (hst : AllStab w.heap.size T sls ons)
    (hap : ∀ i j k, own i k → own j k → i = j) (hmi : ∀ i k, own i k → l.length ≤ i ∧ T k ∧ k < w.heap.size) (hh : ∀ i, l.length ≤ i → i < l.length + N → (assOf sls ons i).on (slotsOf a) (own i) w)
    (hstep : AllStep (StepOk P l.toArray Q (assOf sls ons) (eatOf eats) N T w a) 0 l)
    (hend : ∀ a' w' own, Fin_ l.toArray sls ons eats N T w a a' w' own → Q .normal a' w') : wpList P l.toArray Q l a w := by
  have hst' : ∀ i, i < l.toArray.size + N → (assOf sls ons i).Stab w.heap.size T := fun i _ => hst.at i
  have h : wpAny P .any l.toArray Q l.length (Array.replicate l.toArray.size false) a w := by
    refine inv_any (w0 := w) (a0 := a) (A := assOf sls ons) (eat := eatOf eats) (N := N) (T := T) hc hst' (fun i o ho => by have := hstep.at i o (by simpa using ho); rwa [Nat.zero_add] at this) (fun a' w' own h => hend a' w' own ⟨h⟩) l.length _ a w own (by simp) ?_ ?_
    · exact Nat.le_trans List.countP_le_length (by simp)
    · have hL : ∀ i, i < l.toArray.size → (Array.replicate l.toArray.size false).getD i true = false := fun i hi => gd_false (by simpa using hi)
      refine ⟨rfl, fun _ _ => rfl, rfl, Foot.refl _ _, hap, fun i k h => ⟨.inr (hmi i k h).2.1, (hmi i k h).2.2⟩, fun i hiN hi _ => ?_, fun i o ho hi => ?_⟩
      · rcases Nat.lt_or_ge i l.toArray.size with h | h
        · rw [hL i h] at hi; cases hi
        · exact hh i (by simpa using h) (by simpa using hiN)
      · rw [hL i (Array.getElem?_eq_some_iff.1 ho).1] at hi; cases hi
  have h2 := any_seq hc.back l.length 0 _ a w (by simp) (fun i hi => absurd hi (Nat.not_lt_zero _)) (fun i _ hi => gd_false (by simpa using hi)) (by simp) h
  rwa [← wpOps_eq_wpList l 0 (by simp)]
/-- A row that has one struct, in a block of its own. -/
theorem Kd.R_of_one {α : Type} (d : Kd α) {w : World} {S : Nat → Prop} {g : Nat} {cs : List Value} {x : α} (hb : w.heap[g]? = some (.cells cs.toArray d.ty (0, 0))) (hS : S g) (h : d.O w (fun k => S k ∧ k ≠ g) x cs) : d.R w S (.slice (some ⟨g, 0, none⟩) 1 1) [x] := by
  have hl := d.K_len (d.O_K h)
  refine ⟨by simp, .inr ⟨g, 1, cs.toArray, rfl, hb, hS, Nat.le_refl _, by decide, by simp [hl], ?_⟩⟩
  exact ⟨fun k => S k ∧ k ≠ g, fun _ => False, cs, [], by simp [← hl], fun k h => ⟨h, id⟩, fun k h => h.elim, h, rfl⟩
end
section
open Go.RowKit
set_option linter.unusedVariables false
set_option maxRecDepth 100000
end
section
open Go.RowKit
set_option linter.unusedVariables false
set_option maxRecDepth 100000
theorem Kd.R_app2 {α : Type} (d : Kd α) {P : Program} {ops : Array Oper} {rest : List Oper} {o : Oper} {a : Act} {Q : Exit → Act → World → Prop} {W : World} (hgd : o.guard = none) (s x : Operand) (t : TypeId) (z : Value) (bytes : Nat)
    (ho : o.op = .call { callee := .builtin .append, args := #[s, x], argTypes := #[t, t] })
    (ht : P.underlying t = some (.slice d.ty)) (hinfo : (P.info? d.ty).map (fun i => (i.zero, i.size, i.bytes)) = some (some z, d.sz, bytes)) (hz : z.cells.size = d.sz) (hs0 : 0 < d.sz) (hb0 : bytes ≤ 256)
    (v : Value) (xs : List α) (p : α) (cs : List Value) (S Sx : Nat → Prop) (hs : a.eval s = v) {N : Nat} (hx : a.eval x = .slice (some ⟨N, 0, none⟩) 1 1) (hN : N = W.heap.size) (HO : d.R W S v xs) (hp : d.O W Sx p cs) (hd : ∀ k, Sx k → k < W.heap.size → ¬ S k)
    (hl : xs.length + 1 ≤ 1073741824)
    (h : ∀ v1 w1, d.R w1 (fun k => S k ∨ Sx k ∨ W.heap.size ≤ k) v1 (xs ++ [p]) → W.grownBy w1 v.ownBlock → (∀ k, v.ownBlock = some k → S k) → wpList P ops Q rest (a.put o.dst v1) w1) :
    wpList P ops Q (o :: rest) a (W.alloc (.cells cs.toArray d.ty)) := by
  subst hN
  obtain ⟨_, _, _, h3⟩ := Kd.R_own HO
  exact Kd.R_append d hgd s x t z bytes ho ht hinfo hz hs0 hb0 v xs p cs S Sx hs hx HO hp hd hl (fun v1 w1 h1 hg => h v1 w1 h1 hg (fun k e => (h3 k e).1))
theorem Foot.grown2 {S : Nat → Prop} {w0 W w1 : World} {row : Option Nat} (h : Foot S w0 W) (hg : W.grownBy w1 row) (hr : ∀ k, row = some k → S k ∨ w0.heap.size ≤ k) : Foot S w0 w1 :=
  ⟨hg.os.trans h.os, hg.tape.trans h.tape, hg.output.trans h.output, Nat.le_trans h.size hg.size, fun k hk hn => (hg.block k (Nat.lt_of_lt_of_le hk h.size) (fun e => (hr k e.symm).elim hn (fun e => by omega))).trans (h.block k hk hn)⟩
theorem carry2 {S : Nat → Prop} {w W : World} {b : Nat} {o : Obj} (h : Foot S w W) (hb : w.heap[b]? = some o) (hS : ¬ S b) : W.heap[b]? = some o := (h.block b (Array.getElem?_eq_some_iff.1 hb).1 hS).trans hb
theorem cell_al {w : World} {a : Addr} {u : Value} {o : Obj} (h : w.cell? a = some u) : (w.alloc o).cell? a = some u := Raw.cell_below (belA (Below.refl _ _) o) h
set_option maxHeartbeats 400000 in
theorem copied_i (x : Goal) (cs : List Value) (ok : Nat → Prop) (w : World) (hK : kGoal.K w ok x cs) :
    Calls Tryz.prog 157 #[.agg cs.toArray] w fun e w' => ∃ c : List Value, e = .returned (.agg c.toArray) ∧ kGoal.O w' (fun k => w.heap.size ≤ k) x c ∧ Below w.heap.size w w' := by
  obtain ⟨v1, v2, v3, rfl, h1, h2, h3⟩ := kGoal_K hK
  have H1 := Sec.mk h1
  have H2 := Sec.mk h2
  have H3 := Sec.mk h3
  clear hK h1 h2 h3
  have hu := Tryz.underlying100
  have T0 : Sec True := ⟨trivial⟩
  go_enter Tryz.func157, Tryz.ntmps157
  go_wp2
  have hat : Sec (∀ W : World, Below ((w.alloc (.cells #[.int .i64 x.kind, v1, v2, v3] 100)).alloc (.cells #[.int .i64 0, .slice none 0 0, .slice none 0 0, .slice none 0 0] 100)).heap.size ((w.alloc (.cells #[.int .i64 x.kind, v1, v2, v3] 100)).alloc (.cells #[.int .i64 0, .slice none 0 0, .slice none 0 0, .slice none 0 0] 100)) W → W.cell? ⟨w.heap.size, 0, none⟩ = some (.int .i64 x.kind) ∧ W.cell? ⟨w.heap.size, 1, none⟩ = some (v1) ∧ W.cell? ⟨w.heap.size, 2, none⟩ = some (v2) ∧ W.cell? ⟨w.heap.size, 3, none⟩ = some (v3) ∧ W.cell? ⟨w.heap.size + 1, 0, none⟩ = some (.int .i64 0) ∧ W.cell? ⟨w.heap.size + 1, 1, none⟩ = some (.slice none 0 0) ∧ W.cell? ⟨w.heap.size + 1, 2, none⟩ = some (.slice none 0 0) ∧ W.cell? ⟨w.heap.size + 1, 3, none⟩ = some (.slice none 0 0) ∧ W.frozen? ⟨w.heap.size + 1, 0, none⟩ = false ∧ W.frozen? ⟨w.heap.size + 1, 1, none⟩ = false ∧ W.frozen? ⟨w.heap.size + 1, 2, none⟩ = false ∧ W.frozen? ⟨w.heap.size + 1, 3, none⟩ = false) := ⟨fun W h => by
    have X := box_cells h (box2 _ _ _).1
    have Y := box_cells h (box2 _ _ _).2
    exact ⟨X.2.1 0 _ rfl, X.2.1 1 _ rfl, X.2.1 2 _ rfl, X.2.1 3 _ rfl, Y.2.1 0 _ rfl, Y.2.1 1 _ rfl, Y.2.1 2 _ rfl, Y.2.1 3 _ rfl, Y.2.2 0, Y.2.2 1, Y.2.2 2, Y.2.2 3⟩⟩
  have V1 : Sec (∀ W : World, Below ((w.alloc (.cells #[.int .i64 x.kind, v1, v2, v3] 100)).alloc (.cells #[.int .i64 0, .slice none 0 0, .slice none 0 0, .slice none 0 0] 100)).heap.size ((w.alloc (.cells #[.int .i64 x.kind, v1, v2, v3] 100)).alloc (.cells #[.int .i64 0, .slice none 0 0, .slice none 0 0, .slice none 0 0] 100)) W → kCell.V W ok v1 x.a) := ⟨fun W h => Kd.V_below H1.out (bel (belA (belA (Below.refl _ _) _) _) h) (by decide)⟩
  have V2 : Sec (∀ W : World, Below ((w.alloc (.cells #[.int .i64 x.kind, v1, v2, v3] 100)).alloc (.cells #[.int .i64 0, .slice none 0 0, .slice none 0 0, .slice none 0 0] 100)).heap.size ((w.alloc (.cells #[.int .i64 x.kind, v1, v2, v3] 100)).alloc (.cells #[.int .i64 0, .slice none 0 0, .slice none 0 0, .slice none 0 0] 100)) W → kCell.V W ok v2 x.b) := ⟨fun W h => Kd.V_below H2.out (bel (belA (belA (Below.refl _ _) _) _) h) (by decide)⟩
  have V3 : Sec (∀ W : World, Below ((w.alloc (.cells #[.int .i64 x.kind, v1, v2, v3] 100)).alloc (.cells #[.int .i64 0, .slice none 0 0, .slice none 0 0, .slice none 0 0] 100)).heap.size ((w.alloc (.cells #[.int .i64 x.kind, v1, v2, v3] 100)).alloc (.cells #[.int .i64 0, .slice none 0 0, .slice none 0 0, .slice none 0 0] 100)) W → kCell.V W ok v3 x.c) := ⟨fun W h => Kd.V_below H3.out (bel (belA (belA (Below.refl _ _) _) _) h) (by decide)⟩
  have F0 : Sec (Foot (Own w 2) w ((w.alloc (.cells #[.int .i64 x.kind, v1, v2, v3] 100)).alloc (.cells #[.int .i64 0, .slice none 0 0, .slice none 0 0, .slice none 0 0] 100))) := ⟨((Foot.refl _ _).alloc _).alloc _⟩
  have Z0 : Sec (((w.alloc (.cells #[.int .i64 x.kind, v1, v2, v3] 100)).alloc (.cells #[.int .i64 0, .slice none 0 0, .slice none 0 0, .slice none 0 0] 100)).heap.size = w.heap.size + 2) := ⟨by simp⟩
  obtain ⟨p0, p1, p2, p3, q0, q1, q2, q3, f0, f1, f2, f3⟩ := hat.out _ (Below.refl _ _)
  generalize (w.alloc (.cells #[.int .i64 x.kind, v1, v2, v3] 100)).alloc (.cells #[.int .i64 0, .slice none 0 0, .slice none 0 0, .slice none 0 0] 100) = w0 at *
  have hfar : (w.heap.size + 1 = w.heap.size) = False := by simp
  go_region_held3 (fun W => W.cell? ⟨w.heap.size, 0, none⟩ = some (.int .i64 x.kind) ∧ W.cell? ⟨w.heap.size, 1, none⟩ = some (v1) ∧ W.cell? ⟨w.heap.size, 2, none⟩ = some (v2) ∧ W.cell? ⟨w.heap.size, 3, none⟩ = some (v3)) (first | (refine ⟨?_, ?_, ?_, ?_⟩ <;> with_reducible assumption) | (simp only [World.cell?_drew]; refine ⟨?_, ?_, ?_, ?_⟩ <;> with_reducible assumption) | (simp only [World.cell?_setCell_far, hfar, ne_eq, not_false_eq_true]; refine ⟨?_, ?_, ?_, ?_⟩ <;> with_reducible assumption)) (first
    | (clear T0; go_at_call 72; have T1 : Sec True := ⟨trivial⟩; refine (cloneCells_c v1 x.a ok _ (V1.out _ (by first | exact Below.refl w0.heap.size w0 | exact belD (Below.refl w0.heap.size w0)))).mono ?_; rintro e w1 ⟨u1, rfl, hR, hb⟩; have hb2 : Below w0.heap.size w0 w1 := (by first | exact hb | exact bel (belD (Below.refl _ _)) hb); have B1 : Sec (Below w0.heap.size w0 w1) := ⟨bel (Below.refl w0.heap.size w0) hb2⟩; obtain ⟨A1, n1, rfl, -, -⟩ := Kd.R_form hR; have R1 : Sec (kCell.R w1 (fun k => w0.heap.size ≤ k ∧ k < w1.heap.size) (.slice A1 x.a.length n1) x.a) := ⟨Kd.R_mono hR (fun k h1 h2 => ⟨h1, h2⟩)⟩; have D1 := Sec.mk hb2; clear p0 p1 p2 p3 q0 q1 q2 q3 f0 f1 f2 f3; obtain ⟨p0, p1, p2, p3, q0, q1, q2, q3, f0, f1, f2, f3⟩ := hat.out _ B1.out; clear hb hb2 hR)
    | (clear T1; go_at_call 72; have T2 : Sec True := ⟨trivial⟩; refine (cloneCells_c v2 x.b ok _ (V2.out _ (by first | exact B1.out | exact belD (B1.out)))).mono ?_; rintro e w2 ⟨u2, rfl, hR, hb⟩; have hb2 : Below w1.heap.size w1 w2 := (by first | exact hb | exact bel (belD (Below.refl _ _)) hb); have B2 : Sec (Below w0.heap.size w0 w2) := ⟨bel (B1.out) hb2⟩; obtain ⟨A2, n2, rfl, -, -⟩ := Kd.R_form hR; have R2 : Sec (kCell.R w2 (fun k => w1.heap.size ≤ k ∧ k < w2.heap.size) (.slice A2 x.b.length n2) x.b) := ⟨Kd.R_mono hR (fun k h1 h2 => ⟨h1, h2⟩)⟩; have D2 := Sec.mk hb2; clear p0 p1 p2 p3 q0 q1 q2 q3 f0 f1 f2 f3; obtain ⟨p0, p1, p2, p3, q0, q1, q2, q3, f0, f1, f2, f3⟩ := hat.out _ B2.out; clear hb hb2 hR)
    | (clear T2; go_at_call 72; have T3 : Sec True := ⟨trivial⟩; refine (cloneCells_c v3 x.c ok _ (V3.out _ (by first | exact B2.out | exact belD (B2.out)))).mono ?_; rintro e w3 ⟨u3, rfl, hR, hb⟩; have hb2 : Below w2.heap.size w2 w3 := (by first | exact hb | exact bel (belD (Below.refl _ _)) hb); have B3 : Sec (Below w0.heap.size w0 w3) := ⟨bel (B2.out) hb2⟩; obtain ⟨A3, n3, rfl, -, -⟩ := Kd.R_form hR; have R3 : Sec (kCell.R w3 (fun k => w2.heap.size ≤ k ∧ k < w3.heap.size) (.slice A3 x.c.length n3) x.c) := ⟨Kd.R_mono hR (fun k h1 h2 => ⟨h1, h2⟩)⟩; have D3 := Sec.mk hb2; clear p0 p1 p2 p3 q0 q1 q2 q3 f0 f1 f2 f3; obtain ⟨p0, p1, p2, p3, q0, q1, q2, q3, f0, f1, f2, f3⟩ := hat.out _ B3.out; clear hb hb2 hR))
  all_goals
    go_wp2
    refine bodyPost_ret (v := .agg #[.int .i64 x.kind, .slice A1 x.a.length n1, .slice A2 x.b.length n2, .slice A3 x.c.length n3]) (by simp [results, Tryz.results157, go_sem, q0, q1, q2, q3]) rfl ⟨[.int .i64 x.kind, .slice A1 x.a.length n1, .slice A2 x.b.length n2, .slice A3 x.c.length n3], rfl, ?_, ?_⟩
    rotate_left
    · refine Foot.own (n := 2) (Foot.trans (S' := Own w 2) (Foot.call F0.out B3.out) ?_ (fun _ _ h => h))
      exact (Foot.set (Foot.set (Foot.set (Foot.set (Foot.refl _ _) (.inl ⟨by omega, by omega⟩) _ _) (.inl ⟨by omega, by omega⟩) _ _) (.inl ⟨by omega, by omega⟩) _ _) (.inl ⟨by omega, by omega⟩) _ _)
    · have FF : ∀ W, Foot (Own w 2) w3 W → kGoal.O W (fun k => w.heap.size ≤ k) x [.int .i64 x.kind, .slice A1 x.a.length n1, .slice A2 x.b.length n2, .slice A3 x.c.length n3] := fun W FF => ?_
      · refine FF _ ?_
        exact (Foot.set (Foot.set (Foot.set (Foot.set (Foot.refl _ _) (.inl ⟨by omega, by omega⟩) _ _) (.inl ⟨by omega, by omega⟩) _ _) (.inl ⟨by omega, by omega⟩) _ _) (.inl ⟨by omega, by omega⟩) _ _)
      · have z0 := Z0.out
        have z1 := D1.out.size
        have z2 := D2.out.size
        have z3 := D3.out.size
        have g2 : Foot (Own w 2) w2 W := Foot.trans (Foot.of_below (S := Own w 2) D3.out) FF (fun _ _ h => h)
        have g1 : Foot (Own w 2) w1 W := Foot.trans (Foot.of_below (S := Own w 2) D2.out) g2 (fun _ _ h => h)
        have r1 := Foot.R g1 R1.out (fun k h1 h2 => by have := h1.1; have := h2.2; omega)
        have r2 := Foot.R g2 R2.out (fun k h1 h2 => by have := h1.1; have := h2.2; omega)
        have r3 := Foot.R FF R3.out (fun k h1 h2 => by have := h1.1; have := h2.2; omega)
        exact (Kd.O_stack (d := (Kd.int 3)) (e := (Kd.pair (Kd.slice 23 kCell (by decide)) (Kd.pair (Kd.slice 23 kCell (by decide)) (Kd.slice 23 kCell (by decide))))) (n0 := w.heap.size) (n1 := w.heap.size) ⟨rfl, trivial⟩
          (Kd.O_stack (d := (Kd.slice 23 kCell (by decide))) (e := (Kd.pair (Kd.slice 23 kCell (by decide)) (Kd.slice 23 kCell (by decide)))) (n0 := w.heap.size) (n1 := w1.heap.size) ⟨_, rfl, Kd.R_mono r1 (fun k h _ => by have := h.1; have := h.2; omega)⟩
            (Kd.O_stack (d := (Kd.slice 23 kCell (by decide))) (e := (Kd.slice 23 kCell (by decide))) (n0 := w1.heap.size) (n1 := w2.heap.size) ⟨_, rfl, Kd.R_mono r2 (fun k h _ => by have := h.1; have := h.2; omega)⟩
              ⟨_, rfl, Kd.R_mono r3 (fun k h _ => by have := h.1; omega)⟩ (by omega)) (by omega)) (by omega))
end
section
open Go.RowKit
set_option linter.unusedVariables false
set_option maxRecDepth 100000
def kBind : Kd Bind := Kd.iso 180 (Kd.pair (Kd.int 3) (Kd.slice 23 kCell (by decide))) (fun x => (x.v, x.term))
theorem kBind_K {w : World} {ok : Nat → Prop} {x : Bind} {cs : List Value} (h : kBind.K w ok x cs) : ∃ v1, cs = [.int .i64 x.v, v1] ∧ kCell.V w ok v1 x.term := by
  obtain ⟨_, _, rfl, ⟨rfl, _⟩, ⟨v1, rfl, h1⟩⟩ := h
  exact ⟨v1, rfl, h1⟩
theorem Bind.ext_iff (a b : Bind) : a = b ↔ a.v = b.v ∧ a.term = b.term := by
  cases a; cases b; simp
instance : DecidableEq Bind := fun a b => decidable_of_iff _ (Bind.ext_iff a b).symm
def zeroBind : Bind := ⟨0, []⟩
def mBind : Mk Bind := ⟨fun x => 1 + mCell.cnts x.term, fun x k => ⟨k, mCell.mks x.term (k + 1)⟩⟩
def mBindt : Mk Bind := ⟨fun x => mCell.cnts x.term, fun x k => ⟨x.v, mCell.mks x.term (k)⟩⟩
end
end Go.Proofs.YtgiobpggonceeaaGreatDoor
