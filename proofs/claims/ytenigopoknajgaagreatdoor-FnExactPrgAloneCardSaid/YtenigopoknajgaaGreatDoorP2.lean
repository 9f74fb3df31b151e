/- Contracts: clauses that may stand in a program (the reference). -/
import Derived.Test.YtenigopoknajgaaGreatDoorP1
namespace Go.Proofs.YtenigopoknajgaaGreatDoor
open Go.RowKit
set_option linter.unusedVariables false
set_option maxRecDepth 100000
theorem goal_at {w : World} {ok : Nat → Prop} {A : Option Addr} {xs : List Goal} (h : kGoal.C w ok A xs) (i : Nat) (hi : i < xs.length) : ∃ b off E1 m1 E2 m2 E3 m3, A = some ⟨b, off, none⟩ ∧ ok b ∧
    w.cell? ⟨b, off + i * 4, none⟩ = some (.int .i64 xs[i].kind) ∧ w.cell? ⟨b, off + i * 4 + 1, none⟩ = some (.slice E1 xs[i].a.length m1) ∧ w.cell? ⟨b, off + i * 4 + 2, none⟩ = some (.slice E2 xs[i].b.length m2) ∧ w.cell? ⟨b, off + i * 4 + 3, none⟩ = some (.slice E3 xs[i].c.length m3) ∧
    kGoal.K w ok xs[i] [.int .i64 xs[i].kind, .slice E1 xs[i].a.length m1, .slice E2 xs[i].b.length m2, .slice E3 xs[i].c.length m3] := by
  obtain ⟨b, off, cs, hA, hb, hK, hc⟩ := Kd.C_get h (List.getElem?_eq_getElem hi)
  obtain ⟨v1, v2, v3, rfl, ⟨E1, m1, rfl, -⟩, ⟨E2, m2, rfl, -⟩, ⟨E3, m3, rfl, -⟩⟩ := kGoal_K hK
  exact ⟨b, off, E1, m1, E2, m2, E3, m3, hA, hb, hc 0 _ rfl, hc 1 _ rfl, hc 2 _ rfl, hc 3 _ rfl, hK⟩
theorem clauseOk_1 {c : Clause} (h : termIn c.head = false) : clauseOk c = false := by simp [clauseOk, h]
theorem clauseOk_2 {c : Clause} (h : headFun c.head = false) : clauseOk c = false := by simp [clauseOk, h]
theorem clauseOk_3 {c : Clause} (h : ¬ c.body.length ≤ 4) : clauseOk c = false := by simp [clauseOk, h]
theorem clauseOk_4 {c : Clause} (h1 : termIn c.head = true) (h2 : headFun c.head = true) (h3 : c.body.length ≤ 4) : clauseOk c = c.body.all goalOk := by simp [clauseOk, h1, h2, h3]
set_option maxHeartbeats 2000000 in
theorem l3Clause_c (c : Clause) (cs : List Value) (ok : Nat → Prop) (w : World) (hK : kClause.K w ok c cs) :
    Calls Tryz.prog 27 #[.agg cs.toArray] w fun e w' => e = .returned (.bool (clauseOk c)) ∧ Below w.heap.size w w' := by
  obtain ⟨v0, v1, rfl, h0, h1⟩ := kClause_K hK
  have H0 := Sec.mk h0
  obtain ⟨E0, m0, rfl, -, -, l0, -⟩ := h0
  obtain ⟨E1, m1, rfl, -, -, l1, hC, -⟩ := h1
  have B0 := Sec.mk (belA (Below.refl w.heap.size w) (.cells #[.slice E0 c.head.length m0, .slice E1 c.body.length m1] 59))
  have P0 := Sec.mk (heap_alloc_new w (.cells #[.slice E0 c.head.length m0, .slice E1 c.body.length m1] 59))
  have HC := Sec.mk hC
  have T0 : Sec True := ⟨trivial⟩
  clear hK hC
  have X := (box_at P0.out).2.1
  have y0 := X 0 _ rfl
  have y1 := X 1 _ rfl
  clear X
  cases ht : termIn c.head with
  | false =>
    have HE : Sec (clauseOk c = false) := ⟨clauseOk_1 ht⟩
    have H1 := Sec.mk ht
    clear ht
    go_enter Tryz.func27, Tryz.ntmps27
    go_wp2_with (go_at_call 49; refine (l3Term_c _ c.head ok _ (Kd.V_below H0.out B0.out (by decide))).mono ?_; rw [H1.out]; rintro e w1 ⟨rfl, hb⟩; have B1 := Sec.mk (bel B0.out hb); clear hb)
    go_ret
    exact ⟨rb HE.out.symm, B1.out⟩
  | true =>
    have H1 := Sec.mk ht
    cases hf : headFun c.head with
    | false =>
      have HE : Sec (clauseOk c = false) := ⟨clauseOk_2 hf⟩
      have H2 := Sec.mk hf
      clear ht hf
      go_enter Tryz.func27, Tryz.ntmps27
      go_wp2_with (first | (go_at_call 49; refine (l3Term_c _ c.head ok _ (Kd.V_below H0.out B0.out (by decide))).mono ?_; rw [H1.out]; rintro e w1 ⟨rfl, hb⟩; have B1 := Sec.mk (bel B0.out hb); have P1 := Sec.mk ((hb.block _ (Array.getElem?_eq_some_iff.1 P0.out).1).trans P0.out); have X := (box_at P1.out).2.1; have z0 := X 0 _ rfl; have z1 := X 1 _ rfl; clear hb X) | (go_at_call 50; refine (l3Call_c _ c.head ok _ (Kd.V_below H0.out B1.out (by decide))).mono ?_; rw [H2.out]; rintro e w2 ⟨rfl, hb⟩; have B2 := Sec.mk (bel B1.out hb); clear hb))
      go_ret
      exact ⟨rb HE.out.symm, B2.out⟩
    | true =>
      have H2 := Sec.mk hf
      by_cases hl : c.body.length ≤ 4
      · have HL : Sec (clauseOk c = c.body.all goalOk) := ⟨clauseOk_4 ht hf hl⟩
        have q1 : decide ((c.body.length : Int) > 4) = false := decide_eq_false (by omega)
        clear ht hf
        go_enter Tryz.func27, Tryz.ntmps27
        go_wp2_with (first | (go_at_call 49; refine (l3Term_c _ c.head ok _ (Kd.V_below H0.out B0.out (by decide))).mono ?_; rw [H1.out]; rintro e w1 ⟨rfl, hb⟩; have B1 := Sec.mk (bel B0.out hb); have P1 := Sec.mk ((hb.block _ (Array.getElem?_eq_some_iff.1 P0.out).1).trans P0.out); have X := (box_at P1.out).2.1; have z0 := X 0 _ rfl; have z1 := X 1 _ rfl; clear hb X) | (go_at_call 50; refine (l3Call_c _ c.head ok _ (Kd.V_below H0.out B1.out (by decide))).mono ?_; rw [H2.out]; rintro e w2 ⟨rfl, hb⟩; have B2 := Sec.mk (bel B1.out hb); have P2 := Sec.mk ((hb.block _ (Array.getElem?_eq_some_iff.1 P1.out).1).trans P1.out); have X := (box_at P2.out).2.1; have s1 := X 1 _ rfl; clear hb X))
        go_loopw [3] (fun i wr => ∃ k : Nat, k ≤ c.body.length ∧ i = .int .i64 k ∧ Sec ((c.body.take k).all goalOk = true) ∧ Sec (Below w.heap.size w wr ∧ wr.heap[w.heap.size]? = some (.cells #[.slice E0 c.head.length m0, .slice E1 c.body.length m1] 59 (0, 0)))) (fun i _ => c.body.length - (intOf i).toNat)
        case atStart => exact ⟨0, Nat.zero_le _, rfl, ⟨by simp⟩, ⟨B2.out, P2.out⟩⟩
        case round =>
          obtain ⟨k, hk, rfl, hT, hb⟩ := hrel
          have X := (box_at hb.out.2).2.1
          have u1 := X 1 _ rfl
          clear X
          by_cases hlt : k < c.body.length
          · obtain ⟨b, off, F1, n1, F2, n2, F3, n3, rfl, _, x0, x1, x2, x3, hKg⟩ := goal_at (Kd.C_below HC.out hb.out.1 (by decide)) k hlt
            have hTk : Sec ((c.body.take (k + 1)).all goalOk = goalOk c.body[k]) := ⟨by rw [take_all goalOk c.body k hlt, hT.out, Bool.true_and]⟩
            have hAll : Sec (goalOk c.body[k] = false → c.body.all goalOk = false) := ⟨fun h => List.all_eq_false.2 ⟨c.body[k], List.getElem_mem hlt, by rw [h]; decide⟩⟩
            have HG := Sec.mk (specGoalOk_c c.body[k] _ ok wr hKg)
            generalize c.body[k] = g at *
            clear hKg
            have i0 : (0 : Int) ≤ (k : Int) := by omega
            have i1 : (k : Int) < (c.body.length : Int) := by omega
            cases hg : goalOk g with
            | false =>
              have HE : Sec (clauseOk c = false) := ⟨by rw [HL.out]; exact hAll.out hg⟩
              rw [hg] at HG
              clear hg
              go_wp2_with (go_at_call 51; refine HG.out.mono ?_; rintro e w5 ⟨rfl, hb5⟩; have B5 := Sec.mk (bel hb.out.1 hb5); clear hb5)
              go_ret
              exact ⟨rb HE.out.symm, B5.out⟩
            | true =>
              have HE : Sec ((c.body.take (k + 1)).all goalOk = true) := ⟨by rw [hTk.out, hg]⟩
              rw [hg] at HG
              clear hg
              go_wp2_with (go_at_call 51; refine HG.out.mono ?_; rintro e w5 ⟨rfl, hb5⟩; have B5 := Sec.mk (bel hb.out.1 hb5); have P5 := Sec.mk ((hb5.block _ (Array.getElem?_eq_some_iff.1 hb.out.2).1).trans hb.out.2); clear hb5)
              go_roundw
              case rel => exact ⟨k + 1, by omega, by go_num, HE, ⟨B5.out, P5.out⟩⟩
              case measure => simp [intOf]; omega
          · have HE : Sec (clauseOk c = true) := ⟨by rw [HL.out]; have := hT.out; rwa [List.take_of_length_le (by omega)] at this⟩
            go_wp2
            go_ret
            exact ⟨rb HE.out.symm, hb.out.1⟩
      · have HE : Sec (clauseOk c = false) := ⟨clauseOk_3 hl⟩
        have q1 : decide ((c.body.length : Int) > 4) = true := decide_eq_true (by omega)
        clear ht hf
        go_enter Tryz.func27, Tryz.ntmps27
        go_wp2_with (first | (go_at_call 49; refine (l3Term_c _ c.head ok _ (Kd.V_below H0.out B0.out (by decide))).mono ?_; rw [H1.out]; rintro e w1 ⟨rfl, hb⟩; have B1 := Sec.mk (bel B0.out hb); have P1 := Sec.mk ((hb.block _ (Array.getElem?_eq_some_iff.1 P0.out).1).trans P0.out); have X := (box_at P1.out).2.1; have z0 := X 0 _ rfl; have z1 := X 1 _ rfl; clear hb X) | (go_at_call 50; refine (l3Call_c _ c.head ok _ (Kd.V_below H0.out B1.out (by decide))).mono ?_; rw [H2.out]; rintro e w2 ⟨rfl, hb⟩; have B2 := Sec.mk (bel B1.out hb); have P2 := Sec.mk ((hb.block _ (Array.getElem?_eq_some_iff.1 P1.out).1).trans P1.out); have X := (box_at P2.out).2.1; have s1 := X 1 _ rfl; clear hb X))
        go_ret
        exact ⟨rb HE.out.symm, B2.out⟩
end Go.Proofs.YtenigopoknajgaaGreatDoor
