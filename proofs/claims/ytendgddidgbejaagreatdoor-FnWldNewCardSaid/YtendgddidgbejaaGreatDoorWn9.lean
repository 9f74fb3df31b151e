/- The laws' own comparisons of clauses and programs say true of what is the same. PrgNode of a program without places; and what goes with it. -/
import Derived.Test.YtendgddidgbejaaGreatDoorWn1
import Derived.Test.YtendgddidgbejaaGreatDoorWn5
import Derived.Test.YtendgddidgbejaaGreatDoorWn6
import Derived.Test.YtendgddidgbejaaGreatDoorWn7
import Derived.Test.YtendgddidgbejaaGreatDoorWn8
import Derived.Outline
import Derived.KernelRfl
import Derived.WalkLawsBesides
import Derived.Deep.LoopGhost
import Derived.Deep.QuietTactic
import Derived.BigQuiet
import Derived.Laws.Bits64
namespace Go.Proofs.YtendgddidgbejaaGreatDoor
section
open Go.RowKit
set_option linter.unusedVariables false
set_option maxRecDepth 100000
set_option maxHeartbeats 4000000 in
theorem caClause_c (x : Clause) (cs ds : List Value) (ok ok' : Nat → Prop) (w : World) (hK : kClause.K w ok x cs) (hD : kClause.K w ok' x ds) :
    Calls Tryz.prog 50 #[.agg cs.toArray, .agg ds.toArray] w fun e w' => e = .returned (.bool true) ∧ Below w.heap.size w w' := by
  obtain ⟨v1, v2, rfl, h1, h2⟩ := kClause_K hK
  obtain ⟨u1, u2, rfl, g1, g2⟩ := kClause_K hD
  have H1 := Sec.mk h1
  have G1 := Sec.mk g1
  obtain ⟨E1, m1, rfl, -⟩ := h1
  obtain ⟨E2, m2, rfl, -, -, l2, hC, -⟩ := h2
  obtain ⟨D1, n1, rfl, -⟩ := g1
  obtain ⟨D2, n2, rfl, -, -, -, hE, -⟩ := g2
  have hu := Tryz.underlying89
  have HC := Sec.mk hC
  have HE := Sec.mk hE
  clear hC hE hK hD
  have B0 := Sec.mk (belA (belA (Below.refl w.heap.size w) (.cells #[.slice E1 x.head.length m1, .slice E2 x.body.length m2] 84)) (.cells #[.slice D1 x.head.length n1, .slice D2 x.body.length n2] 84))
  have P0 := Sec.mk (box2 w (.cells #[.slice E1 x.head.length m1, .slice E2 x.body.length m2] 84) (.cells #[.slice D1 x.head.length n1, .slice D2 x.body.length n2] 84)).1
  have Q0 := Sec.mk (box2 w (.cells #[.slice E1 x.head.length m1, .slice E2 x.body.length m2] 84) (.cells #[.slice D1 x.head.length n1, .slice D2 x.body.length n2] 84)).2
  have X := (box_at P0.out).2.1
  have p0 := X 0 _ rfl
  have p1 := X 1 _ rfl
  clear X
  have X := (box_at Q0.out).2.1
  have q0 := X 0 _ rfl
  have q1 := X 1 _ rfl
  clear X
  go_enter Tryz.func50, Tryz.ntmps50
  go_wp2_with (go_at_call 16; refine (caTerm_c _ _ x.head x.head ok ok' _ (Kd.V_below H1.out B0.out (by decide)) (Kd.V_below G1.out B0.out (by decide))).mono ?_; rw [same_]; rintro e w1 ⟨rfl, hb⟩; have B1 := Sec.mk (bel B0.out hb); have P1 := Sec.mk ((hb.block _ (Array.getElem?_eq_some_iff.1 P0.out).1).trans P0.out); have Q1 := Sec.mk ((hb.block _ (Array.getElem?_eq_some_iff.1 Q0.out).1).trans Q0.out); have r1 := (box_at P1.out).2.1 1 _ rfl; have s1 := (box_at Q1.out).2.1 1 _ rfl; clear hb)
  go_loopw [5] (fun iv wr => ∃ k : Nat, k ≤ x.body.length ∧ iv = .int .i64 k ∧ Sec (Below w.heap.size w wr) ∧ Sec (wr.heap[w.heap.size]? = some (.cells #[.slice E1 x.head.length m1, .slice E2 x.body.length m2] 84 (0, 0))) ∧ Sec (wr.heap[w.heap.size + 1]? = some (.cells #[.slice D1 x.head.length n1, .slice D2 x.body.length n2] 84 (0, 0)))) (fun iv _ => x.body.length - (intOf iv).toNat)
  case atStart => exact ⟨0, Nat.zero_le _, rfl, B1, P1, Q1⟩
  case round =>
    obtain ⟨k, hk, rfl, hb, hP, hQ⟩ := hrel
    have X := (box_at hP.out).2.1
    have p0 := X 0 _ rfl
    have p1 := X 1 _ rfl
    clear X
    have X := (box_at hQ.out).2.1
    have q0 := X 0 _ rfl
    have q1 := X 1 _ rfl
    clear X
    by_cases hlt : k < x.body.length
    · obtain ⟨b, off, cs, rfl, hob, hK, hc⟩ := Kd.C_get (Kd.C_below HC.out hb.out (by decide)) (List.getElem?_eq_getElem hlt)
      obtain ⟨b2, off2, cs2, rfl, hob2, hK2, hc2⟩ := Kd.C_get (Kd.C_below HE.out hb.out (by decide)) (List.getElem?_eq_getElem hlt)
      generalize x.body[k] = y at *
      have HK := Sec.mk hK
      have HK2 := Sec.mk hK2
      obtain ⟨va, vb, vc, rfl, -⟩ := kGoal_K hK
      obtain ⟨ua, ub, uc, rfl, -⟩ := kGoal_K hK2
      have A0 : Sec (wr.cell? ⟨b, off + k * 4, none⟩ = some (.int .i64 y.kind)) := ⟨hc 0 _ rfl⟩
      have A1 : Sec (wr.cell? ⟨b, off + k * 4 + 1, none⟩ = some (va)) := ⟨hc 1 _ rfl⟩
      have A2 : Sec (wr.cell? ⟨b, off + k * 4 + 2, none⟩ = some (vb)) := ⟨hc 2 _ rfl⟩
      have A3 : Sec (wr.cell? ⟨b, off + k * 4 + 3, none⟩ = some (vc)) := ⟨hc 3 _ rfl⟩
      have Z0 : Sec (wr.cell? ⟨b2, off2 + k * 4, none⟩ = some (.int .i64 y.kind)) := ⟨hc2 0 _ rfl⟩
      have Z1 : Sec (wr.cell? ⟨b2, off2 + k * 4 + 1, none⟩ = some (ua)) := ⟨hc2 1 _ rfl⟩
      have Z2 : Sec (wr.cell? ⟨b2, off2 + k * 4 + 2, none⟩ = some (ub)) := ⟨hc2 2 _ rfl⟩
      have Z3 : Sec (wr.cell? ⟨b2, off2 + k * 4 + 3, none⟩ = some (uc)) := ⟨hc2 3 _ rfl⟩
      have AB := Sec.mk ((box_at hP.out).2.1 1 _ rfl)
      have ZB := Sec.mk ((box_at hQ.out).2.1 1 _ rfl)
      have i0 : (0 : Int) ≤ (k : Int) := by omega
      have i1 : (k : Int) < (x.body.length : Int) := by omega
      clear hK hK2 hc hc2
      go_wp2
      refine wp_region_lists [[28], [29], [30], [31], [32], [33], [34], [35], [36], [37], [38], [39]]
        [fun val _ _ => val 28 = .pointer (some ⟨w.heap.size, 1, none⟩),
          fun val _ _ => val 29 = .slice (some ⟨b, off, none⟩) x.body.length m2,
          fun val _ _ => val 30 = .int .i64 k,
          fun val _ _ => val 31 = .pointer (some ⟨b, off + k * 4, none⟩),
          fun val _ _ => val 32 = .agg #[.int .i64 y.kind, va, vb, vc],
          fun val _ _ => val 33 = .pointer (some ⟨w.heap.size + 1, 1, none⟩),
          fun val _ _ => val 34 = .slice (some ⟨b2, off2, none⟩) x.body.length n2,
          fun val _ _ => val 35 = .int .i64 k,
          fun val _ _ => val 36 = .pointer (some ⟨b2, off2 + k * 4, none⟩),
          fun val _ _ => val 37 = .agg #[.int .i64 y.kind, ua, ub, uc],
          fun val _ _ => val 38 = .bool true,
          fun val _ _ => val 39 = .bool false]
        [[], [], [], [], [], [], [], [], [], [], [], []] 0 (fun _ => False) (fun _ _ => False) (by kernel_rfl) ⟨by kernel_rfl, by kernel_rfl, by kernel_rfl, by kernel_rfl, by kernel_rfl⟩
        (.cons (stab_val 28 (fun v => v = .pointer (some ⟨w.heap.size, 1, none⟩))) (.cons (stab_val 29 (fun v => v = .slice (some ⟨b, off, none⟩) x.body.length m2)) (.cons (stab_val 30 (fun v => v = .int .i64 k)) (.cons (stab_val 31 (fun v => v = .pointer (some ⟨b, off + k * 4, none⟩))) (.cons (stab_val 32 (fun v => v = .agg #[.int .i64 y.kind, va, vb, vc])) (.cons (stab_val 33 (fun v => v = .pointer (some ⟨w.heap.size + 1, 1, none⟩))) (.cons (stab_val 34 (fun v => v = .slice (some ⟨b2, off2, none⟩) x.body.length n2)) (.cons (stab_val 35 (fun v => v = .int .i64 k)) (.cons (stab_val 36 (fun v => v = .pointer (some ⟨b2, off2 + k * 4, none⟩))) (.cons (stab_val 37 (fun v => v = .agg #[.int .i64 y.kind, ua, ub, uc])) (.cons (stab_val 38 (fun v => v = .bool true)) (.cons (stab_val 39 (fun v => v = .bool false)) .nil))))))))))))
        (fun i j k h1 h2 => h1.elim) (fun i k h => h.elim) (fun i h1 h2 => by simp at h1 h2; omega) (.cons ?_ (.cons ?_ (.cons ?_ (.cons ?_ (.cons ?_ (.cons ?_ (.cons ?_ (.cons ?_ (.cons ?_ (.cons ?_ (.cons ?_ (.cons ?_ .nil)))))))))))) ?_
      · intro a W own hfor huse hap hmi hF K hK
        have e2 : a.eval (.tmp 2) = .pointer (some ⟨w.heap.size, 0, none⟩) := hfor 2 (by kernel_rfl)
        refine op_val (.pointer (some ⟨w.heap.size, 1, none⟩)) W rfl ?_ (hK _ _ (post_pure ?_))
        · clear hfor huse hap hmi hK hF
          generalize a.eval = ρ at *
          go_simp
        · exact (if_pos rfl)
      · intro a W own hfor huse hap hmi hF K hK
        have e28 : a.eval (.tmp 28) = .pointer (some ⟨w.heap.size, 1, none⟩) := huse 0 (by kernel_rfl)
        have c0 := foot_cell hF (fun h => h) AB.out
        refine op_val (.slice (some ⟨b, off, none⟩) x.body.length m2) W rfl ?_ (hK _ _ (post_pure ?_))
        · clear hfor huse hap hmi hK hF
          generalize a.eval = ρ at *
          go_simp
        · exact (if_pos rfl)
      · intro a W own hfor huse hap hmi hF K hK
        have e5 : a.eval (.tmp 5) = .int .i64 k := hfor 5 (by kernel_rfl)
        refine op_val (.int .i64 k) W rfl ?_ (hK _ _ (post_pure ?_))
        · clear hfor huse hap hmi hK hF
          generalize a.eval = ρ at *
          go_simp
        · exact (if_pos rfl)
      · intro a W own hfor huse hap hmi hF K hK
        have e29 : a.eval (.tmp 29) = .slice (some ⟨b, off, none⟩) x.body.length m2 := huse 1 (by kernel_rfl)
        have e30 : a.eval (.tmp 30) = .int .i64 k := huse 2 (by kernel_rfl)
        refine op_val (.pointer (some ⟨b, off + k * 4, none⟩)) W rfl ?_ (hK _ _ (post_pure ?_))
        · clear hfor huse hap hmi hK hF
          generalize a.eval = ρ at *
          go_simp
        · exact (if_pos rfl)
      · intro a W own hfor huse hap hmi hF K hK
        have e31 : a.eval (.tmp 31) = .pointer (some ⟨b, off + k * 4, none⟩) := huse 3 (by kernel_rfl)
        have c0 := foot_cell hF (fun h => h) A0.out
        have c1 := foot_cell hF (fun h => h) A1.out
        have c2 := foot_cell hF (fun h => h) A2.out
        have c3 := foot_cell hF (fun h => h) A3.out
        refine op_val (.agg #[.int .i64 y.kind, va, vb, vc]) W rfl ?_ (hK _ _ (post_pure ?_))
        · clear hfor huse hap hmi hK hF
          generalize a.eval = ρ at *
          go_simp
        · exact (if_pos rfl)
      · intro a W own hfor huse hap hmi hF K hK
        have e3 : a.eval (.tmp 3) = .pointer (some ⟨w.heap.size + 1, 0, none⟩) := hfor 3 (by kernel_rfl)
        refine op_val (.pointer (some ⟨w.heap.size + 1, 1, none⟩)) W rfl ?_ (hK _ _ (post_pure ?_))
        · clear hfor huse hap hmi hK hF
          generalize a.eval = ρ at *
          go_simp
        · exact (if_pos rfl)
      · intro a W own hfor huse hap hmi hF K hK
        have e33 : a.eval (.tmp 33) = .pointer (some ⟨w.heap.size + 1, 1, none⟩) := huse 5 (by kernel_rfl)
        have c0 := foot_cell hF (fun h => h) ZB.out
        refine op_val (.slice (some ⟨b2, off2, none⟩) x.body.length n2) W rfl ?_ (hK _ _ (post_pure ?_))
        · clear hfor huse hap hmi hK hF
          generalize a.eval = ρ at *
          go_simp
        · exact (if_pos rfl)
      · intro a W own hfor huse hap hmi hF K hK
        have e5 : a.eval (.tmp 5) = .int .i64 k := hfor 5 (by kernel_rfl)
        refine op_val (.int .i64 k) W rfl ?_ (hK _ _ (post_pure ?_))
        · clear hfor huse hap hmi hK hF
          generalize a.eval = ρ at *
          go_simp
        · exact (if_pos rfl)
      · intro a W own hfor huse hap hmi hF K hK
        have e34 : a.eval (.tmp 34) = .slice (some ⟨b2, off2, none⟩) x.body.length n2 := huse 6 (by kernel_rfl)
        have e35 : a.eval (.tmp 35) = .int .i64 k := huse 7 (by kernel_rfl)
        refine op_val (.pointer (some ⟨b2, off2 + k * 4, none⟩)) W rfl ?_ (hK _ _ (post_pure ?_))
        · clear hfor huse hap hmi hK hF
          generalize a.eval = ρ at *
          go_simp
        · exact (if_pos rfl)
      · intro a W own hfor huse hap hmi hF K hK
        have e36 : a.eval (.tmp 36) = .pointer (some ⟨b2, off2 + k * 4, none⟩) := huse 8 (by kernel_rfl)
        have c0 := foot_cell hF (fun h => h) Z0.out
        have c1 := foot_cell hF (fun h => h) Z1.out
        have c2 := foot_cell hF (fun h => h) Z2.out
        have c3 := foot_cell hF (fun h => h) Z3.out
        refine op_val (.agg #[.int .i64 y.kind, ua, ub, uc]) W rfl ?_ (hK _ _ (post_pure ?_))
        · clear hfor huse hap hmi hK hF
          generalize a.eval = ρ at *
          go_simp
        · exact (if_pos rfl)
      · intro a W own hfor huse hap hmi hF K hK
        have e32 : a.eval (.tmp 32) = .agg #[.int .i64 y.kind, va, vb, vc] := huse 4 (by kernel_rfl)
        have e37 : a.eval (.tmp 37) = .agg #[.int .i64 y.kind, ua, ub, uc] := huse 9 (by kernel_rfl)
        have hk1 := kGoal.K_move (show Keeps wr W ok ok from fun q h1 h2 => ⟨h1, hF.block q h2 (fun h => h)⟩) HK.out
        have hk2 := kGoal.K_move (show Keeps wr W ok' ok' from fun q h1 h2 => ⟨h1, hF.block q h2 (fun h => h)⟩) HK2.out
        have efn : a.eval (.func 112) = .func (.func 112) #[] #[] := rfl
        refine op_call (f := 112) (args := #[.agg #[.int .i64 y.kind, va, vb, vc], .agg #[.int .i64 y.kind, ua, ub, uc]]) (fun v w1 => v = .bool true ∧ Below W.heap.size W w1) rfl ?_ ?_ (fun v w1 h => ?_)
        · clear hfor huse hap hmi hK hF
          generalize a.eval = ρ at *
          go_simp
        · exact (caGoal_c y _ _ ok ok' W hk1 hk2).mono (by rintro e w1 ⟨rfl, h2⟩; exact ⟨_, rfl, rfl, h2⟩)
        · obtain ⟨rfl, h2⟩ := h
          exact hK _ _ (post_new h2 (if_pos rfl))
      · intro a W own hfor huse hap hmi hF K hK
        have e38 : a.eval (.tmp 38) = .bool true := huse 10 (by kernel_rfl)
        refine op_val (.bool false) W rfl ?_ (hK _ _ (post_pure ?_))
        · clear hfor huse hap hmi hK hF
          generalize a.eval = ρ at *
          go_simp
        · exact (if_pos rfl)
      intro a' W own hf
      have s1 := hf.st.size
      have s2 := hf.st.rest
      have s3 := fun t ht => hf.st.kept t ht
      revert hf
      revert a'
      refine lay_intro (df := []) [true, true, true, true, true, true, true, true, true, true, true, true, true, true, true, true, true, true, true, true, true, true, true, true, true, true, true, true, false, false, false, false, false, false, false, false, false, false, false, false] (by kernel_rfl) rfl ?_
      intro x39 x38 x37 x36 x35 x34 x33 x32 x31 x30 x29 x28 hf
      have e39 : x39 = .bool false := hf.at 11 (fun val _ _ => val 39 = .bool false) rfl (by kernel_rfl)
      subst e39
      have HF := Sec.mk hf.st.foot
      clear hf
      have B1 := Sec.mk (HF.out.below (belD hb.out) (fun k h => h.elim))
      have P1 := Sec.mk ((HF.out.block _ (Array.getElem?_eq_some_iff.1 hP.out).1 (fun h => h)).trans hP.out)
      have Q1 := Sec.mk ((HF.out.block _ (Array.getElem?_eq_some_iff.1 hQ.out).1 (fun h => h)).trans hQ.out)
      clear HF
      go_wp2
      go_roundw
      case rel => exact ⟨k + 1, by omega, by go_num, B1, P1, Q1⟩
      case measure => simp [intOf]; omega
    · go_wp2
      go_ret
      exact ⟨rfl, hb.out⟩
set_option maxHeartbeats 4000000 in
theorem caProg_c (x : Prog) (cs ds : List Value) (ok ok' : Nat → Prop) (w : World) (hK : kProg.K w ok x cs) (hD : kProg.K w ok' x ds) :
    Calls Tryz.prog 15 #[.agg cs.toArray, .agg ds.toArray] w fun e w' => e = .returned (.bool true) ∧ Below w.heap.size w w' := by
  obtain ⟨v1, v2, rfl, h1, h2⟩ := kProg_K hK
  obtain ⟨u1, u2, rfl, g1, g2⟩ := kProg_K hD
  obtain ⟨E1, m2, rfl, -, -, l1, hC, -⟩ := h1
  obtain ⟨E2, mp, rfl, -, -, l2, hCp, -⟩ := h2
  obtain ⟨D1, n2, rfl, -, -, -, hE, -⟩ := g1
  obtain ⟨D2, np, rfl, -, -, -, hEp, -⟩ := g2
  have hu := Tryz.underlying84
  have hu2 := Tryz.underlying87
  have HC := Sec.mk hC
  have HE := Sec.mk hE
  have HP := Sec.mk hCp
  have HQ := Sec.mk hEp
  clear hC hE hK hD hCp hEp
  have B0 := Sec.mk (belA (belA (Below.refl w.heap.size w) (.cells #[.slice E1 x.clauses.length m2, .slice E2 x.places.length mp] 26)) (.cells #[.slice D1 x.clauses.length n2, .slice D2 x.places.length np] 26))
  have P0 := Sec.mk (box2 w (.cells #[.slice E1 x.clauses.length m2, .slice E2 x.places.length mp] 26) (.cells #[.slice D1 x.clauses.length n2, .slice D2 x.places.length np] 26)).1
  have Q0 := Sec.mk (box2 w (.cells #[.slice E1 x.clauses.length m2, .slice E2 x.places.length mp] 26) (.cells #[.slice D1 x.clauses.length n2, .slice D2 x.places.length np] 26)).2
  have X := (box_at P0.out).2.1
  have p0 := X 0 _ rfl
  have p1 := X 1 _ rfl
  clear X
  have X := (box_at Q0.out).2.1
  have q0 := X 0 _ rfl
  have q1 := X 1 _ rfl
  clear X
  have B1 := B0
  have P1 := P0
  have Q1 := Q0
  go_enter Tryz.func15, Tryz.ntmps15
  go_wp2_with fail
  go_loopw [5] (fun iv wr => ∃ k : Nat, k ≤ x.clauses.length ∧ iv = .int .i64 k ∧ Sec (Below w.heap.size w wr) ∧ Sec (wr.heap[w.heap.size]? = some (.cells #[.slice E1 x.clauses.length m2, .slice E2 x.places.length mp] 26 (0, 0))) ∧ Sec (wr.heap[w.heap.size + 1]? = some (.cells #[.slice D1 x.clauses.length n2, .slice D2 x.places.length np] 26 (0, 0)))) (fun iv _ => x.clauses.length - (intOf iv).toNat)
  case atStart => exact ⟨0, Nat.zero_le _, rfl, B1, P1, Q1⟩
  case round =>
    obtain ⟨k, hk, rfl, hb, hP, hQ⟩ := hrel
    have X := (box_at hP.out).2.1
    have p0 := X 0 _ rfl
    have p1 := X 1 _ rfl
    clear X
    have X := (box_at hQ.out).2.1
    have q0 := X 0 _ rfl
    have q1 := X 1 _ rfl
    clear X
    by_cases hlt : k < x.clauses.length
    · obtain ⟨b, off, cs, rfl, hob, hK, hc⟩ := Kd.C_get (Kd.C_below HC.out hb.out (by decide)) (List.getElem?_eq_getElem hlt)
      obtain ⟨b2, off2, cs2, rfl, hob2, hK2, hc2⟩ := Kd.C_get (Kd.C_below HE.out hb.out (by decide)) (List.getElem?_eq_getElem hlt)
      generalize x.clauses[k] = y at *
      have HK := Sec.mk hK
      have HK2 := Sec.mk hK2
      obtain ⟨va, vb, rfl, -⟩ := kClause_K hK
      obtain ⟨ua, ub, rfl, -⟩ := kClause_K hK2
      have A0 : Sec (wr.cell? ⟨b, off + k * 2, none⟩ = some (va)) := ⟨hc 0 _ rfl⟩
      have A1 : Sec (wr.cell? ⟨b, off + k * 2 + 1, none⟩ = some (vb)) := ⟨hc 1 _ rfl⟩
      have Z0 : Sec (wr.cell? ⟨b2, off2 + k * 2, none⟩ = some (ua)) := ⟨hc2 0 _ rfl⟩
      have Z1 : Sec (wr.cell? ⟨b2, off2 + k * 2 + 1, none⟩ = some (ub)) := ⟨hc2 1 _ rfl⟩
      have AB := Sec.mk ((box_at hP.out).2.1 0 _ rfl)
      have ZB := Sec.mk ((box_at hQ.out).2.1 0 _ rfl)
      have i0 : (0 : Int) ≤ (k : Int) := by omega
      have i1 : (k : Int) < (x.clauses.length : Int) := by omega
      clear hK hK2 hc hc2
      go_wp2
      refine wp_region_lists [[30], [31], [32], [33], [34], [35], [36], [37], [38], [39], [40], [41]]
        [fun val _ _ => val 30 = .pointer (some ⟨w.heap.size, 0, none⟩),
          fun val _ _ => val 31 = .slice (some ⟨b, off, none⟩) x.clauses.length m2,
          fun val _ _ => val 32 = .int .i64 k,
          fun val _ _ => val 33 = .pointer (some ⟨b, off + k * 2, none⟩),
          fun val _ _ => val 34 = .agg #[va, vb],
          fun val _ _ => val 35 = .pointer (some ⟨w.heap.size + 1, 0, none⟩),
          fun val _ _ => val 36 = .slice (some ⟨b2, off2, none⟩) x.clauses.length n2,
          fun val _ _ => val 37 = .int .i64 k,
          fun val _ _ => val 38 = .pointer (some ⟨b2, off2 + k * 2, none⟩),
          fun val _ _ => val 39 = .agg #[ua, ub],
          fun val _ _ => val 40 = .bool true,
          fun val _ _ => val 41 = .bool false]
        [[], [], [], [], [], [], [], [], [], [], [], []] 0 (fun _ => False) (fun _ _ => False) (by kernel_rfl) ⟨by kernel_rfl, by kernel_rfl, by kernel_rfl, by kernel_rfl, by kernel_rfl⟩
        (.cons (stab_val 30 (fun v => v = .pointer (some ⟨w.heap.size, 0, none⟩))) (.cons (stab_val 31 (fun v => v = .slice (some ⟨b, off, none⟩) x.clauses.length m2)) (.cons (stab_val 32 (fun v => v = .int .i64 k)) (.cons (stab_val 33 (fun v => v = .pointer (some ⟨b, off + k * 2, none⟩))) (.cons (stab_val 34 (fun v => v = .agg #[va, vb])) (.cons (stab_val 35 (fun v => v = .pointer (some ⟨w.heap.size + 1, 0, none⟩))) (.cons (stab_val 36 (fun v => v = .slice (some ⟨b2, off2, none⟩) x.clauses.length n2)) (.cons (stab_val 37 (fun v => v = .int .i64 k)) (.cons (stab_val 38 (fun v => v = .pointer (some ⟨b2, off2 + k * 2, none⟩))) (.cons (stab_val 39 (fun v => v = .agg #[ua, ub])) (.cons (stab_val 40 (fun v => v = .bool true)) (.cons (stab_val 41 (fun v => v = .bool false)) .nil))))))))))))
        (fun i j k h1 h2 => h1.elim) (fun i k h => h.elim) (fun i h1 h2 => by simp at h1 h2; omega) (.cons ?_ (.cons ?_ (.cons ?_ (.cons ?_ (.cons ?_ (.cons ?_ (.cons ?_ (.cons ?_ (.cons ?_ (.cons ?_ (.cons ?_ (.cons ?_ .nil)))))))))))) ?_
      · intro a W own hfor huse hap hmi hF K hK
        have e2 : a.eval (.tmp 2) = .pointer (some ⟨w.heap.size, 0, none⟩) := hfor 2 (by kernel_rfl)
        refine op_val (.pointer (some ⟨w.heap.size, 0, none⟩)) W rfl ?_ (hK _ _ (post_pure ?_))
        · clear hfor huse hap hmi hK hF
          generalize a.eval = ρ at *
          go_simp
        · exact (if_pos rfl)
      · intro a W own hfor huse hap hmi hF K hK
        have e30 : a.eval (.tmp 30) = .pointer (some ⟨w.heap.size, 0, none⟩) := huse 0 (by kernel_rfl)
        have c0 := foot_cell hF (fun h => h) AB.out
        refine op_val (.slice (some ⟨b, off, none⟩) x.clauses.length m2) W rfl ?_ (hK _ _ (post_pure ?_))
        · clear hfor huse hap hmi hK hF
          generalize a.eval = ρ at *
          go_simp
        · exact (if_pos rfl)
      · intro a W own hfor huse hap hmi hF K hK
        have e5 : a.eval (.tmp 5) = .int .i64 k := hfor 5 (by kernel_rfl)
        refine op_val (.int .i64 k) W rfl ?_ (hK _ _ (post_pure ?_))
        · clear hfor huse hap hmi hK hF
          generalize a.eval = ρ at *
          go_simp
        · exact (if_pos rfl)
      · intro a W own hfor huse hap hmi hF K hK
        have e31 : a.eval (.tmp 31) = .slice (some ⟨b, off, none⟩) x.clauses.length m2 := huse 1 (by kernel_rfl)
        have e32 : a.eval (.tmp 32) = .int .i64 k := huse 2 (by kernel_rfl)
        refine op_val (.pointer (some ⟨b, off + k * 2, none⟩)) W rfl ?_ (hK _ _ (post_pure ?_))
        · clear hfor huse hap hmi hK hF
          generalize a.eval = ρ at *
          go_simp
        · exact (if_pos rfl)
      · intro a W own hfor huse hap hmi hF K hK
        have e33 : a.eval (.tmp 33) = .pointer (some ⟨b, off + k * 2, none⟩) := huse 3 (by kernel_rfl)
        have c0 := foot_cell hF (fun h => h) A0.out
        have c1 := foot_cell hF (fun h => h) A1.out
        refine op_val (.agg #[va, vb]) W rfl ?_ (hK _ _ (post_pure ?_))
        · clear hfor huse hap hmi hK hF
          generalize a.eval = ρ at *
          go_simp
        · exact (if_pos rfl)
      · intro a W own hfor huse hap hmi hF K hK
        have e3 : a.eval (.tmp 3) = .pointer (some ⟨w.heap.size + 1, 0, none⟩) := hfor 3 (by kernel_rfl)
        refine op_val (.pointer (some ⟨w.heap.size + 1, 0, none⟩)) W rfl ?_ (hK _ _ (post_pure ?_))
        · clear hfor huse hap hmi hK hF
          generalize a.eval = ρ at *
          go_simp
        · exact (if_pos rfl)
      · intro a W own hfor huse hap hmi hF K hK
        have e35 : a.eval (.tmp 35) = .pointer (some ⟨w.heap.size + 1, 0, none⟩) := huse 5 (by kernel_rfl)
        have c0 := foot_cell hF (fun h => h) ZB.out
        refine op_val (.slice (some ⟨b2, off2, none⟩) x.clauses.length n2) W rfl ?_ (hK _ _ (post_pure ?_))
        · clear hfor huse hap hmi hK hF
          generalize a.eval = ρ at *
          go_simp
        · exact (if_pos rfl)
      · intro a W own hfor huse hap hmi hF K hK
        have e5 : a.eval (.tmp 5) = .int .i64 k := hfor 5 (by kernel_rfl)
        refine op_val (.int .i64 k) W rfl ?_ (hK _ _ (post_pure ?_))
        · clear hfor huse hap hmi hK hF
          generalize a.eval = ρ at *
          go_simp
        · exact (if_pos rfl)
      · intro a W own hfor huse hap hmi hF K hK
        have e36 : a.eval (.tmp 36) = .slice (some ⟨b2, off2, none⟩) x.clauses.length n2 := huse 6 (by kernel_rfl)
        have e37 : a.eval (.tmp 37) = .int .i64 k := huse 7 (by kernel_rfl)
        refine op_val (.pointer (some ⟨b2, off2 + k * 2, none⟩)) W rfl ?_ (hK _ _ (post_pure ?_))
        · clear hfor huse hap hmi hK hF
          generalize a.eval = ρ at *
          go_simp
        · exact (if_pos rfl)
      · intro a W own hfor huse hap hmi hF K hK
        have e38 : a.eval (.tmp 38) = .pointer (some ⟨b2, off2 + k * 2, none⟩) := huse 8 (by kernel_rfl)
        have c0 := foot_cell hF (fun h => h) Z0.out
        have c1 := foot_cell hF (fun h => h) Z1.out
        refine op_val (.agg #[ua, ub]) W rfl ?_ (hK _ _ (post_pure ?_))
        · clear hfor huse hap hmi hK hF
          generalize a.eval = ρ at *
          go_simp
        · exact (if_pos rfl)
      · intro a W own hfor huse hap hmi hF K hK
        have e34 : a.eval (.tmp 34) = .agg #[va, vb] := huse 4 (by kernel_rfl)
        have e39 : a.eval (.tmp 39) = .agg #[ua, ub] := huse 9 (by kernel_rfl)
        have hk1 := kClause.K_move (show Keeps wr W ok ok from fun q h1 h2 => ⟨h1, hF.block q h2 (fun h => h)⟩) HK.out
        have hk2 := kClause.K_move (show Keeps wr W ok' ok' from fun q h1 h2 => ⟨h1, hF.block q h2 (fun h => h)⟩) HK2.out
        have efn : a.eval (.func 50) = .func (.func 50) #[] #[] := rfl
        refine op_call (f := 50) (args := #[.agg #[va, vb], .agg #[ua, ub]]) (fun v w1 => v = .bool true ∧ Below W.heap.size W w1) rfl ?_ ?_ (fun v w1 h => ?_)
        · clear hfor huse hap hmi hK hF
          generalize a.eval = ρ at *
          go_simp
        · exact (caClause_c y _ _ ok ok' W hk1 hk2).mono (by rintro e w1 ⟨rfl, h2⟩; exact ⟨_, rfl, rfl, h2⟩)
        · obtain ⟨rfl, h2⟩ := h
          exact hK _ _ (post_new h2 (if_pos rfl))
      · intro a W own hfor huse hap hmi hF K hK
        have e40 : a.eval (.tmp 40) = .bool true := huse 10 (by kernel_rfl)
        refine op_val (.bool false) W rfl ?_ (hK _ _ (post_pure ?_))
        · clear hfor huse hap hmi hK hF
          generalize a.eval = ρ at *
          go_simp
        · exact (if_pos rfl)
      intro a' W own hf
      have s1 := hf.st.size
      have s2 := hf.st.rest
      have s3 := fun t ht => hf.st.kept t ht
      revert hf
      revert a'
      refine lay_intro (df := []) [true, true, true, true, true, true, true, true, true, true, true, true, true, true, true, true, true, true, true, true, true, true, true, true, true, true, true, true, true, true, false, false, false, false, false, false, false, false, false, false, false, false, true, true, true, true, true, true, true, true, true, true, true, true, true, true, true, true, true, true] (by kernel_rfl) rfl ?_
      intro x41 x40 x39 x38 x37 x36 x35 x34 x33 x32 x31 x30 hf
      have e41 : x41 = .bool false := hf.at 11 (fun val _ _ => val 41 = .bool false) rfl (by kernel_rfl)
      subst e41
      have HF := Sec.mk hf.st.foot
      clear hf
      have B1 := Sec.mk (HF.out.below (belD hb.out) (fun k h => h.elim))
      have P1 := Sec.mk ((HF.out.block _ (Array.getElem?_eq_some_iff.1 hP.out).1 (fun h => h)).trans hP.out)
      have Q1 := Sec.mk ((HF.out.block _ (Array.getElem?_eq_some_iff.1 hQ.out).1 (fun h => h)).trans hQ.out)
      clear HF
      go_wp2
      go_roundw
      case rel => exact ⟨k + 1, by omega, by go_num, B1, P1, Q1⟩
      case measure => simp [intOf]; omega
    · have BB := hb
      have PB := hP
      have QB := hQ
      clear hb hP hQ
      go_wp2_with fail
      clear p0 p1 q0 q1
      go_loopw [6] (fun iv wr => ∃ k : Nat, k ≤ x.places.length ∧ iv = .int .i64 k ∧ Sec (Below w.heap.size w wr) ∧ Sec (wr.heap[w.heap.size]? = some (.cells #[.slice E1 x.clauses.length m2, .slice E2 x.places.length mp] 26 (0, 0))) ∧ Sec (wr.heap[w.heap.size + 1]? = some (.cells #[.slice D1 x.clauses.length n2, .slice D2 x.places.length np] 26 (0, 0)))) (fun iv _ => x.places.length - (intOf iv).toNat)
      case atStart => exact ⟨0, Nat.zero_le _, rfl, BB, PB, QB⟩
      case round =>
        obtain ⟨k, hk, rfl, hb, hP, hQ⟩ := hrel
        have X := (box_at hP.out).2.1
        have p0 := X 0 _ rfl
        have p1 := X 1 _ rfl
        clear X
        have X := (box_at hQ.out).2.1
        have q0 := X 0 _ rfl
        have q1 := X 1 _ rfl
        clear X
        by_cases hlt : k < x.places.length
        · obtain ⟨b, off, cs, rfl, hob, hK, hc⟩ := Kd.C_get (Kd.C_below HP.out hb.out (by decide)) (List.getElem?_eq_getElem hlt)
          obtain ⟨b2, off2, cs2, rfl, hob2, hK2, hc2⟩ := Kd.C_get (Kd.C_below HQ.out hb.out (by decide)) (List.getElem?_eq_getElem hlt)
          generalize x.places[k] = y at *
          have HK := Sec.mk hK
          have HK2 := Sec.mk hK2
          obtain ⟨rfl, -⟩ := kPlace_K hK
          obtain ⟨rfl, -⟩ := kPlace_K hK2
          have A0 : Sec (wr.cell? ⟨b, off + k * 3, none⟩ = some (.string y.name)) := ⟨hc 0 _ rfl⟩
          have A1 : Sec (wr.cell? ⟨b, off + k * 3 + 1, none⟩ = some (.int .i64 y.n)) := ⟨hc 1 _ rfl⟩
          have A2 : Sec (wr.cell? ⟨b, off + k * 3 + 2, none⟩ = some (.int .i64 y.node)) := ⟨hc 2 _ rfl⟩
          have Z0 : Sec (wr.cell? ⟨b2, off2 + k * 3, none⟩ = some (.string y.name)) := ⟨hc2 0 _ rfl⟩
          have Z1 : Sec (wr.cell? ⟨b2, off2 + k * 3 + 1, none⟩ = some (.int .i64 y.n)) := ⟨hc2 1 _ rfl⟩
          have Z2 : Sec (wr.cell? ⟨b2, off2 + k * 3 + 2, none⟩ = some (.int .i64 y.node)) := ⟨hc2 2 _ rfl⟩
          have AB := Sec.mk ((box_at hP.out).2.1 1 _ rfl)
          have ZB := Sec.mk ((box_at hQ.out).2.1 1 _ rfl)
          have i0 : (0 : Int) ≤ (k : Int) := by omega
          have i1 : (k : Int) < (x.places.length : Int) := by omega
          clear hK hK2 hc hc2
          go_wp2
          refine wp_region_lists [[49], [50], [51], [52], [53], [54], [55], [56], [57], [58], [59]]
            [fun val _ _ => val 49 = .pointer (some ⟨w.heap.size, 1, none⟩),
              fun val _ _ => val 50 = .slice (some ⟨b, off, none⟩) x.places.length mp,
              fun val _ _ => val 51 = .int .i64 k,
              fun val _ _ => val 52 = .pointer (some ⟨b, off + k * 3, none⟩),
              fun val _ _ => val 53 = .agg #[.string y.name, .int .i64 y.n, .int .i64 y.node],
              fun val _ _ => val 54 = .pointer (some ⟨w.heap.size + 1, 1, none⟩),
              fun val _ _ => val 55 = .slice (some ⟨b2, off2, none⟩) x.places.length np,
              fun val _ _ => val 56 = .int .i64 k,
              fun val _ _ => val 57 = .pointer (some ⟨b2, off2 + k * 3, none⟩),
              fun val _ _ => val 58 = .agg #[.string y.name, .int .i64 y.n, .int .i64 y.node],
              fun val _ _ => val 59 = .bool false]
            [[], [], [], [], [], [], [], [], [], [], []] 0 (fun _ => False) (fun _ _ => False) (by kernel_rfl) ⟨by kernel_rfl, by kernel_rfl, by kernel_rfl, by kernel_rfl, by kernel_rfl⟩
            (.cons (stab_val 49 (fun v => v = .pointer (some ⟨w.heap.size, 1, none⟩))) (.cons (stab_val 50 (fun v => v = .slice (some ⟨b, off, none⟩) x.places.length mp)) (.cons (stab_val 51 (fun v => v = .int .i64 k)) (.cons (stab_val 52 (fun v => v = .pointer (some ⟨b, off + k * 3, none⟩))) (.cons (stab_val 53 (fun v => v = .agg #[.string y.name, .int .i64 y.n, .int .i64 y.node])) (.cons (stab_val 54 (fun v => v = .pointer (some ⟨w.heap.size + 1, 1, none⟩))) (.cons (stab_val 55 (fun v => v = .slice (some ⟨b2, off2, none⟩) x.places.length np)) (.cons (stab_val 56 (fun v => v = .int .i64 k)) (.cons (stab_val 57 (fun v => v = .pointer (some ⟨b2, off2 + k * 3, none⟩))) (.cons (stab_val 58 (fun v => v = .agg #[.string y.name, .int .i64 y.n, .int .i64 y.node])) (.cons (stab_val 59 (fun v => v = .bool false)) .nil)))))))))))
            (fun i j k h1 h2 => h1.elim) (fun i k h => h.elim) (fun i h1 h2 => by simp at h1 h2; omega) (.cons ?_ (.cons ?_ (.cons ?_ (.cons ?_ (.cons ?_ (.cons ?_ (.cons ?_ (.cons ?_ (.cons ?_ (.cons ?_ (.cons ?_ .nil))))))))))) ?_
          · intro a W own hfor huse hap hmi hF K hK
            have e2 : a.eval (.tmp 2) = .pointer (some ⟨w.heap.size, 0, none⟩) := hfor 2 (by kernel_rfl)
            refine op_val (.pointer (some ⟨w.heap.size, 1, none⟩)) W rfl ?_ (hK _ _ (post_pure ?_))
            · clear hfor huse hap hmi hK hF
              generalize a.eval = ρ at *
              go_simp
            · exact (if_pos rfl)
          · intro a W own hfor huse hap hmi hF K hK
            have e49 : a.eval (.tmp 49) = .pointer (some ⟨w.heap.size, 1, none⟩) := huse 0 (by kernel_rfl)
            have c0 := foot_cell hF (fun h => h) AB.out
            refine op_val (.slice (some ⟨b, off, none⟩) x.places.length mp) W rfl ?_ (hK _ _ (post_pure ?_))
            · clear hfor huse hap hmi hK hF
              generalize a.eval = ρ at *
              go_simp
            · exact (if_pos rfl)
          · intro a W own hfor huse hap hmi hF K hK
            have e6 : a.eval (.tmp 6) = .int .i64 k := hfor 6 (by kernel_rfl)
            refine op_val (.int .i64 k) W rfl ?_ (hK _ _ (post_pure ?_))
            · clear hfor huse hap hmi hK hF
              generalize a.eval = ρ at *
              go_simp
            · exact (if_pos rfl)
          · intro a W own hfor huse hap hmi hF K hK
            have e50 : a.eval (.tmp 50) = .slice (some ⟨b, off, none⟩) x.places.length mp := huse 1 (by kernel_rfl)
            have e51 : a.eval (.tmp 51) = .int .i64 k := huse 2 (by kernel_rfl)
            refine op_val (.pointer (some ⟨b, off + k * 3, none⟩)) W rfl ?_ (hK _ _ (post_pure ?_))
            · clear hfor huse hap hmi hK hF
              generalize a.eval = ρ at *
              go_simp
            · exact (if_pos rfl)
          · intro a W own hfor huse hap hmi hF K hK
            have e52 : a.eval (.tmp 52) = .pointer (some ⟨b, off + k * 3, none⟩) := huse 3 (by kernel_rfl)
            have c0 := foot_cell hF (fun h => h) A0.out
            have c1 := foot_cell hF (fun h => h) A1.out
            have c2 := foot_cell hF (fun h => h) A2.out
            refine op_val (.agg #[.string y.name, .int .i64 y.n, .int .i64 y.node]) W rfl ?_ (hK _ _ (post_pure ?_))
            · clear hfor huse hap hmi hK hF
              generalize a.eval = ρ at *
              go_simp
            · exact (if_pos rfl)
          · intro a W own hfor huse hap hmi hF K hK
            have e3 : a.eval (.tmp 3) = .pointer (some ⟨w.heap.size + 1, 0, none⟩) := hfor 3 (by kernel_rfl)
            refine op_val (.pointer (some ⟨w.heap.size + 1, 1, none⟩)) W rfl ?_ (hK _ _ (post_pure ?_))
            · clear hfor huse hap hmi hK hF
              generalize a.eval = ρ at *
              go_simp
            · exact (if_pos rfl)
          · intro a W own hfor huse hap hmi hF K hK
            have e54 : a.eval (.tmp 54) = .pointer (some ⟨w.heap.size + 1, 1, none⟩) := huse 5 (by kernel_rfl)
            have c0 := foot_cell hF (fun h => h) ZB.out
            refine op_val (.slice (some ⟨b2, off2, none⟩) x.places.length np) W rfl ?_ (hK _ _ (post_pure ?_))
            · clear hfor huse hap hmi hK hF
              generalize a.eval = ρ at *
              go_simp
            · exact (if_pos rfl)
          · intro a W own hfor huse hap hmi hF K hK
            have e6 : a.eval (.tmp 6) = .int .i64 k := hfor 6 (by kernel_rfl)
            refine op_val (.int .i64 k) W rfl ?_ (hK _ _ (post_pure ?_))
            · clear hfor huse hap hmi hK hF
              generalize a.eval = ρ at *
              go_simp
            · exact (if_pos rfl)
          · intro a W own hfor huse hap hmi hF K hK
            have e55 : a.eval (.tmp 55) = .slice (some ⟨b2, off2, none⟩) x.places.length np := huse 6 (by kernel_rfl)
            have e56 : a.eval (.tmp 56) = .int .i64 k := huse 7 (by kernel_rfl)
            refine op_val (.pointer (some ⟨b2, off2 + k * 3, none⟩)) W rfl ?_ (hK _ _ (post_pure ?_))
            · clear hfor huse hap hmi hK hF
              generalize a.eval = ρ at *
              go_simp
            · exact (if_pos rfl)
          · intro a W own hfor huse hap hmi hF K hK
            have e57 : a.eval (.tmp 57) = .pointer (some ⟨b2, off2 + k * 3, none⟩) := huse 8 (by kernel_rfl)
            have c0 := foot_cell hF (fun h => h) Z0.out
            have c1 := foot_cell hF (fun h => h) Z1.out
            have c2 := foot_cell hF (fun h => h) Z2.out
            refine op_val (.agg #[.string y.name, .int .i64 y.n, .int .i64 y.node]) W rfl ?_ (hK _ _ (post_pure ?_))
            · clear hfor huse hap hmi hK hF
              generalize a.eval = ρ at *
              go_simp
            · exact (if_pos rfl)
          · intro a W own hfor huse hap hmi hF K hK
            have e53 : a.eval (.tmp 53) = .agg #[.string y.name, .int .i64 y.n, .int .i64 y.node] := huse 4 (by kernel_rfl)
            have e58 : a.eval (.tmp 58) = .agg #[.string y.name, .int .i64 y.n, .int .i64 y.node] := huse 9 (by kernel_rfl)
            refine op_val (.bool false) W rfl ?_ (hK _ _ (post_pure ?_))
            · clear hfor huse hap hmi hK hF
              generalize a.eval = ρ at *
              go_simp
            · exact (if_pos rfl)
          intro a' W own hf
          have s1 := hf.st.size
          have s2 := hf.st.rest
          have s3 := fun t ht => hf.st.kept t ht
          revert hf
          revert a'
          refine lay_intro (df := []) [true, true, true, true, true, true, true, true, true, true, true, true, true, true, true, true, true, true, true, true, true, true, true, true, true, true, true, true, true, true, true, true, true, true, true, true, true, true, true, true, true, true, true, true, true, true, true, true, true, false, false, false, false, false, false, false, false, false, false, false] (by kernel_rfl) rfl ?_
          intro x59 x58 x57 x56 x55 x54 x53 x52 x51 x50 x49 hf
          have e59 : x59 = .bool false := hf.at 10 (fun val _ _ => val 59 = .bool false) rfl (by kernel_rfl)
          subst e59
          have HF := Sec.mk hf.st.foot
          clear hf
          have B1 := Sec.mk (HF.out.below (belD hb.out) (fun k h => h.elim))
          have P1 := Sec.mk ((HF.out.block _ (Array.getElem?_eq_some_iff.1 hP.out).1 (fun h => h)).trans hP.out)
          have Q1 := Sec.mk ((HF.out.block _ (Array.getElem?_eq_some_iff.1 hQ.out).1 (fun h => h)).trans hQ.out)
          clear HF
          go_wp2
          go_roundw
          case rel => exact ⟨k + 1, by omega, by go_num, B1, P1, Q1⟩
          case measure => simp [intOf]; omega
        · go_wp2
          go_ret
          exact ⟨rfl, hb.out⟩
end
section
open Go.RowKit
set_option linter.unusedVariables false
set_option maxRecDepth 100000
set_option maxHeartbeats 1000000 in
theorem NodOk0_i (p : Prog) (cs : List Value) (ok : Nat → Prop) (node : Int) (up : Bool) (A : Option Addr) (c : Nat) (b : Bool) (w : World) (hK : kProg.K w ok p cs) (hb : (prgOk p && inB node 0 2) = b) :
    Calls Tryz.prog 46 #[.agg cs.toArray, .int .i64 node, .agg #[.bool up, .slice A 0 c]] w fun e w' => e = .returned (.bool b) ∧ Below w.heap.size w w' := by
  have HK := Sec.mk hK
  obtain ⟨v1, v2, rfl, h1, h2⟩ := kProg_K hK
  obtain ⟨E1, m1, rfl, -⟩ := h1
  obtain ⟨E2, m2, rfl, -⟩ := h2
  have hu := Tryz.underlying26
  have B0 := Sec.mk (belA (belA (Below.refl w.heap.size w) (.cells #[.slice E1 p.clauses.length m1, .slice E2 p.places.length m2] 26)) (.cells #[.bool up, .slice A 0 c] 48))
  have P0 := Sec.mk (box2 w (.cells #[.slice E1 p.clauses.length m1, .slice E2 p.places.length m2] 26) (.cells #[.bool up, .slice A 0 c] 48)).1
  have Q0 := Sec.mk (box2 w (.cells #[.slice E1 p.clauses.length m1, .slice E2 p.places.length m2] 26) (.cells #[.bool up, .slice A 0 c] 48)).2
  have X := (box_at P0.out).2.1
  have p0 := X 0 _ rfl
  have p1 := X 1 _ rfl
  clear X hK
  have T0 : Sec True := ⟨trivial⟩
  have HB := Sec.mk hb
  clear hb
  cases HQ : prgOk p with
  | false =>
    have hb : b = false := by rw [← HB.out, HQ]; rfl
    subst hb
    have HQ := Sec.mk HQ
    go_enter Tryz.func46, Tryz.ntmps46
    go_wp2_with (clear T0; go_at_call 31; have T1 : Sec True := ⟨trivial⟩; refine (PrgOk_i p _ _ _ (Kd.K_below HK.out B0.out)).mono ?_; rw [HQ.out]; rintro e w1 ⟨rfl, hb⟩; have B1 := Sec.mk (bel B0.out hb); have Q1 := Sec.mk ((hb.block _ (Array.getElem?_eq_some_iff.1 Q0.out).1).trans Q0.out); have r0 := (box_at Q1.out).2.1 0 _ rfl; have r1 := (box_at Q1.out).2.1 1 _ rfl; clear hb)
    go_ret
    exact ⟨rfl, B1.out⟩
  | true =>
    cases HI : inB node 0 2 with
    | false =>
      have hb : b = false := by rw [← HB.out, HQ, HI]; rfl
      subst hb
      have HQ := Sec.mk HQ
      have HI := Sec.mk HI
      go_enter Tryz.func46, Tryz.ntmps46
      go_wp2_with (first | (clear T1; go_at_call 48; refine (in_c node 0 2 _).mono ?_; rw [HI.out]; rintro e w2 ⟨rfl, rfl⟩) | (clear T0; go_at_call 31; have T1 : Sec True := ⟨trivial⟩; refine (PrgOk_i p _ _ _ (Kd.K_below HK.out B0.out)).mono ?_; rw [HQ.out]; rintro e w1 ⟨rfl, hb⟩; have B1 := Sec.mk (bel B0.out hb); have Q1 := Sec.mk ((hb.block _ (Array.getElem?_eq_some_iff.1 Q0.out).1).trans Q0.out); have r0 := (box_at Q1.out).2.1 0 _ rfl; have r1 := (box_at Q1.out).2.1 1 _ rfl; clear hb))
      go_ret
      exact ⟨rfl, B1.out⟩
    | true =>
      have hb : b = true := by rw [← HB.out, HQ, HI]; rfl
      subst hb
      have HQ := Sec.mk HQ
      have HI := Sec.mk HI
      cases up with
      | false =>
        go_enter Tryz.func46, Tryz.ntmps46
        go_wp2_with (first | (clear T1; go_at_call 48; refine (in_c node 0 2 _).mono ?_; rw [HI.out]; rintro e w2 ⟨rfl, rfl⟩) | (clear T0; go_at_call 31; have T1 : Sec True := ⟨trivial⟩; refine (PrgOk_i p _ _ _ (Kd.K_below HK.out B0.out)).mono ?_; rw [HQ.out]; rintro e w1 ⟨rfl, hb⟩; have B1 := Sec.mk (bel B0.out hb); have Q1 := Sec.mk ((hb.block _ (Array.getElem?_eq_some_iff.1 Q0.out).1).trans Q0.out); have r0 := (box_at Q1.out).2.1 0 _ rfl; have r1 := (box_at Q1.out).2.1 1 _ rfl; clear hb))
        go_loopw [38] (fun iv wr => iv = .int .i64 0 ∧ Sec (Below w.heap.size w wr)) (fun _ _ => 0)
        case atStart => exact ⟨rfl, B1⟩
        case round =>
          obtain ⟨rfl, hb⟩ := hrel
          go_wp2
          go_ret
          exact ⟨rfl, hb.out⟩
      | true =>
        go_enter Tryz.func46, Tryz.ntmps46
        go_wp2_with (first | (clear T1; go_at_call 48; refine (in_c node 0 2 _).mono ?_; rw [HI.out]; rintro e w2 ⟨rfl, rfl⟩) | (clear T0; go_at_call 31; have T1 : Sec True := ⟨trivial⟩; refine (PrgOk_i p _ _ _ (Kd.K_below HK.out B0.out)).mono ?_; rw [HQ.out]; rintro e w1 ⟨rfl, hb⟩; have B1 := Sec.mk (bel B0.out hb); have Q1 := Sec.mk ((hb.block _ (Array.getElem?_eq_some_iff.1 Q0.out).1).trans Q0.out); have r0 := (box_at Q1.out).2.1 0 _ rfl; have r1 := (box_at Q1.out).2.1 1 _ rfl; clear hb))
        go_loopw [38] (fun iv wr => iv = .int .i64 0 ∧ Sec (Below w.heap.size w wr)) (fun _ _ => 0)
        case atStart => exact ⟨rfl, B1⟩
        case round =>
          obtain ⟨rfl, hb⟩ := hrel
          go_wp2
          go_ret
          exact ⟨rfl, hb.out⟩
end
section
open Go.RowKit
set_option linter.unusedVariables false
set_option maxRecDepth 100000

/-- Only block g of what was there has turned. -/
structure Only (g : Nat) (w w' : World) : Prop where
  os : w'.os = w.os
  tape : w'.tape = w.tape
  output : w'.output = w.output
  size : w.heap.size ≤ w'.heap.size
  block : ∀ k, k < w.heap.size → k ≠ g → w'.heap[k]? = w.heap[k]?
theorem Only.refl (g : Nat) (w : World) : Only g w w := ⟨rfl, rfl, rfl, Nat.le_refl _, fun _ _ _ => rfl⟩
theorem Only.of_below {g : Nat} {w w' : World} (h : Below w.heap.size w w') : Only g w w' := ⟨h.os, h.tape, h.output, h.size, fun k hk _ => h.block k hk⟩
theorem Only.trans {g : Nat} {a b c : World} (h : Only g a b) (k : Only g b c) : Only g a c :=
  ⟨k.os.trans h.os, k.tape.trans h.tape, k.output.trans h.output, Nat.le_trans h.size k.size, fun i hi hg => (k.block i (Nat.lt_of_lt_of_le hi h.size) hg).trans (h.block i hi hg)⟩
theorem Only.alloc {g : Nat} {a b : World} (h : Only g a b) (o : Obj) : Only g a (b.alloc o) := h.trans (Only.of_below (belA (Below.refl _ _) o))
theorem Only.drew {g : Nat} {a b : World} (h : Only g a b) : Only g a b.drew := ⟨h.os, h.tape, h.output, h.size, h.block⟩
theorem Only.set {g : Nat} {a b : World} (h : Only g a b) (i : Nat) (u : Value) : Only g a (b.setCell ⟨g, i, none⟩ u) :=
  h.trans ⟨rfl, rfl, rfl, by simp [World.setCell], fun k _ hk => Below.heap_setCell _ _ _ _ hk⟩
theorem Only.keeps {g : Nat} {w w' : World} (h : Only g w w') {ok : Nat → Prop} (hg : ¬ ok g) : Keeps w w' ok ok := fun k hk hl => ⟨hk, h.block k hl (fun e => hg (e ▸ hk))⟩
theorem Only.below {g : Nat} {w0 w w' : World} (h : Only g w w') (hb : Below w0.heap.size w0 w) (hg : w0.heap.size ≤ g) : Below w0.heap.size w0 w' :=
  hb.trans ⟨h.os, h.tape, h.output, h.size, fun k hk => h.block k (Nat.lt_of_lt_of_le hk hb.size) (by omega)⟩

/-- The reader in block g: made behind w0, asked at most P times. -/
structure Rd (w0 w : World) (g P : Nat) : Prop where
  is : ∃ (A : Option Addr) (c p : Nat) (bs : List UInt8), w.heap[g]? = some (.cells #[.slice A bs.length c, .int .i64 p] 125 (0, 0)) ∧ p ≤ P ∧ bs.length ≤ 2000 ∧ kByte.C w0 (fun _ => True) A bs
  bel : Below w0.heap.size w0 w
  ge : w0.heap.size ≤ g
theorem Rd.lt {w0 w : World} {g P : Nat} (h : Rd w0 w g P) : g < w.heap.size := by
  obtain ⟨A, c, p, bs, h1, _⟩ := h.is
  exact (Array.getElem?_eq_some_iff.1 h1).1
theorem Rd.mono {w0 w : World} {g P P' : Nat} (h : Rd w0 w g P) (hP : P ≤ P') : Rd w0 w g P' := by
  obtain ⟨A, c, p, bs, h1, h2, h3⟩ := h.is
  exact ⟨⟨A, c, p, bs, h1, Nat.le_trans h2 hP, h3⟩, h.bel, h.ge⟩
theorem Rd.below {w0 w w' : World} {g P : Nat} (h : Rd w0 w g P) (hb : Below w.heap.size w w') : Rd w0 w' g P := by
  obtain ⟨A, c, p, bs, h1, h2⟩ := h.is
  exact ⟨⟨A, c, p, bs, (hb.block g h.lt).trans h1, h2⟩, Go.Proofs.YtendgddidgbejaaGreatDoor.bel h.bel hb, h.ge⟩

theorem Only.setNew {g b : Nat} {w w' : World} (h : Only g w w') (hb : w.heap.size ≤ b) (i : Nat) (u : Value) : Only g w (w'.setCell ⟨b, i, none⟩ u) :=
  ⟨h.os, h.tape, h.output, by have := h.size; simpa [World.setCell] using this, fun k hk hg => (Below.heap_setCell _ _ _ _ (by show k ≠ b; omega)).trans (h.block k hk hg)⟩
theorem Rd.set {w0 w : World} {g P b : Nat} (h : Rd w0 w g P) (hb : b ≠ g) (h0 : w0.heap.size ≤ b) (i : Nat) (u : Value) : Rd w0 (w.setCell ⟨b, i, none⟩ u) g P := by
  obtain ⟨A, c, p, bs, h1, h2⟩ := h.is
  exact ⟨⟨A, c, p, bs, (Below.heap_setCell _ _ _ _ (by show g ≠ b; omega)).trans h1, h2⟩, h.bel.setCell (p := ⟨b, i, none⟩) h0 u, h.ge⟩
/-- A block of one's own, not g, whole. -/
theorem Only.blk {g b : Nat} {w w' : World} {o : Obj} (h : Only g w w') (hb : w.heap[b]? = some o) (hg : b ≠ g) : w'.heap[b]? = some o :=
  (h.block b (Array.getElem?_eq_some_iff.1 hb).1 hg).trans hb
theorem Only.grown {g : Nat} {w w1 w2 : World} {row : Option Nat} (h : Only g w w1) (hg : w1.grownBy w2 row) (hr : ∀ k, row = some k → w.heap.size ≤ k) : Only g w w2 :=
  ⟨hg.os.trans h.os, hg.tape.trans h.tape, hg.output.trans h.output, Nat.le_trans h.size hg.size, fun k hk hne => (hg.block k (Nat.lt_of_lt_of_le hk h.size) (fun e => by have := hr k e.symm; omega)).trans (h.block k hk hne)⟩
theorem Rd.grown {w0 w w1 : World} {g P : Nat} {row : Option Nat} (h : Rd w0 w g P) (hg : w.grownBy w1 row) (hr : ∀ k, row = some k → w0.heap.size ≤ k ∧ k ≠ g) : Rd w0 w1 g P := by
  obtain ⟨A, c, p, bs, h1, h2⟩ := h.is
  exact ⟨⟨A, c, p, bs, (hg.block g h.lt (fun e => (hr g e.symm).2 rfl)).trans h1, h2⟩, h.bel.grown hg h.bel.size (fun k e => (hr k e).1), h.ge⟩
theorem bits_xor_i64 (a b : Int) (h1 : 0 ≤ a) (h2 : a < 4611686018427387904) (h3 : 0 ≤ b) (h4 : b < 4611686018427387904) : 0 ≤ bits .xor .i64 a b ∧ bits .xor .i64 a b < 4611686018427387904 := by
  obtain ⟨a, rfl⟩ := Int.eq_ofNat_of_zero_le h1
  obtain ⟨b, rfl⟩ := Int.eq_ofNat_of_zero_le h3
  have hx : a ^^^ b < 2 ^ 62 := Nat.xor_lt_two_pow (by omega) (by omega)
  have e1 : (BitVec.ofInt 64 (a : Int)).toNat = a := by
    rw [BitVec.ofInt_natCast, BitVec.toNat_ofNat]; exact Nat.mod_eq_of_lt (by omega)
  have e2 : (BitVec.ofInt 64 (b : Int)).toNat = b := by
    rw [BitVec.ofInt_natCast, BitVec.toNat_ofNat]; exact Nat.mod_eq_of_lt (by omega)
  have e : bits .xor .i64 (a : Int) (b : Int) = ((a ^^^ b : Nat) : Int) := by
    show IntKind.i64.wrap ((BitVec.ofInt 64 (a : Int) ^^^ BitVec.ofInt 64 (b : Int)).toNat : Int) = _
    rw [BitVec.toNat_xor, e1, e2, IntKind.wrap_i64]
    omega
  rw [e]; omega

/-- A number that was picked. -/
def Picked (n r : Int) : Prop := 0 ≤ r ∧ (1 ≤ n → r < n) ∧ (n < 1 → r = 0)
theorem picked_zero (n : Int) : Picked n 0 := ⟨by omega, fun h => by omega, fun _ => rfl⟩
theorem picked_mod {n x : Int} (h : ¬ n < 1) (hx : 0 ≤ x) : Picked n (x % n) := ⟨Int.emod_nonneg _ (by omega), fun _ => Int.emod_lt_of_pos _ (by omega), fun h2 => absurd h2 h⟩

theorem w64 {x : Int} (h1 : 0 ≤ x) (h2 : x < 4611686018427387904) : wrap64 x = x := by unfold wrap64; omega
theorem pick_fin (y1 y2 p len : Nat) (n : Int) (hn : ¬ n < 1) (hl : 0 < len) (hp : p ≤ 1000000000) (h1 : y1 < 256) (h2 : y2 < 256) :
    Picked n ((bits BinOp.xor IntKind.i64 (wrap64 (↑y1 * 131 + ↑y2 * 1117 + ↑p * 29 + wrap64 (wrap64 ((p : Int) / (len : Int)) * 53))) (wrap64 ((wrap64 (↑y1 * 131 + ↑y2 * 1117 + ↑p * 29 + wrap64 (wrap64 ((p : Int) / (len : Int)) * 53))).tdiv 64))).tmod n) := by
  have m : 0 ≤ (p : Int) / len ∧ (p : Int) / len ≤ p := ⟨Int.ediv_nonneg (by omega) (by omega), Int.ediv_le_self _ (by omega)⟩
  generalize (p : Int) / (len : Int) = z at *
  rw [w64 (x := z) (by omega) (by omega), w64 (x := z * 53) (by omega) (by omega)]
  have hX : 0 ≤ (y1 : Int) * 131 + y2 * 1117 + p * 29 + z * 53 ∧ (y1 : Int) * 131 + y2 * 1117 + p * 29 + z * 53 < 4000000000000 := by omega
  generalize (y1 : Int) * 131 + y2 * 1117 + p * 29 + z * 53 = X at *
  rw [w64 (x := X) (by omega) (by omega), Int.tdiv_eq_ediv_of_nonneg hX.1, w64 (x := X / 64) (by omega) (by omega)]
  have hX2 := bits_xor_i64 X (X / 64) hX.1 (by omega) (by omega) (by omega)
  rw [Int.tmod_eq_emod_of_nonneg hX2.1]
  exact picked_mod hn hX2.1
theorem pick_c (w0 w : World) (g P : Nat) (n : Int) (hR : Rd w0 w g P) (hP : P ≤ 1000000000) :
    Calls Tryz.prog 76 #[.pointer (some ⟨g, 0, none⟩), .int .i64 n] w fun e w' => ∃ r : Int, e = .returned (.int .i64 r) ∧ Picked n r ∧ Rd w0 w' g (P + 1) ∧ Only g w w' := by
  obtain ⟨A, c, p, bs, hg, hp, hl, hC⟩ := hR.is
  have hB := Sec.mk hR.bel
  have hG := hR.ge
  have hlt := hR.lt
  have hu := Tryz.underlying125
  have c0 : w.cell? ⟨g, 0, none⟩ = some (.slice A bs.length c) := by rw [cell_of_row w g 0 _ _ _ hg]; rfl
  have c1 : w.cell? ⟨g, 1, none⟩ = some (.int .i64 p) := by rw [cell_of_row w g 1 _ _ _ hg]; rfl
  have f1 : w.frozen? ⟨g, 1, none⟩ = false := by simp [World.frozen?, hg]
  have hfin : Sec (Rd w0 (w.setCell ⟨g, 1, none⟩ (.int .i64 ((p : Int) + 1))) g (P + 1)) := ⟨⟨⟨A, c, p + 1, bs, by
      have : (w.setCell ⟨g, 1, none⟩ (.int .i64 ((p : Int) + 1))).heap[g]? = some (.cells (#[.slice A bs.length c, .int .i64 p].setIfInBounds 1 (.int .i64 ((p : Int) + 1))) 125 (0, 0)) := by
        simp only [World.setCell, Array.getElem?_modify, hg]; simp
      rw [this]; rfl, by omega, hl, hC⟩, hB.out.setCell (p := ⟨g, 1, none⟩) hG _, hG⟩⟩
  have HC := Sec.mk (Kd.C_below hC hfin.out.bel (by decide))
  have hon : Sec (Only g w (w.setCell ⟨g, 1, none⟩ (.int .i64 ((p : Int) + 1)))) := ⟨(Only.refl _ _).set _ _⟩
  clear hR hg hC
  by_cases h1 : n < 1
  · go_enter Tryz.func76, Tryz.ntmps76
    go_wp2
    go_ret
    exact ⟨0, rfl, picked_zero _, hfin.out, hon.out⟩
  · by_cases h2 : bs = []
    · subst h2
      go_enter Tryz.func76, Tryz.ntmps76
      go_wp2
      go_ret
      exact ⟨0, rfl, picked_zero _, hfin.out, hon.out⟩
    · have h3 : 0 < bs.length := List.length_pos_iff.2 h2
      have h4 : ((bs.length : Int) == 0) = false := by rw [beq_eq_false_iff_ne]; omega
      have h6 : (n == 0) = false := by rw [beq_eq_false_iff_ne]; omega
      by_cases h5 : p < bs.length
      · obtain ⟨b, off, rfl, hob, cb⟩ := byte_at HC.out p h5
        have hbd : (bs[p].toNat : Int) < 256 := by have := bs[p].toNat_lt; omega
        go_enter Tryz.func76, Tryz.ntmps76
        go_wp2
        go_ret
        exact ⟨_, rfl, picked_mod (by omega) (by omega), hfin.out, hon.out⟩
      · have t1 : (p : Int).tmod bs.length = (p : Int) % bs.length := Int.tmod_eq_emod_of_nonneg (by omega)
        have t2 : ((p : Int) * 7 + 3).tmod bs.length = ((p : Int) * 7 + 3) % bs.length := Int.tmod_eq_emod_of_nonneg (by omega)
        have t3 : (p : Int).tdiv bs.length = (p : Int) / bs.length := Int.tdiv_eq_ediv_of_nonneg (by omega)
        have m1 : 0 ≤ (p : Int).tmod bs.length := by rw [t1]; exact Int.emod_nonneg _ (by omega)
        have m2 : (p : Int).tmod bs.length < bs.length := by rw [t1]; exact Int.emod_lt_of_pos _ (by omega)
        have m3 : 0 ≤ ((p : Int) * 7 + 3).tmod bs.length := by rw [t2]; exact Int.emod_nonneg _ (by omega)
        have m4 : ((p : Int) * 7 + 3).tmod bs.length < bs.length := by rw [t2]; exact Int.emod_lt_of_pos _ (by omega)
        have m5 : 0 ≤ (p : Int).tdiv bs.length ∧ (p : Int).tdiv bs.length ≤ p := by rw [t3]; exact ⟨Int.ediv_nonneg (by omega) (by omega), Int.ediv_le_self _ (by omega)⟩
        clear t1 t2 t3
        obtain ⟨b, off, rfl, hob, cb1⟩ := byte_at HC.out ((p : Int).tmod bs.length).toNat (by omega)
        obtain ⟨b', off', e, _, cb2⟩ := byte_at HC.out (((p : Int) * 7 + 3).tmod bs.length).toNat (by omega)
        simp only [Option.some.injEq, Addr.mk.injEq, and_true] at e
        obtain ⟨rfl, rfl⟩ := e
        have hb1 : (bs[((p : Int).tmod bs.length).toNat]'(by omega)).toNat < 256 := UInt8.toNat_lt _
        have hb2 : (bs[(((p : Int) * 7 + 3).tmod bs.length).toNat]'(by omega)).toNat < 256 := UInt8.toNat_lt _
        generalize (bs[((p : Int).tmod bs.length).toNat]'(by omega)).toNat = y1 at *
        generalize (bs[(((p : Int) * 7 + 3).tmod bs.length).toNat]'(by omega)).toNat = y2 at *
        have q1 : IntKind.i64.wrap ((p : Int) * 7) = (p : Int) * 7 := IntWalk.i64_in _ (by omega)
        have q2 : IntKind.i64.wrap ((p : Int) * 7 + 3) = (p : Int) * 7 + 3 := IntWalk.i64_in _ (by omega)
        have q3 : IntKind.i64.wrap (y1 : Int) = y1 := IntWalk.i64_in _ (by omega)
        have q4 : IntKind.i64.wrap (y2 : Int) = y2 := IntWalk.i64_in _ (by omega)
        obtain ⟨m6, m7⟩ := m5
        generalize hz : (p : Int).tdiv bs.length = z at *
        have Hz := Sec.mk hz
        clear hz
        have q5 : IntKind.i64.wrap ((y1 : Int) * 131) = (y1 : Int) * 131 := IntWalk.i64_in _ (by omega)
        have q6 : IntKind.i64.wrap ((y2 : Int) * 1117) = (y2 : Int) * 1117 := IntWalk.i64_in _ (by omega)
        have q7 : IntKind.i64.wrap ((y1 : Int) * 131 + (y2 : Int) * 1117) = (y1 : Int) * 131 + (y2 : Int) * 1117 := IntWalk.i64_in _ (by omega)
        have q8 : IntKind.i64.wrap ((p : Int) * 29) = (p : Int) * 29 := IntWalk.i64_in _ (by omega)
        have q9 : IntKind.i64.wrap ((y1 : Int) * 131 + (y2 : Int) * 1117 + (p : Int) * 29) = (y1 : Int) * 131 + (y2 : Int) * 1117 + (p : Int) * 29 := IntWalk.i64_in _ (by omega)
        have q10 : IntKind.i64.wrap ((p : Int).tdiv bs.length) = (p : Int).tdiv bs.length := by rw [Hz.out]; exact IntWalk.i64_in _ (by omega)
        have q11 : IntKind.i64.wrap ((p : Int).tdiv bs.length * 53) = (p : Int).tdiv bs.length * 53 := by rw [Hz.out]; exact IntWalk.i64_in _ (by omega)
        have q12 : IntKind.i64.wrap ((y1 : Int) * 131 + (y2 : Int) * 1117 + (p : Int) * 29 + (p : Int).tdiv bs.length * 53) = (y1 : Int) * 131 + (y2 : Int) * 1117 + (p : Int) * 29 + (p : Int).tdiv bs.length * 53 := by rw [Hz.out]; exact IntWalk.i64_in _ (by omega)
        go_enter Tryz.func76, Tryz.ntmps76
        go_wp2
        go_quiet (fail)
        clear q1 q2 q3 q4 q5 q6 q7 q8 q9 q10 q11 q12
        have hq := Sec.mk (pick_fin y1 y2 p bs.length n (by omega) h3 (by omega) hb1 hb2)
        go_wp2
        go_ret
        exact ⟨_, rfl, hq.out, ⟨hfin.out.is, ⟨hfin.out.bel.os, hfin.out.bel.tape, hfin.out.bel.output, hfin.out.bel.size, hfin.out.bel.block⟩, hG⟩, ⟨hon.out.os, hon.out.tape, hon.out.output, hon.out.size, hon.out.block⟩⟩
end
section
open Go.RowKit
set_option linter.unusedVariables false
section
variable {α β : Type} {d : Kd α} {e : Kd β} {t : TypeId} {hp : 0 < e.sz} {x : List β → α} {X n0 j : Nat} {c0 c2 cs : List Value} {ty : TypeId} {w w1 : World} {v v1 : Value} {xs ys : List β} {Sr Sc S S1 Sx : Nat → Prop}
/-- The row has grown by an append, and is put back. -/
theorem Growing.put (h : Growing d e t hp x X n0 c0 c2 ty w v xs Sr Sc) (hl : c0.length = j) (hF : Foot Sc w w1) (hR : e.R w1 S1 v1 ys) (hS : ∀ k, S1 k → Sc k ∨ Sx k ∨ w.heap.size ≤ k) (hx : ∀ k, Sx k → ¬ Sr k ∧ n0 ≤ k ∧ k ≠ X) :
    Growing d e t hp x X n0 c0 c2 ty (w1.setCell ⟨X, j, none⟩ v1) v1 ys Sr (fun k => S1 k ∧ k < w1.heap.size) := by
  have hX : X < w.heap.size := (Array.getElem?_eq_some_iff.1 h.box).1
  have hn : ¬ Sc X := fun e => (h.mine X (.inr e)).2.2 rfl
  have hb : w1.heap[X]? = _ := (hF.block X hX hn).trans h.box
  have F4 : Foot (fun k => k = X) w1 (w1.setCell ⟨X, j, none⟩ v1) := Foot.set (S := fun k => k = X) (Foot.refl _ _) (.inl rfl) _ _
  have hsz : (w1.setCell ⟨X, j, none⟩ v1).heap.size = w1.heap.size := by simp [World.setCell]
  have e1 : ∀ k, S1 k → ¬ Sr k ∧ n0 ≤ k ∧ k ≠ X := fun k hk => by
    rcases hS k hk with h1 | h1 | h1
    · exact ⟨fun e => h.apart k e h1, (h.mine k (.inr h1)).1, (h.mine k (.inr h1)).2.2⟩
    · exact hx k h1
    · have := h.at_
      exact ⟨fun e => by have := (h.mine k (.inl e)).2.1; omega, by omega, by omega⟩
  refine ⟨grow_set hb hl v1, h.hole.move (fun k hk hlt => ⟨hk, ?_⟩), F4.R (Kd.R_mono hR (fun k h1 h2 => ⟨h1, h2⟩)) (fun k hk => (e1 k hk.1).2.2), fun k hk hs => (e1 k hs.1).1 hk, fun k hk => ?_, h.at_⟩
  · have h1 := hF.block k hlt (fun e => h.apart k hk e)
    have h2 : k < w1.heap.size := by have := hF.size; omega
    exact (F4.block k h2 (h.mine k (.inl hk)).2.2).trans h1
  · rw [hsz]
    have := hF.size
    rcases hk with hk | hk
    · have := h.mine k (.inl hk); exact ⟨this.1, by omega, this.2.2⟩
    · exact ⟨(e1 k hk.1).2.1, hk.2, (e1 k hk.1).2.2⟩
theorem Growing.only {g : Nat} (h : Growing d e t hp x X n0 c0 c2 ty w v xs Sr Sc) (hO : Only g w w1) (hg : g < n0) : Growing d e t hp x X n0 c0 c2 ty w1 v xs Sr Sc := by
  have hX : X < w.heap.size := (Array.getElem?_eq_some_iff.1 h.box).1
  have ha := h.at_
  refine ⟨(hO.block X hX (by omega)).trans h.box, h.hole.move (fun k hk hl => ⟨hk, hO.block k hl (by have := (h.mine k (.inl hk)).1; omega)⟩), Kd.R_move (fun k hk hl => ⟨hk, hO.block k hl (by have := (h.mine k (.inr hk)).1; omega)⟩) h.row, h.apart, fun k hk => ?_, ha⟩
  have := h.mine k hk
  have := hO.size
  exact ⟨by omega, by omega, (h.mine k hk).2.2⟩
/-- Another block is turned. -/
theorem Growing.foot {T : Nat → Prop} (h : Growing d e t hp x X n0 c0 c2 ty w v xs Sr Sc) (hF : Foot T w w1) (hT : ∀ k, T k → k ≠ X ∧ ¬ Sr k ∧ ¬ Sc k) : Growing d e t hp x X n0 c0 c2 ty w1 v xs Sr Sc := by
  have hX : X < w.heap.size := (Array.getElem?_eq_some_iff.1 h.box).1
  refine ⟨(hF.block X hX (fun e => (hT X e).1 rfl)).trans h.box, h.hole.move (fun k hk hl => ⟨hk, hF.block k hl (fun e => (hT k e).2.1 hk)⟩), Kd.R_move (fun k hk hl => ⟨hk, hF.block k hl (fun e => (hT k e).2.2 hk)⟩) h.row, h.apart, fun k hk => ?_, h.at_⟩
  have h1 := h.mine k hk
  have := hF.size
  exact ⟨h1.1, by omega, h1.2.2⟩
end
theorem Only.O {α : Type} {d : Kd α} {g : Nat} {w w1 : World} {S : Nat → Prop} {x : α} {cs : List Value} (h : Only g w w1) (hO : d.O w S x cs) (hS : ∀ k, S k → k ≠ g) : d.O w1 S x cs :=
  d.O_move (fun k h1 h2 => ⟨h1, h.block k h2 (hS k h1)⟩) hO
theorem Only.R {α : Type} {d : Kd α} {g : Nat} {w w1 : World} {S : Nat → Prop} {x : List α} {v : Value} (h : Only g w w1) (hO : d.R w S v x) (hS : ∀ k, S k → k ≠ g) : d.R w1 S v x :=
  Kd.R_move (fun k h1 h2 => ⟨h1, h.block k h2 (hS k h1)⟩) hO
theorem Foot.rd {T : Nat → Prop} {w0 w w1 : World} {g P : Nat} (h : Foot T w w1) (hR : Rd w0 w g P) (hT : ∀ k, T k → k ≠ g ∧ w0.heap.size ≤ k) : Rd w0 w1 g P := by
  obtain ⟨A, c, p, bs, h1, h2⟩ := hR.is
  exact ⟨⟨A, c, p, bs, (h.block g hR.lt (fun e => (hT g e).1 rfl)).trans h1, h2⟩, h.below hR.bel (fun k hk => (hT k hk).2), hR.ge⟩
theorem Foot.onlyOf {T : Nat → Prop} {w w1 w2 : World} {g : Nat} (h : Foot T w1 w2) (hO : Only g w w1) (hT : ∀ k, T k → w.heap.size ≤ k) : Only g w w2 :=
  ⟨h.os.trans hO.os, h.tape.trans hO.tape, h.output.trans hO.output, Nat.le_trans hO.size h.size, fun k hk hg => (h.block k (Nat.lt_of_lt_of_le hk hO.size) (fun e => by have := hT k e; omega)).trans (hO.block k hk hg)⟩
/-- Blocks made one behind the other. -/
def many (w : World) : List Obj → World
  | [] => w
  | o :: os => many (w.alloc o) os
theorem many_size : ∀ (os : List Obj) (w : World), (many w os).heap.size = w.heap.size + os.length
  | [], w => rfl
  | o :: os, w => by rw [many, many_size os, List.length_cons]; simp; omega
theorem many_below : ∀ (os : List Obj) (w : World), Below w.heap.size w (many w os)
  | [], w => Below.refl _ _
  | o :: os, w => bel (belA (Below.refl _ _) o) (many_below os _)
theorem many_get : ∀ (os : List Obj) (w : World) (i : Nat) (o : Obj), os[i]? = some o → (many w os).heap[w.heap.size + i]? = some o
  | [], w, i, o, h => by simp at h
  | a :: os, w, 0, o, h => by
    obtain rfl : a = o := by simpa using h
    have h1 := (many_below os (w.alloc a)).block w.heap.size (by simp)
    rw [many, Nat.add_zero, h1]
    exact heap_alloc_new w a
  | a :: os, w, i + 1, o, h => by
    have := many_get os (w.alloc a) i o (by simpa using h)
    rw [many]
    rw [show w.heap.size + (i + 1) = (w.alloc a).heap.size + i by simp; omega]
    exact this
end
end Go.Proofs.YtendgddidgbejaaGreatDoor
