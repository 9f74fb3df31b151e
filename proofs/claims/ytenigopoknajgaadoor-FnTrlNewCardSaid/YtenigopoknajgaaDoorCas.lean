/- The laws' own comparisons say true of what is the same. Conditions: no bindings, nothing to do otherwise. -/
import Derived.Test.YtenigopoknajgaaDoorCa
import Derived.Test.YtenigopoknajgaaDoorInvCell
import Derived.Test.YtenigopoknajgaaDoorXSState
import Derived.Test.YtenigopoknajgaaDoorXTState
namespace Go.Proofs.YtenigopoknajgaaDoor
open Go.RowKit
set_option linter.unusedVariables false
set_option maxRecDepth 100000
theorem same_ {α : Type} [DecidableEq α] (t : α) : decide (t = t) = true := decide_eq_true rfl
set_option maxHeartbeats 1000000 in
theorem caGoal_c (x : Goal) (cs ds : List Value) (ok ok' : Nat → Prop) (w : World) (hK : kGoal.K w ok x cs) (hD : kGoal.K w ok' x ds) :
    Calls Tryd.prog 63 #[.agg cs.toArray, .agg ds.toArray] w fun e w' => e = .returned (.bool true) ∧ Below w.heap.size w w' := by
  obtain ⟨v1, v2, v3, rfl, h1, h2, h3⟩ := kGoal_K hK
  obtain ⟨u1, u2, u3, rfl, g1, g2, g3⟩ := kGoal_K hD
  have H1 := Sec.mk h1
  have H2 := Sec.mk h2
  have H3 := Sec.mk h3
  have G1 := Sec.mk g1
  have G2 := Sec.mk g2
  have G3 := Sec.mk g3
  obtain ⟨E1, m1, rfl, -⟩ := h1
  obtain ⟨E2, m2, rfl, -⟩ := h2
  obtain ⟨E3, m3, rfl, -⟩ := h3
  obtain ⟨D1, n1, rfl, -⟩ := g1
  obtain ⟨D2, n2, rfl, -⟩ := g2
  obtain ⟨D3, n3, rfl, -⟩ := g3
  clear hK hD
  have B0 := Sec.mk (belA (belA (Below.refl w.heap.size w) (.cells #[.int .i64 x.kind, .slice E1 x.a.length m1, .slice E2 x.b.length m2, .slice E3 x.c.length m3] 56)) (.cells #[.int .i64 x.kind, .slice D1 x.a.length n1, .slice D2 x.b.length n2, .slice D3 x.c.length n3] 56))
  have P0 := Sec.mk (box2 w (.cells #[.int .i64 x.kind, .slice E1 x.a.length m1, .slice E2 x.b.length m2, .slice E3 x.c.length m3] 56) (.cells #[.int .i64 x.kind, .slice D1 x.a.length n1, .slice D2 x.b.length n2, .slice D3 x.c.length n3] 56)).1
  have Q0 := Sec.mk (box2 w (.cells #[.int .i64 x.kind, .slice E1 x.a.length m1, .slice E2 x.b.length m2, .slice E3 x.c.length m3] 56) (.cells #[.int .i64 x.kind, .slice D1 x.a.length n1, .slice D2 x.b.length n2, .slice D3 x.c.length n3] 56)).2
  have X := (box_at P0.out).2.1
  have p0_0 := X 0 _ rfl
  have p0_1 := X 1 _ rfl
  have p0_2 := X 2 _ rfl
  have p0_3 := X 3 _ rfl
  clear X
  have X := (box_at Q0.out).2.1
  have q0_0 := X 0 _ rfl
  have q0_1 := X 1 _ rfl
  have q0_2 := X 2 _ rfl
  have q0_3 := X 3 _ rfl
  clear X
  have T0 : Sec True := ⟨trivial⟩
  go_enter Tryd.func63, Tryd.ntmps63
  go_wp2_with (first | (clear T2; go_at_call 32; have T3 : Sec True := ⟨trivial⟩; refine (caTerm_c _ _ x.c x.c ok ok' _ (Kd.V_below H3.out B2.out (by decide)) (Kd.V_below G3.out B2.out (by decide))).mono ?_; rw [same_]; rintro e w3 ⟨rfl, hb⟩; have B3 := Sec.mk (bel B2.out hb); clear hb) | (clear T1; go_at_call 32; have T2 : Sec True := ⟨trivial⟩; refine (caTerm_c _ _ x.b x.b ok ok' _ (Kd.V_below H2.out B1.out (by decide)) (Kd.V_below G2.out B1.out (by decide))).mono ?_; rw [same_]; rintro e w2 ⟨rfl, hb⟩; have B2 := Sec.mk (bel B1.out hb); have P2 := Sec.mk ((hb.block _ (Array.getElem?_eq_some_iff.1 P1.out).1).trans P1.out); have X := (box_at P2.out).2.1; have p2_0 := X 0 _ rfl; have p2_1 := X 1 _ rfl; have p2_2 := X 2 _ rfl; have p2_3 := X 3 _ rfl; clear X; have Q2 := Sec.mk ((hb.block _ (Array.getElem?_eq_some_iff.1 Q1.out).1).trans Q1.out); have X := (box_at Q2.out).2.1; have q2_0 := X 0 _ rfl; have q2_1 := X 1 _ rfl; have q2_2 := X 2 _ rfl; have q2_3 := X 3 _ rfl; clear X; clear hb) | (clear T0; go_at_call 32; have T1 : Sec True := ⟨trivial⟩; refine (caTerm_c _ _ x.a x.a ok ok' _ (Kd.V_below H1.out B0.out (by decide)) (Kd.V_below G1.out B0.out (by decide))).mono ?_; rw [same_]; rintro e w1 ⟨rfl, hb⟩; have B1 := Sec.mk (bel B0.out hb); have P1 := Sec.mk ((hb.block _ (Array.getElem?_eq_some_iff.1 P0.out).1).trans P0.out); have X := (box_at P1.out).2.1; have p1_0 := X 0 _ rfl; have p1_1 := X 1 _ rfl; have p1_2 := X 2 _ rfl; have p1_3 := X 3 _ rfl; clear X; have Q1 := Sec.mk ((hb.block _ (Array.getElem?_eq_some_iff.1 Q0.out).1).trans Q0.out); have X := (box_at Q1.out).2.1; have q1_0 := X 0 _ rfl; have q1_1 := X 1 _ rfl; have q1_2 := X 2 _ rfl; have q1_3 := X 3 _ rfl; clear X; clear hb))
  go_ret
  exact ⟨rb (by simp), B3.out⟩
set_option maxHeartbeats 2000000 in
theorem caGoals_c (v u : Value) (t : List SGoal) (ok ok' : Nat → Prop) (w : World) (hV : kSGoal.V w ok v t) (hU : kSGoal.V w ok' u t) :
    Calls Tryd.prog 30 #[v, u] w fun e w' => e = .returned (.bool true) ∧ Below w.heap.size w w' := by
  obtain ⟨A, c, rfl, h1, h2, h3, hC, _⟩ := hV
  obtain ⟨D, d, rfl, k1, k2, k3, hE, _⟩ := hU
  have HC := Sec.mk hC
  have HE := Sec.mk hE
  clear hC hE
  have hu := Tryd.underlying58
  have hu2 := Tryd.underlying56
  go_enter Tryd.func30, Tryd.ntmps30
  go_wp2
  go_loopw [5] (fun iv wr => ∃ k : Nat, k ≤ t.length ∧ iv = .int .i64 k ∧ Sec (Below w.heap.size w wr)) (fun iv _ => t.length - (intOf iv).toNat)
  case atStart => exact ⟨0, Nat.zero_le _, rfl, ⟨Below.refl _ _⟩⟩
  case round =>
    obtain ⟨k, hk, rfl, hb⟩ := hrel
    by_cases hlt : k < t.length
    · obtain ⟨b, off, cs, rfl, hob, hK, hc⟩ := Kd.C_get (Kd.C_below HC.out hb.out (by decide)) (List.getElem?_eq_getElem hlt)
      obtain ⟨b2, off2, cs2, rfl, hob2, hK2, hc2⟩ := Kd.C_get (Kd.C_below HE.out hb.out (by decide)) (List.getElem?_eq_getElem hlt)
      generalize t[k] = x at *
      obtain ⟨v1, v2, v3, rfl, h1, h2, h3⟩ := kSGoal_K hK
      obtain ⟨yy1, yy2, yy3, rfl, g1, g2, g3⟩ := kSGoal_K hK2
      have HK : Sec (kGoal.K wr ok x.goal [.int .i64 x.goal.kind, v1, v2, v3]) := ⟨⟨[.int .i64 x.goal.kind], [v1, v2, v3], rfl, ⟨rfl, trivial⟩, [v1], [v2, v3], rfl, ⟨v1, rfl, h1⟩, [v2], [v3], rfl, ⟨v2, rfl, h2⟩, ⟨v3, rfl, h3⟩⟩⟩
      have HK2 : Sec (kGoal.K wr ok' x.goal [.int .i64 x.goal.kind, yy1, yy2, yy3]) := ⟨⟨[.int .i64 x.goal.kind], [yy1, yy2, yy3], rfl, ⟨rfl, trivial⟩, [yy1], [yy2, yy3], rfl, ⟨yy1, rfl, g1⟩, [yy2], [yy3], rfl, ⟨yy2, rfl, g2⟩, ⟨yy3, rfl, g3⟩⟩⟩
      have A0 : Sec (wr.cell? ⟨b, off + k * 5, none⟩ = some (.int .i64 x.goal.kind)) := ⟨hc 0 _ rfl⟩
      have A1 : Sec (wr.cell? ⟨b, off + k * 5 + 1, none⟩ = some v1) := ⟨hc 1 _ rfl⟩
      have A2 : Sec (wr.cell? ⟨b, off + k * 5 + 2, none⟩ = some v2) := ⟨hc 2 _ rfl⟩
      have A3 : Sec (wr.cell? ⟨b, off + k * 5 + 3, none⟩ = some v3) := ⟨hc 3 _ rfl⟩
      have A4 : Sec (wr.cell? ⟨b, off + k * 5 + 4, none⟩ = some (.int .i64 x.cut)) := ⟨hc 4 _ rfl⟩
      have Z0 : Sec (wr.cell? ⟨b2, off2 + k * 5, none⟩ = some (.int .i64 x.goal.kind)) := ⟨hc2 0 _ rfl⟩
      have Z1 : Sec (wr.cell? ⟨b2, off2 + k * 5 + 1, none⟩ = some yy1) := ⟨hc2 1 _ rfl⟩
      have Z2 : Sec (wr.cell? ⟨b2, off2 + k * 5 + 2, none⟩ = some yy2) := ⟨hc2 2 _ rfl⟩
      have Z3 : Sec (wr.cell? ⟨b2, off2 + k * 5 + 3, none⟩ = some yy3) := ⟨hc2 3 _ rfl⟩
      have Z4 : Sec (wr.cell? ⟨b2, off2 + k * 5 + 4, none⟩ = some (.int .i64 x.cut)) := ⟨hc2 4 _ rfl⟩
      have i0 : (0 : Int) ≤ (k : Int) := by omega
      have i1 : (k : Int) < (t.length : Int) := by omega
      clear hK hK2 hc hc2 h1 h2 h3 g1 g2 g3
      go_wp2
      refine wp_region_lists [[17], [18], [19], [20], [21], [22], [23], [24], [25], [26], [27], [28], [29], [30], [31], [32], [33], [34], [35], [36], [37], [38], [39], [40], [41]]
        [fun val _ _ => val 17 = .slice (some ⟨b, off, none⟩) t.length c,
          fun val _ _ => val 18 = .int .i64 k,
          fun val _ _ => val 19 = .pointer (some ⟨b, off + k * 5, none⟩),
          fun val _ _ => val 20 = .pointer (some ⟨b, off + k * 5 + 4, none⟩),
          fun val _ _ => val 21 = .int .i64 x.cut,
          fun val _ _ => val 22 = .slice (some ⟨b2, off2, none⟩) t.length d,
          fun val _ _ => val 23 = .int .i64 k,
          fun val _ _ => val 24 = .pointer (some ⟨b2, off2 + k * 5, none⟩),
          fun val _ _ => val 25 = .pointer (some ⟨b2, off2 + k * 5 + 4, none⟩),
          fun val _ _ => val 26 = .int .i64 x.cut,
          fun val _ _ => val 27 = .bool false,
          fun val _ _ => val 28 = .bool false,
          fun val _ _ => val 29 = .slice (some ⟨b, off, none⟩) t.length c,
          fun val _ _ => val 30 = .int .i64 k,
          fun val _ _ => val 31 = .pointer (some ⟨b, off + k * 5, none⟩),
          fun val _ _ => val 32 = .pointer (some ⟨b, off + k * 5, none⟩),
          fun val _ _ => val 33 = .agg #[.int .i64 x.goal.kind, v1, v2, v3],
          fun val _ _ => val 34 = .slice (some ⟨b2, off2, none⟩) t.length d,
          fun val _ _ => val 35 = .int .i64 k,
          fun val _ _ => val 36 = .pointer (some ⟨b2, off2 + k * 5, none⟩),
          fun val _ _ => val 37 = .pointer (some ⟨b2, off2 + k * 5, none⟩),
          fun val _ _ => val 38 = .agg #[.int .i64 x.goal.kind, yy1, yy2, yy3],
          fun val _ _ => val 39 = .bool true,
          fun val _ _ => val 40 = .bool false,
          fun val _ _ => val 41 = .bool false]
        [[], [], [], [], [], [], [], [], [], [], [], [], [], [], [], [], [], [], [], [], [], [], [], [], []] 0 (fun _ => False) (fun _ _ => False) (by kernel_rfl) ⟨by kernel_rfl, by kernel_rfl, by kernel_rfl, by kernel_rfl, by kernel_rfl⟩
        (.cons (stab_val 17 (fun v => v = .slice (some ⟨b, off, none⟩) t.length c)) (.cons (stab_val 18 (fun v => v = .int .i64 k)) (.cons (stab_val 19 (fun v => v = .pointer (some ⟨b, off + k * 5, none⟩))) (.cons (stab_val 20 (fun v => v = .pointer (some ⟨b, off + k * 5 + 4, none⟩))) (.cons (stab_val 21 (fun v => v = .int .i64 x.cut)) (.cons (stab_val 22 (fun v => v = .slice (some ⟨b2, off2, none⟩) t.length d)) (.cons (stab_val 23 (fun v => v = .int .i64 k)) (.cons (stab_val 24 (fun v => v = .pointer (some ⟨b2, off2 + k * 5, none⟩))) (.cons (stab_val 25 (fun v => v = .pointer (some ⟨b2, off2 + k * 5 + 4, none⟩))) (.cons (stab_val 26 (fun v => v = .int .i64 x.cut)) (.cons (stab_val 27 (fun v => v = .bool false)) (.cons (stab_val 28 (fun v => v = .bool false)) (.cons (stab_val 29 (fun v => v = .slice (some ⟨b, off, none⟩) t.length c)) (.cons (stab_val 30 (fun v => v = .int .i64 k)) (.cons (stab_val 31 (fun v => v = .pointer (some ⟨b, off + k * 5, none⟩))) (.cons (stab_val 32 (fun v => v = .pointer (some ⟨b, off + k * 5, none⟩))) (.cons (stab_val 33 (fun v => v = .agg #[.int .i64 x.goal.kind, v1, v2, v3])) (.cons (stab_val 34 (fun v => v = .slice (some ⟨b2, off2, none⟩) t.length d)) (.cons (stab_val 35 (fun v => v = .int .i64 k)) (.cons (stab_val 36 (fun v => v = .pointer (some ⟨b2, off2 + k * 5, none⟩))) (.cons (stab_val 37 (fun v => v = .pointer (some ⟨b2, off2 + k * 5, none⟩))) (.cons (stab_val 38 (fun v => v = .agg #[.int .i64 x.goal.kind, yy1, yy2, yy3])) (.cons (stab_val 39 (fun v => v = .bool true)) (.cons (stab_val 40 (fun v => v = .bool false)) (.cons (stab_val 41 (fun v => v = .bool false)) .nil)))))))))))))))))))))))))
        (fun i j k h1 h2 => h1.elim) (fun i k h => h.elim) (fun i h1 h2 => by simp at h1 h2; omega) (.cons ?_ (.cons ?_ (.cons ?_ (.cons ?_ (.cons ?_ (.cons ?_ (.cons ?_ (.cons ?_ (.cons ?_ (.cons ?_ (.cons ?_ (.cons ?_ (.cons ?_ (.cons ?_ (.cons ?_ (.cons ?_ (.cons ?_ (.cons ?_ (.cons ?_ (.cons ?_ (.cons ?_ (.cons ?_ (.cons ?_ (.cons ?_ (.cons ?_ .nil))))))))))))))))))))))))) ?_
      · intro a W own hfor huse hap hmi hF K hK
        have e0 : a.eval (.tmp 0) = .slice (some ⟨b, off, none⟩) t.length c := hfor 0 (by kernel_rfl)
        refine op_val (.slice (some ⟨b, off, none⟩) t.length c) W rfl ?_ (hK _ _ (post_pure ?_))
        · clear hfor huse hap hmi hK hF
          generalize a.eval = ρ at *
          go_simp
        · exact (if_pos rfl)
      · intro a W own hfor huse hap hmi hF K hK
        have e5 : a.eval (.tmp 5) = .int .i64 k := hfor 5 (by kernel_rfl)
        refine op_val (.int .i64 k) W rfl ?_ (hK _ _ (post_pure ?_))
        · clear hfor huse hap hmi hK hF
          generalize a.eval = ρ at *
          go_simp
        · exact (if_pos rfl)
      · intro a W own hfor huse hap hmi hF K hK
        have e17 : a.eval (.tmp 17) = .slice (some ⟨b, off, none⟩) t.length c := huse 0 (by kernel_rfl)
        have e18 : a.eval (.tmp 18) = .int .i64 k := huse 1 (by kernel_rfl)
        refine op_val (.pointer (some ⟨b, off + k * 5, none⟩)) W rfl ?_ (hK _ _ (post_pure ?_))
        · clear hfor huse hap hmi hK hF
          generalize a.eval = ρ at *
          go_simp
        · exact (if_pos rfl)
      · intro a W own hfor huse hap hmi hF K hK
        have e19 : a.eval (.tmp 19) = .pointer (some ⟨b, off + k * 5, none⟩) := huse 2 (by kernel_rfl)
        refine op_val (.pointer (some ⟨b, off + k * 5 + 4, none⟩)) W rfl ?_ (hK _ _ (post_pure ?_))
        · clear hfor huse hap hmi hK hF
          generalize a.eval = ρ at *
          go_simp
        · exact (if_pos rfl)
      · intro a W own hfor huse hap hmi hF K hK
        have e20 : a.eval (.tmp 20) = .pointer (some ⟨b, off + k * 5 + 4, none⟩) := huse 3 (by kernel_rfl)
        have c4 := foot_cell hF (fun h => h) A4.out
        refine op_val (.int .i64 x.cut) W rfl ?_ (hK _ _ (post_pure ?_))
        · clear hfor huse hap hmi hK hF
          generalize a.eval = ρ at *
          go_simp
        · exact (if_pos rfl)
      · intro a W own hfor huse hap hmi hF K hK
        have e1 : a.eval (.tmp 1) = .slice (some ⟨b2, off2, none⟩) t.length d := hfor 1 (by kernel_rfl)
        refine op_val (.slice (some ⟨b2, off2, none⟩) t.length d) W rfl ?_ (hK _ _ (post_pure ?_))
        · clear hfor huse hap hmi hK hF
          generalize a.eval = ρ at *
          go_simp
        · exact (if_pos rfl)
      · intro a W own hfor huse hap hmi hF K hK
        have e5 : a.eval (.tmp 5) = .int .i64 k := hfor 5 (by kernel_rfl)
        refine op_val (.int .i64 k) W rfl ?_ (hK _ _ (post_pure ?_))
        · clear hfor huse hap hmi hK hF
          generalize a.eval = ρ at *
          go_simp
        · exact (if_pos rfl)
      · intro a W own hfor huse hap hmi hF K hK
        have e22 : a.eval (.tmp 22) = .slice (some ⟨b2, off2, none⟩) t.length d := huse 5 (by kernel_rfl)
        have e23 : a.eval (.tmp 23) = .int .i64 k := huse 6 (by kernel_rfl)
        refine op_val (.pointer (some ⟨b2, off2 + k * 5, none⟩)) W rfl ?_ (hK _ _ (post_pure ?_))
        · clear hfor huse hap hmi hK hF
          generalize a.eval = ρ at *
          go_simp
        · exact (if_pos rfl)
      · intro a W own hfor huse hap hmi hF K hK
        have e24 : a.eval (.tmp 24) = .pointer (some ⟨b2, off2 + k * 5, none⟩) := huse 7 (by kernel_rfl)
        refine op_val (.pointer (some ⟨b2, off2 + k * 5 + 4, none⟩)) W rfl ?_ (hK _ _ (post_pure ?_))
        · clear hfor huse hap hmi hK hF
          generalize a.eval = ρ at *
          go_simp
        · exact (if_pos rfl)
      · intro a W own hfor huse hap hmi hF K hK
        have e25 : a.eval (.tmp 25) = .pointer (some ⟨b2, off2 + k * 5 + 4, none⟩) := huse 8 (by kernel_rfl)
        have c4 := foot_cell hF (fun h => h) Z4.out
        refine op_val (.int .i64 x.cut) W rfl ?_ (hK _ _ (post_pure ?_))
        · clear hfor huse hap hmi hK hF
          generalize a.eval = ρ at *
          go_simp
        · exact (if_pos rfl)
      · intro a W own hfor huse hap hmi hF K hK
        have e21 : a.eval (.tmp 21) = .int .i64 x.cut := huse 4 (by kernel_rfl)
        have e26 : a.eval (.tmp 26) = .int .i64 x.cut := huse 9 (by kernel_rfl)
        refine op_val (.bool false) W rfl ?_ (hK _ _ (post_pure ?_))
        · clear hfor huse hap hmi hK hF
          generalize a.eval = ρ at *
          go_simp
        · exact (if_pos rfl)
      · intro a W own hfor huse hap hmi hF K hK
        have e27 : a.eval (.tmp 27) = .bool false := huse 10 (by kernel_rfl)
        refine op_val (.bool false) W rfl ?_ (hK _ _ (post_pure ?_))
        · clear hfor huse hap hmi hK hF
          generalize a.eval = ρ at *
          go_simp
        · exact (if_pos rfl)
      · intro a W own hfor huse hap hmi hF K hK
        have e0 : a.eval (.tmp 0) = .slice (some ⟨b, off, none⟩) t.length c := hfor 0 (by kernel_rfl)
        have e28 : a.eval (.tmp 28) = .bool false := huse 11 (by kernel_rfl)
        refine gop_val (.slice (some ⟨b, off, none⟩) t.length c) W (want_yes (j := 11) (b := false) rfl (yield_of (t := 28) rfl rfl e28)) ?_ (hK _ _ (post_pure ?_))
        · clear hfor huse hap hmi hK hF
          generalize a.eval = ρ at *
          go_simp
        · exact (if_pos rfl)
      · intro a W own hfor huse hap hmi hF K hK
        have e5 : a.eval (.tmp 5) = .int .i64 k := hfor 5 (by kernel_rfl)
        have e28 : a.eval (.tmp 28) = .bool false := huse 11 (by kernel_rfl)
        refine gop_val (.int .i64 k) W (want_yes (j := 11) (b := false) rfl (yield_of (t := 28) rfl rfl e28)) ?_ (hK _ _ (post_pure ?_))
        · clear hfor huse hap hmi hK hF
          generalize a.eval = ρ at *
          go_simp
        · exact (if_pos rfl)
      · intro a W own hfor huse hap hmi hF K hK
        have e29 : a.eval (.tmp 29) = .slice (some ⟨b, off, none⟩) t.length c := huse 12 (by kernel_rfl)
        have e30 : a.eval (.tmp 30) = .int .i64 k := huse 13 (by kernel_rfl)
        have e28 : a.eval (.tmp 28) = .bool false := huse 11 (by kernel_rfl)
        refine gop_val (.pointer (some ⟨b, off + k * 5, none⟩)) W (want_yes (j := 11) (b := false) rfl (yield_of (t := 28) rfl rfl e28)) ?_ (hK _ _ (post_pure ?_))
        · clear hfor huse hap hmi hK hF
          generalize a.eval = ρ at *
          go_simp
        · exact (if_pos rfl)
      · intro a W own hfor huse hap hmi hF K hK
        have e31 : a.eval (.tmp 31) = .pointer (some ⟨b, off + k * 5, none⟩) := huse 14 (by kernel_rfl)
        have e28 : a.eval (.tmp 28) = .bool false := huse 11 (by kernel_rfl)
        refine gop_val (.pointer (some ⟨b, off + k * 5, none⟩)) W (want_yes (j := 11) (b := false) rfl (yield_of (t := 28) rfl rfl e28)) ?_ (hK _ _ (post_pure ?_))
        · clear hfor huse hap hmi hK hF
          generalize a.eval = ρ at *
          go_simp
        · exact (if_pos rfl)
      · intro a W own hfor huse hap hmi hF K hK
        have e32 : a.eval (.tmp 32) = .pointer (some ⟨b, off + k * 5, none⟩) := huse 15 (by kernel_rfl)
        have e28 : a.eval (.tmp 28) = .bool false := huse 11 (by kernel_rfl)
        have c0 := foot_cell hF (fun h => h) A0.out
        have c1 := foot_cell hF (fun h => h) A1.out
        have c2 := foot_cell hF (fun h => h) A2.out
        have c3 := foot_cell hF (fun h => h) A3.out
        refine gop_val (.agg #[.int .i64 x.goal.kind, v1, v2, v3]) W (want_yes (j := 11) (b := false) rfl (yield_of (t := 28) rfl rfl e28)) ?_ (hK _ _ (post_pure ?_))
        · clear hfor huse hap hmi hK hF
          generalize a.eval = ρ at *
          go_simp
        · exact (if_pos rfl)
      · intro a W own hfor huse hap hmi hF K hK
        have e1 : a.eval (.tmp 1) = .slice (some ⟨b2, off2, none⟩) t.length d := hfor 1 (by kernel_rfl)
        have e28 : a.eval (.tmp 28) = .bool false := huse 11 (by kernel_rfl)
        refine gop_val (.slice (some ⟨b2, off2, none⟩) t.length d) W (want_yes (j := 11) (b := false) rfl (yield_of (t := 28) rfl rfl e28)) ?_ (hK _ _ (post_pure ?_))
        · clear hfor huse hap hmi hK hF
          generalize a.eval = ρ at *
          go_simp
        · exact (if_pos rfl)
      · intro a W own hfor huse hap hmi hF K hK
        have e5 : a.eval (.tmp 5) = .int .i64 k := hfor 5 (by kernel_rfl)
        have e28 : a.eval (.tmp 28) = .bool false := huse 11 (by kernel_rfl)
        refine gop_val (.int .i64 k) W (want_yes (j := 11) (b := false) rfl (yield_of (t := 28) rfl rfl e28)) ?_ (hK _ _ (post_pure ?_))
        · clear hfor huse hap hmi hK hF
          generalize a.eval = ρ at *
          go_simp
        · exact (if_pos rfl)
      · intro a W own hfor huse hap hmi hF K hK
        have e34 : a.eval (.tmp 34) = .slice (some ⟨b2, off2, none⟩) t.length d := huse 17 (by kernel_rfl)
        have e35 : a.eval (.tmp 35) = .int .i64 k := huse 18 (by kernel_rfl)
        have e28 : a.eval (.tmp 28) = .bool false := huse 11 (by kernel_rfl)
        refine gop_val (.pointer (some ⟨b2, off2 + k * 5, none⟩)) W (want_yes (j := 11) (b := false) rfl (yield_of (t := 28) rfl rfl e28)) ?_ (hK _ _ (post_pure ?_))
        · clear hfor huse hap hmi hK hF
          generalize a.eval = ρ at *
          go_simp
        · exact (if_pos rfl)
      · intro a W own hfor huse hap hmi hF K hK
        have e36 : a.eval (.tmp 36) = .pointer (some ⟨b2, off2 + k * 5, none⟩) := huse 19 (by kernel_rfl)
        have e28 : a.eval (.tmp 28) = .bool false := huse 11 (by kernel_rfl)
        refine gop_val (.pointer (some ⟨b2, off2 + k * 5, none⟩)) W (want_yes (j := 11) (b := false) rfl (yield_of (t := 28) rfl rfl e28)) ?_ (hK _ _ (post_pure ?_))
        · clear hfor huse hap hmi hK hF
          generalize a.eval = ρ at *
          go_simp
        · exact (if_pos rfl)
      · intro a W own hfor huse hap hmi hF K hK
        have e37 : a.eval (.tmp 37) = .pointer (some ⟨b2, off2 + k * 5, none⟩) := huse 20 (by kernel_rfl)
        have e28 : a.eval (.tmp 28) = .bool false := huse 11 (by kernel_rfl)
        have c0 := foot_cell hF (fun h => h) Z0.out
        have c1 := foot_cell hF (fun h => h) Z1.out
        have c2 := foot_cell hF (fun h => h) Z2.out
        have c3 := foot_cell hF (fun h => h) Z3.out
        refine gop_val (.agg #[.int .i64 x.goal.kind, yy1, yy2, yy3]) W (want_yes (j := 11) (b := false) rfl (yield_of (t := 28) rfl rfl e28)) ?_ (hK _ _ (post_pure ?_))
        · clear hfor huse hap hmi hK hF
          generalize a.eval = ρ at *
          go_simp
        · exact (if_pos rfl)
      · intro a W own hfor huse hap hmi hF K hK
        have e33 : a.eval (.tmp 33) = .agg #[.int .i64 x.goal.kind, v1, v2, v3] := huse 16 (by kernel_rfl)
        have e38 : a.eval (.tmp 38) = .agg #[.int .i64 x.goal.kind, yy1, yy2, yy3] := huse 21 (by kernel_rfl)
        have e28 : a.eval (.tmp 28) = .bool false := huse 11 (by kernel_rfl)
        have hk1 := kGoal.K_move (show Keeps wr W ok ok from fun q h1 h2 => ⟨h1, hF.block q h2 (fun h => h)⟩) HK.out
        have hk2 := kGoal.K_move (show Keeps wr W ok' ok' from fun q h1 h2 => ⟨h1, hF.block q h2 (fun h => h)⟩) HK2.out
        have efn : a.eval (.func 63) = .func (.func 63) #[] #[] := rfl
        refine gop_call (f := 63) (args := #[.agg #[.int .i64 x.goal.kind, v1, v2, v3], .agg #[.int .i64 x.goal.kind, yy1, yy2, yy3]]) (fun v w1 => v = .bool true ∧ Below W.heap.size W w1) (want_yes (j := 11) (b := false) rfl (yield_of (t := 28) rfl rfl e28)) ?_ ?_ (fun v w1 h => ?_)
        · clear hfor huse hap hmi hK hF
          generalize a.eval = ρ at *
          go_simp
        · exact (caGoal_c x.goal _ _ ok ok' W hk1 hk2).mono (by rintro e w1 ⟨rfl, h2⟩; exact ⟨_, rfl, rfl, h2⟩)
        · obtain ⟨rfl, h2⟩ := h
          exact hK _ _ (post_new h2 (if_pos rfl))
      · intro a W own hfor huse hap hmi hF K hK
        have e39 : a.eval (.tmp 39) = .bool true := huse 22 (by kernel_rfl)
        have e28 : a.eval (.tmp 28) = .bool false := huse 11 (by kernel_rfl)
        refine gop_val (.bool false) W (want_yes (j := 11) (b := false) rfl (yield_of (t := 28) rfl rfl e28)) ?_ (hK _ _ (post_pure ?_))
        · clear hfor huse hap hmi hK hF
          generalize a.eval = ρ at *
          go_simp
        · exact (if_pos rfl)
      · intro a W own hfor huse hap hmi hF K hK
        have e28 : a.eval (.tmp 28) = .bool false := huse 11 (by kernel_rfl)
        have e40 : a.eval (.tmp 40) = .bool false := huse 23 (by kernel_rfl)
        have ec : a.eval (.const (.bool true)) = .bool true := rfl
        refine op_val (.bool false) W rfl ?_ (hK _ _ (post_pure ?_))
        · clear hfor huse hap hmi hK hF
          generalize a.eval = ρ at *
          go_simp
        · exact (if_pos rfl)
      intro a' W own hf
      have hsz := hf.st.size
      have hdf := hf.st.rest
      obtain ⟨⟨l⟩, df⟩ := a'
      have hl0 : l.length = 42 := hsz
      clear hsz
      obtain rfl : df = [] := hdf
      obtain ⟨x0, l0, rfl, hl1⟩ := lst_cons hl0
      clear hl0
      obtain ⟨x1, l1, rfl, hl2⟩ := lst_cons hl1
      clear hl1
      obtain ⟨x2, l2, rfl, hl3⟩ := lst_cons hl2
      clear hl2
      obtain ⟨x3, l3, rfl, hl4⟩ := lst_cons hl3
      clear hl3
      obtain ⟨x4, l4, rfl, hl5⟩ := lst_cons hl4
      clear hl4
      obtain ⟨x5, l5, rfl, hl6⟩ := lst_cons hl5
      clear hl5
      obtain ⟨x6, l6, rfl, hl7⟩ := lst_cons hl6
      clear hl6
      obtain ⟨x7, l7, rfl, hl8⟩ := lst_cons hl7
      clear hl7
      obtain ⟨x8, l8, rfl, hl9⟩ := lst_cons hl8
      clear hl8
      obtain ⟨x9, l9, rfl, hl10⟩ := lst_cons hl9
      clear hl9
      obtain ⟨x10, l10, rfl, hl11⟩ := lst_cons hl10
      clear hl10
      obtain ⟨x11, l11, rfl, hl12⟩ := lst_cons hl11
      clear hl11
      obtain ⟨x12, l12, rfl, hl13⟩ := lst_cons hl12
      clear hl12
      obtain ⟨x13, l13, rfl, hl14⟩ := lst_cons hl13
      clear hl13
      obtain ⟨x14, l14, rfl, hl15⟩ := lst_cons hl14
      clear hl14
      obtain ⟨x15, l15, rfl, hl16⟩ := lst_cons hl15
      clear hl15
      obtain ⟨x16, l16, rfl, hl17⟩ := lst_cons hl16
      clear hl16
      obtain ⟨x17, l17, rfl, hl18⟩ := lst_cons hl17
      clear hl17
      obtain ⟨x18, l18, rfl, hl19⟩ := lst_cons hl18
      clear hl18
      obtain ⟨x19, l19, rfl, hl20⟩ := lst_cons hl19
      clear hl19
      obtain ⟨x20, l20, rfl, hl21⟩ := lst_cons hl20
      clear hl20
      obtain ⟨x21, l21, rfl, hl22⟩ := lst_cons hl21
      clear hl21
      obtain ⟨x22, l22, rfl, hl23⟩ := lst_cons hl22
      clear hl22
      obtain ⟨x23, l23, rfl, hl24⟩ := lst_cons hl23
      clear hl23
      obtain ⟨x24, l24, rfl, hl25⟩ := lst_cons hl24
      clear hl24
      obtain ⟨x25, l25, rfl, hl26⟩ := lst_cons hl25
      clear hl25
      obtain ⟨x26, l26, rfl, hl27⟩ := lst_cons hl26
      clear hl26
      obtain ⟨x27, l27, rfl, hl28⟩ := lst_cons hl27
      clear hl27
      obtain ⟨x28, l28, rfl, hl29⟩ := lst_cons hl28
      clear hl28
      obtain ⟨x29, l29, rfl, hl30⟩ := lst_cons hl29
      clear hl29
      obtain ⟨x30, l30, rfl, hl31⟩ := lst_cons hl30
      clear hl30
      obtain ⟨x31, l31, rfl, hl32⟩ := lst_cons hl31
      clear hl31
      obtain ⟨x32, l32, rfl, hl33⟩ := lst_cons hl32
      clear hl32
      obtain ⟨x33, l33, rfl, hl34⟩ := lst_cons hl33
      clear hl33
      obtain ⟨x34, l34, rfl, hl35⟩ := lst_cons hl34
      clear hl34
      obtain ⟨x35, l35, rfl, hl36⟩ := lst_cons hl35
      clear hl35
      obtain ⟨x36, l36, rfl, hl37⟩ := lst_cons hl36
      clear hl36
      obtain ⟨x37, l37, rfl, hl38⟩ := lst_cons hl37
      clear hl37
      obtain ⟨x38, l38, rfl, hl39⟩ := lst_cons hl38
      clear hl38
      obtain ⟨x39, l39, rfl, hl40⟩ := lst_cons hl39
      clear hl39
      obtain ⟨x40, l40, rfl, hl41⟩ := lst_cons hl40
      clear hl40
      obtain ⟨x41, l41, rfl, hl42⟩ := lst_cons hl41
      clear hl41
      obtain rfl := List.eq_nil_of_length_eq_zero hl42
      have e0 := hf.st.kept 0 (by kernel_rfl)
      simp only [slotsOf, Act.eval, Array.getD_eq_getD_getElem?, List.getElem?_toArray, List.getElem?_cons_zero, Option.getD_some] at e0
      subst e0
      have e1 := hf.st.kept 1 (by kernel_rfl)
      simp only [slotsOf, Act.eval, Array.getD_eq_getD_getElem?, List.getElem?_toArray, List.getElem?_cons_succ, List.getElem?_cons_zero, Option.getD_some] at e1
      subst e1
      have e2 := hf.st.kept 2 (by kernel_rfl)
      simp only [slotsOf, Act.eval, Array.getD_eq_getD_getElem?, List.getElem?_toArray, List.getElem?_cons_succ, List.getElem?_cons_zero, Option.getD_some] at e2
      subst e2
      have e3 := hf.st.kept 3 (by kernel_rfl)
      simp only [slotsOf, Act.eval, Array.getD_eq_getD_getElem?, List.getElem?_toArray, List.getElem?_cons_succ, List.getElem?_cons_zero, Option.getD_some] at e3
      subst e3
      have e4 := hf.st.kept 4 (by kernel_rfl)
      simp only [slotsOf, Act.eval, Array.getD_eq_getD_getElem?, List.getElem?_toArray, List.getElem?_cons_succ, List.getElem?_cons_zero, Option.getD_some] at e4
      subst e4
      have e5 := hf.st.kept 5 (by kernel_rfl)
      simp only [slotsOf, Act.eval, Array.getD_eq_getD_getElem?, List.getElem?_toArray, List.getElem?_cons_succ, List.getElem?_cons_zero, Option.getD_some] at e5
      subst e5
      have e6 := hf.st.kept 6 (by kernel_rfl)
      simp only [slotsOf, Act.eval, Array.getD_eq_getD_getElem?, List.getElem?_toArray, List.getElem?_cons_succ, List.getElem?_cons_zero, Option.getD_some] at e6
      subst e6
      have e7 := hf.st.kept 7 (by kernel_rfl)
      simp only [slotsOf, Act.eval, Array.getD_eq_getD_getElem?, List.getElem?_toArray, List.getElem?_cons_succ, List.getElem?_cons_zero, Option.getD_some] at e7
      subst e7
      have e8 := hf.st.kept 8 (by kernel_rfl)
      simp only [slotsOf, Act.eval, Array.getD_eq_getD_getElem?, List.getElem?_toArray, List.getElem?_cons_succ, List.getElem?_cons_zero, Option.getD_some] at e8
      subst e8
      have e9 := hf.st.kept 9 (by kernel_rfl)
      simp only [slotsOf, Act.eval, Array.getD_eq_getD_getElem?, List.getElem?_toArray, List.getElem?_cons_succ, List.getElem?_cons_zero, Option.getD_some] at e9
      subst e9
      have e10 := hf.st.kept 10 (by kernel_rfl)
      simp only [slotsOf, Act.eval, Array.getD_eq_getD_getElem?, List.getElem?_toArray, List.getElem?_cons_succ, List.getElem?_cons_zero, Option.getD_some] at e10
      subst e10
      have e11 := hf.st.kept 11 (by kernel_rfl)
      simp only [slotsOf, Act.eval, Array.getD_eq_getD_getElem?, List.getElem?_toArray, List.getElem?_cons_succ, List.getElem?_cons_zero, Option.getD_some] at e11
      subst e11
      have e12 := hf.st.kept 12 (by kernel_rfl)
      simp only [slotsOf, Act.eval, Array.getD_eq_getD_getElem?, List.getElem?_toArray, List.getElem?_cons_succ, List.getElem?_cons_zero, Option.getD_some] at e12
      subst e12
      have e13 := hf.st.kept 13 (by kernel_rfl)
      simp only [slotsOf, Act.eval, Array.getD_eq_getD_getElem?, List.getElem?_toArray, List.getElem?_cons_succ, List.getElem?_cons_zero, Option.getD_some] at e13
      subst e13
      have e14 := hf.st.kept 14 (by kernel_rfl)
      simp only [slotsOf, Act.eval, Array.getD_eq_getD_getElem?, List.getElem?_toArray, List.getElem?_cons_succ, List.getElem?_cons_zero, Option.getD_some] at e14
      subst e14
      have e15 := hf.st.kept 15 (by kernel_rfl)
      simp only [slotsOf, Act.eval, Array.getD_eq_getD_getElem?, List.getElem?_toArray, List.getElem?_cons_succ, List.getElem?_cons_zero, Option.getD_some] at e15
      subst e15
      have e16 := hf.st.kept 16 (by kernel_rfl)
      simp only [slotsOf, Act.eval, Array.getD_eq_getD_getElem?, List.getElem?_toArray, List.getElem?_cons_succ, List.getElem?_cons_zero, Option.getD_some] at e16
      subst e16
      have e41 : x41 = .bool false := hf.at 24 (fun val _ _ => val 41 = .bool false) rfl (by kernel_rfl)
      subst e41
      have B1 := Sec.mk (hf.st.foot.below (belD hb.out) (fun k h => h.elim))
      clear hf
      go_wp2
      go_roundw
      case rel => exact ⟨k + 1, by omega, by go_num, B1⟩
      case measure => simp [intOf]; omega
    · go_wp2
      go_ret
      exact ⟨rfl, hb.out⟩
theorem caBinds0_c (v u : Value) (ok ok' : Nat → Prop) (w : World) (hV : kBind.V w ok v []) (hU : kBind.V w ok' u []) :
    Calls Tryd.prog 31 #[v, u] w fun e w' => e = .returned (.bool true) ∧ Below w.heap.size w w' := by
  obtain ⟨A, c, rfl, -⟩ := hV
  obtain ⟨D, d, rfl, -⟩ := hU
  simp only [List.length_nil]
  go_enter Tryd.func31, Tryd.ntmps31
  go_wp2
  go_loopw [5] (fun iv wr => iv = .int .i64 0 ∧ Sec (w = wr)) (fun iv _ => 0)
  case atStart => exact ⟨rfl, ⟨rfl⟩⟩
  case round =>
    obtain ⟨rfl, hw⟩ := hrel
    have hw' := hw.out
    subst hw'
    go_wp2
    go_ret
    exact ⟨rfl, Below.refl _ _⟩
set_option maxHeartbeats 2000000 in
theorem caSolve_c (s : SState) (hbn : s.binds = []) (hch : s.choices = []) (cs ds : List Value) (ok ok' : Nat → Prop) (w : World) (hK : kSState.K w ok s cs) (hD : kSState.K w ok' s ds) :
    Calls Tryd.prog 10 #[.agg cs.toArray, .agg ds.toArray] w fun e w' => e = .returned (.bool true) ∧ Below w.heap.size w w' := by
  obtain ⟨v1, v2, v4, v5, v6, rfl, h1, h2, h4, h5, h6⟩ := kSState_K hK
  obtain ⟨u1, u2, u4, u5, u6, rfl, g1, g2, g4, g5, g6⟩ := kSState_K hD
  rw [hbn] at h2 g2
  rw [hch] at h4 g4
  have H1 := Sec.mk h1
  have G1 := Sec.mk g1
  have H2 := Sec.mk h2
  have G2 := Sec.mk g2
  have H5 := Sec.mk h5
  have G5 := Sec.mk g5
  have H6 := Sec.mk h6
  have G6 := Sec.mk g6
  obtain ⟨E1, m1, rfl, -⟩ := h1
  obtain ⟨E2, m2, rfl, -⟩ := h2
  obtain ⟨E4, m4, rfl, -⟩ := h4
  obtain ⟨E5, m5, rfl, -⟩ := h5
  obtain ⟨E6, m6, rfl, -⟩ := h6
  obtain ⟨D1, n1, rfl, -⟩ := g1
  obtain ⟨D2, n2, rfl, -⟩ := g2
  obtain ⟨D4, n4, rfl, -⟩ := g4
  obtain ⟨D5, n5, rfl, -⟩ := g5
  obtain ⟨D6, n6, rfl, -⟩ := g6
  simp only [List.length_nil] at H2 G2 ⊢
  clear hK hD hbn hch
  have B0 := Sec.mk (belA (belA (Below.refl w.heap.size w) (.cells #[.int .i64 s.status, .slice E1 s.goals.length m1, .slice E2 0 m2, .int .i64 s.vars, .slice E4 0 m4, .slice E5 s.top.length m5, .slice E6 s.out.length m6] 35)) (.cells #[.int .i64 s.status, .slice D1 s.goals.length n1, .slice D2 0 n2, .int .i64 s.vars, .slice D4 0 n4, .slice D5 s.top.length n5, .slice D6 s.out.length n6] 35))
  have P0 := Sec.mk (box2 w (.cells #[.int .i64 s.status, .slice E1 s.goals.length m1, .slice E2 0 m2, .int .i64 s.vars, .slice E4 0 m4, .slice E5 s.top.length m5, .slice E6 s.out.length m6] 35) (.cells #[.int .i64 s.status, .slice D1 s.goals.length n1, .slice D2 0 n2, .int .i64 s.vars, .slice D4 0 n4, .slice D5 s.top.length n5, .slice D6 s.out.length n6] 35)).1
  have Q0 := Sec.mk (box2 w (.cells #[.int .i64 s.status, .slice E1 s.goals.length m1, .slice E2 0 m2, .int .i64 s.vars, .slice E4 0 m4, .slice E5 s.top.length m5, .slice E6 s.out.length m6] 35) (.cells #[.int .i64 s.status, .slice D1 s.goals.length n1, .slice D2 0 n2, .int .i64 s.vars, .slice D4 0 n4, .slice D5 s.top.length n5, .slice D6 s.out.length n6] 35)).2
  have X := (box_at P0.out).2.1
  have p0_0 := X 0 _ rfl
  have p0_1 := X 1 _ rfl
  have p0_2 := X 2 _ rfl
  have p0_3 := X 3 _ rfl
  have p0_4 := X 4 _ rfl
  have p0_5 := X 5 _ rfl
  have p0_6 := X 6 _ rfl
  clear X
  have X := (box_at Q0.out).2.1
  have q0_0 := X 0 _ rfl
  have q0_1 := X 1 _ rfl
  have q0_2 := X 2 _ rfl
  have q0_3 := X 3 _ rfl
  have q0_4 := X 4 _ rfl
  have q0_5 := X 5 _ rfl
  have q0_6 := X 6 _ rfl
  clear X
  have T0 : Sec True := ⟨trivial⟩
  go_enter Tryd.func10, Tryd.ntmps10
  go_wp2_with (first | (clear T3; go_at_call 32; have T4 : Sec True := ⟨trivial⟩; refine (caTerm_c _ _ s.out s.out ok ok' _ (Kd.V_below H6.out B3.out (by decide)) (Kd.V_below G6.out B3.out (by decide))).mono ?_; rw [same_]; rintro e w4 ⟨rfl, hb⟩; have B4 := Sec.mk (bel B3.out hb); have P4 := Sec.mk ((hb.block _ (Array.getElem?_eq_some_iff.1 P3.out).1).trans P3.out); have X := (box_at P4.out).2.1; have p4_0 := X 0 _ rfl; have p4_1 := X 1 _ rfl; have p4_2 := X 2 _ rfl; have p4_3 := X 3 _ rfl; have p4_4 := X 4 _ rfl; have p4_5 := X 5 _ rfl; have p4_6 := X 6 _ rfl; clear X; have Q4 := Sec.mk ((hb.block _ (Array.getElem?_eq_some_iff.1 Q3.out).1).trans Q3.out); have X := (box_at Q4.out).2.1; have q4_0 := X 0 _ rfl; have q4_1 := X 1 _ rfl; have q4_2 := X 2 _ rfl; have q4_3 := X 3 _ rfl; have q4_4 := X 4 _ rfl; have q4_5 := X 5 _ rfl; have q4_6 := X 6 _ rfl; clear X; clear hb p3_0 q3_0 p3_1 q3_1 p3_2 q3_2 p3_3 q3_3 p3_4 q3_4 p3_5 q3_5 p3_6 q3_6) | (clear T2; go_at_call 32; have T3 : Sec True := ⟨trivial⟩; refine (caTerm_c _ _ s.top s.top ok ok' _ (Kd.V_below H5.out B2.out (by decide)) (Kd.V_below G5.out B2.out (by decide))).mono ?_; rw [same_]; rintro e w3 ⟨rfl, hb⟩; have B3 := Sec.mk (bel B2.out hb); have P3 := Sec.mk ((hb.block _ (Array.getElem?_eq_some_iff.1 P2.out).1).trans P2.out); have X := (box_at P3.out).2.1; have p3_0 := X 0 _ rfl; have p3_1 := X 1 _ rfl; have p3_2 := X 2 _ rfl; have p3_3 := X 3 _ rfl; have p3_4 := X 4 _ rfl; have p3_5 := X 5 _ rfl; have p3_6 := X 6 _ rfl; clear X; have Q3 := Sec.mk ((hb.block _ (Array.getElem?_eq_some_iff.1 Q2.out).1).trans Q2.out); have X := (box_at Q3.out).2.1; have q3_0 := X 0 _ rfl; have q3_1 := X 1 _ rfl; have q3_2 := X 2 _ rfl; have q3_3 := X 3 _ rfl; have q3_4 := X 4 _ rfl; have q3_5 := X 5 _ rfl; have q3_6 := X 6 _ rfl; clear X; clear hb p2_0 q2_0 p2_1 q2_1 p2_2 q2_2 p2_3 q2_3 p2_4 q2_4 p2_5 q2_5 p2_6 q2_6) | (clear T1; go_at_call 31; have T2 : Sec True := ⟨trivial⟩; refine (caBinds0_c _ _ ok ok' _ (Kd.V_below H2.out B1.out (by decide)) (Kd.V_below G2.out B1.out (by decide))).mono ?_; rintro e w2 ⟨rfl, hb⟩; have B2 := Sec.mk (bel B1.out hb); have P2 := Sec.mk ((hb.block _ (Array.getElem?_eq_some_iff.1 P1.out).1).trans P1.out); have X := (box_at P2.out).2.1; have p2_0 := X 0 _ rfl; have p2_1 := X 1 _ rfl; have p2_2 := X 2 _ rfl; have p2_3 := X 3 _ rfl; have p2_4 := X 4 _ rfl; have p2_5 := X 5 _ rfl; have p2_6 := X 6 _ rfl; clear X; have Q2 := Sec.mk ((hb.block _ (Array.getElem?_eq_some_iff.1 Q1.out).1).trans Q1.out); have X := (box_at Q2.out).2.1; have q2_0 := X 0 _ rfl; have q2_1 := X 1 _ rfl; have q2_2 := X 2 _ rfl; have q2_3 := X 3 _ rfl; have q2_4 := X 4 _ rfl; have q2_5 := X 5 _ rfl; have q2_6 := X 6 _ rfl; clear X; clear hb p1_0 q1_0 p1_1 q1_1 p1_2 q1_2 p1_3 q1_3 p1_4 q1_4 p1_5 q1_5 p1_6 q1_6) | (clear T0; go_at_call 30; have T1 : Sec True := ⟨trivial⟩; refine (caGoals_c _ _ s.goals ok ok' _ (Kd.V_below H1.out B0.out (by decide)) (Kd.V_below G1.out B0.out (by decide))).mono ?_; rintro e w1 ⟨rfl, hb⟩; have B1 := Sec.mk (bel B0.out hb); have P1 := Sec.mk ((hb.block _ (Array.getElem?_eq_some_iff.1 P0.out).1).trans P0.out); have X := (box_at P1.out).2.1; have p1_0 := X 0 _ rfl; have p1_1 := X 1 _ rfl; have p1_2 := X 2 _ rfl; have p1_3 := X 3 _ rfl; have p1_4 := X 4 _ rfl; have p1_5 := X 5 _ rfl; have p1_6 := X 6 _ rfl; clear X; have Q1 := Sec.mk ((hb.block _ (Array.getElem?_eq_some_iff.1 Q0.out).1).trans Q0.out); have X := (box_at Q1.out).2.1; have q1_0 := X 0 _ rfl; have q1_1 := X 1 _ rfl; have q1_2 := X 2 _ rfl; have q1_3 := X 3 _ rfl; have q1_4 := X 4 _ rfl; have q1_5 := X 5 _ rfl; have q1_6 := X 6 _ rfl; clear X; clear hb p0_0 q0_0 p0_1 q0_1 p0_2 q0_2 p0_3 q0_3 p0_4 q0_4 p0_5 q0_5 p0_6 q0_6))
  go_loopw [5] (fun iv wr => iv = .int .i64 0 ∧ Sec (w4 = wr)) (fun iv _ => 0)
  case atStart => exact ⟨rfl, ⟨rfl⟩⟩
  case round =>
    obtain ⟨rfl, hw⟩ := hrel
    have hw' := hw.out
    subst hw'
    go_wp2
    go_ret
    exact ⟨rfl, B4.out⟩
set_option maxHeartbeats 2000000 in
theorem caTrail_c (s : TState) (hbn : s.binds = []) (hch : s.choices = []) (cs ds : List Value) (ok ok' : Nat → Prop) (w : World) (hK : kTState.K w ok s cs) (hD : kTState.K w ok' s ds) :
    Calls Tryd.prog 8 #[.agg cs.toArray, .agg ds.toArray] w fun e w' => e = .returned (.bool true) ∧ Below w.heap.size w w' := by
  obtain ⟨v1, v2, v4, v5, v6, rfl, h1, h2, h4, h5, h6⟩ := kTState_K hK
  obtain ⟨u1, u2, u4, u5, u6, rfl, g1, g2, g4, g5, g6⟩ := kTState_K hD
  rw [hbn] at h2 g2
  rw [hch] at h4 g4
  have H1 := Sec.mk h1
  have G1 := Sec.mk g1
  have H2 := Sec.mk h2
  have G2 := Sec.mk g2
  have H5 := Sec.mk h5
  have G5 := Sec.mk g5
  have H6 := Sec.mk h6
  have G6 := Sec.mk g6
  obtain ⟨E1, m1, rfl, -⟩ := h1
  obtain ⟨E2, m2, rfl, -⟩ := h2
  obtain ⟨E4, m4, rfl, -⟩ := h4
  obtain ⟨E5, m5, rfl, -⟩ := h5
  obtain ⟨E6, m6, rfl, -⟩ := h6
  obtain ⟨D1, n1, rfl, -⟩ := g1
  obtain ⟨D2, n2, rfl, -⟩ := g2
  obtain ⟨D4, n4, rfl, -⟩ := g4
  obtain ⟨D5, n5, rfl, -⟩ := g5
  obtain ⟨D6, n6, rfl, -⟩ := g6
  simp only [List.length_nil] at H2 G2 ⊢
  clear hK hD hbn hch
  have B0 := Sec.mk (belA (belA (Below.refl w.heap.size w) (.cells #[.int .i64 s.status, .slice E1 s.goals.length m1, .slice E2 0 m2, .int .i64 s.vars, .slice E4 0 m4, .slice E5 s.top.length m5, .slice E6 s.out.length m6] 29)) (.cells #[.int .i64 s.status, .slice D1 s.goals.length n1, .slice D2 0 n2, .int .i64 s.vars, .slice D4 0 n4, .slice D5 s.top.length n5, .slice D6 s.out.length n6] 29))
  have P0 := Sec.mk (box2 w (.cells #[.int .i64 s.status, .slice E1 s.goals.length m1, .slice E2 0 m2, .int .i64 s.vars, .slice E4 0 m4, .slice E5 s.top.length m5, .slice E6 s.out.length m6] 29) (.cells #[.int .i64 s.status, .slice D1 s.goals.length n1, .slice D2 0 n2, .int .i64 s.vars, .slice D4 0 n4, .slice D5 s.top.length n5, .slice D6 s.out.length n6] 29)).1
  have Q0 := Sec.mk (box2 w (.cells #[.int .i64 s.status, .slice E1 s.goals.length m1, .slice E2 0 m2, .int .i64 s.vars, .slice E4 0 m4, .slice E5 s.top.length m5, .slice E6 s.out.length m6] 29) (.cells #[.int .i64 s.status, .slice D1 s.goals.length n1, .slice D2 0 n2, .int .i64 s.vars, .slice D4 0 n4, .slice D5 s.top.length n5, .slice D6 s.out.length n6] 29)).2
  have X := (box_at P0.out).2.1
  have p0_0 := X 0 _ rfl
  have p0_1 := X 1 _ rfl
  have p0_2 := X 2 _ rfl
  have p0_3 := X 3 _ rfl
  have p0_4 := X 4 _ rfl
  have p0_5 := X 5 _ rfl
  have p0_6 := X 6 _ rfl
  clear X
  have X := (box_at Q0.out).2.1
  have q0_0 := X 0 _ rfl
  have q0_1 := X 1 _ rfl
  have q0_2 := X 2 _ rfl
  have q0_3 := X 3 _ rfl
  have q0_4 := X 4 _ rfl
  have q0_5 := X 5 _ rfl
  have q0_6 := X 6 _ rfl
  clear X
  have T0 : Sec True := ⟨trivial⟩
  go_enter Tryd.func8, Tryd.ntmps8
  go_wp2_with (first | (clear T3; go_at_call 32; have T4 : Sec True := ⟨trivial⟩; refine (caTerm_c _ _ s.out s.out ok ok' _ (Kd.V_below H6.out B3.out (by decide)) (Kd.V_below G6.out B3.out (by decide))).mono ?_; rw [same_]; rintro e w4 ⟨rfl, hb⟩; have B4 := Sec.mk (bel B3.out hb); have P4 := Sec.mk ((hb.block _ (Array.getElem?_eq_some_iff.1 P3.out).1).trans P3.out); have X := (box_at P4.out).2.1; have p4_0 := X 0 _ rfl; have p4_1 := X 1 _ rfl; have p4_2 := X 2 _ rfl; have p4_3 := X 3 _ rfl; have p4_4 := X 4 _ rfl; have p4_5 := X 5 _ rfl; have p4_6 := X 6 _ rfl; clear X; have Q4 := Sec.mk ((hb.block _ (Array.getElem?_eq_some_iff.1 Q3.out).1).trans Q3.out); have X := (box_at Q4.out).2.1; have q4_0 := X 0 _ rfl; have q4_1 := X 1 _ rfl; have q4_2 := X 2 _ rfl; have q4_3 := X 3 _ rfl; have q4_4 := X 4 _ rfl; have q4_5 := X 5 _ rfl; have q4_6 := X 6 _ rfl; clear X; clear hb p3_0 q3_0 p3_1 q3_1 p3_2 q3_2 p3_3 q3_3 p3_4 q3_4 p3_5 q3_5 p3_6 q3_6) | (clear T2; go_at_call 32; have T3 : Sec True := ⟨trivial⟩; refine (caTerm_c _ _ s.top s.top ok ok' _ (Kd.V_below H5.out B2.out (by decide)) (Kd.V_below G5.out B2.out (by decide))).mono ?_; rw [same_]; rintro e w3 ⟨rfl, hb⟩; have B3 := Sec.mk (bel B2.out hb); have P3 := Sec.mk ((hb.block _ (Array.getElem?_eq_some_iff.1 P2.out).1).trans P2.out); have X := (box_at P3.out).2.1; have p3_0 := X 0 _ rfl; have p3_1 := X 1 _ rfl; have p3_2 := X 2 _ rfl; have p3_3 := X 3 _ rfl; have p3_4 := X 4 _ rfl; have p3_5 := X 5 _ rfl; have p3_6 := X 6 _ rfl; clear X; have Q3 := Sec.mk ((hb.block _ (Array.getElem?_eq_some_iff.1 Q2.out).1).trans Q2.out); have X := (box_at Q3.out).2.1; have q3_0 := X 0 _ rfl; have q3_1 := X 1 _ rfl; have q3_2 := X 2 _ rfl; have q3_3 := X 3 _ rfl; have q3_4 := X 4 _ rfl; have q3_5 := X 5 _ rfl; have q3_6 := X 6 _ rfl; clear X; clear hb p2_0 q2_0 p2_1 q2_1 p2_2 q2_2 p2_3 q2_3 p2_4 q2_4 p2_5 q2_5 p2_6 q2_6) | (clear T1; go_at_call 31; have T2 : Sec True := ⟨trivial⟩; refine (caBinds0_c _ _ ok ok' _ (Kd.V_below H2.out B1.out (by decide)) (Kd.V_below G2.out B1.out (by decide))).mono ?_; rintro e w2 ⟨rfl, hb⟩; have B2 := Sec.mk (bel B1.out hb); have P2 := Sec.mk ((hb.block _ (Array.getElem?_eq_some_iff.1 P1.out).1).trans P1.out); have X := (box_at P2.out).2.1; have p2_0 := X 0 _ rfl; have p2_1 := X 1 _ rfl; have p2_2 := X 2 _ rfl; have p2_3 := X 3 _ rfl; have p2_4 := X 4 _ rfl; have p2_5 := X 5 _ rfl; have p2_6 := X 6 _ rfl; clear X; have Q2 := Sec.mk ((hb.block _ (Array.getElem?_eq_some_iff.1 Q1.out).1).trans Q1.out); have X := (box_at Q2.out).2.1; have q2_0 := X 0 _ rfl; have q2_1 := X 1 _ rfl; have q2_2 := X 2 _ rfl; have q2_3 := X 3 _ rfl; have q2_4 := X 4 _ rfl; have q2_5 := X 5 _ rfl; have q2_6 := X 6 _ rfl; clear X; clear hb p1_0 q1_0 p1_1 q1_1 p1_2 q1_2 p1_3 q1_3 p1_4 q1_4 p1_5 q1_5 p1_6 q1_6) | (clear T0; go_at_call 30; have T1 : Sec True := ⟨trivial⟩; refine (caGoals_c _ _ s.goals ok ok' _ (Kd.V_below H1.out B0.out (by decide)) (Kd.V_below G1.out B0.out (by decide))).mono ?_; rintro e w1 ⟨rfl, hb⟩; have B1 := Sec.mk (bel B0.out hb); have P1 := Sec.mk ((hb.block _ (Array.getElem?_eq_some_iff.1 P0.out).1).trans P0.out); have X := (box_at P1.out).2.1; have p1_0 := X 0 _ rfl; have p1_1 := X 1 _ rfl; have p1_2 := X 2 _ rfl; have p1_3 := X 3 _ rfl; have p1_4 := X 4 _ rfl; have p1_5 := X 5 _ rfl; have p1_6 := X 6 _ rfl; clear X; have Q1 := Sec.mk ((hb.block _ (Array.getElem?_eq_some_iff.1 Q0.out).1).trans Q0.out); have X := (box_at Q1.out).2.1; have q1_0 := X 0 _ rfl; have q1_1 := X 1 _ rfl; have q1_2 := X 2 _ rfl; have q1_3 := X 3 _ rfl; have q1_4 := X 4 _ rfl; have q1_5 := X 5 _ rfl; have q1_6 := X 6 _ rfl; clear X; clear hb p0_0 q0_0 p0_1 q0_1 p0_2 q0_2 p0_3 q0_3 p0_4 q0_4 p0_5 q0_5 p0_6 q0_6))
  go_loopw [5] (fun iv wr => iv = .int .i64 0 ∧ Sec (w4 = wr)) (fun iv _ => 0)
  case atStart => exact ⟨rfl, ⟨rfl⟩⟩
  case round =>
    obtain ⟨rfl, hw⟩ := hrel
    have hw' := hw.out
    subst hw'
    go_wp2
    go_ret
    exact ⟨rfl, B4.out⟩
end Go.Proofs.YtenigopoknajgaaDoor
