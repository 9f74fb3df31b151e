/- Worlds at their beginning compared, and found ok; the draw of a program and a question; and what goes with it. -/
import Derived.Test.YtendgddidgbejaaGreatDoorWn1
import Derived.Test.YtendgddidgbejaaGreatDoorWn2
import Derived.Test.YtendgddidgbejaaGreatDoorWn5
import Derived.Test.YtendgddidgbejaaGreatDoorWn6
import Derived.Test.YtendgddidgbejaaGreatDoorWn8
import Derived.Test.YtendgddidgbejaaGreatDoorWn9
import Derived.Test.YtendgddidgbejaaGreatDoorWn17
namespace Go.Proofs.YtendgddidgbejaaGreatDoor
section
open Go.RowKit
set_option linter.unusedVariables false
set_option maxRecDepth 100000
theorem NodNewV_i (w : World) : Calls Tryz.prog 13 #[] w fun e w' => e = .returned (.agg #[.bool true, .slice none 0 0]) ∧ Below w.heap.size w w' :=
  (NodNewK_i w).mono (by rintro e w' ⟨c, rfl, hc, hb⟩; obtain rfl : c = [.bool true, .slice none 0 0] := hc; exact ⟨rfl, hb⟩)
theorem caNode0_c (w : World) : Calls Tryz.prog 12 #[.agg #[.bool true, .slice none 0 0], .agg #[.bool true, .slice none 0 0]] w fun e w' => e = .returned (.bool true) ∧ Below w.heap.size w w' := by
  have hu := Tryz.underlying48
  have B0 := Sec.mk (belA (belA (Below.refl w.heap.size w) (.cells #[.bool true, .slice none 0 0] 48)) (.cells #[.bool true, .slice none 0 0] 48))
  have P0 := (box2 w (.cells #[.bool true, .slice none 0 0] 48) (.cells #[.bool true, .slice none 0 0] 48)).1
  have Q0 := (box2 w (.cells #[.bool true, .slice none 0 0] 48) (.cells #[.bool true, .slice none 0 0] 48)).2
  have X := (box_at P0).2.1
  have p0 := X 0 _ rfl
  have p1 := X 1 _ rfl
  clear X
  have X := (box_at Q0).2.1
  have q0 := X 0 _ rfl
  have q1 := X 1 _ rfl
  clear X P0 Q0
  go_enter Tryz.func12, Tryz.ntmps12
  go_wp2
  go_loop [5] (fun i => i = .int .i64 0) (fun _ => 0)
  case atStart => rfl
  case round =>
    subst hrel
    go_wp2
    go_ret
    exact ⟨rfl, B0.out⟩
theorem caOuts0_c (w : World) : Calls Tryz.prog 35 #[.slice none 0 0, .slice none 0 0] w fun e w' => e = .returned (.bool true) ∧ w = w' := by
  go_enter Tryz.func35, Tryz.ntmps35
  go_wp2
  go_loop [5] (fun i => i = .int .i64 0) (fun _ => 0)
  case atStart => rfl
  case round =>
    subst hrel
    go_wp2
    go_ret
    exact ⟨rfl, rfl⟩
theorem outsOk0_i (v : Value) (w : World) : Calls Tryz.prog 45 #[v, .slice none 0 0] w fun e w' => e = .returned (.bool true) ∧ w = w' := by
  go_enter Tryz.func45, Tryz.ntmps45
  go_wp2
  go_loop [9] (fun i => i = .int .i64 0) (fun _ => 0)
  case atStart => rfl
  case round =>
    subst hrel
    go_wp2
    go_ret
    exact ⟨rfl, rfl⟩
theorem indexNil_c (f : Value) (w : World) : Calls Tryz.prog 111 #[.slice none 0 0, f] w fun e w' => e = .returned (.int .i64 (-1)) ∧ w = w' := by
  go_enter Tryz.func111, Tryz.ntmps111
  go_wp2
  go_loop [8] (fun i => i = .int .i64 0) (fun _ => 0)
  case atStart => rfl
  case round =>
    subst hrel
    go_wp2
    go_ret
    exact ⟨rfl, rfl⟩
theorem containsNil_c (f : Value) (w : World) : Calls Tryz.prog 49 #[.slice none 0 0, f] w fun e w' => e = .returned (.bool false) ∧ w = w' := by
  go_enter Tryz.func49, Tryz.ntmps49
  go_wp2_with (go_at_call 111; refine (indexNil_c _ _).mono ?_; rintro e w' ⟨rfl, rfl⟩)
  go_ret
  exact ⟨rfl, rfl⟩
set_option maxHeartbeats 4000000 in
theorem caWorld0_c (x : W0) (cs ds : List Value) (ok ok' : Nat → Prop) (w : World) (hK : kW0.K w ok x cs) (hD : kW0.K w ok' x ds) :
    Calls Tryz.prog 7 #[.agg cs.toArray, .agg ds.toArray] w fun e w' => e = .returned (.bool true) ∧ Below w.heap.size w w' := by
  obtain ⟨v0, v1, v2, v3, rfl, hp, hn, ht⟩ := kW0_K hK
  obtain ⟨E0, m0, E1, m1, hc, -, -⟩ := kp_V hp
  simp only [List.cons.injEq, and_true] at hc
  obtain ⟨rfl, rfl⟩ := hc
  have KP1 := Sec.mk hp
  have NV1 := Sec.mk hn
  have TV1 := Sec.mk ht
  obtain ⟨Ea, mx, rfl, -⟩ := hn
  obtain ⟨Eb, m2, rfl, -⟩ := ht
  clear hp
  obtain ⟨v0, v1, v2, v3, rfl, hp, hn, ht⟩ := kW0_K hD
  obtain ⟨D0, n0, D1, n1, hc, -, -⟩ := kp_V hp
  simp only [List.cons.injEq, and_true] at hc
  obtain ⟨rfl, rfl⟩ := hc
  have KP2 := Sec.mk hp
  have NV2 := Sec.mk hn
  have TV2 := Sec.mk ht
  obtain ⟨Da, nx, rfl, -⟩ := hn
  obtain ⟨Db, n2, rfl, -⟩ := ht
  clear hp
  have hu := Tryz.underlying34
  have hu2 := Tryz.underlying48
  have HC := Sec.mk (Kd.V_C NV1.out)
  have lx : x.nodes.length ≤ 1073741824 := by obtain ⟨_, _, _, _, _, h, _⟩ := NV1.out; exact h
  have HE := Sec.mk (Kd.V_C NV2.out)
  have B0 := Sec.mk (belA (belA (Below.refl w.heap.size w) (.cells #[.slice E0 x.prog.clauses.length m0, .slice E1 x.prog.places.length m1, .slice Ea x.nodes.length mx, .slice Eb x.top.length m2, .slice none 0 0, .slice none 0 0] 34)) (.cells #[.slice D0 x.prog.clauses.length n0, .slice D1 x.prog.places.length n1, .slice Da x.nodes.length nx, .slice Db x.top.length n2, .slice none 0 0, .slice none 0 0] 34))
  have P0 := Sec.mk (box2 w (.cells #[.slice E0 x.prog.clauses.length m0, .slice E1 x.prog.places.length m1, .slice Ea x.nodes.length mx, .slice Eb x.top.length m2, .slice none 0 0, .slice none 0 0] 34) (.cells #[.slice D0 x.prog.clauses.length n0, .slice D1 x.prog.places.length n1, .slice Da x.nodes.length nx, .slice Db x.top.length n2, .slice none 0 0, .slice none 0 0] 34)).1
  have Q0 := Sec.mk (box2 w (.cells #[.slice E0 x.prog.clauses.length m0, .slice E1 x.prog.places.length m1, .slice Ea x.nodes.length mx, .slice Eb x.top.length m2, .slice none 0 0, .slice none 0 0] 34) (.cells #[.slice D0 x.prog.clauses.length n0, .slice D1 x.prog.places.length n1, .slice Da x.nodes.length nx, .slice Db x.top.length n2, .slice none 0 0, .slice none 0 0] 34)).2
  have X := (box_at P0.out).2.1
  have p0 := X 0 _ rfl
  have p1 := X 1 _ rfl
  have p2 := X 2 _ rfl
  have p3 := X 3 _ rfl
  have p4 := X 4 _ rfl
  have p5 := X 5 _ rfl
  clear X
  have X := (box_at Q0.out).2.1
  have q0 := X 0 _ rfl
  have q1 := X 1 _ rfl
  have q2 := X 2 _ rfl
  have q3 := X 3 _ rfl
  have q4 := X 4 _ rfl
  have q5 := X 5 _ rfl
  clear X
  have T0 : Sec True := ⟨trivial⟩
  clear hK hD
  go_enter Tryz.func7, Tryz.ntmps7
  go_wp2_with (first | (clear T2; go_at_call 35; have T3 : Sec True := ⟨trivial⟩; refine (caOuts0_c _).mono ?_; rintro e w3 ⟨rfl, rfl⟩) | (clear T1; go_at_call 16; have T2 : Sec True := ⟨trivial⟩; refine (caTerm_c _ _ x.top x.top ok ok' _ (Kd.V_below TV1.out B1.out (by decide)) (Kd.V_below TV2.out B1.out (by decide))).mono ?_; rw [same_]; rintro e w2 ⟨rfl, hb⟩; have B2 := Sec.mk (bel B1.out hb); have P2 := Sec.mk ((hb.block _ (Array.getElem?_eq_some_iff.1 P1.out).1).trans P1.out); have Q2 := Sec.mk ((hb.block _ (Array.getElem?_eq_some_iff.1 Q1.out).1).trans Q1.out); have X := (box_at P2.out).2.1; have p0 := X 0 _ rfl; have p1 := X 1 _ rfl; have p2 := X 2 _ rfl; have p3 := X 3 _ rfl; have p4 := X 4 _ rfl; have p5 := X 5 _ rfl; clear X; have X := (box_at Q2.out).2.1; have q0 := X 0 _ rfl; have q1 := X 1 _ rfl; have q2 := X 2 _ rfl; have q3 := X 3 _ rfl; have q4 := X 4 _ rfl; have q5 := X 5 _ rfl; clear X; clear hb) | (clear T0; go_at_call 15; have T1 : Sec True := ⟨trivial⟩; refine (caProg_c x.prog [.slice E0 x.prog.clauses.length m0, .slice E1 x.prog.places.length m1] [.slice D0 x.prog.clauses.length n0, .slice D1 x.prog.places.length n1] ok ok' _ (Kd.K_below KP1.out B0.out) (Kd.K_below KP2.out B0.out)).mono ?_; rintro e w1 ⟨rfl, hb⟩; have B1 := Sec.mk (bel B0.out hb); have P1 := Sec.mk ((hb.block _ (Array.getElem?_eq_some_iff.1 P0.out).1).trans P0.out); have Q1 := Sec.mk ((hb.block _ (Array.getElem?_eq_some_iff.1 Q0.out).1).trans Q0.out); have X := (box_at P1.out).2.1; have p0 := X 0 _ rfl; have p1 := X 1 _ rfl; have p2 := X 2 _ rfl; have p3 := X 3 _ rfl; have p4 := X 4 _ rfl; have p5 := X 5 _ rfl; clear X; have X := (box_at Q1.out).2.1; have q0 := X 0 _ rfl; have q1 := X 1 _ rfl; have q2 := X 2 _ rfl; have q3 := X 3 _ rfl; have q4 := X 4 _ rfl; have q5 := X 5 _ rfl; clear X; clear hb))
  go_loopw [5] (fun iv wr => ∃ k : Nat, k ≤ x.nodes.length ∧ iv = .int .i64 k ∧ Sec (Below w.heap.size w wr) ∧ Sec (wr.heap[w.heap.size]? = some (.cells #[.slice E0 x.prog.clauses.length m0, .slice E1 x.prog.places.length m1, .slice Ea x.nodes.length mx, .slice Eb x.top.length m2, .slice none 0 0, .slice none 0 0] 34 (0, 0))) ∧ Sec (wr.heap[w.heap.size + 1]? = some (.cells #[.slice D0 x.prog.clauses.length n0, .slice D1 x.prog.places.length n1, .slice Da x.nodes.length nx, .slice Db x.top.length n2, .slice none 0 0, .slice none 0 0] 34 (0, 0)))) (fun iv _ => x.nodes.length - (intOf iv).toNat)
  case atStart => exact ⟨0, Nat.zero_le _, rfl, B2, P2, Q2⟩
  case round =>
    obtain ⟨k, hk, rfl, hb, hP, hQ⟩ := hrel
    have X := (box_at hP.out).2.1
    have p0 := X 0 _ rfl
    have p1 := X 1 _ rfl
    have p2 := X 2 _ rfl
    have p3 := X 3 _ rfl
    have p4 := X 4 _ rfl
    have p5 := X 5 _ rfl
    clear X
    have X := (box_at hQ.out).2.1
    have q0 := X 0 _ rfl
    have q1 := X 1 _ rfl
    have q2 := X 2 _ rfl
    have q3 := X 3 _ rfl
    have q4 := X 4 _ rfl
    have q5 := X 5 _ rfl
    clear X
    by_cases hlt : k < x.nodes.length
    · obtain ⟨b, off, cs, rfl, hob, hK, hc⟩ := Kd.C_get (Kd.C_below HC.out hb.out (by decide)) (List.getElem?_eq_getElem hlt)
      obtain ⟨b2, off2, cs2, rfl, hob2, hK2, hc2⟩ := Kd.C_get (Kd.C_below HE.out hb.out (by decide)) (List.getElem?_eq_getElem hlt)
      obtain rfl : cs = [.bool true, .slice none 0 0] := hK
      obtain rfl : cs2 = [.bool true, .slice none 0 0] := hK2
      have A0 : Sec (wr.cell? ⟨b, off + k * 2, none⟩ = some (.bool true)) := ⟨hc 0 _ rfl⟩
      have A1 : Sec (wr.cell? ⟨b, off + k * 2 + 1, none⟩ = some (.slice none 0 0)) := ⟨hc 1 _ rfl⟩
      have Z0 : Sec (wr.cell? ⟨b2, off2 + k * 2, none⟩ = some (.bool true)) := ⟨hc2 0 _ rfl⟩
      have Z1 : Sec (wr.cell? ⟨b2, off2 + k * 2 + 1, none⟩ = some (.slice none 0 0)) := ⟨hc2 1 _ rfl⟩
      have AB := Sec.mk ((box_at hP.out).2.1 2 _ rfl)
      have ZB := Sec.mk ((box_at hQ.out).2.1 2 _ rfl)
      have i0 : (0 : Int) ≤ (k : Int) := by omega
      have i1 : (k : Int) < (x.nodes.length : Int) := by omega
      clear hc hc2
      go_wp2
      refine wp_region_lists [[54], [55], [56], [57], [58], [59], [60], [61], [62], [63], [64], [65]]
        [fun val _ _ => val 54 = .pointer (some ⟨w.heap.size, 2, none⟩),
          fun val _ _ => val 55 = .slice (some ⟨b, off, none⟩) x.nodes.length mx,
          fun val _ _ => val 56 = .int .i64 k,
          fun val _ _ => val 57 = .pointer (some ⟨b, off + k * 2, none⟩),
          fun val _ _ => val 58 = .agg #[.bool true, .slice none 0 0],
          fun val _ _ => val 59 = .pointer (some ⟨w.heap.size + 1, 2, none⟩),
          fun val _ _ => val 60 = .slice (some ⟨b2, off2, none⟩) x.nodes.length nx,
          fun val _ _ => val 61 = .int .i64 k,
          fun val _ _ => val 62 = .pointer (some ⟨b2, off2 + k * 2, none⟩),
          fun val _ _ => val 63 = .agg #[.bool true, .slice none 0 0],
          fun val _ _ => val 64 = .bool true,
          fun val _ _ => val 65 = .bool false]
        [[], [], [], [], [], [], [], [], [], [], [], []] 0 (fun _ => False) (fun _ _ => False) (by kernel_rfl) ⟨by kernel_rfl, by kernel_rfl, by kernel_rfl, by kernel_rfl, by kernel_rfl⟩
        (.cons (stab_val 54 (fun v => v = .pointer (some ⟨w.heap.size, 2, none⟩))) (.cons (stab_val 55 (fun v => v = .slice (some ⟨b, off, none⟩) x.nodes.length mx)) (.cons (stab_val 56 (fun v => v = .int .i64 k)) (.cons (stab_val 57 (fun v => v = .pointer (some ⟨b, off + k * 2, none⟩))) (.cons (stab_val 58 (fun v => v = .agg #[.bool true, .slice none 0 0])) (.cons (stab_val 59 (fun v => v = .pointer (some ⟨w.heap.size + 1, 2, none⟩))) (.cons (stab_val 60 (fun v => v = .slice (some ⟨b2, off2, none⟩) x.nodes.length nx)) (.cons (stab_val 61 (fun v => v = .int .i64 k)) (.cons (stab_val 62 (fun v => v = .pointer (some ⟨b2, off2 + k * 2, none⟩))) (.cons (stab_val 63 (fun v => v = .agg #[.bool true, .slice none 0 0])) (.cons (stab_val 64 (fun v => v = .bool true)) (.cons (stab_val 65 (fun v => v = .bool false)) .nil))))))))))))
        (fun i j k h1 h2 => h1.elim) (fun i k h => h.elim) (fun i h1 h2 => by simp at h1 h2; omega) (.cons ?_ (.cons ?_ (.cons ?_ (.cons ?_ (.cons ?_ (.cons ?_ (.cons ?_ (.cons ?_ (.cons ?_ (.cons ?_ (.cons ?_ (.cons ?_ .nil)))))))))))) ?_
      · intro a W own hfor huse hap hmi hF K hK
        have e2 : a.eval (.tmp 2) = .pointer (some ⟨w.heap.size, 0, none⟩) := hfor 2 (by kernel_rfl)
        refine op_val (.pointer (some ⟨w.heap.size, 2, none⟩)) W rfl ?_ (hK _ _ (post_pure ?_))
        · clear hfor huse hap hmi hK hF
          generalize a.eval = ρ at *
          go_simp
        · exact (if_pos rfl)
      · intro a W own hfor huse hap hmi hF K hK
        have e54 : a.eval (.tmp 54) = .pointer (some ⟨w.heap.size, 2, none⟩) := huse 0 (by kernel_rfl)
        have c0 := foot_cell hF (fun h => h) AB.out
        refine op_val (.slice (some ⟨b, off, none⟩) x.nodes.length mx) W rfl ?_ (hK _ _ (post_pure ?_))
        · clear hfor huse hap hmi hK hF
          generalize a.eval = ρ at *
          go_simp
        · exact (if_pos rfl)
      · intro a W own hfor huse hap hmi hF K hK
        have e5 : a.eval (.tmp 5) = .int .i64 k := hfor 5 (by kernel_rfl)
        refine op_val (.int .i64 k) W rfl ?_ (hK _ _ (post_pure ?_))
        · clear hfor huse hap hmi hK hF
          generalize a.eval = ρ at *
          go_simp
        · exact (if_pos rfl)
      · intro a W own hfor huse hap hmi hF K hK
        have e55 : a.eval (.tmp 55) = .slice (some ⟨b, off, none⟩) x.nodes.length mx := huse 1 (by kernel_rfl)
        have e56 : a.eval (.tmp 56) = .int .i64 k := huse 2 (by kernel_rfl)
        refine op_val (.pointer (some ⟨b, off + k * 2, none⟩)) W rfl ?_ (hK _ _ (post_pure ?_))
        · clear hfor huse hap hmi hK hF
          generalize a.eval = ρ at *
          go_simp
        · exact (if_pos rfl)
      · intro a W own hfor huse hap hmi hF K hK
        have e57 : a.eval (.tmp 57) = .pointer (some ⟨b, off + k * 2, none⟩) := huse 3 (by kernel_rfl)
        have c0 := foot_cell hF (fun h => h) A0.out
        have c1 := foot_cell hF (fun h => h) A1.out
        refine op_val (.agg #[.bool true, .slice none 0 0]) W rfl ?_ (hK _ _ (post_pure ?_))
        · clear hfor huse hap hmi hK hF
          generalize a.eval = ρ at *
          go_simp
        · exact (if_pos rfl)
      · intro a W own hfor huse hap hmi hF K hK
        have e3 : a.eval (.tmp 3) = .pointer (some ⟨w.heap.size + 1, 0, none⟩) := hfor 3 (by kernel_rfl)
        refine op_val (.pointer (some ⟨w.heap.size + 1, 2, none⟩)) W rfl ?_ (hK _ _ (post_pure ?_))
        · clear hfor huse hap hmi hK hF
          generalize a.eval = ρ at *
          go_simp
        · exact (if_pos rfl)
      · intro a W own hfor huse hap hmi hF K hK
        have e59 : a.eval (.tmp 59) = .pointer (some ⟨w.heap.size + 1, 2, none⟩) := huse 5 (by kernel_rfl)
        have c0 := foot_cell hF (fun h => h) ZB.out
        refine op_val (.slice (some ⟨b2, off2, none⟩) x.nodes.length nx) W rfl ?_ (hK _ _ (post_pure ?_))
        · clear hfor huse hap hmi hK hF
          generalize a.eval = ρ at *
          go_simp
        · exact (if_pos rfl)
      · intro a W own hfor huse hap hmi hF K hK
        have e5 : a.eval (.tmp 5) = .int .i64 k := hfor 5 (by kernel_rfl)
        refine op_val (.int .i64 k) W rfl ?_ (hK _ _ (post_pure ?_))
        · clear hfor huse hap hmi hK hF
          generalize a.eval = ρ at *
          go_simp
        · exact (if_pos rfl)
      · intro a W own hfor huse hap hmi hF K hK
        have e60 : a.eval (.tmp 60) = .slice (some ⟨b2, off2, none⟩) x.nodes.length nx := huse 6 (by kernel_rfl)
        have e61 : a.eval (.tmp 61) = .int .i64 k := huse 7 (by kernel_rfl)
        refine op_val (.pointer (some ⟨b2, off2 + k * 2, none⟩)) W rfl ?_ (hK _ _ (post_pure ?_))
        · clear hfor huse hap hmi hK hF
          generalize a.eval = ρ at *
          go_simp
        · exact (if_pos rfl)
      · intro a W own hfor huse hap hmi hF K hK
        have e62 : a.eval (.tmp 62) = .pointer (some ⟨b2, off2 + k * 2, none⟩) := huse 8 (by kernel_rfl)
        have c0 := foot_cell hF (fun h => h) Z0.out
        have c1 := foot_cell hF (fun h => h) Z1.out
        refine op_val (.agg #[.bool true, .slice none 0 0]) W rfl ?_ (hK _ _ (post_pure ?_))
        · clear hfor huse hap hmi hK hF
          generalize a.eval = ρ at *
          go_simp
        · exact (if_pos rfl)
      · intro a W own hfor huse hap hmi hF K hK
        have e58 : a.eval (.tmp 58) = .agg #[.bool true, .slice none 0 0] := huse 4 (by kernel_rfl)
        have e63 : a.eval (.tmp 63) = .agg #[.bool true, .slice none 0 0] := huse 9 (by kernel_rfl)
        have efn : a.eval (.func 12) = .func (.func 12) #[] #[] := rfl
        refine op_call (f := 12) (args := #[.agg #[.bool true, .slice none 0 0], .agg #[.bool true, .slice none 0 0]]) (fun v w1 => v = .bool true ∧ Below W.heap.size W w1) rfl ?_ ?_ (fun v w1 h => ?_)
        · clear hfor huse hap hmi hK hF
          generalize a.eval = ρ at *
          go_simp
        · exact (caNode0_c W).mono (by rintro e w1 ⟨rfl, h2⟩; exact ⟨_, rfl, rfl, h2⟩)
        · obtain ⟨rfl, h2⟩ := h
          exact hK _ _ (post_new h2 (if_pos rfl))
      · intro a W own hfor huse hap hmi hF K hK
        have e64 : a.eval (.tmp 64) = .bool true := huse 10 (by kernel_rfl)
        refine op_val (.bool false) W rfl ?_ (hK _ _ (post_pure ?_))
        · clear hfor huse hap hmi hK hF
          generalize a.eval = ρ at *
          go_simp
        · exact (if_pos rfl)
      intro a' W own hf
      have s1 := hf.st.size
      have s2 := hf.st.rest
      have s3 := fun t ht => hf.st.kept t ht
      revert hf
      revert a'
      refine lay_intro (df := []) [true, true, true, true, true, true, true, true, true, true, true, true, true, true, true, true, true, true, true, true, true, true, true, true, true, true, true, true, true, true, true, true, true, true, true, true, true, true, true, true, true, true, true, true, true, true, true, true, true, true, true, true, true, true, false, false, false, false, false, false, false, false, false, false, false, false, true, true, true, true, true, true, true, true, true, true, true, true, true, true, true, true, true, true, true, true, true, true, true, true, true, true, true, true, true, true, true, true, true, true, true, true, true, true, true, true, true, true, true, true, true, true, true, true, true, true, true] (by kernel_rfl) rfl ?_
      intro x65 x64 x63 x62 x61 x60 x59 x58 x57 x56 x55 x54 hf
      have e65 : x65 = .bool false := hf.at 11 (fun val _ _ => val 65 = .bool false) rfl (by kernel_rfl)
      subst e65
      have HF := Sec.mk hf.st.foot
      clear hf
      have B1 := Sec.mk (HF.out.below (belD hb.out) (fun k h => h.elim))
      have P1 := Sec.mk ((HF.out.block _ (Array.getElem?_eq_some_iff.1 hP.out).1 (fun h => h)).trans hP.out)
      have Q1 := Sec.mk ((HF.out.block _ (Array.getElem?_eq_some_iff.1 hQ.out).1 (fun h => h)).trans hQ.out)
      clear HF
      go_wp2
      go_roundw
      case rel => exact ⟨k + 1, by omega, by go_num, B1, P1, Q1⟩
      case measure => simp [intOf]; omega
    · obtain rfl : k = x.nodes.length := by omega
      have d1 : decide (((x.nodes.length : Nat) : Int) < (x.nodes.length : Int)) = false := decide_eq_false (by omega)
      go_wp2
      go_loopw [6] (fun iv wq => iv = .int .i64 0 ∧ wq = wr) (fun _ _ => 0)
      case atStart => exact ⟨rfl, rfl⟩
      case round =>
        obtain ⟨rfl, rfl⟩ := hrel
        go_wp2
        go_ret
        exact ⟨rfl, hb.out⟩
set_option maxHeartbeats 4000000 in
theorem WldOk0_i (x : W0) (cs : List Value) (ok : Nat → Prop) (w : World) (hK : kW0.K w ok x cs) (h1 : prgOk x.prog = true) (h2 : question x.top = true) (h3 : x.nodes.length = 3) :
    Calls Tryz.prog 14 #[.agg cs.toArray] w fun e w' => e = .returned (.bool true) ∧ Below w.heap.size w w' := by
  obtain ⟨v0, v1, v2, v3, rfl, hp, hn, ht⟩ := kW0_K hK
  obtain ⟨E0, m0, E1, m1, hc, -, -⟩ := kp_V hp
  simp only [List.cons.injEq, and_true] at hc
  obtain ⟨rfl, rfl⟩ := hc
  have KP1 := Sec.mk hp
  have NV1 := Sec.mk hn
  have TV1 := Sec.mk ht
  obtain ⟨Ea, mx, rfl, -⟩ := hn
  obtain ⟨Eb, m2, rfl, -⟩ := ht
  clear hp
  have hu := Tryz.underlying34
  have hu2 := Tryz.underlying48
  have HC := Sec.mk (Kd.V_C NV1.out)
  have lx : x.nodes.length ≤ 1073741824 := by obtain ⟨_, _, _, _, _, h, _⟩ := NV1.out; exact h
  have HQ := Sec.mk h1
  have HT := Sec.mk h2
  have H3 := Sec.mk h3
  have B0 := Sec.mk (belA (Below.refl w.heap.size w) (.cells #[.slice E0 x.prog.clauses.length m0, .slice E1 x.prog.places.length m1, .slice Ea x.nodes.length mx, .slice Eb x.top.length m2, .slice none 0 0, .slice none 0 0] 34))
  have P0 := Sec.mk (heap_alloc_new w (.cells #[.slice E0 x.prog.clauses.length m0, .slice E1 x.prog.places.length m1, .slice Ea x.nodes.length mx, .slice Eb x.top.length m2, .slice none 0 0, .slice none 0 0] 34))
  have X := (box_at P0.out).2.1
  have p0 := X 0 _ rfl
  have p1 := X 1 _ rfl
  have p2 := X 2 _ rfl
  have p3 := X 3 _ rfl
  have p4 := X 4 _ rfl
  have p5 := X 5 _ rfl
  clear X
  have d3 : (((x.nodes.length : Nat) : Int) != 3) = false := by rw [h3]; rfl
  have T0 : Sec True := ⟨trivial⟩
  clear hK h1 h2 h3
  go_enter Tryz.func14, Tryz.ntmps14
  go_wp2_with (first | (clear T2; go_at_call 45; have T3 : Sec True := ⟨trivial⟩; refine (outsOk0_i _ _).mono ?_; rintro e w3 ⟨rfl, rfl⟩) | (clear T1; go_at_call 32; have T2 : Sec True := ⟨trivial⟩; refine (isQuestion_i _ x.top ok _ (Kd.V_below TV1.out B1.out (by decide))).mono ?_; rw [HT.out]; rintro e w2 ⟨rfl, hb⟩; have B2 := Sec.mk (bel B1.out hb); have P2 := Sec.mk ((hb.block _ (Array.getElem?_eq_some_iff.1 P1.out).1).trans P1.out); have X := (box_at P2.out).2.1; have p0 := X 0 _ rfl; have p1 := X 1 _ rfl; have p2 := X 2 _ rfl; have p3 := X 3 _ rfl; have p4 := X 4 _ rfl; have p5 := X 5 _ rfl; clear X; clear hb) | (clear T0; go_at_call 31; have T1 : Sec True := ⟨trivial⟩; refine (PrgOk_i x.prog [.slice E0 x.prog.clauses.length m0, .slice E1 x.prog.places.length m1] ok _ (Kd.K_below KP1.out B0.out)).mono ?_; rw [HQ.out]; rintro e w1 ⟨rfl, hb⟩; have B1 := Sec.mk (bel B0.out hb); have P1 := Sec.mk ((hb.block _ (Array.getElem?_eq_some_iff.1 P0.out).1).trans P0.out); have X := (box_at P1.out).2.1; have p0 := X 0 _ rfl; have p1 := X 1 _ rfl; have p2 := X 2 _ rfl; have p3 := X 3 _ rfl; have p4 := X 4 _ rfl; have p5 := X 5 _ rfl; clear X; clear hb))
  go_loopw [39] (fun iv wr => ∃ k : Nat, k ≤ x.nodes.length ∧ iv = .int .i64 k ∧ Sec (Below w.heap.size w wr) ∧ Sec (wr.heap[w.heap.size]? = some (.cells #[.slice E0 x.prog.clauses.length m0, .slice E1 x.prog.places.length m1, .slice Ea x.nodes.length mx, .slice Eb x.top.length m2, .slice none 0 0, .slice none 0 0] 34 (0, 0)))) (fun iv _ => x.nodes.length - (intOf iv).toNat)
  case atStart => exact ⟨0, Nat.zero_le _, rfl, B2, P2⟩
  case round =>
    obtain ⟨k, hk, rfl, hb, hP⟩ := hrel
    have X := (box_at hP.out).2.1
    have p0 := X 0 _ rfl
    have p1 := X 1 _ rfl
    have p2 := X 2 _ rfl
    have p3 := X 3 _ rfl
    have p4 := X 4 _ rfl
    have p5 := X 5 _ rfl
    clear X
    by_cases hlt : k < x.nodes.length
    · obtain ⟨b, off, cs, rfl, hob, hK, hc⟩ := Kd.C_get (Kd.C_below HC.out hb.out (by decide)) (List.getElem?_eq_getElem hlt)
      obtain rfl : cs = [.bool true, .slice none 0 0] := hK
      have a0 : wr.cell? ⟨b, off + k * 2, none⟩ = some (.bool true) := hc 0 _ rfl
      have a1 : wr.cell? ⟨b, off + k * 2 + 1, none⟩ = some (.slice none 0 0) := hc 1 _ rfl
      have i0 : (0 : Int) ≤ (k : Int) := by omega
      have i1 : (k : Int) < (x.nodes.length : Int) := by omega
      have HI : Sec ((prgOk x.prog && inB (k : Int) 0 2) = true) := ⟨by rw [HQ.out]; have := H3.out; unfold inB; simp; omega⟩
      have WB := belA (Below.refl wr.heap.size wr) (.cells #[.bool true, .slice none 0 0] 48)
      have BB := Sec.mk (bel hb.out WB)
      have P4 := Sec.mk ((WB.block _ (Array.getElem?_eq_some_iff.1 hP.out).1).trans hP.out)
      have X := (box_at P4.out).2.1
      have r0 := X 0 _ rfl
      have r1 := X 1 _ rfl
      have X2 := (box_at (heap_alloc_new wr (.cells #[.bool true, .slice none 0 0] 48))).2.1
      have s0 := X2 0 _ rfl
      have s1 := X2 1 _ rfl
      clear hc X X2 WB
      go_wp2_with (go_at_call 46; refine (NodOk0_i x.prog [.slice E0 x.prog.clauses.length m0, .slice E1 x.prog.places.length m1] ok k true none 0 true _ (Kd.K_below KP1.out BB.out) HI.out).mono ?_; rintro e w5 ⟨rfl, hb5⟩; have B5 := Sec.mk (bel BB.out hb5); have P5 := Sec.mk ((hb5.block _ (Array.getElem?_eq_some_iff.1 P4.out).1).trans P4.out); clear hb5)
      go_roundw
      case rel => exact ⟨k + 1, by omega, by go_num, B5, P5⟩
      case measure => simp [intOf]; omega
    · obtain rfl : k = x.nodes.length := by omega
      have d1 : decide (((x.nodes.length : Nat) : Int) < (x.nodes.length : Int)) = false := decide_eq_false (by omega)
      go_wp2_with (go_at_call 49; refine (containsNil_c _ _).mono ?_; rintro e w5 ⟨rfl, rfl⟩)
      go_ret
      exact ⟨rfl, hb.out⟩
theorem DrawWldNew_c (w : World) (v : Value) (code : List UInt8) (ok : Nat → Prop) (hV : kByte.V w ok v code) :
    Calls Tryz.prog 5 #[v] w fun e w' => ∃ (p : Prog) (cs : List Value) (u : Value) (t : Term), e = .returned (.tuple #[.agg cs.toArray, u]) ∧ kProg.O w' (fun k => w.heap.size ≤ k) p cs ∧ kCell.R w' (fun k => w.heap.size ≤ k) u t ∧ Below w.heap.size w w' := by
  have hu2 := Tryz.underlying26
  have B0 := belA (Below.refl w.heap.size w) (.cells #[.slice none 0 0, .slice none 0 0] 26)
  have H0 := Sec.mk (open_c (w.alloc (.cells #[.slice none 0 0, .slice none 0 0] 26)) v code ok (Kd.V_below hV B0 (by decide)))
  have X0 := heap_alloc_new w (.cells #[.slice none 0 0, .slice none 0 0] 26)
  have Z0 : (w.alloc (.cells #[.slice none 0 0, .slice none 0 0] 26)).heap.size = w.heap.size + 1 := by simp
  obtain ⟨A, c, rfl, _⟩ := hV
  go_enter Tryz.func5, Tryz.ntmps5
  go_wp2_with fail
  refine H0.out.mono ?_
  rintro e w1 ⟨g, rfl, hR1, hB1⟩
  have hge := hR1.ge
  have hgl := hR1.lt
  have z1 := hB1.size
  go_wp2_with fail
  refine (progOr_c _ w1 g 0 6 hR1 (by omega) (by omega) (by omega)).mono ?_
  rintro e w2 ⟨p, cs, rfl, hO, l1, l2, hR2, hO2⟩
  obtain ⟨v1, v2, rfl, -⟩ := kProg_K (kProg.O_K hO)
  have z2 := hO2.size
  have BX := Sec.mk B0
  have XX := Sec.mk X0
  have HO := Sec.mk hO
  clear hO hO2 X0 H0 hR1 hB1 B0
  go_wp2_with fail
  refine (topOr_c _ w2 g _ 6 hR2 (by omega) (by omega) (by omega)).mono ?_
  rintro e w3 ⟨u, t, rfl, hl2, hT2, hR3, hO3⟩
  have BB := hR3.bel
  have X2 := Sec.mk ((BB.block w.heap.size (by omega)).trans XX.out)
  have B2 := Sec.mk (bel BX.out BB)
  have HP3 := Sec.mk (Kd.O_mono (Only.O hO3 HO.out (fun k h e => by omega)) (S1 := fun k => w.heap.size + 1 ≤ k) (fun k h _ => by omega))
  have HT3 := Sec.mk (Kd.R_mono hT2 (S1 := fun k => w.heap.size + 1 ≤ k) (fun k h _ => by omega))
  clear hl2 hT2 hR3 hO3 BB hR2 HO
  go_wp2_with (with_reducible show wpList _ _ _ (⟨none, .store 26 (.tmp 2) (.tmp 8), _, _, _, _⟩ :: _) _ _; refine wpList_store (cs := [v1, v2]) (old := #[.slice none 0 0, .slice none 0 0]) rfl 26 (.tmp 2) (.tmp 8) rfl rfl rfl X2.out (by kernel_rfl) rfl (kProg.K_one (kProg.O_K HP3.out)) ?_; intro w8 hb8 hF8; have B8 := Sec.mk hb8; have F8 := Sec.mk hF8; clear hb8 hF8)
  have X := (box_at B8.out).2.1
  have f0 := X 0 _ rfl
  have f1 := X 1 _ rfl
  exact bodyPost_ret (v := .tuple #[.agg #[v1, v2], u]) (by simp [results, Tryz.results5, go_sem, f0, f1]) rfl ⟨p, [v1, v2], u, t, rfl, Kd.O_mono (F8.out.O HP3.out (fun k h e => by have e : k = w.heap.size := e; omega)) (fun k h _ => by omega), Kd.R_mono (F8.out.R HT3.out (fun k h e => by have e : k = w.heap.size := e; omega)) (fun k h _ => by omega), F8.out.below B2.out (fun k h => Nat.le_of_eq (show k = w.heap.size from h).symm)⟩
end
section
open Go.RowKit
set_option linter.unusedVariables false
set_option maxRecDepth 100000
def kSGoal : Kd SGoal := Kd.iso 91 (Kd.pair kGoal (Kd.int 3)) (fun x => (x.goal, x.cut))
theorem SGoal.ext_iff (a b : SGoal) : a = b ↔ a.goal = b.goal ∧ a.cut = b.cut := by
  cases a; cases b; simp
instance : DecidableEq SGoal := fun a b => decidable_of_iff _ (SGoal.ext_iff a b).symm
def zeroSGoal : SGoal := ⟨⟨0, [], [], []⟩, 0⟩
def mSGoal : Mk SGoal := ⟨fun x => 1 + mCell.cnts x.goal.a + mCell.cnts x.goal.b + mCell.cnts x.goal.c + 1, fun x k => ⟨⟨k, mCell.mks x.goal.a (k + 1), mCell.mks x.goal.b (k + 1 + ((mCell.cnts x.goal.a : Nat) : Int)), mCell.mks x.goal.c (k + 1 + ((mCell.cnts x.goal.a : Nat) : Int) + ((mCell.cnts x.goal.b : Nat) : Int))⟩, k + 1 + ((mCell.cnts x.goal.a : Nat) : Int) + ((mCell.cnts x.goal.b : Nat) : Int) + ((mCell.cnts x.goal.c : Nat) : Int)⟩⟩
def mSGoalt : Mk SGoal := ⟨fun x => mGoalt.cnt x.goal, fun x k => ⟨mGoalt.one x.goal (k), x.cut⟩⟩
end
section
open Go.RowKit
set_option linter.unusedVariables false
set_option maxRecDepth 100000
def kBind : Kd Bind := Kd.iso 186 (Kd.pair (Kd.int 3) (Kd.slice 27 kCell (by decide))) (fun x => (x.v, x.term))
theorem Bind.ext_iff (a b : Bind) : a = b ↔ a.v = b.v ∧ a.term = b.term := by
  cases a; cases b; simp
instance : DecidableEq Bind := fun a b => decidable_of_iff _ (Bind.ext_iff a b).symm
def zeroBind : Bind := ⟨0, []⟩
def mBind : Mk Bind := ⟨fun x => 1 + mCell.cnts x.term, fun x k => ⟨k, mCell.mks x.term (k + 1)⟩⟩
def mBindt : Mk Bind := ⟨fun x => mCell.cnts x.term, fun x k => ⟨x.v, mCell.mks x.term (k)⟩⟩
end
section
open Go.RowKit
set_option linter.unusedVariables false
set_option maxRecDepth 100000
theorem info_SGoal : (Tryz.prog.info? 91).map (fun i => (i.zero, i.size, i.bytes)) = some (some (.agg #[.int .i64 0, .slice none 0 0, .slice none 0 0, .slice none 0 0, .int .i64 0]), 5, 88) := by kernel_rfl
end
section
open Go.RowKit
set_option linter.unusedVariables false
set_option maxRecDepth 100000
end
section
open Go.RowKit
set_option linter.unusedVariables false
set_option maxRecDepth 100000
def kTChoice : Kd TChoice := Kd.iso 150 (Kd.pair (Kd.slice 38 kSGoal (by decide)) (Kd.pair (Kd.int 3) (Kd.pair (Kd.int 3) (Kd.pair (Kd.slice 27 kCell (by decide)) (Kd.pair (Kd.int 3) (Kd.int 3)))))) (fun x => (x.goals, x.mark, x.vars, x.call, x.next, x.far))
theorem TChoice.ext_iff (a b : TChoice) : a = b ↔ a.goals = b.goals ∧ a.mark = b.mark ∧ a.vars = b.vars ∧ a.call = b.call ∧ a.next = b.next ∧ a.far = b.far := by
  cases a; cases b; simp
instance : DecidableEq TChoice := fun a b => decidable_of_iff _ (TChoice.ext_iff a b).symm
def zeroTChoice : TChoice := ⟨[], 0, 0, [], 0, 0⟩
def mTChoice : Mk TChoice := ⟨fun x => mSGoal.cnts x.goals + 1 + 1 + mCell.cnts x.call + 1 + 1, fun x k => ⟨mSGoal.mks x.goals (k), k + ((mSGoal.cnts x.goals : Nat) : Int), k + ((mSGoal.cnts x.goals : Nat) : Int) + 1, mCell.mks x.call (k + ((mSGoal.cnts x.goals : Nat) : Int) + 1 + 1), k + ((mSGoal.cnts x.goals : Nat) : Int) + 1 + 1 + ((mCell.cnts x.call : Nat) : Int), k + ((mSGoal.cnts x.goals : Nat) : Int) + 1 + 1 + ((mCell.cnts x.call : Nat) : Int) + 1⟩⟩
def mTChoicet : Mk TChoice := ⟨fun x => mSGoal.cnts x.goals + mCell.cnts x.call, fun x k => ⟨mSGoal.mks x.goals (k), x.mark, x.vars, mCell.mks x.call (k + ((mSGoal.cnts x.goals : Nat) : Int)), x.next, x.far⟩⟩
end
section
open Go.RowKit
set_option linter.unusedVariables false
set_option maxRecDepth 100000
def kTState : Kd TState := Kd.iso 96 (Kd.pair (Kd.int 3) (Kd.pair (Kd.slice 38 kSGoal (by decide)) (Kd.pair (Kd.slice 39 kBind (by decide)) (Kd.pair (Kd.int 3) (Kd.pair (Kd.slice 94 kTChoice (by decide)) (Kd.pair (Kd.slice 27 kCell (by decide)) (Kd.slice 27 kCell (by decide)))))))) (fun x => (x.status, x.goals, x.binds, x.vars, x.choices, x.top, x.out))
theorem TState.ext_iff (a b : TState) : a = b ↔ a.status = b.status ∧ a.goals = b.goals ∧ a.binds = b.binds ∧ a.vars = b.vars ∧ a.choices = b.choices ∧ a.top = b.top ∧ a.out = b.out := by
  cases a; cases b; simp
instance : DecidableEq TState := fun a b => decidable_of_iff _ (TState.ext_iff a b).symm
def zeroTState : TState := ⟨0, [], [], 0, [], [], []⟩
def mTState : Mk TState := ⟨fun x => 1 + mSGoal.cnts x.goals + mBind.cnts x.binds + 1 + mTChoice.cnts x.choices + mCell.cnts x.top + mCell.cnts x.out, fun x k => ⟨k, mSGoal.mks x.goals (k + 1), mBind.mks x.binds (k + 1 + ((mSGoal.cnts x.goals : Nat) : Int)), k + 1 + ((mSGoal.cnts x.goals : Nat) : Int) + ((mBind.cnts x.binds : Nat) : Int), mTChoice.mks x.choices (k + 1 + ((mSGoal.cnts x.goals : Nat) : Int) + ((mBind.cnts x.binds : Nat) : Int) + 1), mCell.mks x.top (k + 1 + ((mSGoal.cnts x.goals : Nat) : Int) + ((mBind.cnts x.binds : Nat) : Int) + 1 + ((mTChoice.cnts x.choices : Nat) : Int)), mCell.mks x.out (k + 1 + ((mSGoal.cnts x.goals : Nat) : Int) + ((mBind.cnts x.binds : Nat) : Int) + 1 + ((mTChoice.cnts x.choices : Nat) : Int) + ((mCell.cnts x.top : Nat) : Int))⟩⟩
def mTStatet : Mk TState := ⟨fun x => mSGoal.cnts x.goals + mBind.cnts x.binds + mTChoice.cnts x.choices + mCell.cnts x.top + mCell.cnts x.out, fun x k => ⟨x.status, mSGoal.mks x.goals (k), mBind.mks x.binds (k + ((mSGoal.cnts x.goals : Nat) : Int)), x.vars, mTChoice.mks x.choices (k + ((mSGoal.cnts x.goals : Nat) : Int) + ((mBind.cnts x.binds : Nat) : Int)), mCell.mks x.top (k + ((mSGoal.cnts x.goals : Nat) : Int) + ((mBind.cnts x.binds : Nat) : Int) + ((mTChoice.cnts x.choices : Nat) : Int)), mCell.mks x.out (k + ((mSGoal.cnts x.goals : Nat) : Int) + ((mBind.cnts x.binds : Nat) : Int) + ((mTChoice.cnts x.choices : Nat) : Int) + ((mCell.cnts x.top : Nat) : Int))⟩⟩
end
section
open Go.RowKit
set_option linter.unusedVariables false
set_option maxRecDepth 100000
def kSChoice : Kd SChoice := Kd.iso 299 (Kd.pair (Kd.slice 38 kSGoal (by decide)) (Kd.pair (Kd.slice 39 kBind (by decide)) (Kd.pair (Kd.int 3) (Kd.pair (Kd.slice 27 kCell (by decide)) (Kd.int 3))))) (fun x => (x.goals, x.binds, x.vars, x.call, x.next))
theorem SChoice.ext_iff (a b : SChoice) : a = b ↔ a.goals = b.goals ∧ a.binds = b.binds ∧ a.vars = b.vars ∧ a.call = b.call ∧ a.next = b.next := by
  cases a; cases b; simp
instance : DecidableEq SChoice := fun a b => decidable_of_iff _ (SChoice.ext_iff a b).symm
def zeroSChoice : SChoice := ⟨[], [], 0, [], 0⟩
def mSChoice : Mk SChoice := ⟨fun x => mSGoal.cnts x.goals + mBind.cnts x.binds + 1 + mCell.cnts x.call + 1, fun x k => ⟨mSGoal.mks x.goals (k), mBind.mks x.binds (k + ((mSGoal.cnts x.goals : Nat) : Int)), k + ((mSGoal.cnts x.goals : Nat) : Int) + ((mBind.cnts x.binds : Nat) : Int), mCell.mks x.call (k + ((mSGoal.cnts x.goals : Nat) : Int) + ((mBind.cnts x.binds : Nat) : Int) + 1), k + ((mSGoal.cnts x.goals : Nat) : Int) + ((mBind.cnts x.binds : Nat) : Int) + 1 + ((mCell.cnts x.call : Nat) : Int)⟩⟩
def mSChoicet : Mk SChoice := ⟨fun x => mSGoal.cnts x.goals + mBind.cnts x.binds + mCell.cnts x.call, fun x k => ⟨mSGoal.mks x.goals (k), mBind.mks x.binds (k + ((mSGoal.cnts x.goals : Nat) : Int)), x.vars, mCell.mks x.call (k + ((mSGoal.cnts x.goals : Nat) : Int) + ((mBind.cnts x.binds : Nat) : Int)), x.next⟩⟩
end
section
open Go.RowKit
set_option linter.unusedVariables false
set_option maxRecDepth 100000
def kSState : Kd SState := Kd.iso 42 (Kd.pair (Kd.int 3) (Kd.pair (Kd.slice 38 kSGoal (by decide)) (Kd.pair (Kd.slice 39 kBind (by decide)) (Kd.pair (Kd.int 3) (Kd.pair (Kd.slice 40 kSChoice (by decide)) (Kd.pair (Kd.slice 27 kCell (by decide)) (Kd.slice 27 kCell (by decide)))))))) (fun x => (x.status, x.goals, x.binds, x.vars, x.choices, x.top, x.out))
theorem SState.ext_iff (a b : SState) : a = b ↔ a.status = b.status ∧ a.goals = b.goals ∧ a.binds = b.binds ∧ a.vars = b.vars ∧ a.choices = b.choices ∧ a.top = b.top ∧ a.out = b.out := by
  cases a; cases b; simp
instance : DecidableEq SState := fun a b => decidable_of_iff _ (SState.ext_iff a b).symm
def zeroSState : SState := ⟨0, [], [], 0, [], [], []⟩
theorem kSState_zero (w : World) : kSState.O w (fun _ => False) zeroSState [.int .i64 0, .slice none 0 0, .slice none 0 0, .int .i64 0, .slice none 0 0, .slice none 0 0, .slice none 0 0] := (Kd.O_pair0 (d := (Kd.int 3)) (e := (Kd.pair (Kd.slice 38 kSGoal (by decide)) (Kd.pair (Kd.slice 39 kBind (by decide)) (Kd.pair (Kd.int 3) (Kd.pair (Kd.slice 40 kSChoice (by decide)) (Kd.pair (Kd.slice 27 kCell (by decide)) (Kd.slice 27 kCell (by decide)))))))) ⟨rfl, trivial⟩ (Kd.O_pair0 (d := (Kd.slice 38 kSGoal (by decide))) (e := (Kd.pair (Kd.slice 39 kBind (by decide)) (Kd.pair (Kd.int 3) (Kd.pair (Kd.slice 40 kSChoice (by decide)) (Kd.pair (Kd.slice 27 kCell (by decide)) (Kd.slice 27 kCell (by decide))))))) ⟨_, rfl, Kd.R_nil _ _ _⟩ (Kd.O_pair0 (d := (Kd.slice 39 kBind (by decide))) (e := (Kd.pair (Kd.int 3) (Kd.pair (Kd.slice 40 kSChoice (by decide)) (Kd.pair (Kd.slice 27 kCell (by decide)) (Kd.slice 27 kCell (by decide)))))) ⟨_, rfl, Kd.R_nil _ _ _⟩ (Kd.O_pair0 (d := (Kd.int 3)) (e := (Kd.pair (Kd.slice 40 kSChoice (by decide)) (Kd.pair (Kd.slice 27 kCell (by decide)) (Kd.slice 27 kCell (by decide))))) ⟨rfl, trivial⟩ (Kd.O_pair0 (d := (Kd.slice 40 kSChoice (by decide))) (e := (Kd.pair (Kd.slice 27 kCell (by decide)) (Kd.slice 27 kCell (by decide)))) ⟨_, rfl, Kd.R_nil _ _ _⟩ (Kd.O_pair0 (d := (Kd.slice 27 kCell (by decide))) (e := (Kd.slice 27 kCell (by decide))) ⟨_, rfl, Kd.R_nil _ _ _⟩ ⟨_, rfl, Kd.R_nil _ _ _⟩))))))
def mSState : Mk SState := ⟨fun x => 1 + mSGoal.cnts x.goals + mBind.cnts x.binds + 1 + mSChoice.cnts x.choices + mCell.cnts x.top + mCell.cnts x.out, fun x k => ⟨k, mSGoal.mks x.goals (k + 1), mBind.mks x.binds (k + 1 + ((mSGoal.cnts x.goals : Nat) : Int)), k + 1 + ((mSGoal.cnts x.goals : Nat) : Int) + ((mBind.cnts x.binds : Nat) : Int), mSChoice.mks x.choices (k + 1 + ((mSGoal.cnts x.goals : Nat) : Int) + ((mBind.cnts x.binds : Nat) : Int) + 1), mCell.mks x.top (k + 1 + ((mSGoal.cnts x.goals : Nat) : Int) + ((mBind.cnts x.binds : Nat) : Int) + 1 + ((mSChoice.cnts x.choices : Nat) : Int)), mCell.mks x.out (k + 1 + ((mSGoal.cnts x.goals : Nat) : Int) + ((mBind.cnts x.binds : Nat) : Int) + 1 + ((mSChoice.cnts x.choices : Nat) : Int) + ((mCell.cnts x.top : Nat) : Int))⟩⟩
def mSStatet : Mk SState := ⟨fun x => mSGoal.cnts x.goals + mBind.cnts x.binds + mSChoice.cnts x.choices + mCell.cnts x.top + mCell.cnts x.out, fun x k => ⟨x.status, mSGoal.mks x.goals (k), mBind.mks x.binds (k + ((mSGoal.cnts x.goals : Nat) : Int)), x.vars, mSChoice.mks x.choices (k + ((mSGoal.cnts x.goals : Nat) : Int) + ((mBind.cnts x.binds : Nat) : Int)), mCell.mks x.top (k + ((mSGoal.cnts x.goals : Nat) : Int) + ((mBind.cnts x.binds : Nat) : Int) + ((mSChoice.cnts x.choices : Nat) : Int)), mCell.mks x.out (k + ((mSGoal.cnts x.goals : Nat) : Int) + ((mBind.cnts x.binds : Nat) : Int) + ((mSChoice.cnts x.choices : Nat) : Int) + ((mCell.cnts x.top : Nat) : Int))⟩⟩
end
section
open Go.RowKit
set_option linter.unusedVariables false
set_option maxRecDepth 100000
def markIn (s : TState) (c : TChoice) : Bool := inB c.mark 0 s.binds.length
def viewC (s : TState) (c : TChoice) : SChoice := ⟨c.goals, s.binds.take c.mark.toNat, c.vars, c.call, c.next⟩
/-- Solving as the first machine would keep it. -/
def tview (s : TState) : SState := if s.choices.all (markIn s) = true then ⟨s.status, s.goals, s.binds, s.vars, s.choices.map (viewC s), s.top, s.out⟩ else zeroSState
end
section
open Go.RowKit
set_option linter.unusedVariables false
set_option maxRecDepth 100000
end
section
open Go.RowKit
set_option linter.unusedVariables false
set_option maxRecDepth 100000
def firstG (t : Term) : SGoal := ⟨⟨1, t, [], []⟩, 0⟩
def newS (t : Term) : SState := if question t = true then ⟨1, [firstG t], [], (free t).length, [], t, []⟩ else zeroSState
def newT (t : Term) : TState := if question t = true then ⟨1, [firstG t], [], (free t).length, [], t, []⟩ else zeroTState
theorem kGoal_new {w : World} {S : Nat → Prop} {t : Term} {v : Value} (h : kCell.R w S v t) : kGoal.O w S ⟨1, t, [], []⟩ [.int .i64 1, v, .slice none 0 0, .slice none 0 0] :=
  ⟨fun _ => False, S, [.int .i64 1], _, rfl, fun k h => h.elim, fun k h => h, ⟨rfl, trivial⟩,
    S, fun _ => False, [v], _, rfl, fun k h => ⟨h, id⟩, fun k h => h.elim, ⟨v, rfl, h⟩,
    fun _ => False, fun _ => False, [.slice none 0 0], [.slice none 0 0], rfl, fun k h => h.elim, fun k h => h, ⟨_, rfl, Kd.R_nil _ _ _⟩, ⟨_, rfl, Kd.R_nil _ _ _⟩⟩
theorem kSState_new {w : World} {S1 S2 : Nat → Prop} {g : List SGoal} {n : Int} {t : Term} {v1 v5 : Value} (h1 : kSGoal.R w S1 v1 g) (h5 : kCell.R w S2 v5 t) (d : ∀ k, S1 k → ¬ S2 k) :
    kSState.O w (fun k => S1 k ∨ S2 k) ⟨1, g, [], n, [], t, []⟩ [.int .i64 1, v1, .slice none 0 0, .int .i64 n, .slice none 0 0, v5, .slice none 0 0] :=
  ⟨fun _ => False, _, [.int .i64 1], _, rfl, fun k h => h.elim, fun k h => h, ⟨rfl, trivial⟩,
    S1, S2, [v1], _, rfl, fun k h => ⟨.inl h, d k h⟩, fun k h => .inr h, ⟨v1, rfl, h1⟩,
    fun _ => False, S2, [.slice none 0 0], _, rfl, fun k h => h.elim, fun k h => h, ⟨_, rfl, Kd.R_nil _ _ _⟩,
    fun _ => False, S2, [.int .i64 n], _, rfl, fun k h => h.elim, fun k h => h, ⟨rfl, trivial⟩,
    fun _ => False, S2, [.slice none 0 0], _, rfl, fun k h => h.elim, fun k h => h, ⟨_, rfl, Kd.R_nil _ _ _⟩,
    S2, fun _ => False, [v5], [.slice none 0 0], rfl, fun k h => ⟨h, id⟩, fun k h => h.elim, ⟨v5, rfl, h5⟩, ⟨_, rfl, Kd.R_nil _ _ _⟩⟩
theorem foot_V0 {α : Type} {d : Kd α} {T ok : Nat → Prop} {w W : World} {v : Value} {xs : List α} (h : Foot T w W) (hT : ∀ k, ok k → ¬ T k) (hV : d.V w ok v xs) (hp : 0 < d.sz) : d.V W ok v xs :=
  Kd.V_move (w := w) (fun k h1 h2 => ⟨h1, h.block k h2 (hT k h1)⟩) hV hp
/-- A struct of one's own, at hand. -/
def onOd {α : Type} (d : Kd α) (x : α) (cs : List Value) : On := fun _ S w => d.O w S x cs
set_option maxHeartbeats 4000000 in
theorem SlvNew_c (v : Value) (t : Term) (ok0 : Nat → Prop) (w : World) (hV0 : kCell.V w ok0 v t) :
    Calls Tryz.prog 10 #[v] w fun e w' => ∃ c : List Value, e = .returned (.agg c.toArray) ∧ kSState.O w' (fun k => w.heap.size ≤ k) (newS t) c ∧ Below w.heap.size w w' := by
  obtain ⟨ok, hok, hV⟩ : ∃ ok : Nat → Prop, (∀ k, ok k → k < w.heap.size) ∧ kCell.V w ok v t := ⟨fun k => ok0 k ∧ k < w.heap.size, fun k h => h.2, Kd.V_move (fun k h1 h2 => ⟨⟨h1, h2⟩, rfl⟩) hV0 (by decide)⟩
  clear hV0
  have HOK := Sec.mk hok
  have B0 := Sec.mk (belA (Below.refl w.heap.size w) (.cells #[.int .i64 0, .slice none 0 0, .slice none 0 0, .int .i64 0, .slice none 0 0, .slice none 0 0, .slice none 0 0] 42))
  have RB0 := Sec.mk (heap_alloc_new w (.cells #[.int .i64 0, .slice none 0 0, .slice none 0 0, .int .i64 0, .slice none 0 0, .slice none 0 0, .slice none 0 0] 42))
  have V0 := Sec.mk (Kd.V_below hV B0.out (by decide))
  have Z0 : Sec ((w.alloc (.cells #[.int .i64 0, .slice none 0 0, .slice none 0 0, .int .i64 0, .slice none 0 0, .slice none 0 0, .slice none 0 0] 42)).heap.size = w.heap.size + 1) := ⟨by simp⟩
  have LT : Sec (t.length ≤ 1073741824) := ⟨by obtain ⟨_, _, _, _, _, h, _⟩ := hV; exact h⟩
  have T0 : Sec True := ⟨trivial⟩
  obtain ⟨A9, c9, rfl, -⟩ := hV
  have hu := Tryz.underlying42
  have hu2 := Tryz.underlying91
  have hnT : ∀ k, ok k → ¬ k = w.heap.size := fun k h e => by have := hok k h; omega
  have HNT := Sec.mk hnT
  clear hok hnT
  cases hq : question t with
  | false =>
    have HQ := Sec.mk hq
    have hn : Sec (newS t = zeroSState) := ⟨if_neg (by rw [hq]; decide)⟩
    clear hq
    go_enter Tryz.func10, Tryz.ntmps10
    go_wp2_with (first | (clear T0; go_at_call 37; have T1 : Sec True := ⟨trivial⟩; refine (l4Top_c _ t ok _ V0.out (fun q h => by have := HOK.out q h; have := Z0.out; omega)).mono ?_; rw [HQ.out]; rintro e w1 ⟨rfl, hb⟩; have RB1 := Sec.mk ((hb.block _ (Array.getElem?_eq_some_iff.1 RB0.out).1).trans RB0.out); have V1 := Sec.mk (Kd.V_below V0.out hb (by decide)); have B1 := Sec.mk (bel B0.out hb); have Z1 : Sec (w.heap.size < w1.heap.size) := ⟨Nat.lt_of_lt_of_le (by rw [Z0.out]; exact Nat.lt_succ_self _) hb.size⟩; clear hb V0; have V0 := V1; clear V1) | (with_reducible show wpList _ _ _ (⟨none, .store 42 (.tmp 2) (.tmp 6), _, _, _, _⟩ :: _) _ _; refine wpList_store (cs := [.int .i64 0, .slice none 0 0, .slice none 0 0, .int .i64 0, .slice none 0 0, .slice none 0 0, .slice none 0 0]) rfl 42 (.tmp 2) (.tmp 6) rfl rfl rfl RB1.out (by kernel_rfl) rfl (kSState.K_one (kSState.O_K (kSState_zero w))) ?_; intro w8 hb8 hF8; have B8 := Sec.mk hb8; have F8 := Sec.mk hF8; clear hb8 hF8))
    refine bodyPost_ret (results_cell rfl rfl B8.out hu rfl (by kernel_rfl)) rfl ⟨_, rfl, ?_, ?_⟩
    · rw [hn.out]; exact kSState.O_mono (kSState_zero _) (fun _ h _ => h.elim)
    · exact F8.out.below B1.out (fun q h => by have h1 : q = w.heap.size := h; omega)
  | true =>
    have HQ := Sec.mk hq
    have hn : Sec (newS t = (⟨1, [firstG t], [], (free t).length, [], t, []⟩ : SState)) := ⟨if_pos hq⟩
    clear hq
    go_enter Tryz.func10, Tryz.ntmps10
    go_wp2_with (first | (clear T0; go_at_call 37; have T1 : Sec True := ⟨trivial⟩; refine (l4Top_c _ t ok _ V0.out (fun q h => by have := HOK.out q h; have := Z0.out; omega)).mono ?_; rw [HQ.out]; rintro e w1 ⟨rfl, hb⟩; have RB1 := Sec.mk ((hb.block _ (Array.getElem?_eq_some_iff.1 RB0.out).1).trans RB0.out); have V1 := Sec.mk (Kd.V_below V0.out hb (by decide)); have B1 := Sec.mk (bel B0.out hb); have Z1 : Sec (w.heap.size < w1.heap.size) := ⟨Nat.lt_of_lt_of_le (by rw [Z0.out]; exact Nat.lt_succ_self _) hb.size⟩; clear hb V0; have V0 := V1; clear V1) | (with_reducible show wpList _ _ _ (⟨some 7, _, _, _, _, _⟩ :: _) _ _; refine Sec.out ?_))
    refine ⟨?_⟩
    have hnT := HNT.out
    refine wpList_lists [[7], [8], [9], [10], [11], [12], [13], [14], [15], [16], [17], [18], [19], [2], [2]]
      [onR kCell 7 [],
        fun val _ _ => val 8 = .slice A9 t.length c9,
        onR kCell 9 t,
        onO kGoal 10 ⟨1, t, [], []⟩,
        onO kSGoal 11 (firstG t),
        onR kSGoal 12 [firstG t],
        fun val _ _ => val 13 = .slice A9 t.length c9,
        onR kInt 14 (free t),
        fun val _ _ => val 15 = .int .i64 (free t).length,
        onR kCell 16 [],
        fun val _ _ => val 17 = .slice A9 t.length c9,
        onR kCell 18 t,
        onO kSState 19 (⟨1, [firstG t], [], (free t).length, [], t, []⟩ : SState),
        onPtr kSState 2 42 (⟨1, [firstG t], [], (free t).length, [], t, []⟩ : SState),
        onBox 2 #[.int .i64 0, .slice none 0 0, .slice none 0 0, .int .i64 0, .slice none 0 0, .slice none 0 0, .slice none 0 0] 42]
      [[], [], [0], [2], [3], [4], [], [], [], [], [], [9], [5, 11], [14, 12], []] 1 (fun k => k = w.heap.size) (fun i k => i = 14 ∧ k = w.heap.size) ⟨by kernel_rfl, by kernel_rfl, by kernel_rfl, by kernel_rfl, by kernel_rfl⟩
      (.cons (stab_R kCell 7 []) (.cons (stab_val 8 (fun v => v = .slice A9 t.length c9)) (.cons (stab_R kCell 9 t) (.cons (stab_O kGoal 10 ⟨1, t, [], []⟩) (.cons (stab_O kSGoal 11 (firstG t)) (.cons (stab_R kSGoal 12 [firstG t]) (.cons (stab_val 13 (fun v => v = .slice A9 t.length c9)) (.cons (stab_R kInt 14 (free t)) (.cons (stab_val 15 (fun v => v = .int .i64 (free t).length)) (.cons (stab_R kCell 16 []) (.cons (stab_val 17 (fun v => v = .slice A9 t.length c9)) (.cons (stab_R kCell 18 t) (.cons (stab_O kSState 19 (⟨1, [firstG t], [], (free t).length, [], t, []⟩ : SState)) (.cons (stab_ptr kSState 2 42 (⟨1, [firstG t], [], (free t).length, [], t, []⟩ : SState)) (.cons (stab_box 2 #[.int .i64 0, .slice none 0 0, .slice none 0 0, .int .i64 0, .slice none 0 0, .slice none 0 0, .slice none 0 0] 42) .nil)))))))))))))))
      (fun i j k h1 h2 => h1.1.trans h2.1.symm) (fun i k h => ⟨by simp only [List.length]; omega, h.2, by have := Z1.out; omega⟩) (fun i h1 h2 => by obtain rfl : i = 14 := (by simp only [List.length] at h1 h2; omega); exact ⟨w.heap.size, rfl, RB1.out, rfl, rfl⟩) (.cons ?_ (.cons ?_ (.cons ?_ (.cons ?_ (.cons ?_ (.cons ?_ (.cons ?_ (.cons ?_ (.cons ?_ (.cons ?_ (.cons ?_ (.cons ?_ (.cons ?_ (.cons ?_ .nil)))))))))))))) ?_
    · intro a W own hfor huse hap hmi hF K hK
      refine op_val (.slice (some ⟨W.heap.size, 0, none⟩) 0 0) (W.alloc (.cells #[] kCell.ty)) rfl ?_ (hK _ _ (post_new (belA (Below.refl _ _) _) ?_))
      · clear hfor huse hap hmi hK hF
        generalize a.eval = ρ at *
        go_simp
        try rfl
      · show kCell.R _ _ (if _ then _ else _) []
        rw [if_pos rfl]
        exact Kd.R_mono (Kd.R_empty (w := W) kCell (Nat.le_refl _)) (fun k h1 h2 => ⟨h1, h2⟩)
    · intro a W own hfor huse hap hmi hF K hK
      have e0 : a.eval (.tmp 0) = .slice A9 t.length c9 := hfor 0 (by kernel_rfl)
      refine op_val (.slice A9 t.length c9) W rfl ?_ (hK _ _ (post_pure ?_))
      · clear hfor huse hap hmi hK hF
        generalize a.eval = ρ at *
        go_simp
      · exact (if_pos rfl)
    · intro a W own hfor huse hap hmi hF K hK
      have e8 : a.eval (.tmp 8) = .slice A9 t.length c9 := huse 1 (by kernel_rfl)
      have r0 : kCell.R W (own 0) (a.eval (.tmp 7)) [] := huse 0 (by kernel_rfl)
      have hV := foot_V0 hF hnT V0.out (by decide)
      refine step_cells rfl (.tmp 7) (.tmp 8) rfl rfl e8 r0 hV ?_ ?_ (fun v1 w1 hR hF1 => hK _ _ ⟨fun k => own 0 k ∨ (W.heap.size ≤ k ∧ k < w1.heap.size), Foot.mono hF1 (fun k h => ⟨0, by decide, h⟩), ?_, fun k h => Or.imp (fun h => ⟨0, by decide, h⟩) id h⟩)
      · exact fun k h1 h2 => by have h3 := (hmi 0 k h2).1; have h4 := HOK.out k h1; have z0 := Z1.out; (try simp only [] at h3); omega
      · have := LT.out; simpa using this
      · show kCell.R _ _ (if _ then _ else _) t
        rw [if_pos rfl]
        exact hR
    · intro a W own hfor huse hap hmi hF K hK
      have r2 : kCell.R W (own 2) (a.eval (.tmp 9)) t := huse 2 (by kernel_rfl)
      obtain ⟨A2, n2, e9, -, -⟩ := Kd.R_form r2
      rw [e9] at r2
      have ec : a.eval (.const (.int .i64 1)) = .int .i64 1 := rfl
      refine op_val (.agg #[.int .i64 1, .slice A2 t.length n2, .slice none 0 0, .slice none 0 0]) W rfl ?_ (hK _ _ ⟨fun k => own 2 k, Foot.refl _ _, ⟨[.int .i64 1, .slice A2 t.length n2, .slice none 0 0, .slice none 0 0], if_pos rfl, kGoal_new r2⟩, ?_⟩)
      · clear hfor huse hap hmi hK hF
        generalize a.eval = ρ at *
        go_simp
      · exact fun k h => .inl ⟨2, by decide, h⟩
    · intro a W own hfor huse hap hmi hF K hK
      obtain ⟨cs3, e10, r3⟩ := (huse 3 (by kernel_rfl) : onO kGoal 10 ⟨1, t, [], []⟩ (slotsOf a) (own 3) W)
      have e10 : a.eval (.tmp 10) = .agg cs3.toArray := e10
      obtain ⟨va, vb, vc, rfl, ⟨Da, da, rfl, -⟩, ⟨Db, db, rfl, -⟩, ⟨Dc, dc, rfl, -⟩⟩ := kGoal_K (kGoal.O_K r3)
      simp only [List.length_nil] at e10 r3
      refine op_val (.agg #[.int .i64 1, .slice Da t.length da, .slice Db 0 db, .slice Dc 0 dc, .int .i64 0]) W rfl ?_ (hK _ _ ⟨fun k => own 3 k, Foot.refl _ _, ⟨[.int .i64 1, .slice Da t.length da, .slice Db 0 db, .slice Dc 0 dc, .int .i64 0], if_pos rfl, ⟨own 3, fun _ => False, [.int .i64 1, .slice Da t.length da, .slice Db 0 db, .slice Dc 0 dc], [.int .i64 0], rfl, fun k h => ⟨h, id⟩, fun k h => h.elim, r3, ⟨rfl, trivial⟩⟩⟩, ?_⟩)
      · clear hfor huse hap hmi hK hF
        generalize a.eval = ρ at *
        go_simp
      · exact fun k h => .inl ⟨3, by decide, h⟩
    · intro a W own hfor huse hap hmi hF K hK
      obtain ⟨cs4, e11, r4⟩ := (huse 4 (by kernel_rfl) : onO kSGoal 11 (firstG t) (slotsOf a) (own 4) W)
      have e11 : a.eval (.tmp 11) = .agg cs4.toArray := e11
      have hlen := kSGoal.K_len (kSGoal.O_K r4)
      refine step_box rfl 38 91 (.tmp 11) rfl e11 Tryz.underlying38 info_SGoal hlen (by decide) (by decide) (hK _ _ ⟨fun k => own 4 k ∨ (W.heap.size ≤ k ∧ k < (W.alloc (.cells cs4.toArray 91)).heap.size), Foot.of_below (belA (Below.refl _ _) _), ?_, fun k h => Or.imp (fun h => ⟨4, by decide, h⟩) id h⟩)
      show kSGoal.R _ _ (if _ then _ else _) [firstG t]
      rw [if_pos rfl]
      exact Kd.R_of_one kSGoal (heap_alloc_new W _) (.inr ⟨Nat.le_refl _, by simp⟩) (Kd.O_mono (Kd.O_below r4 (belA (Below.refl _ _) _)) (fun k h _ => ⟨.inl h, fun e => by have h1 := (hmi 4 k h).2; omega⟩))
    · intro a W own hfor huse hap hmi hF K hK
      have e0 : a.eval (.tmp 0) = .slice A9 t.length c9 := hfor 0 (by kernel_rfl)
      refine op_val (.slice A9 t.length c9) W rfl ?_ (hK _ _ (post_pure ?_))
      · clear hfor huse hap hmi hK hF
        generalize a.eval = ρ at *
        go_simp
      · exact (if_pos rfl)
    · intro a W own hfor huse hap hmi hF K hK
      have e13 : a.eval (.tmp 13) = .slice A9 t.length c9 := huse 6 (by kernel_rfl)
      have efn : a.eval (.func 42) = .func (.func 42) #[] #[] := rfl
      refine op_call (f := 42) (args := #[.slice A9 t.length c9]) (fun v w1 => kInt.R w1 (fun k => W.heap.size ≤ k) v (free t) ∧ Below W.heap.size W w1) rfl ?_ ?_ (fun v w1 h => ?_)
      · clear hfor huse hap hmi hK hF
        generalize a.eval = ρ at *
        go_simp
      · exact (TrmFree_c _ t ok W (foot_V0 hF hnT V0.out (by decide))).mono (by rintro e w1 ⟨u, rfl, h1, h2⟩; exact ⟨_, rfl, h1, h2⟩)
      · obtain ⟨h1, h2⟩ := h
        exact hK _ _ (post_new h2 (by show kInt.R _ _ (if _ then _ else _) (free t); rw [if_pos rfl]; exact Kd.R_mono h1 (fun k h3 h4 => ⟨h3, h4⟩)))
    · intro a W own hfor huse hap hmi hF K hK
      have r7 : kInt.R W (own 7) (a.eval (.tmp 14)) (free t) := huse 7 (by kernel_rfl)
      obtain ⟨A7, n7, e14, -, -⟩ := Kd.R_form r7
      rw [e14] at r7
      refine op_val (.int .i64 (free t).length) W rfl ?_ (hK _ _ (post_pure ?_))
      · clear hfor huse hap hmi hK hF
        generalize a.eval = ρ at *
        go_simp
      · exact (if_pos rfl)
    · intro a W own hfor huse hap hmi hF K hK
      refine op_val (.slice (some ⟨W.heap.size, 0, none⟩) 0 0) (W.alloc (.cells #[] kCell.ty)) rfl ?_ (hK _ _ (post_new (belA (Below.refl _ _) _) ?_))
      · clear hfor huse hap hmi hK hF
        generalize a.eval = ρ at *
        go_simp
        try rfl
      · show kCell.R _ _ (if _ then _ else _) []
        rw [if_pos rfl]
        exact Kd.R_mono (Kd.R_empty (w := W) kCell (Nat.le_refl _)) (fun k h1 h2 => ⟨h1, h2⟩)
    · intro a W own hfor huse hap hmi hF K hK
      have e0 : a.eval (.tmp 0) = .slice A9 t.length c9 := hfor 0 (by kernel_rfl)
      refine op_val (.slice A9 t.length c9) W rfl ?_ (hK _ _ (post_pure ?_))
      · clear hfor huse hap hmi hK hF
        generalize a.eval = ρ at *
        go_simp
      · exact (if_pos rfl)
    · intro a W own hfor huse hap hmi hF K hK
      have e17 : a.eval (.tmp 17) = .slice A9 t.length c9 := huse 10 (by kernel_rfl)
      have r0 : kCell.R W (own 9) (a.eval (.tmp 16)) [] := huse 9 (by kernel_rfl)
      have hV := foot_V0 hF hnT V0.out (by decide)
      refine step_cells rfl (.tmp 16) (.tmp 17) rfl rfl e17 r0 hV ?_ ?_ (fun v1 w1 hR hF1 => hK _ _ ⟨fun k => own 9 k ∨ (W.heap.size ≤ k ∧ k < w1.heap.size), Foot.mono hF1 (fun k h => ⟨9, by decide, h⟩), ?_, fun k h => Or.imp (fun h => ⟨9, by decide, h⟩) id h⟩)
      · exact fun k h1 h2 => by have h3 := (hmi 9 k h2).1; have h4 := HOK.out k h1; have z0 := Z1.out; (try simp only [] at h3); omega
      · have := LT.out; simpa using this
      · show kCell.R _ _ (if _ then _ else _) t
        rw [if_pos rfl]
        exact hR
    · intro a W own hfor huse hap hmi hF K hK
      have e15 : a.eval (.tmp 15) = .int .i64 (free t).length := huse 8 (by kernel_rfl)
      have r5 : kSGoal.R W (own 5) (a.eval (.tmp 12)) [firstG t] := huse 5 (by kernel_rfl)
      obtain ⟨A5, n5, e12, -, -⟩ := Kd.R_form r5
      rw [e12] at r5
      have r11 : kCell.R W (own 11) (a.eval (.tmp 18)) t := huse 11 (by kernel_rfl)
      obtain ⟨A11, n11, e18, -, -⟩ := Kd.R_form r11
      rw [e18] at r11
      have e12 : a.eval (.tmp 12) = .slice A5 1 n5 := e12
      have ec : a.eval (.const (.int .i64 1)) = .int .i64 1 := rfl
      refine op_val (.agg #[.int .i64 1, .slice A5 1 n5, .slice none 0 0, .int .i64 (free t).length, .slice none 0 0, .slice A11 t.length n11, .slice none 0 0]) W rfl ?_ (hK _ _ ⟨fun k => own 5 k ∨ own 11 k, Foot.refl _ _, ⟨[.int .i64 1, .slice A5 1 n5, .slice none 0 0, .int .i64 (free t).length, .slice none 0 0, .slice A11 t.length n11, .slice none 0 0], if_pos rfl, kSState_new r5 r11 (fun k h1 h2 => by have := hap 5 11 k h1 h2; omega)⟩, ?_⟩)
      · clear hfor huse hap hmi hK hF
        generalize a.eval = ρ at *
        go_simp
      · intro k h
        left
        rcases h with h | h
        · exact ⟨5, by decide, h⟩
        · exact ⟨11, by decide, h⟩
    · intro a W own hfor huse hap hmi hF K hK
      obtain ⟨g, e2, hb, hSg⟩ := (huse 14 (by kernel_rfl) : onBox 2 #[.int .i64 0, .slice none 0 0, .slice none 0 0, .int .i64 0, .slice none 0 0, .slice none 0 0, .slice none 0 0] 42 (slotsOf a) (own 14) W)
      have e2 : a.eval (.tmp 2) = .pointer (some ⟨g, 0, none⟩) := e2
      obtain ⟨cs12, e19, r12⟩ := (huse 12 (by kernel_rfl) : onO kSState 19 (⟨1, [firstG t], [], (free t).length, [], t, []⟩ : SState) (slotsOf a) (own 12) W)
      have e19 : a.eval (.tmp 19) = .agg cs12.toArray := e19
      have hlen := kSState.K_len (kSState.O_K r12)
      refine step_store rfl 42 (.tmp 2) (.tmp 19) rfl e2 e19 hb (by rw [hlen]; kernel_rfl) (by rw [hlen]; rfl) (kSState.K_one (kSState.O_K r12)) (fun w1 hb1 hF1 => hK _ _ ⟨fun k => own 14 k ∨ own 12 k, Foot.mono hF1 (fun k e => ⟨14, by decide, e ▸ hSg⟩), ?_, ?_⟩)
      · exact ⟨g, cs12, e2, hb1, .inl hSg, Kd.O_mono (hF1.O r12 (fun k h1 h2 => by have := hap 14 12 g hSg (h2 ▸ h1); omega)) (fun k h _ => ⟨.inr h, fun e => by have := hap 14 12 g hSg (e ▸ h); omega⟩)⟩
      · intro k h
        left
        rcases h with h | h
        · exact ⟨14, by decide, h⟩
        · exact ⟨12, by decide, h⟩
    intro a' W own hf
    have hsz := hf.st.size
    have hdf := hf.st.rest
    obtain ⟨⟨l⟩, df⟩ := a'
    have hl0 : l.length = 20 := hsz
    clear hsz
    obtain rfl : df = [] := hdf
    obtain ⟨x0, l0, rfl, hl1⟩ := lst_cons hl0
    clear hl0
    obtain ⟨x1, l1, rfl, hl2⟩ := lst_cons hl1
    clear hl1
    obtain ⟨x2, l2, rfl, hl3⟩ := lst_cons hl2
    clear hl2
    obtain ⟨x3, l3, rfl, hl4⟩ := lst_cons hl3
    clear hl3
    obtain ⟨x4, l4, rfl, hl5⟩ := lst_cons hl4
    clear hl4
    obtain ⟨x5, l5, rfl, hl6⟩ := lst_cons hl5
    clear hl5
    obtain ⟨x6, l6, rfl, hl7⟩ := lst_cons hl6
    clear hl6
    obtain ⟨x7, l7, rfl, hl8⟩ := lst_cons hl7
    clear hl7
    obtain ⟨x8, l8, rfl, hl9⟩ := lst_cons hl8
    clear hl8
    obtain ⟨x9, l9, rfl, hl10⟩ := lst_cons hl9
    clear hl9
    obtain ⟨x10, l10, rfl, hl11⟩ := lst_cons hl10
    clear hl10
    obtain ⟨x11, l11, rfl, hl12⟩ := lst_cons hl11
    clear hl11
    obtain ⟨x12, l12, rfl, hl13⟩ := lst_cons hl12
    clear hl12
    obtain ⟨x13, l13, rfl, hl14⟩ := lst_cons hl13
    clear hl13
    obtain ⟨x14, l14, rfl, hl15⟩ := lst_cons hl14
    clear hl14
    obtain ⟨x15, l15, rfl, hl16⟩ := lst_cons hl15
    clear hl15
    obtain ⟨x16, l16, rfl, hl17⟩ := lst_cons hl16
    clear hl16
    obtain ⟨x17, l17, rfl, hl18⟩ := lst_cons hl17
    clear hl17
    obtain ⟨x18, l18, rfl, hl19⟩ := lst_cons hl18
    clear hl18
    obtain ⟨x19, l19, rfl, hl20⟩ := lst_cons hl19
    clear hl19
    obtain rfl := List.eq_nil_of_length_eq_zero hl20
    have e0 := hf.st.kept 0 (by kernel_rfl)
    simp only [slotsOf, Act.eval, Array.getD_eq_getD_getElem?, List.getElem?_toArray, List.getElem?_cons_zero, Option.getD_some] at e0
    subst e0
    have e2 := hf.st.kept 2 (by kernel_rfl)
    simp only [slotsOf, Act.eval, Array.getD_eq_getD_getElem?, List.getElem?_toArray, List.getElem?_cons_succ, List.getElem?_cons_zero, Option.getD_some] at e2
    subst e2
    obtain ⟨g, cs, h0, hb, hSg, hO⟩ := hf.at 13 (onPtr kSState 2 42 (⟨1, [firstG t], [], (free t).length, [], t, []⟩ : SState)) rfl (by kernel_rfl)
    have h0 : (Value.pointer (some ⟨w.heap.size, 0, none⟩)) = .pointer (some ⟨g, 0, none⟩) := h0
    obtain rfl : w.heap.size = g := by injection h0 with h0; injection h0 with h0; injection h0
    have HB := Sec.mk hb
    have hlen := kSState.K_len (kSState.O_K hO)
    have hlow : ∀ k, (own 13 k ∧ k ≠ w.heap.size) → w.heap.size ≤ k := fun k h => by have := hf.st.mine 13 k h.1; rcases this.1 with h1 | h1; (have := Z1.out; omega); (have h2 : k = w.heap.size := h1; omega)
    have HO := Sec.mk (kSState.O_mono hO (fun k h _ => hlow k h))
    have HF := Sec.mk (hf.st.foot.below B1.out (fun k h => Nat.le_of_eq (show k = w.heap.size from h).symm))
    clear hf hb hO hlow h0 hSg
    go_wp2
    refine bodyPost_ret (results_cell rfl rfl HB.out hu rfl (by rw [hlen]; kernel_rfl)) rfl ⟨_, rfl, ?_, ?_⟩
    · rw [hn.out]; exact HO.out
    · exact HF.out
end
section
open Go.RowKit
set_option linter.unusedVariables false
set_option maxRecDepth 100000
theorem kSState_O {w : World} {S : Nat → Prop} {x : SState} {cs : List Value} (h : kSState.O w S x cs) : ∃ v1 v2 v4 v5 v6, ∃ S1 S5 : Nat → Prop, cs = [.int .i64 x.status, v1, v2, .int .i64 x.vars, v4, v5, v6] ∧ kSGoal.R w S1 v1 x.goals ∧ kCell.R w S5 v5 x.top ∧ (∃ A c, v2 = .slice A x.binds.length c) ∧ (∃ A c, v4 = .slice A x.choices.length c) ∧ (∃ A c, v6 = .slice A x.out.length c) ∧ (∀ k, S1 k → S k ∧ ¬ S5 k) ∧ (∀ k, S5 k → S k) := by
  obtain ⟨_, Sa, _, _, rfl, -, da, ⟨rfl, -⟩, S1, Sb, _, _, rfl, d1, db, ⟨v1, rfl, h1⟩, S2, Sc, _, _, rfl, -, dc, ⟨v2, rfl, h2⟩, _, Sd, _, _, rfl, -, dd, ⟨rfl, -⟩, S4, Se, _, _, rfl, -, de, ⟨v4, rfl, h4⟩, S5, S6, _, _, rfl, d5, -, ⟨v5, rfl, h5⟩, ⟨v6, rfl, h6⟩⟩ := h
  have g2 : ∃ A c, v2 = .slice A x.binds.length c := by obtain ⟨A, c, e, -⟩ := Kd.R_form h2; exact ⟨A, c, e⟩
  have g4 : ∃ A c, v4 = .slice A x.choices.length c := by obtain ⟨A, c, e, -⟩ := Kd.R_form h4; exact ⟨A, c, e⟩
  have g6 : ∃ A c, v6 = .slice A x.out.length c := by obtain ⟨A, c, e, -⟩ := Kd.R_form h6; exact ⟨A, c, e⟩
  exact ⟨v1, v2, v4, v5, v6, S1, S5, rfl, h1, h5, g2, g4, g6, fun k h => ⟨da k (d1 k h).1, fun e => (d1 k h).2 (dc k (dd k (de k (d5 k e).1)))⟩, fun k e => da k (db k (dc k (dd k (de k (d5 k e).1))))⟩
end
section
open Go.RowKit
set_option linter.unusedVariables false
/-- What a law's row says of its bytes. -/
def CodeRow (w : World) (a : Option Addr) (len cap : Nat) (zs : List Int) : Prop :=
  (a = none ∧ len = 0 ∧ cap = 0 ∧ zs = []) ∨
  ∃ x, a = some x ∧ len ≤ cap ∧ cap ≤ maxLen ∧ zs.length = cap ∧ (∀ i, i < zs.length → w.cell? (x.add i) = some (.int .u8 (zs.getD i 0))) ∧ ∀ n ∈ zs, (Lit.int .u8 n).wf = true
theorem CodeRow.view {w : World} {a : Option Addr} {len cap : Nat} {zs : List Int} (h : CodeRow w a len cap zs) (hl : len ≤ 1073741824) : ∃ bs : List UInt8, bs.length = len ∧ kByte.V w (fun _ => True) (.slice a len cap) bs := by
  rcases h with ⟨rfl, rfl, rfl, rfl⟩ | ⟨x, rfl, h1, h2, h3, h4, h5⟩
  · exact ⟨[], rfl, Kd.V_nil _ _ _⟩
  · have hlen : ((zs.take len).map u8).length = len := by rw [List.length_map, List.length_take]; omega
    refine ⟨(zs.take len).map u8, hlen, some x, cap, by rw [hlen], by omega, h2, by omega, ?_, fun e => by cases e⟩
    by_cases h0 : len = 0
    · exact .inl (by subst h0; simp)
    · have hs : x.spot = none := by
        have := World.cell?_spot (h4 0 (by omega))
        simpa [Addr.add] using this
      obtain ⟨b, off, spot⟩ := x
      simp only at hs
      subst hs
      refine .inr ⟨b, off, rfl, trivial, fun i y hy => ?_⟩
      have hi : i < len := by have := (List.getElem?_eq_some_iff.1 hy).1; omega
      have hz : i < zs.length := by omega
      refine ⟨[byteC y], ⟨rfl, trivial⟩, fun j u hu => ?_⟩
      have hj : j = 0 := by
        have := (List.getElem?_eq_some_iff.1 hu).1
        simp at this; omega
      subst hj
      obtain rfl : byteC y = u := by simpa using hu
      have hc := h4 i hz
      have hwf := h5 _ (List.getElem_mem hz)
      rw [List.getElem?_map, List.getElem?_take, if_pos hi, List.getElem?_eq_getElem hz] at hy
      obtain rfl : u8 zs[i] = y := by simpa using hy
      have e1 : (⟨b, off, none⟩ : Addr).add i = ⟨b, off + (i * kByte.sz + 0), none⟩ := by
        have : kByte.sz = 1 := rfl
        rw [this]
        unfold Addr.add
        split
        · next h => subst h; simp
        · simp
      rw [e1] at hc
      show w.cell? ⟨b, off + (i * kByte.sz + 0), none⟩ = _
      rw [hc, List.getD_eq_getElem?_getD, List.getElem?_eq_getElem hz]
      have hr : 0 ≤ zs[i] ∧ zs[i] < 256 := by
        simp [Lit.wf, IntKind.min, IntKind.max, IntKind.bits, IntKind.signed] at hwf
        omega
      simp only [Option.getD_some, byteC, u8_toNat]
      rw [Int.emod_eq_of_lt hr.1 hr.2]
end
section
open Go.RowKit
set_option linter.unusedVariables false
set_option maxRecDepth 100000
theorem run_status (st vs : Int) (q1 q2 q4 q5 q6 : Value) (w : World) : Sem.run Tryz.prog (Instr.field 42 (.agg #[.int .i64 st, q1, q2, .int .i64 vs, q4, q5, q6]) 0) w = Result.ok (.int .i64 st) w := by
  first | rfl | kernel_rfl
set_option maxHeartbeats 16000000 in
theorem FnWldNew_law_c (a : Option Addr) (len cap : Nat) (zs : List Int) (w0 : World) (hr : CodeRow w0 a len cap zs) :
    Calls Tryz.prog 3 #[.slice a len cap] w0 fun e w' => e = .returned (.bool true) ∧ Below w0.heap.size w0 w' := by
  have hu := Tryz.underlying26
  have hu2 := Tryz.underlying48
  have hu3 := Tryz.underlying34
  have hu4 := Tryz.underlying42
  have hu5 := fun st vs q1 q2 q4 q5 q6 w => run_status st vs q1 q2 q4 q5 q6 w
  by_cases hl : len ≤ 1048576
  · obtain ⟨code, rfl, hV⟩ := hr.view (by omega)
    have H0 := Sec.mk (DrawWldNew_c w0 _ code _ hV)
    have ql : decide ((code.length : Int) > 1048576) = false := decide_eq_false (by omega)
    clear hV hr
    go_enter Tryz.func3, Tryz.ntmps3
    go_wp2_with fail
    refine H0.out.mono ?_
    rintro e w1 ⟨p, cs, u, t, rfl, hO, hT, hb⟩
    obtain ⟨A1, m1, A2, m2, rfl, -, -⟩ := kp_V (kProg.O_K hO)
    obtain ⟨A9, c9, rfl, -, -⟩ := Kd.R_form hT
    have HB1 := belA (Below.refl w1.heap.size w1) (.cells #[.slice A1 p.clauses.length m1, .slice A2 p.places.length m2] 26)
    have BX := Sec.mk (bel hb HB1)
    have XB := Sec.mk (heap_alloc_new w1 (.cells #[.slice A1 p.clauses.length m1, .slice A2 p.places.length m2] 26))
    obtain ⟨ok, hok⟩ : ∃ ok : Nat → Prop, ok = fun k => w0.heap.size ≤ k := ⟨_, rfl⟩
    have KX0 := Sec.mk (Kd.K_below (kProg.O_K hO) HB1)
    have VT0 := Sec.mk (Kd.V_below (Kd.R_V hT) HB1 (by decide))
    rw [← hok] at KX0 VT0
    have X9 := (box_at XB.out).2.1
    have y0 := X9 0 _ rfl
    have y1 := X9 1 _ rfl
    clear hO hT hb HB1 H0 hok X9
    go_wp2_with (fail)
    generalize w1.alloc (.cells #[.slice A1 p.clauses.length m1, .slice A2 p.places.length m2] 26) = wx at *
    generalize w1.heap.size = X at *
    refine (WldNew_i p _ _ t _ _ wx KX0.out VT0.out).mono ?_
    rintro e w3 ⟨c, rfl, hO3, hb3⟩
    obtain ⟨x, hx⟩ : ∃ x, newW p t = x := ⟨_, rfl⟩
    rw [hx] at hO3
    have HX := Sec.mk hx
    obtain ⟨v0, v1, v2, v3, rfl, hp, hn, ht⟩ := kW0_K (kW0.O_K hO3)
    obtain ⟨D0, n0, D1, n1, hc, -, -⟩ := kp_V hp
    simp only [List.cons.injEq, and_true] at hc
    obtain ⟨rfl, rfl⟩ := hc
    obtain ⟨Da, nx, rfl, -⟩ := hn
    obtain ⟨Db, n2, rfl, -⟩ := ht
    have HB4 := belA (Below.refl w3.heap.size w3) (.cells #[.slice D0 x.prog.clauses.length n0, .slice D1 x.prog.places.length n1, .slice Da x.nodes.length nx, .slice Db x.top.length n2, .slice none 0 0, .slice none 0 0] 34)
    have B4 := Sec.mk (bel BX.out (bel hb3 HB4))
    have X4 := Sec.mk (((bel hb3 HB4).block _ (Array.getElem?_eq_some_iff.1 XB.out).1).trans XB.out)
    have Y4 := Sec.mk (heap_alloc_new w3 (.cells #[.slice D0 x.prog.clauses.length n0, .slice D1 x.prog.places.length n1, .slice Da x.nodes.length nx, .slice Db x.top.length n2, .slice none 0 0, .slice none 0 0] 34))
    have KX := Sec.mk (Kd.K_below KX0.out (bel hb3 HB4))
    have VT := Sec.mk (Kd.V_below VT0.out (bel hb3 HB4) (by decide))
    obtain ⟨ok2, hok2⟩ : ∃ ok2 : Nat → Prop, ok2 = fun k => wx.heap.size ≤ k := ⟨_, rfl⟩
    have KY := Sec.mk (Kd.K_below (kW0.O_K hO3) HB4)
    rw [← hok2] at KY
    clear hO3 hb3 HB4 KX0 VT0 XB BX hok2 hp hx y0 y1
    go_wp2
    generalize w3.alloc (.cells #[.slice D0 x.prog.clauses.length n0, .slice D1 x.prog.places.length n1, .slice Da x.nodes.length nx, .slice Db x.top.length n2, .slice none 0 0, .slice none 0 0] 34) = wr at *
    generalize w3.heap.size = Y at *
    have X0 := Sec.mk ((box_at X4.out).2.1 0 _ rfl)
    have X1 := Sec.mk ((box_at X4.out).2.1 1 _ rfl)
    have Y0 := Sec.mk ((box_at Y4.out).2.1 0 _ rfl)
    have Y1 := Sec.mk ((box_at Y4.out).2.1 1 _ rfl)
    have Y2 := Sec.mk ((box_at Y4.out).2.1 2 _ rfl)
    have Y3 := Sec.mk ((box_at Y4.out).2.1 3 _ rfl)
    have Y4' := Sec.mk ((box_at Y4.out).2.1 4 _ rfl)
    have Y5' := Sec.mk ((box_at Y4.out).2.1 5 _ rfl)
    refine wp_region_lists [[18], [19], [20], [21], [22], [23]]
      [fun val _ _ => val 18 = .agg #[.slice D0 x.prog.clauses.length n0, .slice D1 x.prog.places.length n1, .slice Da x.nodes.length nx, .slice Db x.top.length n2, .slice none 0 0, .slice none 0 0],
        fun val _ _ => val 19 = .agg #[.slice A1 p.clauses.length m1, .slice A2 p.places.length m2],
        fun val _ _ => val 20 = .slice A9 t.length c9,
        onO kW0 21 (newW p t),
        fun val _ _ => val 22 = .bool true,
        fun val _ _ => val 23 = .bool false]
      [[], [], [], [], [], []] 0 (fun _ => False) (fun _ _ => False) (by kernel_rfl) ⟨by kernel_rfl, by kernel_rfl, by kernel_rfl, by kernel_rfl, by kernel_rfl⟩
      (.cons (stab_val 18 (fun v => v = .agg #[.slice D0 x.prog.clauses.length n0, .slice D1 x.prog.places.length n1, .slice Da x.nodes.length nx, .slice Db x.top.length n2, .slice none 0 0, .slice none 0 0])) (.cons (stab_val 19 (fun v => v = .agg #[.slice A1 p.clauses.length m1, .slice A2 p.places.length m2])) (.cons (stab_val 20 (fun v => v = .slice A9 t.length c9)) (.cons (stab_O kW0 21 (newW p t)) (.cons (stab_val 22 (fun v => v = .bool true)) (.cons (stab_val 23 (fun v => v = .bool false)) .nil))))))
      (fun i j k h1 h2 => h1.elim) (fun i k h => h.elim) (fun i h1 h2 => by simp at h1 h2; omega) (.cons ?_ (.cons ?_ (.cons ?_ (.cons ?_ (.cons ?_ (.cons ?_ .nil)))))) ?_
    · intro a W own hfor huse hap hmi hF K hK
      have e5 : a.eval (.tmp 5) = .pointer (some ⟨Y, 0, none⟩) := hfor 5 (by kernel_rfl)
      have c0 := foot_cell hF (fun h => h) Y0.out
      have c1 := foot_cell hF (fun h => h) Y1.out
      have c2 := foot_cell hF (fun h => h) Y2.out
      have c3 := foot_cell hF (fun h => h) Y3.out
      have c4 := foot_cell hF (fun h => h) Y4'.out
      have c5 := foot_cell hF (fun h => h) Y5'.out
      refine op_val (.agg #[.slice D0 x.prog.clauses.length n0, .slice D1 x.prog.places.length n1, .slice Da x.nodes.length nx, .slice Db x.top.length n2, .slice none 0 0, .slice none 0 0]) W rfl ?_ (hK _ _ (post_pure ?_))
      · clear hfor huse hap hmi hK hF
        generalize a.eval = ρ at *
        go_simp
      · exact (if_pos rfl)
    · intro a W own hfor huse hap hmi hF K hK
      have e3 : a.eval (.tmp 3) = .pointer (some ⟨X, 0, none⟩) := hfor 3 (by kernel_rfl)
      have c0 := foot_cell hF (fun h => h) X0.out
      have c1 := foot_cell hF (fun h => h) X1.out
      refine op_val (.agg #[.slice A1 p.clauses.length m1, .slice A2 p.places.length m2]) W rfl ?_ (hK _ _ (post_pure ?_))
      · clear hfor huse hap hmi hK hF
        generalize a.eval = ρ at *
        go_simp
      · exact (if_pos rfl)
    · intro a W own hfor huse hap hmi hF K hK
      have e4 : a.eval (.tmp 4) = .slice A9 t.length c9 := hfor 4 (by kernel_rfl)
      refine op_val (.slice A9 t.length c9) W rfl ?_ (hK _ _ (post_pure ?_))
      · clear hfor huse hap hmi hK hF
        generalize a.eval = ρ at *
        go_simp
      · exact (if_pos rfl)
    · intro a W own hfor huse hap hmi hF K hK
      have e19 : a.eval (.tmp 19) = .agg #[.slice A1 p.clauses.length m1, .slice A2 p.places.length m2] := huse 1 (by kernel_rfl)
      have e20 : a.eval (.tmp 20) = .slice A9 t.length c9 := huse 2 (by kernel_rfl)
      have hkx := kProg.K_move (show Keeps wr W ok ok from fun q h1 h2 => ⟨h1, hF.block q h2 (fun h => h)⟩) KX.out
      have hvt := foot_V hF (fun _ _ h => h) VT.out (by decide)
      have efn : a.eval (.func 8) = .func (.func 8) #[] #[] := rfl
      refine op_call (f := 8) (args := #[.agg #[.slice A1 p.clauses.length m1, .slice A2 p.places.length m2], .slice A9 t.length c9]) (fun v w1 => ∃ c : List Value, v = .agg c.toArray ∧ kW0.O w1 (fun k => W.heap.size ≤ k) (newW p t) c ∧ Below W.heap.size W w1) rfl ?_ ?_ (fun v w1 h => ?_)
      · clear hfor huse hap hmi hK hF
        generalize a.eval = ρ at *
        go_simp
      · exact (WldNew_c p _ _ t _ _ W hkx hvt).mono (by rintro e w1 ⟨c, rfl, h1, h2⟩; exact ⟨_, rfl, c, rfl, h1, h2⟩)
      · obtain ⟨c, rfl, h1, h2⟩ := h
        exact hK _ _ (post_new h2 ⟨c, if_pos rfl, kW0.O_mono h1 (fun k h3 h4 => ⟨h3, h4⟩)⟩)
    · intro a W own hfor huse hap hmi hF K hK
      have e18 : a.eval (.tmp 18) = .agg #[.slice D0 x.prog.clauses.length n0, .slice D1 x.prog.places.length n1, .slice Da x.nodes.length nx, .slice Db x.top.length n2, .slice none 0 0, .slice none 0 0] := huse 0 (by kernel_rfl)
      obtain ⟨cs3, e21, r3⟩ := (huse 3 (by kernel_rfl) : onO kW0 21 (newW p t) (slotsOf a) (own 3) W)
      have e21 : a.eval (.tmp 21) = .agg cs3.toArray := e21
      have hky := kW0.K_move (show Keeps wr W ok2 ok2 from fun q h1 h2 => ⟨h1, hF.block q h2 (fun h => h)⟩) KY.out
      rw [HX.out] at r3
      have efn : a.eval (.func 7) = .func (.func 7) #[] #[] := rfl
      refine op_call (f := 7) (args := #[.agg #[.slice D0 x.prog.clauses.length n0, .slice D1 x.prog.places.length n1, .slice Da x.nodes.length nx, .slice Db x.top.length n2, .slice none 0 0, .slice none 0 0], .agg cs3.toArray]) (fun v w1 => v = .bool true ∧ Below W.heap.size W w1) rfl ?_ ?_ (fun v w1 h => ?_)
      · clear hfor huse hap hmi hK hF
        generalize a.eval = ρ at *
        go_simp
      · exact (caWorld0_c x [.slice D0 x.prog.clauses.length n0, .slice D1 x.prog.places.length n1, .slice Da x.nodes.length nx, .slice Db x.top.length n2, .slice none 0 0, .slice none 0 0] cs3 _ _ W hky (kW0.O_K r3)).mono (by rintro e w1 ⟨rfl, h2⟩; exact ⟨_, rfl, rfl, h2⟩)
      · obtain ⟨rfl, h2⟩ := h
        exact hK _ _ (post_new h2 (if_pos rfl))
    · intro a W own hfor huse hap hmi hF K hK
      have e22 : a.eval (.tmp 22) = .bool true := huse 4 (by kernel_rfl)
      refine op_val (.bool false) W rfl ?_ (hK _ _ (post_pure ?_))
      · clear hfor huse hap hmi hK hF
        generalize a.eval = ρ at *
        go_simp
      · exact (if_pos rfl)
    intro a' W own hf
    have s1 := hf.st.size
    have s2 := hf.st.rest
    have s3 := fun t ht => hf.st.kept t ht
    revert hf
    revert a'
    refine lay_intro (df := []) [true, true, true, true, true, true, true, true, true, true, true, true, true, true, true, true, true, true, false, false, false, false, false, false, true, true, true, true, true, true, true, true, true, true, true, true, true, true, true, true, true, true, true, true, true, true, true, true, true, true, true, true, true, true, true, true, true, true, true, true, true, true, true, true, true, true, true, true, true, true, true, true, true, true, true, true, true, true] (by kernel_rfl) rfl ?_
    intro x23 x22 x21 x20 x19 x18 hf
    have e23 : x23 = .bool false := hf.at 5 (fun val _ _ => val 23 = .bool false) rfl (by kernel_rfl)
    subst e23
    have HF := Sec.mk hf.st.foot
    have BW := Sec.mk (HF.out.below (belD (Below.refl _ _)) (fun k h => h.elim))
    clear hf HF
    have B5 := Sec.mk (bel B4.out BW.out)
    have X5 := Sec.mk ((BW.out.block _ (Array.getElem?_eq_some_iff.1 X4.out).1).trans X4.out)
    have Y5 := Sec.mk ((BW.out.block _ (Array.getElem?_eq_some_iff.1 Y4.out).1).trans Y4.out)
    have KX5 := Sec.mk (Kd.K_below KX.out BW.out)
    have KY5 := Sec.mk (Kd.K_below KY.out BW.out)
    have VT5 := Sec.mk (Kd.V_below VT.out BW.out (by decide))
    clear B4 X4 Y4 KX KY VT X0 X1 Y0 Y1 Y2 Y3 Y4' Y5' BW
    have KX6 := Sec.mk (kProg.K_move (show Keeps W W ok (fun k => ok k ∧ k < W.heap.size) from fun k h1 h2 => ⟨⟨h1, h2⟩, rfl⟩) KX5.out)
    have z0 := (box_at X5.out).2.1 0 _ rfl
    have z1 := (box_at X5.out).2.1 1 _ rfl
    cases HQ : prgOk p with
    | false =>
      have hl0 : x.nodes.length = 0 := by rw [← HX.out]; unfold newW; rw [if_neg (by rw [HQ]; simp)]; rfl
      go_wp2_with fail
      refine (specPrgOk_c p _ _ W KX6.out (fun k h => h.2)).mono ?_
      rw [HQ]
      rintro e w6 ⟨rfl, hb6⟩
      have B6 := Sec.mk (bel B5.out hb6)
      have P6 := Sec.mk ((hb6.block _ (Array.getElem?_eq_some_iff.1 X5.out).1).trans X5.out)
      have Q6 := Sec.mk ((hb6.block _ (Array.getElem?_eq_some_iff.1 Y5.out).1).trans Y5.out)
      have KX9 := Sec.mk (Kd.K_below KX5.out hb6)
      have KY9 := Sec.mk (Kd.K_below KY5.out hb6)
      have VT9 := Sec.mk (Kd.V_below VT5.out hb6 (by decide))
      clear hb6 z0 z1 KX6 KX5 KY5 VT5 X5 Y5 B5
      have X9 := (box_at Q6.out).2.1
      have s2 := X9 2 _ rfl
      clear X9
      have d0 : (((x.nodes.length : Nat) : Int) == 0) = true := by rw [hl0]; rfl
      go_wp2_with (go_at_call 11; refine (caOk_c _).mono ?_; rintro e w9 ⟨rfl, hb⟩; have B9 := Sec.mk (bel B6.out hb); clear hb)
      go_ret
      exact ⟨rfl, B9.out⟩
    | true =>
      go_wp2_with fail
      refine (specPrgOk_c p _ _ W KX6.out (fun k h => h.2)).mono ?_
      rw [HQ]
      rintro e w6 ⟨rfl, hb6⟩
      have B6 := Sec.mk (bel B5.out hb6)
      have P6 := Sec.mk ((hb6.block _ (Array.getElem?_eq_some_iff.1 X5.out).1).trans X5.out)
      have Q6 := Sec.mk ((hb6.block _ (Array.getElem?_eq_some_iff.1 Y5.out).1).trans Y5.out)
      have KX9 := Sec.mk (Kd.K_below KX5.out hb6)
      have KY9 := Sec.mk (Kd.K_below KY5.out hb6)
      have VT9 := Sec.mk (Kd.V_below VT5.out hb6 (by decide))
      clear hb6 z0 z1 KX6 KX5 KY5 VT5 X5 Y5 B5
      cases HT : question t with
      | false =>
        have hl0 : x.nodes.length = 0 := by rw [← HX.out]; unfold newW; rw [if_neg (by rw [HT]; simp)]; rfl
        go_wp2_with fail
        refine (SlvNew_c _ t _ w6 VT9.out).mono ?_
        rintro e w7 ⟨c7, rfl, hO7, hb⟩
        obtain ⟨q1, q2, q4, q5, q6, -, -, hc7, -⟩ := kSState_O hO7
        have hs7 : (newS t).status = 0 := by unfold newS; rw [HT]; rfl
        rw [hs7] at hc7
        subst hc7
        clear hO7 hs7
        have B7 := Sec.mk (bel B6.out hb)
        have P7 := Sec.mk ((hb.block _ (Array.getElem?_eq_some_iff.1 P6.out).1).trans P6.out)
        have Q7 := Sec.mk ((hb.block _ (Array.getElem?_eq_some_iff.1 Q6.out).1).trans Q6.out)
        have KX8 := Sec.mk (Kd.K_below KX9.out hb)
        have KY8 := Sec.mk (Kd.K_below KY9.out hb)
        have VT8 := Sec.mk (Kd.V_below VT9.out hb (by decide))
        clear hb KX9 KY9 VT9 P6 Q6 B6
        have X9 := (box_at Q7.out).2.1
        have s2 := X9 2 _ rfl
        clear X9
        have d0 : (((x.nodes.length : Nat) : Int) == 0) = true := by rw [hl0]; rfl
        go_wp2_with (go_at_call 11; refine (caOk_c _).mono ?_; rintro e w9 ⟨rfl, hb⟩; have B9 := Sec.mk (bel B7.out hb); clear hb)
        go_ret
        exact ⟨rfl, B9.out⟩
      | true =>
        go_wp2_with fail
        refine (SlvNew_c _ t _ w6 VT9.out).mono ?_
        rintro e w7 ⟨c7, rfl, hO7, hb⟩
        obtain ⟨q1, q2, q4, q5, q6, -, -, hc7, -⟩ := kSState_O hO7
        have hs7 : (newS t).status = 1 := by unfold newS; rw [HT]; rfl
        rw [hs7] at hc7
        subst hc7
        clear hO7 hs7
        have B7 := Sec.mk (bel B6.out hb)
        have P7 := Sec.mk ((hb.block _ (Array.getElem?_eq_some_iff.1 P6.out).1).trans P6.out)
        have Q7 := Sec.mk ((hb.block _ (Array.getElem?_eq_some_iff.1 Q6.out).1).trans Q6.out)
        have KX8 := Sec.mk (Kd.K_below KX9.out hb)
        have KY8 := Sec.mk (Kd.K_below KY9.out hb)
        have VT8 := Sec.mk (Kd.V_below VT9.out hb (by decide))
        clear hb KX9 KY9 VT9 P6 Q6 B6
        have hx3 : x = ⟨p, List.replicate 3 (), t⟩ := by rw [← HX.out]; exact if_pos (by rw [HQ, HT]; rfl)
        have HXP : Sec (x.prog = p) := ⟨by rw [hx3]⟩
        have HXT : Sec (x.top = t) := ⟨by rw [hx3]⟩
        have H3 : Sec (x.nodes.length = 3) := ⟨by rw [hx3]; rfl⟩
        have HQS := Sec.mk HQ
        have HTS := Sec.mk HT
        clear hx3 HX HQ HT
        go_wp2_with fail
        generalize hw7 : w7 = wq at *
        clear hw7
        go_loopw [6] (fun iv wr => ∃ k : Nat, k ≤ 3 ∧ iv = .int .i64 k ∧ Sec (Below wq.heap.size wq wr)) (fun iv _ => 3 - (intOf iv).toNat)
        case atStart => exact ⟨0, by omega, rfl, ⟨Below.refl _ _⟩⟩
        case round =>
          obtain ⟨k, hk, rfl, hbq⟩ := hrel
          have KXr := Sec.mk (Kd.K_below KX8.out hbq.out)
          have KYr := Sec.mk (Kd.K_below KY8.out hbq.out)
          have VTr := Sec.mk (Kd.V_below VT8.out hbq.out (by decide))
          have P0 := Sec.mk ((hbq.out.block _ (Array.getElem?_eq_some_iff.1 P7.out).1).trans P7.out)
          have Q0 := Sec.mk ((hbq.out.block _ (Array.getElem?_eq_some_iff.1 Q7.out).1).trans Q7.out)
          have B0 := Sec.mk (bel B7.out hbq.out)
          have X9 := (box_at P0.out).2.1
          have z0 := X9 0 _ rfl
          have z1 := X9 1 _ rfl
          clear X9
          have X9 := (box_at Q0.out).2.1
          have s0 := X9 0 _ rfl
          have s1 := X9 1 _ rfl
          have s2 := X9 2 _ rfl
          have s3 := X9 3 _ rfl
          have s4 := X9 4 _ rfl
          have s5 := X9 5 _ rfl
          clear X9
          by_cases hlt : k < 3
          · have d1 : decide ((k : Int) < 3) = true := decide_eq_true (by omega)
            obtain ⟨v0, v1, v2, v3, hcs, -, hn, -⟩ := kW0_K KYr.out
            simp only [List.cons.injEq, and_true] at hcs
            obtain ⟨-, -, h2, -⟩ := hcs
            rw [← h2] at hn
            have hC := Kd.V_C hn
            obtain ⟨b, off, cs, rfl, hob, hK, hc⟩ := Kd.C_get hC (List.getElem?_eq_getElem (i := k) (by rw [H3.out]; exact hlt))
            obtain rfl : cs = [.bool true, .slice none 0 0] := hK
            have N0 : Sec (wr.cell? ⟨b, off + k * 2, none⟩ = some (.bool true)) := ⟨hc 0 _ rfl⟩
            have N1 : Sec (wr.cell? ⟨b, off + k * 2 + 1, none⟩ = some (.slice none 0 0)) := ⟨hc 1 _ rfl⟩
            have S2 := Sec.mk s2
            have i0 : (0 : Int) ≤ (k : Int) := by omega
            have i1 : (k : Int) < (x.nodes.length : Int) := by rw [H3.out]; omega
            clear hc hC hn h2
            go_wp2
            refine wp_region_lists [[44], [45], [46], [47], [48], [49], [50], [51]]
              [fun val _ _ => val 44 = .pointer (some ⟨Y, 2, none⟩),
                fun val _ _ => val 45 = .slice (some ⟨b, off, none⟩) x.nodes.length nx,
                fun val _ _ => val 46 = .int .i64 k,
                fun val _ _ => val 47 = .pointer (some ⟨b, off + k * 2, none⟩),
                fun val _ _ => val 48 = .agg #[.bool true, .slice none 0 0],
                fun val _ _ => val 49 = .agg #[.bool true, .slice none 0 0],
                fun val _ _ => val 50 = .bool true,
                fun val _ _ => val 51 = .bool false]
              [[], [], [], [], [], [], [], []] 0 (fun _ => False) (fun _ _ => False) (by kernel_rfl) ⟨by kernel_rfl, by kernel_rfl, by kernel_rfl, by kernel_rfl, by kernel_rfl⟩
              (.cons (stab_val 44 (fun v => v = .pointer (some ⟨Y, 2, none⟩))) (.cons (stab_val 45 (fun v => v = .slice (some ⟨b, off, none⟩) x.nodes.length nx)) (.cons (stab_val 46 (fun v => v = .int .i64 k)) (.cons (stab_val 47 (fun v => v = .pointer (some ⟨b, off + k * 2, none⟩))) (.cons (stab_val 48 (fun v => v = .agg #[.bool true, .slice none 0 0])) (.cons (stab_val 49 (fun v => v = .agg #[.bool true, .slice none 0 0])) (.cons (stab_val 50 (fun v => v = .bool true)) (.cons (stab_val 51 (fun v => v = .bool false)) .nil))))))))
              (fun i j k h1 h2 => h1.elim) (fun i k h => h.elim) (fun i h1 h2 => by simp at h1 h2; omega) (.cons ?_ (.cons ?_ (.cons ?_ (.cons ?_ (.cons ?_ (.cons ?_ (.cons ?_ (.cons ?_ .nil)))))))) ?_
            · intro a W own hfor huse hap hmi hF K hK
              have e5 : a.eval (.tmp 5) = .pointer (some ⟨Y, 0, none⟩) := hfor 5 (by kernel_rfl)
              refine op_val (.pointer (some ⟨Y, 2, none⟩)) W rfl ?_ (hK _ _ (post_pure ?_))
              · clear hfor huse hap hmi hK hF
                generalize a.eval = ρ at *
                go_simp
              · exact (if_pos rfl)
            · intro a W own hfor huse hap hmi hF K hK
              have e44 : a.eval (.tmp 44) = .pointer (some ⟨Y, 2, none⟩) := huse 0 (by kernel_rfl)
              have c0 := foot_cell hF (fun h => h) S2.out
              refine op_val (.slice (some ⟨b, off, none⟩) x.nodes.length nx) W rfl ?_ (hK _ _ (post_pure ?_))
              · clear hfor huse hap hmi hK hF
                generalize a.eval = ρ at *
                go_simp
              · exact (if_pos rfl)
            · intro a W own hfor huse hap hmi hF K hK
              have e6 : a.eval (.tmp 6) = .int .i64 k := hfor 6 (by kernel_rfl)
              refine op_val (.int .i64 k) W rfl ?_ (hK _ _ (post_pure ?_))
              · clear hfor huse hap hmi hK hF
                generalize a.eval = ρ at *
                go_simp
              · exact (if_pos rfl)
            · intro a W own hfor huse hap hmi hF K hK
              have e45 : a.eval (.tmp 45) = .slice (some ⟨b, off, none⟩) x.nodes.length nx := huse 1 (by kernel_rfl)
              have e46 : a.eval (.tmp 46) = .int .i64 k := huse 2 (by kernel_rfl)
              refine op_val (.pointer (some ⟨b, off + k * 2, none⟩)) W rfl ?_ (hK _ _ (post_pure ?_))
              · clear hfor huse hap hmi hK hF
                generalize a.eval = ρ at *
                go_simp
              · exact (if_pos rfl)
            · intro a W own hfor huse hap hmi hF K hK
              have e47 : a.eval (.tmp 47) = .pointer (some ⟨b, off + k * 2, none⟩) := huse 3 (by kernel_rfl)
              have c0 := foot_cell hF (fun h => h) N0.out
              have c1 := foot_cell hF (fun h => h) N1.out
              refine op_val (.agg #[.bool true, .slice none 0 0]) W rfl ?_ (hK _ _ (post_pure ?_))
              · clear hfor huse hap hmi hK hF
                generalize a.eval = ρ at *
                go_simp
              · exact (if_pos rfl)
            · intro a W own hfor huse hap hmi hF K hK
              have efn : a.eval (.func 13) = .func (.func 13) #[] #[] := rfl
              refine op_call (f := 13) (args := #[]) (fun v w1 => v = .agg #[.bool true, .slice none 0 0] ∧ Below W.heap.size W w1) rfl ?_ ?_ (fun v w1 h => ?_)
              · clear hfor huse hap hmi hK hF
                generalize a.eval = ρ at *
                go_simp
              · exact (NodNewV_i W).mono (by rintro e w1 ⟨rfl, h2⟩; exact ⟨_, rfl, rfl, h2⟩)
              · obtain ⟨rfl, h2⟩ := h
                exact hK _ _ (post_new h2 (if_pos rfl))
            · intro a W own hfor huse hap hmi hF K hK
              have e48 : a.eval (.tmp 48) = .agg #[.bool true, .slice none 0 0] := huse 4 (by kernel_rfl)
              have e49 : a.eval (.tmp 49) = .agg #[.bool true, .slice none 0 0] := huse 5 (by kernel_rfl)
              have efn : a.eval (.func 12) = .func (.func 12) #[] #[] := rfl
              refine op_call (f := 12) (args := #[.agg #[.bool true, .slice none 0 0], .agg #[.bool true, .slice none 0 0]]) (fun v w1 => v = .bool true ∧ Below W.heap.size W w1) rfl ?_ ?_ (fun v w1 h => ?_)
              · clear hfor huse hap hmi hK hF
                generalize a.eval = ρ at *
                go_simp
              · exact (caNode0_c W).mono (by rintro e w1 ⟨rfl, h2⟩; exact ⟨_, rfl, rfl, h2⟩)
              · obtain ⟨rfl, h2⟩ := h
                exact hK _ _ (post_new h2 (if_pos rfl))
            · intro a W own hfor huse hap hmi hF K hK
              have e50 : a.eval (.tmp 50) = .bool true := huse 6 (by kernel_rfl)
              refine op_val (.bool false) W rfl ?_ (hK _ _ (post_pure ?_))
              · clear hfor huse hap hmi hK hF
                generalize a.eval = ρ at *
                go_simp
              · exact (if_pos rfl)
            intro a' W own hf
            have s1 := hf.st.size
            have s2 := hf.st.rest
            have s3 := fun t ht => hf.st.kept t ht
            revert hf
            revert a'
            refine lay_intro (df := []) [true, true, true, true, true, true, true, true, true, true, true, true, true, true, true, true, true, true, true, true, true, true, true, true, true, true, true, true, true, true, true, true, true, true, true, true, true, true, true, true, true, true, true, true, false, false, false, false, false, false, false, false, true, true, true, true, true, true, true, true, true, true, true, true, true, true, true, true, true, true, true, true, true, true, true, true, true, true] (by kernel_rfl) rfl ?_
            intro x51 x50 x49 x48 x47 x46 x45 x44 hf
            have e51 : x51 = .bool false := hf.at 7 (fun val _ _ => val 51 = .bool false) rfl (by kernel_rfl)
            subst e51
            have HF := Sec.mk hf.st.foot
            clear hf
            have B9 := Sec.mk (HF.out.below (belD hbq.out) (fun k h => h.elim))
            clear HF
            go_wp2
            go_roundw
            case rel => exact ⟨k + 1, by omega, by go_num, B9⟩
            case measure => simp [intOf]; omega
          · have d1 : decide ((k : Int) < 3) = false := decide_eq_false (by omega)
            have T0 : Sec True := ⟨trivial⟩
            have BR : Sec (Below wr.heap.size wr wr) := ⟨Below.refl _ _⟩
            obtain ⟨v0, v1, v2, v3, hcs, hp, -, ht⟩ := kW0_K KYr.out
            simp only [List.cons.injEq, and_true] at hcs
            obtain ⟨h0, h1, -, h3⟩ := hcs
            rw [← h0, ← h1] at hp
            rw [← h3] at ht
            have KP := Sec.mk hp
            have TP := Sec.mk ht
            clear hp ht h0 h1 h3
            go_wp2_with (first | (clear T2; go_at_call 16; have T3 : Sec True := ⟨trivial⟩; refine (caTerm_c _ _ x.top t ok2 ok _ (Kd.V_below TP.out BR.out (by decide)) (Kd.V_below VTr.out BR.out (by decide))).mono ?_; rw [show decide (x.top = t) = true from decide_eq_true HXT.out]; rintro e w3 ⟨rfl, hb⟩; have BE := Sec.mk (bel B0.out (bel BR.out hb)); clear hb) | (clear T1; go_at_call 15; have T2 : Sec True := ⟨trivial⟩; refine (caProg_c x.prog [.slice D0 x.prog.clauses.length n0, .slice D1 x.prog.places.length n1] [.slice A1 p.clauses.length m1, .slice A2 p.places.length m2] ok2 ok _ (Kd.K_below KP.out BR.out) (by rw [HXP.out]; exact Kd.K_below KXr.out BR.out)).mono ?_; rintro e w2 ⟨rfl, hb⟩; have BRN := Sec.mk (bel BR.out hb); clear BR; have BR := BRN; clear BRN; have P2 := Sec.mk ((hb.block _ (Array.getElem?_eq_some_iff.1 P1.out).1).trans P1.out); have Q2 := Sec.mk ((hb.block _ (Array.getElem?_eq_some_iff.1 Q1.out).1).trans Q1.out); have X9 := (box_at P2.out).2.1; have z0 := X9 0 _ rfl; have z1 := X9 1 _ rfl; clear X9; have X9 := (box_at Q2.out).2.1; have s0 := X9 0 _ rfl; have s1 := X9 1 _ rfl; have s2 := X9 2 _ rfl; have s3 := X9 3 _ rfl; have s4 := X9 4 _ rfl; have s5 := X9 5 _ rfl; clear X9; clear hb) | (clear T0; go_at_call 14; have T1 : Sec True := ⟨trivial⟩; refine (WldOk0_i x [.slice D0 x.prog.clauses.length n0, .slice D1 x.prog.places.length n1, .slice Da x.nodes.length nx, .slice Db x.top.length n2, .slice none 0 0, .slice none 0 0] ok2 _ KYr.out (by rw [HXP.out]; exact HQS.out) (by rw [HXT.out]; exact HTS.out) H3.out).mono ?_; rintro e w1 ⟨rfl, hb⟩; have BRN := Sec.mk (bel BR.out hb); clear BR; have BR := BRN; clear BRN; have P1 := Sec.mk ((hb.block _ (Array.getElem?_eq_some_iff.1 P0.out).1).trans P0.out); have Q1 := Sec.mk ((hb.block _ (Array.getElem?_eq_some_iff.1 Q0.out).1).trans Q0.out); have X9 := (box_at P1.out).2.1; have z0 := X9 0 _ rfl; have z1 := X9 1 _ rfl; clear X9; have X9 := (box_at Q1.out).2.1; have s0 := X9 0 _ rfl; have s1 := X9 1 _ rfl; have s2 := X9 2 _ rfl; have s3 := X9 3 _ rfl; have s4 := X9 4 _ rfl; have s5 := X9 5 _ rfl; clear X9; clear hb))
            go_ret
            exact ⟨rfl, BE.out⟩
  · have ql : decide ((len : Int) > 1048576) = true := decide_eq_true (by omega)
    go_enter Tryz.func3, Tryz.ntmps3
    go_wp2
    go_ret
    exact ⟨rfl, Below.refl _ _⟩
end
end Go.Proofs.YtendgddidgbejaaGreatDoor
