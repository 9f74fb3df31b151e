/- The laws' own comparisons say true of what is the same. Conditions: no bindings, nothing to do otherwise; and what goes with it. -/
import Derived.Test.YtgiobpggonceeaaGreatDoorSn1
import Derived.Test.YtgiobpggonceeaaGreatDoorSn2
import Derived.Test.YtgiobpggonceeaaGreatDoorSn5
import Derived.Test.YtgiobpggonceeaaGreatDoorSn6
import Derived.Test.YtgiobpggonceeaaGreatDoorSn8
import Derived.Test.YtgiobpggonceeaaGreatDoorSn11
import Derived.Test.YtgiobpggonceeaaGreatDoorSn14
import Derived.Test.YtgiobpggonceeaaGreatDoorSn15
import Derived.Test.YtgiobpggonceeaaGreatDoorSn16
namespace Go.Proofs.YtgiobpggonceeaaGreatDoor
section
open Go.RowKit
set_option linter.unusedVariables false
set_option maxRecDepth 100000

set_option maxHeartbeats 2000000 in
theorem caGoals_c (v u : Value) (t : List SGoal) (ok ok' : Nat → Prop) (w : World) (hV : kSGoal.V w ok v t) (hU : kSGoal.V w ok' u t) :
    Calls Tryz.prog 49 #[v, u] w fun e w' => e = .returned (.bool true) ∧ Below w.heap.size w w' := by
  obtain ⟨A, c, rfl, h1, h2, h3, hC, _⟩ := hV
  obtain ⟨D, d, rfl, k1, k2, k3, hE, _⟩ := hU
  have HC := Sec.mk hC
  have HE := Sec.mk hE
  clear hC hE
  have hu := Tryz.underlying102
  have hu2 := Tryz.underlying100
  go_enter Tryz.func49, Tryz.ntmps49
  go_wp2
  go_loopw [5] (fun iv wr => ∃ k : Nat, k ≤ t.length ∧ iv = .int .i64 k ∧ Sec (Below w.heap.size w wr)) (fun iv _ => t.length - (intOf iv).toNat)
  case atStart => exact ⟨0, Nat.zero_le _, rfl, ⟨Below.refl _ _⟩⟩
  case round =>
    obtain ⟨k, hk, rfl, hb⟩ := hrel
    by_cases hlt : k < t.length
    · obtain ⟨b, off, cs, rfl, hob, hK, hc⟩ := Kd.C_get (Kd.C_below HC.out hb.out (by decide)) (List.getElem?_eq_getElem hlt)
      obtain ⟨b2, off2, cs2, rfl, hob2, hK2, hc2⟩ := Kd.C_get (Kd.C_below HE.out hb.out (by decide)) (List.getElem?_eq_getElem hlt)
      generalize t[k] = x at *
      obtain ⟨v1, v2, v3, rfl, h1, h2, h3⟩ := kSGoal_K hK
      obtain ⟨yy1, yy2, yy3, rfl, g1, g2, g3⟩ := kSGoal_K hK2
      have HK : Sec (kGoal.K wr ok x.goal [.int .i64 x.goal.kind, v1, v2, v3]) := ⟨⟨[.int .i64 x.goal.kind], [v1, v2, v3], rfl, ⟨rfl, trivial⟩, [v1], [v2, v3], rfl, ⟨v1, rfl, h1⟩, [v2], [v3], rfl, ⟨v2, rfl, h2⟩, ⟨v3, rfl, h3⟩⟩⟩
      have HK2 : Sec (kGoal.K wr ok' x.goal [.int .i64 x.goal.kind, yy1, yy2, yy3]) := ⟨⟨[.int .i64 x.goal.kind], [yy1, yy2, yy3], rfl, ⟨rfl, trivial⟩, [yy1], [yy2, yy3], rfl, ⟨yy1, rfl, g1⟩, [yy2], [yy3], rfl, ⟨yy2, rfl, g2⟩, ⟨yy3, rfl, g3⟩⟩⟩
      have A0 : Sec (wr.cell? ⟨b, off + k * 5, none⟩ = some (.int .i64 x.goal.kind)) := ⟨hc 0 _ rfl⟩
      have A1 : Sec (wr.cell? ⟨b, off + k * 5 + 1, none⟩ = some v1) := ⟨hc 1 _ rfl⟩
      have A2 : Sec (wr.cell? ⟨b, off + k * 5 + 2, none⟩ = some v2) := ⟨hc 2 _ rfl⟩
      have A3 : Sec (wr.cell? ⟨b, off + k * 5 + 3, none⟩ = some v3) := ⟨hc 3 _ rfl⟩
      have A4 : Sec (wr.cell? ⟨b, off + k * 5 + 4, none⟩ = some (.int .i64 x.cut)) := ⟨hc 4 _ rfl⟩
      have Z0 : Sec (wr.cell? ⟨b2, off2 + k * 5, none⟩ = some (.int .i64 x.goal.kind)) := ⟨hc2 0 _ rfl⟩
      have Z1 : Sec (wr.cell? ⟨b2, off2 + k * 5 + 1, none⟩ = some yy1) := ⟨hc2 1 _ rfl⟩
      have Z2 : Sec (wr.cell? ⟨b2, off2 + k * 5 + 2, none⟩ = some yy2) := ⟨hc2 2 _ rfl⟩
      have Z3 : Sec (wr.cell? ⟨b2, off2 + k * 5 + 3, none⟩ = some yy3) := ⟨hc2 3 _ rfl⟩
      have Z4 : Sec (wr.cell? ⟨b2, off2 + k * 5 + 4, none⟩ = some (.int .i64 x.cut)) := ⟨hc2 4 _ rfl⟩
      have i0 : (0 : Int) ≤ (k : Int) := by omega
      have i1 : (k : Int) < (t.length : Int) := by omega
      clear hK hK2 hc hc2 h1 h2 h3 g1 g2 g3
      go_wp2
      refine wp_region_lists [[17], [18], [19], [20], [21], [22], [23], [24], [25], [26], [27], [28], [29], [30], [31], [32], [33], [34], [35], [36], [37], [38], [39], [40], [41]]
        [fun val _ _ => val 17 = .slice (some ⟨b, off, none⟩) t.length c,
          fun val _ _ => val 18 = .int .i64 k,
          fun val _ _ => val 19 = .pointer (some ⟨b, off + k * 5, none⟩),
          fun val _ _ => val 20 = .pointer (some ⟨b, off + k * 5 + 4, none⟩),
          fun val _ _ => val 21 = .int .i64 x.cut,
          fun val _ _ => val 22 = .slice (some ⟨b2, off2, none⟩) t.length d,
          fun val _ _ => val 23 = .int .i64 k,
          fun val _ _ => val 24 = .pointer (some ⟨b2, off2 + k * 5, none⟩),
          fun val _ _ => val 25 = .pointer (some ⟨b2, off2 + k * 5 + 4, none⟩),
          fun val _ _ => val 26 = .int .i64 x.cut,
          fun val _ _ => val 27 = .bool false,
          fun val _ _ => val 28 = .bool false,
          fun val _ _ => val 29 = .slice (some ⟨b, off, none⟩) t.length c,
          fun val _ _ => val 30 = .int .i64 k,
          fun val _ _ => val 31 = .pointer (some ⟨b, off + k * 5, none⟩),
          fun val _ _ => val 32 = .pointer (some ⟨b, off + k * 5, none⟩),
          fun val _ _ => val 33 = .agg #[.int .i64 x.goal.kind, v1, v2, v3],
          fun val _ _ => val 34 = .slice (some ⟨b2, off2, none⟩) t.length d,
          fun val _ _ => val 35 = .int .i64 k,
          fun val _ _ => val 36 = .pointer (some ⟨b2, off2 + k * 5, none⟩),
          fun val _ _ => val 37 = .pointer (some ⟨b2, off2 + k * 5, none⟩),
          fun val _ _ => val 38 = .agg #[.int .i64 x.goal.kind, yy1, yy2, yy3],
          fun val _ _ => val 39 = .bool true,
          fun val _ _ => val 40 = .bool false,
          fun val _ _ => val 41 = .bool false]
        [[], [], [], [], [], [], [], [], [], [], [], [], [], [], [], [], [], [], [], [], [], [], [], [], []] 0 (fun _ => False) (fun _ _ => False) (by kernel_rfl) ⟨by kernel_rfl, by kernel_rfl, by kernel_rfl, by kernel_rfl, by kernel_rfl⟩
        (.cons (stab_val 17 (fun v => v = .slice (some ⟨b, off, none⟩) t.length c)) (.cons (stab_val 18 (fun v => v = .int .i64 k)) (.cons (stab_val 19 (fun v => v = .pointer (some ⟨b, off + k * 5, none⟩))) (.cons (stab_val 20 (fun v => v = .pointer (some ⟨b, off + k * 5 + 4, none⟩))) (.cons (stab_val 21 (fun v => v = .int .i64 x.cut)) (.cons (stab_val 22 (fun v => v = .slice (some ⟨b2, off2, none⟩) t.length d)) (.cons (stab_val 23 (fun v => v = .int .i64 k)) (.cons (stab_val 24 (fun v => v = .pointer (some ⟨b2, off2 + k * 5, none⟩))) (.cons (stab_val 25 (fun v => v = .pointer (some ⟨b2, off2 + k * 5 + 4, none⟩))) (.cons (stab_val 26 (fun v => v = .int .i64 x.cut)) (.cons (stab_val 27 (fun v => v = .bool false)) (.cons (stab_val 28 (fun v => v = .bool false)) (.cons (stab_val 29 (fun v => v = .slice (some ⟨b, off, none⟩) t.length c)) (.cons (stab_val 30 (fun v => v = .int .i64 k)) (.cons (stab_val 31 (fun v => v = .pointer (some ⟨b, off + k * 5, none⟩))) (.cons (stab_val 32 (fun v => v = .pointer (some ⟨b, off + k * 5, none⟩))) (.cons (stab_val 33 (fun v => v = .agg #[.int .i64 x.goal.kind, v1, v2, v3])) (.cons (stab_val 34 (fun v => v = .slice (some ⟨b2, off2, none⟩) t.length d)) (.cons (stab_val 35 (fun v => v = .int .i64 k)) (.cons (stab_val 36 (fun v => v = .pointer (some ⟨b2, off2 + k * 5, none⟩))) (.cons (stab_val 37 (fun v => v = .pointer (some ⟨b2, off2 + k * 5, none⟩))) (.cons (stab_val 38 (fun v => v = .agg #[.int .i64 x.goal.kind, yy1, yy2, yy3])) (.cons (stab_val 39 (fun v => v = .bool true)) (.cons (stab_val 40 (fun v => v = .bool false)) (.cons (stab_val 41 (fun v => v = .bool false)) .nil)))))))))))))))))))))))))
        (fun i j k h1 h2 => h1.elim) (fun i k h => h.elim) (fun i h1 h2 => by simp at h1 h2; omega) (.cons ?_ (.cons ?_ (.cons ?_ (.cons ?_ (.cons ?_ (.cons ?_ (.cons ?_ (.cons ?_ (.cons ?_ (.cons ?_ (.cons ?_ (.cons ?_ (.cons ?_ (.cons ?_ (.cons ?_ (.cons ?_ (.cons ?_ (.cons ?_ (.cons ?_ (.cons ?_ (.cons ?_ (.cons ?_ (.cons ?_ (.cons ?_ (.cons ?_ .nil))))))))))))))))))))))))) ?_
      · intro a W own hfor huse hap hmi hF K hK
        have e0 : a.eval (.tmp 0) = .slice (some ⟨b, off, none⟩) t.length c := hfor 0 (by kernel_rfl)
        refine op_val (.slice (some ⟨b, off, none⟩) t.length c) W rfl ?_ (hK _ _ (post_pure ?_))
        · clear hfor huse hap hmi hK hF
          generalize a.eval = ρ at *
          go_simp
        · exact (if_pos rfl)
      · intro a W own hfor huse hap hmi hF K hK
        have e5 : a.eval (.tmp 5) = .int .i64 k := hfor 5 (by kernel_rfl)
        refine op_val (.int .i64 k) W rfl ?_ (hK _ _ (post_pure ?_))
        · clear hfor huse hap hmi hK hF
          generalize a.eval = ρ at *
          go_simp
        · exact (if_pos rfl)
      · intro a W own hfor huse hap hmi hF K hK
        have e17 : a.eval (.tmp 17) = .slice (some ⟨b, off, none⟩) t.length c := huse 0 (by kernel_rfl)
        have e18 : a.eval (.tmp 18) = .int .i64 k := huse 1 (by kernel_rfl)
        refine op_val (.pointer (some ⟨b, off + k * 5, none⟩)) W rfl ?_ (hK _ _ (post_pure ?_))
        · clear hfor huse hap hmi hK hF
          generalize a.eval = ρ at *
          go_simp
        · exact (if_pos rfl)
      · intro a W own hfor huse hap hmi hF K hK
        have e19 : a.eval (.tmp 19) = .pointer (some ⟨b, off + k * 5, none⟩) := huse 2 (by kernel_rfl)
        refine op_val (.pointer (some ⟨b, off + k * 5 + 4, none⟩)) W rfl ?_ (hK _ _ (post_pure ?_))
        · clear hfor huse hap hmi hK hF
          generalize a.eval = ρ at *
          go_simp
        · exact (if_pos rfl)
      · intro a W own hfor huse hap hmi hF K hK
        have e20 : a.eval (.tmp 20) = .pointer (some ⟨b, off + k * 5 + 4, none⟩) := huse 3 (by kernel_rfl)
        have c4 := foot_cell hF (fun h => h) A4.out
        refine op_val (.int .i64 x.cut) W rfl ?_ (hK _ _ (post_pure ?_))
        · clear hfor huse hap hmi hK hF
          generalize a.eval = ρ at *
          go_simp
        · exact (if_pos rfl)
      · intro a W own hfor huse hap hmi hF K hK
        have e1 : a.eval (.tmp 1) = .slice (some ⟨b2, off2, none⟩) t.length d := hfor 1 (by kernel_rfl)
        refine op_val (.slice (some ⟨b2, off2, none⟩) t.length d) W rfl ?_ (hK _ _ (post_pure ?_))
        · clear hfor huse hap hmi hK hF
          generalize a.eval = ρ at *
          go_simp
        · exact (if_pos rfl)
      · intro a W own hfor huse hap hmi hF K hK
        have e5 : a.eval (.tmp 5) = .int .i64 k := hfor 5 (by kernel_rfl)
        refine op_val (.int .i64 k) W rfl ?_ (hK _ _ (post_pure ?_))
        · clear hfor huse hap hmi hK hF
          generalize a.eval = ρ at *
          go_simp
        · exact (if_pos rfl)
      · intro a W own hfor huse hap hmi hF K hK
        have e22 : a.eval (.tmp 22) = .slice (some ⟨b2, off2, none⟩) t.length d := huse 5 (by kernel_rfl)
        have e23 : a.eval (.tmp 23) = .int .i64 k := huse 6 (by kernel_rfl)
        refine op_val (.pointer (some ⟨b2, off2 + k * 5, none⟩)) W rfl ?_ (hK _ _ (post_pure ?_))
        · clear hfor huse hap hmi hK hF
          generalize a.eval = ρ at *
          go_simp
        · exact (if_pos rfl)
      · intro a W own hfor huse hap hmi hF K hK
        have e24 : a.eval (.tmp 24) = .pointer (some ⟨b2, off2 + k * 5, none⟩) := huse 7 (by kernel_rfl)
        refine op_val (.pointer (some ⟨b2, off2 + k * 5 + 4, none⟩)) W rfl ?_ (hK _ _ (post_pure ?_))
        · clear hfor huse hap hmi hK hF
          generalize a.eval = ρ at *
          go_simp
        · exact (if_pos rfl)
      · intro a W own hfor huse hap hmi hF K hK
        have e25 : a.eval (.tmp 25) = .pointer (some ⟨b2, off2 + k * 5 + 4, none⟩) := huse 8 (by kernel_rfl)
        have c4 := foot_cell hF (fun h => h) Z4.out
        refine op_val (.int .i64 x.cut) W rfl ?_ (hK _ _ (post_pure ?_))
        · clear hfor huse hap hmi hK hF
          generalize a.eval = ρ at *
          go_simp
        · exact (if_pos rfl)
      · intro a W own hfor huse hap hmi hF K hK
        have e21 : a.eval (.tmp 21) = .int .i64 x.cut := huse 4 (by kernel_rfl)
        have e26 : a.eval (.tmp 26) = .int .i64 x.cut := huse 9 (by kernel_rfl)
        refine op_val (.bool false) W rfl ?_ (hK _ _ (post_pure ?_))
        · clear hfor huse hap hmi hK hF
          generalize a.eval = ρ at *
          go_simp
        · exact (if_pos rfl)
      · intro a W own hfor huse hap hmi hF K hK
        have e27 : a.eval (.tmp 27) = .bool false := huse 10 (by kernel_rfl)
        refine op_val (.bool false) W rfl ?_ (hK _ _ (post_pure ?_))
        · clear hfor huse hap hmi hK hF
          generalize a.eval = ρ at *
          go_simp
        · exact (if_pos rfl)
      · intro a W own hfor huse hap hmi hF K hK
        have e0 : a.eval (.tmp 0) = .slice (some ⟨b, off, none⟩) t.length c := hfor 0 (by kernel_rfl)
        have e28 : a.eval (.tmp 28) = .bool false := huse 11 (by kernel_rfl)
        refine gop_val (.slice (some ⟨b, off, none⟩) t.length c) W (want_yes (j := 11) (b := false) rfl (yield_of (t := 28) rfl rfl e28)) ?_ (hK _ _ (post_pure ?_))
        · clear hfor huse hap hmi hK hF
          generalize a.eval = ρ at *
          go_simp
        · exact (if_pos rfl)
      · intro a W own hfor huse hap hmi hF K hK
        have e5 : a.eval (.tmp 5) = .int .i64 k := hfor 5 (by kernel_rfl)
        have e28 : a.eval (.tmp 28) = .bool false := huse 11 (by kernel_rfl)
        refine gop_val (.int .i64 k) W (want_yes (j := 11) (b := false) rfl (yield_of (t := 28) rfl rfl e28)) ?_ (hK _ _ (post_pure ?_))
        · clear hfor huse hap hmi hK hF
          generalize a.eval = ρ at *
          go_simp
        · exact (if_pos rfl)
      · intro a W own hfor huse hap hmi hF K hK
        have e29 : a.eval (.tmp 29) = .slice (some ⟨b, off, none⟩) t.length c := huse 12 (by kernel_rfl)
        have e30 : a.eval (.tmp 30) = .int .i64 k := huse 13 (by kernel_rfl)
        have e28 : a.eval (.tmp 28) = .bool false := huse 11 (by kernel_rfl)
        refine gop_val (.pointer (some ⟨b, off + k * 5, none⟩)) W (want_yes (j := 11) (b := false) rfl (yield_of (t := 28) rfl rfl e28)) ?_ (hK _ _ (post_pure ?_))
        · clear hfor huse hap hmi hK hF
          generalize a.eval = ρ at *
          go_simp
        · exact (if_pos rfl)
      · intro a W own hfor huse hap hmi hF K hK
        have e31 : a.eval (.tmp 31) = .pointer (some ⟨b, off + k * 5, none⟩) := huse 14 (by kernel_rfl)
        have e28 : a.eval (.tmp 28) = .bool false := huse 11 (by kernel_rfl)
        refine gop_val (.pointer (some ⟨b, off + k * 5, none⟩)) W (want_yes (j := 11) (b := false) rfl (yield_of (t := 28) rfl rfl e28)) ?_ (hK _ _ (post_pure ?_))
        · clear hfor huse hap hmi hK hF
          generalize a.eval = ρ at *
          go_simp
        · exact (if_pos rfl)
      · intro a W own hfor huse hap hmi hF K hK
        have e32 : a.eval (.tmp 32) = .pointer (some ⟨b, off + k * 5, none⟩) := huse 15 (by kernel_rfl)
        have e28 : a.eval (.tmp 28) = .bool false := huse 11 (by kernel_rfl)
        have c0 := foot_cell hF (fun h => h) A0.out
        have c1 := foot_cell hF (fun h => h) A1.out
        have c2 := foot_cell hF (fun h => h) A2.out
        have c3 := foot_cell hF (fun h => h) A3.out
        refine gop_val (.agg #[.int .i64 x.goal.kind, v1, v2, v3]) W (want_yes (j := 11) (b := false) rfl (yield_of (t := 28) rfl rfl e28)) ?_ (hK _ _ (post_pure ?_))
        · clear hfor huse hap hmi hK hF
          generalize a.eval = ρ at *
          go_simp
        · exact (if_pos rfl)
      · intro a W own hfor huse hap hmi hF K hK
        have e1 : a.eval (.tmp 1) = .slice (some ⟨b2, off2, none⟩) t.length d := hfor 1 (by kernel_rfl)
        have e28 : a.eval (.tmp 28) = .bool false := huse 11 (by kernel_rfl)
        refine gop_val (.slice (some ⟨b2, off2, none⟩) t.length d) W (want_yes (j := 11) (b := false) rfl (yield_of (t := 28) rfl rfl e28)) ?_ (hK _ _ (post_pure ?_))
        · clear hfor huse hap hmi hK hF
          generalize a.eval = ρ at *
          go_simp
        · exact (if_pos rfl)
      · intro a W own hfor huse hap hmi hF K hK
        have e5 : a.eval (.tmp 5) = .int .i64 k := hfor 5 (by kernel_rfl)
        have e28 : a.eval (.tmp 28) = .bool false := huse 11 (by kernel_rfl)
        refine gop_val (.int .i64 k) W (want_yes (j := 11) (b := false) rfl (yield_of (t := 28) rfl rfl e28)) ?_ (hK _ _ (post_pure ?_))
        · clear hfor huse hap hmi hK hF
          generalize a.eval = ρ at *
          go_simp
        · exact (if_pos rfl)
      · intro a W own hfor huse hap hmi hF K hK
        have e34 : a.eval (.tmp 34) = .slice (some ⟨b2, off2, none⟩) t.length d := huse 17 (by kernel_rfl)
        have e35 : a.eval (.tmp 35) = .int .i64 k := huse 18 (by kernel_rfl)
        have e28 : a.eval (.tmp 28) = .bool false := huse 11 (by kernel_rfl)
        refine gop_val (.pointer (some ⟨b2, off2 + k * 5, none⟩)) W (want_yes (j := 11) (b := false) rfl (yield_of (t := 28) rfl rfl e28)) ?_ (hK _ _ (post_pure ?_))
        · clear hfor huse hap hmi hK hF
          generalize a.eval = ρ at *
          go_simp
        · exact (if_pos rfl)
      · intro a W own hfor huse hap hmi hF K hK
        have e36 : a.eval (.tmp 36) = .pointer (some ⟨b2, off2 + k * 5, none⟩) := huse 19 (by kernel_rfl)
        have e28 : a.eval (.tmp 28) = .bool false := huse 11 (by kernel_rfl)
        refine gop_val (.pointer (some ⟨b2, off2 + k * 5, none⟩)) W (want_yes (j := 11) (b := false) rfl (yield_of (t := 28) rfl rfl e28)) ?_ (hK _ _ (post_pure ?_))
        · clear hfor huse hap hmi hK hF
          generalize a.eval = ρ at *
          go_simp
        · exact (if_pos rfl)
      · intro a W own hfor huse hap hmi hF K hK
        have e37 : a.eval (.tmp 37) = .pointer (some ⟨b2, off2 + k * 5, none⟩) := huse 20 (by kernel_rfl)
        have e28 : a.eval (.tmp 28) = .bool false := huse 11 (by kernel_rfl)
        have c0 := foot_cell hF (fun h => h) Z0.out
        have c1 := foot_cell hF (fun h => h) Z1.out
        have c2 := foot_cell hF (fun h => h) Z2.out
        have c3 := foot_cell hF (fun h => h) Z3.out
        refine gop_val (.agg #[.int .i64 x.goal.kind, yy1, yy2, yy3]) W (want_yes (j := 11) (b := false) rfl (yield_of (t := 28) rfl rfl e28)) ?_ (hK _ _ (post_pure ?_))
        · clear hfor huse hap hmi hK hF
          generalize a.eval = ρ at *
          go_simp
        · exact (if_pos rfl)
      · intro a W own hfor huse hap hmi hF K hK
        have e33 : a.eval (.tmp 33) = .agg #[.int .i64 x.goal.kind, v1, v2, v3] := huse 16 (by kernel_rfl)
        have e38 : a.eval (.tmp 38) = .agg #[.int .i64 x.goal.kind, yy1, yy2, yy3] := huse 21 (by kernel_rfl)
        have e28 : a.eval (.tmp 28) = .bool false := huse 11 (by kernel_rfl)
        have hk1 := kGoal.K_move (show Keeps wr W ok ok from fun q h1 h2 => ⟨h1, hF.block q h2 (fun h => h)⟩) HK.out
        have hk2 := kGoal.K_move (show Keeps wr W ok' ok' from fun q h1 h2 => ⟨h1, hF.block q h2 (fun h => h)⟩) HK2.out
        have efn : a.eval (.func 123) = .func (.func 123) #[] #[] := rfl
        refine gop_call (f := 123) (args := #[.agg #[.int .i64 x.goal.kind, v1, v2, v3], .agg #[.int .i64 x.goal.kind, yy1, yy2, yy3]]) (fun v w1 => v = .bool true ∧ Below W.heap.size W w1) (want_yes (j := 11) (b := false) rfl (yield_of (t := 28) rfl rfl e28)) ?_ ?_ (fun v w1 h => ?_)
        · clear hfor huse hap hmi hK hF
          generalize a.eval = ρ at *
          go_simp
        · exact (caGoal_c x.goal _ _ ok ok' W hk1 hk2).mono (by rintro e w1 ⟨rfl, h2⟩; exact ⟨_, rfl, rfl, h2⟩)
        · obtain ⟨rfl, h2⟩ := h
          exact hK _ _ (post_new h2 (if_pos rfl))
      · intro a W own hfor huse hap hmi hF K hK
        have e39 : a.eval (.tmp 39) = .bool true := huse 22 (by kernel_rfl)
        have e28 : a.eval (.tmp 28) = .bool false := huse 11 (by kernel_rfl)
        refine gop_val (.bool false) W (want_yes (j := 11) (b := false) rfl (yield_of (t := 28) rfl rfl e28)) ?_ (hK _ _ (post_pure ?_))
        · clear hfor huse hap hmi hK hF
          generalize a.eval = ρ at *
          go_simp
        · exact (if_pos rfl)
      · intro a W own hfor huse hap hmi hF K hK
        have e28 : a.eval (.tmp 28) = .bool false := huse 11 (by kernel_rfl)
        have e40 : a.eval (.tmp 40) = .bool false := huse 23 (by kernel_rfl)
        have ec : a.eval (.const (.bool true)) = .bool true := rfl
        refine op_val (.bool false) W rfl ?_ (hK _ _ (post_pure ?_))
        · clear hfor huse hap hmi hK hF
          generalize a.eval = ρ at *
          go_simp
        · exact (if_pos rfl)
      intro a' W own hf
      have hsz := hf.st.size
      have hdf := hf.st.rest
      obtain ⟨⟨l⟩, df⟩ := a'
      have hl0 : l.length = 42 := hsz
      clear hsz
      obtain rfl : df = [] := hdf
      obtain ⟨x0, l0, rfl, hl1⟩ := lst_cons hl0
      clear hl0
      obtain ⟨x1, l1, rfl, hl2⟩ := lst_cons hl1
      clear hl1
      obtain ⟨x2, l2, rfl, hl3⟩ := lst_cons hl2
      clear hl2
      obtain ⟨x3, l3, rfl, hl4⟩ := lst_cons hl3
      clear hl3
      obtain ⟨x4, l4, rfl, hl5⟩ := lst_cons hl4
      clear hl4
      obtain ⟨x5, l5, rfl, hl6⟩ := lst_cons hl5
      clear hl5
      obtain ⟨x6, l6, rfl, hl7⟩ := lst_cons hl6
      clear hl6
      obtain ⟨x7, l7, rfl, hl8⟩ := lst_cons hl7
      clear hl7
      obtain ⟨x8, l8, rfl, hl9⟩ := lst_cons hl8
      clear hl8
      obtain ⟨x9, l9, rfl, hl10⟩ := lst_cons hl9
      clear hl9
      obtain ⟨x10, l10, rfl, hl11⟩ := lst_cons hl10
      clear hl10
      obtain ⟨x11, l11, rfl, hl12⟩ := lst_cons hl11
      clear hl11
      obtain ⟨x12, l12, rfl, hl13⟩ := lst_cons hl12
      clear hl12
      obtain ⟨x13, l13, rfl, hl14⟩ := lst_cons hl13
      clear hl13
      obtain ⟨x14, l14, rfl, hl15⟩ := lst_cons hl14
      clear hl14
      obtain ⟨x15, l15, rfl, hl16⟩ := lst_cons hl15
      clear hl15
      obtain ⟨x16, l16, rfl, hl17⟩ := lst_cons hl16
      clear hl16
      obtain ⟨x17, l17, rfl, hl18⟩ := lst_cons hl17
      clear hl17
      obtain ⟨x18, l18, rfl, hl19⟩ := lst_cons hl18
      clear hl18
      obtain ⟨x19, l19, rfl, hl20⟩ := lst_cons hl19
      clear hl19
      obtain ⟨x20, l20, rfl, hl21⟩ := lst_cons hl20
      clear hl20
      obtain ⟨x21, l21, rfl, hl22⟩ := lst_cons hl21
      clear hl21
      obtain ⟨x22, l22, rfl, hl23⟩ := lst_cons hl22
      clear hl22
      obtain ⟨x23, l23, rfl, hl24⟩ := lst_cons hl23
      clear hl23
      obtain ⟨x24, l24, rfl, hl25⟩ := lst_cons hl24
      clear hl24
      obtain ⟨x25, l25, rfl, hl26⟩ := lst_cons hl25
      clear hl25
      obtain ⟨x26, l26, rfl, hl27⟩ := lst_cons hl26
      clear hl26
      obtain ⟨x27, l27, rfl, hl28⟩ := lst_cons hl27
      clear hl27
      obtain ⟨x28, l28, rfl, hl29⟩ := lst_cons hl28
      clear hl28
      obtain ⟨x29, l29, rfl, hl30⟩ := lst_cons hl29
      clear hl29
      obtain ⟨x30, l30, rfl, hl31⟩ := lst_cons hl30
      clear hl30
      obtain ⟨x31, l31, rfl, hl32⟩ := lst_cons hl31
      clear hl31
      obtain ⟨x32, l32, rfl, hl33⟩ := lst_cons hl32
      clear hl32
      obtain ⟨x33, l33, rfl, hl34⟩ := lst_cons hl33
      clear hl33
      obtain ⟨x34, l34, rfl, hl35⟩ := lst_cons hl34
      clear hl34
      obtain ⟨x35, l35, rfl, hl36⟩ := lst_cons hl35
      clear hl35
      obtain ⟨x36, l36, rfl, hl37⟩ := lst_cons hl36
      clear hl36
      obtain ⟨x37, l37, rfl, hl38⟩ := lst_cons hl37
      clear hl37
      obtain ⟨x38, l38, rfl, hl39⟩ := lst_cons hl38
      clear hl38
      obtain ⟨x39, l39, rfl, hl40⟩ := lst_cons hl39
      clear hl39
      obtain ⟨x40, l40, rfl, hl41⟩ := lst_cons hl40
      clear hl40
      obtain ⟨x41, l41, rfl, hl42⟩ := lst_cons hl41
      clear hl41
      obtain rfl := List.eq_nil_of_length_eq_zero hl42
      have e0 := hf.st.kept 0 (by kernel_rfl)
      simp only [slotsOf, Act.eval, Array.getD_eq_getD_getElem?, List.getElem?_toArray, List.getElem?_cons_zero, Option.getD_some] at e0
      subst e0
      have e1 := hf.st.kept 1 (by kernel_rfl)
      simp only [slotsOf, Act.eval, Array.getD_eq_getD_getElem?, List.getElem?_toArray, List.getElem?_cons_succ, List.getElem?_cons_zero, Option.getD_some] at e1
      subst e1
      have e2 := hf.st.kept 2 (by kernel_rfl)
      simp only [slotsOf, Act.eval, Array.getD_eq_getD_getElem?, List.getElem?_toArray, List.getElem?_cons_succ, List.getElem?_cons_zero, Option.getD_some] at e2
      subst e2
      have e3 := hf.st.kept 3 (by kernel_rfl)
      simp only [slotsOf, Act.eval, Array.getD_eq_getD_getElem?, List.getElem?_toArray, List.getElem?_cons_succ, List.getElem?_cons_zero, Option.getD_some] at e3
      subst e3
      have e4 := hf.st.kept 4 (by kernel_rfl)
      simp only [slotsOf, Act.eval, Array.getD_eq_getD_getElem?, List.getElem?_toArray, List.getElem?_cons_succ, List.getElem?_cons_zero, Option.getD_some] at e4
      subst e4
      have e5 := hf.st.kept 5 (by kernel_rfl)
      simp only [slotsOf, Act.eval, Array.getD_eq_getD_getElem?, List.getElem?_toArray, List.getElem?_cons_succ, List.getElem?_cons_zero, Option.getD_some] at e5
      subst e5
      have e6 := hf.st.kept 6 (by kernel_rfl)
      simp only [slotsOf, Act.eval, Array.getD_eq_getD_getElem?, List.getElem?_toArray, List.getElem?_cons_succ, List.getElem?_cons_zero, Option.getD_some] at e6
      subst e6
      have e7 := hf.st.kept 7 (by kernel_rfl)
      simp only [slotsOf, Act.eval, Array.getD_eq_getD_getElem?, List.getElem?_toArray, List.getElem?_cons_succ, List.getElem?_cons_zero, Option.getD_some] at e7
      subst e7
      have e8 := hf.st.kept 8 (by kernel_rfl)
      simp only [slotsOf, Act.eval, Array.getD_eq_getD_getElem?, List.getElem?_toArray, List.getElem?_cons_succ, List.getElem?_cons_zero, Option.getD_some] at e8
      subst e8
      have e9 := hf.st.kept 9 (by kernel_rfl)
      simp only [slotsOf, Act.eval, Array.getD_eq_getD_getElem?, List.getElem?_toArray, List.getElem?_cons_succ, List.getElem?_cons_zero, Option.getD_some] at e9
      subst e9
      have e10 := hf.st.kept 10 (by kernel_rfl)
      simp only [slotsOf, Act.eval, Array.getD_eq_getD_getElem?, List.getElem?_toArray, List.getElem?_cons_succ, List.getElem?_cons_zero, Option.getD_some] at e10
      subst e10
      have e11 := hf.st.kept 11 (by kernel_rfl)
      simp only [slotsOf, Act.eval, Array.getD_eq_getD_getElem?, List.getElem?_toArray, List.getElem?_cons_succ, List.getElem?_cons_zero, Option.getD_some] at e11
      subst e11
      have e12 := hf.st.kept 12 (by kernel_rfl)
      simp only [slotsOf, Act.eval, Array.getD_eq_getD_getElem?, List.getElem?_toArray, List.getElem?_cons_succ, List.getElem?_cons_zero, Option.getD_some] at e12
      subst e12
      have e13 := hf.st.kept 13 (by kernel_rfl)
      simp only [slotsOf, Act.eval, Array.getD_eq_getD_getElem?, List.getElem?_toArray, List.getElem?_cons_succ, List.getElem?_cons_zero, Option.getD_some] at e13
      subst e13
      have e14 := hf.st.kept 14 (by kernel_rfl)
      simp only [slotsOf, Act.eval, Array.getD_eq_getD_getElem?, List.getElem?_toArray, List.getElem?_cons_succ, List.getElem?_cons_zero, Option.getD_some] at e14
      subst e14
      have e15 := hf.st.kept 15 (by kernel_rfl)
      simp only [slotsOf, Act.eval, Array.getD_eq_getD_getElem?, List.getElem?_toArray, List.getElem?_cons_succ, List.getElem?_cons_zero, Option.getD_some] at e15
      subst e15
      have e16 := hf.st.kept 16 (by kernel_rfl)
      simp only [slotsOf, Act.eval, Array.getD_eq_getD_getElem?, List.getElem?_toArray, List.getElem?_cons_succ, List.getElem?_cons_zero, Option.getD_some] at e16
      subst e16
      have e41 : x41 = .bool false := hf.at 24 (fun val _ _ => val 41 = .bool false) rfl (by kernel_rfl)
      subst e41
      have B1 := Sec.mk (hf.st.foot.below (belD hb.out) (fun k h => h.elim))
      clear hf
      go_wp2
      go_roundw
      case rel => exact ⟨k + 1, by omega, by go_num, B1⟩
      case measure => simp [intOf]; omega
    · go_wp2
      go_ret
      exact ⟨rfl, hb.out⟩
theorem caBinds0_c (v u : Value) (ok ok' : Nat → Prop) (w : World) (hV : kBind.V w ok v []) (hU : kBind.V w ok' u []) :
    Calls Tryz.prog 50 #[v, u] w fun e w' => e = .returned (.bool true) ∧ Below w.heap.size w w' := by
  obtain ⟨A, c, rfl, -⟩ := hV
  obtain ⟨D, d, rfl, -⟩ := hU
  simp only [List.length_nil]
  go_enter Tryz.func50, Tryz.ntmps50
  go_wp2
  go_loopw [5] (fun iv wr => iv = .int .i64 0 ∧ Sec (w = wr)) (fun iv _ => 0)
  case atStart => exact ⟨rfl, ⟨rfl⟩⟩
  case round =>
    obtain ⟨rfl, hw⟩ := hrel
    have hw' := hw.out
    subst hw'
    go_wp2
    go_ret
    exact ⟨rfl, Below.refl _ _⟩
set_option maxHeartbeats 2000000 in
theorem caSolve_c (s : SState) (hbn : s.binds = []) (hch : s.choices = []) (cs ds : List Value) (ok ok' : Nat → Prop) (w : World) (hK : kSState.K w ok s cs) (hD : kSState.K w ok' s ds) :
    Calls Tryz.prog 10 #[.agg cs.toArray, .agg ds.toArray] w fun e w' => e = .returned (.bool true) ∧ Below w.heap.size w w' := by
  obtain ⟨v1, v2, v4, v5, v6, rfl, h1, h2, h4, h5, h6⟩ := kSState_K hK
  obtain ⟨u1, u2, u4, u5, u6, rfl, g1, g2, g4, g5, g6⟩ := kSState_K hD
  rw [hbn] at h2 g2
  rw [hch] at h4 g4
  have H1 := Sec.mk h1
  have G1 := Sec.mk g1
  have H2 := Sec.mk h2
  have G2 := Sec.mk g2
  have H5 := Sec.mk h5
  have G5 := Sec.mk g5
  have H6 := Sec.mk h6
  have G6 := Sec.mk g6
  obtain ⟨E1, m1, rfl, -⟩ := h1
  obtain ⟨E2, m2, rfl, -⟩ := h2
  obtain ⟨E4, m4, rfl, -⟩ := h4
  obtain ⟨E5, m5, rfl, -⟩ := h5
  obtain ⟨E6, m6, rfl, -⟩ := h6
  obtain ⟨D1, n1, rfl, -⟩ := g1
  obtain ⟨D2, n2, rfl, -⟩ := g2
  obtain ⟨D4, n4, rfl, -⟩ := g4
  obtain ⟨D5, n5, rfl, -⟩ := g5
  obtain ⟨D6, n6, rfl, -⟩ := g6
  simp only [List.length_nil] at H2 G2 ⊢
  clear hK hD hbn hch
  have B0 := Sec.mk (belA (belA (Below.refl w.heap.size w) (.cells #[.int .i64 s.status, .slice E1 s.goals.length m1, .slice E2 0 m2, .int .i64 s.vars, .slice E4 0 m4, .slice E5 s.top.length m5, .slice E6 s.out.length m6] 34)) (.cells #[.int .i64 s.status, .slice D1 s.goals.length n1, .slice D2 0 n2, .int .i64 s.vars, .slice D4 0 n4, .slice D5 s.top.length n5, .slice D6 s.out.length n6] 34))
  have P0 := Sec.mk (box2 w (.cells #[.int .i64 s.status, .slice E1 s.goals.length m1, .slice E2 0 m2, .int .i64 s.vars, .slice E4 0 m4, .slice E5 s.top.length m5, .slice E6 s.out.length m6] 34) (.cells #[.int .i64 s.status, .slice D1 s.goals.length n1, .slice D2 0 n2, .int .i64 s.vars, .slice D4 0 n4, .slice D5 s.top.length n5, .slice D6 s.out.length n6] 34)).1
  have Q0 := Sec.mk (box2 w (.cells #[.int .i64 s.status, .slice E1 s.goals.length m1, .slice E2 0 m2, .int .i64 s.vars, .slice E4 0 m4, .slice E5 s.top.length m5, .slice E6 s.out.length m6] 34) (.cells #[.int .i64 s.status, .slice D1 s.goals.length n1, .slice D2 0 n2, .int .i64 s.vars, .slice D4 0 n4, .slice D5 s.top.length n5, .slice D6 s.out.length n6] 34)).2
  have X := (box_at P0.out).2.1
  have p0_0 := X 0 _ rfl
  have p0_1 := X 1 _ rfl
  have p0_2 := X 2 _ rfl
  have p0_3 := X 3 _ rfl
  have p0_4 := X 4 _ rfl
  have p0_5 := X 5 _ rfl
  have p0_6 := X 6 _ rfl
  clear X
  have X := (box_at Q0.out).2.1
  have q0_0 := X 0 _ rfl
  have q0_1 := X 1 _ rfl
  have q0_2 := X 2 _ rfl
  have q0_3 := X 3 _ rfl
  have q0_4 := X 4 _ rfl
  have q0_5 := X 5 _ rfl
  have q0_6 := X 6 _ rfl
  clear X
  have T0 : Sec True := ⟨trivial⟩
  go_enter Tryz.func10, Tryz.ntmps10
  go_wp2_with (first | (clear T3; go_at_call 13; have T4 : Sec True := ⟨trivial⟩; refine (caTerm_c _ _ s.out s.out ok ok' _ (Kd.V_below H6.out B3.out (by decide)) (Kd.V_below G6.out B3.out (by decide))).mono ?_; rw [same_]; rintro e w4 ⟨rfl, hb⟩; have B4 := Sec.mk (bel B3.out hb); have P4 := Sec.mk ((hb.block _ (Array.getElem?_eq_some_iff.1 P3.out).1).trans P3.out); have X := (box_at P4.out).2.1; have p4_0 := X 0 _ rfl; have p4_1 := X 1 _ rfl; have p4_2 := X 2 _ rfl; have p4_3 := X 3 _ rfl; have p4_4 := X 4 _ rfl; have p4_5 := X 5 _ rfl; have p4_6 := X 6 _ rfl; clear X; have Q4 := Sec.mk ((hb.block _ (Array.getElem?_eq_some_iff.1 Q3.out).1).trans Q3.out); have X := (box_at Q4.out).2.1; have q4_0 := X 0 _ rfl; have q4_1 := X 1 _ rfl; have q4_2 := X 2 _ rfl; have q4_3 := X 3 _ rfl; have q4_4 := X 4 _ rfl; have q4_5 := X 5 _ rfl; have q4_6 := X 6 _ rfl; clear X; clear hb p3_0 q3_0 p3_1 q3_1 p3_2 q3_2 p3_3 q3_3 p3_4 q3_4 p3_5 q3_5 p3_6 q3_6) | (clear T2; go_at_call 13; have T3 : Sec True := ⟨trivial⟩; refine (caTerm_c _ _ s.top s.top ok ok' _ (Kd.V_below H5.out B2.out (by decide)) (Kd.V_below G5.out B2.out (by decide))).mono ?_; rw [same_]; rintro e w3 ⟨rfl, hb⟩; have B3 := Sec.mk (bel B2.out hb); have P3 := Sec.mk ((hb.block _ (Array.getElem?_eq_some_iff.1 P2.out).1).trans P2.out); have X := (box_at P3.out).2.1; have p3_0 := X 0 _ rfl; have p3_1 := X 1 _ rfl; have p3_2 := X 2 _ rfl; have p3_3 := X 3 _ rfl; have p3_4 := X 4 _ rfl; have p3_5 := X 5 _ rfl; have p3_6 := X 6 _ rfl; clear X; have Q3 := Sec.mk ((hb.block _ (Array.getElem?_eq_some_iff.1 Q2.out).1).trans Q2.out); have X := (box_at Q3.out).2.1; have q3_0 := X 0 _ rfl; have q3_1 := X 1 _ rfl; have q3_2 := X 2 _ rfl; have q3_3 := X 3 _ rfl; have q3_4 := X 4 _ rfl; have q3_5 := X 5 _ rfl; have q3_6 := X 6 _ rfl; clear X; clear hb p2_0 q2_0 p2_1 q2_1 p2_2 q2_2 p2_3 q2_3 p2_4 q2_4 p2_5 q2_5 p2_6 q2_6) | (clear T1; go_at_call 50; have T2 : Sec True := ⟨trivial⟩; refine (caBinds0_c _ _ ok ok' _ (Kd.V_below H2.out B1.out (by decide)) (Kd.V_below G2.out B1.out (by decide))).mono ?_; rintro e w2 ⟨rfl, hb⟩; have B2 := Sec.mk (bel B1.out hb); have P2 := Sec.mk ((hb.block _ (Array.getElem?_eq_some_iff.1 P1.out).1).trans P1.out); have X := (box_at P2.out).2.1; have p2_0 := X 0 _ rfl; have p2_1 := X 1 _ rfl; have p2_2 := X 2 _ rfl; have p2_3 := X 3 _ rfl; have p2_4 := X 4 _ rfl; have p2_5 := X 5 _ rfl; have p2_6 := X 6 _ rfl; clear X; have Q2 := Sec.mk ((hb.block _ (Array.getElem?_eq_some_iff.1 Q1.out).1).trans Q1.out); have X := (box_at Q2.out).2.1; have q2_0 := X 0 _ rfl; have q2_1 := X 1 _ rfl; have q2_2 := X 2 _ rfl; have q2_3 := X 3 _ rfl; have q2_4 := X 4 _ rfl; have q2_5 := X 5 _ rfl; have q2_6 := X 6 _ rfl; clear X; clear hb p1_0 q1_0 p1_1 q1_1 p1_2 q1_2 p1_3 q1_3 p1_4 q1_4 p1_5 q1_5 p1_6 q1_6) | (clear T0; go_at_call 49; have T1 : Sec True := ⟨trivial⟩; refine (caGoals_c _ _ s.goals ok ok' _ (Kd.V_below H1.out B0.out (by decide)) (Kd.V_below G1.out B0.out (by decide))).mono ?_; rintro e w1 ⟨rfl, hb⟩; have B1 := Sec.mk (bel B0.out hb); have P1 := Sec.mk ((hb.block _ (Array.getElem?_eq_some_iff.1 P0.out).1).trans P0.out); have X := (box_at P1.out).2.1; have p1_0 := X 0 _ rfl; have p1_1 := X 1 _ rfl; have p1_2 := X 2 _ rfl; have p1_3 := X 3 _ rfl; have p1_4 := X 4 _ rfl; have p1_5 := X 5 _ rfl; have p1_6 := X 6 _ rfl; clear X; have Q1 := Sec.mk ((hb.block _ (Array.getElem?_eq_some_iff.1 Q0.out).1).trans Q0.out); have X := (box_at Q1.out).2.1; have q1_0 := X 0 _ rfl; have q1_1 := X 1 _ rfl; have q1_2 := X 2 _ rfl; have q1_3 := X 3 _ rfl; have q1_4 := X 4 _ rfl; have q1_5 := X 5 _ rfl; have q1_6 := X 6 _ rfl; clear X; clear hb p0_0 q0_0 p0_1 q0_1 p0_2 q0_2 p0_3 q0_3 p0_4 q0_4 p0_5 q0_5 p0_6 q0_6))
  go_loopw [5] (fun iv wr => iv = .int .i64 0 ∧ Sec (w4 = wr)) (fun iv _ => 0)
  case atStart => exact ⟨rfl, ⟨rfl⟩⟩
  case round =>
    obtain ⟨rfl, hw⟩ := hrel
    have hw' := hw.out
    subst hw'
    go_wp2
    go_ret
    exact ⟨rfl, B4.out⟩
end
section
open Go.RowKit
set_option linter.unusedVariables false
set_option maxRecDepth 100000
end
section
open Go.RowKit
set_option linter.unusedVariables false
set_option maxRecDepth 100000
/-- A node that is up and works at nothing. -/
def kN0 : Kd Unit where
  ty := 124
  sz := 2
  K := fun _ _ _ cs => cs = [.bool true, .slice none 0 0]
  O := fun _ _ _ cs => cs = [.bool true, .slice none 0 0]
  K_len := by rintro _ _ _ _ rfl; rfl
  K_one := by
    rintro _ _ _ _ rfl u hu
    simp only [List.mem_cons, List.not_mem_nil, or_false] at hu
    rcases hu with rfl | rfl <;> rfl
  K_move := fun _ h => h
  O_K := fun h => h
  O_move := fun _ h => h
/-- No outcome, and nothing on its way. -/
def kNil2 : Kd Unit where
  ty := 57
  sz := 2
  K := fun _ _ _ cs => cs = [.slice none 0 0, .slice none 0 0]
  O := fun _ _ _ cs => cs = [.slice none 0 0, .slice none 0 0]
  K_len := by rintro _ _ _ _ rfl; rfl
  K_one := by
    rintro _ _ _ _ rfl u hu
    simp only [List.mem_cons, List.not_mem_nil, or_false] at hu
    rcases hu with rfl | rfl <;> rfl
  K_move := fun _ h => h
  O_K := fun h => h
  O_move := fun _ h => h
structure W0 where
  prog : Prog
  nodes : List Unit
  top : Term
def kW0 : Kd W0 := Kd.iso 57 (Kd.pair kProg (Kd.pair (Kd.slice 53 kN0 (by decide)) (Kd.pair (Kd.slice 23 kCell (by decide)) kNil2))) (fun x => (x.prog, x.nodes, x.top, ()))
def newW (p : Prog) (t : Term) : W0 := if (prgOk p && question t) = true then ⟨p, List.replicate 3 (), t⟩ else ⟨⟨[], []⟩, [], []⟩
section
variable {o : Oper} {a : Act} {w : World} {K : Act → World → Prop} {Q : Exit → Act → World → Prop} {E : Prop} {ops : Array Oper}
end
theorem kp_V {w : World} {ok : Nat → Prop} {x : Prog} {cs : List Value} (h : kProg.K w ok x cs) : ∃ E0 m0 E1 m1, cs = [.slice E0 x.clauses.length m0, .slice E1 x.places.length m1] ∧ kClause.V w ok (.slice E0 x.clauses.length m0) x.clauses ∧ kPlace.V w ok (.slice E1 x.places.length m1) x.places := by
  obtain ⟨v0, v1, rfl, h0, h1⟩ := kProg_K h
  have g0 := h0
  have g1 := h1
  obtain ⟨E0, m0, rfl, -⟩ := h0
  obtain ⟨E1, m1, rfl, -⟩ := h1
  exact ⟨E0, m0, E1, m1, rfl, g0, g1⟩
end
section
open Go.RowKit
set_option linter.unusedVariables false
/-- What a law's row says of its bytes. -/
def CodeRow (w : World) (a : Option Addr) (len cap : Nat) (zs : List Int) : Prop :=
  (a = none ∧ len = 0 ∧ cap = 0 ∧ zs = []) ∨
  ∃ x, a = some x ∧ len ≤ cap ∧ cap ≤ maxLen ∧ zs.length = cap ∧ (∀ i, i < zs.length → w.cell? (x.add i) = some (.int .u8 (zs.getD i 0))) ∧ ∀ n ∈ zs, (Lit.int .u8 n).wf = true
theorem CodeRow.view {w : World} {a : Option Addr} {len cap : Nat} {zs : List Int} (h : CodeRow w a len cap zs) (hl : len ≤ 1073741824) : ∃ bs : List UInt8, bs.length = len ∧ kByte.V w (fun _ => True) (.slice a len cap) bs := by
  rcases h with ⟨rfl, rfl, rfl, rfl⟩ | ⟨x, rfl, h1, h2, h3, h4, h5⟩
  · exact ⟨[], rfl, Kd.V_nil _ _ _⟩
  · have hlen : ((zs.take len).map u8).length = len := by rw [List.length_map, List.length_take]; omega
    refine ⟨(zs.take len).map u8, hlen, some x, cap, by rw [hlen], by omega, h2, by omega, ?_, fun e => by cases e⟩
    by_cases h0 : len = 0
    · exact .inl (by subst h0; simp)
    · have hs : x.spot = none := by
        have := World.cell?_spot (h4 0 (by omega))
        simpa [Addr.add] using this
      obtain ⟨b, off, spot⟩ := x
      simp only at hs
      subst hs
      refine .inr ⟨b, off, rfl, trivial, fun i y hy => ?_⟩
      have hi : i < len := by have := (List.getElem?_eq_some_iff.1 hy).1; omega
      have hz : i < zs.length := by omega
      refine ⟨[byteC y], ⟨rfl, trivial⟩, fun j u hu => ?_⟩
      have hj : j = 0 := by
        have := (List.getElem?_eq_some_iff.1 hu).1
        simp at this; omega
      subst hj
      obtain rfl : byteC y = u := by simpa using hu
      have hc := h4 i hz
      have hwf := h5 _ (List.getElem_mem hz)
      rw [List.getElem?_map, List.getElem?_take, if_pos hi, List.getElem?_eq_getElem hz] at hy
      obtain rfl : u8 zs[i] = y := by simpa using hy
      have e1 : (⟨b, off, none⟩ : Addr).add i = ⟨b, off + (i * kByte.sz + 0), none⟩ := by
        have : kByte.sz = 1 := rfl
        rw [this]
        unfold Addr.add
        split
        · next h => subst h; simp
        · simp
      rw [e1] at hc
      show w.cell? ⟨b, off + (i * kByte.sz + 0), none⟩ = _
      rw [hc, List.getD_eq_getElem?_getD, List.getElem?_eq_getElem hz]
      have hr : 0 ≤ zs[i] ∧ zs[i] < 256 := by
        simp [Lit.wf, IntKind.min, IntKind.max, IntKind.bits, IntKind.signed] at hwf
        omega
      simp only [Option.getD_some, byteC, u8_toNat]
      rw [Int.emod_eq_of_lt hr.1 hr.2]
end
section
open Go.RowKit
set_option linter.unusedVariables false
set_option maxRecDepth 100000
theorem caTerm0_c (v u : Value) (t : Term) (ok ok' : Nat → Prop) (w : World) (hV : kCell.V w ok v t) (hU : kCell.V w ok' u t) :
    Calls Tryz.prog 13 #[v, u] w fun e w' => e = .returned (.bool true) ∧ Below w.heap.size w w' := by
  have h := caTerm_c v u t t ok ok' w hV hU
  rw [decide_eq_true rfl] at h
  exact h
theorem newS_b (t : Term) : (newS t).binds = [] ∧ (newS t).choices = [] := by
  unfold newS; split <;> exact ⟨rfl, rfl⟩
set_option maxHeartbeats 16000000 in
theorem FnSlvNew_law_c (a : Option Addr) (len cap : Nat) (zs : List Int) (a2 : Option Addr) (len2 cap2 : Nat) (zs2 : List Int) (w0 : World) (hr : CodeRow w0 a len cap zs) (hr2 : CodeRow w0 a2 len2 cap2 zs2) :
    Calls Tryz.prog 3 #[.slice a len cap, .slice a2 len2 cap2] w0 fun e w' => e = .returned (.bool true) ∧ Below w0.heap.size w0 w' := by
  have hu := Tryz.underlying28
  have hu4 := Tryz.underlying34
  by_cases hl : len ≤ 1048576
  · have ql : decide ((len : Int) > 1048576) = false := decide_eq_false (by omega)
    by_cases hl2 : len2 ≤ 1048576
    · have ql2 : decide ((len2 : Int) > 1048576) = false := decide_eq_false (by omega)
      obtain ⟨code, rfl, hV⟩ := hr.view (by omega)
      obtain ⟨more, rfl, hV2⟩ := hr2.view (by omega)
      have H0 := Sec.mk (DrawSlvNew_c w0 _ code _ hV)
      have M0 := Sec.mk hV2
      clear hV hV2 hr hr2
      go_enter Tryz.func3, Tryz.ntmps3
      go_wp2_with fail
      refine H0.out.mono ?_
      rintro e wa ⟨u, t, rfl, hT, hb⟩
      obtain ⟨A9, c9, rfl, -, -⟩ := Kd.R_form hT
      have TA := Sec.mk (Kd.R_V hT)
      have BA := Sec.mk hb
      clear hT hb H0
      go_wp2_with fail
      refine (DrawPrgOk_c wa _ more _ (Kd.V_below M0.out BA.out (by decide))).mono ?_
      rintro e w1 ⟨p, cs, rfl, hO, -, -, hb⟩
      obtain ⟨A1, m1, A2, m2, rfl, -, -⟩ := kp_V (kProg.O_K hO)
      have HB1 := belA (Below.refl w1.heap.size w1) (.cells #[.slice A1 p.clauses.length m1, .slice A2 p.places.length m2] 28)
      have BX := Sec.mk (bel (bel BA.out hb) HB1)
      have XB := Sec.mk (heap_alloc_new w1 (.cells #[.slice A1 p.clauses.length m1, .slice A2 p.places.length m2] 28))
      obtain ⟨ok, hok⟩ : ∃ ok : Nat → Prop, ok = fun k => wa.heap.size ≤ k := ⟨_, rfl⟩
      obtain ⟨ok0, hok0⟩ : ∃ ok0 : Nat → Prop, ok0 = fun k => w0.heap.size ≤ k := ⟨_, rfl⟩
      have KX0 := Sec.mk (Kd.K_below (kProg.O_K hO) HB1)
      have VT0 := Sec.mk (Kd.V_below TA.out (bel hb HB1) (by decide))
      rw [← hok] at KX0
      rw [← hok0] at VT0
      clear hO hb HB1 hok hok0 BA M0 TA
      have X9 := (box_at XB.out).2.1
      have y0 := X9 0 _ rfl
      have y1 := X9 1 _ rfl
      clear X9
      go_wp2_with (fail)
      generalize w1.alloc (.cells #[.slice A1 p.clauses.length m1, .slice A2 p.places.length m2] 28) = wx at *
      generalize w1.heap.size = X at *
      refine (SlvNew_i _ t _ wx VT0.out).mono ?_
      rintro e w3 ⟨c, rfl, hO3, hb3⟩
      obtain ⟨x, hx⟩ : ∃ x, newS t = x := ⟨_, rfl⟩
      have hxb := newS_b t
      rw [hx] at hO3 hxb
      have HX := Sec.mk hx
      have HXB := Sec.mk hxb
      obtain ⟨q1, q2, q4, q5, q6, rfl, h1, h2, h4, h5, h6⟩ := kSState_K (kSState.O_K hO3)
      have g1 := h1
      have g5 := h5
      obtain ⟨G1, k1, rfl, -⟩ := h1
      obtain ⟨G2, k2, rfl, -⟩ := h2
      obtain ⟨G4, k4, rfl, -⟩ := h4
      obtain ⟨G5, k5, rfl, -⟩ := h5
      obtain ⟨G6, k6, rfl, -⟩ := h6
      obtain ⟨ok2, hok2⟩ : ∃ ok2 : Nat → Prop, ok2 = fun k => wx.heap.size ≤ k := ⟨_, rfl⟩
      have HB4 := belA (Below.refl w3.heap.size w3) (.cells #[.int .i64 x.status, .slice G1 x.goals.length k1, .slice G2 x.binds.length k2, .int .i64 x.vars, .slice G4 x.choices.length k4, .slice G5 x.top.length k5, .slice G6 x.out.length k6] 34)
      have B4 := Sec.mk (bel BX.out (bel hb3 HB4))
      have X4 := Sec.mk (((bel hb3 HB4).block _ (Array.getElem?_eq_some_iff.1 XB.out).1).trans XB.out)
      have Y4 := Sec.mk (heap_alloc_new w3 (.cells #[.int .i64 x.status, .slice G1 x.goals.length k1, .slice G2 x.binds.length k2, .int .i64 x.vars, .slice G4 x.choices.length k4, .slice G5 x.top.length k5, .slice G6 x.out.length k6] 34))
      have KX := Sec.mk (Kd.K_below KX0.out (bel hb3 HB4))
      have VT := Sec.mk (Kd.V_below VT0.out (bel hb3 HB4) (by decide))
      have KY := Sec.mk (Kd.K_below (kSState.O_K hO3) HB4)
      have GG0 := Sec.mk (Kd.V_below g1 HB4 (by decide))
      have T50 := Sec.mk (Kd.V_below g5 HB4 (by decide))
      rw [← hok2] at KY GG0 T50
      clear hO3 hb3 HB4 KX0 VT0 XB BX hok2 hx hxb y0 y1 g1 g5
      go_wp2
      generalize w3.alloc (.cells #[.int .i64 x.status, .slice G1 x.goals.length k1, .slice G2 x.binds.length k2, .int .i64 x.vars, .slice G4 x.choices.length k4, .slice G5 x.top.length k5, .slice G6 x.out.length k6] 34) = wr at *
      generalize w3.heap.size = Y at *
      have X9 := (box_at Y4.out).2.1
      have Y0 := Sec.mk (X9 0 _ rfl)
      have Y1 := Sec.mk (X9 1 _ rfl)
      have Y2 := Sec.mk (X9 2 _ rfl)
      have Y3 := Sec.mk (X9 3 _ rfl)
      have Y4' := Sec.mk (X9 4 _ rfl)
      have Y5' := Sec.mk (X9 5 _ rfl)
      have Y6 := Sec.mk (X9 6 _ rfl)
      clear X9
      refine wp_region_lists [[22], [23], [24], [25], [26]]
        [fun val _ _ => val 22 = .agg #[.int .i64 x.status, .slice G1 x.goals.length k1, .slice G2 x.binds.length k2, .int .i64 x.vars, .slice G4 x.choices.length k4, .slice G5 x.top.length k5, .slice G6 x.out.length k6],
          fun val _ _ => val 23 = .slice A9 t.length c9,
          onO kSState 24 (newS t),
          fun val _ _ => val 25 = .bool true,
          fun val _ _ => val 26 = .bool false]
        [[], [], [], [], []] 0 (fun _ => False) (fun _ _ => False) (by kernel_rfl) ⟨by kernel_rfl, by kernel_rfl, by kernel_rfl, by kernel_rfl, by kernel_rfl⟩
        (.cons (stab_val 22 (fun v => v = .agg #[.int .i64 x.status, .slice G1 x.goals.length k1, .slice G2 x.binds.length k2, .int .i64 x.vars, .slice G4 x.choices.length k4, .slice G5 x.top.length k5, .slice G6 x.out.length k6])) (.cons (stab_val 23 (fun v => v = .slice A9 t.length c9)) (.cons (stab_O kSState 24 (newS t)) (.cons (stab_val 25 (fun v => v = .bool true)) (.cons (stab_val 26 (fun v => v = .bool false)) .nil)))))
        (fun i j k h1 h2 => h1.elim) (fun i k h => h.elim) (fun i h1 h2 => by simp at h1 h2; omega) (.cons ?_ (.cons ?_ (.cons ?_ (.cons ?_ (.cons ?_ .nil))))) ?_
      · intro a W own hfor huse hap hmi hF K hK
        have e7 : a.eval (.tmp 7) = .pointer (some ⟨Y, 0, none⟩) := hfor 7 (by kernel_rfl)
        have c0 := foot_cell hF (fun h => h) Y0.out
        have c1 := foot_cell hF (fun h => h) Y1.out
        have c2 := foot_cell hF (fun h => h) Y2.out
        have c3 := foot_cell hF (fun h => h) Y3.out
        have c4 := foot_cell hF (fun h => h) Y4'.out
        have c5 := foot_cell hF (fun h => h) Y5'.out
        have c6 := foot_cell hF (fun h => h) Y6.out
        refine op_val (.agg #[.int .i64 x.status, .slice G1 x.goals.length k1, .slice G2 x.binds.length k2, .int .i64 x.vars, .slice G4 x.choices.length k4, .slice G5 x.top.length k5, .slice G6 x.out.length k6]) W rfl ?_ (hK _ _ (post_pure ?_))
        · clear hfor huse hap hmi hK hF
          generalize a.eval = ρ at *
          go_simp
        · exact (if_pos rfl)
      · intro a W own hfor huse hap hmi hF K hK
        have e5 : a.eval (.tmp 5) = .slice A9 t.length c9 := hfor 5 (by kernel_rfl)
        refine op_val (.slice A9 t.length c9) W rfl ?_ (hK _ _ (post_pure ?_))
        · clear hfor huse hap hmi hK hF
          generalize a.eval = ρ at *
          go_simp
        · exact (if_pos rfl)
      · intro a W own hfor huse hap hmi hF K hK
        have e23 : a.eval (.tmp 23) = .slice A9 t.length c9 := huse 1 (by kernel_rfl)
        have hvt := foot_V hF (fun _ _ h => h) VT.out (by decide)
        have efn : a.eval (.func 11) = .func (.func 11) #[] #[] := rfl
        refine op_call (f := 11) (args := #[.slice A9 t.length c9]) (fun v w1 => ∃ c : List Value, v = .agg c.toArray ∧ kSState.O w1 (fun k => W.heap.size ≤ k) (newS t) c ∧ Below W.heap.size W w1) rfl ?_ ?_ (fun v w1 h => ?_)
        · clear hfor huse hap hmi hK hF
          generalize a.eval = ρ at *
          go_simp
        · exact (SlvNew_c _ t _ W hvt).mono (by rintro e w1 ⟨c, rfl, h1, h2⟩; exact ⟨_, rfl, c, rfl, h1, h2⟩)
        · obtain ⟨c, rfl, h1, h2⟩ := h
          exact hK _ _ (post_new h2 ⟨c, if_pos rfl, kSState.O_mono h1 (fun k h3 h4 => ⟨h3, h4⟩)⟩)
      · intro a W own hfor huse hap hmi hF K hK
        have e22 : a.eval (.tmp 22) = .agg #[.int .i64 x.status, .slice G1 x.goals.length k1, .slice G2 x.binds.length k2, .int .i64 x.vars, .slice G4 x.choices.length k4, .slice G5 x.top.length k5, .slice G6 x.out.length k6] := huse 0 (by kernel_rfl)
        obtain ⟨cs2, e24, r2⟩ := (huse 2 (by kernel_rfl) : onO kSState 24 (newS t) (slotsOf a) (own 2) W)
        have e24 : a.eval (.tmp 24) = .agg cs2.toArray := e24
        have hky := kSState.K_move (show Keeps wr W ok2 ok2 from fun q h1 h2 => ⟨h1, hF.block q h2 (fun h => h)⟩) KY.out
        rw [HX.out] at r2
        have efn : a.eval (.func 10) = .func (.func 10) #[] #[] := rfl
        refine op_call (f := 10) (args := #[.agg #[.int .i64 x.status, .slice G1 x.goals.length k1, .slice G2 x.binds.length k2, .int .i64 x.vars, .slice G4 x.choices.length k4, .slice G5 x.top.length k5, .slice G6 x.out.length k6], .agg cs2.toArray]) (fun v w1 => v = .bool true ∧ Below W.heap.size W w1) rfl ?_ ?_ (fun v w1 h => ?_)
        · clear hfor huse hap hmi hK hF
          generalize a.eval = ρ at *
          go_simp
        · exact (caSolve_c x HXB.out.1 HXB.out.2 [.int .i64 x.status, .slice G1 x.goals.length k1, .slice G2 x.binds.length k2, .int .i64 x.vars, .slice G4 x.choices.length k4, .slice G5 x.top.length k5, .slice G6 x.out.length k6] cs2 _ _ W hky (kSState.O_K r2)).mono (by rintro e w1 ⟨rfl, h2⟩; exact ⟨_, rfl, rfl, h2⟩)
        · obtain ⟨rfl, h2⟩ := h
          exact hK _ _ (post_new h2 (if_pos rfl))
      · intro a W own hfor huse hap hmi hF K hK
        have e25 : a.eval (.tmp 25) = .bool true := huse 3 (by kernel_rfl)
        refine op_val (.bool false) W rfl ?_ (hK _ _ (post_pure ?_))
        · clear hfor huse hap hmi hK hF
          generalize a.eval = ρ at *
          go_simp
        · exact (if_pos rfl)
      intro a' W own hf
      have s1 := hf.st.size
      have s2 := hf.st.rest
      have s3 := fun t ht => hf.st.kept t ht
      revert hf
      revert a'
      refine lay_intro (df := []) [true, true, true, true, true, true, true, true, true, true, true, true, true, true, true, true, true, true, true, true, true, true, false, false, false, false, false, true, true, true, true, true, true, true, true, true, true, true, true, true, true, true, true, true, true, true, true, true, true, true, true, true, true, true, true, true, true, true, true, true, true, true, true, true, true, true, true, true, true, true, true, true, true, true, true, true, true, true, true] (by kernel_rfl) rfl ?_
      intro x26 x25 x24 x23 x22 hf
      have e26 : x26 = .bool false := hf.at 4 (fun val _ _ => val 26 = .bool false) rfl (by kernel_rfl)
      subst e26
      have HF := Sec.mk hf.st.foot
      have BW := Sec.mk (HF.out.below (belD (Below.refl _ _)) (fun k h => h.elim))
      clear hf HF
      have B5 := Sec.mk (bel B4.out BW.out)
      have P5 := Sec.mk ((BW.out.block _ (Array.getElem?_eq_some_iff.1 X4.out).1).trans X4.out)
      have Q5 := Sec.mk ((BW.out.block _ (Array.getElem?_eq_some_iff.1 Y4.out).1).trans Y4.out)
      have KX5 := Sec.mk (Kd.K_below KX.out BW.out)
      have V5 := Sec.mk (Kd.V_below VT.out BW.out (by decide))
      have BG5 := BW
      clear B4 X4 Y4 KX KY VT Y0 Y1 Y2 Y3 Y4' Y5' Y6 BW
      go_wp2_with fail
      refine (TrmOk_c _ t _ W V5.out).mono ?_
      cases ht : trmOk t with
      | false =>
        have HT := Sec.mk (question_no1 ht)
        clear ht
        rintro e w6 ⟨rfl, hb⟩
        have P6 := Sec.mk ((hb.block _ (Array.getElem?_eq_some_iff.1 P5.out).1).trans P5.out)
        have Q6 := Sec.mk ((hb.block _ (Array.getElem?_eq_some_iff.1 Q5.out).1).trans Q5.out)
        have B6 := Sec.mk (bel B5.out hb)
        have V6 := Sec.mk (Kd.V_below V5.out hb (by decide))
        clear hb
        have hx0 : x = zeroSState := by rw [← HX.out]; unfold newS; rw [if_neg (by rw [HT.out]; simp)]
        have X9 := (box_at Q6.out).2.1
        have s0 := X9 0 _ rfl
        have s1 := X9 1 _ rfl
        clear X9
        rw [hx0] at s0 s1
        have s0 : w6.cell? ⟨Y, 0, none⟩ = some (.int .i64 0) := s0
        have s1 : w6.cell? ⟨Y, 1, none⟩ = some (.slice G1 0 k1) := s1
        clear hx0
        go_wp2_with (go_at_call 15; refine (caOk_c _).mono ?_; rintro e w9 ⟨rfl, hb⟩; have B9 := Sec.mk (bel B6.out hb); clear hb)
        go_ret
        exact ⟨rfl, B9.out⟩
      | true =>
        have HT1 := Sec.mk ht
        rintro e w6 ⟨rfl, hb⟩
        have P6 := Sec.mk ((hb.block _ (Array.getElem?_eq_some_iff.1 P5.out).1).trans P5.out)
        have Q6 := Sec.mk ((hb.block _ (Array.getElem?_eq_some_iff.1 Q5.out).1).trans Q5.out)
        have B6 := Sec.mk (bel B5.out hb)
        have V6 := Sec.mk (Kd.V_below V5.out hb (by decide))
        have BX6 := Sec.mk hb
        obtain ⟨x0, tr, htt⟩ : ∃ x0 tr, t = x0 :: tr := by
          cases t with
          | nil => exact absurd rfl (trmOk_ne ht)
          | cons x0 tr => exact ⟨x0, tr, rfl⟩
        obtain ⟨bq, offq, hA9, -, z0, -, -, -⟩ := cell_at (Kd.V_C V6.out) 0 (by rw [htt]; simp)
        have hh0 : headFun t = (x0.kind == 3) := by rw [htt]; rfl
        simp only [htt, List.getElem_cons_zero, Nat.zero_mul, Nat.add_zero] at z0
        have i1 : (0 : Int) < (t.length : Int) := by rw [htt, List.length_cons]; omega
        clear hb ht htt
        cases hh : headFun t with
        | false =>
          have HT := Sec.mk (question_no2 hh)
          have d0 : (x0.kind != 3) = true := by rw [hh] at hh0; simp only [bne, ← hh0]; rfl
          subst hA9
          clear hh hh0
          have hx0 : x = zeroSState := by rw [← HX.out]; unfold newS; rw [if_neg (by rw [HT.out]; simp)]
          have X9 := (box_at Q6.out).2.1
          have s0 := X9 0 _ rfl
          have s1 := X9 1 _ rfl
          clear X9
          rw [hx0] at s0 s1
          have s0 : w6.cell? ⟨Y, 0, none⟩ = some (.int .i64 0) := s0
          have s1 : w6.cell? ⟨Y, 1, none⟩ = some (.slice G1 0 k1) := s1
          clear hx0
          go_wp2_with (go_at_call 15; refine (caOk_c _).mono ?_; rintro e w9 ⟨rfl, hb⟩; have B9 := Sec.mk (bel B6.out hb); clear hb)
          go_ret
          exact ⟨rfl, B9.out⟩
        | true =>
          have d0 : (x0.kind != 3) = false := by rw [hh] at hh0; simp only [bne, ← hh0]; rfl
          have HQ := Sec.mk (question_at HT1.out hh)
          subst hA9
          clear hh hh0
          go_wp2_with fail
          refine (TrmCanon_c _ t _ _ V6.out).mono ?_
          rintro e w7 ⟨uc, rfl, hR, hb⟩
          obtain ⟨A7, c7, rfl, -, -⟩ := Kd.R_form hR
          have R7 := Sec.mk (Kd.R_V hR)
          have P7 := Sec.mk ((hb.block _ (Array.getElem?_eq_some_iff.1 P6.out).1).trans P6.out)
          have Q7 := Sec.mk ((hb.block _ (Array.getElem?_eq_some_iff.1 Q6.out).1).trans Q6.out)
          have B7 := Sec.mk (bel B6.out hb)
          have V7 := Sec.mk (Kd.V_below V6.out hb (by decide))
          have BX7 := Sec.mk (bel BX6.out hb)
          clear hb hR
          go_wp2_with fail
          refine (caTerm_c _ _ (canon t) t _ _ w7 R7.out V7.out).mono ?_
          cases hc : decide (canon t = t) with
          | false =>
            have HT : Sec (question t = false) := ⟨by rw [HQ.out, hc]⟩
            clear hc
            rintro e w8 ⟨rfl, hb⟩
            have P8 := Sec.mk ((hb.block _ (Array.getElem?_eq_some_iff.1 P7.out).1).trans P7.out)
            have Q8 := Sec.mk ((hb.block _ (Array.getElem?_eq_some_iff.1 Q7.out).1).trans Q7.out)
            have B8 := Sec.mk (bel B7.out hb)
            have V8 := Sec.mk (Kd.V_below V7.out hb (by decide))
            clear hb R7
            have hx0 : x = zeroSState := by rw [← HX.out]; unfold newS; rw [if_neg (by rw [HT.out]; simp)]
            have X9 := (box_at Q8.out).2.1
            have s0 := X9 0 _ rfl
            have s1 := X9 1 _ rfl
            clear X9
            rw [hx0] at s0 s1
            have s0 : w8.cell? ⟨Y, 0, none⟩ = some (.int .i64 0) := s0
            have s1 : w8.cell? ⟨Y, 1, none⟩ = some (.slice G1 0 k1) := s1
            clear hx0
            go_wp2_with (go_at_call 15; refine (caOk_c _).mono ?_; rintro e w9 ⟨rfl, hb⟩; have B9 := Sec.mk (bel B8.out hb); clear hb)
            go_ret
            exact ⟨rfl, B9.out⟩
          | true =>
            have HT : Sec (question t = true) := ⟨by rw [HQ.out, hc]⟩
            clear hc
            rintro e w8 ⟨rfl, hb⟩
            have P8 := Sec.mk ((hb.block _ (Array.getElem?_eq_some_iff.1 P7.out).1).trans P7.out)
            have Q8 := Sec.mk ((hb.block _ (Array.getElem?_eq_some_iff.1 Q7.out).1).trans Q7.out)
            have B8 := Sec.mk (bel B7.out hb)
            have V8 := Sec.mk (Kd.V_below V7.out hb (by decide))
            have BX8 := Sec.mk (bel BX7.out hb)
            have BG := Sec.mk (bel BG5.out BX8.out)
            clear hb R7
            have hx1 : x = ⟨1, [firstG t], [], (free t).length, [], t, []⟩ := by rw [← HX.out]; unfold newS; rw [if_pos HT.out]
            obtain ⟨vn, hvn⟩ : ∃ vn : Int, vn = ((free t).length : Int) := ⟨_, rfl⟩
            have HVN := Sec.mk hvn
            rw [hx1] at Q8 GG0 T50
            rw [← hvn] at Q8
            clear hx1 hvn
            have GG := Sec.mk (Kd.V_below (show kSGoal.V wr ok2 (.slice G1 1 k1) [firstG t] from GG0.out) BG.out (by decide))
            have T5 := Sec.mk (Kd.V_below (show kCell.V wr ok2 (.slice G5 t.length k5) t from T50.out) BG.out (by decide))
            go_wp2
            have X9 := (box_at P8.out).2.1
            have X0 := Sec.mk (X9 0 _ rfl)
            have X1 := Sec.mk (X9 1 _ rfl)
            clear X9
            have X9 := (box_at Q8.out).2.1
            have Y0 : Sec (w8.cell? ⟨Y, 0, none⟩ = some (.int .i64 1)) := ⟨X9 0 _ rfl⟩
            have Y1 : Sec (w8.cell? ⟨Y, 1, none⟩ = some (.slice G1 1 k1)) := ⟨X9 1 _ rfl⟩
            have Y2 : Sec (w8.cell? ⟨Y, 2, none⟩ = some (.slice G2 0 k2)) := ⟨X9 2 _ rfl⟩
            have Y3 : Sec (w8.cell? ⟨Y, 3, none⟩ = some (.int .i64 vn)) := ⟨X9 3 _ rfl⟩
            have Y4 : Sec (w8.cell? ⟨Y, 4, none⟩ = some (.slice G4 0 k4)) := ⟨X9 4 _ rfl⟩
            have Y5 : Sec (w8.cell? ⟨Y, 5, none⟩ = some (.slice G5 t.length k5)) := ⟨X9 5 _ rfl⟩
            have Y6 : Sec (w8.cell? ⟨Y, 6, none⟩ = some (.slice G6 0 k6)) := ⟨X9 6 _ rfl⟩
            clear X9
            have KX9 := Sec.mk (Kd.K_below KX5.out BX8.out)
            have VT9 := V8
            generalize hw8 : w8 = wr at *
            clear hw8
            refine wp_region_lists [[56], [57], [58], [59], [60], [61], [62], [63], [64], [65], [66], [67], [68], [69], [70], [71], [72], [73], [74], [75], [76], [77], [78], [4]]
              [fun val _ _ => val 56 = .pointer (some ⟨Y, 0, none⟩),
                fun val _ _ => val 57 = .int .i64 1,
                fun val _ _ => val 58 = .bool true,
                fun val _ _ => val 59 = .bool true,
                fun val _ _ => val 60 = .pointer (some ⟨Y, 2, none⟩),
                fun val _ _ => val 61 = .slice G2 0 k2,
                fun val _ _ => val 62 = .int .i64 0,
                fun val _ _ => val 63 = .bool true,
                fun val _ _ => val 64 = .bool true,
                fun val _ _ => val 65 = .bool true,
                fun val _ _ => val 66 = .pointer (some ⟨Y, 5, none⟩),
                fun val _ _ => val 67 = .slice G5 t.length k5,
                fun val _ _ => val 68 = .slice (some ⟨bq, offq, none⟩) t.length c9,
                fun val _ _ => val 69 = .bool true,
                fun val _ _ => val 70 = .bool true,
                fun val _ _ => val 71 = .bool true,
                fun val _ _ => val 72 = .agg #[.slice A1 p.clauses.length m1, .slice A2 p.places.length m2],
                fun val _ _ => val 73 = .agg #[.int .i64 1, .slice G1 1 k1, .slice G2 0 k2, .int .i64 vn, .slice G4 0 k4, .slice G5 t.length k5, .slice G6 0 k6],
                fun val _ _ => val 74 = .bool (prgOk p),
                fun val _ _ => val 75 = .agg #[.slice A1 p.clauses.length m1, .slice A2 p.places.length m2],
                fun val _ _ => val 76 = .bool (prgOk p),
                fun val _ _ => val 77 = .bool true,
                fun val _ _ => val 78 = .bool true,
                fun val _ _ => val 4 = .bool true]
              [[], [], [], [], [], [], [], [], [], [], [], [], [], [], [], [], [], [], [], [], [], [], [], []] 0 (fun _ => False) (fun _ _ => False) (by kernel_rfl) ⟨by kernel_rfl, by kernel_rfl, by kernel_rfl, by kernel_rfl, by kernel_rfl⟩
              (.cons (stab_val 56 (fun v => v = .pointer (some ⟨Y, 0, none⟩))) (.cons (stab_val 57 (fun v => v = .int .i64 1)) (.cons (stab_val 58 (fun v => v = .bool true)) (.cons (stab_val 59 (fun v => v = .bool true)) (.cons (stab_val 60 (fun v => v = .pointer (some ⟨Y, 2, none⟩))) (.cons (stab_val 61 (fun v => v = .slice G2 0 k2)) (.cons (stab_val 62 (fun v => v = .int .i64 0)) (.cons (stab_val 63 (fun v => v = .bool true)) (.cons (stab_val 64 (fun v => v = .bool true)) (.cons (stab_val 65 (fun v => v = .bool true)) (.cons (stab_val 66 (fun v => v = .pointer (some ⟨Y, 5, none⟩))) (.cons (stab_val 67 (fun v => v = .slice G5 t.length k5)) (.cons (stab_val 68 (fun v => v = .slice (some ⟨bq, offq, none⟩) t.length c9)) (.cons (stab_val 69 (fun v => v = .bool true)) (.cons (stab_val 70 (fun v => v = .bool true)) (.cons (stab_val 71 (fun v => v = .bool true)) (.cons (stab_val 72 (fun v => v = .agg #[.slice A1 p.clauses.length m1, .slice A2 p.places.length m2])) (.cons (stab_val 73 (fun v => v = .agg #[.int .i64 1, .slice G1 1 k1, .slice G2 0 k2, .int .i64 vn, .slice G4 0 k4, .slice G5 t.length k5, .slice G6 0 k6])) (.cons (stab_val 74 (fun v => v = .bool (prgOk p))) (.cons (stab_val 75 (fun v => v = .agg #[.slice A1 p.clauses.length m1, .slice A2 p.places.length m2])) (.cons (stab_val 76 (fun v => v = .bool (prgOk p))) (.cons (stab_val 77 (fun v => v = .bool true)) (.cons (stab_val 78 (fun v => v = .bool true)) (.cons (stab_val 4 (fun v => v = .bool true)) .nil))))))))))))))))))))))))
              (fun i j k h1 h2 => h1.elim) (fun i k h => h.elim) (fun i h1 h2 => by simp at h1 h2; omega) (.cons ?_ (.cons ?_ (.cons ?_ (.cons ?_ (.cons ?_ (.cons ?_ (.cons ?_ (.cons ?_ (.cons ?_ (.cons ?_ (.cons ?_ (.cons ?_ (.cons ?_ (.cons ?_ (.cons ?_ (.cons ?_ (.cons ?_ (.cons ?_ (.cons ?_ (.cons ?_ (.cons ?_ (.cons ?_ (.cons ?_ (.cons ?_ .nil)))))))))))))))))))))))) ?_
            · intro a W own hfor huse hap hmi hF K hK
              have e7 : a.eval (.tmp 7) = .pointer (some ⟨Y, 0, none⟩) := hfor 7 (by kernel_rfl)
              refine op_val (.pointer (some ⟨Y, 0, none⟩)) W rfl ?_ (hK _ _ (post_pure ?_))
              · clear hfor huse hap hmi hK hF
                generalize a.eval = ρ at *
                go_simp
              · exact (if_pos rfl)
            · intro a W own hfor huse hap hmi hF K hK
              have e56 : a.eval (.tmp 56) = .pointer (some ⟨Y, 0, none⟩) := huse 0 (by kernel_rfl)
              have c0 := foot_cell hF (fun h => h) Y0.out
              refine op_val (.int .i64 1) W rfl ?_ (hK _ _ (post_pure ?_))
              · clear hfor huse hap hmi hK hF
                generalize a.eval = ρ at *
                go_simp
              · exact (if_pos rfl)
            · intro a W own hfor huse hap hmi hF K hK
              have e57 : a.eval (.tmp 57) = .int .i64 1 := huse 1 (by kernel_rfl)
              have ec : a.eval (.const (.int .i64 1)) = .int .i64 1 := rfl
              refine op_val (.bool true) W rfl ?_ (hK _ _ (post_pure ?_))
              · clear hfor huse hap hmi hK hF
                generalize a.eval = ρ at *
                go_simp
              · exact (if_pos rfl)
            · intro a W own hfor huse hap hmi hF K hK
              have e58 : a.eval (.tmp 58) = .bool true := huse 2 (by kernel_rfl)
              refine op_val (.bool true) W rfl ?_ (hK _ _ (post_pure ?_))
              · clear hfor huse hap hmi hK hF
                generalize a.eval = ρ at *
                go_simp
              · exact (if_pos rfl)
            · intro a W own hfor huse hap hmi hF K hK
              have e7 : a.eval (.tmp 7) = .pointer (some ⟨Y, 0, none⟩) := hfor 7 (by kernel_rfl)
              have e59 : a.eval (.tmp 59) = .bool true := huse 3 (by kernel_rfl)
              refine gop_val (.pointer (some ⟨Y, 2, none⟩)) W (want_yes (j := 3) (b := true) rfl (yield_of (t := 59) rfl rfl e59)) ?_ (hK _ _ (post_pure ?_))
              · clear hfor huse hap hmi hK hF
                generalize a.eval = ρ at *
                go_simp
              · exact (if_pos rfl)
            · intro a W own hfor huse hap hmi hF K hK
              have e60 : a.eval (.tmp 60) = .pointer (some ⟨Y, 2, none⟩) := huse 4 (by kernel_rfl)
              have e59 : a.eval (.tmp 59) = .bool true := huse 3 (by kernel_rfl)
              have c2 := foot_cell hF (fun h => h) Y2.out
              refine gop_val (.slice G2 0 k2) W (want_yes (j := 3) (b := true) rfl (yield_of (t := 59) rfl rfl e59)) ?_ (hK _ _ (post_pure ?_))
              · clear hfor huse hap hmi hK hF
                generalize a.eval = ρ at *
                go_simp
              · exact (if_pos rfl)
            · intro a W own hfor huse hap hmi hF K hK
              have e61 : a.eval (.tmp 61) = .slice G2 0 k2 := huse 5 (by kernel_rfl)
              have e59 : a.eval (.tmp 59) = .bool true := huse 3 (by kernel_rfl)
              refine gop_val (.int .i64 0) W (want_yes (j := 3) (b := true) rfl (yield_of (t := 59) rfl rfl e59)) ?_ (hK _ _ (post_pure ?_))
              · clear hfor huse hap hmi hK hF
                generalize a.eval = ρ at *
                go_simp
              · exact (if_pos rfl)
            · intro a W own hfor huse hap hmi hF K hK
              have e62 : a.eval (.tmp 62) = .int .i64 0 := huse 6 (by kernel_rfl)
              have e59 : a.eval (.tmp 59) = .bool true := huse 3 (by kernel_rfl)
              have ec : a.eval (.const (.int .i64 0)) = .int .i64 0 := rfl
              refine gop_val (.bool true) W (want_yes (j := 3) (b := true) rfl (yield_of (t := 59) rfl rfl e59)) ?_ (hK _ _ (post_pure ?_))
              · clear hfor huse hap hmi hK hF
                generalize a.eval = ρ at *
                go_simp
              · exact (if_pos rfl)
            · intro a W own hfor huse hap hmi hF K hK
              have e59 : a.eval (.tmp 59) = .bool true := huse 3 (by kernel_rfl)
              have e63 : a.eval (.tmp 63) = .bool true := huse 7 (by kernel_rfl)
              have ec : a.eval (.const (.bool false)) = .bool false := rfl
              refine op_val (.bool true) W rfl ?_ (hK _ _ (post_pure ?_))
              · clear hfor huse hap hmi hK hF
                generalize a.eval = ρ at *
                go_simp
              · exact (if_pos rfl)
            · intro a W own hfor huse hap hmi hF K hK
              have e64 : a.eval (.tmp 64) = .bool true := huse 8 (by kernel_rfl)
              refine op_val (.bool true) W rfl ?_ (hK _ _ (post_pure ?_))
              · clear hfor huse hap hmi hK hF
                generalize a.eval = ρ at *
                go_simp
              · exact (if_pos rfl)
            · intro a W own hfor huse hap hmi hF K hK
              have e7 : a.eval (.tmp 7) = .pointer (some ⟨Y, 0, none⟩) := hfor 7 (by kernel_rfl)
              have e65 : a.eval (.tmp 65) = .bool true := huse 9 (by kernel_rfl)
              refine gop_val (.pointer (some ⟨Y, 5, none⟩)) W (want_yes (j := 9) (b := true) rfl (yield_of (t := 65) rfl rfl e65)) ?_ (hK _ _ (post_pure ?_))
              · clear hfor huse hap hmi hK hF
                generalize a.eval = ρ at *
                go_simp
              · exact (if_pos rfl)
            · intro a W own hfor huse hap hmi hF K hK
              have e66 : a.eval (.tmp 66) = .pointer (some ⟨Y, 5, none⟩) := huse 10 (by kernel_rfl)
              have e65 : a.eval (.tmp 65) = .bool true := huse 9 (by kernel_rfl)
              have c5 := foot_cell hF (fun h => h) Y5.out
              refine gop_val (.slice G5 t.length k5) W (want_yes (j := 9) (b := true) rfl (yield_of (t := 65) rfl rfl e65)) ?_ (hK _ _ (post_pure ?_))
              · clear hfor huse hap hmi hK hF
                generalize a.eval = ρ at *
                go_simp
              · exact (if_pos rfl)
            · intro a W own hfor huse hap hmi hF K hK
              have e5 : a.eval (.tmp 5) = .slice (some ⟨bq, offq, none⟩) t.length c9 := hfor 5 (by kernel_rfl)
              have e65 : a.eval (.tmp 65) = .bool true := huse 9 (by kernel_rfl)
              refine gop_val (.slice (some ⟨bq, offq, none⟩) t.length c9) W (want_yes (j := 9) (b := true) rfl (yield_of (t := 65) rfl rfl e65)) ?_ (hK _ _ (post_pure ?_))
              · clear hfor huse hap hmi hK hF
                generalize a.eval = ρ at *
                go_simp
              · exact (if_pos rfl)
            · intro a W own hfor huse hap hmi hF K hK
              have e67 : a.eval (.tmp 67) = .slice G5 t.length k5 := huse 11 (by kernel_rfl)
              have e68 : a.eval (.tmp 68) = .slice (some ⟨bq, offq, none⟩) t.length c9 := huse 12 (by kernel_rfl)
              have e65 : a.eval (.tmp 65) = .bool true := huse 9 (by kernel_rfl)
              have ht5 := foot_V hF (fun _ _ h => h) T5.out (by decide)
              have hvt := foot_V hF (fun _ _ h => h) VT9.out (by decide)
              have efn : a.eval (.func 13) = .func (.func 13) #[] #[] := rfl
              refine gop_call (f := 13) (args := #[.slice G5 t.length k5, .slice (some ⟨bq, offq, none⟩) t.length c9]) (fun v w1 => v = .bool true ∧ Below W.heap.size W w1) (want_yes (j := 9) (b := true) rfl (yield_of (t := 65) rfl rfl e65)) ?_ ?_ (fun v w1 h => ?_)
              · clear hfor huse hap hmi hK hF
                generalize a.eval = ρ at *
                go_simp
              · exact (caTerm0_c _ _ t ok2 ok0 W ht5 hvt).mono (by rintro e w1 ⟨rfl, h2⟩; exact ⟨_, rfl, rfl, h2⟩)
              · obtain ⟨rfl, h2⟩ := h
                exact hK _ _ (post_new h2 (if_pos rfl))
            · intro a W own hfor huse hap hmi hF K hK
              have e65 : a.eval (.tmp 65) = .bool true := huse 9 (by kernel_rfl)
              have e69 : a.eval (.tmp 69) = .bool true := huse 13 (by kernel_rfl)
              have ec : a.eval (.const (.bool false)) = .bool false := rfl
              refine op_val (.bool true) W rfl ?_ (hK _ _ (post_pure ?_))
              · clear hfor huse hap hmi hK hF
                generalize a.eval = ρ at *
                go_simp
              · exact (if_pos rfl)
            · intro a W own hfor huse hap hmi hF K hK
              have e70 : a.eval (.tmp 70) = .bool true := huse 14 (by kernel_rfl)
              refine op_val (.bool true) W rfl ?_ (hK _ _ (post_pure ?_))
              · clear hfor huse hap hmi hK hF
                generalize a.eval = ρ at *
                go_simp
              · exact (if_pos rfl)
            · intro a W own hfor huse hap hmi hF K hK
              have e6 : a.eval (.tmp 6) = .pointer (some ⟨X, 0, none⟩) := hfor 6 (by kernel_rfl)
              have e71 : a.eval (.tmp 71) = .bool true := huse 15 (by kernel_rfl)
              have c0 := foot_cell hF (fun h => h) X0.out
              have c1 := foot_cell hF (fun h => h) X1.out
              refine gop_val (.agg #[.slice A1 p.clauses.length m1, .slice A2 p.places.length m2]) W (want_yes (j := 15) (b := true) rfl (yield_of (t := 71) rfl rfl e71)) ?_ (hK _ _ (post_pure ?_))
              · clear hfor huse hap hmi hK hF
                generalize a.eval = ρ at *
                go_simp
              · exact (if_pos rfl)
            · intro a W own hfor huse hap hmi hF K hK
              have e7 : a.eval (.tmp 7) = .pointer (some ⟨Y, 0, none⟩) := hfor 7 (by kernel_rfl)
              have e71 : a.eval (.tmp 71) = .bool true := huse 15 (by kernel_rfl)
              have c0 := foot_cell hF (fun h => h) Y0.out
              have c1 := foot_cell hF (fun h => h) Y1.out
              have c2 := foot_cell hF (fun h => h) Y2.out
              have c3 := foot_cell hF (fun h => h) Y3.out
              have c4 := foot_cell hF (fun h => h) Y4.out
              have c5 := foot_cell hF (fun h => h) Y5.out
              have c6 := foot_cell hF (fun h => h) Y6.out
              refine gop_val (.agg #[.int .i64 1, .slice G1 1 k1, .slice G2 0 k2, .int .i64 vn, .slice G4 0 k4, .slice G5 t.length k5, .slice G6 0 k6]) W (want_yes (j := 15) (b := true) rfl (yield_of (t := 71) rfl rfl e71)) ?_ (hK _ _ (post_pure ?_))
              · clear hfor huse hap hmi hK hF
                generalize a.eval = ρ at *
                go_simp
              · exact (if_pos rfl)
            · intro a W own hfor huse hap hmi hF K hK
              have e72 : a.eval (.tmp 72) = .agg #[.slice A1 p.clauses.length m1, .slice A2 p.places.length m2] := huse 16 (by kernel_rfl)
              have e73 : a.eval (.tmp 73) = .agg #[.int .i64 1, .slice G1 1 k1, .slice G2 0 k2, .int .i64 vn, .slice G4 0 k4, .slice G5 t.length k5, .slice G6 0 k6] := huse 17 (by kernel_rfl)
              have e71 : a.eval (.tmp 71) = .bool true := huse 15 (by kernel_rfl)
              have hkp := kProg.K_move (show Keeps wr W ok ok from fun q h1 h2 => ⟨h1, hF.block q h2 (fun h => h)⟩) KX9.out
              have hg1 := foot_V hF (fun _ _ h => h) GG.out (by decide)
              have ht5 := foot_V hF (fun _ _ h => h) T5.out (by decide)
              have efn : a.eval (.func 16) = .func (.func 16) #[] #[] := rfl
              refine gop_call (f := 16) (args := #[.agg #[.slice A1 p.clauses.length m1, .slice A2 p.places.length m2], .agg #[.int .i64 1, .slice G1 1 k1, .slice G2 0 k2, .int .i64 vn, .slice G4 0 k4, .slice G5 t.length k5, .slice G6 0 k6]]) (fun v w1 => v = .bool (prgOk p) ∧ Below W.heap.size W w1) (want_yes (j := 15) (b := true) rfl (yield_of (t := 71) rfl rfl e71)) ?_ ?_ (fun v w1 h => ?_)
              · clear hfor huse hap hmi hK hF
                generalize a.eval = ρ at *
                go_simp
              · exact (SlvOk0_i p t vn G1 G2 G4 G5 G6 A1 A2 k1 k2 k4 k5 k6 m1 m2 ok ok2 W hkp hg1 ht5 HT.out HVN.out).mono (by rintro e w1 ⟨rfl, h2⟩; exact ⟨_, rfl, rfl, h2⟩)
              · obtain ⟨rfl, h2⟩ := h
                exact hK _ _ (post_new h2 (if_pos rfl))
            · intro a W own hfor huse hap hmi hF K hK
              have e6 : a.eval (.tmp 6) = .pointer (some ⟨X, 0, none⟩) := hfor 6 (by kernel_rfl)
              have e71 : a.eval (.tmp 71) = .bool true := huse 15 (by kernel_rfl)
              have c0 := foot_cell hF (fun h => h) X0.out
              have c1 := foot_cell hF (fun h => h) X1.out
              refine gop_val (.agg #[.slice A1 p.clauses.length m1, .slice A2 p.places.length m2]) W (want_yes (j := 15) (b := true) rfl (yield_of (t := 71) rfl rfl e71)) ?_ (hK _ _ (post_pure ?_))
              · clear hfor huse hap hmi hK hF
                generalize a.eval = ρ at *
                go_simp
              · exact (if_pos rfl)
            · intro a W own hfor huse hap hmi hF K hK
              have e75 : a.eval (.tmp 75) = .agg #[.slice A1 p.clauses.length m1, .slice A2 p.places.length m2] := huse 19 (by kernel_rfl)
              have e71 : a.eval (.tmp 71) = .bool true := huse 15 (by kernel_rfl)
              have hkp := kProg.K_move (show Keeps wr W ok (fun k => ok k ∧ k < W.heap.size) from fun q h1 h2 => ⟨⟨h1, Nat.lt_of_lt_of_le h2 hF.size⟩, hF.block q h2 (fun h => h)⟩) KX9.out
              have efn : a.eval (.func 17) = .func (.func 17) #[] #[] := rfl
              refine gop_call (f := 17) (args := #[.agg #[.slice A1 p.clauses.length m1, .slice A2 p.places.length m2]]) (fun v w1 => v = .bool (prgOk p) ∧ Below W.heap.size W w1) (want_yes (j := 15) (b := true) rfl (yield_of (t := 71) rfl rfl e71)) ?_ ?_ (fun v w1 h => ?_)
              · clear hfor huse hap hmi hK hF
                generalize a.eval = ρ at *
                go_simp
              · exact (specPrgOk_c p _ _ W hkp (fun k h => h.2)).mono (by rintro e w1 ⟨rfl, h2⟩; exact ⟨_, rfl, rfl, h2⟩)
              · obtain ⟨rfl, h2⟩ := h
                exact hK _ _ (post_new h2 (if_pos rfl))
            · intro a W own hfor huse hap hmi hF K hK
              have e74 : a.eval (.tmp 74) = .bool (prgOk p) := huse 18 (by kernel_rfl)
              have e76 : a.eval (.tmp 76) = .bool (prgOk p) := huse 20 (by kernel_rfl)
              have e71 : a.eval (.tmp 71) = .bool true := huse 15 (by kernel_rfl)
              refine gop_val (.bool true) W (want_yes (j := 15) (b := true) rfl (yield_of (t := 71) rfl rfl e71)) ?_ (hK _ _ (post_pure ?_))
              · clear hfor huse hap hmi hK hF
                generalize a.eval = ρ at *
                go_simp
              · exact (if_pos rfl)
            · intro a W own hfor huse hap hmi hF K hK
              have e71 : a.eval (.tmp 71) = .bool true := huse 15 (by kernel_rfl)
              have e77 : a.eval (.tmp 77) = .bool true := huse 21 (by kernel_rfl)
              have ec : a.eval (.const (.bool false)) = .bool false := rfl
              refine op_val (.bool true) W rfl ?_ (hK _ _ (post_pure ?_))
              · clear hfor huse hap hmi hK hF
                generalize a.eval = ρ at *
                go_simp
              · exact (if_pos rfl)
            · intro a W own hfor huse hap hmi hF K hK
              have e78 : a.eval (.tmp 78) = .bool true := huse 22 (by kernel_rfl)
              refine op_val (.bool true) W rfl ?_ (hK _ _ (post_pure ?_))
              · clear hfor huse hap hmi hK hF
                generalize a.eval = ρ at *
                go_simp
              · exact (if_pos rfl)
            intro a' W own hf
            have s1 := hf.st.size
            have s2 := hf.st.rest
            have s3 := fun t ht => hf.st.kept t ht
            revert hf
            revert a'
            refine lay_intro (df := []) [true, true, true, true, false, true, true, true, true, true, true, true, true, true, true, true, true, true, true, true, true, true, true, true, true, true, true, true, true, true, true, true, true, true, true, true, true, true, true, true, true, true, true, true, true, true, true, true, true, true, true, true, true, true, true, true, false, false, false, false, false, false, false, false, false, false, false, false, false, false, false, false, false, false, false, false, false, false, false] (by kernel_rfl) rfl ?_
            intro x78 x77 x76 x75 x74 x73 x72 x71 x70 x69 x68 x67 x66 x65 x64 x63 x62 x61 x60 x59 x58 x57 x56 x4 hf
            have e4 : x4 = .bool true := hf.at 23 (fun val _ _ => val 4 = .bool true) rfl (by kernel_rfl)
            subst e4
            have HF := Sec.mk hf.st.foot
            have BF := Sec.mk (HF.out.below (belD B8.out) (fun k h => h.elim))
            clear hf HF
            go_wp2
            go_ret
            exact ⟨rfl, BF.out⟩
    · have ql2 : decide ((len2 : Int) > 1048576) = true := decide_eq_true (by omega)
      go_enter Tryz.func3, Tryz.ntmps3
      go_wp2
      go_ret
      exact ⟨rfl, Below.refl _ _⟩
  · have ql : decide ((len : Int) > 1048576) = true := decide_eq_true (by omega)
    go_enter Tryz.func3, Tryz.ntmps3
    go_wp2
    go_ret
    exact ⟨rfl, Below.refl _ _⟩
end
end Go.Proofs.YtgiobpggonceeaaGreatDoor
