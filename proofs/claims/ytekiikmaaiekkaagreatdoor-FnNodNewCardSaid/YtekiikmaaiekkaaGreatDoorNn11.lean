/- Draws of programs: the text of a goal, of a clause: there is one, and it is not long; and what goes with it. -/
import Derived.Test.YtekiikmaaiekkaaGreatDoorNn5
import Derived.Test.YtekiikmaaiekkaaGreatDoorNn10
namespace Go.Proofs.YtekiikmaaiekkaaGreatDoor
section
open Go.RowKit
set_option linter.unusedVariables false
set_option maxRecDepth 100000
set_option maxHeartbeats 4000000 in
theorem GoalText_c (g : Goal) (cs : List Value) (ok : Nat → Prop) (w : World) (hK : kGoal.K w ok g cs) :
    Calls Tryz.prog 274 #[.agg cs.toArray] w fun e w' => ∃ s : ByteArray, e = .returned (.string s) ∧ s.size ≤ 4000 ∧ Below w.heap.size w w' := by
  have KK := hK
  obtain ⟨v1, v2, v3, rfl, h1, h2, h3⟩ := kGoal_K hK
  obtain ⟨E1, m1, rfl, -⟩ := id h1
  obtain ⟨E2, m2, rfl, -⟩ := id h2
  obtain ⟨E3, m3, rfl, -⟩ := id h3
  have B0 := Sec.mk (belA (Below.refl w.heap.size w) (.cells #[.int .i64 g.kind, .slice E1 g.a.length m1, .slice E2 g.b.length m2, .slice E3 g.c.length m3] 141))
  have P0 := Sec.mk (heap_alloc_new w (.cells #[.int .i64 g.kind, .slice E1 g.a.length m1, .slice E2 g.b.length m2, .slice E3 g.c.length m3] 141))
  have U1 := Sec.mk (Kd.V_below h1 B0.out (by decide))
  have U2 := Sec.mk (Kd.V_below h2 B0.out (by decide))
  have U3 := Sec.mk (Kd.V_below h3 B0.out (by decide))
  have GO := Sec.mk (specGoalOk_c g _ ok _ (Kd.K_below KK B0.out))
  have X := (box_at P0.out).2.1
  have y0 := X 0 _ rfl
  have y1 := X 1 _ rfl
  have y2 := X 2 _ rfl
  have y3 := X 3 _ rfl
  clear X hK KK h1 h2 h3
  have T0 : Sec True := ⟨trivial⟩
  have hu := Tryz.underlying141
  generalize goalOk g = gk at *
  cases gk with
  | false =>
    go_enter Tryz.func274, Tryz.ntmps274
    go_wp2_with (go_at_call 167; refine (GO.out).mono ?_; rintro e w1 ⟨rfl, hb⟩; have B1 := Sec.mk (bel B0.out hb); clear hb)
    go_ret
    exact ⟨_, rfl, by decide, B1.out⟩
  | true =>
  rcases (show g.kind = 2 ∨ g.kind = 3 ∨ g.kind = 4 ∨ g.kind = 5 ∨ (¬ g.kind = 2 ∧ ¬ g.kind = 3 ∧ ¬ g.kind = 4 ∧ ¬ g.kind = 5) by omega) with hk | hk | hk | hk | hk
  ·
    have k2 : (g.kind == 2) = true := by rw [hk]; rfl
    have k3 : (g.kind == 3) = false := by rw [hk]; rfl
    have k4 : (g.kind == 4) = false := by rw [hk]; rfl
    have k5 : (g.kind == 5) = false := by rw [hk]; rfl
    clear hk
    go_enter Tryz.func274, Tryz.ntmps274
    go_wp2_with (clear T0; go_at_call 167; have T1 : Sec True := ⟨trivial⟩; refine (GO.out).mono ?_; rintro e w1 ⟨rfl, hb⟩; have B1 := Sec.mk (bel B0.out hb); have P1 := Sec.mk ((hb.block _ (Array.getElem?_eq_some_iff.1 P0.out).1).trans P0.out); have X := (box_at P1.out).2.1; have z0 := X 0 _ rfl; have z1 := X 1 _ rfl; have Y1 := Sec.mk (X 1 _ rfl); have Y2 := Sec.mk (X 2 _ rfl); have Y3 := Sec.mk (X 3 _ rfl); have V1 := Sec.mk (Kd.V_below U1.out hb (by decide)); have V2 := Sec.mk (Kd.V_below U2.out hb (by decide)); have V3 := Sec.mk (Kd.V_below U3.out hb (by decide)); clear hb X)
    generalize w1 = wr at *
    refine wp_region_lists [[10], [11], [12], [13], [14], [15], [16], [17], [2]]
      [fun val _ _ => val 10 = .pointer (some ⟨w.heap.size, 1, none⟩),
        fun val _ _ => val 11 = .slice E1 g.a.length m1,
        fun val _ _ => ∃ x : ByteArray, val 12 = .string x ∧ x.size ≤ 1000,
        fun val _ _ => ∃ x : ByteArray, val 13 = .string x ∧ x.size ≤ 1010,
        fun val _ _ => val 14 = .pointer (some ⟨w.heap.size, 2, none⟩),
        fun val _ _ => val 15 = .slice E2 g.b.length m2,
        fun val _ _ => ∃ x : ByteArray, val 16 = .string x ∧ x.size ≤ 1000,
        fun val _ _ => ∃ x : ByteArray, val 17 = .string x ∧ x.size ≤ 2010,
        fun val _ _ => ∃ x : ByteArray, val 2 = .string x ∧ x.size ≤ 2010]
      [[], [], [], [], [], [], [], [], []] 0 (fun _ => False) (fun _ _ => False) (by kernel_rfl) ⟨by kernel_rfl, by kernel_rfl, by kernel_rfl, by kernel_rfl, by kernel_rfl⟩
      (.cons (stab_val 10 (fun v => v = .pointer (some ⟨w.heap.size, 1, none⟩))) (.cons (stab_val 11 (fun v => v = .slice E1 g.a.length m1)) (.cons (stab_val 12 (fun v => ∃ x : ByteArray, v = .string x ∧ x.size ≤ 1000)) (.cons (stab_val 13 (fun v => ∃ x : ByteArray, v = .string x ∧ x.size ≤ 1010)) (.cons (stab_val 14 (fun v => v = .pointer (some ⟨w.heap.size, 2, none⟩))) (.cons (stab_val 15 (fun v => v = .slice E2 g.b.length m2)) (.cons (stab_val 16 (fun v => ∃ x : ByteArray, v = .string x ∧ x.size ≤ 1000)) (.cons (stab_val 17 (fun v => ∃ x : ByteArray, v = .string x ∧ x.size ≤ 2010)) (.cons (stab_val 2 (fun v => ∃ x : ByteArray, v = .string x ∧ x.size ≤ 2010)) .nil)))))))))
      (fun i j k h1 h2 => h1.elim) (fun i k h => h.elim) (fun i h1 h2 => by simp at h1 h2; omega) (.cons ?_ (.cons ?_ (.cons ?_ (.cons ?_ (.cons ?_ (.cons ?_ (.cons ?_ (.cons ?_ (.cons ?_ .nil))))))))) ?_
    · intro a W own hfor huse hap hmi hF K hK
      have e1 : a.eval (.tmp 1) = .pointer (some ⟨w.heap.size, 0, none⟩) := hfor 1 (by kernel_rfl)
      refine op_val (.pointer (some ⟨w.heap.size, 1, none⟩)) W rfl ?_ (hK _ _ (post_pure ?_))
      · clear hfor huse hap hmi hK hF
        generalize a.eval = ρ at *
        go_simp
      · exact (if_pos rfl)
    · intro a W own hfor huse hap hmi hF K hK
      have e10 : a.eval (.tmp 10) = .pointer (some ⟨w.heap.size, 1, none⟩) := huse 0 (by kernel_rfl)
      have c1 := foot_cell hF (fun h => h) Y1.out
      refine op_val (.slice E1 g.a.length m1) W rfl ?_ (hK _ _ (post_pure ?_))
      · clear hfor huse hap hmi hK hF
        generalize a.eval = ρ at *
        go_simp
      · exact (if_pos rfl)
    · intro a W own hfor huse hap hmi hF K hK
      have e11 : a.eval (.tmp 11) = .slice E1 g.a.length m1 := huse 1 (by kernel_rfl)
      have efn : a.eval (.func 247) = .func (.func 247) #[] #[] := rfl
      refine op_call (f := 247) (args := #[.slice E1 g.a.length m1]) (fun v w1 => (∃ x : ByteArray, v = .string x ∧ x.size ≤ 1000) ∧ Below W.heap.size W w1) rfl ?_ ?_ (fun v w1 h => ?_)
      · clear hfor huse hap hmi hK hF
        generalize a.eval = ρ at *
        go_simp
      · exact (TrmText_c _ g.a ok W (foot_V hF (fun _ _ h => h) V1.out (by decide))).mono (by rintro e w1 ⟨x, rfl, h1, h2⟩; exact ⟨_, rfl, ⟨x, rfl, h1⟩, h2⟩)
      · obtain ⟨⟨x, rfl, hx⟩, h2⟩ := h
        exact hK _ _ (post_new h2 ⟨x, if_pos rfl, hx⟩)
    · intro a W own hfor huse hap hmi hF K hK
      obtain ⟨ya, ea, ha⟩ : ∃ x : ByteArray, a.eval (.tmp 12) = .string x ∧ x.size ≤ 1000 := huse 2 (by kernel_rfl)
      have ecb : a.eval (.const (.string ⟨#[32, 61, 32]⟩)) = .string ⟨#[32, 61, 32]⟩ := rfl
      have hb : (⟨#[32, 61, 32]⟩ : ByteArray).size ≤ 10 := by decide
      have hsz := Sec.mk (ByteArray.size_append (a := ya) (b := ⟨#[32, 61, 32]⟩))
      refine op_val (.string (ya ++ ⟨#[32, 61, 32]⟩)) W rfl ?_ (hK _ _ (post_pure ⟨_, if_pos rfl, by rw [hsz.out]; omega⟩))
      · clear hfor huse hap hmi hK hF
        generalize a.eval = ρ at *
        go_simp
        try omega
    · intro a W own hfor huse hap hmi hF K hK
      have e1 : a.eval (.tmp 1) = .pointer (some ⟨w.heap.size, 0, none⟩) := hfor 1 (by kernel_rfl)
      refine op_val (.pointer (some ⟨w.heap.size, 2, none⟩)) W rfl ?_ (hK _ _ (post_pure ?_))
      · clear hfor huse hap hmi hK hF
        generalize a.eval = ρ at *
        go_simp
      · exact (if_pos rfl)
    · intro a W own hfor huse hap hmi hF K hK
      have e14 : a.eval (.tmp 14) = .pointer (some ⟨w.heap.size, 2, none⟩) := huse 4 (by kernel_rfl)
      have c2 := foot_cell hF (fun h => h) Y2.out
      refine op_val (.slice E2 g.b.length m2) W rfl ?_ (hK _ _ (post_pure ?_))
      · clear hfor huse hap hmi hK hF
        generalize a.eval = ρ at *
        go_simp
      · exact (if_pos rfl)
    · intro a W own hfor huse hap hmi hF K hK
      have e15 : a.eval (.tmp 15) = .slice E2 g.b.length m2 := huse 5 (by kernel_rfl)
      have efn : a.eval (.func 247) = .func (.func 247) #[] #[] := rfl
      refine op_call (f := 247) (args := #[.slice E2 g.b.length m2]) (fun v w1 => (∃ x : ByteArray, v = .string x ∧ x.size ≤ 1000) ∧ Below W.heap.size W w1) rfl ?_ ?_ (fun v w1 h => ?_)
      · clear hfor huse hap hmi hK hF
        generalize a.eval = ρ at *
        go_simp
      · exact (TrmText_c _ g.b ok W (foot_V hF (fun _ _ h => h) V2.out (by decide))).mono (by rintro e w1 ⟨x, rfl, h1, h2⟩; exact ⟨_, rfl, ⟨x, rfl, h1⟩, h2⟩)
      · obtain ⟨⟨x, rfl, hx⟩, h2⟩ := h
        exact hK _ _ (post_new h2 ⟨x, if_pos rfl, hx⟩)
    · intro a W own hfor huse hap hmi hF K hK
      obtain ⟨ya, ea, ha⟩ : ∃ x : ByteArray, a.eval (.tmp 13) = .string x ∧ x.size ≤ 1010 := huse 3 (by kernel_rfl)
      obtain ⟨yb, eb, hb⟩ : ∃ x : ByteArray, a.eval (.tmp 16) = .string x ∧ x.size ≤ 1000 := huse 6 (by kernel_rfl)
      have hsz := Sec.mk (ByteArray.size_append (a := ya) (b := yb))
      refine op_val (.string (ya ++ yb)) W rfl ?_ (hK _ _ (post_pure ⟨_, if_pos rfl, by rw [hsz.out]; omega⟩))
      · clear hfor huse hap hmi hK hF
        generalize a.eval = ρ at *
        go_simp
        try omega
    · intro a W own hfor huse hap hmi hF K hK
      obtain ⟨y, e, h⟩ : ∃ x : ByteArray, a.eval (.tmp 17) = .string x ∧ x.size ≤ 2010 := huse 7 (by kernel_rfl)
      refine op_val (.string y) W rfl ?_ (hK _ _ (post_pure ⟨_, if_pos rfl, h⟩))
      · clear hfor huse hap hmi hK hF
        generalize a.eval = ρ at *
        go_simp
    intro a' W own hf
    have hsz := hf.st.size
    have hdf := hf.st.rest
    obtain ⟨⟨l⟩, df⟩ := a'
    have hl0 : l.length = 48 := hsz
    clear hsz
    obtain rfl : df = [] := hdf
    obtain ⟨x0, l0, rfl, hl1⟩ := lst_cons hl0
    clear hl0
    obtain ⟨x1, l1, rfl, hl2⟩ := lst_cons hl1
    clear hl1
    obtain ⟨x2, l2, rfl, hl3⟩ := lst_cons hl2
    clear hl2
    obtain ⟨x3, l3, rfl, hl4⟩ := lst_cons hl3
    clear hl3
    obtain ⟨x4, l4, rfl, hl5⟩ := lst_cons hl4
    clear hl4
    obtain ⟨x5, l5, rfl, hl6⟩ := lst_cons hl5
    clear hl5
    obtain ⟨x6, l6, rfl, hl7⟩ := lst_cons hl6
    clear hl6
    obtain ⟨x7, l7, rfl, hl8⟩ := lst_cons hl7
    clear hl7
    obtain ⟨x8, l8, rfl, hl9⟩ := lst_cons hl8
    clear hl8
    obtain ⟨x9, l9, rfl, hl10⟩ := lst_cons hl9
    clear hl9
    obtain ⟨x10, l10, rfl, hl11⟩ := lst_cons hl10
    clear hl10
    obtain ⟨x11, l11, rfl, hl12⟩ := lst_cons hl11
    clear hl11
    obtain ⟨x12, l12, rfl, hl13⟩ := lst_cons hl12
    clear hl12
    obtain ⟨x13, l13, rfl, hl14⟩ := lst_cons hl13
    clear hl13
    obtain ⟨x14, l14, rfl, hl15⟩ := lst_cons hl14
    clear hl14
    obtain ⟨x15, l15, rfl, hl16⟩ := lst_cons hl15
    clear hl15
    obtain ⟨x16, l16, rfl, hl17⟩ := lst_cons hl16
    clear hl16
    obtain ⟨x17, l17, rfl, hl18⟩ := lst_cons hl17
    clear hl17
    obtain ⟨x18, l18, rfl, hl19⟩ := lst_cons hl18
    clear hl18
    obtain ⟨x19, l19, rfl, hl20⟩ := lst_cons hl19
    clear hl19
    obtain ⟨x20, l20, rfl, hl21⟩ := lst_cons hl20
    clear hl20
    obtain ⟨x21, l21, rfl, hl22⟩ := lst_cons hl21
    clear hl21
    obtain ⟨x22, l22, rfl, hl23⟩ := lst_cons hl22
    clear hl22
    obtain ⟨x23, l23, rfl, hl24⟩ := lst_cons hl23
    clear hl23
    obtain ⟨x24, l24, rfl, hl25⟩ := lst_cons hl24
    clear hl24
    obtain ⟨x25, l25, rfl, hl26⟩ := lst_cons hl25
    clear hl25
    obtain ⟨x26, l26, rfl, hl27⟩ := lst_cons hl26
    clear hl26
    obtain ⟨x27, l27, rfl, hl28⟩ := lst_cons hl27
    clear hl27
    obtain ⟨x28, l28, rfl, hl29⟩ := lst_cons hl28
    clear hl28
    obtain ⟨x29, l29, rfl, hl30⟩ := lst_cons hl29
    clear hl29
    obtain ⟨x30, l30, rfl, hl31⟩ := lst_cons hl30
    clear hl30
    obtain ⟨x31, l31, rfl, hl32⟩ := lst_cons hl31
    clear hl31
    obtain ⟨x32, l32, rfl, hl33⟩ := lst_cons hl32
    clear hl32
    obtain ⟨x33, l33, rfl, hl34⟩ := lst_cons hl33
    clear hl33
    obtain ⟨x34, l34, rfl, hl35⟩ := lst_cons hl34
    clear hl34
    obtain ⟨x35, l35, rfl, hl36⟩ := lst_cons hl35
    clear hl35
    obtain ⟨x36, l36, rfl, hl37⟩ := lst_cons hl36
    clear hl36
    obtain ⟨x37, l37, rfl, hl38⟩ := lst_cons hl37
    clear hl37
    obtain ⟨x38, l38, rfl, hl39⟩ := lst_cons hl38
    clear hl38
    obtain ⟨x39, l39, rfl, hl40⟩ := lst_cons hl39
    clear hl39
    obtain ⟨x40, l40, rfl, hl41⟩ := lst_cons hl40
    clear hl40
    obtain ⟨x41, l41, rfl, hl42⟩ := lst_cons hl41
    clear hl41
    obtain ⟨x42, l42, rfl, hl43⟩ := lst_cons hl42
    clear hl42
    obtain ⟨x43, l43, rfl, hl44⟩ := lst_cons hl43
    clear hl43
    obtain ⟨x44, l44, rfl, hl45⟩ := lst_cons hl44
    clear hl44
    obtain ⟨x45, l45, rfl, hl46⟩ := lst_cons hl45
    clear hl45
    obtain ⟨x46, l46, rfl, hl47⟩ := lst_cons hl46
    clear hl46
    obtain ⟨x47, l47, rfl, hl48⟩ := lst_cons hl47
    clear hl47
    obtain rfl := List.eq_nil_of_length_eq_zero hl48
    have e0 := hf.st.kept 0 (by kernel_rfl)
    simp only [slotsOf, Act.eval, Array.getD_eq_getD_getElem?, List.getElem?_toArray, List.getElem?_cons_zero, Option.getD_some] at e0
    subst e0
    have e1 := hf.st.kept 1 (by kernel_rfl)
    simp only [slotsOf, Act.eval, Array.getD_eq_getD_getElem?, List.getElem?_toArray, List.getElem?_cons_succ, List.getElem?_cons_zero, Option.getD_some] at e1
    subst e1
    obtain ⟨y, e2, hy⟩ := hf.at 8 (fun val _ _ => ∃ x : ByteArray, val 2 = .string x ∧ x.size ≤ 2010) rfl (by kernel_rfl)
    have e2 : x2 = .string y := e2
    subst e2
    have B4 := Sec.mk (hf.st.foot.below (belD B1.out) (fun k h => h.elim))
    clear hf
    go_wp2
    go_ret
    exact ⟨y, rfl, by omega, B4.out⟩
  ·
    have k2 : (g.kind == 2) = false := by rw [hk]; rfl
    have k3 : (g.kind == 3) = true := by rw [hk]; rfl
    have k4 : (g.kind == 4) = false := by rw [hk]; rfl
    have k5 : (g.kind == 5) = false := by rw [hk]; rfl
    clear hk
    go_enter Tryz.func274, Tryz.ntmps274
    go_wp2_with (clear T0; go_at_call 167; have T1 : Sec True := ⟨trivial⟩; refine (GO.out).mono ?_; rintro e w1 ⟨rfl, hb⟩; have B1 := Sec.mk (bel B0.out hb); have P1 := Sec.mk ((hb.block _ (Array.getElem?_eq_some_iff.1 P0.out).1).trans P0.out); have X := (box_at P1.out).2.1; have z0 := X 0 _ rfl; have z1 := X 1 _ rfl; have Y1 := Sec.mk (X 1 _ rfl); have Y2 := Sec.mk (X 2 _ rfl); have Y3 := Sec.mk (X 3 _ rfl); have V1 := Sec.mk (Kd.V_below U1.out hb (by decide)); have V2 := Sec.mk (Kd.V_below U2.out hb (by decide)); have V3 := Sec.mk (Kd.V_below U3.out hb (by decide)); clear hb X)
    go_ret
    exact ⟨_, rfl, by decide, B1.out⟩
  ·
    have k2 : (g.kind == 2) = false := by rw [hk]; rfl
    have k3 : (g.kind == 3) = false := by rw [hk]; rfl
    have k4 : (g.kind == 4) = true := by rw [hk]; rfl
    have k5 : (g.kind == 5) = false := by rw [hk]; rfl
    clear hk
    go_enter Tryz.func274, Tryz.ntmps274
    go_wp2_with (clear T0; go_at_call 167; have T1 : Sec True := ⟨trivial⟩; refine (GO.out).mono ?_; rintro e w1 ⟨rfl, hb⟩; have B1 := Sec.mk (bel B0.out hb); have P1 := Sec.mk ((hb.block _ (Array.getElem?_eq_some_iff.1 P0.out).1).trans P0.out); have X := (box_at P1.out).2.1; have z0 := X 0 _ rfl; have z1 := X 1 _ rfl; have Y1 := Sec.mk (X 1 _ rfl); have Y2 := Sec.mk (X 2 _ rfl); have Y3 := Sec.mk (X 3 _ rfl); have V1 := Sec.mk (Kd.V_below U1.out hb (by decide)); have V2 := Sec.mk (Kd.V_below U2.out hb (by decide)); have V3 := Sec.mk (Kd.V_below U3.out hb (by decide)); clear hb X)
    generalize w1 = wr at *
    refine wp_region_lists [[22], [23], [24], [25], [26], [27], [28], [29], [2]]
      [fun val _ _ => val 22 = .pointer (some ⟨w.heap.size, 1, none⟩),
        fun val _ _ => val 23 = .slice E1 g.a.length m1,
        fun val _ _ => ∃ x : ByteArray, val 24 = .string x ∧ x.size ≤ 1000,
        fun val _ _ => ∃ x : ByteArray, val 25 = .string x ∧ x.size ≤ 1010,
        fun val _ _ => val 26 = .pointer (some ⟨w.heap.size, 2, none⟩),
        fun val _ _ => val 27 = .slice E2 g.b.length m2,
        fun val _ _ => ∃ x : ByteArray, val 28 = .string x ∧ x.size ≤ 1000,
        fun val _ _ => ∃ x : ByteArray, val 29 = .string x ∧ x.size ≤ 2010,
        fun val _ _ => ∃ x : ByteArray, val 2 = .string x ∧ x.size ≤ 2010]
      [[], [], [], [], [], [], [], [], []] 0 (fun _ => False) (fun _ _ => False) (by kernel_rfl) ⟨by kernel_rfl, by kernel_rfl, by kernel_rfl, by kernel_rfl, by kernel_rfl⟩
      (.cons (stab_val 22 (fun v => v = .pointer (some ⟨w.heap.size, 1, none⟩))) (.cons (stab_val 23 (fun v => v = .slice E1 g.a.length m1)) (.cons (stab_val 24 (fun v => ∃ x : ByteArray, v = .string x ∧ x.size ≤ 1000)) (.cons (stab_val 25 (fun v => ∃ x : ByteArray, v = .string x ∧ x.size ≤ 1010)) (.cons (stab_val 26 (fun v => v = .pointer (some ⟨w.heap.size, 2, none⟩))) (.cons (stab_val 27 (fun v => v = .slice E2 g.b.length m2)) (.cons (stab_val 28 (fun v => ∃ x : ByteArray, v = .string x ∧ x.size ≤ 1000)) (.cons (stab_val 29 (fun v => ∃ x : ByteArray, v = .string x ∧ x.size ≤ 2010)) (.cons (stab_val 2 (fun v => ∃ x : ByteArray, v = .string x ∧ x.size ≤ 2010)) .nil)))))))))
      (fun i j k h1 h2 => h1.elim) (fun i k h => h.elim) (fun i h1 h2 => by simp at h1 h2; omega) (.cons ?_ (.cons ?_ (.cons ?_ (.cons ?_ (.cons ?_ (.cons ?_ (.cons ?_ (.cons ?_ (.cons ?_ .nil))))))))) ?_
    · intro a W own hfor huse hap hmi hF K hK
      have e1 : a.eval (.tmp 1) = .pointer (some ⟨w.heap.size, 0, none⟩) := hfor 1 (by kernel_rfl)
      refine op_val (.pointer (some ⟨w.heap.size, 1, none⟩)) W rfl ?_ (hK _ _ (post_pure ?_))
      · clear hfor huse hap hmi hK hF
        generalize a.eval = ρ at *
        go_simp
      · exact (if_pos rfl)
    · intro a W own hfor huse hap hmi hF K hK
      have e22 : a.eval (.tmp 22) = .pointer (some ⟨w.heap.size, 1, none⟩) := huse 0 (by kernel_rfl)
      have c1 := foot_cell hF (fun h => h) Y1.out
      refine op_val (.slice E1 g.a.length m1) W rfl ?_ (hK _ _ (post_pure ?_))
      · clear hfor huse hap hmi hK hF
        generalize a.eval = ρ at *
        go_simp
      · exact (if_pos rfl)
    · intro a W own hfor huse hap hmi hF K hK
      have e23 : a.eval (.tmp 23) = .slice E1 g.a.length m1 := huse 1 (by kernel_rfl)
      have efn : a.eval (.func 247) = .func (.func 247) #[] #[] := rfl
      refine op_call (f := 247) (args := #[.slice E1 g.a.length m1]) (fun v w1 => (∃ x : ByteArray, v = .string x ∧ x.size ≤ 1000) ∧ Below W.heap.size W w1) rfl ?_ ?_ (fun v w1 h => ?_)
      · clear hfor huse hap hmi hK hF
        generalize a.eval = ρ at *
        go_simp
      · exact (TrmText_c _ g.a ok W (foot_V hF (fun _ _ h => h) V1.out (by decide))).mono (by rintro e w1 ⟨x, rfl, h1, h2⟩; exact ⟨_, rfl, ⟨x, rfl, h1⟩, h2⟩)
      · obtain ⟨⟨x, rfl, hx⟩, h2⟩ := h
        exact hK _ _ (post_new h2 ⟨x, if_pos rfl, hx⟩)
    · intro a W own hfor huse hap hmi hF K hK
      obtain ⟨ya, ea, ha⟩ : ∃ x : ByteArray, a.eval (.tmp 24) = .string x ∧ x.size ≤ 1000 := huse 2 (by kernel_rfl)
      have ecb : a.eval (.const (.string ⟨#[32, 60, 32]⟩)) = .string ⟨#[32, 60, 32]⟩ := rfl
      have hb : (⟨#[32, 60, 32]⟩ : ByteArray).size ≤ 10 := by decide
      have hsz := Sec.mk (ByteArray.size_append (a := ya) (b := ⟨#[32, 60, 32]⟩))
      refine op_val (.string (ya ++ ⟨#[32, 60, 32]⟩)) W rfl ?_ (hK _ _ (post_pure ⟨_, if_pos rfl, by rw [hsz.out]; omega⟩))
      · clear hfor huse hap hmi hK hF
        generalize a.eval = ρ at *
        go_simp
        try omega
    · intro a W own hfor huse hap hmi hF K hK
      have e1 : a.eval (.tmp 1) = .pointer (some ⟨w.heap.size, 0, none⟩) := hfor 1 (by kernel_rfl)
      refine op_val (.pointer (some ⟨w.heap.size, 2, none⟩)) W rfl ?_ (hK _ _ (post_pure ?_))
      · clear hfor huse hap hmi hK hF
        generalize a.eval = ρ at *
        go_simp
      · exact (if_pos rfl)
    · intro a W own hfor huse hap hmi hF K hK
      have e26 : a.eval (.tmp 26) = .pointer (some ⟨w.heap.size, 2, none⟩) := huse 4 (by kernel_rfl)
      have c2 := foot_cell hF (fun h => h) Y2.out
      refine op_val (.slice E2 g.b.length m2) W rfl ?_ (hK _ _ (post_pure ?_))
      · clear hfor huse hap hmi hK hF
        generalize a.eval = ρ at *
        go_simp
      · exact (if_pos rfl)
    · intro a W own hfor huse hap hmi hF K hK
      have e27 : a.eval (.tmp 27) = .slice E2 g.b.length m2 := huse 5 (by kernel_rfl)
      have efn : a.eval (.func 247) = .func (.func 247) #[] #[] := rfl
      refine op_call (f := 247) (args := #[.slice E2 g.b.length m2]) (fun v w1 => (∃ x : ByteArray, v = .string x ∧ x.size ≤ 1000) ∧ Below W.heap.size W w1) rfl ?_ ?_ (fun v w1 h => ?_)
      · clear hfor huse hap hmi hK hF
        generalize a.eval = ρ at *
        go_simp
      · exact (TrmText_c _ g.b ok W (foot_V hF (fun _ _ h => h) V2.out (by decide))).mono (by rintro e w1 ⟨x, rfl, h1, h2⟩; exact ⟨_, rfl, ⟨x, rfl, h1⟩, h2⟩)
      · obtain ⟨⟨x, rfl, hx⟩, h2⟩ := h
        exact hK _ _ (post_new h2 ⟨x, if_pos rfl, hx⟩)
    · intro a W own hfor huse hap hmi hF K hK
      obtain ⟨ya, ea, ha⟩ : ∃ x : ByteArray, a.eval (.tmp 25) = .string x ∧ x.size ≤ 1010 := huse 3 (by kernel_rfl)
      obtain ⟨yb, eb, hb⟩ : ∃ x : ByteArray, a.eval (.tmp 28) = .string x ∧ x.size ≤ 1000 := huse 6 (by kernel_rfl)
      have hsz := Sec.mk (ByteArray.size_append (a := ya) (b := yb))
      refine op_val (.string (ya ++ yb)) W rfl ?_ (hK _ _ (post_pure ⟨_, if_pos rfl, by rw [hsz.out]; omega⟩))
      · clear hfor huse hap hmi hK hF
        generalize a.eval = ρ at *
        go_simp
        try omega
    · intro a W own hfor huse hap hmi hF K hK
      obtain ⟨y, e, h⟩ : ∃ x : ByteArray, a.eval (.tmp 29) = .string x ∧ x.size ≤ 2010 := huse 7 (by kernel_rfl)
      refine op_val (.string y) W rfl ?_ (hK _ _ (post_pure ⟨_, if_pos rfl, h⟩))
      · clear hfor huse hap hmi hK hF
        generalize a.eval = ρ at *
        go_simp
    intro a' W own hf
    have hsz := hf.st.size
    have hdf := hf.st.rest
    obtain ⟨⟨l⟩, df⟩ := a'
    have hl0 : l.length = 48 := hsz
    clear hsz
    obtain rfl : df = [] := hdf
    obtain ⟨x0, l0, rfl, hl1⟩ := lst_cons hl0
    clear hl0
    obtain ⟨x1, l1, rfl, hl2⟩ := lst_cons hl1
    clear hl1
    obtain ⟨x2, l2, rfl, hl3⟩ := lst_cons hl2
    clear hl2
    obtain ⟨x3, l3, rfl, hl4⟩ := lst_cons hl3
    clear hl3
    obtain ⟨x4, l4, rfl, hl5⟩ := lst_cons hl4
    clear hl4
    obtain ⟨x5, l5, rfl, hl6⟩ := lst_cons hl5
    clear hl5
    obtain ⟨x6, l6, rfl, hl7⟩ := lst_cons hl6
    clear hl6
    obtain ⟨x7, l7, rfl, hl8⟩ := lst_cons hl7
    clear hl7
    obtain ⟨x8, l8, rfl, hl9⟩ := lst_cons hl8
    clear hl8
    obtain ⟨x9, l9, rfl, hl10⟩ := lst_cons hl9
    clear hl9
    obtain ⟨x10, l10, rfl, hl11⟩ := lst_cons hl10
    clear hl10
    obtain ⟨x11, l11, rfl, hl12⟩ := lst_cons hl11
    clear hl11
    obtain ⟨x12, l12, rfl, hl13⟩ := lst_cons hl12
    clear hl12
    obtain ⟨x13, l13, rfl, hl14⟩ := lst_cons hl13
    clear hl13
    obtain ⟨x14, l14, rfl, hl15⟩ := lst_cons hl14
    clear hl14
    obtain ⟨x15, l15, rfl, hl16⟩ := lst_cons hl15
    clear hl15
    obtain ⟨x16, l16, rfl, hl17⟩ := lst_cons hl16
    clear hl16
    obtain ⟨x17, l17, rfl, hl18⟩ := lst_cons hl17
    clear hl17
    obtain ⟨x18, l18, rfl, hl19⟩ := lst_cons hl18
    clear hl18
    obtain ⟨x19, l19, rfl, hl20⟩ := lst_cons hl19
    clear hl19
    obtain ⟨x20, l20, rfl, hl21⟩ := lst_cons hl20
    clear hl20
    obtain ⟨x21, l21, rfl, hl22⟩ := lst_cons hl21
    clear hl21
    obtain ⟨x22, l22, rfl, hl23⟩ := lst_cons hl22
    clear hl22
    obtain ⟨x23, l23, rfl, hl24⟩ := lst_cons hl23
    clear hl23
    obtain ⟨x24, l24, rfl, hl25⟩ := lst_cons hl24
    clear hl24
    obtain ⟨x25, l25, rfl, hl26⟩ := lst_cons hl25
    clear hl25
    obtain ⟨x26, l26, rfl, hl27⟩ := lst_cons hl26
    clear hl26
    obtain ⟨x27, l27, rfl, hl28⟩ := lst_cons hl27
    clear hl27
    obtain ⟨x28, l28, rfl, hl29⟩ := lst_cons hl28
    clear hl28
    obtain ⟨x29, l29, rfl, hl30⟩ := lst_cons hl29
    clear hl29
    obtain ⟨x30, l30, rfl, hl31⟩ := lst_cons hl30
    clear hl30
    obtain ⟨x31, l31, rfl, hl32⟩ := lst_cons hl31
    clear hl31
    obtain ⟨x32, l32, rfl, hl33⟩ := lst_cons hl32
    clear hl32
    obtain ⟨x33, l33, rfl, hl34⟩ := lst_cons hl33
    clear hl33
    obtain ⟨x34, l34, rfl, hl35⟩ := lst_cons hl34
    clear hl34
    obtain ⟨x35, l35, rfl, hl36⟩ := lst_cons hl35
    clear hl35
    obtain ⟨x36, l36, rfl, hl37⟩ := lst_cons hl36
    clear hl36
    obtain ⟨x37, l37, rfl, hl38⟩ := lst_cons hl37
    clear hl37
    obtain ⟨x38, l38, rfl, hl39⟩ := lst_cons hl38
    clear hl38
    obtain ⟨x39, l39, rfl, hl40⟩ := lst_cons hl39
    clear hl39
    obtain ⟨x40, l40, rfl, hl41⟩ := lst_cons hl40
    clear hl40
    obtain ⟨x41, l41, rfl, hl42⟩ := lst_cons hl41
    clear hl41
    obtain ⟨x42, l42, rfl, hl43⟩ := lst_cons hl42
    clear hl42
    obtain ⟨x43, l43, rfl, hl44⟩ := lst_cons hl43
    clear hl43
    obtain ⟨x44, l44, rfl, hl45⟩ := lst_cons hl44
    clear hl44
    obtain ⟨x45, l45, rfl, hl46⟩ := lst_cons hl45
    clear hl45
    obtain ⟨x46, l46, rfl, hl47⟩ := lst_cons hl46
    clear hl46
    obtain ⟨x47, l47, rfl, hl48⟩ := lst_cons hl47
    clear hl47
    obtain rfl := List.eq_nil_of_length_eq_zero hl48
    have e0 := hf.st.kept 0 (by kernel_rfl)
    simp only [slotsOf, Act.eval, Array.getD_eq_getD_getElem?, List.getElem?_toArray, List.getElem?_cons_zero, Option.getD_some] at e0
    subst e0
    have e1 := hf.st.kept 1 (by kernel_rfl)
    simp only [slotsOf, Act.eval, Array.getD_eq_getD_getElem?, List.getElem?_toArray, List.getElem?_cons_succ, List.getElem?_cons_zero, Option.getD_some] at e1
    subst e1
    obtain ⟨y, e2, hy⟩ := hf.at 8 (fun val _ _ => ∃ x : ByteArray, val 2 = .string x ∧ x.size ≤ 2010) rfl (by kernel_rfl)
    have e2 : x2 = .string y := e2
    subst e2
    have B4 := Sec.mk (hf.st.foot.below (belD B1.out) (fun k h => h.elim))
    clear hf
    go_wp2
    go_ret
    exact ⟨y, rfl, by omega, B4.out⟩
  ·
    have k2 : (g.kind == 2) = false := by rw [hk]; rfl
    have k3 : (g.kind == 3) = false := by rw [hk]; rfl
    have k4 : (g.kind == 4) = false := by rw [hk]; rfl
    have k5 : (g.kind == 5) = true := by rw [hk]; rfl
    clear hk
    go_enter Tryz.func274, Tryz.ntmps274
    go_wp2_with (clear T0; go_at_call 167; have T1 : Sec True := ⟨trivial⟩; refine (GO.out).mono ?_; rintro e w1 ⟨rfl, hb⟩; have B1 := Sec.mk (bel B0.out hb); have P1 := Sec.mk ((hb.block _ (Array.getElem?_eq_some_iff.1 P0.out).1).trans P0.out); have X := (box_at P1.out).2.1; have z0 := X 0 _ rfl; have z1 := X 1 _ rfl; have Y1 := Sec.mk (X 1 _ rfl); have Y2 := Sec.mk (X 2 _ rfl); have Y3 := Sec.mk (X 3 _ rfl); have V1 := Sec.mk (Kd.V_below U1.out hb (by decide)); have V2 := Sec.mk (Kd.V_below U2.out hb (by decide)); have V3 := Sec.mk (Kd.V_below U3.out hb (by decide)); clear hb X)
    generalize w1 = wr at *
    refine wp_region_lists [[32], [33], [34], [35], [36], [37], [38], [39], [40], [41], [42], [43], [44], [2]]
      [fun val _ _ => val 32 = .pointer (some ⟨w.heap.size, 1, none⟩),
        fun val _ _ => val 33 = .slice E1 g.a.length m1,
        fun val _ _ => ∃ x : ByteArray, val 34 = .string x ∧ x.size ≤ 1000,
        fun val _ _ => ∃ x : ByteArray, val 35 = .string x ∧ x.size ≤ 1010,
        fun val _ _ => val 36 = .pointer (some ⟨w.heap.size, 2, none⟩),
        fun val _ _ => val 37 = .slice E2 g.b.length m2,
        fun val _ _ => ∃ x : ByteArray, val 38 = .string x ∧ x.size ≤ 1000,
        fun val _ _ => ∃ x : ByteArray, val 39 = .string x ∧ x.size ≤ 2010,
        fun val _ _ => ∃ x : ByteArray, val 40 = .string x ∧ x.size ≤ 2020,
        fun val _ _ => val 41 = .pointer (some ⟨w.heap.size, 3, none⟩),
        fun val _ _ => val 42 = .slice E3 g.c.length m3,
        fun val _ _ => ∃ x : ByteArray, val 43 = .string x ∧ x.size ≤ 1000,
        fun val _ _ => ∃ x : ByteArray, val 44 = .string x ∧ x.size ≤ 3020,
        fun val _ _ => ∃ x : ByteArray, val 2 = .string x ∧ x.size ≤ 3020]
      [[], [], [], [], [], [], [], [], [], [], [], [], [], []] 0 (fun _ => False) (fun _ _ => False) (by kernel_rfl) ⟨by kernel_rfl, by kernel_rfl, by kernel_rfl, by kernel_rfl, by kernel_rfl⟩
      (.cons (stab_val 32 (fun v => v = .pointer (some ⟨w.heap.size, 1, none⟩))) (.cons (stab_val 33 (fun v => v = .slice E1 g.a.length m1)) (.cons (stab_val 34 (fun v => ∃ x : ByteArray, v = .string x ∧ x.size ≤ 1000)) (.cons (stab_val 35 (fun v => ∃ x : ByteArray, v = .string x ∧ x.size ≤ 1010)) (.cons (stab_val 36 (fun v => v = .pointer (some ⟨w.heap.size, 2, none⟩))) (.cons (stab_val 37 (fun v => v = .slice E2 g.b.length m2)) (.cons (stab_val 38 (fun v => ∃ x : ByteArray, v = .string x ∧ x.size ≤ 1000)) (.cons (stab_val 39 (fun v => ∃ x : ByteArray, v = .string x ∧ x.size ≤ 2010)) (.cons (stab_val 40 (fun v => ∃ x : ByteArray, v = .string x ∧ x.size ≤ 2020)) (.cons (stab_val 41 (fun v => v = .pointer (some ⟨w.heap.size, 3, none⟩))) (.cons (stab_val 42 (fun v => v = .slice E3 g.c.length m3)) (.cons (stab_val 43 (fun v => ∃ x : ByteArray, v = .string x ∧ x.size ≤ 1000)) (.cons (stab_val 44 (fun v => ∃ x : ByteArray, v = .string x ∧ x.size ≤ 3020)) (.cons (stab_val 2 (fun v => ∃ x : ByteArray, v = .string x ∧ x.size ≤ 3020)) .nil))))))))))))))
      (fun i j k h1 h2 => h1.elim) (fun i k h => h.elim) (fun i h1 h2 => by simp at h1 h2; omega) (.cons ?_ (.cons ?_ (.cons ?_ (.cons ?_ (.cons ?_ (.cons ?_ (.cons ?_ (.cons ?_ (.cons ?_ (.cons ?_ (.cons ?_ (.cons ?_ (.cons ?_ (.cons ?_ .nil)))))))))))))) ?_
    · intro a W own hfor huse hap hmi hF K hK
      have e1 : a.eval (.tmp 1) = .pointer (some ⟨w.heap.size, 0, none⟩) := hfor 1 (by kernel_rfl)
      refine op_val (.pointer (some ⟨w.heap.size, 1, none⟩)) W rfl ?_ (hK _ _ (post_pure ?_))
      · clear hfor huse hap hmi hK hF
        generalize a.eval = ρ at *
        go_simp
      · exact (if_pos rfl)
    · intro a W own hfor huse hap hmi hF K hK
      have e32 : a.eval (.tmp 32) = .pointer (some ⟨w.heap.size, 1, none⟩) := huse 0 (by kernel_rfl)
      have c1 := foot_cell hF (fun h => h) Y1.out
      refine op_val (.slice E1 g.a.length m1) W rfl ?_ (hK _ _ (post_pure ?_))
      · clear hfor huse hap hmi hK hF
        generalize a.eval = ρ at *
        go_simp
      · exact (if_pos rfl)
    · intro a W own hfor huse hap hmi hF K hK
      have e33 : a.eval (.tmp 33) = .slice E1 g.a.length m1 := huse 1 (by kernel_rfl)
      have efn : a.eval (.func 247) = .func (.func 247) #[] #[] := rfl
      refine op_call (f := 247) (args := #[.slice E1 g.a.length m1]) (fun v w1 => (∃ x : ByteArray, v = .string x ∧ x.size ≤ 1000) ∧ Below W.heap.size W w1) rfl ?_ ?_ (fun v w1 h => ?_)
      · clear hfor huse hap hmi hK hF
        generalize a.eval = ρ at *
        go_simp
      · exact (TrmText_c _ g.a ok W (foot_V hF (fun _ _ h => h) V1.out (by decide))).mono (by rintro e w1 ⟨x, rfl, h1, h2⟩; exact ⟨_, rfl, ⟨x, rfl, h1⟩, h2⟩)
      · obtain ⟨⟨x, rfl, hx⟩, h2⟩ := h
        exact hK _ _ (post_new h2 ⟨x, if_pos rfl, hx⟩)
    · intro a W own hfor huse hap hmi hF K hK
      obtain ⟨ya, ea, ha⟩ : ∃ x : ByteArray, a.eval (.tmp 34) = .string x ∧ x.size ≤ 1000 := huse 2 (by kernel_rfl)
      have ecb : a.eval (.const (.string ⟨#[32, 43, 32]⟩)) = .string ⟨#[32, 43, 32]⟩ := rfl
      have hb : (⟨#[32, 43, 32]⟩ : ByteArray).size ≤ 10 := by decide
      have hsz := Sec.mk (ByteArray.size_append (a := ya) (b := ⟨#[32, 43, 32]⟩))
      refine op_val (.string (ya ++ ⟨#[32, 43, 32]⟩)) W rfl ?_ (hK _ _ (post_pure ⟨_, if_pos rfl, by rw [hsz.out]; omega⟩))
      · clear hfor huse hap hmi hK hF
        generalize a.eval = ρ at *
        go_simp
        try omega
    · intro a W own hfor huse hap hmi hF K hK
      have e1 : a.eval (.tmp 1) = .pointer (some ⟨w.heap.size, 0, none⟩) := hfor 1 (by kernel_rfl)
      refine op_val (.pointer (some ⟨w.heap.size, 2, none⟩)) W rfl ?_ (hK _ _ (post_pure ?_))
      · clear hfor huse hap hmi hK hF
        generalize a.eval = ρ at *
        go_simp
      · exact (if_pos rfl)
    · intro a W own hfor huse hap hmi hF K hK
      have e36 : a.eval (.tmp 36) = .pointer (some ⟨w.heap.size, 2, none⟩) := huse 4 (by kernel_rfl)
      have c2 := foot_cell hF (fun h => h) Y2.out
      refine op_val (.slice E2 g.b.length m2) W rfl ?_ (hK _ _ (post_pure ?_))
      · clear hfor huse hap hmi hK hF
        generalize a.eval = ρ at *
        go_simp
      · exact (if_pos rfl)
    · intro a W own hfor huse hap hmi hF K hK
      have e37 : a.eval (.tmp 37) = .slice E2 g.b.length m2 := huse 5 (by kernel_rfl)
      have efn : a.eval (.func 247) = .func (.func 247) #[] #[] := rfl
      refine op_call (f := 247) (args := #[.slice E2 g.b.length m2]) (fun v w1 => (∃ x : ByteArray, v = .string x ∧ x.size ≤ 1000) ∧ Below W.heap.size W w1) rfl ?_ ?_ (fun v w1 h => ?_)
      · clear hfor huse hap hmi hK hF
        generalize a.eval = ρ at *
        go_simp
      · exact (TrmText_c _ g.b ok W (foot_V hF (fun _ _ h => h) V2.out (by decide))).mono (by rintro e w1 ⟨x, rfl, h1, h2⟩; exact ⟨_, rfl, ⟨x, rfl, h1⟩, h2⟩)
      · obtain ⟨⟨x, rfl, hx⟩, h2⟩ := h
        exact hK _ _ (post_new h2 ⟨x, if_pos rfl, hx⟩)
    · intro a W own hfor huse hap hmi hF K hK
      obtain ⟨ya, ea, ha⟩ : ∃ x : ByteArray, a.eval (.tmp 35) = .string x ∧ x.size ≤ 1010 := huse 3 (by kernel_rfl)
      obtain ⟨yb, eb, hb⟩ : ∃ x : ByteArray, a.eval (.tmp 38) = .string x ∧ x.size ≤ 1000 := huse 6 (by kernel_rfl)
      have hsz := Sec.mk (ByteArray.size_append (a := ya) (b := yb))
      refine op_val (.string (ya ++ yb)) W rfl ?_ (hK _ _ (post_pure ⟨_, if_pos rfl, by rw [hsz.out]; omega⟩))
      · clear hfor huse hap hmi hK hF
        generalize a.eval = ρ at *
        go_simp
        try omega
    · intro a W own hfor huse hap hmi hF K hK
      obtain ⟨ya, ea, ha⟩ : ∃ x : ByteArray, a.eval (.tmp 39) = .string x ∧ x.size ≤ 2010 := huse 7 (by kernel_rfl)
      have ecb : a.eval (.const (.string ⟨#[32, 61, 32]⟩)) = .string ⟨#[32, 61, 32]⟩ := rfl
      have hb : (⟨#[32, 61, 32]⟩ : ByteArray).size ≤ 10 := by decide
      have hsz := Sec.mk (ByteArray.size_append (a := ya) (b := ⟨#[32, 61, 32]⟩))
      refine op_val (.string (ya ++ ⟨#[32, 61, 32]⟩)) W rfl ?_ (hK _ _ (post_pure ⟨_, if_pos rfl, by rw [hsz.out]; omega⟩))
      · clear hfor huse hap hmi hK hF
        generalize a.eval = ρ at *
        go_simp
        try omega
    · intro a W own hfor huse hap hmi hF K hK
      have e1 : a.eval (.tmp 1) = .pointer (some ⟨w.heap.size, 0, none⟩) := hfor 1 (by kernel_rfl)
      refine op_val (.pointer (some ⟨w.heap.size, 3, none⟩)) W rfl ?_ (hK _ _ (post_pure ?_))
      · clear hfor huse hap hmi hK hF
        generalize a.eval = ρ at *
        go_simp
      · exact (if_pos rfl)
    · intro a W own hfor huse hap hmi hF K hK
      have e41 : a.eval (.tmp 41) = .pointer (some ⟨w.heap.size, 3, none⟩) := huse 9 (by kernel_rfl)
      have c3 := foot_cell hF (fun h => h) Y3.out
      refine op_val (.slice E3 g.c.length m3) W rfl ?_ (hK _ _ (post_pure ?_))
      · clear hfor huse hap hmi hK hF
        generalize a.eval = ρ at *
        go_simp
      · exact (if_pos rfl)
    · intro a W own hfor huse hap hmi hF K hK
      have e42 : a.eval (.tmp 42) = .slice E3 g.c.length m3 := huse 10 (by kernel_rfl)
      have efn : a.eval (.func 247) = .func (.func 247) #[] #[] := rfl
      refine op_call (f := 247) (args := #[.slice E3 g.c.length m3]) (fun v w1 => (∃ x : ByteArray, v = .string x ∧ x.size ≤ 1000) ∧ Below W.heap.size W w1) rfl ?_ ?_ (fun v w1 h => ?_)
      · clear hfor huse hap hmi hK hF
        generalize a.eval = ρ at *
        go_simp
      · exact (TrmText_c _ g.c ok W (foot_V hF (fun _ _ h => h) V3.out (by decide))).mono (by rintro e w1 ⟨x, rfl, h1, h2⟩; exact ⟨_, rfl, ⟨x, rfl, h1⟩, h2⟩)
      · obtain ⟨⟨x, rfl, hx⟩, h2⟩ := h
        exact hK _ _ (post_new h2 ⟨x, if_pos rfl, hx⟩)
    · intro a W own hfor huse hap hmi hF K hK
      obtain ⟨ya, ea, ha⟩ : ∃ x : ByteArray, a.eval (.tmp 40) = .string x ∧ x.size ≤ 2020 := huse 8 (by kernel_rfl)
      obtain ⟨yb, eb, hb⟩ : ∃ x : ByteArray, a.eval (.tmp 43) = .string x ∧ x.size ≤ 1000 := huse 11 (by kernel_rfl)
      have hsz := Sec.mk (ByteArray.size_append (a := ya) (b := yb))
      refine op_val (.string (ya ++ yb)) W rfl ?_ (hK _ _ (post_pure ⟨_, if_pos rfl, by rw [hsz.out]; omega⟩))
      · clear hfor huse hap hmi hK hF
        generalize a.eval = ρ at *
        go_simp
        try omega
    · intro a W own hfor huse hap hmi hF K hK
      obtain ⟨y, e, h⟩ : ∃ x : ByteArray, a.eval (.tmp 44) = .string x ∧ x.size ≤ 3020 := huse 12 (by kernel_rfl)
      refine op_val (.string y) W rfl ?_ (hK _ _ (post_pure ⟨_, if_pos rfl, h⟩))
      · clear hfor huse hap hmi hK hF
        generalize a.eval = ρ at *
        go_simp
    intro a' W own hf
    have hsz := hf.st.size
    have hdf := hf.st.rest
    obtain ⟨⟨l⟩, df⟩ := a'
    have hl0 : l.length = 48 := hsz
    clear hsz
    obtain rfl : df = [] := hdf
    obtain ⟨x0, l0, rfl, hl1⟩ := lst_cons hl0
    clear hl0
    obtain ⟨x1, l1, rfl, hl2⟩ := lst_cons hl1
    clear hl1
    obtain ⟨x2, l2, rfl, hl3⟩ := lst_cons hl2
    clear hl2
    obtain ⟨x3, l3, rfl, hl4⟩ := lst_cons hl3
    clear hl3
    obtain ⟨x4, l4, rfl, hl5⟩ := lst_cons hl4
    clear hl4
    obtain ⟨x5, l5, rfl, hl6⟩ := lst_cons hl5
    clear hl5
    obtain ⟨x6, l6, rfl, hl7⟩ := lst_cons hl6
    clear hl6
    obtain ⟨x7, l7, rfl, hl8⟩ := lst_cons hl7
    clear hl7
    obtain ⟨x8, l8, rfl, hl9⟩ := lst_cons hl8
    clear hl8
    obtain ⟨x9, l9, rfl, hl10⟩ := lst_cons hl9
    clear hl9
    obtain ⟨x10, l10, rfl, hl11⟩ := lst_cons hl10
    clear hl10
    obtain ⟨x11, l11, rfl, hl12⟩ := lst_cons hl11
    clear hl11
    obtain ⟨x12, l12, rfl, hl13⟩ := lst_cons hl12
    clear hl12
    obtain ⟨x13, l13, rfl, hl14⟩ := lst_cons hl13
    clear hl13
    obtain ⟨x14, l14, rfl, hl15⟩ := lst_cons hl14
    clear hl14
    obtain ⟨x15, l15, rfl, hl16⟩ := lst_cons hl15
    clear hl15
    obtain ⟨x16, l16, rfl, hl17⟩ := lst_cons hl16
    clear hl16
    obtain ⟨x17, l17, rfl, hl18⟩ := lst_cons hl17
    clear hl17
    obtain ⟨x18, l18, rfl, hl19⟩ := lst_cons hl18
    clear hl18
    obtain ⟨x19, l19, rfl, hl20⟩ := lst_cons hl19
    clear hl19
    obtain ⟨x20, l20, rfl, hl21⟩ := lst_cons hl20
    clear hl20
    obtain ⟨x21, l21, rfl, hl22⟩ := lst_cons hl21
    clear hl21
    obtain ⟨x22, l22, rfl, hl23⟩ := lst_cons hl22
    clear hl22
    obtain ⟨x23, l23, rfl, hl24⟩ := lst_cons hl23
    clear hl23
    obtain ⟨x24, l24, rfl, hl25⟩ := lst_cons hl24
    clear hl24
    obtain ⟨x25, l25, rfl, hl26⟩ := lst_cons hl25
    clear hl25
    obtain ⟨x26, l26, rfl, hl27⟩ := lst_cons hl26
    clear hl26
    obtain ⟨x27, l27, rfl, hl28⟩ := lst_cons hl27
    clear hl27
    obtain ⟨x28, l28, rfl, hl29⟩ := lst_cons hl28
    clear hl28
    obtain ⟨x29, l29, rfl, hl30⟩ := lst_cons hl29
    clear hl29
    obtain ⟨x30, l30, rfl, hl31⟩ := lst_cons hl30
    clear hl30
    obtain ⟨x31, l31, rfl, hl32⟩ := lst_cons hl31
    clear hl31
    obtain ⟨x32, l32, rfl, hl33⟩ := lst_cons hl32
    clear hl32
    obtain ⟨x33, l33, rfl, hl34⟩ := lst_cons hl33
    clear hl33
    obtain ⟨x34, l34, rfl, hl35⟩ := lst_cons hl34
    clear hl34
    obtain ⟨x35, l35, rfl, hl36⟩ := lst_cons hl35
    clear hl35
    obtain ⟨x36, l36, rfl, hl37⟩ := lst_cons hl36
    clear hl36
    obtain ⟨x37, l37, rfl, hl38⟩ := lst_cons hl37
    clear hl37
    obtain ⟨x38, l38, rfl, hl39⟩ := lst_cons hl38
    clear hl38
    obtain ⟨x39, l39, rfl, hl40⟩ := lst_cons hl39
    clear hl39
    obtain ⟨x40, l40, rfl, hl41⟩ := lst_cons hl40
    clear hl40
    obtain ⟨x41, l41, rfl, hl42⟩ := lst_cons hl41
    clear hl41
    obtain ⟨x42, l42, rfl, hl43⟩ := lst_cons hl42
    clear hl42
    obtain ⟨x43, l43, rfl, hl44⟩ := lst_cons hl43
    clear hl43
    obtain ⟨x44, l44, rfl, hl45⟩ := lst_cons hl44
    clear hl44
    obtain ⟨x45, l45, rfl, hl46⟩ := lst_cons hl45
    clear hl45
    obtain ⟨x46, l46, rfl, hl47⟩ := lst_cons hl46
    clear hl46
    obtain ⟨x47, l47, rfl, hl48⟩ := lst_cons hl47
    clear hl47
    obtain rfl := List.eq_nil_of_length_eq_zero hl48
    have e0 := hf.st.kept 0 (by kernel_rfl)
    simp only [slotsOf, Act.eval, Array.getD_eq_getD_getElem?, List.getElem?_toArray, List.getElem?_cons_zero, Option.getD_some] at e0
    subst e0
    have e1 := hf.st.kept 1 (by kernel_rfl)
    simp only [slotsOf, Act.eval, Array.getD_eq_getD_getElem?, List.getElem?_toArray, List.getElem?_cons_succ, List.getElem?_cons_zero, Option.getD_some] at e1
    subst e1
    obtain ⟨y, e2, hy⟩ := hf.at 13 (fun val _ _ => ∃ x : ByteArray, val 2 = .string x ∧ x.size ≤ 3020) rfl (by kernel_rfl)
    have e2 : x2 = .string y := e2
    subst e2
    have B4 := Sec.mk (hf.st.foot.below (belD B1.out) (fun k h => h.elim))
    clear hf
    go_wp2
    go_ret
    exact ⟨y, rfl, by omega, B4.out⟩
  · have k2 : (g.kind == 2) = false := beq_eq_false_iff_ne.2 hk.1
    have k3 : (g.kind == 3) = false := beq_eq_false_iff_ne.2 hk.2.1
    have k4 : (g.kind == 4) = false := beq_eq_false_iff_ne.2 hk.2.2.1
    have k5 : (g.kind == 5) = false := beq_eq_false_iff_ne.2 hk.2.2.2
    clear hk
    go_enter Tryz.func274, Tryz.ntmps274
    go_wp2_with (first | (clear T1; go_at_call 247; refine (TrmText_c _ g.a ok _ V1.out).mono ?_; rintro e w2 ⟨s, rfl, hs, hb⟩; have B2 := Sec.mk (bel B1.out hb); clear hb) | (clear T0; go_at_call 167; have T1 : Sec True := ⟨trivial⟩; refine (GO.out).mono ?_; rintro e w1 ⟨rfl, hb⟩; have B1 := Sec.mk (bel B0.out hb); have P1 := Sec.mk ((hb.block _ (Array.getElem?_eq_some_iff.1 P0.out).1).trans P0.out); have X := (box_at P1.out).2.1; have z0 := X 0 _ rfl; have z1 := X 1 _ rfl; have Y1 := Sec.mk (X 1 _ rfl); have Y2 := Sec.mk (X 2 _ rfl); have Y3 := Sec.mk (X 3 _ rfl); have V1 := Sec.mk (Kd.V_below U1.out hb (by decide)); have V2 := Sec.mk (Kd.V_below U2.out hb (by decide)); have V3 := Sec.mk (Kd.V_below U3.out hb (by decide)); clear hb X))
    go_ret
    exact ⟨_, rfl, by omega, B2.out⟩
end
section
open Go.RowKit
set_option linter.unusedVariables false
set_option maxRecDepth 100000
set_option maxHeartbeats 2000000 in
theorem l3Line_c (c : Clause) (hb0 : c.body.length ≤ 20) (cs : List Value) (ok : Nat → Prop) (w : World) (hK : kClause.K w ok c cs) :
    Calls Tryz.prog 263 #[.agg cs.toArray] w fun e w' => ∃ s : ByteArray, e = .returned (.string s) ∧ s.size ≤ 200000 ∧ Below w.heap.size w w' := by
  obtain ⟨v0, v1, rfl, h0, h1⟩ := kClause_K hK
  have H0 := Sec.mk h0
  obtain ⟨E0, m0, rfl, -⟩ := h0
  obtain ⟨E1, m1, rfl, -, -, l1, hC, -⟩ := h1
  have HC := Sec.mk hC
  have B0 := Sec.mk (belA (Below.refl w.heap.size w) (.cells #[.slice E0 c.head.length m0, .slice E1 c.body.length m1] 67))
  have P0 := Sec.mk (heap_alloc_new w (.cells #[.slice E0 c.head.length m0, .slice E1 c.body.length m1] 67))
  have X := (box_at P0.out).2.1
  have y0 := X 0 _ rfl
  have y1 := X 1 _ rfl
  clear X hK hC
  have hu2 := Tryz.underlying141
  go_enter Tryz.func263, Tryz.ntmps263
  go_wp2_with (go_at_call 247; refine (TrmText_c _ c.head ok _ (Kd.V_below H0.out B0.out (by decide))).mono ?_; rintro e w1 ⟨s0, rfl, hs0, hb⟩; have B1 := Sec.mk (bel B0.out hb); have P1 := Sec.mk ((hb.block _ (Array.getElem?_eq_some_iff.1 P0.out).1).trans P0.out); clear hb)
  clear y0 y1
  go_loopw [3, 4] (fun sv iv wr => ∃ (i : Nat) (s : ByteArray), i ≤ c.body.length ∧ iv = .int .i64 i ∧ sv = .string s ∧ s.size ≤ 1000 + 5000 * i ∧ Sec (Below w.heap.size w wr ∧ wr.heap[w.heap.size]? = some (.cells #[.slice E0 c.head.length m0, .slice E1 c.body.length m1] 67 (0, 0)))) (fun _ iv _ => c.body.length - (intOf iv).toNat)
  case atStart => exact ⟨0, s0, Nat.zero_le _, rfl, rfl, by omega, ⟨B1.out, P1.out⟩⟩
  case round =>
    obtain ⟨i, s, hi, rfl, rfl, hs, hb⟩ := hrel
    have X := (box_at hb.out.2).2.1
    have u1 := X 1 _ rfl
    clear X
    by_cases hlt : i < c.body.length
    · obtain ⟨b, off, F1, n1, F2, n2, F3, n3, rfl, _, x0, x1, x2, x3, hKg⟩ := goal_at (Kd.C_below HC.out hb.out.1 (by decide)) i hlt
      generalize c.body[i] = g at *
      have GT := Sec.mk (GoalText_c g _ ok wr hKg)
      clear hKg
      have i0 : (0 : Int) ≤ (i : Int) := by omega
      have i1 : (i : Int) < (c.body.length : Int) := by omega
      have hsm : s.size ≤ 200000 := by omega
      obtain ⟨q, hq⟩ : ∃ q, ((i : Int) == 0) = q := ⟨_, rfl⟩
      have e1 := Sec.mk (ByteArray.size_append (a := s) (b := ⟨#[32, 105, 102, 32]⟩))
      have e2 := Sec.mk (ByteArray.size_append (a := s) (b := ⟨#[32, 97, 110, 100, 32]⟩))
      have e3 : (s ++ ⟨#[32, 105, 102, 32]⟩ : ByteArray).size ≤ 300000 := by rw [e1.out]; show s.size + 4 ≤ _; omega
      have e4 : (s ++ ⟨#[32, 97, 110, 100, 32]⟩ : ByteArray).size ≤ 300000 := by rw [e2.out]; show s.size + 5 ≤ _; omega
      cases q with
      | true =>
        go_wp2_with (go_at_call 274; refine GT.out.mono ?_; rintro e w2 ⟨s2, rfl, hs2, hb2⟩; have B2 := Sec.mk (bel hb.out.1 hb2); have P2 := Sec.mk ((hb2.block _ (Array.getElem?_eq_some_iff.1 hb.out.2).1).trans hb.out.2); have e5 := Sec.mk (ByteArray.size_append (a := s ++ ⟨#[32, 105, 102, 32]⟩) (b := s2)); clear hb2)
        go_roundw
        case rel => exact ⟨i + 1, _, by omega, by go_num, rfl, by rw [e5.out, e1.out]; show s.size + 4 + s2.size ≤ _; omega, ⟨B2.out, P2.out⟩⟩
        case measure => simp [intOf]; omega
      | false =>
        go_wp2_with (go_at_call 274; refine GT.out.mono ?_; rintro e w2 ⟨s2, rfl, hs2, hb2⟩; have B2 := Sec.mk (bel hb.out.1 hb2); have P2 := Sec.mk ((hb2.block _ (Array.getElem?_eq_some_iff.1 hb.out.2).1).trans hb.out.2); have e5 := Sec.mk (ByteArray.size_append (a := s ++ ⟨#[32, 97, 110, 100, 32]⟩) (b := s2)); clear hb2)
        go_roundw
        case rel => exact ⟨i + 1, _, by omega, by go_num, rfl, by rw [e5.out, e2.out]; show s.size + 5 + s2.size ≤ _; omega, ⟨B2.out, P2.out⟩⟩
        case measure => simp [intOf]; omega
    · go_wp2
      go_ret
      exact ⟨s, rfl, by omega, hb.out.1⟩
end
end Go.Proofs.YtekiikmaaiekkaaGreatDoor
