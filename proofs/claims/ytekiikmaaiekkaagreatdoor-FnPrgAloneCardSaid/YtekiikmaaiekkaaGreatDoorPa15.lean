/- FnPrgAlone: what it does, whatever it is given: it returns true; and what goes with it. -/
import Derived.Test.YtekiikmaaiekkaaGreatDoorPa6
import Derived.Test.YtekiikmaaiekkaaGreatDoorPa7
import Derived.Test.YtekiikmaaiekkaaGreatDoorPa14
namespace Go.Proofs.YtekiikmaaiekkaaGreatDoor
section
open Go.RowKit
set_option linter.unusedVariables false
set_option maxRecDepth 100000
set_option maxHeartbeats 8000000 in
theorem FnPrgAlone_law_c (a : Option Addr) (len cap : Nat) (zs : List Int) (w0 : World) (hr : CodeRow w0 a len cap zs) :
    Calls Tryz.prog 7 #[.slice a len cap] w0 fun e w' => e = .returned (.bool true) ∧ Below w0.heap.size w0 w' := by
  have hu := Tryz.underlying40
  have hu2 := Tryz.underlying67
  by_cases hl : len ≤ 1048576
  · obtain ⟨code, rfl, hV⟩ := hr.view (by omega)
    have H0 := Sec.mk (DrawPrgAlone_c w0 _ code _ hV)
    have ql : decide ((code.length : Int) > 1048576) = false := decide_eq_false (by omega)
    clear hV hr
    go_enter Tryz.func7, Tryz.ntmps7
    go_wp2_with fail
    refine H0.out.mono ?_
    rintro e w1 ⟨p, cs, rfl, hO, l1, l2, hb⟩
    obtain ⟨v1, v2, rfl, k1, k2⟩ := kProg_K (kProg.O_K hO)
    obtain ⟨A1, m1, rfl, -⟩ := k1
    obtain ⟨A2, m2, rfl, -⟩ := k2
    have HB1 := belA (Below.refl w1.heap.size w1) (.cells #[.slice A1 p.clauses.length m1, .slice A2 p.places.length m2] 40)
    have BX := Sec.mk (bel hb HB1)
    have XB := Sec.mk (heap_alloc_new w1 (.cells #[.slice A1 p.clauses.length m1, .slice A2 p.places.length m2] 40))
    obtain ⟨ok, hok⟩ : ∃ ok : Nat → Prop, ok = fun k => w0.heap.size ≤ k := ⟨_, rfl⟩
    have KX0 := Sec.mk (Kd.K_below (kProg.O_K hO) HB1)
    rw [← hok] at KX0
    have y0 := (box_at XB.out).2.1 0 _ rfl
    have y1' := (box_at XB.out).2.1 1 _ rfl
    clear hO hb HB1 H0 hok
    go_wp2_with (fail)
    generalize w1.alloc (.cells #[.slice A1 p.clauses.length m1, .slice A2 p.places.length m2] 40) = wx at *
    generalize w1.heap.size = X at *
    cases HQ : prgOk p with
    | false =>
      have HA : Sec (aloneP p = (⟨[], []⟩ : Prog)) := ⟨by unfold aloneP; rw [if_neg (by rw [HQ]; decide)]⟩
      go_wp2_with fail
      refine (PrgAlone_i p _ _ wx KX0.out).mono ?_
      rintro e w3 ⟨c, rfl, hO3, hb3⟩
      rw [HA.out] at hO3
      obtain ⟨y1, y2, rfl, k3, k4⟩ := kProg_K (kProg.O_K hO3)
      obtain ⟨B1, n1, rfl, -⟩ := k3
      obtain ⟨B2, n2, rfl, -⟩ := k4
      simp only [List.length_nil] at hO3
      have HB4 := belA (Below.refl w3.heap.size w3) (.cells #[.slice B1 0 n1, .slice B2 0 n2] 40)
      have B4 := Sec.mk (bel BX.out (bel hb3 HB4))
      have X4 := Sec.mk (((bel hb3 HB4).block _ (Array.getElem?_eq_some_iff.1 XB.out).1).trans XB.out)
      have Y4 := Sec.mk (heap_alloc_new w3 (.cells #[.slice B1 0 n1, .slice B2 0 n2] 40))
      have KX4 := Sec.mk (Kd.K_below KX0.out (bel hb3 HB4))
      obtain ⟨ok2, hok2⟩ : ∃ ok2 : Nat → Prop, ok2 = fun k => wx.heap.size ≤ k := ⟨_, rfl⟩
      have KY4 := Sec.mk (Kd.K_below (kProg.O_K hO3) HB4)
      rw [← hok2] at KY4
      clear hO3 hb3 HB4 KX0 XB BX hok2 y0 y1'
      simp only [List.length_nil] at *
      go_wp2
      generalize w3.alloc (.cells #[.slice B1 0 n1, .slice B2 0 n2] 40) = wr at *
      generalize w3.heap.size = Y at *
      have KX := KX4
      have KY := KY4
      have X0 := Sec.mk ((box_at X4.out).2.1 0 _ rfl)
      have X1 := Sec.mk ((box_at X4.out).2.1 1 _ rfl)
      have Y0 := Sec.mk ((box_at Y4.out).2.1 0 _ rfl)
      have Y1 := Sec.mk ((box_at Y4.out).2.1 1 _ rfl)
      refine wp_region_lists [[13], [14], [15], [16], [17]]
        [fun val _ _ => val 13 = .agg #[.slice B1 0 n1, .slice B2 0 n2],
          fun val _ _ => val 14 = .agg #[.slice A1 p.clauses.length m1, .slice A2 p.places.length m2],
          onO kProg 15 (aloneP p),
          fun val _ _ => val 16 = .bool true,
          fun val _ _ => val 17 = .bool false]
        [[], [], [], [], []] 0 (fun _ => False) (fun _ _ => False) (by kernel_rfl) ⟨by kernel_rfl, by kernel_rfl, by kernel_rfl, by kernel_rfl, by kernel_rfl⟩
        (.cons (stab_val 13 (fun v => v = .agg #[.slice B1 0 n1, .slice B2 0 n2])) (.cons (stab_val 14 (fun v => v = .agg #[.slice A1 p.clauses.length m1, .slice A2 p.places.length m2])) (.cons (stab_O kProg 15 (aloneP p)) (.cons (stab_val 16 (fun v => v = .bool true)) (.cons (stab_val 17 (fun v => v = .bool false)) .nil)))))
        (fun i j k h1 h2 => h1.elim) (fun i k h => h.elim) (fun i h1 h2 => by simp at h1 h2; omega) (.cons ?_ (.cons ?_ (.cons ?_ (.cons ?_ (.cons ?_ .nil))))) ?_
      · intro a W own hfor huse hap hmi hF K hK
        have e4 : a.eval (.tmp 4) = .pointer (some ⟨Y, 0, none⟩) := hfor 4 (by kernel_rfl)
        have c0 := foot_cell hF (fun h => h) Y0.out
        have c1 := foot_cell hF (fun h => h) Y1.out
        refine op_val (.agg #[.slice B1 0 n1, .slice B2 0 n2]) W rfl ?_ (hK _ _ (post_pure ?_))
        · clear hfor huse hap hmi hK hF
          generalize a.eval = ρ at *
          go_simp
        · exact (if_pos rfl)
      · intro a W own hfor huse hap hmi hF K hK
        have e3 : a.eval (.tmp 3) = .pointer (some ⟨X, 0, none⟩) := hfor 3 (by kernel_rfl)
        have c0 := foot_cell hF (fun h => h) X0.out
        have c1 := foot_cell hF (fun h => h) X1.out
        refine op_val (.agg #[.slice A1 p.clauses.length m1, .slice A2 p.places.length m2]) W rfl ?_ (hK _ _ (post_pure ?_))
        · clear hfor huse hap hmi hK hF
          generalize a.eval = ρ at *
          go_simp
        · exact (if_pos rfl)
      · intro a W own hfor huse hap hmi hF K hK
        have e14 : a.eval (.tmp 14) = .agg #[.slice A1 p.clauses.length m1, .slice A2 p.places.length m2] := huse 1 (by kernel_rfl)
        have hkx := kProg.K_move (show Keeps wr W ok ok from fun q h1 h2 => ⟨h1, hF.block q h2 (fun h => h)⟩) KX.out
        have efn : a.eval (.func 37) = .func (.func 37) #[] #[] := rfl
        refine op_call (f := 37) (args := #[.agg #[.slice A1 p.clauses.length m1, .slice A2 p.places.length m2]]) (fun v w1 => ∃ c : List Value, v = .agg c.toArray ∧ kProg.O w1 (fun k => W.heap.size ≤ k) (aloneP p) c ∧ Below W.heap.size W w1) rfl ?_ ?_ (fun v w1 h => ?_)
        · clear hfor huse hap hmi hK hF
          generalize a.eval = ρ at *
          go_simp
        · exact (PrgAlone_c p _ _ W hkx).mono (by rintro e w1 ⟨c, rfl, h1, h2⟩; exact ⟨_, rfl, c, rfl, h1, h2⟩)
        · obtain ⟨c, rfl, h1, h2⟩ := h
          exact hK _ _ (post_new h2 ⟨c, if_pos rfl, kProg.O_mono h1 (fun k h3 h4 => ⟨h3, h4⟩)⟩)
      · intro a W own hfor huse hap hmi hF K hK
        have e13 : a.eval (.tmp 13) = .agg #[.slice B1 0 n1, .slice B2 0 n2] := huse 0 (by kernel_rfl)
        obtain ⟨cs2, e15, r2⟩ := (huse 2 (by kernel_rfl) : onO kProg 15 (aloneP p) (slotsOf a) (own 2) W)
        have e15 : a.eval (.tmp 15) = .agg cs2.toArray := e15
        have hky := kProg.K_move (show Keeps wr W ok2 ok2 from fun q h1 h2 => ⟨h1, hF.block q h2 (fun h => h)⟩) KY.out
        have r2 := r2
        rw [HA.out] at r2
        have efn : a.eval (.func 36) = .func (.func 36) #[] #[] := rfl
        refine op_call (f := 36) (args := #[.agg #[.slice B1 0 n1, .slice B2 0 n2], .agg cs2.toArray]) (fun v w1 => v = .bool true ∧ Below W.heap.size W w1) rfl ?_ ?_ (fun v w1 h => ?_)
        · clear hfor huse hap hmi hK hF
          generalize a.eval = ρ at *
          go_simp
        · exact (caProg_c (⟨[], []⟩ : Prog) [.slice B1 0 n1, .slice B2 0 n2] cs2 _ _ W hky (kProg.O_K r2)).mono (by rintro e w1 ⟨rfl, h2⟩; exact ⟨_, rfl, rfl, h2⟩)
        · obtain ⟨rfl, h2⟩ := h
          exact hK _ _ (post_new h2 (if_pos rfl))
      · intro a W own hfor huse hap hmi hF K hK
        have e16 : a.eval (.tmp 16) = .bool true := huse 3 (by kernel_rfl)
        refine op_val (.bool false) W rfl ?_ (hK _ _ (post_pure ?_))
        · clear hfor huse hap hmi hK hF
          generalize a.eval = ρ at *
          go_simp
        · exact (if_pos rfl)
      intro a' W own hf
      have s1 := hf.st.size
      have s2 := hf.st.rest
      have s3 := fun t ht => hf.st.kept t ht
      revert hf
      revert a'
      refine lay_intro (df := []) [true, true, true, true, true, true, true, true, true, true, true, true, true, false, false, false, false, false, true, true, true, true, true, true, true, true, true, true, true, true, true, true, true, true, true, true, true, true, true, true, true, true, true, true, true, true, true, true, true, true, true, true, true, true, true, true, true, true, true, true, true, true, true, true, true, true, true, true, true, true, true, true, true, true, true] (by kernel_rfl) rfl ?_
      intro x17 x16 x15 x14 x13 hf
      have e17 : x17 = .bool false := hf.at 4 (fun val _ _ => val 17 = .bool false) rfl (by kernel_rfl)
      subst e17
      have HF := Sec.mk hf.st.foot
      have BW := Sec.mk (HF.out.below (belD (Below.refl _ _)) (fun k h => h.elim))
      clear hf HF
      have B5 := Sec.mk (bel B4.out BW.out)
      have X5 := Sec.mk ((BW.out.block _ (Array.getElem?_eq_some_iff.1 X4.out).1).trans X4.out)
      have Y5 := Sec.mk ((BW.out.block _ (Array.getElem?_eq_some_iff.1 Y4.out).1).trans Y4.out)
      have KX5 := Sec.mk (Kd.K_below KX.out BW.out)
      have KY5 := Sec.mk (Kd.K_below KY.out BW.out)
      clear B4 X4 Y4 KX KY KX4 KY4 X0 X1 Y0 Y1 BW
      have KX6 := Sec.mk (kProg.K_move (show Keeps W W ok (fun k => ok k ∧ k < W.heap.size) from fun k h1 h2 => ⟨⟨h1, h2⟩, rfl⟩) KX5.out)
      have z0 := (box_at X5.out).2.1 0 _ rfl
      have z1 := (box_at X5.out).2.1 1 _ rfl
      go_wp2_with fail
      refine (specPrgOk_c p _ _ W KX6.out (fun k h => h.2)).mono ?_
      rw [HQ]
      rintro e w6 ⟨rfl, hb6⟩
      have B6 := Sec.mk (bel B5.out hb6)
      have X6 := Sec.mk ((hb6.block _ (Array.getElem?_eq_some_iff.1 X5.out).1).trans X5.out)
      have Y6 := Sec.mk ((hb6.block _ (Array.getElem?_eq_some_iff.1 Y5.out).1).trans Y5.out)
      have KX := Sec.mk (Kd.K_below KX5.out hb6)
      have KY := Sec.mk (Kd.K_below KY5.out hb6)
      clear hb6 z0 z1 KX6 KX5 KY5 X5 Y5 B5
      have s0 := (box_at Y6.out).2.1 0 _ rfl
      have s1 := (box_at Y6.out).2.1 1 _ rfl
      go_wp2_with (go_at_call 14; refine (caOk_c _).mono ?_; rintro e w7 ⟨rfl, hb⟩; have B7 := Sec.mk (bel B6.out hb); clear hb)
      go_ret
      exact ⟨rfl, B7.out⟩
    | true =>
      have HA : Sec (aloneP p = (⟨p.clauses, []⟩ : Prog)) := ⟨by unfold aloneP; rw [if_pos HQ]⟩
      go_wp2_with fail
      refine (PrgAlone_i p _ _ wx KX0.out).mono ?_
      rintro e w3 ⟨c, rfl, hO3, hb3⟩
      rw [HA.out] at hO3
      obtain ⟨y1, y2, rfl, k3, k4⟩ := kProg_K (kProg.O_K hO3)
      obtain ⟨B1, n1, rfl, -⟩ := k3
      obtain ⟨B2, n2, rfl, -⟩ := k4
      simp only [List.length_nil] at hO3
      have HB4 := belA (Below.refl w3.heap.size w3) (.cells #[.slice B1 p.clauses.length n1, .slice B2 0 n2] 40)
      have B4 := Sec.mk (bel BX.out (bel hb3 HB4))
      have X4 := Sec.mk (((bel hb3 HB4).block _ (Array.getElem?_eq_some_iff.1 XB.out).1).trans XB.out)
      have Y4 := Sec.mk (heap_alloc_new w3 (.cells #[.slice B1 p.clauses.length n1, .slice B2 0 n2] 40))
      have KX4 := Sec.mk (Kd.K_below KX0.out (bel hb3 HB4))
      obtain ⟨ok2, hok2⟩ : ∃ ok2 : Nat → Prop, ok2 = fun k => wx.heap.size ≤ k := ⟨_, rfl⟩
      have KY4 := Sec.mk (Kd.K_below (kProg.O_K hO3) HB4)
      rw [← hok2] at KY4
      clear hO3 hb3 HB4 KX0 XB BX hok2 y0 y1'
      simp only [List.length_nil] at *
      go_wp2
      generalize w3.alloc (.cells #[.slice B1 p.clauses.length n1, .slice B2 0 n2] 40) = wr at *
      generalize w3.heap.size = Y at *
      have KX := KX4
      have KY := KY4
      have X0 := Sec.mk ((box_at X4.out).2.1 0 _ rfl)
      have X1 := Sec.mk ((box_at X4.out).2.1 1 _ rfl)
      have Y0 := Sec.mk ((box_at Y4.out).2.1 0 _ rfl)
      have Y1 := Sec.mk ((box_at Y4.out).2.1 1 _ rfl)
      refine wp_region_lists [[13], [14], [15], [16], [17]]
        [fun val _ _ => val 13 = .agg #[.slice B1 p.clauses.length n1, .slice B2 0 n2],
          fun val _ _ => val 14 = .agg #[.slice A1 p.clauses.length m1, .slice A2 p.places.length m2],
          onO kProg 15 (aloneP p),
          fun val _ _ => val 16 = .bool true,
          fun val _ _ => val 17 = .bool false]
        [[], [], [], [], []] 0 (fun _ => False) (fun _ _ => False) (by kernel_rfl) ⟨by kernel_rfl, by kernel_rfl, by kernel_rfl, by kernel_rfl, by kernel_rfl⟩
        (.cons (stab_val 13 (fun v => v = .agg #[.slice B1 p.clauses.length n1, .slice B2 0 n2])) (.cons (stab_val 14 (fun v => v = .agg #[.slice A1 p.clauses.length m1, .slice A2 p.places.length m2])) (.cons (stab_O kProg 15 (aloneP p)) (.cons (stab_val 16 (fun v => v = .bool true)) (.cons (stab_val 17 (fun v => v = .bool false)) .nil)))))
        (fun i j k h1 h2 => h1.elim) (fun i k h => h.elim) (fun i h1 h2 => by simp at h1 h2; omega) (.cons ?_ (.cons ?_ (.cons ?_ (.cons ?_ (.cons ?_ .nil))))) ?_
      · intro a W own hfor huse hap hmi hF K hK
        have e4 : a.eval (.tmp 4) = .pointer (some ⟨Y, 0, none⟩) := hfor 4 (by kernel_rfl)
        have c0 := foot_cell hF (fun h => h) Y0.out
        have c1 := foot_cell hF (fun h => h) Y1.out
        refine op_val (.agg #[.slice B1 p.clauses.length n1, .slice B2 0 n2]) W rfl ?_ (hK _ _ (post_pure ?_))
        · clear hfor huse hap hmi hK hF
          generalize a.eval = ρ at *
          go_simp
        · exact (if_pos rfl)
      · intro a W own hfor huse hap hmi hF K hK
        have e3 : a.eval (.tmp 3) = .pointer (some ⟨X, 0, none⟩) := hfor 3 (by kernel_rfl)
        have c0 := foot_cell hF (fun h => h) X0.out
        have c1 := foot_cell hF (fun h => h) X1.out
        refine op_val (.agg #[.slice A1 p.clauses.length m1, .slice A2 p.places.length m2]) W rfl ?_ (hK _ _ (post_pure ?_))
        · clear hfor huse hap hmi hK hF
          generalize a.eval = ρ at *
          go_simp
        · exact (if_pos rfl)
      · intro a W own hfor huse hap hmi hF K hK
        have e14 : a.eval (.tmp 14) = .agg #[.slice A1 p.clauses.length m1, .slice A2 p.places.length m2] := huse 1 (by kernel_rfl)
        have hkx := kProg.K_move (show Keeps wr W ok ok from fun q h1 h2 => ⟨h1, hF.block q h2 (fun h => h)⟩) KX.out
        have efn : a.eval (.func 37) = .func (.func 37) #[] #[] := rfl
        refine op_call (f := 37) (args := #[.agg #[.slice A1 p.clauses.length m1, .slice A2 p.places.length m2]]) (fun v w1 => ∃ c : List Value, v = .agg c.toArray ∧ kProg.O w1 (fun k => W.heap.size ≤ k) (aloneP p) c ∧ Below W.heap.size W w1) rfl ?_ ?_ (fun v w1 h => ?_)
        · clear hfor huse hap hmi hK hF
          generalize a.eval = ρ at *
          go_simp
        · exact (PrgAlone_c p _ _ W hkx).mono (by rintro e w1 ⟨c, rfl, h1, h2⟩; exact ⟨_, rfl, c, rfl, h1, h2⟩)
        · obtain ⟨c, rfl, h1, h2⟩ := h
          exact hK _ _ (post_new h2 ⟨c, if_pos rfl, kProg.O_mono h1 (fun k h3 h4 => ⟨h3, h4⟩)⟩)
      · intro a W own hfor huse hap hmi hF K hK
        have e13 : a.eval (.tmp 13) = .agg #[.slice B1 p.clauses.length n1, .slice B2 0 n2] := huse 0 (by kernel_rfl)
        obtain ⟨cs2, e15, r2⟩ := (huse 2 (by kernel_rfl) : onO kProg 15 (aloneP p) (slotsOf a) (own 2) W)
        have e15 : a.eval (.tmp 15) = .agg cs2.toArray := e15
        have hky := kProg.K_move (show Keeps wr W ok2 ok2 from fun q h1 h2 => ⟨h1, hF.block q h2 (fun h => h)⟩) KY.out
        have r2 := r2
        rw [HA.out] at r2
        have efn : a.eval (.func 36) = .func (.func 36) #[] #[] := rfl
        refine op_call (f := 36) (args := #[.agg #[.slice B1 p.clauses.length n1, .slice B2 0 n2], .agg cs2.toArray]) (fun v w1 => v = .bool true ∧ Below W.heap.size W w1) rfl ?_ ?_ (fun v w1 h => ?_)
        · clear hfor huse hap hmi hK hF
          generalize a.eval = ρ at *
          go_simp
        · exact (caProg_c (⟨p.clauses, []⟩ : Prog) [.slice B1 p.clauses.length n1, .slice B2 0 n2] cs2 _ _ W hky (kProg.O_K r2)).mono (by rintro e w1 ⟨rfl, h2⟩; exact ⟨_, rfl, rfl, h2⟩)
        · obtain ⟨rfl, h2⟩ := h
          exact hK _ _ (post_new h2 (if_pos rfl))
      · intro a W own hfor huse hap hmi hF K hK
        have e16 : a.eval (.tmp 16) = .bool true := huse 3 (by kernel_rfl)
        refine op_val (.bool false) W rfl ?_ (hK _ _ (post_pure ?_))
        · clear hfor huse hap hmi hK hF
          generalize a.eval = ρ at *
          go_simp
        · exact (if_pos rfl)
      intro a' W own hf
      have s1 := hf.st.size
      have s2 := hf.st.rest
      have s3 := fun t ht => hf.st.kept t ht
      revert hf
      revert a'
      refine lay_intro (df := []) [true, true, true, true, true, true, true, true, true, true, true, true, true, false, false, false, false, false, true, true, true, true, true, true, true, true, true, true, true, true, true, true, true, true, true, true, true, true, true, true, true, true, true, true, true, true, true, true, true, true, true, true, true, true, true, true, true, true, true, true, true, true, true, true, true, true, true, true, true, true, true, true, true, true, true] (by kernel_rfl) rfl ?_
      intro x17 x16 x15 x14 x13 hf
      have e17 : x17 = .bool false := hf.at 4 (fun val _ _ => val 17 = .bool false) rfl (by kernel_rfl)
      subst e17
      have HF := Sec.mk hf.st.foot
      have BW := Sec.mk (HF.out.below (belD (Below.refl _ _)) (fun k h => h.elim))
      clear hf HF
      have B5 := Sec.mk (bel B4.out BW.out)
      have X5 := Sec.mk ((BW.out.block _ (Array.getElem?_eq_some_iff.1 X4.out).1).trans X4.out)
      have Y5 := Sec.mk ((BW.out.block _ (Array.getElem?_eq_some_iff.1 Y4.out).1).trans Y4.out)
      have KX5 := Sec.mk (Kd.K_below KX.out BW.out)
      have KY5 := Sec.mk (Kd.K_below KY.out BW.out)
      clear B4 X4 Y4 KX KY KX4 KY4 X0 X1 Y0 Y1 BW
      have KX6 := Sec.mk (kProg.K_move (show Keeps W W ok (fun k => ok k ∧ k < W.heap.size) from fun k h1 h2 => ⟨⟨h1, h2⟩, rfl⟩) KX5.out)
      have z0 := (box_at X5.out).2.1 0 _ rfl
      have z1 := (box_at X5.out).2.1 1 _ rfl
      go_wp2_with fail
      refine (specPrgOk_c p _ _ W KX6.out (fun k h => h.2)).mono ?_
      rw [HQ]
      rintro e w6 ⟨rfl, hb6⟩
      have B6 := Sec.mk (bel B5.out hb6)
      have X6 := Sec.mk ((hb6.block _ (Array.getElem?_eq_some_iff.1 X5.out).1).trans X5.out)
      have Y6 := Sec.mk ((hb6.block _ (Array.getElem?_eq_some_iff.1 Y5.out).1).trans Y5.out)
      have KX := Sec.mk (Kd.K_below KX5.out hb6)
      have KY := Sec.mk (Kd.K_below KY5.out hb6)
      clear hb6 z0 z1 KX6 KX5 KY5 X5 Y5 B5
      have s0 := (box_at Y6.out).2.1 0 _ rfl
      have s1 := (box_at Y6.out).2.1 1 _ rfl
      have OKS : Sec (p.clauses.all clauseOk = true) := ⟨by have := HQ; unfold prgOk at this; simp only [Bool.and_eq_true] at this; exact this.1.2⟩
      have OK2 : Sec (prgOk ⟨p.clauses, []⟩ = true) := ⟨prgOk_5 (prgOk_len HQ).1 (by simp) OKS.out (by rfl)⟩
      go_wp2_with fail
      generalize hw6 : w6 = wq at *
      clear hw6
      go_loopw [5] (fun iv wr => ∃ k : Nat, k ≤ p.clauses.length ∧ iv = .int .i64 k ∧ Sec (Below wq.heap.size wq wr)) (fun iv _ => p.clauses.length - (intOf iv).toNat)
      case atStart => exact ⟨0, Nat.zero_le _, rfl, ⟨Below.refl _ _⟩⟩
      case round =>
        obtain ⟨k, hk, rfl, hbq⟩ := hrel
        have KXr := Sec.mk (Kd.K_below KX.out hbq.out)
        have KYr := Sec.mk (Kd.K_below KY.out hbq.out)
        have Xr := Sec.mk ((hbq.out.block _ (Array.getElem?_eq_some_iff.1 X6.out).1).trans X6.out)
        have Yr := Sec.mk ((hbq.out.block _ (Array.getElem?_eq_some_iff.1 Y6.out).1).trans Y6.out)
        clear s0 s1
        have z0 := (box_at Xr.out).2.1 0 _ rfl
        have z1 := (box_at Xr.out).2.1 1 _ rfl
        have s0 := (box_at Yr.out).2.1 0 _ rfl
        have s1 := (box_at Yr.out).2.1 1 _ rfl
        by_cases hlt : k < p.clauses.length
        · obtain ⟨q1, q2, e1, e2, -⟩ := kProg_K KYr.out
          have hq1 : q1 = .slice B1 p.clauses.length n1 := by simp only [List.cons.injEq] at e1; exact e1.1.symm
          rw [hq1] at e2
          obtain ⟨B1', n1', hv1, -, -, -, hC1, -⟩ := e2
          simp only [Value.slice.injEq] at hv1
          obtain ⟨rfl, -, rfl⟩ := hv1
          obtain ⟨q3, q4, e3, e4, -⟩ := kProg_K KXr.out
          have hq3 : q3 = .slice A1 p.clauses.length m1 := by simp only [List.cons.injEq] at e3; exact e3.1.symm
          rw [hq3] at e4
          obtain ⟨A1', m1', hv2, -, -, -, hC2, -⟩ := e4
          simp only [Value.slice.injEq] at hv2
          obtain ⟨rfl, -, rfl⟩ := hv2
          obtain ⟨b, off, cs, rfl, hob, hK, hc⟩ := Kd.C_get hC1 (List.getElem?_eq_getElem hlt)
          obtain ⟨b2, off2, cs2, rfl, hob2, hK2, hc2⟩ := Kd.C_get hC2 (List.getElem?_eq_getElem hlt)
          have hck : clauseOk p.clauses[k] = true := List.all_eq_true.1 OKS.out _ (List.getElem_mem hlt)
          generalize p.clauses[k] = y at *
          have HH : Sec ((trmOk y.head && headFun y.head) = true) := ⟨by unfold clauseOk termIn at hck; simp only [Bool.and_eq_true] at hck ⊢; exact ⟨hck.1.1.1.1.1, hck.1.1.2⟩⟩
          have HK := Sec.mk hK
          have HK2 := Sec.mk hK2
          obtain ⟨va, vb, rfl, -⟩ := kClause_K hK
          obtain ⟨ua, ub, rfl, hua, -⟩ := kClause_K hK2
          have HU := Sec.mk hua
          have S0 : Sec (wr.cell? ⟨b, off + k * 2, none⟩ = some va) := ⟨hc 0 _ rfl⟩
          have S1 : Sec (wr.cell? ⟨b, off + k * 2 + 1, none⟩ = some vb) := ⟨hc 1 _ rfl⟩
          have T0 : Sec (wr.cell? ⟨b2, off2 + k * 2, none⟩ = some ua) := ⟨hc2 0 _ rfl⟩
          have T1 : Sec (wr.cell? ⟨b2, off2 + k * 2 + 1, none⟩ = some ub) := ⟨hc2 1 _ rfl⟩
          have X0 := Sec.mk z0
          have Y0 := Sec.mk s0
          have Y1 := Sec.mk s1
          have i0 : (0 : Int) ≤ (k : Int) := by omega
          have i1 : (k : Int) < (p.clauses.length : Int) := by omega
          clear hK hK2 hc hc2 hck hua hC1 hC2 hq1 hq3 e1 e3
          have KY := KYr
          go_wp2
          refine wp_region_lists [[35], [36], [37], [38], [39], [40], [41], [42], [43], [44], [45], [46], [47], [48], [49], [50], [51], [52], [53], [54], [55], [56], [57]]
            [fun val _ _ => val 35 = .pointer (some ⟨Y, 0, none⟩),
              fun val _ _ => val 36 = .slice (some ⟨b, off, none⟩) p.clauses.length n1,
              fun val _ _ => val 37 = .int .i64 k,
              fun val _ _ => val 38 = .pointer (some ⟨b, off + k * 2, none⟩),
              fun val _ _ => val 39 = .agg #[va, vb],
              fun val _ _ => val 40 = .pointer (some ⟨X, 0, none⟩),
              fun val _ _ => val 41 = .slice (some ⟨b2, off2, none⟩) p.clauses.length m1,
              fun val _ _ => val 42 = .int .i64 k,
              fun val _ _ => val 43 = .pointer (some ⟨b2, off2 + k * 2, none⟩),
              fun val _ _ => val 44 = .agg #[ua, ub],
              fun val _ _ => val 45 = .bool true,
              fun val _ _ => val 46 = .bool false,
              fun val _ _ => val 47 = .bool false,
              fun val _ _ => val 48 = .agg #[.slice (some ⟨b, off, none⟩) p.clauses.length n1, .slice B2 0 n2],
              fun val _ _ => val 49 = .pointer (some ⟨X, 0, none⟩),
              fun val _ _ => val 50 = .slice (some ⟨b2, off2, none⟩) p.clauses.length m1,
              fun val _ _ => val 51 = .int .i64 k,
              fun val _ _ => val 52 = .pointer (some ⟨b2, off2 + k * 2, none⟩),
              fun val _ _ => val 53 = .pointer (some ⟨b2, off2 + k * 2, none⟩),
              fun val _ _ => val 54 = ua,
              fun val _ _ => val 55 = .int .i64 0,
              fun val _ _ => val 56 = .bool false,
              fun val _ _ => val 57 = .bool false]
            [[], [], [], [], [], [], [], [], [], [], [], [], [], [], [], [], [], [], [], [], [], [], []] 0 (fun _ => False) (fun _ _ => False) (by kernel_rfl) ⟨by kernel_rfl, by kernel_rfl, by kernel_rfl, by kernel_rfl, by kernel_rfl⟩
            (.cons (stab_val 35 (fun v => v = .pointer (some ⟨Y, 0, none⟩))) (.cons (stab_val 36 (fun v => v = .slice (some ⟨b, off, none⟩) p.clauses.length n1)) (.cons (stab_val 37 (fun v => v = .int .i64 k)) (.cons (stab_val 38 (fun v => v = .pointer (some ⟨b, off + k * 2, none⟩))) (.cons (stab_val 39 (fun v => v = .agg #[va, vb])) (.cons (stab_val 40 (fun v => v = .pointer (some ⟨X, 0, none⟩))) (.cons (stab_val 41 (fun v => v = .slice (some ⟨b2, off2, none⟩) p.clauses.length m1)) (.cons (stab_val 42 (fun v => v = .int .i64 k)) (.cons (stab_val 43 (fun v => v = .pointer (some ⟨b2, off2 + k * 2, none⟩))) (.cons (stab_val 44 (fun v => v = .agg #[ua, ub])) (.cons (stab_val 45 (fun v => v = .bool true)) (.cons (stab_val 46 (fun v => v = .bool false)) (.cons (stab_val 47 (fun v => v = .bool false)) (.cons (stab_val 48 (fun v => v = .agg #[.slice (some ⟨b, off, none⟩) p.clauses.length n1, .slice B2 0 n2])) (.cons (stab_val 49 (fun v => v = .pointer (some ⟨X, 0, none⟩))) (.cons (stab_val 50 (fun v => v = .slice (some ⟨b2, off2, none⟩) p.clauses.length m1)) (.cons (stab_val 51 (fun v => v = .int .i64 k)) (.cons (stab_val 52 (fun v => v = .pointer (some ⟨b2, off2 + k * 2, none⟩))) (.cons (stab_val 53 (fun v => v = .pointer (some ⟨b2, off2 + k * 2, none⟩))) (.cons (stab_val 54 (fun v => v = ua)) (.cons (stab_val 55 (fun v => v = .int .i64 0)) (.cons (stab_val 56 (fun v => v = .bool false)) (.cons (stab_val 57 (fun v => v = .bool false)) .nil)))))))))))))))))))))))
            (fun i j k h1 h2 => h1.elim) (fun i k h => h.elim) (fun i h1 h2 => by simp at h1 h2; omega) (.cons ?_ (.cons ?_ (.cons ?_ (.cons ?_ (.cons ?_ (.cons ?_ (.cons ?_ (.cons ?_ (.cons ?_ (.cons ?_ (.cons ?_ (.cons ?_ (.cons ?_ (.cons ?_ (.cons ?_ (.cons ?_ (.cons ?_ (.cons ?_ (.cons ?_ (.cons ?_ (.cons ?_ (.cons ?_ (.cons ?_ .nil))))))))))))))))))))))) ?_
          · intro a W own hfor huse hap hmi hF K hK
            have e4 : a.eval (.tmp 4) = .pointer (some ⟨Y, 0, none⟩) := hfor 4 (by kernel_rfl)
            refine op_val (.pointer (some ⟨Y, 0, none⟩)) W rfl ?_ (hK _ _ (post_pure ?_))
            · clear hfor huse hap hmi hK hF
              generalize a.eval = ρ at *
              go_simp
            · exact (if_pos rfl)
          · intro a W own hfor huse hap hmi hF K hK
            have e35 : a.eval (.tmp 35) = .pointer (some ⟨Y, 0, none⟩) := huse 0 (by kernel_rfl)
            have c0 := foot_cell hF (fun h => h) Y0.out
            refine op_val (.slice (some ⟨b, off, none⟩) p.clauses.length n1) W rfl ?_ (hK _ _ (post_pure ?_))
            · clear hfor huse hap hmi hK hF
              generalize a.eval = ρ at *
              go_simp
            · exact (if_pos rfl)
          · intro a W own hfor huse hap hmi hF K hK
            have e5 : a.eval (.tmp 5) = .int .i64 k := hfor 5 (by kernel_rfl)
            refine op_val (.int .i64 k) W rfl ?_ (hK _ _ (post_pure ?_))
            · clear hfor huse hap hmi hK hF
              generalize a.eval = ρ at *
              go_simp
            · exact (if_pos rfl)
          · intro a W own hfor huse hap hmi hF K hK
            have e36 : a.eval (.tmp 36) = .slice (some ⟨b, off, none⟩) p.clauses.length n1 := huse 1 (by kernel_rfl)
            have e37 : a.eval (.tmp 37) = .int .i64 k := huse 2 (by kernel_rfl)
            refine op_val (.pointer (some ⟨b, off + k * 2, none⟩)) W rfl ?_ (hK _ _ (post_pure ?_))
            · clear hfor huse hap hmi hK hF
              generalize a.eval = ρ at *
              go_simp
            · exact (if_pos rfl)
          · intro a W own hfor huse hap hmi hF K hK
            have e38 : a.eval (.tmp 38) = .pointer (some ⟨b, off + k * 2, none⟩) := huse 3 (by kernel_rfl)
            have c0 := foot_cell hF (fun h => h) S0.out
            have c1 := foot_cell hF (fun h => h) S1.out
            refine op_val (.agg #[va, vb]) W rfl ?_ (hK _ _ (post_pure ?_))
            · clear hfor huse hap hmi hK hF
              generalize a.eval = ρ at *
              go_simp
            · exact (if_pos rfl)
          · intro a W own hfor huse hap hmi hF K hK
            have e3 : a.eval (.tmp 3) = .pointer (some ⟨X, 0, none⟩) := hfor 3 (by kernel_rfl)
            refine op_val (.pointer (some ⟨X, 0, none⟩)) W rfl ?_ (hK _ _ (post_pure ?_))
            · clear hfor huse hap hmi hK hF
              generalize a.eval = ρ at *
              go_simp
            · exact (if_pos rfl)
          · intro a W own hfor huse hap hmi hF K hK
            have e40 : a.eval (.tmp 40) = .pointer (some ⟨X, 0, none⟩) := huse 5 (by kernel_rfl)
            have c0 := foot_cell hF (fun h => h) X0.out
            refine op_val (.slice (some ⟨b2, off2, none⟩) p.clauses.length m1) W rfl ?_ (hK _ _ (post_pure ?_))
            · clear hfor huse hap hmi hK hF
              generalize a.eval = ρ at *
              go_simp
            · exact (if_pos rfl)
          · intro a W own hfor huse hap hmi hF K hK
            have e5 : a.eval (.tmp 5) = .int .i64 k := hfor 5 (by kernel_rfl)
            refine op_val (.int .i64 k) W rfl ?_ (hK _ _ (post_pure ?_))
            · clear hfor huse hap hmi hK hF
              generalize a.eval = ρ at *
              go_simp
            · exact (if_pos rfl)
          · intro a W own hfor huse hap hmi hF K hK
            have e41 : a.eval (.tmp 41) = .slice (some ⟨b2, off2, none⟩) p.clauses.length m1 := huse 6 (by kernel_rfl)
            have e42 : a.eval (.tmp 42) = .int .i64 k := huse 7 (by kernel_rfl)
            refine op_val (.pointer (some ⟨b2, off2 + k * 2, none⟩)) W rfl ?_ (hK _ _ (post_pure ?_))
            · clear hfor huse hap hmi hK hF
              generalize a.eval = ρ at *
              go_simp
            · exact (if_pos rfl)
          · intro a W own hfor huse hap hmi hF K hK
            have e43 : a.eval (.tmp 43) = .pointer (some ⟨b2, off2 + k * 2, none⟩) := huse 8 (by kernel_rfl)
            have c0 := foot_cell hF (fun h => h) T0.out
            have c1 := foot_cell hF (fun h => h) T1.out
            refine op_val (.agg #[ua, ub]) W rfl ?_ (hK _ _ (post_pure ?_))
            · clear hfor huse hap hmi hK hF
              generalize a.eval = ρ at *
              go_simp
            · exact (if_pos rfl)
          · intro a W own hfor huse hap hmi hF K hK
            have e39 : a.eval (.tmp 39) = .agg #[va, vb] := huse 4 (by kernel_rfl)
            have e44 : a.eval (.tmp 44) = .agg #[ua, ub] := huse 9 (by kernel_rfl)
            have hk1 := kClause.K_move (show Keeps wr W ok2 ok2 from fun q h1 h2 => ⟨h1, hF.block q h2 (fun h => h)⟩) HK.out
            have hk2 := kClause.K_move (show Keeps wr W ok ok from fun q h1 h2 => ⟨h1, hF.block q h2 (fun h => h)⟩) HK2.out
            have efn : a.eval (.func 39) = .func (.func 39) #[] #[] := rfl
            refine op_call (f := 39) (args := #[.agg #[va, vb], .agg #[ua, ub]]) (fun v w1 => v = .bool true ∧ Below W.heap.size W w1) rfl ?_ ?_ (fun v w1 h => ?_)
            · clear hfor huse hap hmi hK hF
              generalize a.eval = ρ at *
              go_simp
            · exact (caClause_c y _ _ ok2 ok W hk1 hk2).mono (by rintro e w1 ⟨rfl, h2⟩; exact ⟨_, rfl, rfl, h2⟩)
            · obtain ⟨rfl, h2⟩ := h
              exact hK _ _ (post_new h2 (if_pos rfl))
          · intro a W own hfor huse hap hmi hF K hK
            have e45 : a.eval (.tmp 45) = .bool true := huse 10 (by kernel_rfl)
            refine op_val (.bool false) W rfl ?_ (hK _ _ (post_pure ?_))
            · clear hfor huse hap hmi hK hF
              generalize a.eval = ρ at *
              go_simp
            · exact (if_pos rfl)
          · intro a W own hfor huse hap hmi hF K hK
            have e46 : a.eval (.tmp 46) = .bool false := huse 11 (by kernel_rfl)
            refine op_val (.bool false) W rfl ?_ (hK _ _ (post_pure ?_))
            · clear hfor huse hap hmi hK hF
              generalize a.eval = ρ at *
              go_simp
            · exact (if_pos rfl)
          · intro a W own hfor huse hap hmi hF K hK
            have e4 : a.eval (.tmp 4) = .pointer (some ⟨Y, 0, none⟩) := hfor 4 (by kernel_rfl)
            have e47 : a.eval (.tmp 47) = .bool false := huse 12 (by kernel_rfl)
            have c0 := foot_cell hF (fun h => h) Y0.out
            have c1 := foot_cell hF (fun h => h) Y1.out
            refine gop_val (.agg #[.slice (some ⟨b, off, none⟩) p.clauses.length n1, .slice B2 0 n2]) W (want_yes (j := 12) (b := false) rfl (yield_of (t := 47) rfl rfl e47)) ?_ (hK _ _ (post_pure ?_))
            · clear hfor huse hap hmi hK hF
              generalize a.eval = ρ at *
              go_simp
            · exact (if_pos rfl)
          · intro a W own hfor huse hap hmi hF K hK
            have e3 : a.eval (.tmp 3) = .pointer (some ⟨X, 0, none⟩) := hfor 3 (by kernel_rfl)
            have e47 : a.eval (.tmp 47) = .bool false := huse 12 (by kernel_rfl)
            refine gop_val (.pointer (some ⟨X, 0, none⟩)) W (want_yes (j := 12) (b := false) rfl (yield_of (t := 47) rfl rfl e47)) ?_ (hK _ _ (post_pure ?_))
            · clear hfor huse hap hmi hK hF
              generalize a.eval = ρ at *
              go_simp
            · exact (if_pos rfl)
          · intro a W own hfor huse hap hmi hF K hK
            have e49 : a.eval (.tmp 49) = .pointer (some ⟨X, 0, none⟩) := huse 14 (by kernel_rfl)
            have e47 : a.eval (.tmp 47) = .bool false := huse 12 (by kernel_rfl)
            have c0 := foot_cell hF (fun h => h) X0.out
            refine gop_val (.slice (some ⟨b2, off2, none⟩) p.clauses.length m1) W (want_yes (j := 12) (b := false) rfl (yield_of (t := 47) rfl rfl e47)) ?_ (hK _ _ (post_pure ?_))
            · clear hfor huse hap hmi hK hF
              generalize a.eval = ρ at *
              go_simp
            · exact (if_pos rfl)
          · intro a W own hfor huse hap hmi hF K hK
            have e5 : a.eval (.tmp 5) = .int .i64 k := hfor 5 (by kernel_rfl)
            have e47 : a.eval (.tmp 47) = .bool false := huse 12 (by kernel_rfl)
            refine gop_val (.int .i64 k) W (want_yes (j := 12) (b := false) rfl (yield_of (t := 47) rfl rfl e47)) ?_ (hK _ _ (post_pure ?_))
            · clear hfor huse hap hmi hK hF
              generalize a.eval = ρ at *
              go_simp
            · exact (if_pos rfl)
          · intro a W own hfor huse hap hmi hF K hK
            have e50 : a.eval (.tmp 50) = .slice (some ⟨b2, off2, none⟩) p.clauses.length m1 := huse 15 (by kernel_rfl)
            have e51 : a.eval (.tmp 51) = .int .i64 k := huse 16 (by kernel_rfl)
            have e47 : a.eval (.tmp 47) = .bool false := huse 12 (by kernel_rfl)
            refine gop_val (.pointer (some ⟨b2, off2 + k * 2, none⟩)) W (want_yes (j := 12) (b := false) rfl (yield_of (t := 47) rfl rfl e47)) ?_ (hK _ _ (post_pure ?_))
            · clear hfor huse hap hmi hK hF
              generalize a.eval = ρ at *
              go_simp
            · exact (if_pos rfl)
          · intro a W own hfor huse hap hmi hF K hK
            have e52 : a.eval (.tmp 52) = .pointer (some ⟨b2, off2 + k * 2, none⟩) := huse 17 (by kernel_rfl)
            have e47 : a.eval (.tmp 47) = .bool false := huse 12 (by kernel_rfl)
            refine gop_val (.pointer (some ⟨b2, off2 + k * 2, none⟩)) W (want_yes (j := 12) (b := false) rfl (yield_of (t := 47) rfl rfl e47)) ?_ (hK _ _ (post_pure ?_))
            · clear hfor huse hap hmi hK hF
              generalize a.eval = ρ at *
              go_simp
            · exact (if_pos rfl)
          · intro a W own hfor huse hap hmi hF K hK
            have e53 : a.eval (.tmp 53) = .pointer (some ⟨b2, off2 + k * 2, none⟩) := huse 18 (by kernel_rfl)
            have e47 : a.eval (.tmp 47) = .bool false := huse 12 (by kernel_rfl)
            have c0 := foot_cell hF (fun h => h) T0.out
            refine gop_val (ua) W (want_yes (j := 12) (b := false) rfl (yield_of (t := 47) rfl rfl e47)) ?_ (hK _ _ (post_pure ?_))
            · clear hfor huse hap hmi hK hF
              generalize a.eval = ρ at *
              go_simp
            · exact (if_pos rfl)
          · intro a W own hfor huse hap hmi hF K hK
            have e48 : a.eval (.tmp 48) = .agg #[.slice (some ⟨b, off, none⟩) p.clauses.length n1, .slice B2 0 n2] := huse 13 (by kernel_rfl)
            have e54 : a.eval (.tmp 54) = ua := huse 19 (by kernel_rfl)
            have e47 : a.eval (.tmp 47) = .bool false := huse 12 (by kernel_rfl)
            have hky := kProg.K_move (show Keeps wr W ok2 ok2 from fun q h1 h2 => ⟨h1, hF.block q h2 (fun h => h)⟩) KY.out
            have hv9 := foot_V hF (fun _ _ h => h) HU.out (by decide)
            have efn : a.eval (.func 40) = .func (.func 40) #[] #[] := rfl
            refine gop_call (f := 40) (args := #[.agg #[.slice (some ⟨b, off, none⟩) p.clauses.length n1, .slice B2 0 n2], ua]) (fun v w1 => v = .int .i64 0 ∧ Below W.heap.size W w1) (want_yes (j := 12) (b := false) rfl (yield_of (t := 47) rfl rfl e47)) ?_ ?_ (fun v w1 h => ?_)
            · clear hfor huse hap hmi hK hF
              generalize a.eval = ρ at *
              go_simp
            · exact (PrgNode0_i ⟨p.clauses, []⟩ _ ok2 ok _ y.head W hky hv9 rfl OK2.out HH.out).mono (by rintro e w1 ⟨rfl, h2⟩; exact ⟨_, rfl, rfl, h2⟩)
            · obtain ⟨rfl, h2⟩ := h
              exact hK _ _ (post_new h2 (if_pos rfl))
          · intro a W own hfor huse hap hmi hF K hK
            have e55 : a.eval (.tmp 55) = .int .i64 0 := huse 20 (by kernel_rfl)
            have e47 : a.eval (.tmp 47) = .bool false := huse 12 (by kernel_rfl)
            have ec : a.eval (.const (.int .i64 0)) = .int .i64 0 := rfl
            refine gop_val (.bool false) W (want_yes (j := 12) (b := false) rfl (yield_of (t := 47) rfl rfl e47)) ?_ (hK _ _ (post_pure ?_))
            · clear hfor huse hap hmi hK hF
              generalize a.eval = ρ at *
              go_simp
            · exact (if_pos rfl)
          · intro a W own hfor huse hap hmi hF K hK
            have e47 : a.eval (.tmp 47) = .bool false := huse 12 (by kernel_rfl)
            have e56 : a.eval (.tmp 56) = .bool false := huse 21 (by kernel_rfl)
            have ec : a.eval (.const (.bool true)) = .bool true := rfl
            refine op_val (.bool false) W rfl ?_ (hK _ _ (post_pure ?_))
            · clear hfor huse hap hmi hK hF
              generalize a.eval = ρ at *
              go_simp
            · exact (if_pos rfl)
          intro a' W own hf
          have s1 := hf.st.size
          have s2 := hf.st.rest
          have s3 := fun t ht => hf.st.kept t ht
          revert hf
          revert a'
          refine lay_intro (df := []) [true, true, true, true, true, true, true, true, true, true, true, true, true, true, true, true, true, true, true, true, true, true, true, true, true, true, true, true, true, true, true, true, true, true, true, false, false, false, false, false, false, false, false, false, false, false, false, false, false, false, false, false, false, false, false, false, false, false, true, true, true, true, true, true, true, true, true, true, true, true, true, true, true, true, true] (by kernel_rfl) rfl ?_
          intro x57 x56 x55 x54 x53 x52 x51 x50 x49 x48 x47 x46 x45 x44 x43 x42 x41 x40 x39 x38 x37 x36 x35 hf
          have e57 : x57 = .bool false := hf.at 22 (fun val _ _ => val 57 = .bool false) rfl (by kernel_rfl)
          subst e57
          have HF := Sec.mk hf.st.foot
          clear hf
          have B9 := Sec.mk (HF.out.below (belD hbq.out) (fun k h => h.elim))
          clear HF
          go_wp2
          go_roundw
          case rel => exact ⟨k + 1, by omega, by go_num, B9⟩
          case measure => simp [intOf]; omega
        · go_wp2_with (go_at_call 41; refine (PrgOk_i ⟨p.clauses, []⟩ _ _ _ KYr.out).mono ?_; rw [OK2.out]; rintro e w7 ⟨rfl, hb⟩; have B7 := Sec.mk (bel (bel B6.out hbq.out) hb); have Y7 := Sec.mk ((hb.block _ (Array.getElem?_eq_some_iff.1 Yr.out).1).trans Yr.out); have X7 := Sec.mk ((hb.block _ (Array.getElem?_eq_some_iff.1 Xr.out).1).trans Xr.out); have g0 := (box_at Y7.out).2.1 0 _ rfl; have g1 := (box_at Y7.out).2.1 1 _ rfl; have g2 := (box_at X7.out).2.1 0 _ rfl; have g3 := (box_at X7.out).2.1 1 _ rfl; clear hb)
          go_ret
          exact ⟨rfl, B7.out⟩
      
  · have ql : decide ((len : Int) > 1048576) = true := decide_eq_true (by omega)
    go_enter Tryz.func7, Tryz.ntmps7
    go_wp2
    go_ret
    exact ⟨rfl, Below.refl _ _⟩
end
end Go.Proofs.YtekiikmaaiekkaaGreatDoor
