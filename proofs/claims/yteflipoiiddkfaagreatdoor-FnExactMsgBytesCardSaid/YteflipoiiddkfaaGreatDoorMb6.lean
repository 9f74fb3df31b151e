/- Contract: whether an outcome may be one of a question (the program); and what goes with it. -/
import Derived.Test.YteflipoiiddkfaaGreatDoorMb3
import Derived.Test.YteflipoiiddkfaaGreatDoorMb4
import Derived.Test.YteflipoiiddkfaaGreatDoorMb5
import Derived.Deep.RegionHeld3
namespace Go.Proofs.YteflipoiiddkfaaGreatDoor
section
open Go.RowKit
set_option linter.unusedVariables false
set_option maxRecDepth 100000
theorem UPost.is {w w' : World} {B : Nat} {okE : Nat → Prop} {e : Ending} {r : Option (List Bind)} (h : UPost w w' B okE e r) : ∃ v, e = .returned (.tuple #[v, .bool r.isSome]) ∧ Below B w w' := by
  obtain ⟨_, _, _, _, hb, h⟩ := h
  cases r with
  | none => exact ⟨_, h, hb⟩
  | some s1 => obtain ⟨v1, h, _⟩ := h; exact ⟨_, h, hb⟩
theorem unify0 {w : World} {ok ok2 : Nat → Prop} {va vb : Value} {a b : Term} (hA : kCell.V w ok va a) (hB : kCell.V w ok2 vb b) (ha : trmOk a = true) (hb : trmOk b = true) :
    Calls Tryz.prog 69 #[.slice none 0 0, va, vb] w fun e w' => ∃ v, e = .returned (.tuple #[v, .bool (sameU a b)]) ∧ Below w.heap.size w w' := by
  obtain ⟨n, r, h, _⟩ := uni_total BOk.nil ha hb
  refine (unify_i n _ va vb [] a b w.heap.size (fun k => k < w.heap.size) w r BOk.nil (.inl ⟨none, rfl, none, 0, rfl, Nat.le_refl _, by simp [maxLen], by simp, .inl rfl⟩) (Kd.V_move (fun k _ hl => ⟨hl, rfl⟩) hA (by decide)) (Kd.V_move (fun k _ hl => ⟨hl, rfl⟩) hB (by decide)) ha hb (fun k h => h) (Nat.le_refl _) h).mono ?_
  intro e w' hp
  rw [← sameU_eq h]
  exact hp.is
theorem TrmOk_b {v : Value} {t : Term} {ok : Nat → Prop} {w : World} {b : Bool} (hV : kCell.V w ok v t) (h : trmOk t = b) : Calls Tryz.prog 54 #[v] w fun e w' => e = .returned (.bool b) ∧ Below w.heap.size w w' := by
  rw [← h]; exact TrmOk_i v t ok w hV
theorem TrmSame_b {v u : Value} {t s : Term} {ok ok' : Nat → Prop} {w : World} {b : Bool} (hV : kCell.V w ok v t) (hU : kCell.V w ok' u s) (h : decide (t = s) = b) : Calls Tryz.prog 67 #[v, u] w fun e w' => e = .returned (.bool b) ∧ Below w.heap.size w w' := by
  rw [← h]; exact TrmSame_i v u t s ok ok' w hV hU
set_option maxHeartbeats 16000000 in
theorem OutOk_i (v u : Value) (top t : Term) (st : Int) (ok : Nat → Prop) (w : World) (hV : kCell.V w ok v top) (hT : kCell.V w ok u t) :
    Calls Tryz.prog 53 #[v, .agg #[.int .i64 st, u]] w fun e w' => e = .returned (.bool (outOk top st t)) ∧ Below w.heap.size w w' := by
  obtain ⟨Au, cu, rfl, -⟩ := id hT
  have b0 : Below w.heap.size w (w.alloc (.cells #[.int .i64 st, .slice Au t.length cu] 32)) := belA (Below.refl _ _) _
  have HW : Sec (∀ W, Below (w.alloc (.cells #[.int .i64 st, .slice Au t.length cu] 32)).heap.size (w.alloc (.cells #[.int .i64 st, .slice Au t.length cu] 32)) W → W.cell? ⟨w.heap.size, 0, none⟩ = some (.int .i64 st) ∧ W.cell? ⟨w.heap.size, 1, none⟩ = some (.slice Au t.length cu)) := ⟨fun W h => by
    have X := (box_at ((h.block _ (Array.getElem?_eq_some_iff.1 (heap_alloc_new w (.cells #[.int .i64 st, .slice Au t.length cu] 32))).1).trans (heap_alloc_new w _))).2.1
    exact ⟨X 0 _ rfl, X 1 _ rfl⟩⟩
  have HT : Sec (∀ W, Below (w.alloc (.cells #[.int .i64 st, .slice Au t.length cu] 32)).heap.size (w.alloc (.cells #[.int .i64 st, .slice Au t.length cu] 32)) W → kCell.V W ok (.slice Au t.length cu) t) := ⟨fun W h => Kd.V_below hT (bel b0 h) (by decide)⟩
  have HV : Sec (∀ W, Below (w.alloc (.cells #[.int .i64 st, .slice Au t.length cu] 32)).heap.size (w.alloc (.cells #[.int .i64 st, .slice Au t.length cu] 32)) W → kCell.V W ok v top) := ⟨fun W h => Kd.V_below hV (bel b0 h) (by decide)⟩
  have BB : Sec (∀ W, Below (w.alloc (.cells #[.int .i64 st, .slice Au t.length cu] 32)).heap.size (w.alloc (.cells #[.int .i64 st, .slice Au t.length cu] 32)) W → Below w.heap.size w W) := ⟨fun W h => bel b0 h⟩
  have hlen : t.length ≤ 1073741824 := by obtain ⟨_, _, _, _, _, h, _⟩ := hT; exact h
  obtain ⟨Av, cv, rfl, -⟩ := id hV
  clear hT hV b0
  cases hq : question top with
  | false =>
    have HE : Sec (outOk top st t = false) := ⟨by unfold outOk; rw [hq]; rfl⟩
    have HQ := Sec.mk hq
    clear hq
    go_enter Tryz.func53, Tryz.ntmps53
    go_wp2_with (go_at_call 51; refine (isQuestion_i _ top ok _ (HV.out _ (Below.refl _ _))).mono ?_; rw [HQ.out]; rintro e w1 ⟨rfl, hb⟩; have B1 := Sec.mk hb; clear hb)
    go_ret
    exact ⟨rb HE.out.symm, BB.out _ B1.out⟩
  | true =>
    have HQ := Sec.mk hq
    clear hq
    cases hi : inB st 3 5 with
    | true =>
      have HI := Sec.mk hi
      have HE : Sec (outOk top st t = ((t.length : Int) == 0)) := ⟨by
        unfold outOk
        have h2 : st ≠ 2 := by rintro rfl; simp [inB] at hi
        rw [HQ.out, if_neg h2, hi, Bool.true_and, Bool.true_and]
        cases t with
        | nil => rfl
        | cons c r => simp; omega⟩
      clear hi
      go_enter Tryz.func53, Tryz.ntmps53
      go_wp2_with (first | (go_at_call 51; refine (isQuestion_i _ top ok _ (HV.out _ (Below.refl _ _))).mono ?_; rw [HQ.out]; rintro e w1 ⟨rfl, hb⟩; have B1 := Sec.mk hb; obtain ⟨p0, p1⟩ := HW.out _ hb; clear hb) | (go_at_call 52; refine (in_c _ _ _ _).mono ?_; rw [HI.out]; rintro e w' ⟨rfl, rfl⟩))
      go_ret
      exact ⟨rb HE.out.symm, BB.out _ B1.out⟩
    | false =>
      have HI := Sec.mk hi
      clear hi
      by_cases h2 : st = 2
      · have d2 : (st != 2) = false := by rw [bne_eq_false_iff_eq]; exact h2
        have H2 := Sec.mk h2
        clear h2
        have D2 := Sec.mk d2
        clear d2
        cases ht : trmOk t with
        | false =>
          have HE : Sec (outOk top st t = false) := ⟨by unfold outOk; rw [HQ.out, if_pos H2.out, ht]; rfl⟩
          have HTT := Sec.mk ht
          clear ht
          go_enter Tryz.func53, Tryz.ntmps53
          go_wp2_with (first | (go_at_call 51; refine (isQuestion_i _ top ok _ (HV.out _ (Below.refl _ _))).mono ?_; rw [HQ.out]; rintro e wr ⟨rfl, hb⟩; have B1 := Sec.mk hb; obtain ⟨p0, p1⟩ := HW.out _ hb; have P0 := Sec.mk p0; have P1 := Sec.mk p1; have HTW := Sec.mk (HT.out _ hb); have HVW := Sec.mk (HV.out _ hb); clear hb) | (go_at_call 52; refine (in_c _ _ _ _).mono ?_; rw [HI.out]; rintro e w' ⟨rfl, rfl⟩))
          clear p0 p1
          refine wp_region_lists [[20], [21], [22], [23], [24], [25], [26], [27], [28], [29], [30], [31], [32], [33], [34], [35], [36], [37], [19]]
            [fun val _ _ => val 20 = .pointer (some ⟨w.heap.size, 0, none⟩),
              fun val _ _ => val 21 = .int .i64 st,
              fun val _ _ => val 22 = .bool false,
              fun val _ _ => val 23 = .bool false,
              fun val _ _ => val 24 = .pointer (some ⟨w.heap.size, 1, none⟩),
              fun val _ _ => val 25 = .slice Au t.length cu,
              fun val _ _ => val 26 = .bool false,
              fun val _ _ => val 27 = .bool true,
              fun val _ _ => val 28 = .bool true,
              fun val _ _ => val 29 = .bool true,
              fun val _ _ => val 30 = undef,
              fun val _ _ => val 31 = undef,
              fun val _ _ => val 32 = undef,
              fun val _ _ => val 33 = undef,
              fun val _ _ => val 34 = undef,
              fun val _ _ => val 35 = undef,
              fun val _ _ => val 36 = undef,
              fun val _ _ => val 37 = .bool true,
              fun val _ _ => val 19 = .bool true]
            [[], [], [], [], [], [], [], [], [], [], [], [], [], [], [], [], [], [], []] 0 (fun _ => False) (fun _ _ => False) (by kernel_rfl) ⟨by kernel_rfl, by kernel_rfl, by kernel_rfl, by kernel_rfl, by kernel_rfl⟩
            (.cons (stab_val 20 (fun v => v = .pointer (some ⟨w.heap.size, 0, none⟩))) (.cons (stab_val 21 (fun v => v = .int .i64 st)) (.cons (stab_val 22 (fun v => v = .bool false)) (.cons (stab_val 23 (fun v => v = .bool false)) (.cons (stab_val 24 (fun v => v = .pointer (some ⟨w.heap.size, 1, none⟩))) (.cons (stab_val 25 (fun v => v = .slice Au t.length cu)) (.cons (stab_val 26 (fun v => v = .bool false)) (.cons (stab_val 27 (fun v => v = .bool true)) (.cons (stab_val 28 (fun v => v = .bool true)) (.cons (stab_val 29 (fun v => v = .bool true)) (.cons (stab_val 30 (fun v => v = undef)) (.cons (stab_val 31 (fun v => v = undef)) (.cons (stab_val 32 (fun v => v = undef)) (.cons (stab_val 33 (fun v => v = undef)) (.cons (stab_val 34 (fun v => v = undef)) (.cons (stab_val 35 (fun v => v = undef)) (.cons (stab_val 36 (fun v => v = undef)) (.cons (stab_val 37 (fun v => v = .bool true)) (.cons (stab_val 19 (fun v => v = .bool true)) .nil)))))))))))))))))))
            (fun i j k h1 h2 => h1.elim) (fun i k h => h.elim) (fun i h1 h2 => by simp at h1 h2; omega) (.cons ?_ (.cons ?_ (.cons ?_ (.cons ?_ (.cons ?_ (.cons ?_ (.cons ?_ (.cons ?_ (.cons ?_ (.cons ?_ (.cons ?_ (.cons ?_ (.cons ?_ (.cons ?_ (.cons ?_ (.cons ?_ (.cons ?_ (.cons ?_ (.cons ?_ .nil))))))))))))))))))) ?_
          · intro a W own hfor huse hap hmi hF K hK
            have e3 : a.eval (.tmp 3) = .pointer (some ⟨w.heap.size, 0, none⟩) := hfor 3 (by kernel_rfl)
            refine op_val (.pointer (some ⟨w.heap.size, 0, none⟩)) W rfl ?_ (hK _ _ (post_pure ?_))
            · clear hfor huse hap hmi hK hF
              generalize a.eval = ρ at *
              go_simp
            · exact (if_pos rfl)
          · intro a W own hfor huse hap hmi hF K hK
            have e20 : a.eval (.tmp 20) = .pointer (some ⟨w.heap.size, 0, none⟩) := huse 0 (by kernel_rfl)
            have c0 := foot_cell hF (fun h => h) P0.out
            refine op_val (.int .i64 st) W rfl ?_ (hK _ _ (post_pure ?_))
            · clear hfor huse hap hmi hK hF
              generalize a.eval = ρ at *
              go_simp
            · exact (if_pos rfl)
          · intro a W own hfor huse hap hmi hF K hK
            have e21 : a.eval (.tmp 21) = .int .i64 st := huse 1 (by kernel_rfl)
            have ec23 : a.eval (.const (.int .i64 2)) = .int .i64 2 := rfl
            have d2 := D2.out
            refine op_val (.bool false) W rfl ?_ (hK _ _ (post_pure ?_))
            · clear hfor huse hap hmi hK hF
              generalize a.eval = ρ at *
              go_simp
            · exact (if_pos rfl)
          · intro a W own hfor huse hap hmi hF K hK
            have e22 : a.eval (.tmp 22) = .bool false := huse 2 (by kernel_rfl)
            refine op_val (.bool false) W rfl ?_ (hK _ _ (post_pure ?_))
            · clear hfor huse hap hmi hK hF
              generalize a.eval = ρ at *
              go_simp
            · exact (if_pos rfl)
          · intro a W own hfor huse hap hmi hF K hK
            have e3 : a.eval (.tmp 3) = .pointer (some ⟨w.heap.size, 0, none⟩) := hfor 3 (by kernel_rfl)
            have e23 : a.eval (.tmp 23) = .bool false := huse 3 (by kernel_rfl)
            refine gop_val (.pointer (some ⟨w.heap.size, 1, none⟩)) W (want_yes (j := 3) (b := false) rfl (yield_of (t := 23) rfl rfl e23)) ?_ (hK _ _ (post_pure ?_))
            · clear hfor huse hap hmi hK hF
              generalize a.eval = ρ at *
              go_simp
            · exact (if_pos rfl)
          · intro a W own hfor huse hap hmi hF K hK
            have e24 : a.eval (.tmp 24) = .pointer (some ⟨w.heap.size, 1, none⟩) := huse 4 (by kernel_rfl)
            have e23 : a.eval (.tmp 23) = .bool false := huse 3 (by kernel_rfl)
            have c1 := foot_cell hF (fun h => h) P1.out
            refine gop_val (.slice Au t.length cu) W (want_yes (j := 3) (b := false) rfl (yield_of (t := 23) rfl rfl e23)) ?_ (hK _ _ (post_pure ?_))
            · clear hfor huse hap hmi hK hF
              generalize a.eval = ρ at *
              go_simp
            · exact (if_pos rfl)
          · intro a W own hfor huse hap hmi hF K hK
            have e25 : a.eval (.tmp 25) = .slice Au t.length cu := huse 5 (by kernel_rfl)
            have e23 : a.eval (.tmp 23) = .bool false := huse 3 (by kernel_rfl)
            have hvt := foot_V hF (fun _ _ h => h) HTW.out (by decide)
            have efn : a.eval (.func 54) = .func (.func 54) #[] #[] := rfl
            refine gop_call (f := 54) (args := #[.slice Au t.length cu]) (fun v w1 => v = .bool false ∧ Below W.heap.size W w1) (want_yes (j := 3) (b := false) rfl (yield_of (t := 23) rfl rfl e23)) ?_ ?_ (fun v w1 h => ?_)
            · clear hfor huse hap hmi hK hF
              generalize a.eval = ρ at *
              go_simp
            · exact (TrmOk_b hvt HTT.out).mono (by rintro e w1 ⟨rfl, h2⟩; exact ⟨_, rfl, rfl, h2⟩)
            · obtain ⟨rfl, h2⟩ := h
              exact hK _ _ (post_new h2 (if_pos rfl))
          · intro a W own hfor huse hap hmi hF K hK
            have e26 : a.eval (.tmp 26) = .bool false := huse 6 (by kernel_rfl)
            have e23 : a.eval (.tmp 23) = .bool false := huse 3 (by kernel_rfl)
            refine gop_val (.bool true) W (want_yes (j := 3) (b := false) rfl (yield_of (t := 23) rfl rfl e23)) ?_ (hK _ _ (post_pure ?_))
            · clear hfor huse hap hmi hK hF
              generalize a.eval = ρ at *
              go_simp
            · exact (if_pos rfl)
          · intro a W own hfor huse hap hmi hF K hK
            have e23 : a.eval (.tmp 23) = .bool false := huse 3 (by kernel_rfl)
            have e27 : a.eval (.tmp 27) = .bool true := huse 7 (by kernel_rfl)
            have ec33 : a.eval (.const (.bool true)) = .bool true := rfl
            refine op_val (.bool true) W rfl ?_ (hK _ _ (post_pure ?_))
            · clear hfor huse hap hmi hK hF
              generalize a.eval = ρ at *
              go_simp
            · exact (if_pos rfl)
          · intro a W own hfor huse hap hmi hF K hK
            have e28 : a.eval (.tmp 28) = .bool true := huse 8 (by kernel_rfl)
            refine op_val (.bool true) W rfl ?_ (hK _ _ (post_pure ?_))
            · clear hfor huse hap hmi hK hF
              generalize a.eval = ρ at *
              go_simp
            · exact (if_pos rfl)
          · intro a W own hfor huse hap hmi hF K hK
            have e29 : a.eval (.tmp 29) = .bool true := huse 9 (by kernel_rfl)
            refine gop_not (want_no (j := 9) (b := false) rfl (yield_of (t := 29) rfl rfl e29)) (hK _ _ (post_pure (if_pos rfl)))
          · intro a W own hfor huse hap hmi hF K hK
            have e29 : a.eval (.tmp 29) = .bool true := huse 9 (by kernel_rfl)
            refine gop_not (want_no (j := 9) (b := false) rfl (yield_of (t := 29) rfl rfl e29)) (hK _ _ (post_pure (if_pos rfl)))
          · intro a W own hfor huse hap hmi hF K hK
            have e29 : a.eval (.tmp 29) = .bool true := huse 9 (by kernel_rfl)
            refine gop_not (want_no (j := 9) (b := false) rfl (yield_of (t := 29) rfl rfl e29)) (hK _ _ (post_pure (if_pos rfl)))
          · intro a W own hfor huse hap hmi hF K hK
            have e29 : a.eval (.tmp 29) = .bool true := huse 9 (by kernel_rfl)
            refine gop_not (want_no (j := 9) (b := false) rfl (yield_of (t := 29) rfl rfl e29)) (hK _ _ (post_pure (if_pos rfl)))
          · intro a W own hfor huse hap hmi hF K hK
            have e29 : a.eval (.tmp 29) = .bool true := huse 9 (by kernel_rfl)
            refine gop_not (want_no (j := 9) (b := false) rfl (yield_of (t := 29) rfl rfl e29)) (hK _ _ (post_pure (if_pos rfl)))
          · intro a W own hfor huse hap hmi hF K hK
            have e29 : a.eval (.tmp 29) = .bool true := huse 9 (by kernel_rfl)
            refine gop_not (want_no (j := 9) (b := false) rfl (yield_of (t := 29) rfl rfl e29)) (hK _ _ (post_pure (if_pos rfl)))
          · intro a W own hfor huse hap hmi hF K hK
            have e29 : a.eval (.tmp 29) = .bool true := huse 9 (by kernel_rfl)
            refine gop_not (want_no (j := 9) (b := false) rfl (yield_of (t := 29) rfl rfl e29)) (hK _ _ (post_pure (if_pos rfl)))
          · intro a W own hfor huse hap hmi hF K hK
            have e29 : a.eval (.tmp 29) = .bool true := huse 9 (by kernel_rfl)
            have e36 : a.eval (.tmp 36) = undef := huse 16 (by kernel_rfl)
            have ec33 : a.eval (.const (.bool true)) = .bool true := rfl
            refine op_val (.bool true) W rfl ?_ (hK _ _ (post_pure ?_))
            · clear hfor huse hap hmi hK hF
              generalize a.eval = ρ at *
              go_simp
            · exact (if_pos rfl)
          · intro a W own hfor huse hap hmi hF K hK
            have e37 : a.eval (.tmp 37) = .bool true := huse 17 (by kernel_rfl)
            refine op_val (.bool true) W rfl ?_ (hK _ _ (post_pure ?_))
            · clear hfor huse hap hmi hK hF
              generalize a.eval = ρ at *
              go_simp
            · exact (if_pos rfl)
          intro a' W own hf
          have s1 := hf.st.size
          have s2 := hf.st.rest
          have s3 := fun t ht => hf.st.kept t ht
          revert hf
          revert a'
          refine lay_intro (df := []) [true, true, true, true, true, true, true, true, true, true, true, true, true, true, true, true, true, true, true, false, false, false, false, false, false, false, false, false, false, false, false, false, false, false, false, false, false, false, true, true, true, true, true, true, true, true, true, true, true, true] (by kernel_rfl) rfl ?_
          intro x37 x36 x35 x34 x33 x32 x31 x30 x29 x28 x27 x26 x25 x24 x23 x22 x21 x20 x19 hf
          have e19 : x19 = .bool true := hf.at 18 (fun val _ _ => val 19 = .bool true) rfl (by kernel_rfl)
          subst e19
          have HF := Sec.mk hf.st.foot
          have BF := Sec.mk (HF.out.below (belD B1.out) (fun k h => h.elim))
          clear hf HF
          go_wp2
          go_ret
          exact ⟨rb HE.out.symm, BB.out _ BF.out⟩
        | true =>
          have HTT := Sec.mk ht
          cases hc : decide (t = canon t) with
          | false =>
            have hc' : decide (canon t = t) = false := decide_eq_false (fun e => of_decide_eq_false hc e.symm)
            have HE : Sec (outOk top st t = false) := ⟨by unfold outOk; rw [HQ.out, if_pos H2.out, ht, hc']; rfl⟩
            have HCQ := Sec.mk hc
            clear ht hc hc'
            go_enter Tryz.func53, Tryz.ntmps53
            go_wp2_with (first | (go_at_call 51; refine (isQuestion_i _ top ok _ (HV.out _ (Below.refl _ _))).mono ?_; rw [HQ.out]; rintro e wr ⟨rfl, hb⟩; have B1 := Sec.mk hb; obtain ⟨p0, p1⟩ := HW.out _ hb; have P0 := Sec.mk p0; have P1 := Sec.mk p1; have HTW := Sec.mk (HT.out _ hb); have HVW := Sec.mk (HV.out _ hb); clear hb) | (go_at_call 52; refine (in_c _ _ _ _).mono ?_; rw [HI.out]; rintro e w' ⟨rfl, rfl⟩))
            clear p0 p1
            refine wp_region_lists [[20], [21], [22], [23], [24], [25], [26], [27], [28], [29], [30], [31], [32], [33], [34], [35], [36], [37], [19]]
              [fun val _ _ => val 20 = .pointer (some ⟨w.heap.size, 0, none⟩),
                fun val _ _ => val 21 = .int .i64 st,
                fun val _ _ => val 22 = .bool false,
                fun val _ _ => val 23 = .bool false,
                fun val _ _ => val 24 = .pointer (some ⟨w.heap.size, 1, none⟩),
                fun val _ _ => val 25 = .slice Au t.length cu,
                fun val _ _ => val 26 = .bool true,
                fun val _ _ => val 27 = .bool false,
                fun val _ _ => val 28 = .bool false,
                fun val _ _ => val 29 = .bool false,
                fun val _ _ => val 30 = .pointer (some ⟨w.heap.size, 1, none⟩),
                fun val _ _ => val 31 = .slice Au t.length cu,
                fun val _ _ => val 32 = .pointer (some ⟨w.heap.size, 1, none⟩),
                fun val _ _ => val 33 = .slice Au t.length cu,
                onR kCell 34 (canon t),
                fun val _ _ => val 35 = .bool false,
                fun val _ _ => val 36 = .bool true,
                fun val _ _ => val 37 = .bool true,
                fun val _ _ => val 19 = .bool true]
              [[], [], [], [], [], [], [], [], [], [], [], [], [], [], [], [], [], [], []] 0 (fun _ => False) (fun _ _ => False) (by kernel_rfl) ⟨by kernel_rfl, by kernel_rfl, by kernel_rfl, by kernel_rfl, by kernel_rfl⟩
              (.cons (stab_val 20 (fun v => v = .pointer (some ⟨w.heap.size, 0, none⟩))) (.cons (stab_val 21 (fun v => v = .int .i64 st)) (.cons (stab_val 22 (fun v => v = .bool false)) (.cons (stab_val 23 (fun v => v = .bool false)) (.cons (stab_val 24 (fun v => v = .pointer (some ⟨w.heap.size, 1, none⟩))) (.cons (stab_val 25 (fun v => v = .slice Au t.length cu)) (.cons (stab_val 26 (fun v => v = .bool true)) (.cons (stab_val 27 (fun v => v = .bool false)) (.cons (stab_val 28 (fun v => v = .bool false)) (.cons (stab_val 29 (fun v => v = .bool false)) (.cons (stab_val 30 (fun v => v = .pointer (some ⟨w.heap.size, 1, none⟩))) (.cons (stab_val 31 (fun v => v = .slice Au t.length cu)) (.cons (stab_val 32 (fun v => v = .pointer (some ⟨w.heap.size, 1, none⟩))) (.cons (stab_val 33 (fun v => v = .slice Au t.length cu)) (.cons (stab_R kCell 34 (canon t)) (.cons (stab_val 35 (fun v => v = .bool false)) (.cons (stab_val 36 (fun v => v = .bool true)) (.cons (stab_val 37 (fun v => v = .bool true)) (.cons (stab_val 19 (fun v => v = .bool true)) .nil)))))))))))))))))))
              (fun i j k h1 h2 => h1.elim) (fun i k h => h.elim) (fun i h1 h2 => by simp at h1 h2; omega) (.cons ?_ (.cons ?_ (.cons ?_ (.cons ?_ (.cons ?_ (.cons ?_ (.cons ?_ (.cons ?_ (.cons ?_ (.cons ?_ (.cons ?_ (.cons ?_ (.cons ?_ (.cons ?_ (.cons ?_ (.cons ?_ (.cons ?_ (.cons ?_ (.cons ?_ .nil))))))))))))))))))) ?_
            · intro a W own hfor huse hap hmi hF K hK
              have e3 : a.eval (.tmp 3) = .pointer (some ⟨w.heap.size, 0, none⟩) := hfor 3 (by kernel_rfl)
              refine op_val (.pointer (some ⟨w.heap.size, 0, none⟩)) W rfl ?_ (hK _ _ (post_pure ?_))
              · clear hfor huse hap hmi hK hF
                generalize a.eval = ρ at *
                go_simp
              · exact (if_pos rfl)
            · intro a W own hfor huse hap hmi hF K hK
              have e20 : a.eval (.tmp 20) = .pointer (some ⟨w.heap.size, 0, none⟩) := huse 0 (by kernel_rfl)
              have c0 := foot_cell hF (fun h => h) P0.out
              refine op_val (.int .i64 st) W rfl ?_ (hK _ _ (post_pure ?_))
              · clear hfor huse hap hmi hK hF
                generalize a.eval = ρ at *
                go_simp
              · exact (if_pos rfl)
            · intro a W own hfor huse hap hmi hF K hK
              have e21 : a.eval (.tmp 21) = .int .i64 st := huse 1 (by kernel_rfl)
              have ec23 : a.eval (.const (.int .i64 2)) = .int .i64 2 := rfl
              have d2 := D2.out
              refine op_val (.bool false) W rfl ?_ (hK _ _ (post_pure ?_))
              · clear hfor huse hap hmi hK hF
                generalize a.eval = ρ at *
                go_simp
              · exact (if_pos rfl)
            · intro a W own hfor huse hap hmi hF K hK
              have e22 : a.eval (.tmp 22) = .bool false := huse 2 (by kernel_rfl)
              refine op_val (.bool false) W rfl ?_ (hK _ _ (post_pure ?_))
              · clear hfor huse hap hmi hK hF
                generalize a.eval = ρ at *
                go_simp
              · exact (if_pos rfl)
            · intro a W own hfor huse hap hmi hF K hK
              have e3 : a.eval (.tmp 3) = .pointer (some ⟨w.heap.size, 0, none⟩) := hfor 3 (by kernel_rfl)
              have e23 : a.eval (.tmp 23) = .bool false := huse 3 (by kernel_rfl)
              refine gop_val (.pointer (some ⟨w.heap.size, 1, none⟩)) W (want_yes (j := 3) (b := false) rfl (yield_of (t := 23) rfl rfl e23)) ?_ (hK _ _ (post_pure ?_))
              · clear hfor huse hap hmi hK hF
                generalize a.eval = ρ at *
                go_simp
              · exact (if_pos rfl)
            · intro a W own hfor huse hap hmi hF K hK
              have e24 : a.eval (.tmp 24) = .pointer (some ⟨w.heap.size, 1, none⟩) := huse 4 (by kernel_rfl)
              have e23 : a.eval (.tmp 23) = .bool false := huse 3 (by kernel_rfl)
              have c1 := foot_cell hF (fun h => h) P1.out
              refine gop_val (.slice Au t.length cu) W (want_yes (j := 3) (b := false) rfl (yield_of (t := 23) rfl rfl e23)) ?_ (hK _ _ (post_pure ?_))
              · clear hfor huse hap hmi hK hF
                generalize a.eval = ρ at *
                go_simp
              · exact (if_pos rfl)
            · intro a W own hfor huse hap hmi hF K hK
              have e25 : a.eval (.tmp 25) = .slice Au t.length cu := huse 5 (by kernel_rfl)
              have e23 : a.eval (.tmp 23) = .bool false := huse 3 (by kernel_rfl)
              have hvt := foot_V hF (fun _ _ h => h) HTW.out (by decide)
              have efn : a.eval (.func 54) = .func (.func 54) #[] #[] := rfl
              refine gop_call (f := 54) (args := #[.slice Au t.length cu]) (fun v w1 => v = .bool true ∧ Below W.heap.size W w1) (want_yes (j := 3) (b := false) rfl (yield_of (t := 23) rfl rfl e23)) ?_ ?_ (fun v w1 h => ?_)
              · clear hfor huse hap hmi hK hF
                generalize a.eval = ρ at *
                go_simp
              · exact (TrmOk_b hvt HTT.out).mono (by rintro e w1 ⟨rfl, h2⟩; exact ⟨_, rfl, rfl, h2⟩)
              · obtain ⟨rfl, h2⟩ := h
                exact hK _ _ (post_new h2 (if_pos rfl))
            · intro a W own hfor huse hap hmi hF K hK
              have e26 : a.eval (.tmp 26) = .bool true := huse 6 (by kernel_rfl)
              have e23 : a.eval (.tmp 23) = .bool false := huse 3 (by kernel_rfl)
              refine gop_val (.bool false) W (want_yes (j := 3) (b := false) rfl (yield_of (t := 23) rfl rfl e23)) ?_ (hK _ _ (post_pure ?_))
              · clear hfor huse hap hmi hK hF
                generalize a.eval = ρ at *
                go_simp
              · exact (if_pos rfl)
            · intro a W own hfor huse hap hmi hF K hK
              have e23 : a.eval (.tmp 23) = .bool false := huse 3 (by kernel_rfl)
              have e27 : a.eval (.tmp 27) = .bool false := huse 7 (by kernel_rfl)
              have ec33 : a.eval (.const (.bool true)) = .bool true := rfl
              refine op_val (.bool false) W rfl ?_ (hK _ _ (post_pure ?_))
              · clear hfor huse hap hmi hK hF
                generalize a.eval = ρ at *
                go_simp
              · exact (if_pos rfl)
            · intro a W own hfor huse hap hmi hF K hK
              have e28 : a.eval (.tmp 28) = .bool false := huse 8 (by kernel_rfl)
              refine op_val (.bool false) W rfl ?_ (hK _ _ (post_pure ?_))
              · clear hfor huse hap hmi hK hF
                generalize a.eval = ρ at *
                go_simp
              · exact (if_pos rfl)
            · intro a W own hfor huse hap hmi hF K hK
              have e3 : a.eval (.tmp 3) = .pointer (some ⟨w.heap.size, 0, none⟩) := hfor 3 (by kernel_rfl)
              have e29 : a.eval (.tmp 29) = .bool false := huse 9 (by kernel_rfl)
              refine gop_val (.pointer (some ⟨w.heap.size, 1, none⟩)) W (want_yes (j := 9) (b := false) rfl (yield_of (t := 29) rfl rfl e29)) ?_ (hK _ _ (post_pure ?_))
              · clear hfor huse hap hmi hK hF
                generalize a.eval = ρ at *
                go_simp
              · exact (if_pos rfl)
            · intro a W own hfor huse hap hmi hF K hK
              have e30 : a.eval (.tmp 30) = .pointer (some ⟨w.heap.size, 1, none⟩) := huse 10 (by kernel_rfl)
              have e29 : a.eval (.tmp 29) = .bool false := huse 9 (by kernel_rfl)
              have c1 := foot_cell hF (fun h => h) P1.out
              refine gop_val (.slice Au t.length cu) W (want_yes (j := 9) (b := false) rfl (yield_of (t := 29) rfl rfl e29)) ?_ (hK _ _ (post_pure ?_))
              · clear hfor huse hap hmi hK hF
                generalize a.eval = ρ at *
                go_simp
              · exact (if_pos rfl)
            · intro a W own hfor huse hap hmi hF K hK
              have e3 : a.eval (.tmp 3) = .pointer (some ⟨w.heap.size, 0, none⟩) := hfor 3 (by kernel_rfl)
              have e29 : a.eval (.tmp 29) = .bool false := huse 9 (by kernel_rfl)
              refine gop_val (.pointer (some ⟨w.heap.size, 1, none⟩)) W (want_yes (j := 9) (b := false) rfl (yield_of (t := 29) rfl rfl e29)) ?_ (hK _ _ (post_pure ?_))
              · clear hfor huse hap hmi hK hF
                generalize a.eval = ρ at *
                go_simp
              · exact (if_pos rfl)
            · intro a W own hfor huse hap hmi hF K hK
              have e32 : a.eval (.tmp 32) = .pointer (some ⟨w.heap.size, 1, none⟩) := huse 12 (by kernel_rfl)
              have e29 : a.eval (.tmp 29) = .bool false := huse 9 (by kernel_rfl)
              have c1 := foot_cell hF (fun h => h) P1.out
              refine gop_val (.slice Au t.length cu) W (want_yes (j := 9) (b := false) rfl (yield_of (t := 29) rfl rfl e29)) ?_ (hK _ _ (post_pure ?_))
              · clear hfor huse hap hmi hK hF
                generalize a.eval = ρ at *
                go_simp
              · exact (if_pos rfl)
            · intro a W own hfor huse hap hmi hF K hK
              have e29 : a.eval (.tmp 29) = .bool false := huse 9 (by kernel_rfl)
              have e33 : a.eval (.tmp 33) = .slice Au t.length cu := huse 13 (by kernel_rfl)
              have hvt := foot_V hF (fun _ _ h => h) HTW.out (by decide)
              have efn : a.eval (.func 68) = .func (.func 68) #[] #[] := rfl
              refine gop_call (f := 68) (args := #[.slice Au t.length cu]) (fun v w1 => kCell.R w1 (fun k => W.heap.size ≤ k) v (canon t) ∧ Below W.heap.size W w1) (want_yes (j := 9) (b := false) rfl (yield_of (t := 29) rfl rfl e29)) ?_ ?_ (fun v w1 h => ?_)
              · clear hfor huse hap hmi hK hF
                generalize a.eval = ρ at *
                go_simp
              · exact (TrmCanon_i _ t ok W hvt).mono (by rintro e w1 ⟨u, rfl, h1, h2⟩; exact ⟨_, rfl, h1, h2⟩)
              · obtain ⟨h1, h2⟩ := h
                exact hK _ _ (post_new h2 (by show kCell.R _ _ (if _ then _ else _) (canon t); rw [if_pos rfl]; exact Kd.R_mono h1 (fun k h3 h4 => ⟨h3, h4⟩)))
            · intro a W own hfor huse hap hmi hF K hK
              have e31 : a.eval (.tmp 31) = .slice Au t.length cu := huse 11 (by kernel_rfl)
              have e29 : a.eval (.tmp 29) = .bool false := huse 9 (by kernel_rfl)
              have hvt := foot_V hF (fun _ _ h => h) HTW.out (by decide)
              have r14 : kCell.R W (own 14) (a.eval (.tmp 34)) (canon t) := huse 14 (by kernel_rfl)
              obtain ⟨A14, n14, e34, -, -⟩ := Kd.R_form r14
              rw [e34] at r14
              have efn : a.eval (.func 67) = .func (.func 67) #[] #[] := rfl
              refine gop_call (f := 67) (args := #[.slice Au t.length cu, .slice A14 (canon t).length n14]) (fun v w1 => v = .bool false ∧ Below W.heap.size W w1) (want_yes (j := 9) (b := false) rfl (yield_of (t := 29) rfl rfl e29)) ?_ ?_ (fun v w1 h => ?_)
              · clear hfor huse hap hmi hK hF
                generalize a.eval = ρ at *
                go_simp
              · exact (TrmSame_b hvt (Kd.R_V r14) HCQ.out).mono (by rintro e w1 ⟨rfl, h2⟩; exact ⟨_, rfl, rfl, h2⟩)
              · obtain ⟨rfl, h2⟩ := h
                exact hK _ _ (post_new h2 (if_pos rfl))
            · intro a W own hfor huse hap hmi hF K hK
              have e35 : a.eval (.tmp 35) = .bool false := huse 15 (by kernel_rfl)
              have e29 : a.eval (.tmp 29) = .bool false := huse 9 (by kernel_rfl)
              refine gop_val (.bool true) W (want_yes (j := 9) (b := false) rfl (yield_of (t := 29) rfl rfl e29)) ?_ (hK _ _ (post_pure ?_))
              · clear hfor huse hap hmi hK hF
                generalize a.eval = ρ at *
                go_simp
              · exact (if_pos rfl)
            · intro a W own hfor huse hap hmi hF K hK
              have e29 : a.eval (.tmp 29) = .bool false := huse 9 (by kernel_rfl)
              have e36 : a.eval (.tmp 36) = .bool true := huse 16 (by kernel_rfl)
              have ec33 : a.eval (.const (.bool true)) = .bool true := rfl
              refine op_val (.bool true) W rfl ?_ (hK _ _ (post_pure ?_))
              · clear hfor huse hap hmi hK hF
                generalize a.eval = ρ at *
                go_simp
              · exact (if_pos rfl)
            · intro a W own hfor huse hap hmi hF K hK
              have e37 : a.eval (.tmp 37) = .bool true := huse 17 (by kernel_rfl)
              refine op_val (.bool true) W rfl ?_ (hK _ _ (post_pure ?_))
              · clear hfor huse hap hmi hK hF
                generalize a.eval = ρ at *
                go_simp
              · exact (if_pos rfl)
            intro a' W own hf
            have s1 := hf.st.size
            have s2 := hf.st.rest
            have s3 := fun t ht => hf.st.kept t ht
            revert hf
            revert a'
            refine lay_intro (df := []) [true, true, true, true, true, true, true, true, true, true, true, true, true, true, true, true, true, true, true, false, false, false, false, false, false, false, false, false, false, false, false, false, false, false, false, false, false, false, true, true, true, true, true, true, true, true, true, true, true, true] (by kernel_rfl) rfl ?_
            intro x37 x36 x35 x34 x33 x32 x31 x30 x29 x28 x27 x26 x25 x24 x23 x22 x21 x20 x19 hf
            have e19 : x19 = .bool true := hf.at 18 (fun val _ _ => val 19 = .bool true) rfl (by kernel_rfl)
            subst e19
            have HF := Sec.mk hf.st.foot
            have BF := Sec.mk (HF.out.below (belD B1.out) (fun k h => h.elim))
            clear hf HF
            go_wp2
            go_ret
            exact ⟨rb HE.out.symm, BB.out _ BF.out⟩
          | true =>
            have hc' : decide (canon t = t) = true := decide_eq_true (of_decide_eq_true hc).symm
            have HSH := Sec.mk (shift_ok HQ.out (trmOk_len ht).2)
            have HE : Sec (outOk top st t = sameU t (shifted top t.length)) := ⟨by unfold outOk; rw [HQ.out, if_pos H2.out, ht, hc', sameU_swap HSH.out ht]; rfl⟩
            have HCQ := Sec.mk hc
            clear ht hc hc'
            go_enter Tryz.func53, Tryz.ntmps53
            go_wp2_with (first | (go_at_call 51; refine (isQuestion_i _ top ok _ (HV.out _ (Below.refl _ _))).mono ?_; rw [HQ.out]; rintro e wr ⟨rfl, hb⟩; have B1 := Sec.mk hb; obtain ⟨p0, p1⟩ := HW.out _ hb; have P0 := Sec.mk p0; have P1 := Sec.mk p1; have HTW := Sec.mk (HT.out _ hb); have HVW := Sec.mk (HV.out _ hb); clear hb) | (go_at_call 52; refine (in_c _ _ _ _).mono ?_; rw [HI.out]; rintro e w' ⟨rfl, rfl⟩))
            clear p0 p1
            refine wp_region_lists [[20], [21], [22], [23], [24], [25], [26], [27], [28], [29], [30], [31], [32], [33], [34], [35], [36], [37], [19]]
              [fun val _ _ => val 20 = .pointer (some ⟨w.heap.size, 0, none⟩),
                fun val _ _ => val 21 = .int .i64 st,
                fun val _ _ => val 22 = .bool false,
                fun val _ _ => val 23 = .bool false,
                fun val _ _ => val 24 = .pointer (some ⟨w.heap.size, 1, none⟩),
                fun val _ _ => val 25 = .slice Au t.length cu,
                fun val _ _ => val 26 = .bool true,
                fun val _ _ => val 27 = .bool false,
                fun val _ _ => val 28 = .bool false,
                fun val _ _ => val 29 = .bool false,
                fun val _ _ => val 30 = .pointer (some ⟨w.heap.size, 1, none⟩),
                fun val _ _ => val 31 = .slice Au t.length cu,
                fun val _ _ => val 32 = .pointer (some ⟨w.heap.size, 1, none⟩),
                fun val _ _ => val 33 = .slice Au t.length cu,
                onR kCell 34 (canon t),
                fun val _ _ => val 35 = .bool true,
                fun val _ _ => val 36 = .bool false,
                fun val _ _ => val 37 = .bool false,
                fun val _ _ => val 19 = .bool false]
              [[], [], [], [], [], [], [], [], [], [], [], [], [], [], [], [], [], [], []] 0 (fun _ => False) (fun _ _ => False) (by kernel_rfl) ⟨by kernel_rfl, by kernel_rfl, by kernel_rfl, by kernel_rfl, by kernel_rfl⟩
              (.cons (stab_val 20 (fun v => v = .pointer (some ⟨w.heap.size, 0, none⟩))) (.cons (stab_val 21 (fun v => v = .int .i64 st)) (.cons (stab_val 22 (fun v => v = .bool false)) (.cons (stab_val 23 (fun v => v = .bool false)) (.cons (stab_val 24 (fun v => v = .pointer (some ⟨w.heap.size, 1, none⟩))) (.cons (stab_val 25 (fun v => v = .slice Au t.length cu)) (.cons (stab_val 26 (fun v => v = .bool true)) (.cons (stab_val 27 (fun v => v = .bool false)) (.cons (stab_val 28 (fun v => v = .bool false)) (.cons (stab_val 29 (fun v => v = .bool false)) (.cons (stab_val 30 (fun v => v = .pointer (some ⟨w.heap.size, 1, none⟩))) (.cons (stab_val 31 (fun v => v = .slice Au t.length cu)) (.cons (stab_val 32 (fun v => v = .pointer (some ⟨w.heap.size, 1, none⟩))) (.cons (stab_val 33 (fun v => v = .slice Au t.length cu)) (.cons (stab_R kCell 34 (canon t)) (.cons (stab_val 35 (fun v => v = .bool true)) (.cons (stab_val 36 (fun v => v = .bool false)) (.cons (stab_val 37 (fun v => v = .bool false)) (.cons (stab_val 19 (fun v => v = .bool false)) .nil)))))))))))))))))))
              (fun i j k h1 h2 => h1.elim) (fun i k h => h.elim) (fun i h1 h2 => by simp at h1 h2; omega) (.cons ?_ (.cons ?_ (.cons ?_ (.cons ?_ (.cons ?_ (.cons ?_ (.cons ?_ (.cons ?_ (.cons ?_ (.cons ?_ (.cons ?_ (.cons ?_ (.cons ?_ (.cons ?_ (.cons ?_ (.cons ?_ (.cons ?_ (.cons ?_ (.cons ?_ .nil))))))))))))))))))) ?_
            · intro a W own hfor huse hap hmi hF K hK
              have e3 : a.eval (.tmp 3) = .pointer (some ⟨w.heap.size, 0, none⟩) := hfor 3 (by kernel_rfl)
              refine op_val (.pointer (some ⟨w.heap.size, 0, none⟩)) W rfl ?_ (hK _ _ (post_pure ?_))
              · clear hfor huse hap hmi hK hF
                generalize a.eval = ρ at *
                go_simp
              · exact (if_pos rfl)
            · intro a W own hfor huse hap hmi hF K hK
              have e20 : a.eval (.tmp 20) = .pointer (some ⟨w.heap.size, 0, none⟩) := huse 0 (by kernel_rfl)
              have c0 := foot_cell hF (fun h => h) P0.out
              refine op_val (.int .i64 st) W rfl ?_ (hK _ _ (post_pure ?_))
              · clear hfor huse hap hmi hK hF
                generalize a.eval = ρ at *
                go_simp
              · exact (if_pos rfl)
            · intro a W own hfor huse hap hmi hF K hK
              have e21 : a.eval (.tmp 21) = .int .i64 st := huse 1 (by kernel_rfl)
              have ec23 : a.eval (.const (.int .i64 2)) = .int .i64 2 := rfl
              have d2 := D2.out
              refine op_val (.bool false) W rfl ?_ (hK _ _ (post_pure ?_))
              · clear hfor huse hap hmi hK hF
                generalize a.eval = ρ at *
                go_simp
              · exact (if_pos rfl)
            · intro a W own hfor huse hap hmi hF K hK
              have e22 : a.eval (.tmp 22) = .bool false := huse 2 (by kernel_rfl)
              refine op_val (.bool false) W rfl ?_ (hK _ _ (post_pure ?_))
              · clear hfor huse hap hmi hK hF
                generalize a.eval = ρ at *
                go_simp
              · exact (if_pos rfl)
            · intro a W own hfor huse hap hmi hF K hK
              have e3 : a.eval (.tmp 3) = .pointer (some ⟨w.heap.size, 0, none⟩) := hfor 3 (by kernel_rfl)
              have e23 : a.eval (.tmp 23) = .bool false := huse 3 (by kernel_rfl)
              refine gop_val (.pointer (some ⟨w.heap.size, 1, none⟩)) W (want_yes (j := 3) (b := false) rfl (yield_of (t := 23) rfl rfl e23)) ?_ (hK _ _ (post_pure ?_))
              · clear hfor huse hap hmi hK hF
                generalize a.eval = ρ at *
                go_simp
              · exact (if_pos rfl)
            · intro a W own hfor huse hap hmi hF K hK
              have e24 : a.eval (.tmp 24) = .pointer (some ⟨w.heap.size, 1, none⟩) := huse 4 (by kernel_rfl)
              have e23 : a.eval (.tmp 23) = .bool false := huse 3 (by kernel_rfl)
              have c1 := foot_cell hF (fun h => h) P1.out
              refine gop_val (.slice Au t.length cu) W (want_yes (j := 3) (b := false) rfl (yield_of (t := 23) rfl rfl e23)) ?_ (hK _ _ (post_pure ?_))
              · clear hfor huse hap hmi hK hF
                generalize a.eval = ρ at *
                go_simp
              · exact (if_pos rfl)
            · intro a W own hfor huse hap hmi hF K hK
              have e25 : a.eval (.tmp 25) = .slice Au t.length cu := huse 5 (by kernel_rfl)
              have e23 : a.eval (.tmp 23) = .bool false := huse 3 (by kernel_rfl)
              have hvt := foot_V hF (fun _ _ h => h) HTW.out (by decide)
              have efn : a.eval (.func 54) = .func (.func 54) #[] #[] := rfl
              refine gop_call (f := 54) (args := #[.slice Au t.length cu]) (fun v w1 => v = .bool true ∧ Below W.heap.size W w1) (want_yes (j := 3) (b := false) rfl (yield_of (t := 23) rfl rfl e23)) ?_ ?_ (fun v w1 h => ?_)
              · clear hfor huse hap hmi hK hF
                generalize a.eval = ρ at *
                go_simp
              · exact (TrmOk_b hvt HTT.out).mono (by rintro e w1 ⟨rfl, h2⟩; exact ⟨_, rfl, rfl, h2⟩)
              · obtain ⟨rfl, h2⟩ := h
                exact hK _ _ (post_new h2 (if_pos rfl))
            · intro a W own hfor huse hap hmi hF K hK
              have e26 : a.eval (.tmp 26) = .bool true := huse 6 (by kernel_rfl)
              have e23 : a.eval (.tmp 23) = .bool false := huse 3 (by kernel_rfl)
              refine gop_val (.bool false) W (want_yes (j := 3) (b := false) rfl (yield_of (t := 23) rfl rfl e23)) ?_ (hK _ _ (post_pure ?_))
              · clear hfor huse hap hmi hK hF
                generalize a.eval = ρ at *
                go_simp
              · exact (if_pos rfl)
            · intro a W own hfor huse hap hmi hF K hK
              have e23 : a.eval (.tmp 23) = .bool false := huse 3 (by kernel_rfl)
              have e27 : a.eval (.tmp 27) = .bool false := huse 7 (by kernel_rfl)
              have ec33 : a.eval (.const (.bool true)) = .bool true := rfl
              refine op_val (.bool false) W rfl ?_ (hK _ _ (post_pure ?_))
              · clear hfor huse hap hmi hK hF
                generalize a.eval = ρ at *
                go_simp
              · exact (if_pos rfl)
            · intro a W own hfor huse hap hmi hF K hK
              have e28 : a.eval (.tmp 28) = .bool false := huse 8 (by kernel_rfl)
              refine op_val (.bool false) W rfl ?_ (hK _ _ (post_pure ?_))
              · clear hfor huse hap hmi hK hF
                generalize a.eval = ρ at *
                go_simp
              · exact (if_pos rfl)
            · intro a W own hfor huse hap hmi hF K hK
              have e3 : a.eval (.tmp 3) = .pointer (some ⟨w.heap.size, 0, none⟩) := hfor 3 (by kernel_rfl)
              have e29 : a.eval (.tmp 29) = .bool false := huse 9 (by kernel_rfl)
              refine gop_val (.pointer (some ⟨w.heap.size, 1, none⟩)) W (want_yes (j := 9) (b := false) rfl (yield_of (t := 29) rfl rfl e29)) ?_ (hK _ _ (post_pure ?_))
              · clear hfor huse hap hmi hK hF
                generalize a.eval = ρ at *
                go_simp
              · exact (if_pos rfl)
            · intro a W own hfor huse hap hmi hF K hK
              have e30 : a.eval (.tmp 30) = .pointer (some ⟨w.heap.size, 1, none⟩) := huse 10 (by kernel_rfl)
              have e29 : a.eval (.tmp 29) = .bool false := huse 9 (by kernel_rfl)
              have c1 := foot_cell hF (fun h => h) P1.out
              refine gop_val (.slice Au t.length cu) W (want_yes (j := 9) (b := false) rfl (yield_of (t := 29) rfl rfl e29)) ?_ (hK _ _ (post_pure ?_))
              · clear hfor huse hap hmi hK hF
                generalize a.eval = ρ at *
                go_simp
              · exact (if_pos rfl)
            · intro a W own hfor huse hap hmi hF K hK
              have e3 : a.eval (.tmp 3) = .pointer (some ⟨w.heap.size, 0, none⟩) := hfor 3 (by kernel_rfl)
              have e29 : a.eval (.tmp 29) = .bool false := huse 9 (by kernel_rfl)
              refine gop_val (.pointer (some ⟨w.heap.size, 1, none⟩)) W (want_yes (j := 9) (b := false) rfl (yield_of (t := 29) rfl rfl e29)) ?_ (hK _ _ (post_pure ?_))
              · clear hfor huse hap hmi hK hF
                generalize a.eval = ρ at *
                go_simp
              · exact (if_pos rfl)
            · intro a W own hfor huse hap hmi hF K hK
              have e32 : a.eval (.tmp 32) = .pointer (some ⟨w.heap.size, 1, none⟩) := huse 12 (by kernel_rfl)
              have e29 : a.eval (.tmp 29) = .bool false := huse 9 (by kernel_rfl)
              have c1 := foot_cell hF (fun h => h) P1.out
              refine gop_val (.slice Au t.length cu) W (want_yes (j := 9) (b := false) rfl (yield_of (t := 29) rfl rfl e29)) ?_ (hK _ _ (post_pure ?_))
              · clear hfor huse hap hmi hK hF
                generalize a.eval = ρ at *
                go_simp
              · exact (if_pos rfl)
            · intro a W own hfor huse hap hmi hF K hK
              have e29 : a.eval (.tmp 29) = .bool false := huse 9 (by kernel_rfl)
              have e33 : a.eval (.tmp 33) = .slice Au t.length cu := huse 13 (by kernel_rfl)
              have hvt := foot_V hF (fun _ _ h => h) HTW.out (by decide)
              have efn : a.eval (.func 68) = .func (.func 68) #[] #[] := rfl
              refine gop_call (f := 68) (args := #[.slice Au t.length cu]) (fun v w1 => kCell.R w1 (fun k => W.heap.size ≤ k) v (canon t) ∧ Below W.heap.size W w1) (want_yes (j := 9) (b := false) rfl (yield_of (t := 29) rfl rfl e29)) ?_ ?_ (fun v w1 h => ?_)
              · clear hfor huse hap hmi hK hF
                generalize a.eval = ρ at *
                go_simp
              · exact (TrmCanon_i _ t ok W hvt).mono (by rintro e w1 ⟨u, rfl, h1, h2⟩; exact ⟨_, rfl, h1, h2⟩)
              · obtain ⟨h1, h2⟩ := h
                exact hK _ _ (post_new h2 (by show kCell.R _ _ (if _ then _ else _) (canon t); rw [if_pos rfl]; exact Kd.R_mono h1 (fun k h3 h4 => ⟨h3, h4⟩)))
            · intro a W own hfor huse hap hmi hF K hK
              have e31 : a.eval (.tmp 31) = .slice Au t.length cu := huse 11 (by kernel_rfl)
              have e29 : a.eval (.tmp 29) = .bool false := huse 9 (by kernel_rfl)
              have hvt := foot_V hF (fun _ _ h => h) HTW.out (by decide)
              have r14 : kCell.R W (own 14) (a.eval (.tmp 34)) (canon t) := huse 14 (by kernel_rfl)
              obtain ⟨A14, n14, e34, -, -⟩ := Kd.R_form r14
              rw [e34] at r14
              have efn : a.eval (.func 67) = .func (.func 67) #[] #[] := rfl
              refine gop_call (f := 67) (args := #[.slice Au t.length cu, .slice A14 (canon t).length n14]) (fun v w1 => v = .bool true ∧ Below W.heap.size W w1) (want_yes (j := 9) (b := false) rfl (yield_of (t := 29) rfl rfl e29)) ?_ ?_ (fun v w1 h => ?_)
              · clear hfor huse hap hmi hK hF
                generalize a.eval = ρ at *
                go_simp
              · exact (TrmSame_b hvt (Kd.R_V r14) HCQ.out).mono (by rintro e w1 ⟨rfl, h2⟩; exact ⟨_, rfl, rfl, h2⟩)
              · obtain ⟨rfl, h2⟩ := h
                exact hK _ _ (post_new h2 (if_pos rfl))
            · intro a W own hfor huse hap hmi hF K hK
              have e35 : a.eval (.tmp 35) = .bool true := huse 15 (by kernel_rfl)
              have e29 : a.eval (.tmp 29) = .bool false := huse 9 (by kernel_rfl)
              refine gop_val (.bool false) W (want_yes (j := 9) (b := false) rfl (yield_of (t := 29) rfl rfl e29)) ?_ (hK _ _ (post_pure ?_))
              · clear hfor huse hap hmi hK hF
                generalize a.eval = ρ at *
                go_simp
              · exact (if_pos rfl)
            · intro a W own hfor huse hap hmi hF K hK
              have e29 : a.eval (.tmp 29) = .bool false := huse 9 (by kernel_rfl)
              have e36 : a.eval (.tmp 36) = .bool false := huse 16 (by kernel_rfl)
              have ec33 : a.eval (.const (.bool true)) = .bool true := rfl
              refine op_val (.bool false) W rfl ?_ (hK _ _ (post_pure ?_))
              · clear hfor huse hap hmi hK hF
                generalize a.eval = ρ at *
                go_simp
              · exact (if_pos rfl)
            · intro a W own hfor huse hap hmi hF K hK
              have e37 : a.eval (.tmp 37) = .bool false := huse 17 (by kernel_rfl)
              refine op_val (.bool false) W rfl ?_ (hK _ _ (post_pure ?_))
              · clear hfor huse hap hmi hK hF
                generalize a.eval = ρ at *
                go_simp
              · exact (if_pos rfl)
            intro a' W own hf
            have s1 := hf.st.size
            have s2 := hf.st.rest
            have s3 := fun t ht => hf.st.kept t ht
            revert hf
            revert a'
            refine lay_intro (df := []) [true, true, true, true, true, true, true, true, true, true, true, true, true, true, true, true, true, true, true, false, false, false, false, false, false, false, false, false, false, false, false, false, false, false, false, false, false, false, true, true, true, true, true, true, true, true, true, true, true, true] (by kernel_rfl) rfl ?_
            intro x37 x36 x35 x34 x33 x32 x31 x30 x29 x28 x27 x26 x25 x24 x23 x22 x21 x20 x19 hf
            have e19 : x19 = .bool false := hf.at 18 (fun val _ _ => val 19 = .bool false) rfl (by kernel_rfl)
            subst e19
            have HF := Sec.mk hf.st.foot
            have BF := Sec.mk (HF.out.below (belD B1.out) (fun k h => h.elim))
            clear hf HF
            go_wp2
            obtain ⟨p0, p1⟩ := HW.out _ BF.out
            have P0 := Sec.mk p0
            have P1 := Sec.mk p1
            have HTW := Sec.mk (HT.out _ BF.out)
            have HVW := Sec.mk (HV.out _ BF.out)
            have B1 := BF
            clear p0 p1
            refine wp_region_lists [[39], [40], [41], [42], [43], [44], [45], [46], [38], [47], [48], [5], [6]]
              [fun val _ _ => val 39 = .pointer (some ⟨w.heap.size, 1, none⟩),
                fun val _ _ => val 40 = .slice Au t.length cu,
                fun val _ _ => val 41 = .slice Av top.length cv,
                fun val _ _ => val 42 = .pointer (some ⟨w.heap.size, 1, none⟩),
                fun val _ _ => val 43 = .slice Au t.length cu,
                fun val _ _ => val 44 = .int .i64 t.length,
                onR kCell 45 (shifted top t.length),
                fun val _ _ => ∃ x, val 46 = .tuple #[x, .bool (sameU t (shifted top t.length))],
                fun val _ _ => ∃ x, val 38 = .tuple #[x, .bool (sameU t (shifted top t.length))],
                fun _ _ _ => True,
                fun val _ _ => val 48 = .bool (sameU t (shifted top t.length)),
                fun _ _ _ => True,
                fun val _ _ => val 6 = .bool (sameU t (shifted top t.length))]
              [[], [], [], [], [], [], [], [], [], [], [], [], []] 0 (fun _ => False) (fun _ _ => False) (by kernel_rfl) ⟨by kernel_rfl, by kernel_rfl, by kernel_rfl, by kernel_rfl, by kernel_rfl⟩
              (.cons (stab_val 39 (fun v => v = .pointer (some ⟨w.heap.size, 1, none⟩))) (.cons (stab_val 40 (fun v => v = .slice Au t.length cu)) (.cons (stab_val 41 (fun v => v = .slice Av top.length cv)) (.cons (stab_val 42 (fun v => v = .pointer (some ⟨w.heap.size, 1, none⟩))) (.cons (stab_val 43 (fun v => v = .slice Au t.length cu)) (.cons (stab_val 44 (fun v => v = .int .i64 t.length)) (.cons (stab_R kCell 45 (shifted top t.length)) (.cons (stab_val 46 (fun v => ∃ x, v = .tuple #[x, .bool (sameU t (shifted top t.length))])) (.cons (stab_val 38 (fun v => ∃ x, v = .tuple #[x, .bool (sameU t (shifted top t.length))])) (.cons (stab_val 47 (fun _ => True)) (.cons (stab_val 48 (fun v => v = .bool (sameU t (shifted top t.length)))) (.cons (stab_val 5 (fun _ => True)) (.cons (stab_val 6 (fun v => v = .bool (sameU t (shifted top t.length)))) .nil)))))))))))))
              (fun i j k h1 h2 => h1.elim) (fun i k h => h.elim) (fun i h1 h2 => by simp at h1 h2; omega) (.cons ?_ (.cons ?_ (.cons ?_ (.cons ?_ (.cons ?_ (.cons ?_ (.cons ?_ (.cons ?_ (.cons ?_ (.cons ?_ (.cons ?_ (.cons ?_ (.cons ?_ .nil))))))))))))) ?_
            · intro a W own hfor huse hap hmi hF K hK
              have e3 : a.eval (.tmp 3) = .pointer (some ⟨w.heap.size, 0, none⟩) := hfor 3 (by kernel_rfl)
              refine op_val (.pointer (some ⟨w.heap.size, 1, none⟩)) W rfl ?_ (hK _ _ (post_pure ?_))
              · clear hfor huse hap hmi hK hF
                generalize a.eval = ρ at *
                go_simp
              · exact (if_pos rfl)
            · intro a W own hfor huse hap hmi hF K hK
              have e39 : a.eval (.tmp 39) = .pointer (some ⟨w.heap.size, 1, none⟩) := huse 0 (by kernel_rfl)
              have c1 := foot_cell hF (fun h => h) P1.out
              refine op_val (.slice Au t.length cu) W rfl ?_ (hK _ _ (post_pure ?_))
              · clear hfor huse hap hmi hK hF
                generalize a.eval = ρ at *
                go_simp
              · exact (if_pos rfl)
            · intro a W own hfor huse hap hmi hF K hK
              have e0 : a.eval (.tmp 0) = .slice Av top.length cv := hfor 0 (by kernel_rfl)
              refine op_val (.slice Av top.length cv) W rfl ?_ (hK _ _ (post_pure ?_))
              · clear hfor huse hap hmi hK hF
                generalize a.eval = ρ at *
                go_simp
              · exact (if_pos rfl)
            · intro a W own hfor huse hap hmi hF K hK
              have e3 : a.eval (.tmp 3) = .pointer (some ⟨w.heap.size, 0, none⟩) := hfor 3 (by kernel_rfl)
              refine op_val (.pointer (some ⟨w.heap.size, 1, none⟩)) W rfl ?_ (hK _ _ (post_pure ?_))
              · clear hfor huse hap hmi hK hF
                generalize a.eval = ρ at *
                go_simp
              · exact (if_pos rfl)
            · intro a W own hfor huse hap hmi hF K hK
              have e42 : a.eval (.tmp 42) = .pointer (some ⟨w.heap.size, 1, none⟩) := huse 3 (by kernel_rfl)
              have c1 := foot_cell hF (fun h => h) P1.out
              refine op_val (.slice Au t.length cu) W rfl ?_ (hK _ _ (post_pure ?_))
              · clear hfor huse hap hmi hK hF
                generalize a.eval = ρ at *
                go_simp
              · exact (if_pos rfl)
            · intro a W own hfor huse hap hmi hF K hK
              have e43 : a.eval (.tmp 43) = .slice Au t.length cu := huse 4 (by kernel_rfl)
              refine op_val (.int .i64 t.length) W rfl ?_ (hK _ _ (post_pure ?_))
              · clear hfor huse hap hmi hK hF
                generalize a.eval = ρ at *
                go_simp
              · exact (if_pos rfl)
            · intro a W own hfor huse hap hmi hF K hK
              have e41 : a.eval (.tmp 41) = .slice Av top.length cv := huse 2 (by kernel_rfl)
              have e44 : a.eval (.tmp 44) = .int .i64 t.length := huse 5 (by kernel_rfl)
              have hvp := foot_V hF (fun _ _ h => h) HVW.out (by decide)
              have efn : a.eval (.func 70) = .func (.func 70) #[] #[] := rfl
              refine op_call (f := 70) (args := #[.slice Av top.length cv, .int .i64 t.length]) (fun v w1 => kCell.R w1 (fun k => W.heap.size ≤ k) v (shifted top t.length) ∧ Below W.heap.size W w1) rfl ?_ ?_ (fun v w1 h => ?_)
              · clear hfor huse hap hmi hK hF
                generalize a.eval = ρ at *
                go_simp
              · exact (shifted_i _ top t.length ok W hvp).mono (by rintro e w1 ⟨u, rfl, h1, h2⟩; exact ⟨_, rfl, h1, h2⟩)
              · obtain ⟨h1, h2⟩ := h
                exact hK _ _ (post_new h2 (by show kCell.R _ _ (if _ then _ else _) (shifted top t.length); rw [if_pos rfl]; exact Kd.R_mono h1 (fun k h3 h4 => ⟨h3, h4⟩)))
            · intro a W own hfor huse hap hmi hF K hK
              have e40 : a.eval (.tmp 40) = .slice Au t.length cu := huse 1 (by kernel_rfl)
              have hvt := foot_V hF (fun _ _ h => h) HTW.out (by decide)
              have r6 : kCell.R W (own 6) (a.eval (.tmp 45)) (shifted top t.length) := huse 6 (by kernel_rfl)
              obtain ⟨A6, n6, e45, -, -⟩ := Kd.R_form r6
              rw [e45] at r6
              have efn : a.eval (.func 69) = .func (.func 69) #[] #[] := rfl
              have ec20 : a.eval (.const (.slice none 0 0)) = .slice none 0 0 := rfl
              refine op_call (f := 69) (args := #[.slice none 0 0, .slice Au t.length cu, .slice A6 (shifted top t.length).length n6]) (fun v w1 => (∃ x, v = .tuple #[x, .bool (sameU t (shifted top t.length))]) ∧ Below W.heap.size W w1) rfl ?_ ?_ (fun v w1 h => ?_)
              · clear hfor huse hap hmi hK hF
                generalize a.eval = ρ at *
                go_simp
              · exact (unify0 hvt (Kd.R_V r6) HTT.out HSH.out).mono (by rintro e w1 ⟨x, rfl, h2⟩; exact ⟨_, rfl, ⟨x, rfl⟩, h2⟩)
              · obtain ⟨⟨x, rfl⟩, h2⟩ := h
                exact hK _ _ (post_new h2 ⟨x, if_pos rfl⟩)
            · intro a W own hfor huse hap hmi hF K hK
              obtain ⟨x46, e46⟩ : ∃ x, a.eval (.tmp 46) = .tuple #[x, .bool (sameU t (shifted top t.length))] := huse 7 (by kernel_rfl)
              refine op_val (.tuple #[x46, .bool (sameU t (shifted top t.length))]) W rfl ?_ (hK _ _ (post_pure ⟨x46, if_pos rfl⟩))
              · clear hfor huse hap hmi hK hF
                generalize a.eval = ρ at *
                go_simp
            · intro a W own hfor huse hap hmi hF K hK
              obtain ⟨x38, e38⟩ : ∃ x, a.eval (.tmp 38) = .tuple #[x, .bool (sameU t (shifted top t.length))] := huse 8 (by kernel_rfl)
              refine op_val x38 W rfl ?_ (hK _ _ (post_pure trivial))
              · clear hfor huse hap hmi hK hF
                generalize a.eval = ρ at *
                go_simp
            · intro a W own hfor huse hap hmi hF K hK
              obtain ⟨x38, e38⟩ : ∃ x, a.eval (.tmp 38) = .tuple #[x, .bool (sameU t (shifted top t.length))] := huse 8 (by kernel_rfl)
              refine op_val (.bool (sameU t (shifted top t.length))) W rfl ?_ (hK _ _ (post_pure (if_pos rfl)))
              · clear hfor huse hap hmi hK hF
                generalize a.eval = ρ at *
                go_simp
            · intro a W own hfor huse hap hmi hF K hK
              refine op_val (a.eval (.tmp 47)) W rfl ?_ (hK _ _ (post_pure trivial))
              · rfl
            · intro a W own hfor huse hap hmi hF K hK
              have e48 : a.eval (.tmp 48) = .bool (sameU t (shifted top t.length)) := huse 10 (by kernel_rfl)
              refine op_val (.bool (sameU t (shifted top t.length))) W rfl ?_ (hK _ _ (post_pure ?_))
              · clear hfor huse hap hmi hK hF
                generalize a.eval = ρ at *
                go_simp
              · exact (if_pos rfl)
            intro a' W own hf
            have s1 := hf.st.size
            have s2 := hf.st.rest
            have s3 := fun t ht => hf.st.kept t ht
            revert hf
            revert a'
            refine lay_intro (df := []) [true, true, true, true, true, false, false, true, true, true, true, true, true, true, true, true, true, true, true, true, true, true, true, true, true, true, true, true, true, true, true, true, true, true, true, true, true, true, false, false, false, false, false, false, false, false, false, false, false, true] (by kernel_rfl) rfl ?_
            intro x48 x47 x46 x45 x44 x43 x42 x41 x40 x39 x38 x6 x5 hf
            have e6 : x6 = .bool (sameU t (shifted top t.length)) := hf.at 12 (fun val _ _ => val 6 = .bool (sameU t (shifted top t.length))) rfl (by kernel_rfl)
            subst e6
            have HF := Sec.mk hf.st.foot
            have BF := Sec.mk (HF.out.below (belD B1.out) (fun k h => h.elim))
            clear hf HF
            go_wp2
            go_ret
            exact ⟨rb HE.out.symm, BB.out _ BF.out⟩
      · have d2 : (st != 2) = true := bne_iff_ne.2 h2
        have HE : Sec (outOk top st t = false) := ⟨by unfold outOk; rw [HQ.out, if_neg h2, HI.out]; rfl⟩
        clear h2
        go_enter Tryz.func53, Tryz.ntmps53
        go_wp2_with (first | (go_at_call 51; refine (isQuestion_i _ top ok _ (HV.out _ (Below.refl _ _))).mono ?_; rw [HQ.out]; rintro e w1 ⟨rfl, hb⟩; have B1 := Sec.mk hb; obtain ⟨p0, p1⟩ := HW.out _ hb; clear hb) | (go_at_call 52; refine (in_c _ _ _ _).mono ?_; rw [HI.out]; rintro e w' ⟨rfl, rfl⟩))
        go_quiet (fail)
        go_wp2
        go_ret
        exact ⟨rb HE.out.symm, BB.out _ (belDq B1.out)⟩
end
section
open Go.RowKit
set_option linter.unusedVariables false
set_option maxRecDepth 100000
theorem bindAt {w : World} {okR okE : Nat → Prop} {A : Option Addr} {n c : Nat} {s : List Bind} (h : BV2 w okR okE (.slice A n c) s) (i : Nat) (hi : i < s.length) : ∃ b off v, A = some ⟨b, off, none⟩ ∧ w.cell? ⟨b, off + i * 2, none⟩ = some (.int .i64 s[i].v) ∧ w.cell? ⟨b, off + i * 2 + 1, none⟩ = some v ∧ kCell.V w okE v s[i].term := by
  obtain ⟨A', c', e, h1, h2, h3, h4⟩ := h
  simp only [Value.slice.injEq] at e
  obtain ⟨rfl, -, -⟩ := e
  rcases h4 with rfl | ⟨b, off, rfl, hb, hE⟩
  · simp at hi
  · obtain ⟨cs, hK, hc⟩ := hE i s[i] (List.getElem?_eq_getElem hi)
    obtain ⟨v1, rfl, hv⟩ := kBind_K hK
    exact ⟨b, off, v1, rfl, hc 0 _ rfl, hc 1 _ rfl, hv⟩
theorem l2Get_c (val : Value) (s : List Bind) (v : Int) (okR okE : Nat → Prop) (w : World) (hV : BV2 w okR okE val s) (hs : Nd s) :
    Calls Tryz.prog 92 #[val, .int .i64 v] w fun e w' => ∃ u, e = .returned u ∧ kCell.V w' okE u ((bget s v).getD []) ∧ Below w.heap.size w w' := by
  have HV := Sec.mk hV
  have HS := Sec.mk hs
  obtain ⟨A, c, rfl, h1, h2, h3, -⟩ := hV
  have hu := Tryz.underlying77
  clear hs
  go_enter Tryz.func92, Tryz.ntmps92
  go_wp2
  go_loop [5] (fun i => ∃ k : Nat, k ≤ s.length ∧ i = .int .i64 k ∧ Sec (∀ (j : Nat) (hj : j < s.length), j < k → s[j].v ≠ v)) (fun i => s.length - (intOf i).toNat)
  case atStart => exact ⟨0, Nat.zero_le _, rfl, ⟨fun j hj h => absurd h (Nat.not_lt_zero _)⟩⟩
  case round =>
    obtain ⟨k, hk, rfl, hr⟩ := hrel
    by_cases hlt : k < s.length
    · obtain ⟨b, off, u, rfl, c0, c1, hu1⟩ := bindAt HV.out k hlt
      have HU := Sec.mk hu1
      have HG := Sec.mk (bget_at HS.out hlt)
      have HN : Sec (s[k].v ≠ v → ∀ (j : Nat) (hj : j < s.length), j < k + 1 → s[j].v ≠ v) := ⟨fun h j hj h2 => by
        by_cases e : j = k
        · subst e; exact h
        · exact hr.out j hj (by omega)⟩
      generalize s[k] = x at *
      clear hu1
      by_cases hx : x.v = v
      · have hx' : (x.v == v) = true := beq_iff_eq.2 hx
        have HX := Sec.mk hx
        clear hx
        go_wp2
        go_ret
        rw [← HX.out, HG.out]
        exact ⟨_, rfl, HU.out, Below.refl _ _⟩
      · have hx' : (x.v == v) = false := beq_eq_false_iff_ne.2 hx
        have HX := Sec.mk (HN.out hx)
        clear hx
        go_wp2
        go_round
        case rel => exact ⟨k + 1, by omega, by go_num, HX⟩
        case measure => simp [intOf]; omega
    · have hn : Sec (bget s v = none) := ⟨bget_none.2 (fun ⟨b, hb, e⟩ => by
        obtain ⟨i, hi, rfl⟩ := List.mem_iff_getElem.1 hb
        exact hr.out i hi (by omega) e)⟩
      go_wp2
      go_ret
      rw [hn.out]
      exact ⟨_, rfl, ⟨_, 0, rfl, Nat.le_refl _, by simp [maxLen], by simp, .inl rfl, fun h => by cases h⟩, belA (Below.refl _ _) _⟩
theorem l2Walk_c (n : Nat) (val v : Value) (s : List Bind) (t u : Term) (okR ok : Nat → Prop) (w : World) (hs : BOk s) (hV : BV2 w okR ok val s) (hT : kCell.V w ok v t) (ht : trmOk t = true) (h : walkF s n t = some u) :
    Calls Tryz.prog 77 #[val, v] w fun e w' => ∃ z, e = .returned z ∧ kCell.V w' ok z u ∧ Below w.heap.size w w' := by
  have HV := Sec.mk hV
  have HS := Sec.mk hs
  have H0 : Sec (kCell.V w ok v t ∧ trmOk t = true ∧ walkF s n t = some u) := ⟨hT, ht, h⟩
  obtain ⟨Ab, cb, rfl⟩ := hV.form
  obtain ⟨At, ct, rfl, -⟩ := hT
  clear hs h ht hV
  go_enter Tryz.func77, Tryz.ntmps77
  go_wp2
  go_loopg [5] n (fun g tv wr => Sec (∃ t1, kCell.V wr ok tv t1 ∧ trmOk t1 = true ∧ walkF s g t1 = some u) ∧ Sec (Below w.heap.size w wr))
  case atStart => exact ⟨⟨t, H0.out⟩, ⟨Below.refl _ _⟩⟩
  case round =>
    obtain ⟨hr, hb⟩ := hrel
    obtain ⟨t1, h1, h2, h3⟩ := hr.out
    cases t1 with
    | nil => exact absurd (trmOk_len h2).1 (by simp)
    | cons c r =>
    cases gk with
    | zero => cases h3
    | succ g =>
    obtain ⟨b, off, cp, rfl, i0, c0, c1, c2⟩ := cV_cons h1
    have T1 := Sec.mk h1
    have i1 : (0 : Int) < ((r.length + 1 : Nat) : Int) := by omega
    rw [walkF] at h3
    clear hr h1
    by_cases hk : c.kind = 1
    · rw [if_pos hk] at h3
      have d1 : (c.kind == 1) = true := beq_iff_eq.2 hk
      clear hk
      cases hg : bget s c.n with
      | none =>
        rw [hg] at h3
        cases h3
        have HG := Sec.mk hg
        clear hg
        go_wp2_with (go_at_call 92; refine (l2Get_c _ s c.n okR ok _ (HV.out.below hb.out) HS.out.tri.nd).mono ?_; rw [HG.out]; rintro e w2 ⟨z, rfl, hz, hb2⟩; have hz2 : kCell.V w2 ok z [] := hz; obtain ⟨_, _, rfl, -⟩ := hz2; have B2 := Sec.mk (bel hb.out hb2); have T2 := Sec.mk (Kd.V_below T1.out hb2 (by decide)); clear hb2 hz c0 c1 c2)
        go_ret
        exact ⟨_, rfl, T2.out, B2.out⟩
      | some t2 =>
        rw [hg] at h3
        have HG := Sec.mk hg
        have HW := Sec.mk h3
        have ht2 := HS.out.get hg
        obtain ⟨c9, r9, h9⟩ : ∃ c9 r9, t2 = c9 :: r9 := by
          cases t2 with
          | nil => exact absurd (trmOk_len ht2).1 (by simp)
          | cons c9 r9 => exact ⟨c9, r9, rfl⟩
        have H9 := Sec.mk h9
        have i9 : (((r9.length + 1 : Nat) : Int) == 0) = false := beq_eq_false_iff_ne.2 (by omega)
        clear hg h3 h9
        go_wp2_with (go_at_call 92; refine (l2Get_c _ s c.n okR ok _ (HV.out.below hb.out) HS.out.tri.nd).mono ?_; rw [HG.out]; rintro e w2 ⟨z, rfl, hz, hb2⟩; have hz2 : kCell.V w2 ok z t2 := hz; have B2 := Sec.mk (bel hb.out hb2); have T2 := Sec.mk hz2; rw [H9.out] at hz2; obtain ⟨b9, off9, cp9, rfl, -⟩ := cV_cons hz2; clear hb2 hz hz2 c0 c1 c2)
        go_roundg g
        case rel => exact ⟨⟨t2, T2.out, ht2, HW.out⟩, B2⟩
        case measure => exact Nat.lt_succ_self _
    · rw [if_neg hk] at h3
      have d1 : (c.kind == 1) = false := beq_eq_false_iff_ne.2 hk
      cases h3
      clear hk
      go_wp2
      go_ret
      exact ⟨_, rfl, T1.out, hb.out⟩
end
section
open Go.RowKit
set_option linter.unusedVariables false
set_option maxRecDepth 100000
theorem free_nodup (t : Term) : (free t).Nodup := by
  have : ∀ (t : Term) (out : List Int), out.Nodup → (t.foldl freeStep out).Nodup := by
    intro t
    induction t with
    | nil => intro out h; exact h
    | cons c r ih =>
      intro out h
      rw [List.foldl_cons]
      refine ih _ ?_
      unfold freeStep
      split
      · rename_i hc
        rw [List.nodup_append]
        refine ⟨h, by simp, fun a ha b hb => ?_⟩
        rw [List.mem_singleton] at hb
        intro e
        exact hc.2 (by rw [← hb, ← e]; exact ha)
      · exact h
  exact this t [] List.nodup_nil
/-- So far come, over all that is known. -/
structure Leads (s : List Bind) (t : Term) (k : Nat) (out : List Int) : Prop where
  nd : out.Nodup
  rng : ∀ y ∈ out, 0 ≤ y ∧ y ≤ 99999
  src : ∀ y, vin y t → y ∈ out
  snd : ∀ y ∈ out, ∀ z, vin z (sig s y) → vin z (sub (sig s) t)
  cl : ∀ (j : Nat) (hj : j < out.length), j < k → ∀ t2, bget s out[j] = some t2 → ∀ z, vin z t2 → z ∈ out
theorem Leads.start (s : List Bind) {t : Term} (ht : trmOk t = true) : Leads s t 0 (free t) :=
  ⟨free_nodup t, fun y hy => mem_allV.1 (trmOk_V ht y (mem_free.1 hy)), fun y hy => mem_free.2 hy, fun y hy z hz => vin_sub.2 ⟨y, mem_free.1 hy, hz⟩, fun j hj h => absurd h (Nat.not_lt_zero _)⟩
theorem Leads.len {s : List Bind} {t : Term} {k : Nat} {out : List Int} (h : Leads s t k out) : out.length ≤ 100000 :=
  ints_le 100000 out h.nd (fun y hy => by have := h.rng y hy; omega)
theorem Leads.add {s : List Bind} {t t2 : Term} {k : Nat} {out : List Int} {y z : Int} (hs : BOk s) (h : Leads s t k out) (hy : out[k]? = some y) (hg : bget s y = some t2) (hz : vin z t2) (hn : z ∉ out) : Leads s t k (out ++ [z]) := by
  have hym : y ∈ out := List.mem_of_getElem? hy
  refine ⟨?_, fun x hx => ?_, fun x hx => List.mem_append_left _ (h.src x hx), fun x hx q hq => ?_, fun j hj hjk u hu q hq => ?_⟩
  · rw [List.nodup_append]
    refine ⟨h.nd, by simp, fun a ha b hb => ?_⟩
    rw [List.mem_singleton] at hb
    intro e
    exact hn (by rw [← hb, ← e]; exact ha)
  · rcases List.mem_append.1 hx with hx | hx
    · exact h.rng x hx
    · rw [List.mem_singleton] at hx
      rw [hx]
      exact mem_allV.1 (trmOk_V (hs.get hg) z hz)
  · rcases List.mem_append.1 hx with hx | hx
    · exact h.snd x hx q hq
    · rw [List.mem_singleton] at hx
      subst hx
      exact h.snd y hym q (by rw [sig_in hs.tri hg]; exact vin_sub.2 ⟨x, hz, hq⟩)
  · have hkl : k < out.length := (List.getElem?_eq_some_iff.1 hy).1
    have hjl : j < out.length := by omega
    rw [List.getElem_append_left hjl] at hu
    exact List.mem_append_left _ (h.cl j hjl hjk u hu q hq)
theorem Leads.next {s : List Bind} {t : Term} {k : Nat} {out : List Int} {y : Int} (h : Leads s t k out) (hy : out[k]? = some y) (hall : ∀ t2, bget s y = some t2 → ∀ z, vin z t2 → z ∈ out) : Leads s t (k + 1) out := by
  refine ⟨h.nd, h.rng, h.src, h.snd, fun j hj hjk u hu q hq => ?_⟩
  by_cases e : j = k
  · subst e
    rw [List.getElem?_eq_getElem hj] at hy
    cases hy
    exact hall u hu q hq
  · exact h.cl j hj (by omega) u hu q hq
theorem Leads.fin {s : List Bind} {t : Term} {k : Nat} {out : List Int} (hs : BOk s) (h : Leads s t k out) (hk : out.length ≤ k) {x : Int} (hx : bget s x = none) : x ∈ out ↔ vin x (sub (sig s) t) := by
  obtain ⟨rk, hrk⟩ := hs.tri.rank
  constructor
  · intro hm
    exact h.snd x hm x (by rw [sig_out hx]; exact ⟨_, List.mem_singleton.2 rfl, rfl, rfl⟩)
  · intro hv
    obtain ⟨y, hy, hxy⟩ := vin_sub.1 hv
    have : ∀ (m : Nat) (y : Int), rk y < m → y ∈ out → vin x (sig s y) → x ∈ out := by
      intro m
      induction m with
      | zero => intro y h0; exact absurd h0 (Nat.not_lt_zero _)
      | succ m ih =>
        intro y hm hy hxy
        cases hg : bget s y with
        | none =>
          rw [sig_out hg] at hxy
          obtain ⟨c, hc, h1, h2⟩ := hxy
          rw [List.mem_singleton] at hc
          subst hc
          have : x = y := h2.symm
          rw [this]; exact hy
        | some t2 =>
          rw [sig_in hs.tri hg] at hxy
          obtain ⟨z, hz, hxz⟩ := vin_sub.1 hxy
          obtain ⟨j, hj, rfl⟩ := List.mem_iff_getElem.1 hy
          exact ih z (Nat.lt_of_lt_of_le (hrk _ t2 hg z hz) (Nat.le_of_lt_succ hm)) (h.cl j hj (by omega) t2 hg z hz) hxz
    exact this (rk y + 1) y (Nat.lt_succ_self _) (h.src y hy) hxy
theorem R_appS {α : Type} (d : Kd α) {P : Program} {ops : Array Oper} {rest : List Oper} {o : Oper} {a : Act} {Q : Exit → Act → World → Prop} {W : World} (hgd : o.guard = none) (s x : Operand) (t : TypeId) (z : Value) (bytes : Nat)
    (ho : o.op = .call { callee := .builtin .append, args := #[s, x], argTypes := #[t, t] })
    (ht : P.underlying t = some (.slice d.ty)) (hinfo : (P.info? d.ty).map (fun i => (i.zero, i.size, i.bytes)) = some (some z, d.sz, bytes)) (hz : z.cells.size = d.sz) (hs0 : 0 < d.sz) (hb0 : bytes ≤ 256)
    (v : Value) (xs : List α) (p : α) (cs : List Value) (S : Nat → Prop) (hs : a.eval s = v) {N : Nat} (hx : a.eval x = .slice (some ⟨N, 0, none⟩) 1 1) (hN : N = W.heap.size) (HO : d.R W S v xs) (hp : d.O W (fun _ => False) p cs)
    (hl : xs.length + 1 ≤ 1073741824)
    (h : ∀ v1 w1, d.R w1 (fun k => S k ∨ W.heap.size ≤ k) v1 (xs ++ [p]) → W.grownBy w1 v.ownBlock → (∀ k, v.ownBlock = some k → S k) → wpList P ops Q rest (a.put o.dst v1) w1) :
    wpList P ops Q (o :: rest) a (W.alloc (.cells cs.toArray d.ty)) := by
  subst hN
  obtain ⟨_, _, _, h3⟩ := Kd.R_own HO
  refine Kd.R_append d hgd s x t z bytes ho ht hinfo hz hs0 hb0 v xs p cs S (fun _ => False) hs hx HO hp (fun k h1 _ _ => h1) hl ?_
  intro v1 w1 hR hg
  exact h v1 w1 (Kd.R_mono hR (fun k h1 _ => by rcases h1 with h1 | h1 | h1; exact .inl h1; exact h1.elim; exact .inr h1)) hg (fun k hk => (h3 k hk).1)
set_option maxHeartbeats 2000000 in
theorem l2Leads_c (val v : Value) (s : List Bind) (t : Term) (okR ok : Nat → Prop) (w : World) (hs : BOk s) (hV : BV2 w okR ok val s) (hT : kCell.V w ok v t) (ht : trmOk t = true) :
    Calls Tryz.prog 93 #[val, v] w fun e w' => ∃ u l, e = .returned u ∧ kInt.R w' (fun k => w.heap.size ≤ k) u l ∧ (∀ x, bget s x = none → (x ∈ l ↔ vin x (sub (sig s) t))) ∧ Below w.heap.size w w' := by
  have HV := Sec.mk hV
  have HS := Sec.mk hs
  have HT := Sec.mk hT
  have HTT := Sec.mk ht
  obtain ⟨Ab, cb, rfl⟩ := hV.form
  clear hs hV hT ht
  go_enter Tryz.func93, Tryz.ntmps93
  go_wp2_with (go_at_call 75; refine (TrmFree_c _ t ok _ HT.out).mono ?_; rintro e w1 ⟨u, rfl, hR, hb⟩; have R1 := Sec.mk hR; have B1 := Sec.mk hb; clear hR hb)
  go_loopw [5, 6] (fun ov iv wr => ∃ (k : Nat) (out : List Int), k ≤ out.length ∧ iv = .int .i64 k ∧ Sec (kInt.R wr (fun k => w.heap.size ≤ k) ov out) ∧ Sec (Leads s t k out) ∧ Sec (Below w.heap.size w wr)) (fun _ iv _ => 100001 - (intOf iv).toNat)
  case atStart => exact ⟨0, free t, Nat.zero_le _, rfl, R1, ⟨Leads.start s HTT.out⟩, B1⟩
  case round =>
    obtain ⟨k, out, hk, rfl, hR, hL, hb⟩ := hrel
    obtain ⟨A, c, rfl, hc1, hc2⟩ := Kd.R_form hR.out
    have hlen : out.length ≤ 100000 := hL.out.len
    by_cases hlt : k < out.length
    · obtain ⟨b, off, rfl, -, x0⟩ := int_at (Kd.V_C (Kd.R_V hR.out)) k hlt
      have HY : Sec (out[k]? = some out[k]) := ⟨List.getElem?_eq_getElem hlt⟩
      generalize out[k] = y at *
      have i0 : (0 : Int) ≤ (k : Int) := by omega
      have i1 : (k : Int) < (out.length : Int) := by omega
      have i2 : IntKind.i64.wrap ((k : Int) + 1) = ((k + 1 : Nat) : Int) := by rw [show ((k : Int) + 1) = ((k + 1 : Nat) : Int) by omega]; exact IntWalk.i64_in _ (by omega)
      go_wp2_with (first | (go_at_call 75; refine (TrmFree_c _ _ ok _ V2.out).mono ?_; rintro e w3 ⟨mv, rfl, hR3, hb3⟩; obtain ⟨A3, c3, rfl, -, -⟩ := Kd.R_form hR3; have R3 := Sec.mk hR3; have B3 := Sec.mk (bel B2.out hb3); have D3 := Sec.mk hb3; clear hR3 hb3) | (go_at_call 92; refine (l2Get_c _ s y okR ok _ (HV.out.below hb.out) HS.out.tri.nd).mono ?_; rintro e w2 ⟨z, rfl, hz, hb2⟩; have V2 := Sec.mk hz; have B2 := Sec.mk (bel hb.out hb2); have D2 := Sec.mk hb2; clear hz hb2))
      obtain ⟨M, hM⟩ : ∃ M, free ((bget s y).getD []) = M := ⟨_, rfl⟩
      have HMV : Sec (∀ z ∈ M, ∃ t2, bget s y = some t2 ∧ vin z t2) := ⟨fun z hz => by
        rw [← hM, mem_free] at hz
        cases hg : bget s y with
        | none => rw [hg] at hz; obtain ⟨c, hc, _⟩ := hz; simp at hc
        | some t2 => rw [hg] at hz; exact ⟨t2, rfl, hz⟩⟩
      have HMA : Sec (∀ t2, bget s y = some t2 → ∀ z, vin z t2 → z ∈ M) := ⟨fun t2 hg z hz => by rw [← hM, mem_free, hg]; exact hz⟩
      have hml : M.length ≤ 1073741824 := by obtain ⟨_, _, _, _, _, h, _⟩ := Kd.R_V R3.out; rw [hM] at h; exact h
      have HM := Sec.mk hM
      rw [hM]
      clear hM
      go_loopw [5, 8] (fun ov jv wq => ∃ (j : Nat) (o2 : List Int), j ≤ M.length ∧ jv = .int .i64 j ∧ Sec (kInt.R wq (fun k => w.heap.size ≤ k ∧ ¬ (w2.heap.size ≤ k ∧ k < w3.heap.size)) ov o2) ∧ Sec (kInt.V wq (fun k => w2.heap.size ≤ k ∧ k < w3.heap.size) (.slice A3 M.length c3) M) ∧ Sec (Leads s t k o2 ∧ o2[k]? = some y ∧ ∀ z ∈ M.take j, z ∈ o2) ∧ Sec (Below w.heap.size w wq ∧ w3.heap.size ≤ wq.heap.size)) (fun _ jv _ => M.length - (intOf jv).toNat)
      case atStart => exact ⟨0, out, Nat.zero_le _, rfl, ⟨Kd.R_move (fun k h hl => ⟨⟨h, fun h2 => by have := D2.out.size; omega⟩, (bel D2.out D3.out).block k hl⟩) hR.out⟩, ⟨by rw [← HM.out]; exact Kd.V_move (Keeps.mono fun k h hl => ⟨h, hl⟩) (Kd.R_V R3.out) (by decide)⟩, ⟨hL.out, HY.out, by simp⟩, ⟨B3.out, Nat.le_refl _⟩⟩
      case round =>
        obtain ⟨j, o2, hj, rfl, hR2, hV2, hL2, hb2⟩ := hrel
        obtain ⟨A4, c4, rfl, -, -⟩ := Kd.R_form hR2.out
        have hlen2 := hL2.out.1.len
        have hkl2 : k < o2.length := (List.getElem?_eq_some_iff.1 hL2.out.2.1).1
        by_cases hlj : j < M.length
        · obtain ⟨b4, off4, rfl, -, z0⟩ := int_at (Kd.V_C hV2.out) j hlj
          have HT2 : Sec (M.take (j + 1) = M.take j ++ [M[j]]) := ⟨List.take_succ_eq_append_getElem hlj⟩
          have HZ := Sec.mk (HMV.out _ (List.getElem_mem hlj))
          generalize M[j] = z at *
          have hVo := Sec.mk (Kd.R_V hR2.out)
          have j0 : (0 : Int) ≤ (j : Int) := by omega
          have j1 : (j : Int) < (M.length : Int) := by omega
          by_cases hm : z ∈ o2
          · have HAL : Sec (∀ q ∈ M.take (j + 1), q ∈ o2) := ⟨fun q hq => by
              rw [HT2.out] at hq
              rcases List.mem_append.1 hq with hq | hq
              · exact hL2.out.2.2 q hq
              · rw [List.mem_singleton] at hq; rw [hq]; exact hm⟩
            have Hm := Sec.mk hm
            clear hm
            go_wp2_with (go_at_call 91; refine (l1Has_c _ _ _ _ _ hVo.out).mono ?_; rw [decide_eq_true Hm.out]; rintro e w' ⟨rfl, rfl⟩)
            go_roundw
            case rel => exact ⟨j + 1, o2, by omega, by go_num, hR2, hV2, ⟨hL2.out.1, hL2.out.2.1, HAL.out⟩, hb2⟩
            case measure => simp [intOf]; omega
          · have Hm := Sec.mk hm
            have HLA : Sec (Leads s t k (o2 ++ [z])) := ⟨by obtain ⟨t2, h1, h2⟩ := HZ.out; exact hL2.out.1.add HS.out hL2.out.2.1 h1 h2 hm⟩
            have HAL : Sec (∀ q ∈ M.take (j + 1), q ∈ o2 ++ [z]) := ⟨fun q hq => by
              rw [HT2.out] at hq
              rcases List.mem_append.1 hq with hq | hq
              · exact List.mem_append_left _ (hL2.out.2.2 q hq)
              · exact List.mem_append_right _ hq⟩
            clear hm
            go_wp2_with (first | (go_at_call 91; refine (l1Has_c _ _ _ _ _ hVo.out).mono ?_; rw [decide_eq_false Hm.out]; rintro e w' ⟨rfl, rfl⟩) | (at_builtin; refine R_appS kInt (W := wr) rfl (.tmp 37) (.tmp 42) 96 (.int .i64 0) 8 rfl Tryz.underlying96 info_int rfl (by decide) (by decide) _ _ z [.int .i64 z] _ rfl rfl rfl hR2.out (int_O _ _ _) (by omega) ?_; intro v1 w5 hR5 hg5 hS5; have R5 := Sec.mk hR5; have G5 := Sec.mk hg5; have S5 := Sec.mk hS5; clear hR5 hg5 hS5))
            go_roundw
            case rel => exact ⟨j + 1, _, by omega, by go_num, ⟨Kd.R_mono R5.out (fun q h _ => h.elim id (fun h => ⟨Nat.le_trans hb2.out.1.size h, fun h2 => by have := hb2.out.2; omega⟩))⟩, ⟨Kd.V_move (fun q h hl => ⟨h, G5.out.block q hl (fun e => (S5.out q e.symm).2 h)⟩) hV2.out (by decide)⟩, ⟨HLA.out, by rw [List.getElem?_append_left hkl2]; exact hL2.out.2.1, HAL.out⟩, ⟨hb2.out.1.grown G5.out hb2.out.1.size (fun q e => (S5.out q e).1), Nat.le_trans hb2.out.2 G5.out.size⟩⟩
            case measure => simp [intOf]; omega
        · have HNX : Sec (Leads s t (k + 1) o2) := ⟨hL2.out.1.next hL2.out.2.1 (fun t2 hg q hq => hL2.out.2.2 q (by rw [List.take_of_length_le (by omega)]; exact HMA.out t2 hg q hq))⟩
          go_wp2
          go_roundw
          case rel => exact ⟨k + 1, o2, by omega, by go_num, ⟨Kd.R_mono hR2.out (fun q h _ => h.1)⟩, HNX, ⟨hb2.out.1⟩⟩
          case measure => simp [intOf]; omega
    · have HF : Sec (∀ x, bget s x = none → (x ∈ out ↔ vin x (sub (sig s) t))) := ⟨fun x hx => hL.out.fin HS.out (by omega) hx⟩
      go_wp2
      go_ret
      exact ⟨_, out, rfl, hR.out, HF.out, hb.out⟩
end
section
open Go.RowKit
set_option linter.unusedVariables false
set_option maxRecDepth 100000
/-- What a way of the reference's unification leaves. -/
def SPost (w w' : World) (own : Option Nat) (okE : Nat → Prop) (e : Ending) (r : Option (List Bind)) : Prop := Foot (fun k => own = some k) w w' ∧
  (match r with
   | none => ∃ v0, e = .returned (.tuple #[v0, .bool false])
   | some s1 => ∃ (v1 : Value) (okF : Nat → Prop), e = .returned (.tuple #[v1, .bool true]) ∧ (∀ k, okF k → w.heap.size ≤ k ∧ k < w'.heap.size) ∧ kBind.W w' (fun k => (own = some k ∨ w.heap.size ≤ k) ∧ ¬ okF k) (fun k => okE k ∨ okF k) v1 s1)
theorem W_self {α : Type} {d : Kd α} {w : World} {S ok : Nat → Prop} {v : Value} {xs : List α} (h : d.W w S ok v xs) : d.W w (fun k => v.ownBlock = some k) ok v xs := by
  obtain ⟨h0, ⟨rfl, rfl⟩ | ⟨b, cap, cur, rfl, hb, hS, h1, h2, h3, h4⟩⟩ := h
  · exact Kd.W_nil _ _ _ _
  · exact ⟨h0, .inr ⟨b, cap, cur, rfl, hb, by simp [Value.ownBlock], h1, h2, h3, h4⟩⟩
theorem spost_own {w w2 w3 w4 : World} {S okE : Nat → Prop} {v v1 : Value} {s s1 : List Bind} (h : kBind.W w S okE v s) (b2 : Below w.heap.size w w2) (b3 : Below w2.heap.size w2 w3) (hg : w3.grownBy w4 v.ownBlock)
    (hW : kBind.W w4 (fun k => v.ownBlock = some k ∨ w3.heap.size ≤ k) (fun k => okE k ∨ (w2.heap.size ≤ k ∧ k < w3.heap.size)) v1 s1) : SPost w w4 v.ownBlock okE (.returned (.tuple #[v1, .bool true])) (some s1) := by
  obtain ⟨_, _, _, hS⟩ := Kd.W_own h
  have e2 := b2.size
  have e3 := b3.size
  have e4 := hg.size
  refine ⟨(Foot.of_below (S := fun k => v.ownBlock = some k) (bel b2 b3)).trans (S' := fun k => v.ownBlock = some k) (foot_grown hg (fun k e => e)) (fun _ _ h => h), v1, fun k => w2.heap.size ≤ k ∧ k < w3.heap.size, rfl, fun k h => by omega, ?_⟩
  refine Kd.W_move (Keeps.mono fun k hk _ => ?_) (Keeps.mono fun k hk _ => hk) hW
  rcases hk with hk | hk
  · exact ⟨.inl hk, fun h => by have := (hS k hk).2; omega⟩
  · exact ⟨.inr (by omega), fun h => by omega⟩
theorem W_later2 {w w2 w3 : World} {S okE : Nat → Prop} {v : Value} {s : List Bind} (h : kBind.W w S okE v s) (b2 : Below w.heap.size w w2) (b3 : Below w2.heap.size w2 w3) :
    kBind.W w3 (fun k => v.ownBlock = some k) (fun k => okE k ∨ (w2.heap.size ≤ k ∧ k < w3.heap.size)) v s :=
  Kd.W_move (fun k hk hl => ⟨hk, (bel b2 b3).block k hl⟩) (fun k hk hl => ⟨.inl hk, (bel b2 b3).block k hl⟩) (W_self h)
theorem K_later2 {w w2 w3 : World} {S okE : Nat → Prop} {v : Value} {s : List Bind} {p : Bind} {cs : List Value} (h : kBind.W w S okE v s) (b2 : Below w.heap.size w w2)
    (hp : kBind.K w3 (fun k => w2.heap.size ≤ k ∧ k < w3.heap.size) p cs) : kBind.K w3 (fun k => (okE k ∨ (w2.heap.size ≤ k ∧ k < w3.heap.size)) ∧ some k ≠ v.ownBlock) p cs := by
  obtain ⟨_, _, _, hS⟩ := Kd.W_own h
  refine Kd.K_mono hp (fun k hk => ⟨.inr hk, fun e => ?_⟩)
  have := (hS k e.symm).2
  have := b2.size
  omega
set_option maxHeartbeats 2000000 in
theorem l2Bind_c {s : List Bind} (hs : BOk s) (n : Nat) (x : Int) (hx : bget s x = none) (val v : Value) (t : Term) (S okE : Nat → Prop) (w : World) (hU : kBind.W w S okE val s) (hT : kCell.V w okE v t) (ht : trmOk t = true) (r : Option (List Bind)) (h : bindF s n x t = some r) :
    Calls Tryz.prog 78 #[val, .int .i64 x, v] w fun e w' => SPost w w' val.ownBlock okE e r := by
  have hr := bindF_eq hs ht h
  have HLEN := Sec.mk hs.len
  have HT := Sec.mk hT
  have HU := Sec.mk hU
  have HX := Sec.mk hx
  have HC := Sec.mk (l2Leads_c val v s t _ okE w hs (W_BV2 hU) hT ht)
  have htl := trmOk_len ht
  obtain ⟨Ab, cb, rfl, -, -, -⟩ := Kd.W_form hU
  obtain ⟨At, ct, rfl, -⟩ := hT
  clear h hx hs hU
  cases hc : vinB x (sub (sig s) t) with
  | true =>
    have HE := Sec.mk (vinB_iff.1 hc)
    have HR : Sec (r = none) := ⟨by rw [hr, if_pos hc]⟩
    clear hr hc
    go_enter Tryz.func78, Tryz.ntmps78
    go_wp2_with (first | (go_at_call 91; refine (l1Has_c _ l x _ _ (Kd.R_V RL.out)).mono ?_; rw [decide_eq_true HM.out]; rintro e w' ⟨rfl, rfl⟩) | (go_at_call 93; refine HC.out.mono ?_; rintro e w1 ⟨u, l, rfl, hRl, hl, hb⟩; have RL := Sec.mk hRl; have HM : Sec (x ∈ l) := ⟨(hl x HX.out).2 HE.out⟩; have B1 := Sec.mk hb; clear hRl hl hb))
    refine bodyPost_ret (v := .tuple #[.slice (some ⟨w1.heap.size, 0, none⟩) 0 0, .bool false]) (by simp [results, Tryz.results78, go_sem]) rfl ?_
    rw [HR.out]
    have b2 := belA B1.out (.cells #[] 110)
    exact ⟨Foot.of_below b2, _, rfl⟩
  | false =>
    have HE : Sec (¬ vin x (sub (sig s) t)) := ⟨fun h => by rw [vinB_iff.2 h] at hc; cases hc⟩
    have HR : Sec (r = some (s ++ [⟨x, t⟩])) := ⟨by rw [hr, hc]; rfl⟩
    clear hr hc
    go_enter Tryz.func78, Tryz.ntmps78
    go_wp2_with (first | (go_at_call 91; refine (l1Has_c _ l x _ _ (Kd.R_V RL.out)).mono ?_; rw [decide_eq_false HM.out]; rintro e w' ⟨rfl, rfl⟩) | (go_at_call 93; refine HC.out.mono ?_; rintro e w1 ⟨u, l, rfl, hRl, hl, hb⟩; have RL := Sec.mk hRl; have HM : Sec (¬ x ∈ l) := ⟨fun h => HE.out ((hl x HX.out).1 h)⟩; have B1 := Sec.mk hb; have V1 := Sec.mk (Kd.V_below HT.out hb (by decide)); clear hRl hl hb) | (at_builtin; refine Kd.W_cat kCell rfl (.tmp 16) (.tmp 17) 30 (.agg #[.int .i64 0, .int .i64 0, .string ⟨#[]⟩]) 32 rfl Tryz.underlying30 info_cell rfl (by decide) (by decide) (.slice (some ⟨w1.heap.size, 0, none⟩) 0 0) (.slice At t.length ct) [] t (fun k => w1.heap.size ≤ k) (fun k => k < w1.heap.size) rfl rfl (Kd.W_empty kCell w1 _ _ (Nat.le_refl _)) (Kd.V_move (fun k hk hl => ⟨⟨hl, fun e => absurd (show k = w1.heap.size by simpa [Value.ownBlock] using e) (by omega)⟩, Below.heap_alloc _ _ _ hl⟩) V1.out (by decide)) (by simpa using (show t.length ≤ 1073741824 by omega)) ?_; intro v1 w3 hW hg; have hRc := kCell_W_R hW; rw [List.nil_append] at hRc; obtain ⟨Ac, cc, rfl, -, -⟩ := Kd.R_form hRc; have D3 := Sec.mk ((belA (Below.refl w1.heap.size w1) _).grown hg (by simp) (fun k e => Nat.le_of_eq (show w1.heap.size = k by simpa [Value.ownBlock] using e))); have K3 : Sec (kBind.K w3 (fun k => w1.heap.size ≤ k ∧ k < w3.heap.size) ⟨x, t⟩ [.int .i64 x, .slice Ac t.length cc]) := ⟨kBind_mkK (Kd.V_move (fun k h1 h2 => ⟨⟨h1.elim id (fun h => by simp at h; omega), h2⟩, rfl⟩) (Kd.R_V hRc) (by decide))⟩; clear hW hg hRc) | (at_builtin; refine Kd.W_app kBind rfl (.tmp 14) (.tmp 20) 85 (.agg #[.int .i64 0, .slice none 0 0]) 32 rfl Tryz.underlying85 info_bnd rfl (by decide) (by decide) _ s ⟨x, t⟩ [.int .i64 x, .slice Ac t.length cc] (fun k => (Value.slice Ab s.length cb).ownBlock = some k) (fun k => okE k ∨ (w1.heap.size ≤ k ∧ k < w3.heap.size)) rfl rfl rfl (W_later2 HU.out B1.out D3.out) (K_later2 HU.out B1.out K3.out) (by have := HLEN.out; omega) ?_; intro v1 w4 hW4 hg4; have W4 := Sec.mk hW4; have G4 := Sec.mk hg4; clear hW4 hg4))
    refine bodyPost_ret (v := .tuple #[v1, .bool true]) (by simp [results, Tryz.results78, go_sem]) rfl ?_
    rw [HR.out]
    exact spost_own HU.out B1.out D3.out G4.out W4.out
end
section
open Go.RowKit
set_option linter.unusedVariables false
set_option maxRecDepth 100000
/-- Where an argument begins. -/
def offs (L : List Term) (k : Nat) : Nat := 1 + (L.take k).flatten.length
theorem offs_succ {L : List Term} {k : Nat} (hk : k < L.length) : offs L (k + 1) = offs L k + L[k].length := by
  unfold offs
  rw [List.take_succ_eq_append_getElem hk, List.flatten_append, List.length_append]
  simp
  omega
theorem args_split {c : Cell} {r : Term} {L : List Term} (h : Trm (c :: r)) (hL : args (c :: r) = L) (k : Nat) : c :: r = (c :: (L.take k).flatten) ++ (L.drop k).flatten := by
  have h1 := h.eq.1
  rw [hL] at h1
  rw [List.cons_append, ← List.flatten_append, List.take_append_drop, ← h1]
theorem endAt_offs {c : Cell} {r : Term} {L : List Term} (h : Trm (c :: r)) (hL : args (c :: r) = L) {k : Nat} (hk : k < L.length) : endAt (c :: r) (offs L k) = (offs L (k + 1) : Int) := by
  have h1 := args_split h hL k
  have hlen : (c :: (L.take k).flatten).length = offs L k := by unfold offs; simp; omega
  have hd : (c :: r).drop (offs L k) = (L.drop k).flatten := by
    rw [h1, ← hlen, List.drop_left]
  have ha : Trm L[k] := by
    have := h.eq.2.2
    rw [hL] at this
    exact this _ (List.getElem_mem hk)
  unfold endAt
  rw [hd, List.drop_eq_getElem_cons hk, List.flatten_cons, ha.skip]
  have h2 := args_split h hL (k + 1)
  have hlen2 : (c :: (L.take (k + 1)).flatten).length = offs L (k + 1) := by unfold offs; simp; omega
  have h3 := congrArg List.length h2
  rw [List.length_append, hlen2] at h3
  show ((c :: r).length : Int) - ((L.drop (k + 1)).flatten.length : Int) = _
  omega
set_option maxHeartbeats 1000000 in
theorem l1Arg_c (v : Value) (c : Cell) (r : Term) (L : List Term) (k : Nat) (ok : Nat → Prop) (w : World) (hV : kCell.V w ok v (c :: r)) (ht : trmOk (c :: r) = true) (hL : args (c :: r) = L) (hk : k < L.length) (hk3 : c.kind = 3) :
    Calls Tryz.prog 79 #[v, .int .i64 k] w fun e w' => ∃ u, e = .returned u ∧ kCell.R w' (fun k => w.heap.size ≤ k) u L[k] ∧ Below w.heap.size w w' := by
  have HTR := Sec.mk (trmOk_Trm ht)
  have HL := Sec.mk hL
  have htl := trmOk_len ht
  have hcn : (L.length : Int) = c.n := by
    have h1 := (trmOk_Trm ht).eq.2.1
    rw [hL] at h1
    have h2 := (cellOk_arity (trmOk_cell ht List.mem_cons_self)).2 hk3
    rw [h1]
    unfold arity
    rw [if_pos hk3]
    omega
  have hk4 : k < 4 := by
    have h1 := (trmOk_Trm ht).eq.2.1
    rw [hL] at h1
    have h2 := (cellOk_arity (trmOk_cell ht List.mem_cons_self)).1
    omega
  have HALL : Sec ((c :: r).all cellOk = true) := ⟨List.all_eq_true.2 (fun x hx => trmOk_cell ht hx)⟩
  have HV := Sec.mk hV
  obtain ⟨b, off, cp, rfl, i0, c0, c1, c2⟩ := cV_cons hV
  have hlen : (c :: (L.take k).flatten).length = offs L k := by unfold offs; simp; omega
  have hsp := args_split (trmOk_Trm ht) hL k
  rw [List.drop_eq_getElem_cons hk, List.flatten_cons] at hsp
  have hla := congrArg List.length hsp
  rw [List.length_append, List.length_append, hlen] at hla
  have hos := offs_succ hk
  have hla2 : L[k].length ≠ 0 := by
    have := (trmOk_Trm ht).eq.2.2
    rw [hL] at this
    have := (this _ (List.getElem_mem hk)).ne
    exact fun e => this (List.eq_nil_of_length_eq_zero e)
  have HVA := Sec.mk hV
  rw [show r.length + 1 = (c :: r).length from rfl] at HVA
  have hva := HVA.out
  rw [hsp] at hva
  have hva2 := cV_take (cV_from hva)
  rw [hlen] at hva2
  have HVX := Sec.mk hva2
  have d1 : (c.kind != 3) = false := by rw [bne_eq_false_iff_eq]; exact hk3
  have d2 : ((k : Int) < 0) = False := eq_false (by omega)
  have d3 : ((k : Int) ≥ c.n) = False := eq_false (by omega)
  have i1 : (0 : Int) < ((r.length + 1 : Nat) : Int) := by omega
  have HOS := Sec.mk hos
  have HEQ : Sec (∀ i, i < L.length → endAt (c :: r) (offs L i) = (offs L (i + 1) : Int)) := ⟨fun i hi => endAt_offs HTR.out HL.out hi⟩
  have hrl : r.length + 1 ≤ 40 := htl.2
  have hol : Sec (∀ i, i ≤ L.length → offs L i ≤ r.length + 1) := ⟨fun i hi => by
    have h1 := congrArg List.length (args_split HTR.out HL.out i)
    rw [List.length_append] at h1
    have : (c :: (L.take i).flatten).length = offs L i := by unfold offs; simp; omega
    rw [this] at h1
    simp only [List.length_cons] at h1
    omega⟩
  have hC : Sec (kCell.C w ok (some ⟨b, off, none⟩) (c :: r)) := ⟨Kd.V_C HVA.out⟩
  simp only [List.length_cons] at hla
  have HLA := Sec.mk hla
  have hofl : Sec (offs L k + L[k].length ≤ r.length + 1) := ⟨by omega⟩
  clear hla hva hva2 hsp htl hV ht hL HVA hk3 hcn hos
  go_enter Tryz.func79, Tryz.ntmps79
  go_wp2
  go_loop [5, 6] (fun av jv => ∃ i : Nat, i ≤ k ∧ jv = .int .i64 i ∧ av = .int .i64 (offs L i)) (fun _ jv => k - (intOf jv).toNat)
  case atStart => exact ⟨0, Nat.zero_le _, rfl, by simp [offs]⟩
  case round =>
    obtain ⟨i, hi, rfl, rfl⟩ := hrel
    by_cases hlt : i < k
    · have he := Sec.mk (HEQ.out i (by omega))
      have ho := hol.out i (by omega)
      have HLE := Sec.mk (l1End_c (some ⟨b, off, none⟩) cp (c :: r) ok (offs L i) w hC.out (by simp; omega) (by simpa using ho) HALL.out)
      have HI : Sec (i + 1 ≤ k ∧ k - (i + 1) < k - i) := ⟨by omega, by omega⟩
      clear ho
      go_wp2_with (go_at_call 65; refine HLE.out.mono ?_; rw [he.out]; rintro e w' ⟨rfl, rfl⟩)
      go_round
      case rel => exact ⟨i + 1, HI.out.1, by go_num, rfl⟩
      case measure => have := HI.out; simp [intOf]; omega
    · obtain rfl : i = k := by omega
      have he : Sec (endAt (c :: r) (offs L i) = ((offs L i + L[i].length : Nat) : Int)) := ⟨by rw [HEQ.out i hk, HOS.out]⟩
      have ho := hol.out i (by omega)
      have HLE := Sec.mk (l1End_c (some ⟨b, off, none⟩) cp (c :: r) ok (offs L i) (w.alloc (.cells #[] 77)) (Kd.C_below hC.out (belA (Below.refl _ _) _) (by decide)) (by simp; omega) (by simpa using ho) HALL.out)
      have hnl : Sec (L[i].length ≤ 1073741824) := ⟨by obtain ⟨_, _, _, _, _, h, _⟩ := HVX.out; exact h⟩
      have hcp : r.length + 1 ≤ cp := by obtain ⟨_, _, e, h, _⟩ := HV.out; simp only [Value.slice.injEq] at e; obtain ⟨-, -, rfl⟩ := e; exact h
      have hofl2 := hofl.out
      clear ho d2 d3
      generalize offs L i = P at *
      generalize hl1 : L[i] = l1 at *
      have HL1 := Sec.mk hl1
      clear hl1
      generalize hnn : l1.length = nn at *
      have j1 : (P : Int) ≤ ((P + nn : Nat) : Int) := by omega
      have j2 : ((P + nn : Nat) : Int) ≤ (cp : Int) := by omega
      have j3 : (cp = P) = False := eq_false (by omega)
      have j4 : ((P + nn) - P) = nn := by omega
      have HNN := Sec.mk hnn
      clear hnn
      go_wp2_with (first | (go_at_call 65; refine HLE.out.mono ?_; rw [he.out]; rintro e w' ⟨rfl, rfl⟩) | (at_builtin; refine Kd.W_cat kCell rfl (.tmp 33) (.tmp 39) 30 (.agg #[.int .i64 0, .int .i64 0, .string ⟨#[]⟩]) 32 rfl Tryz.underlying30 info_cell rfl (by decide) (by decide) (.slice (some ⟨w.heap.size, 0, none⟩) 0 0) (.slice (some ⟨b, off + P * 3, none⟩) (P + nn - P) (cp - P)) [] l1 (fun k => w.heap.size ≤ k) (fun k => k < w.heap.size) rfl rfl (Kd.W_empty kCell w _ _ (Nat.le_refl _)) (by rw [Nat.add_sub_cancel_left]; exact Kd.V_move (fun k hk hl => ⟨⟨hl, fun e => absurd (show k = w.heap.size by simpa [Value.ownBlock] using e) (by omega)⟩, Below.heap_alloc _ _ _ hl⟩) HVX.out (by decide)) (by have h1 := hnl.out; have h2 := HNN.out; rw [h2]; simpa using h1) ?_; intro v1 w1 hW hg; have HR := Sec.mk (kCell_W_R hW); have HB := Sec.mk ((belA (Below.refl w.heap.size w) _).grown hg (by simp) (fun k e => Nat.le_of_eq (show w.heap.size = k by simpa [Value.ownBlock] using e))); clear hW hg))
      go_ret
      refine ⟨v1, rfl, ?_, HB.out⟩
      have h9 := HR.out
      rw [List.nil_append] at h9
      rw [HL1.out]
      exact Kd.R_mono h9 (fun k h _ => by
        rcases h with h | h
        · exact h
        · simp at h; omega)
end
end Go.Proofs.YteflipoiiddkfaaGreatDoor
