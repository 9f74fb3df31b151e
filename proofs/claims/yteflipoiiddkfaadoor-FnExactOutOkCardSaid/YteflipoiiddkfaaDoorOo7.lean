/- Contract: whether an outcome may be one of a question (the program); and what goes with it. -/
import Derived.Test.YteflipoiiddkfaaDoorOo2
import Derived.Test.YteflipoiiddkfaaDoorOo3
import Derived.Test.YteflipoiiddkfaaDoorOo4
import Derived.Test.YteflipoiiddkfaaDoorOo5
import Derived.Test.YteflipoiiddkfaaDoorOo6
import Derived.Deep.RegionHeld3
namespace Go.Proofs.YteflipoiiddkfaaDoor
section
open Go.RowKit
set_option linter.unusedVariables false
set_option maxRecDepth 100000
theorem UPost.is {w w' : World} {B : Nat} {okE : Nat → Prop} {e : Ending} {r : Option (List Bind)} (h : UPost w w' B okE e r) : ∃ v, e = .returned (.tuple #[v, .bool r.isSome]) ∧ Below B w w' := by
  obtain ⟨_, _, _, _, hb, h⟩ := h
  cases r with
  | none => exact ⟨_, h, hb⟩
  | some s1 => obtain ⟨v1, h, _⟩ := h; exact ⟨_, h, hb⟩
theorem unify0 {w : World} {ok ok2 : Nat → Prop} {va vb : Value} {a b : Term} (hA : kCell.V w ok va a) (hB : kCell.V w ok2 vb b) (ha : trmOk a = true) (hb : trmOk b = true) :
    Calls Tryd.prog 39 #[.slice none 0 0, va, vb] w fun e w' => ∃ v, e = .returned (.tuple #[v, .bool (sameU a b)]) ∧ Below w.heap.size w w' := by
  obtain ⟨n, r, h, _⟩ := uni_total BOk.nil ha hb
  refine (unify_i n _ va vb [] a b w.heap.size (fun k => k < w.heap.size) w r BOk.nil (.inl ⟨none, rfl, none, 0, rfl, Nat.le_refl _, by simp [maxLen], by simp, .inl rfl⟩) (Kd.V_move (fun k _ hl => ⟨hl, rfl⟩) hA (by decide)) (Kd.V_move (fun k _ hl => ⟨hl, rfl⟩) hB (by decide)) ha hb (fun k h => h) (Nat.le_refl _) h).mono ?_
  intro e w' hp
  rw [← sameU_eq h]
  exact hp.is
theorem TrmOk_b {v : Value} {t : Term} {ok : Nat → Prop} {w : World} {b : Bool} (hV : kCell.V w ok v t) (h : trmOk t = b) : Calls Tryd.prog 37 #[v] w fun e w' => e = .returned (.bool b) ∧ Below w.heap.size w w' := by
  rw [← h]; exact TrmOk_i v t ok w hV
theorem TrmSame_b {v u : Value} {t s : Term} {ok ok' : Nat → Prop} {w : World} {b : Bool} (hV : kCell.V w ok v t) (hU : kCell.V w ok' u s) (h : decide (t = s) = b) : Calls Tryd.prog 15 #[v, u] w fun e w' => e = .returned (.bool b) ∧ Below w.heap.size w w' := by
  rw [← h]; exact TrmSame_i v u t s ok ok' w hV hU
set_option maxHeartbeats 16000000 in
theorem OutOk_i (v u : Value) (top t : Term) (st : Int) (ok : Nat → Prop) (w : World) (hV : kCell.V w ok v top) (hT : kCell.V w ok u t) :
    Calls Tryd.prog 11 #[v, .agg #[.int .i64 st, u]] w fun e w' => e = .returned (.bool (outOk top st t)) ∧ Below w.heap.size w w' := by
  obtain ⟨Au, cu, rfl, -⟩ := id hT
  have b0 : Below w.heap.size w (w.alloc (.cells #[.int .i64 st, .slice Au t.length cu] 31)) := belA (Below.refl _ _) _
  have HW : Sec (∀ W, Below (w.alloc (.cells #[.int .i64 st, .slice Au t.length cu] 31)).heap.size (w.alloc (.cells #[.int .i64 st, .slice Au t.length cu] 31)) W → W.cell? ⟨w.heap.size, 0, none⟩ = some (.int .i64 st) ∧ W.cell? ⟨w.heap.size, 1, none⟩ = some (.slice Au t.length cu)) := ⟨fun W h => by
    have X := (box_at ((h.block _ (Array.getElem?_eq_some_iff.1 (heap_alloc_new w (.cells #[.int .i64 st, .slice Au t.length cu] 31))).1).trans (heap_alloc_new w _))).2.1
    exact ⟨X 0 _ rfl, X 1 _ rfl⟩⟩
  have HT : Sec (∀ W, Below (w.alloc (.cells #[.int .i64 st, .slice Au t.length cu] 31)).heap.size (w.alloc (.cells #[.int .i64 st, .slice Au t.length cu] 31)) W → kCell.V W ok (.slice Au t.length cu) t) := ⟨fun W h => Kd.V_below hT (bel b0 h) (by decide)⟩
  have HV : Sec (∀ W, Below (w.alloc (.cells #[.int .i64 st, .slice Au t.length cu] 31)).heap.size (w.alloc (.cells #[.int .i64 st, .slice Au t.length cu] 31)) W → kCell.V W ok v top) := ⟨fun W h => Kd.V_below hV (bel b0 h) (by decide)⟩
  have BB : Sec (∀ W, Below (w.alloc (.cells #[.int .i64 st, .slice Au t.length cu] 31)).heap.size (w.alloc (.cells #[.int .i64 st, .slice Au t.length cu] 31)) W → Below w.heap.size w W) := ⟨fun W h => bel b0 h⟩
  have hlen : t.length ≤ 1073741824 := by obtain ⟨_, _, _, _, _, h, _⟩ := hT; exact h
  obtain ⟨Av, cv, rfl, -⟩ := id hV
  clear hT hV b0
  cases hq : question top with
  | false =>
    have HE : Sec (outOk top st t = false) := ⟨by unfold outOk; rw [hq]; rfl⟩
    have HQ := Sec.mk hq
    clear hq
    go_enter Tryd.func11, Tryd.ntmps11
    go_wp2_with (go_at_call 35; refine (isQuestion_i _ top ok _ (HV.out _ (Below.refl _ _))).mono ?_; rw [HQ.out]; rintro e w1 ⟨rfl, hb⟩; have B1 := Sec.mk hb; clear hb)
    go_ret
    exact ⟨rb HE.out.symm, BB.out _ B1.out⟩
  | true =>
    have HQ := Sec.mk hq
    clear hq
    cases hi : inB st 3 5 with
    | true =>
      have HI := Sec.mk hi
      have HE : Sec (outOk top st t = ((t.length : Int) == 0)) := ⟨by
        unfold outOk
        have h2 : st ≠ 2 := by rintro rfl; simp [inB] at hi
        rw [HQ.out, if_neg h2, hi, Bool.true_and, Bool.true_and]
        cases t with
        | nil => rfl
        | cons c r => simp; omega⟩
      clear hi
      go_enter Tryd.func11, Tryd.ntmps11
      go_wp2_with (first | (go_at_call 35; refine (isQuestion_i _ top ok _ (HV.out _ (Below.refl _ _))).mono ?_; rw [HQ.out]; rintro e w1 ⟨rfl, hb⟩; have B1 := Sec.mk hb; obtain ⟨p0, p1⟩ := HW.out _ hb; clear hb) | (go_at_call 36; refine (in_c _ _ _ _).mono ?_; rw [HI.out]; rintro e w' ⟨rfl, rfl⟩))
      go_ret
      exact ⟨rb HE.out.symm, BB.out _ B1.out⟩
    | false =>
      have HI := Sec.mk hi
      clear hi
      by_cases h2 : st = 2
      · have d2 : (st != 2) = false := by rw [bne_eq_false_iff_eq]; exact h2
        have H2 := Sec.mk h2
        clear h2
        have D2 := Sec.mk d2
        clear d2
        cases ht : trmOk t with
        | false =>
          have HE : Sec (outOk top st t = false) := ⟨by unfold outOk; rw [HQ.out, if_pos H2.out, ht]; rfl⟩
          have HTT := Sec.mk ht
          clear ht
          go_enter Tryd.func11, Tryd.ntmps11
          go_wp2_with (first | (go_at_call 35; refine (isQuestion_i _ top ok _ (HV.out _ (Below.refl _ _))).mono ?_; rw [HQ.out]; rintro e wr ⟨rfl, hb⟩; have B1 := Sec.mk hb; obtain ⟨p0, p1⟩ := HW.out _ hb; have P0 := Sec.mk p0; have P1 := Sec.mk p1; have HTW := Sec.mk (HT.out _ hb); have HVW := Sec.mk (HV.out _ hb); clear hb) | (go_at_call 36; refine (in_c _ _ _ _).mono ?_; rw [HI.out]; rintro e w' ⟨rfl, rfl⟩))
          clear p0 p1
          refine wp_region_lists [[20], [21], [22], [23], [24], [25], [26], [27], [28], [29], [30], [31], [32], [33], [34], [35], [36], [37], [19]]
            [fun val _ _ => val 20 = .pointer (some ⟨w.heap.size, 0, none⟩),
              fun val _ _ => val 21 = .int .i64 st,
              fun val _ _ => val 22 = .bool false,
              fun val _ _ => val 23 = .bool false,
              fun val _ _ => val 24 = .pointer (some ⟨w.heap.size, 1, none⟩),
              fun val _ _ => val 25 = .slice Au t.length cu,
              fun val _ _ => val 26 = .bool false,
              fun val _ _ => val 27 = .bool true,
              fun val _ _ => val 28 = .bool true,
              fun val _ _ => val 29 = .bool true,
              fun val _ _ => val 30 = undef,
              fun val _ _ => val 31 = undef,
              fun val _ _ => val 32 = undef,
              fun val _ _ => val 33 = undef,
              fun val _ _ => val 34 = undef,
              fun val _ _ => val 35 = undef,
              fun val _ _ => val 36 = undef,
              fun val _ _ => val 37 = .bool true,
              fun val _ _ => val 19 = .bool true]
            [[], [], [], [], [], [], [], [], [], [], [], [], [], [], [], [], [], [], []] 0 (fun _ => False) (fun _ _ => False) (by kernel_rfl) ⟨by kernel_rfl, by kernel_rfl, by kernel_rfl, by kernel_rfl, by kernel_rfl⟩
            (.cons (stab_val 20 (fun v => v = .pointer (some ⟨w.heap.size, 0, none⟩))) (.cons (stab_val 21 (fun v => v = .int .i64 st)) (.cons (stab_val 22 (fun v => v = .bool false)) (.cons (stab_val 23 (fun v => v = .bool false)) (.cons (stab_val 24 (fun v => v = .pointer (some ⟨w.heap.size, 1, none⟩))) (.cons (stab_val 25 (fun v => v = .slice Au t.length cu)) (.cons (stab_val 26 (fun v => v = .bool false)) (.cons (stab_val 27 (fun v => v = .bool true)) (.cons (stab_val 28 (fun v => v = .bool true)) (.cons (stab_val 29 (fun v => v = .bool true)) (.cons (stab_val 30 (fun v => v = undef)) (.cons (stab_val 31 (fun v => v = undef)) (.cons (stab_val 32 (fun v => v = undef)) (.cons (stab_val 33 (fun v => v = undef)) (.cons (stab_val 34 (fun v => v = undef)) (.cons (stab_val 35 (fun v => v = undef)) (.cons (stab_val 36 (fun v => v = undef)) (.cons (stab_val 37 (fun v => v = .bool true)) (.cons (stab_val 19 (fun v => v = .bool true)) .nil)))))))))))))))))))
            (fun i j k h1 h2 => h1.elim) (fun i k h => h.elim) (fun i h1 h2 => by simp at h1 h2; omega) (.cons ?_ (.cons ?_ (.cons ?_ (.cons ?_ (.cons ?_ (.cons ?_ (.cons ?_ (.cons ?_ (.cons ?_ (.cons ?_ (.cons ?_ (.cons ?_ (.cons ?_ (.cons ?_ (.cons ?_ (.cons ?_ (.cons ?_ (.cons ?_ (.cons ?_ .nil))))))))))))))))))) ?_
          · intro a W own hfor huse hap hmi hF K hK
            have e3 : a.eval (.tmp 3) = .pointer (some ⟨w.heap.size, 0, none⟩) := hfor 3 (by kernel_rfl)
            refine op_val (.pointer (some ⟨w.heap.size, 0, none⟩)) W rfl ?_ (hK _ _ (post_pure ?_))
            · clear hfor huse hap hmi hK hF
              generalize a.eval = ρ at *
              go_simp
            · exact (if_pos rfl)
          · intro a W own hfor huse hap hmi hF K hK
            have e20 : a.eval (.tmp 20) = .pointer (some ⟨w.heap.size, 0, none⟩) := huse 0 (by kernel_rfl)
            have c0 := foot_cell hF (fun h => h) P0.out
            refine op_val (.int .i64 st) W rfl ?_ (hK _ _ (post_pure ?_))
            · clear hfor huse hap hmi hK hF
              generalize a.eval = ρ at *
              go_simp
            · exact (if_pos rfl)
          · intro a W own hfor huse hap hmi hF K hK
            have e21 : a.eval (.tmp 21) = .int .i64 st := huse 1 (by kernel_rfl)
            have ec23 : a.eval (.const (.int .i64 2)) = .int .i64 2 := rfl
            have d2 := D2.out
            refine op_val (.bool false) W rfl ?_ (hK _ _ (post_pure ?_))
            · clear hfor huse hap hmi hK hF
              generalize a.eval = ρ at *
              go_simp
            · exact (if_pos rfl)
          · intro a W own hfor huse hap hmi hF K hK
            have e22 : a.eval (.tmp 22) = .bool false := huse 2 (by kernel_rfl)
            refine op_val (.bool false) W rfl ?_ (hK _ _ (post_pure ?_))
            · clear hfor huse hap hmi hK hF
              generalize a.eval = ρ at *
              go_simp
            · exact (if_pos rfl)
          · intro a W own hfor huse hap hmi hF K hK
            have e3 : a.eval (.tmp 3) = .pointer (some ⟨w.heap.size, 0, none⟩) := hfor 3 (by kernel_rfl)
            have e23 : a.eval (.tmp 23) = .bool false := huse 3 (by kernel_rfl)
            refine gop_val (.pointer (some ⟨w.heap.size, 1, none⟩)) W (want_yes (j := 3) (b := false) rfl (yield_of (t := 23) rfl rfl e23)) ?_ (hK _ _ (post_pure ?_))
            · clear hfor huse hap hmi hK hF
              generalize a.eval = ρ at *
              go_simp
            · exact (if_pos rfl)
          · intro a W own hfor huse hap hmi hF K hK
            have e24 : a.eval (.tmp 24) = .pointer (some ⟨w.heap.size, 1, none⟩) := huse 4 (by kernel_rfl)
            have e23 : a.eval (.tmp 23) = .bool false := huse 3 (by kernel_rfl)
            have c1 := foot_cell hF (fun h => h) P1.out
            refine gop_val (.slice Au t.length cu) W (want_yes (j := 3) (b := false) rfl (yield_of (t := 23) rfl rfl e23)) ?_ (hK _ _ (post_pure ?_))
            · clear hfor huse hap hmi hK hF
              generalize a.eval = ρ at *
              go_simp
            · exact (if_pos rfl)
          · intro a W own hfor huse hap hmi hF K hK
            have e25 : a.eval (.tmp 25) = .slice Au t.length cu := huse 5 (by kernel_rfl)
            have e23 : a.eval (.tmp 23) = .bool false := huse 3 (by kernel_rfl)
            have hvt := foot_V hF (fun _ _ h => h) HTW.out (by decide)
            have efn : a.eval (.func 37) = .func (.func 37) #[] #[] := rfl
            refine gop_call (f := 37) (args := #[.slice Au t.length cu]) (fun v w1 => v = .bool false ∧ Below W.heap.size W w1) (want_yes (j := 3) (b := false) rfl (yield_of (t := 23) rfl rfl e23)) ?_ ?_ (fun v w1 h => ?_)
            · clear hfor huse hap hmi hK hF
              generalize a.eval = ρ at *
              go_simp
            · exact (TrmOk_b hvt HTT.out).mono (by rintro e w1 ⟨rfl, h2⟩; exact ⟨_, rfl, rfl, h2⟩)
            · obtain ⟨rfl, h2⟩ := h
              exact hK _ _ (post_new h2 (if_pos rfl))
          · intro a W own hfor huse hap hmi hF K hK
            have e26 : a.eval (.tmp 26) = .bool false := huse 6 (by kernel_rfl)
            have e23 : a.eval (.tmp 23) = .bool false := huse 3 (by kernel_rfl)
            refine gop_val (.bool true) W (want_yes (j := 3) (b := false) rfl (yield_of (t := 23) rfl rfl e23)) ?_ (hK _ _ (post_pure ?_))
            · clear hfor huse hap hmi hK hF
              generalize a.eval = ρ at *
              go_simp
            · exact (if_pos rfl)
          · intro a W own hfor huse hap hmi hF K hK
            have e23 : a.eval (.tmp 23) = .bool false := huse 3 (by kernel_rfl)
            have e27 : a.eval (.tmp 27) = .bool true := huse 7 (by kernel_rfl)
            have ec33 : a.eval (.const (.bool true)) = .bool true := rfl
            refine op_val (.bool true) W rfl ?_ (hK _ _ (post_pure ?_))
            · clear hfor huse hap hmi hK hF
              generalize a.eval = ρ at *
              go_simp
            · exact (if_pos rfl)
          · intro a W own hfor huse hap hmi hF K hK
            have e28 : a.eval (.tmp 28) = .bool true := huse 8 (by kernel_rfl)
            refine op_val (.bool true) W rfl ?_ (hK _ _ (post_pure ?_))
            · clear hfor huse hap hmi hK hF
              generalize a.eval = ρ at *
              go_simp
            · exact (if_pos rfl)
          · intro a W own hfor huse hap hmi hF K hK
            have e29 : a.eval (.tmp 29) = .bool true := huse 9 (by kernel_rfl)
            refine gop_not (want_no (j := 9) (b := false) rfl (yield_of (t := 29) rfl rfl e29)) (hK _ _ (post_pure (if_pos rfl)))
          · intro a W own hfor huse hap hmi hF K hK
            have e29 : a.eval (.tmp 29) = .bool true := huse 9 (by kernel_rfl)
            refine gop_not (want_no (j := 9) (b := false) rfl (yield_of (t := 29) rfl rfl e29)) (hK _ _ (post_pure (if_pos rfl)))
          · intro a W own hfor huse hap hmi hF K hK
            have e29 : a.eval (.tmp 29) = .bool true := huse 9 (by kernel_rfl)
            refine gop_not (want_no (j := 9) (b := false) rfl (yield_of (t := 29) rfl rfl e29)) (hK _ _ (post_pure (if_pos rfl)))
          · intro a W own hfor huse hap hmi hF K hK
            have e29 : a.eval (.tmp 29) = .bool true := huse 9 (by kernel_rfl)
            refine gop_not (want_no (j := 9) (b := false) rfl (yield_of (t := 29) rfl rfl e29)) (hK _ _ (post_pure (if_pos rfl)))
          · intro a W own hfor huse hap hmi hF K hK
            have e29 : a.eval (.tmp 29) = .bool true := huse 9 (by kernel_rfl)
            refine gop_not (want_no (j := 9) (b := false) rfl (yield_of (t := 29) rfl rfl e29)) (hK _ _ (post_pure (if_pos rfl)))
          · intro a W own hfor huse hap hmi hF K hK
            have e29 : a.eval (.tmp 29) = .bool true := huse 9 (by kernel_rfl)
            refine gop_not (want_no (j := 9) (b := false) rfl (yield_of (t := 29) rfl rfl e29)) (hK _ _ (post_pure (if_pos rfl)))
          · intro a W own hfor huse hap hmi hF K hK
            have e29 : a.eval (.tmp 29) = .bool true := huse 9 (by kernel_rfl)
            refine gop_not (want_no (j := 9) (b := false) rfl (yield_of (t := 29) rfl rfl e29)) (hK _ _ (post_pure (if_pos rfl)))
          · intro a W own hfor huse hap hmi hF K hK
            have e29 : a.eval (.tmp 29) = .bool true := huse 9 (by kernel_rfl)
            have e36 : a.eval (.tmp 36) = undef := huse 16 (by kernel_rfl)
            have ec33 : a.eval (.const (.bool true)) = .bool true := rfl
            refine op_val (.bool true) W rfl ?_ (hK _ _ (post_pure ?_))
            · clear hfor huse hap hmi hK hF
              generalize a.eval = ρ at *
              go_simp
            · exact (if_pos rfl)
          · intro a W own hfor huse hap hmi hF K hK
            have e37 : a.eval (.tmp 37) = .bool true := huse 17 (by kernel_rfl)
            refine op_val (.bool true) W rfl ?_ (hK _ _ (post_pure ?_))
            · clear hfor huse hap hmi hK hF
              generalize a.eval = ρ at *
              go_simp
            · exact (if_pos rfl)
          intro a' W own hf
          have s1 := hf.st.size
          have s2 := hf.st.rest
          have s3 := fun t ht => hf.st.kept t ht
          revert hf
          revert a'
          refine lay_intro (df := []) [true, true, true, true, true, true, true, true, true, true, true, true, true, true, true, true, true, true, true, false, false, false, false, false, false, false, false, false, false, false, false, false, false, false, false, false, false, false, true, true, true, true, true, true, true, true, true, true, true, true] (by kernel_rfl) rfl ?_
          intro x37 x36 x35 x34 x33 x32 x31 x30 x29 x28 x27 x26 x25 x24 x23 x22 x21 x20 x19 hf
          have e19 : x19 = .bool true := hf.at 18 (fun val _ _ => val 19 = .bool true) rfl (by kernel_rfl)
          subst e19
          have HF := Sec.mk hf.st.foot
          have BF := Sec.mk (HF.out.below (belD B1.out) (fun k h => h.elim))
          clear hf HF
          go_wp2
          go_ret
          exact ⟨rb HE.out.symm, BB.out _ BF.out⟩
        | true =>
          have HTT := Sec.mk ht
          cases hc : decide (t = canon t) with
          | false =>
            have hc' : decide (canon t = t) = false := decide_eq_false (fun e => of_decide_eq_false hc e.symm)
            have HE : Sec (outOk top st t = false) := ⟨by unfold outOk; rw [HQ.out, if_pos H2.out, ht, hc']; rfl⟩
            have HCQ := Sec.mk hc
            clear ht hc hc'
            go_enter Tryd.func11, Tryd.ntmps11
            go_wp2_with (first | (go_at_call 35; refine (isQuestion_i _ top ok _ (HV.out _ (Below.refl _ _))).mono ?_; rw [HQ.out]; rintro e wr ⟨rfl, hb⟩; have B1 := Sec.mk hb; obtain ⟨p0, p1⟩ := HW.out _ hb; have P0 := Sec.mk p0; have P1 := Sec.mk p1; have HTW := Sec.mk (HT.out _ hb); have HVW := Sec.mk (HV.out _ hb); clear hb) | (go_at_call 36; refine (in_c _ _ _ _).mono ?_; rw [HI.out]; rintro e w' ⟨rfl, rfl⟩))
            clear p0 p1
            refine wp_region_lists [[20], [21], [22], [23], [24], [25], [26], [27], [28], [29], [30], [31], [32], [33], [34], [35], [36], [37], [19]]
              [fun val _ _ => val 20 = .pointer (some ⟨w.heap.size, 0, none⟩),
                fun val _ _ => val 21 = .int .i64 st,
                fun val _ _ => val 22 = .bool false,
                fun val _ _ => val 23 = .bool false,
                fun val _ _ => val 24 = .pointer (some ⟨w.heap.size, 1, none⟩),
                fun val _ _ => val 25 = .slice Au t.length cu,
                fun val _ _ => val 26 = .bool true,
                fun val _ _ => val 27 = .bool false,
                fun val _ _ => val 28 = .bool false,
                fun val _ _ => val 29 = .bool false,
                fun val _ _ => val 30 = .pointer (some ⟨w.heap.size, 1, none⟩),
                fun val _ _ => val 31 = .slice Au t.length cu,
                fun val _ _ => val 32 = .pointer (some ⟨w.heap.size, 1, none⟩),
                fun val _ _ => val 33 = .slice Au t.length cu,
                onR kCell 34 (canon t),
                fun val _ _ => val 35 = .bool false,
                fun val _ _ => val 36 = .bool true,
                fun val _ _ => val 37 = .bool true,
                fun val _ _ => val 19 = .bool true]
              [[], [], [], [], [], [], [], [], [], [], [], [], [], [], [], [], [], [], []] 0 (fun _ => False) (fun _ _ => False) (by kernel_rfl) ⟨by kernel_rfl, by kernel_rfl, by kernel_rfl, by kernel_rfl, by kernel_rfl⟩
              (.cons (stab_val 20 (fun v => v = .pointer (some ⟨w.heap.size, 0, none⟩))) (.cons (stab_val 21 (fun v => v = .int .i64 st)) (.cons (stab_val 22 (fun v => v = .bool false)) (.cons (stab_val 23 (fun v => v = .bool false)) (.cons (stab_val 24 (fun v => v = .pointer (some ⟨w.heap.size, 1, none⟩))) (.cons (stab_val 25 (fun v => v = .slice Au t.length cu)) (.cons (stab_val 26 (fun v => v = .bool true)) (.cons (stab_val 27 (fun v => v = .bool false)) (.cons (stab_val 28 (fun v => v = .bool false)) (.cons (stab_val 29 (fun v => v = .bool false)) (.cons (stab_val 30 (fun v => v = .pointer (some ⟨w.heap.size, 1, none⟩))) (.cons (stab_val 31 (fun v => v = .slice Au t.length cu)) (.cons (stab_val 32 (fun v => v = .pointer (some ⟨w.heap.size, 1, none⟩))) (.cons (stab_val 33 (fun v => v = .slice Au t.length cu)) (.cons (stab_R kCell 34 (canon t)) (.cons (stab_val 35 (fun v => v = .bool false)) (.cons (stab_val 36 (fun v => v = .bool true)) (.cons (stab_val 37 (fun v => v = .bool true)) (.cons (stab_val 19 (fun v => v = .bool true)) .nil)))))))))))))))))))
              (fun i j k h1 h2 => h1.elim) (fun i k h => h.elim) (fun i h1 h2 => by simp at h1 h2; omega) (.cons ?_ (.cons ?_ (.cons ?_ (.cons ?_ (.cons ?_ (.cons ?_ (.cons ?_ (.cons ?_ (.cons ?_ (.cons ?_ (.cons ?_ (.cons ?_ (.cons ?_ (.cons ?_ (.cons ?_ (.cons ?_ (.cons ?_ (.cons ?_ (.cons ?_ .nil))))))))))))))))))) ?_
            · intro a W own hfor huse hap hmi hF K hK
              have e3 : a.eval (.tmp 3) = .pointer (some ⟨w.heap.size, 0, none⟩) := hfor 3 (by kernel_rfl)
              refine op_val (.pointer (some ⟨w.heap.size, 0, none⟩)) W rfl ?_ (hK _ _ (post_pure ?_))
              · clear hfor huse hap hmi hK hF
                generalize a.eval = ρ at *
                go_simp
              · exact (if_pos rfl)
            · intro a W own hfor huse hap hmi hF K hK
              have e20 : a.eval (.tmp 20) = .pointer (some ⟨w.heap.size, 0, none⟩) := huse 0 (by kernel_rfl)
              have c0 := foot_cell hF (fun h => h) P0.out
              refine op_val (.int .i64 st) W rfl ?_ (hK _ _ (post_pure ?_))
              · clear hfor huse hap hmi hK hF
                generalize a.eval = ρ at *
                go_simp
              · exact (if_pos rfl)
            · intro a W own hfor huse hap hmi hF K hK
              have e21 : a.eval (.tmp 21) = .int .i64 st := huse 1 (by kernel_rfl)
              have ec23 : a.eval (.const (.int .i64 2)) = .int .i64 2 := rfl
              have d2 := D2.out
              refine op_val (.bool false) W rfl ?_ (hK _ _ (post_pure ?_))
              · clear hfor huse hap hmi hK hF
                generalize a.eval = ρ at *
                go_simp
              · exact (if_pos rfl)
            · intro a W own hfor huse hap hmi hF K hK
              have e22 : a.eval (.tmp 22) = .bool false := huse 2 (by kernel_rfl)
              refine op_val (.bool false) W rfl ?_ (hK _ _ (post_pure ?_))
              · clear hfor huse hap hmi hK hF
                generalize a.eval = ρ at *
                go_simp
              · exact (if_pos rfl)
            · intro a W own hfor huse hap hmi hF K hK
              have e3 : a.eval (.tmp 3) = .pointer (some ⟨w.heap.size, 0, none⟩) := hfor 3 (by kernel_rfl)
              have e23 : a.eval (.tmp 23) = .bool false := huse 3 (by kernel_rfl)
              refine gop_val (.pointer (some ⟨w.heap.size, 1, none⟩)) W (want_yes (j := 3) (b := false) rfl (yield_of (t := 23) rfl rfl e23)) ?_ (hK _ _ (post_pure ?_))
              · clear hfor huse hap hmi hK hF
                generalize a.eval = ρ at *
                go_simp
              · exact (if_pos rfl)
            · intro a W own hfor huse hap hmi hF K hK
              have e24 : a.eval (.tmp 24) = .pointer (some ⟨w.heap.size, 1, none⟩) := huse 4 (by kernel_rfl)
              have e23 : a.eval (.tmp 23) = .bool false := huse 3 (by kernel_rfl)
              have c1 := foot_cell hF (fun h => h) P1.out
              refine gop_val (.slice Au t.length cu) W (want_yes (j := 3) (b := false) rfl (yield_of (t := 23) rfl rfl e23)) ?_ (hK _ _ (post_pure ?_))
              · clear hfor huse hap hmi hK hF
                generalize a.eval = ρ at *
                go_simp
              · exact (if_pos rfl)
            · intro a W own hfor huse hap hmi hF K hK
              have e25 : a.eval (.tmp 25) = .slice Au t.length cu := huse 5 (by kernel_rfl)
              have e23 : a.eval (.tmp 23) = .bool false := huse 3 (by kernel_rfl)
              have hvt := foot_V hF (fun _ _ h => h) HTW.out (by decide)
              have efn : a.eval (.func 37) = .func (.func 37) #[] #[] := rfl
              refine gop_call (f := 37) (args := #[.slice Au t.length cu]) (fun v w1 => v = .bool true ∧ Below W.heap.size W w1) (want_yes (j := 3) (b := false) rfl (yield_of (t := 23) rfl rfl e23)) ?_ ?_ (fun v w1 h => ?_)
              · clear hfor huse hap hmi hK hF
                generalize a.eval = ρ at *
                go_simp
              · exact (TrmOk_b hvt HTT.out).mono (by rintro e w1 ⟨rfl, h2⟩; exact ⟨_, rfl, rfl, h2⟩)
              · obtain ⟨rfl, h2⟩ := h
                exact hK _ _ (post_new h2 (if_pos rfl))
            · intro a W own hfor huse hap hmi hF K hK
              have e26 : a.eval (.tmp 26) = .bool true := huse 6 (by kernel_rfl)
              have e23 : a.eval (.tmp 23) = .bool false := huse 3 (by kernel_rfl)
              refine gop_val (.bool false) W (want_yes (j := 3) (b := false) rfl (yield_of (t := 23) rfl rfl e23)) ?_ (hK _ _ (post_pure ?_))
              · clear hfor huse hap hmi hK hF
                generalize a.eval = ρ at *
                go_simp
              · exact (if_pos rfl)
            · intro a W own hfor huse hap hmi hF K hK
              have e23 : a.eval (.tmp 23) = .bool false := huse 3 (by kernel_rfl)
              have e27 : a.eval (.tmp 27) = .bool false := huse 7 (by kernel_rfl)
              have ec33 : a.eval (.const (.bool true)) = .bool true := rfl
              refine op_val (.bool false) W rfl ?_ (hK _ _ (post_pure ?_))
              · clear hfor huse hap hmi hK hF
                generalize a.eval = ρ at *
                go_simp
              · exact (if_pos rfl)
            · intro a W own hfor huse hap hmi hF K hK
              have e28 : a.eval (.tmp 28) = .bool false := huse 8 (by kernel_rfl)
              refine op_val (.bool false) W rfl ?_ (hK _ _ (post_pure ?_))
              · clear hfor huse hap hmi hK hF
                generalize a.eval = ρ at *
                go_simp
              · exact (if_pos rfl)
            · intro a W own hfor huse hap hmi hF K hK
              have e3 : a.eval (.tmp 3) = .pointer (some ⟨w.heap.size, 0, none⟩) := hfor 3 (by kernel_rfl)
              have e29 : a.eval (.tmp 29) = .bool false := huse 9 (by kernel_rfl)
              refine gop_val (.pointer (some ⟨w.heap.size, 1, none⟩)) W (want_yes (j := 9) (b := false) rfl (yield_of (t := 29) rfl rfl e29)) ?_ (hK _ _ (post_pure ?_))
              · clear hfor huse hap hmi hK hF
                generalize a.eval = ρ at *
                go_simp
              · exact (if_pos rfl)
            · intro a W own hfor huse hap hmi hF K hK
              have e30 : a.eval (.tmp 30) = .pointer (some ⟨w.heap.size, 1, none⟩) := huse 10 (by kernel_rfl)
              have e29 : a.eval (.tmp 29) = .bool false := huse 9 (by kernel_rfl)
              have c1 := foot_cell hF (fun h => h) P1.out
              refine gop_val (.slice Au t.length cu) W (want_yes (j := 9) (b := false) rfl (yield_of (t := 29) rfl rfl e29)) ?_ (hK _ _ (post_pure ?_))
              · clear hfor huse hap hmi hK hF
                generalize a.eval = ρ at *
                go_simp
              · exact (if_pos rfl)
            · intro a W own hfor huse hap hmi hF K hK
              have e3 : a.eval (.tmp 3) = .pointer (some ⟨w.heap.size, 0, none⟩) := hfor 3 (by kernel_rfl)
              have e29 : a.eval (.tmp 29) = .bool false := huse 9 (by kernel_rfl)
              refine gop_val (.pointer (some ⟨w.heap.size, 1, none⟩)) W (want_yes (j := 9) (b := false) rfl (yield_of (t := 29) rfl rfl e29)) ?_ (hK _ _ (post_pure ?_))
              · clear hfor huse hap hmi hK hF
                generalize a.eval = ρ at *
                go_simp
              · exact (if_pos rfl)
            · intro a W own hfor huse hap hmi hF K hK
              have e32 : a.eval (.tmp 32) = .pointer (some ⟨w.heap.size, 1, none⟩) := huse 12 (by kernel_rfl)
              have e29 : a.eval (.tmp 29) = .bool false := huse 9 (by kernel_rfl)
              have c1 := foot_cell hF (fun h => h) P1.out
              refine gop_val (.slice Au t.length cu) W (want_yes (j := 9) (b := false) rfl (yield_of (t := 29) rfl rfl e29)) ?_ (hK _ _ (post_pure ?_))
              · clear hfor huse hap hmi hK hF
                generalize a.eval = ρ at *
                go_simp
              · exact (if_pos rfl)
            · intro a W own hfor huse hap hmi hF K hK
              have e29 : a.eval (.tmp 29) = .bool false := huse 9 (by kernel_rfl)
              have e33 : a.eval (.tmp 33) = .slice Au t.length cu := huse 13 (by kernel_rfl)
              have hvt := foot_V hF (fun _ _ h => h) HTW.out (by decide)
              have efn : a.eval (.func 38) = .func (.func 38) #[] #[] := rfl
              refine gop_call (f := 38) (args := #[.slice Au t.length cu]) (fun v w1 => kCell.R w1 (fun k => W.heap.size ≤ k) v (canon t) ∧ Below W.heap.size W w1) (want_yes (j := 9) (b := false) rfl (yield_of (t := 29) rfl rfl e29)) ?_ ?_ (fun v w1 h => ?_)
              · clear hfor huse hap hmi hK hF
                generalize a.eval = ρ at *
                go_simp
              · exact (TrmCanon_i _ t ok W hvt).mono (by rintro e w1 ⟨u, rfl, h1, h2⟩; exact ⟨_, rfl, h1, h2⟩)
              · obtain ⟨h1, h2⟩ := h
                exact hK _ _ (post_new h2 (by show kCell.R _ _ (if _ then _ else _) (canon t); rw [if_pos rfl]; exact Kd.R_mono h1 (fun k h3 h4 => ⟨h3, h4⟩)))
            · intro a W own hfor huse hap hmi hF K hK
              have e31 : a.eval (.tmp 31) = .slice Au t.length cu := huse 11 (by kernel_rfl)
              have e29 : a.eval (.tmp 29) = .bool false := huse 9 (by kernel_rfl)
              have hvt := foot_V hF (fun _ _ h => h) HTW.out (by decide)
              have r14 : kCell.R W (own 14) (a.eval (.tmp 34)) (canon t) := huse 14 (by kernel_rfl)
              obtain ⟨A14, n14, e34, -, -⟩ := Kd.R_form r14
              rw [e34] at r14
              have efn : a.eval (.func 15) = .func (.func 15) #[] #[] := rfl
              refine gop_call (f := 15) (args := #[.slice Au t.length cu, .slice A14 (canon t).length n14]) (fun v w1 => v = .bool false ∧ Below W.heap.size W w1) (want_yes (j := 9) (b := false) rfl (yield_of (t := 29) rfl rfl e29)) ?_ ?_ (fun v w1 h => ?_)
              · clear hfor huse hap hmi hK hF
                generalize a.eval = ρ at *
                go_simp
              · exact (TrmSame_b hvt (Kd.R_V r14) HCQ.out).mono (by rintro e w1 ⟨rfl, h2⟩; exact ⟨_, rfl, rfl, h2⟩)
              · obtain ⟨rfl, h2⟩ := h
                exact hK _ _ (post_new h2 (if_pos rfl))
            · intro a W own hfor huse hap hmi hF K hK
              have e35 : a.eval (.tmp 35) = .bool false := huse 15 (by kernel_rfl)
              have e29 : a.eval (.tmp 29) = .bool false := huse 9 (by kernel_rfl)
              refine gop_val (.bool true) W (want_yes (j := 9) (b := false) rfl (yield_of (t := 29) rfl rfl e29)) ?_ (hK _ _ (post_pure ?_))
              · clear hfor huse hap hmi hK hF
                generalize a.eval = ρ at *
                go_simp
              · exact (if_pos rfl)
            · intro a W own hfor huse hap hmi hF K hK
              have e29 : a.eval (.tmp 29) = .bool false := huse 9 (by kernel_rfl)
              have e36 : a.eval (.tmp 36) = .bool true := huse 16 (by kernel_rfl)
              have ec33 : a.eval (.const (.bool true)) = .bool true := rfl
              refine op_val (.bool true) W rfl ?_ (hK _ _ (post_pure ?_))
              · clear hfor huse hap hmi hK hF
                generalize a.eval = ρ at *
                go_simp
              · exact (if_pos rfl)
            · intro a W own hfor huse hap hmi hF K hK
              have e37 : a.eval (.tmp 37) = .bool true := huse 17 (by kernel_rfl)
              refine op_val (.bool true) W rfl ?_ (hK _ _ (post_pure ?_))
              · clear hfor huse hap hmi hK hF
                generalize a.eval = ρ at *
                go_simp
              · exact (if_pos rfl)
            intro a' W own hf
            have s1 := hf.st.size
            have s2 := hf.st.rest
            have s3 := fun t ht => hf.st.kept t ht
            revert hf
            revert a'
            refine lay_intro (df := []) [true, true, true, true, true, true, true, true, true, true, true, true, true, true, true, true, true, true, true, false, false, false, false, false, false, false, false, false, false, false, false, false, false, false, false, false, false, false, true, true, true, true, true, true, true, true, true, true, true, true] (by kernel_rfl) rfl ?_
            intro x37 x36 x35 x34 x33 x32 x31 x30 x29 x28 x27 x26 x25 x24 x23 x22 x21 x20 x19 hf
            have e19 : x19 = .bool true := hf.at 18 (fun val _ _ => val 19 = .bool true) rfl (by kernel_rfl)
            subst e19
            have HF := Sec.mk hf.st.foot
            have BF := Sec.mk (HF.out.below (belD B1.out) (fun k h => h.elim))
            clear hf HF
            go_wp2
            go_ret
            exact ⟨rb HE.out.symm, BB.out _ BF.out⟩
          | true =>
            have hc' : decide (canon t = t) = true := decide_eq_true (of_decide_eq_true hc).symm
            have HSH := Sec.mk (shift_ok HQ.out (trmOk_len ht).2)
            have HE : Sec (outOk top st t = sameU t (shifted top t.length)) := ⟨by unfold outOk; rw [HQ.out, if_pos H2.out, ht, hc', sameU_swap HSH.out ht]; rfl⟩
            have HCQ := Sec.mk hc
            clear ht hc hc'
            go_enter Tryd.func11, Tryd.ntmps11
            go_wp2_with (first | (go_at_call 35; refine (isQuestion_i _ top ok _ (HV.out _ (Below.refl _ _))).mono ?_; rw [HQ.out]; rintro e wr ⟨rfl, hb⟩; have B1 := Sec.mk hb; obtain ⟨p0, p1⟩ := HW.out _ hb; have P0 := Sec.mk p0; have P1 := Sec.mk p1; have HTW := Sec.mk (HT.out _ hb); have HVW := Sec.mk (HV.out _ hb); clear hb) | (go_at_call 36; refine (in_c _ _ _ _).mono ?_; rw [HI.out]; rintro e w' ⟨rfl, rfl⟩))
            clear p0 p1
            refine wp_region_lists [[20], [21], [22], [23], [24], [25], [26], [27], [28], [29], [30], [31], [32], [33], [34], [35], [36], [37], [19]]
              [fun val _ _ => val 20 = .pointer (some ⟨w.heap.size, 0, none⟩),
                fun val _ _ => val 21 = .int .i64 st,
                fun val _ _ => val 22 = .bool false,
                fun val _ _ => val 23 = .bool false,
                fun val _ _ => val 24 = .pointer (some ⟨w.heap.size, 1, none⟩),
                fun val _ _ => val 25 = .slice Au t.length cu,
                fun val _ _ => val 26 = .bool true,
                fun val _ _ => val 27 = .bool false,
                fun val _ _ => val 28 = .bool false,
                fun val _ _ => val 29 = .bool false,
                fun val _ _ => val 30 = .pointer (some ⟨w.heap.size, 1, none⟩),
                fun val _ _ => val 31 = .slice Au t.length cu,
                fun val _ _ => val 32 = .pointer (some ⟨w.heap.size, 1, none⟩),
                fun val _ _ => val 33 = .slice Au t.length cu,
                onR kCell 34 (canon t),
                fun val _ _ => val 35 = .bool true,
                fun val _ _ => val 36 = .bool false,
                fun val _ _ => val 37 = .bool false,
                fun val _ _ => val 19 = .bool false]
              [[], [], [], [], [], [], [], [], [], [], [], [], [], [], [], [], [], [], []] 0 (fun _ => False) (fun _ _ => False) (by kernel_rfl) ⟨by kernel_rfl, by kernel_rfl, by kernel_rfl, by kernel_rfl, by kernel_rfl⟩
              (.cons (stab_val 20 (fun v => v = .pointer (some ⟨w.heap.size, 0, none⟩))) (.cons (stab_val 21 (fun v => v = .int .i64 st)) (.cons (stab_val 22 (fun v => v = .bool false)) (.cons (stab_val 23 (fun v => v = .bool false)) (.cons (stab_val 24 (fun v => v = .pointer (some ⟨w.heap.size, 1, none⟩))) (.cons (stab_val 25 (fun v => v = .slice Au t.length cu)) (.cons (stab_val 26 (fun v => v = .bool true)) (.cons (stab_val 27 (fun v => v = .bool false)) (.cons (stab_val 28 (fun v => v = .bool false)) (.cons (stab_val 29 (fun v => v = .bool false)) (.cons (stab_val 30 (fun v => v = .pointer (some ⟨w.heap.size, 1, none⟩))) (.cons (stab_val 31 (fun v => v = .slice Au t.length cu)) (.cons (stab_val 32 (fun v => v = .pointer (some ⟨w.heap.size, 1, none⟩))) (.cons (stab_val 33 (fun v => v = .slice Au t.length cu)) (.cons (stab_R kCell 34 (canon t)) (.cons (stab_val 35 (fun v => v = .bool true)) (.cons (stab_val 36 (fun v => v = .bool false)) (.cons (stab_val 37 (fun v => v = .bool false)) (.cons (stab_val 19 (fun v => v = .bool false)) .nil)))))))))))))))))))
              (fun i j k h1 h2 => h1.elim) (fun i k h => h.elim) (fun i h1 h2 => by simp at h1 h2; omega) (.cons ?_ (.cons ?_ (.cons ?_ (.cons ?_ (.cons ?_ (.cons ?_ (.cons ?_ (.cons ?_ (.cons ?_ (.cons ?_ (.cons ?_ (.cons ?_ (.cons ?_ (.cons ?_ (.cons ?_ (.cons ?_ (.cons ?_ (.cons ?_ (.cons ?_ .nil))))))))))))))))))) ?_
            · intro a W own hfor huse hap hmi hF K hK
              have e3 : a.eval (.tmp 3) = .pointer (some ⟨w.heap.size, 0, none⟩) := hfor 3 (by kernel_rfl)
              refine op_val (.pointer (some ⟨w.heap.size, 0, none⟩)) W rfl ?_ (hK _ _ (post_pure ?_))
              · clear hfor huse hap hmi hK hF
                generalize a.eval = ρ at *
                go_simp
              · exact (if_pos rfl)
            · intro a W own hfor huse hap hmi hF K hK
              have e20 : a.eval (.tmp 20) = .pointer (some ⟨w.heap.size, 0, none⟩) := huse 0 (by kernel_rfl)
              have c0 := foot_cell hF (fun h => h) P0.out
              refine op_val (.int .i64 st) W rfl ?_ (hK _ _ (post_pure ?_))
              · clear hfor huse hap hmi hK hF
                generalize a.eval = ρ at *
                go_simp
              · exact (if_pos rfl)
            · intro a W own hfor huse hap hmi hF K hK
              have e21 : a.eval (.tmp 21) = .int .i64 st := huse 1 (by kernel_rfl)
              have ec23 : a.eval (.const (.int .i64 2)) = .int .i64 2 := rfl
              have d2 := D2.out
              refine op_val (.bool false) W rfl ?_ (hK _ _ (post_pure ?_))
              · clear hfor huse hap hmi hK hF
                generalize a.eval = ρ at *
                go_simp
              · exact (if_pos rfl)
            · intro a W own hfor huse hap hmi hF K hK
              have e22 : a.eval (.tmp 22) = .bool false := huse 2 (by kernel_rfl)
              refine op_val (.bool false) W rfl ?_ (hK _ _ (post_pure ?_))
              · clear hfor huse hap hmi hK hF
                generalize a.eval = ρ at *
                go_simp
              · exact (if_pos rfl)
            · intro a W own hfor huse hap hmi hF K hK
              have e3 : a.eval (.tmp 3) = .pointer (some ⟨w.heap.size, 0, none⟩) := hfor 3 (by kernel_rfl)
              have e23 : a.eval (.tmp 23) = .bool false := huse 3 (by kernel_rfl)
              refine gop_val (.pointer (some ⟨w.heap.size, 1, none⟩)) W (want_yes (j := 3) (b := false) rfl (yield_of (t := 23) rfl rfl e23)) ?_ (hK _ _ (post_pure ?_))
              · clear hfor huse hap hmi hK hF
                generalize a.eval = ρ at *
                go_simp
              · exact (if_pos rfl)
            · intro a W own hfor huse hap hmi hF K hK
              have e24 : a.eval (.tmp 24) = .pointer (some ⟨w.heap.size, 1, none⟩) := huse 4 (by kernel_rfl)
              have e23 : a.eval (.tmp 23) = .bool false := huse 3 (by kernel_rfl)
              have c1 := foot_cell hF (fun h => h) P1.out
              refine gop_val (.slice Au t.length cu) W (want_yes (j := 3) (b := false) rfl (yield_of (t := 23) rfl rfl e23)) ?_ (hK _ _ (post_pure ?_))
              · clear hfor huse hap hmi hK hF
                generalize a.eval = ρ at *
                go_simp
              · exact (if_pos rfl)
            · intro a W own hfor huse hap hmi hF K hK
              have e25 : a.eval (.tmp 25) = .slice Au t.length cu := huse 5 (by kernel_rfl)
              have e23 : a.eval (.tmp 23) = .bool false := huse 3 (by kernel_rfl)
              have hvt := foot_V hF (fun _ _ h => h) HTW.out (by decide)
              have efn : a.eval (.func 37) = .func (.func 37) #[] #[] := rfl
              refine gop_call (f := 37) (args := #[.slice Au t.length cu]) (fun v w1 => v = .bool true ∧ Below W.heap.size W w1) (want_yes (j := 3) (b := false) rfl (yield_of (t := 23) rfl rfl e23)) ?_ ?_ (fun v w1 h => ?_)
              · clear hfor huse hap hmi hK hF
                generalize a.eval = ρ at *
                go_simp
              · exact (TrmOk_b hvt HTT.out).mono (by rintro e w1 ⟨rfl, h2⟩; exact ⟨_, rfl, rfl, h2⟩)
              · obtain ⟨rfl, h2⟩ := h
                exact hK _ _ (post_new h2 (if_pos rfl))
            · intro a W own hfor huse hap hmi hF K hK
              have e26 : a.eval (.tmp 26) = .bool true := huse 6 (by kernel_rfl)
              have e23 : a.eval (.tmp 23) = .bool false := huse 3 (by kernel_rfl)
              refine gop_val (.bool false) W (want_yes (j := 3) (b := false) rfl (yield_of (t := 23) rfl rfl e23)) ?_ (hK _ _ (post_pure ?_))
              · clear hfor huse hap hmi hK hF
                generalize a.eval = ρ at *
                go_simp
              · exact (if_pos rfl)
            · intro a W own hfor huse hap hmi hF K hK
              have e23 : a.eval (.tmp 23) = .bool false := huse 3 (by kernel_rfl)
              have e27 : a.eval (.tmp 27) = .bool false := huse 7 (by kernel_rfl)
              have ec33 : a.eval (.const (.bool true)) = .bool true := rfl
              refine op_val (.bool false) W rfl ?_ (hK _ _ (post_pure ?_))
              · clear hfor huse hap hmi hK hF
                generalize a.eval = ρ at *
                go_simp
              · exact (if_pos rfl)
            · intro a W own hfor huse hap hmi hF K hK
              have e28 : a.eval (.tmp 28) = .bool false := huse 8 (by kernel_rfl)
              refine op_val (.bool false) W rfl ?_ (hK _ _ (post_pure ?_))
              · clear hfor huse hap hmi hK hF
                generalize a.eval = ρ at *
                go_simp
              · exact (if_pos rfl)
            · intro a W own hfor huse hap hmi hF K hK
              have e3 : a.eval (.tmp 3) = .pointer (some ⟨w.heap.size, 0, none⟩) := hfor 3 (by kernel_rfl)
              have e29 : a.eval (.tmp 29) = .bool false := huse 9 (by kernel_rfl)
              refine gop_val (.pointer (some ⟨w.heap.size, 1, none⟩)) W (want_yes (j := 9) (b := false) rfl (yield_of (t := 29) rfl rfl e29)) ?_ (hK _ _ (post_pure ?_))
              · clear hfor huse hap hmi hK hF
                generalize a.eval = ρ at *
                go_simp
              · exact (if_pos rfl)
            · intro a W own hfor huse hap hmi hF K hK
              have e30 : a.eval (.tmp 30) = .pointer (some ⟨w.heap.size, 1, none⟩) := huse 10 (by kernel_rfl)
              have e29 : a.eval (.tmp 29) = .bool false := huse 9 (by kernel_rfl)
              have c1 := foot_cell hF (fun h => h) P1.out
              refine gop_val (.slice Au t.length cu) W (want_yes (j := 9) (b := false) rfl (yield_of (t := 29) rfl rfl e29)) ?_ (hK _ _ (post_pure ?_))
              · clear hfor huse hap hmi hK hF
                generalize a.eval = ρ at *
                go_simp
              · exact (if_pos rfl)
            · intro a W own hfor huse hap hmi hF K hK
              have e3 : a.eval (.tmp 3) = .pointer (some ⟨w.heap.size, 0, none⟩) := hfor 3 (by kernel_rfl)
              have e29 : a.eval (.tmp 29) = .bool false := huse 9 (by kernel_rfl)
              refine gop_val (.pointer (some ⟨w.heap.size, 1, none⟩)) W (want_yes (j := 9) (b := false) rfl (yield_of (t := 29) rfl rfl e29)) ?_ (hK _ _ (post_pure ?_))
              · clear hfor huse hap hmi hK hF
                generalize a.eval = ρ at *
                go_simp
              · exact (if_pos rfl)
            · intro a W own hfor huse hap hmi hF K hK
              have e32 : a.eval (.tmp 32) = .pointer (some ⟨w.heap.size, 1, none⟩) := huse 12 (by kernel_rfl)
              have e29 : a.eval (.tmp 29) = .bool false := huse 9 (by kernel_rfl)
              have c1 := foot_cell hF (fun h => h) P1.out
              refine gop_val (.slice Au t.length cu) W (want_yes (j := 9) (b := false) rfl (yield_of (t := 29) rfl rfl e29)) ?_ (hK _ _ (post_pure ?_))
              · clear hfor huse hap hmi hK hF
                generalize a.eval = ρ at *
                go_simp
              · exact (if_pos rfl)
            · intro a W own hfor huse hap hmi hF K hK
              have e29 : a.eval (.tmp 29) = .bool false := huse 9 (by kernel_rfl)
              have e33 : a.eval (.tmp 33) = .slice Au t.length cu := huse 13 (by kernel_rfl)
              have hvt := foot_V hF (fun _ _ h => h) HTW.out (by decide)
              have efn : a.eval (.func 38) = .func (.func 38) #[] #[] := rfl
              refine gop_call (f := 38) (args := #[.slice Au t.length cu]) (fun v w1 => kCell.R w1 (fun k => W.heap.size ≤ k) v (canon t) ∧ Below W.heap.size W w1) (want_yes (j := 9) (b := false) rfl (yield_of (t := 29) rfl rfl e29)) ?_ ?_ (fun v w1 h => ?_)
              · clear hfor huse hap hmi hK hF
                generalize a.eval = ρ at *
                go_simp
              · exact (TrmCanon_i _ t ok W hvt).mono (by rintro e w1 ⟨u, rfl, h1, h2⟩; exact ⟨_, rfl, h1, h2⟩)
              · obtain ⟨h1, h2⟩ := h
                exact hK _ _ (post_new h2 (by show kCell.R _ _ (if _ then _ else _) (canon t); rw [if_pos rfl]; exact Kd.R_mono h1 (fun k h3 h4 => ⟨h3, h4⟩)))
            · intro a W own hfor huse hap hmi hF K hK
              have e31 : a.eval (.tmp 31) = .slice Au t.length cu := huse 11 (by kernel_rfl)
              have e29 : a.eval (.tmp 29) = .bool false := huse 9 (by kernel_rfl)
              have hvt := foot_V hF (fun _ _ h => h) HTW.out (by decide)
              have r14 : kCell.R W (own 14) (a.eval (.tmp 34)) (canon t) := huse 14 (by kernel_rfl)
              obtain ⟨A14, n14, e34, -, -⟩ := Kd.R_form r14
              rw [e34] at r14
              have efn : a.eval (.func 15) = .func (.func 15) #[] #[] := rfl
              refine gop_call (f := 15) (args := #[.slice Au t.length cu, .slice A14 (canon t).length n14]) (fun v w1 => v = .bool true ∧ Below W.heap.size W w1) (want_yes (j := 9) (b := false) rfl (yield_of (t := 29) rfl rfl e29)) ?_ ?_ (fun v w1 h => ?_)
              · clear hfor huse hap hmi hK hF
                generalize a.eval = ρ at *
                go_simp
              · exact (TrmSame_b hvt (Kd.R_V r14) HCQ.out).mono (by rintro e w1 ⟨rfl, h2⟩; exact ⟨_, rfl, rfl, h2⟩)
              · obtain ⟨rfl, h2⟩ := h
                exact hK _ _ (post_new h2 (if_pos rfl))
            · intro a W own hfor huse hap hmi hF K hK
              have e35 : a.eval (.tmp 35) = .bool true := huse 15 (by kernel_rfl)
              have e29 : a.eval (.tmp 29) = .bool false := huse 9 (by kernel_rfl)
              refine gop_val (.bool false) W (want_yes (j := 9) (b := false) rfl (yield_of (t := 29) rfl rfl e29)) ?_ (hK _ _ (post_pure ?_))
              · clear hfor huse hap hmi hK hF
                generalize a.eval = ρ at *
                go_simp
              · exact (if_pos rfl)
            · intro a W own hfor huse hap hmi hF K hK
              have e29 : a.eval (.tmp 29) = .bool false := huse 9 (by kernel_rfl)
              have e36 : a.eval (.tmp 36) = .bool false := huse 16 (by kernel_rfl)
              have ec33 : a.eval (.const (.bool true)) = .bool true := rfl
              refine op_val (.bool false) W rfl ?_ (hK _ _ (post_pure ?_))
              · clear hfor huse hap hmi hK hF
                generalize a.eval = ρ at *
                go_simp
              · exact (if_pos rfl)
            · intro a W own hfor huse hap hmi hF K hK
              have e37 : a.eval (.tmp 37) = .bool false := huse 17 (by kernel_rfl)
              refine op_val (.bool false) W rfl ?_ (hK _ _ (post_pure ?_))
              · clear hfor huse hap hmi hK hF
                generalize a.eval = ρ at *
                go_simp
              · exact (if_pos rfl)
            intro a' W own hf
            have s1 := hf.st.size
            have s2 := hf.st.rest
            have s3 := fun t ht => hf.st.kept t ht
            revert hf
            revert a'
            refine lay_intro (df := []) [true, true, true, true, true, true, true, true, true, true, true, true, true, true, true, true, true, true, true, false, false, false, false, false, false, false, false, false, false, false, false, false, false, false, false, false, false, false, true, true, true, true, true, true, true, true, true, true, true, true] (by kernel_rfl) rfl ?_
            intro x37 x36 x35 x34 x33 x32 x31 x30 x29 x28 x27 x26 x25 x24 x23 x22 x21 x20 x19 hf
            have e19 : x19 = .bool false := hf.at 18 (fun val _ _ => val 19 = .bool false) rfl (by kernel_rfl)
            subst e19
            have HF := Sec.mk hf.st.foot
            have BF := Sec.mk (HF.out.below (belD B1.out) (fun k h => h.elim))
            clear hf HF
            go_wp2
            obtain ⟨p0, p1⟩ := HW.out _ BF.out
            have P0 := Sec.mk p0
            have P1 := Sec.mk p1
            have HTW := Sec.mk (HT.out _ BF.out)
            have HVW := Sec.mk (HV.out _ BF.out)
            have B1 := BF
            clear p0 p1
            refine wp_region_lists [[39], [40], [41], [42], [43], [44], [45], [46], [38], [47], [48], [5], [6]]
              [fun val _ _ => val 39 = .pointer (some ⟨w.heap.size, 1, none⟩),
                fun val _ _ => val 40 = .slice Au t.length cu,
                fun val _ _ => val 41 = .slice Av top.length cv,
                fun val _ _ => val 42 = .pointer (some ⟨w.heap.size, 1, none⟩),
                fun val _ _ => val 43 = .slice Au t.length cu,
                fun val _ _ => val 44 = .int .i64 t.length,
                onR kCell 45 (shifted top t.length),
                fun val _ _ => ∃ x, val 46 = .tuple #[x, .bool (sameU t (shifted top t.length))],
                fun val _ _ => ∃ x, val 38 = .tuple #[x, .bool (sameU t (shifted top t.length))],
                fun _ _ _ => True,
                fun val _ _ => val 48 = .bool (sameU t (shifted top t.length)),
                fun _ _ _ => True,
                fun val _ _ => val 6 = .bool (sameU t (shifted top t.length))]
              [[], [], [], [], [], [], [], [], [], [], [], [], []] 0 (fun _ => False) (fun _ _ => False) (by kernel_rfl) ⟨by kernel_rfl, by kernel_rfl, by kernel_rfl, by kernel_rfl, by kernel_rfl⟩
              (.cons (stab_val 39 (fun v => v = .pointer (some ⟨w.heap.size, 1, none⟩))) (.cons (stab_val 40 (fun v => v = .slice Au t.length cu)) (.cons (stab_val 41 (fun v => v = .slice Av top.length cv)) (.cons (stab_val 42 (fun v => v = .pointer (some ⟨w.heap.size, 1, none⟩))) (.cons (stab_val 43 (fun v => v = .slice Au t.length cu)) (.cons (stab_val 44 (fun v => v = .int .i64 t.length)) (.cons (stab_R kCell 45 (shifted top t.length)) (.cons (stab_val 46 (fun v => ∃ x, v = .tuple #[x, .bool (sameU t (shifted top t.length))])) (.cons (stab_val 38 (fun v => ∃ x, v = .tuple #[x, .bool (sameU t (shifted top t.length))])) (.cons (stab_val 47 (fun _ => True)) (.cons (stab_val 48 (fun v => v = .bool (sameU t (shifted top t.length)))) (.cons (stab_val 5 (fun _ => True)) (.cons (stab_val 6 (fun v => v = .bool (sameU t (shifted top t.length)))) .nil)))))))))))))
              (fun i j k h1 h2 => h1.elim) (fun i k h => h.elim) (fun i h1 h2 => by simp at h1 h2; omega) (.cons ?_ (.cons ?_ (.cons ?_ (.cons ?_ (.cons ?_ (.cons ?_ (.cons ?_ (.cons ?_ (.cons ?_ (.cons ?_ (.cons ?_ (.cons ?_ (.cons ?_ .nil))))))))))))) ?_
            · intro a W own hfor huse hap hmi hF K hK
              have e3 : a.eval (.tmp 3) = .pointer (some ⟨w.heap.size, 0, none⟩) := hfor 3 (by kernel_rfl)
              refine op_val (.pointer (some ⟨w.heap.size, 1, none⟩)) W rfl ?_ (hK _ _ (post_pure ?_))
              · clear hfor huse hap hmi hK hF
                generalize a.eval = ρ at *
                go_simp
              · exact (if_pos rfl)
            · intro a W own hfor huse hap hmi hF K hK
              have e39 : a.eval (.tmp 39) = .pointer (some ⟨w.heap.size, 1, none⟩) := huse 0 (by kernel_rfl)
              have c1 := foot_cell hF (fun h => h) P1.out
              refine op_val (.slice Au t.length cu) W rfl ?_ (hK _ _ (post_pure ?_))
              · clear hfor huse hap hmi hK hF
                generalize a.eval = ρ at *
                go_simp
              · exact (if_pos rfl)
            · intro a W own hfor huse hap hmi hF K hK
              have e0 : a.eval (.tmp 0) = .slice Av top.length cv := hfor 0 (by kernel_rfl)
              refine op_val (.slice Av top.length cv) W rfl ?_ (hK _ _ (post_pure ?_))
              · clear hfor huse hap hmi hK hF
                generalize a.eval = ρ at *
                go_simp
              · exact (if_pos rfl)
            · intro a W own hfor huse hap hmi hF K hK
              have e3 : a.eval (.tmp 3) = .pointer (some ⟨w.heap.size, 0, none⟩) := hfor 3 (by kernel_rfl)
              refine op_val (.pointer (some ⟨w.heap.size, 1, none⟩)) W rfl ?_ (hK _ _ (post_pure ?_))
              · clear hfor huse hap hmi hK hF
                generalize a.eval = ρ at *
                go_simp
              · exact (if_pos rfl)
            · intro a W own hfor huse hap hmi hF K hK
              have e42 : a.eval (.tmp 42) = .pointer (some ⟨w.heap.size, 1, none⟩) := huse 3 (by kernel_rfl)
              have c1 := foot_cell hF (fun h => h) P1.out
              refine op_val (.slice Au t.length cu) W rfl ?_ (hK _ _ (post_pure ?_))
              · clear hfor huse hap hmi hK hF
                generalize a.eval = ρ at *
                go_simp
              · exact (if_pos rfl)
            · intro a W own hfor huse hap hmi hF K hK
              have e43 : a.eval (.tmp 43) = .slice Au t.length cu := huse 4 (by kernel_rfl)
              refine op_val (.int .i64 t.length) W rfl ?_ (hK _ _ (post_pure ?_))
              · clear hfor huse hap hmi hK hF
                generalize a.eval = ρ at *
                go_simp
              · exact (if_pos rfl)
            · intro a W own hfor huse hap hmi hF K hK
              have e41 : a.eval (.tmp 41) = .slice Av top.length cv := huse 2 (by kernel_rfl)
              have e44 : a.eval (.tmp 44) = .int .i64 t.length := huse 5 (by kernel_rfl)
              have hvp := foot_V hF (fun _ _ h => h) HVW.out (by decide)
              have efn : a.eval (.func 40) = .func (.func 40) #[] #[] := rfl
              refine op_call (f := 40) (args := #[.slice Av top.length cv, .int .i64 t.length]) (fun v w1 => kCell.R w1 (fun k => W.heap.size ≤ k) v (shifted top t.length) ∧ Below W.heap.size W w1) rfl ?_ ?_ (fun v w1 h => ?_)
              · clear hfor huse hap hmi hK hF
                generalize a.eval = ρ at *
                go_simp
              · exact (shifted_i _ top t.length ok W hvp).mono (by rintro e w1 ⟨u, rfl, h1, h2⟩; exact ⟨_, rfl, h1, h2⟩)
              · obtain ⟨h1, h2⟩ := h
                exact hK _ _ (post_new h2 (by show kCell.R _ _ (if _ then _ else _) (shifted top t.length); rw [if_pos rfl]; exact Kd.R_mono h1 (fun k h3 h4 => ⟨h3, h4⟩)))
            · intro a W own hfor huse hap hmi hF K hK
              have e40 : a.eval (.tmp 40) = .slice Au t.length cu := huse 1 (by kernel_rfl)
              have hvt := foot_V hF (fun _ _ h => h) HTW.out (by decide)
              have r6 : kCell.R W (own 6) (a.eval (.tmp 45)) (shifted top t.length) := huse 6 (by kernel_rfl)
              obtain ⟨A6, n6, e45, -, -⟩ := Kd.R_form r6
              rw [e45] at r6
              have efn : a.eval (.func 39) = .func (.func 39) #[] #[] := rfl
              have ec20 : a.eval (.const (.slice none 0 0)) = .slice none 0 0 := rfl
              refine op_call (f := 39) (args := #[.slice none 0 0, .slice Au t.length cu, .slice A6 (shifted top t.length).length n6]) (fun v w1 => (∃ x, v = .tuple #[x, .bool (sameU t (shifted top t.length))]) ∧ Below W.heap.size W w1) rfl ?_ ?_ (fun v w1 h => ?_)
              · clear hfor huse hap hmi hK hF
                generalize a.eval = ρ at *
                go_simp
              · exact (unify0 hvt (Kd.R_V r6) HTT.out HSH.out).mono (by rintro e w1 ⟨x, rfl, h2⟩; exact ⟨_, rfl, ⟨x, rfl⟩, h2⟩)
              · obtain ⟨⟨x, rfl⟩, h2⟩ := h
                exact hK _ _ (post_new h2 ⟨x, if_pos rfl⟩)
            · intro a W own hfor huse hap hmi hF K hK
              obtain ⟨x46, e46⟩ : ∃ x, a.eval (.tmp 46) = .tuple #[x, .bool (sameU t (shifted top t.length))] := huse 7 (by kernel_rfl)
              refine op_val (.tuple #[x46, .bool (sameU t (shifted top t.length))]) W rfl ?_ (hK _ _ (post_pure ⟨x46, if_pos rfl⟩))
              · clear hfor huse hap hmi hK hF
                generalize a.eval = ρ at *
                go_simp
            · intro a W own hfor huse hap hmi hF K hK
              obtain ⟨x38, e38⟩ : ∃ x, a.eval (.tmp 38) = .tuple #[x, .bool (sameU t (shifted top t.length))] := huse 8 (by kernel_rfl)
              refine op_val x38 W rfl ?_ (hK _ _ (post_pure trivial))
              · clear hfor huse hap hmi hK hF
                generalize a.eval = ρ at *
                go_simp
            · intro a W own hfor huse hap hmi hF K hK
              obtain ⟨x38, e38⟩ : ∃ x, a.eval (.tmp 38) = .tuple #[x, .bool (sameU t (shifted top t.length))] := huse 8 (by kernel_rfl)
              refine op_val (.bool (sameU t (shifted top t.length))) W rfl ?_ (hK _ _ (post_pure (if_pos rfl)))
              · clear hfor huse hap hmi hK hF
                generalize a.eval = ρ at *
                go_simp
            · intro a W own hfor huse hap hmi hF K hK
              refine op_val (a.eval (.tmp 47)) W rfl ?_ (hK _ _ (post_pure trivial))
              · rfl
            · intro a W own hfor huse hap hmi hF K hK
              have e48 : a.eval (.tmp 48) = .bool (sameU t (shifted top t.length)) := huse 10 (by kernel_rfl)
              refine op_val (.bool (sameU t (shifted top t.length))) W rfl ?_ (hK _ _ (post_pure ?_))
              · clear hfor huse hap hmi hK hF
                generalize a.eval = ρ at *
                go_simp
              · exact (if_pos rfl)
            intro a' W own hf
            have s1 := hf.st.size
            have s2 := hf.st.rest
            have s3 := fun t ht => hf.st.kept t ht
            revert hf
            revert a'
            refine lay_intro (df := []) [true, true, true, true, true, false, false, true, true, true, true, true, true, true, true, true, true, true, true, true, true, true, true, true, true, true, true, true, true, true, true, true, true, true, true, true, true, true, false, false, false, false, false, false, false, false, false, false, false, true] (by kernel_rfl) rfl ?_
            intro x48 x47 x46 x45 x44 x43 x42 x41 x40 x39 x38 x6 x5 hf
            have e6 : x6 = .bool (sameU t (shifted top t.length)) := hf.at 12 (fun val _ _ => val 6 = .bool (sameU t (shifted top t.length))) rfl (by kernel_rfl)
            subst e6
            have HF := Sec.mk hf.st.foot
            have BF := Sec.mk (HF.out.below (belD B1.out) (fun k h => h.elim))
            clear hf HF
            go_wp2
            go_ret
            exact ⟨rb HE.out.symm, BB.out _ BF.out⟩
      · have d2 : (st != 2) = true := bne_iff_ne.2 h2
        have HE : Sec (outOk top st t = false) := ⟨by unfold outOk; rw [HQ.out, if_neg h2, HI.out]; rfl⟩
        clear h2
        go_enter Tryd.func11, Tryd.ntmps11
        go_wp2_with (first | (go_at_call 35; refine (isQuestion_i _ top ok _ (HV.out _ (Below.refl _ _))).mono ?_; rw [HQ.out]; rintro e w1 ⟨rfl, hb⟩; have B1 := Sec.mk hb; obtain ⟨p0, p1⟩ := HW.out _ hb; clear hb) | (go_at_call 36; refine (in_c _ _ _ _).mono ?_; rw [HI.out]; rintro e w' ⟨rfl, rfl⟩))
        go_quiet (fail)
        go_wp2
        go_ret
        exact ⟨rb HE.out.symm, BB.out _ (belDq B1.out)⟩
end
section
open Go.RowKit
set_option linter.unusedVariables false
set_option maxRecDepth 100000
def kSOut : Kd SOut := Kd.iso 31 (Kd.pair (Kd.int 3) (Kd.slice 28 kCell (by decide))) (fun x => (x.status, x.term))
theorem kSOut_K {w : World} {ok : Nat → Prop} {x : SOut} {cs : List Value} (h : kSOut.K w ok x cs) : ∃ v1, cs = [.int .i64 x.status, v1] ∧ kCell.V w ok v1 x.term := by
  obtain ⟨_, _, rfl, ⟨rfl, _⟩, ⟨v1, rfl, h1⟩⟩ := h
  exact ⟨v1, rfl, h1⟩
def rSOut : Raw SOut := Raw.iso 24 (Raw.pair (Raw.int 3) (Raw.slice 22 rCell)) (fun x => (x.status, x.term))
theorem rSOut_K {w : World} {x : SOut} {cs : List Value} (h : rSOut.K w x cs) : ∃ v1, cs = [.int .i64 x.status, v1] ∧ rCell.V w v1 x.term := by
  obtain ⟨_, _, rfl, ⟨rfl, _⟩, ⟨v1, rfl, h1⟩⟩ := h
  exact ⟨v1, rfl, h1⟩
theorem rSOut_mono : Raw.Mono rSOut := Raw.mono_iso (Raw.mono_pair Raw.mono_scalar (Raw.mono_slice rCell_mono))
theorem rSOut_wt (x : SOut) : rSOut.wt x = (HAdd.hAdd 0 (rCell.wts x.term)) := rfl
theorem rSOut_fits : Raw.Fits rSOut kSOut := Raw.fits_iso (Raw.fits_pair (Raw.fits_int _ _) (Raw.fits_slice rCell_fits _ _ (by decide))) _ _ _
theorem rSOut_opn : Raw.Opn Tryd.prog rSOut := Raw.opn_struct Tryd.underlying24 (by kernel_rfl) (fun b => ⟨⟨b.1, b.2⟩, rfl⟩) (Raw.opnF_cons (Raw.opn_int Tryd.underlying3) rfl rfl (by kernel_rfl) (by decide) (Raw.opnF_last (Raw.opn_slice (r := rCell) Tryd.underlying22 (by kernel_rfl) (by decide) rCell_opn) rfl rfl (by kernel_rfl) (by decide)))
theorem SOut.ext_iff (a b : SOut) : a = b ↔ a.status = b.status ∧ a.term = b.term := by
  cases a; cases b; simp
instance : DecidableEq SOut := fun a b => decidable_of_iff _ (SOut.ext_iff a b).symm
def zeroSOut : SOut := ⟨0, []⟩
theorem szSlvOut_c (x : SOut) (cs : List Value) (left : Nat) (hl : left ≤ 1048576) (w : World) (hK : rSOut.K w x cs) :
    Calls Tryd.prog 7 #[.agg cs.toArray, .int .i64 left] w fun e w' => e = .returned (.int .i64 (Raw.spent (rSOut.wt x) left)) ∧ Below w.heap.size w w' := by
  obtain ⟨_, _, rfl, ⟨rfl, _⟩, ⟨v1, rfl, h1⟩⟩ := hK
  have H1 := Sec.mk h1
  clear h1
  have hu := Tryd.underlying24
  have hb0 := hl
  have T0 : Sec True := ⟨trivial⟩
  by_cases e0 : rCell.wts x.term ≤ left
  · have s0 := Raw.spent_le e0
    have L0 := Sec.mk (show (left - rCell.wts x.term) + rCell.wts x.term = left by omega)
    have hb1 : left - rCell.wts x.term ≤ 1048576 := by omega
    generalize left - rCell.wts x.term = l0 at *
    have n0 : ¬ ((l0 : Int) < 0) := by omega
    have hfin : Sec ((l0 : Int) = Raw.spent (rSOut.wt x) left) := ⟨by rw [Raw.spent_le (by rw [rSOut_wt]; have := L0.out; omega), rSOut_wt]; have := L0.out; omega⟩
    go_enter Tryd.func7, Tryd.ntmps7
    go_wp2_with (first | (clear T0; go_at_call 6; have T1 : Sec True := ⟨trivial⟩; refine (szSCell_c v1 x.term left hb0 _ (Raw.mono_V rCell_mono (belA (Below.refl _ _) _) H1.out)).mono ?_; rintro e w1 ⟨rfl, hb1⟩; rw [s0]; have B0 := Sec.mk (bel (belA (Below.refl _ _) _) hb1); have Q := box_cells hb1 (box1 _ _); have P0 := Sec.mk Q; clear Q hb1))
    go_ret
    exact ⟨ri hfin.out, B0.out⟩
  · have s0 := Raw.spent_gt e0
    have hfin : Sec (Raw.spent (rSOut.wt x) left = -1) := ⟨Raw.spent_gt (by rw [rSOut_wt]; omega)⟩
    go_enter Tryd.func7, Tryd.ntmps7
    go_wp2_with (first | (clear T0; go_at_call 6; have T1 : Sec True := ⟨trivial⟩; refine (szSCell_c v1 x.term left hb0 _ (Raw.mono_V rCell_mono (belA (Below.refl _ _) _) H1.out)).mono ?_; rintro e w1 ⟨rfl, hb1⟩; rw [s0]; have B0 := Sec.mk (bel (belA (Below.refl _ _) _) hb1); have Q := box_cells hb1 (box1 _ _); have P0 := Sec.mk Q; clear Q hb1))
    go_ret
    exact ⟨ri hfin.out.symm, B0.out⟩
set_option maxHeartbeats 1000000 in
theorem toSlvOut_c (x : SOut) (cs : List Value) (ok : Nat → Prop) (w : World) (hK : kSOut.K w ok x cs) :
    Calls Tryd.prog 10 #[.agg cs.toArray] w fun e w' => ∃ c : List Value, e = .returned (.agg c.toArray) ∧ kSOut.O w' (fun k => w.heap.size ≤ k) x c ∧ Below w.heap.size w w' := by
  obtain ⟨_, _, rfl, ⟨rfl, _⟩, ⟨v1, rfl, h1⟩⟩ := hK
  have H1 := Sec.mk h1
  clear h1
  have hu := Tryd.underlying24
  have hu2 := Tryd.underlying31
  have T0 : Sec True := ⟨trivial⟩
  go_enter Tryd.func10, Tryd.ntmps10
  go_wp2_with (first | (clear T0; go_at_call 9; have T1 : Sec True := ⟨trivial⟩; refine (toSCell_c v1 x.term ok _ (Kd.V_below H1.out (belA (belA (belA (Below.refl _ _) _) _) _) (by decide))).mono ?_; rintro e w1 ⟨u1, rfl, hR, hb1⟩; obtain ⟨A1, n1, rfl, -, -⟩ := Kd.R_form hR; have Z1 : w.heap.size + 3 ≤ w1.heap.size := (by have := hb1.size; simp at this; omega); have R1 := Sec.mk (Kd.R_mono (S1 := fun k => w.heap.size + 3 ≤ k ∧ k < w1.heap.size) hR (fun k h1 h2 => ⟨by simp at h1; omega, h2⟩)); have G1 := Sec.mk (Foot.call ((((Foot.refl (Own w 3) w).alloc _).alloc _).alloc _) hb1); have B1 := Sec.mk (bel (belA (belA (belA (Below.refl _ _) _) _) _) hb1); have X := box_cells (b := w.heap.size) (cs := #[.int .i64 x.status, v1]) (t := 24) hb1 (box3 _ _ _ _).1; have p1_0 := X.2.1 0 _ rfl; have p1_1 := X.2.1 1 _ rfl; have P1 := Sec.mk X; clear X; have X := box_cells (b := w.heap.size + 1) (cs := #[.int .i64 0, .slice none 0 0]) (t := 31) hb1 (box3 _ _ _ _).2.1; have q1_0 := X.2.1 0 _ rfl; have qf1_0 := X.2.2 0; have q1_1 := X.2.1 1 _ rfl; have qf1_1 := X.2.2 1; have Q1 := Sec.mk X; clear X; have X := box_cells (b := w.heap.size + 1 + 1) (cs := #[.int .i64 x.status, .slice none 0 0]) (t := 31) hb1 (box3 _ _ _ _).2.2; have o1_0 := X.2.1 0 _ rfl; have of1_0 := X.2.2 0; have o1_1 := X.2.1 1 _ rfl; have of1_1 := X.2.2 1; have O1 := Sec.mk X; clear X; clear hb1 hR))
  refine bodyPost_ret (v := .agg #[.int .i64 x.status, .slice A1 x.term.length n1]) (by simp [results, Tryd.results10, go_sem, q1_0, q1_1]) rfl ⟨[.int .i64 x.status, .slice A1 x.term.length n1], rfl, ?_, ?_⟩
  rotate_left
  · refine Foot.own (n := 3) (Foot.trans (S' := Own w 3) G1.out ?_ (fun _ _ h => h))
    exact (Foot.set (Foot.set (Foot.set (Foot.refl _ _) (.inl ⟨by omega, by omega⟩) _ _) (.inl ⟨by omega, by omega⟩) _ _) (.inl ⟨by omega, by omega⟩) _ _)
  · have FF : ∀ W, Foot (Own w 3) w1 W → kSOut.O W (fun k => w.heap.size ≤ k) x [.int .i64 x.status, .slice A1 x.term.length n1] := fun W FF => ?_
    · refine FF _ ?_
      exact (Foot.set (Foot.set (Foot.set (Foot.refl _ _) (.inl ⟨by omega, by omega⟩) _ _) (.inl ⟨by omega, by omega⟩) _ _) (.inl ⟨by omega, by omega⟩) _ _)
    · exact (Kd.O_stack (d := (Kd.int 3)) (e := (Kd.slice 28 kCell (by decide))) (n0 := w.heap.size) (n1 := w.heap.size) ⟨rfl, trivial⟩ ⟨_, rfl, Kd.R_mono (Foot.R FF R1.out (fun k h1 h2 => by have := h1.1; have := h2.2; omega)) (fun k h _ => by have := h.1; have := h.2; omega)⟩ (by omega))
set_option maxHeartbeats 2000000 in
theorem eqSlvOut_c (x y : SOut) (cs ds : List Value) (ok ok' : Nat → Prop) (w : World) (hK : kSOut.K w ok x cs) (hD : kSOut.K w ok' y ds) :
    Calls Tryd.prog 13 #[.agg cs.toArray, .agg ds.toArray] w fun e w' => e = .returned (.bool (decide (x = y))) ∧ Below w.heap.size w w' := by
  obtain ⟨_, _, rfl, ⟨rfl, _⟩, ⟨v1, rfl, h1⟩⟩ := hK
  have H1 := Sec.mk h1
  clear h1
  obtain ⟨_, _, rfl, ⟨rfl, _⟩, ⟨u1, rfl, g1⟩⟩ := hD
  have G1 := Sec.mk g1
  clear g1
  have hu := Tryd.underlying31
  have hxy := Sec.mk (SOut.ext_iff x y)
  have T0 : Sec True := ⟨trivial⟩
  by_cases h0 : x.status = y.status
  · have E0 := Sec.mk h0
    have d0 : (x.status == y.status) = true := beq_iff_eq.2 h0
    clear h0
    by_cases h1 : x.term = y.term
    · have E1 := Sec.mk h1
      have d1 : decide (x.term = y.term) = true := decide_eq_true h1
      clear h1
      have hd : Sec (decide (x = y) = true) := ⟨by rw [decide_eq_true_eq, hxy.out]; exact ⟨E0.out, E1.out⟩⟩
      go_enter Tryd.func13, Tryd.ntmps13
      go_wp2_with (first | (clear T0; go_at_call 12; have T1 : Sec True := ⟨trivial⟩; refine (eqSCell_c v1 u1 x.term y.term ok ok' _ (Kd.V_below H1.out (belA (belA (Below.refl _ _) _) _) (by decide)) (Kd.V_below G1.out (belA (belA (Below.refl _ _) _) _) (by decide))).mono ?_; rintro e w1 ⟨rfl, hb1⟩; rw [d1]; have B1 := Sec.mk (bel (belA (belA (Below.refl _ _) _) _) hb1); have X := box_cells (b := w.heap.size) (cs := #[.int .i64 x.status, v1]) (t := 31) hb1 (box2 _ _ _).1; have p1_1 := X.2.1 1 _ rfl; have P1 := Sec.mk X; clear X; have X := box_cells (b := w.heap.size + 1) (cs := #[.int .i64 y.status, u1]) (t := 31) hb1 (box2 _ _ _).2; have q1_1 := X.2.1 1 _ rfl; have Q1 := Sec.mk X; clear X hb1))
      go_ret
      exact ⟨rb hd.out.symm, B1.out⟩
    · have hd : Sec (decide (x = y) = false) := ⟨by rw [decide_eq_false_iff_not, hxy.out]; exact fun h => h1 h.2⟩
      have d1 : decide (x.term = y.term) = false := decide_eq_false h1
      clear h1
      go_enter Tryd.func13, Tryd.ntmps13
      go_wp2_with (first | (clear T0; go_at_call 12; have T1 : Sec True := ⟨trivial⟩; refine (eqSCell_c v1 u1 x.term y.term ok ok' _ (Kd.V_below H1.out (belA (belA (Below.refl _ _) _) _) (by decide)) (Kd.V_below G1.out (belA (belA (Below.refl _ _) _) _) (by decide))).mono ?_; rintro e w1 ⟨rfl, hb1⟩; rw [d1]; have B1 := Sec.mk (bel (belA (belA (Below.refl _ _) _) _) hb1); have X := box_cells (b := w.heap.size) (cs := #[.int .i64 x.status, v1]) (t := 31) hb1 (box2 _ _ _).1; have p1_1 := X.2.1 1 _ rfl; have P1 := Sec.mk X; clear X; have X := box_cells (b := w.heap.size + 1) (cs := #[.int .i64 y.status, u1]) (t := 31) hb1 (box2 _ _ _).2; have q1_1 := X.2.1 1 _ rfl; have Q1 := Sec.mk X; clear X hb1))
      go_ret
      exact ⟨rb hd.out.symm, B1.out⟩
  · have hd : Sec (decide (x = y) = false) := ⟨by rw [decide_eq_false_iff_not, hxy.out]; exact fun h => h0 h.1⟩
    have d0 : (x.status == y.status) = false := beq_eq_false_iff_ne.2 h0
    clear h0
    go_enter Tryd.func13, Tryd.ntmps13
    go_wp2
    go_ret
    exact ⟨rb hd.out.symm, (belA (belA (Below.refl _ _) _) _)⟩
def mSOut : Mk SOut := ⟨fun x => 1 + mCell.cnts x.term, fun x k => ⟨k, mCell.mks x.term (k + 1)⟩⟩
def mSOutt : Mk SOut := ⟨fun x => mCell.cnts x.term, fun x k => ⟨x.status, mCell.mks x.term (k)⟩⟩
end
section
open Go.RowKit
theorem carryB {w W : World} {b : Nat} {o : Obj} (h : Below w.heap.size w W) (hb : w.heap[b]? = some o) : W.heap[b]? = some o := (h.block b (Array.getElem?_eq_some_iff.1 hb).1).trans hb
end
section
open Go.RowKit
set_option linter.unusedVariables false
set_option maxRecDepth 100000
set_option maxHeartbeats 16000000 in
theorem FnExactOutOk_law_c (v : Value) (t : Term) (s : SOut) (cs : List Value) (w0 : World) (hV : rCell.V w0 v t) (hK : rSOut.K w0 s cs) :
    Calls Tryd.prog 3 #[v, .agg cs.toArray] w0 fun e w' => e = .returned (.bool true) ∧ Below w0.heap.size w0 w' := by
  have hu := Tryd.underlying24
  have hu2 := Tryd.underlying31
  obtain ⟨u, rfl, hu1⟩ := rSOut_K hK
  obtain ⟨A2, c2, rfl, -⟩ := id hu1
  obtain ⟨A9, c9, rfl, -⟩ := id hV
  have WB := belA (Below.refl w0.heap.size w0) (.cells #[.int .i64 s.status, .slice A2 s.term.length c2] 24)
  have HP : Sec (∀ W, Below (w0.alloc (.cells #[.int .i64 s.status, .slice A2 s.term.length c2] 24)).heap.size (w0.alloc (.cells #[.int .i64 s.status, .slice A2 s.term.length c2] 24)) W → W.cell? ⟨w0.heap.size, 0, none⟩ = some (.int .i64 s.status) ∧ W.cell? ⟨w0.heap.size, 1, none⟩ = some (.slice A2 s.term.length c2)) := ⟨fun W h => by
    have X := (box_at ((h.block _ (Array.getElem?_eq_some_iff.1 (heap_alloc_new w0 (.cells #[.int .i64 s.status, .slice A2 s.term.length c2] 24))).1).trans (heap_alloc_new w0 _))).2.1
    exact ⟨X 0 _ rfl, X 1 _ rfl⟩⟩
  have HRV : Sec (∀ W, Below (w0.alloc (.cells #[.int .i64 s.status, .slice A2 s.term.length c2] 24)).heap.size (w0.alloc (.cells #[.int .i64 s.status, .slice A2 s.term.length c2] 24)) W → rCell.V W (.slice A9 t.length c9) t) := ⟨fun W h => Raw.mono_V rCell_mono (bel WB h) hV⟩
  have HRK : Sec (∀ W, Below (w0.alloc (.cells #[.int .i64 s.status, .slice A2 s.term.length c2] 24)).heap.size (w0.alloc (.cells #[.int .i64 s.status, .slice A2 s.term.length c2] 24)) W → rSOut.K W s [.int .i64 s.status, .slice A2 s.term.length c2]) := ⟨fun W h => rSOut_mono _ _ _ _ (bel WB h) hK⟩
  have BB : Sec (∀ W, Below (w0.alloc (.cells #[.int .i64 s.status, .slice A2 s.term.length c2] 24)).heap.size (w0.alloc (.cells #[.int .i64 s.status, .slice A2 s.term.length c2] 24)) W → Below w0.heap.size w0 W) := ⟨fun W h => bel WB h⟩
  have T0 : Sec True := ⟨trivial⟩
  by_cases hbud : rCell.wts t ≤ 1048576
  · have hsp := Raw.spent_le hbud
    have hl1 : 1048576 - rCell.wts t ≤ 1048576 := by omega
    have HVK : Sec (∀ W, Below (w0.alloc (.cells #[.int .i64 s.status, .slice A2 s.term.length c2] 24)).heap.size (w0.alloc (.cells #[.int .i64 s.status, .slice A2 s.term.length c2] 24)) W → kCell.V W (fun _ => True) (.slice A9 t.length c9) t) := ⟨fun W h => Kd.V_mono (Raw.V_fits rCell_fits (HRV.out W h) (by omega)) (fun _ _ => trivial) (by decide)⟩
    generalize hlq : 1048576 - rCell.wts t = l at *
    have hl0 : ¬ ((l : Int) < 0) := by omega
    clear hbud hlq
    by_cases hbud2 : rSOut.wt s ≤ l
    · have hsp2 := Raw.spent_le hbud2
      have HKK : Sec (∀ W, Below (w0.alloc (.cells #[.int .i64 s.status, .slice A2 s.term.length c2] 24)).heap.size (w0.alloc (.cells #[.int .i64 s.status, .slice A2 s.term.length c2] 24)) W → kSOut.K W (fun _ => True) s [.int .i64 s.status, .slice A2 s.term.length c2]) := ⟨fun W h => Kd.K_mono (rSOut_fits.2 W s [.int .i64 s.status, .slice A2 s.term.length c2] (HRK.out W h) (by omega)) (fun _ _ => trivial)⟩
      generalize l - rSOut.wt s = l2 at hsp2
      have hl2 : ¬ ((l2 : Int) < 0) := by omega
      clear hbud2 hK hV hu1 WB
      generalize hbp : w0.heap.size = bp at *
      go_enter Tryd.func3, Tryd.ntmps3
      go_wp2_with (first | (clear T1; go_at_call 7; refine (szSlvOut_c s [.int .i64 s.status, .slice A2 s.term.length c2] l hl1 _ (HRK.out _ B1.out)).mono ?_; rintro e wr ⟨rfl, hb⟩; rw [hsp2]; have B2 := Sec.mk (bel B1.out hb); obtain ⟨p0, p1⟩ := HP.out _ B2.out; have P0 := Sec.mk p0; have P1 := Sec.mk p1; clear hb) | (go_at_call 6; have T1 : Sec True := ⟨trivial⟩; refine (szSCell_c _ t 1048576 (Nat.le_refl _) _ (HRV.out _ (Below.refl _ _))).mono ?_; rintro e w1 ⟨rfl, hb⟩; rw [hsp]; have B1 := Sec.mk hb; obtain ⟨p0, p1⟩ := HP.out _ hb; clear hb))
      clear p0 p1
      refine wp_region_lists [[20], [21], [22], [23], [24], [6]]
        [fun val _ _ => val 20 = .slice A9 t.length c9,
          onR kCell 21 t,
          fun val _ _ => val 22 = .agg #[.int .i64 s.status, .slice A2 s.term.length c2],
          onO kSOut 23 s,
          fun val _ _ => val 24 = .bool (outOk t s.status s.term),
          fun val _ _ => val 6 = .bool (outOk t s.status s.term)]
        [[], [], [], [], [1, 3], []] 0 (fun _ => False) (fun _ _ => False) (by kernel_rfl) ⟨by kernel_rfl, by kernel_rfl, by kernel_rfl, by kernel_rfl, by kernel_rfl⟩
        (.cons (stab_val 20 (fun v => v = .slice A9 t.length c9)) (.cons (stab_R kCell 21 t) (.cons (stab_val 22 (fun v => v = .agg #[.int .i64 s.status, .slice A2 s.term.length c2])) (.cons (stab_O kSOut 23 s) (.cons (stab_val 24 (fun v => v = .bool (outOk t s.status s.term))) (.cons (stab_val 6 (fun v => v = .bool (outOk t s.status s.term))) .nil))))))
        (fun i j k h1 h2 => h1.elim) (fun i k h => h.elim) (fun i h1 h2 => by simp at h1 h2; omega) (.cons ?_ (.cons ?_ (.cons ?_ (.cons ?_ (.cons ?_ (.cons ?_ .nil)))))) ?_
      · intro a W own hfor huse hap hmi hF K hK
        have e0 : a.eval (.tmp 0) = .slice A9 t.length c9 := hfor 0 (by kernel_rfl)
        refine op_val (.slice A9 t.length c9) W rfl ?_ (hK _ _ (post_pure ?_))
        · clear hfor huse hap hmi hK hF
          generalize a.eval = ρ at *
          go_simp
        · exact (if_pos rfl)
      · intro a W own hfor huse hap hmi hF K hK
        have e20 : a.eval (.tmp 20) = .slice A9 t.length c9 := huse 0 (by kernel_rfl)
        have hbw : Below wr.heap.size wr W := hF.below (belD (Below.refl _ _)) (fun k h => h.elim)
        have efn : a.eval (.func 9) = .func (.func 9) #[] #[] := rfl
        refine op_call (f := 9) (args := #[.slice A9 t.length c9]) (fun v w1 => kCell.R w1 (fun k => W.heap.size ≤ k) v t ∧ Below W.heap.size W w1) rfl ?_ ?_ (fun v w1 h => ?_)
        · clear hfor huse hap hmi hK hF
          generalize a.eval = ρ at *
          go_simp
        · exact (toSCell_c _ t _ W (HVK.out _ (bel B2.out hbw))).mono (by rintro e w1 ⟨u, rfl, h1, h2⟩; exact ⟨_, rfl, h1, h2⟩)
        · obtain ⟨h1, h2⟩ := h
          exact hK _ _ (post_new h2 (by show kCell.R _ _ (if _ then _ else _) t; rw [if_pos rfl]; exact Kd.R_mono h1 (fun k h3 h4 => ⟨h3, h4⟩)))
      · intro a W own hfor huse hap hmi hF K hK
        have e3 : a.eval (.tmp 3) = .pointer (some ⟨bp, 0, none⟩) := hfor 3 (by kernel_rfl)
        have c0 := foot_cell hF (fun h => h) P0.out
        have c1 := foot_cell hF (fun h => h) P1.out
        refine op_val (.agg #[.int .i64 s.status, .slice A2 s.term.length c2]) W rfl ?_ (hK _ _ (post_pure ?_))
        · clear hfor huse hap hmi hK hF
          generalize a.eval = ρ at *
          go_simp
        · exact (if_pos rfl)
      · intro a W own hfor huse hap hmi hF K hK
        have e22 : a.eval (.tmp 22) = .agg #[.int .i64 s.status, .slice A2 s.term.length c2] := huse 2 (by kernel_rfl)
        have hbw : Below wr.heap.size wr W := hF.below (belD (Below.refl _ _)) (fun k h => h.elim)
        have efn : a.eval (.func 10) = .func (.func 10) #[] #[] := rfl
        refine op_call (f := 10) (args := #[.agg #[.int .i64 s.status, .slice A2 s.term.length c2]]) (fun v w1 => ∃ c : List Value, v = .agg c.toArray ∧ kSOut.O w1 (fun k => W.heap.size ≤ k) s c ∧ Below W.heap.size W w1) rfl ?_ ?_ (fun v w1 h => ?_)
        · clear hfor huse hap hmi hK hF
          generalize a.eval = ρ at *
          go_simp
        · exact (toSlvOut_c s [.int .i64 s.status, .slice A2 s.term.length c2] _ W (HKK.out _ (bel B2.out hbw))).mono (by rintro e w1 ⟨c, rfl, h1, h2⟩; exact ⟨_, rfl, c, rfl, h1, h2⟩)
        · obtain ⟨c, rfl, h1, h2⟩ := h
          exact hK _ _ (post_new h2 ⟨c, if_pos rfl, kSOut.O_mono h1 (fun k h3 h4 => ⟨h3, h4⟩)⟩)
      · intro a W own hfor huse hap hmi hF K hK
        have r1 : kCell.R W (own 1) (a.eval (.tmp 21)) t := huse 1 (by kernel_rfl)
        obtain ⟨A1, n1, e21, -, -⟩ := Kd.R_form r1
        rw [e21] at r1
        obtain ⟨cs3, e23, r3⟩ := (huse 3 (by kernel_rfl) : onO kSOut 23 s (slotsOf a) (own 3) W)
        have e23 : a.eval (.tmp 23) = .agg cs3.toArray := e23
        obtain ⟨vq, hcq, hvq⟩ := kSOut_K (kSOut.O_K r3)
        rw [hcq] at e23
        have efn : a.eval (.func 8) = .func (.func 8) #[] #[] := rfl
        refine op_call (f := 8) (args := #[.slice A1 t.length n1, .agg #[.int .i64 s.status, vq]]) (fun v w1 => v = .bool (outOk t s.status s.term) ∧ Below W.heap.size W w1) rfl ?_ ?_ (fun v w1 h => ?_)
        · clear hfor huse hap hmi hK hF hcq
          generalize a.eval = ρ at *
          go_simp
        · exact (OutOk_c _ vq t s.term s.status (fun k => k < W.heap.size) W (Kd.V_move (fun k _ hl => ⟨hl, rfl⟩) (Kd.R_V r1) (by decide)) (Kd.V_move (fun k _ hl => ⟨hl, rfl⟩) hvq (by decide)) (fun k h => h)).mono (by rintro e w1 ⟨rfl, h2⟩; exact ⟨_, rfl, rfl, h2⟩)
        · obtain ⟨rfl, h2⟩ := h
          exact hK _ _ ⟨fun k => own 1 k ∨ own 3 k, Foot.of_below h2, if_pos rfl, fun k h => .inl (h.elim (fun h => ⟨1, by decide, h⟩) (fun h => ⟨3, by decide, h⟩))⟩
      · intro a W own hfor huse hap hmi hF K hK
        have e24 : a.eval (.tmp 24) = .bool (outOk t s.status s.term) := huse 4 (by kernel_rfl)
        refine op_val (.bool (outOk t s.status s.term)) W rfl ?_ (hK _ _ (post_pure ?_))
        · clear hfor huse hap hmi hK hF
          generalize a.eval = ρ at *
          go_simp
        · exact (if_pos rfl)
      intro a' W own hf
      have s1 := hf.st.size
      have s2 := hf.st.rest
      have s3 := fun t ht => hf.st.kept t ht
      revert hf
      revert a'
      refine lay_intro (df := []) [true, true, true, true, true, true, false, true, true, true, true, true, true, true, true, true, true, true, true, true, false, false, false, false, false, true, true, true, true, true, true, true, true, true, true, true, true, true, true, true, true, true, true, true, true] (by kernel_rfl) rfl ?_
      intro x24 x23 x22 x21 x20 x6 hf
      have e6 : x6 = .bool (outOk t s.status s.term) := hf.at 5 (fun val _ _ => val 6 = .bool (outOk t s.status s.term)) rfl (by kernel_rfl)
      subst e6
      have HF := Sec.mk hf.st.foot
      have BF := Sec.mk (HF.out.below (belD (Below.refl _ _)) (fun k h => h.elim))
      clear hf HF
      have B3 := Sec.mk (bel B2.out BF.out)
      
      obtain ⟨p0, p1⟩ := HP.out _ B3.out
      have hne : (outOk t s.status s.term != outOk t s.status s.term) = false := bne_self_eq_false _
      go_wp2_with (first | (clear T9; go_at_call 12; have T10 : Sec True := ⟨trivial⟩; refine (eqSCell_c _ _ t t _ _ _ R8.out S8.out).mono ?_; rintro e w9 ⟨rfl, hb⟩; rw [decide_eq_true (rfl : t = t)]; have B9 := Sec.mk (bel B8.out hb); have R9 := Sec.mk (Kd.V_below R8.out hb (by decide)); have K9 := Sec.mk (Kd.K_below K8.out hb); have X9 := Sec.mk (carryB hb X8.out); clear y0 y1; have hY := (box_at X9.out).2.1; have y0 : w9.cell? ⟨w5.heap.size, 0, none⟩ = some (.int .i64 s.status) := hY 0 _ rfl; have y1 : w9.cell? ⟨w5.heap.size, 1, none⟩ = some (.slice AX s.term.length nX) := hY 1 _ rfl; clear hb hY) | (clear T8; go_at_call 9; have T9 : Sec True := ⟨trivial⟩; refine (toSCell_c _ t _ _ (HVK.out _ B7.out)).mono ?_; rintro e w8 ⟨u8, rfl, hR, hb⟩; obtain ⟨A8, n8, rfl, -, -⟩ := Kd.R_form hR; have S8 := Sec.mk (Kd.R_V hR); have B8 := Sec.mk (bel B7.out hb); have R8 := Sec.mk (Kd.V_below R7.out hb (by decide)); have K8 := Sec.mk (Kd.K_below K7.out hb); have X8 := Sec.mk (carryB hb X7.out); clear y0 y1; have hY := (box_at X8.out).2.1; have y0 : w8.cell? ⟨w5.heap.size, 0, none⟩ = some (.int .i64 s.status) := hY 0 _ rfl; have y1 : w8.cell? ⟨w5.heap.size, 1, none⟩ = some (.slice AX s.term.length nX) := hY 1 _ rfl; clear hb hY; clear hR) | (clear T7; go_at_call 11; have T8 : Sec True := ⟨trivial⟩; refine (OutOk_i _ _ t s.term s.status (fun _ => True) _ R6.out VX6.out).mono ?_; rintro e w7 ⟨rfl, hb⟩; have B7 := Sec.mk (bel B6.out hb); have R7 := Sec.mk (Kd.V_below R6.out hb (by decide)); have K7 := Sec.mk (Kd.K_below K6.out hb); have X7 := Sec.mk (carryB hb X6.out); clear y0 y1; have hY := (box_at X7.out).2.1; have y0 : w7.cell? ⟨w5.heap.size, 0, none⟩ = some (.int .i64 s.status) := hY 0 _ rfl; have y1 : w7.cell? ⟨w5.heap.size, 1, none⟩ = some (.slice AX s.term.length nX) := hY 1 _ rfl; clear hb hY) | (clear T6; with_reducible show wpList _ _ _ (⟨none, .store 31 (.tmp 8) (.tmp 28), _, _, _, _⟩ :: _) _ _; have T7 : Sec True := ⟨trivial⟩; refine wpList_store (cs := [.int .i64 s.status, .slice AX s.term.length nX]) (old := #[.int .i64 0, .slice none 0 0]) rfl 31 (.tmp 8) (.tmp 28) rfl rfl rfl (heap_alloc_new _ _) (by kernel_rfl) rfl (kSOut.K_one K5.out) ?_; intro w6 hb6 hF6; have B56 := Foot.below (w0 := w5) hF6 (belA (Below.refl _ _) _) (fun k hk => Nat.le_of_eq hk.symm); have B6 := Sec.mk (bel B5.out B56); have X6 := Sec.mk hb6; have R6 := Sec.mk (Kd.V_mono (ok1 := fun _ => True) (Kd.V_below R5.out B56 (by decide)) (fun _ _ => trivial) (by decide)); have VX6 := Sec.mk (Kd.V_mono (ok1 := fun _ => True) (Kd.V_below VX5.out B56 (by decide)) (fun _ _ => trivial) (by decide)); have K6 := Sec.mk (Kd.K_below K5.out B56); have Z6 : Sec (w5.heap.size < w6.heap.size) := ⟨(Array.getElem?_eq_some_iff.1 hb6).1⟩; have hY := (box_at hb6).2.1; have y0 : w6.cell? ⟨w5.heap.size, 0, none⟩ = some (.int .i64 s.status) := hY 0 _ rfl; have y1 : w6.cell? ⟨w5.heap.size, 1, none⟩ = some (.slice AX s.term.length nX) := hY 1 _ rfl; clear hY hb6 hF6 B56) | (clear T5; go_at_call 10; have T6 : Sec True := ⟨trivial⟩; refine (toSlvOut_c s [.int .i64 s.status, .slice A2 s.term.length c2] _ _ (HKK.out _ B4.out)).mono ?_; rintro e w5 ⟨c5, rfl, hO, hb⟩; obtain ⟨vx, rfl, hvx⟩ := kSOut_K (kSOut.O_K hO); obtain ⟨AX, nX, rfl, -⟩ := id hvx; have K5 := Sec.mk (kSOut.O_K hO); have B5 := Sec.mk (bel B4.out hb); have R5 := Sec.mk (Kd.V_below R4.out hb (by decide)); have VX5 := Sec.mk hvx; clear hb hO hvx p0 p1) | (clear T0; go_at_call 9; have T5 : Sec True := ⟨trivial⟩; refine (toSCell_c _ t _ _ (HVK.out _ B3.out)).mono ?_; rintro e w4 ⟨u4, rfl, hR, hb⟩; obtain ⟨A4, n4, rfl, -, -⟩ := Kd.R_form hR; have R4 := Sec.mk (Kd.R_V hR); have B4 := Sec.mk (bel B3.out hb); clear p0 p1; obtain ⟨p0, p1⟩ := HP.out _ B4.out; clear hb hR))
      have Y0 := Sec.mk y0
      have Y1 := Sec.mk y1
      obtain ⟨p0, p1⟩ := HP.out _ B9.out
      have P0 := Sec.mk p0
      have P1 := Sec.mk p1
      clear y0 y1 p0 p1
      refine wp_region_lists [[40], [41], [42], [43], [44]]
        [fun val _ _ => val 40 = .agg #[.int .i64 s.status, .slice AX s.term.length nX],
          fun val _ _ => val 41 = .agg #[.int .i64 s.status, .slice A2 s.term.length c2],
          onO kSOut 42 s,
          fun val _ _ => val 43 = .bool true,
          fun val _ _ => val 44 = .bool false]
        [[], [], [], [2], []] 0 (fun _ => False) (fun _ _ => False) (by kernel_rfl) ⟨by kernel_rfl, by kernel_rfl, by kernel_rfl, by kernel_rfl, by kernel_rfl⟩
        (.cons (stab_val 40 (fun v => v = .agg #[.int .i64 s.status, .slice AX s.term.length nX])) (.cons (stab_val 41 (fun v => v = .agg #[.int .i64 s.status, .slice A2 s.term.length c2])) (.cons (stab_O kSOut 42 s) (.cons (stab_val 43 (fun v => v = .bool true)) (.cons (stab_val 44 (fun v => v = .bool false)) .nil)))))
        (fun i j k h1 h2 => h1.elim) (fun i k h => h.elim) (fun i h1 h2 => by simp at h1 h2; omega) (.cons ?_ (.cons ?_ (.cons ?_ (.cons ?_ (.cons ?_ .nil))))) ?_
      · intro a W own hfor huse hap hmi hF K hK
        have e8 : a.eval (.tmp 8) = .pointer (some ⟨w5.heap.size, 0, none⟩) := hfor 8 (by kernel_rfl)
        have c0 := foot_cell hF (fun h => h) Y0.out
        have c1 := foot_cell hF (fun h => h) Y1.out
        refine op_val (.agg #[.int .i64 s.status, .slice AX s.term.length nX]) W rfl ?_ (hK _ _ (post_pure ?_))
        · clear hfor huse hap hmi hK hF
          generalize a.eval = ρ at *
          go_simp
        · exact (if_pos rfl)
      · intro a W own hfor huse hap hmi hF K hK
        have e3 : a.eval (.tmp 3) = .pointer (some ⟨bp, 0, none⟩) := hfor 3 (by kernel_rfl)
        have c0 := foot_cell hF (fun h => h) P0.out
        have c1 := foot_cell hF (fun h => h) P1.out
        refine op_val (.agg #[.int .i64 s.status, .slice A2 s.term.length c2]) W rfl ?_ (hK _ _ (post_pure ?_))
        · clear hfor huse hap hmi hK hF
          generalize a.eval = ρ at *
          go_simp
        · exact (if_pos rfl)
      · intro a W own hfor huse hap hmi hF K hK
        have e41 : a.eval (.tmp 41) = .agg #[.int .i64 s.status, .slice A2 s.term.length c2] := huse 1 (by kernel_rfl)
        have hbw : Below w9.heap.size w9 W := hF.below (belD (Below.refl _ _)) (fun k h => h.elim)
        have efn : a.eval (.func 10) = .func (.func 10) #[] #[] := rfl
        refine op_call (f := 10) (args := #[.agg #[.int .i64 s.status, .slice A2 s.term.length c2]]) (fun v w1 => ∃ c : List Value, v = .agg c.toArray ∧ kSOut.O w1 (fun k => W.heap.size ≤ k) s c ∧ Below W.heap.size W w1) rfl ?_ ?_ (fun v w1 h => ?_)
        · clear hfor huse hap hmi hK hF
          generalize a.eval = ρ at *
          go_simp
        · exact (toSlvOut_c s [.int .i64 s.status, .slice A2 s.term.length c2] _ W (HKK.out _ (bel B9.out hbw))).mono (by rintro e w1 ⟨c, rfl, h1, h2⟩; exact ⟨_, rfl, c, rfl, h1, h2⟩)
        · obtain ⟨c, rfl, h1, h2⟩ := h
          exact hK _ _ (post_new h2 ⟨c, if_pos rfl, kSOut.O_mono h1 (fun k h3 h4 => ⟨h3, h4⟩)⟩)
      · intro a W own hfor huse hap hmi hF K hK
        obtain ⟨cs2, e42, r2⟩ := (huse 2 (by kernel_rfl) : onO kSOut 42 s (slotsOf a) (own 2) W)
        have e42 : a.eval (.tmp 42) = .agg cs2.toArray := e42
        have e40 : a.eval (.tmp 40) = .agg #[.int .i64 s.status, .slice AX s.term.length nX] := huse 0 (by kernel_rfl)
        have hbw : Below w9.heap.size w9 W := hF.below (belD (Below.refl _ _)) (fun k h => h.elim)
        have efn : a.eval (.func 13) = .func (.func 13) #[] #[] := rfl
        refine op_call (f := 13) (args := #[.agg ([.int .i64 s.status, .slice AX s.term.length nX]).toArray, .agg cs2.toArray]) (fun v w1 => v = .bool true ∧ Below W.heap.size W w1) rfl ?_ ?_ (fun v w1 h => ?_)
        · clear hfor huse hap hmi hK hF
          generalize a.eval = ρ at *
          go_simp
        · exact (eqSlvOut_c s s [.int .i64 s.status, .slice AX s.term.length nX] cs2 _ _ W (Kd.K_below K9.out hbw) (kSOut.O_K r2)).mono (by rintro e w1 ⟨rfl, h2⟩; rw [decide_eq_true (rfl : s = s)]; exact ⟨_, rfl, rfl, h2⟩)
        · obtain ⟨rfl, h2⟩ := h
          exact hK _ _ ⟨fun k => own 2 k, Foot.of_below h2, if_pos rfl, fun k h => .inl ⟨2, by decide, h⟩⟩
      · intro a W own hfor huse hap hmi hF K hK
        have e43 : a.eval (.tmp 43) = .bool true := huse 3 (by kernel_rfl)
        refine op_val (.bool false) W rfl ?_ (hK _ _ (post_pure ?_))
        · clear hfor huse hap hmi hK hF
          generalize a.eval = ρ at *
          go_simp
        · exact (if_pos rfl)
      intro a' W own hf
      have s1 := hf.st.size
      have s2 := hf.st.rest
      have s3 := fun t ht => hf.st.kept t ht
      revert hf
      revert a'
      refine lay_intro (df := []) [true, true, true, true, true, true, true, true, true, true, true, true, true, true, true, true, true, true, true, true, true, true, true, true, true, true, true, true, true, true, true, true, true, true, true, true, true, true, true, true, false, false, false, false, false] (by kernel_rfl) rfl ?_
      intro x44 x43 x42 x41 x40 hf
      have e44 : x44 = .bool false := hf.at 4 (fun val _ _ => val 44 = .bool false) rfl (by kernel_rfl)
      subst e44
      have HF2 := Sec.mk hf.st.foot
      have BF2 := Sec.mk (HF2.out.below (belD (Below.refl _ _)) (fun k h => h.elim))
      clear hf HF2
      
      have B12 := Sec.mk (bel B9.out BF2.out)
      go_wp2
      go_ret
      subst hbp
      exact ⟨rfl, BB.out _ B12.out⟩
    · have hsp2 := Raw.spent_gt hbud2
      clear hbud2 hK hV hu1 WB
      generalize hbp : w0.heap.size = bp at *
      go_enter Tryd.func3, Tryd.ntmps3
      go_wp2_with (first | (clear T1; go_at_call 7; refine (szSlvOut_c s [.int .i64 s.status, .slice A2 s.term.length c2] l hl1 _ (HRK.out _ B1.out)).mono ?_; rintro e wr ⟨rfl, hb⟩; rw [hsp2]; have B2 := Sec.mk (bel B1.out hb); obtain ⟨p0, p1⟩ := HP.out _ B2.out; have P0 := Sec.mk p0; have P1 := Sec.mk p1; clear hb) | (go_at_call 6; have T1 : Sec True := ⟨trivial⟩; refine (szSCell_c _ t 1048576 (Nat.le_refl _) _ (HRV.out _ (Below.refl _ _))).mono ?_; rintro e w1 ⟨rfl, hb⟩; rw [hsp]; have B1 := Sec.mk hb; obtain ⟨p0, p1⟩ := HP.out _ hb; clear hb))
      go_ret
      subst hbp
      exact ⟨rfl, BB.out _ B2.out⟩
  · have hsp := Raw.spent_gt hbud
    clear hbud hK hV hu1 WB
    generalize hbp : w0.heap.size = bp at *
    go_enter Tryd.func3, Tryd.ntmps3
    go_wp2_with (first | (go_at_call 6; have T1 : Sec True := ⟨trivial⟩; refine (szSCell_c _ t 1048576 (Nat.le_refl _) _ (HRV.out _ (Below.refl _ _))).mono ?_; rintro e w1 ⟨rfl, hb⟩; rw [hsp]; have B1 := Sec.mk hb; obtain ⟨p0, p1⟩ := HP.out _ hb; clear hb))
    go_ret
    subst hbp
    exact ⟨rfl, BB.out _ B1.out⟩
end
end Go.Proofs.YteflipoiiddkfaaDoor
