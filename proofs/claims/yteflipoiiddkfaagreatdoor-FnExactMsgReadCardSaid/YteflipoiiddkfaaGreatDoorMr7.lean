/- Contract: whether an outcome may be one of a question (the reference); and what goes with it. -/
import Derived.Test.YteflipoiiddkfaaGreatDoorMr2
import Derived.Test.YteflipoiiddkfaaGreatDoorMr3
import Derived.Test.YteflipoiiddkfaaGreatDoorMr4
import Derived.Test.YteflipoiiddkfaaGreatDoorMr5
import Derived.Test.YteflipoiiddkfaaGreatDoorMr6
import Derived.Outline
import Derived.KernelRfl
import Derived.WalkLawsBesides
import Derived.Deep.LoopGhost
import Derived.Deep.QuietTactic
import Derived.BigQuiet
import Derived.Laws.Bits64
namespace Go.Proofs.YteflipoiiddkfaaGreatDoor
section
open Go.RowKit
set_option linter.unusedVariables false
set_option maxRecDepth 100000
theorem l2Unify0 {w : World} {S ok1 ok2 : Nat → Prop} {v va vb : Value} {a b : Term} (hR : kBind.R w S v []) (hA : kCell.V w ok1 va a) (hB : kCell.V w ok2 vb b) (h1 : ∀ k, ok1 k → ¬ S k) (h2 : ∀ k, ok2 k → ¬ S k) (ha : trmOk a = true) (hb : trmOk b = true) :
    Calls Tryz.prog 62 #[v, va, vb] w fun e w' => ∃ x, e = .returned (.tuple #[x, .bool (sameU a b)]) ∧ Foot S w w' := by
  obtain ⟨n, r, h, _⟩ := uni_total BOk.nil ha hb
  obtain ⟨_, _, _, hS⟩ := Kd.R_own hR
  have hW : kBind.W w (fun k => v.ownBlock = some k) (fun k => k < w.heap.size ∧ v.ownBlock ≠ some k) v [] := by
    obtain ⟨h0, ⟨rfl, _⟩ | ⟨b, cap, cur, rfl, hb, hSb, g1, g2, g3, g4⟩⟩ := hR
    · exact Kd.W_nil _ _ _ _
    · exact ⟨h0, .inr ⟨b, cap, cur, rfl, hb, by simp [Value.ownBlock], g1, g2, g3, by simp [Kd.Ks]⟩⟩
  refine (l2Unify_c n v va vb [] a b _ _ 0 w r BOk.nil hW (fun k hk => ⟨Nat.zero_le _, (hS k hk).2, fun h => h.2 hk⟩) (fun k hk => hk.1) (Nat.zero_le _) (Kd.V_move (fun k hk hl => ⟨⟨hl, fun e => h1 k hk (hS k e).1⟩, rfl⟩) hA (by decide)) (Kd.V_move (fun k hk hl => ⟨⟨hl, fun e => h2 k hk (hS k e).1⟩, rfl⟩) hB (by decide)) ha hb h).mono ?_
  rintro e w' ⟨okE', hk, hp⟩
  have hF : Foot S w w' := ⟨hk.2.2.2.2.os, hk.2.2.2.2.tape, hk.2.2.2.2.output, hk.2.2.2.2.size, fun k hl hn => hk.2.2.2.1 k ⟨hl, fun e => hn (hS k e).1⟩ hl⟩
  rw [← sameU_eq h]
  cases r with
  | none => obtain ⟨v0, rfl⟩ := hp; exact ⟨_, rfl, hF⟩
  | some s1 => obtain ⟨v1, rfl, _⟩ := hp; exact ⟨_, rfl, hF⟩
theorem specTrmOk_b {v : Value} {t : Term} {ok : Nat → Prop} {w : World} {b : Bool} (hV : kCell.V w ok v t) (h : trmOk t = b) : Calls Tryz.prog 48 #[v] w fun e w' => e = .returned (.bool b) ∧ Below w.heap.size w w' := by
  rw [← h]; exact TrmOk_c v t ok w hV
theorem specTrmSame_b {v u : Value} {t s : Term} {ok ok' : Nat → Prop} {w : World} {b : Bool} (hV : kCell.V w ok v t) (hU : kCell.V w ok' u s) (h : decide (t = s) = b) : Calls Tryz.prog 60 #[v, u] w fun e w' => e = .returned (.bool b) ∧ Below w.heap.size w w' := by
  rw [← h]; exact TrmSame_c v u t s ok ok' w hV hU
set_option maxHeartbeats 16000000 in
theorem OutOk_c (v u : Value) (top t : Term) (st : Int) (ok : Nat → Prop) (w : World) (hV : kCell.V w ok v top) (hT : kCell.V w ok u t) (hok : ∀ k, ok k → k < w.heap.size) :
    Calls Tryz.prog 47 #[v, .agg #[.int .i64 st, u]] w fun e w' => e = .returned (.bool (outOk top st t)) ∧ Below w.heap.size w w' := by
  obtain ⟨Au, cu, rfl, -⟩ := id hT
  have b0 : Below w.heap.size w (w.alloc (.cells #[.int .i64 st, .slice Au t.length cu] 32)) := belA (Below.refl _ _) _
  have HOK : Sec (∀ W, Below (w.alloc (.cells #[.int .i64 st, .slice Au t.length cu] 32)).heap.size (w.alloc (.cells #[.int .i64 st, .slice Au t.length cu] 32)) W → ∀ k, ok k → k < W.heap.size) := ⟨fun W h k hk => Nat.lt_of_lt_of_le (hok k hk) (bel b0 h).size⟩
  have HW : Sec (∀ W, Below (w.alloc (.cells #[.int .i64 st, .slice Au t.length cu] 32)).heap.size (w.alloc (.cells #[.int .i64 st, .slice Au t.length cu] 32)) W → W.cell? ⟨w.heap.size, 0, none⟩ = some (.int .i64 st) ∧ W.cell? ⟨w.heap.size, 1, none⟩ = some (.slice Au t.length cu)) := ⟨fun W h => by
    have X := (box_at ((h.block _ (Array.getElem?_eq_some_iff.1 (heap_alloc_new w (.cells #[.int .i64 st, .slice Au t.length cu] 32))).1).trans (heap_alloc_new w _))).2.1
    exact ⟨X 0 _ rfl, X 1 _ rfl⟩⟩
  have HT : Sec (∀ W, Below (w.alloc (.cells #[.int .i64 st, .slice Au t.length cu] 32)).heap.size (w.alloc (.cells #[.int .i64 st, .slice Au t.length cu] 32)) W → kCell.V W ok (.slice Au t.length cu) t) := ⟨fun W h => Kd.V_below hT (bel b0 h) (by decide)⟩
  have HV : Sec (∀ W, Below (w.alloc (.cells #[.int .i64 st, .slice Au t.length cu] 32)).heap.size (w.alloc (.cells #[.int .i64 st, .slice Au t.length cu] 32)) W → kCell.V W ok v top) := ⟨fun W h => Kd.V_below hV (bel b0 h) (by decide)⟩
  have BB : Sec (∀ W, Below (w.alloc (.cells #[.int .i64 st, .slice Au t.length cu] 32)).heap.size (w.alloc (.cells #[.int .i64 st, .slice Au t.length cu] 32)) W → Below w.heap.size w W) := ⟨fun W h => bel b0 h⟩
  have hlen : t.length ≤ 1073741824 := by obtain ⟨_, _, _, _, _, h, _⟩ := hT; exact h
  obtain ⟨Av, cv, rfl, -⟩ := id hV
  clear hT hV b0 hok
  cases hq : question top with
  | false =>
    have HE : Sec (outOk top st t = false) := ⟨by unfold outOk; rw [hq]; rfl⟩
    have HQ := Sec.mk hq
    clear hq
    go_enter Tryz.func47, Tryz.ntmps47
    go_wp2_with (go_at_call 45; refine (l4Top_c _ top ok _ (HV.out _ (Below.refl _ _)) (HOK.out _ (Below.refl _ _))).mono ?_; rw [HQ.out]; rintro e w1 ⟨rfl, hb⟩; have B1 := Sec.mk hb; clear hb)
    go_ret
    exact ⟨rb HE.out.symm, BB.out _ B1.out⟩
  | true =>
    have HQ := Sec.mk hq
    clear hq
    by_cases h2 : st = 2
    · have d2 : (st != 2) = false := by rw [bne_eq_false_iff_eq]; exact h2
      have H2 := Sec.mk h2
      clear h2
      cases ht : trmOk t with
      | false =>
        have HE : Sec (outOk top st t = false) := ⟨by unfold outOk; rw [HQ.out, if_pos H2.out, ht]; rfl⟩
        have HTT := Sec.mk ht
        clear ht
        go_enter Tryz.func47, Tryz.ntmps47
        go_wp2_with (first | (go_at_call 45; refine (l4Top_c _ top ok _ (HV.out _ (Below.refl _ _)) (HOK.out _ (Below.refl _ _))).mono ?_; rw [HQ.out]; rintro e wr ⟨rfl, hb⟩; have B1 := Sec.mk hb; obtain ⟨p0, p1⟩ := HW.out _ hb; have P0 := Sec.mk p0; have P1 := Sec.mk p1; have HTW := Sec.mk (HT.out _ hb); have HVW := Sec.mk (HV.out _ hb); have HOW := Sec.mk (HOK.out _ hb); clear hb))
        clear p0 p1
        refine wp_region_lists [[22], [23], [24], [25], [26], [27], [28], [29], [30], [31], [32], [33], [34]]
          [fun val _ _ => val 22 = .pointer (some ⟨w.heap.size, 1, none⟩),
            fun val _ _ => val 23 = .slice Au t.length cu,
            fun val _ _ => val 24 = .bool false,
            fun val _ _ => val 25 = .bool true,
            fun val _ _ => val 26 = .bool true,
            fun val _ _ => val 27 = undef,
            fun val _ _ => val 28 = undef,
            fun val _ _ => val 29 = undef,
            fun val _ _ => val 30 = undef,
            fun val _ _ => val 31 = undef,
            fun val _ _ => val 32 = undef,
            fun val _ _ => val 33 = undef,
            fun val _ _ => val 34 = .bool true]
          [[], [], [], [], [], [], [], [], [], [], [], [], []] 0 (fun _ => False) (fun _ _ => False) (by kernel_rfl) ⟨by kernel_rfl, by kernel_rfl, by kernel_rfl, by kernel_rfl, by kernel_rfl⟩
          (.cons (stab_val 22 (fun v => v = .pointer (some ⟨w.heap.size, 1, none⟩))) (.cons (stab_val 23 (fun v => v = .slice Au t.length cu)) (.cons (stab_val 24 (fun v => v = .bool false)) (.cons (stab_val 25 (fun v => v = .bool true)) (.cons (stab_val 26 (fun v => v = .bool true)) (.cons (stab_val 27 (fun v => v = undef)) (.cons (stab_val 28 (fun v => v = undef)) (.cons (stab_val 29 (fun v => v = undef)) (.cons (stab_val 30 (fun v => v = undef)) (.cons (stab_val 31 (fun v => v = undef)) (.cons (stab_val 32 (fun v => v = undef)) (.cons (stab_val 33 (fun v => v = undef)) (.cons (stab_val 34 (fun v => v = .bool true)) .nil)))))))))))))
          (fun i j k h1 h2 => h1.elim) (fun i k h => h.elim) (fun i h1 h2 => by simp at h1 h2; omega) (.cons ?_ (.cons ?_ (.cons ?_ (.cons ?_ (.cons ?_ (.cons ?_ (.cons ?_ (.cons ?_ (.cons ?_ (.cons ?_ (.cons ?_ (.cons ?_ (.cons ?_ .nil))))))))))))) ?_
        · intro a W own hfor huse hap hmi hF K hK
          have e3 : a.eval (.tmp 3) = .pointer (some ⟨w.heap.size, 0, none⟩) := hfor 3 (by kernel_rfl)
          refine op_val (.pointer (some ⟨w.heap.size, 1, none⟩)) W rfl ?_ (hK _ _ (post_pure ?_))
          · clear hfor huse hap hmi hK hF
            generalize a.eval = ρ at *
            go_simp
          · exact (if_pos rfl)
        · intro a W own hfor huse hap hmi hF K hK
          have e22 : a.eval (.tmp 22) = .pointer (some ⟨w.heap.size, 1, none⟩) := huse 0 (by kernel_rfl)
          have c1 := foot_cell hF (fun h => h) P1.out
          refine op_val (.slice Au t.length cu) W rfl ?_ (hK _ _ (post_pure ?_))
          · clear hfor huse hap hmi hK hF
            generalize a.eval = ρ at *
            go_simp
          · exact (if_pos rfl)
        · intro a W own hfor huse hap hmi hF K hK
          have e23 : a.eval (.tmp 23) = .slice Au t.length cu := huse 1 (by kernel_rfl)
          have hvt := foot_V hF (fun _ _ h => h) HTW.out (by decide)
          have efn : a.eval (.func 48) = .func (.func 48) #[] #[] := rfl
          refine op_call (f := 48) (args := #[.slice Au t.length cu]) (fun v w1 => v = .bool false ∧ Below W.heap.size W w1) rfl ?_ ?_ (fun v w1 h => ?_)
          · clear hfor huse hap hmi hK hF
            generalize a.eval = ρ at *
            go_simp
          · exact (specTrmOk_b hvt HTT.out).mono (by rintro e w1 ⟨rfl, h2⟩; exact ⟨_, rfl, rfl, h2⟩)
          · obtain ⟨rfl, h2⟩ := h
            exact hK _ _ (post_new h2 (if_pos rfl))
        · intro a W own hfor huse hap hmi hF K hK
          have e24 : a.eval (.tmp 24) = .bool false := huse 2 (by kernel_rfl)
          refine op_val (.bool true) W rfl ?_ (hK _ _ (post_pure ?_))
          · clear hfor huse hap hmi hK hF
            generalize a.eval = ρ at *
            go_simp
          · exact (if_pos rfl)
        · intro a W own hfor huse hap hmi hF K hK
          have e25 : a.eval (.tmp 25) = .bool true := huse 3 (by kernel_rfl)
          refine op_val (.bool true) W rfl ?_ (hK _ _ (post_pure ?_))
          · clear hfor huse hap hmi hK hF
            generalize a.eval = ρ at *
            go_simp
          · exact (if_pos rfl)
        · intro a W own hfor huse hap hmi hF K hK
          have e26 : a.eval (.tmp 26) = .bool true := huse 4 (by kernel_rfl)
          refine gop_not (want_no (j := 4) (b := false) rfl (yield_of (t := 26) rfl rfl e26)) (hK _ _ (post_pure (if_pos rfl)))
        · intro a W own hfor huse hap hmi hF K hK
          have e26 : a.eval (.tmp 26) = .bool true := huse 4 (by kernel_rfl)
          refine gop_not (want_no (j := 4) (b := false) rfl (yield_of (t := 26) rfl rfl e26)) (hK _ _ (post_pure (if_pos rfl)))
        · intro a W own hfor huse hap hmi hF K hK
          have e26 : a.eval (.tmp 26) = .bool true := huse 4 (by kernel_rfl)
          refine gop_not (want_no (j := 4) (b := false) rfl (yield_of (t := 26) rfl rfl e26)) (hK _ _ (post_pure (if_pos rfl)))
        · intro a W own hfor huse hap hmi hF K hK
          have e26 : a.eval (.tmp 26) = .bool true := huse 4 (by kernel_rfl)
          refine gop_not (want_no (j := 4) (b := false) rfl (yield_of (t := 26) rfl rfl e26)) (hK _ _ (post_pure (if_pos rfl)))
        · intro a W own hfor huse hap hmi hF K hK
          have e26 : a.eval (.tmp 26) = .bool true := huse 4 (by kernel_rfl)
          refine gop_not (want_no (j := 4) (b := false) rfl (yield_of (t := 26) rfl rfl e26)) (hK _ _ (post_pure (if_pos rfl)))
        · intro a W own hfor huse hap hmi hF K hK
          have e26 : a.eval (.tmp 26) = .bool true := huse 4 (by kernel_rfl)
          refine gop_not (want_no (j := 4) (b := false) rfl (yield_of (t := 26) rfl rfl e26)) (hK _ _ (post_pure (if_pos rfl)))
        · intro a W own hfor huse hap hmi hF K hK
          have e26 : a.eval (.tmp 26) = .bool true := huse 4 (by kernel_rfl)
          refine gop_not (want_no (j := 4) (b := false) rfl (yield_of (t := 26) rfl rfl e26)) (hK _ _ (post_pure (if_pos rfl)))
        · intro a W own hfor huse hap hmi hF K hK
          have e26 : a.eval (.tmp 26) = .bool true := huse 4 (by kernel_rfl)
          have e33 : a.eval (.tmp 33) = undef := huse 11 (by kernel_rfl)
          have ec86 : a.eval (.const (.bool true)) = .bool true := rfl
          refine op_val (.bool true) W rfl ?_ (hK _ _ (post_pure ?_))
          · clear hfor huse hap hmi hK hF
            generalize a.eval = ρ at *
            go_simp
          · exact (if_pos rfl)
        intro a' W own hf
        have s1 := hf.st.size
        have s2 := hf.st.rest
        have s3 := fun t ht => hf.st.kept t ht
        revert hf
        revert a'
        refine lay_intro (df := []) [true, true, true, true, true, true, true, true, true, true, true, true, true, true, true, true, true, true, true, true, true, true, false, false, false, false, false, false, false, false, false, false, false, false, false, true, true, true, true, true, true, true, true, true, true, true, true, true] (by kernel_rfl) rfl ?_
        intro x34 x33 x32 x31 x30 x29 x28 x27 x26 x25 x24 x23 x22 hf
        have e34 : x34 = .bool true := hf.at 12 (fun val _ _ => val 34 = .bool true) rfl (by kernel_rfl)
        subst e34
        have HF := Sec.mk hf.st.foot
        have BF := Sec.mk (HF.out.below (belD B1.out) (fun k h => h.elim))
        clear hf HF
        go_wp2
        go_ret
        exact ⟨rb HE.out.symm, BB.out _ BF.out⟩
      | true =>
        have HTT := Sec.mk ht
        cases hc : decide (canon t = t) with
        | false =>
          have HE : Sec (outOk top st t = false) := ⟨by unfold outOk; rw [HQ.out, if_pos H2.out, ht, hc]; rfl⟩
          have HCQ := Sec.mk hc
          clear ht hc
          go_enter Tryz.func47, Tryz.ntmps47
          go_wp2_with (first | (go_at_call 45; refine (l4Top_c _ top ok _ (HV.out _ (Below.refl _ _)) (HOK.out _ (Below.refl _ _))).mono ?_; rw [HQ.out]; rintro e wr ⟨rfl, hb⟩; have B1 := Sec.mk hb; obtain ⟨p0, p1⟩ := HW.out _ hb; have P0 := Sec.mk p0; have P1 := Sec.mk p1; have HTW := Sec.mk (HT.out _ hb); have HVW := Sec.mk (HV.out _ hb); have HOW := Sec.mk (HOK.out _ hb); clear hb))
          clear p0 p1
          refine wp_region_lists [[22], [23], [24], [25], [26], [27], [28], [29], [30], [31], [32], [33], [34]]
            [fun val _ _ => val 22 = .pointer (some ⟨w.heap.size, 1, none⟩),
              fun val _ _ => val 23 = .slice Au t.length cu,
              fun val _ _ => val 24 = .bool true,
              fun val _ _ => val 25 = .bool false,
              fun val _ _ => val 26 = .bool false,
              fun val _ _ => val 27 = .pointer (some ⟨w.heap.size, 1, none⟩),
              fun val _ _ => val 28 = .slice Au t.length cu,
              onR kCell 29 (canon t),
              fun val _ _ => val 30 = .pointer (some ⟨w.heap.size, 1, none⟩),
              fun val _ _ => val 31 = .slice Au t.length cu,
              fun val _ _ => val 32 = .bool false,
              fun val _ _ => val 33 = .bool true,
              fun val _ _ => val 34 = .bool true]
            [[], [], [], [], [], [], [], [], [], [], [], [], []] 0 (fun _ => False) (fun _ _ => False) (by kernel_rfl) ⟨by kernel_rfl, by kernel_rfl, by kernel_rfl, by kernel_rfl, by kernel_rfl⟩
            (.cons (stab_val 22 (fun v => v = .pointer (some ⟨w.heap.size, 1, none⟩))) (.cons (stab_val 23 (fun v => v = .slice Au t.length cu)) (.cons (stab_val 24 (fun v => v = .bool true)) (.cons (stab_val 25 (fun v => v = .bool false)) (.cons (stab_val 26 (fun v => v = .bool false)) (.cons (stab_val 27 (fun v => v = .pointer (some ⟨w.heap.size, 1, none⟩))) (.cons (stab_val 28 (fun v => v = .slice Au t.length cu)) (.cons (stab_R kCell 29 (canon t)) (.cons (stab_val 30 (fun v => v = .pointer (some ⟨w.heap.size, 1, none⟩))) (.cons (stab_val 31 (fun v => v = .slice Au t.length cu)) (.cons (stab_val 32 (fun v => v = .bool false)) (.cons (stab_val 33 (fun v => v = .bool true)) (.cons (stab_val 34 (fun v => v = .bool true)) .nil)))))))))))))
            (fun i j k h1 h2 => h1.elim) (fun i k h => h.elim) (fun i h1 h2 => by simp at h1 h2; omega) (.cons ?_ (.cons ?_ (.cons ?_ (.cons ?_ (.cons ?_ (.cons ?_ (.cons ?_ (.cons ?_ (.cons ?_ (.cons ?_ (.cons ?_ (.cons ?_ (.cons ?_ .nil))))))))))))) ?_
          · intro a W own hfor huse hap hmi hF K hK
            have e3 : a.eval (.tmp 3) = .pointer (some ⟨w.heap.size, 0, none⟩) := hfor 3 (by kernel_rfl)
            refine op_val (.pointer (some ⟨w.heap.size, 1, none⟩)) W rfl ?_ (hK _ _ (post_pure ?_))
            · clear hfor huse hap hmi hK hF
              generalize a.eval = ρ at *
              go_simp
            · exact (if_pos rfl)
          · intro a W own hfor huse hap hmi hF K hK
            have e22 : a.eval (.tmp 22) = .pointer (some ⟨w.heap.size, 1, none⟩) := huse 0 (by kernel_rfl)
            have c1 := foot_cell hF (fun h => h) P1.out
            refine op_val (.slice Au t.length cu) W rfl ?_ (hK _ _ (post_pure ?_))
            · clear hfor huse hap hmi hK hF
              generalize a.eval = ρ at *
              go_simp
            · exact (if_pos rfl)
          · intro a W own hfor huse hap hmi hF K hK
            have e23 : a.eval (.tmp 23) = .slice Au t.length cu := huse 1 (by kernel_rfl)
            have hvt := foot_V hF (fun _ _ h => h) HTW.out (by decide)
            have efn : a.eval (.func 48) = .func (.func 48) #[] #[] := rfl
            refine op_call (f := 48) (args := #[.slice Au t.length cu]) (fun v w1 => v = .bool true ∧ Below W.heap.size W w1) rfl ?_ ?_ (fun v w1 h => ?_)
            · clear hfor huse hap hmi hK hF
              generalize a.eval = ρ at *
              go_simp
            · exact (specTrmOk_b hvt HTT.out).mono (by rintro e w1 ⟨rfl, h2⟩; exact ⟨_, rfl, rfl, h2⟩)
            · obtain ⟨rfl, h2⟩ := h
              exact hK _ _ (post_new h2 (if_pos rfl))
          · intro a W own hfor huse hap hmi hF K hK
            have e24 : a.eval (.tmp 24) = .bool true := huse 2 (by kernel_rfl)
            refine op_val (.bool false) W rfl ?_ (hK _ _ (post_pure ?_))
            · clear hfor huse hap hmi hK hF
              generalize a.eval = ρ at *
              go_simp
            · exact (if_pos rfl)
          · intro a W own hfor huse hap hmi hF K hK
            have e25 : a.eval (.tmp 25) = .bool false := huse 3 (by kernel_rfl)
            refine op_val (.bool false) W rfl ?_ (hK _ _ (post_pure ?_))
            · clear hfor huse hap hmi hK hF
              generalize a.eval = ρ at *
              go_simp
            · exact (if_pos rfl)
          · intro a W own hfor huse hap hmi hF K hK
            have e3 : a.eval (.tmp 3) = .pointer (some ⟨w.heap.size, 0, none⟩) := hfor 3 (by kernel_rfl)
            have e26 : a.eval (.tmp 26) = .bool false := huse 4 (by kernel_rfl)
            refine gop_val (.pointer (some ⟨w.heap.size, 1, none⟩)) W (want_yes (j := 4) (b := false) rfl (yield_of (t := 26) rfl rfl e26)) ?_ (hK _ _ (post_pure ?_))
            · clear hfor huse hap hmi hK hF
              generalize a.eval = ρ at *
              go_simp
            · exact (if_pos rfl)
          · intro a W own hfor huse hap hmi hF K hK
            have e27 : a.eval (.tmp 27) = .pointer (some ⟨w.heap.size, 1, none⟩) := huse 5 (by kernel_rfl)
            have e26 : a.eval (.tmp 26) = .bool false := huse 4 (by kernel_rfl)
            have c1 := foot_cell hF (fun h => h) P1.out
            refine gop_val (.slice Au t.length cu) W (want_yes (j := 4) (b := false) rfl (yield_of (t := 26) rfl rfl e26)) ?_ (hK _ _ (post_pure ?_))
            · clear hfor huse hap hmi hK hF
              generalize a.eval = ρ at *
              go_simp
            · exact (if_pos rfl)
          · intro a W own hfor huse hap hmi hF K hK
            have e26 : a.eval (.tmp 26) = .bool false := huse 4 (by kernel_rfl)
            have e28 : a.eval (.tmp 28) = .slice Au t.length cu := huse 6 (by kernel_rfl)
            have hvt := foot_V hF (fun _ _ h => h) HTW.out (by decide)
            have efn : a.eval (.func 61) = .func (.func 61) #[] #[] := rfl
            refine gop_call (f := 61) (args := #[.slice Au t.length cu]) (fun v w1 => kCell.R w1 (fun k => W.heap.size ≤ k) v (canon t) ∧ Below W.heap.size W w1) (want_yes (j := 4) (b := false) rfl (yield_of (t := 26) rfl rfl e26)) ?_ ?_ (fun v w1 h => ?_)
            · clear hfor huse hap hmi hK hF
              generalize a.eval = ρ at *
              go_simp
            · exact (TrmCanon_c _ t ok W hvt).mono (by rintro e w1 ⟨u, rfl, h1, h2⟩; exact ⟨_, rfl, h1, h2⟩)
            · obtain ⟨h1, h2⟩ := h
              exact hK _ _ (post_new h2 (by show kCell.R _ _ (if _ then _ else _) (canon t); rw [if_pos rfl]; exact Kd.R_mono h1 (fun k h3 h4 => ⟨h3, h4⟩)))
          · intro a W own hfor huse hap hmi hF K hK
            have e3 : a.eval (.tmp 3) = .pointer (some ⟨w.heap.size, 0, none⟩) := hfor 3 (by kernel_rfl)
            have e26 : a.eval (.tmp 26) = .bool false := huse 4 (by kernel_rfl)
            refine gop_val (.pointer (some ⟨w.heap.size, 1, none⟩)) W (want_yes (j := 4) (b := false) rfl (yield_of (t := 26) rfl rfl e26)) ?_ (hK _ _ (post_pure ?_))
            · clear hfor huse hap hmi hK hF
              generalize a.eval = ρ at *
              go_simp
            · exact (if_pos rfl)
          · intro a W own hfor huse hap hmi hF K hK
            have e30 : a.eval (.tmp 30) = .pointer (some ⟨w.heap.size, 1, none⟩) := huse 8 (by kernel_rfl)
            have e26 : a.eval (.tmp 26) = .bool false := huse 4 (by kernel_rfl)
            have c1 := foot_cell hF (fun h => h) P1.out
            refine gop_val (.slice Au t.length cu) W (want_yes (j := 4) (b := false) rfl (yield_of (t := 26) rfl rfl e26)) ?_ (hK _ _ (post_pure ?_))
            · clear hfor huse hap hmi hK hF
              generalize a.eval = ρ at *
              go_simp
            · exact (if_pos rfl)
          · intro a W own hfor huse hap hmi hF K hK
            have e31 : a.eval (.tmp 31) = .slice Au t.length cu := huse 9 (by kernel_rfl)
            have e26 : a.eval (.tmp 26) = .bool false := huse 4 (by kernel_rfl)
            have hvt := foot_V hF (fun _ _ h => h) HTW.out (by decide)
            have r7 : kCell.R W (own 7) (a.eval (.tmp 29)) (canon t) := huse 7 (by kernel_rfl)
            obtain ⟨A7, n7, e29, -, -⟩ := Kd.R_form r7
            rw [e29] at r7
            have efn : a.eval (.func 60) = .func (.func 60) #[] #[] := rfl
            refine gop_call (f := 60) (args := #[.slice A7 (canon t).length n7, .slice Au t.length cu]) (fun v w1 => v = .bool false ∧ Below W.heap.size W w1) (want_yes (j := 4) (b := false) rfl (yield_of (t := 26) rfl rfl e26)) ?_ ?_ (fun v w1 h => ?_)
            · clear hfor huse hap hmi hK hF
              generalize a.eval = ρ at *
              go_simp
            · exact (specTrmSame_b (Kd.R_V r7) hvt HCQ.out).mono (by rintro e w1 ⟨rfl, h2⟩; exact ⟨_, rfl, rfl, h2⟩)
            · obtain ⟨rfl, h2⟩ := h
              exact hK _ _ (post_new h2 (if_pos rfl))
          · intro a W own hfor huse hap hmi hF K hK
            have e32 : a.eval (.tmp 32) = .bool false := huse 10 (by kernel_rfl)
            have e26 : a.eval (.tmp 26) = .bool false := huse 4 (by kernel_rfl)
            refine gop_val (.bool true) W (want_yes (j := 4) (b := false) rfl (yield_of (t := 26) rfl rfl e26)) ?_ (hK _ _ (post_pure ?_))
            · clear hfor huse hap hmi hK hF
              generalize a.eval = ρ at *
              go_simp
            · exact (if_pos rfl)
          · intro a W own hfor huse hap hmi hF K hK
            have e26 : a.eval (.tmp 26) = .bool false := huse 4 (by kernel_rfl)
            have e33 : a.eval (.tmp 33) = .bool true := huse 11 (by kernel_rfl)
            have ec86 : a.eval (.const (.bool true)) = .bool true := rfl
            refine op_val (.bool true) W rfl ?_ (hK _ _ (post_pure ?_))
            · clear hfor huse hap hmi hK hF
              generalize a.eval = ρ at *
              go_simp
            · exact (if_pos rfl)
          intro a' W own hf
          have s1 := hf.st.size
          have s2 := hf.st.rest
          have s3 := fun t ht => hf.st.kept t ht
          revert hf
          revert a'
          refine lay_intro (df := []) [true, true, true, true, true, true, true, true, true, true, true, true, true, true, true, true, true, true, true, true, true, true, false, false, false, false, false, false, false, false, false, false, false, false, false, true, true, true, true, true, true, true, true, true, true, true, true, true] (by kernel_rfl) rfl ?_
          intro x34 x33 x32 x31 x30 x29 x28 x27 x26 x25 x24 x23 x22 hf
          have e34 : x34 = .bool true := hf.at 12 (fun val _ _ => val 34 = .bool true) rfl (by kernel_rfl)
          subst e34
          have HF := Sec.mk hf.st.foot
          have BF := Sec.mk (HF.out.below (belD B1.out) (fun k h => h.elim))
          clear hf HF
          go_wp2
          go_ret
          exact ⟨rb HE.out.symm, BB.out _ BF.out⟩
        | true =>
          have HSH := Sec.mk (shift_ok HQ.out (trmOk_len ht).2)
          have HE : Sec (outOk top st t = sameU (shifted top t.length) t) := ⟨by unfold outOk; rw [HQ.out, if_pos H2.out, ht, hc]; rfl⟩
          have HCQ := Sec.mk hc
          clear ht hc
          go_enter Tryz.func47, Tryz.ntmps47
          go_wp2_with (first | (go_at_call 45; refine (l4Top_c _ top ok _ (HV.out _ (Below.refl _ _)) (HOK.out _ (Below.refl _ _))).mono ?_; rw [HQ.out]; rintro e wr ⟨rfl, hb⟩; have B1 := Sec.mk hb; obtain ⟨p0, p1⟩ := HW.out _ hb; have P0 := Sec.mk p0; have P1 := Sec.mk p1; have HTW := Sec.mk (HT.out _ hb); have HVW := Sec.mk (HV.out _ hb); have HOW := Sec.mk (HOK.out _ hb); clear hb))
          clear p0 p1
          refine wp_region_lists [[22], [23], [24], [25], [26], [27], [28], [29], [30], [31], [32], [33], [34]]
            [fun val _ _ => val 22 = .pointer (some ⟨w.heap.size, 1, none⟩),
              fun val _ _ => val 23 = .slice Au t.length cu,
              fun val _ _ => val 24 = .bool true,
              fun val _ _ => val 25 = .bool false,
              fun val _ _ => val 26 = .bool false,
              fun val _ _ => val 27 = .pointer (some ⟨w.heap.size, 1, none⟩),
              fun val _ _ => val 28 = .slice Au t.length cu,
              onR kCell 29 (canon t),
              fun val _ _ => val 30 = .pointer (some ⟨w.heap.size, 1, none⟩),
              fun val _ _ => val 31 = .slice Au t.length cu,
              fun val _ _ => val 32 = .bool true,
              fun val _ _ => val 33 = .bool false,
              fun val _ _ => val 34 = .bool false]
            [[], [], [], [], [], [], [], [], [], [], [], [], []] 0 (fun _ => False) (fun _ _ => False) (by kernel_rfl) ⟨by kernel_rfl, by kernel_rfl, by kernel_rfl, by kernel_rfl, by kernel_rfl⟩
            (.cons (stab_val 22 (fun v => v = .pointer (some ⟨w.heap.size, 1, none⟩))) (.cons (stab_val 23 (fun v => v = .slice Au t.length cu)) (.cons (stab_val 24 (fun v => v = .bool true)) (.cons (stab_val 25 (fun v => v = .bool false)) (.cons (stab_val 26 (fun v => v = .bool false)) (.cons (stab_val 27 (fun v => v = .pointer (some ⟨w.heap.size, 1, none⟩))) (.cons (stab_val 28 (fun v => v = .slice Au t.length cu)) (.cons (stab_R kCell 29 (canon t)) (.cons (stab_val 30 (fun v => v = .pointer (some ⟨w.heap.size, 1, none⟩))) (.cons (stab_val 31 (fun v => v = .slice Au t.length cu)) (.cons (stab_val 32 (fun v => v = .bool true)) (.cons (stab_val 33 (fun v => v = .bool false)) (.cons (stab_val 34 (fun v => v = .bool false)) .nil)))))))))))))
            (fun i j k h1 h2 => h1.elim) (fun i k h => h.elim) (fun i h1 h2 => by simp at h1 h2; omega) (.cons ?_ (.cons ?_ (.cons ?_ (.cons ?_ (.cons ?_ (.cons ?_ (.cons ?_ (.cons ?_ (.cons ?_ (.cons ?_ (.cons ?_ (.cons ?_ (.cons ?_ .nil))))))))))))) ?_
          · intro a W own hfor huse hap hmi hF K hK
            have e3 : a.eval (.tmp 3) = .pointer (some ⟨w.heap.size, 0, none⟩) := hfor 3 (by kernel_rfl)
            refine op_val (.pointer (some ⟨w.heap.size, 1, none⟩)) W rfl ?_ (hK _ _ (post_pure ?_))
            · clear hfor huse hap hmi hK hF
              generalize a.eval = ρ at *
              go_simp
            · exact (if_pos rfl)
          · intro a W own hfor huse hap hmi hF K hK
            have e22 : a.eval (.tmp 22) = .pointer (some ⟨w.heap.size, 1, none⟩) := huse 0 (by kernel_rfl)
            have c1 := foot_cell hF (fun h => h) P1.out
            refine op_val (.slice Au t.length cu) W rfl ?_ (hK _ _ (post_pure ?_))
            · clear hfor huse hap hmi hK hF
              generalize a.eval = ρ at *
              go_simp
            · exact (if_pos rfl)
          · intro a W own hfor huse hap hmi hF K hK
            have e23 : a.eval (.tmp 23) = .slice Au t.length cu := huse 1 (by kernel_rfl)
            have hvt := foot_V hF (fun _ _ h => h) HTW.out (by decide)
            have efn : a.eval (.func 48) = .func (.func 48) #[] #[] := rfl
            refine op_call (f := 48) (args := #[.slice Au t.length cu]) (fun v w1 => v = .bool true ∧ Below W.heap.size W w1) rfl ?_ ?_ (fun v w1 h => ?_)
            · clear hfor huse hap hmi hK hF
              generalize a.eval = ρ at *
              go_simp
            · exact (specTrmOk_b hvt HTT.out).mono (by rintro e w1 ⟨rfl, h2⟩; exact ⟨_, rfl, rfl, h2⟩)
            · obtain ⟨rfl, h2⟩ := h
              exact hK _ _ (post_new h2 (if_pos rfl))
          · intro a W own hfor huse hap hmi hF K hK
            have e24 : a.eval (.tmp 24) = .bool true := huse 2 (by kernel_rfl)
            refine op_val (.bool false) W rfl ?_ (hK _ _ (post_pure ?_))
            · clear hfor huse hap hmi hK hF
              generalize a.eval = ρ at *
              go_simp
            · exact (if_pos rfl)
          · intro a W own hfor huse hap hmi hF K hK
            have e25 : a.eval (.tmp 25) = .bool false := huse 3 (by kernel_rfl)
            refine op_val (.bool false) W rfl ?_ (hK _ _ (post_pure ?_))
            · clear hfor huse hap hmi hK hF
              generalize a.eval = ρ at *
              go_simp
            · exact (if_pos rfl)
          · intro a W own hfor huse hap hmi hF K hK
            have e3 : a.eval (.tmp 3) = .pointer (some ⟨w.heap.size, 0, none⟩) := hfor 3 (by kernel_rfl)
            have e26 : a.eval (.tmp 26) = .bool false := huse 4 (by kernel_rfl)
            refine gop_val (.pointer (some ⟨w.heap.size, 1, none⟩)) W (want_yes (j := 4) (b := false) rfl (yield_of (t := 26) rfl rfl e26)) ?_ (hK _ _ (post_pure ?_))
            · clear hfor huse hap hmi hK hF
              generalize a.eval = ρ at *
              go_simp
            · exact (if_pos rfl)
          · intro a W own hfor huse hap hmi hF K hK
            have e27 : a.eval (.tmp 27) = .pointer (some ⟨w.heap.size, 1, none⟩) := huse 5 (by kernel_rfl)
            have e26 : a.eval (.tmp 26) = .bool false := huse 4 (by kernel_rfl)
            have c1 := foot_cell hF (fun h => h) P1.out
            refine gop_val (.slice Au t.length cu) W (want_yes (j := 4) (b := false) rfl (yield_of (t := 26) rfl rfl e26)) ?_ (hK _ _ (post_pure ?_))
            · clear hfor huse hap hmi hK hF
              generalize a.eval = ρ at *
              go_simp
            · exact (if_pos rfl)
          · intro a W own hfor huse hap hmi hF K hK
            have e26 : a.eval (.tmp 26) = .bool false := huse 4 (by kernel_rfl)
            have e28 : a.eval (.tmp 28) = .slice Au t.length cu := huse 6 (by kernel_rfl)
            have hvt := foot_V hF (fun _ _ h => h) HTW.out (by decide)
            have efn : a.eval (.func 61) = .func (.func 61) #[] #[] := rfl
            refine gop_call (f := 61) (args := #[.slice Au t.length cu]) (fun v w1 => kCell.R w1 (fun k => W.heap.size ≤ k) v (canon t) ∧ Below W.heap.size W w1) (want_yes (j := 4) (b := false) rfl (yield_of (t := 26) rfl rfl e26)) ?_ ?_ (fun v w1 h => ?_)
            · clear hfor huse hap hmi hK hF
              generalize a.eval = ρ at *
              go_simp
            · exact (TrmCanon_c _ t ok W hvt).mono (by rintro e w1 ⟨u, rfl, h1, h2⟩; exact ⟨_, rfl, h1, h2⟩)
            · obtain ⟨h1, h2⟩ := h
              exact hK _ _ (post_new h2 (by show kCell.R _ _ (if _ then _ else _) (canon t); rw [if_pos rfl]; exact Kd.R_mono h1 (fun k h3 h4 => ⟨h3, h4⟩)))
          · intro a W own hfor huse hap hmi hF K hK
            have e3 : a.eval (.tmp 3) = .pointer (some ⟨w.heap.size, 0, none⟩) := hfor 3 (by kernel_rfl)
            have e26 : a.eval (.tmp 26) = .bool false := huse 4 (by kernel_rfl)
            refine gop_val (.pointer (some ⟨w.heap.size, 1, none⟩)) W (want_yes (j := 4) (b := false) rfl (yield_of (t := 26) rfl rfl e26)) ?_ (hK _ _ (post_pure ?_))
            · clear hfor huse hap hmi hK hF
              generalize a.eval = ρ at *
              go_simp
            · exact (if_pos rfl)
          · intro a W own hfor huse hap hmi hF K hK
            have e30 : a.eval (.tmp 30) = .pointer (some ⟨w.heap.size, 1, none⟩) := huse 8 (by kernel_rfl)
            have e26 : a.eval (.tmp 26) = .bool false := huse 4 (by kernel_rfl)
            have c1 := foot_cell hF (fun h => h) P1.out
            refine gop_val (.slice Au t.length cu) W (want_yes (j := 4) (b := false) rfl (yield_of (t := 26) rfl rfl e26)) ?_ (hK _ _ (post_pure ?_))
            · clear hfor huse hap hmi hK hF
              generalize a.eval = ρ at *
              go_simp
            · exact (if_pos rfl)
          · intro a W own hfor huse hap hmi hF K hK
            have e31 : a.eval (.tmp 31) = .slice Au t.length cu := huse 9 (by kernel_rfl)
            have e26 : a.eval (.tmp 26) = .bool false := huse 4 (by kernel_rfl)
            have hvt := foot_V hF (fun _ _ h => h) HTW.out (by decide)
            have r7 : kCell.R W (own 7) (a.eval (.tmp 29)) (canon t) := huse 7 (by kernel_rfl)
            obtain ⟨A7, n7, e29, -, -⟩ := Kd.R_form r7
            rw [e29] at r7
            have efn : a.eval (.func 60) = .func (.func 60) #[] #[] := rfl
            refine gop_call (f := 60) (args := #[.slice A7 (canon t).length n7, .slice Au t.length cu]) (fun v w1 => v = .bool true ∧ Below W.heap.size W w1) (want_yes (j := 4) (b := false) rfl (yield_of (t := 26) rfl rfl e26)) ?_ ?_ (fun v w1 h => ?_)
            · clear hfor huse hap hmi hK hF
              generalize a.eval = ρ at *
              go_simp
            · exact (specTrmSame_b (Kd.R_V r7) hvt HCQ.out).mono (by rintro e w1 ⟨rfl, h2⟩; exact ⟨_, rfl, rfl, h2⟩)
            · obtain ⟨rfl, h2⟩ := h
              exact hK _ _ (post_new h2 (if_pos rfl))
          · intro a W own hfor huse hap hmi hF K hK
            have e32 : a.eval (.tmp 32) = .bool true := huse 10 (by kernel_rfl)
            have e26 : a.eval (.tmp 26) = .bool false := huse 4 (by kernel_rfl)
            refine gop_val (.bool false) W (want_yes (j := 4) (b := false) rfl (yield_of (t := 26) rfl rfl e26)) ?_ (hK _ _ (post_pure ?_))
            · clear hfor huse hap hmi hK hF
              generalize a.eval = ρ at *
              go_simp
            · exact (if_pos rfl)
          · intro a W own hfor huse hap hmi hF K hK
            have e26 : a.eval (.tmp 26) = .bool false := huse 4 (by kernel_rfl)
            have e33 : a.eval (.tmp 33) = .bool false := huse 11 (by kernel_rfl)
            have ec86 : a.eval (.const (.bool true)) = .bool true := rfl
            refine op_val (.bool false) W rfl ?_ (hK _ _ (post_pure ?_))
            · clear hfor huse hap hmi hK hF
              generalize a.eval = ρ at *
              go_simp
            · exact (if_pos rfl)
          intro a' W own hf
          have s1 := hf.st.size
          have s2 := hf.st.rest
          have s3 := fun t ht => hf.st.kept t ht
          revert hf
          revert a'
          refine lay_intro (df := []) [true, true, true, true, true, true, true, true, true, true, true, true, true, true, true, true, true, true, true, true, true, true, false, false, false, false, false, false, false, false, false, false, false, false, false, true, true, true, true, true, true, true, true, true, true, true, true, true] (by kernel_rfl) rfl ?_
          intro x34 x33 x32 x31 x30 x29 x28 x27 x26 x25 x24 x23 x22 hf
          have e34 : x34 = .bool false := hf.at 12 (fun val _ _ => val 34 = .bool false) rfl (by kernel_rfl)
          subst e34
          have HF := Sec.mk hf.st.foot
          have BF := Sec.mk (HF.out.below (belD B1.out) (fun k h => h.elim))
          clear hf HF
          go_wp2
          obtain ⟨p0, p1⟩ := HW.out _ BF.out
          have P0 := Sec.mk p0
          have P1 := Sec.mk p1
          have HTW := Sec.mk (HT.out _ BF.out)
          have HVW := Sec.mk (HV.out _ BF.out)
          have HOW := Sec.mk (HOK.out _ BF.out)
          have B1 := BF
          clear p0 p1
          refine wp_region_lists [[36], [37], [38], [39], [40], [41], [42], [43], [44], [35], [45], [46], [5], [6]]
            [onR kBind 36 [],
              fun val _ _ => val 37 = .slice Av top.length cv,
              fun val _ _ => val 38 = .pointer (some ⟨w.heap.size, 1, none⟩),
              fun val _ _ => val 39 = .slice Au t.length cu,
              fun val _ _ => val 40 = .int .i64 t.length,
              onR kCell 41 (shifted top t.length),
              fun val _ _ => val 42 = .pointer (some ⟨w.heap.size, 1, none⟩),
              fun val _ _ => val 43 = .slice Au t.length cu,
              fun val _ _ => ∃ x, val 44 = .tuple #[x, .bool (sameU (shifted top t.length) t)],
              fun val _ _ => ∃ x, val 35 = .tuple #[x, .bool (sameU (shifted top t.length) t)],
              fun _ _ _ => True,
              fun val _ _ => val 46 = .bool (sameU (shifted top t.length) t),
              fun _ _ _ => True,
              fun val _ _ => val 6 = .bool (sameU (shifted top t.length) t)]
            [[], [], [], [], [], [], [], [], [0], [], [], [], [], []] 0 (fun _ => False) (fun _ _ => False) (by kernel_rfl) ⟨by kernel_rfl, by kernel_rfl, by kernel_rfl, by kernel_rfl, by kernel_rfl⟩
            (.cons (stab_R kBind 36 []) (.cons (stab_val 37 (fun v => v = .slice Av top.length cv)) (.cons (stab_val 38 (fun v => v = .pointer (some ⟨w.heap.size, 1, none⟩))) (.cons (stab_val 39 (fun v => v = .slice Au t.length cu)) (.cons (stab_val 40 (fun v => v = .int .i64 t.length)) (.cons (stab_R kCell 41 (shifted top t.length)) (.cons (stab_val 42 (fun v => v = .pointer (some ⟨w.heap.size, 1, none⟩))) (.cons (stab_val 43 (fun v => v = .slice Au t.length cu)) (.cons (stab_val 44 (fun v => ∃ x, v = .tuple #[x, .bool (sameU (shifted top t.length) t)])) (.cons (stab_val 35 (fun v => ∃ x, v = .tuple #[x, .bool (sameU (shifted top t.length) t)])) (.cons (stab_val 45 (fun _ => True)) (.cons (stab_val 46 (fun v => v = .bool (sameU (shifted top t.length) t))) (.cons (stab_val 5 (fun _ => True)) (.cons (stab_val 6 (fun v => v = .bool (sameU (shifted top t.length) t))) .nil))))))))))))))
            (fun i j k h1 h2 => h1.elim) (fun i k h => h.elim) (fun i h1 h2 => by simp at h1 h2; omega) (.cons ?_ (.cons ?_ (.cons ?_ (.cons ?_ (.cons ?_ (.cons ?_ (.cons ?_ (.cons ?_ (.cons ?_ (.cons ?_ (.cons ?_ (.cons ?_ (.cons ?_ (.cons ?_ .nil)))))))))))))) ?_
          · intro a W own hfor huse hap hmi hF K hK
            refine op_val (.slice (some ⟨W.heap.size, 0, none⟩) 0 0) (W.alloc (.cells #[] kBind.ty)) rfl ?_ (hK _ _ (post_new (belA (Below.refl _ _) _) ?_))
            · clear hfor huse hap hmi hK hF
              generalize a.eval = ρ at *
              go_simp
              try rfl
            · show kBind.R _ _ (if _ then _ else _) []
              rw [if_pos rfl]
              exact Kd.R_mono (Kd.R_empty (w := W) kBind (Nat.le_refl _)) (fun k h1 h2 => ⟨h1, h2⟩)
          · intro a W own hfor huse hap hmi hF K hK
            have e0 : a.eval (.tmp 0) = .slice Av top.length cv := hfor 0 (by kernel_rfl)
            refine op_val (.slice Av top.length cv) W rfl ?_ (hK _ _ (post_pure ?_))
            · clear hfor huse hap hmi hK hF
              generalize a.eval = ρ at *
              go_simp
            · exact (if_pos rfl)
          · intro a W own hfor huse hap hmi hF K hK
            have e3 : a.eval (.tmp 3) = .pointer (some ⟨w.heap.size, 0, none⟩) := hfor 3 (by kernel_rfl)
            refine op_val (.pointer (some ⟨w.heap.size, 1, none⟩)) W rfl ?_ (hK _ _ (post_pure ?_))
            · clear hfor huse hap hmi hK hF
              generalize a.eval = ρ at *
              go_simp
            · exact (if_pos rfl)
          · intro a W own hfor huse hap hmi hF K hK
            have e38 : a.eval (.tmp 38) = .pointer (some ⟨w.heap.size, 1, none⟩) := huse 2 (by kernel_rfl)
            have c1 := foot_cell hF (fun h => h) P1.out
            refine op_val (.slice Au t.length cu) W rfl ?_ (hK _ _ (post_pure ?_))
            · clear hfor huse hap hmi hK hF
              generalize a.eval = ρ at *
              go_simp
            · exact (if_pos rfl)
          · intro a W own hfor huse hap hmi hF K hK
            have e39 : a.eval (.tmp 39) = .slice Au t.length cu := huse 3 (by kernel_rfl)
            refine op_val (.int .i64 t.length) W rfl ?_ (hK _ _ (post_pure ?_))
            · clear hfor huse hap hmi hK hF
              generalize a.eval = ρ at *
              go_simp
            · exact (if_pos rfl)
          · intro a W own hfor huse hap hmi hF K hK
            have e37 : a.eval (.tmp 37) = .slice Av top.length cv := huse 1 (by kernel_rfl)
            have e40 : a.eval (.tmp 40) = .int .i64 t.length := huse 4 (by kernel_rfl)
            have hvp := foot_V hF (fun _ _ h => h) HVW.out (by decide)
            have efn : a.eval (.func 63) = .func (.func 63) #[] #[] := rfl
            refine op_call (f := 63) (args := #[.slice Av top.length cv, .int .i64 t.length]) (fun v w1 => kCell.R w1 (fun k => W.heap.size ≤ k) v (shifted top t.length) ∧ Below W.heap.size W w1) rfl ?_ ?_ (fun v w1 h => ?_)
            · clear hfor huse hap hmi hK hF
              generalize a.eval = ρ at *
              go_simp
            · exact (l1Shift_c _ top t.length ok W hvp).mono (by rintro e w1 ⟨u, rfl, h1, h2⟩; exact ⟨_, rfl, h1, h2⟩)
            · obtain ⟨h1, h2⟩ := h
              exact hK _ _ (post_new h2 (by show kCell.R _ _ (if _ then _ else _) (shifted top t.length); rw [if_pos rfl]; exact Kd.R_mono h1 (fun k h3 h4 => ⟨h3, h4⟩)))
          · intro a W own hfor huse hap hmi hF K hK
            have e3 : a.eval (.tmp 3) = .pointer (some ⟨w.heap.size, 0, none⟩) := hfor 3 (by kernel_rfl)
            refine op_val (.pointer (some ⟨w.heap.size, 1, none⟩)) W rfl ?_ (hK _ _ (post_pure ?_))
            · clear hfor huse hap hmi hK hF
              generalize a.eval = ρ at *
              go_simp
            · exact (if_pos rfl)
          · intro a W own hfor huse hap hmi hF K hK
            have e42 : a.eval (.tmp 42) = .pointer (some ⟨w.heap.size, 1, none⟩) := huse 6 (by kernel_rfl)
            have c1 := foot_cell hF (fun h => h) P1.out
            refine op_val (.slice Au t.length cu) W rfl ?_ (hK _ _ (post_pure ?_))
            · clear hfor huse hap hmi hK hF
              generalize a.eval = ρ at *
              go_simp
            · exact (if_pos rfl)
          · intro a W own hfor huse hap hmi hF K hK
            have e43 : a.eval (.tmp 43) = .slice Au t.length cu := huse 7 (by kernel_rfl)
            have hvt := foot_V hF (fun _ _ h => h) HTW.out (by decide)
            have r0 : kBind.R W (own 0) (a.eval (.tmp 36)) [] := huse 0 (by kernel_rfl)
            obtain ⟨A0, n0, e36, -, -⟩ := Kd.R_form r0
            rw [e36] at r0
            have r5 : kCell.R W (own 5) (a.eval (.tmp 41)) (shifted top t.length) := huse 5 (by kernel_rfl)
            obtain ⟨A5, n5, e41, -, -⟩ := Kd.R_form r5
            rw [e41] at r5
            have efn : a.eval (.func 62) = .func (.func 62) #[] #[] := rfl
            refine op_call (f := 62) (args := #[.slice A0 ([] : List Bind).length n0, .slice A5 (shifted top t.length).length n5, .slice Au t.length cu]) (fun v w1 => (∃ x, v = .tuple #[x, .bool (sameU (shifted top t.length) t)]) ∧ Foot (own 0) W w1) rfl ?_ ?_ (fun v w1 h => ?_)
            · clear hfor huse hap hmi hK hF
              generalize a.eval = ρ at *
              go_simp
            · exact (l2Unify0 r0 (Kd.R_V r5) hvt (fun k h1 h2 => by have := hap 5 0 k h1 h2; omega) (fun k h1 h2 => by have h3 := hmi 0 k h2; have h4 := HOW.out k h1; exact h3.1.elim (fun h5 => absurd h4 (Nat.not_lt_of_le h5)) (fun h5 => h5.elim)) HSH.out HTT.out).mono (by rintro e w1 ⟨x, rfl, h2⟩; exact ⟨_, rfl, ⟨x, rfl⟩, h2⟩)
            · obtain ⟨⟨x, rfl⟩, h2⟩ := h
              exact hK _ _ ⟨own 0, Foot.mono h2 (fun k h => ⟨0, by decide, h⟩), ⟨x, if_pos rfl⟩, fun k h => .inl ⟨0, by decide, h⟩⟩
          · intro a W own hfor huse hap hmi hF K hK
            obtain ⟨x44, e44⟩ : ∃ x, a.eval (.tmp 44) = .tuple #[x, .bool (sameU (shifted top t.length) t)] := huse 8 (by kernel_rfl)
            refine op_val (.tuple #[x44, .bool (sameU (shifted top t.length) t)]) W rfl ?_ (hK _ _ (post_pure ⟨x44, if_pos rfl⟩))
            · clear hfor huse hap hmi hK hF
              generalize a.eval = ρ at *
              go_simp
          · intro a W own hfor huse hap hmi hF K hK
            obtain ⟨x35, e35⟩ : ∃ x, a.eval (.tmp 35) = .tuple #[x, .bool (sameU (shifted top t.length) t)] := huse 9 (by kernel_rfl)
            refine op_val x35 W rfl ?_ (hK _ _ (post_pure trivial))
            · clear hfor huse hap hmi hK hF
              generalize a.eval = ρ at *
              go_simp
          · intro a W own hfor huse hap hmi hF K hK
            obtain ⟨x35, e35⟩ : ∃ x, a.eval (.tmp 35) = .tuple #[x, .bool (sameU (shifted top t.length) t)] := huse 9 (by kernel_rfl)
            refine op_val (.bool (sameU (shifted top t.length) t)) W rfl ?_ (hK _ _ (post_pure (if_pos rfl)))
            · clear hfor huse hap hmi hK hF
              generalize a.eval = ρ at *
              go_simp
          · intro a W own hfor huse hap hmi hF K hK
            refine op_val (a.eval (.tmp 45)) W rfl ?_ (hK _ _ (post_pure trivial))
            · rfl
          · intro a W own hfor huse hap hmi hF K hK
            have e46 : a.eval (.tmp 46) = .bool (sameU (shifted top t.length) t) := huse 11 (by kernel_rfl)
            refine op_val (.bool (sameU (shifted top t.length) t)) W rfl ?_ (hK _ _ (post_pure ?_))
            · clear hfor huse hap hmi hK hF
              generalize a.eval = ρ at *
              go_simp
            · exact (if_pos rfl)
          intro a' W own hf
          have s1 := hf.st.size
          have s2 := hf.st.rest
          have s3 := fun t ht => hf.st.kept t ht
          revert hf
          revert a'
          refine lay_intro (df := []) [true, true, true, true, true, false, false, true, true, true, true, true, true, true, true, true, true, true, true, true, true, true, true, true, true, true, true, true, true, true, true, true, true, true, true, false, false, false, false, false, false, false, false, false, false, false, false, true] (by kernel_rfl) rfl ?_
          intro x46 x45 x44 x43 x42 x41 x40 x39 x38 x37 x36 x35 x6 x5 hf
          have e6 : x6 = .bool (sameU (shifted top t.length) t) := hf.at 13 (fun val _ _ => val 6 = .bool (sameU (shifted top t.length) t)) rfl (by kernel_rfl)
          subst e6
          have HF := Sec.mk hf.st.foot
          have BF := Sec.mk (HF.out.below (belD B1.out) (fun k h => h.elim))
          clear hf HF
          go_wp2
          go_ret
          exact ⟨rb HE.out.symm, BB.out _ BF.out⟩
    · have d2 : (st != 2) = true := bne_iff_ne.2 h2
      have HE : Sec (outOk top st t = (inB st 3 5 && ((t.length : Int) == 0))) := ⟨by
        unfold outOk
        rw [HQ.out, if_neg h2, Bool.true_and]
        cases t with
        | nil => rfl
        | cons c r => simp; omega⟩
      clear h2
      cases hi : inB st 3 5 with
      | false =>
        have HI := Sec.mk hi
        rw [hi] at HE
        clear hi
        go_enter Tryz.func47, Tryz.ntmps47
        go_wp2_with (first | (go_at_call 45; refine (l4Top_c _ top ok _ (HV.out _ (Below.refl _ _)) (HOK.out _ (Below.refl _ _))).mono ?_; rw [HQ.out]; rintro e w1 ⟨rfl, hb⟩; have B1 := Sec.mk hb; obtain ⟨p0, p1⟩ := HW.out _ hb; clear hb) | (go_at_call 46; refine (l1In_c _ _ _ _).mono ?_; rw [HI.out]; rintro e w' ⟨rfl, rfl⟩))
        go_ret
        exact ⟨rb HE.out.symm, BB.out _ B1.out⟩
      | true =>
        have HI := Sec.mk hi
        rw [hi, Bool.true_and] at HE
        clear hi
        go_enter Tryz.func47, Tryz.ntmps47
        go_wp2_with (first | (go_at_call 45; refine (l4Top_c _ top ok _ (HV.out _ (Below.refl _ _)) (HOK.out _ (Below.refl _ _))).mono ?_; rw [HQ.out]; rintro e w1 ⟨rfl, hb⟩; have B1 := Sec.mk hb; obtain ⟨p0, p1⟩ := HW.out _ hb; clear hb) | (go_at_call 46; refine (l1In_c _ _ _ _).mono ?_; rw [HI.out]; rintro e w' ⟨rfl, rfl⟩))
        go_ret
        exact ⟨rb HE.out.symm, BB.out _ B1.out⟩
end
section
open Go.RowKit
set_option linter.unusedVariables false
set_option maxRecDepth 100000
def kSOut : Kd SOut := Kd.iso 32 (Kd.pair (Kd.int 3) (Kd.slice 30 kCell (by decide))) (fun x => (x.status, x.term))
theorem kSOut_K {w : World} {ok : Nat → Prop} {x : SOut} {cs : List Value} (h : kSOut.K w ok x cs) : ∃ v1, cs = [.int .i64 x.status, v1] ∧ kCell.V w ok v1 x.term := by
  obtain ⟨_, _, rfl, ⟨rfl, _⟩, ⟨v1, rfl, h1⟩⟩ := h
  exact ⟨v1, rfl, h1⟩
def rSOut : Raw SOut := Raw.iso 24 (Raw.pair (Raw.int 3) (Raw.slice 22 rCell)) (fun x => (x.status, x.term))
theorem SOut.ext_iff (a b : SOut) : a = b ↔ a.status = b.status ∧ a.term = b.term := by
  cases a; cases b; simp
instance : DecidableEq SOut := fun a b => decidable_of_iff _ (SOut.ext_iff a b).symm
def zeroSOut : SOut := ⟨0, []⟩
theorem kSOut_zero (w : World) : kSOut.O w (fun _ => False) zeroSOut [.int .i64 0, .slice none 0 0] := (Kd.O_pair0 (d := (Kd.int 3)) (e := (Kd.slice 30 kCell (by decide))) ⟨rfl, trivial⟩ ⟨_, rfl, Kd.R_nil _ _ _⟩)
theorem kSOut_f_term : Kd.Fld kSOut (Kd.slice 30 kCell (by decide)) 1 (fun x => x.term) (fun x y => { x with term := y }) := Kd.Fld.iso _ (Kd.Fld.snd (Kd.Fld.self _)) (fun _ _ => rfl)
set_option maxHeartbeats 2000000 in
theorem eqSlvOut_c (x y : SOut) (cs ds : List Value) (ok ok' : Nat → Prop) (w : World) (hK : kSOut.K w ok x cs) (hD : kSOut.K w ok' y ds) :
    Calls Tryz.prog 32 #[.agg cs.toArray, .agg ds.toArray] w fun e w' => e = .returned (.bool (decide (x = y))) ∧ Below w.heap.size w w' := by
  obtain ⟨_, _, rfl, ⟨rfl, _⟩, ⟨v1, rfl, h1⟩⟩ := hK
  have H1 := Sec.mk h1
  clear h1
  obtain ⟨_, _, rfl, ⟨rfl, _⟩, ⟨u1, rfl, g1⟩⟩ := hD
  have G1 := Sec.mk g1
  clear g1
  have hu := Tryz.underlying32
  have hxy := Sec.mk (SOut.ext_iff x y)
  have T0 : Sec True := ⟨trivial⟩
  by_cases h0 : x.status = y.status
  · have E0 := Sec.mk h0
    have d0 : (x.status == y.status) = true := beq_iff_eq.2 h0
    clear h0
    by_cases h1 : x.term = y.term
    · have E1 := Sec.mk h1
      have d1 : decide (x.term = y.term) = true := decide_eq_true h1
      clear h1
      have hd : Sec (decide (x = y) = true) := ⟨by rw [decide_eq_true_eq, hxy.out]; exact ⟨E0.out, E1.out⟩⟩
      go_enter Tryz.func32, Tryz.ntmps32
      go_wp2_with (first | (clear T0; go_at_call 31; have T1 : Sec True := ⟨trivial⟩; refine (eqSCell_c v1 u1 x.term y.term ok ok' _ (Kd.V_below H1.out (belA (belA (Below.refl _ _) _) _) (by decide)) (Kd.V_below G1.out (belA (belA (Below.refl _ _) _) _) (by decide))).mono ?_; rintro e w1 ⟨rfl, hb1⟩; rw [d1]; have B1 := Sec.mk (bel (belA (belA (Below.refl _ _) _) _) hb1); have X := box_cells (b := w.heap.size) (cs := #[.int .i64 x.status, v1]) (t := 32) hb1 (box2 _ _ _).1; have p1_1 := X.2.1 1 _ rfl; have P1 := Sec.mk X; clear X; have X := box_cells (b := w.heap.size + 1) (cs := #[.int .i64 y.status, u1]) (t := 32) hb1 (box2 _ _ _).2; have q1_1 := X.2.1 1 _ rfl; have Q1 := Sec.mk X; clear X hb1))
      go_ret
      exact ⟨rb hd.out.symm, B1.out⟩
    · have hd : Sec (decide (x = y) = false) := ⟨by rw [decide_eq_false_iff_not, hxy.out]; exact fun h => h1 h.2⟩
      have d1 : decide (x.term = y.term) = false := decide_eq_false h1
      clear h1
      go_enter Tryz.func32, Tryz.ntmps32
      go_wp2_with (first | (clear T0; go_at_call 31; have T1 : Sec True := ⟨trivial⟩; refine (eqSCell_c v1 u1 x.term y.term ok ok' _ (Kd.V_below H1.out (belA (belA (Below.refl _ _) _) _) (by decide)) (Kd.V_below G1.out (belA (belA (Below.refl _ _) _) _) (by decide))).mono ?_; rintro e w1 ⟨rfl, hb1⟩; rw [d1]; have B1 := Sec.mk (bel (belA (belA (Below.refl _ _) _) _) hb1); have X := box_cells (b := w.heap.size) (cs := #[.int .i64 x.status, v1]) (t := 32) hb1 (box2 _ _ _).1; have p1_1 := X.2.1 1 _ rfl; have P1 := Sec.mk X; clear X; have X := box_cells (b := w.heap.size + 1) (cs := #[.int .i64 y.status, u1]) (t := 32) hb1 (box2 _ _ _).2; have q1_1 := X.2.1 1 _ rfl; have Q1 := Sec.mk X; clear X hb1))
      go_ret
      exact ⟨rb hd.out.symm, B1.out⟩
  · have hd : Sec (decide (x = y) = false) := ⟨by rw [decide_eq_false_iff_not, hxy.out]; exact fun h => h0 h.1⟩
    have d0 : (x.status == y.status) = false := beq_eq_false_iff_ne.2 h0
    clear h0
    go_enter Tryz.func32, Tryz.ntmps32
    go_wp2
    go_ret
    exact ⟨rb hd.out.symm, (belA (belA (Below.refl _ _) _) _)⟩
def mSOut : Mk SOut := ⟨fun x => 1 + mCell.cnts x.term, fun x k => ⟨k, mCell.mks x.term (k + 1)⟩⟩
def mSOutt : Mk SOut := ⟨fun x => mCell.cnts x.term, fun x k => ⟨x.status, mCell.mks x.term (k)⟩⟩
theorem mSOutt_cnt (x : SOut) : mSOutt.cnt x = mCell.cnts x.term := rfl
set_option maxHeartbeats 2000000 in
theorem markSlvOut_c (x : SOut) (cs : List Value) (S : Nat → Prop) (k : Int) (hk : 0 ≤ k) (hk2 : k + mSOutt.cnt x ≤ 1000000000000000000) (w : World) (hO : kSOut.O w S x cs) :
    Calls Tryz.prog 34 #[.agg cs.toArray, .int .i64 k] w fun e w' => e = .returned (.int .i64 (k + mSOutt.cnt x)) ∧ kSOut.O w' S (mSOutt.one x k) cs ∧ Foot S w w' := by
  have hOw := Kd.O_below (kSOut.O_mono hO (S1 := fun k => S k ∧ k < w.heap.size) (fun k h1 h2 => ⟨h1, h2⟩)) (belA (Below.refl _ _) (.cells cs.toArray 32))
  obtain ⟨v1, rfl, -⟩ := kSOut_K (kSOut.O_K hO)
  have hu := Tryz.underlying32
  have hcx : Sec (mSOutt.cnt x = _) := ⟨mSOutt_cnt x⟩
  rw [mSOutt_cnt x] at hk2
  have A0 := Sec.mk hOw
  have P0 := Sec.mk (box1 w (.cells #[.int .i64 x.status, v1] 32))
  have F0 : Sec (Foot S w (w.alloc (.cells #[.int .i64 x.status, v1] 32))) := ⟨(Foot.refl _ _).alloc _⟩
  have Z0 : Sec (w.heap.size < (w.alloc (.cells #[.int .i64 x.status, v1] 32)).heap.size) := ⟨by simp⟩
  clear hO hOw
  have T0 : Sec True := ⟨trivial⟩
  obtain ⟨S0, r0, hs0, bk0⟩ := Kd.O_sub A0.out kSOut_f_term (v := v1) rfl
  have SR0 := Sec.mk r0
  have SS0 := Sec.mk hs0
  have BK0 := Sec.mk bk0
  clear r0 hs0 bk0
  go_enter Tryz.func34, Tryz.ntmps34
  go_wp2_with (first | (clear T0; go_at_call 33; have T1 : Sec True := ⟨trivial⟩; refine (markSCell_c v1 x.term S0 (k) (by omega) (by omega) _ SR0.out).mono ?_; rintro e w1 ⟨rfl, hR', hF'⟩; have A1 : Sec (kSOut.O w1 (fun k => S k ∧ k < w.heap.size) ⟨x.status, (mCell.mks x.term (k))⟩ [.int .i64 x.status, v1]) := ⟨BK0.out w1 _ hR' hF'⟩; have X := box_at ((hF'.block w.heap.size Z0.out (fun e => absurd (SS0.out _ e).2 (Nat.lt_irrefl _))).trans P0.out); have P1 := Sec.mk X.1; have F1 : Sec (Foot S w w1) := ⟨F0.out.trans hF' (fun k _ h => (SS0.out k h).1)⟩; have Z1 : Sec (w.heap.size < w1.heap.size) := ⟨Nat.lt_of_lt_of_le Z0.out hF'.size⟩; clear X hR' hF'))
  go_ret
  exact ⟨ri (by have := hcx.out; omega), kSOut.O_mono A1.out (fun k h _ => h.1), F1.out⟩
set_option maxHeartbeats 2000000 in
theorem heldSlvOut_c (x : SOut) (cs : List Value) (ok : Nat → Prop) (k : Int) (hk : 0 ≤ k) (hk2 : k + mSOutt.cnt x ≤ 1000000000000000000) (w : World) (hK : kSOut.K w ok (mSOutt.one x k) cs) :
    Calls Tryz.prog 43 #[.agg cs.toArray, .int .i64 k] w fun e w' => e = .returned (.int .i64 (k + mSOutt.cnt x)) ∧ Below w.heap.size w w' := by
  have hu := Tryz.underlying32
  have hcx : Sec (mSOutt.cnt x = _) := ⟨mSOutt_cnt x⟩
  rw [mSOutt_cnt x] at hk2
  obtain ⟨_, _, rfl, ⟨rfl, _⟩, ⟨v1, rfl, h1⟩⟩ := hK
  have H1 : Sec (kCell.V w ok v1 (mCell.mks x.term (k))) := ⟨h1⟩
  clear h1
  have T0 : Sec True := ⟨trivial⟩
  go_enter Tryz.func43, Tryz.ntmps43
  go_wp2_with (first | (clear T0; go_at_call 42; have T1 : Sec True := ⟨trivial⟩; refine (heldSCell_c v1 x.term ok (k) (by omega) (by omega) _ (Kd.V_below H1.out (belA (Below.refl _ _) _) (by decide))).mono ?_; rintro e w1 ⟨rfl, hb1⟩; have B1 := Sec.mk (bel (belA (Below.refl _ _) _) hb1); have X := box_cells hb1 (box1 _ _); have P1 := Sec.mk X.1; clear X hb1))
  go_ret
  exact ⟨ri (by have := hcx.out; omega), B1.out⟩
end
section
open Go.RowKit
set_option linter.unusedVariables false
set_option maxRecDepth 100000
def kMsg : Kd Msg := Kd.iso 34 (Kd.pair (Kd.int 3) (Kd.pair (Kd.int 3) (Kd.pair (Kd.slice 30 kCell (by decide)) (Kd.pair (Kd.int 3) kSOut)))) (fun x => (x.kind, x.from_, x.top, x.n, x.out))
theorem kMsg_K {w : World} {ok : Nat → Prop} {x : Msg} {cs : List Value} (h : kMsg.K w ok x cs) : ∃ v2 v5, cs = [.int .i64 x.kind, .int .i64 x.from_, v2, .int .i64 x.n, .int .i64 x.out.status, v5] ∧ kCell.V w ok v2 x.top ∧ kCell.V w ok v5 x.out.term := by
  obtain ⟨_, _, rfl, ⟨rfl, _⟩, ⟨_, _, rfl, ⟨rfl, _⟩, ⟨_, _, rfl, ⟨v2, rfl, h2⟩, ⟨_, _, rfl, ⟨rfl, _⟩, g4⟩⟩⟩⟩ := h
  obtain ⟨v5, rfl, h5⟩ := kSOut_K g4
  exact ⟨v2, v5, rfl, h2, h5⟩
def rMsg : Raw Msg := Raw.iso 26 (Raw.pair (Raw.int 3) (Raw.pair (Raw.int 3) (Raw.pair (Raw.slice 22 rCell) (Raw.pair (Raw.int 3) rSOut)))) (fun x => (x.kind, x.from_, x.top, x.n, x.out))
theorem Msg.ext_iff (a b : Msg) : a = b ↔ a.kind = b.kind ∧ a.from_ = b.from_ ∧ a.top = b.top ∧ a.n = b.n ∧ a.out = b.out := by
  cases a; cases b; simp
instance : DecidableEq Msg := fun a b => decidable_of_iff _ (Msg.ext_iff a b).symm
def zeroMsg : Msg := ⟨0, 0, [], 0, ⟨0, []⟩⟩
theorem kMsg_zero (w : World) : kMsg.O w (fun _ => False) zeroMsg [.int .i64 0, .int .i64 0, .slice none 0 0, .int .i64 0, .int .i64 0, .slice none 0 0] := (Kd.O_pair0 (d := (Kd.int 3)) (e := (Kd.pair (Kd.int 3) (Kd.pair (Kd.slice 30 kCell (by decide)) (Kd.pair (Kd.int 3) kSOut)))) ⟨rfl, trivial⟩ (Kd.O_pair0 (d := (Kd.int 3)) (e := (Kd.pair (Kd.slice 30 kCell (by decide)) (Kd.pair (Kd.int 3) kSOut))) ⟨rfl, trivial⟩ (Kd.O_pair0 (d := (Kd.slice 30 kCell (by decide))) (e := (Kd.pair (Kd.int 3) kSOut)) ⟨_, rfl, Kd.R_nil _ _ _⟩ (Kd.O_pair0 (d := (Kd.int 3)) (e := kSOut) ⟨rfl, trivial⟩ (kSOut_zero w)))))
theorem kMsg_f_top : Kd.Fld kMsg (Kd.slice 30 kCell (by decide)) 2 (fun x => x.top) (fun x y => { x with top := y }) := Kd.Fld.iso _ (Kd.Fld.snd (Kd.Fld.snd (Kd.Fld.fst (Kd.Fld.self _)))) (fun _ _ => rfl)
theorem kMsg_f_out : Kd.Fld kMsg kSOut 4 (fun x => x.out) (fun x y => { x with out := y }) := Kd.Fld.iso _ (Kd.Fld.snd (Kd.Fld.snd (Kd.Fld.snd (Kd.Fld.snd (Kd.Fld.self _))))) (fun _ _ => rfl)
set_option maxHeartbeats 2000000 in
theorem eqMsgMsg_c (x y : Msg) (cs ds : List Value) (ok ok' : Nat → Prop) (w : World) (hK : kMsg.K w ok x cs) (hD : kMsg.K w ok' y ds) :
    Calls Tryz.prog 10 #[.agg cs.toArray, .agg ds.toArray] w fun e w' => e = .returned (.bool (decide (x = y))) ∧ Below w.heap.size w w' := by
  obtain ⟨_, _, rfl, ⟨rfl, _⟩, ⟨_, _, rfl, ⟨rfl, _⟩, ⟨_, _, rfl, ⟨v2, rfl, h2⟩, ⟨_, _, rfl, ⟨rfl, _⟩, hg4⟩⟩⟩⟩ := hK
  have H2 := Sec.mk h2
  clear h2
  have H4 := Sec.mk hg4
  obtain ⟨v5, rfl, -⟩ := kSOut_K hg4
  clear hg4
  obtain ⟨_, _, rfl, ⟨rfl, _⟩, ⟨_, _, rfl, ⟨rfl, _⟩, ⟨_, _, rfl, ⟨u2, rfl, g2⟩, ⟨_, _, rfl, ⟨rfl, _⟩, gg4⟩⟩⟩⟩ := hD
  have G2 := Sec.mk g2
  clear g2
  have G4 := Sec.mk gg4
  obtain ⟨u5, rfl, -⟩ := kSOut_K gg4
  clear gg4
  have hu := Tryz.underlying34
  have hxy := Sec.mk (Msg.ext_iff x y)
  have T0 : Sec True := ⟨trivial⟩
  by_cases h0 : x.kind = y.kind
  · have E0 := Sec.mk h0
    have d0 : (x.kind == y.kind) = true := beq_iff_eq.2 h0
    clear h0
    by_cases h1 : x.from_ = y.from_
    · have E1 := Sec.mk h1
      have d1 : (x.from_ == y.from_) = true := beq_iff_eq.2 h1
      clear h1
      by_cases h2 : x.top = y.top
      · have E2 := Sec.mk h2
        have d2 : decide (x.top = y.top) = true := decide_eq_true h2
        clear h2
        by_cases h3 : x.n = y.n
        · have E3 := Sec.mk h3
          have d3 : (x.n == y.n) = true := beq_iff_eq.2 h3
          clear h3
          by_cases h4 : x.out = y.out
          · have E4 := Sec.mk h4
            have d4 : decide (x.out = y.out) = true := decide_eq_true h4
            clear h4
            have hd : Sec (decide (x = y) = true) := ⟨by rw [decide_eq_true_eq, hxy.out]; exact ⟨E0.out, E1.out, E2.out, E3.out, E4.out⟩⟩
            go_enter Tryz.func10, Tryz.ntmps10
            go_wp2_with (first | (clear T1; go_at_call 32; have T2 : Sec True := ⟨trivial⟩; refine (eqSlvOut_c x.out y.out _ _ ok ok' _ (Kd.K_below H4.out B1.out) (Kd.K_below G4.out B1.out)).mono ?_; rintro e w2 ⟨rfl, hb1⟩; rw [d4]; have B2 := Sec.mk (bel B1.out hb1); have X := box_cells (b := w.heap.size) (cs := #[.int .i64 x.kind, .int .i64 x.from_, v2, .int .i64 x.n, .int .i64 x.out.status, v5]) (t := 34) hb1 P1.out.1; have p2_4 := X.2.1 4 _ rfl; have p2_5 := X.2.1 5 _ rfl; have P2 := Sec.mk X; clear X; have X := box_cells (b := w.heap.size + 1) (cs := #[.int .i64 y.kind, .int .i64 y.from_, u2, .int .i64 y.n, .int .i64 y.out.status, u5]) (t := 34) hb1 Q1.out.1; have q2_4 := X.2.1 4 _ rfl; have q2_5 := X.2.1 5 _ rfl; have Q2 := Sec.mk X; clear X hb1) | (clear T0; go_at_call 31; have T1 : Sec True := ⟨trivial⟩; refine (eqSCell_c v2 u2 x.top y.top ok ok' _ (Kd.V_below H2.out (belA (belA (Below.refl _ _) _) _) (by decide)) (Kd.V_below G2.out (belA (belA (Below.refl _ _) _) _) (by decide))).mono ?_; rintro e w1 ⟨rfl, hb1⟩; rw [d2]; have B1 := Sec.mk (bel (belA (belA (Below.refl _ _) _) _) hb1); have X := box_cells (b := w.heap.size) (cs := #[.int .i64 x.kind, .int .i64 x.from_, v2, .int .i64 x.n, .int .i64 x.out.status, v5]) (t := 34) hb1 (box2 _ _ _).1; have p1_2 := X.2.1 2 _ rfl; have p1_3 := X.2.1 3 _ rfl; have p1_4 := X.2.1 4 _ rfl; have p1_5 := X.2.1 5 _ rfl; have P1 := Sec.mk X; clear X; have X := box_cells (b := w.heap.size + 1) (cs := #[.int .i64 y.kind, .int .i64 y.from_, u2, .int .i64 y.n, .int .i64 y.out.status, u5]) (t := 34) hb1 (box2 _ _ _).2; have q1_2 := X.2.1 2 _ rfl; have q1_3 := X.2.1 3 _ rfl; have q1_4 := X.2.1 4 _ rfl; have q1_5 := X.2.1 5 _ rfl; have Q1 := Sec.mk X; clear X hb1))
            go_ret
            exact ⟨rb hd.out.symm, B2.out⟩
          · have hd : Sec (decide (x = y) = false) := ⟨by rw [decide_eq_false_iff_not, hxy.out]; exact fun h => h4 h.2.2.2.2⟩
            have d4 : decide (x.out = y.out) = false := decide_eq_false h4
            clear h4
            go_enter Tryz.func10, Tryz.ntmps10
            go_wp2_with (first | (clear T1; go_at_call 32; have T2 : Sec True := ⟨trivial⟩; refine (eqSlvOut_c x.out y.out _ _ ok ok' _ (Kd.K_below H4.out B1.out) (Kd.K_below G4.out B1.out)).mono ?_; rintro e w2 ⟨rfl, hb1⟩; rw [d4]; have B2 := Sec.mk (bel B1.out hb1); have X := box_cells (b := w.heap.size) (cs := #[.int .i64 x.kind, .int .i64 x.from_, v2, .int .i64 x.n, .int .i64 x.out.status, v5]) (t := 34) hb1 P1.out.1; have p2_4 := X.2.1 4 _ rfl; have p2_5 := X.2.1 5 _ rfl; have P2 := Sec.mk X; clear X; have X := box_cells (b := w.heap.size + 1) (cs := #[.int .i64 y.kind, .int .i64 y.from_, u2, .int .i64 y.n, .int .i64 y.out.status, u5]) (t := 34) hb1 Q1.out.1; have q2_4 := X.2.1 4 _ rfl; have q2_5 := X.2.1 5 _ rfl; have Q2 := Sec.mk X; clear X hb1) | (clear T0; go_at_call 31; have T1 : Sec True := ⟨trivial⟩; refine (eqSCell_c v2 u2 x.top y.top ok ok' _ (Kd.V_below H2.out (belA (belA (Below.refl _ _) _) _) (by decide)) (Kd.V_below G2.out (belA (belA (Below.refl _ _) _) _) (by decide))).mono ?_; rintro e w1 ⟨rfl, hb1⟩; rw [d2]; have B1 := Sec.mk (bel (belA (belA (Below.refl _ _) _) _) hb1); have X := box_cells (b := w.heap.size) (cs := #[.int .i64 x.kind, .int .i64 x.from_, v2, .int .i64 x.n, .int .i64 x.out.status, v5]) (t := 34) hb1 (box2 _ _ _).1; have p1_2 := X.2.1 2 _ rfl; have p1_3 := X.2.1 3 _ rfl; have p1_4 := X.2.1 4 _ rfl; have p1_5 := X.2.1 5 _ rfl; have P1 := Sec.mk X; clear X; have X := box_cells (b := w.heap.size + 1) (cs := #[.int .i64 y.kind, .int .i64 y.from_, u2, .int .i64 y.n, .int .i64 y.out.status, u5]) (t := 34) hb1 (box2 _ _ _).2; have q1_2 := X.2.1 2 _ rfl; have q1_3 := X.2.1 3 _ rfl; have q1_4 := X.2.1 4 _ rfl; have q1_5 := X.2.1 5 _ rfl; have Q1 := Sec.mk X; clear X hb1))
            go_ret
            exact ⟨rb hd.out.symm, B2.out⟩
        · have hd : Sec (decide (x = y) = false) := ⟨by rw [decide_eq_false_iff_not, hxy.out]; exact fun h => h3 h.2.2.2.1⟩
          have d3 : (x.n == y.n) = false := beq_eq_false_iff_ne.2 h3
          clear h3
          go_enter Tryz.func10, Tryz.ntmps10
          go_wp2_with (first | (clear T0; go_at_call 31; have T1 : Sec True := ⟨trivial⟩; refine (eqSCell_c v2 u2 x.top y.top ok ok' _ (Kd.V_below H2.out (belA (belA (Below.refl _ _) _) _) (by decide)) (Kd.V_below G2.out (belA (belA (Below.refl _ _) _) _) (by decide))).mono ?_; rintro e w1 ⟨rfl, hb1⟩; rw [d2]; have B1 := Sec.mk (bel (belA (belA (Below.refl _ _) _) _) hb1); have X := box_cells (b := w.heap.size) (cs := #[.int .i64 x.kind, .int .i64 x.from_, v2, .int .i64 x.n, .int .i64 x.out.status, v5]) (t := 34) hb1 (box2 _ _ _).1; have p1_2 := X.2.1 2 _ rfl; have p1_3 := X.2.1 3 _ rfl; have p1_4 := X.2.1 4 _ rfl; have p1_5 := X.2.1 5 _ rfl; have P1 := Sec.mk X; clear X; have X := box_cells (b := w.heap.size + 1) (cs := #[.int .i64 y.kind, .int .i64 y.from_, u2, .int .i64 y.n, .int .i64 y.out.status, u5]) (t := 34) hb1 (box2 _ _ _).2; have q1_2 := X.2.1 2 _ rfl; have q1_3 := X.2.1 3 _ rfl; have q1_4 := X.2.1 4 _ rfl; have q1_5 := X.2.1 5 _ rfl; have Q1 := Sec.mk X; clear X hb1))
          go_ret
          exact ⟨rb hd.out.symm, B1.out⟩
      · have hd : Sec (decide (x = y) = false) := ⟨by rw [decide_eq_false_iff_not, hxy.out]; exact fun h => h2 h.2.2.1⟩
        have d2 : decide (x.top = y.top) = false := decide_eq_false h2
        clear h2
        go_enter Tryz.func10, Tryz.ntmps10
        go_wp2_with (first | (clear T0; go_at_call 31; have T1 : Sec True := ⟨trivial⟩; refine (eqSCell_c v2 u2 x.top y.top ok ok' _ (Kd.V_below H2.out (belA (belA (Below.refl _ _) _) _) (by decide)) (Kd.V_below G2.out (belA (belA (Below.refl _ _) _) _) (by decide))).mono ?_; rintro e w1 ⟨rfl, hb1⟩; rw [d2]; have B1 := Sec.mk (bel (belA (belA (Below.refl _ _) _) _) hb1); have X := box_cells (b := w.heap.size) (cs := #[.int .i64 x.kind, .int .i64 x.from_, v2, .int .i64 x.n, .int .i64 x.out.status, v5]) (t := 34) hb1 (box2 _ _ _).1; have p1_2 := X.2.1 2 _ rfl; have p1_3 := X.2.1 3 _ rfl; have p1_4 := X.2.1 4 _ rfl; have p1_5 := X.2.1 5 _ rfl; have P1 := Sec.mk X; clear X; have X := box_cells (b := w.heap.size + 1) (cs := #[.int .i64 y.kind, .int .i64 y.from_, u2, .int .i64 y.n, .int .i64 y.out.status, u5]) (t := 34) hb1 (box2 _ _ _).2; have q1_2 := X.2.1 2 _ rfl; have q1_3 := X.2.1 3 _ rfl; have q1_4 := X.2.1 4 _ rfl; have q1_5 := X.2.1 5 _ rfl; have Q1 := Sec.mk X; clear X hb1))
        go_ret
        exact ⟨rb hd.out.symm, B1.out⟩
    · have hd : Sec (decide (x = y) = false) := ⟨by rw [decide_eq_false_iff_not, hxy.out]; exact fun h => h1 h.2.1⟩
      have d1 : (x.from_ == y.from_) = false := beq_eq_false_iff_ne.2 h1
      clear h1
      go_enter Tryz.func10, Tryz.ntmps10
      go_wp2
      go_ret
      exact ⟨rb hd.out.symm, (belA (belA (Below.refl _ _) _) _)⟩
  · have hd : Sec (decide (x = y) = false) := ⟨by rw [decide_eq_false_iff_not, hxy.out]; exact fun h => h0 h.1⟩
    have d0 : (x.kind == y.kind) = false := beq_eq_false_iff_ne.2 h0
    clear h0
    go_enter Tryz.func10, Tryz.ntmps10
    go_wp2
    go_ret
    exact ⟨rb hd.out.symm, (belA (belA (Below.refl _ _) _) _)⟩
def mMsg : Mk Msg := ⟨fun x => 1 + 1 + mCell.cnts x.top + 1 + 1 + mCell.cnts x.out.term, fun x k => ⟨k, k + 1, mCell.mks x.top (k + 1 + 1), k + 1 + 1 + ((mCell.cnts x.top : Nat) : Int), ⟨k + 1 + 1 + ((mCell.cnts x.top : Nat) : Int) + 1, mCell.mks x.out.term (k + 1 + 1 + ((mCell.cnts x.top : Nat) : Int) + 1 + 1)⟩⟩⟩
def mMsgt : Mk Msg := ⟨fun x => mCell.cnts x.top + mSOutt.cnt x.out, fun x k => ⟨x.kind, x.from_, mCell.mks x.top (k), x.n, mSOutt.one x.out (k + ((mCell.cnts x.top : Nat) : Int))⟩⟩
theorem mMsgt_cnt (x : Msg) : mMsgt.cnt x = mCell.cnts x.top + mSOutt.cnt x.out := rfl
set_option maxHeartbeats 2000000 in
theorem markMsgMsg_c (x : Msg) (cs : List Value) (S : Nat → Prop) (k : Int) (hk : 0 ≤ k) (hk2 : k + mMsgt.cnt x ≤ 1000000000000000000) (w : World) (hO : kMsg.O w S x cs) :
    Calls Tryz.prog 11 #[.agg cs.toArray, .int .i64 k] w fun e w' => e = .returned (.int .i64 (k + mMsgt.cnt x)) ∧ kMsg.O w' S (mMsgt.one x k) cs ∧ Foot S w w' := by
  have hOw := Kd.O_below (kMsg.O_mono hO (S1 := fun k => S k ∧ k < w.heap.size) (fun k h1 h2 => ⟨h1, h2⟩)) (belA (Below.refl _ _) (.cells cs.toArray 34))
  obtain ⟨v2, v5, rfl, -, -⟩ := kMsg_K (kMsg.O_K hO)
  have hu := Tryz.underlying34
  have hcx : Sec (mMsgt.cnt x = _) := ⟨mMsgt_cnt x⟩
  rw [mMsgt_cnt x] at hk2
  have A0 := Sec.mk hOw
  have P0 := Sec.mk (box1 w (.cells #[.int .i64 x.kind, .int .i64 x.from_, v2, .int .i64 x.n, .int .i64 x.out.status, v5] 34))
  have F0 : Sec (Foot S w (w.alloc (.cells #[.int .i64 x.kind, .int .i64 x.from_, v2, .int .i64 x.n, .int .i64 x.out.status, v5] 34))) := ⟨(Foot.refl _ _).alloc _⟩
  have Z0 : Sec (w.heap.size < (w.alloc (.cells #[.int .i64 x.kind, .int .i64 x.from_, v2, .int .i64 x.n, .int .i64 x.out.status, v5] 34)).heap.size) := ⟨by simp⟩
  clear hO hOw
  have T0 : Sec True := ⟨trivial⟩
  obtain ⟨S0, r0, hs0, bk0⟩ := Kd.O_sub A0.out kMsg_f_top (v := v2) rfl
  have SR0 := Sec.mk r0
  have SS0 := Sec.mk hs0
  have BK0 := Sec.mk bk0
  clear r0 hs0 bk0
  go_enter Tryz.func11, Tryz.ntmps11
  go_wp2_with (first | (clear T1; go_at_call 34; have T2 : Sec True := ⟨trivial⟩; refine (markSlvOut_c x.out _ S1 (k + ((mCell.cnts x.top : Nat) : Int)) (by omega) (by omega) _ SR1.out).mono ?_; rintro e w2 ⟨rfl, hR', hF'⟩; have A2 : Sec (kMsg.O w2 (fun k => S k ∧ k < w.heap.size) ⟨x.kind, x.from_, (mCell.mks x.top (k)), x.n, (mSOutt.one x.out (k + ((mCell.cnts x.top : Nat) : Int)))⟩ [.int .i64 x.kind, .int .i64 x.from_, v2, .int .i64 x.n, .int .i64 x.out.status, v5]) := ⟨BK1.out w2 _ hR' hF'⟩; have X := box_at ((hF'.block w.heap.size Z1.out (fun e => absurd (SS1.out _ e).2 (Nat.lt_irrefl _))).trans P1.out); have P2 := Sec.mk X.1; have F2 : Sec (Foot S w w2) := ⟨F1.out.trans hF' (fun k _ h => (SS1.out k h).1)⟩; have Z2 : Sec (w.heap.size < w2.heap.size) := ⟨Nat.lt_of_lt_of_le Z1.out hF'.size⟩; clear X hR' hF'; clear c1_0 c1_1 c1_2 c1_3 c1_4 c1_5) | (clear T0; go_at_call 33; have T1 : Sec True := ⟨trivial⟩; refine (markSCell_c v2 x.top S0 (k) (by omega) (by omega) _ SR0.out).mono ?_; rintro e w1 ⟨rfl, hR', hF'⟩; have A1 : Sec (kMsg.O w1 (fun k => S k ∧ k < w.heap.size) ⟨x.kind, x.from_, (mCell.mks x.top (k)), x.n, x.out⟩ [.int .i64 x.kind, .int .i64 x.from_, v2, .int .i64 x.n, .int .i64 x.out.status, v5]) := ⟨BK0.out w1 _ hR' hF'⟩; have X := box_at ((hF'.block w.heap.size Z0.out (fun e => absurd (SS0.out _ e).2 (Nat.lt_irrefl _))).trans P0.out); have P1 := Sec.mk X.1; have c1_0 := X.2.1 0 _ rfl; have c1_1 := X.2.1 1 _ rfl; have c1_2 := X.2.1 2 _ rfl; have c1_3 := X.2.1 3 _ rfl; have c1_4 := X.2.1 4 _ rfl; have c1_5 := X.2.1 5 _ rfl; have F1 : Sec (Foot S w w1) := ⟨F0.out.trans hF' (fun k _ h => (SS0.out k h).1)⟩; have Z1 : Sec (w.heap.size < w1.heap.size) := ⟨Nat.lt_of_lt_of_le Z0.out hF'.size⟩; clear X hR' hF'; obtain ⟨S1, r1, hs1, bk1⟩ := Kd.O_part A1.out kMsg_f_out [.int .i64 x.kind, .int .i64 x.from_, v2, .int .i64 x.n] [.int .i64 x.out.status, v5] [] rfl rfl rfl; have SR1 := Sec.mk r1; have SS1 := Sec.mk hs1; have BK1 := Sec.mk bk1; clear r1 hs1 bk1))
  go_ret
  exact ⟨ri (by rw [hcx.out]; omega), kMsg.O_mono A2.out (fun k h _ => h.1), F2.out⟩
set_option maxHeartbeats 2000000 in
theorem heldMsgMsg_c (x : Msg) (cs : List Value) (ok : Nat → Prop) (k : Int) (hk : 0 ≤ k) (hk2 : k + mMsgt.cnt x ≤ 1000000000000000000) (w : World) (hK : kMsg.K w ok (mMsgt.one x k) cs) :
    Calls Tryz.prog 17 #[.agg cs.toArray, .int .i64 k] w fun e w' => e = .returned (.int .i64 (k + mMsgt.cnt x)) ∧ Below w.heap.size w w' := by
  have hu := Tryz.underlying34
  have hcx : Sec (mMsgt.cnt x = _) := ⟨mMsgt_cnt x⟩
  rw [mMsgt_cnt x] at hk2
  obtain ⟨_, _, rfl, ⟨rfl, _⟩, ⟨_, _, rfl, ⟨rfl, _⟩, ⟨_, _, rfl, ⟨v2, rfl, h2⟩, ⟨_, _, rfl, ⟨rfl, _⟩, g4⟩⟩⟩⟩ := hK
  have H2 : Sec (kCell.V w ok v2 (mCell.mks x.top (k))) := ⟨h2⟩
  clear h2
  have H4 : Sec (kSOut.K w ok (mSOutt.one x.out (k + ((mCell.cnts x.top : Nat) : Int))) _) := ⟨g4⟩
  obtain ⟨v5, rfl, -⟩ := kSOut_K g4
  clear g4
  have T0 : Sec True := ⟨trivial⟩
  go_enter Tryz.func17, Tryz.ntmps17
  go_wp2_with (first | (clear T1; go_at_call 43; have T2 : Sec True := ⟨trivial⟩; refine (heldSlvOut_c x.out _ ok (k + ((mCell.cnts x.top : Nat) : Int)) (by omega) (by omega) _ (Kd.K_below H4.out B1.out)).mono ?_; rintro e w2 ⟨rfl, hb1⟩; have B2 := Sec.mk (bel B1.out hb1); have X := box_cells hb1 P1.out; have P2 := Sec.mk X.1; clear X hb1) | (clear T0; go_at_call 42; have T1 : Sec True := ⟨trivial⟩; refine (heldSCell_c v2 x.top ok (k) (by omega) (by omega) _ (Kd.V_below H2.out (belA (Below.refl _ _) _) (by decide))).mono ?_; rintro e w1 ⟨rfl, hb1⟩; have B1 := Sec.mk (bel (belA (Below.refl _ _) _) hb1); have X := box_cells hb1 (box1 _ _); have P1 := Sec.mk X.1; have c1_0 := X.2.1 0 _ rfl; have c1_1 := X.2.1 1 _ rfl; have c1_2 := X.2.1 2 _ rfl; have c1_3 := X.2.1 3 _ rfl; have c1_4 := X.2.1 4 _ rfl; have c1_5 := X.2.1 5 _ rfl; clear X hb1))
  go_ret
  exact ⟨ri (by rw [hcx.out]; omega), B2.out⟩
end
section
open Go.RowKit
set_option linter.unusedVariables false
set_option maxRecDepth 100000
/-- What MsgOk says. -/
noncomputable def msgOk (m : Msg) : Bool := question m.top && (inB m.n 1 12000 && (if m.kind = 1 then inB m.from_ 0 3 && (m.out.status == 0 && ((m.out.term.length : Int) == 0)) else (m.kind == 2) && ((m.from_ == 0) && outOk m.top m.out.status m.out.term)))
set_option maxHeartbeats 4000000 in
theorem MsgOk_i (m : Msg) (cs : List Value) (ok : Nat → Prop) (w : World) (hK : kMsg.K w ok m cs) :
    Calls Tryz.prog 26 #[.agg cs.toArray] w fun e w' => e = .returned (.bool (msgOk m)) ∧ Below w.heap.size w w' := by
  obtain ⟨v2, v5, rfl, hV0, hT0⟩ := kMsg_K hK
  have hV : kCell.V w (fun k => k < w.heap.size) v2 m.top := Kd.V_move (fun k _ hl => ⟨hl, rfl⟩) hV0 (by decide)
  have hT : kCell.V w (fun k => k < w.heap.size) v5 m.out.term := Kd.V_move (fun k _ hl => ⟨hl, rfl⟩) hT0 (by decide)
  obtain ⟨A2, c2, rfl, -⟩ := id hV
  obtain ⟨A5, c5, rfl, -⟩ := id hT
  clear hV0 hT0 hK
  have b0 : Below w.heap.size w (w.alloc (.cells #[.int .i64 m.kind, .int .i64 m.from_, .slice A2 m.top.length c2, .int .i64 m.n, .int .i64 m.out.status, .slice A5 m.out.term.length c5] 34)) := belA (Below.refl _ _) _
  have HP : Sec (∀ W, Below (w.alloc (.cells #[.int .i64 m.kind, .int .i64 m.from_, .slice A2 m.top.length c2, .int .i64 m.n, .int .i64 m.out.status, .slice A5 m.out.term.length c5] 34)).heap.size (w.alloc (.cells #[.int .i64 m.kind, .int .i64 m.from_, .slice A2 m.top.length c2, .int .i64 m.n, .int .i64 m.out.status, .slice A5 m.out.term.length c5] 34)) W → W.cell? ⟨w.heap.size, 0, none⟩ = some (.int .i64 m.kind) ∧ W.cell? ⟨w.heap.size, 1, none⟩ = some (.int .i64 m.from_) ∧ W.cell? ⟨w.heap.size, 2, none⟩ = some (.slice A2 m.top.length c2) ∧ W.cell? ⟨w.heap.size, 3, none⟩ = some (.int .i64 m.n) ∧ W.cell? ⟨w.heap.size, 4, none⟩ = some (.int .i64 m.out.status) ∧ W.cell? ⟨w.heap.size, 5, none⟩ = some (.slice A5 m.out.term.length c5)) := ⟨fun W h => by
    have X := (box_at ((h.block _ (Array.getElem?_eq_some_iff.1 (heap_alloc_new w (.cells #[.int .i64 m.kind, .int .i64 m.from_, .slice A2 m.top.length c2, .int .i64 m.n, .int .i64 m.out.status, .slice A5 m.out.term.length c5] 34))).1).trans (heap_alloc_new w _))).2.1
    exact ⟨X 0 _ rfl, X 1 _ rfl, X 2 _ rfl, X 3 _ rfl, X 4 _ rfl, X 5 _ rfl⟩⟩
  have HV : Sec (∀ W, Below (w.alloc (.cells #[.int .i64 m.kind, .int .i64 m.from_, .slice A2 m.top.length c2, .int .i64 m.n, .int .i64 m.out.status, .slice A5 m.out.term.length c5] 34)).heap.size (w.alloc (.cells #[.int .i64 m.kind, .int .i64 m.from_, .slice A2 m.top.length c2, .int .i64 m.n, .int .i64 m.out.status, .slice A5 m.out.term.length c5] 34)) W → kCell.V W (fun k => k < w.heap.size) (.slice A2 m.top.length c2) m.top) := ⟨fun W h => Kd.V_below hV (bel b0 h) (by decide)⟩
  have HT : Sec (∀ W, Below (w.alloc (.cells #[.int .i64 m.kind, .int .i64 m.from_, .slice A2 m.top.length c2, .int .i64 m.n, .int .i64 m.out.status, .slice A5 m.out.term.length c5] 34)).heap.size (w.alloc (.cells #[.int .i64 m.kind, .int .i64 m.from_, .slice A2 m.top.length c2, .int .i64 m.n, .int .i64 m.out.status, .slice A5 m.out.term.length c5] 34)) W → kCell.V W (fun k => k < w.heap.size) (.slice A5 m.out.term.length c5) m.out.term) := ⟨fun W h => Kd.V_below hT (bel b0 h) (by decide)⟩
  have HK : Sec (∀ W, Below (w.alloc (.cells #[.int .i64 m.kind, .int .i64 m.from_, .slice A2 m.top.length c2, .int .i64 m.n, .int .i64 m.out.status, .slice A5 m.out.term.length c5] 34)).heap.size (w.alloc (.cells #[.int .i64 m.kind, .int .i64 m.from_, .slice A2 m.top.length c2, .int .i64 m.n, .int .i64 m.out.status, .slice A5 m.out.term.length c5] 34)) W → ∀ k, k < w.heap.size → k < W.heap.size) := ⟨fun W h k hk => Nat.lt_of_lt_of_le hk (bel b0 h).size⟩
  have BB : Sec (∀ W, Below (w.alloc (.cells #[.int .i64 m.kind, .int .i64 m.from_, .slice A2 m.top.length c2, .int .i64 m.n, .int .i64 m.out.status, .slice A5 m.out.term.length c5] 34)).heap.size (w.alloc (.cells #[.int .i64 m.kind, .int .i64 m.from_, .slice A2 m.top.length c2, .int .i64 m.n, .int .i64 m.out.status, .slice A5 m.out.term.length c5] 34)) W → Below w.heap.size w W) := ⟨fun W h => bel b0 h⟩
  clear hT hV b0
  cases hq : question m.top with
  | false =>
    have HE : Sec (msgOk m = false) := ⟨by unfold msgOk; rw [hq]; rfl⟩
    have HQ := Sec.mk hq
    clear hq
    obtain ⟨p0, p1, p2, p3, p4, p5⟩ := HP.out _ (Below.refl _ _)
    go_enter Tryz.func26, Tryz.ntmps26
    go_wp2_with (go_at_call 51; refine (isQuestion_i _ m.top _ _ (HV.out _ (Below.refl _ _))).mono ?_; rw [HQ.out]; rintro e w1 ⟨rfl, hb⟩; have B1 := Sec.mk hb; clear p0 p1 p2 p3 p4 p5; obtain ⟨p0, p1, p2, p3, p4, p5⟩ := HP.out _ hb; clear hb)
    go_ret
    exact ⟨rb HE.out.symm, BB.out _ B1.out⟩
  | true =>
    have HQ := Sec.mk hq
    clear hq
    cases hi : inB m.n 1 12000 with
    | false =>
      have HE : Sec (msgOk m = false) := ⟨by unfold msgOk; rw [HQ.out, hi]; rfl⟩
      have HI := Sec.mk hi
      clear hi
      obtain ⟨p0, p1, p2, p3, p4, p5⟩ := HP.out _ (Below.refl _ _)
      go_enter Tryz.func26, Tryz.ntmps26
      go_wp2_with (first | (go_at_call 52; refine (in_c _ _ _ _).mono ?_; rw [HI.out]; rintro e w' ⟨rfl, rfl⟩) | (go_at_call 51; refine (isQuestion_i _ m.top _ _ (HV.out _ (Below.refl _ _))).mono ?_; rw [HQ.out]; rintro e w1 ⟨rfl, hb⟩; have B1 := Sec.mk hb; clear p0 p1 p2 p3 p4 p5; obtain ⟨p0, p1, p2, p3, p4, p5⟩ := HP.out _ hb; clear hb))
      go_ret
      exact ⟨rb HE.out.symm, BB.out _ B1.out⟩
    | true =>
      have HI := Sec.mk hi
      clear hi
      by_cases hk : m.kind = 1
      · have hk1 : (m.kind == 1) = true := by rw [beq_iff_eq]; exact hk
        have HM : Sec (msgOk m = (inB m.from_ 0 3 && (m.out.status == 0 && ((m.out.term.length : Int) == 0)))) := ⟨by unfold msgOk; rw [HQ.out, HI.out, if_pos hk]; rfl⟩
        clear hk
        cases hf : inB m.from_ 0 3 with
        | false =>
          have HE : Sec (msgOk m = false) := ⟨by rw [HM.out, hf]; rfl⟩
          have HF := Sec.mk hf
          clear hf
          have T0 : Sec True := ⟨trivial⟩
          obtain ⟨p0, p1, p2, p3, p4, p5⟩ := HP.out _ (Below.refl _ _)
          go_enter Tryz.func26, Tryz.ntmps26
          go_wp2_with (first | (clear T1; go_at_call 52; refine (in_c _ _ _ _).mono ?_; rw [HF.out]; rintro e w' ⟨rfl, rfl⟩) | (clear T0; go_at_call 52; have T1 : Sec True := ⟨trivial⟩; refine (in_c _ _ _ _).mono ?_; rw [HI.out]; rintro e w' ⟨rfl, rfl⟩) | (go_at_call 51; refine (isQuestion_i _ m.top _ _ (HV.out _ (Below.refl _ _))).mono ?_; rw [HQ.out]; rintro e w1 ⟨rfl, hb⟩; have B1 := Sec.mk hb; clear p0 p1 p2 p3 p4 p5; obtain ⟨p0, p1, p2, p3, p4, p5⟩ := HP.out _ hb; clear hb))
          go_ret
          exact ⟨rb HE.out.symm, BB.out _ B1.out⟩
        | true =>
          have HF := Sec.mk hf
          cases hs : (m.out.status == 0) with
          | false =>
            have HE : Sec (msgOk m = false) := ⟨by rw [HM.out, hf, hs]; rfl⟩
            clear hf
            have T0 : Sec True := ⟨trivial⟩
            obtain ⟨p0, p1, p2, p3, p4, p5⟩ := HP.out _ (Below.refl _ _)
            go_enter Tryz.func26, Tryz.ntmps26
            go_wp2_with (first | (clear T1; go_at_call 52; refine (in_c _ _ _ _).mono ?_; rw [HF.out]; rintro e w' ⟨rfl, rfl⟩) | (clear T0; go_at_call 52; have T1 : Sec True := ⟨trivial⟩; refine (in_c _ _ _ _).mono ?_; rw [HI.out]; rintro e w' ⟨rfl, rfl⟩) | (go_at_call 51; refine (isQuestion_i _ m.top _ _ (HV.out _ (Below.refl _ _))).mono ?_; rw [HQ.out]; rintro e w1 ⟨rfl, hb⟩; have B1 := Sec.mk hb; clear p0 p1 p2 p3 p4 p5; obtain ⟨p0, p1, p2, p3, p4, p5⟩ := HP.out _ hb; clear hb))
            go_ret
            exact ⟨rb HE.out.symm, BB.out _ B1.out⟩
          | true =>
            have HE : Sec (msgOk m = ((m.out.term.length : Int) == 0)) := ⟨by rw [HM.out, hf, hs, Bool.true_and, Bool.true_and]⟩
            clear hf
            have T0 : Sec True := ⟨trivial⟩
            obtain ⟨p0, p1, p2, p3, p4, p5⟩ := HP.out _ (Below.refl _ _)
            go_enter Tryz.func26, Tryz.ntmps26
            go_wp2_with (first | (clear T1; go_at_call 52; refine (in_c _ _ _ _).mono ?_; rw [HF.out]; rintro e w' ⟨rfl, rfl⟩) | (clear T0; go_at_call 52; have T1 : Sec True := ⟨trivial⟩; refine (in_c _ _ _ _).mono ?_; rw [HI.out]; rintro e w' ⟨rfl, rfl⟩) | (go_at_call 51; refine (isQuestion_i _ m.top _ _ (HV.out _ (Below.refl _ _))).mono ?_; rw [HQ.out]; rintro e w1 ⟨rfl, hb⟩; have B1 := Sec.mk hb; clear p0 p1 p2 p3 p4 p5; obtain ⟨p0, p1, p2, p3, p4, p5⟩ := HP.out _ hb; clear hb))
            go_ret
            exact ⟨rb HE.out.symm, BB.out _ B1.out⟩
      · have hk1 : (m.kind == 1) = false := by rw [beq_eq_false_iff_ne]; exact hk
        have HM : Sec (msgOk m = ((m.kind == 2) && ((m.from_ == 0) && outOk m.top m.out.status m.out.term))) := ⟨by unfold msgOk; rw [HQ.out, HI.out, if_neg hk]; rfl⟩
        clear hk
        cases hk2 : (m.kind == 2) with
        | false =>
          have HE : Sec (msgOk m = false) := ⟨by rw [HM.out, hk2]; rfl⟩
          obtain ⟨p0, p1, p2, p3, p4, p5⟩ := HP.out _ (Below.refl _ _)
          go_enter Tryz.func26, Tryz.ntmps26
          go_wp2_with (first | (go_at_call 52; refine (in_c _ _ _ _).mono ?_; rw [HI.out]; rintro e w' ⟨rfl, rfl⟩) | (go_at_call 51; refine (isQuestion_i _ m.top _ _ (HV.out _ (Below.refl _ _))).mono ?_; rw [HQ.out]; rintro e w1 ⟨rfl, hb⟩; have B1 := Sec.mk hb; clear p0 p1 p2 p3 p4 p5; obtain ⟨p0, p1, p2, p3, p4, p5⟩ := HP.out _ hb; clear hb))
          go_ret
          exact ⟨rb HE.out.symm, BB.out _ B1.out⟩
        | true =>
          cases hf : (m.from_ == 0) with
          | false =>
            have HE : Sec (msgOk m = false) := ⟨by rw [HM.out, hk2, hf]; rfl⟩
            obtain ⟨p0, p1, p2, p3, p4, p5⟩ := HP.out _ (Below.refl _ _)
            go_enter Tryz.func26, Tryz.ntmps26
            go_wp2_with (first | (go_at_call 52; refine (in_c _ _ _ _).mono ?_; rw [HI.out]; rintro e w' ⟨rfl, rfl⟩) | (go_at_call 51; refine (isQuestion_i _ m.top _ _ (HV.out _ (Below.refl _ _))).mono ?_; rw [HQ.out]; rintro e w1 ⟨rfl, hb⟩; have B1 := Sec.mk hb; clear p0 p1 p2 p3 p4 p5; obtain ⟨p0, p1, p2, p3, p4, p5⟩ := HP.out _ hb; clear hb))
            go_ret
            exact ⟨rb HE.out.symm, BB.out _ B1.out⟩
          | true =>
            have HE : Sec (msgOk m = outOk m.top m.out.status m.out.term) := ⟨by rw [HM.out, hk2, hf, Bool.true_and, Bool.true_and]⟩
            obtain ⟨p0, p1, p2, p3, p4, p5⟩ := HP.out _ (Below.refl _ _)
            go_enter Tryz.func26, Tryz.ntmps26
            go_wp2_with (first | (go_at_call 53; refine (OutOk_i _ _ m.top m.out.term m.out.status _ _ (HV.out _ B1.out) (HT.out _ B1.out)).mono ?_; rintro e w2 ⟨rfl, hb⟩; have B2 := Sec.mk (bel B1.out hb); clear hb) | (go_at_call 52; refine (in_c _ _ _ _).mono ?_; rw [HI.out]; rintro e w' ⟨rfl, rfl⟩) | (go_at_call 51; refine (isQuestion_i _ m.top _ _ (HV.out _ (Below.refl _ _))).mono ?_; rw [HQ.out]; rintro e w1 ⟨rfl, hb⟩; have B1 := Sec.mk hb; clear p0 p1 p2 p3 p4 p5; obtain ⟨p0, p1, p2, p3, p4, p5⟩ := HP.out _ hb; clear hb))
            go_ret
            exact ⟨rb HE.out.symm, BB.out _ B2.out⟩
set_option maxHeartbeats 4000000 in
theorem MsgOk_c (m : Msg) (cs : List Value) (ok : Nat → Prop) (w : World) (hK : kMsg.K w ok m cs) :
    Calls Tryz.prog 20 #[.agg cs.toArray] w fun e w' => e = .returned (.bool (msgOk m)) ∧ Below w.heap.size w w' := by
  obtain ⟨v2, v5, rfl, hV0, hT0⟩ := kMsg_K hK
  have hV : kCell.V w (fun k => k < w.heap.size) v2 m.top := Kd.V_move (fun k _ hl => ⟨hl, rfl⟩) hV0 (by decide)
  have hT : kCell.V w (fun k => k < w.heap.size) v5 m.out.term := Kd.V_move (fun k _ hl => ⟨hl, rfl⟩) hT0 (by decide)
  obtain ⟨A2, c2, rfl, -⟩ := id hV
  obtain ⟨A5, c5, rfl, -⟩ := id hT
  clear hV0 hT0 hK
  have b0 : Below w.heap.size w (w.alloc (.cells #[.int .i64 m.kind, .int .i64 m.from_, .slice A2 m.top.length c2, .int .i64 m.n, .int .i64 m.out.status, .slice A5 m.out.term.length c5] 34)) := belA (Below.refl _ _) _
  have HP : Sec (∀ W, Below (w.alloc (.cells #[.int .i64 m.kind, .int .i64 m.from_, .slice A2 m.top.length c2, .int .i64 m.n, .int .i64 m.out.status, .slice A5 m.out.term.length c5] 34)).heap.size (w.alloc (.cells #[.int .i64 m.kind, .int .i64 m.from_, .slice A2 m.top.length c2, .int .i64 m.n, .int .i64 m.out.status, .slice A5 m.out.term.length c5] 34)) W → W.cell? ⟨w.heap.size, 0, none⟩ = some (.int .i64 m.kind) ∧ W.cell? ⟨w.heap.size, 1, none⟩ = some (.int .i64 m.from_) ∧ W.cell? ⟨w.heap.size, 2, none⟩ = some (.slice A2 m.top.length c2) ∧ W.cell? ⟨w.heap.size, 3, none⟩ = some (.int .i64 m.n) ∧ W.cell? ⟨w.heap.size, 4, none⟩ = some (.int .i64 m.out.status) ∧ W.cell? ⟨w.heap.size, 5, none⟩ = some (.slice A5 m.out.term.length c5)) := ⟨fun W h => by
    have X := (box_at ((h.block _ (Array.getElem?_eq_some_iff.1 (heap_alloc_new w (.cells #[.int .i64 m.kind, .int .i64 m.from_, .slice A2 m.top.length c2, .int .i64 m.n, .int .i64 m.out.status, .slice A5 m.out.term.length c5] 34))).1).trans (heap_alloc_new w _))).2.1
    exact ⟨X 0 _ rfl, X 1 _ rfl, X 2 _ rfl, X 3 _ rfl, X 4 _ rfl, X 5 _ rfl⟩⟩
  have HV : Sec (∀ W, Below (w.alloc (.cells #[.int .i64 m.kind, .int .i64 m.from_, .slice A2 m.top.length c2, .int .i64 m.n, .int .i64 m.out.status, .slice A5 m.out.term.length c5] 34)).heap.size (w.alloc (.cells #[.int .i64 m.kind, .int .i64 m.from_, .slice A2 m.top.length c2, .int .i64 m.n, .int .i64 m.out.status, .slice A5 m.out.term.length c5] 34)) W → kCell.V W (fun k => k < w.heap.size) (.slice A2 m.top.length c2) m.top) := ⟨fun W h => Kd.V_below hV (bel b0 h) (by decide)⟩
  have HT : Sec (∀ W, Below (w.alloc (.cells #[.int .i64 m.kind, .int .i64 m.from_, .slice A2 m.top.length c2, .int .i64 m.n, .int .i64 m.out.status, .slice A5 m.out.term.length c5] 34)).heap.size (w.alloc (.cells #[.int .i64 m.kind, .int .i64 m.from_, .slice A2 m.top.length c2, .int .i64 m.n, .int .i64 m.out.status, .slice A5 m.out.term.length c5] 34)) W → kCell.V W (fun k => k < w.heap.size) (.slice A5 m.out.term.length c5) m.out.term) := ⟨fun W h => Kd.V_below hT (bel b0 h) (by decide)⟩
  have HK : Sec (∀ W, Below (w.alloc (.cells #[.int .i64 m.kind, .int .i64 m.from_, .slice A2 m.top.length c2, .int .i64 m.n, .int .i64 m.out.status, .slice A5 m.out.term.length c5] 34)).heap.size (w.alloc (.cells #[.int .i64 m.kind, .int .i64 m.from_, .slice A2 m.top.length c2, .int .i64 m.n, .int .i64 m.out.status, .slice A5 m.out.term.length c5] 34)) W → ∀ k, k < w.heap.size → k < W.heap.size) := ⟨fun W h k hk => Nat.lt_of_lt_of_le hk (bel b0 h).size⟩
  have BB : Sec (∀ W, Below (w.alloc (.cells #[.int .i64 m.kind, .int .i64 m.from_, .slice A2 m.top.length c2, .int .i64 m.n, .int .i64 m.out.status, .slice A5 m.out.term.length c5] 34)).heap.size (w.alloc (.cells #[.int .i64 m.kind, .int .i64 m.from_, .slice A2 m.top.length c2, .int .i64 m.n, .int .i64 m.out.status, .slice A5 m.out.term.length c5] 34)) W → Below w.heap.size w W) := ⟨fun W h => bel b0 h⟩
  clear hT hV b0
  cases hq : question m.top with
  | false =>
    have HE : Sec (msgOk m = false) := ⟨by unfold msgOk; rw [hq]; rfl⟩
    have HQ := Sec.mk hq
    clear hq
    obtain ⟨p0, p1, p2, p3, p4, p5⟩ := HP.out _ (Below.refl _ _)
    go_enter Tryz.func20, Tryz.ntmps20
    go_wp2_with (go_at_call 45; refine (l4Top_c _ m.top _ _ (HV.out _ (Below.refl _ _)) (HK.out _ (Below.refl _ _))).mono ?_; rw [HQ.out]; rintro e w1 ⟨rfl, hb⟩; have B1 := Sec.mk hb; clear p0 p1 p2 p3 p4 p5; obtain ⟨p0, p1, p2, p3, p4, p5⟩ := HP.out _ hb; clear hb)
    go_ret
    exact ⟨rb HE.out.symm, BB.out _ B1.out⟩
  | true =>
    have HQ := Sec.mk hq
    clear hq
    cases hi : inB m.n 1 12000 with
    | false =>
      have HE : Sec (msgOk m = false) := ⟨by unfold msgOk; rw [HQ.out, hi]; rfl⟩
      have HI := Sec.mk hi
      clear hi
      obtain ⟨p0, p1, p2, p3, p4, p5⟩ := HP.out _ (Below.refl _ _)
      go_enter Tryz.func20, Tryz.ntmps20
      go_wp2_with (first | (go_at_call 46; refine (l1In_c _ _ _ _).mono ?_; rw [HI.out]; rintro e w' ⟨rfl, rfl⟩) | (go_at_call 45; refine (l4Top_c _ m.top _ _ (HV.out _ (Below.refl _ _)) (HK.out _ (Below.refl _ _))).mono ?_; rw [HQ.out]; rintro e w1 ⟨rfl, hb⟩; have B1 := Sec.mk hb; clear p0 p1 p2 p3 p4 p5; obtain ⟨p0, p1, p2, p3, p4, p5⟩ := HP.out _ hb; clear hb))
      go_ret
      exact ⟨rb HE.out.symm, BB.out _ B1.out⟩
    | true =>
      have HI := Sec.mk hi
      clear hi
      by_cases hk : m.kind = 1
      · have hk1 : (m.kind == 1) = true := by rw [beq_iff_eq]; exact hk
        have HM : Sec (msgOk m = (inB m.from_ 0 3 && (m.out.status == 0 && ((m.out.term.length : Int) == 0)))) := ⟨by unfold msgOk; rw [HQ.out, HI.out, if_pos hk]; rfl⟩
        clear hk
        cases hf : inB m.from_ 0 3 with
        | false =>
          have HE : Sec (msgOk m = false) := ⟨by rw [HM.out, hf]; rfl⟩
          have HF := Sec.mk hf
          clear hf
          have T0 : Sec True := ⟨trivial⟩
          obtain ⟨p0, p1, p2, p3, p4, p5⟩ := HP.out _ (Below.refl _ _)
          go_enter Tryz.func20, Tryz.ntmps20
          go_wp2_with (first | (clear T1; go_at_call 46; refine (l1In_c _ _ _ _).mono ?_; rw [HF.out]; rintro e w' ⟨rfl, rfl⟩) | (clear T0; go_at_call 46; have T1 : Sec True := ⟨trivial⟩; refine (l1In_c _ _ _ _).mono ?_; rw [HI.out]; rintro e w' ⟨rfl, rfl⟩) | (go_at_call 45; refine (l4Top_c _ m.top _ _ (HV.out _ (Below.refl _ _)) (HK.out _ (Below.refl _ _))).mono ?_; rw [HQ.out]; rintro e w1 ⟨rfl, hb⟩; have B1 := Sec.mk hb; clear p0 p1 p2 p3 p4 p5; obtain ⟨p0, p1, p2, p3, p4, p5⟩ := HP.out _ hb; clear hb))
          go_ret
          exact ⟨rb HE.out.symm, BB.out _ B1.out⟩
        | true =>
          have HF := Sec.mk hf
          cases hs : (m.out.status == 0) with
          | false =>
            have HE : Sec (msgOk m = false) := ⟨by rw [HM.out, hf, hs]; rfl⟩
            clear hf
            have T0 : Sec True := ⟨trivial⟩
            obtain ⟨p0, p1, p2, p3, p4, p5⟩ := HP.out _ (Below.refl _ _)
            go_enter Tryz.func20, Tryz.ntmps20
            go_wp2_with (first | (clear T1; go_at_call 46; refine (l1In_c _ _ _ _).mono ?_; rw [HF.out]; rintro e w' ⟨rfl, rfl⟩) | (clear T0; go_at_call 46; have T1 : Sec True := ⟨trivial⟩; refine (l1In_c _ _ _ _).mono ?_; rw [HI.out]; rintro e w' ⟨rfl, rfl⟩) | (go_at_call 45; refine (l4Top_c _ m.top _ _ (HV.out _ (Below.refl _ _)) (HK.out _ (Below.refl _ _))).mono ?_; rw [HQ.out]; rintro e w1 ⟨rfl, hb⟩; have B1 := Sec.mk hb; clear p0 p1 p2 p3 p4 p5; obtain ⟨p0, p1, p2, p3, p4, p5⟩ := HP.out _ hb; clear hb))
            go_ret
            exact ⟨rb HE.out.symm, BB.out _ B1.out⟩
          | true =>
            have HE : Sec (msgOk m = ((m.out.term.length : Int) == 0)) := ⟨by rw [HM.out, hf, hs, Bool.true_and, Bool.true_and]⟩
            clear hf
            have T0 : Sec True := ⟨trivial⟩
            obtain ⟨p0, p1, p2, p3, p4, p5⟩ := HP.out _ (Below.refl _ _)
            go_enter Tryz.func20, Tryz.ntmps20
            go_wp2_with (first | (clear T1; go_at_call 46; refine (l1In_c _ _ _ _).mono ?_; rw [HF.out]; rintro e w' ⟨rfl, rfl⟩) | (clear T0; go_at_call 46; have T1 : Sec True := ⟨trivial⟩; refine (l1In_c _ _ _ _).mono ?_; rw [HI.out]; rintro e w' ⟨rfl, rfl⟩) | (go_at_call 45; refine (l4Top_c _ m.top _ _ (HV.out _ (Below.refl _ _)) (HK.out _ (Below.refl _ _))).mono ?_; rw [HQ.out]; rintro e w1 ⟨rfl, hb⟩; have B1 := Sec.mk hb; clear p0 p1 p2 p3 p4 p5; obtain ⟨p0, p1, p2, p3, p4, p5⟩ := HP.out _ hb; clear hb))
            go_ret
            exact ⟨rb HE.out.symm, BB.out _ B1.out⟩
      · have hk1 : (m.kind == 1) = false := by rw [beq_eq_false_iff_ne]; exact hk
        have HM : Sec (msgOk m = ((m.kind == 2) && ((m.from_ == 0) && outOk m.top m.out.status m.out.term))) := ⟨by unfold msgOk; rw [HQ.out, HI.out, if_neg hk]; rfl⟩
        clear hk
        cases hk2 : (m.kind == 2) with
        | false =>
          have HE : Sec (msgOk m = false) := ⟨by rw [HM.out, hk2]; rfl⟩
          obtain ⟨p0, p1, p2, p3, p4, p5⟩ := HP.out _ (Below.refl _ _)
          go_enter Tryz.func20, Tryz.ntmps20
          go_wp2_with (first | (go_at_call 46; refine (l1In_c _ _ _ _).mono ?_; rw [HI.out]; rintro e w' ⟨rfl, rfl⟩) | (go_at_call 45; refine (l4Top_c _ m.top _ _ (HV.out _ (Below.refl _ _)) (HK.out _ (Below.refl _ _))).mono ?_; rw [HQ.out]; rintro e w1 ⟨rfl, hb⟩; have B1 := Sec.mk hb; clear p0 p1 p2 p3 p4 p5; obtain ⟨p0, p1, p2, p3, p4, p5⟩ := HP.out _ hb; clear hb))
          go_ret
          exact ⟨rb HE.out.symm, BB.out _ B1.out⟩
        | true =>
          cases hf : (m.from_ == 0) with
          | false =>
            have HE : Sec (msgOk m = false) := ⟨by rw [HM.out, hk2, hf]; rfl⟩
            obtain ⟨p0, p1, p2, p3, p4, p5⟩ := HP.out _ (Below.refl _ _)
            go_enter Tryz.func20, Tryz.ntmps20
            go_wp2_with (first | (go_at_call 46; refine (l1In_c _ _ _ _).mono ?_; rw [HI.out]; rintro e w' ⟨rfl, rfl⟩) | (go_at_call 45; refine (l4Top_c _ m.top _ _ (HV.out _ (Below.refl _ _)) (HK.out _ (Below.refl _ _))).mono ?_; rw [HQ.out]; rintro e w1 ⟨rfl, hb⟩; have B1 := Sec.mk hb; clear p0 p1 p2 p3 p4 p5; obtain ⟨p0, p1, p2, p3, p4, p5⟩ := HP.out _ hb; clear hb))
            go_ret
            exact ⟨rb HE.out.symm, BB.out _ B1.out⟩
          | true =>
            have HE : Sec (msgOk m = outOk m.top m.out.status m.out.term) := ⟨by rw [HM.out, hk2, hf, Bool.true_and, Bool.true_and]⟩
            obtain ⟨p0, p1, p2, p3, p4, p5⟩ := HP.out _ (Below.refl _ _)
            go_enter Tryz.func20, Tryz.ntmps20
            go_wp2_with (first | (go_at_call 47; refine (OutOk_c _ _ m.top m.out.term m.out.status _ _ (HV.out _ B1.out) (HT.out _ B1.out) (HK.out _ B1.out)).mono ?_; rintro e w2 ⟨rfl, hb⟩; have B2 := Sec.mk (bel B1.out hb); clear hb) | (go_at_call 46; refine (l1In_c _ _ _ _).mono ?_; rw [HI.out]; rintro e w' ⟨rfl, rfl⟩) | (go_at_call 45; refine (l4Top_c _ m.top _ _ (HV.out _ (Below.refl _ _)) (HK.out _ (Below.refl _ _))).mono ?_; rw [HQ.out]; rintro e w1 ⟨rfl, hb⟩; have B1 := Sec.mk hb; clear p0 p1 p2 p3 p4 p5; obtain ⟨p0, p1, p2, p3, p4, p5⟩ := HP.out _ hb; clear hb))
            go_ret
            exact ⟨rb HE.out.symm, BB.out _ B2.out⟩
end
section
open Go.RowKit
set_option linter.unusedVariables false
set_option maxRecDepth 100000

/-- Only block g of what was there has turned. -/
structure Only (g : Nat) (w w' : World) : Prop where
  os : w'.os = w.os
  tape : w'.tape = w.tape
  output : w'.output = w.output
  size : w.heap.size ≤ w'.heap.size
  block : ∀ k, k < w.heap.size → k ≠ g → w'.heap[k]? = w.heap[k]?
theorem Only.refl (g : Nat) (w : World) : Only g w w := ⟨rfl, rfl, rfl, Nat.le_refl _, fun _ _ _ => rfl⟩
theorem Only.of_below {g : Nat} {w w' : World} (h : Below w.heap.size w w') : Only g w w' := ⟨h.os, h.tape, h.output, h.size, fun k hk _ => h.block k hk⟩
theorem Only.trans {g : Nat} {a b c : World} (h : Only g a b) (k : Only g b c) : Only g a c :=
  ⟨k.os.trans h.os, k.tape.trans h.tape, k.output.trans h.output, Nat.le_trans h.size k.size, fun i hi hg => (k.block i (Nat.lt_of_lt_of_le hi h.size) hg).trans (h.block i hi hg)⟩
theorem Only.alloc {g : Nat} {a b : World} (h : Only g a b) (o : Obj) : Only g a (b.alloc o) := h.trans (Only.of_below (belA (Below.refl _ _) o))
theorem Only.drew {g : Nat} {a b : World} (h : Only g a b) : Only g a b.drew := ⟨h.os, h.tape, h.output, h.size, h.block⟩
theorem Only.set {g : Nat} {a b : World} (h : Only g a b) (i : Nat) (u : Value) : Only g a (b.setCell ⟨g, i, none⟩ u) :=
  h.trans ⟨rfl, rfl, rfl, by simp [World.setCell], fun k _ hk => Below.heap_setCell _ _ _ _ hk⟩
theorem Only.keeps {g : Nat} {w w' : World} (h : Only g w w') {ok : Nat → Prop} (hg : ¬ ok g) : Keeps w w' ok ok := fun k hk hl => ⟨hk, h.block k hl (fun e => hg (e ▸ hk))⟩
theorem Only.below {g : Nat} {w0 w w' : World} (h : Only g w w') (hb : Below w0.heap.size w0 w) (hg : w0.heap.size ≤ g) : Below w0.heap.size w0 w' :=
  hb.trans ⟨h.os, h.tape, h.output, h.size, fun k hk => h.block k (Nat.lt_of_lt_of_le hk hb.size) (by omega)⟩

theorem Only.grown {g : Nat} {w w1 w2 : World} {row : Option Nat} (h : Only g w w1) (hg : w1.grownBy w2 row) (hr : ∀ k, row = some k → w.heap.size ≤ k) : Only g w w2 :=
  ⟨hg.os.trans h.os, hg.tape.trans h.tape, hg.output.trans h.output, Nat.le_trans h.size hg.size, fun k hk hne => (hg.block k (Nat.lt_of_lt_of_le hk h.size) (fun e => by have := hr k e.symm; omega)).trans (h.block k hk hne)⟩
end
section
open Go.RowKit
set_option linter.unusedVariables false
set_option maxRecDepth 100000
def num3 (n : Int) : List UInt8 := [u8 ((n + 99999 + 1) / 65536), u8 ((n + 99999 + 1) / 256 % 256), u8 ((n + 99999 + 1) % 256)]
end
end Go.Proofs.YteflipoiiddkfaaGreatDoor
