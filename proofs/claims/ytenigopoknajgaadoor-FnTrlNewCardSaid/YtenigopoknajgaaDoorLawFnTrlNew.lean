/- FnTrlNew: what it does, whatever it is given: it returns true. -/
import Derived.Test.YtenigopoknajgaaDoorNew2
import Derived.Test.YtenigopoknajgaaDoorCas
import Derived.Test.YtenigopoknajgaaDoorCode
import Derived.Test.YtenigopoknajgaaDoorTxC
namespace Go.Proofs.YtenigopoknajgaaDoor
open Go.RowKit
set_option linter.unusedVariables false
set_option maxRecDepth 100000
theorem gstep_load {P : Program} {o : Oper} {a : Act} {w : World} {K : Act → World → Prop} {Q : Exit → Act → World → Prop} {E : Prop} {ops : Array Oper} {cs : List Value} {b f : Nat} {d : TypeDesc} (hw : Region.wanted o (yielded ops a.tmps) = true) (t : TypeId) (x : Operand) (ho : o.op = .load t x) (hx : a.eval x = .pointer (some ⟨b, f, none⟩))
    (hc : ∀ j u, cs[j]? = some u → w.cell? ⟨b, f + j, none⟩ = some u) (hu : P.underlying t = some d) (hd : d.isRow = true) (hi : (P.info? t).map (·.size) = some cs.length)
    (hk : K (a.put o.dst (.agg cs.toArray)) w) : if Region.wanted o (yielded ops a.tmps) = true then Oper.wp P o a w K Q else E := by
  refine gop_val (.agg cs.toArray) w hw ?_ hk
  unfold execOp
  simp only [ho, hx, Sem.run_bind, run_loadAt_mid w b f t cs d hc hu hd hi, Result.andThen_ok]
  rfl
theorem newT_b (t : Term) : (newT t).binds = [] ∧ (newT t).choices = [] := by
  unfold newT; split <;> exact ⟨rfl, rfl⟩
theorem newS_b (t : Term) : (newS t).binds = [] ∧ (newS t).choices = [] := by
  unfold newS; split <;> exact ⟨rfl, rfl⟩
set_option maxHeartbeats 4000000 in
theorem FnTrlNew_law_c (a : Option Addr) (len cap : Nat) (zs : List Int) (w0 : World) (hr : CodeRow w0 a len cap zs) :
    Calls Tryd.prog 3 #[.slice a len cap] w0 fun e w' => e = .returned (.bool true) ∧ Below w0.heap.size w0 w' := by
  have hu := Tryd.underlying29
  by_cases hl : len ≤ 1048576
  · obtain ⟨code, rfl, hV⟩ := hr.view (by omega)
    have H0 := Sec.mk (DrawTrlNew_c w0 _ code _ hV)
    have ql : decide ((code.length : Int) > 1048576) = false := decide_eq_false (by omega)
    clear hV hr
    go_enter Tryd.func3, Tryd.ntmps3
    go_wp2_with fail
    refine H0.out.mono ?_
    rintro e w1 ⟨u, t, rfl, hT, hb⟩
    obtain ⟨A9, c9, rfl, -, -⟩ := Kd.R_form hT
    have T1 := Sec.mk hT
    have B1 := Sec.mk hb
    clear hT hb H0
    go_wp2_with fail
    refine (TrlNew_i _ t _ w1 (Kd.R_V T1.out)).mono ?_
    rintro e w2 ⟨cs, rfl, hO, hb⟩
    have cs_len := Sec.mk (kTState.K_len (kTState.O_K hO))
    have K2 := Sec.mk (kTState.O_K hO)
    have V2 := Sec.mk (Kd.V_below (Kd.R_V T1.out) hb (by decide))
    have B2 := Sec.mk (bel B1.out hb)
    clear hO hb T1
    go_wp2_with (with_reducible show wpList _ _ _ (⟨none, .store 29 (.tmp 4) (.tmp 11), _, _, _, _⟩ :: _) _ _; refine wpList_store (cs := cs) (old := #[.int .i64 0, .slice none 0 0, .slice none 0 0, .int .i64 0, .slice none 0 0, .slice none 0 0, .slice none 0 0]) rfl 29 (.tmp 4) (.tmp 11) rfl rfl rfl (heap_alloc_new w2 _) (by rw [cs_len.out]; kernel_rfl) (by rw [cs_len.out]; kernel_rfl) (kTState.K_one K2.out) ?_; intro w3 hb' hF'; have hb3 : Below w2.heap.size w2 w3 := hF'.below (belA (Below.refl _ _) _) (fun k h => Nat.le_of_eq (show k = w2.heap.size from h).symm); have PX := Sec.mk hb'; have K3 := Sec.mk (Kd.K_below K2.out hb3); have V3 := Sec.mk (Kd.V_below V2.out hb3 (by decide)); have B3 := Sec.mk (bel B2.out hb3); clear hb' hF' hb3)
    clear K2 V2 B2 B1
    generalize w2.heap.size = bx at *
    obtain ⟨ok, hok⟩ : ∃ ok : Nat → Prop, ok = fun k => w0.heap.size ≤ k := ⟨_, rfl⟩
    rw [← hok] at V3
    clear hok
    generalize w3 = wr at *
    refine wp_region_lists [[12], [13], [14], [15], [16], [17], [18], [19], [20], [21], [22], [23], [24], [25], [2]]
      [fun val _ _ => val 12 = .agg (cs).toArray,
        fun val _ _ => val 13 = .slice A9 t.length c9,
        onO kTState 14 (newT t),
        fun val _ _ => val 15 = .bool true,
        fun val _ _ => val 16 = .bool true,
        fun val _ _ => val 17 = .agg (cs).toArray,
        onO kSState 18 (tview (newT t)),
        fun val _ _ => val 19 = .slice A9 t.length c9,
        onO kSState 20 (newS t),
        fun val _ _ => val 21 = .bool true,
        fun val _ _ => val 22 = .bool true,
        fun val _ _ => val 23 = .bool true,
        fun val _ _ => val 24 = .bool true,
        fun val _ _ => val 25 = .bool true,
        fun val _ _ => val 2 = .bool true]
      [[], [], [], [], [], [], [], [], [], [], [], [], [], [], []] 0 (fun _ => False) (fun _ _ => False) (by kernel_rfl) ⟨by kernel_rfl, by kernel_rfl, by kernel_rfl, by kernel_rfl, by kernel_rfl⟩
      (.cons (stab_val 12 (fun v => v = .agg (cs).toArray)) (.cons (stab_val 13 (fun v => v = .slice A9 t.length c9)) (.cons (stab_O kTState 14 (newT t)) (.cons (stab_val 15 (fun v => v = .bool true)) (.cons (stab_val 16 (fun v => v = .bool true)) (.cons (stab_val 17 (fun v => v = .agg (cs).toArray)) (.cons (stab_O kSState 18 (tview (newT t))) (.cons (stab_val 19 (fun v => v = .slice A9 t.length c9)) (.cons (stab_O kSState 20 (newS t)) (.cons (stab_val 21 (fun v => v = .bool true)) (.cons (stab_val 22 (fun v => v = .bool true)) (.cons (stab_val 23 (fun v => v = .bool true)) (.cons (stab_val 24 (fun v => v = .bool true)) (.cons (stab_val 25 (fun v => v = .bool true)) (.cons (stab_val 2 (fun v => v = .bool true)) .nil)))))))))))))))
      (fun i j k h1 h2 => h1.elim) (fun i k h => h.elim) (fun i h1 h2 => by simp at h1 h2; omega) (.cons ?_ (.cons ?_ (.cons ?_ (.cons ?_ (.cons ?_ (.cons ?_ (.cons ?_ (.cons ?_ (.cons ?_ (.cons ?_ (.cons ?_ (.cons ?_ (.cons ?_ (.cons ?_ (.cons ?_ .nil))))))))))))))) ?_
    · intro a W own hfor huse hap hmi hF K hK
      have e4 : a.eval (.tmp 4) = .pointer (some ⟨bx, 0, none⟩) := hfor 4 (by kernel_rfl)
      have hu_12 := hu
      have hc : ∀ j u, (cs : List Value)[j]? = some u → W.cell? ⟨bx, 0 + j, none⟩ = some u := fun j u h => by rw [Nat.zero_add]; exact foot_cell hF (fun h => h) ((box_at PX.out).2.1 j u (by simpa using h))
      refine step_load (cs := cs) rfl 29 (.tmp 4) rfl e4 hc hu_12 rfl (by rw [cs_len.out]; kernel_rfl) (hK _ _ (post_pure (if_pos rfl)))
    · intro a W own hfor huse hap hmi hF K hK
      have e3 : a.eval (.tmp 3) = .slice A9 t.length c9 := hfor 3 (by kernel_rfl)
      refine op_val (.slice A9 t.length c9) W rfl ?_ (hK _ _ (post_pure ?_))
      · clear hfor huse hap hmi hK hF
        generalize a.eval = ρ at *
        go_simp
      · exact (if_pos rfl)
    · intro a W own hfor huse hap hmi hF K hK
      have e13 : a.eval (.tmp 13) = .slice A9 t.length c9 := huse 1 (by kernel_rfl)
      have efn : a.eval (.func 9) = .func (.func 9) #[] #[] := rfl
      refine op_call (f := 9) (args := #[.slice A9 t.length c9]) (fun v w1 => ∃ c : List Value, v = .agg c.toArray ∧ kTState.O w1 (fun k => W.heap.size ≤ k) (newT t) c ∧ Below W.heap.size W w1) rfl ?_ ?_ (fun v w1 h => ?_)
      · clear hfor huse hap hmi hK hF
        generalize a.eval = ρ at *
        go_simp
      · exact (TrlNew_c _ t ok W (foot_V hF (fun _ _ h => h) V3.out (by decide))).mono (by rintro e w1 ⟨c, rfl, h1, h2⟩; exact ⟨_, rfl, c, rfl, h1, h2⟩)
      · obtain ⟨c, rfl, h1, h2⟩ := h
        exact hK _ _ (post_new h2 ⟨c, if_pos rfl, kTState.O_mono h1 (fun k h3 h4 => ⟨h3, h4⟩)⟩)
    · intro a W own hfor huse hap hmi hF K hK
      have e12 : a.eval (.tmp 12) = .agg (cs).toArray := huse 0 (by kernel_rfl)
      obtain ⟨cs2, e14, r2⟩ := (huse 2 (by kernel_rfl) : onO kTState 14 (newT t) (slotsOf a) (own 2) W)
      have e14 : a.eval (.tmp 14) = .agg cs2.toArray := e14
      have hbw : Below wr.heap.size wr W := hF.below (belD (Below.refl _ _)) (fun k h => h.elim)
      have efn : a.eval (.func 8) = .func (.func 8) #[] #[] := rfl
      refine op_call (f := 8) (args := #[.agg (cs).toArray, .agg cs2.toArray]) (fun v w1 => v = .bool true ∧ Below W.heap.size W w1) rfl ?_ ?_ (fun v w1 h => ?_)
      · clear hfor huse hap hmi hK hF
        generalize a.eval = ρ at *
        go_simp
      · exact (caTrail_c (newT t) (newT_b t).1 (newT_b t).2 cs cs2 _ _ W (Kd.K_below K3.out hbw) (kTState.O_K r2)).mono (by rintro e w1 ⟨rfl, h2⟩; exact ⟨_, rfl, rfl, h2⟩)
      · obtain ⟨rfl, h2⟩ := h
        exact hK _ _ (post_new h2 (if_pos rfl))
    · intro a W own hfor huse hap hmi hF K hK
      have e15 : a.eval (.tmp 15) = .bool true := huse 3 (by kernel_rfl)
      refine op_val (.bool true) W rfl ?_ (hK _ _ (post_pure ?_))
      · clear hfor huse hap hmi hK hF
        generalize a.eval = ρ at *
        go_simp
      · exact (if_pos rfl)
    · intro a W own hfor huse hap hmi hF K hK
      have e4 : a.eval (.tmp 4) = .pointer (some ⟨bx, 0, none⟩) := hfor 4 (by kernel_rfl)
      have e16 : a.eval (.tmp 16) = .bool true := huse 4 (by kernel_rfl)
      have hu_17 := hu
      have hc : ∀ j u, (cs : List Value)[j]? = some u → W.cell? ⟨bx, 0 + j, none⟩ = some u := fun j u h => by rw [Nat.zero_add]; exact foot_cell hF (fun h => h) ((box_at PX.out).2.1 j u (by simpa using h))
      refine gstep_load (cs := cs) (want_yes (j := 4) (b := true) rfl (yield_of (t := 16) rfl rfl e16)) 29 (.tmp 4) rfl e4 hc hu_17 rfl (by rw [cs_len.out]; kernel_rfl) (hK _ _ (post_pure (if_pos rfl)))
    · intro a W own hfor huse hap hmi hF K hK
      have e16 : a.eval (.tmp 16) = .bool true := huse 4 (by kernel_rfl)
      have e17 : a.eval (.tmp 17) = .agg (cs).toArray := huse 5 (by kernel_rfl)
      have hbw : Below wr.heap.size wr W := hF.below (belD (Below.refl _ _)) (fun k h => h.elim)
      have efn : a.eval (.func 11) = .func (.func 11) #[] #[] := rfl
      refine gop_call (f := 11) (args := #[.agg (cs).toArray]) (fun v w1 => ∃ c : List Value, v = .agg c.toArray ∧ kSState.O w1 (fun k => W.heap.size ≤ k) (tview (newT t)) c ∧ Below W.heap.size W w1) (want_yes (j := 4) (b := true) rfl (yield_of (t := 16) rfl rfl e16)) ?_ ?_ (fun v w1 h => ?_)
      · clear hfor huse hap hmi hK hF
        generalize a.eval = ρ at *
        go_simp
      · exact (TrlView_i (newT t) cs _ W (Kd.K_below K3.out hbw)).mono (by rintro e w1 ⟨c, rfl, h1, h2⟩; exact ⟨_, rfl, c, rfl, h1, h2⟩)
      · obtain ⟨c, rfl, h1, h2⟩ := h
        exact hK _ _ (post_new h2 ⟨c, if_pos rfl, kSState.O_mono h1 (fun k h3 h4 => ⟨h3, h4⟩)⟩)
    · intro a W own hfor huse hap hmi hF K hK
      have e3 : a.eval (.tmp 3) = .slice A9 t.length c9 := hfor 3 (by kernel_rfl)
      have e16 : a.eval (.tmp 16) = .bool true := huse 4 (by kernel_rfl)
      refine gop_val (.slice A9 t.length c9) W (want_yes (j := 4) (b := true) rfl (yield_of (t := 16) rfl rfl e16)) ?_ (hK _ _ (post_pure ?_))
      · clear hfor huse hap hmi hK hF
        generalize a.eval = ρ at *
        go_simp
      · exact (if_pos rfl)
    · intro a W own hfor huse hap hmi hF K hK
      have e16 : a.eval (.tmp 16) = .bool true := huse 4 (by kernel_rfl)
      have e19 : a.eval (.tmp 19) = .slice A9 t.length c9 := huse 7 (by kernel_rfl)
      have efn : a.eval (.func 12) = .func (.func 12) #[] #[] := rfl
      refine gop_call (f := 12) (args := #[.slice A9 t.length c9]) (fun v w1 => ∃ c : List Value, v = .agg c.toArray ∧ kSState.O w1 (fun k => W.heap.size ≤ k) (newS t) c ∧ Below W.heap.size W w1) (want_yes (j := 4) (b := true) rfl (yield_of (t := 16) rfl rfl e16)) ?_ ?_ (fun v w1 h => ?_)
      · clear hfor huse hap hmi hK hF
        generalize a.eval = ρ at *
        go_simp
      · exact (SlvNew_i _ t ok W (foot_V hF (fun _ _ h => h) V3.out (by decide))).mono (by rintro e w1 ⟨c, rfl, h1, h2⟩; exact ⟨_, rfl, c, rfl, h1, h2⟩)
      · obtain ⟨c, rfl, h1, h2⟩ := h
        exact hK _ _ (post_new h2 ⟨c, if_pos rfl, kSState.O_mono h1 (fun k h3 h4 => ⟨h3, h4⟩)⟩)
    · intro a W own hfor huse hap hmi hF K hK
      obtain ⟨cs6, e18, r6⟩ := (huse 6 (by kernel_rfl) : onO kSState 18 (tview (newT t)) (slotsOf a) (own 6) W)
      have e18 : a.eval (.tmp 18) = .agg cs6.toArray := e18
      rw [tview_newT] at r6
      obtain ⟨cs8, e20, r8⟩ := (huse 8 (by kernel_rfl) : onO kSState 20 (newS t) (slotsOf a) (own 8) W)
      have e20 : a.eval (.tmp 20) = .agg cs8.toArray := e20
      have e16 : a.eval (.tmp 16) = .bool true := huse 4 (by kernel_rfl)
      have efn : a.eval (.func 10) = .func (.func 10) #[] #[] := rfl
      refine gop_call (f := 10) (args := #[.agg cs6.toArray, .agg cs8.toArray]) (fun v w1 => v = .bool true ∧ Below W.heap.size W w1) (want_yes (j := 4) (b := true) rfl (yield_of (t := 16) rfl rfl e16)) ?_ ?_ (fun v w1 h => ?_)
      · clear hfor huse hap hmi hK hF
        generalize a.eval = ρ at *
        go_simp
      · exact (caSolve_c (newS t) (newS_b t).1 (newS_b t).2 cs6 cs8 _ _ W (kSState.O_K r6) (kSState.O_K r8)).mono (by rintro e w1 ⟨rfl, h2⟩; exact ⟨_, rfl, rfl, h2⟩)
      · obtain ⟨rfl, h2⟩ := h
        exact hK _ _ (post_new h2 (if_pos rfl))
    · intro a W own hfor huse hap hmi hF K hK
      have e16 : a.eval (.tmp 16) = .bool true := huse 4 (by kernel_rfl)
      have e21 : a.eval (.tmp 21) = .bool true := huse 9 (by kernel_rfl)
      have ec : a.eval (.const (.bool false)) = .bool false := rfl
      refine op_val (.bool true) W rfl ?_ (hK _ _ (post_pure ?_))
      · clear hfor huse hap hmi hK hF
        generalize a.eval = ρ at *
        go_simp
      · exact (if_pos rfl)
    · intro a W own hfor huse hap hmi hF K hK
      have e22 : a.eval (.tmp 22) = .bool true := huse 10 (by kernel_rfl)
      refine op_val (.bool true) W rfl ?_ (hK _ _ (post_pure ?_))
      · clear hfor huse hap hmi hK hF
        generalize a.eval = ρ at *
        go_simp
      · exact (if_pos rfl)
    · intro a W own hfor huse hap hmi hF K hK
      have e23 : a.eval (.tmp 23) = .bool true := huse 11 (by kernel_rfl)
      have efn : a.eval (.func 13) = .func (.func 13) #[] #[] := rfl
      refine gop_call (f := 13) (args := #[]) (fun v w1 => v = .bool true ∧ Below W.heap.size W w1) (want_yes (j := 11) (b := true) rfl (yield_of (t := 23) rfl rfl e23)) ?_ ?_ (fun v w1 h => ?_)
      · clear hfor huse hap hmi hK hF
        generalize a.eval = ρ at *
        go_simp
      · exact (caOk_c W).mono (by rintro e w1 ⟨rfl, h2⟩; exact ⟨_, rfl, rfl, h2⟩)
      · obtain ⟨rfl, h2⟩ := h
        exact hK _ _ (post_new h2 (if_pos rfl))
    · intro a W own hfor huse hap hmi hF K hK
      have e23 : a.eval (.tmp 23) = .bool true := huse 11 (by kernel_rfl)
      have e24 : a.eval (.tmp 24) = .bool true := huse 12 (by kernel_rfl)
      have ec : a.eval (.const (.bool false)) = .bool false := rfl
      refine op_val (.bool true) W rfl ?_ (hK _ _ (post_pure ?_))
      · clear hfor huse hap hmi hK hF
        generalize a.eval = ρ at *
        go_simp
      · exact (if_pos rfl)
    · intro a W own hfor huse hap hmi hF K hK
      have e25 : a.eval (.tmp 25) = .bool true := huse 13 (by kernel_rfl)
      refine op_val (.bool true) W rfl ?_ (hK _ _ (post_pure ?_))
      · clear hfor huse hap hmi hK hF
        generalize a.eval = ρ at *
        go_simp
      · exact (if_pos rfl)
    intro a' W own hf
    have hsz := hf.st.size
    have hdf := hf.st.rest
    obtain ⟨⟨l⟩, df⟩ := a'
    have hl0 : l.length = 26 := hsz
    clear hsz
    obtain rfl : df = [] := hdf
    obtain ⟨x0, l0, rfl, hl1⟩ := lst_cons hl0
    clear hl0
    obtain ⟨x1, l1, rfl, hl2⟩ := lst_cons hl1
    clear hl1
    obtain ⟨x2, l2, rfl, hl3⟩ := lst_cons hl2
    clear hl2
    obtain ⟨x3, l3, rfl, hl4⟩ := lst_cons hl3
    clear hl3
    obtain ⟨x4, l4, rfl, hl5⟩ := lst_cons hl4
    clear hl4
    obtain ⟨x5, l5, rfl, hl6⟩ := lst_cons hl5
    clear hl5
    obtain ⟨x6, l6, rfl, hl7⟩ := lst_cons hl6
    clear hl6
    obtain ⟨x7, l7, rfl, hl8⟩ := lst_cons hl7
    clear hl7
    obtain ⟨x8, l8, rfl, hl9⟩ := lst_cons hl8
    clear hl8
    obtain ⟨x9, l9, rfl, hl10⟩ := lst_cons hl9
    clear hl9
    obtain ⟨x10, l10, rfl, hl11⟩ := lst_cons hl10
    clear hl10
    obtain ⟨x11, l11, rfl, hl12⟩ := lst_cons hl11
    clear hl11
    obtain ⟨x12, l12, rfl, hl13⟩ := lst_cons hl12
    clear hl12
    obtain ⟨x13, l13, rfl, hl14⟩ := lst_cons hl13
    clear hl13
    obtain ⟨x14, l14, rfl, hl15⟩ := lst_cons hl14
    clear hl14
    obtain ⟨x15, l15, rfl, hl16⟩ := lst_cons hl15
    clear hl15
    obtain ⟨x16, l16, rfl, hl17⟩ := lst_cons hl16
    clear hl16
    obtain ⟨x17, l17, rfl, hl18⟩ := lst_cons hl17
    clear hl17
    obtain ⟨x18, l18, rfl, hl19⟩ := lst_cons hl18
    clear hl18
    obtain ⟨x19, l19, rfl, hl20⟩ := lst_cons hl19
    clear hl19
    obtain ⟨x20, l20, rfl, hl21⟩ := lst_cons hl20
    clear hl20
    obtain ⟨x21, l21, rfl, hl22⟩ := lst_cons hl21
    clear hl21
    obtain ⟨x22, l22, rfl, hl23⟩ := lst_cons hl22
    clear hl22
    obtain ⟨x23, l23, rfl, hl24⟩ := lst_cons hl23
    clear hl23
    obtain ⟨x24, l24, rfl, hl25⟩ := lst_cons hl24
    clear hl24
    obtain ⟨x25, l25, rfl, hl26⟩ := lst_cons hl25
    clear hl25
    obtain rfl := List.eq_nil_of_length_eq_zero hl26
    have e0 := hf.st.kept 0 (by kernel_rfl)
    simp only [slotsOf, Act.eval, Array.getD_eq_getD_getElem?, List.getElem?_toArray, List.getElem?_cons_zero, Option.getD_some] at e0
    subst e0
    have e1 := hf.st.kept 1 (by kernel_rfl)
    simp only [slotsOf, Act.eval, Array.getD_eq_getD_getElem?, List.getElem?_toArray, List.getElem?_cons_succ, List.getElem?_cons_zero, Option.getD_some] at e1
    subst e1
    have e3 := hf.st.kept 3 (by kernel_rfl)
    simp only [slotsOf, Act.eval, Array.getD_eq_getD_getElem?, List.getElem?_toArray, List.getElem?_cons_succ, List.getElem?_cons_zero, Option.getD_some] at e3
    subst e3
    have e4 := hf.st.kept 4 (by kernel_rfl)
    simp only [slotsOf, Act.eval, Array.getD_eq_getD_getElem?, List.getElem?_toArray, List.getElem?_cons_succ, List.getElem?_cons_zero, Option.getD_some] at e4
    subst e4
    have e5 := hf.st.kept 5 (by kernel_rfl)
    simp only [slotsOf, Act.eval, Array.getD_eq_getD_getElem?, List.getElem?_toArray, List.getElem?_cons_succ, List.getElem?_cons_zero, Option.getD_some] at e5
    subst e5
    have e6 := hf.st.kept 6 (by kernel_rfl)
    simp only [slotsOf, Act.eval, Array.getD_eq_getD_getElem?, List.getElem?_toArray, List.getElem?_cons_succ, List.getElem?_cons_zero, Option.getD_some] at e6
    subst e6
    have e7 := hf.st.kept 7 (by kernel_rfl)
    simp only [slotsOf, Act.eval, Array.getD_eq_getD_getElem?, List.getElem?_toArray, List.getElem?_cons_succ, List.getElem?_cons_zero, Option.getD_some] at e7
    subst e7
    have e8 := hf.st.kept 8 (by kernel_rfl)
    simp only [slotsOf, Act.eval, Array.getD_eq_getD_getElem?, List.getElem?_toArray, List.getElem?_cons_succ, List.getElem?_cons_zero, Option.getD_some] at e8
    subst e8
    have e9 := hf.st.kept 9 (by kernel_rfl)
    simp only [slotsOf, Act.eval, Array.getD_eq_getD_getElem?, List.getElem?_toArray, List.getElem?_cons_succ, List.getElem?_cons_zero, Option.getD_some] at e9
    subst e9
    have e10 := hf.st.kept 10 (by kernel_rfl)
    simp only [slotsOf, Act.eval, Array.getD_eq_getD_getElem?, List.getElem?_toArray, List.getElem?_cons_succ, List.getElem?_cons_zero, Option.getD_some] at e10
    subst e10
    have e11 := hf.st.kept 11 (by kernel_rfl)
    simp only [slotsOf, Act.eval, Array.getD_eq_getD_getElem?, List.getElem?_toArray, List.getElem?_cons_succ, List.getElem?_cons_zero, Option.getD_some] at e11
    subst e11
    have e2 : x2 = .bool true := hf.at 14 (fun val _ _ => val 2 = .bool true) rfl (by kernel_rfl)
    subst e2
    have B4 := Sec.mk (hf.st.foot.below (belD B3.out) (fun k h => h.elim))
    clear hf
    go_wp2
    go_ret
    exact ⟨rfl, B4.out⟩
  · have ql : decide ((len : Int) > 1048576) = true := decide_eq_true (by omega)
    go_enter Tryd.func3, Tryd.ntmps3
    go_wp2
    go_ret
    exact ⟨rfl, Below.refl _ _⟩
end Go.Proofs.YtenigopoknajgaaDoor
