/- FnExactPrgAlone: what it does, whatever it is given: it returns true. -/
import Derived.Test.YtenigopoknajgaaGreatDoorAlone
import Derived.Test.YtenigopoknajgaaGreatDoorXProg
namespace Go.Proofs.YtenigopoknajgaaGreatDoor
open Go.RowKit
set_option linter.unusedVariables false
set_option maxRecDepth 100000
theorem carry {S : Nat → Prop} {w W : World} {b : Nat} {o : Obj} (h : Foot S w W) (hb : w.heap[b]? = some o) (hS : ¬ S b) : W.heap[b]? = some o := (h.block b (Array.getElem?_eq_some_iff.1 hb).1 hS).trans hb
theorem carryB {w W : World} {b : Nat} {o : Obj} (h : Below w.heap.size w W) (hb : w.heap[b]? = some o) : W.heap[b]? = some o := (h.block b (Array.getElem?_eq_some_iff.1 hb).1).trans hb
/-- Between two numbers. -/
def Rg (a b : Nat) (k : Nat) : Prop := a ≤ k ∧ k < b
theorem tru_ {α : Type} [DecidableEq α] (t : α) : decide (t = t) = true := decide_eq_true rfl
theorem alone_cnt (s : Prog) : mProgt.cnt (aloneP s) ≤ mProgt.cnt s := by
  rw [mProgt_cnt, mProgt_cnt]
  unfold aloneP
  split
  · have h : mPlace.cnts [] = 0 := rfl
    simp only [h]; omega
  · have h : mPlace.cnts [] = 0 := rfl
    have h2 : mClause.cnts [] = 0 := rfl
    simp only [h, h2]; omega
theorem rProg_len {w : World} {s : Prog} {cs : List Value} (h : rProg.K w s cs) : cs.length = 2 := by
  obtain ⟨v0, v1, rfl, -, -⟩ := rProg_K h
  rfl
set_option maxHeartbeats 8000000 in
theorem FnExactPrgAlone_law_c (s : Prog) (cs : List Value) (w0 : World) (hK : rProg.K w0 s cs) :
    Calls Tryz.prog 3 #[.agg cs.toArray] w0 fun e w' => e = .returned (.bool true) ∧ Below w0.heap.size w0 w' := by
  have hA := rProg_fits.2 w0 s cs hK
  have P_len : Sec (cs.length = 2) := ⟨by by_cases h : 0 ≤ 1; exact rProg_len hK; omega⟩
  have hu := Tryz.underlying25
  have hu2 := Tryz.underlying30
  have hu3 := Tryz.underlying30
  obtain ⟨w, hw⟩ : ∃ w, w = w0.alloc (.cells cs.toArray 25) := ⟨_, rfl⟩
  have WW := Sec.mk hw
  have WB := belA (Below.refl w0.heap.size w0) (.cells cs.toArray 25)
  have P_0 : Sec (w.heap[w0.heap.size]? = some (.cells cs.toArray 25 (0, 0))) := ⟨by rw [hw]; exact heap_alloc_new w0 _⟩
  have RV : Sec (rProg.K w s cs) := ⟨by rw [hw]; exact rProg_mono _ _ _ _ WB hK⟩
  rw [← hw] at WB
  have WBS := Sec.mk WB
  have Zp : Sec (w0.heap.size < w.heap.size) := ⟨by rw [hw]; simp⟩
  clear hw
  by_cases hbud : rProg.wt s ≤ 1048576
  · have AV := Sec.mk (Kd.K_below (hA (by omega)) WB)
    have HL : Sec (1 + mProgt.cnt (aloneP s) ≤ 100000000000000000) := ⟨by have h1 := alone_cnt s; have h2 := rProg_tle s; omega⟩
    have HC : Sec (1 + mProgt.cnt s ≤ 100000000000) := ⟨by have := rProg_tle s; omega⟩
    have hsp := Raw.spent_le hbud
    generalize 1048576 - rProg.wt s = l at hsp
    have hl0 : ¬ ((l : Int) < 0) := by omega
    clear hbud hA hK WB
    generalize hbp : w0.heap.size = bp at *
    have T0 : Sec True := ⟨trivial⟩
    go_enter Tryz.func3, Tryz.ntmps3
    go_wp2_with (first | (clear T8; go_at_call 8; have T9 : Sec True := ⟨trivial⟩; refine (eqPrgProg_c (aloneP s) (aloneP s) cg cu _ _ _ (kProg.O_K G_8.out) (kProg.O_K U_8.out)).mono ?_; rintro e w9 ⟨rfl, hb⟩; rw [tru_]; have Z9 := Sec.mk hb.size; have B_9 := Sec.mk (bel B_8.out hb); have P_9 := Sec.mk (carryB hb P_8.out); have U_9 := Sec.mk (Kd.O_below U_8.out hb); have BU_9 := Sec.mk (carryB hb BU_8.out); have X_9 := Sec.mk (Kd.O_below X_8.out hb); have BX_9 := Sec.mk (carryB hb BX_8.out); have G_9 := Sec.mk (Kd.O_below G_8.out hb); have BG_9 := Sec.mk (carryB hb BG_8.out); clear hb) | (with_reducible show wpList _ _ _ (⟨some 24, .load 30 (.tmp 4), _, _, _, _⟩ :: _) _ _; refine wpList_load (cs := cu) (by first | rfl | (simp [Region.wanted, yielded, Act.put]; done) | (simp [Region.wanted, yielded, Act.put]; omega)) 30 (.tmp 4) rfl rfl BU_8.out hu3 rfl (by rw [cu_len.out]; kernel_rfl) ?_) | (with_reducible show wpList _ _ _ (⟨some 23, .load 30 (.tmp 6), _, _, _, _⟩ :: _) _ _; refine wpList_load (cs := cg) (by first | rfl | (simp [Region.wanted, yielded, Act.put]; done) | (simp [Region.wanted, yielded, Act.put]; omega)) 30 (.tmp 6) rfl rfl BG_8.out hu3 rfl (by rw [cg_len.out]; kernel_rfl) ?_) | (clear T7; with_reducible show wpList _ _ _ (⟨none, .store 30 (.tmp 6) (.tmp 22), _, _, _, _⟩ :: _) _ _; have T8 : Sec True := ⟨trivial⟩; refine wpList_store (cs := cg) (old := #[.slice none 0 0, .slice none 0 0]) rfl 30 (.tmp 6) (.tmp 22) rfl rfl rfl (heap_alloc_new w7 _) (by rw [cg_len.out]; kernel_rfl) (by rw [cg_len.out]; kernel_rfl) (kProg.K_one (kProg.O_K G_7.out)) ?_; intro w8 hb' hF'; have ZS8 : Sec (w7.heap.size < w8.heap.size) := ⟨(Array.getElem?_eq_some_iff.1 hb').1⟩; have hb : Below w7.heap.size w7 w8 := hF'.below (belA (Below.refl _ _) _) (fun k h => Nat.le_of_eq (show k = w7.heap.size from h).symm); have Z8 := Sec.mk hb.size; have BG_8 : Sec (w8.heap[w7.heap.size]? = some (.cells (cg).toArray 30 (0, 0))) := ⟨hb'⟩; have B_8 := Sec.mk (bel B_7.out hb); have P_8 := Sec.mk (carryB hb P_7.out); have U_8 := Sec.mk (Kd.O_below U_7.out hb); have BU_8 := Sec.mk (carryB hb BU_7.out); have X_8 := Sec.mk (Kd.O_below X_7.out hb); have BX_8 := Sec.mk (carryB hb BX_7.out); have G_8 := Sec.mk (Kd.O_below G_7.out hb); clear hb hb' hF') | (clear T6; go_at_call 7; have T7 : Sec True := ⟨trivial⟩; refine (PrgAlone_i s _ _ _ (kProg.O_K X_6.out)).mono ?_; rintro e w7 ⟨cg, rfl, hO, hb⟩; have cg_len := Sec.mk (kProg.K_len (kProg.O_K hO)); have Z7 := Sec.mk hb.size; have G_7 : Sec (kProg.O w7 (Rg w6.heap.size w7.heap.size) (aloneP s) cg) := ⟨Kd.O_mono hO (fun k h1 h2 => ⟨h1, h2⟩)⟩; have B_7 := Sec.mk (bel B_6.out hb); have P_7 := Sec.mk (carryB hb P_6.out); have U_7 := Sec.mk (Kd.O_below U_6.out hb); have BU_7 := Sec.mk (carryB hb BU_6.out); have X_7 := Sec.mk (Kd.O_below X_6.out hb); have BX_7 := Sec.mk (carryB hb BX_6.out); clear hb hO) | (with_reducible show wpList _ _ _ (⟨some 21, .load 30 (.tmp 5), _, _, _, _⟩ :: _) _ _; refine wpList_load (cs := cx) (by first | rfl | (simp [Region.wanted, yielded, Act.put]; done) | (simp [Region.wanted, yielded, Act.put]; omega)) 30 (.tmp 5) rfl rfl BX_6.out hu2 rfl (by rw [cx_len.out]; kernel_rfl) ?_) | (clear T5; with_reducible show wpList _ _ _ (⟨none, .store 30 (.tmp 5) (.tmp 20), _, _, _, _⟩ :: _) _ _; have T6 : Sec True := ⟨trivial⟩; refine wpList_store (cs := cx) (old := #[.slice none 0 0, .slice none 0 0]) rfl 30 (.tmp 5) (.tmp 20) rfl rfl rfl (heap_alloc_new w5 _) (by rw [cx_len.out]; kernel_rfl) (by rw [cx_len.out]; kernel_rfl) (kProg.K_one (kProg.O_K X_5.out)) ?_; intro w6 hb' hF'; have ZS6 : Sec (w5.heap.size < w6.heap.size) := ⟨(Array.getElem?_eq_some_iff.1 hb').1⟩; have hb : Below w5.heap.size w5 w6 := hF'.below (belA (Below.refl _ _) _) (fun k h => Nat.le_of_eq (show k = w5.heap.size from h).symm); have Z6 := Sec.mk hb.size; have BX_6 : Sec (w6.heap[w5.heap.size]? = some (.cells (cx).toArray 30 (0, 0))) := ⟨hb'⟩; have B_6 := Sec.mk (bel B_5.out hb); have P_6 := Sec.mk (carryB hb P_5.out); have U_6 := Sec.mk (Kd.O_below U_5.out hb); have BU_6 := Sec.mk (carryB hb BU_5.out); have X_6 := Sec.mk (Kd.O_below X_5.out hb); clear hb hb' hF') | (clear T4; go_at_call 6; have T5 : Sec True := ⟨trivial⟩; refine (toPrgProg_c s cs _ _ (Kd.K_below AV.out B_4.out)).mono ?_; rintro e w5 ⟨cx, rfl, hO, hb⟩; have cx_len := Sec.mk (kProg.K_len (kProg.O_K hO)); have Z5 := Sec.mk hb.size; have X_5 : Sec (kProg.O w5 (Rg w4.heap.size w5.heap.size) s cx) := ⟨Kd.O_mono hO (fun k h1 h2 => ⟨h1, h2⟩)⟩; have B_5 := Sec.mk (bel B_4.out hb); have P_5 := Sec.mk (carryB hb P_4.out); have U_5 := Sec.mk (Kd.O_below U_4.out hb); have BU_5 := Sec.mk (carryB hb BU_4.out); clear hb hO) | (with_reducible show wpList _ _ _ (⟨some 19, .load 25 (.tmp 1), _, _, _, _⟩ :: _) _ _; refine wpList_load (cs := cs) (by first | rfl | (simp [Region.wanted, yielded, Act.put]; done) | (simp [Region.wanted, yielded, Act.put]; omega)) 25 (.tmp 1) rfl rfl P_4.out hu rfl (by rw [P_len.out]; kernel_rfl) ?_) | (clear T3; with_reducible show wpList _ _ _ (⟨none, .store 30 (.tmp 4) (.tmp 18), _, _, _, _⟩ :: _) _ _; have T4 : Sec True := ⟨trivial⟩; refine wpList_store (cs := cu) (old := #[.slice none 0 0, .slice none 0 0]) rfl 30 (.tmp 4) (.tmp 18) rfl rfl rfl (heap_alloc_new w3 _) (by rw [cu_len.out]; kernel_rfl) (by rw [cu_len.out]; kernel_rfl) (kProg.K_one (kProg.O_K U_3.out)) ?_; intro w4 hb' hF'; have ZS4 : Sec (w3.heap.size < w4.heap.size) := ⟨(Array.getElem?_eq_some_iff.1 hb').1⟩; have hb : Below w3.heap.size w3 w4 := hF'.below (belA (Below.refl _ _) _) (fun k h => Nat.le_of_eq (show k = w3.heap.size from h).symm); have Z4 := Sec.mk hb.size; have BU_4 : Sec (w4.heap[w3.heap.size]? = some (.cells (cu).toArray 30 (0, 0))) := ⟨hb'⟩; have B_4 := Sec.mk (bel B_3.out hb); have P_4 := Sec.mk (carryB hb P_3.out); have U_4 := Sec.mk (Kd.O_below U_3.out hb); clear hb hb' hF') | (clear T2; go_at_call 5; have T3 : Sec True := ⟨trivial⟩; refine (PrgAlone_c s _ _ _ (kProg.O_K Y_2.out)).mono ?_; rintro e w3 ⟨cu, rfl, hO, hb⟩; have cu_len := Sec.mk (kProg.K_len (kProg.O_K hO)); have Z3 := Sec.mk hb.size; have U_3 : Sec (kProg.O w3 (Rg w2.heap.size w3.heap.size) (aloneP s) cu) := ⟨Kd.O_mono hO (fun k h1 h2 => ⟨h1, h2⟩)⟩; have B_3 := Sec.mk (bel B_2.out hb); have P_3 := Sec.mk (carryB hb P_2.out); clear hb hO) | (clear T1; go_at_call 6; have T2 : Sec True := ⟨trivial⟩; refine (toPrgProg_c s cs _ _ (Kd.K_below AV.out B_1.out)).mono ?_; rintro e w2 ⟨cy, rfl, hO, hb⟩; have cy_len := Sec.mk (kProg.K_len (kProg.O_K hO)); have Z2 := Sec.mk hb.size; have Y_2 : Sec (kProg.O w2 (Rg w1.heap.size w2.heap.size) s cy) := ⟨Kd.O_mono hO (fun k h1 h2 => ⟨h1, h2⟩)⟩; have B_2 := Sec.mk (bel B_1.out hb); have P_2 := Sec.mk (carryB hb P_1.out); clear hb hO) | (with_reducible show wpList _ _ _ (⟨some 16, .load 25 (.tmp 1), _, _, _, _⟩ :: _) _ _; refine wpList_load (cs := cs) (by first | rfl | (simp [Region.wanted, yielded, Act.put]; done) | (simp [Region.wanted, yielded, Act.put]; omega)) 25 (.tmp 1) rfl rfl P_1.out hu rfl (by rw [P_len.out]; kernel_rfl) ?_) | (clear T0; go_at_call 4; have T1 : Sec True := ⟨trivial⟩; refine (szPrgProg_c s cs 1048576 (Nat.le_refl _) _ RV.out).mono ?_; rintro e w1 ⟨rfl, hb⟩; rw [hsp]; have Z1 := Sec.mk hb.size; have B_1 := Sec.mk (bel (Below.refl w.heap.size w) hb); have P_1 := Sec.mk (carryB hb P_0.out); clear hb) | (with_reducible show wpList _ _ _ (⟨some 11, .load 25 (.tmp 1), _, _, _, _⟩ :: _) _ _; rw [← WW.out]; refine wpList_load (cs := cs) (by first | rfl | (simp [Region.wanted, yielded, Act.put]; done) | (simp [Region.wanted, yielded, Act.put]; omega)) 25 (.tmp 1) rfl rfl P_0.out hu rfl (by rw [P_len.out]; kernel_rfl) ?_))
    have RP := P_9
    have RBX := BX_9
    have RB := B_9
    have RX := X_9
    refine wp_region_lists [[27], [28], [29], [30], [31]]
      [fun val _ _ => val 27 = .agg (cx).toArray,
        fun val _ _ => val 28 = .agg (cs).toArray,
        onO kProg 29 s,
        fun val _ _ => val 30 = .bool true,
        fun val _ _ => val 31 = .bool false]
      [[], [], [], [2], []] 0 (fun _ => False) (fun _ _ => False) (by kernel_rfl) ⟨by kernel_rfl, by kernel_rfl, by kernel_rfl, by kernel_rfl, by kernel_rfl⟩
      (.cons (stab_val 27 (fun v => v = .agg (cx).toArray)) (.cons (stab_val 28 (fun v => v = .agg (cs).toArray)) (.cons (stab_O kProg 29 s) (.cons (stab_val 30 (fun v => v = .bool true)) (.cons (stab_val 31 (fun v => v = .bool false)) .nil)))))
      (fun i j k h1 h2 => h1.elim) (fun i k h => h.elim) (fun i h1 h2 => by simp at h1 h2; omega) (.cons ?_ (.cons ?_ (.cons ?_ (.cons ?_ (.cons ?_ .nil))))) ?_
    · intro a W own hfor huse hap hmi hF K hK
      have e5 : a.eval (.tmp 5) = .pointer (some ⟨w5.heap.size, 0, none⟩) := hfor 5 (by kernel_rfl)
      have hu_27 := hu2
      have hc : ∀ j u, (cx : List Value)[j]? = some u → W.cell? ⟨w5.heap.size, 0 + j, none⟩ = some u := fun j u h => by rw [Nat.zero_add]; exact foot_cell hF (fun h => h) ((box_at RBX.out).2.1 j u (by simpa using h))
      refine step_load (cs := cx) rfl 30 (.tmp 5) rfl e5 hc hu_27 rfl (by rw [cx_len.out]; kernel_rfl) (hK _ _ (post_pure (if_pos rfl)))
    · intro a W own hfor huse hap hmi hF K hK
      have e1 : a.eval (.tmp 1) = .pointer (some ⟨bp, 0, none⟩) := hfor 1 (by kernel_rfl)
      have hu_28 := hu
      have hc : ∀ j u, (cs : List Value)[j]? = some u → W.cell? ⟨bp, 0 + j, none⟩ = some u := fun j u h => by rw [Nat.zero_add]; exact foot_cell hF (fun h => h) ((box_at RP.out).2.1 j u (by simpa using h))
      refine step_load (cs := cs) rfl 25 (.tmp 1) rfl e1 hc hu_28 rfl (by rw [P_len.out]; kernel_rfl) (hK _ _ (post_pure (if_pos rfl)))
    · intro a W own hfor huse hap hmi hF K hK
      have e28 : a.eval (.tmp 28) = .agg (cs).toArray := huse 1 (by kernel_rfl)
      have hbw : Below w.heap.size w W := hF.below (belD RB.out) (fun k h => h.elim)
      have efn : a.eval (.func 6) = .func (.func 6) #[] #[] := rfl
      refine op_call (f := 6) (args := #[.agg (cs).toArray]) (fun v w1 => ∃ c : List Value, v = .agg c.toArray ∧ kProg.O w1 (fun k => W.heap.size ≤ k) s c ∧ Below W.heap.size W w1) rfl ?_ ?_ (fun v w1 h => ?_)
      · clear hfor huse hap hmi hK hF
        generalize a.eval = ρ at *
        go_simp
      · exact (toPrgProg_c s cs _ W (Kd.K_below AV.out hbw)).mono (by rintro e w1 ⟨c, rfl, h1, h2⟩; exact ⟨_, rfl, c, rfl, h1, h2⟩)
      · obtain ⟨c, rfl, h1, h2⟩ := h
        exact hK _ _ (post_new h2 ⟨c, if_pos rfl, kProg.O_mono h1 (fun k h3 h4 => ⟨h3, h4⟩)⟩)
    · intro a W own hfor huse hap hmi hF K hK
      obtain ⟨cs2, e29, r2⟩ := (huse 2 (by kernel_rfl) : onO kProg 29 s (slotsOf a) (own 2) W)
      have e29 : a.eval (.tmp 29) = .agg cs2.toArray := e29
      have e27 : a.eval (.tmp 27) = .agg (cx).toArray := huse 0 (by kernel_rfl)
      have efn : a.eval (.func 8) = .func (.func 8) #[] #[] := rfl
      have hbw : Below w9.heap.size w9 W := hF.below (belD (Below.refl _ _)) (fun k h => h.elim)
      refine op_call (f := 8) (args := #[.agg (cx).toArray, .agg cs2.toArray]) (fun v w1 => v = .bool true ∧ Below W.heap.size W w1) rfl ?_ ?_ (fun v w1 h => ?_)
      · clear hfor huse hap hmi hK hF
        generalize a.eval = ρ at *
        go_simp
      · exact (eqPrgProg_c s s cx cs2 _ _ W (kProg.O_K (Kd.O_below RX.out hbw)) (kProg.O_K r2)).mono (by rintro e w1 ⟨rfl, h2⟩; rw [tru_]; exact ⟨_, rfl, rfl, h2⟩)
      · obtain ⟨rfl, h2⟩ := h
        exact hK _ _ ⟨fun k => own 2 k, Foot.of_below h2, if_pos rfl, fun k h => .inl ⟨2, by decide, h⟩⟩
    · intro a W own hfor huse hap hmi hF K hK
      have e30 : a.eval (.tmp 30) = .bool true := huse 3 (by kernel_rfl)
      refine op_val (.bool false) W rfl ?_ (hK _ _ (post_pure ?_))
      · clear hfor huse hap hmi hK hF
        generalize a.eval = ρ at *
        go_simp
      · exact (if_pos rfl)
    intro a' w10 own hf
    have hsz := hf.st.size
    have hdf := hf.st.rest
    obtain ⟨⟨l⟩, df⟩ := a'
    have hl0 : l.length = 69 := hsz
    clear hsz
    obtain rfl : df = [] := hdf
    obtain ⟨x0, l0, rfl, hl1⟩ := lst_cons hl0
    clear hl0
    obtain ⟨x1, l1, rfl, hl2⟩ := lst_cons hl1
    clear hl1
    obtain ⟨x2, l2, rfl, hl3⟩ := lst_cons hl2
    clear hl2
    obtain ⟨x3, l3, rfl, hl4⟩ := lst_cons hl3
    clear hl3
    obtain ⟨x4, l4, rfl, hl5⟩ := lst_cons hl4
    clear hl4
    obtain ⟨x5, l5, rfl, hl6⟩ := lst_cons hl5
    clear hl5
    obtain ⟨x6, l6, rfl, hl7⟩ := lst_cons hl6
    clear hl6
    obtain ⟨x7, l7, rfl, hl8⟩ := lst_cons hl7
    clear hl7
    obtain ⟨x8, l8, rfl, hl9⟩ := lst_cons hl8
    clear hl8
    obtain ⟨x9, l9, rfl, hl10⟩ := lst_cons hl9
    clear hl9
    obtain ⟨x10, l10, rfl, hl11⟩ := lst_cons hl10
    clear hl10
    obtain ⟨x11, l11, rfl, hl12⟩ := lst_cons hl11
    clear hl11
    obtain ⟨x12, l12, rfl, hl13⟩ := lst_cons hl12
    clear hl12
    obtain ⟨x13, l13, rfl, hl14⟩ := lst_cons hl13
    clear hl13
    obtain ⟨x14, l14, rfl, hl15⟩ := lst_cons hl14
    clear hl14
    obtain ⟨x15, l15, rfl, hl16⟩ := lst_cons hl15
    clear hl15
    obtain ⟨x16, l16, rfl, hl17⟩ := lst_cons hl16
    clear hl16
    obtain ⟨x17, l17, rfl, hl18⟩ := lst_cons hl17
    clear hl17
    obtain ⟨x18, l18, rfl, hl19⟩ := lst_cons hl18
    clear hl18
    obtain ⟨x19, l19, rfl, hl20⟩ := lst_cons hl19
    clear hl19
    obtain ⟨x20, l20, rfl, hl21⟩ := lst_cons hl20
    clear hl20
    obtain ⟨x21, l21, rfl, hl22⟩ := lst_cons hl21
    clear hl21
    obtain ⟨x22, l22, rfl, hl23⟩ := lst_cons hl22
    clear hl22
    obtain ⟨x23, l23, rfl, hl24⟩ := lst_cons hl23
    clear hl23
    obtain ⟨x24, l24, rfl, hl25⟩ := lst_cons hl24
    clear hl24
    obtain ⟨x25, l25, rfl, hl26⟩ := lst_cons hl25
    clear hl25
    obtain ⟨x26, l26, rfl, hl27⟩ := lst_cons hl26
    clear hl26
    obtain ⟨x27, l27, rfl, hl28⟩ := lst_cons hl27
    clear hl27
    obtain ⟨x28, l28, rfl, hl29⟩ := lst_cons hl28
    clear hl28
    obtain ⟨x29, l29, rfl, hl30⟩ := lst_cons hl29
    clear hl29
    obtain ⟨x30, l30, rfl, hl31⟩ := lst_cons hl30
    clear hl30
    obtain ⟨x31, l31, rfl, hl32⟩ := lst_cons hl31
    clear hl31
    obtain ⟨x32, l32, rfl, hl33⟩ := lst_cons hl32
    clear hl32
    obtain ⟨x33, l33, rfl, hl34⟩ := lst_cons hl33
    clear hl33
    obtain ⟨x34, l34, rfl, hl35⟩ := lst_cons hl34
    clear hl34
    obtain ⟨x35, l35, rfl, hl36⟩ := lst_cons hl35
    clear hl35
    obtain ⟨x36, l36, rfl, hl37⟩ := lst_cons hl36
    clear hl36
    obtain ⟨x37, l37, rfl, hl38⟩ := lst_cons hl37
    clear hl37
    obtain ⟨x38, l38, rfl, hl39⟩ := lst_cons hl38
    clear hl38
    obtain ⟨x39, l39, rfl, hl40⟩ := lst_cons hl39
    clear hl39
    obtain ⟨x40, l40, rfl, hl41⟩ := lst_cons hl40
    clear hl40
    obtain ⟨x41, l41, rfl, hl42⟩ := lst_cons hl41
    clear hl41
    obtain ⟨x42, l42, rfl, hl43⟩ := lst_cons hl42
    clear hl42
    obtain ⟨x43, l43, rfl, hl44⟩ := lst_cons hl43
    clear hl43
    obtain ⟨x44, l44, rfl, hl45⟩ := lst_cons hl44
    clear hl44
    obtain ⟨x45, l45, rfl, hl46⟩ := lst_cons hl45
    clear hl45
    obtain ⟨x46, l46, rfl, hl47⟩ := lst_cons hl46
    clear hl46
    obtain ⟨x47, l47, rfl, hl48⟩ := lst_cons hl47
    clear hl47
    obtain ⟨x48, l48, rfl, hl49⟩ := lst_cons hl48
    clear hl48
    obtain ⟨x49, l49, rfl, hl50⟩ := lst_cons hl49
    clear hl49
    obtain ⟨x50, l50, rfl, hl51⟩ := lst_cons hl50
    clear hl50
    obtain ⟨x51, l51, rfl, hl52⟩ := lst_cons hl51
    clear hl51
    obtain ⟨x52, l52, rfl, hl53⟩ := lst_cons hl52
    clear hl52
    obtain ⟨x53, l53, rfl, hl54⟩ := lst_cons hl53
    clear hl53
    obtain ⟨x54, l54, rfl, hl55⟩ := lst_cons hl54
    clear hl54
    obtain ⟨x55, l55, rfl, hl56⟩ := lst_cons hl55
    clear hl55
    obtain ⟨x56, l56, rfl, hl57⟩ := lst_cons hl56
    clear hl56
    obtain ⟨x57, l57, rfl, hl58⟩ := lst_cons hl57
    clear hl57
    obtain ⟨x58, l58, rfl, hl59⟩ := lst_cons hl58
    clear hl58
    obtain ⟨x59, l59, rfl, hl60⟩ := lst_cons hl59
    clear hl59
    obtain ⟨x60, l60, rfl, hl61⟩ := lst_cons hl60
    clear hl60
    obtain ⟨x61, l61, rfl, hl62⟩ := lst_cons hl61
    clear hl61
    obtain ⟨x62, l62, rfl, hl63⟩ := lst_cons hl62
    clear hl62
    obtain ⟨x63, l63, rfl, hl64⟩ := lst_cons hl63
    clear hl63
    obtain ⟨x64, l64, rfl, hl65⟩ := lst_cons hl64
    clear hl64
    obtain ⟨x65, l65, rfl, hl66⟩ := lst_cons hl65
    clear hl65
    obtain ⟨x66, l66, rfl, hl67⟩ := lst_cons hl66
    clear hl66
    obtain ⟨x67, l67, rfl, hl68⟩ := lst_cons hl67
    clear hl67
    obtain ⟨x68, l68, rfl, hl69⟩ := lst_cons hl68
    clear hl68
    obtain rfl := List.eq_nil_of_length_eq_zero hl69
    have e0 := hf.st.kept 0 (by kernel_rfl)
    simp only [slotsOf, Act.eval, Array.getD_eq_getD_getElem?, List.getElem?_toArray, List.getElem?_cons_succ, List.getElem?_cons_zero, Option.getD_some] at e0
    subst e0
    have e1 := hf.st.kept 1 (by kernel_rfl)
    simp only [slotsOf, Act.eval, Array.getD_eq_getD_getElem?, List.getElem?_toArray, List.getElem?_cons_succ, List.getElem?_cons_zero, Option.getD_some] at e1
    subst e1
    have e2 := hf.st.kept 2 (by kernel_rfl)
    simp only [slotsOf, Act.eval, Array.getD_eq_getD_getElem?, List.getElem?_toArray, List.getElem?_cons_succ, List.getElem?_cons_zero, Option.getD_some] at e2
    subst e2
    have e3 := hf.st.kept 3 (by kernel_rfl)
    simp only [slotsOf, Act.eval, Array.getD_eq_getD_getElem?, List.getElem?_toArray, List.getElem?_cons_succ, List.getElem?_cons_zero, Option.getD_some] at e3
    subst e3
    have e4 := hf.st.kept 4 (by kernel_rfl)
    simp only [slotsOf, Act.eval, Array.getD_eq_getD_getElem?, List.getElem?_toArray, List.getElem?_cons_succ, List.getElem?_cons_zero, Option.getD_some] at e4
    subst e4
    have e5 := hf.st.kept 5 (by kernel_rfl)
    simp only [slotsOf, Act.eval, Array.getD_eq_getD_getElem?, List.getElem?_toArray, List.getElem?_cons_succ, List.getElem?_cons_zero, Option.getD_some] at e5
    subst e5
    have e6 := hf.st.kept 6 (by kernel_rfl)
    simp only [slotsOf, Act.eval, Array.getD_eq_getD_getElem?, List.getElem?_toArray, List.getElem?_cons_succ, List.getElem?_cons_zero, Option.getD_some] at e6
    subst e6
    have e31 : x31 = .bool false := hf.at 4 (fun val _ _ => val 31 = .bool false) rfl (by kernel_rfl)
    subst e31
    have hb : Below w9.heap.size w9 w10 := hf.st.foot.below (belD (Below.refl _ _)) (fun k h => h.elim)
    clear hf RP RBX RB RX T9
    have T10 : Sec True := ⟨trivial⟩
    have Z10 := Sec.mk hb.size
    have B_10 := Sec.mk (bel B_9.out hb)
    have P_10 := Sec.mk (carryB hb P_9.out)
    have U_10 := Sec.mk (Kd.O_below U_9.out hb)
    have BU_10 := Sec.mk (carryB hb BU_9.out)
    have X_10 := Sec.mk (Kd.O_below X_9.out hb)
    have BX_10 := Sec.mk (carryB hb BX_9.out)
    have G_10 := Sec.mk (Kd.O_below G_9.out hb)
    have BG_10 := Sec.mk (carryB hb BG_9.out)
    clear hb
    go_wp2_with (first | (clear T18; go_at_call 10; have T19 : Sec True := ⟨trivial⟩; refine (heldPrgProg_c (aloneP s) cg _ 1 (by omega) (by have := HL.out; omega) _ (kProg.O_K M_18.out)).mono ?_; rintro e w19 ⟨rfl, hb⟩; have c2 : ¬ (1 + ((mProgt.cnt (aloneP s) : Nat) : Int) < 0) := (by omega); have Z19 := Sec.mk hb.size; have B_19 := Sec.mk (bel B_18.out hb); clear hb) | (with_reducible show wpList _ _ _ (⟨some 61, .load 30 (.tmp 6), _, _, _, _⟩ :: _) _ _; refine wpList_load (cs := cg) (by first | rfl | (simp [Region.wanted, yielded, Act.put]; done) | (simp [Region.wanted, yielded, Act.put]; omega)) 30 (.tmp 6) rfl rfl BG_18.out hu3 rfl (by rw [cg_len.out]; kernel_rfl) ?_) | (clear T17; go_at_call 8; have T18 : Sec True := ⟨trivial⟩; refine (eqPrgProg_c (aloneP s) (aloneP s) ch cu _ _ _ (kProg.O_K H_17.out) (kProg.O_K U_17.out)).mono ?_; rintro e w18 ⟨rfl, hb⟩; rw [tru_]; have Z18 := Sec.mk hb.size; have B_18 := Sec.mk (bel B_17.out hb); have BG_18 := Sec.mk (carryB hb BG_17.out); have M_18 := Sec.mk (Kd.O_below M_17.out hb); clear hb) | (with_reducible show wpList _ _ _ (⟨some 58, .load 30 (.tmp 4), _, _, _, _⟩ :: _) _ _; refine wpList_load (cs := cu) (by first | rfl | (simp [Region.wanted, yielded, Act.put]; done) | (simp [Region.wanted, yielded, Act.put]; omega)) 30 (.tmp 4) rfl rfl BU_17.out hu3 rfl (by rw [cu_len.out]; kernel_rfl) ?_) | (with_reducible show wpList _ _ _ (⟨some 57, .load 30 (.tmp 10), _, _, _, _⟩ :: _) _ _; refine wpList_load (cs := ch) (by first | rfl | (simp [Region.wanted, yielded, Act.put]; done) | (simp [Region.wanted, yielded, Act.put]; omega)) 30 (.tmp 10) rfl rfl BH_17.out hu3 rfl (by rw [ch_len.out]; kernel_rfl) ?_) | (clear T16; with_reducible show wpList _ _ _ (⟨none, .store 30 (.tmp 10) (.tmp 56), _, _, _, _⟩ :: _) _ _; have T17 : Sec True := ⟨trivial⟩; refine wpList_store (cs := ch) (old := #[.slice none 0 0, .slice none 0 0]) rfl 30 (.tmp 10) (.tmp 56) rfl rfl rfl (heap_alloc_new w16 _) (by rw [ch_len.out]; kernel_rfl) (by rw [ch_len.out]; kernel_rfl) (kProg.K_one (kProg.O_K H_16.out)) ?_; intro w17 hb' hF'; have ZS17 : Sec (w16.heap.size < w17.heap.size) := ⟨(Array.getElem?_eq_some_iff.1 hb').1⟩; have hb : Below w16.heap.size w16 w17 := hF'.below (belA (Below.refl _ _) _) (fun k h => Nat.le_of_eq (show k = w16.heap.size from h).symm); have Z17 := Sec.mk hb.size; have BH_17 : Sec (w17.heap[w16.heap.size]? = some (.cells (ch).toArray 30 (0, 0))) := ⟨hb'⟩; have B_17 := Sec.mk (bel B_16.out hb); have U_17 := Sec.mk (Kd.O_below U_16.out hb); have BU_17 := Sec.mk (carryB hb BU_16.out); have BG_17 := Sec.mk (carryB hb BG_16.out); have M_17 := Sec.mk (Kd.O_below M_16.out hb); have H_17 := Sec.mk (Kd.O_below H_16.out hb); clear hb hb' hF') | (clear T15; go_at_call 7; have T16 : Sec True := ⟨trivial⟩; refine (PrgAlone_i s _ _ _ (kProg.O_K Z_15.out)).mono ?_; rintro e w16 ⟨ch, rfl, hO, hb⟩; have ch_len := Sec.mk (kProg.K_len (kProg.O_K hO)); have Z16 := Sec.mk hb.size; have H_16 : Sec (kProg.O w16 (Rg w15.heap.size w16.heap.size) (aloneP s) ch) := ⟨Kd.O_mono hO (fun k h1 h2 => ⟨h1, h2⟩)⟩; have B_16 := Sec.mk (bel B_15.out hb); have U_16 := Sec.mk (Kd.O_below U_15.out hb); have BU_16 := Sec.mk (carryB hb BU_15.out); have BG_16 := Sec.mk (carryB hb BG_15.out); have M_16 := Sec.mk (Kd.O_below M_15.out hb); clear hb hO) | (clear T14; go_at_call 6; have T15 : Sec True := ⟨trivial⟩; refine (toPrgProg_c s cs _ _ (Kd.K_below AV.out B_14.out)).mono ?_; rintro e w15 ⟨cz, rfl, hO, hb⟩; have cz_len := Sec.mk (kProg.K_len (kProg.O_K hO)); have Z15 := Sec.mk hb.size; have Z_15 : Sec (kProg.O w15 (Rg w14.heap.size w15.heap.size) s cz) := ⟨Kd.O_mono hO (fun k h1 h2 => ⟨h1, h2⟩)⟩; have B_15 := Sec.mk (bel B_14.out hb); have U_15 := Sec.mk (Kd.O_below U_14.out hb); have BU_15 := Sec.mk (carryB hb BU_14.out); have BG_15 := Sec.mk (carryB hb BG_14.out); have M_15 := Sec.mk (Kd.O_below M_14.out hb); clear hb hO) | (with_reducible show wpList _ _ _ (⟨some 54, .load 25 (.tmp 1), _, _, _, _⟩ :: _) _ _; refine wpList_load (cs := cs) (by first | rfl | (simp [Region.wanted, yielded, Act.put]; done) | (simp [Region.wanted, yielded, Act.put]; omega)) 25 (.tmp 1) rfl rfl P_14.out hu rfl (by rw [P_len.out]; kernel_rfl) ?_) | (clear T13; go_at_call 10; have T14 : Sec True := ⟨trivial⟩; refine (heldPrgProg_c (aloneP s) cg _ 1 (by omega) (by have := HL.out; omega) _ (kProg.O_K M_13.out)).mono ?_; rintro e w14 ⟨rfl, hb⟩; have c2 : ¬ (1 + ((mProgt.cnt (aloneP s) : Nat) : Int) < 0) := (by omega); have Z14 := Sec.mk hb.size; have B_14 := Sec.mk (bel B_13.out hb); have P_14 := Sec.mk (carryB hb P_13.out); have U_14 := Sec.mk (Kd.O_below U_13.out hb); have BU_14 := Sec.mk (carryB hb BU_13.out); have BG_14 := Sec.mk (carryB hb BG_13.out); have M_14 := Sec.mk (Kd.O_below M_13.out hb); clear hb) | (with_reducible show wpList _ _ _ (⟨some 46, .load 30 (.tmp 6), _, _, _, _⟩ :: _) _ _; refine wpList_load (cs := cg) (by first | rfl | (simp [Region.wanted, yielded, Act.put]; done) | (simp [Region.wanted, yielded, Act.put]; omega)) 30 (.tmp 6) rfl rfl BG_13.out hu3 rfl (by rw [cg_len.out]; kernel_rfl) ?_) | (clear T12; go_at_call 9; have T13 : Sec True := ⟨trivial⟩; refine (markPrgProg_c (aloneP s) cg _ 1 (by omega) (by have := HL.out; omega) _ G_12.out).mono ?_; rintro e w13 ⟨rfl, hO', hF⟩; have Z13 := Sec.mk hF.size; have M_13 := Sec.mk (hO'); have B_13 := Sec.mk (hF.below B_12.out (fun k h => by unfold Rg at h; have zp := Zp.out; have z1 := Z1.out; have z2 := Z2.out; have z3 := Z3.out; have z4 := Z4.out; have z5 := Z5.out; have z6 := Z6.out; have z7 := Z7.out; have z8 := Z8.out; have z9 := Z9.out; have z10 := Z10.out; have z11 := Z11.out; have z12 := Z12.out; have zs4 := ZS4.out; have zs6 := ZS6.out; have zs8 := ZS8.out; omega)); have P_13 := Sec.mk (carry hF P_12.out (fun h => by unfold Rg at h; have zp := Zp.out; have z1 := Z1.out; have z2 := Z2.out; have z3 := Z3.out; have z4 := Z4.out; have z5 := Z5.out; have z6 := Z6.out; have z7 := Z7.out; have z8 := Z8.out; have z9 := Z9.out; have z10 := Z10.out; have z11 := Z11.out; have z12 := Z12.out; have zs4 := ZS4.out; have zs6 := ZS6.out; have zs8 := ZS8.out; omega)); have U_13 := Sec.mk (Foot.O hF U_12.out (fun k h1 h2 => by unfold Rg at h1 h2; have zp := Zp.out; have z1 := Z1.out; have z2 := Z2.out; have z3 := Z3.out; have z4 := Z4.out; have z5 := Z5.out; have z6 := Z6.out; have z7 := Z7.out; have z8 := Z8.out; have z9 := Z9.out; have z10 := Z10.out; have z11 := Z11.out; have z12 := Z12.out; have zs4 := ZS4.out; have zs6 := ZS6.out; have zs8 := ZS8.out; omega)); have BU_13 := Sec.mk (carry hF BU_12.out (fun h => by unfold Rg at h; have zp := Zp.out; have z1 := Z1.out; have z2 := Z2.out; have z3 := Z3.out; have z4 := Z4.out; have z5 := Z5.out; have z6 := Z6.out; have z7 := Z7.out; have z8 := Z8.out; have z9 := Z9.out; have z10 := Z10.out; have z11 := Z11.out; have z12 := Z12.out; have zs4 := ZS4.out; have zs6 := ZS6.out; have zs8 := ZS8.out; omega)); have BG_13 := Sec.mk (carry hF BG_12.out (fun h => by unfold Rg at h; have zp := Zp.out; have z1 := Z1.out; have z2 := Z2.out; have z3 := Z3.out; have z4 := Z4.out; have z5 := Z5.out; have z6 := Z6.out; have z7 := Z7.out; have z8 := Z8.out; have z9 := Z9.out; have z10 := Z10.out; have z11 := Z11.out; have z12 := Z12.out; have zs4 := ZS4.out; have zs6 := ZS6.out; have zs8 := ZS8.out; omega)); clear hF hO') | (with_reducible show wpList _ _ _ (⟨some 43, .load 30 (.tmp 6), _, _, _, _⟩ :: _) _ _; refine wpList_load (cs := cg) (by first | rfl | (simp [Region.wanted, yielded, Act.put]; done) | (simp [Region.wanted, yielded, Act.put]; omega)) 30 (.tmp 6) rfl rfl BG_12.out hu3 rfl (by rw [cg_len.out]; kernel_rfl) ?_) | (clear T11; go_at_call 8; have T12 : Sec True := ⟨trivial⟩; refine (eqPrgProg_c (aloneP s) (aloneP s) cg cu _ _ _ (kProg.O_K G_11.out) (kProg.O_K U_11.out)).mono ?_; rintro e w12 ⟨rfl, hb⟩; rw [tru_]; have Z12 := Sec.mk hb.size; have B_12 := Sec.mk (bel B_11.out hb); have P_12 := Sec.mk (carryB hb P_11.out); have U_12 := Sec.mk (Kd.O_below U_11.out hb); have BU_12 := Sec.mk (carryB hb BU_11.out); have G_12 := Sec.mk (Kd.O_below G_11.out hb); have BG_12 := Sec.mk (carryB hb BG_11.out); clear hb) | (with_reducible show wpList _ _ _ (⟨some 39, .load 30 (.tmp 4), _, _, _, _⟩ :: _) _ _; refine wpList_load (cs := cu) (by first | rfl | (simp [Region.wanted, yielded, Act.put]; done) | (simp [Region.wanted, yielded, Act.put]; omega)) 30 (.tmp 4) rfl rfl BU_11.out hu3 rfl (by rw [cu_len.out]; kernel_rfl) ?_) | (with_reducible show wpList _ _ _ (⟨some 38, .load 30 (.tmp 6), _, _, _, _⟩ :: _) _ _; refine wpList_load (cs := cg) (by first | rfl | (simp [Region.wanted, yielded, Act.put]; done) | (simp [Region.wanted, yielded, Act.put]; omega)) 30 (.tmp 6) rfl rfl BG_11.out hu3 rfl (by rw [cg_len.out]; kernel_rfl) ?_) | (clear T10; go_at_call 9; have T11 : Sec True := ⟨trivial⟩; refine (markPrgProg_c s cx _ 1 (by omega) (by have := HC.out; omega) _ X_10.out).mono ?_; rintro e w11 ⟨rfl, -, hF⟩; have c1 : ¬ (1 + ((mProgt.cnt s : Nat) : Int) < 0) := (by omega); have Z11 := Sec.mk hF.size; have B_11 := Sec.mk (hF.below B_10.out (fun k h => by unfold Rg at h; have zp := Zp.out; have z1 := Z1.out; have z2 := Z2.out; have z3 := Z3.out; have z4 := Z4.out; have z5 := Z5.out; have z6 := Z6.out; have z7 := Z7.out; have z8 := Z8.out; have z9 := Z9.out; have z10 := Z10.out; have zs4 := ZS4.out; have zs6 := ZS6.out; have zs8 := ZS8.out; omega)); have P_11 := Sec.mk (carry hF P_10.out (fun h => by unfold Rg at h; have zp := Zp.out; have z1 := Z1.out; have z2 := Z2.out; have z3 := Z3.out; have z4 := Z4.out; have z5 := Z5.out; have z6 := Z6.out; have z7 := Z7.out; have z8 := Z8.out; have z9 := Z9.out; have z10 := Z10.out; have zs4 := ZS4.out; have zs6 := ZS6.out; have zs8 := ZS8.out; omega)); have U_11 := Sec.mk (Foot.O hF U_10.out (fun k h1 h2 => by unfold Rg at h1 h2; have zp := Zp.out; have z1 := Z1.out; have z2 := Z2.out; have z3 := Z3.out; have z4 := Z4.out; have z5 := Z5.out; have z6 := Z6.out; have z7 := Z7.out; have z8 := Z8.out; have z9 := Z9.out; have z10 := Z10.out; have zs4 := ZS4.out; have zs6 := ZS6.out; have zs8 := ZS8.out; omega)); have BU_11 := Sec.mk (carry hF BU_10.out (fun h => by unfold Rg at h; have zp := Zp.out; have z1 := Z1.out; have z2 := Z2.out; have z3 := Z3.out; have z4 := Z4.out; have z5 := Z5.out; have z6 := Z6.out; have z7 := Z7.out; have z8 := Z8.out; have z9 := Z9.out; have z10 := Z10.out; have zs4 := ZS4.out; have zs6 := ZS6.out; have zs8 := ZS8.out; omega)); have G_11 := Sec.mk (Foot.O hF G_10.out (fun k h1 h2 => by unfold Rg at h1 h2; have zp := Zp.out; have z1 := Z1.out; have z2 := Z2.out; have z3 := Z3.out; have z4 := Z4.out; have z5 := Z5.out; have z6 := Z6.out; have z7 := Z7.out; have z8 := Z8.out; have z9 := Z9.out; have z10 := Z10.out; have zs4 := ZS4.out; have zs6 := ZS6.out; have zs8 := ZS8.out; omega)); have BG_11 := Sec.mk (carry hF BG_10.out (fun h => by unfold Rg at h; have zp := Zp.out; have z1 := Z1.out; have z2 := Z2.out; have z3 := Z3.out; have z4 := Z4.out; have z5 := Z5.out; have z6 := Z6.out; have z7 := Z7.out; have z8 := Z8.out; have z9 := Z9.out; have z10 := Z10.out; have zs4 := ZS4.out; have zs6 := ZS6.out; have zs8 := ZS8.out; omega)); clear hF) | (with_reducible show wpList _ _ _ (⟨some 32, .load 30 (.tmp 5), _, _, _, _⟩ :: _) _ _; refine wpList_load (cs := cx) (by first | rfl | (simp [Region.wanted, yielded, Act.put]; done) | (simp [Region.wanted, yielded, Act.put]; omega)) 30 (.tmp 5) rfl rfl BX_10.out hu2 rfl (by rw [cx_len.out]; kernel_rfl) ?_))
    go_ret
    subst hbp
    exact ⟨rfl, bel WBS.out B_19.out⟩
  · have hsp := Raw.spent_gt hbud
    clear hbud hA hK WB
    generalize hbp : w0.heap.size = bp at *
    have T0 : Sec True := ⟨trivial⟩
    go_enter Tryz.func3, Tryz.ntmps3
    go_wp2_with (first | (clear T0; go_at_call 4; refine (szPrgProg_c s cs 1048576 (Nat.le_refl _) _ RV.out).mono ?_; rintro e w1 ⟨rfl, hb⟩; rw [hsp]; have B1 := Sec.mk hb; clear hb) | (with_reducible show wpList _ _ _ (⟨some 11, .load 25 (.tmp 1), _, _, _, _⟩ :: _) _ _; rw [← WW.out]; refine wpList_load (cs := cs) (by first | rfl | (simp [Region.wanted, yielded, Act.put]; done) | (simp [Region.wanted, yielded, Act.put]; omega)) 25 (.tmp 1) rfl rfl P_0.out hu rfl (by rw [P_len.out]; kernel_rfl) ?_))
    go_ret
    subst hbp
    exact ⟨rfl, bel WBS.out B1.out⟩
end Go.Proofs.YtenigopoknajgaaGreatDoor
