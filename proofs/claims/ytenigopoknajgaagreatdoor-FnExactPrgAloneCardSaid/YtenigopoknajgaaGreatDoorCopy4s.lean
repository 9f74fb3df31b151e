/- Contracts: clauses that are copied, by the reference. -/
import Derived.Test.YtenigopoknajgaaGreatDoorCopy4
namespace Go.Proofs.YtenigopoknajgaaGreatDoor
open Go.RowKit
set_option linter.unusedVariables false
set_option maxRecDepth 100000
set_option maxHeartbeats 4000000 in
theorem l3Copy_c (v : Value) (t : List Clause) (ok0 : Nat → Prop) (w : World) (hV0 : kClause.V w ok0 v t) :
    Calls Tryz.prog 14 #[v] w fun e w' => ∃ u, e = .returned u ∧ kClause.R w' (fun k => w.heap.size ≤ k) u t ∧ Below w.heap.size w w' := by
  obtain ⟨ok, hok, hV⟩ : ∃ ok : Nat → Prop, (∀ k, ok k → k < w.heap.size) ∧ kClause.V w ok v t := ⟨fun k => ok0 k ∧ k < w.heap.size, fun k h => h.2, Kd.V_move (fun k h1 h2 => ⟨⟨h1, h2⟩, rfl⟩) hV0 (by decide)⟩
  clear hV0
  obtain ⟨A, c, rfl, h1, h2, h3, hC, hz⟩ := hV
  have HC := Sec.mk hC
  have HOK := Sec.mk hok
  clear hC hz hok
  have hu := Tryz.underlying59
  have hu2 := Tryz.underlying63
  have hu3 := Tryz.underlying59
  go_enter Tryz.func14, Tryz.ntmps14
  go_wp2
  go_loopw [3, 4] (fun ov iv wr => ∃ k : Nat, k ≤ t.length ∧ iv = .int .i64 k ∧ Sec (kClause.R wr (fun k => w.heap.size ≤ k) ov (t.take k)) ∧ Sec (Below w.heap.size w wr)) (fun _ iv _ => t.length - (intOf iv).toNat)
  case atStart => exact ⟨0, Nat.zero_le _, rfl, ⟨by rw [List.take_zero]; exact Kd.R_empty kClause (w := w) (W := w) (Nat.le_refl _)⟩, ⟨belA (Below.refl _ _) _⟩⟩
  case round =>
    obtain ⟨k, hk, rfl, hR, hb⟩ := hrel
    by_cases hlt : k < t.length
    · obtain ⟨b, off, cs, rfl, hob, hK, hc⟩ := Kd.C_get (Kd.C_below HC.out hb.out (by decide)) (List.getElem?_eq_getElem hlt)
      have hT : Sec (t.take (k + 1) = t.take k ++ [t[k]]) := ⟨List.take_succ_eq_append_getElem hlt⟩
      have hL : Sec ((t.take k).length + 1 ≤ 1073741824) := ⟨by rw [List.length_take]; omega⟩
      obtain ⟨A9, c9, hv9, -⟩ := Kd.R_form hR.out
      subst hv9
      generalize t[k] = x at *
      generalize t.take k = tk at *
      obtain ⟨va, vb, rfl, hva, hvb⟩ := kClause_K hK
      have LA : x.head.length ≤ 1073741824 := by obtain ⟨_, _, _, _, _, h, _⟩ := hva; exact h
      obtain ⟨Ea, ma, rfl, -⟩ := id hva
      obtain ⟨Eb, mb, rfl, -, -, lb, hCb, -⟩ := id hvb
      have cc0 : wr.cell? ⟨b, off + k * 2, none⟩ = some (.slice Ea x.head.length ma) := hc 0 _ rfl
      have cc1 : wr.cell? ⟨b, off + k * 2 + 1, none⟩ = some (.slice Eb x.body.length mb) := hc 1 _ rfl
      have i0 : (0 : Int) ≤ (k : Int) := by omega
      have i1 : (k : Int) < (t.length : Int) := by omega
      have hzb := hb.out.size
      have hbl := HOK.out b hob
      have HVA := Sec.mk hva
      have HBO := Sec.mk (fun (W : World) (h : Below wr.heap.size wr W) => bel hb.out h)
      have HCO := Sec.mk (fun (W : World) (h : Below wr.heap.size wr W) => Kd.C_below hCb h (by decide))
      have CCO := Sec.mk (fun (W : World) (h : Below wr.heap.size wr W) => Raw.cell_below h cc1)
      have HRO := Sec.mk (fun (W : World) (h : Below wr.heap.size wr W) => Kd.R_below (Kd.R_mono hR.out (S1 := fun k => w.heap.size ≤ k ∧ k < wr.heap.size) (fun k h1 h2 => ⟨h1, h2⟩)) h)
      have cc0' : (wr.alloc (.cells #[] 73)).cell? ⟨b, off + k * 2, none⟩ = some (.slice Ea x.head.length ma) := Raw.cell_below (belA (Below.refl _ _) _) cc0
      clear hK hc hva hvb hCb hR
      go_wp2_with (at_builtin; refine Kd.W_cat kCell rfl (.tmp 14) (.tmp 19) 56 (.agg #[.int .i64 0, .int .i64 0, .string ⟨#[]⟩]) 32 rfl Tryz.underlying56 info_cell rfl (by decide) (by decide) (.slice (some ⟨wr.heap.size, 0, none⟩) 0 0) (.slice Ea x.head.length ma) [] x.head (fun k => wr.heap.size ≤ k) (fun k => k < wr.heap.size) rfl rfl (Kd.W_empty kCell wr _ _ (Nat.le_refl _)) (Kd.V_move (fun k hk hl => ⟨⟨hl, fun e => absurd (show k = wr.heap.size by simpa [Value.ownBlock] using e) (by omega)⟩, Below.heap_alloc _ _ _ hl⟩) HVA.out (by decide)) (by simpa using LA) ?_; intro v1 w1 hW hg; have hW1 := kCell_W_R hW; obtain ⟨A1, n1, rfl, -, -⟩ := Kd.R_form hW1; simp only [List.nil_append] at hW1; have HR1 := Sec.mk hW1; have HB1 := Sec.mk ((belA (Below.refl wr.heap.size wr) _).grown hg (by simp) (fun k e => Nat.le_of_eq (show wr.heap.size = k by simpa [Value.ownBlock] using e))); clear hW hg hW1)
      have HR1' : Sec (kCell.R w1 (fun k => wr.heap.size ≤ k ∧ k < w1.heap.size) (.slice A1 x.head.length n1) x.head) := ⟨Kd.R_mono HR1.out (fun k h h2 => ⟨by rcases h with h | h; exact h; (have h9 : (wr.alloc (.cells #[] 73)).heap.size ≤ k := h; simp at h9; omega), h2⟩)⟩
      have hn1z := HB1.out.size
      obtain ⟨c0, c2, v, Sr, Sc, hl0, -, HG0⟩ := Growing.start (w := w1.alloc (.cells #[.slice A1 x.head.length n1, .slice none 0 0] 59)) (X := w1.heap.size) (n0 := wr.heap.size) gf_body (heap_alloc_new w1 _) (kClause_of (x := ⟨x.head, []⟩) (Kd.R_below HR1'.out (belA (Below.refl _ _) _)) (Kd.R_nil kGoal _ (fun _ => False)) (fun k h => id)) (fun k hk => by rcases hk with hk | hk; exact ⟨hk.1, by omega⟩; exact hk.elim) hn1z
      have GS := Sec.mk HG0
      have HBS := Sec.mk (belA HB1.out (.cells #[.slice A1 x.head.length n1, .slice none 0 0] 59))
      have HGZ : Sec (wr.heap.size ≤ w1.heap.size) := ⟨hn1z⟩
      clear HG0 HR1 HR1' HB1 cc0 cc0' cc1 HVA hn1z
      generalize w1.alloc (.cells #[.slice A1 (List.length x.head) n1, .slice none 0 0] 59) = w2 at *
      generalize w1.heap.size = g at *
      generalize hnn : wr.heap.size = nn at *
      have HNN := Sec.mk hnn
      clear hnn
      go_loopw [6] (fun iv ws => ∃ j : Nat, j ≤ x.body.length ∧ iv = .int .i64 j ∧ Sec (∃ v Sr Sc, Growing kClause kGoal 57 (by decide) (fun y => (⟨x.head, y⟩ : Clause)) g nn c0 c2 59 ws v (x.body.take j) Sr Sc) ∧ Sec (Below nn wr ws)) (fun iv _ => x.body.length - (intOf iv).toNat)
      case atStart => exact ⟨0, Nat.zero_le _, rfl, ⟨_, _, _, by rw [List.take_zero]; exact GS.out⟩, HBS⟩
      case round =>
        clear GS HBS
        obtain ⟨j, hj, rfl, hG, hbi⟩ := hrel
        have HCB := Sec.mk (HCO.out _ hbi.out)
        have CC1 := Sec.mk (CCO.out _ hbi.out)
        have HBW := Sec.mk (HBO.out _ hbi.out)
        have HRW := Sec.mk (HRO.out _ hbi.out)
        have HSN : Sec (nn ≤ wr.heap.size) := ⟨by have := hbi.out.size; rwa [HNN.out] at this⟩
        have HSZ := Sec.mk HBW.out.size
        obtain ⟨v, Sr, Sc, HG0⟩ := hG.out
        clear hG
        by_cases hlt2 : j < x.body.length
        · obtain ⟨Av, nv, rfl, -, -⟩ := Kd.R_form HG0.row
          obtain ⟨b2, off2, ys, rfl, hob2, hKy, hcy⟩ := Kd.C_get HCB.out (List.getElem?_eq_getElem hlt2)
          have hTj : Sec (x.body.take (j + 1) = x.body.take j ++ [x.body[j]]) := ⟨List.take_succ_eq_append_getElem hlt2⟩
          have hLd : Sec ((x.body.take j).length + 1 ≤ 1073741824) := ⟨by rw [List.length_take]; omega⟩
          generalize x.body[j] = y at *
          generalize x.body.take j = done at *
          have HYK0 := hKy
          obtain ⟨ya, yb, yc, rfl, -, -, -⟩ := kGoal_K hKy
          have HYK := Sec.mk HYK0
          have HYC : Sec (∀ i u, ([.int .i64 y.kind, ya, yb, yc] : List Value)[i]? = some u → wr.cell? ⟨b2, off2 + j * 4 + i, none⟩ = some u) := ⟨fun i u h => by have := hcy i u h; rwa [← Nat.add_assoc] at this⟩
          have nOK : ∀ q, ok q → ¬ (q = g ∨ Sc q) := fun q h1 h2 => by
            have h3 := HOK.out q h1
            have h4 := HGZ.out
            rcases h2 with h2 | h2
            · omega
            · have := (HG0.mine q (.inr h2)).1; omega
          have NW : Sec (∀ q, (q = g ∨ Sc q) → nn ≤ q) := ⟨fun q h => by
            rcases h with h | h
            · have := HGZ.out; omega
            · exact (HG0.mine q (.inr h)).1⟩
          have nB := nOK b hob
          have nB2 := nOK b2 hob2
          have HG := Sec.mk HG0
          have j0 : (0 : Int) ≤ (j : Int) := by omega
          have j1 : (j : Int) < (x.body.length : Int) := by omega
          have cc1 := CC1.out
          clear HG0 HYK0 hKy hcy HCB HCO CCO HBO HRO HRW
          go_wp2
          refine wp_region_lists [[32], [33], [34], [35], [36], [37], [38], [39], [40], [41], [42], [43], [44], [45], [], [], []]
            [fun val _ _ => val 32 = .pointer (some ⟨g, 1, none⟩),
              fun val _ _ => val 33 = (.slice Av done.length nv),
              fun val _ _ => val 34 = .slice (some ⟨b, off, none⟩) t.length c,
              fun val _ _ => val 35 = .int .i64 k,
              fun val _ _ => val 36 = .pointer (some ⟨b, off + k * 2, none⟩),
              fun val _ _ => val 37 = .pointer (some ⟨b, off + k * 2 + 1, none⟩),
              fun val _ _ => val 38 = .slice (some ⟨b2, off2, none⟩) x.body.length mb,
              fun val _ _ => val 39 = .int .i64 j,
              fun val _ _ => val 40 = .pointer (some ⟨b2, off2 + j * 4, none⟩),
              fun val _ _ => val 41 = .agg ([.int .i64 y.kind, ya, yb, yc]).toArray,
              onO kGoal 42 y,
              onOne kGoal 43 y,
              onR kGoal 44 (done ++ [y]),
              fun val _ _ => val 45 = .pointer (some ⟨g, 1, none⟩),
              onGrew kGoal g c0 c2 59 (done ++ [y]),
              onCells g (c0 ++ ((.slice Av done.length nv) :: c2)).toArray 59,
              onRc kGoal (.slice Av done.length nv) done]
            [[], [], [], [], [], [], [], [], [], [], [], [10], [16, 11], [], [15, 12], [], []] 2 (fun q => q = g ∨ Sc q) (fun i k => (i = 15 ∧ k = g) ∨ (i = 16 ∧ Sc k)) (by kernel_rfl) ⟨by kernel_rfl, by kernel_rfl, by kernel_rfl, by kernel_rfl, by kernel_rfl⟩
            (.cons (stab_val 32 (fun v => v = .pointer (some ⟨g, 1, none⟩))) (.cons (stab_val 33 (fun v => v = (.slice Av done.length nv))) (.cons (stab_val 34 (fun v => v = .slice (some ⟨b, off, none⟩) t.length c)) (.cons (stab_val 35 (fun v => v = .int .i64 k)) (.cons (stab_val 36 (fun v => v = .pointer (some ⟨b, off + k * 2, none⟩))) (.cons (stab_val 37 (fun v => v = .pointer (some ⟨b, off + k * 2 + 1, none⟩))) (.cons (stab_val 38 (fun v => v = .slice (some ⟨b2, off2, none⟩) x.body.length mb)) (.cons (stab_val 39 (fun v => v = .int .i64 j)) (.cons (stab_val 40 (fun v => v = .pointer (some ⟨b2, off2 + j * 4, none⟩))) (.cons (stab_val 41 (fun v => v = .agg ([.int .i64 y.kind, ya, yb, yc]).toArray)) (.cons (stab_O kGoal 42 y) (.cons (stab_one kGoal 43 y) (.cons (stab_R kGoal 44 (done ++ [y])) (.cons (stab_val 45 (fun v => v = .pointer (some ⟨g, 1, none⟩))) (.cons (stab_grew kGoal g c0 c2 59 (done ++ [y])) (.cons (stab_cells g (c0 ++ ((.slice Av done.length nv) :: c2)).toArray 59) (.cons (stab_Rc kGoal (.slice Av done.length nv) done) .nil)))))))))))))))))
            (fun i j k h1 h2 => by rcases h1 with ⟨a1, b1⟩ | ⟨a1, b1⟩ <;> rcases h2 with ⟨a2, b2⟩ | ⟨a2, b2⟩ <;> first | omega | (exact ((HG.out.mine k (.inr (by assumption))).2.2 (by assumption)).elim)) (fun i k h => by rcases h with ⟨rfl, rfl⟩ | ⟨rfl, h⟩ <;> first | exact ⟨by decide, .inl rfl, (Array.getElem?_eq_some_iff.1 HG.out.box).1⟩ | exact ⟨by decide, .inr h, (HG.out.mine k (.inr h)).2.1⟩) (fun i h1 h2 => by
              rcases (show i = 15 ∨ i = 16 by simp at h1 h2; omega) with rfl | rfl
              · exact ⟨HG.out.box, .inl ⟨rfl, rfl⟩⟩
              · exact Kd.R_mono (Kd.R_below HG.out.row (belD (Below.refl _ _))) (fun q h _ => .inr ⟨rfl, h⟩)) (.cons ?_ (.cons ?_ (.cons ?_ (.cons ?_ (.cons ?_ (.cons ?_ (.cons ?_ (.cons ?_ (.cons ?_ (.cons ?_ (.cons ?_ (.cons ?_ (.cons ?_ (.cons ?_ (.cons ?_ .nil))))))))))))))) ?_
          · intro a W own hfor huse hap hmi hF K hK
            have e5 : a.eval (.tmp 5) = .pointer (some ⟨g, 0, none⟩) := hfor 5 (by kernel_rfl)
            refine op_val (.pointer (some ⟨g, 1, none⟩)) W rfl ?_ (hK _ _ (post_pure ?_))
            · clear hfor huse hap hmi hK hF
              generalize a.eval = ρ at *
              go_simp
            · exact (if_pos rfl)
          · intro a W own hfor huse hap hmi hF K hK
            have e32 : a.eval (.tmp 32) = .pointer (some ⟨g, 1, none⟩) := huse 0 (by kernel_rfl)
            have q0 := grow_cell (huse 15 (by kernel_rfl) : onCells g (c0 ++ ((.slice Av done.length nv) :: c2)).toArray 59 (slotsOf a) (own 15) W).1 hl0
            refine op_val ((.slice Av done.length nv)) W rfl ?_ (hK _ _ (post_pure ?_))
            · clear hfor huse hap hmi hK hF
              generalize a.eval = ρ at *
              go_simp
            · exact (if_pos rfl)
          · intro a W own hfor huse hap hmi hF K hK
            have e0 : a.eval (.tmp 0) = .slice (some ⟨b, off, none⟩) t.length c := hfor 0 (by kernel_rfl)
            refine op_val (.slice (some ⟨b, off, none⟩) t.length c) W rfl ?_ (hK _ _ (post_pure ?_))
            · clear hfor huse hap hmi hK hF
              generalize a.eval = ρ at *
              go_simp
            · exact (if_pos rfl)
          · intro a W own hfor huse hap hmi hF K hK
            have e4 : a.eval (.tmp 4) = .int .i64 k := hfor 4 (by kernel_rfl)
            refine op_val (.int .i64 k) W rfl ?_ (hK _ _ (post_pure ?_))
            · clear hfor huse hap hmi hK hF
              generalize a.eval = ρ at *
              go_simp
            · exact (if_pos rfl)
          · intro a W own hfor huse hap hmi hF K hK
            have e34 : a.eval (.tmp 34) = .slice (some ⟨b, off, none⟩) t.length c := huse 2 (by kernel_rfl)
            have e35 : a.eval (.tmp 35) = .int .i64 k := huse 3 (by kernel_rfl)
            refine op_val (.pointer (some ⟨b, off + k * 2, none⟩)) W rfl ?_ (hK _ _ (post_pure ?_))
            · clear hfor huse hap hmi hK hF
              generalize a.eval = ρ at *
              go_simp
            · exact (if_pos rfl)
          · intro a W own hfor huse hap hmi hF K hK
            have e36 : a.eval (.tmp 36) = .pointer (some ⟨b, off + k * 2, none⟩) := huse 4 (by kernel_rfl)
            refine op_val (.pointer (some ⟨b, off + k * 2 + 1, none⟩)) W rfl ?_ (hK _ _ (post_pure ?_))
            · clear hfor huse hap hmi hK hF
              generalize a.eval = ρ at *
              go_simp
            · exact (if_pos rfl)
          · intro a W own hfor huse hap hmi hF K hK
            have e37 : a.eval (.tmp 37) = .pointer (some ⟨b, off + k * 2 + 1, none⟩) := huse 5 (by kernel_rfl)
            have y1 := foot_cell hF nB CC1.out
            refine op_val (.slice (some ⟨b2, off2, none⟩) x.body.length mb) W rfl ?_ (hK _ _ (post_pure ?_))
            · clear hfor huse hap hmi hK hF
              generalize a.eval = ρ at *
              go_simp
            · exact (if_pos rfl)
          · intro a W own hfor huse hap hmi hF K hK
            have e6 : a.eval (.tmp 6) = .int .i64 j := hfor 6 (by kernel_rfl)
            refine op_val (.int .i64 j) W rfl ?_ (hK _ _ (post_pure ?_))
            · clear hfor huse hap hmi hK hF
              generalize a.eval = ρ at *
              go_simp
            · exact (if_pos rfl)
          · intro a W own hfor huse hap hmi hF K hK
            have e38 : a.eval (.tmp 38) = .slice (some ⟨b2, off2, none⟩) x.body.length mb := huse 6 (by kernel_rfl)
            have e39 : a.eval (.tmp 39) = .int .i64 j := huse 7 (by kernel_rfl)
            refine op_val (.pointer (some ⟨b2, off2 + j * 4, none⟩)) W rfl ?_ (hK _ _ (post_pure ?_))
            · clear hfor huse hap hmi hK hF
              generalize a.eval = ρ at *
              go_simp
            · exact (if_pos rfl)
          · intro a W own hfor huse hap hmi hF K hK
            have e40 : a.eval (.tmp 40) = .pointer (some ⟨b2, off2 + j * 4, none⟩) := huse 8 (by kernel_rfl)
            have hu_41 := hu2
            have hc : ∀ i u, ([.int .i64 y.kind, ya, yb, yc] : List Value)[i]? = some u → W.cell? ⟨b2, off2 + j * 4 + i, none⟩ = some u := fun i u h => foot_cell hF nB2 (HYC.out i u h)
            refine step_load (cs := [.int .i64 y.kind, ya, yb, yc]) rfl 63 (.tmp 40) rfl e40 hc hu_41 rfl (by kernel_rfl) (hK _ _ (post_pure (if_pos rfl)))
          · intro a W own hfor huse hap hmi hF K hK
            have e41 : a.eval (.tmp 41) = .agg ([.int .i64 y.kind, ya, yb, yc]).toArray := huse 9 (by kernel_rfl)
            have hKx := kGoal.K_move (show Keeps wr W ok ok from fun q h1 h2 => ⟨h1, hF.block q h2 (nOK q h1)⟩) HYK.out
            have efn : a.eval (.func 29) = .func (.func 29) #[] #[] := rfl
            refine op_call (f := 29) (args := #[.agg ([.int .i64 y.kind, ya, yb, yc]).toArray]) (fun v w1 => ∃ c : List Value, v = .agg c.toArray ∧ kGoal.O w1 (fun k => W.heap.size ≤ k) y c ∧ Below W.heap.size W w1) rfl ?_ ?_ (fun v w1 h => ?_)
            · clear hfor huse hap hmi hK hF
              generalize a.eval = ρ at *
              go_simp
            · exact (l3Goal_c y _ ok W hKx (fun q h => Nat.lt_of_lt_of_le (HOK.out q h) (Nat.le_trans HSZ.out hF.size))).mono (by rintro e w1 ⟨c, rfl, h1, h2⟩; exact ⟨_, rfl, c, rfl, h1, h2⟩)
            · obtain ⟨c, rfl, h1, h2⟩ := h
              exact hK _ _ (post_new h2 ⟨c, if_pos rfl, kGoal.O_mono h1 (fun k h3 h4 => ⟨h3, h4⟩)⟩)
          · intro a W own hfor huse hap hmi hF K hK
            obtain ⟨cs10, e42, r10⟩ := (huse 10 (by kernel_rfl) : onO kGoal 42 y (slotsOf a) (own 10) W)
            have e42 : a.eval (.tmp 42) = .agg cs10.toArray := e42
            have hlen := kGoal.K_len (kGoal.O_K r10)
            refine step_box rfl 57 63 (.tmp 42) rfl e42 Tryz.underlying57 info_Goal hlen (by decide) (by decide) (hK _ _ ⟨fun k => own 10 k ∨ (W.heap.size ≤ k ∧ k < (W.alloc (.cells cs10.toArray 63)).heap.size), Foot.of_below (belA (Below.refl _ _) _), ?_, fun k h => Or.imp (fun h => ⟨10, by decide, h⟩) id h⟩)
            refine ⟨W.heap.size, cs10, if_pos rfl, heap_alloc_new W _, .inr ⟨Nat.le_refl _, by simp⟩, Kd.O_mono (Kd.O_below r10 (belA (Below.refl _ _) _)) (fun k h _ => ⟨.inl h, fun e => by have h1 := (hmi 10 k h).2; omega⟩)⟩
          · intro a W own hfor huse hap hmi hF K hK
            have e33 : a.eval (.tmp 33) = (.slice Av done.length nv) := huse 1 (by kernel_rfl)
            have r16 := (huse 16 (by kernel_rfl) : onRc kGoal (.slice Av done.length nv) done (slotsOf a) (own 16) W)
            obtain ⟨g, cs, e43, hbx, hSg, rb⟩ := (huse 11 (by kernel_rfl) : onOne kGoal 43 y (slotsOf a) (own 11) W)
            have e43 : a.eval (.tmp 43) = .slice (some ⟨g, 0, none⟩) 1 1 := e43
            refine step_one kGoal rfl (.tmp 33) (.tmp 43) 57 (.agg #[.int .i64 0, .slice none 0 0, .slice none 0 0, .slice none 0 0]) 80 rfl Tryz.underlying57 info_Goal rfl (by decide) (by decide) e33 e43 r16 hbx rb (fun k h1 h2 => by have := hap 11 16 k h1.1 h2; omega) hLd.out (fun v1 w1 hR hF1 => hK _ _ ⟨fun k => own 16 k ∨ own 11 k ∨ (W.heap.size ≤ k ∧ k < w1.heap.size), Foot.mono hF1 (fun k h => ⟨16, by decide, h⟩), ?_, ?_⟩)
            · show kGoal.R _ _ (if _ then _ else _) (done ++ [y])
              rw [if_pos rfl]
              exact Kd.R_mono hR (fun k h _ => h.imp id (fun h => h.imp (fun h => h.1) id))
            · intro k h
              rcases h with h | h | h
              · exact .inl ⟨16, by decide, h⟩
              · exact .inl ⟨11, by decide, h⟩
              · exact .inr h
          · intro a W own hfor huse hap hmi hF K hK
            have e5 : a.eval (.tmp 5) = .pointer (some ⟨g, 0, none⟩) := hfor 5 (by kernel_rfl)
            refine op_val (.pointer (some ⟨g, 1, none⟩)) W rfl ?_ (hK _ _ (post_pure ?_))
            · clear hfor huse hap hmi hK hF
              generalize a.eval = ρ at *
              go_simp
            · exact (if_pos rfl)
          · intro a W own hfor huse hap hmi hF K hK
            have e45 : a.eval (.tmp 45) = .pointer (some ⟨g, 1, none⟩) := huse 13 (by kernel_rfl)
            obtain ⟨hb, hSX⟩ := (huse 15 (by kernel_rfl) : onCells g (c0 ++ ((.slice Av done.length nv) :: c2)).toArray 59 (slotsOf a) (own 15) W)
            have r12 : kGoal.R W (own 12) (a.eval (.tmp 44)) (done ++ [y]) := huse 12 (by kernel_rfl)
            obtain ⟨A12, n12, e44, -, -⟩ := Kd.R_form r12
            rw [e44] at r12
            have q0 := grow_cell hb hl0
            have f0 := (box_at hb).2.2 1
            have F : Foot (fun k => k = g) W (W.setCell ⟨g, 1, none⟩ (.slice A12 (done ++ [y]).length n12)) := Foot.set (Foot.refl (fun k => k = g) W) (.inl rfl) _ _
            refine op_skip (W.setCell ⟨g, 1, none⟩ (.slice A12 (done ++ [y]).length n12)) rfl ?_ (hK _ _ ⟨fun k => own 15 k ∨ own 12 k, Foot.mono F (fun k e => ⟨15, by decide, e ▸ hSX⟩), ?_, ?_⟩)
            · clear hfor huse hap hmi hK hF hb F r12
              generalize a.eval = ρ at *
              go_simp
            · exact ⟨_, grow_set hb hl0 _, .inl hSX, Kd.R_mono (F.R r12 (fun k h1 h2 => by have := hap 15 12 g hSX (h2 ▸ h1); omega)) (fun k h _ => ⟨.inr h, fun e => by have := hap 15 12 g hSX (e ▸ h); omega⟩)⟩
            · intro k h
              left
              rcases h with h | h
              · exact ⟨15, by decide, h⟩
              · exact ⟨12, by decide, h⟩
          intro a' W own hf
          have hsz := hf.st.size
          have hdf := hf.st.rest
          obtain ⟨⟨l⟩, df⟩ := a'
          have hl0 : l.length = 51 := hsz
          clear hsz
          obtain rfl : df = [] := hdf
          obtain ⟨x0, l0, rfl, hl1⟩ := lst_cons hl0
          clear hl0
          obtain ⟨x1, l1, rfl, hl2⟩ := lst_cons hl1
          clear hl1
          obtain ⟨x2, l2, rfl, hl3⟩ := lst_cons hl2
          clear hl2
          obtain ⟨x3, l3, rfl, hl4⟩ := lst_cons hl3
          clear hl3
          obtain ⟨x4, l4, rfl, hl5⟩ := lst_cons hl4
          clear hl4
          obtain ⟨x5, l5, rfl, hl6⟩ := lst_cons hl5
          clear hl5
          obtain ⟨x6, l6, rfl, hl7⟩ := lst_cons hl6
          clear hl6
          obtain ⟨x7, l7, rfl, hl8⟩ := lst_cons hl7
          clear hl7
          obtain ⟨x8, l8, rfl, hl9⟩ := lst_cons hl8
          clear hl8
          obtain ⟨x9, l9, rfl, hl10⟩ := lst_cons hl9
          clear hl9
          obtain ⟨x10, l10, rfl, hl11⟩ := lst_cons hl10
          clear hl10
          obtain ⟨x11, l11, rfl, hl12⟩ := lst_cons hl11
          clear hl11
          obtain ⟨x12, l12, rfl, hl13⟩ := lst_cons hl12
          clear hl12
          obtain ⟨x13, l13, rfl, hl14⟩ := lst_cons hl13
          clear hl13
          obtain ⟨x14, l14, rfl, hl15⟩ := lst_cons hl14
          clear hl14
          obtain ⟨x15, l15, rfl, hl16⟩ := lst_cons hl15
          clear hl15
          obtain ⟨x16, l16, rfl, hl17⟩ := lst_cons hl16
          clear hl16
          obtain ⟨x17, l17, rfl, hl18⟩ := lst_cons hl17
          clear hl17
          obtain ⟨x18, l18, rfl, hl19⟩ := lst_cons hl18
          clear hl18
          obtain ⟨x19, l19, rfl, hl20⟩ := lst_cons hl19
          clear hl19
          obtain ⟨x20, l20, rfl, hl21⟩ := lst_cons hl20
          clear hl20
          obtain ⟨x21, l21, rfl, hl22⟩ := lst_cons hl21
          clear hl21
          obtain ⟨x22, l22, rfl, hl23⟩ := lst_cons hl22
          clear hl22
          obtain ⟨x23, l23, rfl, hl24⟩ := lst_cons hl23
          clear hl23
          obtain ⟨x24, l24, rfl, hl25⟩ := lst_cons hl24
          clear hl24
          obtain ⟨x25, l25, rfl, hl26⟩ := lst_cons hl25
          clear hl25
          obtain ⟨x26, l26, rfl, hl27⟩ := lst_cons hl26
          clear hl26
          obtain ⟨x27, l27, rfl, hl28⟩ := lst_cons hl27
          clear hl27
          obtain ⟨x28, l28, rfl, hl29⟩ := lst_cons hl28
          clear hl28
          obtain ⟨x29, l29, rfl, hl30⟩ := lst_cons hl29
          clear hl29
          obtain ⟨x30, l30, rfl, hl31⟩ := lst_cons hl30
          clear hl30
          obtain ⟨x31, l31, rfl, hl32⟩ := lst_cons hl31
          clear hl31
          obtain ⟨x32, l32, rfl, hl33⟩ := lst_cons hl32
          clear hl32
          obtain ⟨x33, l33, rfl, hl34⟩ := lst_cons hl33
          clear hl33
          obtain ⟨x34, l34, rfl, hl35⟩ := lst_cons hl34
          clear hl34
          obtain ⟨x35, l35, rfl, hl36⟩ := lst_cons hl35
          clear hl35
          obtain ⟨x36, l36, rfl, hl37⟩ := lst_cons hl36
          clear hl36
          obtain ⟨x37, l37, rfl, hl38⟩ := lst_cons hl37
          clear hl37
          obtain ⟨x38, l38, rfl, hl39⟩ := lst_cons hl38
          clear hl38
          obtain ⟨x39, l39, rfl, hl40⟩ := lst_cons hl39
          clear hl39
          obtain ⟨x40, l40, rfl, hl41⟩ := lst_cons hl40
          clear hl40
          obtain ⟨x41, l41, rfl, hl42⟩ := lst_cons hl41
          clear hl41
          obtain ⟨x42, l42, rfl, hl43⟩ := lst_cons hl42
          clear hl42
          obtain ⟨x43, l43, rfl, hl44⟩ := lst_cons hl43
          clear hl43
          obtain ⟨x44, l44, rfl, hl45⟩ := lst_cons hl44
          clear hl44
          obtain ⟨x45, l45, rfl, hl46⟩ := lst_cons hl45
          clear hl45
          obtain ⟨x46, l46, rfl, hl47⟩ := lst_cons hl46
          clear hl46
          obtain ⟨x47, l47, rfl, hl48⟩ := lst_cons hl47
          clear hl47
          obtain ⟨x48, l48, rfl, hl49⟩ := lst_cons hl48
          clear hl48
          obtain ⟨x49, l49, rfl, hl50⟩ := lst_cons hl49
          clear hl49
          obtain ⟨x50, l50, rfl, hl51⟩ := lst_cons hl50
          clear hl50
          obtain rfl := List.eq_nil_of_length_eq_zero hl51
          have e0 := hf.st.kept 0 (by kernel_rfl)
          simp only [slotsOf, Act.eval, Array.getD_eq_getD_getElem?, List.getElem?_toArray, List.getElem?_cons_succ, List.getElem?_cons_zero, Option.getD_some] at e0
          subst e0
          have e1 := hf.st.kept 1 (by kernel_rfl)
          simp only [slotsOf, Act.eval, Array.getD_eq_getD_getElem?, List.getElem?_toArray, List.getElem?_cons_succ, List.getElem?_cons_zero, Option.getD_some] at e1
          subst e1
          have e2 := hf.st.kept 2 (by kernel_rfl)
          simp only [slotsOf, Act.eval, Array.getD_eq_getD_getElem?, List.getElem?_toArray, List.getElem?_cons_succ, List.getElem?_cons_zero, Option.getD_some] at e2
          subst e2
          have e3 := hf.st.kept 3 (by kernel_rfl)
          simp only [slotsOf, Act.eval, Array.getD_eq_getD_getElem?, List.getElem?_toArray, List.getElem?_cons_succ, List.getElem?_cons_zero, Option.getD_some] at e3
          subst e3
          have e4 := hf.st.kept 4 (by kernel_rfl)
          simp only [slotsOf, Act.eval, Array.getD_eq_getD_getElem?, List.getElem?_toArray, List.getElem?_cons_succ, List.getElem?_cons_zero, Option.getD_some] at e4
          subst e4
          have e5 := hf.st.kept 5 (by kernel_rfl)
          simp only [slotsOf, Act.eval, Array.getD_eq_getD_getElem?, List.getElem?_toArray, List.getElem?_cons_succ, List.getElem?_cons_zero, Option.getD_some] at e5
          subst e5
          have e6 := hf.st.kept 6 (by kernel_rfl)
          simp only [slotsOf, Act.eval, Array.getD_eq_getD_getElem?, List.getElem?_toArray, List.getElem?_cons_succ, List.getElem?_cons_zero, Option.getD_some] at e6
          subst e6
          have e7 := hf.st.kept 7 (by kernel_rfl)
          simp only [slotsOf, Act.eval, Array.getD_eq_getD_getElem?, List.getElem?_toArray, List.getElem?_cons_succ, List.getElem?_cons_zero, Option.getD_some] at e7
          subst e7
          have e8 := hf.st.kept 8 (by kernel_rfl)
          simp only [slotsOf, Act.eval, Array.getD_eq_getD_getElem?, List.getElem?_toArray, List.getElem?_cons_succ, List.getElem?_cons_zero, Option.getD_some] at e8
          subst e8
          have e9 := hf.st.kept 9 (by kernel_rfl)
          simp only [slotsOf, Act.eval, Array.getD_eq_getD_getElem?, List.getElem?_toArray, List.getElem?_cons_succ, List.getElem?_cons_zero, Option.getD_some] at e9
          subst e9
          have e10 := hf.st.kept 10 (by kernel_rfl)
          simp only [slotsOf, Act.eval, Array.getD_eq_getD_getElem?, List.getElem?_toArray, List.getElem?_cons_succ, List.getElem?_cons_zero, Option.getD_some] at e10
          subst e10
          have e11 := hf.st.kept 11 (by kernel_rfl)
          simp only [slotsOf, Act.eval, Array.getD_eq_getD_getElem?, List.getElem?_toArray, List.getElem?_cons_succ, List.getElem?_cons_zero, Option.getD_some] at e11
          subst e11
          have e12 := hf.st.kept 12 (by kernel_rfl)
          simp only [slotsOf, Act.eval, Array.getD_eq_getD_getElem?, List.getElem?_toArray, List.getElem?_cons_succ, List.getElem?_cons_zero, Option.getD_some] at e12
          subst e12
          have e13 := hf.st.kept 13 (by kernel_rfl)
          simp only [slotsOf, Act.eval, Array.getD_eq_getD_getElem?, List.getElem?_toArray, List.getElem?_cons_succ, List.getElem?_cons_zero, Option.getD_some] at e13
          subst e13
          have e14 := hf.st.kept 14 (by kernel_rfl)
          simp only [slotsOf, Act.eval, Array.getD_eq_getD_getElem?, List.getElem?_toArray, List.getElem?_cons_succ, List.getElem?_cons_zero, Option.getD_some] at e14
          subst e14
          have e15 := hf.st.kept 15 (by kernel_rfl)
          simp only [slotsOf, Act.eval, Array.getD_eq_getD_getElem?, List.getElem?_toArray, List.getElem?_cons_succ, List.getElem?_cons_zero, Option.getD_some] at e15
          subst e15
          have e16 := hf.st.kept 16 (by kernel_rfl)
          simp only [slotsOf, Act.eval, Array.getD_eq_getD_getElem?, List.getElem?_toArray, List.getElem?_cons_succ, List.getElem?_cons_zero, Option.getD_some] at e16
          subst e16
          have e17 := hf.st.kept 17 (by kernel_rfl)
          simp only [slotsOf, Act.eval, Array.getD_eq_getD_getElem?, List.getElem?_toArray, List.getElem?_cons_succ, List.getElem?_cons_zero, Option.getD_some] at e17
          subst e17
          have e18 := hf.st.kept 18 (by kernel_rfl)
          simp only [slotsOf, Act.eval, Array.getD_eq_getD_getElem?, List.getElem?_toArray, List.getElem?_cons_succ, List.getElem?_cons_zero, Option.getD_some] at e18
          subst e18
          have e19 := hf.st.kept 19 (by kernel_rfl)
          simp only [slotsOf, Act.eval, Array.getD_eq_getD_getElem?, List.getElem?_toArray, List.getElem?_cons_succ, List.getElem?_cons_zero, Option.getD_some] at e19
          subst e19
          have e20 := hf.st.kept 20 (by kernel_rfl)
          simp only [slotsOf, Act.eval, Array.getD_eq_getD_getElem?, List.getElem?_toArray, List.getElem?_cons_succ, List.getElem?_cons_zero, Option.getD_some] at e20
          subst e20
          have e21 := hf.st.kept 21 (by kernel_rfl)
          simp only [slotsOf, Act.eval, Array.getD_eq_getD_getElem?, List.getElem?_toArray, List.getElem?_cons_succ, List.getElem?_cons_zero, Option.getD_some] at e21
          subst e21
          have e22 := hf.st.kept 22 (by kernel_rfl)
          simp only [slotsOf, Act.eval, Array.getD_eq_getD_getElem?, List.getElem?_toArray, List.getElem?_cons_succ, List.getElem?_cons_zero, Option.getD_some] at e22
          subst e22
          have e23 := hf.st.kept 23 (by kernel_rfl)
          simp only [slotsOf, Act.eval, Array.getD_eq_getD_getElem?, List.getElem?_toArray, List.getElem?_cons_succ, List.getElem?_cons_zero, Option.getD_some] at e23
          subst e23
          have e24 := hf.st.kept 24 (by kernel_rfl)
          simp only [slotsOf, Act.eval, Array.getD_eq_getD_getElem?, List.getElem?_toArray, List.getElem?_cons_succ, List.getElem?_cons_zero, Option.getD_some] at e24
          subst e24
          have e25 := hf.st.kept 25 (by kernel_rfl)
          simp only [slotsOf, Act.eval, Array.getD_eq_getD_getElem?, List.getElem?_toArray, List.getElem?_cons_succ, List.getElem?_cons_zero, Option.getD_some] at e25
          subst e25
          have e26 := hf.st.kept 26 (by kernel_rfl)
          simp only [slotsOf, Act.eval, Array.getD_eq_getD_getElem?, List.getElem?_toArray, List.getElem?_cons_succ, List.getElem?_cons_zero, Option.getD_some] at e26
          subst e26
          have e27 := hf.st.kept 27 (by kernel_rfl)
          simp only [slotsOf, Act.eval, Array.getD_eq_getD_getElem?, List.getElem?_toArray, List.getElem?_cons_succ, List.getElem?_cons_zero, Option.getD_some] at e27
          subst e27
          have e28 := hf.st.kept 28 (by kernel_rfl)
          simp only [slotsOf, Act.eval, Array.getD_eq_getD_getElem?, List.getElem?_toArray, List.getElem?_cons_succ, List.getElem?_cons_zero, Option.getD_some] at e28
          subst e28
          have e29 := hf.st.kept 29 (by kernel_rfl)
          simp only [slotsOf, Act.eval, Array.getD_eq_getD_getElem?, List.getElem?_toArray, List.getElem?_cons_succ, List.getElem?_cons_zero, Option.getD_some] at e29
          subst e29
          have e30 := hf.st.kept 30 (by kernel_rfl)
          simp only [slotsOf, Act.eval, Array.getD_eq_getD_getElem?, List.getElem?_toArray, List.getElem?_cons_succ, List.getElem?_cons_zero, Option.getD_some] at e30
          subst e30
          have e31 := hf.st.kept 31 (by kernel_rfl)
          simp only [slotsOf, Act.eval, Array.getD_eq_getD_getElem?, List.getElem?_toArray, List.getElem?_cons_succ, List.getElem?_cons_zero, Option.getD_some] at e31
          subst e31
          have e46 := hf.st.kept 46 (by kernel_rfl)
          simp only [slotsOf, Act.eval, Array.getD_eq_getD_getElem?, List.getElem?_toArray, List.getElem?_cons_succ, List.getElem?_cons_zero, Option.getD_some] at e46
          subst e46
          have e47 := hf.st.kept 47 (by kernel_rfl)
          simp only [slotsOf, Act.eval, Array.getD_eq_getD_getElem?, List.getElem?_toArray, List.getElem?_cons_succ, List.getElem?_cons_zero, Option.getD_some] at e47
          subst e47
          have e48 := hf.st.kept 48 (by kernel_rfl)
          simp only [slotsOf, Act.eval, Array.getD_eq_getD_getElem?, List.getElem?_toArray, List.getElem?_cons_succ, List.getElem?_cons_zero, Option.getD_some] at e48
          subst e48
          have e49 := hf.st.kept 49 (by kernel_rfl)
          simp only [slotsOf, Act.eval, Array.getD_eq_getD_getElem?, List.getElem?_toArray, List.getElem?_cons_succ, List.getElem?_cons_zero, Option.getD_some] at e49
          subst e49
          have e50 := hf.st.kept 50 (by kernel_rfl)
          simp only [slotsOf, Act.eval, Array.getD_eq_getD_getElem?, List.getElem?_toArray, List.getElem?_cons_succ, List.getElem?_cons_zero, Option.getD_some] at e50
          subst e50
          obtain ⟨u, HG2⟩ := Growing.next HG.out hf.st.foot (hf.at 14 (onGrew kGoal g c0 c2 59 (done ++ [y])) rfl (by kernel_rfl)) (fun k h => hf.st.mine 14 k h)
          have GS2 := Sec.mk HG2
          have hbi2 := hbi.out
          rw [← HNN.out] at hbi2
          have hb3 := hf.st.foot.below (belD hbi2) (fun q h => by rw [HNN.out]; exact NW.out q h)
          rw [HNN.out] at hb3
          have HB2 := Sec.mk hb3
          clear hbi2 hb3
          clear hf HG2
          go_wp2
          go_roundw
          case rel => exact ⟨j + 1, by omega, by go_num, ⟨_, _, _, by rw [hTj.out]; exact GS2.out⟩, HB2⟩
          case measure => simp [intOf]; omega
        · have hj2 : j = x.body.length := by omega
          subst hj2
          have HD := HG0.done
          have hbx := HG0.box
          rw [List.take_length] at HD
          generalize c0 ++ (v :: c2) = cs9 at HD hbx
          obtain ⟨y1, y2, rfl, ⟨Y1, l1, rfl, -⟩, ⟨Y2, l2, rfl, -⟩⟩ := kClause_K (kClause.O_K HD)
          have GO : Sec (kClause.O wr (fun k => nn ≤ k ∧ k < wr.heap.size ∧ k ≠ g) x [.slice Y1 x.head.length l1, .slice Y2 x.body.length l2]) := ⟨HD⟩
          have GB := Sec.mk hbx
          have X := (box_at GB.out).2.1
          have g0 := X 0 _ rfl
          have g1 := X 1 _ rfl
          have cc1 := CC1.out
          clear HG0 HD hbx HCB HCO CCO HBO HRO X
          go_wp2_with (at_builtin; refine Kd.R_app2 kClause (W := wr) (by rfl) (.tmp 46) (.tmp 48) 27 (.agg #[.slice none 0 0, .slice none 0 0]) 48 (by rfl) Tryz.underlying27 info_Clause rfl (by decide) (by decide) _ _ x [.slice Y1 x.head.length l1, .slice Y2 x.body.length l2] (fun k => w.heap.size ≤ k ∧ k < nn) (fun k => nn ≤ k ∧ k < wr.heap.size ∧ k ≠ g) (by rfl) (by rfl) (by rfl) HRW.out GO.out (fun k h1 _ h2 => by have h3 := h1.1; have h4 := h2.2; omega) hL.out ?_; intro v2 w2 hR2 hg2 hr2; have R2 := Sec.mk hR2; have F2 : Sec (Foot (fun k => w.heap.size ≤ k ∧ k < nn) wr w2) := ⟨Foot.grown2 (Foot.refl _ _) hg2 (fun k e => .inl (hr2 k e))⟩; clear hR2 hg2 hr2)
          go_roundw
          case rel => exact ⟨k + 1, by omega, by go_num, ⟨by rw [hT.out]; exact Kd.R_mono R2.out (fun q h _ => by
            have h2 := HSZ.out
            rcases h with h | h | h
            · exact h.1
            · exact Nat.le_trans hzb h.1
            · exact Nat.le_trans h2 h)⟩, ⟨F2.out.below HBW.out (fun q h => h.1)⟩⟩
          case measure => simp [intOf]; omega
    · have hfin : Sec (t.take k = t) := ⟨List.take_of_length_le (by omega)⟩
      rw [hfin.out] at hR
      go_wp2
      go_ret
      exact ⟨_, rfl, hR.out, hb.out⟩
end Go.Proofs.YtenigopoknajgaaGreatDoor
