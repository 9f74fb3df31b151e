/- Contracts: a program that is copied (the program); and what goes with it. -/
import Derived.Test.YtgiobpggonceeaaGreatDoorXw5
import Derived.Test.YtgiobpggonceeaaGreatDoorXw8
namespace Go.Proofs.YtgiobpggonceeaaGreatDoor
section
open Go.RowKit
set_option linter.unusedVariables false
set_option maxRecDepth 100000
theorem gf_clauses : Kd.GFld kProg (Kd.slice 25 kClause (by decide)) 0 (fun x => x.clauses) (fun x y => { x with clauses := y }) := Kd.GFld.iso _ (Kd.GFld.fst (Kd.GFld.self _)) (fun _ _ => rfl)
theorem kProg_of {w : World} {S1 S2 : Nat → Prop} {x : Prog} {v1 v2 : Value} (h1 : kClause.R w S1 v1 x.clauses) (h2 : kPlace.R w S2 v2 x.places) (d : ∀ k, S1 k → ¬ S2 k) : kProg.O w (fun k => S1 k ∨ S2 k) x [v1, v2] :=
  ⟨S1, S2, [v1], [v2], rfl, fun k h => ⟨.inl h, d k h⟩, fun k h => .inr h, ⟨v1, rfl, h1⟩, ⟨v2, rfl, h2⟩⟩
set_option maxHeartbeats 4000000 in
theorem copiedProg_i (p : Prog) (cs : List Value) (ok0 : Nat → Prop) (w : World) (hK0 : kProg.K w ok0 p cs) :
    Calls Tryz.prog 71 #[.agg cs.toArray] w fun e w' => ∃ c : List Value, e = .returned (.agg c.toArray) ∧ kProg.O w' (fun k => w.heap.size ≤ k) p c ∧ Below w.heap.size w w' := by
  obtain ⟨ok, hok, hK⟩ : ∃ ok : Nat → Prop, (∀ k, ok k → k < w.heap.size) ∧ kProg.K w ok p cs := ⟨fun k => ok0 k ∧ k < w.heap.size, fun k h => h.2, kProg.K_move (fun k h1 h2 => ⟨⟨h1, h2⟩, rfl⟩) hK0⟩
  clear hK0
  obtain ⟨v0, v1, rfl, h0, h1⟩ := kProg_K hK
  have HOK := Sec.mk hok
  have V1 := Sec.mk (Kd.V_below h1 (belA (belA (Below.refl w.heap.size w) (.cells #[v0, v1] 28)) (.cells #[.slice none 0 0, .slice none 0 0] 28)) (by decide))
  obtain ⟨E0, m0, rfl, -, -, l0, hC0, -⟩ := h0
  obtain ⟨E1, m1, rfl, -⟩ := h1
  have B0 := Sec.mk (belA (belA (Below.refl w.heap.size w) (.cells #[.slice E0 p.clauses.length m0, .slice E1 p.places.length m1] 28)) (.cells #[.slice none 0 0, .slice none 0 0] 28))
  have HC := Sec.mk hC0
  have P0 := Sec.mk (box2 w (.cells #[.slice E0 p.clauses.length m0, .slice E1 p.places.length m1] 28) (.cells #[.slice none 0 0, .slice none 0 0] 28)).1
  have P1 := Sec.mk (box2 w (.cells #[.slice E0 p.clauses.length m0, .slice E1 p.places.length m1] 28) (.cells #[.slice none 0 0, .slice none 0 0] 28)).2
  have X := (box_at P0.out).2.1
  have y0 := X 0 _ rfl
  have y1 := X 1 _ rfl
  have Z0 : Sec (((w.alloc (.cells #[.slice E0 p.clauses.length m0, .slice E1 p.places.length m1] 28)).alloc (.cells #[.slice none 0 0, .slice none 0 0] 28)).heap.size = w.heap.size + 2) := ⟨by simp⟩
  clear hK hC0 hok X
  have hu := Tryz.underlying28
  have hu2 := Tryz.underlying100
  have hu3 := Tryz.underlying113
  go_enter Tryz.func71, Tryz.ntmps71
  go_wp2_with (go_at_call 156; refine (clonePlaces_c _ p.places ok _ V1.out).mono ?_; rintro e w1 ⟨u, rfl, hR, hb⟩; obtain ⟨A1, n1, rfl, -, -⟩ := Kd.R_form hR; have R1 : Sec (kPlace.R w1 (fun k => w.heap.size + 2 ≤ k ∧ k < w1.heap.size) (.slice A1 p.places.length n1) p.places) := ⟨Kd.R_mono hR (fun k h1 h2 => ⟨by rw [← Z0.out]; exact h1, h2⟩)⟩; have B1 := Sec.mk (bel B0.out hb); have Q0 := Sec.mk ((hb.block _ (Array.getElem?_eq_some_iff.1 P0.out).1).trans P0.out); have Q1 := Sec.mk ((hb.block _ (Array.getElem?_eq_some_iff.1 P1.out).1).trans P1.out); have HZ1 : Sec (w.heap.size + 2 ≤ w1.heap.size) := ⟨by rw [← Z0.out]; exact hb.size⟩; have X := (box_cells (belA (Below.refl w1.heap.size w1) (.cells #[.slice none 0 0, .slice A1 p.places.length n1] 28)) Q0.out).2.1; have s0 := X 0 _ rfl; clear hb hR X)
  obtain ⟨c0, c2, v, Sr, Sc, hl0, -, HG0⟩ := Growing.start (w := w1.alloc (.cells #[.slice none 0 0, .slice A1 p.places.length n1] 28)) (X := w1.heap.size) (n0 := w.heap.size + 2) gf_clauses (heap_alloc_new w1 _) (kProg_of (x := ⟨[], p.places⟩) (Kd.R_nil kClause _ (fun _ => False)) (Kd.R_below R1.out (belA (Below.refl _ _) _)) (fun k h => h.elim)) (fun k hk => by rcases hk with hk | hk; exact hk.elim; exact ⟨hk.1, by omega⟩) HZ1.out
  have GS := Sec.mk HG0
  have HBS := Sec.mk (belA B1.out (.cells #[.slice none 0 0, .slice A1 p.places.length n1] 28))
  have QS := Sec.mk (box_cells (belA (Below.refl w1.heap.size w1) (.cells #[.slice none 0 0, .slice A1 p.places.length n1] 28)) Q1.out).1
  have HGZ := HZ1
  clear HG0 R1 B1 Q0 Q1 P0 P1 s0 y0 y1 V1 B0
  generalize w1.alloc (.cells #[.slice none 0 0, .slice A1 p.places.length n1] 28) = w2 at *
  generalize w1.heap.size = go at *
  go_loopw [16] (fun iv wr => ∃ k : Nat, k ≤ p.clauses.length ∧ iv = .int .i64 k ∧ Sec (∃ v Sr Sc, Growing kProg kClause 25 (by decide) (fun y => (⟨y, p.places⟩ : Prog)) go (w.heap.size + 2) c0 c2 28 wr v (p.clauses.take k) Sr Sc) ∧ Sec (Below w.heap.size w wr ∧ wr.heap[w.heap.size + 1]? = some (.cells #[.slice none 0 0, .slice none 0 0] 28 (0, 0)))) (fun iv _ => p.clauses.length - (intOf iv).toNat)
  case atStart => exact ⟨0, Nat.zero_le _, rfl, ⟨_, _, _, GS.out⟩, ⟨HBS.out, QS.out⟩⟩
  case round =>
    clear GS HBS QS
    obtain ⟨k, hk, rfl, hG, hb⟩ := hrel
    obtain ⟨vO, SrO, ScO, HGO0⟩ := hG.out
    clear hG
    by_cases hlt : k < p.clauses.length
    · obtain ⟨b, off, cs, rfl, hob, hK, hc⟩ := Kd.C_get (Kd.C_below HC.out hb.out.1 (by decide)) (List.getElem?_eq_getElem hlt)
      have hT : Sec (p.clauses.take (k + 1) = p.clauses.take k ++ [p.clauses[k]]) := ⟨List.take_succ_eq_append_getElem hlt⟩
      have hL : Sec ((p.clauses.take k).length + 1 ≤ 1073741824) := ⟨by rw [List.length_take]; omega⟩
      obtain ⟨A9, c9, rfl, -⟩ := Kd.R_form HGO0.row
      generalize p.clauses[k] = x at *
      generalize p.clauses.take k = tk at *
      obtain ⟨va, vb, rfl, hva, hvb⟩ := kClause_K hK
      obtain ⟨Ea, ma, rfl, -⟩ := id hva
      obtain ⟨Eb, mb, rfl, -, -, lb, hCb, -⟩ := id hvb
      have cc0 : wr.cell? ⟨b, off + k * 2, none⟩ = some (.slice Ea x.head.length ma) := hc 0 _ rfl
      have cc1 : wr.cell? ⟨b, off + k * 2 + 1, none⟩ = some (.slice Eb x.body.length mb) := hc 1 _ rfl
      have i0 : (0 : Int) ≤ (k : Int) := by omega
      have i1 : (k : Int) < (p.clauses.length : Int) := by omega
      have hzb := hb.out.1.size
      have hbl := HOK.out b hob
      have T0 : Sec True := ⟨trivial⟩
      have HVA := Sec.mk (Kd.V_below hva (belA (Below.refl wr.heap.size wr) (.cells #[.slice Ea x.head.length ma, .slice Eb x.body.length mb] 113)) (by decide))
      have PC := Sec.mk (heap_alloc_new wr (.cells #[.slice Ea x.head.length ma, .slice Eb x.body.length mb] 113))
      have HBO := Sec.mk (fun (W : World) (h : Below wr.heap.size wr W) => bel hb.out.1 h)
      have HCO := Sec.mk (fun (W : World) (h : Below wr.heap.size wr W) => Kd.C_below hCb h (by decide))
      have HGO := Sec.mk (fun (W : World) (h : Below wr.heap.size wr W) => HGO0.below h)
      have HQO := Sec.mk (fun (W : World) (h : Below wr.heap.size wr W) => (box_cells h hb.out.2).1)
      have HGX : Sec (go < wr.heap.size ∧ w.heap.size + 2 ≤ go ∧ (∀ q, SrO q ∨ ScO q → w.heap.size + 2 ≤ q ∧ q < wr.heap.size ∧ q ≠ go)) := ⟨(Array.getElem?_eq_some_iff.1 HGO0.box).1, HGO0.at_, fun q h => HGO0.mine q h⟩
      clear hK hc hva hvb hCb HGO0
      go_wp2_with (clear T0; go_at_call 72; have T1 : Sec True := ⟨trivial⟩; refine (cloneCells_c _ x.head ok _ HVA.out).mono ?_; rintro e w3 ⟨u, rfl, hR, hb3⟩; obtain ⟨A1, n1, rfl, -, -⟩ := Kd.R_form hR; have HR1' : Sec (kCell.R w3 (fun k => wr.heap.size ≤ k ∧ k < w3.heap.size) (.slice A1 x.head.length n1) x.head) := ⟨Kd.R_mono hR (fun k h1 h2 => ⟨by have h9 : (wr.alloc (.cells #[.slice Ea x.head.length ma, .slice Eb x.body.length mb] 113)).heap.size ≤ k := h1; simp at h9; omega, h2⟩)⟩; have HB1 := Sec.mk (bel (belA (Below.refl wr.heap.size wr) (.cells #[.slice Ea x.head.length ma, .slice Eb x.body.length mb] 113)) hb3); have PC3 := Sec.mk ((hb3.block _ (Array.getElem?_eq_some_iff.1 PC.out).1).trans PC.out); have X := (box_cells (belA (Below.refl w3.heap.size w3) (.cells #[.slice A1 x.head.length n1, .slice none 0 0] 113)) PC3.out).2.1; have s1 := X 1 _ rfl; clear hR hb3 X)
      have hn1z := HB1.out.size
      obtain ⟨c0', c2', v, Sr, Sc, hl0', -, HG0⟩ := Growing.start (w := w3.alloc (.cells #[.slice A1 x.head.length n1, .slice none 0 0] 113)) (X := w3.heap.size) (n0 := wr.heap.size) gf_body (heap_alloc_new w3 _) (kClause_of (x := ⟨x.head, []⟩) (Kd.R_below HR1'.out (belA (Below.refl _ _) _)) (Kd.R_nil kGoal _ (fun _ => False)) (fun k h => id)) (fun k hk => by rcases hk with hk | hk; exact ⟨hk.1, by omega⟩; exact hk.elim) hn1z
      have GS := Sec.mk HG0
      have HBS := Sec.mk (belA HB1.out (.cells #[.slice A1 x.head.length n1, .slice none 0 0] 113))
      have HGZ' : Sec (wr.heap.size ≤ w3.heap.size) := ⟨hn1z⟩
      clear HG0 HR1' HB1 cc0 cc1 HVA hn1z PC PC3 s1 hb
      generalize w3.alloc (.cells #[.slice A1 (List.length x.head) n1, .slice none 0 0] 113) = w4 at *
      generalize w3.heap.size = g at *
      generalize hnn : wr.heap.size = nn at *
      have HNN := Sec.mk hnn
      clear hnn
      go_loopw [27] (fun iv ws => ∃ j : Nat, j ≤ x.body.length ∧ iv = .int .i64 j ∧ Sec (∃ v Sr Sc, Growing kClause kGoal 111 (by decide) (fun y => (⟨x.head, y⟩ : Clause)) g nn c0' c2' 113 ws v (x.body.take j) Sr Sc) ∧ Sec (Below nn wr ws)) (fun iv _ => x.body.length - (intOf iv).toNat)
      case atStart => exact ⟨0, Nat.zero_le _, rfl, ⟨_, _, _, by rw [List.take_zero]; exact GS.out⟩, HBS⟩
      case round =>
        clear GS HBS
        obtain ⟨j, hj, rfl, hG, hbi⟩ := hrel
        have HCB := Sec.mk (HCO.out _ hbi.out)
        have HBW := Sec.mk (HBO.out _ hbi.out)
        have HSN : Sec (nn ≤ wr.heap.size) := ⟨by have := hbi.out.size; rwa [HNN.out] at this⟩
        have HSZ := Sec.mk HBW.out.size
        obtain ⟨v, Sr, Sc, HG0⟩ := hG.out
        clear hG
        by_cases hlt2 : j < x.body.length
        · obtain ⟨Av, nv, rfl, -, -⟩ := Kd.R_form HG0.row
          obtain ⟨b2, off2, ys, rfl, hob2, hKy, hcy⟩ := Kd.C_get HCB.out (List.getElem?_eq_getElem hlt2)
          have hTj : Sec (x.body.take (j + 1) = x.body.take j ++ [x.body[j]]) := ⟨List.take_succ_eq_append_getElem hlt2⟩
          have hLd : Sec ((x.body.take j).length + 1 ≤ 1073741824) := ⟨by rw [List.length_take]; omega⟩
          generalize x.body[j] = y at *
          generalize x.body.take j = done at *
          have HYK0 := hKy
          obtain ⟨ya, yb, yc, rfl, hya, hyb, hyc⟩ := kGoal_K hKy
          have a0 : wr.cell? ⟨b2, off2 + j * 4, none⟩ = some (.int .i64 y.kind) := hcy 0 _ rfl
          have a1 : wr.cell? ⟨b2, off2 + j * 4 + 1, none⟩ = some ya := hcy 1 _ rfl
          have a2 : wr.cell? ⟨b2, off2 + j * 4 + 2, none⟩ = some yb := hcy 2 _ rfl
          have a3 : wr.cell? ⟨b2, off2 + j * 4 + 3, none⟩ = some yc := hcy 3 _ rfl
          obtain ⟨Y1, l1, rfl, -⟩ := hya
          obtain ⟨Y2, l2, rfl, -⟩ := hyb
          obtain ⟨Y3, l3, rfl, -⟩ := hyc
          have WB := belA (Below.refl wr.heap.size wr) (.cells #[.int .i64 y.kind, .slice Y1 y.a.length l1, .slice Y2 y.b.length l2, .slice Y3 y.c.length l3] 100)
          have HYK := Sec.mk (Kd.K_below HYK0 WB)
          have HYC : Sec (∀ i u, ([.int .i64 y.kind, .slice Y1 y.a.length l1, .slice Y2 y.b.length l2, .slice Y3 y.c.length l3] : List Value)[i]? = some u → (wr.alloc (.cells #[.int .i64 y.kind, .slice Y1 y.a.length l1, .slice Y2 y.b.length l2, .slice Y3 y.c.length l3] 100)).cell? ⟨wr.heap.size, i, none⟩ = some u) := ⟨fun i u h => (box_at (heap_alloc_new wr (.cells #[.int .i64 y.kind, .slice Y1 y.a.length l1, .slice Y2 y.b.length l2, .slice Y3 y.c.length l3] 100))).2.1 i u (by simpa using h)⟩
          have HG := Sec.mk (HG0.below WB)
          have nOK : ∀ q, ok q → ¬ (q = g ∨ Sc q) := fun q h1 h2 => by
            have h3 := HOK.out q h1
            have h4 := HGZ'.out
            rcases h2 with h2 | h2
            · omega
            · have := (HG0.mine q (.inr h2)).1; omega
          have NW : Sec (∀ q, (q = g ∨ Sc q) → nn ≤ q) := ⟨fun q h => by
            rcases h with h | h
            · have := HGZ'.out; omega
            · exact (HG0.mine q (.inr h)).1⟩
          have nB2 : ¬ (wr.heap.size = g ∨ Sc wr.heap.size) := fun h => by
            rcases h with h | h
            · have := (Array.getElem?_eq_some_iff.1 HG0.box).1; omega
            · have := (HG0.mine _ (.inr h)).2.1; omega
          have NOK := Sec.mk nOK
          have NB2 := Sec.mk nB2
          have hbi2 := hbi.out
          rw [← HNN.out] at hbi2
          have HBI := Sec.mk (belA hbi2 (.cells #[.int .i64 y.kind, .slice Y1 y.a.length l1, .slice Y2 y.b.length l2, .slice Y3 y.c.length l3] 100))
          have j0 : (0 : Int) ≤ (j : Int) := by omega
          have j1 : (j : Int) < (x.body.length : Int) := by omega
          clear HG0 HYK0 hKy hcy HCB HCO HBO nOK nB2 WB hbi2
          go_wp2
          clear a0 a1 a2 a3
          generalize wr.alloc (.cells #[.int .i64 y.kind, .slice Y1 y.a.length l1, .slice Y2 y.b.length l2, .slice Y3 y.c.length l3] 100) = wq at *
          generalize wr.heap.size = gb at *
          have nOK := NOK.out
          have nB2 := NB2.out
          have hl0 := hl0'
          refine wp_region_lists [[31], [32], [33], [34], [35], [36], [37], [], [], []]
            [fun val _ _ => val 31 = .pointer (some ⟨g, 1, none⟩),
              fun val _ _ => val 32 = (.slice Av done.length nv),
              fun val _ _ => val 33 = .agg ([.int .i64 y.kind, .slice Y1 y.a.length l1, .slice Y2 y.b.length l2, .slice Y3 y.c.length l3]).toArray,
              onO kGoal 34 y,
              onOne kGoal 35 y,
              onR kGoal 36 (done ++ [y]),
              fun val _ _ => val 37 = .pointer (some ⟨g, 1, none⟩),
              onGrew kGoal g c0' c2' 113 (done ++ [y]),
              onCells g (c0' ++ ((.slice Av done.length nv) :: c2')).toArray 113,
              onRc kGoal (.slice Av done.length nv) done]
            [[], [], [], [], [3], [9, 4], [], [8, 5], [], []] 2 (fun q => q = g ∨ Sc q) (fun i k => (i = 8 ∧ k = g) ∨ (i = 9 ∧ Sc k)) (by kernel_rfl) ⟨by kernel_rfl, by kernel_rfl, by kernel_rfl, by kernel_rfl, by kernel_rfl⟩
            (.cons (stab_val 31 (fun v => v = .pointer (some ⟨g, 1, none⟩))) (.cons (stab_val 32 (fun v => v = (.slice Av done.length nv))) (.cons (stab_val 33 (fun v => v = .agg ([.int .i64 y.kind, .slice Y1 y.a.length l1, .slice Y2 y.b.length l2, .slice Y3 y.c.length l3]).toArray)) (.cons (stab_O kGoal 34 y) (.cons (stab_one kGoal 35 y) (.cons (stab_R kGoal 36 (done ++ [y])) (.cons (stab_val 37 (fun v => v = .pointer (some ⟨g, 1, none⟩))) (.cons (stab_grew kGoal g c0' c2' 113 (done ++ [y])) (.cons (stab_cells g (c0' ++ ((.slice Av done.length nv) :: c2')).toArray 113) (.cons (stab_Rc kGoal (.slice Av done.length nv) done) .nil))))))))))
            (fun i j k h1 h2 => by rcases h1 with ⟨a1, b1⟩ | ⟨a1, b1⟩ <;> rcases h2 with ⟨a2, b2⟩ | ⟨a2, b2⟩ <;> first | omega | (exact ((HG.out.mine k (.inr (by assumption))).2.2 (by assumption)).elim)) (fun i k h => by rcases h with ⟨rfl, rfl⟩ | ⟨rfl, h⟩ <;> first | exact ⟨by decide, .inl rfl, (Array.getElem?_eq_some_iff.1 HG.out.box).1⟩ | exact ⟨by decide, .inr h, (HG.out.mine k (.inr h)).2.1⟩) (fun i h1 h2 => by
              rcases (show i = 8 ∨ i = 9 by simp at h1 h2; omega) with rfl | rfl
              · exact ⟨HG.out.box, .inl ⟨rfl, rfl⟩⟩
              · exact Kd.R_mono (Kd.R_below HG.out.row (belD (Below.refl _ _))) (fun q h _ => .inr ⟨rfl, h⟩)) (.cons ?_ (.cons ?_ (.cons ?_ (.cons ?_ (.cons ?_ (.cons ?_ (.cons ?_ (.cons ?_ .nil)))))))) ?_
          · intro a W own hfor huse hap hmi hF K hK
            have e6 : a.eval (.tmp 6) = .pointer (some ⟨g, 0, none⟩) := hfor 6 (by kernel_rfl)
            refine op_val (.pointer (some ⟨g, 1, none⟩)) W rfl ?_ (hK _ _ (post_pure ?_))
            · clear hfor huse hap hmi hK hF
              generalize a.eval = ρ at *
              go_simp
            · exact (if_pos rfl)
          · intro a W own hfor huse hap hmi hF K hK
            have e31 : a.eval (.tmp 31) = .pointer (some ⟨g, 1, none⟩) := huse 0 (by kernel_rfl)
            have q0 := grow_cell (huse 8 (by kernel_rfl) : onCells g (c0' ++ ((.slice Av done.length nv) :: c2')).toArray 113 (slotsOf a) (own 8) W).1 hl0
            refine op_val ((.slice Av done.length nv)) W rfl ?_ (hK _ _ (post_pure ?_))
            · clear hfor huse hap hmi hK hF
              generalize a.eval = ρ at *
              go_simp
            · exact (if_pos rfl)
          · intro a W own hfor huse hap hmi hF K hK
            have e8 : a.eval (.tmp 8) = .pointer (some ⟨gb, 0, none⟩) := hfor 8 (by kernel_rfl)
            have hu_33 := hu2
            have hc : ∀ i u, ([.int .i64 y.kind, .slice Y1 y.a.length l1, .slice Y2 y.b.length l2, .slice Y3 y.c.length l3] : List Value)[i]? = some u → W.cell? ⟨gb, 0 + i, none⟩ = some u := fun i u h => by rw [Nat.zero_add]; exact foot_cell hF nB2 (HYC.out i u h)
            refine step_load (cs := [.int .i64 y.kind, .slice Y1 y.a.length l1, .slice Y2 y.b.length l2, .slice Y3 y.c.length l3]) rfl 100 (.tmp 8) rfl e8 hc hu_33 rfl (by kernel_rfl) (hK _ _ (post_pure (if_pos rfl)))
          · intro a W own hfor huse hap hmi hF K hK
            have e33 : a.eval (.tmp 33) = .agg ([.int .i64 y.kind, .slice Y1 y.a.length l1, .slice Y2 y.b.length l2, .slice Y3 y.c.length l3]).toArray := huse 2 (by kernel_rfl)
            have hKx := kGoal.K_move (show Keeps wq W ok ok from fun q h1 h2 => ⟨h1, hF.block q h2 (nOK q h1)⟩) HYK.out
            have efn : a.eval (.func 157) = .func (.func 157) #[] #[] := rfl
            refine op_call (f := 157) (args := #[.agg ([.int .i64 y.kind, .slice Y1 y.a.length l1, .slice Y2 y.b.length l2, .slice Y3 y.c.length l3]).toArray]) (fun v w1 => ∃ c : List Value, v = .agg c.toArray ∧ kGoal.O w1 (fun k => W.heap.size ≤ k) y c ∧ Below W.heap.size W w1) rfl ?_ ?_ (fun v w1 h => ?_)
            · clear hfor huse hap hmi hK hF
              generalize a.eval = ρ at *
              go_simp
            · exact (copied_i y _ ok W hKx).mono (by rintro e w1 ⟨c, rfl, h1, h2⟩; exact ⟨_, rfl, c, rfl, h1, h2⟩)
            · obtain ⟨c, rfl, h1, h2⟩ := h
              exact hK _ _ (post_new h2 ⟨c, if_pos rfl, kGoal.O_mono h1 (fun k h3 h4 => ⟨h3, h4⟩)⟩)
          · intro a W own hfor huse hap hmi hF K hK
            obtain ⟨cs3, e34, r3⟩ := (huse 3 (by kernel_rfl) : onO kGoal 34 y (slotsOf a) (own 3) W)
            have e34 : a.eval (.tmp 34) = .agg cs3.toArray := e34
            have hlen := kGoal.K_len (kGoal.O_K r3)
            refine step_box rfl 111 100 (.tmp 34) rfl e34 Tryz.underlying111 info_Goal hlen (by decide) (by decide) (hK _ _ ⟨fun k => own 3 k ∨ (W.heap.size ≤ k ∧ k < (W.alloc (.cells cs3.toArray 100)).heap.size), Foot.of_below (belA (Below.refl _ _) _), ?_, fun k h => Or.imp (fun h => ⟨3, by decide, h⟩) id h⟩)
            refine ⟨W.heap.size, cs3, if_pos rfl, heap_alloc_new W _, .inr ⟨Nat.le_refl _, by simp⟩, Kd.O_mono (Kd.O_below r3 (belA (Below.refl _ _) _)) (fun k h _ => ⟨.inl h, fun e => by have h1 := (hmi 3 k h).2; omega⟩)⟩
          · intro a W own hfor huse hap hmi hF K hK
            have e32 : a.eval (.tmp 32) = (.slice Av done.length nv) := huse 1 (by kernel_rfl)
            have r9 := (huse 9 (by kernel_rfl) : onRc kGoal (.slice Av done.length nv) done (slotsOf a) (own 9) W)
            obtain ⟨g, cs, e35, hbx, hSg, rb⟩ := (huse 4 (by kernel_rfl) : onOne kGoal 35 y (slotsOf a) (own 4) W)
            have e35 : a.eval (.tmp 35) = .slice (some ⟨g, 0, none⟩) 1 1 := e35
            refine step_one kGoal rfl (.tmp 32) (.tmp 35) 111 (.agg #[.int .i64 0, .slice none 0 0, .slice none 0 0, .slice none 0 0]) 80 rfl Tryz.underlying111 info_Goal rfl (by decide) (by decide) e32 e35 r9 hbx rb (fun k h1 h2 => by have := hap 4 9 k h1.1 h2; omega) hLd.out (fun v1 w1 hR hF1 => hK _ _ ⟨fun k => own 9 k ∨ own 4 k ∨ (W.heap.size ≤ k ∧ k < w1.heap.size), Foot.mono hF1 (fun k h => ⟨9, by decide, h⟩), ?_, ?_⟩)
            · show kGoal.R _ _ (if _ then _ else _) (done ++ [y])
              rw [if_pos rfl]
              exact Kd.R_mono hR (fun k h _ => h.imp id (fun h => h.imp (fun h => h.1) id))
            · intro k h
              rcases h with h | h | h
              · exact .inl ⟨9, by decide, h⟩
              · exact .inl ⟨4, by decide, h⟩
              · exact .inr h
          · intro a W own hfor huse hap hmi hF K hK
            have e6 : a.eval (.tmp 6) = .pointer (some ⟨g, 0, none⟩) := hfor 6 (by kernel_rfl)
            refine op_val (.pointer (some ⟨g, 1, none⟩)) W rfl ?_ (hK _ _ (post_pure ?_))
            · clear hfor huse hap hmi hK hF
              generalize a.eval = ρ at *
              go_simp
            · exact (if_pos rfl)
          · intro a W own hfor huse hap hmi hF K hK
            have e37 : a.eval (.tmp 37) = .pointer (some ⟨g, 1, none⟩) := huse 6 (by kernel_rfl)
            obtain ⟨hb, hSX⟩ := (huse 8 (by kernel_rfl) : onCells g (c0' ++ ((.slice Av done.length nv) :: c2')).toArray 113 (slotsOf a) (own 8) W)
            have r5 : kGoal.R W (own 5) (a.eval (.tmp 36)) (done ++ [y]) := huse 5 (by kernel_rfl)
            obtain ⟨A5, n5, e36, -, -⟩ := Kd.R_form r5
            rw [e36] at r5
            have q0 := grow_cell hb hl0
            have f0 := (box_at hb).2.2 1
            have F : Foot (fun k => k = g) W (W.setCell ⟨g, 1, none⟩ (.slice A5 (done ++ [y]).length n5)) := Foot.set (Foot.refl (fun k => k = g) W) (.inl rfl) _ _
            refine op_skip (W.setCell ⟨g, 1, none⟩ (.slice A5 (done ++ [y]).length n5)) rfl ?_ (hK _ _ ⟨fun k => own 8 k ∨ own 5 k, Foot.mono F (fun k e => ⟨8, by decide, e ▸ hSX⟩), ?_, ?_⟩)
            · clear hfor huse hap hmi hK hF hb F r5
              generalize a.eval = ρ at *
              go_simp
            · exact ⟨_, grow_set hb hl0 _, .inl hSX, Kd.R_mono (F.R r5 (fun k h1 h2 => by have := hap 8 5 g hSX (h2 ▸ h1); omega)) (fun k h _ => ⟨.inr h, fun e => by have := hap 8 5 g hSX (e ▸ h); omega⟩)⟩
            · intro k h
              left
              rcases h with h | h
              · exact ⟨8, by decide, h⟩
              · exact ⟨5, by decide, h⟩
          intro a' W own hf
          have hsz := hf.st.size
          have hdf := hf.st.rest
          obtain ⟨⟨l⟩, df⟩ := a'
          have hl0 : l.length = 47 := hsz
          clear hsz
          obtain rfl : df = [] := hdf
          obtain ⟨x0, l0, rfl, hl1⟩ := lst_cons hl0
          clear hl0
          obtain ⟨x1, l1, rfl, hl2⟩ := lst_cons hl1
          clear hl1
          obtain ⟨x2, l2, rfl, hl3⟩ := lst_cons hl2
          clear hl2
          obtain ⟨x3, l3, rfl, hl4⟩ := lst_cons hl3
          clear hl3
          obtain ⟨x4, l4, rfl, hl5⟩ := lst_cons hl4
          clear hl4
          obtain ⟨x5, l5, rfl, hl6⟩ := lst_cons hl5
          clear hl5
          obtain ⟨x6, l6, rfl, hl7⟩ := lst_cons hl6
          clear hl6
          obtain ⟨x7, l7, rfl, hl8⟩ := lst_cons hl7
          clear hl7
          obtain ⟨x8, l8, rfl, hl9⟩ := lst_cons hl8
          clear hl8
          obtain ⟨x9, l9, rfl, hl10⟩ := lst_cons hl9
          clear hl9
          obtain ⟨x10, l10, rfl, hl11⟩ := lst_cons hl10
          clear hl10
          obtain ⟨x11, l11, rfl, hl12⟩ := lst_cons hl11
          clear hl11
          obtain ⟨x12, l12, rfl, hl13⟩ := lst_cons hl12
          clear hl12
          obtain ⟨x13, l13, rfl, hl14⟩ := lst_cons hl13
          clear hl13
          obtain ⟨x14, l14, rfl, hl15⟩ := lst_cons hl14
          clear hl14
          obtain ⟨x15, l15, rfl, hl16⟩ := lst_cons hl15
          clear hl15
          obtain ⟨x16, l16, rfl, hl17⟩ := lst_cons hl16
          clear hl16
          obtain ⟨x17, l17, rfl, hl18⟩ := lst_cons hl17
          clear hl17
          obtain ⟨x18, l18, rfl, hl19⟩ := lst_cons hl18
          clear hl18
          obtain ⟨x19, l19, rfl, hl20⟩ := lst_cons hl19
          clear hl19
          obtain ⟨x20, l20, rfl, hl21⟩ := lst_cons hl20
          clear hl20
          obtain ⟨x21, l21, rfl, hl22⟩ := lst_cons hl21
          clear hl21
          obtain ⟨x22, l22, rfl, hl23⟩ := lst_cons hl22
          clear hl22
          obtain ⟨x23, l23, rfl, hl24⟩ := lst_cons hl23
          clear hl23
          obtain ⟨x24, l24, rfl, hl25⟩ := lst_cons hl24
          clear hl24
          obtain ⟨x25, l25, rfl, hl26⟩ := lst_cons hl25
          clear hl25
          obtain ⟨x26, l26, rfl, hl27⟩ := lst_cons hl26
          clear hl26
          obtain ⟨x27, l27, rfl, hl28⟩ := lst_cons hl27
          clear hl27
          obtain ⟨x28, l28, rfl, hl29⟩ := lst_cons hl28
          clear hl28
          obtain ⟨x29, l29, rfl, hl30⟩ := lst_cons hl29
          clear hl29
          obtain ⟨x30, l30, rfl, hl31⟩ := lst_cons hl30
          clear hl30
          obtain ⟨x31, l31, rfl, hl32⟩ := lst_cons hl31
          clear hl31
          obtain ⟨x32, l32, rfl, hl33⟩ := lst_cons hl32
          clear hl32
          obtain ⟨x33, l33, rfl, hl34⟩ := lst_cons hl33
          clear hl33
          obtain ⟨x34, l34, rfl, hl35⟩ := lst_cons hl34
          clear hl34
          obtain ⟨x35, l35, rfl, hl36⟩ := lst_cons hl35
          clear hl35
          obtain ⟨x36, l36, rfl, hl37⟩ := lst_cons hl36
          clear hl36
          obtain ⟨x37, l37, rfl, hl38⟩ := lst_cons hl37
          clear hl37
          obtain ⟨x38, l38, rfl, hl39⟩ := lst_cons hl38
          clear hl38
          obtain ⟨x39, l39, rfl, hl40⟩ := lst_cons hl39
          clear hl39
          obtain ⟨x40, l40, rfl, hl41⟩ := lst_cons hl40
          clear hl40
          obtain ⟨x41, l41, rfl, hl42⟩ := lst_cons hl41
          clear hl41
          obtain ⟨x42, l42, rfl, hl43⟩ := lst_cons hl42
          clear hl42
          obtain ⟨x43, l43, rfl, hl44⟩ := lst_cons hl43
          clear hl43
          obtain ⟨x44, l44, rfl, hl45⟩ := lst_cons hl44
          clear hl44
          obtain ⟨x45, l45, rfl, hl46⟩ := lst_cons hl45
          clear hl45
          obtain ⟨x46, l46, rfl, hl47⟩ := lst_cons hl46
          clear hl46
          obtain rfl := List.eq_nil_of_length_eq_zero hl47
          have e0 := hf.st.kept 0 (by kernel_rfl)
          simp only [slotsOf, Act.eval, Array.getD_eq_getD_getElem?, List.getElem?_toArray, List.getElem?_cons_zero, Option.getD_some] at e0
          subst e0
          have e1 := hf.st.kept 1 (by kernel_rfl)
          simp only [slotsOf, Act.eval, Array.getD_eq_getD_getElem?, List.getElem?_toArray, List.getElem?_cons_succ, List.getElem?_cons_zero, Option.getD_some] at e1
          subst e1
          have e2 := hf.st.kept 2 (by kernel_rfl)
          simp only [slotsOf, Act.eval, Array.getD_eq_getD_getElem?, List.getElem?_toArray, List.getElem?_cons_succ, List.getElem?_cons_zero, Option.getD_some] at e2
          subst e2
          have e3 := hf.st.kept 3 (by kernel_rfl)
          simp only [slotsOf, Act.eval, Array.getD_eq_getD_getElem?, List.getElem?_toArray, List.getElem?_cons_succ, List.getElem?_cons_zero, Option.getD_some] at e3
          subst e3
          have e4 := hf.st.kept 4 (by kernel_rfl)
          simp only [slotsOf, Act.eval, Array.getD_eq_getD_getElem?, List.getElem?_toArray, List.getElem?_cons_succ, List.getElem?_cons_zero, Option.getD_some] at e4
          subst e4
          have e5 := hf.st.kept 5 (by kernel_rfl)
          simp only [slotsOf, Act.eval, Array.getD_eq_getD_getElem?, List.getElem?_toArray, List.getElem?_cons_succ, List.getElem?_cons_zero, Option.getD_some] at e5
          subst e5
          have e6 := hf.st.kept 6 (by kernel_rfl)
          simp only [slotsOf, Act.eval, Array.getD_eq_getD_getElem?, List.getElem?_toArray, List.getElem?_cons_succ, List.getElem?_cons_zero, Option.getD_some] at e6
          subst e6
          have e7 := hf.st.kept 7 (by kernel_rfl)
          simp only [slotsOf, Act.eval, Array.getD_eq_getD_getElem?, List.getElem?_toArray, List.getElem?_cons_succ, List.getElem?_cons_zero, Option.getD_some] at e7
          subst e7
          have e8 := hf.st.kept 8 (by kernel_rfl)
          simp only [slotsOf, Act.eval, Array.getD_eq_getD_getElem?, List.getElem?_toArray, List.getElem?_cons_succ, List.getElem?_cons_zero, Option.getD_some] at e8
          subst e8
          have e9 := hf.st.kept 9 (by kernel_rfl)
          simp only [slotsOf, Act.eval, Array.getD_eq_getD_getElem?, List.getElem?_toArray, List.getElem?_cons_succ, List.getElem?_cons_zero, Option.getD_some] at e9
          subst e9
          have e10 := hf.st.kept 10 (by kernel_rfl)
          simp only [slotsOf, Act.eval, Array.getD_eq_getD_getElem?, List.getElem?_toArray, List.getElem?_cons_succ, List.getElem?_cons_zero, Option.getD_some] at e10
          subst e10
          have e11 := hf.st.kept 11 (by kernel_rfl)
          simp only [slotsOf, Act.eval, Array.getD_eq_getD_getElem?, List.getElem?_toArray, List.getElem?_cons_succ, List.getElem?_cons_zero, Option.getD_some] at e11
          subst e11
          have e12 := hf.st.kept 12 (by kernel_rfl)
          simp only [slotsOf, Act.eval, Array.getD_eq_getD_getElem?, List.getElem?_toArray, List.getElem?_cons_succ, List.getElem?_cons_zero, Option.getD_some] at e12
          subst e12
          have e13 := hf.st.kept 13 (by kernel_rfl)
          simp only [slotsOf, Act.eval, Array.getD_eq_getD_getElem?, List.getElem?_toArray, List.getElem?_cons_succ, List.getElem?_cons_zero, Option.getD_some] at e13
          subst e13
          have e14 := hf.st.kept 14 (by kernel_rfl)
          simp only [slotsOf, Act.eval, Array.getD_eq_getD_getElem?, List.getElem?_toArray, List.getElem?_cons_succ, List.getElem?_cons_zero, Option.getD_some] at e14
          subst e14
          have e15 := hf.st.kept 15 (by kernel_rfl)
          simp only [slotsOf, Act.eval, Array.getD_eq_getD_getElem?, List.getElem?_toArray, List.getElem?_cons_succ, List.getElem?_cons_zero, Option.getD_some] at e15
          subst e15
          have e16 := hf.st.kept 16 (by kernel_rfl)
          simp only [slotsOf, Act.eval, Array.getD_eq_getD_getElem?, List.getElem?_toArray, List.getElem?_cons_succ, List.getElem?_cons_zero, Option.getD_some] at e16
          subst e16
          have e17 := hf.st.kept 17 (by kernel_rfl)
          simp only [slotsOf, Act.eval, Array.getD_eq_getD_getElem?, List.getElem?_toArray, List.getElem?_cons_succ, List.getElem?_cons_zero, Option.getD_some] at e17
          subst e17
          have e18 := hf.st.kept 18 (by kernel_rfl)
          simp only [slotsOf, Act.eval, Array.getD_eq_getD_getElem?, List.getElem?_toArray, List.getElem?_cons_succ, List.getElem?_cons_zero, Option.getD_some] at e18
          subst e18
          have e19 := hf.st.kept 19 (by kernel_rfl)
          simp only [slotsOf, Act.eval, Array.getD_eq_getD_getElem?, List.getElem?_toArray, List.getElem?_cons_succ, List.getElem?_cons_zero, Option.getD_some] at e19
          subst e19
          have e20 := hf.st.kept 20 (by kernel_rfl)
          simp only [slotsOf, Act.eval, Array.getD_eq_getD_getElem?, List.getElem?_toArray, List.getElem?_cons_succ, List.getElem?_cons_zero, Option.getD_some] at e20
          subst e20
          have e21 := hf.st.kept 21 (by kernel_rfl)
          simp only [slotsOf, Act.eval, Array.getD_eq_getD_getElem?, List.getElem?_toArray, List.getElem?_cons_succ, List.getElem?_cons_zero, Option.getD_some] at e21
          subst e21
          have e22 := hf.st.kept 22 (by kernel_rfl)
          simp only [slotsOf, Act.eval, Array.getD_eq_getD_getElem?, List.getElem?_toArray, List.getElem?_cons_succ, List.getElem?_cons_zero, Option.getD_some] at e22
          subst e22
          have e23 := hf.st.kept 23 (by kernel_rfl)
          simp only [slotsOf, Act.eval, Array.getD_eq_getD_getElem?, List.getElem?_toArray, List.getElem?_cons_succ, List.getElem?_cons_zero, Option.getD_some] at e23
          subst e23
          have e24 := hf.st.kept 24 (by kernel_rfl)
          simp only [slotsOf, Act.eval, Array.getD_eq_getD_getElem?, List.getElem?_toArray, List.getElem?_cons_succ, List.getElem?_cons_zero, Option.getD_some] at e24
          subst e24
          have e25 := hf.st.kept 25 (by kernel_rfl)
          simp only [slotsOf, Act.eval, Array.getD_eq_getD_getElem?, List.getElem?_toArray, List.getElem?_cons_succ, List.getElem?_cons_zero, Option.getD_some] at e25
          subst e25
          have e26 := hf.st.kept 26 (by kernel_rfl)
          simp only [slotsOf, Act.eval, Array.getD_eq_getD_getElem?, List.getElem?_toArray, List.getElem?_cons_succ, List.getElem?_cons_zero, Option.getD_some] at e26
          subst e26
          have e27 := hf.st.kept 27 (by kernel_rfl)
          simp only [slotsOf, Act.eval, Array.getD_eq_getD_getElem?, List.getElem?_toArray, List.getElem?_cons_succ, List.getElem?_cons_zero, Option.getD_some] at e27
          subst e27
          have e28 := hf.st.kept 28 (by kernel_rfl)
          simp only [slotsOf, Act.eval, Array.getD_eq_getD_getElem?, List.getElem?_toArray, List.getElem?_cons_succ, List.getElem?_cons_zero, Option.getD_some] at e28
          subst e28
          have e29 := hf.st.kept 29 (by kernel_rfl)
          simp only [slotsOf, Act.eval, Array.getD_eq_getD_getElem?, List.getElem?_toArray, List.getElem?_cons_succ, List.getElem?_cons_zero, Option.getD_some] at e29
          subst e29
          have e30 := hf.st.kept 30 (by kernel_rfl)
          simp only [slotsOf, Act.eval, Array.getD_eq_getD_getElem?, List.getElem?_toArray, List.getElem?_cons_succ, List.getElem?_cons_zero, Option.getD_some] at e30
          subst e30
          have e38 := hf.st.kept 38 (by kernel_rfl)
          simp only [slotsOf, Act.eval, Array.getD_eq_getD_getElem?, List.getElem?_toArray, List.getElem?_cons_succ, List.getElem?_cons_zero, Option.getD_some] at e38
          subst e38
          have e39 := hf.st.kept 39 (by kernel_rfl)
          simp only [slotsOf, Act.eval, Array.getD_eq_getD_getElem?, List.getElem?_toArray, List.getElem?_cons_succ, List.getElem?_cons_zero, Option.getD_some] at e39
          subst e39
          have e40 := hf.st.kept 40 (by kernel_rfl)
          simp only [slotsOf, Act.eval, Array.getD_eq_getD_getElem?, List.getElem?_toArray, List.getElem?_cons_succ, List.getElem?_cons_zero, Option.getD_some] at e40
          subst e40
          have e41 := hf.st.kept 41 (by kernel_rfl)
          simp only [slotsOf, Act.eval, Array.getD_eq_getD_getElem?, List.getElem?_toArray, List.getElem?_cons_succ, List.getElem?_cons_zero, Option.getD_some] at e41
          subst e41
          have e42 := hf.st.kept 42 (by kernel_rfl)
          simp only [slotsOf, Act.eval, Array.getD_eq_getD_getElem?, List.getElem?_toArray, List.getElem?_cons_succ, List.getElem?_cons_zero, Option.getD_some] at e42
          subst e42
          have e43 := hf.st.kept 43 (by kernel_rfl)
          simp only [slotsOf, Act.eval, Array.getD_eq_getD_getElem?, List.getElem?_toArray, List.getElem?_cons_succ, List.getElem?_cons_zero, Option.getD_some] at e43
          subst e43
          have e44 := hf.st.kept 44 (by kernel_rfl)
          simp only [slotsOf, Act.eval, Array.getD_eq_getD_getElem?, List.getElem?_toArray, List.getElem?_cons_succ, List.getElem?_cons_zero, Option.getD_some] at e44
          subst e44
          have e45 := hf.st.kept 45 (by kernel_rfl)
          simp only [slotsOf, Act.eval, Array.getD_eq_getD_getElem?, List.getElem?_toArray, List.getElem?_cons_succ, List.getElem?_cons_zero, Option.getD_some] at e45
          subst e45
          have e46 := hf.st.kept 46 (by kernel_rfl)
          simp only [slotsOf, Act.eval, Array.getD_eq_getD_getElem?, List.getElem?_toArray, List.getElem?_cons_succ, List.getElem?_cons_zero, Option.getD_some] at e46
          subst e46
          obtain ⟨u, HG2⟩ := Growing.next HG.out hf.st.foot (hf.at 7 (onGrew kGoal g c0' c2' 113 (done ++ [y])) rfl (by kernel_rfl)) (fun k h => hf.st.mine 7 k h)
          have GS2 := Sec.mk HG2
          have hb3 := hf.st.foot.below (belD HBI.out) (fun q h => by rw [HNN.out]; exact NW.out q h)
          rw [HNN.out] at hb3
          have HB2 := Sec.mk hb3
          clear hf HG2 hb3
          go_wp2
          go_roundw
          case rel => exact ⟨j + 1, by omega, by go_num, ⟨_, _, _, by rw [hTj.out]; exact GS2.out⟩, HB2⟩
          case measure => simp [intOf]; omega
        · have hj2 : j = x.body.length := by omega
          subst hj2
          have HD := HG0.done
          have hbx := HG0.box
          rw [List.take_length] at HD
          generalize c0' ++ (v :: c2') = cs9 at HD hbx
          obtain ⟨y1, y2, rfl, ⟨Y1, l1, rfl, -⟩, ⟨Y2, l2, rfl, -⟩⟩ := kClause_K (kClause.O_K HD)
          have GO : Sec (kClause.O wr (fun k => nn ≤ k ∧ k < wr.heap.size ∧ k ≠ g) x [.slice Y1 x.head.length l1, .slice Y2 x.body.length l2]) := ⟨HD⟩
          have GB := Sec.mk hbx
          have X := (box_at GB.out).2.1
          have g0 := X 0 _ rfl
          have g1 := X 1 _ rfl
          have HGW := Sec.mk (HGO.out _ hbi.out)
          have HQW := Sec.mk (HQO.out _ hbi.out)
          have go0 := HGW.out.cell hl0
          clear HG0 HD hbx HCB HCO HBO HGO HQO X
          go_wp2_with (at_builtin; refine Kd.R_app2 kClause (W := wr) (by rfl) (.tmp 40) (.tmp 42) 25 (.agg #[.slice none 0 0, .slice none 0 0]) 48 (by rfl) Tryz.underlying25 info_Clause rfl (by decide) (by decide) _ _ x [.slice Y1 x.head.length l1, .slice Y2 x.body.length l2] ScO (fun k => nn ≤ k ∧ k < wr.heap.size ∧ k ≠ g) (by rfl) (by rfl) (by rfl) HGW.out.row GO.out (fun k h1 _ h2 => by have h3 := h1.1; have h4 := (HGX.out.2.2 k (.inr h2)).2.1; omega) hL.out ?_; intro v2 w5 hR2 hg2 hr2; obtain ⟨A5, n5, rfl, -, -⟩ := Kd.R_form hR2; rw [show (tk ++ [x]).length = tk.length + 1 by simp] at hR2; have R2 := Sec.mk hR2; have F2 : Sec (Foot ScO wr w5) := ⟨Foot.grown2 (Foot.refl _ _) hg2 (fun k e => .inl (hr2 k e))⟩; have hb5 := (F2.out.block go (Array.getElem?_eq_some_iff.1 HGW.out.box).1 (fun h => (HGX.out.2.2 go (.inr h)).2.2 rfl)).trans HGW.out.box; have HB5 := Sec.mk hb5; have u0 := grow_cell hb5 hl0; have f0 := (box_at hb5).2.2 0; clear hR2 hg2 hr2 hb5)
          have hg3 := grow_set HB5.out hl0 (.slice A5 (tk.length + 1) n5)
          have F3 : Foot (fun k => k = go ∨ ScO k ∨ nn ≤ k) wr (w5.setCell ⟨go, 0, none⟩ (.slice A5 (tk.length + 1) n5)) := Foot.set (Foot.mono F2.out (fun k h => .inr (.inl h))) (.inl (.inl rfl)) _ _
          have hR3 : kClause.R (w5.setCell ⟨go, 0, none⟩ (.slice A5 (tk.length + 1) n5)) (fun k => (ScO k ∨ nn ≤ k) ∧ k ≠ go) (.slice A5 (tk.length + 1) n5) (tk ++ [x]) := by
            have Fs : Foot (fun k => k = go) w5 (w5.setCell ⟨go, 0, none⟩ (.slice A5 (tk.length + 1) n5)) := Foot.set (Foot.refl (fun k => k = go) w5) (.inl rfl) _ _
            have hno : ∀ k, (ScO k ∨ (nn ≤ k ∧ k < wr.heap.size ∧ k ≠ g) ∨ wr.heap.size ≤ k) → k ≠ go := fun k h e => by
              have h9 := HGX.out
              have h8 := HSN.out
              rcases h with h | h | h
              · exact (h9.2.2 k (.inr h)).2.2 e
              · have := h.1; omega
              · omega
            refine Kd.R_mono (Fs.R R2.out (fun k h1 h2 => hno k h1 h2)) (fun k h1 h2 => ⟨?_, hno k h1⟩)
            have h8 := HSN.out
            rcases h1 with h | h | h
            · exact .inl h
            · exact .inr h.1
            · exact .inr (Nat.le_trans h8 h)
          obtain ⟨u9, HG9⟩ := Growing.next' (S := fun k => k = go ∨ ((ScO k ∨ nn ≤ k) ∧ k < (w5.setCell ⟨go, 0, none⟩ (.slice A5 (tk.length + 1) n5)).heap.size)) (val := fun _ => undef) HGW.out F3 (fun k h => by
            have h9 := HGX.out
            rcases h with h | h | h
            · exact ⟨by omega, fun e => (h9.2.2 k (.inl e)).2.2 h⟩
            · exact ⟨(h9.2.2 k (.inr h)).1, fun e => HGW.out.apart k e h⟩
            · exact ⟨by omega, fun e => by have := (h9.2.2 k (.inl e)).2.1; omega⟩) ⟨_, hg3, .inl rfl, Kd.R_mono hR3 (fun k h1 h2 => ⟨.inr ⟨h1.1, h2⟩, h1.2⟩)⟩ (fun k h => by
            have hlt9 := (Array.getElem?_eq_some_iff.1 hg3).1
            rcases h with h | h
            · exact ⟨.inr (.inl h), by rw [h]; exact hlt9⟩
            · exact ⟨.inr (.inr h.1), h.2⟩)
          have GS9 := Sec.mk HG9
          have F9 := Sec.mk F3
          clear HG9 F3 hR3 hg3
          go_roundw
          case rel => exact ⟨k + 1, by omega, by go_num, ⟨_, _, _, by rw [hT.out]; exact GS9.out⟩, ⟨F9.out.below HBW.out (fun q h => by
            have h9 := HGX.out
            rcases h with h | h | h
            · omega
            · have := (h9.2.2 q (.inr h)).1; omega
            · omega), (F9.out.block _ (Array.getElem?_eq_some_iff.1 HQW.out).1 (fun h => by
            have h9 := HGX.out
            rcases h with h | h | h
            · omega
            · have := (h9.2.2 _ (.inr h)).1; omega
            · omega)).trans HQW.out⟩⟩
          case measure => simp [intOf]; omega
    · have hk2 : k = p.clauses.length := by omega
      subst hk2
      have HD := HGO0.done
      have hbx := HGO0.box
      rw [List.take_length] at HD
      generalize c0 ++ (vO :: c2) = cs9 at HD hbx
      obtain ⟨y1, y2, rfl, ⟨Y1, l1, rfl, -⟩, ⟨Y2, l2, rfl, -⟩⟩ := kProg_K (kProg.O_K HD)
      have GO : Sec (kProg.O wr (fun k => w.heap.size + 2 ≤ k ∧ k < wr.heap.size ∧ k ≠ go) p [.slice Y1 p.clauses.length l1, .slice Y2 p.places.length l2]) := ⟨HD⟩
      have GB := Sec.mk hbx
      have X := (box_at GB.out).2.1
      have g0 := X 0 _ rfl
      have g1 := X 1 _ rfl
      have h1c : Sec (∀ u ∈ ([.slice Y1 p.clauses.length l1, .slice Y2 p.places.length l2] : List Value), u.oneCell' = true) := ⟨kProg.K_one (kProg.O_K HD)⟩
      have hW2 := Sec.mk hb.out.2
      clear HGO0 HD hbx X
      go_wp2_with (with_reducible show wpList _ _ _ (⟨none, .store 28 (.tmp 2) (.tmp 46), _, _, _, _⟩ :: _) _ _; refine wpList_store (cs := [.slice Y1 p.clauses.length l1, .slice Y2 p.places.length l2]) rfl 28 (.tmp 2) (.tmp 46) rfl rfl rfl hW2.out (by kernel_rfl) rfl h1c.out ?_; intro w8 hb8 hF8; have B8 := Sec.mk hb8; have F8 := Sec.mk hF8; clear hb8 hF8)
      refine bodyPost_ret (results_cell rfl rfl B8.out hu rfl (by kernel_rfl)) rfl ⟨_, rfl, ?_, ?_⟩
      · exact kProg.O_mono (F8.out.O GO.out (fun q h e => by have h1 : q = w.heap.size + 1 := e; omega)) (fun q h _ => by omega)
      · exact F8.out.below hb.out.1 (fun q h => by have h1 : q = w.heap.size + 1 := h; omega)
end
section
def Lay {α : Type} (P : List α → Prop) : Nat → List α → Prop
  | 0, acc => P acc
  | n + 1, acc => ∀ x, Lay P n (x :: acc)
end
section
open Go.RowKit
/-- From the last place on: what is kept stands as it was, else there is some x. -/
def LayM {α : Type} (P : List α → Prop) : List Bool → List α → List α → Prop
  | [], _, acc => P acc
  | _ :: _, [], acc => P acc
  | true :: m, v :: l, acc => LayM P m l (v :: acc)
  | false :: m, _ :: l, acc => ∀ x, LayM P m l (x :: acc)
theorem layM_of {α : Type} {P : List α → Prop} : ∀ (m : List Bool) (l0 l acc : List α), m.length = l0.length → l.length = l0.length → (∀ t : Nat, m[t]? = some true → l[t]? = l0[t]?) → LayM P m l0 acc → P (l.reverse ++ acc)
  | [], l0, l, acc, hm, hl, hk, h => by
    have : l0 = [] := List.eq_nil_of_length_eq_zero (by simpa using hm.symm)
    subst this
    have : l = [] := List.eq_nil_of_length_eq_zero (by simpa using hl)
    subst this
    exact h
  | b :: m, [], l, acc, hm, hl, hk, h => by simp at hm
  | b :: m, v0 :: l0, [], acc, hm, hl, hk, h => by simp at hl
  | b :: m, v0 :: l0, v :: l, acc, hm, hl, hk, h => by
    rw [List.reverse_cons, List.append_assoc]
    have hk' : ∀ t : Nat, m[t]? = some true → l[t]? = l0[t]? := fun t ht => by have := hk (t + 1) (by simpa using ht); simpa using this
    cases b with
    | true =>
      have h0 := hk 0 (by simp)
      simp at h0
      subst h0
      exact layM_of m l0 l _ (by simpa using hm) (by simpa using hl) hk' h
    | false => exact layM_of m l0 l _ (by simpa using hm) (by simpa using hl) hk' (h v)
theorem layM_rev {α : Type} {P : List α → Prop} (m : List Bool) {l0 l : List α} (hm : m.length = l0.length) (hl : l.length = l0.length) (hk : ∀ t : Nat, t < l0.length → m[t]? = some true → l[t]? = l0[t]?) (h : LayM P m.reverse l0.reverse []) : P l := by
  have := layM_of m.reverse l0.reverse l.reverse [] (by simpa using hm) (by simpa using hl) (fun t ht => by
    have hlt : t < m.length := by have := (List.getElem?_eq_some_iff.1 ht).1; simpa using this
    rw [List.getElem?_reverse (by omega)] at ht
    rw [List.getElem?_reverse (by omega), List.getElem?_reverse (by omega), hl]
    exact hk _ (by omega) (by rw [← hm]; exact ht)) h
  rwa [List.append_nil, List.reverse_reverse] at this
def maskOk (ops : Array Oper) (m : List Bool) : Bool := (List.range m.length).all (fun t => !(m.getD t false) || foreign ops t)
theorem slots_list {l : List Value} {df} (t : Nat) : slotsOf ⟨l.toArray, df⟩ t = (l[t]?).getD undef := by simp [slotsOf, Act.eval]
theorem lay_intro {ops : Array Oper} {a0 : Act} {df} {R : Act → Prop} (m : List Bool) (hm : (decide (m.length = a0.tmps.toList.length) && maskOk ops m) = true) (hdf : a0.defers = df)
    (h : LayM (fun l => R ⟨l.toArray, df⟩) m.reverse a0.tmps.toList.reverse []) : ∀ a : Act, a.tmps.size = a0.tmps.size → a.defers = a0.defers → (∀ t, foreign ops t = true → slotsOf a t = slotsOf a0 t) → R a := by
  intro a hs hd hk
  rw [Bool.and_eq_true] at hm
  have hm0 := of_decide_eq_true hm.1
  subst hdf
  obtain ⟨⟨l0⟩, d0⟩ := a0
  obtain ⟨⟨l⟩, d⟩ := a
  obtain rfl : d = d0 := hd
  have hl : l.length = l0.length := hs
  have hm1 : m.length = l0.length := hm0
  refine layM_rev (P := fun l => R ⟨l.toArray, d⟩) m hm0 hl (fun t hlt ht => ?_) h
  have hlt : t < l0.length := hlt
  have h1 := List.all_eq_true.1 hm.2 t (by simp; omega)
  rw [List.getD_eq_getElem?_getD, ht] at h1
  have h2 := hk t (by simpa using h1)
  rw [slots_list, slots_list, List.getElem?_eq_getElem (by omega), List.getElem?_eq_getElem (by omega)] at h2
  rw [List.getElem?_eq_getElem (by omega), List.getElem?_eq_getElem (by omega)]
  simpa using h2
end
end Go.Proofs.YtgiobpggonceeaaGreatDoor
