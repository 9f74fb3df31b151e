/- What the exact laws' own functions do with the type NodWork: turned, sized, compared, marked, held; and what goes with it. -/
import Derived.Test.YtgiobpggonceeaaGreatDoorXw3
import Derived.Test.YtgiobpggonceeaaGreatDoorXw11
import Derived.Test.YtgiobpggonceeaaGreatDoorXw12
namespace Go.Proofs.YtgiobpggonceeaaGreatDoor
section
open Go.RowKit
set_option linter.unusedVariables false
set_option maxRecDepth 100000
def kWork : Kd Work := Kd.iso 249 (Kd.pair (Kd.slice 54 kSOut (by decide)) (Kd.pair (Kd.int 3) (Kd.pair (Kd.bool 4) kTState))) (fun x => (x.outs, x.want, x.asked, x.slv))
theorem kWork_K {w : World} {ok : Nat → Prop} {x : Work} {cs : List Value} (h : kWork.K w ok x cs) : ∃ v0 v4 v5 v7 v8 v9, cs = [v0, .int .i64 x.want, .bool x.asked, .int .i64 x.slv.status, v4, v5, .int .i64 x.slv.vars, v7, v8, v9] ∧ kSOut.V w ok v0 x.outs ∧ kSGoal.V w ok v4 x.slv.goals ∧ kBind.V w ok v5 x.slv.binds ∧ kTChoice.V w ok v7 x.slv.choices ∧ kCell.V w ok v8 x.slv.top ∧ kCell.V w ok v9 x.slv.out := by
  obtain ⟨_, _, rfl, ⟨v0, rfl, h0⟩, ⟨_, _, rfl, ⟨rfl, _⟩, ⟨_, _, rfl, ⟨rfl, _⟩, g3⟩⟩⟩ := h
  obtain ⟨v4, v5, v7, v8, v9, rfl, h4, h5, h7, h8, h9⟩ := kTState_K g3
  exact ⟨v0, v4, v5, v7, v8, v9, rfl, h0, h4, h5, h7, h8, h9⟩
theorem Work.ext_iff (a b : Work) : a = b ↔ a.outs = b.outs ∧ a.want = b.want ∧ a.asked = b.asked ∧ a.slv = b.slv := by
  cases a; cases b; simp
instance : DecidableEq Work := fun a b => decidable_of_iff _ (Work.ext_iff a b).symm
def zeroWork : Work := ⟨[], 0, false, ⟨0, [], [], 0, [], [], []⟩⟩
theorem kWork_f_outs : Kd.Fld kWork (Kd.slice 54 kSOut (by decide)) 0 (fun x => x.outs) (fun x y => { x with outs := y }) := Kd.Fld.iso _ (Kd.Fld.fst (Kd.Fld.self _)) (fun _ _ => rfl)
theorem kWork_f_want : Kd.Fld kWork (Kd.int 3) 1 (fun x => x.want) (fun x y => { x with want := y }) := Kd.Fld.iso _ (Kd.Fld.snd (Kd.Fld.fst (Kd.Fld.self _))) (fun _ _ => rfl)
theorem kWork_f_asked : Kd.Fld kWork (Kd.bool 4) 2 (fun x => x.asked) (fun x y => { x with asked := y }) := Kd.Fld.iso _ (Kd.Fld.snd (Kd.Fld.snd (Kd.Fld.fst (Kd.Fld.self _)))) (fun _ _ => rfl)
theorem kWork_f_slv : Kd.Fld kWork kTState 3 (fun x => x.slv) (fun x y => { x with slv := y }) := Kd.Fld.iso _ (Kd.Fld.snd (Kd.Fld.snd (Kd.Fld.snd (Kd.Fld.self _)))) (fun _ _ => rfl)
theorem kWork_f_slv_status : Kd.Fld kWork (Kd.int 3) 3 (fun x => x.slv.status) (fun x y => { x with slv := { x.slv with status := y } }) := Kd.Fld.comp kWork_f_slv kTState_f_status
theorem kWork_f_slv_goals : Kd.Fld kWork (Kd.slice 30 kSGoal (by decide)) 4 (fun x => x.slv.goals) (fun x y => { x with slv := { x.slv with goals := y } }) := Kd.Fld.comp kWork_f_slv kTState_f_goals
theorem kWork_f_slv_binds : Kd.Fld kWork (Kd.slice 31 kBind (by decide)) 5 (fun x => x.slv.binds) (fun x y => { x with slv := { x.slv with binds := y } }) := Kd.Fld.comp kWork_f_slv kTState_f_binds
theorem kWork_f_slv_vars : Kd.Fld kWork (Kd.int 3) 6 (fun x => x.slv.vars) (fun x y => { x with slv := { x.slv with vars := y } }) := Kd.Fld.comp kWork_f_slv kTState_f_vars
theorem kWork_f_slv_choices : Kd.Fld kWork (Kd.slice 91 kTChoice (by decide)) 7 (fun x => x.slv.choices) (fun x y => { x with slv := { x.slv with choices := y } }) := Kd.Fld.comp kWork_f_slv kTState_f_choices
theorem kWork_f_slv_top : Kd.Fld kWork (Kd.slice 23 kCell (by decide)) 8 (fun x => x.slv.top) (fun x y => { x with slv := { x.slv with top := y } }) := Kd.Fld.comp kWork_f_slv kTState_f_top
theorem kWork_f_slv_out : Kd.Fld kWork (Kd.slice 23 kCell (by decide)) 9 (fun x => x.slv.out) (fun x y => { x with slv := { x.slv with out := y } }) := Kd.Fld.comp kWork_f_slv kTState_f_out
set_option maxHeartbeats 2000000 in
theorem eqNodWork_c (x y : Work) (cs ds : List Value) (ok ok' : Nat → Prop) (w : World) (hK : kWork.K w ok x cs) (hD : kWork.K w ok' y ds) :
    Calls Tryz.prog 241 #[.agg cs.toArray, .agg ds.toArray] w fun e w' => e = .returned (.bool (decide (x = y))) ∧ Below w.heap.size w w' := by
  obtain ⟨_, _, rfl, ⟨v0, rfl, h0⟩, ⟨_, _, rfl, ⟨rfl, _⟩, ⟨_, _, rfl, ⟨rfl, _⟩, hg3⟩⟩⟩ := hK
  have H0 := Sec.mk h0
  clear h0
  have H3 := Sec.mk hg3
  obtain ⟨v4, v5, v7, v8, v9, rfl, -, -, -, -, -⟩ := kTState_K hg3
  clear hg3
  obtain ⟨_, _, rfl, ⟨u0, rfl, g0⟩, ⟨_, _, rfl, ⟨rfl, _⟩, ⟨_, _, rfl, ⟨rfl, _⟩, gg3⟩⟩⟩ := hD
  have G0 := Sec.mk g0
  clear g0
  have G3 := Sec.mk gg3
  obtain ⟨u4, u5, u7, u8, u9, rfl, -, -, -, -, -⟩ := kTState_K gg3
  clear gg3
  have hu := Tryz.underlying249
  have hxy := Sec.mk (Work.ext_iff x y)
  have T0 : Sec True := ⟨trivial⟩
  by_cases h0 : x.outs = y.outs
  · have E0 := Sec.mk h0
    have d0 : decide (x.outs = y.outs) = true := decide_eq_true h0
    clear h0
    by_cases h1 : x.want = y.want
    · have E1 := Sec.mk h1
      have d1 : (x.want == y.want) = true := beq_iff_eq.2 h1
      clear h1
      by_cases h2 : x.asked = y.asked
      · have E2 := Sec.mk h2
        have d2 : (x.asked == y.asked) = true := beq_iff_eq.2 h2
        clear h2
        by_cases h3 : x.slv = y.slv
        · have E3 := Sec.mk h3
          have d3 : decide (x.slv = y.slv) = true := decide_eq_true h3
          clear h3
          have hd : Sec (decide (x = y) = true) := ⟨by rw [decide_eq_true_eq, hxy.out]; exact ⟨E0.out, E1.out, E2.out, E3.out⟩⟩
          go_enter Tryz.func241, Tryz.ntmps241
          go_wp2_with (first | (clear T1; go_at_call 261; have T2 : Sec True := ⟨trivial⟩; refine (eqTrlState_c x.slv y.slv _ _ ok ok' _ (Kd.K_below H3.out B1.out) (Kd.K_below G3.out B1.out)).mono ?_; rintro e w2 ⟨rfl, hb1⟩; rw [d3]; have B2 := Sec.mk (bel B1.out hb1); have X := box_cells (b := w.heap.size) (cs := #[v0, .int .i64 x.want, .bool x.asked, .int .i64 x.slv.status, v4, v5, .int .i64 x.slv.vars, v7, v8, v9]) (t := 249) hb1 P1.out.1; have p2_3 := X.2.1 3 _ rfl; have p2_4 := X.2.1 4 _ rfl; have p2_5 := X.2.1 5 _ rfl; have p2_6 := X.2.1 6 _ rfl; have p2_7 := X.2.1 7 _ rfl; have p2_8 := X.2.1 8 _ rfl; have p2_9 := X.2.1 9 _ rfl; have P2 := Sec.mk X; clear X; have X := box_cells (b := w.heap.size + 1) (cs := #[u0, .int .i64 y.want, .bool y.asked, .int .i64 y.slv.status, u4, u5, .int .i64 y.slv.vars, u7, u8, u9]) (t := 249) hb1 Q1.out.1; have q2_3 := X.2.1 3 _ rfl; have q2_4 := X.2.1 4 _ rfl; have q2_5 := X.2.1 5 _ rfl; have q2_6 := X.2.1 6 _ rfl; have q2_7 := X.2.1 7 _ rfl; have q2_8 := X.2.1 8 _ rfl; have q2_9 := X.2.1 9 _ rfl; have Q2 := Sec.mk X; clear X hb1) | (clear T0; go_at_call 75; have T1 : Sec True := ⟨trivial⟩; refine (eqSSOut_c v0 u0 x.outs y.outs ok ok' _ (Kd.V_below H0.out (belA (belA (Below.refl _ _) _) _) (by decide)) (Kd.V_below G0.out (belA (belA (Below.refl _ _) _) _) (by decide))).mono ?_; rintro e w1 ⟨rfl, hb1⟩; rw [d0]; have B1 := Sec.mk (bel (belA (belA (Below.refl _ _) _) _) hb1); have X := box_cells (b := w.heap.size) (cs := #[v0, .int .i64 x.want, .bool x.asked, .int .i64 x.slv.status, v4, v5, .int .i64 x.slv.vars, v7, v8, v9]) (t := 249) hb1 (box2 _ _ _).1; have p1_0 := X.2.1 0 _ rfl; have p1_1 := X.2.1 1 _ rfl; have p1_2 := X.2.1 2 _ rfl; have p1_3 := X.2.1 3 _ rfl; have p1_4 := X.2.1 4 _ rfl; have p1_5 := X.2.1 5 _ rfl; have p1_6 := X.2.1 6 _ rfl; have p1_7 := X.2.1 7 _ rfl; have p1_8 := X.2.1 8 _ rfl; have p1_9 := X.2.1 9 _ rfl; have P1 := Sec.mk X; clear X; have X := box_cells (b := w.heap.size + 1) (cs := #[u0, .int .i64 y.want, .bool y.asked, .int .i64 y.slv.status, u4, u5, .int .i64 y.slv.vars, u7, u8, u9]) (t := 249) hb1 (box2 _ _ _).2; have q1_0 := X.2.1 0 _ rfl; have q1_1 := X.2.1 1 _ rfl; have q1_2 := X.2.1 2 _ rfl; have q1_3 := X.2.1 3 _ rfl; have q1_4 := X.2.1 4 _ rfl; have q1_5 := X.2.1 5 _ rfl; have q1_6 := X.2.1 6 _ rfl; have q1_7 := X.2.1 7 _ rfl; have q1_8 := X.2.1 8 _ rfl; have q1_9 := X.2.1 9 _ rfl; have Q1 := Sec.mk X; clear X hb1))
          go_ret
          exact ⟨rb hd.out.symm, B2.out⟩
        · have hd : Sec (decide (x = y) = false) := ⟨by rw [decide_eq_false_iff_not, hxy.out]; exact fun h => h3 h.2.2.2⟩
          have d3 : decide (x.slv = y.slv) = false := decide_eq_false h3
          clear h3
          go_enter Tryz.func241, Tryz.ntmps241
          go_wp2_with (first | (clear T1; go_at_call 261; have T2 : Sec True := ⟨trivial⟩; refine (eqTrlState_c x.slv y.slv _ _ ok ok' _ (Kd.K_below H3.out B1.out) (Kd.K_below G3.out B1.out)).mono ?_; rintro e w2 ⟨rfl, hb1⟩; rw [d3]; have B2 := Sec.mk (bel B1.out hb1); have X := box_cells (b := w.heap.size) (cs := #[v0, .int .i64 x.want, .bool x.asked, .int .i64 x.slv.status, v4, v5, .int .i64 x.slv.vars, v7, v8, v9]) (t := 249) hb1 P1.out.1; have p2_3 := X.2.1 3 _ rfl; have p2_4 := X.2.1 4 _ rfl; have p2_5 := X.2.1 5 _ rfl; have p2_6 := X.2.1 6 _ rfl; have p2_7 := X.2.1 7 _ rfl; have p2_8 := X.2.1 8 _ rfl; have p2_9 := X.2.1 9 _ rfl; have P2 := Sec.mk X; clear X; have X := box_cells (b := w.heap.size + 1) (cs := #[u0, .int .i64 y.want, .bool y.asked, .int .i64 y.slv.status, u4, u5, .int .i64 y.slv.vars, u7, u8, u9]) (t := 249) hb1 Q1.out.1; have q2_3 := X.2.1 3 _ rfl; have q2_4 := X.2.1 4 _ rfl; have q2_5 := X.2.1 5 _ rfl; have q2_6 := X.2.1 6 _ rfl; have q2_7 := X.2.1 7 _ rfl; have q2_8 := X.2.1 8 _ rfl; have q2_9 := X.2.1 9 _ rfl; have Q2 := Sec.mk X; clear X hb1) | (clear T0; go_at_call 75; have T1 : Sec True := ⟨trivial⟩; refine (eqSSOut_c v0 u0 x.outs y.outs ok ok' _ (Kd.V_below H0.out (belA (belA (Below.refl _ _) _) _) (by decide)) (Kd.V_below G0.out (belA (belA (Below.refl _ _) _) _) (by decide))).mono ?_; rintro e w1 ⟨rfl, hb1⟩; rw [d0]; have B1 := Sec.mk (bel (belA (belA (Below.refl _ _) _) _) hb1); have X := box_cells (b := w.heap.size) (cs := #[v0, .int .i64 x.want, .bool x.asked, .int .i64 x.slv.status, v4, v5, .int .i64 x.slv.vars, v7, v8, v9]) (t := 249) hb1 (box2 _ _ _).1; have p1_0 := X.2.1 0 _ rfl; have p1_1 := X.2.1 1 _ rfl; have p1_2 := X.2.1 2 _ rfl; have p1_3 := X.2.1 3 _ rfl; have p1_4 := X.2.1 4 _ rfl; have p1_5 := X.2.1 5 _ rfl; have p1_6 := X.2.1 6 _ rfl; have p1_7 := X.2.1 7 _ rfl; have p1_8 := X.2.1 8 _ rfl; have p1_9 := X.2.1 9 _ rfl; have P1 := Sec.mk X; clear X; have X := box_cells (b := w.heap.size + 1) (cs := #[u0, .int .i64 y.want, .bool y.asked, .int .i64 y.slv.status, u4, u5, .int .i64 y.slv.vars, u7, u8, u9]) (t := 249) hb1 (box2 _ _ _).2; have q1_0 := X.2.1 0 _ rfl; have q1_1 := X.2.1 1 _ rfl; have q1_2 := X.2.1 2 _ rfl; have q1_3 := X.2.1 3 _ rfl; have q1_4 := X.2.1 4 _ rfl; have q1_5 := X.2.1 5 _ rfl; have q1_6 := X.2.1 6 _ rfl; have q1_7 := X.2.1 7 _ rfl; have q1_8 := X.2.1 8 _ rfl; have q1_9 := X.2.1 9 _ rfl; have Q1 := Sec.mk X; clear X hb1))
          go_ret
          exact ⟨rb hd.out.symm, B2.out⟩
      · have hd : Sec (decide (x = y) = false) := ⟨by rw [decide_eq_false_iff_not, hxy.out]; exact fun h => h2 h.2.2.1⟩
        have d2 : (x.asked == y.asked) = false := beq_eq_false_iff_ne.2 h2
        clear h2
        go_enter Tryz.func241, Tryz.ntmps241
        go_wp2_with (first | (clear T0; go_at_call 75; have T1 : Sec True := ⟨trivial⟩; refine (eqSSOut_c v0 u0 x.outs y.outs ok ok' _ (Kd.V_below H0.out (belA (belA (Below.refl _ _) _) _) (by decide)) (Kd.V_below G0.out (belA (belA (Below.refl _ _) _) _) (by decide))).mono ?_; rintro e w1 ⟨rfl, hb1⟩; rw [d0]; have B1 := Sec.mk (bel (belA (belA (Below.refl _ _) _) _) hb1); have X := box_cells (b := w.heap.size) (cs := #[v0, .int .i64 x.want, .bool x.asked, .int .i64 x.slv.status, v4, v5, .int .i64 x.slv.vars, v7, v8, v9]) (t := 249) hb1 (box2 _ _ _).1; have p1_0 := X.2.1 0 _ rfl; have p1_1 := X.2.1 1 _ rfl; have p1_2 := X.2.1 2 _ rfl; have p1_3 := X.2.1 3 _ rfl; have p1_4 := X.2.1 4 _ rfl; have p1_5 := X.2.1 5 _ rfl; have p1_6 := X.2.1 6 _ rfl; have p1_7 := X.2.1 7 _ rfl; have p1_8 := X.2.1 8 _ rfl; have p1_9 := X.2.1 9 _ rfl; have P1 := Sec.mk X; clear X; have X := box_cells (b := w.heap.size + 1) (cs := #[u0, .int .i64 y.want, .bool y.asked, .int .i64 y.slv.status, u4, u5, .int .i64 y.slv.vars, u7, u8, u9]) (t := 249) hb1 (box2 _ _ _).2; have q1_0 := X.2.1 0 _ rfl; have q1_1 := X.2.1 1 _ rfl; have q1_2 := X.2.1 2 _ rfl; have q1_3 := X.2.1 3 _ rfl; have q1_4 := X.2.1 4 _ rfl; have q1_5 := X.2.1 5 _ rfl; have q1_6 := X.2.1 6 _ rfl; have q1_7 := X.2.1 7 _ rfl; have q1_8 := X.2.1 8 _ rfl; have q1_9 := X.2.1 9 _ rfl; have Q1 := Sec.mk X; clear X hb1))
        go_ret
        exact ⟨rb hd.out.symm, B1.out⟩
    · have hd : Sec (decide (x = y) = false) := ⟨by rw [decide_eq_false_iff_not, hxy.out]; exact fun h => h1 h.2.1⟩
      have d1 : (x.want == y.want) = false := beq_eq_false_iff_ne.2 h1
      clear h1
      go_enter Tryz.func241, Tryz.ntmps241
      go_wp2_with (first | (clear T0; go_at_call 75; have T1 : Sec True := ⟨trivial⟩; refine (eqSSOut_c v0 u0 x.outs y.outs ok ok' _ (Kd.V_below H0.out (belA (belA (Below.refl _ _) _) _) (by decide)) (Kd.V_below G0.out (belA (belA (Below.refl _ _) _) _) (by decide))).mono ?_; rintro e w1 ⟨rfl, hb1⟩; rw [d0]; have B1 := Sec.mk (bel (belA (belA (Below.refl _ _) _) _) hb1); have X := box_cells (b := w.heap.size) (cs := #[v0, .int .i64 x.want, .bool x.asked, .int .i64 x.slv.status, v4, v5, .int .i64 x.slv.vars, v7, v8, v9]) (t := 249) hb1 (box2 _ _ _).1; have p1_0 := X.2.1 0 _ rfl; have p1_1 := X.2.1 1 _ rfl; have p1_2 := X.2.1 2 _ rfl; have p1_3 := X.2.1 3 _ rfl; have p1_4 := X.2.1 4 _ rfl; have p1_5 := X.2.1 5 _ rfl; have p1_6 := X.2.1 6 _ rfl; have p1_7 := X.2.1 7 _ rfl; have p1_8 := X.2.1 8 _ rfl; have p1_9 := X.2.1 9 _ rfl; have P1 := Sec.mk X; clear X; have X := box_cells (b := w.heap.size + 1) (cs := #[u0, .int .i64 y.want, .bool y.asked, .int .i64 y.slv.status, u4, u5, .int .i64 y.slv.vars, u7, u8, u9]) (t := 249) hb1 (box2 _ _ _).2; have q1_0 := X.2.1 0 _ rfl; have q1_1 := X.2.1 1 _ rfl; have q1_2 := X.2.1 2 _ rfl; have q1_3 := X.2.1 3 _ rfl; have q1_4 := X.2.1 4 _ rfl; have q1_5 := X.2.1 5 _ rfl; have q1_6 := X.2.1 6 _ rfl; have q1_7 := X.2.1 7 _ rfl; have q1_8 := X.2.1 8 _ rfl; have q1_9 := X.2.1 9 _ rfl; have Q1 := Sec.mk X; clear X hb1))
      go_ret
      exact ⟨rb hd.out.symm, B1.out⟩
  · have hd : Sec (decide (x = y) = false) := ⟨by rw [decide_eq_false_iff_not, hxy.out]; exact fun h => h0 h.1⟩
    have d0 : decide (x.outs = y.outs) = false := decide_eq_false h0
    clear h0
    go_enter Tryz.func241, Tryz.ntmps241
    go_wp2_with (first | (clear T0; go_at_call 75; have T1 : Sec True := ⟨trivial⟩; refine (eqSSOut_c v0 u0 x.outs y.outs ok ok' _ (Kd.V_below H0.out (belA (belA (Below.refl _ _) _) _) (by decide)) (Kd.V_below G0.out (belA (belA (Below.refl _ _) _) _) (by decide))).mono ?_; rintro e w1 ⟨rfl, hb1⟩; rw [d0]; have B1 := Sec.mk (bel (belA (belA (Below.refl _ _) _) _) hb1); have X := box_cells (b := w.heap.size) (cs := #[v0, .int .i64 x.want, .bool x.asked, .int .i64 x.slv.status, v4, v5, .int .i64 x.slv.vars, v7, v8, v9]) (t := 249) hb1 (box2 _ _ _).1; have p1_0 := X.2.1 0 _ rfl; have p1_1 := X.2.1 1 _ rfl; have p1_2 := X.2.1 2 _ rfl; have p1_3 := X.2.1 3 _ rfl; have p1_4 := X.2.1 4 _ rfl; have p1_5 := X.2.1 5 _ rfl; have p1_6 := X.2.1 6 _ rfl; have p1_7 := X.2.1 7 _ rfl; have p1_8 := X.2.1 8 _ rfl; have p1_9 := X.2.1 9 _ rfl; have P1 := Sec.mk X; clear X; have X := box_cells (b := w.heap.size + 1) (cs := #[u0, .int .i64 y.want, .bool y.asked, .int .i64 y.slv.status, u4, u5, .int .i64 y.slv.vars, u7, u8, u9]) (t := 249) hb1 (box2 _ _ _).2; have q1_0 := X.2.1 0 _ rfl; have q1_1 := X.2.1 1 _ rfl; have q1_2 := X.2.1 2 _ rfl; have q1_3 := X.2.1 3 _ rfl; have q1_4 := X.2.1 4 _ rfl; have q1_5 := X.2.1 5 _ rfl; have q1_6 := X.2.1 6 _ rfl; have q1_7 := X.2.1 7 _ rfl; have q1_8 := X.2.1 8 _ rfl; have q1_9 := X.2.1 9 _ rfl; have Q1 := Sec.mk X; clear X hb1))
    go_ret
    exact ⟨rb hd.out.symm, B1.out⟩
set_option maxHeartbeats 2000000 in
theorem eqSWork_c (v u : Value) (t s : List Work) (ok ok' : Nat → Prop) (w : World) (hV : kWork.V w ok v t) (hU : kWork.V w ok' u s) :
    Calls Tryz.prog 207 #[v, u] w fun e w' => e = .returned (.bool (decide (t = s))) ∧ Below w.heap.size w w' := by
  obtain ⟨A, c, rfl, h1, h2, h3, hC, _⟩ := hV
  obtain ⟨B, d, rfl, k1, k2, k3, hD, _⟩ := hU
  have HC := Sec.mk hC
  have HD := Sec.mk hD
  clear hC hD
  have hu := Tryz.underlying249
  by_cases hl : t.length = s.length
  · rw [← hl]
    have HL := Sec.mk hl
    clear hl
    go_enter Tryz.func207, Tryz.ntmps207
    go_wp2
    go_loopw [5] (fun i wr => ∃ k : Nat, k ≤ t.length ∧ i = .int .i64 k ∧ Sec (t.take k = s.take k) ∧ Sec (Below w.heap.size w wr)) (fun i _ => t.length - (intOf i).toNat)
    case atStart => exact ⟨0, Nat.zero_le _, rfl, ⟨by simp⟩, ⟨Below.refl _ _⟩⟩
    case round =>
      obtain ⟨k, hk, rfl, hT, hb⟩ := hrel
      by_cases hlt : k < t.length
      · have hlt2 : k < s.length := by have := HL.out; omega
        obtain ⟨b, off, cs, rfl, hob, hK, hc⟩ := Kd.C_get HC.out (List.getElem?_eq_getElem hlt)
        obtain ⟨b2, off2, cs2, rfl, hob2, hK2, hc2⟩ := Kd.C_get HD.out (List.getElem?_eq_getElem hlt2)
        have hT1 : Sec (t[k] = s[k] → t.take (k + 1) = s.take (k + 1)) := ⟨fun e => by rw [List.take_succ_eq_append_getElem hlt, List.take_succ_eq_append_getElem hlt2, hT.out, e]⟩
        have hT2 : Sec (t = s → t[k] = s[k]) := ⟨fun e => by subst e; rfl⟩
        generalize t[k] = x at *
        generalize s[k] = y at *
        have HK := Sec.mk hK
        have HK2 := Sec.mk hK2
        obtain ⟨v0, v4, v5, v7, v8, v9, rfl, -, -, -, -, -, -⟩ := kWork_K hK
        obtain ⟨u0, u4, u5, u7, u8, u9, rfl, -, -, -, -, -, -⟩ := kWork_K hK2
        have hat : Sec (∀ W : World, Below w.heap.size w W → W.cell? ⟨b, off + k * 10, none⟩ = some (v0) ∧ W.cell? ⟨b, off + k * 10 + 1, none⟩ = some (.int .i64 x.want) ∧ W.cell? ⟨b, off + k * 10 + 2, none⟩ = some (.bool x.asked) ∧ W.cell? ⟨b, off + k * 10 + 3, none⟩ = some (.int .i64 x.slv.status) ∧ W.cell? ⟨b, off + k * 10 + 4, none⟩ = some (v4) ∧ W.cell? ⟨b, off + k * 10 + 5, none⟩ = some (v5) ∧ W.cell? ⟨b, off + k * 10 + 6, none⟩ = some (.int .i64 x.slv.vars) ∧ W.cell? ⟨b, off + k * 10 + 7, none⟩ = some (v7) ∧ W.cell? ⟨b, off + k * 10 + 8, none⟩ = some (v8) ∧ W.cell? ⟨b, off + k * 10 + 9, none⟩ = some (v9) ∧ W.cell? ⟨b2, off2 + k * 10, none⟩ = some (u0) ∧ W.cell? ⟨b2, off2 + k * 10 + 1, none⟩ = some (.int .i64 y.want) ∧ W.cell? ⟨b2, off2 + k * 10 + 2, none⟩ = some (.bool y.asked) ∧ W.cell? ⟨b2, off2 + k * 10 + 3, none⟩ = some (.int .i64 y.slv.status) ∧ W.cell? ⟨b2, off2 + k * 10 + 4, none⟩ = some (u4) ∧ W.cell? ⟨b2, off2 + k * 10 + 5, none⟩ = some (u5) ∧ W.cell? ⟨b2, off2 + k * 10 + 6, none⟩ = some (.int .i64 y.slv.vars) ∧ W.cell? ⟨b2, off2 + k * 10 + 7, none⟩ = some (u7) ∧ W.cell? ⟨b2, off2 + k * 10 + 8, none⟩ = some (u8) ∧ W.cell? ⟨b2, off2 + k * 10 + 9, none⟩ = some (u9)) := ⟨fun W h => ⟨Raw.cell_below h (hc 0 _ rfl), Raw.cell_below h (hc 1 _ rfl), Raw.cell_below h (hc 2 _ rfl), Raw.cell_below h (hc 3 _ rfl), Raw.cell_below h (hc 4 _ rfl), Raw.cell_below h (hc 5 _ rfl), Raw.cell_below h (hc 6 _ rfl), Raw.cell_below h (hc 7 _ rfl), Raw.cell_below h (hc 8 _ rfl), Raw.cell_below h (hc 9 _ rfl), Raw.cell_below h (hc2 0 _ rfl), Raw.cell_below h (hc2 1 _ rfl), Raw.cell_below h (hc2 2 _ rfl), Raw.cell_below h (hc2 3 _ rfl), Raw.cell_below h (hc2 4 _ rfl), Raw.cell_below h (hc2 5 _ rfl), Raw.cell_below h (hc2 6 _ rfl), Raw.cell_below h (hc2 7 _ rfl), Raw.cell_below h (hc2 8 _ rfl), Raw.cell_below h (hc2 9 _ rfl)⟩⟩
        clear hc hc2 hK hK2
        obtain ⟨x0, x1, x2, x3, x4, x5, x6, x7, x8, x9, y0, y1, y2, y3, y4, y5, y6, y7, y8, y9⟩ := hat.out _ hb.out
        have i0 : (0 : Int) ≤ (k : Int) := by omega
        have i1 : (k : Int) < (t.length : Int) := by omega
        obtain ⟨bb, hbb⟩ : ∃ bb, decide (x = y) = bb := ⟨_, rfl⟩
        have Hc : Sec (∀ W, Below w.heap.size w W → Calls Tryz.prog 241 #[.agg #[v0, .int .i64 x.want, .bool x.asked, .int .i64 x.slv.status, v4, v5, .int .i64 x.slv.vars, v7, v8, v9], .agg #[u0, .int .i64 y.want, .bool y.asked, .int .i64 y.slv.status, u4, u5, .int .i64 y.slv.vars, u7, u8, u9]] W fun e w' => e = .returned (.bool bb) ∧ Below W.heap.size W w') := ⟨fun W hB => by rw [← hbb]; exact eqNodWork_c x y _ _ ok ok' W (Kd.K_below HK.out hB) (Kd.K_below HK2.out hB)⟩
        have HBB := Sec.mk hbb
        clear hbb
        go_wp2
        go_region_held3 (fun W => W.cell? ⟨b, off + k * 10, none⟩ = some (v0) ∧ W.cell? ⟨b, off + k * 10 + 1, none⟩ = some (.int .i64 x.want) ∧ W.cell? ⟨b, off + k * 10 + 2, none⟩ = some (.bool x.asked) ∧ W.cell? ⟨b, off + k * 10 + 3, none⟩ = some (.int .i64 x.slv.status) ∧ W.cell? ⟨b, off + k * 10 + 4, none⟩ = some (v4) ∧ W.cell? ⟨b, off + k * 10 + 5, none⟩ = some (v5) ∧ W.cell? ⟨b, off + k * 10 + 6, none⟩ = some (.int .i64 x.slv.vars) ∧ W.cell? ⟨b, off + k * 10 + 7, none⟩ = some (v7) ∧ W.cell? ⟨b, off + k * 10 + 8, none⟩ = some (v8) ∧ W.cell? ⟨b, off + k * 10 + 9, none⟩ = some (v9) ∧ W.cell? ⟨b2, off2 + k * 10, none⟩ = some (u0) ∧ W.cell? ⟨b2, off2 + k * 10 + 1, none⟩ = some (.int .i64 y.want) ∧ W.cell? ⟨b2, off2 + k * 10 + 2, none⟩ = some (.bool y.asked) ∧ W.cell? ⟨b2, off2 + k * 10 + 3, none⟩ = some (.int .i64 y.slv.status) ∧ W.cell? ⟨b2, off2 + k * 10 + 4, none⟩ = some (u4) ∧ W.cell? ⟨b2, off2 + k * 10 + 5, none⟩ = some (u5) ∧ W.cell? ⟨b2, off2 + k * 10 + 6, none⟩ = some (.int .i64 y.slv.vars) ∧ W.cell? ⟨b2, off2 + k * 10 + 7, none⟩ = some (u7) ∧ W.cell? ⟨b2, off2 + k * 10 + 8, none⟩ = some (u8) ∧ W.cell? ⟨b2, off2 + k * 10 + 9, none⟩ = some (u9))
          (first | (refine ⟨?_, ?_, ?_, ?_, ?_, ?_, ?_, ?_, ?_, ?_, ?_, ?_, ?_, ?_, ?_, ?_, ?_, ?_, ?_, ?_⟩ <;> assumption) | go_keep)
          (first | (go_at_call 241; refine (Hc.out _ (belD hb.out)).mono ?_; rintro e w1 ⟨rfl, hb1⟩; have B1 := Sec.mk (bel (belD hb.out) hb1); clear x0 x1 x2 x3 x4 x5 x6 x7 x8 x9 y0 y1 y2 y3 y4 y5 y6 y7 y8 y9; obtain ⟨x0, x1, x2, x3, x4, x5, x6, x7, x8, x9, y0, y1, y2, y3, y4, y5, y6, y7, y8, y9⟩ := hat.out _ B1.out; clear hb1))
        all_goals
          cases bb with
          | true =>
            have HE : Sec (t.take (k + 1) = s.take (k + 1)) := ⟨hT1.out (of_decide_eq_true HBB.out)⟩
            go_wp2
            go_roundw
            case rel => exact ⟨k + 1, by omega, by go_num, HE, B1⟩
            case measure => simp [intOf]; omega
          | false =>
            have HE : Sec (decide (t = s) = false) := ⟨decide_eq_false (fun e => of_decide_eq_false HBB.out (hT2.out e))⟩
            go_wp2
            go_ret
            exact ⟨rb HE.out.symm, B1.out⟩
      · have HE : Sec (decide (t = s) = true) := ⟨decide_eq_true (by have := hT.out; have h2 := HL.out; rwa [List.take_of_length_le (by omega), List.take_of_length_le (by omega)] at this)⟩
        go_wp2
        go_ret
        exact ⟨rb HE.out.symm, hb.out⟩
  · have hl' : ((t.length : Int) == (s.length : Int)) = false := beq_eq_false_iff_ne.2 (by omega)
    have HE : Sec (decide (t = s) = false) := ⟨decide_eq_false (fun e => hl (by rw [e]))⟩
    go_enter Tryz.func207, Tryz.ntmps207
    go_wp2
    go_ret
    exact ⟨rb HE.out.symm, Below.refl _ _⟩
def mWork : Mk Work := ⟨fun x => mSOut.cnts x.outs + 1 + 1 + 1 + mSGoal.cnts x.slv.goals + mBind.cnts x.slv.binds + 1 + mTChoice.cnts x.slv.choices + mCell.cnts x.slv.top + mCell.cnts x.slv.out, fun x k => ⟨mSOut.mks x.outs (k), k + ((mSOut.cnts x.outs : Nat) : Int), decide ((k + ((mSOut.cnts x.outs : Nat) : Int) + 1) % 3 = 0), ⟨k + ((mSOut.cnts x.outs : Nat) : Int) + 1 + 1, mSGoal.mks x.slv.goals (k + ((mSOut.cnts x.outs : Nat) : Int) + 1 + 1 + 1), mBind.mks x.slv.binds (k + ((mSOut.cnts x.outs : Nat) : Int) + 1 + 1 + 1 + ((mSGoal.cnts x.slv.goals : Nat) : Int)), k + ((mSOut.cnts x.outs : Nat) : Int) + 1 + 1 + 1 + ((mSGoal.cnts x.slv.goals : Nat) : Int) + ((mBind.cnts x.slv.binds : Nat) : Int), mTChoice.mks x.slv.choices (k + ((mSOut.cnts x.outs : Nat) : Int) + 1 + 1 + 1 + ((mSGoal.cnts x.slv.goals : Nat) : Int) + ((mBind.cnts x.slv.binds : Nat) : Int) + 1), mCell.mks x.slv.top (k + ((mSOut.cnts x.outs : Nat) : Int) + 1 + 1 + 1 + ((mSGoal.cnts x.slv.goals : Nat) : Int) + ((mBind.cnts x.slv.binds : Nat) : Int) + 1 + ((mTChoice.cnts x.slv.choices : Nat) : Int)), mCell.mks x.slv.out (k + ((mSOut.cnts x.outs : Nat) : Int) + 1 + 1 + 1 + ((mSGoal.cnts x.slv.goals : Nat) : Int) + ((mBind.cnts x.slv.binds : Nat) : Int) + 1 + ((mTChoice.cnts x.slv.choices : Nat) : Int) + ((mCell.cnts x.slv.top : Nat) : Int))⟩⟩⟩
theorem mWork_cnt (x : Work) : mWork.cnt x = mSOut.cnts x.outs + 1 + 1 + 1 + mSGoal.cnts x.slv.goals + mBind.cnts x.slv.binds + 1 + mTChoice.cnts x.slv.choices + mCell.cnts x.slv.top + mCell.cnts x.slv.out := rfl
set_option maxHeartbeats 2000000 in
theorem markSWork_c (v : Value) (t : List Work) (S : Nat → Prop) (k : Int) (hk : 0 ≤ k) (hk2 : k + mWork.cnts t ≤ 1000000000000000000) (w : World) (hR : kWork.R w S v t) :
    Calls Tryz.prog 163 #[v, .int .i64 k] w fun e w' => e = .returned (.int .i64 (k + mWork.cnts t)) ∧ kWork.R w' S v (mWork.mks t k) ∧ Foot S w w' := by
  obtain ⟨A, cp, hv, g1, g2⟩ := Kd.R_form hR
  subst hv
  have h3 : t.length ≤ 1073741824 := hR.1
  have HR := Sec.mk hR
  have hu := Tryz.underlying249
  have hu_TrlState := Tryz.underlying93
  clear hR
  have HN := Sec.mk (mWork.cnts_take t)
  have HM := Sec.mk (mWork.cnts_le t)
  have HX := Sec.mk (mWork.next t k)
  go_enter Tryz.func163, Tryz.ntmps163
  go_wp2
  go_loopw [1, 5] (fun kv iv wr => ∃ i : Nat, i ≤ t.length ∧ iv = .int .i64 i ∧ kv = .int .i64 (k + ↑(mWork.cnts (t.take i))) ∧ Sec (kWork.R wr S (.slice A t.length cp) (mWork.mks (t.take i) k ++ t.drop i)) ∧ Sec (Foot S w wr)) (fun _ iv _ => t.length - (intOf iv).toNat)
  case atStart => exact ⟨0, Nat.zero_le _, rfl, by simp [Mk.cnts], ⟨by simpa [Mk.mks] using HR.out⟩, ⟨Foot.refl _ _⟩⟩
  case round =>
    obtain ⟨i, hi, rfl, rfl, hM, hF⟩ := hrel
    by_cases hlt : i < t.length
    · have hL : (mWork.mks (t.take i) k ++ t.drop i).length = t.length := mWork.len_ t k i
      have hil : i < (mWork.mks (t.take i) k ++ t.drop i).length := by omega
      obtain ⟨b, rfl, -, hSb, hbb, -⟩ := Kd.R_block hM.out (by omega)
      obtain ⟨cs, hA, -⟩ := Kd.At.of_R hM.out hil
      rw [mWork.at_ t k i hlt] at hA
      have hnext := Sec.mk (HX.out i hlt)
      have hn1 := HN.out i hlt
      have hn2 := HM.out (i + 1)
      rw [hn1] at hn2
      have HN1 := Sec.mk hn1
      have F0 := hF
      clear hM hn1 hL
      generalize mWork.mks (t.take i) k ++ t.drop i = L at *
      generalize t[i] = x at *
      generalize mWork.cnts (t.take i) = c at *
      have hcx : Sec (mWork.cnt x = _) := ⟨mWork_cnt x⟩
      rw [mWork_cnt x] at hn2
      have hAt := hA
      obtain ⟨v0, v4, v5, v7, v8, v9, rfl, -, -, -, -, -, -⟩ := kWork_K hA.K
      have A0 := Sec.mk hA
      clear hA hAt
      have c0_0 : wr.cell? ⟨b, i * 10, none⟩ = some (v0) := Kd.At.cell A0.out 0 _ rfl
      have c0_1 : wr.cell? ⟨b, i * 10 + 1, none⟩ = some (.int .i64 x.want) := Kd.At.cell A0.out 1 _ rfl
      have c0_2 : wr.cell? ⟨b, i * 10 + 2, none⟩ = some (.bool x.asked) := Kd.At.cell A0.out 2 _ rfl
      have c0_3 : wr.cell? ⟨b, i * 10 + 3, none⟩ = some (.int .i64 x.slv.status) := Kd.At.cell A0.out 3 _ rfl
      have c0_4 : wr.cell? ⟨b, i * 10 + 4, none⟩ = some (v4) := Kd.At.cell A0.out 4 _ rfl
      have c0_5 : wr.cell? ⟨b, i * 10 + 5, none⟩ = some (v5) := Kd.At.cell A0.out 5 _ rfl
      have c0_6 : wr.cell? ⟨b, i * 10 + 6, none⟩ = some (.int .i64 x.slv.vars) := Kd.At.cell A0.out 6 _ rfl
      have c0_7 : wr.cell? ⟨b, i * 10 + 7, none⟩ = some (v7) := Kd.At.cell A0.out 7 _ rfl
      have c0_8 : wr.cell? ⟨b, i * 10 + 8, none⟩ = some (v8) := Kd.At.cell A0.out 8 _ rfl
      have c0_9 : wr.cell? ⟨b, i * 10 + 9, none⟩ = some (v9) := Kd.At.cell A0.out 9 _ rfl
      have f0_0 : wr.frozen? ⟨b, i * 10, none⟩ = false := Kd.At.frozen A0.out (i * 10)
      have f0_1 : wr.frozen? ⟨b, i * 10 + 1, none⟩ = false := Kd.At.frozen A0.out (i * 10 + 1)
      have f0_2 : wr.frozen? ⟨b, i * 10 + 2, none⟩ = false := Kd.At.frozen A0.out (i * 10 + 2)
      have f0_3 : wr.frozen? ⟨b, i * 10 + 3, none⟩ = false := Kd.At.frozen A0.out (i * 10 + 3)
      have f0_4 : wr.frozen? ⟨b, i * 10 + 4, none⟩ = false := Kd.At.frozen A0.out (i * 10 + 4)
      have f0_5 : wr.frozen? ⟨b, i * 10 + 5, none⟩ = false := Kd.At.frozen A0.out (i * 10 + 5)
      have f0_6 : wr.frozen? ⟨b, i * 10 + 6, none⟩ = false := Kd.At.frozen A0.out (i * 10 + 6)
      have f0_7 : wr.frozen? ⟨b, i * 10 + 7, none⟩ = false := Kd.At.frozen A0.out (i * 10 + 7)
      have f0_8 : wr.frozen? ⟨b, i * 10 + 8, none⟩ = false := Kd.At.frozen A0.out (i * 10 + 8)
      have f0_9 : wr.frozen? ⟨b, i * 10 + 9, none⟩ = false := Kd.At.frozen A0.out (i * 10 + 9)
      obtain ⟨S0, r0, hs0, bk0⟩ := Kd.At.sub A0.out kWork_f_outs (v := v0) rfl
      have SR0 := Sec.mk r0
      have SS0 := Sec.mk hs0
      have BK0 := Sec.mk bk0
      clear r0 hs0 bk0
      have T0 : Sec True := ⟨trivial⟩
      go_wp2_with (first | (clear T5; go_at_call 28; have T6 : Sec True := ⟨trivial⟩; refine (markSCell_c v9 x.slv.out S9 (k + (c : Int) + ((mSOut.cnts x.outs : Nat) : Int) + 1 + 1 + 1 + ((mSGoal.cnts x.slv.goals : Nat) : Int) + ((mBind.cnts x.slv.binds : Nat) : Int) + 1 + ((mTChoice.cnts x.slv.choices : Nat) : Int) + ((mCell.cnts x.slv.top : Nat) : Int)) (by omega) (by omega) _ SR9.out).mono ?_; rintro e w6 ⟨rfl, hR', hF'⟩; have A10 : Sec (Kd.At kWork w6 S b t.length cp L i ⟨(mSOut.mks x.outs (k + (c : Int))), k + (c : Int) + ((mSOut.cnts x.outs : Nat) : Int), decide ((k + (c : Int) + ((mSOut.cnts x.outs : Nat) : Int) + 1) % 3 = 0), ⟨k + (c : Int) + ((mSOut.cnts x.outs : Nat) : Int) + 1 + 1, (mSGoal.mks x.slv.goals (k + (c : Int) + ((mSOut.cnts x.outs : Nat) : Int) + 1 + 1 + 1)), (mBind.mks x.slv.binds (k + (c : Int) + ((mSOut.cnts x.outs : Nat) : Int) + 1 + 1 + 1 + ((mSGoal.cnts x.slv.goals : Nat) : Int))), k + (c : Int) + ((mSOut.cnts x.outs : Nat) : Int) + 1 + 1 + 1 + ((mSGoal.cnts x.slv.goals : Nat) : Int) + ((mBind.cnts x.slv.binds : Nat) : Int), (mTChoice.mks x.slv.choices (k + (c : Int) + ((mSOut.cnts x.outs : Nat) : Int) + 1 + 1 + 1 + ((mSGoal.cnts x.slv.goals : Nat) : Int) + ((mBind.cnts x.slv.binds : Nat) : Int) + 1)), (mCell.mks x.slv.top (k + (c : Int) + ((mSOut.cnts x.outs : Nat) : Int) + 1 + 1 + 1 + ((mSGoal.cnts x.slv.goals : Nat) : Int) + ((mBind.cnts x.slv.binds : Nat) : Int) + 1 + ((mTChoice.cnts x.slv.choices : Nat) : Int))), (mCell.mks x.slv.out (k + (c : Int) + ((mSOut.cnts x.outs : Nat) : Int) + 1 + 1 + 1 + ((mSGoal.cnts x.slv.goals : Nat) : Int) + ((mBind.cnts x.slv.binds : Nat) : Int) + 1 + ((mTChoice.cnts x.slv.choices : Nat) : Int) + ((mCell.cnts x.slv.top : Nat) : Int)))⟩⟩ [v0, .int .i64 (k + (c : Int) + ((mSOut.cnts x.outs : Nat) : Int)), .bool (decide ((k + (c : Int) + ((mSOut.cnts x.outs : Nat) : Int) + 1) % 3 = 0)), .int .i64 (k + (c : Int) + ((mSOut.cnts x.outs : Nat) : Int) + 1 + 1), v4, v5, .int .i64 (k + (c : Int) + ((mSOut.cnts x.outs : Nat) : Int) + 1 + 1 + 1 + ((mSGoal.cnts x.slv.goals : Nat) : Int) + ((mBind.cnts x.slv.binds : Nat) : Int)), v7, v8, v9]) := ⟨BK9.out w6 _ hR' hF'⟩; have F10 : Sec (Foot S w w6) := ⟨F9.out.trans hF' (fun k _ h => (SS9.out k h).1)⟩; clear hR' hF'; clear c5_0 f5_0 c5_1 f5_1 c5_2 f5_2 c5_3 f5_3 c5_4 f5_4 c5_5 f5_5 c5_6 f5_6 c5_7 f5_7 c5_8 f5_8 c5_9 f5_9; have c6_0 : w6.cell? ⟨b, i * 10, none⟩ = some (v0) := Kd.At.cell A10.out 0 _ rfl; have c6_1 : w6.cell? ⟨b, i * 10 + 1, none⟩ = some (.int .i64 (k + (c : Int) + ((mSOut.cnts x.outs : Nat) : Int))) := Kd.At.cell A10.out 1 _ rfl; have c6_2 : w6.cell? ⟨b, i * 10 + 2, none⟩ = some (.bool (decide ((k + (c : Int) + ((mSOut.cnts x.outs : Nat) : Int) + 1) % 3 = 0))) := Kd.At.cell A10.out 2 _ rfl; have c6_3 : w6.cell? ⟨b, i * 10 + 3, none⟩ = some (.int .i64 (k + (c : Int) + ((mSOut.cnts x.outs : Nat) : Int) + 1 + 1)) := Kd.At.cell A10.out 3 _ rfl; have c6_4 : w6.cell? ⟨b, i * 10 + 4, none⟩ = some (v4) := Kd.At.cell A10.out 4 _ rfl; have c6_5 : w6.cell? ⟨b, i * 10 + 5, none⟩ = some (v5) := Kd.At.cell A10.out 5 _ rfl; have c6_6 : w6.cell? ⟨b, i * 10 + 6, none⟩ = some (.int .i64 (k + (c : Int) + ((mSOut.cnts x.outs : Nat) : Int) + 1 + 1 + 1 + ((mSGoal.cnts x.slv.goals : Nat) : Int) + ((mBind.cnts x.slv.binds : Nat) : Int))) := Kd.At.cell A10.out 6 _ rfl; have c6_7 : w6.cell? ⟨b, i * 10 + 7, none⟩ = some (v7) := Kd.At.cell A10.out 7 _ rfl; have c6_8 : w6.cell? ⟨b, i * 10 + 8, none⟩ = some (v8) := Kd.At.cell A10.out 8 _ rfl; have c6_9 : w6.cell? ⟨b, i * 10 + 9, none⟩ = some (v9) := Kd.At.cell A10.out 9 _ rfl; have f6_0 : w6.frozen? ⟨b, i * 10, none⟩ = false := Kd.At.frozen A10.out (i * 10); have f6_1 : w6.frozen? ⟨b, i * 10 + 1, none⟩ = false := Kd.At.frozen A10.out (i * 10 + 1); have f6_2 : w6.frozen? ⟨b, i * 10 + 2, none⟩ = false := Kd.At.frozen A10.out (i * 10 + 2); have f6_3 : w6.frozen? ⟨b, i * 10 + 3, none⟩ = false := Kd.At.frozen A10.out (i * 10 + 3); have f6_4 : w6.frozen? ⟨b, i * 10 + 4, none⟩ = false := Kd.At.frozen A10.out (i * 10 + 4); have f6_5 : w6.frozen? ⟨b, i * 10 + 5, none⟩ = false := Kd.At.frozen A10.out (i * 10 + 5); have f6_6 : w6.frozen? ⟨b, i * 10 + 6, none⟩ = false := Kd.At.frozen A10.out (i * 10 + 6); have f6_7 : w6.frozen? ⟨b, i * 10 + 7, none⟩ = false := Kd.At.frozen A10.out (i * 10 + 7); have f6_8 : w6.frozen? ⟨b, i * 10 + 8, none⟩ = false := Kd.At.frozen A10.out (i * 10 + 8); have f6_9 : w6.frozen? ⟨b, i * 10 + 9, none⟩ = false := Kd.At.frozen A10.out (i * 10 + 9)) | (clear T4; go_at_call 28; have T5 : Sec True := ⟨trivial⟩; refine (markSCell_c v8 x.slv.top S8 (k + (c : Int) + ((mSOut.cnts x.outs : Nat) : Int) + 1 + 1 + 1 + ((mSGoal.cnts x.slv.goals : Nat) : Int) + ((mBind.cnts x.slv.binds : Nat) : Int) + 1 + ((mTChoice.cnts x.slv.choices : Nat) : Int)) (by omega) (by omega) _ SR8.out).mono ?_; rintro e w5 ⟨rfl, hR', hF'⟩; have A9 : Sec (Kd.At kWork w5 S b t.length cp L i ⟨(mSOut.mks x.outs (k + (c : Int))), k + (c : Int) + ((mSOut.cnts x.outs : Nat) : Int), decide ((k + (c : Int) + ((mSOut.cnts x.outs : Nat) : Int) + 1) % 3 = 0), ⟨k + (c : Int) + ((mSOut.cnts x.outs : Nat) : Int) + 1 + 1, (mSGoal.mks x.slv.goals (k + (c : Int) + ((mSOut.cnts x.outs : Nat) : Int) + 1 + 1 + 1)), (mBind.mks x.slv.binds (k + (c : Int) + ((mSOut.cnts x.outs : Nat) : Int) + 1 + 1 + 1 + ((mSGoal.cnts x.slv.goals : Nat) : Int))), k + (c : Int) + ((mSOut.cnts x.outs : Nat) : Int) + 1 + 1 + 1 + ((mSGoal.cnts x.slv.goals : Nat) : Int) + ((mBind.cnts x.slv.binds : Nat) : Int), (mTChoice.mks x.slv.choices (k + (c : Int) + ((mSOut.cnts x.outs : Nat) : Int) + 1 + 1 + 1 + ((mSGoal.cnts x.slv.goals : Nat) : Int) + ((mBind.cnts x.slv.binds : Nat) : Int) + 1)), (mCell.mks x.slv.top (k + (c : Int) + ((mSOut.cnts x.outs : Nat) : Int) + 1 + 1 + 1 + ((mSGoal.cnts x.slv.goals : Nat) : Int) + ((mBind.cnts x.slv.binds : Nat) : Int) + 1 + ((mTChoice.cnts x.slv.choices : Nat) : Int))), x.slv.out⟩⟩ [v0, .int .i64 (k + (c : Int) + ((mSOut.cnts x.outs : Nat) : Int)), .bool (decide ((k + (c : Int) + ((mSOut.cnts x.outs : Nat) : Int) + 1) % 3 = 0)), .int .i64 (k + (c : Int) + ((mSOut.cnts x.outs : Nat) : Int) + 1 + 1), v4, v5, .int .i64 (k + (c : Int) + ((mSOut.cnts x.outs : Nat) : Int) + 1 + 1 + 1 + ((mSGoal.cnts x.slv.goals : Nat) : Int) + ((mBind.cnts x.slv.binds : Nat) : Int)), v7, v8, v9]) := ⟨BK8.out w5 _ hR' hF'⟩; have F9 : Sec (Foot S w w5) := ⟨F8.out.trans hF' (fun k _ h => (SS8.out k h).1)⟩; clear hR' hF'; clear c4_0 f4_0 c4_1 f4_1 c4_2 f4_2 c4_3 f4_3 c4_4 f4_4 c4_5 f4_5 c4_6 f4_6 c4_7 f4_7 c4_8 f4_8 c4_9 f4_9; have c5_0 : w5.cell? ⟨b, i * 10, none⟩ = some (v0) := Kd.At.cell A9.out 0 _ rfl; have c5_1 : w5.cell? ⟨b, i * 10 + 1, none⟩ = some (.int .i64 (k + (c : Int) + ((mSOut.cnts x.outs : Nat) : Int))) := Kd.At.cell A9.out 1 _ rfl; have c5_2 : w5.cell? ⟨b, i * 10 + 2, none⟩ = some (.bool (decide ((k + (c : Int) + ((mSOut.cnts x.outs : Nat) : Int) + 1) % 3 = 0))) := Kd.At.cell A9.out 2 _ rfl; have c5_3 : w5.cell? ⟨b, i * 10 + 3, none⟩ = some (.int .i64 (k + (c : Int) + ((mSOut.cnts x.outs : Nat) : Int) + 1 + 1)) := Kd.At.cell A9.out 3 _ rfl; have c5_4 : w5.cell? ⟨b, i * 10 + 4, none⟩ = some (v4) := Kd.At.cell A9.out 4 _ rfl; have c5_5 : w5.cell? ⟨b, i * 10 + 5, none⟩ = some (v5) := Kd.At.cell A9.out 5 _ rfl; have c5_6 : w5.cell? ⟨b, i * 10 + 6, none⟩ = some (.int .i64 (k + (c : Int) + ((mSOut.cnts x.outs : Nat) : Int) + 1 + 1 + 1 + ((mSGoal.cnts x.slv.goals : Nat) : Int) + ((mBind.cnts x.slv.binds : Nat) : Int))) := Kd.At.cell A9.out 6 _ rfl; have c5_7 : w5.cell? ⟨b, i * 10 + 7, none⟩ = some (v7) := Kd.At.cell A9.out 7 _ rfl; have c5_8 : w5.cell? ⟨b, i * 10 + 8, none⟩ = some (v8) := Kd.At.cell A9.out 8 _ rfl; have c5_9 : w5.cell? ⟨b, i * 10 + 9, none⟩ = some (v9) := Kd.At.cell A9.out 9 _ rfl; have f5_0 : w5.frozen? ⟨b, i * 10, none⟩ = false := Kd.At.frozen A9.out (i * 10); have f5_1 : w5.frozen? ⟨b, i * 10 + 1, none⟩ = false := Kd.At.frozen A9.out (i * 10 + 1); have f5_2 : w5.frozen? ⟨b, i * 10 + 2, none⟩ = false := Kd.At.frozen A9.out (i * 10 + 2); have f5_3 : w5.frozen? ⟨b, i * 10 + 3, none⟩ = false := Kd.At.frozen A9.out (i * 10 + 3); have f5_4 : w5.frozen? ⟨b, i * 10 + 4, none⟩ = false := Kd.At.frozen A9.out (i * 10 + 4); have f5_5 : w5.frozen? ⟨b, i * 10 + 5, none⟩ = false := Kd.At.frozen A9.out (i * 10 + 5); have f5_6 : w5.frozen? ⟨b, i * 10 + 6, none⟩ = false := Kd.At.frozen A9.out (i * 10 + 6); have f5_7 : w5.frozen? ⟨b, i * 10 + 7, none⟩ = false := Kd.At.frozen A9.out (i * 10 + 7); have f5_8 : w5.frozen? ⟨b, i * 10 + 8, none⟩ = false := Kd.At.frozen A9.out (i * 10 + 8); have f5_9 : w5.frozen? ⟨b, i * 10 + 9, none⟩ = false := Kd.At.frozen A9.out (i * 10 + 9); obtain ⟨S9, r9, hs9, bk9⟩ := Kd.At.sub A9.out kWork_f_slv_out (v := v9) rfl; have SR9 := Sec.mk r9; have SS9 := Sec.mk hs9; have BK9 := Sec.mk bk9; clear r9 hs9 bk9) | (clear T3; go_at_call 211; have T4 : Sec True := ⟨trivial⟩; refine (markSTChoice_c v7 x.slv.choices S7 (k + (c : Int) + ((mSOut.cnts x.outs : Nat) : Int) + 1 + 1 + 1 + ((mSGoal.cnts x.slv.goals : Nat) : Int) + ((mBind.cnts x.slv.binds : Nat) : Int) + 1) (by omega) (by omega) _ SR7.out).mono ?_; rintro e w4 ⟨rfl, hR', hF'⟩; have A8 : Sec (Kd.At kWork w4 S b t.length cp L i ⟨(mSOut.mks x.outs (k + (c : Int))), k + (c : Int) + ((mSOut.cnts x.outs : Nat) : Int), decide ((k + (c : Int) + ((mSOut.cnts x.outs : Nat) : Int) + 1) % 3 = 0), ⟨k + (c : Int) + ((mSOut.cnts x.outs : Nat) : Int) + 1 + 1, (mSGoal.mks x.slv.goals (k + (c : Int) + ((mSOut.cnts x.outs : Nat) : Int) + 1 + 1 + 1)), (mBind.mks x.slv.binds (k + (c : Int) + ((mSOut.cnts x.outs : Nat) : Int) + 1 + 1 + 1 + ((mSGoal.cnts x.slv.goals : Nat) : Int))), k + (c : Int) + ((mSOut.cnts x.outs : Nat) : Int) + 1 + 1 + 1 + ((mSGoal.cnts x.slv.goals : Nat) : Int) + ((mBind.cnts x.slv.binds : Nat) : Int), (mTChoice.mks x.slv.choices (k + (c : Int) + ((mSOut.cnts x.outs : Nat) : Int) + 1 + 1 + 1 + ((mSGoal.cnts x.slv.goals : Nat) : Int) + ((mBind.cnts x.slv.binds : Nat) : Int) + 1)), x.slv.top, x.slv.out⟩⟩ [v0, .int .i64 (k + (c : Int) + ((mSOut.cnts x.outs : Nat) : Int)), .bool (decide ((k + (c : Int) + ((mSOut.cnts x.outs : Nat) : Int) + 1) % 3 = 0)), .int .i64 (k + (c : Int) + ((mSOut.cnts x.outs : Nat) : Int) + 1 + 1), v4, v5, .int .i64 (k + (c : Int) + ((mSOut.cnts x.outs : Nat) : Int) + 1 + 1 + 1 + ((mSGoal.cnts x.slv.goals : Nat) : Int) + ((mBind.cnts x.slv.binds : Nat) : Int)), v7, v8, v9]) := ⟨BK7.out w4 _ hR' hF'⟩; have F8 : Sec (Foot S w w4) := ⟨F7.out.trans hF' (fun k _ h => (SS7.out k h).1)⟩; clear hR' hF'; clear c3_0 f3_0 c3_1 f3_1 c3_2 f3_2 c3_3 f3_3 c3_4 f3_4 c3_5 f3_5 c3_6 f3_6 c3_7 f3_7 c3_8 f3_8 c3_9 f3_9; have c4_0 : w4.cell? ⟨b, i * 10, none⟩ = some (v0) := Kd.At.cell A8.out 0 _ rfl; have c4_1 : w4.cell? ⟨b, i * 10 + 1, none⟩ = some (.int .i64 (k + (c : Int) + ((mSOut.cnts x.outs : Nat) : Int))) := Kd.At.cell A8.out 1 _ rfl; have c4_2 : w4.cell? ⟨b, i * 10 + 2, none⟩ = some (.bool (decide ((k + (c : Int) + ((mSOut.cnts x.outs : Nat) : Int) + 1) % 3 = 0))) := Kd.At.cell A8.out 2 _ rfl; have c4_3 : w4.cell? ⟨b, i * 10 + 3, none⟩ = some (.int .i64 (k + (c : Int) + ((mSOut.cnts x.outs : Nat) : Int) + 1 + 1)) := Kd.At.cell A8.out 3 _ rfl; have c4_4 : w4.cell? ⟨b, i * 10 + 4, none⟩ = some (v4) := Kd.At.cell A8.out 4 _ rfl; have c4_5 : w4.cell? ⟨b, i * 10 + 5, none⟩ = some (v5) := Kd.At.cell A8.out 5 _ rfl; have c4_6 : w4.cell? ⟨b, i * 10 + 6, none⟩ = some (.int .i64 (k + (c : Int) + ((mSOut.cnts x.outs : Nat) : Int) + 1 + 1 + 1 + ((mSGoal.cnts x.slv.goals : Nat) : Int) + ((mBind.cnts x.slv.binds : Nat) : Int))) := Kd.At.cell A8.out 6 _ rfl; have c4_7 : w4.cell? ⟨b, i * 10 + 7, none⟩ = some (v7) := Kd.At.cell A8.out 7 _ rfl; have c4_8 : w4.cell? ⟨b, i * 10 + 8, none⟩ = some (v8) := Kd.At.cell A8.out 8 _ rfl; have c4_9 : w4.cell? ⟨b, i * 10 + 9, none⟩ = some (v9) := Kd.At.cell A8.out 9 _ rfl; have f4_0 : w4.frozen? ⟨b, i * 10, none⟩ = false := Kd.At.frozen A8.out (i * 10); have f4_1 : w4.frozen? ⟨b, i * 10 + 1, none⟩ = false := Kd.At.frozen A8.out (i * 10 + 1); have f4_2 : w4.frozen? ⟨b, i * 10 + 2, none⟩ = false := Kd.At.frozen A8.out (i * 10 + 2); have f4_3 : w4.frozen? ⟨b, i * 10 + 3, none⟩ = false := Kd.At.frozen A8.out (i * 10 + 3); have f4_4 : w4.frozen? ⟨b, i * 10 + 4, none⟩ = false := Kd.At.frozen A8.out (i * 10 + 4); have f4_5 : w4.frozen? ⟨b, i * 10 + 5, none⟩ = false := Kd.At.frozen A8.out (i * 10 + 5); have f4_6 : w4.frozen? ⟨b, i * 10 + 6, none⟩ = false := Kd.At.frozen A8.out (i * 10 + 6); have f4_7 : w4.frozen? ⟨b, i * 10 + 7, none⟩ = false := Kd.At.frozen A8.out (i * 10 + 7); have f4_8 : w4.frozen? ⟨b, i * 10 + 8, none⟩ = false := Kd.At.frozen A8.out (i * 10 + 8); have f4_9 : w4.frozen? ⟨b, i * 10 + 9, none⟩ = false := Kd.At.frozen A8.out (i * 10 + 9); obtain ⟨S8, r8, hs8, bk8⟩ := Kd.At.sub A8.out kWork_f_slv_top (v := v8) rfl; have SR8 := Sec.mk r8; have SS8 := Sec.mk hs8; have BK8 := Sec.mk bk8; clear r8 hs8 bk8) | (clear T2; go_at_call 210; have T3 : Sec True := ⟨trivial⟩; refine (markSBind_c v5 x.slv.binds S5 (k + (c : Int) + ((mSOut.cnts x.outs : Nat) : Int) + 1 + 1 + 1 + ((mSGoal.cnts x.slv.goals : Nat) : Int)) (by omega) (by omega) _ SR5.out).mono ?_; rintro e w3 ⟨rfl, hR', hF'⟩; have A6 : Sec (Kd.At kWork w3 S b t.length cp L i ⟨(mSOut.mks x.outs (k + (c : Int))), k + (c : Int) + ((mSOut.cnts x.outs : Nat) : Int), decide ((k + (c : Int) + ((mSOut.cnts x.outs : Nat) : Int) + 1) % 3 = 0), ⟨k + (c : Int) + ((mSOut.cnts x.outs : Nat) : Int) + 1 + 1, (mSGoal.mks x.slv.goals (k + (c : Int) + ((mSOut.cnts x.outs : Nat) : Int) + 1 + 1 + 1)), (mBind.mks x.slv.binds (k + (c : Int) + ((mSOut.cnts x.outs : Nat) : Int) + 1 + 1 + 1 + ((mSGoal.cnts x.slv.goals : Nat) : Int))), x.slv.vars, x.slv.choices, x.slv.top, x.slv.out⟩⟩ [v0, .int .i64 (k + (c : Int) + ((mSOut.cnts x.outs : Nat) : Int)), .bool (decide ((k + (c : Int) + ((mSOut.cnts x.outs : Nat) : Int) + 1) % 3 = 0)), .int .i64 (k + (c : Int) + ((mSOut.cnts x.outs : Nat) : Int) + 1 + 1), v4, v5, .int .i64 x.slv.vars, v7, v8, v9]) := ⟨BK5.out w3 _ hR' hF'⟩; have F6 : Sec (Foot S w w3) := ⟨F5.out.trans hF' (fun k _ h => (SS5.out k h).1)⟩; clear hR' hF'; clear c2_0 f2_0 c2_1 f2_1 c2_2 f2_2 c2_3 f2_3 c2_4 f2_4 c2_5 f2_5 c2_6 f2_6 c2_7 f2_7 c2_8 f2_8 c2_9 f2_9; have c3_0 : w3.cell? ⟨b, i * 10, none⟩ = some (v0) := Kd.At.cell A6.out 0 _ rfl; have c3_1 : w3.cell? ⟨b, i * 10 + 1, none⟩ = some (.int .i64 (k + (c : Int) + ((mSOut.cnts x.outs : Nat) : Int))) := Kd.At.cell A6.out 1 _ rfl; have c3_2 : w3.cell? ⟨b, i * 10 + 2, none⟩ = some (.bool (decide ((k + (c : Int) + ((mSOut.cnts x.outs : Nat) : Int) + 1) % 3 = 0))) := Kd.At.cell A6.out 2 _ rfl; have c3_3 : w3.cell? ⟨b, i * 10 + 3, none⟩ = some (.int .i64 (k + (c : Int) + ((mSOut.cnts x.outs : Nat) : Int) + 1 + 1)) := Kd.At.cell A6.out 3 _ rfl; have c3_4 : w3.cell? ⟨b, i * 10 + 4, none⟩ = some (v4) := Kd.At.cell A6.out 4 _ rfl; have c3_5 : w3.cell? ⟨b, i * 10 + 5, none⟩ = some (v5) := Kd.At.cell A6.out 5 _ rfl; have c3_6 : w3.cell? ⟨b, i * 10 + 6, none⟩ = some (.int .i64 x.slv.vars) := Kd.At.cell A6.out 6 _ rfl; have c3_7 : w3.cell? ⟨b, i * 10 + 7, none⟩ = some (v7) := Kd.At.cell A6.out 7 _ rfl; have c3_8 : w3.cell? ⟨b, i * 10 + 8, none⟩ = some (v8) := Kd.At.cell A6.out 8 _ rfl; have c3_9 : w3.cell? ⟨b, i * 10 + 9, none⟩ = some (v9) := Kd.At.cell A6.out 9 _ rfl; have f3_0 : w3.frozen? ⟨b, i * 10, none⟩ = false := Kd.At.frozen A6.out (i * 10); have f3_1 : w3.frozen? ⟨b, i * 10 + 1, none⟩ = false := Kd.At.frozen A6.out (i * 10 + 1); have f3_2 : w3.frozen? ⟨b, i * 10 + 2, none⟩ = false := Kd.At.frozen A6.out (i * 10 + 2); have f3_3 : w3.frozen? ⟨b, i * 10 + 3, none⟩ = false := Kd.At.frozen A6.out (i * 10 + 3); have f3_4 : w3.frozen? ⟨b, i * 10 + 4, none⟩ = false := Kd.At.frozen A6.out (i * 10 + 4); have f3_5 : w3.frozen? ⟨b, i * 10 + 5, none⟩ = false := Kd.At.frozen A6.out (i * 10 + 5); have f3_6 : w3.frozen? ⟨b, i * 10 + 6, none⟩ = false := Kd.At.frozen A6.out (i * 10 + 6); have f3_7 : w3.frozen? ⟨b, i * 10 + 7, none⟩ = false := Kd.At.frozen A6.out (i * 10 + 7); have f3_8 : w3.frozen? ⟨b, i * 10 + 8, none⟩ = false := Kd.At.frozen A6.out (i * 10 + 8); have f3_9 : w3.frozen? ⟨b, i * 10 + 9, none⟩ = false := Kd.At.frozen A6.out (i * 10 + 9); have A7 : Sec (Kd.At kWork (w3.setCell ⟨b, i * 10 + 6, none⟩ (.int .i64 (k + (c : Int) + ((mSOut.cnts x.outs : Nat) : Int) + 1 + 1 + 1 + ((mSGoal.cnts x.slv.goals : Nat) : Int) + ((mBind.cnts x.slv.binds : Nat) : Int)))) S b t.length cp L i ⟨(mSOut.mks x.outs (k + (c : Int))), k + (c : Int) + ((mSOut.cnts x.outs : Nat) : Int), decide ((k + (c : Int) + ((mSOut.cnts x.outs : Nat) : Int) + 1) % 3 = 0), ⟨k + (c : Int) + ((mSOut.cnts x.outs : Nat) : Int) + 1 + 1, (mSGoal.mks x.slv.goals (k + (c : Int) + ((mSOut.cnts x.outs : Nat) : Int) + 1 + 1 + 1)), (mBind.mks x.slv.binds (k + (c : Int) + ((mSOut.cnts x.outs : Nat) : Int) + 1 + 1 + 1 + ((mSGoal.cnts x.slv.goals : Nat) : Int))), k + (c : Int) + ((mSOut.cnts x.outs : Nat) : Int) + 1 + 1 + 1 + ((mSGoal.cnts x.slv.goals : Nat) : Int) + ((mBind.cnts x.slv.binds : Nat) : Int), x.slv.choices, x.slv.top, x.slv.out⟩⟩ [v0, .int .i64 (k + (c : Int) + ((mSOut.cnts x.outs : Nat) : Int)), .bool (decide ((k + (c : Int) + ((mSOut.cnts x.outs : Nat) : Int) + 1) % 3 = 0)), .int .i64 (k + (c : Int) + ((mSOut.cnts x.outs : Nat) : Int) + 1 + 1), v4, v5, .int .i64 (k + (c : Int) + ((mSOut.cnts x.outs : Nat) : Int) + 1 + 1 + 1 + ((mSGoal.cnts x.slv.goals : Nat) : Int) + ((mBind.cnts x.slv.binds : Nat) : Int)), v7, v8, v9]) := ⟨Kd.At.store (e := (Kd.int 3)) A6.out kWork_f_slv_vars rfl (k + (c : Int) + ((mSOut.cnts x.outs : Nat) : Int) + 1 + 1 + 1 + ((mSGoal.cnts x.slv.goals : Nat) : Int) + ((mBind.cnts x.slv.binds : Nat) : Int)) (.int .i64 (k + (c : Int) + ((mSOut.cnts x.outs : Nat) : Int) + 1 + 1 + 1 + ((mSGoal.cnts x.slv.goals : Nat) : Int) + ((mBind.cnts x.slv.binds : Nat) : Int))) (fun _ _ => ⟨rfl, trivial⟩)⟩; have F7 : Sec (Foot S w (w3.setCell ⟨b, i * 10 + 6, none⟩ (.int .i64 (k + (c : Int) + ((mSOut.cnts x.outs : Nat) : Int) + 1 + 1 + 1 + ((mSGoal.cnts x.slv.goals : Nat) : Int) + ((mBind.cnts x.slv.binds : Nat) : Int))))) := ⟨F6.out.set (g := b) (.inl hSb) (i * 10 + 6) (.int .i64 (k + (c : Int) + ((mSOut.cnts x.outs : Nat) : Int) + 1 + 1 + 1 + ((mSGoal.cnts x.slv.goals : Nat) : Int) + ((mBind.cnts x.slv.binds : Nat) : Int)))⟩; obtain ⟨S7, r7, hs7, bk7⟩ := Kd.At.sub A7.out kWork_f_slv_choices (v := v7) rfl; have SR7 := Sec.mk r7; have SS7 := Sec.mk hs7; have BK7 := Sec.mk bk7; clear r7 hs7 bk7) | (clear T1; go_at_call 209; have T2 : Sec True := ⟨trivial⟩; refine (markSSGoal_c v4 x.slv.goals S4 (k + (c : Int) + ((mSOut.cnts x.outs : Nat) : Int) + 1 + 1 + 1) (by omega) (by omega) _ SR4.out).mono ?_; rintro e w2 ⟨rfl, hR', hF'⟩; have A5 : Sec (Kd.At kWork w2 S b t.length cp L i ⟨(mSOut.mks x.outs (k + (c : Int))), k + (c : Int) + ((mSOut.cnts x.outs : Nat) : Int), decide ((k + (c : Int) + ((mSOut.cnts x.outs : Nat) : Int) + 1) % 3 = 0), ⟨k + (c : Int) + ((mSOut.cnts x.outs : Nat) : Int) + 1 + 1, (mSGoal.mks x.slv.goals (k + (c : Int) + ((mSOut.cnts x.outs : Nat) : Int) + 1 + 1 + 1)), x.slv.binds, x.slv.vars, x.slv.choices, x.slv.top, x.slv.out⟩⟩ [v0, .int .i64 (k + (c : Int) + ((mSOut.cnts x.outs : Nat) : Int)), .bool (decide ((k + (c : Int) + ((mSOut.cnts x.outs : Nat) : Int) + 1) % 3 = 0)), .int .i64 (k + (c : Int) + ((mSOut.cnts x.outs : Nat) : Int) + 1 + 1), v4, v5, .int .i64 x.slv.vars, v7, v8, v9]) := ⟨BK4.out w2 _ hR' hF'⟩; have F5 : Sec (Foot S w w2) := ⟨F4.out.trans hF' (fun k _ h => (SS4.out k h).1)⟩; clear hR' hF'; clear c1_0 f1_0 c1_1 f1_1 c1_2 f1_2 c1_3 f1_3 c1_4 f1_4 c1_5 f1_5 c1_6 f1_6 c1_7 f1_7 c1_8 f1_8 c1_9 f1_9; have c2_0 : w2.cell? ⟨b, i * 10, none⟩ = some (v0) := Kd.At.cell A5.out 0 _ rfl; have c2_1 : w2.cell? ⟨b, i * 10 + 1, none⟩ = some (.int .i64 (k + (c : Int) + ((mSOut.cnts x.outs : Nat) : Int))) := Kd.At.cell A5.out 1 _ rfl; have c2_2 : w2.cell? ⟨b, i * 10 + 2, none⟩ = some (.bool (decide ((k + (c : Int) + ((mSOut.cnts x.outs : Nat) : Int) + 1) % 3 = 0))) := Kd.At.cell A5.out 2 _ rfl; have c2_3 : w2.cell? ⟨b, i * 10 + 3, none⟩ = some (.int .i64 (k + (c : Int) + ((mSOut.cnts x.outs : Nat) : Int) + 1 + 1)) := Kd.At.cell A5.out 3 _ rfl; have c2_4 : w2.cell? ⟨b, i * 10 + 4, none⟩ = some (v4) := Kd.At.cell A5.out 4 _ rfl; have c2_5 : w2.cell? ⟨b, i * 10 + 5, none⟩ = some (v5) := Kd.At.cell A5.out 5 _ rfl; have c2_6 : w2.cell? ⟨b, i * 10 + 6, none⟩ = some (.int .i64 x.slv.vars) := Kd.At.cell A5.out 6 _ rfl; have c2_7 : w2.cell? ⟨b, i * 10 + 7, none⟩ = some (v7) := Kd.At.cell A5.out 7 _ rfl; have c2_8 : w2.cell? ⟨b, i * 10 + 8, none⟩ = some (v8) := Kd.At.cell A5.out 8 _ rfl; have c2_9 : w2.cell? ⟨b, i * 10 + 9, none⟩ = some (v9) := Kd.At.cell A5.out 9 _ rfl; have f2_0 : w2.frozen? ⟨b, i * 10, none⟩ = false := Kd.At.frozen A5.out (i * 10); have f2_1 : w2.frozen? ⟨b, i * 10 + 1, none⟩ = false := Kd.At.frozen A5.out (i * 10 + 1); have f2_2 : w2.frozen? ⟨b, i * 10 + 2, none⟩ = false := Kd.At.frozen A5.out (i * 10 + 2); have f2_3 : w2.frozen? ⟨b, i * 10 + 3, none⟩ = false := Kd.At.frozen A5.out (i * 10 + 3); have f2_4 : w2.frozen? ⟨b, i * 10 + 4, none⟩ = false := Kd.At.frozen A5.out (i * 10 + 4); have f2_5 : w2.frozen? ⟨b, i * 10 + 5, none⟩ = false := Kd.At.frozen A5.out (i * 10 + 5); have f2_6 : w2.frozen? ⟨b, i * 10 + 6, none⟩ = false := Kd.At.frozen A5.out (i * 10 + 6); have f2_7 : w2.frozen? ⟨b, i * 10 + 7, none⟩ = false := Kd.At.frozen A5.out (i * 10 + 7); have f2_8 : w2.frozen? ⟨b, i * 10 + 8, none⟩ = false := Kd.At.frozen A5.out (i * 10 + 8); have f2_9 : w2.frozen? ⟨b, i * 10 + 9, none⟩ = false := Kd.At.frozen A5.out (i * 10 + 9); obtain ⟨S5, r5, hs5, bk5⟩ := Kd.At.sub A5.out kWork_f_slv_binds (v := v5) rfl; have SR5 := Sec.mk r5; have SS5 := Sec.mk hs5; have BK5 := Sec.mk bk5; clear r5 hs5 bk5) | (clear T0; go_at_call 84; have T1 : Sec True := ⟨trivial⟩; refine (markSSOut_c v0 x.outs S0 (k + (c : Int)) (by omega) (by omega) _ SR0.out).mono ?_; rintro e w1 ⟨rfl, hR', hF'⟩; have A1 : Sec (Kd.At kWork w1 S b t.length cp L i ⟨(mSOut.mks x.outs (k + (c : Int))), x.want, x.asked, ⟨x.slv.status, x.slv.goals, x.slv.binds, x.slv.vars, x.slv.choices, x.slv.top, x.slv.out⟩⟩ [v0, .int .i64 x.want, .bool x.asked, .int .i64 x.slv.status, v4, v5, .int .i64 x.slv.vars, v7, v8, v9]) := ⟨BK0.out w1 _ hR' hF'⟩; have F1 : Sec (Foot S w w1) := ⟨F0.out.trans hF' (fun k _ h => (SS0.out k h).1)⟩; clear hR' hF'; clear c0_0 f0_0 c0_1 f0_1 c0_2 f0_2 c0_3 f0_3 c0_4 f0_4 c0_5 f0_5 c0_6 f0_6 c0_7 f0_7 c0_8 f0_8 c0_9 f0_9; have c1_0 : w1.cell? ⟨b, i * 10, none⟩ = some (v0) := Kd.At.cell A1.out 0 _ rfl; have c1_1 : w1.cell? ⟨b, i * 10 + 1, none⟩ = some (.int .i64 x.want) := Kd.At.cell A1.out 1 _ rfl; have c1_2 : w1.cell? ⟨b, i * 10 + 2, none⟩ = some (.bool x.asked) := Kd.At.cell A1.out 2 _ rfl; have c1_3 : w1.cell? ⟨b, i * 10 + 3, none⟩ = some (.int .i64 x.slv.status) := Kd.At.cell A1.out 3 _ rfl; have c1_4 : w1.cell? ⟨b, i * 10 + 4, none⟩ = some (v4) := Kd.At.cell A1.out 4 _ rfl; have c1_5 : w1.cell? ⟨b, i * 10 + 5, none⟩ = some (v5) := Kd.At.cell A1.out 5 _ rfl; have c1_6 : w1.cell? ⟨b, i * 10 + 6, none⟩ = some (.int .i64 x.slv.vars) := Kd.At.cell A1.out 6 _ rfl; have c1_7 : w1.cell? ⟨b, i * 10 + 7, none⟩ = some (v7) := Kd.At.cell A1.out 7 _ rfl; have c1_8 : w1.cell? ⟨b, i * 10 + 8, none⟩ = some (v8) := Kd.At.cell A1.out 8 _ rfl; have c1_9 : w1.cell? ⟨b, i * 10 + 9, none⟩ = some (v9) := Kd.At.cell A1.out 9 _ rfl; have f1_0 : w1.frozen? ⟨b, i * 10, none⟩ = false := Kd.At.frozen A1.out (i * 10); have f1_1 : w1.frozen? ⟨b, i * 10 + 1, none⟩ = false := Kd.At.frozen A1.out (i * 10 + 1); have f1_2 : w1.frozen? ⟨b, i * 10 + 2, none⟩ = false := Kd.At.frozen A1.out (i * 10 + 2); have f1_3 : w1.frozen? ⟨b, i * 10 + 3, none⟩ = false := Kd.At.frozen A1.out (i * 10 + 3); have f1_4 : w1.frozen? ⟨b, i * 10 + 4, none⟩ = false := Kd.At.frozen A1.out (i * 10 + 4); have f1_5 : w1.frozen? ⟨b, i * 10 + 5, none⟩ = false := Kd.At.frozen A1.out (i * 10 + 5); have f1_6 : w1.frozen? ⟨b, i * 10 + 6, none⟩ = false := Kd.At.frozen A1.out (i * 10 + 6); have f1_7 : w1.frozen? ⟨b, i * 10 + 7, none⟩ = false := Kd.At.frozen A1.out (i * 10 + 7); have f1_8 : w1.frozen? ⟨b, i * 10 + 8, none⟩ = false := Kd.At.frozen A1.out (i * 10 + 8); have f1_9 : w1.frozen? ⟨b, i * 10 + 9, none⟩ = false := Kd.At.frozen A1.out (i * 10 + 9); have A2 : Sec (Kd.At kWork (w1.setCell ⟨b, i * 10 + 1, none⟩ (.int .i64 (k + (c : Int) + ((mSOut.cnts x.outs : Nat) : Int)))) S b t.length cp L i ⟨(mSOut.mks x.outs (k + (c : Int))), k + (c : Int) + ((mSOut.cnts x.outs : Nat) : Int), x.asked, ⟨x.slv.status, x.slv.goals, x.slv.binds, x.slv.vars, x.slv.choices, x.slv.top, x.slv.out⟩⟩ [v0, .int .i64 (k + (c : Int) + ((mSOut.cnts x.outs : Nat) : Int)), .bool x.asked, .int .i64 x.slv.status, v4, v5, .int .i64 x.slv.vars, v7, v8, v9]) := ⟨Kd.At.store (e := (Kd.int 3)) A1.out kWork_f_want rfl (k + (c : Int) + ((mSOut.cnts x.outs : Nat) : Int)) (.int .i64 (k + (c : Int) + ((mSOut.cnts x.outs : Nat) : Int))) (fun _ _ => ⟨rfl, trivial⟩)⟩; have F2 : Sec (Foot S w (w1.setCell ⟨b, i * 10 + 1, none⟩ (.int .i64 (k + (c : Int) + ((mSOut.cnts x.outs : Nat) : Int))))) := ⟨F1.out.set (g := b) (.inl hSb) (i * 10 + 1) (.int .i64 (k + (c : Int) + ((mSOut.cnts x.outs : Nat) : Int)))⟩; have A3 : Sec (Kd.At kWork ((w1.setCell ⟨b, i * 10 + 1, none⟩ (.int .i64 (k + (c : Int) + ((mSOut.cnts x.outs : Nat) : Int)))).setCell ⟨b, i * 10 + 2, none⟩ (.bool (decide ((k + (c : Int) + ((mSOut.cnts x.outs : Nat) : Int) + 1) % 3 = 0)))) S b t.length cp L i ⟨(mSOut.mks x.outs (k + (c : Int))), k + (c : Int) + ((mSOut.cnts x.outs : Nat) : Int), decide ((k + (c : Int) + ((mSOut.cnts x.outs : Nat) : Int) + 1) % 3 = 0), ⟨x.slv.status, x.slv.goals, x.slv.binds, x.slv.vars, x.slv.choices, x.slv.top, x.slv.out⟩⟩ [v0, .int .i64 (k + (c : Int) + ((mSOut.cnts x.outs : Nat) : Int)), .bool (decide ((k + (c : Int) + ((mSOut.cnts x.outs : Nat) : Int) + 1) % 3 = 0)), .int .i64 x.slv.status, v4, v5, .int .i64 x.slv.vars, v7, v8, v9]) := ⟨Kd.At.store (e := (Kd.bool 4)) A2.out kWork_f_asked rfl (decide ((k + (c : Int) + ((mSOut.cnts x.outs : Nat) : Int) + 1) % 3 = 0)) (.bool (decide ((k + (c : Int) + ((mSOut.cnts x.outs : Nat) : Int) + 1) % 3 = 0))) (fun _ _ => ⟨rfl, trivial⟩)⟩; have F3 : Sec (Foot S w ((w1.setCell ⟨b, i * 10 + 1, none⟩ (.int .i64 (k + (c : Int) + ((mSOut.cnts x.outs : Nat) : Int)))).setCell ⟨b, i * 10 + 2, none⟩ (.bool (decide ((k + (c : Int) + ((mSOut.cnts x.outs : Nat) : Int) + 1) % 3 = 0))))) := ⟨F2.out.set (g := b) (.inl hSb) (i * 10 + 2) (.bool (decide ((k + (c : Int) + ((mSOut.cnts x.outs : Nat) : Int) + 1) % 3 = 0)))⟩; have A4 : Sec (Kd.At kWork (((w1.setCell ⟨b, i * 10 + 1, none⟩ (.int .i64 (k + (c : Int) + ((mSOut.cnts x.outs : Nat) : Int)))).setCell ⟨b, i * 10 + 2, none⟩ (.bool (decide ((k + (c : Int) + ((mSOut.cnts x.outs : Nat) : Int) + 1) % 3 = 0)))).setCell ⟨b, i * 10 + 3, none⟩ (.int .i64 (k + (c : Int) + ((mSOut.cnts x.outs : Nat) : Int) + 1 + 1))) S b t.length cp L i ⟨(mSOut.mks x.outs (k + (c : Int))), k + (c : Int) + ((mSOut.cnts x.outs : Nat) : Int), decide ((k + (c : Int) + ((mSOut.cnts x.outs : Nat) : Int) + 1) % 3 = 0), ⟨k + (c : Int) + ((mSOut.cnts x.outs : Nat) : Int) + 1 + 1, x.slv.goals, x.slv.binds, x.slv.vars, x.slv.choices, x.slv.top, x.slv.out⟩⟩ [v0, .int .i64 (k + (c : Int) + ((mSOut.cnts x.outs : Nat) : Int)), .bool (decide ((k + (c : Int) + ((mSOut.cnts x.outs : Nat) : Int) + 1) % 3 = 0)), .int .i64 (k + (c : Int) + ((mSOut.cnts x.outs : Nat) : Int) + 1 + 1), v4, v5, .int .i64 x.slv.vars, v7, v8, v9]) := ⟨Kd.At.store (e := (Kd.int 3)) A3.out kWork_f_slv_status rfl (k + (c : Int) + ((mSOut.cnts x.outs : Nat) : Int) + 1 + 1) (.int .i64 (k + (c : Int) + ((mSOut.cnts x.outs : Nat) : Int) + 1 + 1)) (fun _ _ => ⟨rfl, trivial⟩)⟩; have F4 : Sec (Foot S w (((w1.setCell ⟨b, i * 10 + 1, none⟩ (.int .i64 (k + (c : Int) + ((mSOut.cnts x.outs : Nat) : Int)))).setCell ⟨b, i * 10 + 2, none⟩ (.bool (decide ((k + (c : Int) + ((mSOut.cnts x.outs : Nat) : Int) + 1) % 3 = 0)))).setCell ⟨b, i * 10 + 3, none⟩ (.int .i64 (k + (c : Int) + ((mSOut.cnts x.outs : Nat) : Int) + 1 + 1)))) := ⟨F3.out.set (g := b) (.inl hSb) (i * 10 + 3) (.int .i64 (k + (c : Int) + ((mSOut.cnts x.outs : Nat) : Int) + 1 + 1))⟩; obtain ⟨S4, r4, hs4, bk4⟩ := Kd.At.sub A4.out kWork_f_slv_goals (v := v4) rfl; have SR4 := Sec.mk r4; have SS4 := Sec.mk hs4; have BK4 := Sec.mk bk4; clear r4 hs4 bk4))
      go_roundw
      case rel => exact ⟨i + 1, by omega, by go_num, by rw [HN1.out, hcx.out]; congr 1; omega, ⟨by rw [← hnext.out]; exact A10.out.R⟩, F10⟩
      case measure => simp [intOf]; omega
    · have hfin : Sec (mWork.mks (t.take i) k ++ t.drop i = mWork.mks t k) := ⟨by rw [List.take_of_length_le (by omega), List.drop_of_length_le (by omega), List.append_nil]⟩
      have hM2 := hM.out
      rw [hfin.out] at hM2
      have HM2 := Sec.mk hM2
      have hi2 : Sec (k + ↑(mWork.cnts (t.take i)) = k + ↑(mWork.cnts t)) := ⟨by rw [List.take_of_length_le (by omega)]⟩
      clear hM2 hM hfin
      go_wp2
      go_ret
      exact ⟨ri hi2.out, HM2.out, hF.out⟩
set_option maxHeartbeats 2000000 in
theorem heldSWork_c (v : Value) (t : List Work) (ok : Nat → Prop) (k : Int) (hk : 0 ≤ k) (hk2 : k + mWork.cnts t ≤ 1000000000000000000) (w : World) (hV : kWork.V w ok v (mWork.mks t k)) :
    Calls Tryz.prog 166 #[v, .int .i64 k] w fun e w' => e = .returned (.int .i64 (k + mWork.cnts t)) ∧ Below w.heap.size w w' := by
  obtain ⟨A, cp, rfl, g1, g2, g3, hC, _⟩ := hV
  rw [Mk.mks_len] at g1 g3
  rw [Mk.mks_len]
  have HC := Sec.mk hC
  have hu := Tryz.underlying249
  have hu_TrlState := Tryz.underlying93
  clear hC
  have HN := Sec.mk (mWork.cnts_take t)
  have HM := Sec.mk (mWork.cnts_le t)
  have HG := Sec.mk (mWork.get t k)
  have HLn := Sec.mk (mWork.mks_len t k)
  go_enter Tryz.func166, Tryz.ntmps166
  go_wp2
  go_loopw [1, 5] (fun kv iv wr => ∃ i : Nat, i ≤ t.length ∧ iv = .int .i64 i ∧ kv = .int .i64 (k + ↑(mWork.cnts (t.take i))) ∧ Sec (Below w.heap.size w wr)) (fun _ iv _ => t.length - (intOf iv).toNat)
  case atStart => exact ⟨0, Nat.zero_le _, rfl, by simp [Mk.cnts], ⟨Below.refl _ _⟩⟩
  case round =>
    obtain ⟨i, hi, rfl, rfl, hb⟩ := hrel
    by_cases hlt : i < t.length
    · obtain ⟨b, off, cs, rfl, hob, hK, hc⟩ := Kd.C_get HC.out (List.getElem?_eq_getElem (by rw [HLn.out]; exact hlt))
      rw [HG.out i hlt] at hK
      have hn1 := HN.out i hlt
      have hn2 := HM.out (i + 1)
      rw [hn1] at hn2
      have HN1 := Sec.mk hn1
      clear hn1
      generalize t[i] = x at *
      generalize mWork.cnts (t.take i) = c at *
      have hcx : Sec (mWork.cnt x = _) := ⟨mWork_cnt x⟩
      rw [mWork_cnt x] at hn2
      obtain ⟨v0, v4, v5, v7, v8, v9, rfl, h0, h4, h5, h7, h8, h9⟩ := kWork_K hK
      have hat : Sec (∀ W : World, Below w.heap.size w W → W.cell? ⟨b, off + i * 10, none⟩ = some (v0) ∧ W.cell? ⟨b, off + i * 10 + 1, none⟩ = some (.int .i64 (k + (c : Int) + ((mSOut.cnts x.outs : Nat) : Int))) ∧ W.cell? ⟨b, off + i * 10 + 2, none⟩ = some (.bool (decide ((k + (c : Int) + ((mSOut.cnts x.outs : Nat) : Int) + 1) % 3 = 0))) ∧ W.cell? ⟨b, off + i * 10 + 3, none⟩ = some (.int .i64 (k + (c : Int) + ((mSOut.cnts x.outs : Nat) : Int) + 1 + 1)) ∧ W.cell? ⟨b, off + i * 10 + 4, none⟩ = some (v4) ∧ W.cell? ⟨b, off + i * 10 + 5, none⟩ = some (v5) ∧ W.cell? ⟨b, off + i * 10 + 6, none⟩ = some (.int .i64 (k + (c : Int) + ((mSOut.cnts x.outs : Nat) : Int) + 1 + 1 + 1 + ((mSGoal.cnts x.slv.goals : Nat) : Int) + ((mBind.cnts x.slv.binds : Nat) : Int))) ∧ W.cell? ⟨b, off + i * 10 + 7, none⟩ = some (v7) ∧ W.cell? ⟨b, off + i * 10 + 8, none⟩ = some (v8) ∧ W.cell? ⟨b, off + i * 10 + 9, none⟩ = some (v9)) := ⟨fun W h => ⟨Raw.cell_below h (hc 0 _ rfl), Raw.cell_below h (hc 1 _ rfl), Raw.cell_below h (hc 2 _ rfl), Raw.cell_below h (hc 3 _ rfl), Raw.cell_below h (hc 4 _ rfl), Raw.cell_below h (hc 5 _ rfl), Raw.cell_below h (hc 6 _ rfl), Raw.cell_below h (hc 7 _ rfl), Raw.cell_below h (hc 8 _ rfl), Raw.cell_below h (hc 9 _ rfl)⟩⟩
      have i0 : (0 : Int) ≤ (i : Int) := by omega
      have i1 : (i : Int) < (t.length : Int) := by omega
      have H0 : Sec (kSOut.V w ok v0 (mSOut.mks x.outs (k + (c : Int)))) := ⟨h0⟩
      clear h0
      have H4 : Sec (kSGoal.V w ok v4 (mSGoal.mks x.slv.goals (k + (c : Int) + ((mSOut.cnts x.outs : Nat) : Int) + 1 + 1 + 1))) := ⟨h4⟩
      clear h4
      have H5 : Sec (kBind.V w ok v5 (mBind.mks x.slv.binds (k + (c : Int) + ((mSOut.cnts x.outs : Nat) : Int) + 1 + 1 + 1 + ((mSGoal.cnts x.slv.goals : Nat) : Int)))) := ⟨h5⟩
      clear h5
      have H7 : Sec (kTChoice.V w ok v7 (mTChoice.mks x.slv.choices (k + (c : Int) + ((mSOut.cnts x.outs : Nat) : Int) + 1 + 1 + 1 + ((mSGoal.cnts x.slv.goals : Nat) : Int) + ((mBind.cnts x.slv.binds : Nat) : Int) + 1))) := ⟨h7⟩
      clear h7
      have H8 : Sec (kCell.V w ok v8 (mCell.mks x.slv.top (k + (c : Int) + ((mSOut.cnts x.outs : Nat) : Int) + 1 + 1 + 1 + ((mSGoal.cnts x.slv.goals : Nat) : Int) + ((mBind.cnts x.slv.binds : Nat) : Int) + 1 + ((mTChoice.cnts x.slv.choices : Nat) : Int)))) := ⟨h8⟩
      clear h8
      have H9 : Sec (kCell.V w ok v9 (mCell.mks x.slv.out (k + (c : Int) + ((mSOut.cnts x.outs : Nat) : Int) + 1 + 1 + 1 + ((mSGoal.cnts x.slv.goals : Nat) : Int) + ((mBind.cnts x.slv.binds : Nat) : Int) + 1 + ((mTChoice.cnts x.slv.choices : Nat) : Int) + ((mCell.cnts x.slv.top : Nat) : Int)))) := ⟨h9⟩
      clear h9
      clear hc hK
      have d3_2 : (decide ((k + (c : Int) + ((mSOut.cnts x.outs : Nat) : Int) + 1) % 3 = 0) == ((k + (c : Int) + ((mSOut.cnts x.outs : Nat) : Int) + 1) % 3 == 0)) = true := by by_cases h : (k + (c : Int) + ((mSOut.cnts x.outs : Nat) : Int) + 1) % 3 = 0 <;> simp [h]
      obtain ⟨c0, c1, c2, c3, c4, c5, c6, c7, c8, c9⟩ := hat.out _ hb.out
      have B0 := hb
      have T0 : Sec True := ⟨trivial⟩
      go_wp2_with (first | (clear T5; go_at_call 88; have T6 : Sec True := ⟨trivial⟩; refine (heldSCell_c v9 x.slv.out ok (k + (c : Int) + ((mSOut.cnts x.outs : Nat) : Int) + 1 + 1 + 1 + ((mSGoal.cnts x.slv.goals : Nat) : Int) + ((mBind.cnts x.slv.binds : Nat) : Int) + 1 + ((mTChoice.cnts x.slv.choices : Nat) : Int) + ((mCell.cnts x.slv.top : Nat) : Int)) (by omega) (by omega) _ (Kd.V_below H9.out B5.out (by decide))).mono ?_; rintro e w6 ⟨rfl, hb1⟩; have B6 := Sec.mk (bel B5.out hb1); clear hb1 c0 c1 c2 c3 c4 c5 c6 c7 c8 c9; obtain ⟨c0, c1, c2, c3, c4, c5, c6, c7, c8, c9⟩ := hat.out _ B6.out) | (clear T4; go_at_call 88; have T5 : Sec True := ⟨trivial⟩; refine (heldSCell_c v8 x.slv.top ok (k + (c : Int) + ((mSOut.cnts x.outs : Nat) : Int) + 1 + 1 + 1 + ((mSGoal.cnts x.slv.goals : Nat) : Int) + ((mBind.cnts x.slv.binds : Nat) : Int) + 1 + ((mTChoice.cnts x.slv.choices : Nat) : Int)) (by omega) (by omega) _ (Kd.V_below H8.out B4.out (by decide))).mono ?_; rintro e w5 ⟨rfl, hb1⟩; have B5 := Sec.mk (bel B4.out hb1); clear hb1 c0 c1 c2 c3 c4 c5 c6 c7 c8 c9; obtain ⟨c0, c1, c2, c3, c4, c5, c6, c7, c8, c9⟩ := hat.out _ B5.out) | (clear T3; go_at_call 215; have T4 : Sec True := ⟨trivial⟩; refine (heldSTChoice_c v7 x.slv.choices ok (k + (c : Int) + ((mSOut.cnts x.outs : Nat) : Int) + 1 + 1 + 1 + ((mSGoal.cnts x.slv.goals : Nat) : Int) + ((mBind.cnts x.slv.binds : Nat) : Int) + 1) (by omega) (by omega) _ (Kd.V_below H7.out B3.out (by decide))).mono ?_; rintro e w4 ⟨rfl, hb1⟩; have B4 := Sec.mk (bel B3.out hb1); clear hb1 c0 c1 c2 c3 c4 c5 c6 c7 c8 c9; obtain ⟨c0, c1, c2, c3, c4, c5, c6, c7, c8, c9⟩ := hat.out _ B4.out) | (clear T2; go_at_call 214; have T3 : Sec True := ⟨trivial⟩; refine (heldSBind_c v5 x.slv.binds ok (k + (c : Int) + ((mSOut.cnts x.outs : Nat) : Int) + 1 + 1 + 1 + ((mSGoal.cnts x.slv.goals : Nat) : Int)) (by omega) (by omega) _ (Kd.V_below H5.out B2.out (by decide))).mono ?_; rintro e w3 ⟨rfl, hb1⟩; have B3 := Sec.mk (bel B2.out hb1); clear hb1 c0 c1 c2 c3 c4 c5 c6 c7 c8 c9; obtain ⟨c0, c1, c2, c3, c4, c5, c6, c7, c8, c9⟩ := hat.out _ B3.out) | (clear T1; go_at_call 213; have T2 : Sec True := ⟨trivial⟩; refine (heldSSGoal_c v4 x.slv.goals ok (k + (c : Int) + ((mSOut.cnts x.outs : Nat) : Int) + 1 + 1 + 1) (by omega) (by omega) _ (Kd.V_below H4.out B1.out (by decide))).mono ?_; rintro e w2 ⟨rfl, hb1⟩; have B2 := Sec.mk (bel B1.out hb1); clear hb1 c0 c1 c2 c3 c4 c5 c6 c7 c8 c9; obtain ⟨c0, c1, c2, c3, c4, c5, c6, c7, c8, c9⟩ := hat.out _ B2.out) | (clear T0; go_at_call 89; have T1 : Sec True := ⟨trivial⟩; refine (heldSSOut_c v0 x.outs ok (k + (c : Int)) (by omega) (by omega) _ (Kd.V_below H0.out B0.out (by decide))).mono ?_; rintro e w1 ⟨rfl, hb1⟩; have B1 := Sec.mk (bel B0.out hb1); clear hb1 c0 c1 c2 c3 c4 c5 c6 c7 c8 c9; obtain ⟨c0, c1, c2, c3, c4, c5, c6, c7, c8, c9⟩ := hat.out _ B1.out))
      go_roundw
      case rel => exact ⟨i + 1, by omega, by go_num, by rw [HN1.out, hcx.out]; congr 1; omega, B6⟩
      case measure => simp [intOf]; omega
    · have hi2 : Sec (k + ↑(mWork.cnts (t.take i)) = k + ↑(mWork.cnts t)) := ⟨by rw [List.take_of_length_le (by omega)]⟩
      go_wp2
      go_ret
      exact ⟨ri hi2.out, hb.out⟩
def mWorkt : Mk Work := ⟨fun x => mSOut.cnts x.outs + mTStatet.cnt x.slv, fun x k => ⟨mSOut.mks x.outs (k), x.want, x.asked, mTStatet.one x.slv (k + ((mSOut.cnts x.outs : Nat) : Int))⟩⟩
end
section
open Go.RowKit
set_option linter.unusedVariables false
set_option maxRecDepth 100000
def kNode : Kd Node := Kd.iso 124 (Kd.pair (Kd.bool 4) (Kd.slice 122 kWork (by decide))) (fun x => (x.up, x.works))
theorem kNode_K {w : World} {ok : Nat → Prop} {x : Node} {cs : List Value} (h : kNode.K w ok x cs) : ∃ v1, cs = [.bool x.up, v1] ∧ kWork.V w ok v1 x.works := by
  obtain ⟨_, _, rfl, ⟨rfl, _⟩, ⟨v1, rfl, h1⟩⟩ := h
  exact ⟨v1, rfl, h1⟩
theorem Node.ext_iff (a b : Node) : a = b ↔ a.up = b.up ∧ a.works = b.works := by
  cases a; cases b; simp
instance : DecidableEq Node := fun a b => decidable_of_iff _ (Node.ext_iff a b).symm
def zeroNode : Node := ⟨false, []⟩
theorem kNode_f_up : Kd.Fld kNode (Kd.bool 4) 0 (fun x => x.up) (fun x y => { x with up := y }) := Kd.Fld.iso _ (Kd.Fld.fst (Kd.Fld.self _)) (fun _ _ => rfl)
theorem kNode_f_works : Kd.Fld kNode (Kd.slice 122 kWork (by decide)) 1 (fun x => x.works) (fun x y => { x with works := y }) := Kd.Fld.iso _ (Kd.Fld.snd (Kd.Fld.self _)) (fun _ _ => rfl)
set_option maxHeartbeats 2000000 in
theorem eqNodNode_c (x y : Node) (cs ds : List Value) (ok ok' : Nat → Prop) (w : World) (hK : kNode.K w ok x cs) (hD : kNode.K w ok' y ds) :
    Calls Tryz.prog 158 #[.agg cs.toArray, .agg ds.toArray] w fun e w' => e = .returned (.bool (decide (x = y))) ∧ Below w.heap.size w w' := by
  obtain ⟨_, _, rfl, ⟨rfl, _⟩, ⟨v1, rfl, h1⟩⟩ := hK
  have H1 := Sec.mk h1
  clear h1
  obtain ⟨_, _, rfl, ⟨rfl, _⟩, ⟨u1, rfl, g1⟩⟩ := hD
  have G1 := Sec.mk g1
  clear g1
  have hu := Tryz.underlying124
  have hxy := Sec.mk (Node.ext_iff x y)
  have T0 : Sec True := ⟨trivial⟩
  by_cases h0 : x.up = y.up
  · have E0 := Sec.mk h0
    have d0 : (x.up == y.up) = true := beq_iff_eq.2 h0
    clear h0
    by_cases h1 : x.works = y.works
    · have E1 := Sec.mk h1
      have d1 : decide (x.works = y.works) = true := decide_eq_true h1
      clear h1
      have hd : Sec (decide (x = y) = true) := ⟨by rw [decide_eq_true_eq, hxy.out]; exact ⟨E0.out, E1.out⟩⟩
      go_enter Tryz.func158, Tryz.ntmps158
      go_wp2_with (first | (clear T0; go_at_call 207; have T1 : Sec True := ⟨trivial⟩; refine (eqSWork_c v1 u1 x.works y.works ok ok' _ (Kd.V_below H1.out (belA (belA (Below.refl _ _) _) _) (by decide)) (Kd.V_below G1.out (belA (belA (Below.refl _ _) _) _) (by decide))).mono ?_; rintro e w1 ⟨rfl, hb1⟩; rw [d1]; have B1 := Sec.mk (bel (belA (belA (Below.refl _ _) _) _) hb1); have X := box_cells (b := w.heap.size) (cs := #[.bool x.up, v1]) (t := 124) hb1 (box2 _ _ _).1; have p1_1 := X.2.1 1 _ rfl; have P1 := Sec.mk X; clear X; have X := box_cells (b := w.heap.size + 1) (cs := #[.bool y.up, u1]) (t := 124) hb1 (box2 _ _ _).2; have q1_1 := X.2.1 1 _ rfl; have Q1 := Sec.mk X; clear X hb1))
      go_ret
      exact ⟨rb hd.out.symm, B1.out⟩
    · have hd : Sec (decide (x = y) = false) := ⟨by rw [decide_eq_false_iff_not, hxy.out]; exact fun h => h1 h.2⟩
      have d1 : decide (x.works = y.works) = false := decide_eq_false h1
      clear h1
      go_enter Tryz.func158, Tryz.ntmps158
      go_wp2_with (first | (clear T0; go_at_call 207; have T1 : Sec True := ⟨trivial⟩; refine (eqSWork_c v1 u1 x.works y.works ok ok' _ (Kd.V_below H1.out (belA (belA (Below.refl _ _) _) _) (by decide)) (Kd.V_below G1.out (belA (belA (Below.refl _ _) _) _) (by decide))).mono ?_; rintro e w1 ⟨rfl, hb1⟩; rw [d1]; have B1 := Sec.mk (bel (belA (belA (Below.refl _ _) _) _) hb1); have X := box_cells (b := w.heap.size) (cs := #[.bool x.up, v1]) (t := 124) hb1 (box2 _ _ _).1; have p1_1 := X.2.1 1 _ rfl; have P1 := Sec.mk X; clear X; have X := box_cells (b := w.heap.size + 1) (cs := #[.bool y.up, u1]) (t := 124) hb1 (box2 _ _ _).2; have q1_1 := X.2.1 1 _ rfl; have Q1 := Sec.mk X; clear X hb1))
      go_ret
      exact ⟨rb hd.out.symm, B1.out⟩
  · have hd : Sec (decide (x = y) = false) := ⟨by rw [decide_eq_false_iff_not, hxy.out]; exact fun h => h0 h.1⟩
    have d0 : (x.up == y.up) = false := beq_eq_false_iff_ne.2 h0
    clear h0
    go_enter Tryz.func158, Tryz.ntmps158
    go_wp2
    go_ret
    exact ⟨rb hd.out.symm, (belA (belA (Below.refl _ _) _) _)⟩
set_option maxHeartbeats 2000000 in
theorem eqSNode_c (v u : Value) (t s : List Node) (ok ok' : Nat → Prop) (w : World) (hV : kNode.V w ok v t) (hU : kNode.V w ok' u s) :
    Calls Tryz.prog 74 #[v, u] w fun e w' => e = .returned (.bool (decide (t = s))) ∧ Below w.heap.size w w' := by
  obtain ⟨A, c, rfl, h1, h2, h3, hC, _⟩ := hV
  obtain ⟨B, d, rfl, k1, k2, k3, hD, _⟩ := hU
  have HC := Sec.mk hC
  have HD := Sec.mk hD
  clear hC hD
  have hu := Tryz.underlying124
  by_cases hl : t.length = s.length
  · rw [← hl]
    have HL := Sec.mk hl
    clear hl
    go_enter Tryz.func74, Tryz.ntmps74
    go_wp2
    go_loopw [5] (fun i wr => ∃ k : Nat, k ≤ t.length ∧ i = .int .i64 k ∧ Sec (t.take k = s.take k) ∧ Sec (Below w.heap.size w wr)) (fun i _ => t.length - (intOf i).toNat)
    case atStart => exact ⟨0, Nat.zero_le _, rfl, ⟨by simp⟩, ⟨Below.refl _ _⟩⟩
    case round =>
      obtain ⟨k, hk, rfl, hT, hb⟩ := hrel
      by_cases hlt : k < t.length
      · have hlt2 : k < s.length := by have := HL.out; omega
        obtain ⟨b, off, cs, rfl, hob, hK, hc⟩ := Kd.C_get HC.out (List.getElem?_eq_getElem hlt)
        obtain ⟨b2, off2, cs2, rfl, hob2, hK2, hc2⟩ := Kd.C_get HD.out (List.getElem?_eq_getElem hlt2)
        have hT1 : Sec (t[k] = s[k] → t.take (k + 1) = s.take (k + 1)) := ⟨fun e => by rw [List.take_succ_eq_append_getElem hlt, List.take_succ_eq_append_getElem hlt2, hT.out, e]⟩
        have hT2 : Sec (t = s → t[k] = s[k]) := ⟨fun e => by subst e; rfl⟩
        generalize t[k] = x at *
        generalize s[k] = y at *
        have HK := Sec.mk hK
        have HK2 := Sec.mk hK2
        obtain ⟨v1, rfl, -⟩ := kNode_K hK
        obtain ⟨u1, rfl, -⟩ := kNode_K hK2
        have hat : Sec (∀ W : World, Below w.heap.size w W → W.cell? ⟨b, off + k * 2, none⟩ = some (.bool x.up) ∧ W.cell? ⟨b, off + k * 2 + 1, none⟩ = some (v1) ∧ W.cell? ⟨b2, off2 + k * 2, none⟩ = some (.bool y.up) ∧ W.cell? ⟨b2, off2 + k * 2 + 1, none⟩ = some (u1)) := ⟨fun W h => ⟨Raw.cell_below h (hc 0 _ rfl), Raw.cell_below h (hc 1 _ rfl), Raw.cell_below h (hc2 0 _ rfl), Raw.cell_below h (hc2 1 _ rfl)⟩⟩
        clear hc hc2 hK hK2
        obtain ⟨x0, x1, y0, y1⟩ := hat.out _ hb.out
        have i0 : (0 : Int) ≤ (k : Int) := by omega
        have i1 : (k : Int) < (t.length : Int) := by omega
        obtain ⟨bb, hbb⟩ : ∃ bb, decide (x = y) = bb := ⟨_, rfl⟩
        have Hc : Sec (∀ W, Below w.heap.size w W → Calls Tryz.prog 158 #[.agg #[.bool x.up, v1], .agg #[.bool y.up, u1]] W fun e w' => e = .returned (.bool bb) ∧ Below W.heap.size W w') := ⟨fun W hB => by rw [← hbb]; exact eqNodNode_c x y _ _ ok ok' W (Kd.K_below HK.out hB) (Kd.K_below HK2.out hB)⟩
        have HBB := Sec.mk hbb
        clear hbb
        go_wp2
        go_region_held3 (fun W => W.cell? ⟨b, off + k * 2, none⟩ = some (.bool x.up) ∧ W.cell? ⟨b, off + k * 2 + 1, none⟩ = some (v1) ∧ W.cell? ⟨b2, off2 + k * 2, none⟩ = some (.bool y.up) ∧ W.cell? ⟨b2, off2 + k * 2 + 1, none⟩ = some (u1))
          (first | (refine ⟨?_, ?_, ?_, ?_⟩ <;> assumption) | go_keep)
          (first | (go_at_call 158; refine (Hc.out _ (belD hb.out)).mono ?_; rintro e w1 ⟨rfl, hb1⟩; have B1 := Sec.mk (bel (belD hb.out) hb1); clear x0 x1 y0 y1; obtain ⟨x0, x1, y0, y1⟩ := hat.out _ B1.out; clear hb1))
        all_goals
          cases bb with
          | true =>
            have HE : Sec (t.take (k + 1) = s.take (k + 1)) := ⟨hT1.out (of_decide_eq_true HBB.out)⟩
            go_wp2
            go_roundw
            case rel => exact ⟨k + 1, by omega, by go_num, HE, B1⟩
            case measure => simp [intOf]; omega
          | false =>
            have HE : Sec (decide (t = s) = false) := ⟨decide_eq_false (fun e => of_decide_eq_false HBB.out (hT2.out e))⟩
            go_wp2
            go_ret
            exact ⟨rb HE.out.symm, B1.out⟩
      · have HE : Sec (decide (t = s) = true) := ⟨decide_eq_true (by have := hT.out; have h2 := HL.out; rwa [List.take_of_length_le (by omega), List.take_of_length_le (by omega)] at this)⟩
        go_wp2
        go_ret
        exact ⟨rb HE.out.symm, hb.out⟩
  · have hl' : ((t.length : Int) == (s.length : Int)) = false := beq_eq_false_iff_ne.2 (by omega)
    have HE : Sec (decide (t = s) = false) := ⟨decide_eq_false (fun e => hl (by rw [e]))⟩
    go_enter Tryz.func74, Tryz.ntmps74
    go_wp2
    go_ret
    exact ⟨rb HE.out.symm, Below.refl _ _⟩
def mNode : Mk Node := ⟨fun x => 1 + mWork.cnts x.works, fun x k => ⟨decide ((k) % 3 = 0), mWork.mks x.works (k + 1)⟩⟩
theorem mNode_cnt (x : Node) : mNode.cnt x = 1 + mWork.cnts x.works := rfl
set_option maxHeartbeats 2000000 in
theorem markSNode_c (v : Value) (t : List Node) (S : Nat → Prop) (k : Int) (hk : 0 ≤ k) (hk2 : k + mNode.cnts t ≤ 1000000000000000000) (w : World) (hR : kNode.R w S v t) :
    Calls Tryz.prog 83 #[v, .int .i64 k] w fun e w' => e = .returned (.int .i64 (k + mNode.cnts t)) ∧ kNode.R w' S v (mNode.mks t k) ∧ Foot S w w' := by
  obtain ⟨A, cp, hv, g1, g2⟩ := Kd.R_form hR
  subst hv
  have h3 : t.length ≤ 1073741824 := hR.1
  have HR := Sec.mk hR
  have hu := Tryz.underlying124
  clear hR
  have HN := Sec.mk (mNode.cnts_take t)
  have HM := Sec.mk (mNode.cnts_le t)
  have HX := Sec.mk (mNode.next t k)
  go_enter Tryz.func83, Tryz.ntmps83
  go_wp2
  go_loopw [1, 5] (fun kv iv wr => ∃ i : Nat, i ≤ t.length ∧ iv = .int .i64 i ∧ kv = .int .i64 (k + ↑(mNode.cnts (t.take i))) ∧ Sec (kNode.R wr S (.slice A t.length cp) (mNode.mks (t.take i) k ++ t.drop i)) ∧ Sec (Foot S w wr)) (fun _ iv _ => t.length - (intOf iv).toNat)
  case atStart => exact ⟨0, Nat.zero_le _, rfl, by simp [Mk.cnts], ⟨by simpa [Mk.mks] using HR.out⟩, ⟨Foot.refl _ _⟩⟩
  case round =>
    obtain ⟨i, hi, rfl, rfl, hM, hF⟩ := hrel
    by_cases hlt : i < t.length
    · have hL : (mNode.mks (t.take i) k ++ t.drop i).length = t.length := mNode.len_ t k i
      have hil : i < (mNode.mks (t.take i) k ++ t.drop i).length := by omega
      obtain ⟨b, rfl, -, hSb, hbb, -⟩ := Kd.R_block hM.out (by omega)
      obtain ⟨cs, hA, -⟩ := Kd.At.of_R hM.out hil
      rw [mNode.at_ t k i hlt] at hA
      have hnext := Sec.mk (HX.out i hlt)
      have hn1 := HN.out i hlt
      have hn2 := HM.out (i + 1)
      rw [hn1] at hn2
      have HN1 := Sec.mk hn1
      have F0 := hF
      clear hM hn1 hL
      generalize mNode.mks (t.take i) k ++ t.drop i = L at *
      generalize t[i] = x at *
      generalize mNode.cnts (t.take i) = c at *
      have hcx : Sec (mNode.cnt x = _) := ⟨mNode_cnt x⟩
      rw [mNode_cnt x] at hn2
      have hAt := hA
      obtain ⟨v1, rfl, -⟩ := kNode_K hA.K
      have A0 := Sec.mk hA
      clear hA hAt
      have c0_0 : wr.cell? ⟨b, i * 2, none⟩ = some (.bool x.up) := Kd.At.cell A0.out 0 _ rfl
      have c0_1 : wr.cell? ⟨b, i * 2 + 1, none⟩ = some (v1) := Kd.At.cell A0.out 1 _ rfl
      have f0_0 : wr.frozen? ⟨b, i * 2, none⟩ = false := Kd.At.frozen A0.out (i * 2)
      have f0_1 : wr.frozen? ⟨b, i * 2 + 1, none⟩ = false := Kd.At.frozen A0.out (i * 2 + 1)
      have A1 : Sec (Kd.At kNode (wr.setCell ⟨b, i * 2, none⟩ (.bool (decide ((k + (c : Int)) % 3 = 0)))) S b t.length cp L i ⟨decide ((k + (c : Int)) % 3 = 0), x.works⟩ [.bool (decide ((k + (c : Int)) % 3 = 0)), v1]) := ⟨Kd.At.store (e := (Kd.bool 4)) A0.out kNode_f_up rfl (decide ((k + (c : Int)) % 3 = 0)) (.bool (decide ((k + (c : Int)) % 3 = 0))) (fun _ _ => ⟨rfl, trivial⟩)⟩
      have F1 : Sec (Foot S w (wr.setCell ⟨b, i * 2, none⟩ (.bool (decide ((k + (c : Int)) % 3 = 0))))) := ⟨F0.out.set (g := b) (.inl hSb) (i * 2) (.bool (decide ((k + (c : Int)) % 3 = 0)))⟩
      obtain ⟨S1, r1, hs1, bk1⟩ := Kd.At.sub A1.out kNode_f_works (v := v1) rfl
      have SR1 := Sec.mk r1
      have SS1 := Sec.mk hs1
      have BK1 := Sec.mk bk1
      clear r1 hs1 bk1
      have T0 : Sec True := ⟨trivial⟩
      go_wp2_with (first | (clear T0; go_at_call 163; have T1 : Sec True := ⟨trivial⟩; refine (markSWork_c v1 x.works S1 (k + (c : Int) + 1) (by omega) (by omega) _ SR1.out).mono ?_; rintro e w1 ⟨rfl, hR', hF'⟩; have A2 : Sec (Kd.At kNode w1 S b t.length cp L i ⟨decide ((k + (c : Int)) % 3 = 0), (mWork.mks x.works (k + (c : Int) + 1))⟩ [.bool (decide ((k + (c : Int)) % 3 = 0)), v1]) := ⟨BK1.out w1 _ hR' hF'⟩; have F2 : Sec (Foot S w w1) := ⟨F1.out.trans hF' (fun k _ h => (SS1.out k h).1)⟩; clear hR' hF'; clear c0_0 f0_0 c0_1 f0_1; have c1_0 : w1.cell? ⟨b, i * 2, none⟩ = some (.bool (decide ((k + (c : Int)) % 3 = 0))) := Kd.At.cell A2.out 0 _ rfl; have c1_1 : w1.cell? ⟨b, i * 2 + 1, none⟩ = some (v1) := Kd.At.cell A2.out 1 _ rfl; have f1_0 : w1.frozen? ⟨b, i * 2, none⟩ = false := Kd.At.frozen A2.out (i * 2); have f1_1 : w1.frozen? ⟨b, i * 2 + 1, none⟩ = false := Kd.At.frozen A2.out (i * 2 + 1)))
      go_roundw
      case rel => exact ⟨i + 1, by omega, by go_num, by rw [HN1.out, hcx.out]; congr 1; omega, ⟨by rw [← hnext.out]; exact A2.out.R⟩, F2⟩
      case measure => simp [intOf]; omega
    · have hfin : Sec (mNode.mks (t.take i) k ++ t.drop i = mNode.mks t k) := ⟨by rw [List.take_of_length_le (by omega), List.drop_of_length_le (by omega), List.append_nil]⟩
      have hM2 := hM.out
      rw [hfin.out] at hM2
      have HM2 := Sec.mk hM2
      have hi2 : Sec (k + ↑(mNode.cnts (t.take i)) = k + ↑(mNode.cnts t)) := ⟨by rw [List.take_of_length_le (by omega)]⟩
      clear hM2 hM hfin
      go_wp2
      go_ret
      exact ⟨ri hi2.out, HM2.out, hF.out⟩
set_option maxHeartbeats 2000000 in
theorem heldSNode_c (v : Value) (t : List Node) (ok : Nat → Prop) (k : Int) (hk : 0 ≤ k) (hk2 : k + mNode.cnts t ≤ 1000000000000000000) (w : World) (hV : kNode.V w ok v (mNode.mks t k)) :
    Calls Tryz.prog 87 #[v, .int .i64 k] w fun e w' => e = .returned (.int .i64 (k + mNode.cnts t)) ∧ Below w.heap.size w w' := by
  obtain ⟨A, cp, rfl, g1, g2, g3, hC, _⟩ := hV
  rw [Mk.mks_len] at g1 g3
  rw [Mk.mks_len]
  have HC := Sec.mk hC
  have hu := Tryz.underlying124
  clear hC
  have HN := Sec.mk (mNode.cnts_take t)
  have HM := Sec.mk (mNode.cnts_le t)
  have HG := Sec.mk (mNode.get t k)
  have HLn := Sec.mk (mNode.mks_len t k)
  go_enter Tryz.func87, Tryz.ntmps87
  go_wp2
  go_loopw [1, 5] (fun kv iv wr => ∃ i : Nat, i ≤ t.length ∧ iv = .int .i64 i ∧ kv = .int .i64 (k + ↑(mNode.cnts (t.take i))) ∧ Sec (Below w.heap.size w wr)) (fun _ iv _ => t.length - (intOf iv).toNat)
  case atStart => exact ⟨0, Nat.zero_le _, rfl, by simp [Mk.cnts], ⟨Below.refl _ _⟩⟩
  case round =>
    obtain ⟨i, hi, rfl, rfl, hb⟩ := hrel
    by_cases hlt : i < t.length
    · obtain ⟨b, off, cs, rfl, hob, hK, hc⟩ := Kd.C_get HC.out (List.getElem?_eq_getElem (by rw [HLn.out]; exact hlt))
      rw [HG.out i hlt] at hK
      have hn1 := HN.out i hlt
      have hn2 := HM.out (i + 1)
      rw [hn1] at hn2
      have HN1 := Sec.mk hn1
      clear hn1
      generalize t[i] = x at *
      generalize mNode.cnts (t.take i) = c at *
      have hcx : Sec (mNode.cnt x = _) := ⟨mNode_cnt x⟩
      rw [mNode_cnt x] at hn2
      obtain ⟨v1, rfl, h1⟩ := kNode_K hK
      have hat : Sec (∀ W : World, Below w.heap.size w W → W.cell? ⟨b, off + i * 2, none⟩ = some (.bool (decide ((k + (c : Int)) % 3 = 0))) ∧ W.cell? ⟨b, off + i * 2 + 1, none⟩ = some (v1)) := ⟨fun W h => ⟨Raw.cell_below h (hc 0 _ rfl), Raw.cell_below h (hc 1 _ rfl)⟩⟩
      have i0 : (0 : Int) ≤ (i : Int) := by omega
      have i1 : (i : Int) < (t.length : Int) := by omega
      have H1 : Sec (kWork.V w ok v1 (mWork.mks x.works (k + (c : Int) + 1))) := ⟨h1⟩
      clear h1
      clear hc hK
      have d3_0 : (decide ((k + (c : Int)) % 3 = 0) == ((k + (c : Int)) % 3 == 0)) = true := by by_cases h : (k + (c : Int)) % 3 = 0 <;> simp [h]
      obtain ⟨c0, c1⟩ := hat.out _ hb.out
      have B0 := hb
      have T0 : Sec True := ⟨trivial⟩
      go_wp2_with (first | (clear T0; go_at_call 166; have T1 : Sec True := ⟨trivial⟩; refine (heldSWork_c v1 x.works ok (k + (c : Int) + 1) (by omega) (by omega) _ (Kd.V_below H1.out B0.out (by decide))).mono ?_; rintro e w1 ⟨rfl, hb1⟩; have B1 := Sec.mk (bel B0.out hb1); clear hb1 c0 c1; obtain ⟨c0, c1⟩ := hat.out _ B1.out))
      go_roundw
      case rel => exact ⟨i + 1, by omega, by go_num, by rw [HN1.out, hcx.out]; congr 1; omega, B1⟩
      case measure => simp [intOf]; omega
    · have hi2 : Sec (k + ↑(mNode.cnts (t.take i)) = k + ↑(mNode.cnts t)) := ⟨by rw [List.take_of_length_le (by omega)]⟩
      go_wp2
      go_ret
      exact ⟨ri hi2.out, hb.out⟩
def mNodet : Mk Node := ⟨fun x => mWork.cnts x.works, fun x k => ⟨x.up, mWork.mks x.works (k)⟩⟩
end
end Go.Proofs.YtgiobpggonceeaaGreatDoor
