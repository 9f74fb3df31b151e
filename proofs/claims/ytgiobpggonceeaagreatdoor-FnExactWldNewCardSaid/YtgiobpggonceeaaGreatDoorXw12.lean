/- What the exact laws' own functions do with the type TrlChoice: turned, sized, compared, marked, held; and what goes with it. -/
import Derived.Test.YtgiobpggonceeaaGreatDoorXw3
import Derived.Test.YtgiobpggonceeaaGreatDoorXw11
namespace Go.Proofs.YtgiobpggonceeaaGreatDoor
section
open Go.RowKit
set_option linter.unusedVariables false
set_option maxRecDepth 100000
def kTChoice : Kd TChoice := Kd.iso 176 (Kd.pair (Kd.slice 30 kSGoal (by decide)) (Kd.pair (Kd.int 3) (Kd.pair (Kd.int 3) (Kd.pair (Kd.slice 23 kCell (by decide)) (Kd.pair (Kd.int 3) (Kd.int 3)))))) (fun x => (x.goals, x.mark, x.vars, x.call, x.next, x.far))
theorem kTChoice_K {w : World} {ok : Nat → Prop} {x : TChoice} {cs : List Value} (h : kTChoice.K w ok x cs) : ∃ v0 v3, cs = [v0, .int .i64 x.mark, .int .i64 x.vars, v3, .int .i64 x.next, .int .i64 x.far] ∧ kSGoal.V w ok v0 x.goals ∧ kCell.V w ok v3 x.call := by
  obtain ⟨_, _, rfl, ⟨v0, rfl, h0⟩, ⟨_, _, rfl, ⟨rfl, _⟩, ⟨_, _, rfl, ⟨rfl, _⟩, ⟨_, _, rfl, ⟨v3, rfl, h3⟩, ⟨_, _, rfl, ⟨rfl, _⟩, ⟨rfl, _⟩⟩⟩⟩⟩⟩ := h
  exact ⟨v0, v3, rfl, h0, h3⟩
theorem TChoice.ext_iff (a b : TChoice) : a = b ↔ a.goals = b.goals ∧ a.mark = b.mark ∧ a.vars = b.vars ∧ a.call = b.call ∧ a.next = b.next ∧ a.far = b.far := by
  cases a; cases b; simp
instance : DecidableEq TChoice := fun a b => decidable_of_iff _ (TChoice.ext_iff a b).symm
def zeroTChoice : TChoice := ⟨[], 0, 0, [], 0, 0⟩
theorem kTChoice_f_goals : Kd.Fld kTChoice (Kd.slice 30 kSGoal (by decide)) 0 (fun x => x.goals) (fun x y => { x with goals := y }) := Kd.Fld.iso _ (Kd.Fld.fst (Kd.Fld.self _)) (fun _ _ => rfl)
theorem kTChoice_f_mark : Kd.Fld kTChoice (Kd.int 3) 1 (fun x => x.mark) (fun x y => { x with mark := y }) := Kd.Fld.iso _ (Kd.Fld.snd (Kd.Fld.fst (Kd.Fld.self _))) (fun _ _ => rfl)
theorem kTChoice_f_vars : Kd.Fld kTChoice (Kd.int 3) 2 (fun x => x.vars) (fun x y => { x with vars := y }) := Kd.Fld.iso _ (Kd.Fld.snd (Kd.Fld.snd (Kd.Fld.fst (Kd.Fld.self _)))) (fun _ _ => rfl)
theorem kTChoice_f_call : Kd.Fld kTChoice (Kd.slice 23 kCell (by decide)) 3 (fun x => x.call) (fun x y => { x with call := y }) := Kd.Fld.iso _ (Kd.Fld.snd (Kd.Fld.snd (Kd.Fld.snd (Kd.Fld.fst (Kd.Fld.self _))))) (fun _ _ => rfl)
theorem kTChoice_f_next : Kd.Fld kTChoice (Kd.int 3) 4 (fun x => x.next) (fun x y => { x with next := y }) := Kd.Fld.iso _ (Kd.Fld.snd (Kd.Fld.snd (Kd.Fld.snd (Kd.Fld.snd (Kd.Fld.fst (Kd.Fld.self _)))))) (fun _ _ => rfl)
theorem kTChoice_f_far : Kd.Fld kTChoice (Kd.int 3) 5 (fun x => x.far) (fun x y => { x with far := y }) := Kd.Fld.iso _ (Kd.Fld.snd (Kd.Fld.snd (Kd.Fld.snd (Kd.Fld.snd (Kd.Fld.snd (Kd.Fld.self _)))))) (fun _ _ => rfl)
set_option maxHeartbeats 2000000 in
theorem eqTrlChoice_c (x y : TChoice) (cs ds : List Value) (ok ok' : Nat → Prop) (w : World) (hK : kTChoice.K w ok x cs) (hD : kTChoice.K w ok' y ds) :
    Calls Tryz.prog 280 #[.agg cs.toArray, .agg ds.toArray] w fun e w' => e = .returned (.bool (decide (x = y))) ∧ Below w.heap.size w w' := by
  obtain ⟨_, _, rfl, ⟨v0, rfl, h0⟩, ⟨_, _, rfl, ⟨rfl, _⟩, ⟨_, _, rfl, ⟨rfl, _⟩, ⟨_, _, rfl, ⟨v3, rfl, h3⟩, ⟨_, _, rfl, ⟨rfl, _⟩, ⟨rfl, _⟩⟩⟩⟩⟩⟩ := hK
  have H0 := Sec.mk h0
  clear h0
  have H3 := Sec.mk h3
  clear h3
  obtain ⟨_, _, rfl, ⟨u0, rfl, g0⟩, ⟨_, _, rfl, ⟨rfl, _⟩, ⟨_, _, rfl, ⟨rfl, _⟩, ⟨_, _, rfl, ⟨u3, rfl, g3⟩, ⟨_, _, rfl, ⟨rfl, _⟩, ⟨rfl, _⟩⟩⟩⟩⟩⟩ := hD
  have G0 := Sec.mk g0
  clear g0
  have G3 := Sec.mk g3
  clear g3
  have hu := Tryz.underlying176
  have hxy := Sec.mk (TChoice.ext_iff x y)
  have T0 : Sec True := ⟨trivial⟩
  by_cases h0 : x.goals = y.goals
  · have E0 := Sec.mk h0
    have d0 : decide (x.goals = y.goals) = true := decide_eq_true h0
    clear h0
    by_cases h1 : x.mark = y.mark
    · have E1 := Sec.mk h1
      have d1 : (x.mark == y.mark) = true := beq_iff_eq.2 h1
      clear h1
      by_cases h2 : x.vars = y.vars
      · have E2 := Sec.mk h2
        have d2 : (x.vars == y.vars) = true := beq_iff_eq.2 h2
        clear h2
        by_cases h3 : x.call = y.call
        · have E3 := Sec.mk h3
          have d3 : decide (x.call = y.call) = true := decide_eq_true h3
          clear h3
          by_cases h4 : x.next = y.next
          · have E4 := Sec.mk h4
            have d4 : (x.next == y.next) = true := beq_iff_eq.2 h4
            clear h4
            by_cases h5 : x.far = y.far
            · have E5 := Sec.mk h5
              have d5 : (x.far == y.far) = true := beq_iff_eq.2 h5
              clear h5
              have hd : Sec (decide (x = y) = true) := ⟨by rw [decide_eq_true_eq, hxy.out]; exact ⟨E0.out, E1.out, E2.out, E3.out, E4.out, E5.out⟩⟩
              go_enter Tryz.func280, Tryz.ntmps280
              go_wp2_with (first | (clear T1; go_at_call 26; have T2 : Sec True := ⟨trivial⟩; refine (eqSCell_c v3 u3 x.call y.call ok ok' _ (Kd.V_below H3.out B1.out (by decide)) (Kd.V_below G3.out B1.out (by decide))).mono ?_; rintro e w2 ⟨rfl, hb1⟩; rw [d3]; have B2 := Sec.mk (bel B1.out hb1); have X := box_cells (b := w.heap.size) (cs := #[v0, .int .i64 x.mark, .int .i64 x.vars, v3, .int .i64 x.next, .int .i64 x.far]) (t := 176) hb1 P1.out.1; have p2_3 := X.2.1 3 _ rfl; have p2_4 := X.2.1 4 _ rfl; have p2_5 := X.2.1 5 _ rfl; have P2 := Sec.mk X; clear X; have X := box_cells (b := w.heap.size + 1) (cs := #[u0, .int .i64 y.mark, .int .i64 y.vars, u3, .int .i64 y.next, .int .i64 y.far]) (t := 176) hb1 Q1.out.1; have q2_3 := X.2.1 3 _ rfl; have q2_4 := X.2.1 4 _ rfl; have q2_5 := X.2.1 5 _ rfl; have Q2 := Sec.mk X; clear X hb1) | (clear T0; go_at_call 271; have T1 : Sec True := ⟨trivial⟩; refine (eqSSGoal_c v0 u0 x.goals y.goals ok ok' _ (Kd.V_below H0.out (belA (belA (Below.refl _ _) _) _) (by decide)) (Kd.V_below G0.out (belA (belA (Below.refl _ _) _) _) (by decide))).mono ?_; rintro e w1 ⟨rfl, hb1⟩; rw [d0]; have B1 := Sec.mk (bel (belA (belA (Below.refl _ _) _) _) hb1); have X := box_cells (b := w.heap.size) (cs := #[v0, .int .i64 x.mark, .int .i64 x.vars, v3, .int .i64 x.next, .int .i64 x.far]) (t := 176) hb1 (box2 _ _ _).1; have p1_0 := X.2.1 0 _ rfl; have p1_1 := X.2.1 1 _ rfl; have p1_2 := X.2.1 2 _ rfl; have p1_3 := X.2.1 3 _ rfl; have p1_4 := X.2.1 4 _ rfl; have p1_5 := X.2.1 5 _ rfl; have P1 := Sec.mk X; clear X; have X := box_cells (b := w.heap.size + 1) (cs := #[u0, .int .i64 y.mark, .int .i64 y.vars, u3, .int .i64 y.next, .int .i64 y.far]) (t := 176) hb1 (box2 _ _ _).2; have q1_0 := X.2.1 0 _ rfl; have q1_1 := X.2.1 1 _ rfl; have q1_2 := X.2.1 2 _ rfl; have q1_3 := X.2.1 3 _ rfl; have q1_4 := X.2.1 4 _ rfl; have q1_5 := X.2.1 5 _ rfl; have Q1 := Sec.mk X; clear X hb1))
              go_ret
              exact ⟨rb hd.out.symm, B2.out⟩
            · have hd : Sec (decide (x = y) = false) := ⟨by rw [decide_eq_false_iff_not, hxy.out]; exact fun h => h5 h.2.2.2.2.2⟩
              have d5 : (x.far == y.far) = false := beq_eq_false_iff_ne.2 h5
              clear h5
              go_enter Tryz.func280, Tryz.ntmps280
              go_wp2_with (first | (clear T1; go_at_call 26; have T2 : Sec True := ⟨trivial⟩; refine (eqSCell_c v3 u3 x.call y.call ok ok' _ (Kd.V_below H3.out B1.out (by decide)) (Kd.V_below G3.out B1.out (by decide))).mono ?_; rintro e w2 ⟨rfl, hb1⟩; rw [d3]; have B2 := Sec.mk (bel B1.out hb1); have X := box_cells (b := w.heap.size) (cs := #[v0, .int .i64 x.mark, .int .i64 x.vars, v3, .int .i64 x.next, .int .i64 x.far]) (t := 176) hb1 P1.out.1; have p2_3 := X.2.1 3 _ rfl; have p2_4 := X.2.1 4 _ rfl; have p2_5 := X.2.1 5 _ rfl; have P2 := Sec.mk X; clear X; have X := box_cells (b := w.heap.size + 1) (cs := #[u0, .int .i64 y.mark, .int .i64 y.vars, u3, .int .i64 y.next, .int .i64 y.far]) (t := 176) hb1 Q1.out.1; have q2_3 := X.2.1 3 _ rfl; have q2_4 := X.2.1 4 _ rfl; have q2_5 := X.2.1 5 _ rfl; have Q2 := Sec.mk X; clear X hb1) | (clear T0; go_at_call 271; have T1 : Sec True := ⟨trivial⟩; refine (eqSSGoal_c v0 u0 x.goals y.goals ok ok' _ (Kd.V_below H0.out (belA (belA (Below.refl _ _) _) _) (by decide)) (Kd.V_below G0.out (belA (belA (Below.refl _ _) _) _) (by decide))).mono ?_; rintro e w1 ⟨rfl, hb1⟩; rw [d0]; have B1 := Sec.mk (bel (belA (belA (Below.refl _ _) _) _) hb1); have X := box_cells (b := w.heap.size) (cs := #[v0, .int .i64 x.mark, .int .i64 x.vars, v3, .int .i64 x.next, .int .i64 x.far]) (t := 176) hb1 (box2 _ _ _).1; have p1_0 := X.2.1 0 _ rfl; have p1_1 := X.2.1 1 _ rfl; have p1_2 := X.2.1 2 _ rfl; have p1_3 := X.2.1 3 _ rfl; have p1_4 := X.2.1 4 _ rfl; have p1_5 := X.2.1 5 _ rfl; have P1 := Sec.mk X; clear X; have X := box_cells (b := w.heap.size + 1) (cs := #[u0, .int .i64 y.mark, .int .i64 y.vars, u3, .int .i64 y.next, .int .i64 y.far]) (t := 176) hb1 (box2 _ _ _).2; have q1_0 := X.2.1 0 _ rfl; have q1_1 := X.2.1 1 _ rfl; have q1_2 := X.2.1 2 _ rfl; have q1_3 := X.2.1 3 _ rfl; have q1_4 := X.2.1 4 _ rfl; have q1_5 := X.2.1 5 _ rfl; have Q1 := Sec.mk X; clear X hb1))
              go_ret
              exact ⟨rb hd.out.symm, B2.out⟩
          · have hd : Sec (decide (x = y) = false) := ⟨by rw [decide_eq_false_iff_not, hxy.out]; exact fun h => h4 h.2.2.2.2.1⟩
            have d4 : (x.next == y.next) = false := beq_eq_false_iff_ne.2 h4
            clear h4
            go_enter Tryz.func280, Tryz.ntmps280
            go_wp2_with (first | (clear T1; go_at_call 26; have T2 : Sec True := ⟨trivial⟩; refine (eqSCell_c v3 u3 x.call y.call ok ok' _ (Kd.V_below H3.out B1.out (by decide)) (Kd.V_below G3.out B1.out (by decide))).mono ?_; rintro e w2 ⟨rfl, hb1⟩; rw [d3]; have B2 := Sec.mk (bel B1.out hb1); have X := box_cells (b := w.heap.size) (cs := #[v0, .int .i64 x.mark, .int .i64 x.vars, v3, .int .i64 x.next, .int .i64 x.far]) (t := 176) hb1 P1.out.1; have p2_3 := X.2.1 3 _ rfl; have p2_4 := X.2.1 4 _ rfl; have p2_5 := X.2.1 5 _ rfl; have P2 := Sec.mk X; clear X; have X := box_cells (b := w.heap.size + 1) (cs := #[u0, .int .i64 y.mark, .int .i64 y.vars, u3, .int .i64 y.next, .int .i64 y.far]) (t := 176) hb1 Q1.out.1; have q2_3 := X.2.1 3 _ rfl; have q2_4 := X.2.1 4 _ rfl; have q2_5 := X.2.1 5 _ rfl; have Q2 := Sec.mk X; clear X hb1) | (clear T0; go_at_call 271; have T1 : Sec True := ⟨trivial⟩; refine (eqSSGoal_c v0 u0 x.goals y.goals ok ok' _ (Kd.V_below H0.out (belA (belA (Below.refl _ _) _) _) (by decide)) (Kd.V_below G0.out (belA (belA (Below.refl _ _) _) _) (by decide))).mono ?_; rintro e w1 ⟨rfl, hb1⟩; rw [d0]; have B1 := Sec.mk (bel (belA (belA (Below.refl _ _) _) _) hb1); have X := box_cells (b := w.heap.size) (cs := #[v0, .int .i64 x.mark, .int .i64 x.vars, v3, .int .i64 x.next, .int .i64 x.far]) (t := 176) hb1 (box2 _ _ _).1; have p1_0 := X.2.1 0 _ rfl; have p1_1 := X.2.1 1 _ rfl; have p1_2 := X.2.1 2 _ rfl; have p1_3 := X.2.1 3 _ rfl; have p1_4 := X.2.1 4 _ rfl; have p1_5 := X.2.1 5 _ rfl; have P1 := Sec.mk X; clear X; have X := box_cells (b := w.heap.size + 1) (cs := #[u0, .int .i64 y.mark, .int .i64 y.vars, u3, .int .i64 y.next, .int .i64 y.far]) (t := 176) hb1 (box2 _ _ _).2; have q1_0 := X.2.1 0 _ rfl; have q1_1 := X.2.1 1 _ rfl; have q1_2 := X.2.1 2 _ rfl; have q1_3 := X.2.1 3 _ rfl; have q1_4 := X.2.1 4 _ rfl; have q1_5 := X.2.1 5 _ rfl; have Q1 := Sec.mk X; clear X hb1))
            go_ret
            exact ⟨rb hd.out.symm, B2.out⟩
        · have hd : Sec (decide (x = y) = false) := ⟨by rw [decide_eq_false_iff_not, hxy.out]; exact fun h => h3 h.2.2.2.1⟩
          have d3 : decide (x.call = y.call) = false := decide_eq_false h3
          clear h3
          go_enter Tryz.func280, Tryz.ntmps280
          go_wp2_with (first | (clear T1; go_at_call 26; have T2 : Sec True := ⟨trivial⟩; refine (eqSCell_c v3 u3 x.call y.call ok ok' _ (Kd.V_below H3.out B1.out (by decide)) (Kd.V_below G3.out B1.out (by decide))).mono ?_; rintro e w2 ⟨rfl, hb1⟩; rw [d3]; have B2 := Sec.mk (bel B1.out hb1); have X := box_cells (b := w.heap.size) (cs := #[v0, .int .i64 x.mark, .int .i64 x.vars, v3, .int .i64 x.next, .int .i64 x.far]) (t := 176) hb1 P1.out.1; have p2_3 := X.2.1 3 _ rfl; have p2_4 := X.2.1 4 _ rfl; have p2_5 := X.2.1 5 _ rfl; have P2 := Sec.mk X; clear X; have X := box_cells (b := w.heap.size + 1) (cs := #[u0, .int .i64 y.mark, .int .i64 y.vars, u3, .int .i64 y.next, .int .i64 y.far]) (t := 176) hb1 Q1.out.1; have q2_3 := X.2.1 3 _ rfl; have q2_4 := X.2.1 4 _ rfl; have q2_5 := X.2.1 5 _ rfl; have Q2 := Sec.mk X; clear X hb1) | (clear T0; go_at_call 271; have T1 : Sec True := ⟨trivial⟩; refine (eqSSGoal_c v0 u0 x.goals y.goals ok ok' _ (Kd.V_below H0.out (belA (belA (Below.refl _ _) _) _) (by decide)) (Kd.V_below G0.out (belA (belA (Below.refl _ _) _) _) (by decide))).mono ?_; rintro e w1 ⟨rfl, hb1⟩; rw [d0]; have B1 := Sec.mk (bel (belA (belA (Below.refl _ _) _) _) hb1); have X := box_cells (b := w.heap.size) (cs := #[v0, .int .i64 x.mark, .int .i64 x.vars, v3, .int .i64 x.next, .int .i64 x.far]) (t := 176) hb1 (box2 _ _ _).1; have p1_0 := X.2.1 0 _ rfl; have p1_1 := X.2.1 1 _ rfl; have p1_2 := X.2.1 2 _ rfl; have p1_3 := X.2.1 3 _ rfl; have p1_4 := X.2.1 4 _ rfl; have p1_5 := X.2.1 5 _ rfl; have P1 := Sec.mk X; clear X; have X := box_cells (b := w.heap.size + 1) (cs := #[u0, .int .i64 y.mark, .int .i64 y.vars, u3, .int .i64 y.next, .int .i64 y.far]) (t := 176) hb1 (box2 _ _ _).2; have q1_0 := X.2.1 0 _ rfl; have q1_1 := X.2.1 1 _ rfl; have q1_2 := X.2.1 2 _ rfl; have q1_3 := X.2.1 3 _ rfl; have q1_4 := X.2.1 4 _ rfl; have q1_5 := X.2.1 5 _ rfl; have Q1 := Sec.mk X; clear X hb1))
          go_ret
          exact ⟨rb hd.out.symm, B2.out⟩
      · have hd : Sec (decide (x = y) = false) := ⟨by rw [decide_eq_false_iff_not, hxy.out]; exact fun h => h2 h.2.2.1⟩
        have d2 : (x.vars == y.vars) = false := beq_eq_false_iff_ne.2 h2
        clear h2
        go_enter Tryz.func280, Tryz.ntmps280
        go_wp2_with (first | (clear T0; go_at_call 271; have T1 : Sec True := ⟨trivial⟩; refine (eqSSGoal_c v0 u0 x.goals y.goals ok ok' _ (Kd.V_below H0.out (belA (belA (Below.refl _ _) _) _) (by decide)) (Kd.V_below G0.out (belA (belA (Below.refl _ _) _) _) (by decide))).mono ?_; rintro e w1 ⟨rfl, hb1⟩; rw [d0]; have B1 := Sec.mk (bel (belA (belA (Below.refl _ _) _) _) hb1); have X := box_cells (b := w.heap.size) (cs := #[v0, .int .i64 x.mark, .int .i64 x.vars, v3, .int .i64 x.next, .int .i64 x.far]) (t := 176) hb1 (box2 _ _ _).1; have p1_0 := X.2.1 0 _ rfl; have p1_1 := X.2.1 1 _ rfl; have p1_2 := X.2.1 2 _ rfl; have p1_3 := X.2.1 3 _ rfl; have p1_4 := X.2.1 4 _ rfl; have p1_5 := X.2.1 5 _ rfl; have P1 := Sec.mk X; clear X; have X := box_cells (b := w.heap.size + 1) (cs := #[u0, .int .i64 y.mark, .int .i64 y.vars, u3, .int .i64 y.next, .int .i64 y.far]) (t := 176) hb1 (box2 _ _ _).2; have q1_0 := X.2.1 0 _ rfl; have q1_1 := X.2.1 1 _ rfl; have q1_2 := X.2.1 2 _ rfl; have q1_3 := X.2.1 3 _ rfl; have q1_4 := X.2.1 4 _ rfl; have q1_5 := X.2.1 5 _ rfl; have Q1 := Sec.mk X; clear X hb1))
        go_ret
        exact ⟨rb hd.out.symm, B1.out⟩
    · have hd : Sec (decide (x = y) = false) := ⟨by rw [decide_eq_false_iff_not, hxy.out]; exact fun h => h1 h.2.1⟩
      have d1 : (x.mark == y.mark) = false := beq_eq_false_iff_ne.2 h1
      clear h1
      go_enter Tryz.func280, Tryz.ntmps280
      go_wp2_with (first | (clear T0; go_at_call 271; have T1 : Sec True := ⟨trivial⟩; refine (eqSSGoal_c v0 u0 x.goals y.goals ok ok' _ (Kd.V_below H0.out (belA (belA (Below.refl _ _) _) _) (by decide)) (Kd.V_below G0.out (belA (belA (Below.refl _ _) _) _) (by decide))).mono ?_; rintro e w1 ⟨rfl, hb1⟩; rw [d0]; have B1 := Sec.mk (bel (belA (belA (Below.refl _ _) _) _) hb1); have X := box_cells (b := w.heap.size) (cs := #[v0, .int .i64 x.mark, .int .i64 x.vars, v3, .int .i64 x.next, .int .i64 x.far]) (t := 176) hb1 (box2 _ _ _).1; have p1_0 := X.2.1 0 _ rfl; have p1_1 := X.2.1 1 _ rfl; have p1_2 := X.2.1 2 _ rfl; have p1_3 := X.2.1 3 _ rfl; have p1_4 := X.2.1 4 _ rfl; have p1_5 := X.2.1 5 _ rfl; have P1 := Sec.mk X; clear X; have X := box_cells (b := w.heap.size + 1) (cs := #[u0, .int .i64 y.mark, .int .i64 y.vars, u3, .int .i64 y.next, .int .i64 y.far]) (t := 176) hb1 (box2 _ _ _).2; have q1_0 := X.2.1 0 _ rfl; have q1_1 := X.2.1 1 _ rfl; have q1_2 := X.2.1 2 _ rfl; have q1_3 := X.2.1 3 _ rfl; have q1_4 := X.2.1 4 _ rfl; have q1_5 := X.2.1 5 _ rfl; have Q1 := Sec.mk X; clear X hb1))
      go_ret
      exact ⟨rb hd.out.symm, B1.out⟩
  · have hd : Sec (decide (x = y) = false) := ⟨by rw [decide_eq_false_iff_not, hxy.out]; exact fun h => h0 h.1⟩
    have d0 : decide (x.goals = y.goals) = false := decide_eq_false h0
    clear h0
    go_enter Tryz.func280, Tryz.ntmps280
    go_wp2_with (first | (clear T0; go_at_call 271; have T1 : Sec True := ⟨trivial⟩; refine (eqSSGoal_c v0 u0 x.goals y.goals ok ok' _ (Kd.V_below H0.out (belA (belA (Below.refl _ _) _) _) (by decide)) (Kd.V_below G0.out (belA (belA (Below.refl _ _) _) _) (by decide))).mono ?_; rintro e w1 ⟨rfl, hb1⟩; rw [d0]; have B1 := Sec.mk (bel (belA (belA (Below.refl _ _) _) _) hb1); have X := box_cells (b := w.heap.size) (cs := #[v0, .int .i64 x.mark, .int .i64 x.vars, v3, .int .i64 x.next, .int .i64 x.far]) (t := 176) hb1 (box2 _ _ _).1; have p1_0 := X.2.1 0 _ rfl; have p1_1 := X.2.1 1 _ rfl; have p1_2 := X.2.1 2 _ rfl; have p1_3 := X.2.1 3 _ rfl; have p1_4 := X.2.1 4 _ rfl; have p1_5 := X.2.1 5 _ rfl; have P1 := Sec.mk X; clear X; have X := box_cells (b := w.heap.size + 1) (cs := #[u0, .int .i64 y.mark, .int .i64 y.vars, u3, .int .i64 y.next, .int .i64 y.far]) (t := 176) hb1 (box2 _ _ _).2; have q1_0 := X.2.1 0 _ rfl; have q1_1 := X.2.1 1 _ rfl; have q1_2 := X.2.1 2 _ rfl; have q1_3 := X.2.1 3 _ rfl; have q1_4 := X.2.1 4 _ rfl; have q1_5 := X.2.1 5 _ rfl; have Q1 := Sec.mk X; clear X hb1))
    go_ret
    exact ⟨rb hd.out.symm, B1.out⟩
set_option maxHeartbeats 2000000 in
theorem eqSTChoice_c (v u : Value) (t s : List TChoice) (ok ok' : Nat → Prop) (w : World) (hV : kTChoice.V w ok v t) (hU : kTChoice.V w ok' u s) :
    Calls Tryz.prog 273 #[v, u] w fun e w' => e = .returned (.bool (decide (t = s))) ∧ Below w.heap.size w w' := by
  obtain ⟨A, c, rfl, h1, h2, h3, hC, _⟩ := hV
  obtain ⟨B, d, rfl, k1, k2, k3, hD, _⟩ := hU
  have HC := Sec.mk hC
  have HD := Sec.mk hD
  clear hC hD
  have hu := Tryz.underlying176
  by_cases hl : t.length = s.length
  · rw [← hl]
    have HL := Sec.mk hl
    clear hl
    go_enter Tryz.func273, Tryz.ntmps273
    go_wp2
    go_loopw [5] (fun i wr => ∃ k : Nat, k ≤ t.length ∧ i = .int .i64 k ∧ Sec (t.take k = s.take k) ∧ Sec (Below w.heap.size w wr)) (fun i _ => t.length - (intOf i).toNat)
    case atStart => exact ⟨0, Nat.zero_le _, rfl, ⟨by simp⟩, ⟨Below.refl _ _⟩⟩
    case round =>
      obtain ⟨k, hk, rfl, hT, hb⟩ := hrel
      by_cases hlt : k < t.length
      · have hlt2 : k < s.length := by have := HL.out; omega
        obtain ⟨b, off, cs, rfl, hob, hK, hc⟩ := Kd.C_get HC.out (List.getElem?_eq_getElem hlt)
        obtain ⟨b2, off2, cs2, rfl, hob2, hK2, hc2⟩ := Kd.C_get HD.out (List.getElem?_eq_getElem hlt2)
        have hT1 : Sec (t[k] = s[k] → t.take (k + 1) = s.take (k + 1)) := ⟨fun e => by rw [List.take_succ_eq_append_getElem hlt, List.take_succ_eq_append_getElem hlt2, hT.out, e]⟩
        have hT2 : Sec (t = s → t[k] = s[k]) := ⟨fun e => by subst e; rfl⟩
        generalize t[k] = x at *
        generalize s[k] = y at *
        have HK := Sec.mk hK
        have HK2 := Sec.mk hK2
        obtain ⟨v0, v3, rfl, -, -⟩ := kTChoice_K hK
        obtain ⟨u0, u3, rfl, -, -⟩ := kTChoice_K hK2
        have hat : Sec (∀ W : World, Below w.heap.size w W → W.cell? ⟨b, off + k * 6, none⟩ = some (v0) ∧ W.cell? ⟨b, off + k * 6 + 1, none⟩ = some (.int .i64 x.mark) ∧ W.cell? ⟨b, off + k * 6 + 2, none⟩ = some (.int .i64 x.vars) ∧ W.cell? ⟨b, off + k * 6 + 3, none⟩ = some (v3) ∧ W.cell? ⟨b, off + k * 6 + 4, none⟩ = some (.int .i64 x.next) ∧ W.cell? ⟨b, off + k * 6 + 5, none⟩ = some (.int .i64 x.far) ∧ W.cell? ⟨b2, off2 + k * 6, none⟩ = some (u0) ∧ W.cell? ⟨b2, off2 + k * 6 + 1, none⟩ = some (.int .i64 y.mark) ∧ W.cell? ⟨b2, off2 + k * 6 + 2, none⟩ = some (.int .i64 y.vars) ∧ W.cell? ⟨b2, off2 + k * 6 + 3, none⟩ = some (u3) ∧ W.cell? ⟨b2, off2 + k * 6 + 4, none⟩ = some (.int .i64 y.next) ∧ W.cell? ⟨b2, off2 + k * 6 + 5, none⟩ = some (.int .i64 y.far)) := ⟨fun W h => ⟨Raw.cell_below h (hc 0 _ rfl), Raw.cell_below h (hc 1 _ rfl), Raw.cell_below h (hc 2 _ rfl), Raw.cell_below h (hc 3 _ rfl), Raw.cell_below h (hc 4 _ rfl), Raw.cell_below h (hc 5 _ rfl), Raw.cell_below h (hc2 0 _ rfl), Raw.cell_below h (hc2 1 _ rfl), Raw.cell_below h (hc2 2 _ rfl), Raw.cell_below h (hc2 3 _ rfl), Raw.cell_below h (hc2 4 _ rfl), Raw.cell_below h (hc2 5 _ rfl)⟩⟩
        clear hc hc2 hK hK2
        obtain ⟨x0, x1, x2, x3, x4, x5, y0, y1, y2, y3, y4, y5⟩ := hat.out _ hb.out
        have i0 : (0 : Int) ≤ (k : Int) := by omega
        have i1 : (k : Int) < (t.length : Int) := by omega
        obtain ⟨bb, hbb⟩ : ∃ bb, decide (x = y) = bb := ⟨_, rfl⟩
        have Hc : Sec (∀ W, Below w.heap.size w W → Calls Tryz.prog 280 #[.agg #[v0, .int .i64 x.mark, .int .i64 x.vars, v3, .int .i64 x.next, .int .i64 x.far], .agg #[u0, .int .i64 y.mark, .int .i64 y.vars, u3, .int .i64 y.next, .int .i64 y.far]] W fun e w' => e = .returned (.bool bb) ∧ Below W.heap.size W w') := ⟨fun W hB => by rw [← hbb]; exact eqTrlChoice_c x y _ _ ok ok' W (Kd.K_below HK.out hB) (Kd.K_below HK2.out hB)⟩
        have HBB := Sec.mk hbb
        clear hbb
        go_wp2
        go_region_held3 (fun W => W.cell? ⟨b, off + k * 6, none⟩ = some (v0) ∧ W.cell? ⟨b, off + k * 6 + 1, none⟩ = some (.int .i64 x.mark) ∧ W.cell? ⟨b, off + k * 6 + 2, none⟩ = some (.int .i64 x.vars) ∧ W.cell? ⟨b, off + k * 6 + 3, none⟩ = some (v3) ∧ W.cell? ⟨b, off + k * 6 + 4, none⟩ = some (.int .i64 x.next) ∧ W.cell? ⟨b, off + k * 6 + 5, none⟩ = some (.int .i64 x.far) ∧ W.cell? ⟨b2, off2 + k * 6, none⟩ = some (u0) ∧ W.cell? ⟨b2, off2 + k * 6 + 1, none⟩ = some (.int .i64 y.mark) ∧ W.cell? ⟨b2, off2 + k * 6 + 2, none⟩ = some (.int .i64 y.vars) ∧ W.cell? ⟨b2, off2 + k * 6 + 3, none⟩ = some (u3) ∧ W.cell? ⟨b2, off2 + k * 6 + 4, none⟩ = some (.int .i64 y.next) ∧ W.cell? ⟨b2, off2 + k * 6 + 5, none⟩ = some (.int .i64 y.far))
          (first | (refine ⟨?_, ?_, ?_, ?_, ?_, ?_, ?_, ?_, ?_, ?_, ?_, ?_⟩ <;> assumption) | go_keep)
          (first | (go_at_call 280; refine (Hc.out _ (belD hb.out)).mono ?_; rintro e w1 ⟨rfl, hb1⟩; have B1 := Sec.mk (bel (belD hb.out) hb1); clear x0 x1 x2 x3 x4 x5 y0 y1 y2 y3 y4 y5; obtain ⟨x0, x1, x2, x3, x4, x5, y0, y1, y2, y3, y4, y5⟩ := hat.out _ B1.out; clear hb1))
        all_goals
          cases bb with
          | true =>
            have HE : Sec (t.take (k + 1) = s.take (k + 1)) := ⟨hT1.out (of_decide_eq_true HBB.out)⟩
            go_wp2
            go_roundw
            case rel => exact ⟨k + 1, by omega, by go_num, HE, B1⟩
            case measure => simp [intOf]; omega
          | false =>
            have HE : Sec (decide (t = s) = false) := ⟨decide_eq_false (fun e => of_decide_eq_false HBB.out (hT2.out e))⟩
            go_wp2
            go_ret
            exact ⟨rb HE.out.symm, B1.out⟩
      · have HE : Sec (decide (t = s) = true) := ⟨decide_eq_true (by have := hT.out; have h2 := HL.out; rwa [List.take_of_length_le (by omega), List.take_of_length_le (by omega)] at this)⟩
        go_wp2
        go_ret
        exact ⟨rb HE.out.symm, hb.out⟩
  · have hl' : ((t.length : Int) == (s.length : Int)) = false := beq_eq_false_iff_ne.2 (by omega)
    have HE : Sec (decide (t = s) = false) := ⟨decide_eq_false (fun e => hl (by rw [e]))⟩
    go_enter Tryz.func273, Tryz.ntmps273
    go_wp2
    go_ret
    exact ⟨rb HE.out.symm, Below.refl _ _⟩
def mTChoice : Mk TChoice := ⟨fun x => mSGoal.cnts x.goals + 1 + 1 + mCell.cnts x.call + 1 + 1, fun x k => ⟨mSGoal.mks x.goals (k), k + ((mSGoal.cnts x.goals : Nat) : Int), k + ((mSGoal.cnts x.goals : Nat) : Int) + 1, mCell.mks x.call (k + ((mSGoal.cnts x.goals : Nat) : Int) + 1 + 1), k + ((mSGoal.cnts x.goals : Nat) : Int) + 1 + 1 + ((mCell.cnts x.call : Nat) : Int), k + ((mSGoal.cnts x.goals : Nat) : Int) + 1 + 1 + ((mCell.cnts x.call : Nat) : Int) + 1⟩⟩
theorem mTChoice_cnt (x : TChoice) : mTChoice.cnt x = mSGoal.cnts x.goals + 1 + 1 + mCell.cnts x.call + 1 + 1 := rfl
set_option maxHeartbeats 2000000 in
theorem markSTChoice_c (v : Value) (t : List TChoice) (S : Nat → Prop) (k : Int) (hk : 0 ≤ k) (hk2 : k + mTChoice.cnts t ≤ 1000000000000000000) (w : World) (hR : kTChoice.R w S v t) :
    Calls Tryz.prog 211 #[v, .int .i64 k] w fun e w' => e = .returned (.int .i64 (k + mTChoice.cnts t)) ∧ kTChoice.R w' S v (mTChoice.mks t k) ∧ Foot S w w' := by
  obtain ⟨A, cp, hv, g1, g2⟩ := Kd.R_form hR
  subst hv
  have h3 : t.length ≤ 1073741824 := hR.1
  have HR := Sec.mk hR
  have hu := Tryz.underlying176
  clear hR
  have HN := Sec.mk (mTChoice.cnts_take t)
  have HM := Sec.mk (mTChoice.cnts_le t)
  have HX := Sec.mk (mTChoice.next t k)
  go_enter Tryz.func211, Tryz.ntmps211
  go_wp2
  go_loopw [1, 5] (fun kv iv wr => ∃ i : Nat, i ≤ t.length ∧ iv = .int .i64 i ∧ kv = .int .i64 (k + ↑(mTChoice.cnts (t.take i))) ∧ Sec (kTChoice.R wr S (.slice A t.length cp) (mTChoice.mks (t.take i) k ++ t.drop i)) ∧ Sec (Foot S w wr)) (fun _ iv _ => t.length - (intOf iv).toNat)
  case atStart => exact ⟨0, Nat.zero_le _, rfl, by simp [Mk.cnts], ⟨by simpa [Mk.mks] using HR.out⟩, ⟨Foot.refl _ _⟩⟩
  case round =>
    obtain ⟨i, hi, rfl, rfl, hM, hF⟩ := hrel
    by_cases hlt : i < t.length
    · have hL : (mTChoice.mks (t.take i) k ++ t.drop i).length = t.length := mTChoice.len_ t k i
      have hil : i < (mTChoice.mks (t.take i) k ++ t.drop i).length := by omega
      obtain ⟨b, rfl, -, hSb, hbb, -⟩ := Kd.R_block hM.out (by omega)
      obtain ⟨cs, hA, -⟩ := Kd.At.of_R hM.out hil
      rw [mTChoice.at_ t k i hlt] at hA
      have hnext := Sec.mk (HX.out i hlt)
      have hn1 := HN.out i hlt
      have hn2 := HM.out (i + 1)
      rw [hn1] at hn2
      have HN1 := Sec.mk hn1
      have F0 := hF
      clear hM hn1 hL
      generalize mTChoice.mks (t.take i) k ++ t.drop i = L at *
      generalize t[i] = x at *
      generalize mTChoice.cnts (t.take i) = c at *
      have hcx : Sec (mTChoice.cnt x = _) := ⟨mTChoice_cnt x⟩
      rw [mTChoice_cnt x] at hn2
      have hAt := hA
      obtain ⟨v0, v3, rfl, -, -⟩ := kTChoice_K hA.K
      have A0 := Sec.mk hA
      clear hA hAt
      have c0_0 : wr.cell? ⟨b, i * 6, none⟩ = some (v0) := Kd.At.cell A0.out 0 _ rfl
      have c0_1 : wr.cell? ⟨b, i * 6 + 1, none⟩ = some (.int .i64 x.mark) := Kd.At.cell A0.out 1 _ rfl
      have c0_2 : wr.cell? ⟨b, i * 6 + 2, none⟩ = some (.int .i64 x.vars) := Kd.At.cell A0.out 2 _ rfl
      have c0_3 : wr.cell? ⟨b, i * 6 + 3, none⟩ = some (v3) := Kd.At.cell A0.out 3 _ rfl
      have c0_4 : wr.cell? ⟨b, i * 6 + 4, none⟩ = some (.int .i64 x.next) := Kd.At.cell A0.out 4 _ rfl
      have c0_5 : wr.cell? ⟨b, i * 6 + 5, none⟩ = some (.int .i64 x.far) := Kd.At.cell A0.out 5 _ rfl
      have f0_0 : wr.frozen? ⟨b, i * 6, none⟩ = false := Kd.At.frozen A0.out (i * 6)
      have f0_1 : wr.frozen? ⟨b, i * 6 + 1, none⟩ = false := Kd.At.frozen A0.out (i * 6 + 1)
      have f0_2 : wr.frozen? ⟨b, i * 6 + 2, none⟩ = false := Kd.At.frozen A0.out (i * 6 + 2)
      have f0_3 : wr.frozen? ⟨b, i * 6 + 3, none⟩ = false := Kd.At.frozen A0.out (i * 6 + 3)
      have f0_4 : wr.frozen? ⟨b, i * 6 + 4, none⟩ = false := Kd.At.frozen A0.out (i * 6 + 4)
      have f0_5 : wr.frozen? ⟨b, i * 6 + 5, none⟩ = false := Kd.At.frozen A0.out (i * 6 + 5)
      obtain ⟨S0, r0, hs0, bk0⟩ := Kd.At.sub A0.out kTChoice_f_goals (v := v0) rfl
      have SR0 := Sec.mk r0
      have SS0 := Sec.mk hs0
      have BK0 := Sec.mk bk0
      clear r0 hs0 bk0
      have T0 : Sec True := ⟨trivial⟩
      go_wp2_with (first | (clear T1; go_at_call 28; have T2 : Sec True := ⟨trivial⟩; refine (markSCell_c v3 x.call S3 (k + (c : Int) + ((mSGoal.cnts x.goals : Nat) : Int) + 1 + 1) (by omega) (by omega) _ SR3.out).mono ?_; rintro e w2 ⟨rfl, hR', hF'⟩; have A4 : Sec (Kd.At kTChoice w2 S b t.length cp L i ⟨(mSGoal.mks x.goals (k + (c : Int))), k + (c : Int) + ((mSGoal.cnts x.goals : Nat) : Int), k + (c : Int) + ((mSGoal.cnts x.goals : Nat) : Int) + 1, (mCell.mks x.call (k + (c : Int) + ((mSGoal.cnts x.goals : Nat) : Int) + 1 + 1)), x.next, x.far⟩ [v0, .int .i64 (k + (c : Int) + ((mSGoal.cnts x.goals : Nat) : Int)), .int .i64 (k + (c : Int) + ((mSGoal.cnts x.goals : Nat) : Int) + 1), v3, .int .i64 x.next, .int .i64 x.far]) := ⟨BK3.out w2 _ hR' hF'⟩; have F4 : Sec (Foot S w w2) := ⟨F3.out.trans hF' (fun k _ h => (SS3.out k h).1)⟩; clear hR' hF'; clear c1_0 f1_0 c1_1 f1_1 c1_2 f1_2 c1_3 f1_3 c1_4 f1_4 c1_5 f1_5; have c2_0 : w2.cell? ⟨b, i * 6, none⟩ = some (v0) := Kd.At.cell A4.out 0 _ rfl; have c2_1 : w2.cell? ⟨b, i * 6 + 1, none⟩ = some (.int .i64 (k + (c : Int) + ((mSGoal.cnts x.goals : Nat) : Int))) := Kd.At.cell A4.out 1 _ rfl; have c2_2 : w2.cell? ⟨b, i * 6 + 2, none⟩ = some (.int .i64 (k + (c : Int) + ((mSGoal.cnts x.goals : Nat) : Int) + 1)) := Kd.At.cell A4.out 2 _ rfl; have c2_3 : w2.cell? ⟨b, i * 6 + 3, none⟩ = some (v3) := Kd.At.cell A4.out 3 _ rfl; have c2_4 : w2.cell? ⟨b, i * 6 + 4, none⟩ = some (.int .i64 x.next) := Kd.At.cell A4.out 4 _ rfl; have c2_5 : w2.cell? ⟨b, i * 6 + 5, none⟩ = some (.int .i64 x.far) := Kd.At.cell A4.out 5 _ rfl; have f2_0 : w2.frozen? ⟨b, i * 6, none⟩ = false := Kd.At.frozen A4.out (i * 6); have f2_1 : w2.frozen? ⟨b, i * 6 + 1, none⟩ = false := Kd.At.frozen A4.out (i * 6 + 1); have f2_2 : w2.frozen? ⟨b, i * 6 + 2, none⟩ = false := Kd.At.frozen A4.out (i * 6 + 2); have f2_3 : w2.frozen? ⟨b, i * 6 + 3, none⟩ = false := Kd.At.frozen A4.out (i * 6 + 3); have f2_4 : w2.frozen? ⟨b, i * 6 + 4, none⟩ = false := Kd.At.frozen A4.out (i * 6 + 4); have f2_5 : w2.frozen? ⟨b, i * 6 + 5, none⟩ = false := Kd.At.frozen A4.out (i * 6 + 5); have A5 : Sec (Kd.At kTChoice (w2.setCell ⟨b, i * 6 + 4, none⟩ (.int .i64 (k + (c : Int) + ((mSGoal.cnts x.goals : Nat) : Int) + 1 + 1 + ((mCell.cnts x.call : Nat) : Int)))) S b t.length cp L i ⟨(mSGoal.mks x.goals (k + (c : Int))), k + (c : Int) + ((mSGoal.cnts x.goals : Nat) : Int), k + (c : Int) + ((mSGoal.cnts x.goals : Nat) : Int) + 1, (mCell.mks x.call (k + (c : Int) + ((mSGoal.cnts x.goals : Nat) : Int) + 1 + 1)), k + (c : Int) + ((mSGoal.cnts x.goals : Nat) : Int) + 1 + 1 + ((mCell.cnts x.call : Nat) : Int), x.far⟩ [v0, .int .i64 (k + (c : Int) + ((mSGoal.cnts x.goals : Nat) : Int)), .int .i64 (k + (c : Int) + ((mSGoal.cnts x.goals : Nat) : Int) + 1), v3, .int .i64 (k + (c : Int) + ((mSGoal.cnts x.goals : Nat) : Int) + 1 + 1 + ((mCell.cnts x.call : Nat) : Int)), .int .i64 x.far]) := ⟨Kd.At.store (e := (Kd.int 3)) A4.out kTChoice_f_next rfl (k + (c : Int) + ((mSGoal.cnts x.goals : Nat) : Int) + 1 + 1 + ((mCell.cnts x.call : Nat) : Int)) (.int .i64 (k + (c : Int) + ((mSGoal.cnts x.goals : Nat) : Int) + 1 + 1 + ((mCell.cnts x.call : Nat) : Int))) (fun _ _ => ⟨rfl, trivial⟩)⟩; have F5 : Sec (Foot S w (w2.setCell ⟨b, i * 6 + 4, none⟩ (.int .i64 (k + (c : Int) + ((mSGoal.cnts x.goals : Nat) : Int) + 1 + 1 + ((mCell.cnts x.call : Nat) : Int))))) := ⟨F4.out.set (g := b) (.inl hSb) (i * 6 + 4) (.int .i64 (k + (c : Int) + ((mSGoal.cnts x.goals : Nat) : Int) + 1 + 1 + ((mCell.cnts x.call : Nat) : Int)))⟩; have A6 : Sec (Kd.At kTChoice ((w2.setCell ⟨b, i * 6 + 4, none⟩ (.int .i64 (k + (c : Int) + ((mSGoal.cnts x.goals : Nat) : Int) + 1 + 1 + ((mCell.cnts x.call : Nat) : Int)))).setCell ⟨b, i * 6 + 5, none⟩ (.int .i64 (k + (c : Int) + ((mSGoal.cnts x.goals : Nat) : Int) + 1 + 1 + ((mCell.cnts x.call : Nat) : Int) + 1))) S b t.length cp L i ⟨(mSGoal.mks x.goals (k + (c : Int))), k + (c : Int) + ((mSGoal.cnts x.goals : Nat) : Int), k + (c : Int) + ((mSGoal.cnts x.goals : Nat) : Int) + 1, (mCell.mks x.call (k + (c : Int) + ((mSGoal.cnts x.goals : Nat) : Int) + 1 + 1)), k + (c : Int) + ((mSGoal.cnts x.goals : Nat) : Int) + 1 + 1 + ((mCell.cnts x.call : Nat) : Int), k + (c : Int) + ((mSGoal.cnts x.goals : Nat) : Int) + 1 + 1 + ((mCell.cnts x.call : Nat) : Int) + 1⟩ [v0, .int .i64 (k + (c : Int) + ((mSGoal.cnts x.goals : Nat) : Int)), .int .i64 (k + (c : Int) + ((mSGoal.cnts x.goals : Nat) : Int) + 1), v3, .int .i64 (k + (c : Int) + ((mSGoal.cnts x.goals : Nat) : Int) + 1 + 1 + ((mCell.cnts x.call : Nat) : Int)), .int .i64 (k + (c : Int) + ((mSGoal.cnts x.goals : Nat) : Int) + 1 + 1 + ((mCell.cnts x.call : Nat) : Int) + 1)]) := ⟨Kd.At.store (e := (Kd.int 3)) A5.out kTChoice_f_far rfl (k + (c : Int) + ((mSGoal.cnts x.goals : Nat) : Int) + 1 + 1 + ((mCell.cnts x.call : Nat) : Int) + 1) (.int .i64 (k + (c : Int) + ((mSGoal.cnts x.goals : Nat) : Int) + 1 + 1 + ((mCell.cnts x.call : Nat) : Int) + 1)) (fun _ _ => ⟨rfl, trivial⟩)⟩; have F6 : Sec (Foot S w ((w2.setCell ⟨b, i * 6 + 4, none⟩ (.int .i64 (k + (c : Int) + ((mSGoal.cnts x.goals : Nat) : Int) + 1 + 1 + ((mCell.cnts x.call : Nat) : Int)))).setCell ⟨b, i * 6 + 5, none⟩ (.int .i64 (k + (c : Int) + ((mSGoal.cnts x.goals : Nat) : Int) + 1 + 1 + ((mCell.cnts x.call : Nat) : Int) + 1)))) := ⟨F5.out.set (g := b) (.inl hSb) (i * 6 + 5) (.int .i64 (k + (c : Int) + ((mSGoal.cnts x.goals : Nat) : Int) + 1 + 1 + ((mCell.cnts x.call : Nat) : Int) + 1))⟩) | (clear T0; go_at_call 209; have T1 : Sec True := ⟨trivial⟩; refine (markSSGoal_c v0 x.goals S0 (k + (c : Int)) (by omega) (by omega) _ SR0.out).mono ?_; rintro e w1 ⟨rfl, hR', hF'⟩; have A1 : Sec (Kd.At kTChoice w1 S b t.length cp L i ⟨(mSGoal.mks x.goals (k + (c : Int))), x.mark, x.vars, x.call, x.next, x.far⟩ [v0, .int .i64 x.mark, .int .i64 x.vars, v3, .int .i64 x.next, .int .i64 x.far]) := ⟨BK0.out w1 _ hR' hF'⟩; have F1 : Sec (Foot S w w1) := ⟨F0.out.trans hF' (fun k _ h => (SS0.out k h).1)⟩; clear hR' hF'; clear c0_0 f0_0 c0_1 f0_1 c0_2 f0_2 c0_3 f0_3 c0_4 f0_4 c0_5 f0_5; have c1_0 : w1.cell? ⟨b, i * 6, none⟩ = some (v0) := Kd.At.cell A1.out 0 _ rfl; have c1_1 : w1.cell? ⟨b, i * 6 + 1, none⟩ = some (.int .i64 x.mark) := Kd.At.cell A1.out 1 _ rfl; have c1_2 : w1.cell? ⟨b, i * 6 + 2, none⟩ = some (.int .i64 x.vars) := Kd.At.cell A1.out 2 _ rfl; have c1_3 : w1.cell? ⟨b, i * 6 + 3, none⟩ = some (v3) := Kd.At.cell A1.out 3 _ rfl; have c1_4 : w1.cell? ⟨b, i * 6 + 4, none⟩ = some (.int .i64 x.next) := Kd.At.cell A1.out 4 _ rfl; have c1_5 : w1.cell? ⟨b, i * 6 + 5, none⟩ = some (.int .i64 x.far) := Kd.At.cell A1.out 5 _ rfl; have f1_0 : w1.frozen? ⟨b, i * 6, none⟩ = false := Kd.At.frozen A1.out (i * 6); have f1_1 : w1.frozen? ⟨b, i * 6 + 1, none⟩ = false := Kd.At.frozen A1.out (i * 6 + 1); have f1_2 : w1.frozen? ⟨b, i * 6 + 2, none⟩ = false := Kd.At.frozen A1.out (i * 6 + 2); have f1_3 : w1.frozen? ⟨b, i * 6 + 3, none⟩ = false := Kd.At.frozen A1.out (i * 6 + 3); have f1_4 : w1.frozen? ⟨b, i * 6 + 4, none⟩ = false := Kd.At.frozen A1.out (i * 6 + 4); have f1_5 : w1.frozen? ⟨b, i * 6 + 5, none⟩ = false := Kd.At.frozen A1.out (i * 6 + 5); have A2 : Sec (Kd.At kTChoice (w1.setCell ⟨b, i * 6 + 1, none⟩ (.int .i64 (k + (c : Int) + ((mSGoal.cnts x.goals : Nat) : Int)))) S b t.length cp L i ⟨(mSGoal.mks x.goals (k + (c : Int))), k + (c : Int) + ((mSGoal.cnts x.goals : Nat) : Int), x.vars, x.call, x.next, x.far⟩ [v0, .int .i64 (k + (c : Int) + ((mSGoal.cnts x.goals : Nat) : Int)), .int .i64 x.vars, v3, .int .i64 x.next, .int .i64 x.far]) := ⟨Kd.At.store (e := (Kd.int 3)) A1.out kTChoice_f_mark rfl (k + (c : Int) + ((mSGoal.cnts x.goals : Nat) : Int)) (.int .i64 (k + (c : Int) + ((mSGoal.cnts x.goals : Nat) : Int))) (fun _ _ => ⟨rfl, trivial⟩)⟩; have F2 : Sec (Foot S w (w1.setCell ⟨b, i * 6 + 1, none⟩ (.int .i64 (k + (c : Int) + ((mSGoal.cnts x.goals : Nat) : Int))))) := ⟨F1.out.set (g := b) (.inl hSb) (i * 6 + 1) (.int .i64 (k + (c : Int) + ((mSGoal.cnts x.goals : Nat) : Int)))⟩; have A3 : Sec (Kd.At kTChoice ((w1.setCell ⟨b, i * 6 + 1, none⟩ (.int .i64 (k + (c : Int) + ((mSGoal.cnts x.goals : Nat) : Int)))).setCell ⟨b, i * 6 + 2, none⟩ (.int .i64 (k + (c : Int) + ((mSGoal.cnts x.goals : Nat) : Int) + 1))) S b t.length cp L i ⟨(mSGoal.mks x.goals (k + (c : Int))), k + (c : Int) + ((mSGoal.cnts x.goals : Nat) : Int), k + (c : Int) + ((mSGoal.cnts x.goals : Nat) : Int) + 1, x.call, x.next, x.far⟩ [v0, .int .i64 (k + (c : Int) + ((mSGoal.cnts x.goals : Nat) : Int)), .int .i64 (k + (c : Int) + ((mSGoal.cnts x.goals : Nat) : Int) + 1), v3, .int .i64 x.next, .int .i64 x.far]) := ⟨Kd.At.store (e := (Kd.int 3)) A2.out kTChoice_f_vars rfl (k + (c : Int) + ((mSGoal.cnts x.goals : Nat) : Int) + 1) (.int .i64 (k + (c : Int) + ((mSGoal.cnts x.goals : Nat) : Int) + 1)) (fun _ _ => ⟨rfl, trivial⟩)⟩; have F3 : Sec (Foot S w ((w1.setCell ⟨b, i * 6 + 1, none⟩ (.int .i64 (k + (c : Int) + ((mSGoal.cnts x.goals : Nat) : Int)))).setCell ⟨b, i * 6 + 2, none⟩ (.int .i64 (k + (c : Int) + ((mSGoal.cnts x.goals : Nat) : Int) + 1)))) := ⟨F2.out.set (g := b) (.inl hSb) (i * 6 + 2) (.int .i64 (k + (c : Int) + ((mSGoal.cnts x.goals : Nat) : Int) + 1))⟩; obtain ⟨S3, r3, hs3, bk3⟩ := Kd.At.sub A3.out kTChoice_f_call (v := v3) rfl; have SR3 := Sec.mk r3; have SS3 := Sec.mk hs3; have BK3 := Sec.mk bk3; clear r3 hs3 bk3))
      go_roundw
      case rel => exact ⟨i + 1, by omega, by go_num, by rw [HN1.out, hcx.out]; congr 1; omega, ⟨by rw [← hnext.out]; exact A6.out.R⟩, F6⟩
      case measure => simp [intOf]; omega
    · have hfin : Sec (mTChoice.mks (t.take i) k ++ t.drop i = mTChoice.mks t k) := ⟨by rw [List.take_of_length_le (by omega), List.drop_of_length_le (by omega), List.append_nil]⟩
      have hM2 := hM.out
      rw [hfin.out] at hM2
      have HM2 := Sec.mk hM2
      have hi2 : Sec (k + ↑(mTChoice.cnts (t.take i)) = k + ↑(mTChoice.cnts t)) := ⟨by rw [List.take_of_length_le (by omega)]⟩
      clear hM2 hM hfin
      go_wp2
      go_ret
      exact ⟨ri hi2.out, HM2.out, hF.out⟩
set_option maxHeartbeats 2000000 in
theorem heldSTChoice_c (v : Value) (t : List TChoice) (ok : Nat → Prop) (k : Int) (hk : 0 ≤ k) (hk2 : k + mTChoice.cnts t ≤ 1000000000000000000) (w : World) (hV : kTChoice.V w ok v (mTChoice.mks t k)) :
    Calls Tryz.prog 215 #[v, .int .i64 k] w fun e w' => e = .returned (.int .i64 (k + mTChoice.cnts t)) ∧ Below w.heap.size w w' := by
  obtain ⟨A, cp, rfl, g1, g2, g3, hC, _⟩ := hV
  rw [Mk.mks_len] at g1 g3
  rw [Mk.mks_len]
  have HC := Sec.mk hC
  have hu := Tryz.underlying176
  clear hC
  have HN := Sec.mk (mTChoice.cnts_take t)
  have HM := Sec.mk (mTChoice.cnts_le t)
  have HG := Sec.mk (mTChoice.get t k)
  have HLn := Sec.mk (mTChoice.mks_len t k)
  go_enter Tryz.func215, Tryz.ntmps215
  go_wp2
  go_loopw [1, 5] (fun kv iv wr => ∃ i : Nat, i ≤ t.length ∧ iv = .int .i64 i ∧ kv = .int .i64 (k + ↑(mTChoice.cnts (t.take i))) ∧ Sec (Below w.heap.size w wr)) (fun _ iv _ => t.length - (intOf iv).toNat)
  case atStart => exact ⟨0, Nat.zero_le _, rfl, by simp [Mk.cnts], ⟨Below.refl _ _⟩⟩
  case round =>
    obtain ⟨i, hi, rfl, rfl, hb⟩ := hrel
    by_cases hlt : i < t.length
    · obtain ⟨b, off, cs, rfl, hob, hK, hc⟩ := Kd.C_get HC.out (List.getElem?_eq_getElem (by rw [HLn.out]; exact hlt))
      rw [HG.out i hlt] at hK
      have hn1 := HN.out i hlt
      have hn2 := HM.out (i + 1)
      rw [hn1] at hn2
      have HN1 := Sec.mk hn1
      clear hn1
      generalize t[i] = x at *
      generalize mTChoice.cnts (t.take i) = c at *
      have hcx : Sec (mTChoice.cnt x = _) := ⟨mTChoice_cnt x⟩
      rw [mTChoice_cnt x] at hn2
      obtain ⟨v0, v3, rfl, h0, h3⟩ := kTChoice_K hK
      have hat : Sec (∀ W : World, Below w.heap.size w W → W.cell? ⟨b, off + i * 6, none⟩ = some (v0) ∧ W.cell? ⟨b, off + i * 6 + 1, none⟩ = some (.int .i64 (k + (c : Int) + ((mSGoal.cnts x.goals : Nat) : Int))) ∧ W.cell? ⟨b, off + i * 6 + 2, none⟩ = some (.int .i64 (k + (c : Int) + ((mSGoal.cnts x.goals : Nat) : Int) + 1)) ∧ W.cell? ⟨b, off + i * 6 + 3, none⟩ = some (v3) ∧ W.cell? ⟨b, off + i * 6 + 4, none⟩ = some (.int .i64 (k + (c : Int) + ((mSGoal.cnts x.goals : Nat) : Int) + 1 + 1 + ((mCell.cnts x.call : Nat) : Int))) ∧ W.cell? ⟨b, off + i * 6 + 5, none⟩ = some (.int .i64 (k + (c : Int) + ((mSGoal.cnts x.goals : Nat) : Int) + 1 + 1 + ((mCell.cnts x.call : Nat) : Int) + 1))) := ⟨fun W h => ⟨Raw.cell_below h (hc 0 _ rfl), Raw.cell_below h (hc 1 _ rfl), Raw.cell_below h (hc 2 _ rfl), Raw.cell_below h (hc 3 _ rfl), Raw.cell_below h (hc 4 _ rfl), Raw.cell_below h (hc 5 _ rfl)⟩⟩
      have i0 : (0 : Int) ≤ (i : Int) := by omega
      have i1 : (i : Int) < (t.length : Int) := by omega
      have H0 : Sec (kSGoal.V w ok v0 (mSGoal.mks x.goals (k + (c : Int)))) := ⟨h0⟩
      clear h0
      have H3 : Sec (kCell.V w ok v3 (mCell.mks x.call (k + (c : Int) + ((mSGoal.cnts x.goals : Nat) : Int) + 1 + 1))) := ⟨h3⟩
      clear h3
      clear hc hK
      obtain ⟨c0, c1, c2, c3, c4, c5⟩ := hat.out _ hb.out
      have B0 := hb
      have T0 : Sec True := ⟨trivial⟩
      go_wp2_with (first | (clear T1; go_at_call 88; have T2 : Sec True := ⟨trivial⟩; refine (heldSCell_c v3 x.call ok (k + (c : Int) + ((mSGoal.cnts x.goals : Nat) : Int) + 1 + 1) (by omega) (by omega) _ (Kd.V_below H3.out B1.out (by decide))).mono ?_; rintro e w2 ⟨rfl, hb1⟩; have B2 := Sec.mk (bel B1.out hb1); clear hb1 c0 c1 c2 c3 c4 c5; obtain ⟨c0, c1, c2, c3, c4, c5⟩ := hat.out _ B2.out) | (clear T0; go_at_call 213; have T1 : Sec True := ⟨trivial⟩; refine (heldSSGoal_c v0 x.goals ok (k + (c : Int)) (by omega) (by omega) _ (Kd.V_below H0.out B0.out (by decide))).mono ?_; rintro e w1 ⟨rfl, hb1⟩; have B1 := Sec.mk (bel B0.out hb1); clear hb1 c0 c1 c2 c3 c4 c5; obtain ⟨c0, c1, c2, c3, c4, c5⟩ := hat.out _ B1.out))
      go_roundw
      case rel => exact ⟨i + 1, by omega, by go_num, by rw [HN1.out, hcx.out]; congr 1; omega, B2⟩
      case measure => simp [intOf]; omega
    · have hi2 : Sec (k + ↑(mTChoice.cnts (t.take i)) = k + ↑(mTChoice.cnts t)) := ⟨by rw [List.take_of_length_le (by omega)]⟩
      go_wp2
      go_ret
      exact ⟨ri hi2.out, hb.out⟩
def mTChoicet : Mk TChoice := ⟨fun x => mSGoal.cnts x.goals + mCell.cnts x.call, fun x k => ⟨mSGoal.mks x.goals (k), x.mark, x.vars, mCell.mks x.call (k + ((mSGoal.cnts x.goals : Nat) : Int)), x.next, x.far⟩⟩
end
section
open Go.RowKit
set_option linter.unusedVariables false
set_option maxRecDepth 100000
def kTState : Kd TState := Kd.iso 93 (Kd.pair (Kd.int 3) (Kd.pair (Kd.slice 30 kSGoal (by decide)) (Kd.pair (Kd.slice 31 kBind (by decide)) (Kd.pair (Kd.int 3) (Kd.pair (Kd.slice 91 kTChoice (by decide)) (Kd.pair (Kd.slice 23 kCell (by decide)) (Kd.slice 23 kCell (by decide)))))))) (fun x => (x.status, x.goals, x.binds, x.vars, x.choices, x.top, x.out))
theorem kTState_K {w : World} {ok : Nat → Prop} {x : TState} {cs : List Value} (h : kTState.K w ok x cs) : ∃ v1 v2 v4 v5 v6, cs = [.int .i64 x.status, v1, v2, .int .i64 x.vars, v4, v5, v6] ∧ kSGoal.V w ok v1 x.goals ∧ kBind.V w ok v2 x.binds ∧ kTChoice.V w ok v4 x.choices ∧ kCell.V w ok v5 x.top ∧ kCell.V w ok v6 x.out := by
  obtain ⟨_, _, rfl, ⟨rfl, _⟩, ⟨_, _, rfl, ⟨v1, rfl, h1⟩, ⟨_, _, rfl, ⟨v2, rfl, h2⟩, ⟨_, _, rfl, ⟨rfl, _⟩, ⟨_, _, rfl, ⟨v4, rfl, h4⟩, ⟨_, _, rfl, ⟨v5, rfl, h5⟩, ⟨v6, rfl, h6⟩⟩⟩⟩⟩⟩⟩ := h
  exact ⟨v1, v2, v4, v5, v6, rfl, h1, h2, h4, h5, h6⟩
theorem TState.ext_iff (a b : TState) : a = b ↔ a.status = b.status ∧ a.goals = b.goals ∧ a.binds = b.binds ∧ a.vars = b.vars ∧ a.choices = b.choices ∧ a.top = b.top ∧ a.out = b.out := by
  cases a; cases b; simp
instance : DecidableEq TState := fun a b => decidable_of_iff _ (TState.ext_iff a b).symm
def zeroTState : TState := ⟨0, [], [], 0, [], [], []⟩
theorem kTState_f_status : Kd.Fld kTState (Kd.int 3) 0 (fun x => x.status) (fun x y => { x with status := y }) := Kd.Fld.iso _ (Kd.Fld.fst (Kd.Fld.self _)) (fun _ _ => rfl)
theorem kTState_f_goals : Kd.Fld kTState (Kd.slice 30 kSGoal (by decide)) 1 (fun x => x.goals) (fun x y => { x with goals := y }) := Kd.Fld.iso _ (Kd.Fld.snd (Kd.Fld.fst (Kd.Fld.self _))) (fun _ _ => rfl)
theorem kTState_f_binds : Kd.Fld kTState (Kd.slice 31 kBind (by decide)) 2 (fun x => x.binds) (fun x y => { x with binds := y }) := Kd.Fld.iso _ (Kd.Fld.snd (Kd.Fld.snd (Kd.Fld.fst (Kd.Fld.self _)))) (fun _ _ => rfl)
theorem kTState_f_vars : Kd.Fld kTState (Kd.int 3) 3 (fun x => x.vars) (fun x y => { x with vars := y }) := Kd.Fld.iso _ (Kd.Fld.snd (Kd.Fld.snd (Kd.Fld.snd (Kd.Fld.fst (Kd.Fld.self _))))) (fun _ _ => rfl)
theorem kTState_f_choices : Kd.Fld kTState (Kd.slice 91 kTChoice (by decide)) 4 (fun x => x.choices) (fun x y => { x with choices := y }) := Kd.Fld.iso _ (Kd.Fld.snd (Kd.Fld.snd (Kd.Fld.snd (Kd.Fld.snd (Kd.Fld.fst (Kd.Fld.self _)))))) (fun _ _ => rfl)
theorem kTState_f_top : Kd.Fld kTState (Kd.slice 23 kCell (by decide)) 5 (fun x => x.top) (fun x y => { x with top := y }) := Kd.Fld.iso _ (Kd.Fld.snd (Kd.Fld.snd (Kd.Fld.snd (Kd.Fld.snd (Kd.Fld.snd (Kd.Fld.fst (Kd.Fld.self _))))))) (fun _ _ => rfl)
theorem kTState_f_out : Kd.Fld kTState (Kd.slice 23 kCell (by decide)) 6 (fun x => x.out) (fun x y => { x with out := y }) := Kd.Fld.iso _ (Kd.Fld.snd (Kd.Fld.snd (Kd.Fld.snd (Kd.Fld.snd (Kd.Fld.snd (Kd.Fld.snd (Kd.Fld.self _))))))) (fun _ _ => rfl)
set_option maxHeartbeats 2000000 in
theorem eqTrlState_c (x y : TState) (cs ds : List Value) (ok ok' : Nat → Prop) (w : World) (hK : kTState.K w ok x cs) (hD : kTState.K w ok' y ds) :
    Calls Tryz.prog 261 #[.agg cs.toArray, .agg ds.toArray] w fun e w' => e = .returned (.bool (decide (x = y))) ∧ Below w.heap.size w w' := by
  obtain ⟨_, _, rfl, ⟨rfl, _⟩, ⟨_, _, rfl, ⟨v1, rfl, h1⟩, ⟨_, _, rfl, ⟨v2, rfl, h2⟩, ⟨_, _, rfl, ⟨rfl, _⟩, ⟨_, _, rfl, ⟨v4, rfl, h4⟩, ⟨_, _, rfl, ⟨v5, rfl, h5⟩, ⟨v6, rfl, h6⟩⟩⟩⟩⟩⟩⟩ := hK
  have H1 := Sec.mk h1
  clear h1
  have H2 := Sec.mk h2
  clear h2
  have H4 := Sec.mk h4
  clear h4
  have H5 := Sec.mk h5
  clear h5
  have H6 := Sec.mk h6
  clear h6
  obtain ⟨_, _, rfl, ⟨rfl, _⟩, ⟨_, _, rfl, ⟨u1, rfl, g1⟩, ⟨_, _, rfl, ⟨u2, rfl, g2⟩, ⟨_, _, rfl, ⟨rfl, _⟩, ⟨_, _, rfl, ⟨u4, rfl, g4⟩, ⟨_, _, rfl, ⟨u5, rfl, g5⟩, ⟨u6, rfl, g6⟩⟩⟩⟩⟩⟩⟩ := hD
  have G1 := Sec.mk g1
  clear g1
  have G2 := Sec.mk g2
  clear g2
  have G4 := Sec.mk g4
  clear g4
  have G5 := Sec.mk g5
  clear g5
  have G6 := Sec.mk g6
  clear g6
  have hu := Tryz.underlying93
  have hxy := Sec.mk (TState.ext_iff x y)
  have T0 : Sec True := ⟨trivial⟩
  by_cases h0 : x.status = y.status
  · have E0 := Sec.mk h0
    have d0 : (x.status == y.status) = true := beq_iff_eq.2 h0
    clear h0
    by_cases h1 : x.goals = y.goals
    · have E1 := Sec.mk h1
      have d1 : decide (x.goals = y.goals) = true := decide_eq_true h1
      clear h1
      by_cases h2 : x.binds = y.binds
      · have E2 := Sec.mk h2
        have d2 : decide (x.binds = y.binds) = true := decide_eq_true h2
        clear h2
        by_cases h3 : x.vars = y.vars
        · have E3 := Sec.mk h3
          have d3 : (x.vars == y.vars) = true := beq_iff_eq.2 h3
          clear h3
          by_cases h4 : x.choices = y.choices
          · have E4 := Sec.mk h4
            have d4 : decide (x.choices = y.choices) = true := decide_eq_true h4
            clear h4
            by_cases h5 : x.top = y.top
            · have E5 := Sec.mk h5
              have d5 : decide (x.top = y.top) = true := decide_eq_true h5
              clear h5
              by_cases h6 : x.out = y.out
              · have E6 := Sec.mk h6
                have d6 : decide (x.out = y.out) = true := decide_eq_true h6
                clear h6
                have hd : Sec (decide (x = y) = true) := ⟨by rw [decide_eq_true_eq, hxy.out]; exact ⟨E0.out, E1.out, E2.out, E3.out, E4.out, E5.out, E6.out⟩⟩
                go_enter Tryz.func261, Tryz.ntmps261
                go_wp2_with (first | (clear T4; go_at_call 26; have T5 : Sec True := ⟨trivial⟩; refine (eqSCell_c v6 u6 x.out y.out ok ok' _ (Kd.V_below H6.out B4.out (by decide)) (Kd.V_below G6.out B4.out (by decide))).mono ?_; rintro e w5 ⟨rfl, hb1⟩; rw [d6]; have B5 := Sec.mk (bel B4.out hb1); have X := box_cells (b := w.heap.size) (cs := #[.int .i64 x.status, v1, v2, .int .i64 x.vars, v4, v5, v6]) (t := 93) hb1 P4.out.1; have p5_6 := X.2.1 6 _ rfl; have P5 := Sec.mk X; clear X; have X := box_cells (b := w.heap.size + 1) (cs := #[.int .i64 y.status, u1, u2, .int .i64 y.vars, u4, u5, u6]) (t := 93) hb1 Q4.out.1; have q5_6 := X.2.1 6 _ rfl; have Q5 := Sec.mk X; clear X hb1) | (clear T3; go_at_call 26; have T4 : Sec True := ⟨trivial⟩; refine (eqSCell_c v5 u5 x.top y.top ok ok' _ (Kd.V_below H5.out B3.out (by decide)) (Kd.V_below G5.out B3.out (by decide))).mono ?_; rintro e w4 ⟨rfl, hb1⟩; rw [d5]; have B4 := Sec.mk (bel B3.out hb1); have X := box_cells (b := w.heap.size) (cs := #[.int .i64 x.status, v1, v2, .int .i64 x.vars, v4, v5, v6]) (t := 93) hb1 P3.out.1; have p4_5 := X.2.1 5 _ rfl; have p4_6 := X.2.1 6 _ rfl; have P4 := Sec.mk X; clear X; have X := box_cells (b := w.heap.size + 1) (cs := #[.int .i64 y.status, u1, u2, .int .i64 y.vars, u4, u5, u6]) (t := 93) hb1 Q3.out.1; have q4_5 := X.2.1 5 _ rfl; have q4_6 := X.2.1 6 _ rfl; have Q4 := Sec.mk X; clear X hb1) | (clear T2; go_at_call 273; have T3 : Sec True := ⟨trivial⟩; refine (eqSTChoice_c v4 u4 x.choices y.choices ok ok' _ (Kd.V_below H4.out B2.out (by decide)) (Kd.V_below G4.out B2.out (by decide))).mono ?_; rintro e w3 ⟨rfl, hb1⟩; rw [d4]; have B3 := Sec.mk (bel B2.out hb1); have X := box_cells (b := w.heap.size) (cs := #[.int .i64 x.status, v1, v2, .int .i64 x.vars, v4, v5, v6]) (t := 93) hb1 P2.out.1; have p3_4 := X.2.1 4 _ rfl; have p3_5 := X.2.1 5 _ rfl; have p3_6 := X.2.1 6 _ rfl; have P3 := Sec.mk X; clear X; have X := box_cells (b := w.heap.size + 1) (cs := #[.int .i64 y.status, u1, u2, .int .i64 y.vars, u4, u5, u6]) (t := 93) hb1 Q2.out.1; have q3_4 := X.2.1 4 _ rfl; have q3_5 := X.2.1 5 _ rfl; have q3_6 := X.2.1 6 _ rfl; have Q3 := Sec.mk X; clear X hb1) | (clear T1; go_at_call 272; have T2 : Sec True := ⟨trivial⟩; refine (eqSBind_c v2 u2 x.binds y.binds ok ok' _ (Kd.V_below H2.out B1.out (by decide)) (Kd.V_below G2.out B1.out (by decide))).mono ?_; rintro e w2 ⟨rfl, hb1⟩; rw [d2]; have B2 := Sec.mk (bel B1.out hb1); have X := box_cells (b := w.heap.size) (cs := #[.int .i64 x.status, v1, v2, .int .i64 x.vars, v4, v5, v6]) (t := 93) hb1 P1.out.1; have p2_2 := X.2.1 2 _ rfl; have p2_3 := X.2.1 3 _ rfl; have p2_4 := X.2.1 4 _ rfl; have p2_5 := X.2.1 5 _ rfl; have p2_6 := X.2.1 6 _ rfl; have P2 := Sec.mk X; clear X; have X := box_cells (b := w.heap.size + 1) (cs := #[.int .i64 y.status, u1, u2, .int .i64 y.vars, u4, u5, u6]) (t := 93) hb1 Q1.out.1; have q2_2 := X.2.1 2 _ rfl; have q2_3 := X.2.1 3 _ rfl; have q2_4 := X.2.1 4 _ rfl; have q2_5 := X.2.1 5 _ rfl; have q2_6 := X.2.1 6 _ rfl; have Q2 := Sec.mk X; clear X hb1) | (clear T0; go_at_call 271; have T1 : Sec True := ⟨trivial⟩; refine (eqSSGoal_c v1 u1 x.goals y.goals ok ok' _ (Kd.V_below H1.out (belA (belA (Below.refl _ _) _) _) (by decide)) (Kd.V_below G1.out (belA (belA (Below.refl _ _) _) _) (by decide))).mono ?_; rintro e w1 ⟨rfl, hb1⟩; rw [d1]; have B1 := Sec.mk (bel (belA (belA (Below.refl _ _) _) _) hb1); have X := box_cells (b := w.heap.size) (cs := #[.int .i64 x.status, v1, v2, .int .i64 x.vars, v4, v5, v6]) (t := 93) hb1 (box2 _ _ _).1; have p1_1 := X.2.1 1 _ rfl; have p1_2 := X.2.1 2 _ rfl; have p1_3 := X.2.1 3 _ rfl; have p1_4 := X.2.1 4 _ rfl; have p1_5 := X.2.1 5 _ rfl; have p1_6 := X.2.1 6 _ rfl; have P1 := Sec.mk X; clear X; have X := box_cells (b := w.heap.size + 1) (cs := #[.int .i64 y.status, u1, u2, .int .i64 y.vars, u4, u5, u6]) (t := 93) hb1 (box2 _ _ _).2; have q1_1 := X.2.1 1 _ rfl; have q1_2 := X.2.1 2 _ rfl; have q1_3 := X.2.1 3 _ rfl; have q1_4 := X.2.1 4 _ rfl; have q1_5 := X.2.1 5 _ rfl; have q1_6 := X.2.1 6 _ rfl; have Q1 := Sec.mk X; clear X hb1))
                go_ret
                exact ⟨rb hd.out.symm, B5.out⟩
              · have hd : Sec (decide (x = y) = false) := ⟨by rw [decide_eq_false_iff_not, hxy.out]; exact fun h => h6 h.2.2.2.2.2.2⟩
                have d6 : decide (x.out = y.out) = false := decide_eq_false h6
                clear h6
                go_enter Tryz.func261, Tryz.ntmps261
                go_wp2_with (first | (clear T4; go_at_call 26; have T5 : Sec True := ⟨trivial⟩; refine (eqSCell_c v6 u6 x.out y.out ok ok' _ (Kd.V_below H6.out B4.out (by decide)) (Kd.V_below G6.out B4.out (by decide))).mono ?_; rintro e w5 ⟨rfl, hb1⟩; rw [d6]; have B5 := Sec.mk (bel B4.out hb1); have X := box_cells (b := w.heap.size) (cs := #[.int .i64 x.status, v1, v2, .int .i64 x.vars, v4, v5, v6]) (t := 93) hb1 P4.out.1; have p5_6 := X.2.1 6 _ rfl; have P5 := Sec.mk X; clear X; have X := box_cells (b := w.heap.size + 1) (cs := #[.int .i64 y.status, u1, u2, .int .i64 y.vars, u4, u5, u6]) (t := 93) hb1 Q4.out.1; have q5_6 := X.2.1 6 _ rfl; have Q5 := Sec.mk X; clear X hb1) | (clear T3; go_at_call 26; have T4 : Sec True := ⟨trivial⟩; refine (eqSCell_c v5 u5 x.top y.top ok ok' _ (Kd.V_below H5.out B3.out (by decide)) (Kd.V_below G5.out B3.out (by decide))).mono ?_; rintro e w4 ⟨rfl, hb1⟩; rw [d5]; have B4 := Sec.mk (bel B3.out hb1); have X := box_cells (b := w.heap.size) (cs := #[.int .i64 x.status, v1, v2, .int .i64 x.vars, v4, v5, v6]) (t := 93) hb1 P3.out.1; have p4_5 := X.2.1 5 _ rfl; have p4_6 := X.2.1 6 _ rfl; have P4 := Sec.mk X; clear X; have X := box_cells (b := w.heap.size + 1) (cs := #[.int .i64 y.status, u1, u2, .int .i64 y.vars, u4, u5, u6]) (t := 93) hb1 Q3.out.1; have q4_5 := X.2.1 5 _ rfl; have q4_6 := X.2.1 6 _ rfl; have Q4 := Sec.mk X; clear X hb1) | (clear T2; go_at_call 273; have T3 : Sec True := ⟨trivial⟩; refine (eqSTChoice_c v4 u4 x.choices y.choices ok ok' _ (Kd.V_below H4.out B2.out (by decide)) (Kd.V_below G4.out B2.out (by decide))).mono ?_; rintro e w3 ⟨rfl, hb1⟩; rw [d4]; have B3 := Sec.mk (bel B2.out hb1); have X := box_cells (b := w.heap.size) (cs := #[.int .i64 x.status, v1, v2, .int .i64 x.vars, v4, v5, v6]) (t := 93) hb1 P2.out.1; have p3_4 := X.2.1 4 _ rfl; have p3_5 := X.2.1 5 _ rfl; have p3_6 := X.2.1 6 _ rfl; have P3 := Sec.mk X; clear X; have X := box_cells (b := w.heap.size + 1) (cs := #[.int .i64 y.status, u1, u2, .int .i64 y.vars, u4, u5, u6]) (t := 93) hb1 Q2.out.1; have q3_4 := X.2.1 4 _ rfl; have q3_5 := X.2.1 5 _ rfl; have q3_6 := X.2.1 6 _ rfl; have Q3 := Sec.mk X; clear X hb1) | (clear T1; go_at_call 272; have T2 : Sec True := ⟨trivial⟩; refine (eqSBind_c v2 u2 x.binds y.binds ok ok' _ (Kd.V_below H2.out B1.out (by decide)) (Kd.V_below G2.out B1.out (by decide))).mono ?_; rintro e w2 ⟨rfl, hb1⟩; rw [d2]; have B2 := Sec.mk (bel B1.out hb1); have X := box_cells (b := w.heap.size) (cs := #[.int .i64 x.status, v1, v2, .int .i64 x.vars, v4, v5, v6]) (t := 93) hb1 P1.out.1; have p2_2 := X.2.1 2 _ rfl; have p2_3 := X.2.1 3 _ rfl; have p2_4 := X.2.1 4 _ rfl; have p2_5 := X.2.1 5 _ rfl; have p2_6 := X.2.1 6 _ rfl; have P2 := Sec.mk X; clear X; have X := box_cells (b := w.heap.size + 1) (cs := #[.int .i64 y.status, u1, u2, .int .i64 y.vars, u4, u5, u6]) (t := 93) hb1 Q1.out.1; have q2_2 := X.2.1 2 _ rfl; have q2_3 := X.2.1 3 _ rfl; have q2_4 := X.2.1 4 _ rfl; have q2_5 := X.2.1 5 _ rfl; have q2_6 := X.2.1 6 _ rfl; have Q2 := Sec.mk X; clear X hb1) | (clear T0; go_at_call 271; have T1 : Sec True := ⟨trivial⟩; refine (eqSSGoal_c v1 u1 x.goals y.goals ok ok' _ (Kd.V_below H1.out (belA (belA (Below.refl _ _) _) _) (by decide)) (Kd.V_below G1.out (belA (belA (Below.refl _ _) _) _) (by decide))).mono ?_; rintro e w1 ⟨rfl, hb1⟩; rw [d1]; have B1 := Sec.mk (bel (belA (belA (Below.refl _ _) _) _) hb1); have X := box_cells (b := w.heap.size) (cs := #[.int .i64 x.status, v1, v2, .int .i64 x.vars, v4, v5, v6]) (t := 93) hb1 (box2 _ _ _).1; have p1_1 := X.2.1 1 _ rfl; have p1_2 := X.2.1 2 _ rfl; have p1_3 := X.2.1 3 _ rfl; have p1_4 := X.2.1 4 _ rfl; have p1_5 := X.2.1 5 _ rfl; have p1_6 := X.2.1 6 _ rfl; have P1 := Sec.mk X; clear X; have X := box_cells (b := w.heap.size + 1) (cs := #[.int .i64 y.status, u1, u2, .int .i64 y.vars, u4, u5, u6]) (t := 93) hb1 (box2 _ _ _).2; have q1_1 := X.2.1 1 _ rfl; have q1_2 := X.2.1 2 _ rfl; have q1_3 := X.2.1 3 _ rfl; have q1_4 := X.2.1 4 _ rfl; have q1_5 := X.2.1 5 _ rfl; have q1_6 := X.2.1 6 _ rfl; have Q1 := Sec.mk X; clear X hb1))
                go_ret
                exact ⟨rb hd.out.symm, B5.out⟩
            · have hd : Sec (decide (x = y) = false) := ⟨by rw [decide_eq_false_iff_not, hxy.out]; exact fun h => h5 h.2.2.2.2.2.1⟩
              have d5 : decide (x.top = y.top) = false := decide_eq_false h5
              clear h5
              go_enter Tryz.func261, Tryz.ntmps261
              go_wp2_with (first | (clear T3; go_at_call 26; have T4 : Sec True := ⟨trivial⟩; refine (eqSCell_c v5 u5 x.top y.top ok ok' _ (Kd.V_below H5.out B3.out (by decide)) (Kd.V_below G5.out B3.out (by decide))).mono ?_; rintro e w4 ⟨rfl, hb1⟩; rw [d5]; have B4 := Sec.mk (bel B3.out hb1); have X := box_cells (b := w.heap.size) (cs := #[.int .i64 x.status, v1, v2, .int .i64 x.vars, v4, v5, v6]) (t := 93) hb1 P3.out.1; have p4_5 := X.2.1 5 _ rfl; have p4_6 := X.2.1 6 _ rfl; have P4 := Sec.mk X; clear X; have X := box_cells (b := w.heap.size + 1) (cs := #[.int .i64 y.status, u1, u2, .int .i64 y.vars, u4, u5, u6]) (t := 93) hb1 Q3.out.1; have q4_5 := X.2.1 5 _ rfl; have q4_6 := X.2.1 6 _ rfl; have Q4 := Sec.mk X; clear X hb1) | (clear T2; go_at_call 273; have T3 : Sec True := ⟨trivial⟩; refine (eqSTChoice_c v4 u4 x.choices y.choices ok ok' _ (Kd.V_below H4.out B2.out (by decide)) (Kd.V_below G4.out B2.out (by decide))).mono ?_; rintro e w3 ⟨rfl, hb1⟩; rw [d4]; have B3 := Sec.mk (bel B2.out hb1); have X := box_cells (b := w.heap.size) (cs := #[.int .i64 x.status, v1, v2, .int .i64 x.vars, v4, v5, v6]) (t := 93) hb1 P2.out.1; have p3_4 := X.2.1 4 _ rfl; have p3_5 := X.2.1 5 _ rfl; have p3_6 := X.2.1 6 _ rfl; have P3 := Sec.mk X; clear X; have X := box_cells (b := w.heap.size + 1) (cs := #[.int .i64 y.status, u1, u2, .int .i64 y.vars, u4, u5, u6]) (t := 93) hb1 Q2.out.1; have q3_4 := X.2.1 4 _ rfl; have q3_5 := X.2.1 5 _ rfl; have q3_6 := X.2.1 6 _ rfl; have Q3 := Sec.mk X; clear X hb1) | (clear T1; go_at_call 272; have T2 : Sec True := ⟨trivial⟩; refine (eqSBind_c v2 u2 x.binds y.binds ok ok' _ (Kd.V_below H2.out B1.out (by decide)) (Kd.V_below G2.out B1.out (by decide))).mono ?_; rintro e w2 ⟨rfl, hb1⟩; rw [d2]; have B2 := Sec.mk (bel B1.out hb1); have X := box_cells (b := w.heap.size) (cs := #[.int .i64 x.status, v1, v2, .int .i64 x.vars, v4, v5, v6]) (t := 93) hb1 P1.out.1; have p2_2 := X.2.1 2 _ rfl; have p2_3 := X.2.1 3 _ rfl; have p2_4 := X.2.1 4 _ rfl; have p2_5 := X.2.1 5 _ rfl; have p2_6 := X.2.1 6 _ rfl; have P2 := Sec.mk X; clear X; have X := box_cells (b := w.heap.size + 1) (cs := #[.int .i64 y.status, u1, u2, .int .i64 y.vars, u4, u5, u6]) (t := 93) hb1 Q1.out.1; have q2_2 := X.2.1 2 _ rfl; have q2_3 := X.2.1 3 _ rfl; have q2_4 := X.2.1 4 _ rfl; have q2_5 := X.2.1 5 _ rfl; have q2_6 := X.2.1 6 _ rfl; have Q2 := Sec.mk X; clear X hb1) | (clear T0; go_at_call 271; have T1 : Sec True := ⟨trivial⟩; refine (eqSSGoal_c v1 u1 x.goals y.goals ok ok' _ (Kd.V_below H1.out (belA (belA (Below.refl _ _) _) _) (by decide)) (Kd.V_below G1.out (belA (belA (Below.refl _ _) _) _) (by decide))).mono ?_; rintro e w1 ⟨rfl, hb1⟩; rw [d1]; have B1 := Sec.mk (bel (belA (belA (Below.refl _ _) _) _) hb1); have X := box_cells (b := w.heap.size) (cs := #[.int .i64 x.status, v1, v2, .int .i64 x.vars, v4, v5, v6]) (t := 93) hb1 (box2 _ _ _).1; have p1_1 := X.2.1 1 _ rfl; have p1_2 := X.2.1 2 _ rfl; have p1_3 := X.2.1 3 _ rfl; have p1_4 := X.2.1 4 _ rfl; have p1_5 := X.2.1 5 _ rfl; have p1_6 := X.2.1 6 _ rfl; have P1 := Sec.mk X; clear X; have X := box_cells (b := w.heap.size + 1) (cs := #[.int .i64 y.status, u1, u2, .int .i64 y.vars, u4, u5, u6]) (t := 93) hb1 (box2 _ _ _).2; have q1_1 := X.2.1 1 _ rfl; have q1_2 := X.2.1 2 _ rfl; have q1_3 := X.2.1 3 _ rfl; have q1_4 := X.2.1 4 _ rfl; have q1_5 := X.2.1 5 _ rfl; have q1_6 := X.2.1 6 _ rfl; have Q1 := Sec.mk X; clear X hb1))
              go_ret
              exact ⟨rb hd.out.symm, B4.out⟩
          · have hd : Sec (decide (x = y) = false) := ⟨by rw [decide_eq_false_iff_not, hxy.out]; exact fun h => h4 h.2.2.2.2.1⟩
            have d4 : decide (x.choices = y.choices) = false := decide_eq_false h4
            clear h4
            go_enter Tryz.func261, Tryz.ntmps261
            go_wp2_with (first | (clear T2; go_at_call 273; have T3 : Sec True := ⟨trivial⟩; refine (eqSTChoice_c v4 u4 x.choices y.choices ok ok' _ (Kd.V_below H4.out B2.out (by decide)) (Kd.V_below G4.out B2.out (by decide))).mono ?_; rintro e w3 ⟨rfl, hb1⟩; rw [d4]; have B3 := Sec.mk (bel B2.out hb1); have X := box_cells (b := w.heap.size) (cs := #[.int .i64 x.status, v1, v2, .int .i64 x.vars, v4, v5, v6]) (t := 93) hb1 P2.out.1; have p3_4 := X.2.1 4 _ rfl; have p3_5 := X.2.1 5 _ rfl; have p3_6 := X.2.1 6 _ rfl; have P3 := Sec.mk X; clear X; have X := box_cells (b := w.heap.size + 1) (cs := #[.int .i64 y.status, u1, u2, .int .i64 y.vars, u4, u5, u6]) (t := 93) hb1 Q2.out.1; have q3_4 := X.2.1 4 _ rfl; have q3_5 := X.2.1 5 _ rfl; have q3_6 := X.2.1 6 _ rfl; have Q3 := Sec.mk X; clear X hb1) | (clear T1; go_at_call 272; have T2 : Sec True := ⟨trivial⟩; refine (eqSBind_c v2 u2 x.binds y.binds ok ok' _ (Kd.V_below H2.out B1.out (by decide)) (Kd.V_below G2.out B1.out (by decide))).mono ?_; rintro e w2 ⟨rfl, hb1⟩; rw [d2]; have B2 := Sec.mk (bel B1.out hb1); have X := box_cells (b := w.heap.size) (cs := #[.int .i64 x.status, v1, v2, .int .i64 x.vars, v4, v5, v6]) (t := 93) hb1 P1.out.1; have p2_2 := X.2.1 2 _ rfl; have p2_3 := X.2.1 3 _ rfl; have p2_4 := X.2.1 4 _ rfl; have p2_5 := X.2.1 5 _ rfl; have p2_6 := X.2.1 6 _ rfl; have P2 := Sec.mk X; clear X; have X := box_cells (b := w.heap.size + 1) (cs := #[.int .i64 y.status, u1, u2, .int .i64 y.vars, u4, u5, u6]) (t := 93) hb1 Q1.out.1; have q2_2 := X.2.1 2 _ rfl; have q2_3 := X.2.1 3 _ rfl; have q2_4 := X.2.1 4 _ rfl; have q2_5 := X.2.1 5 _ rfl; have q2_6 := X.2.1 6 _ rfl; have Q2 := Sec.mk X; clear X hb1) | (clear T0; go_at_call 271; have T1 : Sec True := ⟨trivial⟩; refine (eqSSGoal_c v1 u1 x.goals y.goals ok ok' _ (Kd.V_below H1.out (belA (belA (Below.refl _ _) _) _) (by decide)) (Kd.V_below G1.out (belA (belA (Below.refl _ _) _) _) (by decide))).mono ?_; rintro e w1 ⟨rfl, hb1⟩; rw [d1]; have B1 := Sec.mk (bel (belA (belA (Below.refl _ _) _) _) hb1); have X := box_cells (b := w.heap.size) (cs := #[.int .i64 x.status, v1, v2, .int .i64 x.vars, v4, v5, v6]) (t := 93) hb1 (box2 _ _ _).1; have p1_1 := X.2.1 1 _ rfl; have p1_2 := X.2.1 2 _ rfl; have p1_3 := X.2.1 3 _ rfl; have p1_4 := X.2.1 4 _ rfl; have p1_5 := X.2.1 5 _ rfl; have p1_6 := X.2.1 6 _ rfl; have P1 := Sec.mk X; clear X; have X := box_cells (b := w.heap.size + 1) (cs := #[.int .i64 y.status, u1, u2, .int .i64 y.vars, u4, u5, u6]) (t := 93) hb1 (box2 _ _ _).2; have q1_1 := X.2.1 1 _ rfl; have q1_2 := X.2.1 2 _ rfl; have q1_3 := X.2.1 3 _ rfl; have q1_4 := X.2.1 4 _ rfl; have q1_5 := X.2.1 5 _ rfl; have q1_6 := X.2.1 6 _ rfl; have Q1 := Sec.mk X; clear X hb1))
            go_ret
            exact ⟨rb hd.out.symm, B3.out⟩
        · have hd : Sec (decide (x = y) = false) := ⟨by rw [decide_eq_false_iff_not, hxy.out]; exact fun h => h3 h.2.2.2.1⟩
          have d3 : (x.vars == y.vars) = false := beq_eq_false_iff_ne.2 h3
          clear h3
          go_enter Tryz.func261, Tryz.ntmps261
          go_wp2_with (first | (clear T1; go_at_call 272; have T2 : Sec True := ⟨trivial⟩; refine (eqSBind_c v2 u2 x.binds y.binds ok ok' _ (Kd.V_below H2.out B1.out (by decide)) (Kd.V_below G2.out B1.out (by decide))).mono ?_; rintro e w2 ⟨rfl, hb1⟩; rw [d2]; have B2 := Sec.mk (bel B1.out hb1); have X := box_cells (b := w.heap.size) (cs := #[.int .i64 x.status, v1, v2, .int .i64 x.vars, v4, v5, v6]) (t := 93) hb1 P1.out.1; have p2_2 := X.2.1 2 _ rfl; have p2_3 := X.2.1 3 _ rfl; have p2_4 := X.2.1 4 _ rfl; have p2_5 := X.2.1 5 _ rfl; have p2_6 := X.2.1 6 _ rfl; have P2 := Sec.mk X; clear X; have X := box_cells (b := w.heap.size + 1) (cs := #[.int .i64 y.status, u1, u2, .int .i64 y.vars, u4, u5, u6]) (t := 93) hb1 Q1.out.1; have q2_2 := X.2.1 2 _ rfl; have q2_3 := X.2.1 3 _ rfl; have q2_4 := X.2.1 4 _ rfl; have q2_5 := X.2.1 5 _ rfl; have q2_6 := X.2.1 6 _ rfl; have Q2 := Sec.mk X; clear X hb1) | (clear T0; go_at_call 271; have T1 : Sec True := ⟨trivial⟩; refine (eqSSGoal_c v1 u1 x.goals y.goals ok ok' _ (Kd.V_below H1.out (belA (belA (Below.refl _ _) _) _) (by decide)) (Kd.V_below G1.out (belA (belA (Below.refl _ _) _) _) (by decide))).mono ?_; rintro e w1 ⟨rfl, hb1⟩; rw [d1]; have B1 := Sec.mk (bel (belA (belA (Below.refl _ _) _) _) hb1); have X := box_cells (b := w.heap.size) (cs := #[.int .i64 x.status, v1, v2, .int .i64 x.vars, v4, v5, v6]) (t := 93) hb1 (box2 _ _ _).1; have p1_1 := X.2.1 1 _ rfl; have p1_2 := X.2.1 2 _ rfl; have p1_3 := X.2.1 3 _ rfl; have p1_4 := X.2.1 4 _ rfl; have p1_5 := X.2.1 5 _ rfl; have p1_6 := X.2.1 6 _ rfl; have P1 := Sec.mk X; clear X; have X := box_cells (b := w.heap.size + 1) (cs := #[.int .i64 y.status, u1, u2, .int .i64 y.vars, u4, u5, u6]) (t := 93) hb1 (box2 _ _ _).2; have q1_1 := X.2.1 1 _ rfl; have q1_2 := X.2.1 2 _ rfl; have q1_3 := X.2.1 3 _ rfl; have q1_4 := X.2.1 4 _ rfl; have q1_5 := X.2.1 5 _ rfl; have q1_6 := X.2.1 6 _ rfl; have Q1 := Sec.mk X; clear X hb1))
          go_ret
          exact ⟨rb hd.out.symm, B2.out⟩
      · have hd : Sec (decide (x = y) = false) := ⟨by rw [decide_eq_false_iff_not, hxy.out]; exact fun h => h2 h.2.2.1⟩
        have d2 : decide (x.binds = y.binds) = false := decide_eq_false h2
        clear h2
        go_enter Tryz.func261, Tryz.ntmps261
        go_wp2_with (first | (clear T1; go_at_call 272; have T2 : Sec True := ⟨trivial⟩; refine (eqSBind_c v2 u2 x.binds y.binds ok ok' _ (Kd.V_below H2.out B1.out (by decide)) (Kd.V_below G2.out B1.out (by decide))).mono ?_; rintro e w2 ⟨rfl, hb1⟩; rw [d2]; have B2 := Sec.mk (bel B1.out hb1); have X := box_cells (b := w.heap.size) (cs := #[.int .i64 x.status, v1, v2, .int .i64 x.vars, v4, v5, v6]) (t := 93) hb1 P1.out.1; have p2_2 := X.2.1 2 _ rfl; have p2_3 := X.2.1 3 _ rfl; have p2_4 := X.2.1 4 _ rfl; have p2_5 := X.2.1 5 _ rfl; have p2_6 := X.2.1 6 _ rfl; have P2 := Sec.mk X; clear X; have X := box_cells (b := w.heap.size + 1) (cs := #[.int .i64 y.status, u1, u2, .int .i64 y.vars, u4, u5, u6]) (t := 93) hb1 Q1.out.1; have q2_2 := X.2.1 2 _ rfl; have q2_3 := X.2.1 3 _ rfl; have q2_4 := X.2.1 4 _ rfl; have q2_5 := X.2.1 5 _ rfl; have q2_6 := X.2.1 6 _ rfl; have Q2 := Sec.mk X; clear X hb1) | (clear T0; go_at_call 271; have T1 : Sec True := ⟨trivial⟩; refine (eqSSGoal_c v1 u1 x.goals y.goals ok ok' _ (Kd.V_below H1.out (belA (belA (Below.refl _ _) _) _) (by decide)) (Kd.V_below G1.out (belA (belA (Below.refl _ _) _) _) (by decide))).mono ?_; rintro e w1 ⟨rfl, hb1⟩; rw [d1]; have B1 := Sec.mk (bel (belA (belA (Below.refl _ _) _) _) hb1); have X := box_cells (b := w.heap.size) (cs := #[.int .i64 x.status, v1, v2, .int .i64 x.vars, v4, v5, v6]) (t := 93) hb1 (box2 _ _ _).1; have p1_1 := X.2.1 1 _ rfl; have p1_2 := X.2.1 2 _ rfl; have p1_3 := X.2.1 3 _ rfl; have p1_4 := X.2.1 4 _ rfl; have p1_5 := X.2.1 5 _ rfl; have p1_6 := X.2.1 6 _ rfl; have P1 := Sec.mk X; clear X; have X := box_cells (b := w.heap.size + 1) (cs := #[.int .i64 y.status, u1, u2, .int .i64 y.vars, u4, u5, u6]) (t := 93) hb1 (box2 _ _ _).2; have q1_1 := X.2.1 1 _ rfl; have q1_2 := X.2.1 2 _ rfl; have q1_3 := X.2.1 3 _ rfl; have q1_4 := X.2.1 4 _ rfl; have q1_5 := X.2.1 5 _ rfl; have q1_6 := X.2.1 6 _ rfl; have Q1 := Sec.mk X; clear X hb1))
        go_ret
        exact ⟨rb hd.out.symm, B2.out⟩
    · have hd : Sec (decide (x = y) = false) := ⟨by rw [decide_eq_false_iff_not, hxy.out]; exact fun h => h1 h.2.1⟩
      have d1 : decide (x.goals = y.goals) = false := decide_eq_false h1
      clear h1
      go_enter Tryz.func261, Tryz.ntmps261
      go_wp2_with (first | (clear T0; go_at_call 271; have T1 : Sec True := ⟨trivial⟩; refine (eqSSGoal_c v1 u1 x.goals y.goals ok ok' _ (Kd.V_below H1.out (belA (belA (Below.refl _ _) _) _) (by decide)) (Kd.V_below G1.out (belA (belA (Below.refl _ _) _) _) (by decide))).mono ?_; rintro e w1 ⟨rfl, hb1⟩; rw [d1]; have B1 := Sec.mk (bel (belA (belA (Below.refl _ _) _) _) hb1); have X := box_cells (b := w.heap.size) (cs := #[.int .i64 x.status, v1, v2, .int .i64 x.vars, v4, v5, v6]) (t := 93) hb1 (box2 _ _ _).1; have p1_1 := X.2.1 1 _ rfl; have p1_2 := X.2.1 2 _ rfl; have p1_3 := X.2.1 3 _ rfl; have p1_4 := X.2.1 4 _ rfl; have p1_5 := X.2.1 5 _ rfl; have p1_6 := X.2.1 6 _ rfl; have P1 := Sec.mk X; clear X; have X := box_cells (b := w.heap.size + 1) (cs := #[.int .i64 y.status, u1, u2, .int .i64 y.vars, u4, u5, u6]) (t := 93) hb1 (box2 _ _ _).2; have q1_1 := X.2.1 1 _ rfl; have q1_2 := X.2.1 2 _ rfl; have q1_3 := X.2.1 3 _ rfl; have q1_4 := X.2.1 4 _ rfl; have q1_5 := X.2.1 5 _ rfl; have q1_6 := X.2.1 6 _ rfl; have Q1 := Sec.mk X; clear X hb1))
      go_ret
      exact ⟨rb hd.out.symm, B1.out⟩
  · have hd : Sec (decide (x = y) = false) := ⟨by rw [decide_eq_false_iff_not, hxy.out]; exact fun h => h0 h.1⟩
    have d0 : (x.status == y.status) = false := beq_eq_false_iff_ne.2 h0
    clear h0
    go_enter Tryz.func261, Tryz.ntmps261
    go_wp2
    go_ret
    exact ⟨rb hd.out.symm, (belA (belA (Below.refl _ _) _) _)⟩
def mTState : Mk TState := ⟨fun x => 1 + mSGoal.cnts x.goals + mBind.cnts x.binds + 1 + mTChoice.cnts x.choices + mCell.cnts x.top + mCell.cnts x.out, fun x k => ⟨k, mSGoal.mks x.goals (k + 1), mBind.mks x.binds (k + 1 + ((mSGoal.cnts x.goals : Nat) : Int)), k + 1 + ((mSGoal.cnts x.goals : Nat) : Int) + ((mBind.cnts x.binds : Nat) : Int), mTChoice.mks x.choices (k + 1 + ((mSGoal.cnts x.goals : Nat) : Int) + ((mBind.cnts x.binds : Nat) : Int) + 1), mCell.mks x.top (k + 1 + ((mSGoal.cnts x.goals : Nat) : Int) + ((mBind.cnts x.binds : Nat) : Int) + 1 + ((mTChoice.cnts x.choices : Nat) : Int)), mCell.mks x.out (k + 1 + ((mSGoal.cnts x.goals : Nat) : Int) + ((mBind.cnts x.binds : Nat) : Int) + 1 + ((mTChoice.cnts x.choices : Nat) : Int) + ((mCell.cnts x.top : Nat) : Int))⟩⟩
def mTStatet : Mk TState := ⟨fun x => mSGoal.cnts x.goals + mBind.cnts x.binds + mTChoice.cnts x.choices + mCell.cnts x.top + mCell.cnts x.out, fun x k => ⟨x.status, mSGoal.mks x.goals (k), mBind.mks x.binds (k + ((mSGoal.cnts x.goals : Nat) : Int)), x.vars, mTChoice.mks x.choices (k + ((mSGoal.cnts x.goals : Nat) : Int) + ((mBind.cnts x.binds : Nat) : Int)), mCell.mks x.top (k + ((mSGoal.cnts x.goals : Nat) : Int) + ((mBind.cnts x.binds : Nat) : Int) + ((mTChoice.cnts x.choices : Nat) : Int)), mCell.mks x.out (k + ((mSGoal.cnts x.goals : Nat) : Int) + ((mBind.cnts x.binds : Nat) : Int) + ((mTChoice.cnts x.choices : Nat) : Int) + ((mCell.cnts x.top : Nat) : Int))⟩⟩
end
end Go.Proofs.YtgiobpggonceeaaGreatDoor
