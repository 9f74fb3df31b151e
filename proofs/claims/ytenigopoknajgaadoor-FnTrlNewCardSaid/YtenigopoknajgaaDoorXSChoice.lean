/- What the exact laws' own functions do with the type SlvChoice: turned, sized, compared, marked, held. -/
import Derived.Test.YtenigopoknajgaaDoorXCell
import Derived.Test.YtenigopoknajgaaDoorXSGoal
import Derived.Test.YtenigopoknajgaaDoorXBind
namespace Go.Proofs.YtenigopoknajgaaDoor
open Go.RowKit
set_option linter.unusedVariables false
set_option maxRecDepth 100000
def kSChoice : Kd SChoice := Kd.iso 66 (Kd.pair (Kd.slice 25 kSGoal (by decide)) (Kd.pair (Kd.slice 26 kBind (by decide)) (Kd.pair (Kd.int 3) (Kd.pair (Kd.slice 23 kCell (by decide)) (Kd.int 3))))) (fun x => (x.goals, x.binds, x.vars, x.call, x.next))
theorem kSChoice_K {w : World} {ok : Nat → Prop} {x : SChoice} {cs : List Value} (h : kSChoice.K w ok x cs) : ∃ v0 v1 v3, cs = [v0, v1, .int .i64 x.vars, v3, .int .i64 x.next] ∧ kSGoal.V w ok v0 x.goals ∧ kBind.V w ok v1 x.binds ∧ kCell.V w ok v3 x.call := by
  obtain ⟨_, _, rfl, ⟨v0, rfl, h0⟩, ⟨_, _, rfl, ⟨v1, rfl, h1⟩, ⟨_, _, rfl, ⟨rfl, _⟩, ⟨_, _, rfl, ⟨v3, rfl, h3⟩, ⟨rfl, _⟩⟩⟩⟩⟩ := h
  exact ⟨v0, v1, v3, rfl, h0, h1, h3⟩
theorem SChoice.ext_iff (a b : SChoice) : a = b ↔ a.goals = b.goals ∧ a.binds = b.binds ∧ a.vars = b.vars ∧ a.call = b.call ∧ a.next = b.next := by
  cases a; cases b; simp
instance : DecidableEq SChoice := fun a b => decidable_of_iff _ (SChoice.ext_iff a b).symm
def zeroSChoice : SChoice := ⟨[], [], 0, [], 0⟩
theorem kSChoice_zero (w : World) : kSChoice.O w (fun _ => False) zeroSChoice [.slice none 0 0, .slice none 0 0, .int .i64 0, .slice none 0 0, .int .i64 0] := (Kd.O_pair0 (d := (Kd.slice 25 kSGoal (by decide))) (e := (Kd.pair (Kd.slice 26 kBind (by decide)) (Kd.pair (Kd.int 3) (Kd.pair (Kd.slice 23 kCell (by decide)) (Kd.int 3))))) ⟨_, rfl, Kd.R_nil _ _ _⟩ (Kd.O_pair0 (d := (Kd.slice 26 kBind (by decide))) (e := (Kd.pair (Kd.int 3) (Kd.pair (Kd.slice 23 kCell (by decide)) (Kd.int 3)))) ⟨_, rfl, Kd.R_nil _ _ _⟩ (Kd.O_pair0 (d := (Kd.int 3)) (e := (Kd.pair (Kd.slice 23 kCell (by decide)) (Kd.int 3))) ⟨rfl, trivial⟩ (Kd.O_pair0 (d := (Kd.slice 23 kCell (by decide))) (e := (Kd.int 3)) ⟨_, rfl, Kd.R_nil _ _ _⟩ ⟨rfl, trivial⟩))))
theorem kSChoice_f_goals : Kd.Fld kSChoice (Kd.slice 25 kSGoal (by decide)) 0 (fun x => x.goals) (fun x y => { x with goals := y }) := Kd.Fld.iso _ (Kd.Fld.fst (Kd.Fld.self _)) (fun _ _ => rfl)
theorem kSChoice_f_binds : Kd.Fld kSChoice (Kd.slice 26 kBind (by decide)) 1 (fun x => x.binds) (fun x y => { x with binds := y }) := Kd.Fld.iso _ (Kd.Fld.snd (Kd.Fld.fst (Kd.Fld.self _))) (fun _ _ => rfl)
theorem kSChoice_f_vars : Kd.Fld kSChoice (Kd.int 3) 2 (fun x => x.vars) (fun x y => { x with vars := y }) := Kd.Fld.iso _ (Kd.Fld.snd (Kd.Fld.snd (Kd.Fld.fst (Kd.Fld.self _)))) (fun _ _ => rfl)
theorem kSChoice_f_call : Kd.Fld kSChoice (Kd.slice 23 kCell (by decide)) 3 (fun x => x.call) (fun x y => { x with call := y }) := Kd.Fld.iso _ (Kd.Fld.snd (Kd.Fld.snd (Kd.Fld.snd (Kd.Fld.fst (Kd.Fld.self _))))) (fun _ _ => rfl)
theorem kSChoice_f_next : Kd.Fld kSChoice (Kd.int 3) 4 (fun x => x.next) (fun x y => { x with next := y }) := Kd.Fld.iso _ (Kd.Fld.snd (Kd.Fld.snd (Kd.Fld.snd (Kd.Fld.snd (Kd.Fld.self _))))) (fun _ _ => rfl)
set_option maxHeartbeats 2000000 in
theorem eqSlvChoice_c (x y : SChoice) (cs ds : List Value) (ok ok' : Nat → Prop) (w : World) (hK : kSChoice.K w ok x cs) (hD : kSChoice.K w ok' y ds) :
    Calls Tryd.prog 77 #[.agg cs.toArray, .agg ds.toArray] w fun e w' => e = .returned (.bool (decide (x = y))) ∧ Below w.heap.size w w' := by
  obtain ⟨_, _, rfl, ⟨v0, rfl, h0⟩, ⟨_, _, rfl, ⟨v1, rfl, h1⟩, ⟨_, _, rfl, ⟨rfl, _⟩, ⟨_, _, rfl, ⟨v3, rfl, h3⟩, ⟨rfl, _⟩⟩⟩⟩⟩ := hK
  have H0 := Sec.mk h0
  clear h0
  have H1 := Sec.mk h1
  clear h1
  have H3 := Sec.mk h3
  clear h3
  obtain ⟨_, _, rfl, ⟨u0, rfl, g0⟩, ⟨_, _, rfl, ⟨u1, rfl, g1⟩, ⟨_, _, rfl, ⟨rfl, _⟩, ⟨_, _, rfl, ⟨u3, rfl, g3⟩, ⟨rfl, _⟩⟩⟩⟩⟩ := hD
  have G0 := Sec.mk g0
  clear g0
  have G1 := Sec.mk g1
  clear g1
  have G3 := Sec.mk g3
  clear g3
  have hu := Tryd.underlying66
  have hxy := Sec.mk (SChoice.ext_iff x y)
  have T0 : Sec True := ⟨trivial⟩
  by_cases h0 : x.goals = y.goals
  · have E0 := Sec.mk h0
    have d0 : decide (x.goals = y.goals) = true := decide_eq_true h0
    clear h0
    by_cases h1 : x.binds = y.binds
    · have E1 := Sec.mk h1
      have d1 : decide (x.binds = y.binds) = true := decide_eq_true h1
      clear h1
      by_cases h2 : x.vars = y.vars
      · have E2 := Sec.mk h2
        have d2 : (x.vars == y.vars) = true := beq_iff_eq.2 h2
        clear h2
        by_cases h3 : x.call = y.call
        · have E3 := Sec.mk h3
          have d3 : decide (x.call = y.call) = true := decide_eq_true h3
          clear h3
          by_cases h4 : x.next = y.next
          · have E4 := Sec.mk h4
            have d4 : (x.next == y.next) = true := beq_iff_eq.2 h4
            clear h4
            have hd : Sec (decide (x = y) = true) := ⟨by rw [decide_eq_true_eq, hxy.out]; exact ⟨E0.out, E1.out, E2.out, E3.out, E4.out⟩⟩
            go_enter Tryd.func77, Tryd.ntmps77
            go_wp2_with (first | (clear T2; go_at_call 17; have T3 : Sec True := ⟨trivial⟩; refine (eqSCell_c v3 u3 x.call y.call ok ok' _ (Kd.V_below H3.out B2.out (by decide)) (Kd.V_below G3.out B2.out (by decide))).mono ?_; rintro e w3 ⟨rfl, hb1⟩; rw [d3]; have B3 := Sec.mk (bel B2.out hb1); have X := box_cells (b := w.heap.size) (cs := #[v0, v1, .int .i64 x.vars, v3, .int .i64 x.next]) (t := 66) hb1 P2.out.1; have p3_3 := X.2.1 3 _ rfl; have p3_4 := X.2.1 4 _ rfl; have P3 := Sec.mk X; clear X; have X := box_cells (b := w.heap.size + 1) (cs := #[u0, u1, .int .i64 y.vars, u3, .int .i64 y.next]) (t := 66) hb1 Q2.out.1; have q3_3 := X.2.1 3 _ rfl; have q3_4 := X.2.1 4 _ rfl; have Q3 := Sec.mk X; clear X hb1) | (clear T1; go_at_call 40; have T2 : Sec True := ⟨trivial⟩; refine (eqSBind_c v1 u1 x.binds y.binds ok ok' _ (Kd.V_below H1.out B1.out (by decide)) (Kd.V_below G1.out B1.out (by decide))).mono ?_; rintro e w2 ⟨rfl, hb1⟩; rw [d1]; have B2 := Sec.mk (bel B1.out hb1); have X := box_cells (b := w.heap.size) (cs := #[v0, v1, .int .i64 x.vars, v3, .int .i64 x.next]) (t := 66) hb1 P1.out.1; have p2_1 := X.2.1 1 _ rfl; have p2_2 := X.2.1 2 _ rfl; have p2_3 := X.2.1 3 _ rfl; have p2_4 := X.2.1 4 _ rfl; have P2 := Sec.mk X; clear X; have X := box_cells (b := w.heap.size + 1) (cs := #[u0, u1, .int .i64 y.vars, u3, .int .i64 y.next]) (t := 66) hb1 Q1.out.1; have q2_1 := X.2.1 1 _ rfl; have q2_2 := X.2.1 2 _ rfl; have q2_3 := X.2.1 3 _ rfl; have q2_4 := X.2.1 4 _ rfl; have Q2 := Sec.mk X; clear X hb1) | (clear T0; go_at_call 39; have T1 : Sec True := ⟨trivial⟩; refine (eqSSGoal_c v0 u0 x.goals y.goals ok ok' _ (Kd.V_below H0.out (belA (belA (Below.refl _ _) _) _) (by decide)) (Kd.V_below G0.out (belA (belA (Below.refl _ _) _) _) (by decide))).mono ?_; rintro e w1 ⟨rfl, hb1⟩; rw [d0]; have B1 := Sec.mk (bel (belA (belA (Below.refl _ _) _) _) hb1); have X := box_cells (b := w.heap.size) (cs := #[v0, v1, .int .i64 x.vars, v3, .int .i64 x.next]) (t := 66) hb1 (box2 _ _ _).1; have p1_0 := X.2.1 0 _ rfl; have p1_1 := X.2.1 1 _ rfl; have p1_2 := X.2.1 2 _ rfl; have p1_3 := X.2.1 3 _ rfl; have p1_4 := X.2.1 4 _ rfl; have P1 := Sec.mk X; clear X; have X := box_cells (b := w.heap.size + 1) (cs := #[u0, u1, .int .i64 y.vars, u3, .int .i64 y.next]) (t := 66) hb1 (box2 _ _ _).2; have q1_0 := X.2.1 0 _ rfl; have q1_1 := X.2.1 1 _ rfl; have q1_2 := X.2.1 2 _ rfl; have q1_3 := X.2.1 3 _ rfl; have q1_4 := X.2.1 4 _ rfl; have Q1 := Sec.mk X; clear X hb1))
            go_ret
            exact ⟨rb hd.out.symm, B3.out⟩
          · have hd : Sec (decide (x = y) = false) := ⟨by rw [decide_eq_false_iff_not, hxy.out]; exact fun h => h4 h.2.2.2.2⟩
            have d4 : (x.next == y.next) = false := beq_eq_false_iff_ne.2 h4
            clear h4
            go_enter Tryd.func77, Tryd.ntmps77
            go_wp2_with (first | (clear T2; go_at_call 17; have T3 : Sec True := ⟨trivial⟩; refine (eqSCell_c v3 u3 x.call y.call ok ok' _ (Kd.V_below H3.out B2.out (by decide)) (Kd.V_below G3.out B2.out (by decide))).mono ?_; rintro e w3 ⟨rfl, hb1⟩; rw [d3]; have B3 := Sec.mk (bel B2.out hb1); have X := box_cells (b := w.heap.size) (cs := #[v0, v1, .int .i64 x.vars, v3, .int .i64 x.next]) (t := 66) hb1 P2.out.1; have p3_3 := X.2.1 3 _ rfl; have p3_4 := X.2.1 4 _ rfl; have P3 := Sec.mk X; clear X; have X := box_cells (b := w.heap.size + 1) (cs := #[u0, u1, .int .i64 y.vars, u3, .int .i64 y.next]) (t := 66) hb1 Q2.out.1; have q3_3 := X.2.1 3 _ rfl; have q3_4 := X.2.1 4 _ rfl; have Q3 := Sec.mk X; clear X hb1) | (clear T1; go_at_call 40; have T2 : Sec True := ⟨trivial⟩; refine (eqSBind_c v1 u1 x.binds y.binds ok ok' _ (Kd.V_below H1.out B1.out (by decide)) (Kd.V_below G1.out B1.out (by decide))).mono ?_; rintro e w2 ⟨rfl, hb1⟩; rw [d1]; have B2 := Sec.mk (bel B1.out hb1); have X := box_cells (b := w.heap.size) (cs := #[v0, v1, .int .i64 x.vars, v3, .int .i64 x.next]) (t := 66) hb1 P1.out.1; have p2_1 := X.2.1 1 _ rfl; have p2_2 := X.2.1 2 _ rfl; have p2_3 := X.2.1 3 _ rfl; have p2_4 := X.2.1 4 _ rfl; have P2 := Sec.mk X; clear X; have X := box_cells (b := w.heap.size + 1) (cs := #[u0, u1, .int .i64 y.vars, u3, .int .i64 y.next]) (t := 66) hb1 Q1.out.1; have q2_1 := X.2.1 1 _ rfl; have q2_2 := X.2.1 2 _ rfl; have q2_3 := X.2.1 3 _ rfl; have q2_4 := X.2.1 4 _ rfl; have Q2 := Sec.mk X; clear X hb1) | (clear T0; go_at_call 39; have T1 : Sec True := ⟨trivial⟩; refine (eqSSGoal_c v0 u0 x.goals y.goals ok ok' _ (Kd.V_below H0.out (belA (belA (Below.refl _ _) _) _) (by decide)) (Kd.V_below G0.out (belA (belA (Below.refl _ _) _) _) (by decide))).mono ?_; rintro e w1 ⟨rfl, hb1⟩; rw [d0]; have B1 := Sec.mk (bel (belA (belA (Below.refl _ _) _) _) hb1); have X := box_cells (b := w.heap.size) (cs := #[v0, v1, .int .i64 x.vars, v3, .int .i64 x.next]) (t := 66) hb1 (box2 _ _ _).1; have p1_0 := X.2.1 0 _ rfl; have p1_1 := X.2.1 1 _ rfl; have p1_2 := X.2.1 2 _ rfl; have p1_3 := X.2.1 3 _ rfl; have p1_4 := X.2.1 4 _ rfl; have P1 := Sec.mk X; clear X; have X := box_cells (b := w.heap.size + 1) (cs := #[u0, u1, .int .i64 y.vars, u3, .int .i64 y.next]) (t := 66) hb1 (box2 _ _ _).2; have q1_0 := X.2.1 0 _ rfl; have q1_1 := X.2.1 1 _ rfl; have q1_2 := X.2.1 2 _ rfl; have q1_3 := X.2.1 3 _ rfl; have q1_4 := X.2.1 4 _ rfl; have Q1 := Sec.mk X; clear X hb1))
            go_ret
            exact ⟨rb hd.out.symm, B3.out⟩
        · have hd : Sec (decide (x = y) = false) := ⟨by rw [decide_eq_false_iff_not, hxy.out]; exact fun h => h3 h.2.2.2.1⟩
          have d3 : decide (x.call = y.call) = false := decide_eq_false h3
          clear h3
          go_enter Tryd.func77, Tryd.ntmps77
          go_wp2_with (first | (clear T2; go_at_call 17; have T3 : Sec True := ⟨trivial⟩; refine (eqSCell_c v3 u3 x.call y.call ok ok' _ (Kd.V_below H3.out B2.out (by decide)) (Kd.V_below G3.out B2.out (by decide))).mono ?_; rintro e w3 ⟨rfl, hb1⟩; rw [d3]; have B3 := Sec.mk (bel B2.out hb1); have X := box_cells (b := w.heap.size) (cs := #[v0, v1, .int .i64 x.vars, v3, .int .i64 x.next]) (t := 66) hb1 P2.out.1; have p3_3 := X.2.1 3 _ rfl; have p3_4 := X.2.1 4 _ rfl; have P3 := Sec.mk X; clear X; have X := box_cells (b := w.heap.size + 1) (cs := #[u0, u1, .int .i64 y.vars, u3, .int .i64 y.next]) (t := 66) hb1 Q2.out.1; have q3_3 := X.2.1 3 _ rfl; have q3_4 := X.2.1 4 _ rfl; have Q3 := Sec.mk X; clear X hb1) | (clear T1; go_at_call 40; have T2 : Sec True := ⟨trivial⟩; refine (eqSBind_c v1 u1 x.binds y.binds ok ok' _ (Kd.V_below H1.out B1.out (by decide)) (Kd.V_below G1.out B1.out (by decide))).mono ?_; rintro e w2 ⟨rfl, hb1⟩; rw [d1]; have B2 := Sec.mk (bel B1.out hb1); have X := box_cells (b := w.heap.size) (cs := #[v0, v1, .int .i64 x.vars, v3, .int .i64 x.next]) (t := 66) hb1 P1.out.1; have p2_1 := X.2.1 1 _ rfl; have p2_2 := X.2.1 2 _ rfl; have p2_3 := X.2.1 3 _ rfl; have p2_4 := X.2.1 4 _ rfl; have P2 := Sec.mk X; clear X; have X := box_cells (b := w.heap.size + 1) (cs := #[u0, u1, .int .i64 y.vars, u3, .int .i64 y.next]) (t := 66) hb1 Q1.out.1; have q2_1 := X.2.1 1 _ rfl; have q2_2 := X.2.1 2 _ rfl; have q2_3 := X.2.1 3 _ rfl; have q2_4 := X.2.1 4 _ rfl; have Q2 := Sec.mk X; clear X hb1) | (clear T0; go_at_call 39; have T1 : Sec True := ⟨trivial⟩; refine (eqSSGoal_c v0 u0 x.goals y.goals ok ok' _ (Kd.V_below H0.out (belA (belA (Below.refl _ _) _) _) (by decide)) (Kd.V_below G0.out (belA (belA (Below.refl _ _) _) _) (by decide))).mono ?_; rintro e w1 ⟨rfl, hb1⟩; rw [d0]; have B1 := Sec.mk (bel (belA (belA (Below.refl _ _) _) _) hb1); have X := box_cells (b := w.heap.size) (cs := #[v0, v1, .int .i64 x.vars, v3, .int .i64 x.next]) (t := 66) hb1 (box2 _ _ _).1; have p1_0 := X.2.1 0 _ rfl; have p1_1 := X.2.1 1 _ rfl; have p1_2 := X.2.1 2 _ rfl; have p1_3 := X.2.1 3 _ rfl; have p1_4 := X.2.1 4 _ rfl; have P1 := Sec.mk X; clear X; have X := box_cells (b := w.heap.size + 1) (cs := #[u0, u1, .int .i64 y.vars, u3, .int .i64 y.next]) (t := 66) hb1 (box2 _ _ _).2; have q1_0 := X.2.1 0 _ rfl; have q1_1 := X.2.1 1 _ rfl; have q1_2 := X.2.1 2 _ rfl; have q1_3 := X.2.1 3 _ rfl; have q1_4 := X.2.1 4 _ rfl; have Q1 := Sec.mk X; clear X hb1))
          go_ret
          exact ⟨rb hd.out.symm, B3.out⟩
      · have hd : Sec (decide (x = y) = false) := ⟨by rw [decide_eq_false_iff_not, hxy.out]; exact fun h => h2 h.2.2.1⟩
        have d2 : (x.vars == y.vars) = false := beq_eq_false_iff_ne.2 h2
        clear h2
        go_enter Tryd.func77, Tryd.ntmps77
        go_wp2_with (first | (clear T1; go_at_call 40; have T2 : Sec True := ⟨trivial⟩; refine (eqSBind_c v1 u1 x.binds y.binds ok ok' _ (Kd.V_below H1.out B1.out (by decide)) (Kd.V_below G1.out B1.out (by decide))).mono ?_; rintro e w2 ⟨rfl, hb1⟩; rw [d1]; have B2 := Sec.mk (bel B1.out hb1); have X := box_cells (b := w.heap.size) (cs := #[v0, v1, .int .i64 x.vars, v3, .int .i64 x.next]) (t := 66) hb1 P1.out.1; have p2_1 := X.2.1 1 _ rfl; have p2_2 := X.2.1 2 _ rfl; have p2_3 := X.2.1 3 _ rfl; have p2_4 := X.2.1 4 _ rfl; have P2 := Sec.mk X; clear X; have X := box_cells (b := w.heap.size + 1) (cs := #[u0, u1, .int .i64 y.vars, u3, .int .i64 y.next]) (t := 66) hb1 Q1.out.1; have q2_1 := X.2.1 1 _ rfl; have q2_2 := X.2.1 2 _ rfl; have q2_3 := X.2.1 3 _ rfl; have q2_4 := X.2.1 4 _ rfl; have Q2 := Sec.mk X; clear X hb1) | (clear T0; go_at_call 39; have T1 : Sec True := ⟨trivial⟩; refine (eqSSGoal_c v0 u0 x.goals y.goals ok ok' _ (Kd.V_below H0.out (belA (belA (Below.refl _ _) _) _) (by decide)) (Kd.V_below G0.out (belA (belA (Below.refl _ _) _) _) (by decide))).mono ?_; rintro e w1 ⟨rfl, hb1⟩; rw [d0]; have B1 := Sec.mk (bel (belA (belA (Below.refl _ _) _) _) hb1); have X := box_cells (b := w.heap.size) (cs := #[v0, v1, .int .i64 x.vars, v3, .int .i64 x.next]) (t := 66) hb1 (box2 _ _ _).1; have p1_0 := X.2.1 0 _ rfl; have p1_1 := X.2.1 1 _ rfl; have p1_2 := X.2.1 2 _ rfl; have p1_3 := X.2.1 3 _ rfl; have p1_4 := X.2.1 4 _ rfl; have P1 := Sec.mk X; clear X; have X := box_cells (b := w.heap.size + 1) (cs := #[u0, u1, .int .i64 y.vars, u3, .int .i64 y.next]) (t := 66) hb1 (box2 _ _ _).2; have q1_0 := X.2.1 0 _ rfl; have q1_1 := X.2.1 1 _ rfl; have q1_2 := X.2.1 2 _ rfl; have q1_3 := X.2.1 3 _ rfl; have q1_4 := X.2.1 4 _ rfl; have Q1 := Sec.mk X; clear X hb1))
        go_ret
        exact ⟨rb hd.out.symm, B2.out⟩
    · have hd : Sec (decide (x = y) = false) := ⟨by rw [decide_eq_false_iff_not, hxy.out]; exact fun h => h1 h.2.1⟩
      have d1 : decide (x.binds = y.binds) = false := decide_eq_false h1
      clear h1
      go_enter Tryd.func77, Tryd.ntmps77
      go_wp2_with (first | (clear T1; go_at_call 40; have T2 : Sec True := ⟨trivial⟩; refine (eqSBind_c v1 u1 x.binds y.binds ok ok' _ (Kd.V_below H1.out B1.out (by decide)) (Kd.V_below G1.out B1.out (by decide))).mono ?_; rintro e w2 ⟨rfl, hb1⟩; rw [d1]; have B2 := Sec.mk (bel B1.out hb1); have X := box_cells (b := w.heap.size) (cs := #[v0, v1, .int .i64 x.vars, v3, .int .i64 x.next]) (t := 66) hb1 P1.out.1; have p2_1 := X.2.1 1 _ rfl; have p2_2 := X.2.1 2 _ rfl; have p2_3 := X.2.1 3 _ rfl; have p2_4 := X.2.1 4 _ rfl; have P2 := Sec.mk X; clear X; have X := box_cells (b := w.heap.size + 1) (cs := #[u0, u1, .int .i64 y.vars, u3, .int .i64 y.next]) (t := 66) hb1 Q1.out.1; have q2_1 := X.2.1 1 _ rfl; have q2_2 := X.2.1 2 _ rfl; have q2_3 := X.2.1 3 _ rfl; have q2_4 := X.2.1 4 _ rfl; have Q2 := Sec.mk X; clear X hb1) | (clear T0; go_at_call 39; have T1 : Sec True := ⟨trivial⟩; refine (eqSSGoal_c v0 u0 x.goals y.goals ok ok' _ (Kd.V_below H0.out (belA (belA (Below.refl _ _) _) _) (by decide)) (Kd.V_below G0.out (belA (belA (Below.refl _ _) _) _) (by decide))).mono ?_; rintro e w1 ⟨rfl, hb1⟩; rw [d0]; have B1 := Sec.mk (bel (belA (belA (Below.refl _ _) _) _) hb1); have X := box_cells (b := w.heap.size) (cs := #[v0, v1, .int .i64 x.vars, v3, .int .i64 x.next]) (t := 66) hb1 (box2 _ _ _).1; have p1_0 := X.2.1 0 _ rfl; have p1_1 := X.2.1 1 _ rfl; have p1_2 := X.2.1 2 _ rfl; have p1_3 := X.2.1 3 _ rfl; have p1_4 := X.2.1 4 _ rfl; have P1 := Sec.mk X; clear X; have X := box_cells (b := w.heap.size + 1) (cs := #[u0, u1, .int .i64 y.vars, u3, .int .i64 y.next]) (t := 66) hb1 (box2 _ _ _).2; have q1_0 := X.2.1 0 _ rfl; have q1_1 := X.2.1 1 _ rfl; have q1_2 := X.2.1 2 _ rfl; have q1_3 := X.2.1 3 _ rfl; have q1_4 := X.2.1 4 _ rfl; have Q1 := Sec.mk X; clear X hb1))
      go_ret
      exact ⟨rb hd.out.symm, B2.out⟩
  · have hd : Sec (decide (x = y) = false) := ⟨by rw [decide_eq_false_iff_not, hxy.out]; exact fun h => h0 h.1⟩
    have d0 : decide (x.goals = y.goals) = false := decide_eq_false h0
    clear h0
    go_enter Tryd.func77, Tryd.ntmps77
    go_wp2_with (first | (clear T0; go_at_call 39; have T1 : Sec True := ⟨trivial⟩; refine (eqSSGoal_c v0 u0 x.goals y.goals ok ok' _ (Kd.V_below H0.out (belA (belA (Below.refl _ _) _) _) (by decide)) (Kd.V_below G0.out (belA (belA (Below.refl _ _) _) _) (by decide))).mono ?_; rintro e w1 ⟨rfl, hb1⟩; rw [d0]; have B1 := Sec.mk (bel (belA (belA (Below.refl _ _) _) _) hb1); have X := box_cells (b := w.heap.size) (cs := #[v0, v1, .int .i64 x.vars, v3, .int .i64 x.next]) (t := 66) hb1 (box2 _ _ _).1; have p1_0 := X.2.1 0 _ rfl; have p1_1 := X.2.1 1 _ rfl; have p1_2 := X.2.1 2 _ rfl; have p1_3 := X.2.1 3 _ rfl; have p1_4 := X.2.1 4 _ rfl; have P1 := Sec.mk X; clear X; have X := box_cells (b := w.heap.size + 1) (cs := #[u0, u1, .int .i64 y.vars, u3, .int .i64 y.next]) (t := 66) hb1 (box2 _ _ _).2; have q1_0 := X.2.1 0 _ rfl; have q1_1 := X.2.1 1 _ rfl; have q1_2 := X.2.1 2 _ rfl; have q1_3 := X.2.1 3 _ rfl; have q1_4 := X.2.1 4 _ rfl; have Q1 := Sec.mk X; clear X hb1))
    go_ret
    exact ⟨rb hd.out.symm, B1.out⟩
set_option maxHeartbeats 2000000 in
theorem eqSSChoice_c (v u : Value) (t s : List SChoice) (ok ok' : Nat → Prop) (w : World) (hV : kSChoice.V w ok v t) (hU : kSChoice.V w ok' u s) :
    Calls Tryd.prog 53 #[v, u] w fun e w' => e = .returned (.bool (decide (t = s))) ∧ Below w.heap.size w w' := by
  obtain ⟨A, c, rfl, h1, h2, h3, hC, _⟩ := hV
  obtain ⟨B, d, rfl, k1, k2, k3, hD, _⟩ := hU
  have HC := Sec.mk hC
  have HD := Sec.mk hD
  clear hC hD
  have hu := Tryd.underlying66
  by_cases hl : t.length = s.length
  · rw [← hl]
    have HL := Sec.mk hl
    clear hl
    go_enter Tryd.func53, Tryd.ntmps53
    go_wp2
    go_loopw [5] (fun i wr => ∃ k : Nat, k ≤ t.length ∧ i = .int .i64 k ∧ Sec (t.take k = s.take k) ∧ Sec (Below w.heap.size w wr)) (fun i _ => t.length - (intOf i).toNat)
    case atStart => exact ⟨0, Nat.zero_le _, rfl, ⟨by simp⟩, ⟨Below.refl _ _⟩⟩
    case round =>
      obtain ⟨k, hk, rfl, hT, hb⟩ := hrel
      by_cases hlt : k < t.length
      · have hlt2 : k < s.length := by have := HL.out; omega
        obtain ⟨b, off, cs, rfl, hob, hK, hc⟩ := Kd.C_get HC.out (List.getElem?_eq_getElem hlt)
        obtain ⟨b2, off2, cs2, rfl, hob2, hK2, hc2⟩ := Kd.C_get HD.out (List.getElem?_eq_getElem hlt2)
        have hT1 : Sec (t[k] = s[k] → t.take (k + 1) = s.take (k + 1)) := ⟨fun e => by rw [List.take_succ_eq_append_getElem hlt, List.take_succ_eq_append_getElem hlt2, hT.out, e]⟩
        have hT2 : Sec (t = s → t[k] = s[k]) := ⟨fun e => by subst e; rfl⟩
        generalize t[k] = x at *
        generalize s[k] = y at *
        have HK := Sec.mk hK
        have HK2 := Sec.mk hK2
        obtain ⟨v0, v1, v3, rfl, -, -, -⟩ := kSChoice_K hK
        obtain ⟨u0, u1, u3, rfl, -, -, -⟩ := kSChoice_K hK2
        have hat : Sec (∀ W : World, Below w.heap.size w W → W.cell? ⟨b, off + k * 5, none⟩ = some (v0) ∧ W.cell? ⟨b, off + k * 5 + 1, none⟩ = some (v1) ∧ W.cell? ⟨b, off + k * 5 + 2, none⟩ = some (.int .i64 x.vars) ∧ W.cell? ⟨b, off + k * 5 + 3, none⟩ = some (v3) ∧ W.cell? ⟨b, off + k * 5 + 4, none⟩ = some (.int .i64 x.next) ∧ W.cell? ⟨b2, off2 + k * 5, none⟩ = some (u0) ∧ W.cell? ⟨b2, off2 + k * 5 + 1, none⟩ = some (u1) ∧ W.cell? ⟨b2, off2 + k * 5 + 2, none⟩ = some (.int .i64 y.vars) ∧ W.cell? ⟨b2, off2 + k * 5 + 3, none⟩ = some (u3) ∧ W.cell? ⟨b2, off2 + k * 5 + 4, none⟩ = some (.int .i64 y.next)) := ⟨fun W h => ⟨Raw.cell_below h (hc 0 _ rfl), Raw.cell_below h (hc 1 _ rfl), Raw.cell_below h (hc 2 _ rfl), Raw.cell_below h (hc 3 _ rfl), Raw.cell_below h (hc 4 _ rfl), Raw.cell_below h (hc2 0 _ rfl), Raw.cell_below h (hc2 1 _ rfl), Raw.cell_below h (hc2 2 _ rfl), Raw.cell_below h (hc2 3 _ rfl), Raw.cell_below h (hc2 4 _ rfl)⟩⟩
        clear hc hc2 hK hK2
        obtain ⟨x0, x1, x2, x3, x4, y0, y1, y2, y3, y4⟩ := hat.out _ hb.out
        have i0 : (0 : Int) ≤ (k : Int) := by omega
        have i1 : (k : Int) < (t.length : Int) := by omega
        obtain ⟨bb, hbb⟩ : ∃ bb, decide (x = y) = bb := ⟨_, rfl⟩
        have Hc : Sec (∀ W, Below w.heap.size w W → Calls Tryd.prog 77 #[.agg #[v0, v1, .int .i64 x.vars, v3, .int .i64 x.next], .agg #[u0, u1, .int .i64 y.vars, u3, .int .i64 y.next]] W fun e w' => e = .returned (.bool bb) ∧ Below W.heap.size W w') := ⟨fun W hB => by rw [← hbb]; exact eqSlvChoice_c x y _ _ ok ok' W (Kd.K_below HK.out hB) (Kd.K_below HK2.out hB)⟩
        have HBB := Sec.mk hbb
        clear hbb
        go_wp2
        go_region_held3 (fun W => W.cell? ⟨b, off + k * 5, none⟩ = some (v0) ∧ W.cell? ⟨b, off + k * 5 + 1, none⟩ = some (v1) ∧ W.cell? ⟨b, off + k * 5 + 2, none⟩ = some (.int .i64 x.vars) ∧ W.cell? ⟨b, off + k * 5 + 3, none⟩ = some (v3) ∧ W.cell? ⟨b, off + k * 5 + 4, none⟩ = some (.int .i64 x.next) ∧ W.cell? ⟨b2, off2 + k * 5, none⟩ = some (u0) ∧ W.cell? ⟨b2, off2 + k * 5 + 1, none⟩ = some (u1) ∧ W.cell? ⟨b2, off2 + k * 5 + 2, none⟩ = some (.int .i64 y.vars) ∧ W.cell? ⟨b2, off2 + k * 5 + 3, none⟩ = some (u3) ∧ W.cell? ⟨b2, off2 + k * 5 + 4, none⟩ = some (.int .i64 y.next))
          (first | (refine ⟨?_, ?_, ?_, ?_, ?_, ?_, ?_, ?_, ?_, ?_⟩ <;> assumption) | go_keep)
          (first | (go_at_call 77; refine (Hc.out _ (belD hb.out)).mono ?_; rintro e w1 ⟨rfl, hb1⟩; have B1 := Sec.mk (bel (belD hb.out) hb1); clear x0 x1 x2 x3 x4 y0 y1 y2 y3 y4; obtain ⟨x0, x1, x2, x3, x4, y0, y1, y2, y3, y4⟩ := hat.out _ B1.out; clear hb1))
        all_goals
          cases bb with
          | true =>
            have HE : Sec (t.take (k + 1) = s.take (k + 1)) := ⟨hT1.out (of_decide_eq_true HBB.out)⟩
            go_wp2
            go_roundw
            case rel => exact ⟨k + 1, by omega, by go_num, HE, B1⟩
            case measure => simp [intOf]; omega
          | false =>
            have HE : Sec (decide (t = s) = false) := ⟨decide_eq_false (fun e => of_decide_eq_false HBB.out (hT2.out e))⟩
            go_wp2
            go_ret
            exact ⟨rb HE.out.symm, B1.out⟩
      · have HE : Sec (decide (t = s) = true) := ⟨decide_eq_true (by have := hT.out; have h2 := HL.out; rwa [List.take_of_length_le (by omega), List.take_of_length_le (by omega)] at this)⟩
        go_wp2
        go_ret
        exact ⟨rb HE.out.symm, hb.out⟩
  · have hl' : ((t.length : Int) == (s.length : Int)) = false := beq_eq_false_iff_ne.2 (by omega)
    have HE : Sec (decide (t = s) = false) := ⟨decide_eq_false (fun e => hl (by rw [e]))⟩
    go_enter Tryd.func53, Tryd.ntmps53
    go_wp2
    go_ret
    exact ⟨rb HE.out.symm, Below.refl _ _⟩
def mSChoice : Mk SChoice := ⟨fun x => mSGoal.cnts x.goals + mBind.cnts x.binds + 1 + mCell.cnts x.call + 1, fun x k => ⟨mSGoal.mks x.goals (k), mBind.mks x.binds (k + ((mSGoal.cnts x.goals : Nat) : Int)), k + ((mSGoal.cnts x.goals : Nat) : Int) + ((mBind.cnts x.binds : Nat) : Int), mCell.mks x.call (k + ((mSGoal.cnts x.goals : Nat) : Int) + ((mBind.cnts x.binds : Nat) : Int) + 1), k + ((mSGoal.cnts x.goals : Nat) : Int) + ((mBind.cnts x.binds : Nat) : Int) + 1 + ((mCell.cnts x.call : Nat) : Int)⟩⟩
theorem mSChoice_cnt (x : SChoice) : mSChoice.cnt x = mSGoal.cnts x.goals + mBind.cnts x.binds + 1 + mCell.cnts x.call + 1 := rfl
set_option maxHeartbeats 2000000 in
theorem markSSChoice_c (v : Value) (t : List SChoice) (S : Nat → Prop) (k : Int) (hk : 0 ≤ k) (hk2 : k + mSChoice.cnts t ≤ 1000000000000000000) (w : World) (hR : kSChoice.R w S v t) :
    Calls Tryd.prog 54 #[v, .int .i64 k] w fun e w' => e = .returned (.int .i64 (k + mSChoice.cnts t)) ∧ kSChoice.R w' S v (mSChoice.mks t k) ∧ Foot S w w' := by
  obtain ⟨A, cp, hv, g1, g2⟩ := Kd.R_form hR
  subst hv
  have h3 : t.length ≤ 1073741824 := hR.1
  have HR := Sec.mk hR
  have hu := Tryd.underlying66
  clear hR
  have HN := Sec.mk (mSChoice.cnts_take t)
  have HM := Sec.mk (mSChoice.cnts_le t)
  have HX := Sec.mk (mSChoice.next t k)
  go_enter Tryd.func54, Tryd.ntmps54
  go_wp2
  go_loopw [1, 5] (fun kv iv wr => ∃ i : Nat, i ≤ t.length ∧ iv = .int .i64 i ∧ kv = .int .i64 (k + ↑(mSChoice.cnts (t.take i))) ∧ Sec (kSChoice.R wr S (.slice A t.length cp) (mSChoice.mks (t.take i) k ++ t.drop i)) ∧ Sec (Foot S w wr)) (fun _ iv _ => t.length - (intOf iv).toNat)
  case atStart => exact ⟨0, Nat.zero_le _, rfl, by simp [Mk.cnts], ⟨by simpa [Mk.mks] using HR.out⟩, ⟨Foot.refl _ _⟩⟩
  case round =>
    obtain ⟨i, hi, rfl, rfl, hM, hF⟩ := hrel
    by_cases hlt : i < t.length
    · have hL : (mSChoice.mks (t.take i) k ++ t.drop i).length = t.length := mSChoice.len_ t k i
      have hil : i < (mSChoice.mks (t.take i) k ++ t.drop i).length := by omega
      obtain ⟨b, rfl, -, hSb, hbb, -⟩ := Kd.R_block hM.out (by omega)
      obtain ⟨cs, hA, -⟩ := Kd.At.of_R hM.out hil
      rw [mSChoice.at_ t k i hlt] at hA
      have hnext := Sec.mk (HX.out i hlt)
      have hn1 := HN.out i hlt
      have hn2 := HM.out (i + 1)
      rw [hn1] at hn2
      have HN1 := Sec.mk hn1
      have F0 := hF
      clear hM hn1 hL
      generalize mSChoice.mks (t.take i) k ++ t.drop i = L at *
      generalize t[i] = x at *
      generalize mSChoice.cnts (t.take i) = c at *
      have hcx : Sec (mSChoice.cnt x = _) := ⟨mSChoice_cnt x⟩
      rw [mSChoice_cnt x] at hn2
      have hAt := hA
      obtain ⟨v0, v1, v3, rfl, -, -, -⟩ := kSChoice_K hA.K
      have A0 := Sec.mk hA
      clear hA hAt
      have c0_0 : wr.cell? ⟨b, i * 5, none⟩ = some (v0) := Kd.At.cell A0.out 0 _ rfl
      have c0_1 : wr.cell? ⟨b, i * 5 + 1, none⟩ = some (v1) := Kd.At.cell A0.out 1 _ rfl
      have c0_2 : wr.cell? ⟨b, i * 5 + 2, none⟩ = some (.int .i64 x.vars) := Kd.At.cell A0.out 2 _ rfl
      have c0_3 : wr.cell? ⟨b, i * 5 + 3, none⟩ = some (v3) := Kd.At.cell A0.out 3 _ rfl
      have c0_4 : wr.cell? ⟨b, i * 5 + 4, none⟩ = some (.int .i64 x.next) := Kd.At.cell A0.out 4 _ rfl
      have f0_0 : wr.frozen? ⟨b, i * 5, none⟩ = false := Kd.At.frozen A0.out (i * 5)
      have f0_1 : wr.frozen? ⟨b, i * 5 + 1, none⟩ = false := Kd.At.frozen A0.out (i * 5 + 1)
      have f0_2 : wr.frozen? ⟨b, i * 5 + 2, none⟩ = false := Kd.At.frozen A0.out (i * 5 + 2)
      have f0_3 : wr.frozen? ⟨b, i * 5 + 3, none⟩ = false := Kd.At.frozen A0.out (i * 5 + 3)
      have f0_4 : wr.frozen? ⟨b, i * 5 + 4, none⟩ = false := Kd.At.frozen A0.out (i * 5 + 4)
      obtain ⟨S0, r0, hs0, bk0⟩ := Kd.At.sub A0.out kSChoice_f_goals (v := v0) rfl
      have SR0 := Sec.mk r0
      have SS0 := Sec.mk hs0
      have BK0 := Sec.mk bk0
      clear r0 hs0 bk0
      have T0 : Sec True := ⟨trivial⟩
      go_wp2_with (first | (clear T2; go_at_call 18; have T3 : Sec True := ⟨trivial⟩; refine (markSCell_c v3 x.call S3 (k + (c : Int) + ((mSGoal.cnts x.goals : Nat) : Int) + ((mBind.cnts x.binds : Nat) : Int) + 1) (by omega) (by omega) _ SR3.out).mono ?_; rintro e w3 ⟨rfl, hR', hF'⟩; have A4 : Sec (Kd.At kSChoice w3 S b t.length cp L i ⟨(mSGoal.mks x.goals (k + (c : Int))), (mBind.mks x.binds (k + (c : Int) + ((mSGoal.cnts x.goals : Nat) : Int))), k + (c : Int) + ((mSGoal.cnts x.goals : Nat) : Int) + ((mBind.cnts x.binds : Nat) : Int), (mCell.mks x.call (k + (c : Int) + ((mSGoal.cnts x.goals : Nat) : Int) + ((mBind.cnts x.binds : Nat) : Int) + 1)), x.next⟩ [v0, v1, .int .i64 (k + (c : Int) + ((mSGoal.cnts x.goals : Nat) : Int) + ((mBind.cnts x.binds : Nat) : Int)), v3, .int .i64 x.next]) := ⟨BK3.out w3 _ hR' hF'⟩; have F4 : Sec (Foot S w w3) := ⟨F3.out.trans hF' (fun k _ h => (SS3.out k h).1)⟩; clear hR' hF'; clear c2_0 f2_0 c2_1 f2_1 c2_2 f2_2 c2_3 f2_3 c2_4 f2_4; have c3_0 : w3.cell? ⟨b, i * 5, none⟩ = some (v0) := Kd.At.cell A4.out 0 _ rfl; have c3_1 : w3.cell? ⟨b, i * 5 + 1, none⟩ = some (v1) := Kd.At.cell A4.out 1 _ rfl; have c3_2 : w3.cell? ⟨b, i * 5 + 2, none⟩ = some (.int .i64 (k + (c : Int) + ((mSGoal.cnts x.goals : Nat) : Int) + ((mBind.cnts x.binds : Nat) : Int))) := Kd.At.cell A4.out 2 _ rfl; have c3_3 : w3.cell? ⟨b, i * 5 + 3, none⟩ = some (v3) := Kd.At.cell A4.out 3 _ rfl; have c3_4 : w3.cell? ⟨b, i * 5 + 4, none⟩ = some (.int .i64 x.next) := Kd.At.cell A4.out 4 _ rfl; have f3_0 : w3.frozen? ⟨b, i * 5, none⟩ = false := Kd.At.frozen A4.out (i * 5); have f3_1 : w3.frozen? ⟨b, i * 5 + 1, none⟩ = false := Kd.At.frozen A4.out (i * 5 + 1); have f3_2 : w3.frozen? ⟨b, i * 5 + 2, none⟩ = false := Kd.At.frozen A4.out (i * 5 + 2); have f3_3 : w3.frozen? ⟨b, i * 5 + 3, none⟩ = false := Kd.At.frozen A4.out (i * 5 + 3); have f3_4 : w3.frozen? ⟨b, i * 5 + 4, none⟩ = false := Kd.At.frozen A4.out (i * 5 + 4); have A5 : Sec (Kd.At kSChoice (w3.setCell ⟨b, i * 5 + 4, none⟩ (.int .i64 (k + (c : Int) + ((mSGoal.cnts x.goals : Nat) : Int) + ((mBind.cnts x.binds : Nat) : Int) + 1 + ((mCell.cnts x.call : Nat) : Int)))) S b t.length cp L i ⟨(mSGoal.mks x.goals (k + (c : Int))), (mBind.mks x.binds (k + (c : Int) + ((mSGoal.cnts x.goals : Nat) : Int))), k + (c : Int) + ((mSGoal.cnts x.goals : Nat) : Int) + ((mBind.cnts x.binds : Nat) : Int), (mCell.mks x.call (k + (c : Int) + ((mSGoal.cnts x.goals : Nat) : Int) + ((mBind.cnts x.binds : Nat) : Int) + 1)), k + (c : Int) + ((mSGoal.cnts x.goals : Nat) : Int) + ((mBind.cnts x.binds : Nat) : Int) + 1 + ((mCell.cnts x.call : Nat) : Int)⟩ [v0, v1, .int .i64 (k + (c : Int) + ((mSGoal.cnts x.goals : Nat) : Int) + ((mBind.cnts x.binds : Nat) : Int)), v3, .int .i64 (k + (c : Int) + ((mSGoal.cnts x.goals : Nat) : Int) + ((mBind.cnts x.binds : Nat) : Int) + 1 + ((mCell.cnts x.call : Nat) : Int))]) := ⟨Kd.At.store (e := (Kd.int 3)) A4.out kSChoice_f_next rfl (k + (c : Int) + ((mSGoal.cnts x.goals : Nat) : Int) + ((mBind.cnts x.binds : Nat) : Int) + 1 + ((mCell.cnts x.call : Nat) : Int)) (.int .i64 (k + (c : Int) + ((mSGoal.cnts x.goals : Nat) : Int) + ((mBind.cnts x.binds : Nat) : Int) + 1 + ((mCell.cnts x.call : Nat) : Int))) (fun _ _ => ⟨rfl, trivial⟩)⟩; have F5 : Sec (Foot S w (w3.setCell ⟨b, i * 5 + 4, none⟩ (.int .i64 (k + (c : Int) + ((mSGoal.cnts x.goals : Nat) : Int) + ((mBind.cnts x.binds : Nat) : Int) + 1 + ((mCell.cnts x.call : Nat) : Int))))) := ⟨F4.out.set (g := b) (.inl hSb) (i * 5 + 4) (.int .i64 (k + (c : Int) + ((mSGoal.cnts x.goals : Nat) : Int) + ((mBind.cnts x.binds : Nat) : Int) + 1 + ((mCell.cnts x.call : Nat) : Int)))⟩) | (clear T1; go_at_call 45; have T2 : Sec True := ⟨trivial⟩; refine (markSBind_c v1 x.binds S1 (k + (c : Int) + ((mSGoal.cnts x.goals : Nat) : Int)) (by omega) (by omega) _ SR1.out).mono ?_; rintro e w2 ⟨rfl, hR', hF'⟩; have A2 : Sec (Kd.At kSChoice w2 S b t.length cp L i ⟨(mSGoal.mks x.goals (k + (c : Int))), (mBind.mks x.binds (k + (c : Int) + ((mSGoal.cnts x.goals : Nat) : Int))), x.vars, x.call, x.next⟩ [v0, v1, .int .i64 x.vars, v3, .int .i64 x.next]) := ⟨BK1.out w2 _ hR' hF'⟩; have F2 : Sec (Foot S w w2) := ⟨F1.out.trans hF' (fun k _ h => (SS1.out k h).1)⟩; clear hR' hF'; clear c1_0 f1_0 c1_1 f1_1 c1_2 f1_2 c1_3 f1_3 c1_4 f1_4; have c2_0 : w2.cell? ⟨b, i * 5, none⟩ = some (v0) := Kd.At.cell A2.out 0 _ rfl; have c2_1 : w2.cell? ⟨b, i * 5 + 1, none⟩ = some (v1) := Kd.At.cell A2.out 1 _ rfl; have c2_2 : w2.cell? ⟨b, i * 5 + 2, none⟩ = some (.int .i64 x.vars) := Kd.At.cell A2.out 2 _ rfl; have c2_3 : w2.cell? ⟨b, i * 5 + 3, none⟩ = some (v3) := Kd.At.cell A2.out 3 _ rfl; have c2_4 : w2.cell? ⟨b, i * 5 + 4, none⟩ = some (.int .i64 x.next) := Kd.At.cell A2.out 4 _ rfl; have f2_0 : w2.frozen? ⟨b, i * 5, none⟩ = false := Kd.At.frozen A2.out (i * 5); have f2_1 : w2.frozen? ⟨b, i * 5 + 1, none⟩ = false := Kd.At.frozen A2.out (i * 5 + 1); have f2_2 : w2.frozen? ⟨b, i * 5 + 2, none⟩ = false := Kd.At.frozen A2.out (i * 5 + 2); have f2_3 : w2.frozen? ⟨b, i * 5 + 3, none⟩ = false := Kd.At.frozen A2.out (i * 5 + 3); have f2_4 : w2.frozen? ⟨b, i * 5 + 4, none⟩ = false := Kd.At.frozen A2.out (i * 5 + 4); have A3 : Sec (Kd.At kSChoice (w2.setCell ⟨b, i * 5 + 2, none⟩ (.int .i64 (k + (c : Int) + ((mSGoal.cnts x.goals : Nat) : Int) + ((mBind.cnts x.binds : Nat) : Int)))) S b t.length cp L i ⟨(mSGoal.mks x.goals (k + (c : Int))), (mBind.mks x.binds (k + (c : Int) + ((mSGoal.cnts x.goals : Nat) : Int))), k + (c : Int) + ((mSGoal.cnts x.goals : Nat) : Int) + ((mBind.cnts x.binds : Nat) : Int), x.call, x.next⟩ [v0, v1, .int .i64 (k + (c : Int) + ((mSGoal.cnts x.goals : Nat) : Int) + ((mBind.cnts x.binds : Nat) : Int)), v3, .int .i64 x.next]) := ⟨Kd.At.store (e := (Kd.int 3)) A2.out kSChoice_f_vars rfl (k + (c : Int) + ((mSGoal.cnts x.goals : Nat) : Int) + ((mBind.cnts x.binds : Nat) : Int)) (.int .i64 (k + (c : Int) + ((mSGoal.cnts x.goals : Nat) : Int) + ((mBind.cnts x.binds : Nat) : Int))) (fun _ _ => ⟨rfl, trivial⟩)⟩; have F3 : Sec (Foot S w (w2.setCell ⟨b, i * 5 + 2, none⟩ (.int .i64 (k + (c : Int) + ((mSGoal.cnts x.goals : Nat) : Int) + ((mBind.cnts x.binds : Nat) : Int))))) := ⟨F2.out.set (g := b) (.inl hSb) (i * 5 + 2) (.int .i64 (k + (c : Int) + ((mSGoal.cnts x.goals : Nat) : Int) + ((mBind.cnts x.binds : Nat) : Int)))⟩; obtain ⟨S3, r3, hs3, bk3⟩ := Kd.At.sub A3.out kSChoice_f_call (v := v3) rfl; have SR3 := Sec.mk r3; have SS3 := Sec.mk hs3; have BK3 := Sec.mk bk3; clear r3 hs3 bk3) | (clear T0; go_at_call 44; have T1 : Sec True := ⟨trivial⟩; refine (markSSGoal_c v0 x.goals S0 (k + (c : Int)) (by omega) (by omega) _ SR0.out).mono ?_; rintro e w1 ⟨rfl, hR', hF'⟩; have A1 : Sec (Kd.At kSChoice w1 S b t.length cp L i ⟨(mSGoal.mks x.goals (k + (c : Int))), x.binds, x.vars, x.call, x.next⟩ [v0, v1, .int .i64 x.vars, v3, .int .i64 x.next]) := ⟨BK0.out w1 _ hR' hF'⟩; have F1 : Sec (Foot S w w1) := ⟨F0.out.trans hF' (fun k _ h => (SS0.out k h).1)⟩; clear hR' hF'; clear c0_0 f0_0 c0_1 f0_1 c0_2 f0_2 c0_3 f0_3 c0_4 f0_4; have c1_0 : w1.cell? ⟨b, i * 5, none⟩ = some (v0) := Kd.At.cell A1.out 0 _ rfl; have c1_1 : w1.cell? ⟨b, i * 5 + 1, none⟩ = some (v1) := Kd.At.cell A1.out 1 _ rfl; have c1_2 : w1.cell? ⟨b, i * 5 + 2, none⟩ = some (.int .i64 x.vars) := Kd.At.cell A1.out 2 _ rfl; have c1_3 : w1.cell? ⟨b, i * 5 + 3, none⟩ = some (v3) := Kd.At.cell A1.out 3 _ rfl; have c1_4 : w1.cell? ⟨b, i * 5 + 4, none⟩ = some (.int .i64 x.next) := Kd.At.cell A1.out 4 _ rfl; have f1_0 : w1.frozen? ⟨b, i * 5, none⟩ = false := Kd.At.frozen A1.out (i * 5); have f1_1 : w1.frozen? ⟨b, i * 5 + 1, none⟩ = false := Kd.At.frozen A1.out (i * 5 + 1); have f1_2 : w1.frozen? ⟨b, i * 5 + 2, none⟩ = false := Kd.At.frozen A1.out (i * 5 + 2); have f1_3 : w1.frozen? ⟨b, i * 5 + 3, none⟩ = false := Kd.At.frozen A1.out (i * 5 + 3); have f1_4 : w1.frozen? ⟨b, i * 5 + 4, none⟩ = false := Kd.At.frozen A1.out (i * 5 + 4); obtain ⟨S1, r1, hs1, bk1⟩ := Kd.At.sub A1.out kSChoice_f_binds (v := v1) rfl; have SR1 := Sec.mk r1; have SS1 := Sec.mk hs1; have BK1 := Sec.mk bk1; clear r1 hs1 bk1))
      go_roundw
      case rel => exact ⟨i + 1, by omega, by go_num, by rw [HN1.out, hcx.out]; congr 1; omega, ⟨by rw [← hnext.out]; exact A5.out.R⟩, F5⟩
      case measure => simp [intOf]; omega
    · have hfin : Sec (mSChoice.mks (t.take i) k ++ t.drop i = mSChoice.mks t k) := ⟨by rw [List.take_of_length_le (by omega), List.drop_of_length_le (by omega), List.append_nil]⟩
      have hM2 := hM.out
      rw [hfin.out] at hM2
      have HM2 := Sec.mk hM2
      have hi2 : Sec (k + ↑(mSChoice.cnts (t.take i)) = k + ↑(mSChoice.cnts t)) := ⟨by rw [List.take_of_length_le (by omega)]⟩
      clear hM2 hM hfin
      go_wp2
      go_ret
      exact ⟨ri hi2.out, HM2.out, hF.out⟩
set_option maxHeartbeats 2000000 in
theorem heldSSChoice_c (v : Value) (t : List SChoice) (ok : Nat → Prop) (k : Int) (hk : 0 ≤ k) (hk2 : k + mSChoice.cnts t ≤ 1000000000000000000) (w : World) (hV : kSChoice.V w ok v (mSChoice.mks t k)) :
    Calls Tryd.prog 55 #[v, .int .i64 k] w fun e w' => e = .returned (.int .i64 (k + mSChoice.cnts t)) ∧ Below w.heap.size w w' := by
  obtain ⟨A, cp, rfl, g1, g2, g3, hC, _⟩ := hV
  rw [Mk.mks_len] at g1 g3
  rw [Mk.mks_len]
  have HC := Sec.mk hC
  have hu := Tryd.underlying66
  clear hC
  have HN := Sec.mk (mSChoice.cnts_take t)
  have HM := Sec.mk (mSChoice.cnts_le t)
  have HG := Sec.mk (mSChoice.get t k)
  have HLn := Sec.mk (mSChoice.mks_len t k)
  go_enter Tryd.func55, Tryd.ntmps55
  go_wp2
  go_loopw [1, 5] (fun kv iv wr => ∃ i : Nat, i ≤ t.length ∧ iv = .int .i64 i ∧ kv = .int .i64 (k + ↑(mSChoice.cnts (t.take i))) ∧ Sec (Below w.heap.size w wr)) (fun _ iv _ => t.length - (intOf iv).toNat)
  case atStart => exact ⟨0, Nat.zero_le _, rfl, by simp [Mk.cnts], ⟨Below.refl _ _⟩⟩
  case round =>
    obtain ⟨i, hi, rfl, rfl, hb⟩ := hrel
    by_cases hlt : i < t.length
    · obtain ⟨b, off, cs, rfl, hob, hK, hc⟩ := Kd.C_get HC.out (List.getElem?_eq_getElem (by rw [HLn.out]; exact hlt))
      rw [HG.out i hlt] at hK
      have hn1 := HN.out i hlt
      have hn2 := HM.out (i + 1)
      rw [hn1] at hn2
      have HN1 := Sec.mk hn1
      clear hn1
      generalize t[i] = x at *
      generalize mSChoice.cnts (t.take i) = c at *
      have hcx : Sec (mSChoice.cnt x = _) := ⟨mSChoice_cnt x⟩
      rw [mSChoice_cnt x] at hn2
      obtain ⟨v0, v1, v3, rfl, h0, h1, h3⟩ := kSChoice_K hK
      have hat : Sec (∀ W : World, Below w.heap.size w W → W.cell? ⟨b, off + i * 5, none⟩ = some (v0) ∧ W.cell? ⟨b, off + i * 5 + 1, none⟩ = some (v1) ∧ W.cell? ⟨b, off + i * 5 + 2, none⟩ = some (.int .i64 (k + (c : Int) + ((mSGoal.cnts x.goals : Nat) : Int) + ((mBind.cnts x.binds : Nat) : Int))) ∧ W.cell? ⟨b, off + i * 5 + 3, none⟩ = some (v3) ∧ W.cell? ⟨b, off + i * 5 + 4, none⟩ = some (.int .i64 (k + (c : Int) + ((mSGoal.cnts x.goals : Nat) : Int) + ((mBind.cnts x.binds : Nat) : Int) + 1 + ((mCell.cnts x.call : Nat) : Int)))) := ⟨fun W h => ⟨Raw.cell_below h (hc 0 _ rfl), Raw.cell_below h (hc 1 _ rfl), Raw.cell_below h (hc 2 _ rfl), Raw.cell_below h (hc 3 _ rfl), Raw.cell_below h (hc 4 _ rfl)⟩⟩
      have i0 : (0 : Int) ≤ (i : Int) := by omega
      have i1 : (i : Int) < (t.length : Int) := by omega
      have H0 : Sec (kSGoal.V w ok v0 (mSGoal.mks x.goals (k + (c : Int)))) := ⟨h0⟩
      clear h0
      have H1 : Sec (kBind.V w ok v1 (mBind.mks x.binds (k + (c : Int) + ((mSGoal.cnts x.goals : Nat) : Int)))) := ⟨h1⟩
      clear h1
      have H3 : Sec (kCell.V w ok v3 (mCell.mks x.call (k + (c : Int) + ((mSGoal.cnts x.goals : Nat) : Int) + ((mBind.cnts x.binds : Nat) : Int) + 1))) := ⟨h3⟩
      clear h3
      clear hc hK
      obtain ⟨c0, c1, c2, c3, c4⟩ := hat.out _ hb.out
      have B0 := hb
      have T0 : Sec True := ⟨trivial⟩
      go_wp2_with (first | (clear T2; go_at_call 50; have T3 : Sec True := ⟨trivial⟩; refine (heldSCell_c v3 x.call ok (k + (c : Int) + ((mSGoal.cnts x.goals : Nat) : Int) + ((mBind.cnts x.binds : Nat) : Int) + 1) (by omega) (by omega) _ (Kd.V_below H3.out B2.out (by decide))).mono ?_; rintro e w3 ⟨rfl, hb1⟩; have B3 := Sec.mk (bel B2.out hb1); clear hb1 c0 c1 c2 c3 c4; obtain ⟨c0, c1, c2, c3, c4⟩ := hat.out _ B3.out) | (clear T1; go_at_call 48; have T2 : Sec True := ⟨trivial⟩; refine (heldSBind_c v1 x.binds ok (k + (c : Int) + ((mSGoal.cnts x.goals : Nat) : Int)) (by omega) (by omega) _ (Kd.V_below H1.out B1.out (by decide))).mono ?_; rintro e w2 ⟨rfl, hb1⟩; have B2 := Sec.mk (bel B1.out hb1); clear hb1 c0 c1 c2 c3 c4; obtain ⟨c0, c1, c2, c3, c4⟩ := hat.out _ B2.out) | (clear T0; go_at_call 47; have T1 : Sec True := ⟨trivial⟩; refine (heldSSGoal_c v0 x.goals ok (k + (c : Int)) (by omega) (by omega) _ (Kd.V_below H0.out B0.out (by decide))).mono ?_; rintro e w1 ⟨rfl, hb1⟩; have B1 := Sec.mk (bel B0.out hb1); clear hb1 c0 c1 c2 c3 c4; obtain ⟨c0, c1, c2, c3, c4⟩ := hat.out _ B1.out))
      go_roundw
      case rel => exact ⟨i + 1, by omega, by go_num, by rw [HN1.out, hcx.out]; congr 1; omega, B3⟩
      case measure => simp [intOf]; omega
    · have hi2 : Sec (k + ↑(mSChoice.cnts (t.take i)) = k + ↑(mSChoice.cnts t)) := ⟨by rw [List.take_of_length_le (by omega)]⟩
      go_wp2
      go_ret
      exact ⟨ri hi2.out, hb.out⟩
def mSChoicet : Mk SChoice := ⟨fun x => mSGoal.cnts x.goals + mBind.cnts x.binds + mCell.cnts x.call, fun x k => ⟨mSGoal.mks x.goals (k), mBind.mks x.binds (k + ((mSGoal.cnts x.goals : Nat) : Int)), x.vars, mCell.mks x.call (k + ((mSGoal.cnts x.goals : Nat) : Int) + ((mBind.cnts x.binds : Nat) : Int)), x.next⟩⟩
theorem mSChoicet_cnt (x : SChoice) : mSChoicet.cnt x = mSGoal.cnts x.goals + mBind.cnts x.binds + mCell.cnts x.call := rfl
end Go.Proofs.YtenigopoknajgaaDoor
