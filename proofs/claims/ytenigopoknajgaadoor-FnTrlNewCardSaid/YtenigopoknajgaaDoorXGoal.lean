/- What the exact laws' own functions do with the type PrgGoal: turned, sized, compared, marked, held. -/
import Derived.Test.YtenigopoknajgaaDoorXCell
namespace Go.Proofs.YtenigopoknajgaaDoor
open Go.RowKit
set_option linter.unusedVariables false
set_option maxRecDepth 100000
def kGoal : Kd Goal := Kd.iso 56 (Kd.pair (Kd.int 3) (Kd.pair (Kd.slice 23 kCell (by decide)) (Kd.pair (Kd.slice 23 kCell (by decide)) (Kd.slice 23 kCell (by decide))))) (fun x => (x.kind, x.a, x.b, x.c))
theorem kGoal_K {w : World} {ok : Nat → Prop} {x : Goal} {cs : List Value} (h : kGoal.K w ok x cs) : ∃ v1 v2 v3, cs = [.int .i64 x.kind, v1, v2, v3] ∧ kCell.V w ok v1 x.a ∧ kCell.V w ok v2 x.b ∧ kCell.V w ok v3 x.c := by
  obtain ⟨_, _, rfl, ⟨rfl, _⟩, ⟨_, _, rfl, ⟨v1, rfl, h1⟩, ⟨_, _, rfl, ⟨v2, rfl, h2⟩, ⟨v3, rfl, h3⟩⟩⟩⟩ := h
  exact ⟨v1, v2, v3, rfl, h1, h2, h3⟩
theorem Goal.ext_iff (a b : Goal) : a = b ↔ a.kind = b.kind ∧ a.a = b.a ∧ a.b = b.b ∧ a.c = b.c := by
  cases a; cases b; simp
instance : DecidableEq Goal := fun a b => decidable_of_iff _ (Goal.ext_iff a b).symm
def zeroGoal : Goal := ⟨0, [], [], []⟩
theorem kGoal_zero (w : World) : kGoal.O w (fun _ => False) zeroGoal [.int .i64 0, .slice none 0 0, .slice none 0 0, .slice none 0 0] := (Kd.O_pair0 (d := (Kd.int 3)) (e := (Kd.pair (Kd.slice 23 kCell (by decide)) (Kd.pair (Kd.slice 23 kCell (by decide)) (Kd.slice 23 kCell (by decide))))) ⟨rfl, trivial⟩ (Kd.O_pair0 (d := (Kd.slice 23 kCell (by decide))) (e := (Kd.pair (Kd.slice 23 kCell (by decide)) (Kd.slice 23 kCell (by decide)))) ⟨_, rfl, Kd.R_nil _ _ _⟩ (Kd.O_pair0 (d := (Kd.slice 23 kCell (by decide))) (e := (Kd.slice 23 kCell (by decide))) ⟨_, rfl, Kd.R_nil _ _ _⟩ ⟨_, rfl, Kd.R_nil _ _ _⟩)))
theorem kGoal_f_kind : Kd.Fld kGoal (Kd.int 3) 0 (fun x => x.kind) (fun x y => { x with kind := y }) := Kd.Fld.iso _ (Kd.Fld.fst (Kd.Fld.self _)) (fun _ _ => rfl)
theorem kGoal_f_a : Kd.Fld kGoal (Kd.slice 23 kCell (by decide)) 1 (fun x => x.a) (fun x y => { x with a := y }) := Kd.Fld.iso _ (Kd.Fld.snd (Kd.Fld.fst (Kd.Fld.self _))) (fun _ _ => rfl)
theorem kGoal_f_b : Kd.Fld kGoal (Kd.slice 23 kCell (by decide)) 2 (fun x => x.b) (fun x y => { x with b := y }) := Kd.Fld.iso _ (Kd.Fld.snd (Kd.Fld.snd (Kd.Fld.fst (Kd.Fld.self _)))) (fun _ _ => rfl)
theorem kGoal_f_c : Kd.Fld kGoal (Kd.slice 23 kCell (by decide)) 3 (fun x => x.c) (fun x y => { x with c := y }) := Kd.Fld.iso _ (Kd.Fld.snd (Kd.Fld.snd (Kd.Fld.snd (Kd.Fld.self _)))) (fun _ _ => rfl)
set_option maxHeartbeats 2000000 in
theorem eqPrgGoal_c (x y : Goal) (cs ds : List Value) (ok ok' : Nat → Prop) (w : World) (hK : kGoal.K w ok x cs) (hD : kGoal.K w ok' y ds) :
    Calls Tryd.prog 86 #[.agg cs.toArray, .agg ds.toArray] w fun e w' => e = .returned (.bool (decide (x = y))) ∧ Below w.heap.size w w' := by
  obtain ⟨_, _, rfl, ⟨rfl, _⟩, ⟨_, _, rfl, ⟨v1, rfl, h1⟩, ⟨_, _, rfl, ⟨v2, rfl, h2⟩, ⟨v3, rfl, h3⟩⟩⟩⟩ := hK
  have H1 := Sec.mk h1
  clear h1
  have H2 := Sec.mk h2
  clear h2
  have H3 := Sec.mk h3
  clear h3
  obtain ⟨_, _, rfl, ⟨rfl, _⟩, ⟨_, _, rfl, ⟨u1, rfl, g1⟩, ⟨_, _, rfl, ⟨u2, rfl, g2⟩, ⟨u3, rfl, g3⟩⟩⟩⟩ := hD
  have G1 := Sec.mk g1
  clear g1
  have G2 := Sec.mk g2
  clear g2
  have G3 := Sec.mk g3
  clear g3
  have hu := Tryd.underlying56
  have hxy := Sec.mk (Goal.ext_iff x y)
  have T0 : Sec True := ⟨trivial⟩
  by_cases h0 : x.kind = y.kind
  · have E0 := Sec.mk h0
    have d0 : (x.kind == y.kind) = true := beq_iff_eq.2 h0
    clear h0
    by_cases h1 : x.a = y.a
    · have E1 := Sec.mk h1
      have d1 : decide (x.a = y.a) = true := decide_eq_true h1
      clear h1
      by_cases h2 : x.b = y.b
      · have E2 := Sec.mk h2
        have d2 : decide (x.b = y.b) = true := decide_eq_true h2
        clear h2
        by_cases h3 : x.c = y.c
        · have E3 := Sec.mk h3
          have d3 : decide (x.c = y.c) = true := decide_eq_true h3
          clear h3
          have hd : Sec (decide (x = y) = true) := ⟨by rw [decide_eq_true_eq, hxy.out]; exact ⟨E0.out, E1.out, E2.out, E3.out⟩⟩
          go_enter Tryd.func86, Tryd.ntmps86
          go_wp2_with (first | (clear T2; go_at_call 17; have T3 : Sec True := ⟨trivial⟩; refine (eqSCell_c v3 u3 x.c y.c ok ok' _ (Kd.V_below H3.out B2.out (by decide)) (Kd.V_below G3.out B2.out (by decide))).mono ?_; rintro e w3 ⟨rfl, hb1⟩; rw [d3]; have B3 := Sec.mk (bel B2.out hb1); have X := box_cells (b := w.heap.size) (cs := #[.int .i64 x.kind, v1, v2, v3]) (t := 56) hb1 P2.out.1; have p3_3 := X.2.1 3 _ rfl; have P3 := Sec.mk X; clear X; have X := box_cells (b := w.heap.size + 1) (cs := #[.int .i64 y.kind, u1, u2, u3]) (t := 56) hb1 Q2.out.1; have q3_3 := X.2.1 3 _ rfl; have Q3 := Sec.mk X; clear X hb1) | (clear T1; go_at_call 17; have T2 : Sec True := ⟨trivial⟩; refine (eqSCell_c v2 u2 x.b y.b ok ok' _ (Kd.V_below H2.out B1.out (by decide)) (Kd.V_below G2.out B1.out (by decide))).mono ?_; rintro e w2 ⟨rfl, hb1⟩; rw [d2]; have B2 := Sec.mk (bel B1.out hb1); have X := box_cells (b := w.heap.size) (cs := #[.int .i64 x.kind, v1, v2, v3]) (t := 56) hb1 P1.out.1; have p2_2 := X.2.1 2 _ rfl; have p2_3 := X.2.1 3 _ rfl; have P2 := Sec.mk X; clear X; have X := box_cells (b := w.heap.size + 1) (cs := #[.int .i64 y.kind, u1, u2, u3]) (t := 56) hb1 Q1.out.1; have q2_2 := X.2.1 2 _ rfl; have q2_3 := X.2.1 3 _ rfl; have Q2 := Sec.mk X; clear X hb1) | (clear T0; go_at_call 17; have T1 : Sec True := ⟨trivial⟩; refine (eqSCell_c v1 u1 x.a y.a ok ok' _ (Kd.V_below H1.out (belA (belA (Below.refl _ _) _) _) (by decide)) (Kd.V_below G1.out (belA (belA (Below.refl _ _) _) _) (by decide))).mono ?_; rintro e w1 ⟨rfl, hb1⟩; rw [d1]; have B1 := Sec.mk (bel (belA (belA (Below.refl _ _) _) _) hb1); have X := box_cells (b := w.heap.size) (cs := #[.int .i64 x.kind, v1, v2, v3]) (t := 56) hb1 (box2 _ _ _).1; have p1_1 := X.2.1 1 _ rfl; have p1_2 := X.2.1 2 _ rfl; have p1_3 := X.2.1 3 _ rfl; have P1 := Sec.mk X; clear X; have X := box_cells (b := w.heap.size + 1) (cs := #[.int .i64 y.kind, u1, u2, u3]) (t := 56) hb1 (box2 _ _ _).2; have q1_1 := X.2.1 1 _ rfl; have q1_2 := X.2.1 2 _ rfl; have q1_3 := X.2.1 3 _ rfl; have Q1 := Sec.mk X; clear X hb1))
          go_ret
          exact ⟨rb hd.out.symm, B3.out⟩
        · have hd : Sec (decide (x = y) = false) := ⟨by rw [decide_eq_false_iff_not, hxy.out]; exact fun h => h3 h.2.2.2⟩
          have d3 : decide (x.c = y.c) = false := decide_eq_false h3
          clear h3
          go_enter Tryd.func86, Tryd.ntmps86
          go_wp2_with (first | (clear T2; go_at_call 17; have T3 : Sec True := ⟨trivial⟩; refine (eqSCell_c v3 u3 x.c y.c ok ok' _ (Kd.V_below H3.out B2.out (by decide)) (Kd.V_below G3.out B2.out (by decide))).mono ?_; rintro e w3 ⟨rfl, hb1⟩; rw [d3]; have B3 := Sec.mk (bel B2.out hb1); have X := box_cells (b := w.heap.size) (cs := #[.int .i64 x.kind, v1, v2, v3]) (t := 56) hb1 P2.out.1; have p3_3 := X.2.1 3 _ rfl; have P3 := Sec.mk X; clear X; have X := box_cells (b := w.heap.size + 1) (cs := #[.int .i64 y.kind, u1, u2, u3]) (t := 56) hb1 Q2.out.1; have q3_3 := X.2.1 3 _ rfl; have Q3 := Sec.mk X; clear X hb1) | (clear T1; go_at_call 17; have T2 : Sec True := ⟨trivial⟩; refine (eqSCell_c v2 u2 x.b y.b ok ok' _ (Kd.V_below H2.out B1.out (by decide)) (Kd.V_below G2.out B1.out (by decide))).mono ?_; rintro e w2 ⟨rfl, hb1⟩; rw [d2]; have B2 := Sec.mk (bel B1.out hb1); have X := box_cells (b := w.heap.size) (cs := #[.int .i64 x.kind, v1, v2, v3]) (t := 56) hb1 P1.out.1; have p2_2 := X.2.1 2 _ rfl; have p2_3 := X.2.1 3 _ rfl; have P2 := Sec.mk X; clear X; have X := box_cells (b := w.heap.size + 1) (cs := #[.int .i64 y.kind, u1, u2, u3]) (t := 56) hb1 Q1.out.1; have q2_2 := X.2.1 2 _ rfl; have q2_3 := X.2.1 3 _ rfl; have Q2 := Sec.mk X; clear X hb1) | (clear T0; go_at_call 17; have T1 : Sec True := ⟨trivial⟩; refine (eqSCell_c v1 u1 x.a y.a ok ok' _ (Kd.V_below H1.out (belA (belA (Below.refl _ _) _) _) (by decide)) (Kd.V_below G1.out (belA (belA (Below.refl _ _) _) _) (by decide))).mono ?_; rintro e w1 ⟨rfl, hb1⟩; rw [d1]; have B1 := Sec.mk (bel (belA (belA (Below.refl _ _) _) _) hb1); have X := box_cells (b := w.heap.size) (cs := #[.int .i64 x.kind, v1, v2, v3]) (t := 56) hb1 (box2 _ _ _).1; have p1_1 := X.2.1 1 _ rfl; have p1_2 := X.2.1 2 _ rfl; have p1_3 := X.2.1 3 _ rfl; have P1 := Sec.mk X; clear X; have X := box_cells (b := w.heap.size + 1) (cs := #[.int .i64 y.kind, u1, u2, u3]) (t := 56) hb1 (box2 _ _ _).2; have q1_1 := X.2.1 1 _ rfl; have q1_2 := X.2.1 2 _ rfl; have q1_3 := X.2.1 3 _ rfl; have Q1 := Sec.mk X; clear X hb1))
          go_ret
          exact ⟨rb hd.out.symm, B3.out⟩
      · have hd : Sec (decide (x = y) = false) := ⟨by rw [decide_eq_false_iff_not, hxy.out]; exact fun h => h2 h.2.2.1⟩
        have d2 : decide (x.b = y.b) = false := decide_eq_false h2
        clear h2
        go_enter Tryd.func86, Tryd.ntmps86
        go_wp2_with (first | (clear T1; go_at_call 17; have T2 : Sec True := ⟨trivial⟩; refine (eqSCell_c v2 u2 x.b y.b ok ok' _ (Kd.V_below H2.out B1.out (by decide)) (Kd.V_below G2.out B1.out (by decide))).mono ?_; rintro e w2 ⟨rfl, hb1⟩; rw [d2]; have B2 := Sec.mk (bel B1.out hb1); have X := box_cells (b := w.heap.size) (cs := #[.int .i64 x.kind, v1, v2, v3]) (t := 56) hb1 P1.out.1; have p2_2 := X.2.1 2 _ rfl; have p2_3 := X.2.1 3 _ rfl; have P2 := Sec.mk X; clear X; have X := box_cells (b := w.heap.size + 1) (cs := #[.int .i64 y.kind, u1, u2, u3]) (t := 56) hb1 Q1.out.1; have q2_2 := X.2.1 2 _ rfl; have q2_3 := X.2.1 3 _ rfl; have Q2 := Sec.mk X; clear X hb1) | (clear T0; go_at_call 17; have T1 : Sec True := ⟨trivial⟩; refine (eqSCell_c v1 u1 x.a y.a ok ok' _ (Kd.V_below H1.out (belA (belA (Below.refl _ _) _) _) (by decide)) (Kd.V_below G1.out (belA (belA (Below.refl _ _) _) _) (by decide))).mono ?_; rintro e w1 ⟨rfl, hb1⟩; rw [d1]; have B1 := Sec.mk (bel (belA (belA (Below.refl _ _) _) _) hb1); have X := box_cells (b := w.heap.size) (cs := #[.int .i64 x.kind, v1, v2, v3]) (t := 56) hb1 (box2 _ _ _).1; have p1_1 := X.2.1 1 _ rfl; have p1_2 := X.2.1 2 _ rfl; have p1_3 := X.2.1 3 _ rfl; have P1 := Sec.mk X; clear X; have X := box_cells (b := w.heap.size + 1) (cs := #[.int .i64 y.kind, u1, u2, u3]) (t := 56) hb1 (box2 _ _ _).2; have q1_1 := X.2.1 1 _ rfl; have q1_2 := X.2.1 2 _ rfl; have q1_3 := X.2.1 3 _ rfl; have Q1 := Sec.mk X; clear X hb1))
        go_ret
        exact ⟨rb hd.out.symm, B2.out⟩
    · have hd : Sec (decide (x = y) = false) := ⟨by rw [decide_eq_false_iff_not, hxy.out]; exact fun h => h1 h.2.1⟩
      have d1 : decide (x.a = y.a) = false := decide_eq_false h1
      clear h1
      go_enter Tryd.func86, Tryd.ntmps86
      go_wp2_with (first | (clear T0; go_at_call 17; have T1 : Sec True := ⟨trivial⟩; refine (eqSCell_c v1 u1 x.a y.a ok ok' _ (Kd.V_below H1.out (belA (belA (Below.refl _ _) _) _) (by decide)) (Kd.V_below G1.out (belA (belA (Below.refl _ _) _) _) (by decide))).mono ?_; rintro e w1 ⟨rfl, hb1⟩; rw [d1]; have B1 := Sec.mk (bel (belA (belA (Below.refl _ _) _) _) hb1); have X := box_cells (b := w.heap.size) (cs := #[.int .i64 x.kind, v1, v2, v3]) (t := 56) hb1 (box2 _ _ _).1; have p1_1 := X.2.1 1 _ rfl; have p1_2 := X.2.1 2 _ rfl; have p1_3 := X.2.1 3 _ rfl; have P1 := Sec.mk X; clear X; have X := box_cells (b := w.heap.size + 1) (cs := #[.int .i64 y.kind, u1, u2, u3]) (t := 56) hb1 (box2 _ _ _).2; have q1_1 := X.2.1 1 _ rfl; have q1_2 := X.2.1 2 _ rfl; have q1_3 := X.2.1 3 _ rfl; have Q1 := Sec.mk X; clear X hb1))
      go_ret
      exact ⟨rb hd.out.symm, B1.out⟩
  · have hd : Sec (decide (x = y) = false) := ⟨by rw [decide_eq_false_iff_not, hxy.out]; exact fun h => h0 h.1⟩
    have d0 : (x.kind == y.kind) = false := beq_eq_false_iff_ne.2 h0
    clear h0
    go_enter Tryd.func86, Tryd.ntmps86
    go_wp2
    go_ret
    exact ⟨rb hd.out.symm, (belA (belA (Below.refl _ _) _) _)⟩
def mGoal : Mk Goal := ⟨fun x => 1 + mCell.cnts x.a + mCell.cnts x.b + mCell.cnts x.c, fun x k => ⟨k, mCell.mks x.a (k + 1), mCell.mks x.b (k + 1 + ((mCell.cnts x.a : Nat) : Int)), mCell.mks x.c (k + 1 + ((mCell.cnts x.a : Nat) : Int) + ((mCell.cnts x.b : Nat) : Int))⟩⟩
theorem mGoal_cnt (x : Goal) : mGoal.cnt x = 1 + mCell.cnts x.a + mCell.cnts x.b + mCell.cnts x.c := rfl
def mGoalt : Mk Goal := ⟨fun x => mCell.cnts x.a + mCell.cnts x.b + mCell.cnts x.c, fun x k => ⟨x.kind, mCell.mks x.a (k), mCell.mks x.b (k + ((mCell.cnts x.a : Nat) : Int)), mCell.mks x.c (k + ((mCell.cnts x.a : Nat) : Int) + ((mCell.cnts x.b : Nat) : Int))⟩⟩
theorem mGoalt_cnt (x : Goal) : mGoalt.cnt x = mCell.cnts x.a + mCell.cnts x.b + mCell.cnts x.c := rfl
end Go.Proofs.YtenigopoknajgaaDoor
