/- What the exact laws' own functions do with the type PrgProg: turned, sized, compared, marked, held. -/
import Derived.Test.YtenigopoknajgaaGreatDoorXCell
import Derived.Test.YtenigopoknajgaaGreatDoorXClause
import Derived.Test.YtenigopoknajgaaGreatDoorXPlace
import Derived.Test.YtenigopoknajgaaGreatDoorKProg
namespace Go.Proofs.YtenigopoknajgaaGreatDoor
open Go.RowKit
set_option linter.unusedVariables false
set_option maxRecDepth 100000
def rProg : Raw Prog := Raw.iso 25 (Raw.pair (Raw.slice 22 rClause) (Raw.slice 23 rPlace)) (fun x => (x.clauses, x.places))
theorem rProg_K {w : World} {x : Prog} {cs : List Value} (h : rProg.K w x cs) : ∃ v0 v1, cs = [v0, v1] ∧ rClause.V w v0 x.clauses ∧ rPlace.V w v1 x.places := by
  obtain ⟨_, _, rfl, ⟨v0, rfl, h0⟩, ⟨v1, rfl, h1⟩⟩ := h
  exact ⟨v0, v1, rfl, h0, h1⟩
theorem rProg_mono : Raw.Mono rProg := Raw.mono_iso (Raw.mono_pair (Raw.mono_slice rClause_mono) (Raw.mono_slice rPlace_mono))
theorem rProg_wt (x : Prog) : rProg.wt x = (HAdd.hAdd (rClause.wts x.clauses) (rPlace.wts x.places)) := rfl
theorem rProg_fits : Raw.Fits rProg kProg := Raw.fits_iso (Raw.fits_pair (Raw.fits_slice rClause_fits _ _ (by decide)) (Raw.fits_slice rPlace_fits _ _ (by decide))) _ _ _
theorem rProg_opn : Raw.Opn Tryz.prog rProg := Raw.opn_struct Tryz.underlying25 (by kernel_rfl) (fun b => ⟨⟨b.1, b.2⟩, rfl⟩) (Raw.opnF_cons (Raw.opn_slice (r := rClause) Tryz.underlying22 (by kernel_rfl) (by decide) rClause_opn) rfl rfl (by kernel_rfl) (by decide) (Raw.opnF_last (Raw.opn_slice (r := rPlace) Tryz.underlying23 (by kernel_rfl) (by decide) rPlace_opn) rfl rfl (by kernel_rfl) (by decide)))
theorem Prog.ext_iff (a b : Prog) : a = b ↔ a.clauses = b.clauses ∧ a.places = b.places := by
  cases a; cases b; simp
instance : DecidableEq Prog := fun a b => decidable_of_iff _ (Prog.ext_iff a b).symm
def zeroProg : Prog := ⟨[], []⟩
theorem kProg_zero (w : World) : kProg.O w (fun _ => False) zeroProg [.slice none 0 0, .slice none 0 0] := (Kd.O_pair0 (d := (Kd.slice 27 kClause (by decide))) (e := (Kd.slice 28 kPlace (by decide))) ⟨_, rfl, Kd.R_nil _ _ _⟩ ⟨_, rfl, Kd.R_nil _ _ _⟩)
theorem kProg_f_clauses : Kd.Fld kProg (Kd.slice 27 kClause (by decide)) 0 (fun x => x.clauses) (fun x y => { x with clauses := y }) := Kd.Fld.iso _ (Kd.Fld.fst (Kd.Fld.self _)) (fun _ _ => rfl)
theorem kProg_f_places : Kd.Fld kProg (Kd.slice 28 kPlace (by decide)) 1 (fun x => x.places) (fun x y => { x with places := y }) := Kd.Fld.iso _ (Kd.Fld.snd (Kd.Fld.self _)) (fun _ _ => rfl)
theorem szPrgProg_c (x : Prog) (cs : List Value) (left : Nat) (hl : left ≤ 1048576) (w : World) (hK : rProg.K w x cs) :
    Calls Tryz.prog 4 #[.agg cs.toArray, .int .i64 left] w fun e w' => e = .returned (.int .i64 (Raw.spent (rProg.wt x) left)) ∧ Below w.heap.size w w' := by
  obtain ⟨_, _, rfl, ⟨v0, rfl, h0⟩, ⟨v1, rfl, h1⟩⟩ := hK
  have H0 := Sec.mk h0
  clear h0
  have H1 := Sec.mk h1
  clear h1
  have hu := Tryz.underlying25
  have hb0 := hl
  have T0 : Sec True := ⟨trivial⟩
  by_cases e0 : rClause.wts x.clauses ≤ left
  · have s0 := Raw.spent_le e0
    have L0 := Sec.mk (show (left - rClause.wts x.clauses) + rClause.wts x.clauses = left by omega)
    have hb1 : left - rClause.wts x.clauses ≤ 1048576 := by omega
    generalize left - rClause.wts x.clauses = l0 at *
    have n0 : ¬ ((l0 : Int) < 0) := by omega
    by_cases e1 : rPlace.wts x.places ≤ l0
    · have s1 := Raw.spent_le e1
      have L1 := Sec.mk (show (l0 - rPlace.wts x.places) + rPlace.wts x.places = l0 by omega)
      have hb2 : l0 - rPlace.wts x.places ≤ 1048576 := by omega
      generalize l0 - rPlace.wts x.places = l1 at *
      have n1 : ¬ ((l1 : Int) < 0) := by omega
      have hfin : Sec ((l1 : Int) = Raw.spent (rProg.wt x) left) := ⟨by rw [Raw.spent_le (by rw [rProg_wt]; have := L0.out; have := L1.out; omega), rProg_wt]; have := L0.out; have := L1.out; omega⟩
      go_enter Tryz.func4, Tryz.ntmps4
      go_wp2_with (first | (clear T1; go_at_call 12; have T2 : Sec True := ⟨trivial⟩; refine (szSPlace_c v1 x.places l0 hb1 _ (Raw.mono_V rPlace_mono B0.out H1.out)).mono ?_; rintro e w2 ⟨rfl, hb1⟩; rw [s1]; have B1 := Sec.mk (bel B0.out hb1); have Q := box_cells hb1 (P0.out.1); have P1 := Sec.mk Q; clear Q hb1) | (clear T0; go_at_call 11; have T1 : Sec True := ⟨trivial⟩; refine (szSClause_c v0 x.clauses left hb0 _ (Raw.mono_V rClause_mono (belA (Below.refl _ _) _) H0.out)).mono ?_; rintro e w1 ⟨rfl, hb1⟩; rw [s0]; have B0 := Sec.mk (bel (belA (Below.refl _ _) _) hb1); have Q := box_cells hb1 (box1 _ _); have c0_0 := Q.2.1 0 _ rfl; have c0_1 := Q.2.1 1 _ rfl; have P0 := Sec.mk Q; clear Q hb1))
      go_ret
      exact ⟨ri hfin.out, B1.out⟩
    · have s1 := Raw.spent_gt e1
      have hfin : Sec (Raw.spent (rProg.wt x) left = -1) := ⟨Raw.spent_gt (by rw [rProg_wt]; have := L0.out; omega)⟩
      go_enter Tryz.func4, Tryz.ntmps4
      go_wp2_with (first | (clear T1; go_at_call 12; have T2 : Sec True := ⟨trivial⟩; refine (szSPlace_c v1 x.places l0 hb1 _ (Raw.mono_V rPlace_mono B0.out H1.out)).mono ?_; rintro e w2 ⟨rfl, hb1⟩; rw [s1]; have B1 := Sec.mk (bel B0.out hb1); have Q := box_cells hb1 (P0.out.1); have P1 := Sec.mk Q; clear Q hb1) | (clear T0; go_at_call 11; have T1 : Sec True := ⟨trivial⟩; refine (szSClause_c v0 x.clauses left hb0 _ (Raw.mono_V rClause_mono (belA (Below.refl _ _) _) H0.out)).mono ?_; rintro e w1 ⟨rfl, hb1⟩; rw [s0]; have B0 := Sec.mk (bel (belA (Below.refl _ _) _) hb1); have Q := box_cells hb1 (box1 _ _); have c0_0 := Q.2.1 0 _ rfl; have c0_1 := Q.2.1 1 _ rfl; have P0 := Sec.mk Q; clear Q hb1))
      go_ret
      exact ⟨ri hfin.out.symm, B1.out⟩
  · have s0 := Raw.spent_gt e0
    have hfin : Sec (Raw.spent (rProg.wt x) left = -1) := ⟨Raw.spent_gt (by rw [rProg_wt]; omega)⟩
    go_enter Tryz.func4, Tryz.ntmps4
    go_wp2_with (first | (clear T0; go_at_call 11; have T1 : Sec True := ⟨trivial⟩; refine (szSClause_c v0 x.clauses left hb0 _ (Raw.mono_V rClause_mono (belA (Below.refl _ _) _) H0.out)).mono ?_; rintro e w1 ⟨rfl, hb1⟩; rw [s0]; have B0 := Sec.mk (bel (belA (Below.refl _ _) _) hb1); have Q := box_cells hb1 (box1 _ _); have P0 := Sec.mk Q; clear Q hb1))
    go_ret
    exact ⟨ri hfin.out.symm, B0.out⟩
set_option maxHeartbeats 1000000 in
theorem toPrgProg_c (x : Prog) (cs : List Value) (ok : Nat → Prop) (w : World) (hK : kProg.K w ok x cs) :
    Calls Tryz.prog 6 #[.agg cs.toArray] w fun e w' => ∃ c : List Value, e = .returned (.agg c.toArray) ∧ kProg.O w' (fun k => w.heap.size ≤ k) x c ∧ Below w.heap.size w w' := by
  obtain ⟨_, _, rfl, ⟨v0, rfl, h0⟩, ⟨v1, rfl, h1⟩⟩ := hK
  have H0 := Sec.mk h0
  clear h0
  have H1 := Sec.mk h1
  clear h1
  have hu := Tryz.underlying25
  have hu2 := Tryz.underlying30
  have T0 : Sec True := ⟨trivial⟩
  go_enter Tryz.func6, Tryz.ntmps6
  go_wp2_with (first | (clear T1; go_at_call 16; have T2 : Sec True := ⟨trivial⟩; refine (toSPlace_c v1 x.places ok _ (Kd.V_below H1.out (B1.out.setCell (p := ⟨w.heap.size + 1 + 1, 0, none⟩) (by show w.heap.size ≤ w.heap.size + 1 + 1; omega) _) (by decide))).mono ?_; rintro e w2 ⟨u1, rfl, hR, hb1⟩; obtain ⟨A1, n1, rfl, -, -⟩ := Kd.R_form hR; have Z2 : w1.heap.size ≤ w2.heap.size := (by have := hb1.size; simpa [World.setCell] using this); have R2 := Sec.mk (Kd.R_mono (S1 := fun k => w1.heap.size ≤ k ∧ k < w2.heap.size) hR (fun k h1 h2 => ⟨by simpa [World.setCell] using h1, h2⟩)); have G2 := Sec.mk (Foot.call ((Foot.refl (Own w 3) w1).set (.inl ⟨by omega, by omega⟩) _ _) hb1); have B2 := Sec.mk (bel (B1.out.setCell (p := ⟨w.heap.size + 1 + 1, 0, none⟩) (by show w.heap.size ≤ w.heap.size + 1 + 1; omega) _) hb1); have X := box_cells (b := w.heap.size) (cs := #[v0, v1]) (t := 25) hb1 ((Below.heap_setCell _ _ _ _ (by show w.heap.size ≠ w.heap.size + 1 + 1; omega)).trans P1.out.1); have p2_0 := X.2.1 0 _ rfl; have p2_1 := X.2.1 1 _ rfl; have P2 := Sec.mk X; clear X; have X := box_cells (b := w.heap.size + 1) (cs := #[.slice none 0 0, .slice none 0 0]) (t := 30) hb1 ((Below.heap_setCell _ _ _ _ (by show w.heap.size + 1 ≠ w.heap.size + 1 + 1; omega)).trans Q1.out.1); have q2_0 := X.2.1 0 _ rfl; have qf2_0 := X.2.2 0; have q2_1 := X.2.1 1 _ rfl; have qf2_1 := X.2.2 1; have Q2 := Sec.mk X; clear X; have X := box_cells (b := w.heap.size + 1 + 1) (cs := #[.slice A0 x.clauses.length n0, .slice none 0 0]) (t := 30) hb1 (box_store _ _ O1.out.1); have o2_0 := X.2.1 0 _ rfl; have of2_0 := X.2.2 0; have o2_1 := X.2.1 1 _ rfl; have of2_1 := X.2.2 1; have O2 := Sec.mk X; clear X; clear hb1 hR; clear p1_0 q1_0 qf1_0 o1_0 of1_0 p1_1 q1_1 qf1_1 o1_1 of1_1) | (clear T0; go_at_call 15; have T1 : Sec True := ⟨trivial⟩; refine (toSClause_c v0 x.clauses ok _ (Kd.V_below H0.out (belA (belA (belA (Below.refl _ _) _) _) _) (by decide))).mono ?_; rintro e w1 ⟨u0, rfl, hR, hb1⟩; obtain ⟨A0, n0, rfl, -, -⟩ := Kd.R_form hR; have Z1 : w.heap.size + 3 ≤ w1.heap.size := (by have := hb1.size; simp at this; omega); have R1 := Sec.mk (Kd.R_mono (S1 := fun k => w.heap.size + 3 ≤ k ∧ k < w1.heap.size) hR (fun k h1 h2 => ⟨by simp at h1; omega, h2⟩)); have G1 := Sec.mk (Foot.call ((((Foot.refl (Own w 3) w).alloc _).alloc _).alloc _) hb1); have B1 := Sec.mk (bel (belA (belA (belA (Below.refl _ _) _) _) _) hb1); have X := box_cells (b := w.heap.size) (cs := #[v0, v1]) (t := 25) hb1 (box3 _ _ _ _).1; have p1_0 := X.2.1 0 _ rfl; have p1_1 := X.2.1 1 _ rfl; have P1 := Sec.mk X; clear X; have X := box_cells (b := w.heap.size + 1) (cs := #[.slice none 0 0, .slice none 0 0]) (t := 30) hb1 (box3 _ _ _ _).2.1; have q1_0 := X.2.1 0 _ rfl; have qf1_0 := X.2.2 0; have q1_1 := X.2.1 1 _ rfl; have qf1_1 := X.2.2 1; have Q1 := Sec.mk X; clear X; have X := box_cells (b := w.heap.size + 1 + 1) (cs := #[.slice none 0 0, .slice none 0 0]) (t := 30) hb1 (box3 _ _ _ _).2.2; have o1_0 := X.2.1 0 _ rfl; have of1_0 := X.2.2 0; have o1_1 := X.2.1 1 _ rfl; have of1_1 := X.2.2 1; have O1 := Sec.mk X; clear X; clear hb1 hR))
  refine bodyPost_ret (v := .agg #[.slice A0 x.clauses.length n0, .slice A1 x.places.length n1]) (by simp [results, Tryz.results6, go_sem, q2_0, q2_1]) rfl ⟨[.slice A0 x.clauses.length n0, .slice A1 x.places.length n1], rfl, ?_, ?_⟩
  rotate_left
  · refine Foot.own (n := 3) (Foot.trans (S' := Own w 3) (G1.out.trans G2.out (fun _ _ h => h)) ?_ (fun _ _ h => h))
    exact (Foot.set (Foot.set (Foot.set (Foot.refl _ _) (.inl ⟨by omega, by omega⟩) _ _) (.inl ⟨by omega, by omega⟩) _ _) (.inl ⟨by omega, by omega⟩) _ _)
  · have FF : ∀ W, Foot (Own w 3) w2 W → kProg.O W (fun k => w.heap.size ≤ k) x [.slice A0 x.clauses.length n0, .slice A1 x.places.length n1] := fun W FF => ?_
    · refine FF _ ?_
      exact (Foot.set (Foot.set (Foot.set (Foot.refl _ _) (.inl ⟨by omega, by omega⟩) _ _) (.inl ⟨by omega, by omega⟩) _ _) (.inl ⟨by omega, by omega⟩) _ _)
    · exact (Kd.O_stack (d := (Kd.slice 27 kClause (by decide))) (e := (Kd.slice 28 kPlace (by decide))) (n0 := w.heap.size) (n1 := w1.heap.size) ⟨_, rfl, Kd.R_mono (Foot.R (Foot.trans (S' := Own w 3) G2.out FF (fun _ _ h => h)) R1.out (fun k h1 h2 => by have := h1.1; have := h2.2; omega)) (fun k h _ => by have := h.1; have := h.2; omega)⟩ ⟨_, rfl, Kd.R_mono (Foot.R FF R2.out (fun k h1 h2 => by have := h1.1; have := h2.2; omega)) (fun k h _ => by have := h.1; have := h.2; omega)⟩ (by omega))
set_option maxHeartbeats 2000000 in
theorem eqPrgProg_c (x y : Prog) (cs ds : List Value) (ok ok' : Nat → Prop) (w : World) (hK : kProg.K w ok x cs) (hD : kProg.K w ok' y ds) :
    Calls Tryz.prog 8 #[.agg cs.toArray, .agg ds.toArray] w fun e w' => e = .returned (.bool (decide (x = y))) ∧ Below w.heap.size w w' := by
  obtain ⟨_, _, rfl, ⟨v0, rfl, h0⟩, ⟨v1, rfl, h1⟩⟩ := hK
  have H0 := Sec.mk h0
  clear h0
  have H1 := Sec.mk h1
  clear h1
  obtain ⟨_, _, rfl, ⟨u0, rfl, g0⟩, ⟨u1, rfl, g1⟩⟩ := hD
  have G0 := Sec.mk g0
  clear g0
  have G1 := Sec.mk g1
  clear g1
  have hu := Tryz.underlying30
  have hxy := Sec.mk (Prog.ext_iff x y)
  have T0 : Sec True := ⟨trivial⟩
  by_cases h0 : x.clauses = y.clauses
  · have E0 := Sec.mk h0
    have d0 : decide (x.clauses = y.clauses) = true := decide_eq_true h0
    clear h0
    by_cases h1 : x.places = y.places
    · have E1 := Sec.mk h1
      have d1 : decide (x.places = y.places) = true := decide_eq_true h1
      clear h1
      have hd : Sec (decide (x = y) = true) := ⟨by rw [decide_eq_true_eq, hxy.out]; exact ⟨E0.out, E1.out⟩⟩
      go_enter Tryz.func8, Tryz.ntmps8
      go_wp2_with (first | (clear T1; go_at_call 20; have T2 : Sec True := ⟨trivial⟩; refine (eqSPlace_c v1 u1 x.places y.places ok ok' _ (Kd.V_below H1.out B1.out (by decide)) (Kd.V_below G1.out B1.out (by decide))).mono ?_; rintro e w2 ⟨rfl, hb1⟩; rw [d1]; have B2 := Sec.mk (bel B1.out hb1); have X := box_cells (b := w.heap.size) (cs := #[v0, v1]) (t := 30) hb1 P1.out.1; have p2_1 := X.2.1 1 _ rfl; have P2 := Sec.mk X; clear X; have X := box_cells (b := w.heap.size + 1) (cs := #[u0, u1]) (t := 30) hb1 Q1.out.1; have q2_1 := X.2.1 1 _ rfl; have Q2 := Sec.mk X; clear X hb1) | (clear T0; go_at_call 19; have T1 : Sec True := ⟨trivial⟩; refine (eqSClause_c v0 u0 x.clauses y.clauses ok ok' _ (Kd.V_below H0.out (belA (belA (Below.refl _ _) _) _) (by decide)) (Kd.V_below G0.out (belA (belA (Below.refl _ _) _) _) (by decide))).mono ?_; rintro e w1 ⟨rfl, hb1⟩; rw [d0]; have B1 := Sec.mk (bel (belA (belA (Below.refl _ _) _) _) hb1); have X := box_cells (b := w.heap.size) (cs := #[v0, v1]) (t := 30) hb1 (box2 _ _ _).1; have p1_0 := X.2.1 0 _ rfl; have p1_1 := X.2.1 1 _ rfl; have P1 := Sec.mk X; clear X; have X := box_cells (b := w.heap.size + 1) (cs := #[u0, u1]) (t := 30) hb1 (box2 _ _ _).2; have q1_0 := X.2.1 0 _ rfl; have q1_1 := X.2.1 1 _ rfl; have Q1 := Sec.mk X; clear X hb1))
      go_ret
      exact ⟨rb hd.out.symm, B2.out⟩
    · have hd : Sec (decide (x = y) = false) := ⟨by rw [decide_eq_false_iff_not, hxy.out]; exact fun h => h1 h.2⟩
      have d1 : decide (x.places = y.places) = false := decide_eq_false h1
      clear h1
      go_enter Tryz.func8, Tryz.ntmps8
      go_wp2_with (first | (clear T1; go_at_call 20; have T2 : Sec True := ⟨trivial⟩; refine (eqSPlace_c v1 u1 x.places y.places ok ok' _ (Kd.V_below H1.out B1.out (by decide)) (Kd.V_below G1.out B1.out (by decide))).mono ?_; rintro e w2 ⟨rfl, hb1⟩; rw [d1]; have B2 := Sec.mk (bel B1.out hb1); have X := box_cells (b := w.heap.size) (cs := #[v0, v1]) (t := 30) hb1 P1.out.1; have p2_1 := X.2.1 1 _ rfl; have P2 := Sec.mk X; clear X; have X := box_cells (b := w.heap.size + 1) (cs := #[u0, u1]) (t := 30) hb1 Q1.out.1; have q2_1 := X.2.1 1 _ rfl; have Q2 := Sec.mk X; clear X hb1) | (clear T0; go_at_call 19; have T1 : Sec True := ⟨trivial⟩; refine (eqSClause_c v0 u0 x.clauses y.clauses ok ok' _ (Kd.V_below H0.out (belA (belA (Below.refl _ _) _) _) (by decide)) (Kd.V_below G0.out (belA (belA (Below.refl _ _) _) _) (by decide))).mono ?_; rintro e w1 ⟨rfl, hb1⟩; rw [d0]; have B1 := Sec.mk (bel (belA (belA (Below.refl _ _) _) _) hb1); have X := box_cells (b := w.heap.size) (cs := #[v0, v1]) (t := 30) hb1 (box2 _ _ _).1; have p1_0 := X.2.1 0 _ rfl; have p1_1 := X.2.1 1 _ rfl; have P1 := Sec.mk X; clear X; have X := box_cells (b := w.heap.size + 1) (cs := #[u0, u1]) (t := 30) hb1 (box2 _ _ _).2; have q1_0 := X.2.1 0 _ rfl; have q1_1 := X.2.1 1 _ rfl; have Q1 := Sec.mk X; clear X hb1))
      go_ret
      exact ⟨rb hd.out.symm, B2.out⟩
  · have hd : Sec (decide (x = y) = false) := ⟨by rw [decide_eq_false_iff_not, hxy.out]; exact fun h => h0 h.1⟩
    have d0 : decide (x.clauses = y.clauses) = false := decide_eq_false h0
    clear h0
    go_enter Tryz.func8, Tryz.ntmps8
    go_wp2_with (first | (clear T0; go_at_call 19; have T1 : Sec True := ⟨trivial⟩; refine (eqSClause_c v0 u0 x.clauses y.clauses ok ok' _ (Kd.V_below H0.out (belA (belA (Below.refl _ _) _) _) (by decide)) (Kd.V_below G0.out (belA (belA (Below.refl _ _) _) _) (by decide))).mono ?_; rintro e w1 ⟨rfl, hb1⟩; rw [d0]; have B1 := Sec.mk (bel (belA (belA (Below.refl _ _) _) _) hb1); have X := box_cells (b := w.heap.size) (cs := #[v0, v1]) (t := 30) hb1 (box2 _ _ _).1; have p1_0 := X.2.1 0 _ rfl; have p1_1 := X.2.1 1 _ rfl; have P1 := Sec.mk X; clear X; have X := box_cells (b := w.heap.size + 1) (cs := #[u0, u1]) (t := 30) hb1 (box2 _ _ _).2; have q1_0 := X.2.1 0 _ rfl; have q1_1 := X.2.1 1 _ rfl; have Q1 := Sec.mk X; clear X hb1))
    go_ret
    exact ⟨rb hd.out.symm, B1.out⟩
def mProg : Mk Prog := ⟨fun x => mClause.cnts x.clauses + mPlace.cnts x.places, fun x k => ⟨mClause.mks x.clauses (k), mPlace.mks x.places (k + ((mClause.cnts x.clauses : Nat) : Int))⟩⟩
theorem mProg_cnt (x : Prog) : mProg.cnt x = mClause.cnts x.clauses + mPlace.cnts x.places := rfl
def mProgt : Mk Prog := ⟨fun x => mClause.cnts x.clauses + mPlace.cnts x.places, fun x k => ⟨mClause.mks x.clauses (k), mPlace.mks x.places (k + ((mClause.cnts x.clauses : Nat) : Int))⟩⟩
theorem mProgt_cnt (x : Prog) : mProgt.cnt x = mClause.cnts x.clauses + mPlace.cnts x.places := rfl
set_option maxHeartbeats 2000000 in
theorem markPrgProg_c (x : Prog) (cs : List Value) (S : Nat → Prop) (k : Int) (hk : 0 ≤ k) (hk2 : k + mProgt.cnt x ≤ 1000000000000000000) (w : World) (hO : kProg.O w S x cs) :
    Calls Tryz.prog 9 #[.agg cs.toArray, .int .i64 k] w fun e w' => e = .returned (.int .i64 (k + mProgt.cnt x)) ∧ kProg.O w' S (mProgt.one x k) cs ∧ Foot S w w' := by
  have hOw := Kd.O_below (kProg.O_mono hO (S1 := fun k => S k ∧ k < w.heap.size) (fun k h1 h2 => ⟨h1, h2⟩)) (belA (Below.refl _ _) (.cells cs.toArray 30))
  obtain ⟨v0, v1, rfl, -, -⟩ := kProg_K (kProg.O_K hO)
  have hu := Tryz.underlying30
  have hcx : Sec (mProgt.cnt x = _) := ⟨mProgt_cnt x⟩
  rw [mProgt_cnt x] at hk2
  have A0 := Sec.mk hOw
  have P0 := Sec.mk (box1 w (.cells #[v0, v1] 30))
  have F0 : Sec (Foot S w (w.alloc (.cells #[v0, v1] 30))) := ⟨(Foot.refl _ _).alloc _⟩
  have Z0 : Sec (w.heap.size < (w.alloc (.cells #[v0, v1] 30)).heap.size) := ⟨by simp⟩
  clear hO hOw
  have T0 : Sec True := ⟨trivial⟩
  obtain ⟨S0, r0, hs0, bk0⟩ := Kd.O_sub A0.out kProg_f_clauses (v := v0) rfl
  have SR0 := Sec.mk r0
  have SS0 := Sec.mk hs0
  have BK0 := Sec.mk bk0
  clear r0 hs0 bk0
  go_enter Tryz.func9, Tryz.ntmps9
  go_wp2_with (first | (clear T1; go_at_call 22; have T2 : Sec True := ⟨trivial⟩; refine (markSPlace_c v1 x.places S1 (k + ((mClause.cnts x.clauses : Nat) : Int)) (by omega) (by omega) _ SR1.out).mono ?_; rintro e w2 ⟨rfl, hR', hF'⟩; have A2 : Sec (kProg.O w2 (fun k => S k ∧ k < w.heap.size) ⟨(mClause.mks x.clauses (k)), (mPlace.mks x.places (k + ((mClause.cnts x.clauses : Nat) : Int)))⟩ [v0, v1]) := ⟨BK1.out w2 _ hR' hF'⟩; have X := box_at ((hF'.block w.heap.size Z1.out (fun e => absurd (SS1.out _ e).2 (Nat.lt_irrefl _))).trans P1.out); have P2 := Sec.mk X.1; have F2 : Sec (Foot S w w2) := ⟨F1.out.trans hF' (fun k _ h => (SS1.out k h).1)⟩; have Z2 : Sec (w.heap.size < w2.heap.size) := ⟨Nat.lt_of_lt_of_le Z1.out hF'.size⟩; clear X hR' hF'; clear c1_0 c1_1) | (clear T0; go_at_call 21; have T1 : Sec True := ⟨trivial⟩; refine (markSClause_c v0 x.clauses S0 (k) (by omega) (by omega) _ SR0.out).mono ?_; rintro e w1 ⟨rfl, hR', hF'⟩; have A1 : Sec (kProg.O w1 (fun k => S k ∧ k < w.heap.size) ⟨(mClause.mks x.clauses (k)), x.places⟩ [v0, v1]) := ⟨BK0.out w1 _ hR' hF'⟩; have X := box_at ((hF'.block w.heap.size Z0.out (fun e => absurd (SS0.out _ e).2 (Nat.lt_irrefl _))).trans P0.out); have P1 := Sec.mk X.1; have c1_0 := X.2.1 0 _ rfl; have c1_1 := X.2.1 1 _ rfl; have F1 : Sec (Foot S w w1) := ⟨F0.out.trans hF' (fun k _ h => (SS0.out k h).1)⟩; have Z1 : Sec (w.heap.size < w1.heap.size) := ⟨Nat.lt_of_lt_of_le Z0.out hF'.size⟩; clear X hR' hF'; obtain ⟨S1, r1, hs1, bk1⟩ := Kd.O_sub A1.out kProg_f_places (v := v1) rfl; have SR1 := Sec.mk r1; have SS1 := Sec.mk hs1; have BK1 := Sec.mk bk1; clear r1 hs1 bk1))
  go_ret
  exact ⟨ri (by rw [hcx.out]; omega), kProg.O_mono A2.out (fun k h _ => h.1), F2.out⟩
set_option maxHeartbeats 2000000 in
theorem heldPrgProg_c (x : Prog) (cs : List Value) (ok : Nat → Prop) (k : Int) (hk : 0 ≤ k) (hk2 : k + mProgt.cnt x ≤ 1000000000000000000) (w : World) (hK : kProg.K w ok (mProgt.one x k) cs) :
    Calls Tryz.prog 10 #[.agg cs.toArray, .int .i64 k] w fun e w' => e = .returned (.int .i64 (k + mProgt.cnt x)) ∧ Below w.heap.size w w' := by
  have hu := Tryz.underlying30
  have hcx : Sec (mProgt.cnt x = _) := ⟨mProgt_cnt x⟩
  rw [mProgt_cnt x] at hk2
  obtain ⟨_, _, rfl, ⟨v0, rfl, h0⟩, ⟨v1, rfl, h1⟩⟩ := hK
  have H0 : Sec (kClause.V w ok v0 (mClause.mks x.clauses (k))) := ⟨h0⟩
  clear h0
  have H1 : Sec (kPlace.V w ok v1 (mPlace.mks x.places (k + ((mClause.cnts x.clauses : Nat) : Int)))) := ⟨h1⟩
  clear h1
  have T0 : Sec True := ⟨trivial⟩
  go_enter Tryz.func10, Tryz.ntmps10
  go_wp2_with (first | (clear T1; go_at_call 24; have T2 : Sec True := ⟨trivial⟩; refine (heldSPlace_c v1 x.places ok (k + ((mClause.cnts x.clauses : Nat) : Int)) (by omega) (by omega) _ (Kd.V_below H1.out B1.out (by decide))).mono ?_; rintro e w2 ⟨rfl, hb1⟩; have B2 := Sec.mk (bel B1.out hb1); have X := box_cells hb1 P1.out; have P2 := Sec.mk X.1; clear X hb1) | (clear T0; go_at_call 23; have T1 : Sec True := ⟨trivial⟩; refine (heldSClause_c v0 x.clauses ok (k) (by omega) (by omega) _ (Kd.V_below H0.out (belA (Below.refl _ _) _) (by decide))).mono ?_; rintro e w1 ⟨rfl, hb1⟩; have B1 := Sec.mk (bel (belA (Below.refl _ _) _) hb1); have X := box_cells hb1 (box1 _ _); have P1 := Sec.mk X.1; have c1_0 := X.2.1 0 _ rfl; have c1_1 := X.2.1 1 _ rfl; clear X hb1))
  go_ret
  exact ⟨ri (by rw [hcx.out]; omega), B2.out⟩
theorem rProg_le6 (x : Prog) : mProg.cnt x ≤ 8 + 8 * rProg.wt x := by
  rw [mProg_cnt]; rw [rProg_wt]; have := Mk.cnts_le6 rClause_le6 x.clauses; have := Mk.cnts_le6 rPlace_le6 x.places; omega
theorem rProg_tle (x : Prog) : mProgt.cnt x ≤ 8 * rProg.wt x := by
  rw [mProgt_cnt, rProg_wt]; have := Mk.cnts_le6 rClause_le6 x.clauses; have := Mk.cnts_le6 rPlace_le6 x.places; omega
end Go.Proofs.YtenigopoknajgaaGreatDoor
