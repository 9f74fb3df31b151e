/- What the exact laws' own functions do with the type PrgGoal: turned, sized, compared, marked, held. -/
import Derived.Test.YtggchcljkehefaaXCell
namespace Go.Proofs.Ytggchcljkehefaa
open Go.RowKit
set_option linter.unusedVariables false
set_option maxRecDepth 100000
def kGoal : Kd Goal := Kd.iso 94 (Kd.pair (Kd.int 3) (Kd.pair (Kd.slice 29 kCell (by decide)) (Kd.pair (Kd.slice 29 kCell (by decide)) (Kd.slice 29 kCell (by decide))))) (fun x => (x.kind, x.a, x.b, x.c))
theorem kGoal_K {w : World} {ok : Nat → Prop} {x : Goal} {cs : List Value} (h : kGoal.K w ok x cs) : ∃ v1 v2 v3, cs = [.int .i64 x.kind, v1, v2, v3] ∧ kCell.V w ok v1 x.a ∧ kCell.V w ok v2 x.b ∧ kCell.V w ok v3 x.c := by
  obtain ⟨_, _, rfl, ⟨rfl, _⟩, ⟨_, _, rfl, ⟨v1, rfl, h1⟩, ⟨_, _, rfl, ⟨v2, rfl, h2⟩, ⟨v3, rfl, h3⟩⟩⟩⟩ := h
  exact ⟨v1, v2, v3, rfl, h1, h2, h3⟩
def rGoal : Raw Goal := Raw.iso 79 (Raw.pair (Raw.int 3) (Raw.pair (Raw.slice 25 rCell) (Raw.pair (Raw.slice 25 rCell) (Raw.slice 25 rCell)))) (fun x => (x.kind, x.a, x.b, x.c))
theorem rGoal_K {w : World} {x : Goal} {cs : List Value} (h : rGoal.K w x cs) : ∃ v1 v2 v3, cs = [.int .i64 x.kind, v1, v2, v3] ∧ rCell.V w v1 x.a ∧ rCell.V w v2 x.b ∧ rCell.V w v3 x.c := by
  obtain ⟨_, _, rfl, ⟨rfl, _⟩, ⟨_, _, rfl, ⟨v1, rfl, h1⟩, ⟨_, _, rfl, ⟨v2, rfl, h2⟩, ⟨v3, rfl, h3⟩⟩⟩⟩ := h
  exact ⟨v1, v2, v3, rfl, h1, h2, h3⟩
theorem rGoal_mono : Raw.Mono rGoal := Raw.mono_iso (Raw.mono_pair Raw.mono_scalar (Raw.mono_pair (Raw.mono_slice rCell_mono) (Raw.mono_pair (Raw.mono_slice rCell_mono) (Raw.mono_slice rCell_mono))))
theorem rGoal_wt (x : Goal) : rGoal.wt x = (HAdd.hAdd 0 (HAdd.hAdd (rCell.wts x.a) (HAdd.hAdd (rCell.wts x.b) (rCell.wts x.c)))) := rfl
theorem rGoal_fits : Raw.Fits rGoal kGoal := Raw.fits_iso (Raw.fits_pair (Raw.fits_int _ _) (Raw.fits_pair (Raw.fits_slice rCell_fits _ _ (by decide)) (Raw.fits_pair (Raw.fits_slice rCell_fits _ _ (by decide)) (Raw.fits_slice rCell_fits _ _ (by decide))))) _ _ _
theorem rGoal_opn : Raw.Opn Try.prog rGoal := Raw.opn_struct Try.underlying79 (by kernel_rfl) (fun b => ⟨⟨b.1, b.2.1, b.2.2.1, b.2.2.2⟩, rfl⟩) (Raw.opnF_cons (Raw.opn_int Try.underlying3) rfl rfl (by kernel_rfl) (by decide) (Raw.opnF_cons (Raw.opn_slice (r := rCell) Try.underlying25 (by kernel_rfl) (by decide) rCell_opn) rfl rfl (by kernel_rfl) (by decide) (Raw.opnF_cons (Raw.opn_slice (r := rCell) Try.underlying25 (by kernel_rfl) (by decide) rCell_opn) rfl rfl (by kernel_rfl) (by decide) (Raw.opnF_last (Raw.opn_slice (r := rCell) Try.underlying25 (by kernel_rfl) (by decide) rCell_opn) rfl rfl (by kernel_rfl) (by decide)))))
theorem Goal.ext_iff (a b : Goal) : a = b ↔ a.kind = b.kind ∧ a.a = b.a ∧ a.b = b.b ∧ a.c = b.c := by
  cases a; cases b; simp
instance : DecidableEq Goal := fun a b => decidable_of_iff _ (Goal.ext_iff a b).symm
def zeroGoal : Goal := ⟨0, [], [], []⟩
theorem kGoal_zero (w : World) : kGoal.O w (fun _ => False) zeroGoal [.int .i64 0, .slice none 0 0, .slice none 0 0, .slice none 0 0] := (Kd.O_pair0 (d := (Kd.int 3)) (e := (Kd.pair (Kd.slice 29 kCell (by decide)) (Kd.pair (Kd.slice 29 kCell (by decide)) (Kd.slice 29 kCell (by decide))))) ⟨rfl, trivial⟩ (Kd.O_pair0 (d := (Kd.slice 29 kCell (by decide))) (e := (Kd.pair (Kd.slice 29 kCell (by decide)) (Kd.slice 29 kCell (by decide)))) ⟨_, rfl, Kd.R_nil _ _ _⟩ (Kd.O_pair0 (d := (Kd.slice 29 kCell (by decide))) (e := (Kd.slice 29 kCell (by decide))) ⟨_, rfl, Kd.R_nil _ _ _⟩ ⟨_, rfl, Kd.R_nil _ _ _⟩)))
theorem kGoal_f_kind : Kd.Fld kGoal (Kd.int 3) 0 (fun x => x.kind) (fun x y => { x with kind := y }) := Kd.Fld.iso _ (Kd.Fld.fst (Kd.Fld.self _)) (fun _ _ => rfl)
theorem kGoal_f_a : Kd.Fld kGoal (Kd.slice 29 kCell (by decide)) 1 (fun x => x.a) (fun x y => { x with a := y }) := Kd.Fld.iso _ (Kd.Fld.snd (Kd.Fld.fst (Kd.Fld.self _))) (fun _ _ => rfl)
theorem kGoal_f_b : Kd.Fld kGoal (Kd.slice 29 kCell (by decide)) 2 (fun x => x.b) (fun x y => { x with b := y }) := Kd.Fld.iso _ (Kd.Fld.snd (Kd.Fld.snd (Kd.Fld.fst (Kd.Fld.self _)))) (fun _ _ => rfl)
theorem kGoal_f_c : Kd.Fld kGoal (Kd.slice 29 kCell (by decide)) 3 (fun x => x.c) (fun x y => { x with c := y }) := Kd.Fld.iso _ (Kd.Fld.snd (Kd.Fld.snd (Kd.Fld.snd (Kd.Fld.self _)))) (fun _ _ => rfl)
theorem szPrgGoal_c (x : Goal) (cs : List Value) (left : Nat) (hl : left ≤ 1048576) (w : World) (hK : rGoal.K w x cs) :
    Calls Try.prog 66 #[.agg cs.toArray, .int .i64 left] w fun e w' => e = .returned (.int .i64 (Raw.spent (rGoal.wt x) left)) ∧ Below w.heap.size w w' := by
  obtain ⟨_, _, rfl, ⟨rfl, _⟩, ⟨_, _, rfl, ⟨v1, rfl, h1⟩, ⟨_, _, rfl, ⟨v2, rfl, h2⟩, ⟨v3, rfl, h3⟩⟩⟩⟩ := hK
  have H1 := Sec.mk h1
  clear h1
  have H2 := Sec.mk h2
  clear h2
  have H3 := Sec.mk h3
  clear h3
  have hu := Try.underlying79
  have hb0 := hl
  have T0 : Sec True := ⟨trivial⟩
  by_cases e0 : rCell.wts x.a ≤ left
  · have s0 := Raw.spent_le e0
    have L0 := Sec.mk (show (left - rCell.wts x.a) + rCell.wts x.a = left by omega)
    have hb1 : left - rCell.wts x.a ≤ 1048576 := by omega
    generalize left - rCell.wts x.a = l0 at *
    have n0 : ¬ ((l0 : Int) < 0) := by omega
    by_cases e1 : rCell.wts x.b ≤ l0
    · have s1 := Raw.spent_le e1
      have L1 := Sec.mk (show (l0 - rCell.wts x.b) + rCell.wts x.b = l0 by omega)
      have hb2 : l0 - rCell.wts x.b ≤ 1048576 := by omega
      generalize l0 - rCell.wts x.b = l1 at *
      have n1 : ¬ ((l1 : Int) < 0) := by omega
      by_cases e2 : rCell.wts x.c ≤ l1
      · have s2 := Raw.spent_le e2
        have L2 := Sec.mk (show (l1 - rCell.wts x.c) + rCell.wts x.c = l1 by omega)
        have hb3 : l1 - rCell.wts x.c ≤ 1048576 := by omega
        generalize l1 - rCell.wts x.c = l2 at *
        have n2 : ¬ ((l2 : Int) < 0) := by omega
        have hfin : Sec ((l2 : Int) = Raw.spent (rGoal.wt x) left) := ⟨by rw [Raw.spent_le (by rw [rGoal_wt]; have := L0.out; have := L1.out; have := L2.out; omega), rGoal_wt]; have := L0.out; have := L1.out; have := L2.out; omega⟩
        go_enter Try.func66, Try.ntmps66
        go_wp2_with (first | (clear T2; go_at_call 22; have T3 : Sec True := ⟨trivial⟩; refine (szSCell_c v3 x.c l1 hb2 _ (Raw.mono_V rCell_mono B1.out H3.out)).mono ?_; rintro e w3 ⟨rfl, hb1⟩; rw [s2]; have B2 := Sec.mk (bel B1.out hb1); have Q := box_cells hb1 (P1.out.1); have P2 := Sec.mk Q; clear Q hb1) | (clear T1; go_at_call 22; have T2 : Sec True := ⟨trivial⟩; refine (szSCell_c v2 x.b l0 hb1 _ (Raw.mono_V rCell_mono B0.out H2.out)).mono ?_; rintro e w2 ⟨rfl, hb1⟩; rw [s1]; have B1 := Sec.mk (bel B0.out hb1); have Q := box_cells hb1 (P0.out.1); have c1_0 := Q.2.1 0 _ rfl; have c1_1 := Q.2.1 1 _ rfl; have c1_2 := Q.2.1 2 _ rfl; have c1_3 := Q.2.1 3 _ rfl; have P1 := Sec.mk Q; clear Q hb1) | (clear T0; go_at_call 22; have T1 : Sec True := ⟨trivial⟩; refine (szSCell_c v1 x.a left hb0 _ (Raw.mono_V rCell_mono (belA (Below.refl _ _) _) H1.out)).mono ?_; rintro e w1 ⟨rfl, hb1⟩; rw [s0]; have B0 := Sec.mk (bel (belA (Below.refl _ _) _) hb1); have Q := box_cells hb1 (box1 _ _); have c0_0 := Q.2.1 0 _ rfl; have c0_1 := Q.2.1 1 _ rfl; have c0_2 := Q.2.1 2 _ rfl; have c0_3 := Q.2.1 3 _ rfl; have P0 := Sec.mk Q; clear Q hb1))
        go_ret
        exact ⟨ri hfin.out, B2.out⟩
      · have s2 := Raw.spent_gt e2
        have hfin : Sec (Raw.spent (rGoal.wt x) left = -1) := ⟨Raw.spent_gt (by rw [rGoal_wt]; have := L0.out; have := L1.out; omega)⟩
        go_enter Try.func66, Try.ntmps66
        go_wp2_with (first | (clear T2; go_at_call 22; have T3 : Sec True := ⟨trivial⟩; refine (szSCell_c v3 x.c l1 hb2 _ (Raw.mono_V rCell_mono B1.out H3.out)).mono ?_; rintro e w3 ⟨rfl, hb1⟩; rw [s2]; have B2 := Sec.mk (bel B1.out hb1); have Q := box_cells hb1 (P1.out.1); have P2 := Sec.mk Q; clear Q hb1) | (clear T1; go_at_call 22; have T2 : Sec True := ⟨trivial⟩; refine (szSCell_c v2 x.b l0 hb1 _ (Raw.mono_V rCell_mono B0.out H2.out)).mono ?_; rintro e w2 ⟨rfl, hb1⟩; rw [s1]; have B1 := Sec.mk (bel B0.out hb1); have Q := box_cells hb1 (P0.out.1); have c1_0 := Q.2.1 0 _ rfl; have c1_1 := Q.2.1 1 _ rfl; have c1_2 := Q.2.1 2 _ rfl; have c1_3 := Q.2.1 3 _ rfl; have P1 := Sec.mk Q; clear Q hb1) | (clear T0; go_at_call 22; have T1 : Sec True := ⟨trivial⟩; refine (szSCell_c v1 x.a left hb0 _ (Raw.mono_V rCell_mono (belA (Below.refl _ _) _) H1.out)).mono ?_; rintro e w1 ⟨rfl, hb1⟩; rw [s0]; have B0 := Sec.mk (bel (belA (Below.refl _ _) _) hb1); have Q := box_cells hb1 (box1 _ _); have c0_0 := Q.2.1 0 _ rfl; have c0_1 := Q.2.1 1 _ rfl; have c0_2 := Q.2.1 2 _ rfl; have c0_3 := Q.2.1 3 _ rfl; have P0 := Sec.mk Q; clear Q hb1))
        go_ret
        exact ⟨ri hfin.out.symm, B2.out⟩
    · have s1 := Raw.spent_gt e1
      have hfin : Sec (Raw.spent (rGoal.wt x) left = -1) := ⟨Raw.spent_gt (by rw [rGoal_wt]; have := L0.out; omega)⟩
      go_enter Try.func66, Try.ntmps66
      go_wp2_with (first | (clear T1; go_at_call 22; have T2 : Sec True := ⟨trivial⟩; refine (szSCell_c v2 x.b l0 hb1 _ (Raw.mono_V rCell_mono B0.out H2.out)).mono ?_; rintro e w2 ⟨rfl, hb1⟩; rw [s1]; have B1 := Sec.mk (bel B0.out hb1); have Q := box_cells hb1 (P0.out.1); have P1 := Sec.mk Q; clear Q hb1) | (clear T0; go_at_call 22; have T1 : Sec True := ⟨trivial⟩; refine (szSCell_c v1 x.a left hb0 _ (Raw.mono_V rCell_mono (belA (Below.refl _ _) _) H1.out)).mono ?_; rintro e w1 ⟨rfl, hb1⟩; rw [s0]; have B0 := Sec.mk (bel (belA (Below.refl _ _) _) hb1); have Q := box_cells hb1 (box1 _ _); have c0_0 := Q.2.1 0 _ rfl; have c0_1 := Q.2.1 1 _ rfl; have c0_2 := Q.2.1 2 _ rfl; have c0_3 := Q.2.1 3 _ rfl; have P0 := Sec.mk Q; clear Q hb1))
      go_ret
      exact ⟨ri hfin.out.symm, B1.out⟩
  · have s0 := Raw.spent_gt e0
    have hfin : Sec (Raw.spent (rGoal.wt x) left = -1) := ⟨Raw.spent_gt (by rw [rGoal_wt]; omega)⟩
    go_enter Try.func66, Try.ntmps66
    go_wp2_with (first | (clear T0; go_at_call 22; have T1 : Sec True := ⟨trivial⟩; refine (szSCell_c v1 x.a left hb0 _ (Raw.mono_V rCell_mono (belA (Below.refl _ _) _) H1.out)).mono ?_; rintro e w1 ⟨rfl, hb1⟩; rw [s0]; have B0 := Sec.mk (bel (belA (Below.refl _ _) _) hb1); have Q := box_cells hb1 (box1 _ _); have P0 := Sec.mk Q; clear Q hb1))
    go_ret
    exact ⟨ri hfin.out.symm, B0.out⟩
set_option maxHeartbeats 1000000 in
theorem toPrgGoal_c (x : Goal) (cs : List Value) (ok : Nat → Prop) (w : World) (hK : kGoal.K w ok x cs) :
    Calls Try.prog 68 #[.agg cs.toArray] w fun e w' => ∃ c : List Value, e = .returned (.agg c.toArray) ∧ kGoal.O w' (fun k => w.heap.size ≤ k) x c ∧ Below w.heap.size w w' := by
  obtain ⟨_, _, rfl, ⟨rfl, _⟩, ⟨_, _, rfl, ⟨v1, rfl, h1⟩, ⟨_, _, rfl, ⟨v2, rfl, h2⟩, ⟨v3, rfl, h3⟩⟩⟩⟩ := hK
  have H1 := Sec.mk h1
  clear h1
  have H2 := Sec.mk h2
  clear h2
  have H3 := Sec.mk h3
  clear h3
  have hu := Try.underlying79
  have hu2 := Try.underlying94
  have T0 : Sec True := ⟨trivial⟩
  go_enter Try.func68, Try.ntmps68
  go_wp2_with (first | (clear T2; go_at_call 27; have T3 : Sec True := ⟨trivial⟩; refine (toSCell_c v3 x.c ok _ (Kd.V_below H3.out (B2.out.setCell (p := ⟨w.heap.size + 1 + 1, 2, none⟩) (by show w.heap.size ≤ w.heap.size + 1 + 1; omega) _) (by decide))).mono ?_; rintro e w3 ⟨u3, rfl, hR, hb1⟩; obtain ⟨A3, n3, rfl, -, -⟩ := Kd.R_form hR; have Z3 : w2.heap.size ≤ w3.heap.size := (by have := hb1.size; simpa [World.setCell] using this); have R3 := Sec.mk (Kd.R_mono (S1 := fun k => w2.heap.size ≤ k ∧ k < w3.heap.size) hR (fun k h1 h2 => ⟨by simpa [World.setCell] using h1, h2⟩)); have G3 := Sec.mk (Foot.call ((Foot.refl (Own w 3) w2).set (.inl ⟨by omega, by omega⟩) _ _) hb1); have B3 := Sec.mk (bel (B2.out.setCell (p := ⟨w.heap.size + 1 + 1, 2, none⟩) (by show w.heap.size ≤ w.heap.size + 1 + 1; omega) _) hb1); have X := box_cells (b := w.heap.size) (cs := #[.int .i64 x.kind, v1, v2, v3]) (t := 79) hb1 ((Below.heap_setCell _ _ _ _ (by show w.heap.size ≠ w.heap.size + 1 + 1; omega)).trans P2.out.1); have p3_0 := X.2.1 0 _ rfl; have p3_1 := X.2.1 1 _ rfl; have p3_2 := X.2.1 2 _ rfl; have p3_3 := X.2.1 3 _ rfl; have P3 := Sec.mk X; clear X; have X := box_cells (b := w.heap.size + 1) (cs := #[.int .i64 0, .slice none 0 0, .slice none 0 0, .slice none 0 0]) (t := 94) hb1 ((Below.heap_setCell _ _ _ _ (by show w.heap.size + 1 ≠ w.heap.size + 1 + 1; omega)).trans Q2.out.1); have q3_0 := X.2.1 0 _ rfl; have qf3_0 := X.2.2 0; have q3_1 := X.2.1 1 _ rfl; have qf3_1 := X.2.2 1; have q3_2 := X.2.1 2 _ rfl; have qf3_2 := X.2.2 2; have q3_3 := X.2.1 3 _ rfl; have qf3_3 := X.2.2 3; have Q3 := Sec.mk X; clear X; have X := box_cells (b := w.heap.size + 1 + 1) (cs := #[.int .i64 x.kind, .slice A1 x.a.length n1, .slice A2 x.b.length n2, .slice none 0 0]) (t := 94) hb1 (box_store _ _ O2.out.1); have o3_0 := X.2.1 0 _ rfl; have of3_0 := X.2.2 0; have o3_1 := X.2.1 1 _ rfl; have of3_1 := X.2.2 1; have o3_2 := X.2.1 2 _ rfl; have of3_2 := X.2.2 2; have o3_3 := X.2.1 3 _ rfl; have of3_3 := X.2.2 3; have O3 := Sec.mk X; clear X; clear hb1 hR; clear p2_0 q2_0 qf2_0 o2_0 of2_0 p2_1 q2_1 qf2_1 o2_1 of2_1 p2_2 q2_2 qf2_2 o2_2 of2_2 p2_3 q2_3 qf2_3 o2_3 of2_3) | (clear T1; go_at_call 27; have T2 : Sec True := ⟨trivial⟩; refine (toSCell_c v2 x.b ok _ (Kd.V_below H2.out (B1.out.setCell (p := ⟨w.heap.size + 1 + 1, 1, none⟩) (by show w.heap.size ≤ w.heap.size + 1 + 1; omega) _) (by decide))).mono ?_; rintro e w2 ⟨u2, rfl, hR, hb1⟩; obtain ⟨A2, n2, rfl, -, -⟩ := Kd.R_form hR; have Z2 : w1.heap.size ≤ w2.heap.size := (by have := hb1.size; simpa [World.setCell] using this); have R2 := Sec.mk (Kd.R_mono (S1 := fun k => w1.heap.size ≤ k ∧ k < w2.heap.size) hR (fun k h1 h2 => ⟨by simpa [World.setCell] using h1, h2⟩)); have G2 := Sec.mk (Foot.call ((Foot.refl (Own w 3) w1).set (.inl ⟨by omega, by omega⟩) _ _) hb1); have B2 := Sec.mk (bel (B1.out.setCell (p := ⟨w.heap.size + 1 + 1, 1, none⟩) (by show w.heap.size ≤ w.heap.size + 1 + 1; omega) _) hb1); have X := box_cells (b := w.heap.size) (cs := #[.int .i64 x.kind, v1, v2, v3]) (t := 79) hb1 ((Below.heap_setCell _ _ _ _ (by show w.heap.size ≠ w.heap.size + 1 + 1; omega)).trans P1.out.1); have p2_0 := X.2.1 0 _ rfl; have p2_1 := X.2.1 1 _ rfl; have p2_2 := X.2.1 2 _ rfl; have p2_3 := X.2.1 3 _ rfl; have P2 := Sec.mk X; clear X; have X := box_cells (b := w.heap.size + 1) (cs := #[.int .i64 0, .slice none 0 0, .slice none 0 0, .slice none 0 0]) (t := 94) hb1 ((Below.heap_setCell _ _ _ _ (by show w.heap.size + 1 ≠ w.heap.size + 1 + 1; omega)).trans Q1.out.1); have q2_0 := X.2.1 0 _ rfl; have qf2_0 := X.2.2 0; have q2_1 := X.2.1 1 _ rfl; have qf2_1 := X.2.2 1; have q2_2 := X.2.1 2 _ rfl; have qf2_2 := X.2.2 2; have q2_3 := X.2.1 3 _ rfl; have qf2_3 := X.2.2 3; have Q2 := Sec.mk X; clear X; have X := box_cells (b := w.heap.size + 1 + 1) (cs := #[.int .i64 x.kind, .slice A1 x.a.length n1, .slice none 0 0, .slice none 0 0]) (t := 94) hb1 (box_store _ _ O1.out.1); have o2_0 := X.2.1 0 _ rfl; have of2_0 := X.2.2 0; have o2_1 := X.2.1 1 _ rfl; have of2_1 := X.2.2 1; have o2_2 := X.2.1 2 _ rfl; have of2_2 := X.2.2 2; have o2_3 := X.2.1 3 _ rfl; have of2_3 := X.2.2 3; have O2 := Sec.mk X; clear X; clear hb1 hR; clear p1_0 q1_0 qf1_0 o1_0 of1_0 p1_1 q1_1 qf1_1 o1_1 of1_1 p1_2 q1_2 qf1_2 o1_2 of1_2 p1_3 q1_3 qf1_3 o1_3 of1_3) | (clear T0; go_at_call 27; have T1 : Sec True := ⟨trivial⟩; refine (toSCell_c v1 x.a ok _ (Kd.V_below H1.out (belA (belA (belA (Below.refl _ _) _) _) _) (by decide))).mono ?_; rintro e w1 ⟨u1, rfl, hR, hb1⟩; obtain ⟨A1, n1, rfl, -, -⟩ := Kd.R_form hR; have Z1 : w.heap.size + 3 ≤ w1.heap.size := (by have := hb1.size; simp at this; omega); have R1 := Sec.mk (Kd.R_mono (S1 := fun k => w.heap.size + 3 ≤ k ∧ k < w1.heap.size) hR (fun k h1 h2 => ⟨by simp at h1; omega, h2⟩)); have G1 := Sec.mk (Foot.call ((((Foot.refl (Own w 3) w).alloc _).alloc _).alloc _) hb1); have B1 := Sec.mk (bel (belA (belA (belA (Below.refl _ _) _) _) _) hb1); have X := box_cells (b := w.heap.size) (cs := #[.int .i64 x.kind, v1, v2, v3]) (t := 79) hb1 (box3 _ _ _ _).1; have p1_0 := X.2.1 0 _ rfl; have p1_1 := X.2.1 1 _ rfl; have p1_2 := X.2.1 2 _ rfl; have p1_3 := X.2.1 3 _ rfl; have P1 := Sec.mk X; clear X; have X := box_cells (b := w.heap.size + 1) (cs := #[.int .i64 0, .slice none 0 0, .slice none 0 0, .slice none 0 0]) (t := 94) hb1 (box3 _ _ _ _).2.1; have q1_0 := X.2.1 0 _ rfl; have qf1_0 := X.2.2 0; have q1_1 := X.2.1 1 _ rfl; have qf1_1 := X.2.2 1; have q1_2 := X.2.1 2 _ rfl; have qf1_2 := X.2.2 2; have q1_3 := X.2.1 3 _ rfl; have qf1_3 := X.2.2 3; have Q1 := Sec.mk X; clear X; have X := box_cells (b := w.heap.size + 1 + 1) (cs := #[.int .i64 x.kind, .slice none 0 0, .slice none 0 0, .slice none 0 0]) (t := 94) hb1 (box3 _ _ _ _).2.2; have o1_0 := X.2.1 0 _ rfl; have of1_0 := X.2.2 0; have o1_1 := X.2.1 1 _ rfl; have of1_1 := X.2.2 1; have o1_2 := X.2.1 2 _ rfl; have of1_2 := X.2.2 2; have o1_3 := X.2.1 3 _ rfl; have of1_3 := X.2.2 3; have O1 := Sec.mk X; clear X; clear hb1 hR))
  refine bodyPost_ret (v := .agg #[.int .i64 x.kind, .slice A1 x.a.length n1, .slice A2 x.b.length n2, .slice A3 x.c.length n3]) (by simp [results, Try.results68, go_sem, q3_0, q3_1, q3_2, q3_3]) rfl ⟨[.int .i64 x.kind, .slice A1 x.a.length n1, .slice A2 x.b.length n2, .slice A3 x.c.length n3], rfl, ?_, ?_⟩
  rotate_left
  · refine Foot.own (n := 3) (Foot.trans (S' := Own w 3) ((G1.out.trans G2.out (fun _ _ h => h)).trans G3.out (fun _ _ h => h)) ?_ (fun _ _ h => h))
    exact (Foot.set (Foot.set (Foot.set (Foot.set (Foot.set (Foot.refl _ _) (.inl ⟨by omega, by omega⟩) _ _) (.inl ⟨by omega, by omega⟩) _ _) (.inl ⟨by omega, by omega⟩) _ _) (.inl ⟨by omega, by omega⟩) _ _) (.inl ⟨by omega, by omega⟩) _ _)
  · have FF : ∀ W, Foot (Own w 3) w3 W → kGoal.O W (fun k => w.heap.size ≤ k) x [.int .i64 x.kind, .slice A1 x.a.length n1, .slice A2 x.b.length n2, .slice A3 x.c.length n3] := fun W FF => ?_
    · refine FF _ ?_
      exact (Foot.set (Foot.set (Foot.set (Foot.set (Foot.set (Foot.refl _ _) (.inl ⟨by omega, by omega⟩) _ _) (.inl ⟨by omega, by omega⟩) _ _) (.inl ⟨by omega, by omega⟩) _ _) (.inl ⟨by omega, by omega⟩) _ _) (.inl ⟨by omega, by omega⟩) _ _)
    · exact (Kd.O_stack (d := (Kd.int 3)) (e := (Kd.pair (Kd.slice 29 kCell (by decide)) (Kd.pair (Kd.slice 29 kCell (by decide)) (Kd.slice 29 kCell (by decide))))) (n0 := w.heap.size) (n1 := w.heap.size) ⟨rfl, trivial⟩ (Kd.O_stack (d := (Kd.slice 29 kCell (by decide))) (e := (Kd.pair (Kd.slice 29 kCell (by decide)) (Kd.slice 29 kCell (by decide)))) (n0 := w.heap.size) (n1 := w1.heap.size) ⟨_, rfl, Kd.R_mono (Foot.R (Foot.trans (S' := Own w 3) (G2.out.trans G3.out (fun _ _ h => h)) FF (fun _ _ h => h)) R1.out (fun k h1 h2 => by have := h1.1; have := h2.2; omega)) (fun k h _ => by have := h.1; have := h.2; omega)⟩ (Kd.O_stack (d := (Kd.slice 29 kCell (by decide))) (e := (Kd.slice 29 kCell (by decide))) (n0 := w1.heap.size) (n1 := w2.heap.size) ⟨_, rfl, Kd.R_mono (Foot.R (Foot.trans (S' := Own w 3) G3.out FF (fun _ _ h => h)) R2.out (fun k h1 h2 => by have := h1.1; have := h2.2; omega)) (fun k h _ => by have := h.1; have := h.2; omega)⟩ ⟨_, rfl, Kd.R_mono (Foot.R FF R3.out (fun k h1 h2 => by have := h1.1; have := h2.2; omega)) (fun k h _ => by have := h.1; have := h.2; omega)⟩ (by omega)) (by omega)) (by omega))
set_option maxHeartbeats 2000000 in
theorem eqPrgGoal_c (x y : Goal) (cs ds : List Value) (ok ok' : Nat → Prop) (w : World) (hK : kGoal.K w ok x cs) (hD : kGoal.K w ok' y ds) :
    Calls Try.prog 70 #[.agg cs.toArray, .agg ds.toArray] w fun e w' => e = .returned (.bool (decide (x = y))) ∧ Below w.heap.size w w' := by
  obtain ⟨_, _, rfl, ⟨rfl, _⟩, ⟨_, _, rfl, ⟨v1, rfl, h1⟩, ⟨_, _, rfl, ⟨v2, rfl, h2⟩, ⟨v3, rfl, h3⟩⟩⟩⟩ := hK
  have H1 := Sec.mk h1
  clear h1
  have H2 := Sec.mk h2
  clear h2
  have H3 := Sec.mk h3
  clear h3
  obtain ⟨_, _, rfl, ⟨rfl, _⟩, ⟨_, _, rfl, ⟨u1, rfl, g1⟩, ⟨_, _, rfl, ⟨u2, rfl, g2⟩, ⟨u3, rfl, g3⟩⟩⟩⟩ := hD
  have G1 := Sec.mk g1
  clear g1
  have G2 := Sec.mk g2
  clear g2
  have G3 := Sec.mk g3
  clear g3
  have hu := Try.underlying94
  have hxy := Sec.mk (Goal.ext_iff x y)
  have T0 : Sec True := ⟨trivial⟩
  by_cases h0 : x.kind = y.kind
  · have E0 := Sec.mk h0
    have d0 : (x.kind == y.kind) = true := beq_iff_eq.2 h0
    clear h0
    by_cases h1 : x.a = y.a
    · have E1 := Sec.mk h1
      have d1 : decide (x.a = y.a) = true := decide_eq_true h1
      clear h1
      by_cases h2 : x.b = y.b
      · have E2 := Sec.mk h2
        have d2 : decide (x.b = y.b) = true := decide_eq_true h2
        clear h2
        by_cases h3 : x.c = y.c
        · have E3 := Sec.mk h3
          have d3 : decide (x.c = y.c) = true := decide_eq_true h3
          clear h3
          have hd : Sec (decide (x = y) = true) := ⟨by rw [decide_eq_true_eq, hxy.out]; exact ⟨E0.out, E1.out, E2.out, E3.out⟩⟩
          go_enter Try.func70, Try.ntmps70
          go_wp2_with (first | (clear T2; go_at_call 9; have T3 : Sec True := ⟨trivial⟩; refine (eqSCell_c v3 u3 x.c y.c ok ok' _ (Kd.V_below H3.out B2.out (by decide)) (Kd.V_below G3.out B2.out (by decide))).mono ?_; rintro e w3 ⟨rfl, hb1⟩; rw [d3]; have B3 := Sec.mk (bel B2.out hb1); have X := box_cells (b := w.heap.size) (cs := #[.int .i64 x.kind, v1, v2, v3]) (t := 94) hb1 P2.out.1; have p3_3 := X.2.1 3 _ rfl; have P3 := Sec.mk X; clear X; have X := box_cells (b := w.heap.size + 1) (cs := #[.int .i64 y.kind, u1, u2, u3]) (t := 94) hb1 Q2.out.1; have q3_3 := X.2.1 3 _ rfl; have Q3 := Sec.mk X; clear X hb1) | (clear T1; go_at_call 9; have T2 : Sec True := ⟨trivial⟩; refine (eqSCell_c v2 u2 x.b y.b ok ok' _ (Kd.V_below H2.out B1.out (by decide)) (Kd.V_below G2.out B1.out (by decide))).mono ?_; rintro e w2 ⟨rfl, hb1⟩; rw [d2]; have B2 := Sec.mk (bel B1.out hb1); have X := box_cells (b := w.heap.size) (cs := #[.int .i64 x.kind, v1, v2, v3]) (t := 94) hb1 P1.out.1; have p2_2 := X.2.1 2 _ rfl; have p2_3 := X.2.1 3 _ rfl; have P2 := Sec.mk X; clear X; have X := box_cells (b := w.heap.size + 1) (cs := #[.int .i64 y.kind, u1, u2, u3]) (t := 94) hb1 Q1.out.1; have q2_2 := X.2.1 2 _ rfl; have q2_3 := X.2.1 3 _ rfl; have Q2 := Sec.mk X; clear X hb1) | (clear T0; go_at_call 9; have T1 : Sec True := ⟨trivial⟩; refine (eqSCell_c v1 u1 x.a y.a ok ok' _ (Kd.V_below H1.out (belA (belA (Below.refl _ _) _) _) (by decide)) (Kd.V_below G1.out (belA (belA (Below.refl _ _) _) _) (by decide))).mono ?_; rintro e w1 ⟨rfl, hb1⟩; rw [d1]; have B1 := Sec.mk (bel (belA (belA (Below.refl _ _) _) _) hb1); have X := box_cells (b := w.heap.size) (cs := #[.int .i64 x.kind, v1, v2, v3]) (t := 94) hb1 (box2 _ _ _).1; have p1_1 := X.2.1 1 _ rfl; have p1_2 := X.2.1 2 _ rfl; have p1_3 := X.2.1 3 _ rfl; have P1 := Sec.mk X; clear X; have X := box_cells (b := w.heap.size + 1) (cs := #[.int .i64 y.kind, u1, u2, u3]) (t := 94) hb1 (box2 _ _ _).2; have q1_1 := X.2.1 1 _ rfl; have q1_2 := X.2.1 2 _ rfl; have q1_3 := X.2.1 3 _ rfl; have Q1 := Sec.mk X; clear X hb1))
          go_ret
          exact ⟨rb hd.out.symm, B3.out⟩
        · have hd : Sec (decide (x = y) = false) := ⟨by rw [decide_eq_false_iff_not, hxy.out]; exact fun h => h3 h.2.2.2⟩
          have d3 : decide (x.c = y.c) = false := decide_eq_false h3
          clear h3
          go_enter Try.func70, Try.ntmps70
          go_wp2_with (first | (clear T2; go_at_call 9; have T3 : Sec True := ⟨trivial⟩; refine (eqSCell_c v3 u3 x.c y.c ok ok' _ (Kd.V_below H3.out B2.out (by decide)) (Kd.V_below G3.out B2.out (by decide))).mono ?_; rintro e w3 ⟨rfl, hb1⟩; rw [d3]; have B3 := Sec.mk (bel B2.out hb1); have X := box_cells (b := w.heap.size) (cs := #[.int .i64 x.kind, v1, v2, v3]) (t := 94) hb1 P2.out.1; have p3_3 := X.2.1 3 _ rfl; have P3 := Sec.mk X; clear X; have X := box_cells (b := w.heap.size + 1) (cs := #[.int .i64 y.kind, u1, u2, u3]) (t := 94) hb1 Q2.out.1; have q3_3 := X.2.1 3 _ rfl; have Q3 := Sec.mk X; clear X hb1) | (clear T1; go_at_call 9; have T2 : Sec True := ⟨trivial⟩; refine (eqSCell_c v2 u2 x.b y.b ok ok' _ (Kd.V_below H2.out B1.out (by decide)) (Kd.V_below G2.out B1.out (by decide))).mono ?_; rintro e w2 ⟨rfl, hb1⟩; rw [d2]; have B2 := Sec.mk (bel B1.out hb1); have X := box_cells (b := w.heap.size) (cs := #[.int .i64 x.kind, v1, v2, v3]) (t := 94) hb1 P1.out.1; have p2_2 := X.2.1 2 _ rfl; have p2_3 := X.2.1 3 _ rfl; have P2 := Sec.mk X; clear X; have X := box_cells (b := w.heap.size + 1) (cs := #[.int .i64 y.kind, u1, u2, u3]) (t := 94) hb1 Q1.out.1; have q2_2 := X.2.1 2 _ rfl; have q2_3 := X.2.1 3 _ rfl; have Q2 := Sec.mk X; clear X hb1) | (clear T0; go_at_call 9; have T1 : Sec True := ⟨trivial⟩; refine (eqSCell_c v1 u1 x.a y.a ok ok' _ (Kd.V_below H1.out (belA (belA (Below.refl _ _) _) _) (by decide)) (Kd.V_below G1.out (belA (belA (Below.refl _ _) _) _) (by decide))).mono ?_; rintro e w1 ⟨rfl, hb1⟩; rw [d1]; have B1 := Sec.mk (bel (belA (belA (Below.refl _ _) _) _) hb1); have X := box_cells (b := w.heap.size) (cs := #[.int .i64 x.kind, v1, v2, v3]) (t := 94) hb1 (box2 _ _ _).1; have p1_1 := X.2.1 1 _ rfl; have p1_2 := X.2.1 2 _ rfl; have p1_3 := X.2.1 3 _ rfl; have P1 := Sec.mk X; clear X; have X := box_cells (b := w.heap.size + 1) (cs := #[.int .i64 y.kind, u1, u2, u3]) (t := 94) hb1 (box2 _ _ _).2; have q1_1 := X.2.1 1 _ rfl; have q1_2 := X.2.1 2 _ rfl; have q1_3 := X.2.1 3 _ rfl; have Q1 := Sec.mk X; clear X hb1))
          go_ret
          exact ⟨rb hd.out.symm, B3.out⟩
      · have hd : Sec (decide (x = y) = false) := ⟨by rw [decide_eq_false_iff_not, hxy.out]; exact fun h => h2 h.2.2.1⟩
        have d2 : decide (x.b = y.b) = false := decide_eq_false h2
        clear h2
        go_enter Try.func70, Try.ntmps70
        go_wp2_with (first | (clear T1; go_at_call 9; have T2 : Sec True := ⟨trivial⟩; refine (eqSCell_c v2 u2 x.b y.b ok ok' _ (Kd.V_below H2.out B1.out (by decide)) (Kd.V_below G2.out B1.out (by decide))).mono ?_; rintro e w2 ⟨rfl, hb1⟩; rw [d2]; have B2 := Sec.mk (bel B1.out hb1); have X := box_cells (b := w.heap.size) (cs := #[.int .i64 x.kind, v1, v2, v3]) (t := 94) hb1 P1.out.1; have p2_2 := X.2.1 2 _ rfl; have p2_3 := X.2.1 3 _ rfl; have P2 := Sec.mk X; clear X; have X := box_cells (b := w.heap.size + 1) (cs := #[.int .i64 y.kind, u1, u2, u3]) (t := 94) hb1 Q1.out.1; have q2_2 := X.2.1 2 _ rfl; have q2_3 := X.2.1 3 _ rfl; have Q2 := Sec.mk X; clear X hb1) | (clear T0; go_at_call 9; have T1 : Sec True := ⟨trivial⟩; refine (eqSCell_c v1 u1 x.a y.a ok ok' _ (Kd.V_below H1.out (belA (belA (Below.refl _ _) _) _) (by decide)) (Kd.V_below G1.out (belA (belA (Below.refl _ _) _) _) (by decide))).mono ?_; rintro e w1 ⟨rfl, hb1⟩; rw [d1]; have B1 := Sec.mk (bel (belA (belA (Below.refl _ _) _) _) hb1); have X := box_cells (b := w.heap.size) (cs := #[.int .i64 x.kind, v1, v2, v3]) (t := 94) hb1 (box2 _ _ _).1; have p1_1 := X.2.1 1 _ rfl; have p1_2 := X.2.1 2 _ rfl; have p1_3 := X.2.1 3 _ rfl; have P1 := Sec.mk X; clear X; have X := box_cells (b := w.heap.size + 1) (cs := #[.int .i64 y.kind, u1, u2, u3]) (t := 94) hb1 (box2 _ _ _).2; have q1_1 := X.2.1 1 _ rfl; have q1_2 := X.2.1 2 _ rfl; have q1_3 := X.2.1 3 _ rfl; have Q1 := Sec.mk X; clear X hb1))
        go_ret
        exact ⟨rb hd.out.symm, B2.out⟩
    · have hd : Sec (decide (x = y) = false) := ⟨by rw [decide_eq_false_iff_not, hxy.out]; exact fun h => h1 h.2.1⟩
      have d1 : decide (x.a = y.a) = false := decide_eq_false h1
      clear h1
      go_enter Try.func70, Try.ntmps70
      go_wp2_with (first | (clear T0; go_at_call 9; have T1 : Sec True := ⟨trivial⟩; refine (eqSCell_c v1 u1 x.a y.a ok ok' _ (Kd.V_below H1.out (belA (belA (Below.refl _ _) _) _) (by decide)) (Kd.V_below G1.out (belA (belA (Below.refl _ _) _) _) (by decide))).mono ?_; rintro e w1 ⟨rfl, hb1⟩; rw [d1]; have B1 := Sec.mk (bel (belA (belA (Below.refl _ _) _) _) hb1); have X := box_cells (b := w.heap.size) (cs := #[.int .i64 x.kind, v1, v2, v3]) (t := 94) hb1 (box2 _ _ _).1; have p1_1 := X.2.1 1 _ rfl; have p1_2 := X.2.1 2 _ rfl; have p1_3 := X.2.1 3 _ rfl; have P1 := Sec.mk X; clear X; have X := box_cells (b := w.heap.size + 1) (cs := #[.int .i64 y.kind, u1, u2, u3]) (t := 94) hb1 (box2 _ _ _).2; have q1_1 := X.2.1 1 _ rfl; have q1_2 := X.2.1 2 _ rfl; have q1_3 := X.2.1 3 _ rfl; have Q1 := Sec.mk X; clear X hb1))
      go_ret
      exact ⟨rb hd.out.symm, B1.out⟩
  · have hd : Sec (decide (x = y) = false) := ⟨by rw [decide_eq_false_iff_not, hxy.out]; exact fun h => h0 h.1⟩
    have d0 : (x.kind == y.kind) = false := beq_eq_false_iff_ne.2 h0
    clear h0
    go_enter Try.func70, Try.ntmps70
    go_wp2
    go_ret
    exact ⟨rb hd.out.symm, (belA (belA (Below.refl _ _) _) _)⟩
def mGoal : Mk Goal := ⟨fun x => 1 + mCell.cnts x.a + mCell.cnts x.b + mCell.cnts x.c, fun x k => ⟨k, mCell.mks x.a (k + 1), mCell.mks x.b (k + 1 + ((mCell.cnts x.a : Nat) : Int)), mCell.mks x.c (k + 1 + ((mCell.cnts x.a : Nat) : Int) + ((mCell.cnts x.b : Nat) : Int))⟩⟩
theorem mGoal_cnt (x : Goal) : mGoal.cnt x = 1 + mCell.cnts x.a + mCell.cnts x.b + mCell.cnts x.c := rfl
def mGoalt : Mk Goal := ⟨fun x => mCell.cnts x.a + mCell.cnts x.b + mCell.cnts x.c, fun x k => ⟨x.kind, mCell.mks x.a (k), mCell.mks x.b (k + ((mCell.cnts x.a : Nat) : Int)), mCell.mks x.c (k + ((mCell.cnts x.a : Nat) : Int) + ((mCell.cnts x.b : Nat) : Int))⟩⟩
theorem mGoalt_cnt (x : Goal) : mGoalt.cnt x = mCell.cnts x.a + mCell.cnts x.b + mCell.cnts x.c := rfl
theorem rGoal_le6 (x : Goal) : mGoal.cnt x ≤ 8 + 8 * rGoal.wt x := by
  rw [mGoal_cnt]; rw [rGoal_wt]; have := Mk.cnts_le6 rCell_le6 x.a; have := Mk.cnts_le6 rCell_le6 x.b; have := Mk.cnts_le6 rCell_le6 x.c; omega
theorem rGoal_tle (x : Goal) : mGoalt.cnt x ≤ 8 * rGoal.wt x := by
  rw [mGoalt_cnt, rGoal_wt]; have := Mk.cnts_le6 rCell_le6 x.a; have := Mk.cnts_le6 rCell_le6 x.b; have := Mk.cnts_le6 rCell_le6 x.c; omega
end Go.Proofs.Ytggchcljkehefaa
