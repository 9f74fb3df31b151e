/- What the exact laws' own functions do with the type PrgClause: turned, sized, compared, marked, held; and what goes with it. -/
import Derived.Test.YtgiobpggonceeaaGreatDoorXw2
import Derived.Test.YtgiobpggonceeaaGreatDoorXw3
namespace Go.Proofs.YtgiobpggonceeaaGreatDoor
section
open Go.RowKit
set_option linter.unusedVariables false
set_option maxRecDepth 100000
def kClause : Kd Clause := Kd.iso 113 (Kd.pair (Kd.slice 23 kCell (by decide)) (Kd.slice 111 kGoal (by decide))) (fun x => (x.head, x.body))
theorem kClause_K {w : World} {ok : Nat → Prop} {x : Clause} {cs : List Value} (h : kClause.K w ok x cs) : ∃ v0 v1, cs = [v0, v1] ∧ kCell.V w ok v0 x.head ∧ kGoal.V w ok v1 x.body := by
  obtain ⟨_, _, rfl, ⟨v0, rfl, h0⟩, ⟨v1, rfl, h1⟩⟩ := h
  exact ⟨v0, v1, rfl, h0, h1⟩
def rClause : Raw Clause := Raw.iso 199 (Raw.pair (Raw.slice 50 rCell) (Raw.slice 197 rGoal)) (fun x => (x.head, x.body))
theorem rClause_K {w : World} {x : Clause} {cs : List Value} (h : rClause.K w x cs) : ∃ v0 v1, cs = [v0, v1] ∧ rCell.V w v0 x.head ∧ rGoal.V w v1 x.body := by
  obtain ⟨_, _, rfl, ⟨v0, rfl, h0⟩, ⟨v1, rfl, h1⟩⟩ := h
  exact ⟨v0, v1, rfl, h0, h1⟩
theorem rClause_mono : Raw.Mono rClause := Raw.mono_iso (Raw.mono_pair (Raw.mono_slice rCell_mono) (Raw.mono_slice rGoal_mono))
theorem rClause_wt (x : Clause) : rClause.wt x = (HAdd.hAdd (rCell.wts x.head) (rGoal.wts x.body)) := rfl
theorem rClause_fits : Raw.Fits rClause kClause := Raw.fits_iso (Raw.fits_pair (Raw.fits_slice rCell_fits _ _ (by decide)) (Raw.fits_slice rGoal_fits _ _ (by decide))) _ _ _
theorem rClause_opn : Raw.Opn Tryz.prog rClause := Raw.opn_struct Tryz.underlying199 (by kernel_rfl) (fun b => ⟨⟨b.1, b.2⟩, rfl⟩) (Raw.opnF_cons (Raw.opn_slice (r := rCell) Tryz.underlying50 (by kernel_rfl) (by decide) rCell_opn) rfl rfl (by kernel_rfl) (by decide) (Raw.opnF_last (Raw.opn_slice (r := rGoal) Tryz.underlying197 (by kernel_rfl) (by decide) rGoal_opn) rfl rfl (by kernel_rfl) (by decide)))
theorem Clause.ext_iff (a b : Clause) : a = b ↔ a.head = b.head ∧ a.body = b.body := by
  cases a; cases b; simp
instance : DecidableEq Clause := fun a b => decidable_of_iff _ (Clause.ext_iff a b).symm
def zeroClause : Clause := ⟨[], []⟩
theorem kClause_zero (w : World) : kClause.O w (fun _ => False) zeroClause [.slice none 0 0, .slice none 0 0] := (Kd.O_pair0 (d := (Kd.slice 23 kCell (by decide))) (e := (Kd.slice 111 kGoal (by decide))) ⟨_, rfl, Kd.R_nil _ _ _⟩ ⟨_, rfl, Kd.R_nil _ _ _⟩)
theorem kClause_f_head : Kd.Fld kClause (Kd.slice 23 kCell (by decide)) 0 (fun x => x.head) (fun x y => { x with head := y }) := Kd.Fld.iso _ (Kd.Fld.fst (Kd.Fld.self _)) (fun _ _ => rfl)
theorem kClause_f_body : Kd.Fld kClause (Kd.slice 111 kGoal (by decide)) 1 (fun x => x.body) (fun x y => { x with body := y }) := Kd.Fld.iso _ (Kd.Fld.snd (Kd.Fld.self _)) (fun _ _ => rfl)
theorem szPrgClause_c (x : Clause) (cs : List Value) (left : Nat) (hl : left ≤ 1048576) (w : World) (hK : rClause.K w x cs) :
    Calls Tryz.prog 146 #[.agg cs.toArray, .int .i64 left] w fun e w' => e = .returned (.int .i64 (Raw.spent (rClause.wt x) left)) ∧ Below w.heap.size w w' := by
  obtain ⟨_, _, rfl, ⟨v0, rfl, h0⟩, ⟨v1, rfl, h1⟩⟩ := hK
  have H0 := Sec.mk h0
  clear h0
  have H1 := Sec.mk h1
  clear h1
  have hu := Tryz.underlying199
  have hb0 := hl
  have T0 : Sec True := ⟨trivial⟩
  by_cases e0 : rCell.wts x.head ≤ left
  · have s0 := Raw.spent_le e0
    have L0 := Sec.mk (show (left - rCell.wts x.head) + rCell.wts x.head = left by omega)
    have hb1 : left - rCell.wts x.head ≤ 1048576 := by omega
    generalize left - rCell.wts x.head = l0 at *
    have n0 : ¬ ((l0 : Int) < 0) := by omega
    by_cases e1 : rGoal.wts x.body ≤ l0
    · have s1 := Raw.spent_le e1
      have L1 := Sec.mk (show (l0 - rGoal.wts x.body) + rGoal.wts x.body = l0 by omega)
      have hb2 : l0 - rGoal.wts x.body ≤ 1048576 := by omega
      generalize l0 - rGoal.wts x.body = l1 at *
      have n1 : ¬ ((l1 : Int) < 0) := by omega
      have hfin : Sec ((l1 : Int) = Raw.spent (rClause.wt x) left) := ⟨by rw [Raw.spent_le (by rw [rClause_wt]; have := L0.out; have := L1.out; omega), rClause_wt]; have := L0.out; have := L1.out; omega⟩
      go_enter Tryz.func146, Tryz.ntmps146
      go_wp2_with (first | (clear T1; go_at_call 198; have T2 : Sec True := ⟨trivial⟩; refine (szSGoal_c v1 x.body l0 hb1 _ (Raw.mono_V rGoal_mono B0.out H1.out)).mono ?_; rintro e w2 ⟨rfl, hb1⟩; rw [s1]; have B1 := Sec.mk (bel B0.out hb1); have Q := box_cells hb1 (P0.out.1); have P1 := Sec.mk Q; clear Q hb1) | (clear T0; go_at_call 19; have T1 : Sec True := ⟨trivial⟩; refine (szSCell_c v0 x.head left hb0 _ (Raw.mono_V rCell_mono (belA (Below.refl _ _) _) H0.out)).mono ?_; rintro e w1 ⟨rfl, hb1⟩; rw [s0]; have B0 := Sec.mk (bel (belA (Below.refl _ _) _) hb1); have Q := box_cells hb1 (box1 _ _); have c0_0 := Q.2.1 0 _ rfl; have c0_1 := Q.2.1 1 _ rfl; have P0 := Sec.mk Q; clear Q hb1))
      go_ret
      exact ⟨ri hfin.out, B1.out⟩
    · have s1 := Raw.spent_gt e1
      have hfin : Sec (Raw.spent (rClause.wt x) left = -1) := ⟨Raw.spent_gt (by rw [rClause_wt]; have := L0.out; omega)⟩
      go_enter Tryz.func146, Tryz.ntmps146
      go_wp2_with (first | (clear T1; go_at_call 198; have T2 : Sec True := ⟨trivial⟩; refine (szSGoal_c v1 x.body l0 hb1 _ (Raw.mono_V rGoal_mono B0.out H1.out)).mono ?_; rintro e w2 ⟨rfl, hb1⟩; rw [s1]; have B1 := Sec.mk (bel B0.out hb1); have Q := box_cells hb1 (P0.out.1); have P1 := Sec.mk Q; clear Q hb1) | (clear T0; go_at_call 19; have T1 : Sec True := ⟨trivial⟩; refine (szSCell_c v0 x.head left hb0 _ (Raw.mono_V rCell_mono (belA (Below.refl _ _) _) H0.out)).mono ?_; rintro e w1 ⟨rfl, hb1⟩; rw [s0]; have B0 := Sec.mk (bel (belA (Below.refl _ _) _) hb1); have Q := box_cells hb1 (box1 _ _); have c0_0 := Q.2.1 0 _ rfl; have c0_1 := Q.2.1 1 _ rfl; have P0 := Sec.mk Q; clear Q hb1))
      go_ret
      exact ⟨ri hfin.out.symm, B1.out⟩
  · have s0 := Raw.spent_gt e0
    have hfin : Sec (Raw.spent (rClause.wt x) left = -1) := ⟨Raw.spent_gt (by rw [rClause_wt]; omega)⟩
    go_enter Tryz.func146, Tryz.ntmps146
    go_wp2_with (first | (clear T0; go_at_call 19; have T1 : Sec True := ⟨trivial⟩; refine (szSCell_c v0 x.head left hb0 _ (Raw.mono_V rCell_mono (belA (Below.refl _ _) _) H0.out)).mono ?_; rintro e w1 ⟨rfl, hb1⟩; rw [s0]; have B0 := Sec.mk (bel (belA (Below.refl _ _) _) hb1); have Q := box_cells hb1 (box1 _ _); have P0 := Sec.mk Q; clear Q hb1))
    go_ret
    exact ⟨ri hfin.out.symm, B0.out⟩
set_option maxHeartbeats 1000000 in
theorem szSClause_c (v : Value) (t : List Clause) (left : Nat) (hl : left ≤ 1048576) (w : World) (hV : rClause.V w v t) :
    Calls Tryz.prog 61 #[v, .int .i64 left] w fun e w' => e = .returned (.int .i64 (Raw.spent (rClause.wts t) left)) ∧ Below w.heap.size w w' := by
  obtain ⟨A, c, rfl, h1, h2, hC, _⟩ := hV
  have HC := Sec.mk hC
  clear hC
  have h3 : t.length ≤ 9223372036854775807 := by have : c ≤ 9223372036854775807 := by simpa [maxLen] using h2
                                                 omega
  have hu2 := Tryz.underlying199
  by_cases hlen : t.length ≤ left
  · obtain ⟨l1, hl1⟩ : ∃ l1 : Nat, (left : Int) - t.length = l1 := ⟨left - t.length, by omega⟩
    have hl2 : l1 + t.length = left := by omega
    have HL := Sec.mk hl1
    have HS : Sec (∀ (k : Nat) (hk : k < t.length), ((t.take (k + 1)).map rClause.wt).sum = ((t.take k).map rClause.wt).sum + rClause.wt t[k] ∧ ((t.take (k + 1)).map rClause.wt).sum ≤ (t.map rClause.wt).sum) := ⟨fun k hk => ⟨Raw.wts_take _ _ _ hk, Raw.wts_take_le _ _ _⟩⟩
    go_enter Tryz.func61, Tryz.ntmps61
    go_wp2
    go_loopw [1, 5] (fun l i wr => ∃ k m : Nat, k ≤ t.length ∧ i = .int .i64 k ∧ l = .int .i64 m ∧ m ≤ 1048576 ∧ Sec (m + ((t.take k).map rClause.wt).sum = l1) ∧ Sec (Below w.heap.size w wr)) (fun _ i _ => t.length - (intOf i).toNat)
    case atStart => exact ⟨0, l1, Nat.zero_le _, rfl, rfl, by omega, ⟨by simp⟩, ⟨Below.refl _ _⟩⟩
    case round =>
      obtain ⟨k, m, hk, rfl, rfl, hm, hM, hb⟩ := hrel
      by_cases hlt : k < t.length
      · obtain ⟨b, off, cs, rfl, hK, hc⟩ := Raw.C_get HC.out k hlt
        obtain ⟨s1, s2⟩ := HS.out k hlt
        have S1 := Sec.mk s1
        have S2 := Sec.mk s2
        clear s1 s2
        generalize t[k] = x at *
        have HK := Sec.mk hK
        obtain ⟨v0, v1, rfl, -, -⟩ := rClause_K hK
        have c0 : wr.cell? ⟨b, off + k * 2, none⟩ = some (v0) := Raw.cell_below hb.out (hc 0 _ rfl)
        have c1 : wr.cell? ⟨b, off + k * 2 + 1, none⟩ = some (v1) := Raw.cell_below hb.out (hc 1 _ rfl)
        clear hc hK
        by_cases hx : rClause.wt x ≤ m
        · have e1 := Raw.spent_le hx
          have e2 : ¬ (((m - rClause.wt x : Nat) : Int) < 0) := by omega
          generalize hm2 : m - rClause.wt x = m2 at *
          have HM2 : Sec (m2 + ((t.take (k + 1)).map rClause.wt).sum = l1) := ⟨by rw [S1.out]; have := hM.out; omega⟩
          have hm3 : m2 ≤ 1048576 := by omega
          clear hm2
          go_wp2_with (go_at_call 146; refine (szPrgClause_c x _ m hm wr (rClause_mono _ _ _ _ hb.out HK.out)).mono ?_; rintro e w1 ⟨rfl, hb1⟩; have B1 := Sec.mk (bel hb.out hb1); rw [e1]; clear c0 c1)
          go_roundw
          case rel => exact ⟨k + 1, m2, by omega, by go_num, rfl, hm3, HM2, B1⟩
          case measure => simp [intOf]; omega
        · have e1 := Raw.spent_gt hx
          have hfin : Sec (Raw.spent (rClause.wts t) left = -1) := ⟨Raw.spent_gt (by unfold Raw.wts; have := S1.out; have := S2.out; have := hM.out; omega)⟩
          go_wp2_with (go_at_call 146; refine (szPrgClause_c x _ m hm wr (rClause_mono _ _ _ _ hb.out HK.out)).mono ?_; rintro e w1 ⟨rfl, hb1⟩; have B1 := Sec.mk (bel hb.out hb1); rw [e1]; clear c0 c1)
          go_ret
          exact ⟨ri hfin.out.symm, B1.out⟩
      · have hfin : Sec ((m : Int) = Raw.spent (rClause.wts t) left) := ⟨by
          have h1 := hM.out
          rw [List.take_of_length_le (by omega)] at h1
          rw [Raw.spent_le (by unfold Raw.wts; omega)]
          unfold Raw.wts
          omega⟩
        go_wp2
        go_ret
        exact ⟨ri hfin.out, hb.out⟩
  · have hfin : Sec (Raw.spent (rClause.wts t) left = -1) := ⟨Raw.spent_gt (by unfold Raw.wts; omega)⟩
    go_enter Tryz.func61, Tryz.ntmps61
    go_wp2
    go_ret
    exact ⟨ri hfin.out.symm, Below.refl _ _⟩
set_option maxHeartbeats 1000000 in
theorem toPrgClause_c (x : Clause) (cs : List Value) (ok : Nat → Prop) (w : World) (hK : kClause.K w ok x cs) :
    Calls Tryz.prog 149 #[.agg cs.toArray] w fun e w' => ∃ c : List Value, e = .returned (.agg c.toArray) ∧ kClause.O w' (fun k => w.heap.size ≤ k) x c ∧ Below w.heap.size w w' := by
  obtain ⟨_, _, rfl, ⟨v0, rfl, h0⟩, ⟨v1, rfl, h1⟩⟩ := hK
  have H0 := Sec.mk h0
  clear h0
  have H1 := Sec.mk h1
  clear h1
  have hu := Tryz.underlying199
  have hu2 := Tryz.underlying113
  have T0 : Sec True := ⟨trivial⟩
  go_enter Tryz.func149, Tryz.ntmps149
  go_wp2_with (first | (clear T1; go_at_call 200; have T2 : Sec True := ⟨trivial⟩; refine (toSGoal_c v1 x.body ok _ (Kd.V_below H1.out (B1.out.setCell (p := ⟨w.heap.size + 1 + 1, 0, none⟩) (by show w.heap.size ≤ w.heap.size + 1 + 1; omega) _) (by decide))).mono ?_; rintro e w2 ⟨u1, rfl, hR, hb1⟩; obtain ⟨A1, n1, rfl, -, -⟩ := Kd.R_form hR; have Z2 : w1.heap.size ≤ w2.heap.size := (by have := hb1.size; simpa [World.setCell] using this); have R2 := Sec.mk (Kd.R_mono (S1 := fun k => w1.heap.size ≤ k ∧ k < w2.heap.size) hR (fun k h1 h2 => ⟨by simpa [World.setCell] using h1, h2⟩)); have G2 := Sec.mk (Foot.call ((Foot.refl (Own w 3) w1).set (.inl ⟨by omega, by omega⟩) _ _) hb1); have B2 := Sec.mk (bel (B1.out.setCell (p := ⟨w.heap.size + 1 + 1, 0, none⟩) (by show w.heap.size ≤ w.heap.size + 1 + 1; omega) _) hb1); have X := box_cells (b := w.heap.size) (cs := #[v0, v1]) (t := 199) hb1 ((Below.heap_setCell _ _ _ _ (by show w.heap.size ≠ w.heap.size + 1 + 1; omega)).trans P1.out.1); have p2_0 := X.2.1 0 _ rfl; have p2_1 := X.2.1 1 _ rfl; have P2 := Sec.mk X; clear X; have X := box_cells (b := w.heap.size + 1) (cs := #[.slice none 0 0, .slice none 0 0]) (t := 113) hb1 ((Below.heap_setCell _ _ _ _ (by show w.heap.size + 1 ≠ w.heap.size + 1 + 1; omega)).trans Q1.out.1); have q2_0 := X.2.1 0 _ rfl; have qf2_0 := X.2.2 0; have q2_1 := X.2.1 1 _ rfl; have qf2_1 := X.2.2 1; have Q2 := Sec.mk X; clear X; have X := box_cells (b := w.heap.size + 1 + 1) (cs := #[.slice A0 x.head.length n0, .slice none 0 0]) (t := 113) hb1 (box_store _ _ O1.out.1); have o2_0 := X.2.1 0 _ rfl; have of2_0 := X.2.2 0; have o2_1 := X.2.1 1 _ rfl; have of2_1 := X.2.2 1; have O2 := Sec.mk X; clear X; clear hb1 hR; clear p1_0 q1_0 qf1_0 o1_0 of1_0 p1_1 q1_1 qf1_1 o1_1 of1_1) | (clear T0; go_at_call 22; have T1 : Sec True := ⟨trivial⟩; refine (toSCell_c v0 x.head ok _ (Kd.V_below H0.out (belA (belA (belA (Below.refl _ _) _) _) _) (by decide))).mono ?_; rintro e w1 ⟨u0, rfl, hR, hb1⟩; obtain ⟨A0, n0, rfl, -, -⟩ := Kd.R_form hR; have Z1 : w.heap.size + 3 ≤ w1.heap.size := (by have := hb1.size; simp at this; omega); have R1 := Sec.mk (Kd.R_mono (S1 := fun k => w.heap.size + 3 ≤ k ∧ k < w1.heap.size) hR (fun k h1 h2 => ⟨by simp at h1; omega, h2⟩)); have G1 := Sec.mk (Foot.call ((((Foot.refl (Own w 3) w).alloc _).alloc _).alloc _) hb1); have B1 := Sec.mk (bel (belA (belA (belA (Below.refl _ _) _) _) _) hb1); have X := box_cells (b := w.heap.size) (cs := #[v0, v1]) (t := 199) hb1 (box3 _ _ _ _).1; have p1_0 := X.2.1 0 _ rfl; have p1_1 := X.2.1 1 _ rfl; have P1 := Sec.mk X; clear X; have X := box_cells (b := w.heap.size + 1) (cs := #[.slice none 0 0, .slice none 0 0]) (t := 113) hb1 (box3 _ _ _ _).2.1; have q1_0 := X.2.1 0 _ rfl; have qf1_0 := X.2.2 0; have q1_1 := X.2.1 1 _ rfl; have qf1_1 := X.2.2 1; have Q1 := Sec.mk X; clear X; have X := box_cells (b := w.heap.size + 1 + 1) (cs := #[.slice none 0 0, .slice none 0 0]) (t := 113) hb1 (box3 _ _ _ _).2.2; have o1_0 := X.2.1 0 _ rfl; have of1_0 := X.2.2 0; have o1_1 := X.2.1 1 _ rfl; have of1_1 := X.2.2 1; have O1 := Sec.mk X; clear X; clear hb1 hR))
  refine bodyPost_ret (v := .agg #[.slice A0 x.head.length n0, .slice A1 x.body.length n1]) (by simp [results, Tryz.results149, go_sem, q2_0, q2_1]) rfl ⟨[.slice A0 x.head.length n0, .slice A1 x.body.length n1], rfl, ?_, ?_⟩
  rotate_left
  · refine Foot.own (n := 3) (Foot.trans (S' := Own w 3) (G1.out.trans G2.out (fun _ _ h => h)) ?_ (fun _ _ h => h))
    exact (Foot.set (Foot.set (Foot.set (Foot.refl _ _) (.inl ⟨by omega, by omega⟩) _ _) (.inl ⟨by omega, by omega⟩) _ _) (.inl ⟨by omega, by omega⟩) _ _)
  · have FF : ∀ W, Foot (Own w 3) w2 W → kClause.O W (fun k => w.heap.size ≤ k) x [.slice A0 x.head.length n0, .slice A1 x.body.length n1] := fun W FF => ?_
    · refine FF _ ?_
      exact (Foot.set (Foot.set (Foot.set (Foot.refl _ _) (.inl ⟨by omega, by omega⟩) _ _) (.inl ⟨by omega, by omega⟩) _ _) (.inl ⟨by omega, by omega⟩) _ _)
    · exact (Kd.O_stack (d := (Kd.slice 23 kCell (by decide))) (e := (Kd.slice 111 kGoal (by decide))) (n0 := w.heap.size) (n1 := w1.heap.size) ⟨_, rfl, Kd.R_mono (Foot.R (Foot.trans (S' := Own w 3) G2.out FF (fun _ _ h => h)) R1.out (fun k h1 h2 => by have := h1.1; have := h2.2; omega)) (fun k h _ => by have := h.1; have := h.2; omega)⟩ ⟨_, rfl, Kd.R_mono (Foot.R FF R2.out (fun k h1 h2 => by have := h1.1; have := h2.2; omega)) (fun k h _ => by have := h.1; have := h.2; omega)⟩ (by omega))
set_option maxHeartbeats 1000000 in
theorem toSClause_c (v : Value) (t : List Clause) (ok : Nat → Prop) (w : World) (hV : kClause.V w ok v t) :
    Calls Tryz.prog 66 #[v] w fun e w' => ∃ u, e = .returned u ∧ kClause.R w' (fun k => w.heap.size ≤ k) u t ∧ Below w.heap.size w w' := by
  obtain ⟨A, c, rfl, h1, h2, h3, hC, _⟩ := hV
  have HC := Sec.mk hC
  clear hC
  have hu := Tryz.underlying113
  have hu2 := Tryz.underlying199
  have hmk := made (P := Tryz.prog) 25 113 (.agg #[.slice none 0 0, .slice none 0 0]) 2 48 Tryz.underlying25 (by kernel_rfl) (by decide) t.length h3
  have HM := Sec.mk (Kd.R_made (d := kClause) (w := w) (B := w.heap.size) (x0 := zeroClause) (z := #[.slice none 0 0, .slice none 0 0]) (n := t.length) (fun w => kClause_zero w) rfl (Nat.le_refl _) h3)
  go_enter Tryz.func66, Tryz.ntmps66
  go_wp2
  clear hmk
  go_loopw [4] (fun i wr => ∃ k : Nat, k ≤ t.length ∧ i = .int .i64 k ∧ Sec (kClause.R wr (fun k => w.heap.size ≤ k) (.slice (some ⟨w.heap.size, 0, none⟩) t.length t.length) (t.take k ++ List.replicate (t.length - k) zeroClause)) ∧ Sec (Below w.heap.size w wr)) (fun i _ => t.length - (intOf i).toNat)
  case atStart => exact ⟨0, Nat.zero_le _, rfl, ⟨HM.out⟩, ⟨belA (Below.refl _ _) _⟩⟩
  case round =>
    obtain ⟨k, hk, rfl, hR, hb⟩ := hrel
    by_cases hlt : k < t.length
    · obtain ⟨b, off, cs, rfl, hob, hK, hc⟩ := Kd.C_get (Kd.C_below HC.out hb.out (by decide)) (List.getElem?_eq_getElem hlt)
      have hL : Sec ((t.take k ++ List.replicate (t.length - k) zeroClause).length = t.length) := ⟨by simp; omega⟩
      have hset : Sec ((t.take k ++ List.replicate (t.length - k) zeroClause).set k t[k] = t.take (k + 1) ++ List.replicate (t.length - (k + 1)) zeroClause) := ⟨put_next t zeroClause k hlt⟩
      generalize t[k] = x at *
      have HK := Sec.mk hK
      obtain ⟨v0, v1, rfl, -, -⟩ := kClause_K hK
      have c0 : wr.cell? ⟨b, off + k * 2, none⟩ = some (v0) := hc 0 _ rfl
      have c1 : wr.cell? ⟨b, off + k * 2 + 1, none⟩ = some (v1) := hc 1 _ rfl
      clear hc hK
      go_wp2_with (go_at_call 149; refine (toPrgClause_c x _ ok _ HK.out).mono ?_; rintro e w1 ⟨d0, rfl, hO, hb1⟩; have HO := Sec.mk hO; obtain ⟨u0, u1, rfl, k0, k1⟩ := kClause_K (Kd.O_K _ hO); clear hO; obtain ⟨A0, n0, rfl, -⟩ := k0; obtain ⟨A1, n1, rfl, -⟩ := k1; have R1 := Sec.mk (Kd.R_below (Kd.R_mono hR.out (S1 := fun k => w.heap.size ≤ k ∧ k < wr.heap.size) (fun k h1 h2 => ⟨h1, h2⟩)) hb1); have B1 := Sec.mk (bel hb.out hb1); have hsz := Sec.mk hb.out.size; obtain ⟨q0, e0, f0⟩ := Kd.R_cell R1.out k 0 (by rw [hL.out]; exact hlt) (by decide); obtain ⟨q1, e1, f1⟩ := Kd.R_cell R1.out k 1 (by rw [hL.out]; exact hlt) (by decide); rw [show kClause.sz = 2 from rfl] at e0 f0 e1 f1; rw [Nat.add_zero] at e0 f0; have P1 := Sec.mk (Kd.R_put R1.out k (by rw [hL.out]; exact hlt) HO.out (fun k h1 h2 => absurd h2.2 (Nat.not_lt.2 h1))); have F1 := Sec.mk ((Foot.refl (fun k => w.heap.size ≤ k) w1).setCells (g := w.heap.size) (.inl (Nat.le_refl _)) [.slice A0 x.head.length n0, .slice A1 x.body.length n1] (k * 2)); clear hb1 c0 c1)
      go_roundw
      case rel => exact ⟨k + 1, by omega, by go_num, ⟨by rw [← hset.out]; exact Kd.R_mono P1.out (fun k h _ => h.elim (fun h => h.1) (fun h => Nat.le_trans hsz.out h))⟩, ⟨F1.out.below B1.out (fun _ h => h)⟩⟩
      case measure => simp [intOf]; omega
    · have hfin : Sec (t.take k ++ List.replicate (t.length - k) zeroClause = t) := ⟨by rw [List.take_of_length_le (by omega), show t.length - k = 0 by omega]; simp⟩
      have hR2 := hR.out
      rw [hfin.out] at hR2
      have HR2 := Sec.mk hR2
      clear hR2 hfin hR
      go_wp2
      go_ret
      exact ⟨_, rfl, HR2.out, hb.out⟩
set_option maxHeartbeats 2000000 in
theorem eqPrgClause_c (x y : Clause) (cs ds : List Value) (ok ok' : Nat → Prop) (w : World) (hK : kClause.K w ok x cs) (hD : kClause.K w ok' y ds) :
    Calls Tryz.prog 160 #[.agg cs.toArray, .agg ds.toArray] w fun e w' => e = .returned (.bool (decide (x = y))) ∧ Below w.heap.size w w' := by
  obtain ⟨_, _, rfl, ⟨v0, rfl, h0⟩, ⟨v1, rfl, h1⟩⟩ := hK
  have H0 := Sec.mk h0
  clear h0
  have H1 := Sec.mk h1
  clear h1
  obtain ⟨_, _, rfl, ⟨u0, rfl, g0⟩, ⟨u1, rfl, g1⟩⟩ := hD
  have G0 := Sec.mk g0
  clear g0
  have G1 := Sec.mk g1
  clear g1
  have hu := Tryz.underlying113
  have hxy := Sec.mk (Clause.ext_iff x y)
  have T0 : Sec True := ⟨trivial⟩
  by_cases h0 : x.head = y.head
  · have E0 := Sec.mk h0
    have d0 : decide (x.head = y.head) = true := decide_eq_true h0
    clear h0
    by_cases h1 : x.body = y.body
    · have E1 := Sec.mk h1
      have d1 : decide (x.body = y.body) = true := decide_eq_true h1
      clear h1
      have hd : Sec (decide (x = y) = true) := ⟨by rw [decide_eq_true_eq, hxy.out]; exact ⟨E0.out, E1.out⟩⟩
      go_enter Tryz.func160, Tryz.ntmps160
      go_wp2_with (first | (clear T1; go_at_call 208; have T2 : Sec True := ⟨trivial⟩; refine (eqSGoal_c v1 u1 x.body y.body ok ok' _ (Kd.V_below H1.out B1.out (by decide)) (Kd.V_below G1.out B1.out (by decide))).mono ?_; rintro e w2 ⟨rfl, hb1⟩; rw [d1]; have B2 := Sec.mk (bel B1.out hb1); have X := box_cells (b := w.heap.size) (cs := #[v0, v1]) (t := 113) hb1 P1.out.1; have p2_1 := X.2.1 1 _ rfl; have P2 := Sec.mk X; clear X; have X := box_cells (b := w.heap.size + 1) (cs := #[u0, u1]) (t := 113) hb1 Q1.out.1; have q2_1 := X.2.1 1 _ rfl; have Q2 := Sec.mk X; clear X hb1) | (clear T0; go_at_call 26; have T1 : Sec True := ⟨trivial⟩; refine (eqSCell_c v0 u0 x.head y.head ok ok' _ (Kd.V_below H0.out (belA (belA (Below.refl _ _) _) _) (by decide)) (Kd.V_below G0.out (belA (belA (Below.refl _ _) _) _) (by decide))).mono ?_; rintro e w1 ⟨rfl, hb1⟩; rw [d0]; have B1 := Sec.mk (bel (belA (belA (Below.refl _ _) _) _) hb1); have X := box_cells (b := w.heap.size) (cs := #[v0, v1]) (t := 113) hb1 (box2 _ _ _).1; have p1_0 := X.2.1 0 _ rfl; have p1_1 := X.2.1 1 _ rfl; have P1 := Sec.mk X; clear X; have X := box_cells (b := w.heap.size + 1) (cs := #[u0, u1]) (t := 113) hb1 (box2 _ _ _).2; have q1_0 := X.2.1 0 _ rfl; have q1_1 := X.2.1 1 _ rfl; have Q1 := Sec.mk X; clear X hb1))
      go_ret
      exact ⟨rb hd.out.symm, B2.out⟩
    · have hd : Sec (decide (x = y) = false) := ⟨by rw [decide_eq_false_iff_not, hxy.out]; exact fun h => h1 h.2⟩
      have d1 : decide (x.body = y.body) = false := decide_eq_false h1
      clear h1
      go_enter Tryz.func160, Tryz.ntmps160
      go_wp2_with (first | (clear T1; go_at_call 208; have T2 : Sec True := ⟨trivial⟩; refine (eqSGoal_c v1 u1 x.body y.body ok ok' _ (Kd.V_below H1.out B1.out (by decide)) (Kd.V_below G1.out B1.out (by decide))).mono ?_; rintro e w2 ⟨rfl, hb1⟩; rw [d1]; have B2 := Sec.mk (bel B1.out hb1); have X := box_cells (b := w.heap.size) (cs := #[v0, v1]) (t := 113) hb1 P1.out.1; have p2_1 := X.2.1 1 _ rfl; have P2 := Sec.mk X; clear X; have X := box_cells (b := w.heap.size + 1) (cs := #[u0, u1]) (t := 113) hb1 Q1.out.1; have q2_1 := X.2.1 1 _ rfl; have Q2 := Sec.mk X; clear X hb1) | (clear T0; go_at_call 26; have T1 : Sec True := ⟨trivial⟩; refine (eqSCell_c v0 u0 x.head y.head ok ok' _ (Kd.V_below H0.out (belA (belA (Below.refl _ _) _) _) (by decide)) (Kd.V_below G0.out (belA (belA (Below.refl _ _) _) _) (by decide))).mono ?_; rintro e w1 ⟨rfl, hb1⟩; rw [d0]; have B1 := Sec.mk (bel (belA (belA (Below.refl _ _) _) _) hb1); have X := box_cells (b := w.heap.size) (cs := #[v0, v1]) (t := 113) hb1 (box2 _ _ _).1; have p1_0 := X.2.1 0 _ rfl; have p1_1 := X.2.1 1 _ rfl; have P1 := Sec.mk X; clear X; have X := box_cells (b := w.heap.size + 1) (cs := #[u0, u1]) (t := 113) hb1 (box2 _ _ _).2; have q1_0 := X.2.1 0 _ rfl; have q1_1 := X.2.1 1 _ rfl; have Q1 := Sec.mk X; clear X hb1))
      go_ret
      exact ⟨rb hd.out.symm, B2.out⟩
  · have hd : Sec (decide (x = y) = false) := ⟨by rw [decide_eq_false_iff_not, hxy.out]; exact fun h => h0 h.1⟩
    have d0 : decide (x.head = y.head) = false := decide_eq_false h0
    clear h0
    go_enter Tryz.func160, Tryz.ntmps160
    go_wp2_with (first | (clear T0; go_at_call 26; have T1 : Sec True := ⟨trivial⟩; refine (eqSCell_c v0 u0 x.head y.head ok ok' _ (Kd.V_below H0.out (belA (belA (Below.refl _ _) _) _) (by decide)) (Kd.V_below G0.out (belA (belA (Below.refl _ _) _) _) (by decide))).mono ?_; rintro e w1 ⟨rfl, hb1⟩; rw [d0]; have B1 := Sec.mk (bel (belA (belA (Below.refl _ _) _) _) hb1); have X := box_cells (b := w.heap.size) (cs := #[v0, v1]) (t := 113) hb1 (box2 _ _ _).1; have p1_0 := X.2.1 0 _ rfl; have p1_1 := X.2.1 1 _ rfl; have P1 := Sec.mk X; clear X; have X := box_cells (b := w.heap.size + 1) (cs := #[u0, u1]) (t := 113) hb1 (box2 _ _ _).2; have q1_0 := X.2.1 0 _ rfl; have q1_1 := X.2.1 1 _ rfl; have Q1 := Sec.mk X; clear X hb1))
    go_ret
    exact ⟨rb hd.out.symm, B1.out⟩
set_option maxHeartbeats 2000000 in
theorem eqSClause_c (v u : Value) (t s : List Clause) (ok ok' : Nat → Prop) (w : World) (hV : kClause.V w ok v t) (hU : kClause.V w ok' u s) :
    Calls Tryz.prog 77 #[v, u] w fun e w' => e = .returned (.bool (decide (t = s))) ∧ Below w.heap.size w w' := by
  obtain ⟨A, c, rfl, h1, h2, h3, hC, _⟩ := hV
  obtain ⟨B, d, rfl, k1, k2, k3, hD, _⟩ := hU
  have HC := Sec.mk hC
  have HD := Sec.mk hD
  clear hC hD
  have hu := Tryz.underlying113
  by_cases hl : t.length = s.length
  · rw [← hl]
    have HL := Sec.mk hl
    clear hl
    go_enter Tryz.func77, Tryz.ntmps77
    go_wp2
    go_loopw [5] (fun i wr => ∃ k : Nat, k ≤ t.length ∧ i = .int .i64 k ∧ Sec (t.take k = s.take k) ∧ Sec (Below w.heap.size w wr)) (fun i _ => t.length - (intOf i).toNat)
    case atStart => exact ⟨0, Nat.zero_le _, rfl, ⟨by simp⟩, ⟨Below.refl _ _⟩⟩
    case round =>
      obtain ⟨k, hk, rfl, hT, hb⟩ := hrel
      by_cases hlt : k < t.length
      · have hlt2 : k < s.length := by have := HL.out; omega
        obtain ⟨b, off, cs, rfl, hob, hK, hc⟩ := Kd.C_get HC.out (List.getElem?_eq_getElem hlt)
        obtain ⟨b2, off2, cs2, rfl, hob2, hK2, hc2⟩ := Kd.C_get HD.out (List.getElem?_eq_getElem hlt2)
        have hT1 : Sec (t[k] = s[k] → t.take (k + 1) = s.take (k + 1)) := ⟨fun e => by rw [List.take_succ_eq_append_getElem hlt, List.take_succ_eq_append_getElem hlt2, hT.out, e]⟩
        have hT2 : Sec (t = s → t[k] = s[k]) := ⟨fun e => by subst e; rfl⟩
        generalize t[k] = x at *
        generalize s[k] = y at *
        have HK := Sec.mk hK
        have HK2 := Sec.mk hK2
        obtain ⟨v0, v1, rfl, -, -⟩ := kClause_K hK
        obtain ⟨u0, u1, rfl, -, -⟩ := kClause_K hK2
        have hat : Sec (∀ W : World, Below w.heap.size w W → W.cell? ⟨b, off + k * 2, none⟩ = some (v0) ∧ W.cell? ⟨b, off + k * 2 + 1, none⟩ = some (v1) ∧ W.cell? ⟨b2, off2 + k * 2, none⟩ = some (u0) ∧ W.cell? ⟨b2, off2 + k * 2 + 1, none⟩ = some (u1)) := ⟨fun W h => ⟨Raw.cell_below h (hc 0 _ rfl), Raw.cell_below h (hc 1 _ rfl), Raw.cell_below h (hc2 0 _ rfl), Raw.cell_below h (hc2 1 _ rfl)⟩⟩
        clear hc hc2 hK hK2
        obtain ⟨x0, x1, y0, y1⟩ := hat.out _ hb.out
        have i0 : (0 : Int) ≤ (k : Int) := by omega
        have i1 : (k : Int) < (t.length : Int) := by omega
        obtain ⟨bb, hbb⟩ : ∃ bb, decide (x = y) = bb := ⟨_, rfl⟩
        have Hc : Sec (∀ W, Below w.heap.size w W → Calls Tryz.prog 160 #[.agg #[v0, v1], .agg #[u0, u1]] W fun e w' => e = .returned (.bool bb) ∧ Below W.heap.size W w') := ⟨fun W hB => by rw [← hbb]; exact eqPrgClause_c x y _ _ ok ok' W (Kd.K_below HK.out hB) (Kd.K_below HK2.out hB)⟩
        have HBB := Sec.mk hbb
        clear hbb
        go_wp2
        go_region_held3 (fun W => W.cell? ⟨b, off + k * 2, none⟩ = some (v0) ∧ W.cell? ⟨b, off + k * 2 + 1, none⟩ = some (v1) ∧ W.cell? ⟨b2, off2 + k * 2, none⟩ = some (u0) ∧ W.cell? ⟨b2, off2 + k * 2 + 1, none⟩ = some (u1))
          (first | (refine ⟨?_, ?_, ?_, ?_⟩ <;> assumption) | go_keep)
          (first | (go_at_call 160; refine (Hc.out _ (belD hb.out)).mono ?_; rintro e w1 ⟨rfl, hb1⟩; have B1 := Sec.mk (bel (belD hb.out) hb1); clear x0 x1 y0 y1; obtain ⟨x0, x1, y0, y1⟩ := hat.out _ B1.out; clear hb1))
        all_goals
          cases bb with
          | true =>
            have HE : Sec (t.take (k + 1) = s.take (k + 1)) := ⟨hT1.out (of_decide_eq_true HBB.out)⟩
            go_wp2
            go_roundw
            case rel => exact ⟨k + 1, by omega, by go_num, HE, B1⟩
            case measure => simp [intOf]; omega
          | false =>
            have HE : Sec (decide (t = s) = false) := ⟨decide_eq_false (fun e => of_decide_eq_false HBB.out (hT2.out e))⟩
            go_wp2
            go_ret
            exact ⟨rb HE.out.symm, B1.out⟩
      · have HE : Sec (decide (t = s) = true) := ⟨decide_eq_true (by have := hT.out; have h2 := HL.out; rwa [List.take_of_length_le (by omega), List.take_of_length_le (by omega)] at this)⟩
        go_wp2
        go_ret
        exact ⟨rb HE.out.symm, hb.out⟩
  · have hl' : ((t.length : Int) == (s.length : Int)) = false := beq_eq_false_iff_ne.2 (by omega)
    have HE : Sec (decide (t = s) = false) := ⟨decide_eq_false (fun e => hl (by rw [e]))⟩
    go_enter Tryz.func77, Tryz.ntmps77
    go_wp2
    go_ret
    exact ⟨rb HE.out.symm, Below.refl _ _⟩
def mClause : Mk Clause := ⟨fun x => mCell.cnts x.head + mGoal.cnts x.body, fun x k => ⟨mCell.mks x.head (k), mGoal.mks x.body (k + ((mCell.cnts x.head : Nat) : Int))⟩⟩
theorem mClause_cnt (x : Clause) : mClause.cnt x = mCell.cnts x.head + mGoal.cnts x.body := rfl
set_option maxHeartbeats 2000000 in
theorem markSClause_c (v : Value) (t : List Clause) (S : Nat → Prop) (k : Int) (hk : 0 ≤ k) (hk2 : k + mClause.cnts t ≤ 1000000000000000000) (w : World) (hR : kClause.R w S v t) :
    Calls Tryz.prog 80 #[v, .int .i64 k] w fun e w' => e = .returned (.int .i64 (k + mClause.cnts t)) ∧ kClause.R w' S v (mClause.mks t k) ∧ Foot S w w' := by
  obtain ⟨A, cp, hv, g1, g2⟩ := Kd.R_form hR
  subst hv
  have h3 : t.length ≤ 1073741824 := hR.1
  have HR := Sec.mk hR
  have hu := Tryz.underlying113
  clear hR
  have HN := Sec.mk (mClause.cnts_take t)
  have HM := Sec.mk (mClause.cnts_le t)
  have HX := Sec.mk (mClause.next t k)
  go_enter Tryz.func80, Tryz.ntmps80
  go_wp2
  go_loopw [1, 5] (fun kv iv wr => ∃ i : Nat, i ≤ t.length ∧ iv = .int .i64 i ∧ kv = .int .i64 (k + ↑(mClause.cnts (t.take i))) ∧ Sec (kClause.R wr S (.slice A t.length cp) (mClause.mks (t.take i) k ++ t.drop i)) ∧ Sec (Foot S w wr)) (fun _ iv _ => t.length - (intOf iv).toNat)
  case atStart => exact ⟨0, Nat.zero_le _, rfl, by simp [Mk.cnts], ⟨by simpa [Mk.mks] using HR.out⟩, ⟨Foot.refl _ _⟩⟩
  case round =>
    obtain ⟨i, hi, rfl, rfl, hM, hF⟩ := hrel
    by_cases hlt : i < t.length
    · have hL : (mClause.mks (t.take i) k ++ t.drop i).length = t.length := mClause.len_ t k i
      have hil : i < (mClause.mks (t.take i) k ++ t.drop i).length := by omega
      obtain ⟨b, rfl, -, hSb, hbb, -⟩ := Kd.R_block hM.out (by omega)
      obtain ⟨cs, hA, -⟩ := Kd.At.of_R hM.out hil
      rw [mClause.at_ t k i hlt] at hA
      have hnext := Sec.mk (HX.out i hlt)
      have hn1 := HN.out i hlt
      have hn2 := HM.out (i + 1)
      rw [hn1] at hn2
      have HN1 := Sec.mk hn1
      have F0 := hF
      clear hM hn1 hL
      generalize mClause.mks (t.take i) k ++ t.drop i = L at *
      generalize t[i] = x at *
      generalize mClause.cnts (t.take i) = c at *
      have hcx : Sec (mClause.cnt x = _) := ⟨mClause_cnt x⟩
      rw [mClause_cnt x] at hn2
      have hAt := hA
      obtain ⟨v0, v1, rfl, -, -⟩ := kClause_K hA.K
      have A0 := Sec.mk hA
      clear hA hAt
      have c0_0 : wr.cell? ⟨b, i * 2, none⟩ = some (v0) := Kd.At.cell A0.out 0 _ rfl
      have c0_1 : wr.cell? ⟨b, i * 2 + 1, none⟩ = some (v1) := Kd.At.cell A0.out 1 _ rfl
      have f0_0 : wr.frozen? ⟨b, i * 2, none⟩ = false := Kd.At.frozen A0.out (i * 2)
      have f0_1 : wr.frozen? ⟨b, i * 2 + 1, none⟩ = false := Kd.At.frozen A0.out (i * 2 + 1)
      obtain ⟨S0, r0, hs0, bk0⟩ := Kd.At.sub A0.out kClause_f_head (v := v0) rfl
      have SR0 := Sec.mk r0
      have SS0 := Sec.mk hs0
      have BK0 := Sec.mk bk0
      clear r0 hs0 bk0
      have T0 : Sec True := ⟨trivial⟩
      go_wp2_with (first | (clear T1; go_at_call 162; have T2 : Sec True := ⟨trivial⟩; refine (markSGoal_c v1 x.body S1 (k + (c : Int) + ((mCell.cnts x.head : Nat) : Int)) (by omega) (by omega) _ SR1.out).mono ?_; rintro e w2 ⟨rfl, hR', hF'⟩; have A2 : Sec (Kd.At kClause w2 S b t.length cp L i ⟨(mCell.mks x.head (k + (c : Int))), (mGoal.mks x.body (k + (c : Int) + ((mCell.cnts x.head : Nat) : Int)))⟩ [v0, v1]) := ⟨BK1.out w2 _ hR' hF'⟩; have F2 : Sec (Foot S w w2) := ⟨F1.out.trans hF' (fun k _ h => (SS1.out k h).1)⟩; clear hR' hF'; clear c1_0 f1_0 c1_1 f1_1; have c2_0 : w2.cell? ⟨b, i * 2, none⟩ = some (v0) := Kd.At.cell A2.out 0 _ rfl; have c2_1 : w2.cell? ⟨b, i * 2 + 1, none⟩ = some (v1) := Kd.At.cell A2.out 1 _ rfl; have f2_0 : w2.frozen? ⟨b, i * 2, none⟩ = false := Kd.At.frozen A2.out (i * 2); have f2_1 : w2.frozen? ⟨b, i * 2 + 1, none⟩ = false := Kd.At.frozen A2.out (i * 2 + 1)) | (clear T0; go_at_call 28; have T1 : Sec True := ⟨trivial⟩; refine (markSCell_c v0 x.head S0 (k + (c : Int)) (by omega) (by omega) _ SR0.out).mono ?_; rintro e w1 ⟨rfl, hR', hF'⟩; have A1 : Sec (Kd.At kClause w1 S b t.length cp L i ⟨(mCell.mks x.head (k + (c : Int))), x.body⟩ [v0, v1]) := ⟨BK0.out w1 _ hR' hF'⟩; have F1 : Sec (Foot S w w1) := ⟨F0.out.trans hF' (fun k _ h => (SS0.out k h).1)⟩; clear hR' hF'; clear c0_0 f0_0 c0_1 f0_1; have c1_0 : w1.cell? ⟨b, i * 2, none⟩ = some (v0) := Kd.At.cell A1.out 0 _ rfl; have c1_1 : w1.cell? ⟨b, i * 2 + 1, none⟩ = some (v1) := Kd.At.cell A1.out 1 _ rfl; have f1_0 : w1.frozen? ⟨b, i * 2, none⟩ = false := Kd.At.frozen A1.out (i * 2); have f1_1 : w1.frozen? ⟨b, i * 2 + 1, none⟩ = false := Kd.At.frozen A1.out (i * 2 + 1); obtain ⟨S1, r1, hs1, bk1⟩ := Kd.At.sub A1.out kClause_f_body (v := v1) rfl; have SR1 := Sec.mk r1; have SS1 := Sec.mk hs1; have BK1 := Sec.mk bk1; clear r1 hs1 bk1))
      go_roundw
      case rel => exact ⟨i + 1, by omega, by go_num, by rw [HN1.out, hcx.out]; congr 1; omega, ⟨by rw [← hnext.out]; exact A2.out.R⟩, F2⟩
      case measure => simp [intOf]; omega
    · have hfin : Sec (mClause.mks (t.take i) k ++ t.drop i = mClause.mks t k) := ⟨by rw [List.take_of_length_le (by omega), List.drop_of_length_le (by omega), List.append_nil]⟩
      have hM2 := hM.out
      rw [hfin.out] at hM2
      have HM2 := Sec.mk hM2
      have hi2 : Sec (k + ↑(mClause.cnts (t.take i)) = k + ↑(mClause.cnts t)) := ⟨by rw [List.take_of_length_le (by omega)]⟩
      clear hM2 hM hfin
      go_wp2
      go_ret
      exact ⟨ri hi2.out, HM2.out, hF.out⟩
set_option maxHeartbeats 2000000 in
theorem heldSClause_c (v : Value) (t : List Clause) (ok : Nat → Prop) (k : Int) (hk : 0 ≤ k) (hk2 : k + mClause.cnts t ≤ 1000000000000000000) (w : World) (hV : kClause.V w ok v (mClause.mks t k)) :
    Calls Tryz.prog 164 #[v, .int .i64 k] w fun e w' => e = .returned (.int .i64 (k + mClause.cnts t)) ∧ Below w.heap.size w w' := by
  obtain ⟨A, cp, rfl, g1, g2, g3, hC, _⟩ := hV
  rw [Mk.mks_len] at g1 g3
  rw [Mk.mks_len]
  have HC := Sec.mk hC
  have hu := Tryz.underlying113
  clear hC
  have HN := Sec.mk (mClause.cnts_take t)
  have HM := Sec.mk (mClause.cnts_le t)
  have HG := Sec.mk (mClause.get t k)
  have HLn := Sec.mk (mClause.mks_len t k)
  go_enter Tryz.func164, Tryz.ntmps164
  go_wp2
  go_loopw [1, 5] (fun kv iv wr => ∃ i : Nat, i ≤ t.length ∧ iv = .int .i64 i ∧ kv = .int .i64 (k + ↑(mClause.cnts (t.take i))) ∧ Sec (Below w.heap.size w wr)) (fun _ iv _ => t.length - (intOf iv).toNat)
  case atStart => exact ⟨0, Nat.zero_le _, rfl, by simp [Mk.cnts], ⟨Below.refl _ _⟩⟩
  case round =>
    obtain ⟨i, hi, rfl, rfl, hb⟩ := hrel
    by_cases hlt : i < t.length
    · obtain ⟨b, off, cs, rfl, hob, hK, hc⟩ := Kd.C_get HC.out (List.getElem?_eq_getElem (by rw [HLn.out]; exact hlt))
      rw [HG.out i hlt] at hK
      have hn1 := HN.out i hlt
      have hn2 := HM.out (i + 1)
      rw [hn1] at hn2
      have HN1 := Sec.mk hn1
      clear hn1
      generalize t[i] = x at *
      generalize mClause.cnts (t.take i) = c at *
      have hcx : Sec (mClause.cnt x = _) := ⟨mClause_cnt x⟩
      rw [mClause_cnt x] at hn2
      obtain ⟨v0, v1, rfl, h0, h1⟩ := kClause_K hK
      have hat : Sec (∀ W : World, Below w.heap.size w W → W.cell? ⟨b, off + i * 2, none⟩ = some (v0) ∧ W.cell? ⟨b, off + i * 2 + 1, none⟩ = some (v1)) := ⟨fun W h => ⟨Raw.cell_below h (hc 0 _ rfl), Raw.cell_below h (hc 1 _ rfl)⟩⟩
      have i0 : (0 : Int) ≤ (i : Int) := by omega
      have i1 : (i : Int) < (t.length : Int) := by omega
      have H0 : Sec (kCell.V w ok v0 (mCell.mks x.head (k + (c : Int)))) := ⟨h0⟩
      clear h0
      have H1 : Sec (kGoal.V w ok v1 (mGoal.mks x.body (k + (c : Int) + ((mCell.cnts x.head : Nat) : Int)))) := ⟨h1⟩
      clear h1
      clear hc hK
      obtain ⟨c0, c1⟩ := hat.out _ hb.out
      have B0 := hb
      have T0 : Sec True := ⟨trivial⟩
      go_wp2_with (first | (clear T1; go_at_call 212; have T2 : Sec True := ⟨trivial⟩; refine (heldSGoal_c v1 x.body ok (k + (c : Int) + ((mCell.cnts x.head : Nat) : Int)) (by omega) (by omega) _ (Kd.V_below H1.out B1.out (by decide))).mono ?_; rintro e w2 ⟨rfl, hb1⟩; have B2 := Sec.mk (bel B1.out hb1); clear hb1 c0 c1; obtain ⟨c0, c1⟩ := hat.out _ B2.out) | (clear T0; go_at_call 88; have T1 : Sec True := ⟨trivial⟩; refine (heldSCell_c v0 x.head ok (k + (c : Int)) (by omega) (by omega) _ (Kd.V_below H0.out B0.out (by decide))).mono ?_; rintro e w1 ⟨rfl, hb1⟩; have B1 := Sec.mk (bel B0.out hb1); clear hb1 c0 c1; obtain ⟨c0, c1⟩ := hat.out _ B1.out))
      go_roundw
      case rel => exact ⟨i + 1, by omega, by go_num, by rw [HN1.out, hcx.out]; congr 1; omega, B2⟩
      case measure => simp [intOf]; omega
    · have hi2 : Sec (k + ↑(mClause.cnts (t.take i)) = k + ↑(mClause.cnts t)) := ⟨by rw [List.take_of_length_le (by omega)]⟩
      go_wp2
      go_ret
      exact ⟨ri hi2.out, hb.out⟩
def mClauset : Mk Clause := ⟨fun x => mCell.cnts x.head + mGoal.cnts x.body, fun x k => ⟨mCell.mks x.head (k), mGoal.mks x.body (k + ((mCell.cnts x.head : Nat) : Int))⟩⟩
theorem rClause_le6 (x : Clause) : mClause.cnt x ≤ 8 + 8 * rClause.wt x := by
  rw [mClause_cnt]; rw [rClause_wt]; have := Mk.cnts_le6 rCell_le6 x.head; have := Mk.cnts_le6 rGoal_le6 x.body; omega
end
section
open Go.RowKit
set_option linter.unusedVariables false
set_option maxRecDepth 100000
def kPlace : Kd Place := Kd.iso 116 (Kd.pair (Kd.str 9) (Kd.pair (Kd.int 3) (Kd.int 3))) (fun x => (x.name, x.n, x.node))
theorem kPlace_K {w : World} {ok : Nat → Prop} {x : Place} {cs : List Value} (h : kPlace.K w ok x cs) : cs = [.string x.name, .int .i64 x.n, .int .i64 x.node] ∧ x.name.size ≤ 1073741824 := by
  obtain ⟨_, _, rfl, ⟨rfl, h0⟩, ⟨_, _, rfl, ⟨rfl, _⟩, ⟨rfl, _⟩⟩⟩ := h
  exact ⟨rfl, h0⟩
def rPlace : Raw Place := Raw.iso 201 (Raw.pair (Raw.str 9) (Raw.pair (Raw.int 3) (Raw.int 3))) (fun x => (x.name, x.n, x.node))
theorem rPlace_K {w : World} {x : Place} {cs : List Value} (h : rPlace.K w x cs) : cs = [.string x.name, .int .i64 x.n, .int .i64 x.node] ∧ x.name.size ≤ maxLen := by
  obtain ⟨_, _, rfl, ⟨rfl, h0⟩, ⟨_, _, rfl, ⟨rfl, _⟩, ⟨rfl, _⟩⟩⟩ := h
  exact ⟨rfl, h0⟩
theorem rPlace_mono : Raw.Mono rPlace := Raw.mono_iso (Raw.mono_pair Raw.mono_scalar (Raw.mono_pair Raw.mono_scalar Raw.mono_scalar))
theorem rPlace_wt (x : Place) : rPlace.wt x = (HAdd.hAdd x.name.size (HAdd.hAdd 0 0)) := rfl
theorem rPlace_fits : Raw.Fits rPlace kPlace := Raw.fits_iso (Raw.fits_pair (Raw.fits_str _ _) (Raw.fits_pair (Raw.fits_int _ _) (Raw.fits_int _ _))) _ _ _
theorem rPlace_opn : Raw.Opn Tryz.prog rPlace := Raw.opn_struct Tryz.underlying201 (by kernel_rfl) (fun b => ⟨⟨b.1, b.2.1, b.2.2⟩, rfl⟩) (Raw.opnF_cons (Raw.opn_str Tryz.underlying9) rfl rfl (by kernel_rfl) (by decide) (Raw.opnF_cons (Raw.opn_int Tryz.underlying3) rfl rfl (by kernel_rfl) (by decide) (Raw.opnF_last (Raw.opn_int Tryz.underlying3) rfl rfl (by kernel_rfl) (by decide))))
theorem Place.ext_iff (a b : Place) : a = b ↔ a.name = b.name ∧ a.n = b.n ∧ a.node = b.node := by
  cases a; cases b; simp
instance : DecidableEq Place := fun a b => decidable_of_iff _ (Place.ext_iff a b).symm
def zeroPlace : Place := ⟨⟨#[]⟩, 0, 0⟩
theorem kPlace_zero (w : World) : kPlace.O w (fun _ => False) zeroPlace [.string ⟨#[]⟩, .int .i64 0, .int .i64 0] := (Kd.O_pair0 (d := (Kd.str 9)) (e := (Kd.pair (Kd.int 3) (Kd.int 3))) ⟨rfl, by decide⟩ (Kd.O_pair0 (d := (Kd.int 3)) (e := (Kd.int 3)) ⟨rfl, trivial⟩ ⟨rfl, trivial⟩))
theorem kPlace_f_name : Kd.Fld kPlace (Kd.str 9) 0 (fun x => x.name) (fun x y => { x with name := y }) := Kd.Fld.iso _ (Kd.Fld.fst (Kd.Fld.self _)) (fun _ _ => rfl)
theorem kPlace_f_n : Kd.Fld kPlace (Kd.int 3) 1 (fun x => x.n) (fun x y => { x with n := y }) := Kd.Fld.iso _ (Kd.Fld.snd (Kd.Fld.fst (Kd.Fld.self _))) (fun _ _ => rfl)
theorem kPlace_f_node : Kd.Fld kPlace (Kd.int 3) 2 (fun x => x.node) (fun x y => { x with node := y }) := Kd.Fld.iso _ (Kd.Fld.snd (Kd.Fld.snd (Kd.Fld.self _))) (fun _ _ => rfl)
theorem kPlace_mk (w : World) (S : Nat → Prop) (x : Place) (h : x.name.size ≤ 1073741824) : kPlace.O w S x [.string x.name, .int .i64 x.n, .int .i64 x.node] :=
  ⟨fun _ => False, fun _ => False, [.string x.name], [.int .i64 x.n, .int .i64 x.node], rfl, fun _ h => h.elim, fun _ h => h.elim, ⟨rfl, h⟩,
    fun _ => False, fun _ => False, [.int .i64 x.n], [.int .i64 x.node], rfl, fun _ h => h.elim, fun _ h => h.elim, ⟨rfl, trivial⟩, rfl, trivial⟩
theorem szPrgPlace_c (x : Place) (cs : List Value) (left : Nat) (hl : left ≤ 1048576) (w : World) (hK : rPlace.K w x cs) :
    Calls Tryz.prog 147 #[.agg cs.toArray, .int .i64 left] w fun e w' => e = .returned (.int .i64 (Raw.spent (rPlace.wt x) left)) ∧ Below w.heap.size w w' := by
  obtain ⟨rfl, hx⟩ := rPlace_K hK
  have hx2 : x.name.size ≤ 9223372036854775807 := by simpa [maxLen] using hx
  have hu2 := Tryz.underlying201
  have hw : rPlace.wt x = x.name.size := by rw [rPlace_wt]; rfl
  by_cases h : x.name.size ≤ left
  · have HE : Sec ((left : Int) - x.name.size = Raw.spent (rPlace.wt x) left) := ⟨by rw [hw, Raw.spent_le h]; omega⟩
    clear hw hK
    go_enter Tryz.func147, Tryz.ntmps147
    go_wp2
    go_ret
    exact ⟨ri HE.out, belA (Below.refl _ _) _⟩
  · have HE : Sec (-1 = Raw.spent (rPlace.wt x) left) := ⟨by rw [hw, Raw.spent_gt h]⟩
    clear hw hK
    go_enter Tryz.func147, Tryz.ntmps147
    go_wp2
    go_ret
    exact ⟨ri HE.out, belA (Below.refl _ _) _⟩
theorem toPrgPlace_c (x : Place) (cs : List Value) (ok : Nat → Prop) (w : World) (hK : kPlace.K w ok x cs) :
    Calls Tryz.prog 150 #[.agg cs.toArray] w fun e w' => ∃ c : List Value, e = .returned (.agg c.toArray) ∧ kPlace.O w' (fun k => w.heap.size ≤ k) x c ∧ Below w.heap.size w w' := by
  obtain ⟨rfl, hx⟩ := kPlace_K hK
  have hu := Tryz.underlying116
  have hu2 := Tryz.underlying201
  go_enter Tryz.func150, Tryz.ntmps150
  go_wp2
  exact bodyPost_ret (v := .agg #[.string x.name, .int .i64 x.n, .int .i64 x.node]) (by simp [results, Tryz.results150, go_sem]) rfl ⟨[.string x.name, .int .i64 x.n, .int .i64 x.node], rfl, kPlace_mk _ _ x hx, belA (belA (belA (Below.refl _ _) _) _) _⟩
theorem eqPrgPlace_c (x y : Place) (cs ds : List Value) (ok ok' : Nat → Prop) (w : World) (hK : kPlace.K w ok x cs) (hD : kPlace.K w ok' y ds) :
    Calls Tryz.prog 161 #[.agg cs.toArray, .agg ds.toArray] w fun e w' => e = .returned (.bool (decide (x = y))) ∧ Below w.heap.size w w' := by
  obtain ⟨rfl, -⟩ := kPlace_K hK
  obtain ⟨rfl, -⟩ := kPlace_K hD
  have hu := Tryz.underlying116
  have hxy := Place.ext_iff x y
  by_cases h3 : x.name = y.name
  · have g3 : (x.name.toList == y.name.toList) = true := beq_iff_eq.2 (toList_inj.2 h3)
    by_cases h1 : x.n = y.n
    · have g1 : (x.n == y.n) = true := beq_iff_eq.2 h1
      by_cases h2 : x.node = y.node
      · have g2 : (x.node == y.node) = true := beq_iff_eq.2 h2
        have hd : Sec (decide (x = y) = true) := ⟨by rw [decide_eq_true_eq, hxy]; exact ⟨h3, h1, h2⟩⟩
        clear hK hD hxy h1 h2 h3
        go_enter Tryz.func161, Tryz.ntmps161
        go_wp2
        go_ret
        exact ⟨rb hd.out.symm, belA (belA (Below.refl _ _) _) _⟩
      · have g2 : (x.node == y.node) = false := beq_eq_false_iff_ne.2 h2
        have hd : Sec (decide (x = y) = false) := ⟨by rw [decide_eq_false_iff_not, hxy]; exact fun h => h2 h.2.2⟩
        clear hK hD hxy h1 h2 h3
        go_enter Tryz.func161, Tryz.ntmps161
        go_wp2
        go_ret
        exact ⟨rb hd.out.symm, belA (belA (Below.refl _ _) _) _⟩
    · have g1 : (x.n == y.n) = false := beq_eq_false_iff_ne.2 h1
      have hd : Sec (decide (x = y) = false) := ⟨by rw [decide_eq_false_iff_not, hxy]; exact fun h => h1 h.2.1⟩
      clear hK hD hxy h1 h3
      go_enter Tryz.func161, Tryz.ntmps161
      go_wp2
      go_ret
      exact ⟨rb hd.out.symm, belA (belA (Below.refl _ _) _) _⟩
  · have g3 : (x.name.toList == y.name.toList) = false := beq_eq_false_iff_ne.2 (fun h => h3 (toList_inj.1 h))
    have hd : Sec (decide (x = y) = false) := ⟨by rw [decide_eq_false_iff_not, hxy]; exact fun h => h3 h.1⟩
    clear hK hD hxy h3
    go_enter Tryz.func161, Tryz.ntmps161
    go_wp2
    go_ret
    exact ⟨rb hd.out.symm, belA (belA (Below.refl _ _) _) _⟩
set_option maxHeartbeats 1000000 in
theorem szSPlace_c (v : Value) (t : List Place) (left : Nat) (hl : left ≤ 1048576) (w : World) (hV : rPlace.V w v t) :
    Calls Tryz.prog 62 #[v, .int .i64 left] w fun e w' => e = .returned (.int .i64 (Raw.spent (rPlace.wts t) left)) ∧ Below w.heap.size w w' := by
  obtain ⟨A, c, rfl, h1, h2, hC, _⟩ := hV
  have HC := Sec.mk hC
  clear hC
  have h3 : t.length ≤ 9223372036854775807 := by have : c ≤ 9223372036854775807 := by simpa [maxLen] using h2
                                                 omega
  have hu2 := Tryz.underlying201
  by_cases hlen : t.length ≤ left
  · obtain ⟨l1, hl1⟩ : ∃ l1 : Nat, (left : Int) - t.length = l1 := ⟨left - t.length, by omega⟩
    have hl2 : l1 + t.length = left := by omega
    have HL := Sec.mk hl1
    have HS : Sec (∀ (k : Nat) (hk : k < t.length), ((t.take (k + 1)).map rPlace.wt).sum = ((t.take k).map rPlace.wt).sum + rPlace.wt t[k] ∧ ((t.take (k + 1)).map rPlace.wt).sum ≤ (t.map rPlace.wt).sum) := ⟨fun k hk => ⟨Raw.wts_take _ _ _ hk, Raw.wts_take_le _ _ _⟩⟩
    go_enter Tryz.func62, Tryz.ntmps62
    go_wp2
    go_loopw [1, 5] (fun l i wr => ∃ k m : Nat, k ≤ t.length ∧ i = .int .i64 k ∧ l = .int .i64 m ∧ m ≤ 1048576 ∧ Sec (m + ((t.take k).map rPlace.wt).sum = l1) ∧ Sec (Below w.heap.size w wr)) (fun _ i _ => t.length - (intOf i).toNat)
    case atStart => exact ⟨0, l1, Nat.zero_le _, rfl, rfl, by omega, ⟨by simp⟩, ⟨Below.refl _ _⟩⟩
    case round =>
      obtain ⟨k, m, hk, rfl, rfl, hm, hM, hb⟩ := hrel
      by_cases hlt : k < t.length
      · obtain ⟨b, off, cs, rfl, hK, hc⟩ := Raw.C_get HC.out k hlt
        obtain ⟨s1, s2⟩ := HS.out k hlt
        have S1 := Sec.mk s1
        have S2 := Sec.mk s2
        clear s1 s2
        generalize t[k] = x at *
        have HK := Sec.mk hK
        obtain ⟨rfl, -⟩ := rPlace_K hK
        have c0 : wr.cell? ⟨b, off + k * 3, none⟩ = some (.string x.name) := Raw.cell_below hb.out (hc 0 _ rfl)
        have c1 : wr.cell? ⟨b, off + k * 3 + 1, none⟩ = some (.int .i64 x.n) := Raw.cell_below hb.out (hc 1 _ rfl)
        have c2 : wr.cell? ⟨b, off + k * 3 + 2, none⟩ = some (.int .i64 x.node) := Raw.cell_below hb.out (hc 2 _ rfl)
        clear hc hK
        by_cases hx : rPlace.wt x ≤ m
        · have e1 := Raw.spent_le hx
          have e2 : ¬ (((m - rPlace.wt x : Nat) : Int) < 0) := by omega
          generalize hm2 : m - rPlace.wt x = m2 at *
          have HM2 : Sec (m2 + ((t.take (k + 1)).map rPlace.wt).sum = l1) := ⟨by rw [S1.out]; have := hM.out; omega⟩
          have hm3 : m2 ≤ 1048576 := by omega
          clear hm2
          go_wp2_with (go_at_call 147; refine (szPrgPlace_c x _ m hm wr (rPlace_mono _ _ _ _ hb.out HK.out)).mono ?_; rintro e w1 ⟨rfl, hb1⟩; have B1 := Sec.mk (bel hb.out hb1); rw [e1]; clear c0 c1 c2)
          go_roundw
          case rel => exact ⟨k + 1, m2, by omega, by go_num, rfl, hm3, HM2, B1⟩
          case measure => simp [intOf]; omega
        · have e1 := Raw.spent_gt hx
          have hfin : Sec (Raw.spent (rPlace.wts t) left = -1) := ⟨Raw.spent_gt (by unfold Raw.wts; have := S1.out; have := S2.out; have := hM.out; omega)⟩
          go_wp2_with (go_at_call 147; refine (szPrgPlace_c x _ m hm wr (rPlace_mono _ _ _ _ hb.out HK.out)).mono ?_; rintro e w1 ⟨rfl, hb1⟩; have B1 := Sec.mk (bel hb.out hb1); rw [e1]; clear c0 c1 c2)
          go_ret
          exact ⟨ri hfin.out.symm, B1.out⟩
      · have hfin : Sec ((m : Int) = Raw.spent (rPlace.wts t) left) := ⟨by
          have h1 := hM.out
          rw [List.take_of_length_le (by omega)] at h1
          rw [Raw.spent_le (by unfold Raw.wts; omega)]
          unfold Raw.wts
          omega⟩
        go_wp2
        go_ret
        exact ⟨ri hfin.out, hb.out⟩
  · have hfin : Sec (Raw.spent (rPlace.wts t) left = -1) := ⟨Raw.spent_gt (by unfold Raw.wts; omega)⟩
    go_enter Tryz.func62, Tryz.ntmps62
    go_wp2
    go_ret
    exact ⟨ri hfin.out.symm, Below.refl _ _⟩
set_option maxHeartbeats 1000000 in
theorem toSPlace_c (v : Value) (t : List Place) (ok : Nat → Prop) (w : World) (hV : kPlace.V w ok v t) :
    Calls Tryz.prog 67 #[v] w fun e w' => ∃ u, e = .returned u ∧ kPlace.R w' (fun k => w.heap.size ≤ k) u t ∧ Below w.heap.size w w' := by
  obtain ⟨A, c, rfl, h1, h2, h3, hC, _⟩ := hV
  have HC := Sec.mk hC
  clear hC
  have hu := Tryz.underlying116
  have hu2 := Tryz.underlying201
  have hmk := made (P := Tryz.prog) 26 116 (.agg #[.string ⟨#[]⟩, .int .i64 0, .int .i64 0]) 3 32 Tryz.underlying26 (by kernel_rfl) (by decide) t.length h3
  have HM := Sec.mk (Kd.R_made (d := kPlace) (w := w) (B := w.heap.size) (x0 := zeroPlace) (z := #[.string ⟨#[]⟩, .int .i64 0, .int .i64 0]) (n := t.length) (fun w => kPlace_zero w) rfl (Nat.le_refl _) h3)
  go_enter Tryz.func67, Tryz.ntmps67
  go_wp2
  clear hmk
  go_loopw [4] (fun i wr => ∃ k : Nat, k ≤ t.length ∧ i = .int .i64 k ∧ Sec (kPlace.R wr (fun k => w.heap.size ≤ k) (.slice (some ⟨w.heap.size, 0, none⟩) t.length t.length) (t.take k ++ List.replicate (t.length - k) zeroPlace)) ∧ Sec (Below w.heap.size w wr)) (fun i _ => t.length - (intOf i).toNat)
  case atStart => exact ⟨0, Nat.zero_le _, rfl, ⟨HM.out⟩, ⟨belA (Below.refl _ _) _⟩⟩
  case round =>
    obtain ⟨k, hk, rfl, hR, hb⟩ := hrel
    by_cases hlt : k < t.length
    · obtain ⟨b, off, cs, rfl, hob, hK, hc⟩ := Kd.C_get (Kd.C_below HC.out hb.out (by decide)) (List.getElem?_eq_getElem hlt)
      have hL : Sec ((t.take k ++ List.replicate (t.length - k) zeroPlace).length = t.length) := ⟨by simp; omega⟩
      have hset : Sec ((t.take k ++ List.replicate (t.length - k) zeroPlace).set k t[k] = t.take (k + 1) ++ List.replicate (t.length - (k + 1)) zeroPlace) := ⟨put_next t zeroPlace k hlt⟩
      generalize t[k] = x at *
      have HK := Sec.mk hK
      obtain ⟨rfl, -⟩ := kPlace_K hK
      have c0 : wr.cell? ⟨b, off + k * 3, none⟩ = some (.string x.name) := hc 0 _ rfl
      have c1 : wr.cell? ⟨b, off + k * 3 + 1, none⟩ = some (.int .i64 x.n) := hc 1 _ rfl
      have c2 : wr.cell? ⟨b, off + k * 3 + 2, none⟩ = some (.int .i64 x.node) := hc 2 _ rfl
      clear hc hK
      go_wp2_with (go_at_call 150; refine (toPrgPlace_c x _ ok _ HK.out).mono ?_; rintro e w1 ⟨d0, rfl, hO, hb1⟩; have HO := Sec.mk hO; obtain ⟨rfl, -⟩ := kPlace_K (Kd.O_K _ hO); clear hO; have R1 := Sec.mk (Kd.R_below (Kd.R_mono hR.out (S1 := fun k => w.heap.size ≤ k ∧ k < wr.heap.size) (fun k h1 h2 => ⟨h1, h2⟩)) hb1); have B1 := Sec.mk (bel hb.out hb1); have hsz := Sec.mk hb.out.size; obtain ⟨q0, e0, f0⟩ := Kd.R_cell R1.out k 0 (by rw [hL.out]; exact hlt) (by decide); obtain ⟨q1, e1, f1⟩ := Kd.R_cell R1.out k 1 (by rw [hL.out]; exact hlt) (by decide); obtain ⟨q2, e2, f2⟩ := Kd.R_cell R1.out k 2 (by rw [hL.out]; exact hlt) (by decide); rw [show kPlace.sz = 3 from rfl] at e0 f0 e1 f1 e2 f2; rw [Nat.add_zero] at e0 f0; have P1 := Sec.mk (Kd.R_put R1.out k (by rw [hL.out]; exact hlt) HO.out (fun k h1 h2 => absurd h2.2 (Nat.not_lt.2 h1))); have F1 := Sec.mk ((Foot.refl (fun k => w.heap.size ≤ k) w1).setCells (g := w.heap.size) (.inl (Nat.le_refl _)) [.string x.name, .int .i64 x.n, .int .i64 x.node] (k * 3)); clear hb1 c0 c1 c2)
      go_roundw
      case rel => exact ⟨k + 1, by omega, by go_num, ⟨by rw [← hset.out]; exact Kd.R_mono P1.out (fun k h _ => h.elim (fun h => h.1) (fun h => Nat.le_trans hsz.out h))⟩, ⟨F1.out.below B1.out (fun _ h => h)⟩⟩
      case measure => simp [intOf]; omega
    · have hfin : Sec (t.take k ++ List.replicate (t.length - k) zeroPlace = t) := ⟨by rw [List.take_of_length_le (by omega), show t.length - k = 0 by omega]; simp⟩
      have hR2 := hR.out
      rw [hfin.out] at hR2
      have HR2 := Sec.mk hR2
      clear hR2 hfin hR
      go_wp2
      go_ret
      exact ⟨_, rfl, HR2.out, hb.out⟩
set_option maxHeartbeats 2000000 in
theorem eqSPlace_c (v u : Value) (t s : List Place) (ok ok' : Nat → Prop) (w : World) (hV : kPlace.V w ok v t) (hU : kPlace.V w ok' u s) :
    Calls Tryz.prog 78 #[v, u] w fun e w' => e = .returned (.bool (decide (t = s))) ∧ Below w.heap.size w w' := by
  obtain ⟨A, c, rfl, h1, h2, h3, hC, _⟩ := hV
  obtain ⟨B, d, rfl, k1, k2, k3, hD, _⟩ := hU
  have HC := Sec.mk hC
  have HD := Sec.mk hD
  clear hC hD
  have hu := Tryz.underlying116
  by_cases hl : t.length = s.length
  · rw [← hl]
    have HL := Sec.mk hl
    clear hl
    go_enter Tryz.func78, Tryz.ntmps78
    go_wp2
    go_loopw [5] (fun i wr => ∃ k : Nat, k ≤ t.length ∧ i = .int .i64 k ∧ Sec (t.take k = s.take k) ∧ Sec (Below w.heap.size w wr)) (fun i _ => t.length - (intOf i).toNat)
    case atStart => exact ⟨0, Nat.zero_le _, rfl, ⟨by simp⟩, ⟨Below.refl _ _⟩⟩
    case round =>
      obtain ⟨k, hk, rfl, hT, hb⟩ := hrel
      by_cases hlt : k < t.length
      · have hlt2 : k < s.length := by have := HL.out; omega
        obtain ⟨b, off, cs, rfl, hob, hK, hc⟩ := Kd.C_get HC.out (List.getElem?_eq_getElem hlt)
        obtain ⟨b2, off2, cs2, rfl, hob2, hK2, hc2⟩ := Kd.C_get HD.out (List.getElem?_eq_getElem hlt2)
        have hT1 : Sec (t[k] = s[k] → t.take (k + 1) = s.take (k + 1)) := ⟨fun e => by rw [List.take_succ_eq_append_getElem hlt, List.take_succ_eq_append_getElem hlt2, hT.out, e]⟩
        have hT2 : Sec (t = s → t[k] = s[k]) := ⟨fun e => by subst e; rfl⟩
        generalize t[k] = x at *
        generalize s[k] = y at *
        have HK := Sec.mk hK
        have HK2 := Sec.mk hK2
        obtain ⟨rfl, -⟩ := kPlace_K hK
        obtain ⟨rfl, -⟩ := kPlace_K hK2
        have hat : Sec (∀ W : World, Below w.heap.size w W → W.cell? ⟨b, off + k * 3, none⟩ = some (.string x.name) ∧ W.cell? ⟨b, off + k * 3 + 1, none⟩ = some (.int .i64 x.n) ∧ W.cell? ⟨b, off + k * 3 + 2, none⟩ = some (.int .i64 x.node) ∧ W.cell? ⟨b2, off2 + k * 3, none⟩ = some (.string y.name) ∧ W.cell? ⟨b2, off2 + k * 3 + 1, none⟩ = some (.int .i64 y.n) ∧ W.cell? ⟨b2, off2 + k * 3 + 2, none⟩ = some (.int .i64 y.node)) := ⟨fun W h => ⟨Raw.cell_below h (hc 0 _ rfl), Raw.cell_below h (hc 1 _ rfl), Raw.cell_below h (hc 2 _ rfl), Raw.cell_below h (hc2 0 _ rfl), Raw.cell_below h (hc2 1 _ rfl), Raw.cell_below h (hc2 2 _ rfl)⟩⟩
        clear hc hc2 hK hK2
        obtain ⟨x0, x1, x2, y0, y1, y2⟩ := hat.out _ hb.out
        have i0 : (0 : Int) ≤ (k : Int) := by omega
        have i1 : (k : Int) < (t.length : Int) := by omega
        obtain ⟨bb, hbb⟩ : ∃ bb, decide (x = y) = bb := ⟨_, rfl⟩
        have Hc : Sec (∀ W, Below w.heap.size w W → Calls Tryz.prog 161 #[.agg #[.string x.name, .int .i64 x.n, .int .i64 x.node], .agg #[.string y.name, .int .i64 y.n, .int .i64 y.node]] W fun e w' => e = .returned (.bool bb) ∧ Below W.heap.size W w') := ⟨fun W hB => by rw [← hbb]; exact eqPrgPlace_c x y _ _ ok ok' W (Kd.K_below HK.out hB) (Kd.K_below HK2.out hB)⟩
        have HBB := Sec.mk hbb
        clear hbb
        go_wp2
        go_region_held3 (fun W => W.cell? ⟨b, off + k * 3, none⟩ = some (.string x.name) ∧ W.cell? ⟨b, off + k * 3 + 1, none⟩ = some (.int .i64 x.n) ∧ W.cell? ⟨b, off + k * 3 + 2, none⟩ = some (.int .i64 x.node) ∧ W.cell? ⟨b2, off2 + k * 3, none⟩ = some (.string y.name) ∧ W.cell? ⟨b2, off2 + k * 3 + 1, none⟩ = some (.int .i64 y.n) ∧ W.cell? ⟨b2, off2 + k * 3 + 2, none⟩ = some (.int .i64 y.node))
          (first | (refine ⟨?_, ?_, ?_, ?_, ?_, ?_⟩ <;> assumption) | go_keep)
          (first | (go_at_call 161; refine (Hc.out _ (belD hb.out)).mono ?_; rintro e w1 ⟨rfl, hb1⟩; have B1 := Sec.mk (bel (belD hb.out) hb1); clear x0 x1 x2 y0 y1 y2; obtain ⟨x0, x1, x2, y0, y1, y2⟩ := hat.out _ B1.out; clear hb1))
        all_goals
          cases bb with
          | true =>
            have HE : Sec (t.take (k + 1) = s.take (k + 1)) := ⟨hT1.out (of_decide_eq_true HBB.out)⟩
            go_wp2
            go_roundw
            case rel => exact ⟨k + 1, by omega, by go_num, HE, B1⟩
            case measure => simp [intOf]; omega
          | false =>
            have HE : Sec (decide (t = s) = false) := ⟨decide_eq_false (fun e => of_decide_eq_false HBB.out (hT2.out e))⟩
            go_wp2
            go_ret
            exact ⟨rb HE.out.symm, B1.out⟩
      · have HE : Sec (decide (t = s) = true) := ⟨decide_eq_true (by have := hT.out; have h2 := HL.out; rwa [List.take_of_length_le (by omega), List.take_of_length_le (by omega)] at this)⟩
        go_wp2
        go_ret
        exact ⟨rb HE.out.symm, hb.out⟩
  · have hl' : ((t.length : Int) == (s.length : Int)) = false := beq_eq_false_iff_ne.2 (by omega)
    have HE : Sec (decide (t = s) = false) := ⟨decide_eq_false (fun e => hl (by rw [e]))⟩
    go_enter Tryz.func78, Tryz.ntmps78
    go_wp2
    go_ret
    exact ⟨rb HE.out.symm, Below.refl _ _⟩
def mPlace : Mk Place := ⟨fun x => 1 + 1 + 1, fun x k => ⟨mt (k), k + 1, k + 1 + 1⟩⟩
theorem mPlace_cnt (x : Place) : mPlace.cnt x = 1 + 1 + 1 := rfl
set_option maxHeartbeats 2000000 in
theorem markSPlace_c (v : Value) (t : List Place) (S : Nat → Prop) (k : Int) (hk : 0 ≤ k) (hk2 : k + mPlace.cnts t ≤ 1000000000000000000) (w : World) (hR : kPlace.R w S v t) :
    Calls Tryz.prog 81 #[v, .int .i64 k] w fun e w' => e = .returned (.int .i64 (k + mPlace.cnts t)) ∧ kPlace.R w' S v (mPlace.mks t k) ∧ Foot S w w' := by
  obtain ⟨A, cp, hv, g1, g2⟩ := Kd.R_form hR
  subst hv
  have h3 : t.length ≤ 1073741824 := hR.1
  have HR := Sec.mk hR
  have hu := Tryz.underlying116
  clear hR
  have HN := Sec.mk (mPlace.cnts_take t)
  have HM := Sec.mk (mPlace.cnts_le t)
  have HX := Sec.mk (mPlace.next t k)
  go_enter Tryz.func81, Tryz.ntmps81
  go_wp2
  go_loopw [1, 5] (fun kv iv wr => ∃ i : Nat, i ≤ t.length ∧ iv = .int .i64 i ∧ kv = .int .i64 (k + ↑(mPlace.cnts (t.take i))) ∧ Sec (kPlace.R wr S (.slice A t.length cp) (mPlace.mks (t.take i) k ++ t.drop i)) ∧ Sec (Foot S w wr)) (fun _ iv _ => t.length - (intOf iv).toNat)
  case atStart => exact ⟨0, Nat.zero_le _, rfl, by simp [Mk.cnts], ⟨by simpa [Mk.mks] using HR.out⟩, ⟨Foot.refl _ _⟩⟩
  case round =>
    obtain ⟨i, hi, rfl, rfl, hM, hF⟩ := hrel
    by_cases hlt : i < t.length
    · have hL : (mPlace.mks (t.take i) k ++ t.drop i).length = t.length := mPlace.len_ t k i
      have hil : i < (mPlace.mks (t.take i) k ++ t.drop i).length := by omega
      obtain ⟨b, rfl, -, hSb, hbb, -⟩ := Kd.R_block hM.out (by omega)
      obtain ⟨cs, hA, -⟩ := Kd.At.of_R hM.out hil
      rw [mPlace.at_ t k i hlt] at hA
      have hnext := Sec.mk (HX.out i hlt)
      have hn1 := HN.out i hlt
      have hn2 := HM.out (i + 1)
      rw [hn1] at hn2
      have HN1 := Sec.mk hn1
      have F0 := hF
      clear hM hn1 hL
      generalize mPlace.mks (t.take i) k ++ t.drop i = L at *
      generalize t[i] = x at *
      generalize mPlace.cnts (t.take i) = c at *
      have hcx : Sec (mPlace.cnt x = _) := ⟨mPlace_cnt x⟩
      rw [mPlace_cnt x] at hn2
      have hAt := hA
      obtain ⟨rfl, -⟩ := kPlace_K hA.K
      have A0 := Sec.mk hA
      clear hA hAt
      have c0_0 : wr.cell? ⟨b, i * 3, none⟩ = some (.string x.name) := Kd.At.cell A0.out 0 _ rfl
      have c0_1 : wr.cell? ⟨b, i * 3 + 1, none⟩ = some (.int .i64 x.n) := Kd.At.cell A0.out 1 _ rfl
      have c0_2 : wr.cell? ⟨b, i * 3 + 2, none⟩ = some (.int .i64 x.node) := Kd.At.cell A0.out 2 _ rfl
      have f0_0 : wr.frozen? ⟨b, i * 3, none⟩ = false := Kd.At.frozen A0.out (i * 3)
      have f0_1 : wr.frozen? ⟨b, i * 3 + 1, none⟩ = false := Kd.At.frozen A0.out (i * 3 + 1)
      have f0_2 : wr.frozen? ⟨b, i * 3 + 2, none⟩ = false := Kd.At.frozen A0.out (i * 3 + 2)
      have T0 : Sec True := ⟨trivial⟩
      go_wp2_with (first | (clear T0; go_at_call 82; have T1 : Sec True := ⟨trivial⟩; refine (markText_c (k + (c : Int)) (by omega) _).mono ?_; rintro e w1 ⟨rfl, hz, hb'⟩; have A1 : Sec (Kd.At kPlace w1 S b t.length cp L i ⟨x.name, x.n, x.node⟩ [.string x.name, .int .i64 x.n, .int .i64 x.node]) := ⟨Kd.At.below A0.out hb'⟩; have F1 : Sec (Foot S w w1) := ⟨F0.out.trans (Foot.of_below (S := S) hb') (fun _ _ h => h)⟩; clear hb'; clear c0_0 f0_0 c0_1 f0_1 c0_2 f0_2; have c1_0 : w1.cell? ⟨b, i * 3, none⟩ = some (.string x.name) := Kd.At.cell A1.out 0 _ rfl; have c1_1 : w1.cell? ⟨b, i * 3 + 1, none⟩ = some (.int .i64 x.n) := Kd.At.cell A1.out 1 _ rfl; have c1_2 : w1.cell? ⟨b, i * 3 + 2, none⟩ = some (.int .i64 x.node) := Kd.At.cell A1.out 2 _ rfl; have f1_0 : w1.frozen? ⟨b, i * 3, none⟩ = false := Kd.At.frozen A1.out (i * 3); have f1_1 : w1.frozen? ⟨b, i * 3 + 1, none⟩ = false := Kd.At.frozen A1.out (i * 3 + 1); have f1_2 : w1.frozen? ⟨b, i * 3 + 2, none⟩ = false := Kd.At.frozen A1.out (i * 3 + 2); have A2 : Sec (Kd.At kPlace (w1.setCell ⟨b, i * 3, none⟩ (.string (mt (k + (c : Int))))) S b t.length cp L i ⟨(mt (k + (c : Int))), x.n, x.node⟩ [.string (mt (k + (c : Int))), .int .i64 x.n, .int .i64 x.node]) := ⟨Kd.At.store (e := (Kd.str 9)) A1.out kPlace_f_name rfl (mt (k + (c : Int))) (.string (mt (k + (c : Int)))) (fun _ _ => ⟨rfl, hz⟩)⟩; have F2 : Sec (Foot S w (w1.setCell ⟨b, i * 3, none⟩ (.string (mt (k + (c : Int)))))) := ⟨F1.out.set (g := b) (.inl hSb) (i * 3) (.string (mt (k + (c : Int))))⟩; clear hz; have A3 : Sec (Kd.At kPlace ((w1.setCell ⟨b, i * 3, none⟩ (.string (mt (k + (c : Int))))).setCell ⟨b, i * 3 + 1, none⟩ (.int .i64 (k + (c : Int) + 1))) S b t.length cp L i ⟨(mt (k + (c : Int))), k + (c : Int) + 1, x.node⟩ [.string (mt (k + (c : Int))), .int .i64 (k + (c : Int) + 1), .int .i64 x.node]) := ⟨Kd.At.store (e := (Kd.int 3)) A2.out kPlace_f_n rfl (k + (c : Int) + 1) (.int .i64 (k + (c : Int) + 1)) (fun _ _ => ⟨rfl, trivial⟩)⟩; have F3 : Sec (Foot S w ((w1.setCell ⟨b, i * 3, none⟩ (.string (mt (k + (c : Int))))).setCell ⟨b, i * 3 + 1, none⟩ (.int .i64 (k + (c : Int) + 1)))) := ⟨F2.out.set (g := b) (.inl hSb) (i * 3 + 1) (.int .i64 (k + (c : Int) + 1))⟩; have A4 : Sec (Kd.At kPlace (((w1.setCell ⟨b, i * 3, none⟩ (.string (mt (k + (c : Int))))).setCell ⟨b, i * 3 + 1, none⟩ (.int .i64 (k + (c : Int) + 1))).setCell ⟨b, i * 3 + 2, none⟩ (.int .i64 (k + (c : Int) + 1 + 1))) S b t.length cp L i ⟨(mt (k + (c : Int))), k + (c : Int) + 1, k + (c : Int) + 1 + 1⟩ [.string (mt (k + (c : Int))), .int .i64 (k + (c : Int) + 1), .int .i64 (k + (c : Int) + 1 + 1)]) := ⟨Kd.At.store (e := (Kd.int 3)) A3.out kPlace_f_node rfl (k + (c : Int) + 1 + 1) (.int .i64 (k + (c : Int) + 1 + 1)) (fun _ _ => ⟨rfl, trivial⟩)⟩; have F4 : Sec (Foot S w (((w1.setCell ⟨b, i * 3, none⟩ (.string (mt (k + (c : Int))))).setCell ⟨b, i * 3 + 1, none⟩ (.int .i64 (k + (c : Int) + 1))).setCell ⟨b, i * 3 + 2, none⟩ (.int .i64 (k + (c : Int) + 1 + 1)))) := ⟨F3.out.set (g := b) (.inl hSb) (i * 3 + 2) (.int .i64 (k + (c : Int) + 1 + 1))⟩))
      go_roundw
      case rel => exact ⟨i + 1, by omega, by go_num, by rw [HN1.out, hcx.out]; congr 1; omega, ⟨by rw [← hnext.out]; exact A4.out.R⟩, F4⟩
      case measure => simp [intOf]; omega
    · have hfin : Sec (mPlace.mks (t.take i) k ++ t.drop i = mPlace.mks t k) := ⟨by rw [List.take_of_length_le (by omega), List.drop_of_length_le (by omega), List.append_nil]⟩
      have hM2 := hM.out
      rw [hfin.out] at hM2
      have HM2 := Sec.mk hM2
      have hi2 : Sec (k + ↑(mPlace.cnts (t.take i)) = k + ↑(mPlace.cnts t)) := ⟨by rw [List.take_of_length_le (by omega)]⟩
      clear hM2 hM hfin
      go_wp2
      go_ret
      exact ⟨ri hi2.out, HM2.out, hF.out⟩
set_option maxHeartbeats 1000000 in
theorem heldSPlace_c (v : Value) (t : List Place) (ok : Nat → Prop) (k : Int) (hk : 0 ≤ k) (hk2 : k + mPlace.cnts t ≤ 1000000000000000000) (w : World) (hV : kPlace.V w ok v (mPlace.mks t k)) :
    Calls Tryz.prog 165 #[v, .int .i64 k] w fun e w' => e = .returned (.int .i64 (k + mPlace.cnts t)) ∧ Below w.heap.size w w' := by
  obtain ⟨A, cp, rfl, g1, g2, g3, hC, _⟩ := hV
  rw [Mk.mks_len] at g1 g3
  rw [Mk.mks_len]
  have HC := Sec.mk hC
  have hu := Tryz.underlying116
  clear hC
  have HN := Sec.mk (mPlace.cnts_take t)
  have HM := Sec.mk (mPlace.cnts_le t)
  have HG := Sec.mk (mPlace.get t k)
  have HLn := Sec.mk (mPlace.mks_len t k)
  go_enter Tryz.func165, Tryz.ntmps165
  go_wp2
  go_loopw [1, 5] (fun kv iv wr => ∃ i : Nat, i ≤ t.length ∧ iv = .int .i64 i ∧ kv = .int .i64 (k + ↑(mPlace.cnts (t.take i))) ∧ Sec (Below w.heap.size w wr)) (fun _ iv _ => t.length - (intOf iv).toNat)
  case atStart => exact ⟨0, Nat.zero_le _, rfl, by simp [Mk.cnts], ⟨Below.refl _ _⟩⟩
  case round =>
    obtain ⟨i, hi, rfl, rfl, hb⟩ := hrel
    by_cases hlt : i < t.length
    · obtain ⟨b, off, cs, rfl, hob, hK, hc⟩ := Kd.C_get HC.out (List.getElem?_eq_getElem (by rw [HLn.out]; exact hlt))
      rw [HG.out i hlt] at hK
      have hn1 := HN.out i hlt
      have hn2 := HM.out (i + 1)
      rw [hn1] at hn2
      have HN1 := Sec.mk hn1
      clear hn1
      generalize t[i] = x at *
      generalize mPlace.cnts (t.take i) = c at *
      have hcx : Sec (mPlace.cnt x = _) := ⟨mPlace_cnt x⟩
      rw [mPlace_cnt x] at hn2
      obtain ⟨rfl, -⟩ := kPlace_K hK
      have hat : Sec (∀ W : World, Below w.heap.size w W → W.cell? ⟨b, off + i * 3, none⟩ = some (.string (mt (k + (c : Int)))) ∧ W.cell? ⟨b, off + i * 3 + 1, none⟩ = some (.int .i64 (k + (c : Int) + 1)) ∧ W.cell? ⟨b, off + i * 3 + 2, none⟩ = some (.int .i64 (k + (c : Int) + 1 + 1))) := ⟨fun W h => ⟨Raw.cell_below h (hc 0 _ rfl), Raw.cell_below h (hc 1 _ rfl), Raw.cell_below h (hc 2 _ rfl)⟩⟩
      have i0 : (0 : Int) ≤ (i : Int) := by omega
      have i1 : (i : Int) < (t.length : Int) := by omega
      clear hc hK
      obtain ⟨c0, c1, c2⟩ := hat.out _ hb.out
      have B0 := hb
      go_wp2
      go_region_held3 (fun W => W.cell? ⟨b, off + i * 3, none⟩ = some (.string (mt (k + (c : Int)))) ∧ W.cell? ⟨b, off + i * 3 + 1, none⟩ = some (.int .i64 (k + (c : Int) + 1)) ∧ W.cell? ⟨b, off + i * 3 + 2, none⟩ = some (.int .i64 (k + (c : Int) + 1 + 1)))
          (first | (refine ⟨?_, ?_, ?_⟩ <;> assumption) | go_keep)
          (first | (go_at_call 82; refine (markText_c (k + (c : Int)) (by omega) _).mono ?_; rintro e w1 ⟨rfl, hz, hb1⟩; have B1 := Sec.mk (bel (belD hb.out) hb1); clear c0 c1 c2; obtain ⟨c0, c1, c2⟩ := hat.out _ B1.out; clear hb1))
      all_goals
        go_wp2
        go_roundw
        case rel => exact ⟨i + 1, by omega, by go_num, by rw [HN1.out, hcx.out]; congr 1; omega, B1⟩
        case measure => simp [intOf]; omega
    · have hi2 : Sec (k + ↑(mPlace.cnts (t.take i)) = k + ↑(mPlace.cnts t)) := ⟨by rw [List.take_of_length_le (by omega)]⟩
      go_wp2
      go_ret
      exact ⟨ri hi2.out, hb.out⟩
theorem rPlace_le6 (x : Place) : mPlace.cnt x ≤ 8 + 8 * rPlace.wt x := by
  rw [mPlace_cnt]; rw [rPlace_wt]; omega
end
section
open Go.RowKit
set_option linter.unusedVariables false
set_option maxRecDepth 100000
def kProg : Kd Prog := Kd.iso 28 (Kd.pair (Kd.slice 25 kClause (by decide)) (Kd.slice 26 kPlace (by decide))) (fun x => (x.clauses, x.places))
theorem kProg_K {w : World} {ok : Nat → Prop} {x : Prog} {cs : List Value} (h : kProg.K w ok x cs) : ∃ v0 v1, cs = [v0, v1] ∧ kClause.V w ok v0 x.clauses ∧ kPlace.V w ok v1 x.places := by
  obtain ⟨_, _, rfl, ⟨v0, rfl, h0⟩, ⟨v1, rfl, h1⟩⟩ := h
  exact ⟨v0, v1, rfl, h0, h1⟩
end
section
open Go.RowKit
set_option linter.unusedVariables false
def varIn (x : Cell) : Bool := !(x.kind == 1 && decide (8 ≤ x.n))
def termIn (t : Term) : Bool := trmOk t && decide (t.length ≤ 12) && t.all varIn
def goalOk (g : Goal) : Bool :=
  if g.kind = 1 then termIn g.a && headFun g.a && decide (g.b.length + g.c.length = 0)
  else if g.kind = 3 then decide (g.a.length + g.b.length + g.c.length = 0)
  else if g.kind = 2 ∨ g.kind = 4 then termIn g.a && termIn g.b && decide (g.c.length = 0)
  else if g.kind = 5 then termIn g.a && termIn g.b && termIn g.c
  else false
def clauseOk (c : Clause) : Bool := termIn c.head && headFun c.head && decide (c.body.length ≤ 4) && c.body.all goalOk
def placeOk (p : Place) : Bool := nameOk p.name && inB p.n 0 3 && inB p.node 1 2
def samePlace (p q : Place) : Bool := p.name.toList == q.name.toList && p.n == q.n
def newAt (l : List Place) (k : Nat) : Bool := match l[k]? with
  | some x => placeOk x && (l.take k).all (fun q => !samePlace q x)
  | none => true
def placesOk (l : List Place) : Bool := (List.range l.length).all (newAt l)
def prgOk (p : Prog) : Bool := decide (p.clauses.length ≤ 12) && decide (p.places.length ≤ 6) && p.clauses.all clauseOk && placesOk p.places
theorem newAt_at {l : List Place} {k : Nat} (h : k < l.length) : newAt l k = (placeOk l[k] && (l.take k).all (fun q => !samePlace q l[k])) := by
  unfold newAt; rw [List.getElem?_eq_getElem h]
theorem range_all {p : Nat → Bool} (k : Nat) : (List.range (k + 1)).all p = ((List.range k).all p && p k) := by
  rw [List.range_succ, List.all_append]; simp
theorem places_no {l : List Place} {k : Nat} (h : k < l.length) (hn : newAt l k = false) : placesOk l = false :=
  List.all_eq_false.2 ⟨k, List.mem_range.2 h, by rw [hn]; decide⟩
theorem prgOk_1 {p : Prog} (h : ¬ p.clauses.length ≤ 12) : prgOk p = false := by simp [prgOk, h]
theorem prgOk_2 {p : Prog} (h : ¬ p.places.length ≤ 6) : prgOk p = false := by simp [prgOk, h]
theorem prgOk_3 {p : Prog} (h : p.clauses.all clauseOk = false) : prgOk p = false := by simp [prgOk, h]
theorem prgOk_4 {p : Prog} (h : placesOk p.places = false) : prgOk p = false := by simp [prgOk, h]
theorem prgOk_5 {p : Prog} (h1 : p.clauses.length ≤ 12) (h2 : p.places.length ≤ 6) (h3 : p.clauses.all clauseOk = true) (h4 : placesOk p.places = true) : prgOk p = true := by simp [prgOk, h1, h2, h3, h4]
/-- goalOk with the tests as the program makes them. -/
def goalI (k : Int) (a d b c q1 q2 q3 : Bool) : Bool :=
  if k = 1 then a && d && q1 else if k = 3 then q2 else if k = 2 ∨ k = 4 then a && b && q3 else if k = 5 then a && b && c else false
theorem goalOk_int (g : Goal) : goalOk g = goalI g.kind (termIn g.a) (headFun g.a) (termIn g.b) (termIn g.c) ((g.b.length : Int) + (g.c.length : Int) == 0) ((g.a.length : Int) + (g.b.length : Int) + (g.c.length : Int) == 0) ((g.c.length : Int) == 0) := by
  have e1 : ((g.b.length : Int) + (g.c.length : Int) == 0) = decide (g.b.length + g.c.length = 0) := by exact decide_eq_decide.2 (by omega)
  have e2 : ((g.a.length : Int) + (g.b.length : Int) + (g.c.length : Int) == 0) = decide (g.a.length + g.b.length + g.c.length = 0) := by exact decide_eq_decide.2 (by omega)
  have e3 : ((g.c.length : Int) == 0) = decide (g.c.length = 0) := by exact decide_eq_decide.2 (by omega)
  rw [e1, e2, e3]; rfl
section
variable {g : Goal} {a b c d q1 q2 q3 : Bool}
theorem goalOkI_1 (hk : g.kind = 1) (h : goalOk g = goalI g.kind a d b c q1 q2 q3) : goalOk g = (a && d && q1) := by rw [h, hk]; rfl
theorem goalOkI_3 (hk : g.kind = 3) (h : goalOk g = goalI g.kind a d b c q1 q2 q3) : goalOk g = q2 := by rw [h, hk]; rfl
theorem goalOkI_2 (hk : g.kind = 2) (h : goalOk g = goalI g.kind a d b c q1 q2 q3) : goalOk g = (a && b && q3) := by rw [h, hk]; rfl
theorem goalOkI_4 (hk : g.kind = 4) (h : goalOk g = goalI g.kind a d b c q1 q2 q3) : goalOk g = (a && b && q3) := by rw [h, hk]; rfl
theorem goalOkI_5 (hk : g.kind = 5) (h : goalOk g = goalI g.kind a d b c q1 q2 q3) : goalOk g = (a && b && c) := by rw [h, hk]; rfl
theorem goalOkI_0 (h1 : ¬ g.kind = 1) (h3 : ¬ g.kind = 3) (h2 : ¬ g.kind = 2) (h4 : ¬ g.kind = 4) (h5 : ¬ g.kind = 5) (h : goalOk g = goalI g.kind a d b c q1 q2 q3) : goalOk g = false := by
  rw [h]; unfold goalI; rw [if_neg h1, if_neg h3, if_neg (by rintro (h | h); exact h2 h; exact h4 h), if_neg h5]
end
end
section
open Go.RowKit
set_option linter.unusedVariables false
set_option maxRecDepth 100000
def overC (n : Int) (x : Cell) : Bool := x.kind == 1 && decide (n ≤ x.n)
def overAt (n : Int) (t : Term) (i : Int) : Prop := decide (0 ≤ i) = t.any (overC n)
theorem over_all (t : Term) : t.all varIn = !t.any (overC 8) := by
  rw [List.not_any_eq_all_not]; rfl
theorem below1_i (x : Cell) (n : Int) (b : Nat) (w : World) (hb : w.cell? ⟨b, 0, none⟩ = some (.int .i64 n)) : Calls Tryz.prog 194 #[x.agg, .pointer (some ⟨b, 0, none⟩)] w fun e w' => e = .returned (.bool (overC n x)) ∧ Below w.heap.size w w' := by
  have B1 := Sec.mk (belA (Below.refl w.heap.size w) (.cells #[.int .i64 x.kind, .int .i64 x.n, .string x.name] 39))
  have c0 : (w.alloc (.cells #[.int .i64 x.kind, .int .i64 x.n, .string x.name] 39)).cell? ⟨b, 0, none⟩ = some (.int .i64 n) := Raw.cell_below (belA (Below.refl _ _) _) hb
  have X := (box_at (heap_alloc_new w (.cells #[.int .i64 x.kind, .int .i64 x.n, .string x.name] 39))).2.1
  have y0 := X 0 _ rfl
  have y1 := X 1 _ rfl
  have y2 := X 2 _ rfl
  clear X
  have hu := Tryz.underlying39
  by_cases hk : x.kind = 1
  · have g1 : (x.kind == 1) = true := beq_iff_eq.2 hk
    obtain ⟨q, hq⟩ : ∃ q, decide (x.n ≥ n) = q := ⟨_, rfl⟩
    have HE : Sec (overC n x = q) := ⟨by rw [← hq]; simp [overC, hk]⟩
    clear hk
    go_enter Tryz.func194, Tryz.ntmps194
    go_wp2
    go_ret
    exact ⟨rb HE.out.symm, B1.out⟩
  · have g1 : (x.kind == 1) = false := beq_eq_false_iff_ne.2 hk
    have HE : Sec (overC n x = false) := ⟨by simp [overC, hk]⟩
    clear hk
    go_enter Tryz.func194, Tryz.ntmps194
    go_wp2
    go_ret
    exact ⟨rb HE.out.symm, B1.out⟩
theorem indexOver_i (v : Value) (t : Term) (n : Int) (b0 : Nat) (ok : Nat → Prop) (w : World) (hV : kCell.V w ok v t) (hb0 : w.cell? ⟨b0, 0, none⟩ = some (.int .i64 n)) :
    Calls Tryz.prog 180 #[v, .func (.func 194) #[] #[.pointer (some ⟨b0, 0, none⟩)]] w fun e w' => ∃ i : Int, e = .returned (.int .i64 i) ∧ overAt n t i ∧ Below w.heap.size w w' := by
  obtain ⟨A, c, rfl, h1, h2, h3, hC, hz⟩ := hV
  have HC := Sec.mk hC
  have HB0 := Sec.mk hb0
  clear hC hz hb0
  have hu := Tryz.underlying39
  go_enter Tryz.func180, Tryz.ntmps180
  go_wp2
  go_loopw [8] (fun iv wr => ∃ k : Nat, k ≤ t.length ∧ iv = .int .i64 k ∧ Sec ((t.take k).any (overC n) = false) ∧ Sec (Below w.heap.size w wr)) (fun iv _ => t.length - (intOf iv).toNat)
  case atStart => exact ⟨0, Nat.zero_le _, rfl, ⟨rfl⟩, ⟨Below.refl _ _⟩⟩
  case round =>
    obtain ⟨k, hk, rfl, hT, hb⟩ := hrel
    by_cases hlt : k < t.length
    · obtain ⟨b, off, rfl, hob, c0, c1, c2, hnm⟩ := cell_at (Kd.C_below HC.out hb.out (by decide)) k hlt
      have hA : Sec ((t.take (k + 1)).any (overC n) = overC n t[k]) := ⟨by rw [List.take_succ_eq_append_getElem hlt, List.any_append, hT.out]; simp⟩
      have hmem : Sec (t[k] ∈ t) := ⟨List.getElem_mem hlt⟩
      have HW := Sec.mk (below1_i t[k] n b0 wr (Raw.cell_below hb.out HB0.out))
      generalize t[k] = x at *
      obtain ⟨bb, hbb⟩ : ∃ b, overC n x = b := ⟨_, rfl⟩
      have HB := Sec.mk hbb
      rw [hbb] at HW
      clear hbb
      cases bb with
      | false =>
        have hA' : Sec ((t.take (k + 1)).any (overC n) = false) := ⟨by rw [hA.out, HB.out]⟩
        go_wp2_with (go_at_call 194; refine HW.out.mono ?_; rintro e w1 ⟨rfl, hb1⟩; have B1 := Sec.mk (bel hb.out hb1); clear hb1)
        go_roundw
        case rel => exact ⟨k + 1, by omega, by go_num, hA', B1⟩
        case measure => simp [intOf]; omega
      | true =>
        have hF : Sec (overAt n t k) := ⟨by
          have : t.any (overC n) = true := List.any_eq_true.2 ⟨x, hmem.out, HB.out⟩
          unfold overAt; rw [this]; simp⟩
        go_wp2_with (go_at_call 194; refine HW.out.mono ?_; rintro e w1 ⟨rfl, hb1⟩; have B1 := Sec.mk (bel hb.out hb1); clear hb1)
        go_ret
        exact ⟨_, rfl, hF.out, B1.out⟩
    · have hF : Sec (overAt n t (-1)) := ⟨by
        have : t.any (overC n) = false := by have := hT.out; rwa [List.take_of_length_le (by omega)] at this
        unfold overAt; rw [this]; rfl⟩
      go_wp2
      go_ret
      exact ⟨_, rfl, hF.out, hb.out⟩
theorem containsOver_i (v : Value) (t : Term) (n : Int) (b0 : Nat) (ok : Nat → Prop) (w : World) (hV : kCell.V w ok v t) (hb0 : w.cell? ⟨b0, 0, none⟩ = some (.int .i64 n)) :
    Calls Tryz.prog 131 #[v, .func (.func 194) #[] #[.pointer (some ⟨b0, 0, none⟩)]] w fun e w' => e = .returned (.bool (t.any (overC n))) ∧ Below w.heap.size w w' := by
  have HI := Sec.mk (indexOver_i v t n b0 ok w hV hb0)
  obtain ⟨A, c, rfl, h1, h2, h3, hC, hz⟩ := hV
  clear hC hz hb0
  generalize hall : t.any (overC n) = al
  have HAL := Sec.mk hall
  clear hall
  go_enter Tryz.func131, Tryz.ntmps131
  go_wp2_with (go_at_call 180; refine HI.out.mono ?_; rintro e w1 ⟨i, rfl, hw, hb⟩; have B1 := Sec.mk hb; have HW := Sec.mk hw; clear hb hw)
  go_ret
  exact ⟨rb (by have := HW.out; unfold overAt at this; rw [HAL.out] at this; exact this), B1.out⟩
theorem below_i (v : Value) (t : Term) (n : Int) (ok : Nat → Prop) (w : World) (hV : kCell.V w ok v t) :
    Calls Tryz.prog 139 #[v, .int .i64 n] w fun e w' => e = .returned (.bool (!t.any (overC n))) ∧ Below w.heap.size w w' := by
  have B0 := Sec.mk (belA (Below.refl w.heap.size w) (.cells #[.int .i64 n] 3))
  have HI := Sec.mk (containsOver_i v t n w.heap.size ok _ (Kd.V_below hV B0.out (by decide)) ((box_at (heap_alloc_new w (.cells #[.int .i64 n] 3))).2.1 0 _ rfl))
  obtain ⟨A, c, rfl, -⟩ := hV
  generalize t.any (overC n) = al at *
  go_enter Tryz.func139, Tryz.ntmps139
  go_wp2_with (go_at_call 131; refine HI.out.mono ?_; rintro e w1 ⟨rfl, hb⟩; have B1 := Sec.mk (bel B0.out hb); clear hb)
  go_ret
  exact ⟨rfl, B1.out⟩
theorem inClause_i (v : Value) (t : Term) (ok : Nat → Prop) (w : World) (hV : kCell.V w ok v t) :
    Calls Tryz.prog 204 #[v] w fun e w' => e = .returned (.bool (decide (t.length ≤ 12) && t.all varIn)) ∧ Below w.heap.size w w' := by
  have HI := Sec.mk (below_i v t 8 ok w hV)
  rw [← over_all] at HI
  obtain ⟨A, c, rfl, -, -, h3, -⟩ := hV
  by_cases hl : t.length ≤ 12
  · have q1 : decide ((t.length : Int) ≤ 12) = true := decide_eq_true (by omega)
    rw [decide_eq_true hl, Bool.true_and]
    generalize t.all varIn = al at *
    go_enter Tryz.func204, Tryz.ntmps204
    go_wp2_with (go_at_call 139; refine HI.out.mono ?_; rintro e w1 ⟨rfl, hb⟩; have B1 := Sec.mk hb; clear hb)
    go_ret
    exact ⟨rfl, B1.out⟩
  · have q1 : decide ((t.length : Int) ≤ 12) = false := decide_eq_false (by omega)
    rw [decide_eq_false hl, Bool.false_and]
    clear HI
    go_enter Tryz.func204, Tryz.ntmps204
    go_wp2
    go_ret
    exact ⟨rfl, Below.refl _ _⟩
end
end Go.Proofs.YtgiobpggonceeaaGreatDoor
