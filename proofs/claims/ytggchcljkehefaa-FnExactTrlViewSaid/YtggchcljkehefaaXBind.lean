/- What the exact laws' own functions do with the type SubBind: turned, sized, compared, marked, held. -/
import Derived.Test.YtggchcljkehefaaXCell
namespace Go.Proofs.Ytggchcljkehefaa
open Go.RowKit
set_option linter.unusedVariables false
set_option maxRecDepth 100000
def kBind : Kd Bind := Kd.iso 99 (Kd.pair (Kd.int 3) (Kd.slice 29 kCell (by decide))) (fun x => (x.v, x.term))
theorem kBind_K {w : World} {ok : Nat → Prop} {x : Bind} {cs : List Value} (h : kBind.K w ok x cs) : ∃ v1, cs = [.int .i64 x.v, v1] ∧ kCell.V w ok v1 x.term := by
  obtain ⟨_, _, rfl, ⟨rfl, _⟩, ⟨v1, rfl, h1⟩⟩ := h
  exact ⟨v1, rfl, h1⟩
def rBind : Raw Bind := Raw.iso 84 (Raw.pair (Raw.int 3) (Raw.slice 25 rCell)) (fun x => (x.v, x.term))
theorem rBind_K {w : World} {x : Bind} {cs : List Value} (h : rBind.K w x cs) : ∃ v1, cs = [.int .i64 x.v, v1] ∧ rCell.V w v1 x.term := by
  obtain ⟨_, _, rfl, ⟨rfl, _⟩, ⟨v1, rfl, h1⟩⟩ := h
  exact ⟨v1, rfl, h1⟩
theorem rBind_mono : Raw.Mono rBind := Raw.mono_iso (Raw.mono_pair Raw.mono_scalar (Raw.mono_slice rCell_mono))
theorem rBind_wt (x : Bind) : rBind.wt x = (HAdd.hAdd 0 (rCell.wts x.term)) := rfl
theorem rBind_fits : Raw.Fits rBind kBind := Raw.fits_iso (Raw.fits_pair (Raw.fits_int _ _) (Raw.fits_slice rCell_fits _ _ (by decide))) _ _ _
theorem rBind_opn : Raw.Opn Try.prog rBind := Raw.opn_struct Try.underlying84 (by kernel_rfl) (fun b => ⟨⟨b.1, b.2⟩, rfl⟩) (Raw.opnF_cons (Raw.opn_int Try.underlying3) rfl rfl (by kernel_rfl) (by decide) (Raw.opnF_last (Raw.opn_slice (r := rCell) Try.underlying25 (by kernel_rfl) (by decide) rCell_opn) rfl rfl (by kernel_rfl) (by decide)))
theorem Bind.ext_iff (a b : Bind) : a = b ↔ a.v = b.v ∧ a.term = b.term := by
  cases a; cases b; simp
instance : DecidableEq Bind := fun a b => decidable_of_iff _ (Bind.ext_iff a b).symm
def zeroBind : Bind := ⟨0, []⟩
theorem kBind_zero (w : World) : kBind.O w (fun _ => False) zeroBind [.int .i64 0, .slice none 0 0] := (Kd.O_pair0 (d := (Kd.int 3)) (e := (Kd.slice 29 kCell (by decide))) ⟨rfl, trivial⟩ ⟨_, rfl, Kd.R_nil _ _ _⟩)
theorem kBind_f_v : Kd.Fld kBind (Kd.int 3) 0 (fun x => x.v) (fun x y => { x with v := y }) := Kd.Fld.iso _ (Kd.Fld.fst (Kd.Fld.self _)) (fun _ _ => rfl)
theorem kBind_f_term : Kd.Fld kBind (Kd.slice 29 kCell (by decide)) 1 (fun x => x.term) (fun x y => { x with term := y }) := Kd.Fld.iso _ (Kd.Fld.snd (Kd.Fld.self _)) (fun _ _ => rfl)
theorem szSubBind_c (x : Bind) (cs : List Value) (left : Nat) (hl : left ≤ 1048576) (w : World) (hK : rBind.K w x cs) :
    Calls Try.prog 49 #[.agg cs.toArray, .int .i64 left] w fun e w' => e = .returned (.int .i64 (Raw.spent (rBind.wt x) left)) ∧ Below w.heap.size w w' := by
  obtain ⟨_, _, rfl, ⟨rfl, _⟩, ⟨v1, rfl, h1⟩⟩ := hK
  have H1 := Sec.mk h1
  clear h1
  have hu := Try.underlying84
  have hb0 := hl
  have T0 : Sec True := ⟨trivial⟩
  by_cases e0 : rCell.wts x.term ≤ left
  · have s0 := Raw.spent_le e0
    have L0 := Sec.mk (show (left - rCell.wts x.term) + rCell.wts x.term = left by omega)
    have hb1 : left - rCell.wts x.term ≤ 1048576 := by omega
    generalize left - rCell.wts x.term = l0 at *
    have n0 : ¬ ((l0 : Int) < 0) := by omega
    have hfin : Sec ((l0 : Int) = Raw.spent (rBind.wt x) left) := ⟨by rw [Raw.spent_le (by rw [rBind_wt]; have := L0.out; omega), rBind_wt]; have := L0.out; omega⟩
    go_enter Try.func49, Try.ntmps49
    go_wp2_with (first | (clear T0; go_at_call 22; have T1 : Sec True := ⟨trivial⟩; refine (szSCell_c v1 x.term left hb0 _ (Raw.mono_V rCell_mono (belA (Below.refl _ _) _) H1.out)).mono ?_; rintro e w1 ⟨rfl, hb1⟩; rw [s0]; have B0 := Sec.mk (bel (belA (Below.refl _ _) _) hb1); have Q := box_cells hb1 (box1 _ _); have P0 := Sec.mk Q; clear Q hb1))
    go_ret
    exact ⟨ri hfin.out, B0.out⟩
  · have s0 := Raw.spent_gt e0
    have hfin : Sec (Raw.spent (rBind.wt x) left = -1) := ⟨Raw.spent_gt (by rw [rBind_wt]; omega)⟩
    go_enter Try.func49, Try.ntmps49
    go_wp2_with (first | (clear T0; go_at_call 22; have T1 : Sec True := ⟨trivial⟩; refine (szSCell_c v1 x.term left hb0 _ (Raw.mono_V rCell_mono (belA (Below.refl _ _) _) H1.out)).mono ?_; rintro e w1 ⟨rfl, hb1⟩; rw [s0]; have B0 := Sec.mk (bel (belA (Below.refl _ _) _) hb1); have Q := box_cells hb1 (box1 _ _); have P0 := Sec.mk Q; clear Q hb1))
    go_ret
    exact ⟨ri hfin.out.symm, B0.out⟩
set_option maxHeartbeats 1000000 in
theorem szSBind_c (v : Value) (t : List Bind) (left : Nat) (hl : left ≤ 1048576) (w : World) (hV : rBind.V w v t) :
    Calls Try.prog 20 #[v, .int .i64 left] w fun e w' => e = .returned (.int .i64 (Raw.spent (rBind.wts t) left)) ∧ Below w.heap.size w w' := by
  obtain ⟨A, c, rfl, h1, h2, hC, _⟩ := hV
  have HC := Sec.mk hC
  clear hC
  have h3 : t.length ≤ 9223372036854775807 := by have : c ≤ 9223372036854775807 := by simpa [maxLen] using h2
                                                 omega
  have hu2 := Try.underlying84
  by_cases hlen : t.length ≤ left
  · obtain ⟨l1, hl1⟩ : ∃ l1 : Nat, (left : Int) - t.length = l1 := ⟨left - t.length, by omega⟩
    have hl2 : l1 + t.length = left := by omega
    have HL := Sec.mk hl1
    have HS : Sec (∀ (k : Nat) (hk : k < t.length), ((t.take (k + 1)).map rBind.wt).sum = ((t.take k).map rBind.wt).sum + rBind.wt t[k] ∧ ((t.take (k + 1)).map rBind.wt).sum ≤ (t.map rBind.wt).sum) := ⟨fun k hk => ⟨Raw.wts_take _ _ _ hk, Raw.wts_take_le _ _ _⟩⟩
    go_enter Try.func20, Try.ntmps20
    go_wp2
    go_loopw [1, 5] (fun l i wr => ∃ k m : Nat, k ≤ t.length ∧ i = .int .i64 k ∧ l = .int .i64 m ∧ m ≤ 1048576 ∧ Sec (m + ((t.take k).map rBind.wt).sum = l1) ∧ Sec (Below w.heap.size w wr)) (fun _ i _ => t.length - (intOf i).toNat)
    case atStart => exact ⟨0, l1, Nat.zero_le _, rfl, rfl, by omega, ⟨by simp⟩, ⟨Below.refl _ _⟩⟩
    case round =>
      obtain ⟨k, m, hk, rfl, rfl, hm, hM, hb⟩ := hrel
      by_cases hlt : k < t.length
      · obtain ⟨b, off, cs, rfl, hK, hc⟩ := Raw.C_get HC.out k hlt
        obtain ⟨s1, s2⟩ := HS.out k hlt
        have S1 := Sec.mk s1
        have S2 := Sec.mk s2
        clear s1 s2
        generalize t[k] = x at *
        have HK := Sec.mk hK
        obtain ⟨v1, rfl, -⟩ := rBind_K hK
        have c0 : wr.cell? ⟨b, off + k * 2, none⟩ = some (.int .i64 x.v) := Raw.cell_below hb.out (hc 0 _ rfl)
        have c1 : wr.cell? ⟨b, off + k * 2 + 1, none⟩ = some (v1) := Raw.cell_below hb.out (hc 1 _ rfl)
        clear hc hK
        by_cases hx : rBind.wt x ≤ m
        · have e1 := Raw.spent_le hx
          have e2 : ¬ (((m - rBind.wt x : Nat) : Int) < 0) := by omega
          generalize hm2 : m - rBind.wt x = m2 at *
          have HM2 : Sec (m2 + ((t.take (k + 1)).map rBind.wt).sum = l1) := ⟨by rw [S1.out]; have := hM.out; omega⟩
          have hm3 : m2 ≤ 1048576 := by omega
          clear hm2
          go_wp2_with (go_at_call 49; refine (szSubBind_c x _ m hm wr (rBind_mono _ _ _ _ hb.out HK.out)).mono ?_; rintro e w1 ⟨rfl, hb1⟩; have B1 := Sec.mk (bel hb.out hb1); rw [e1]; clear c0 c1)
          go_roundw
          case rel => exact ⟨k + 1, m2, by omega, by go_num, rfl, hm3, HM2, B1⟩
          case measure => simp [intOf]; omega
        · have e1 := Raw.spent_gt hx
          have hfin : Sec (Raw.spent (rBind.wts t) left = -1) := ⟨Raw.spent_gt (by unfold Raw.wts; have := S1.out; have := S2.out; have := hM.out; omega)⟩
          go_wp2_with (go_at_call 49; refine (szSubBind_c x _ m hm wr (rBind_mono _ _ _ _ hb.out HK.out)).mono ?_; rintro e w1 ⟨rfl, hb1⟩; have B1 := Sec.mk (bel hb.out hb1); rw [e1]; clear c0 c1)
          go_ret
          exact ⟨ri hfin.out.symm, B1.out⟩
      · have hfin : Sec ((m : Int) = Raw.spent (rBind.wts t) left) := ⟨by
          have h1 := hM.out
          rw [List.take_of_length_le (by omega)] at h1
          rw [Raw.spent_le (by unfold Raw.wts; omega)]
          unfold Raw.wts
          omega⟩
        go_wp2
        go_ret
        exact ⟨ri hfin.out, hb.out⟩
  · have hfin : Sec (Raw.spent (rBind.wts t) left = -1) := ⟨Raw.spent_gt (by unfold Raw.wts; omega)⟩
    go_enter Try.func20, Try.ntmps20
    go_wp2
    go_ret
    exact ⟨ri hfin.out.symm, Below.refl _ _⟩
set_option maxHeartbeats 1000000 in
theorem toSubBind_c (x : Bind) (cs : List Value) (ok : Nat → Prop) (w : World) (hK : kBind.K w ok x cs) :
    Calls Try.prog 55 #[.agg cs.toArray] w fun e w' => ∃ c : List Value, e = .returned (.agg c.toArray) ∧ kBind.O w' (fun k => w.heap.size ≤ k) x c ∧ Below w.heap.size w w' := by
  obtain ⟨_, _, rfl, ⟨rfl, _⟩, ⟨v1, rfl, h1⟩⟩ := hK
  have H1 := Sec.mk h1
  clear h1
  have hu := Try.underlying84
  have hu2 := Try.underlying99
  have T0 : Sec True := ⟨trivial⟩
  go_enter Try.func55, Try.ntmps55
  go_wp2_with (first | (clear T0; go_at_call 27; have T1 : Sec True := ⟨trivial⟩; refine (toSCell_c v1 x.term ok _ (Kd.V_below H1.out (belA (belA (belA (Below.refl _ _) _) _) _) (by decide))).mono ?_; rintro e w1 ⟨u1, rfl, hR, hb1⟩; obtain ⟨A1, n1, rfl, -, -⟩ := Kd.R_form hR; have Z1 : w.heap.size + 3 ≤ w1.heap.size := (by have := hb1.size; simp at this; omega); have R1 := Sec.mk (Kd.R_mono (S1 := fun k => w.heap.size + 3 ≤ k ∧ k < w1.heap.size) hR (fun k h1 h2 => ⟨by simp at h1; omega, h2⟩)); have G1 := Sec.mk (Foot.call ((((Foot.refl (Own w 3) w).alloc _).alloc _).alloc _) hb1); have B1 := Sec.mk (bel (belA (belA (belA (Below.refl _ _) _) _) _) hb1); have X := box_cells (b := w.heap.size) (cs := #[.int .i64 x.v, v1]) (t := 84) hb1 (box3 _ _ _ _).1; have p1_0 := X.2.1 0 _ rfl; have p1_1 := X.2.1 1 _ rfl; have P1 := Sec.mk X; clear X; have X := box_cells (b := w.heap.size + 1) (cs := #[.int .i64 0, .slice none 0 0]) (t := 99) hb1 (box3 _ _ _ _).2.1; have q1_0 := X.2.1 0 _ rfl; have qf1_0 := X.2.2 0; have q1_1 := X.2.1 1 _ rfl; have qf1_1 := X.2.2 1; have Q1 := Sec.mk X; clear X; have X := box_cells (b := w.heap.size + 1 + 1) (cs := #[.int .i64 x.v, .slice none 0 0]) (t := 99) hb1 (box3 _ _ _ _).2.2; have o1_0 := X.2.1 0 _ rfl; have of1_0 := X.2.2 0; have o1_1 := X.2.1 1 _ rfl; have of1_1 := X.2.2 1; have O1 := Sec.mk X; clear X; clear hb1 hR))
  refine bodyPost_ret (v := .agg #[.int .i64 x.v, .slice A1 x.term.length n1]) (by simp [results, Try.results55, go_sem, q1_0, q1_1]) rfl ⟨[.int .i64 x.v, .slice A1 x.term.length n1], rfl, ?_, ?_⟩
  rotate_left
  · refine Foot.own (n := 3) (Foot.trans (S' := Own w 3) G1.out ?_ (fun _ _ h => h))
    exact (Foot.set (Foot.set (Foot.set (Foot.refl _ _) (.inl ⟨by omega, by omega⟩) _ _) (.inl ⟨by omega, by omega⟩) _ _) (.inl ⟨by omega, by omega⟩) _ _)
  · have FF : ∀ W, Foot (Own w 3) w1 W → kBind.O W (fun k => w.heap.size ≤ k) x [.int .i64 x.v, .slice A1 x.term.length n1] := fun W FF => ?_
    · refine FF _ ?_
      exact (Foot.set (Foot.set (Foot.set (Foot.refl _ _) (.inl ⟨by omega, by omega⟩) _ _) (.inl ⟨by omega, by omega⟩) _ _) (.inl ⟨by omega, by omega⟩) _ _)
    · exact (Kd.O_stack (d := (Kd.int 3)) (e := (Kd.slice 29 kCell (by decide))) (n0 := w.heap.size) (n1 := w.heap.size) ⟨rfl, trivial⟩ ⟨_, rfl, Kd.R_mono (Foot.R FF R1.out (fun k h1 h2 => by have := h1.1; have := h2.2; omega)) (fun k h _ => by have := h.1; have := h.2; omega)⟩ (by omega))
set_option maxHeartbeats 1000000 in
theorem toSBind_c (v : Value) (t : List Bind) (ok : Nat → Prop) (w : World) (hV : kBind.V w ok v t) :
    Calls Try.prog 25 #[v] w fun e w' => ∃ u, e = .returned u ∧ kBind.R w' (fun k => w.heap.size ≤ k) u t ∧ Below w.heap.size w w' := by
  obtain ⟨A, c, rfl, h1, h2, h3, hC, _⟩ := hV
  have HC := Sec.mk hC
  clear hC
  have hu := Try.underlying99
  have hu2 := Try.underlying84
  have hmk := made (P := Try.prog) 33 99 (.agg #[.int .i64 0, .slice none 0 0]) 2 32 Try.underlying33 (by kernel_rfl) (by decide) t.length h3
  have HM := Sec.mk (Kd.R_made (d := kBind) (w := w) (B := w.heap.size) (x0 := zeroBind) (z := #[.int .i64 0, .slice none 0 0]) (n := t.length) (fun w => kBind_zero w) rfl (Nat.le_refl _) h3)
  go_enter Try.func25, Try.ntmps25
  go_wp2
  clear hmk
  go_loopw [4] (fun i wr => ∃ k : Nat, k ≤ t.length ∧ i = .int .i64 k ∧ Sec (kBind.R wr (fun k => w.heap.size ≤ k) (.slice (some ⟨w.heap.size, 0, none⟩) t.length t.length) (t.take k ++ List.replicate (t.length - k) zeroBind)) ∧ Sec (Below w.heap.size w wr)) (fun i _ => t.length - (intOf i).toNat)
  case atStart => exact ⟨0, Nat.zero_le _, rfl, ⟨HM.out⟩, ⟨belA (Below.refl _ _) _⟩⟩
  case round =>
    obtain ⟨k, hk, rfl, hR, hb⟩ := hrel
    by_cases hlt : k < t.length
    · obtain ⟨b, off, cs, rfl, hob, hK, hc⟩ := Kd.C_get (Kd.C_below HC.out hb.out (by decide)) (List.getElem?_eq_getElem hlt)
      have hL : Sec ((t.take k ++ List.replicate (t.length - k) zeroBind).length = t.length) := ⟨by simp; omega⟩
      have hset : Sec ((t.take k ++ List.replicate (t.length - k) zeroBind).set k t[k] = t.take (k + 1) ++ List.replicate (t.length - (k + 1)) zeroBind) := ⟨put_next t zeroBind k hlt⟩
      generalize t[k] = x at *
      have HK := Sec.mk hK
      obtain ⟨v1, rfl, -⟩ := kBind_K hK
      have c0 : wr.cell? ⟨b, off + k * 2, none⟩ = some (.int .i64 x.v) := hc 0 _ rfl
      have c1 : wr.cell? ⟨b, off + k * 2 + 1, none⟩ = some (v1) := hc 1 _ rfl
      clear hc hK
      go_wp2_with (go_at_call 55; refine (toSubBind_c x _ ok _ HK.out).mono ?_; rintro e w1 ⟨d0, rfl, hO, hb1⟩; have HO := Sec.mk hO; obtain ⟨u1, rfl, k1⟩ := kBind_K (Kd.O_K _ hO); clear hO; obtain ⟨A1, n1, rfl, -⟩ := k1; have R1 := Sec.mk (Kd.R_below (Kd.R_mono hR.out (S1 := fun k => w.heap.size ≤ k ∧ k < wr.heap.size) (fun k h1 h2 => ⟨h1, h2⟩)) hb1); have B1 := Sec.mk (bel hb.out hb1); have hsz := Sec.mk hb.out.size; obtain ⟨q0, e0, f0⟩ := Kd.R_cell R1.out k 0 (by rw [hL.out]; exact hlt) (by decide); obtain ⟨q1, e1, f1⟩ := Kd.R_cell R1.out k 1 (by rw [hL.out]; exact hlt) (by decide); rw [show kBind.sz = 2 from rfl] at e0 f0 e1 f1; rw [Nat.add_zero] at e0 f0; have P1 := Sec.mk (Kd.R_put R1.out k (by rw [hL.out]; exact hlt) HO.out (fun k h1 h2 => absurd h2.2 (Nat.not_lt.2 h1))); have F1 := Sec.mk ((Foot.refl (fun k => w.heap.size ≤ k) w1).setCells (g := w.heap.size) (.inl (Nat.le_refl _)) [.int .i64 x.v, .slice A1 x.term.length n1] (k * 2)); clear hb1 c0 c1)
      go_roundw
      case rel => exact ⟨k + 1, by omega, by go_num, ⟨by rw [← hset.out]; exact Kd.R_mono P1.out (fun k h _ => h.elim (fun h => h.1) (fun h => Nat.le_trans hsz.out h))⟩, ⟨F1.out.below B1.out (fun _ h => h)⟩⟩
      case measure => simp [intOf]; omega
    · have hfin : Sec (t.take k ++ List.replicate (t.length - k) zeroBind = t) := ⟨by rw [List.take_of_length_le (by omega), show t.length - k = 0 by omega]; simp⟩
      have hR2 := hR.out
      rw [hfin.out] at hR2
      have HR2 := Sec.mk hR2
      clear hR2 hfin hR
      go_wp2
      go_ret
      exact ⟨_, rfl, HR2.out, hb.out⟩
set_option maxHeartbeats 2000000 in
theorem eqSubBind_c (x y : Bind) (cs ds : List Value) (ok ok' : Nat → Prop) (w : World) (hK : kBind.K w ok x cs) (hD : kBind.K w ok' y ds) :
    Calls Try.prog 61 #[.agg cs.toArray, .agg ds.toArray] w fun e w' => e = .returned (.bool (decide (x = y))) ∧ Below w.heap.size w w' := by
  obtain ⟨_, _, rfl, ⟨rfl, _⟩, ⟨v1, rfl, h1⟩⟩ := hK
  have H1 := Sec.mk h1
  clear h1
  obtain ⟨_, _, rfl, ⟨rfl, _⟩, ⟨u1, rfl, g1⟩⟩ := hD
  have G1 := Sec.mk g1
  clear g1
  have hu := Try.underlying99
  have hxy := Sec.mk (Bind.ext_iff x y)
  have T0 : Sec True := ⟨trivial⟩
  by_cases h0 : x.v = y.v
  · have E0 := Sec.mk h0
    have d0 : (x.v == y.v) = true := beq_iff_eq.2 h0
    clear h0
    by_cases h1 : x.term = y.term
    · have E1 := Sec.mk h1
      have d1 : decide (x.term = y.term) = true := decide_eq_true h1
      clear h1
      have hd : Sec (decide (x = y) = true) := ⟨by rw [decide_eq_true_eq, hxy.out]; exact ⟨E0.out, E1.out⟩⟩
      go_enter Try.func61, Try.ntmps61
      go_wp2_with (first | (clear T0; go_at_call 9; have T1 : Sec True := ⟨trivial⟩; refine (eqSCell_c v1 u1 x.term y.term ok ok' _ (Kd.V_below H1.out (belA (belA (Below.refl _ _) _) _) (by decide)) (Kd.V_below G1.out (belA (belA (Below.refl _ _) _) _) (by decide))).mono ?_; rintro e w1 ⟨rfl, hb1⟩; rw [d1]; have B1 := Sec.mk (bel (belA (belA (Below.refl _ _) _) _) hb1); have X := box_cells (b := w.heap.size) (cs := #[.int .i64 x.v, v1]) (t := 99) hb1 (box2 _ _ _).1; have p1_1 := X.2.1 1 _ rfl; have P1 := Sec.mk X; clear X; have X := box_cells (b := w.heap.size + 1) (cs := #[.int .i64 y.v, u1]) (t := 99) hb1 (box2 _ _ _).2; have q1_1 := X.2.1 1 _ rfl; have Q1 := Sec.mk X; clear X hb1))
      go_ret
      exact ⟨rb hd.out.symm, B1.out⟩
    · have hd : Sec (decide (x = y) = false) := ⟨by rw [decide_eq_false_iff_not, hxy.out]; exact fun h => h1 h.2⟩
      have d1 : decide (x.term = y.term) = false := decide_eq_false h1
      clear h1
      go_enter Try.func61, Try.ntmps61
      go_wp2_with (first | (clear T0; go_at_call 9; have T1 : Sec True := ⟨trivial⟩; refine (eqSCell_c v1 u1 x.term y.term ok ok' _ (Kd.V_below H1.out (belA (belA (Below.refl _ _) _) _) (by decide)) (Kd.V_below G1.out (belA (belA (Below.refl _ _) _) _) (by decide))).mono ?_; rintro e w1 ⟨rfl, hb1⟩; rw [d1]; have B1 := Sec.mk (bel (belA (belA (Below.refl _ _) _) _) hb1); have X := box_cells (b := w.heap.size) (cs := #[.int .i64 x.v, v1]) (t := 99) hb1 (box2 _ _ _).1; have p1_1 := X.2.1 1 _ rfl; have P1 := Sec.mk X; clear X; have X := box_cells (b := w.heap.size + 1) (cs := #[.int .i64 y.v, u1]) (t := 99) hb1 (box2 _ _ _).2; have q1_1 := X.2.1 1 _ rfl; have Q1 := Sec.mk X; clear X hb1))
      go_ret
      exact ⟨rb hd.out.symm, B1.out⟩
  · have hd : Sec (decide (x = y) = false) := ⟨by rw [decide_eq_false_iff_not, hxy.out]; exact fun h => h0 h.1⟩
    have d0 : (x.v == y.v) = false := beq_eq_false_iff_ne.2 h0
    clear h0
    go_enter Try.func61, Try.ntmps61
    go_wp2
    go_ret
    exact ⟨rb hd.out.symm, (belA (belA (Below.refl _ _) _) _)⟩
set_option maxHeartbeats 2000000 in
theorem eqSBind_c (v u : Value) (t s : List Bind) (ok ok' : Nat → Prop) (w : World) (hV : kBind.V w ok v t) (hU : kBind.V w ok' u s) :
    Calls Try.prog 31 #[v, u] w fun e w' => e = .returned (.bool (decide (t = s))) ∧ Below w.heap.size w w' := by
  obtain ⟨A, c, rfl, h1, h2, h3, hC, _⟩ := hV
  obtain ⟨B, d, rfl, k1, k2, k3, hD, _⟩ := hU
  have HC := Sec.mk hC
  have HD := Sec.mk hD
  clear hC hD
  have hu := Try.underlying99
  by_cases hl : t.length = s.length
  · rw [← hl]
    have HL := Sec.mk hl
    clear hl
    go_enter Try.func31, Try.ntmps31
    go_wp2
    go_loopw [5] (fun i wr => ∃ k : Nat, k ≤ t.length ∧ i = .int .i64 k ∧ Sec (t.take k = s.take k) ∧ Sec (Below w.heap.size w wr)) (fun i _ => t.length - (intOf i).toNat)
    case atStart => exact ⟨0, Nat.zero_le _, rfl, ⟨by simp⟩, ⟨Below.refl _ _⟩⟩
    case round =>
      obtain ⟨k, hk, rfl, hT, hb⟩ := hrel
      by_cases hlt : k < t.length
      · have hlt2 : k < s.length := by have := HL.out; omega
        obtain ⟨b, off, cs, rfl, hob, hK, hc⟩ := Kd.C_get HC.out (List.getElem?_eq_getElem hlt)
        obtain ⟨b2, off2, cs2, rfl, hob2, hK2, hc2⟩ := Kd.C_get HD.out (List.getElem?_eq_getElem hlt2)
        have hT1 : Sec (t[k] = s[k] → t.take (k + 1) = s.take (k + 1)) := ⟨fun e => by rw [List.take_succ_eq_append_getElem hlt, List.take_succ_eq_append_getElem hlt2, hT.out, e]⟩
        have hT2 : Sec (t = s → t[k] = s[k]) := ⟨fun e => by subst e; rfl⟩
        generalize t[k] = x at *
        generalize s[k] = y at *
        have HK := Sec.mk hK
        have HK2 := Sec.mk hK2
        obtain ⟨v1, rfl, -⟩ := kBind_K hK
        obtain ⟨u1, rfl, -⟩ := kBind_K hK2
        have hat : Sec (∀ W : World, Below w.heap.size w W → W.cell? ⟨b, off + k * 2, none⟩ = some (.int .i64 x.v) ∧ W.cell? ⟨b, off + k * 2 + 1, none⟩ = some (v1) ∧ W.cell? ⟨b2, off2 + k * 2, none⟩ = some (.int .i64 y.v) ∧ W.cell? ⟨b2, off2 + k * 2 + 1, none⟩ = some (u1)) := ⟨fun W h => ⟨Raw.cell_below h (hc 0 _ rfl), Raw.cell_below h (hc 1 _ rfl), Raw.cell_below h (hc2 0 _ rfl), Raw.cell_below h (hc2 1 _ rfl)⟩⟩
        clear hc hc2 hK hK2
        obtain ⟨x0, x1, y0, y1⟩ := hat.out _ hb.out
        have i0 : (0 : Int) ≤ (k : Int) := by omega
        have i1 : (k : Int) < (t.length : Int) := by omega
        obtain ⟨bb, hbb⟩ : ∃ bb, decide (x = y) = bb := ⟨_, rfl⟩
        have Hc : Sec (∀ W, Below w.heap.size w W → Calls Try.prog 61 #[.agg #[.int .i64 x.v, v1], .agg #[.int .i64 y.v, u1]] W fun e w' => e = .returned (.bool bb) ∧ Below W.heap.size W w') := ⟨fun W hB => by rw [← hbb]; exact eqSubBind_c x y _ _ ok ok' W (Kd.K_below HK.out hB) (Kd.K_below HK2.out hB)⟩
        have HBB := Sec.mk hbb
        clear hbb
        go_wp2
        go_region_held3 (fun W => W.cell? ⟨b, off + k * 2, none⟩ = some (.int .i64 x.v) ∧ W.cell? ⟨b, off + k * 2 + 1, none⟩ = some (v1) ∧ W.cell? ⟨b2, off2 + k * 2, none⟩ = some (.int .i64 y.v) ∧ W.cell? ⟨b2, off2 + k * 2 + 1, none⟩ = some (u1))
          (first | (refine ⟨?_, ?_, ?_, ?_⟩ <;> assumption) | go_keep)
          (first | (go_at_call 61; refine (Hc.out _ (belD hb.out)).mono ?_; rintro e w1 ⟨rfl, hb1⟩; have B1 := Sec.mk (bel (belD hb.out) hb1); clear x0 x1 y0 y1; obtain ⟨x0, x1, y0, y1⟩ := hat.out _ B1.out; clear hb1))
        all_goals
          cases bb with
          | true =>
            have HE : Sec (t.take (k + 1) = s.take (k + 1)) := ⟨hT1.out (of_decide_eq_true HBB.out)⟩
            go_wp2
            go_roundw
            case rel => exact ⟨k + 1, by omega, by go_num, HE, B1⟩
            case measure => simp [intOf]; omega
          | false =>
            have HE : Sec (decide (t = s) = false) := ⟨decide_eq_false (fun e => of_decide_eq_false HBB.out (hT2.out e))⟩
            go_wp2
            go_ret
            exact ⟨rb HE.out.symm, B1.out⟩
      · have HE : Sec (decide (t = s) = true) := ⟨decide_eq_true (by have := hT.out; have h2 := HL.out; rwa [List.take_of_length_le (by omega), List.take_of_length_le (by omega)] at this)⟩
        go_wp2
        go_ret
        exact ⟨rb HE.out.symm, hb.out⟩
  · have hl' : ((t.length : Int) == (s.length : Int)) = false := beq_eq_false_iff_ne.2 (by omega)
    have HE : Sec (decide (t = s) = false) := ⟨decide_eq_false (fun e => hl (by rw [e]))⟩
    go_enter Try.func31, Try.ntmps31
    go_wp2
    go_ret
    exact ⟨rb HE.out.symm, Below.refl _ _⟩
def mBind : Mk Bind := ⟨fun x => 1 + mCell.cnts x.term, fun x k => ⟨k, mCell.mks x.term (k + 1)⟩⟩
theorem mBind_cnt (x : Bind) : mBind.cnt x = 1 + mCell.cnts x.term := rfl
set_option maxHeartbeats 2000000 in
theorem markSBind_c (v : Value) (t : List Bind) (S : Nat → Prop) (k : Int) (hk : 0 ≤ k) (hk2 : k + mBind.cnts t ≤ 1000000000000000000) (w : World) (hR : kBind.R w S v t) :
    Calls Try.prog 34 #[v, .int .i64 k] w fun e w' => e = .returned (.int .i64 (k + mBind.cnts t)) ∧ kBind.R w' S v (mBind.mks t k) ∧ Foot S w w' := by
  obtain ⟨A, cp, hv, g1, g2⟩ := Kd.R_form hR
  subst hv
  have h3 : t.length ≤ 1073741824 := hR.1
  have HR := Sec.mk hR
  have hu := Try.underlying99
  clear hR
  have HN := Sec.mk (mBind.cnts_take t)
  have HM := Sec.mk (mBind.cnts_le t)
  have HX := Sec.mk (mBind.next t k)
  go_enter Try.func34, Try.ntmps34
  go_wp2
  go_loopw [1, 5] (fun kv iv wr => ∃ i : Nat, i ≤ t.length ∧ iv = .int .i64 i ∧ kv = .int .i64 (k + ↑(mBind.cnts (t.take i))) ∧ Sec (kBind.R wr S (.slice A t.length cp) (mBind.mks (t.take i) k ++ t.drop i)) ∧ Sec (Foot S w wr)) (fun _ iv _ => t.length - (intOf iv).toNat)
  case atStart => exact ⟨0, Nat.zero_le _, rfl, by simp [Mk.cnts], ⟨by simpa [Mk.mks] using HR.out⟩, ⟨Foot.refl _ _⟩⟩
  case round =>
    obtain ⟨i, hi, rfl, rfl, hM, hF⟩ := hrel
    by_cases hlt : i < t.length
    · have hL : (mBind.mks (t.take i) k ++ t.drop i).length = t.length := mBind.len_ t k i
      have hil : i < (mBind.mks (t.take i) k ++ t.drop i).length := by omega
      obtain ⟨b, rfl, -, hSb, hbb, -⟩ := Kd.R_block hM.out (by omega)
      obtain ⟨cs, hA, -⟩ := Kd.At.of_R hM.out hil
      rw [mBind.at_ t k i hlt] at hA
      have hnext := Sec.mk (HX.out i hlt)
      have hn1 := HN.out i hlt
      have hn2 := HM.out (i + 1)
      rw [hn1] at hn2
      have HN1 := Sec.mk hn1
      have F0 := hF
      clear hM hn1 hL
      generalize mBind.mks (t.take i) k ++ t.drop i = L at *
      generalize t[i] = x at *
      generalize mBind.cnts (t.take i) = c at *
      have hcx : Sec (mBind.cnt x = _) := ⟨mBind_cnt x⟩
      rw [mBind_cnt x] at hn2
      have hAt := hA
      obtain ⟨v1, rfl, -⟩ := kBind_K hA.K
      have A0 := Sec.mk hA
      clear hA hAt
      have c0_0 : wr.cell? ⟨b, i * 2, none⟩ = some (.int .i64 x.v) := Kd.At.cell A0.out 0 _ rfl
      have c0_1 : wr.cell? ⟨b, i * 2 + 1, none⟩ = some (v1) := Kd.At.cell A0.out 1 _ rfl
      have f0_0 : wr.frozen? ⟨b, i * 2, none⟩ = false := Kd.At.frozen A0.out (i * 2)
      have f0_1 : wr.frozen? ⟨b, i * 2 + 1, none⟩ = false := Kd.At.frozen A0.out (i * 2 + 1)
      have A1 : Sec (Kd.At kBind (wr.setCell ⟨b, i * 2, none⟩ (.int .i64 (k + (c : Int)))) S b t.length cp L i ⟨k + (c : Int), x.term⟩ [.int .i64 (k + (c : Int)), v1]) := ⟨Kd.At.store (e := (Kd.int 3)) A0.out kBind_f_v rfl (k + (c : Int)) (.int .i64 (k + (c : Int))) (fun _ _ => ⟨rfl, trivial⟩)⟩
      have F1 : Sec (Foot S w (wr.setCell ⟨b, i * 2, none⟩ (.int .i64 (k + (c : Int))))) := ⟨F0.out.set (g := b) (.inl hSb) (i * 2) (.int .i64 (k + (c : Int)))⟩
      obtain ⟨S1, r1, hs1, bk1⟩ := Kd.At.sub A1.out kBind_f_term (v := v1) rfl
      have SR1 := Sec.mk r1
      have SS1 := Sec.mk hs1
      have BK1 := Sec.mk bk1
      clear r1 hs1 bk1
      have T0 : Sec True := ⟨trivial⟩
      go_wp2_with (first | (clear T0; go_at_call 12; have T1 : Sec True := ⟨trivial⟩; refine (markSCell_c v1 x.term S1 (k + (c : Int) + 1) (by omega) (by omega) _ SR1.out).mono ?_; rintro e w1 ⟨rfl, hR', hF'⟩; have A2 : Sec (Kd.At kBind w1 S b t.length cp L i ⟨k + (c : Int), (mCell.mks x.term (k + (c : Int) + 1))⟩ [.int .i64 (k + (c : Int)), v1]) := ⟨BK1.out w1 _ hR' hF'⟩; have F2 : Sec (Foot S w w1) := ⟨F1.out.trans hF' (fun k _ h => (SS1.out k h).1)⟩; clear hR' hF'; clear c0_0 f0_0 c0_1 f0_1; have c1_0 : w1.cell? ⟨b, i * 2, none⟩ = some (.int .i64 (k + (c : Int))) := Kd.At.cell A2.out 0 _ rfl; have c1_1 : w1.cell? ⟨b, i * 2 + 1, none⟩ = some (v1) := Kd.At.cell A2.out 1 _ rfl; have f1_0 : w1.frozen? ⟨b, i * 2, none⟩ = false := Kd.At.frozen A2.out (i * 2); have f1_1 : w1.frozen? ⟨b, i * 2 + 1, none⟩ = false := Kd.At.frozen A2.out (i * 2 + 1)))
      go_roundw
      case rel => exact ⟨i + 1, by omega, by go_num, by rw [HN1.out, hcx.out]; congr 1; omega, ⟨by rw [← hnext.out]; exact A2.out.R⟩, F2⟩
      case measure => simp [intOf]; omega
    · have hfin : Sec (mBind.mks (t.take i) k ++ t.drop i = mBind.mks t k) := ⟨by rw [List.take_of_length_le (by omega), List.drop_of_length_le (by omega), List.append_nil]⟩
      have hM2 := hM.out
      rw [hfin.out] at hM2
      have HM2 := Sec.mk hM2
      have hi2 : Sec (k + ↑(mBind.cnts (t.take i)) = k + ↑(mBind.cnts t)) := ⟨by rw [List.take_of_length_le (by omega)]⟩
      clear hM2 hM hfin
      go_wp2
      go_ret
      exact ⟨ri hi2.out, HM2.out, hF.out⟩
set_option maxHeartbeats 2000000 in
theorem heldSBind_c (v : Value) (t : List Bind) (ok : Nat → Prop) (k : Int) (hk : 0 ≤ k) (hk2 : k + mBind.cnts t ≤ 1000000000000000000) (w : World) (hV : kBind.V w ok v (mBind.mks t k)) :
    Calls Try.prog 46 #[v, .int .i64 k] w fun e w' => e = .returned (.int .i64 (k + mBind.cnts t)) ∧ Below w.heap.size w w' := by
  obtain ⟨A, cp, rfl, g1, g2, g3, hC, _⟩ := hV
  rw [Mk.mks_len] at g1 g3
  rw [Mk.mks_len]
  have HC := Sec.mk hC
  have hu := Try.underlying99
  clear hC
  have HN := Sec.mk (mBind.cnts_take t)
  have HM := Sec.mk (mBind.cnts_le t)
  have HG := Sec.mk (mBind.get t k)
  have HLn := Sec.mk (mBind.mks_len t k)
  go_enter Try.func46, Try.ntmps46
  go_wp2
  go_loopw [1, 5] (fun kv iv wr => ∃ i : Nat, i ≤ t.length ∧ iv = .int .i64 i ∧ kv = .int .i64 (k + ↑(mBind.cnts (t.take i))) ∧ Sec (Below w.heap.size w wr)) (fun _ iv _ => t.length - (intOf iv).toNat)
  case atStart => exact ⟨0, Nat.zero_le _, rfl, by simp [Mk.cnts], ⟨Below.refl _ _⟩⟩
  case round =>
    obtain ⟨i, hi, rfl, rfl, hb⟩ := hrel
    by_cases hlt : i < t.length
    · obtain ⟨b, off, cs, rfl, hob, hK, hc⟩ := Kd.C_get HC.out (List.getElem?_eq_getElem (by rw [HLn.out]; exact hlt))
      rw [HG.out i hlt] at hK
      have hn1 := HN.out i hlt
      have hn2 := HM.out (i + 1)
      rw [hn1] at hn2
      have HN1 := Sec.mk hn1
      clear hn1
      generalize t[i] = x at *
      generalize mBind.cnts (t.take i) = c at *
      have hcx : Sec (mBind.cnt x = _) := ⟨mBind_cnt x⟩
      rw [mBind_cnt x] at hn2
      obtain ⟨v1, rfl, h1⟩ := kBind_K hK
      have hat : Sec (∀ W : World, Below w.heap.size w W → W.cell? ⟨b, off + i * 2, none⟩ = some (.int .i64 (k + (c : Int))) ∧ W.cell? ⟨b, off + i * 2 + 1, none⟩ = some (v1)) := ⟨fun W h => ⟨Raw.cell_below h (hc 0 _ rfl), Raw.cell_below h (hc 1 _ rfl)⟩⟩
      have i0 : (0 : Int) ≤ (i : Int) := by omega
      have i1 : (i : Int) < (t.length : Int) := by omega
      have H1 : Sec (kCell.V w ok v1 (mCell.mks x.term (k + (c : Int) + 1))) := ⟨h1⟩
      clear h1
      clear hc hK
      obtain ⟨c0, c1⟩ := hat.out _ hb.out
      have B0 := hb
      have T0 : Sec True := ⟨trivial⟩
      go_wp2_with (first | (clear T0; go_at_call 13; have T1 : Sec True := ⟨trivial⟩; refine (heldSCell_c v1 x.term ok (k + (c : Int) + 1) (by omega) (by omega) _ (Kd.V_below H1.out B0.out (by decide))).mono ?_; rintro e w1 ⟨rfl, hb1⟩; have B1 := Sec.mk (bel B0.out hb1); clear hb1 c0 c1; obtain ⟨c0, c1⟩ := hat.out _ B1.out))
      go_roundw
      case rel => exact ⟨i + 1, by omega, by go_num, by rw [HN1.out, hcx.out]; congr 1; omega, B1⟩
      case measure => simp [intOf]; omega
    · have hi2 : Sec (k + ↑(mBind.cnts (t.take i)) = k + ↑(mBind.cnts t)) := ⟨by rw [List.take_of_length_le (by omega)]⟩
      go_wp2
      go_ret
      exact ⟨ri hi2.out, hb.out⟩
def mBindt : Mk Bind := ⟨fun x => mCell.cnts x.term, fun x k => ⟨x.v, mCell.mks x.term (k)⟩⟩
theorem mBindt_cnt (x : Bind) : mBindt.cnt x = mCell.cnts x.term := rfl
theorem rBind_le6 (x : Bind) : mBind.cnt x ≤ 8 + 8 * rBind.wt x := by
  rw [mBind_cnt]; rw [rBind_wt]; have := Mk.cnts_le6 rCell_le6 x.term; omega
theorem rBind_tle (x : Bind) : mBindt.cnt x ≤ 8 * rBind.wt x := by
  rw [mBindt_cnt, rBind_wt]; have := Mk.cnts_le6 rCell_le6 x.term; omega
end Go.Proofs.Ytggchcljkehefaa
