/- What the exact laws' own functions do with the type SlvOut: turned, sized, compared, marked, held; and what goes with it. -/
import Derived.Test.YtgiobpggonceeaaGreatDoorXw3
namespace Go.Proofs.YtgiobpggonceeaaGreatDoor
section
open Go.RowKit
set_option linter.unusedVariables false
set_option maxRecDepth 100000
def kSOut : Kd SOut := Kd.iso 74 (Kd.pair (Kd.int 3) (Kd.slice 23 kCell (by decide))) (fun x => (x.status, x.term))
theorem kSOut_K {w : World} {ok : Nat → Prop} {x : SOut} {cs : List Value} (h : kSOut.K w ok x cs) : ∃ v1, cs = [.int .i64 x.status, v1] ∧ kCell.V w ok v1 x.term := by
  obtain ⟨_, _, rfl, ⟨rfl, _⟩, ⟨v1, rfl, h1⟩⟩ := h
  exact ⟨v1, rfl, h1⟩
def rSOut : Raw SOut := Raw.iso 68 (Raw.pair (Raw.int 3) (Raw.slice 50 rCell)) (fun x => (x.status, x.term))
theorem SOut.ext_iff (a b : SOut) : a = b ↔ a.status = b.status ∧ a.term = b.term := by
  cases a; cases b; simp
instance : DecidableEq SOut := fun a b => decidable_of_iff _ (SOut.ext_iff a b).symm
def zeroSOut : SOut := ⟨0, []⟩
theorem kSOut_f_status : Kd.Fld kSOut (Kd.int 3) 0 (fun x => x.status) (fun x y => { x with status := y }) := Kd.Fld.iso _ (Kd.Fld.fst (Kd.Fld.self _)) (fun _ _ => rfl)
theorem kSOut_f_term : Kd.Fld kSOut (Kd.slice 23 kCell (by decide)) 1 (fun x => x.term) (fun x y => { x with term := y }) := Kd.Fld.iso _ (Kd.Fld.snd (Kd.Fld.self _)) (fun _ _ => rfl)
set_option maxHeartbeats 2000000 in
theorem eqSlvOut_c (x y : SOut) (cs ds : List Value) (ok ok' : Nat → Prop) (w : World) (hK : kSOut.K w ok x cs) (hD : kSOut.K w ok' y ds) :
    Calls Tryz.prog 102 #[.agg cs.toArray, .agg ds.toArray] w fun e w' => e = .returned (.bool (decide (x = y))) ∧ Below w.heap.size w w' := by
  obtain ⟨_, _, rfl, ⟨rfl, _⟩, ⟨v1, rfl, h1⟩⟩ := hK
  have H1 := Sec.mk h1
  clear h1
  obtain ⟨_, _, rfl, ⟨rfl, _⟩, ⟨u1, rfl, g1⟩⟩ := hD
  have G1 := Sec.mk g1
  clear g1
  have hu := Tryz.underlying74
  have hxy := Sec.mk (SOut.ext_iff x y)
  have T0 : Sec True := ⟨trivial⟩
  by_cases h0 : x.status = y.status
  · have E0 := Sec.mk h0
    have d0 : (x.status == y.status) = true := beq_iff_eq.2 h0
    clear h0
    by_cases h1 : x.term = y.term
    · have E1 := Sec.mk h1
      have d1 : decide (x.term = y.term) = true := decide_eq_true h1
      clear h1
      have hd : Sec (decide (x = y) = true) := ⟨by rw [decide_eq_true_eq, hxy.out]; exact ⟨E0.out, E1.out⟩⟩
      go_enter Tryz.func102, Tryz.ntmps102
      go_wp2_with (first | (clear T0; go_at_call 26; have T1 : Sec True := ⟨trivial⟩; refine (eqSCell_c v1 u1 x.term y.term ok ok' _ (Kd.V_below H1.out (belA (belA (Below.refl _ _) _) _) (by decide)) (Kd.V_below G1.out (belA (belA (Below.refl _ _) _) _) (by decide))).mono ?_; rintro e w1 ⟨rfl, hb1⟩; rw [d1]; have B1 := Sec.mk (bel (belA (belA (Below.refl _ _) _) _) hb1); have X := box_cells (b := w.heap.size) (cs := #[.int .i64 x.status, v1]) (t := 74) hb1 (box2 _ _ _).1; have p1_1 := X.2.1 1 _ rfl; have P1 := Sec.mk X; clear X; have X := box_cells (b := w.heap.size + 1) (cs := #[.int .i64 y.status, u1]) (t := 74) hb1 (box2 _ _ _).2; have q1_1 := X.2.1 1 _ rfl; have Q1 := Sec.mk X; clear X hb1))
      go_ret
      exact ⟨rb hd.out.symm, B1.out⟩
    · have hd : Sec (decide (x = y) = false) := ⟨by rw [decide_eq_false_iff_not, hxy.out]; exact fun h => h1 h.2⟩
      have d1 : decide (x.term = y.term) = false := decide_eq_false h1
      clear h1
      go_enter Tryz.func102, Tryz.ntmps102
      go_wp2_with (first | (clear T0; go_at_call 26; have T1 : Sec True := ⟨trivial⟩; refine (eqSCell_c v1 u1 x.term y.term ok ok' _ (Kd.V_below H1.out (belA (belA (Below.refl _ _) _) _) (by decide)) (Kd.V_below G1.out (belA (belA (Below.refl _ _) _) _) (by decide))).mono ?_; rintro e w1 ⟨rfl, hb1⟩; rw [d1]; have B1 := Sec.mk (bel (belA (belA (Below.refl _ _) _) _) hb1); have X := box_cells (b := w.heap.size) (cs := #[.int .i64 x.status, v1]) (t := 74) hb1 (box2 _ _ _).1; have p1_1 := X.2.1 1 _ rfl; have P1 := Sec.mk X; clear X; have X := box_cells (b := w.heap.size + 1) (cs := #[.int .i64 y.status, u1]) (t := 74) hb1 (box2 _ _ _).2; have q1_1 := X.2.1 1 _ rfl; have Q1 := Sec.mk X; clear X hb1))
      go_ret
      exact ⟨rb hd.out.symm, B1.out⟩
  · have hd : Sec (decide (x = y) = false) := ⟨by rw [decide_eq_false_iff_not, hxy.out]; exact fun h => h0 h.1⟩
    have d0 : (x.status == y.status) = false := beq_eq_false_iff_ne.2 h0
    clear h0
    go_enter Tryz.func102, Tryz.ntmps102
    go_wp2
    go_ret
    exact ⟨rb hd.out.symm, (belA (belA (Below.refl _ _) _) _)⟩
set_option maxHeartbeats 2000000 in
theorem eqSSOut_c (v u : Value) (t s : List SOut) (ok ok' : Nat → Prop) (w : World) (hV : kSOut.V w ok v t) (hU : kSOut.V w ok' u s) :
    Calls Tryz.prog 75 #[v, u] w fun e w' => e = .returned (.bool (decide (t = s))) ∧ Below w.heap.size w w' := by
  obtain ⟨A, c, rfl, h1, h2, h3, hC, _⟩ := hV
  obtain ⟨B, d, rfl, k1, k2, k3, hD, _⟩ := hU
  have HC := Sec.mk hC
  have HD := Sec.mk hD
  clear hC hD
  have hu := Tryz.underlying74
  by_cases hl : t.length = s.length
  · rw [← hl]
    have HL := Sec.mk hl
    clear hl
    go_enter Tryz.func75, Tryz.ntmps75
    go_wp2
    go_loopw [5] (fun i wr => ∃ k : Nat, k ≤ t.length ∧ i = .int .i64 k ∧ Sec (t.take k = s.take k) ∧ Sec (Below w.heap.size w wr)) (fun i _ => t.length - (intOf i).toNat)
    case atStart => exact ⟨0, Nat.zero_le _, rfl, ⟨by simp⟩, ⟨Below.refl _ _⟩⟩
    case round =>
      obtain ⟨k, hk, rfl, hT, hb⟩ := hrel
      by_cases hlt : k < t.length
      · have hlt2 : k < s.length := by have := HL.out; omega
        obtain ⟨b, off, cs, rfl, hob, hK, hc⟩ := Kd.C_get HC.out (List.getElem?_eq_getElem hlt)
        obtain ⟨b2, off2, cs2, rfl, hob2, hK2, hc2⟩ := Kd.C_get HD.out (List.getElem?_eq_getElem hlt2)
        have hT1 : Sec (t[k] = s[k] → t.take (k + 1) = s.take (k + 1)) := ⟨fun e => by rw [List.take_succ_eq_append_getElem hlt, List.take_succ_eq_append_getElem hlt2, hT.out, e]⟩
        have hT2 : Sec (t = s → t[k] = s[k]) := ⟨fun e => by subst e; rfl⟩
        generalize t[k] = x at *
        generalize s[k] = y at *
        have HK := Sec.mk hK
        have HK2 := Sec.mk hK2
        obtain ⟨v1, rfl, -⟩ := kSOut_K hK
        obtain ⟨u1, rfl, -⟩ := kSOut_K hK2
        have hat : Sec (∀ W : World, Below w.heap.size w W → W.cell? ⟨b, off + k * 2, none⟩ = some (.int .i64 x.status) ∧ W.cell? ⟨b, off + k * 2 + 1, none⟩ = some (v1) ∧ W.cell? ⟨b2, off2 + k * 2, none⟩ = some (.int .i64 y.status) ∧ W.cell? ⟨b2, off2 + k * 2 + 1, none⟩ = some (u1)) := ⟨fun W h => ⟨Raw.cell_below h (hc 0 _ rfl), Raw.cell_below h (hc 1 _ rfl), Raw.cell_below h (hc2 0 _ rfl), Raw.cell_below h (hc2 1 _ rfl)⟩⟩
        clear hc hc2 hK hK2
        obtain ⟨x0, x1, y0, y1⟩ := hat.out _ hb.out
        have i0 : (0 : Int) ≤ (k : Int) := by omega
        have i1 : (k : Int) < (t.length : Int) := by omega
        obtain ⟨bb, hbb⟩ : ∃ bb, decide (x = y) = bb := ⟨_, rfl⟩
        have Hc : Sec (∀ W, Below w.heap.size w W → Calls Tryz.prog 102 #[.agg #[.int .i64 x.status, v1], .agg #[.int .i64 y.status, u1]] W fun e w' => e = .returned (.bool bb) ∧ Below W.heap.size W w') := ⟨fun W hB => by rw [← hbb]; exact eqSlvOut_c x y _ _ ok ok' W (Kd.K_below HK.out hB) (Kd.K_below HK2.out hB)⟩
        have HBB := Sec.mk hbb
        clear hbb
        go_wp2
        go_region_held3 (fun W => W.cell? ⟨b, off + k * 2, none⟩ = some (.int .i64 x.status) ∧ W.cell? ⟨b, off + k * 2 + 1, none⟩ = some (v1) ∧ W.cell? ⟨b2, off2 + k * 2, none⟩ = some (.int .i64 y.status) ∧ W.cell? ⟨b2, off2 + k * 2 + 1, none⟩ = some (u1))
          (first | (refine ⟨?_, ?_, ?_, ?_⟩ <;> assumption) | go_keep)
          (first | (go_at_call 102; refine (Hc.out _ (belD hb.out)).mono ?_; rintro e w1 ⟨rfl, hb1⟩; have B1 := Sec.mk (bel (belD hb.out) hb1); clear x0 x1 y0 y1; obtain ⟨x0, x1, y0, y1⟩ := hat.out _ B1.out; clear hb1))
        all_goals
          cases bb with
          | true =>
            have HE : Sec (t.take (k + 1) = s.take (k + 1)) := ⟨hT1.out (of_decide_eq_true HBB.out)⟩
            go_wp2
            go_roundw
            case rel => exact ⟨k + 1, by omega, by go_num, HE, B1⟩
            case measure => simp [intOf]; omega
          | false =>
            have HE : Sec (decide (t = s) = false) := ⟨decide_eq_false (fun e => of_decide_eq_false HBB.out (hT2.out e))⟩
            go_wp2
            go_ret
            exact ⟨rb HE.out.symm, B1.out⟩
      · have HE : Sec (decide (t = s) = true) := ⟨decide_eq_true (by have := hT.out; have h2 := HL.out; rwa [List.take_of_length_le (by omega), List.take_of_length_le (by omega)] at this)⟩
        go_wp2
        go_ret
        exact ⟨rb HE.out.symm, hb.out⟩
  · have hl' : ((t.length : Int) == (s.length : Int)) = false := beq_eq_false_iff_ne.2 (by omega)
    have HE : Sec (decide (t = s) = false) := ⟨decide_eq_false (fun e => hl (by rw [e]))⟩
    go_enter Tryz.func75, Tryz.ntmps75
    go_wp2
    go_ret
    exact ⟨rb HE.out.symm, Below.refl _ _⟩
def mSOut : Mk SOut := ⟨fun x => 1 + mCell.cnts x.term, fun x k => ⟨k, mCell.mks x.term (k + 1)⟩⟩
theorem mSOut_cnt (x : SOut) : mSOut.cnt x = 1 + mCell.cnts x.term := rfl
set_option maxHeartbeats 2000000 in
theorem markSSOut_c (v : Value) (t : List SOut) (S : Nat → Prop) (k : Int) (hk : 0 ≤ k) (hk2 : k + mSOut.cnts t ≤ 1000000000000000000) (w : World) (hR : kSOut.R w S v t) :
    Calls Tryz.prog 84 #[v, .int .i64 k] w fun e w' => e = .returned (.int .i64 (k + mSOut.cnts t)) ∧ kSOut.R w' S v (mSOut.mks t k) ∧ Foot S w w' := by
  obtain ⟨A, cp, hv, g1, g2⟩ := Kd.R_form hR
  subst hv
  have h3 : t.length ≤ 1073741824 := hR.1
  have HR := Sec.mk hR
  have hu := Tryz.underlying74
  clear hR
  have HN := Sec.mk (mSOut.cnts_take t)
  have HM := Sec.mk (mSOut.cnts_le t)
  have HX := Sec.mk (mSOut.next t k)
  go_enter Tryz.func84, Tryz.ntmps84
  go_wp2
  go_loopw [1, 5] (fun kv iv wr => ∃ i : Nat, i ≤ t.length ∧ iv = .int .i64 i ∧ kv = .int .i64 (k + ↑(mSOut.cnts (t.take i))) ∧ Sec (kSOut.R wr S (.slice A t.length cp) (mSOut.mks (t.take i) k ++ t.drop i)) ∧ Sec (Foot S w wr)) (fun _ iv _ => t.length - (intOf iv).toNat)
  case atStart => exact ⟨0, Nat.zero_le _, rfl, by simp [Mk.cnts], ⟨by simpa [Mk.mks] using HR.out⟩, ⟨Foot.refl _ _⟩⟩
  case round =>
    obtain ⟨i, hi, rfl, rfl, hM, hF⟩ := hrel
    by_cases hlt : i < t.length
    · have hL : (mSOut.mks (t.take i) k ++ t.drop i).length = t.length := mSOut.len_ t k i
      have hil : i < (mSOut.mks (t.take i) k ++ t.drop i).length := by omega
      obtain ⟨b, rfl, -, hSb, hbb, -⟩ := Kd.R_block hM.out (by omega)
      obtain ⟨cs, hA, -⟩ := Kd.At.of_R hM.out hil
      rw [mSOut.at_ t k i hlt] at hA
      have hnext := Sec.mk (HX.out i hlt)
      have hn1 := HN.out i hlt
      have hn2 := HM.out (i + 1)
      rw [hn1] at hn2
      have HN1 := Sec.mk hn1
      have F0 := hF
      clear hM hn1 hL
      generalize mSOut.mks (t.take i) k ++ t.drop i = L at *
      generalize t[i] = x at *
      generalize mSOut.cnts (t.take i) = c at *
      have hcx : Sec (mSOut.cnt x = _) := ⟨mSOut_cnt x⟩
      rw [mSOut_cnt x] at hn2
      have hAt := hA
      obtain ⟨v1, rfl, -⟩ := kSOut_K hA.K
      have A0 := Sec.mk hA
      clear hA hAt
      have c0_0 : wr.cell? ⟨b, i * 2, none⟩ = some (.int .i64 x.status) := Kd.At.cell A0.out 0 _ rfl
      have c0_1 : wr.cell? ⟨b, i * 2 + 1, none⟩ = some (v1) := Kd.At.cell A0.out 1 _ rfl
      have f0_0 : wr.frozen? ⟨b, i * 2, none⟩ = false := Kd.At.frozen A0.out (i * 2)
      have f0_1 : wr.frozen? ⟨b, i * 2 + 1, none⟩ = false := Kd.At.frozen A0.out (i * 2 + 1)
      have A1 : Sec (Kd.At kSOut (wr.setCell ⟨b, i * 2, none⟩ (.int .i64 (k + (c : Int)))) S b t.length cp L i ⟨k + (c : Int), x.term⟩ [.int .i64 (k + (c : Int)), v1]) := ⟨Kd.At.store (e := (Kd.int 3)) A0.out kSOut_f_status rfl (k + (c : Int)) (.int .i64 (k + (c : Int))) (fun _ _ => ⟨rfl, trivial⟩)⟩
      have F1 : Sec (Foot S w (wr.setCell ⟨b, i * 2, none⟩ (.int .i64 (k + (c : Int))))) := ⟨F0.out.set (g := b) (.inl hSb) (i * 2) (.int .i64 (k + (c : Int)))⟩
      obtain ⟨S1, r1, hs1, bk1⟩ := Kd.At.sub A1.out kSOut_f_term (v := v1) rfl
      have SR1 := Sec.mk r1
      have SS1 := Sec.mk hs1
      have BK1 := Sec.mk bk1
      clear r1 hs1 bk1
      have T0 : Sec True := ⟨trivial⟩
      go_wp2_with (first | (clear T0; go_at_call 28; have T1 : Sec True := ⟨trivial⟩; refine (markSCell_c v1 x.term S1 (k + (c : Int) + 1) (by omega) (by omega) _ SR1.out).mono ?_; rintro e w1 ⟨rfl, hR', hF'⟩; have A2 : Sec (Kd.At kSOut w1 S b t.length cp L i ⟨k + (c : Int), (mCell.mks x.term (k + (c : Int) + 1))⟩ [.int .i64 (k + (c : Int)), v1]) := ⟨BK1.out w1 _ hR' hF'⟩; have F2 : Sec (Foot S w w1) := ⟨F1.out.trans hF' (fun k _ h => (SS1.out k h).1)⟩; clear hR' hF'; clear c0_0 f0_0 c0_1 f0_1; have c1_0 : w1.cell? ⟨b, i * 2, none⟩ = some (.int .i64 (k + (c : Int))) := Kd.At.cell A2.out 0 _ rfl; have c1_1 : w1.cell? ⟨b, i * 2 + 1, none⟩ = some (v1) := Kd.At.cell A2.out 1 _ rfl; have f1_0 : w1.frozen? ⟨b, i * 2, none⟩ = false := Kd.At.frozen A2.out (i * 2); have f1_1 : w1.frozen? ⟨b, i * 2 + 1, none⟩ = false := Kd.At.frozen A2.out (i * 2 + 1)))
      go_roundw
      case rel => exact ⟨i + 1, by omega, by go_num, by rw [HN1.out, hcx.out]; congr 1; omega, ⟨by rw [← hnext.out]; exact A2.out.R⟩, F2⟩
      case measure => simp [intOf]; omega
    · have hfin : Sec (mSOut.mks (t.take i) k ++ t.drop i = mSOut.mks t k) := ⟨by rw [List.take_of_length_le (by omega), List.drop_of_length_le (by omega), List.append_nil]⟩
      have hM2 := hM.out
      rw [hfin.out] at hM2
      have HM2 := Sec.mk hM2
      have hi2 : Sec (k + ↑(mSOut.cnts (t.take i)) = k + ↑(mSOut.cnts t)) := ⟨by rw [List.take_of_length_le (by omega)]⟩
      clear hM2 hM hfin
      go_wp2
      go_ret
      exact ⟨ri hi2.out, HM2.out, hF.out⟩
set_option maxHeartbeats 2000000 in
theorem heldSSOut_c (v : Value) (t : List SOut) (ok : Nat → Prop) (k : Int) (hk : 0 ≤ k) (hk2 : k + mSOut.cnts t ≤ 1000000000000000000) (w : World) (hV : kSOut.V w ok v (mSOut.mks t k)) :
    Calls Tryz.prog 89 #[v, .int .i64 k] w fun e w' => e = .returned (.int .i64 (k + mSOut.cnts t)) ∧ Below w.heap.size w w' := by
  obtain ⟨A, cp, rfl, g1, g2, g3, hC, _⟩ := hV
  rw [Mk.mks_len] at g1 g3
  rw [Mk.mks_len]
  have HC := Sec.mk hC
  have hu := Tryz.underlying74
  clear hC
  have HN := Sec.mk (mSOut.cnts_take t)
  have HM := Sec.mk (mSOut.cnts_le t)
  have HG := Sec.mk (mSOut.get t k)
  have HLn := Sec.mk (mSOut.mks_len t k)
  go_enter Tryz.func89, Tryz.ntmps89
  go_wp2
  go_loopw [1, 5] (fun kv iv wr => ∃ i : Nat, i ≤ t.length ∧ iv = .int .i64 i ∧ kv = .int .i64 (k + ↑(mSOut.cnts (t.take i))) ∧ Sec (Below w.heap.size w wr)) (fun _ iv _ => t.length - (intOf iv).toNat)
  case atStart => exact ⟨0, Nat.zero_le _, rfl, by simp [Mk.cnts], ⟨Below.refl _ _⟩⟩
  case round =>
    obtain ⟨i, hi, rfl, rfl, hb⟩ := hrel
    by_cases hlt : i < t.length
    · obtain ⟨b, off, cs, rfl, hob, hK, hc⟩ := Kd.C_get HC.out (List.getElem?_eq_getElem (by rw [HLn.out]; exact hlt))
      rw [HG.out i hlt] at hK
      have hn1 := HN.out i hlt
      have hn2 := HM.out (i + 1)
      rw [hn1] at hn2
      have HN1 := Sec.mk hn1
      clear hn1
      generalize t[i] = x at *
      generalize mSOut.cnts (t.take i) = c at *
      have hcx : Sec (mSOut.cnt x = _) := ⟨mSOut_cnt x⟩
      rw [mSOut_cnt x] at hn2
      obtain ⟨v1, rfl, h1⟩ := kSOut_K hK
      have hat : Sec (∀ W : World, Below w.heap.size w W → W.cell? ⟨b, off + i * 2, none⟩ = some (.int .i64 (k + (c : Int))) ∧ W.cell? ⟨b, off + i * 2 + 1, none⟩ = some (v1)) := ⟨fun W h => ⟨Raw.cell_below h (hc 0 _ rfl), Raw.cell_below h (hc 1 _ rfl)⟩⟩
      have i0 : (0 : Int) ≤ (i : Int) := by omega
      have i1 : (i : Int) < (t.length : Int) := by omega
      have H1 : Sec (kCell.V w ok v1 (mCell.mks x.term (k + (c : Int) + 1))) := ⟨h1⟩
      clear h1
      clear hc hK
      obtain ⟨c0, c1⟩ := hat.out _ hb.out
      have B0 := hb
      have T0 : Sec True := ⟨trivial⟩
      go_wp2_with (first | (clear T0; go_at_call 88; have T1 : Sec True := ⟨trivial⟩; refine (heldSCell_c v1 x.term ok (k + (c : Int) + 1) (by omega) (by omega) _ (Kd.V_below H1.out B0.out (by decide))).mono ?_; rintro e w1 ⟨rfl, hb1⟩; have B1 := Sec.mk (bel B0.out hb1); clear hb1 c0 c1; obtain ⟨c0, c1⟩ := hat.out _ B1.out))
      go_roundw
      case rel => exact ⟨i + 1, by omega, by go_num, by rw [HN1.out, hcx.out]; congr 1; omega, B1⟩
      case measure => simp [intOf]; omega
    · have hi2 : Sec (k + ↑(mSOut.cnts (t.take i)) = k + ↑(mSOut.cnts t)) := ⟨by rw [List.take_of_length_le (by omega)]⟩
      go_wp2
      go_ret
      exact ⟨ri hi2.out, hb.out⟩
def mSOutt : Mk SOut := ⟨fun x => mCell.cnts x.term, fun x k => ⟨x.status, mCell.mks x.term (k)⟩⟩
end
section
open Go.RowKit
set_option linter.unusedVariables false
set_option maxRecDepth 100000
def kSGoal : Kd SGoal := Kd.iso 102 (Kd.pair kGoal (Kd.int 3)) (fun x => (x.goal, x.cut))
theorem kSGoal_K {w : World} {ok : Nat → Prop} {x : SGoal} {cs : List Value} (h : kSGoal.K w ok x cs) : ∃ v1 v2 v3, cs = [.int .i64 x.goal.kind, v1, v2, v3, .int .i64 x.cut] ∧ kCell.V w ok v1 x.goal.a ∧ kCell.V w ok v2 x.goal.b ∧ kCell.V w ok v3 x.goal.c := by
  obtain ⟨_, _, rfl, g0, ⟨rfl, _⟩⟩ := h
  obtain ⟨v1, v2, v3, rfl, h1, h2, h3⟩ := kGoal_K g0
  exact ⟨v1, v2, v3, rfl, h1, h2, h3⟩
theorem SGoal.ext_iff (a b : SGoal) : a = b ↔ a.goal = b.goal ∧ a.cut = b.cut := by
  cases a; cases b; simp
instance : DecidableEq SGoal := fun a b => decidable_of_iff _ (SGoal.ext_iff a b).symm
def zeroSGoal : SGoal := ⟨⟨0, [], [], []⟩, 0⟩
theorem kSGoal_f_goal : Kd.Fld kSGoal kGoal 0 (fun x => x.goal) (fun x y => { x with goal := y }) := Kd.Fld.iso _ (Kd.Fld.fst (Kd.Fld.self _)) (fun _ _ => rfl)
theorem kSGoal_f_goal_kind : Kd.Fld kSGoal (Kd.int 3) 0 (fun x => x.goal.kind) (fun x y => { x with goal := { x.goal with kind := y } }) := Kd.Fld.comp kSGoal_f_goal kGoal_f_kind
theorem kSGoal_f_goal_a : Kd.Fld kSGoal (Kd.slice 23 kCell (by decide)) 1 (fun x => x.goal.a) (fun x y => { x with goal := { x.goal with a := y } }) := Kd.Fld.comp kSGoal_f_goal kGoal_f_a
theorem kSGoal_f_goal_b : Kd.Fld kSGoal (Kd.slice 23 kCell (by decide)) 2 (fun x => x.goal.b) (fun x y => { x with goal := { x.goal with b := y } }) := Kd.Fld.comp kSGoal_f_goal kGoal_f_b
theorem kSGoal_f_goal_c : Kd.Fld kSGoal (Kd.slice 23 kCell (by decide)) 3 (fun x => x.goal.c) (fun x y => { x with goal := { x.goal with c := y } }) := Kd.Fld.comp kSGoal_f_goal kGoal_f_c
theorem kSGoal_f_cut : Kd.Fld kSGoal (Kd.int 3) 4 (fun x => x.cut) (fun x y => { x with cut := y }) := Kd.Fld.iso _ (Kd.Fld.snd (Kd.Fld.self _)) (fun _ _ => rfl)
set_option maxHeartbeats 2000000 in
theorem eqSlvGoal_c (x y : SGoal) (cs ds : List Value) (ok ok' : Nat → Prop) (w : World) (hK : kSGoal.K w ok x cs) (hD : kSGoal.K w ok' y ds) :
    Calls Tryz.prog 278 #[.agg cs.toArray, .agg ds.toArray] w fun e w' => e = .returned (.bool (decide (x = y))) ∧ Below w.heap.size w w' := by
  obtain ⟨_, _, rfl, hg0, ⟨rfl, _⟩⟩ := hK
  have H0 := Sec.mk hg0
  obtain ⟨v1, v2, v3, rfl, -, -, -⟩ := kGoal_K hg0
  clear hg0
  obtain ⟨_, _, rfl, gg0, ⟨rfl, _⟩⟩ := hD
  have G0 := Sec.mk gg0
  obtain ⟨u1, u2, u3, rfl, -, -, -⟩ := kGoal_K gg0
  clear gg0
  have hu := Tryz.underlying102
  have hxy := Sec.mk (SGoal.ext_iff x y)
  have T0 : Sec True := ⟨trivial⟩
  by_cases h0 : x.goal = y.goal
  · have E0 := Sec.mk h0
    have d0 : decide (x.goal = y.goal) = true := decide_eq_true h0
    clear h0
    by_cases h1 : x.cut = y.cut
    · have E1 := Sec.mk h1
      have d1 : (x.cut == y.cut) = true := beq_iff_eq.2 h1
      clear h1
      have hd : Sec (decide (x = y) = true) := ⟨by rw [decide_eq_true_eq, hxy.out]; exact ⟨E0.out, E1.out⟩⟩
      go_enter Tryz.func278, Tryz.ntmps278
      go_wp2_with (first | (clear T0; go_at_call 242; have T1 : Sec True := ⟨trivial⟩; refine (eqPrgGoal_c x.goal y.goal _ _ ok ok' _ (Kd.K_below H0.out (belA (belA (Below.refl _ _) _) _)) (Kd.K_below G0.out (belA (belA (Below.refl _ _) _) _))).mono ?_; rintro e w1 ⟨rfl, hb1⟩; rw [d0]; have B1 := Sec.mk (bel (belA (belA (Below.refl _ _) _) _) hb1); have X := box_cells (b := w.heap.size) (cs := #[.int .i64 x.goal.kind, v1, v2, v3, .int .i64 x.cut]) (t := 102) hb1 (box2 _ _ _).1; have p1_0 := X.2.1 0 _ rfl; have p1_1 := X.2.1 1 _ rfl; have p1_2 := X.2.1 2 _ rfl; have p1_3 := X.2.1 3 _ rfl; have p1_4 := X.2.1 4 _ rfl; have P1 := Sec.mk X; clear X; have X := box_cells (b := w.heap.size + 1) (cs := #[.int .i64 y.goal.kind, u1, u2, u3, .int .i64 y.cut]) (t := 102) hb1 (box2 _ _ _).2; have q1_0 := X.2.1 0 _ rfl; have q1_1 := X.2.1 1 _ rfl; have q1_2 := X.2.1 2 _ rfl; have q1_3 := X.2.1 3 _ rfl; have q1_4 := X.2.1 4 _ rfl; have Q1 := Sec.mk X; clear X hb1))
      go_ret
      exact ⟨rb hd.out.symm, B1.out⟩
    · have hd : Sec (decide (x = y) = false) := ⟨by rw [decide_eq_false_iff_not, hxy.out]; exact fun h => h1 h.2⟩
      have d1 : (x.cut == y.cut) = false := beq_eq_false_iff_ne.2 h1
      clear h1
      go_enter Tryz.func278, Tryz.ntmps278
      go_wp2_with (first | (clear T0; go_at_call 242; have T1 : Sec True := ⟨trivial⟩; refine (eqPrgGoal_c x.goal y.goal _ _ ok ok' _ (Kd.K_below H0.out (belA (belA (Below.refl _ _) _) _)) (Kd.K_below G0.out (belA (belA (Below.refl _ _) _) _))).mono ?_; rintro e w1 ⟨rfl, hb1⟩; rw [d0]; have B1 := Sec.mk (bel (belA (belA (Below.refl _ _) _) _) hb1); have X := box_cells (b := w.heap.size) (cs := #[.int .i64 x.goal.kind, v1, v2, v3, .int .i64 x.cut]) (t := 102) hb1 (box2 _ _ _).1; have p1_0 := X.2.1 0 _ rfl; have p1_1 := X.2.1 1 _ rfl; have p1_2 := X.2.1 2 _ rfl; have p1_3 := X.2.1 3 _ rfl; have p1_4 := X.2.1 4 _ rfl; have P1 := Sec.mk X; clear X; have X := box_cells (b := w.heap.size + 1) (cs := #[.int .i64 y.goal.kind, u1, u2, u3, .int .i64 y.cut]) (t := 102) hb1 (box2 _ _ _).2; have q1_0 := X.2.1 0 _ rfl; have q1_1 := X.2.1 1 _ rfl; have q1_2 := X.2.1 2 _ rfl; have q1_3 := X.2.1 3 _ rfl; have q1_4 := X.2.1 4 _ rfl; have Q1 := Sec.mk X; clear X hb1))
      go_ret
      exact ⟨rb hd.out.symm, B1.out⟩
  · have hd : Sec (decide (x = y) = false) := ⟨by rw [decide_eq_false_iff_not, hxy.out]; exact fun h => h0 h.1⟩
    have d0 : decide (x.goal = y.goal) = false := decide_eq_false h0
    clear h0
    go_enter Tryz.func278, Tryz.ntmps278
    go_wp2_with (first | (clear T0; go_at_call 242; have T1 : Sec True := ⟨trivial⟩; refine (eqPrgGoal_c x.goal y.goal _ _ ok ok' _ (Kd.K_below H0.out (belA (belA (Below.refl _ _) _) _)) (Kd.K_below G0.out (belA (belA (Below.refl _ _) _) _))).mono ?_; rintro e w1 ⟨rfl, hb1⟩; rw [d0]; have B1 := Sec.mk (bel (belA (belA (Below.refl _ _) _) _) hb1); have X := box_cells (b := w.heap.size) (cs := #[.int .i64 x.goal.kind, v1, v2, v3, .int .i64 x.cut]) (t := 102) hb1 (box2 _ _ _).1; have p1_0 := X.2.1 0 _ rfl; have p1_1 := X.2.1 1 _ rfl; have p1_2 := X.2.1 2 _ rfl; have p1_3 := X.2.1 3 _ rfl; have p1_4 := X.2.1 4 _ rfl; have P1 := Sec.mk X; clear X; have X := box_cells (b := w.heap.size + 1) (cs := #[.int .i64 y.goal.kind, u1, u2, u3, .int .i64 y.cut]) (t := 102) hb1 (box2 _ _ _).2; have q1_0 := X.2.1 0 _ rfl; have q1_1 := X.2.1 1 _ rfl; have q1_2 := X.2.1 2 _ rfl; have q1_3 := X.2.1 3 _ rfl; have q1_4 := X.2.1 4 _ rfl; have Q1 := Sec.mk X; clear X hb1))
    go_ret
    exact ⟨rb hd.out.symm, B1.out⟩
set_option maxHeartbeats 2000000 in
theorem eqSSGoal_c (v u : Value) (t s : List SGoal) (ok ok' : Nat → Prop) (w : World) (hV : kSGoal.V w ok v t) (hU : kSGoal.V w ok' u s) :
    Calls Tryz.prog 271 #[v, u] w fun e w' => e = .returned (.bool (decide (t = s))) ∧ Below w.heap.size w w' := by
  obtain ⟨A, c, rfl, h1, h2, h3, hC, _⟩ := hV
  obtain ⟨B, d, rfl, k1, k2, k3, hD, _⟩ := hU
  have HC := Sec.mk hC
  have HD := Sec.mk hD
  clear hC hD
  have hu := Tryz.underlying102
  by_cases hl : t.length = s.length
  · rw [← hl]
    have HL := Sec.mk hl
    clear hl
    go_enter Tryz.func271, Tryz.ntmps271
    go_wp2
    go_loopw [5] (fun i wr => ∃ k : Nat, k ≤ t.length ∧ i = .int .i64 k ∧ Sec (t.take k = s.take k) ∧ Sec (Below w.heap.size w wr)) (fun i _ => t.length - (intOf i).toNat)
    case atStart => exact ⟨0, Nat.zero_le _, rfl, ⟨by simp⟩, ⟨Below.refl _ _⟩⟩
    case round =>
      obtain ⟨k, hk, rfl, hT, hb⟩ := hrel
      by_cases hlt : k < t.length
      · have hlt2 : k < s.length := by have := HL.out; omega
        obtain ⟨b, off, cs, rfl, hob, hK, hc⟩ := Kd.C_get HC.out (List.getElem?_eq_getElem hlt)
        obtain ⟨b2, off2, cs2, rfl, hob2, hK2, hc2⟩ := Kd.C_get HD.out (List.getElem?_eq_getElem hlt2)
        have hT1 : Sec (t[k] = s[k] → t.take (k + 1) = s.take (k + 1)) := ⟨fun e => by rw [List.take_succ_eq_append_getElem hlt, List.take_succ_eq_append_getElem hlt2, hT.out, e]⟩
        have hT2 : Sec (t = s → t[k] = s[k]) := ⟨fun e => by subst e; rfl⟩
        generalize t[k] = x at *
        generalize s[k] = y at *
        have HK := Sec.mk hK
        have HK2 := Sec.mk hK2
        obtain ⟨v1, v2, v3, rfl, -, -, -⟩ := kSGoal_K hK
        obtain ⟨u1, u2, u3, rfl, -, -, -⟩ := kSGoal_K hK2
        have hat : Sec (∀ W : World, Below w.heap.size w W → W.cell? ⟨b, off + k * 5, none⟩ = some (.int .i64 x.goal.kind) ∧ W.cell? ⟨b, off + k * 5 + 1, none⟩ = some (v1) ∧ W.cell? ⟨b, off + k * 5 + 2, none⟩ = some (v2) ∧ W.cell? ⟨b, off + k * 5 + 3, none⟩ = some (v3) ∧ W.cell? ⟨b, off + k * 5 + 4, none⟩ = some (.int .i64 x.cut) ∧ W.cell? ⟨b2, off2 + k * 5, none⟩ = some (.int .i64 y.goal.kind) ∧ W.cell? ⟨b2, off2 + k * 5 + 1, none⟩ = some (u1) ∧ W.cell? ⟨b2, off2 + k * 5 + 2, none⟩ = some (u2) ∧ W.cell? ⟨b2, off2 + k * 5 + 3, none⟩ = some (u3) ∧ W.cell? ⟨b2, off2 + k * 5 + 4, none⟩ = some (.int .i64 y.cut)) := ⟨fun W h => ⟨Raw.cell_below h (hc 0 _ rfl), Raw.cell_below h (hc 1 _ rfl), Raw.cell_below h (hc 2 _ rfl), Raw.cell_below h (hc 3 _ rfl), Raw.cell_below h (hc 4 _ rfl), Raw.cell_below h (hc2 0 _ rfl), Raw.cell_below h (hc2 1 _ rfl), Raw.cell_below h (hc2 2 _ rfl), Raw.cell_below h (hc2 3 _ rfl), Raw.cell_below h (hc2 4 _ rfl)⟩⟩
        clear hc hc2 hK hK2
        obtain ⟨x0, x1, x2, x3, x4, y0, y1, y2, y3, y4⟩ := hat.out _ hb.out
        have i0 : (0 : Int) ≤ (k : Int) := by omega
        have i1 : (k : Int) < (t.length : Int) := by omega
        obtain ⟨bb, hbb⟩ : ∃ bb, decide (x = y) = bb := ⟨_, rfl⟩
        have Hc : Sec (∀ W, Below w.heap.size w W → Calls Tryz.prog 278 #[.agg #[.int .i64 x.goal.kind, v1, v2, v3, .int .i64 x.cut], .agg #[.int .i64 y.goal.kind, u1, u2, u3, .int .i64 y.cut]] W fun e w' => e = .returned (.bool bb) ∧ Below W.heap.size W w') := ⟨fun W hB => by rw [← hbb]; exact eqSlvGoal_c x y _ _ ok ok' W (Kd.K_below HK.out hB) (Kd.K_below HK2.out hB)⟩
        have HBB := Sec.mk hbb
        clear hbb
        go_wp2
        go_region_held3 (fun W => W.cell? ⟨b, off + k * 5, none⟩ = some (.int .i64 x.goal.kind) ∧ W.cell? ⟨b, off + k * 5 + 1, none⟩ = some (v1) ∧ W.cell? ⟨b, off + k * 5 + 2, none⟩ = some (v2) ∧ W.cell? ⟨b, off + k * 5 + 3, none⟩ = some (v3) ∧ W.cell? ⟨b, off + k * 5 + 4, none⟩ = some (.int .i64 x.cut) ∧ W.cell? ⟨b2, off2 + k * 5, none⟩ = some (.int .i64 y.goal.kind) ∧ W.cell? ⟨b2, off2 + k * 5 + 1, none⟩ = some (u1) ∧ W.cell? ⟨b2, off2 + k * 5 + 2, none⟩ = some (u2) ∧ W.cell? ⟨b2, off2 + k * 5 + 3, none⟩ = some (u3) ∧ W.cell? ⟨b2, off2 + k * 5 + 4, none⟩ = some (.int .i64 y.cut))
          (first | (refine ⟨?_, ?_, ?_, ?_, ?_, ?_, ?_, ?_, ?_, ?_⟩ <;> assumption) | go_keep)
          (first | (go_at_call 278; refine (Hc.out _ (belD hb.out)).mono ?_; rintro e w1 ⟨rfl, hb1⟩; have B1 := Sec.mk (bel (belD hb.out) hb1); clear x0 x1 x2 x3 x4 y0 y1 y2 y3 y4; obtain ⟨x0, x1, x2, x3, x4, y0, y1, y2, y3, y4⟩ := hat.out _ B1.out; clear hb1))
        all_goals
          cases bb with
          | true =>
            have HE : Sec (t.take (k + 1) = s.take (k + 1)) := ⟨hT1.out (of_decide_eq_true HBB.out)⟩
            go_wp2
            go_roundw
            case rel => exact ⟨k + 1, by omega, by go_num, HE, B1⟩
            case measure => simp [intOf]; omega
          | false =>
            have HE : Sec (decide (t = s) = false) := ⟨decide_eq_false (fun e => of_decide_eq_false HBB.out (hT2.out e))⟩
            go_wp2
            go_ret
            exact ⟨rb HE.out.symm, B1.out⟩
      · have HE : Sec (decide (t = s) = true) := ⟨decide_eq_true (by have := hT.out; have h2 := HL.out; rwa [List.take_of_length_le (by omega), List.take_of_length_le (by omega)] at this)⟩
        go_wp2
        go_ret
        exact ⟨rb HE.out.symm, hb.out⟩
  · have hl' : ((t.length : Int) == (s.length : Int)) = false := beq_eq_false_iff_ne.2 (by omega)
    have HE : Sec (decide (t = s) = false) := ⟨decide_eq_false (fun e => hl (by rw [e]))⟩
    go_enter Tryz.func271, Tryz.ntmps271
    go_wp2
    go_ret
    exact ⟨rb HE.out.symm, Below.refl _ _⟩
def mSGoal : Mk SGoal := ⟨fun x => 1 + mCell.cnts x.goal.a + mCell.cnts x.goal.b + mCell.cnts x.goal.c + 1, fun x k => ⟨⟨k, mCell.mks x.goal.a (k + 1), mCell.mks x.goal.b (k + 1 + ((mCell.cnts x.goal.a : Nat) : Int)), mCell.mks x.goal.c (k + 1 + ((mCell.cnts x.goal.a : Nat) : Int) + ((mCell.cnts x.goal.b : Nat) : Int))⟩, k + 1 + ((mCell.cnts x.goal.a : Nat) : Int) + ((mCell.cnts x.goal.b : Nat) : Int) + ((mCell.cnts x.goal.c : Nat) : Int)⟩⟩
theorem mSGoal_cnt (x : SGoal) : mSGoal.cnt x = 1 + mCell.cnts x.goal.a + mCell.cnts x.goal.b + mCell.cnts x.goal.c + 1 := rfl
set_option maxHeartbeats 2000000 in
theorem markSSGoal_c (v : Value) (t : List SGoal) (S : Nat → Prop) (k : Int) (hk : 0 ≤ k) (hk2 : k + mSGoal.cnts t ≤ 1000000000000000000) (w : World) (hR : kSGoal.R w S v t) :
    Calls Tryz.prog 209 #[v, .int .i64 k] w fun e w' => e = .returned (.int .i64 (k + mSGoal.cnts t)) ∧ kSGoal.R w' S v (mSGoal.mks t k) ∧ Foot S w w' := by
  obtain ⟨A, cp, hv, g1, g2⟩ := Kd.R_form hR
  subst hv
  have h3 : t.length ≤ 1073741824 := hR.1
  have HR := Sec.mk hR
  have hu := Tryz.underlying102
  have hu_PrgGoal := Tryz.underlying100
  clear hR
  have HN := Sec.mk (mSGoal.cnts_take t)
  have HM := Sec.mk (mSGoal.cnts_le t)
  have HX := Sec.mk (mSGoal.next t k)
  go_enter Tryz.func209, Tryz.ntmps209
  go_wp2
  go_loopw [1, 5] (fun kv iv wr => ∃ i : Nat, i ≤ t.length ∧ iv = .int .i64 i ∧ kv = .int .i64 (k + ↑(mSGoal.cnts (t.take i))) ∧ Sec (kSGoal.R wr S (.slice A t.length cp) (mSGoal.mks (t.take i) k ++ t.drop i)) ∧ Sec (Foot S w wr)) (fun _ iv _ => t.length - (intOf iv).toNat)
  case atStart => exact ⟨0, Nat.zero_le _, rfl, by simp [Mk.cnts], ⟨by simpa [Mk.mks] using HR.out⟩, ⟨Foot.refl _ _⟩⟩
  case round =>
    obtain ⟨i, hi, rfl, rfl, hM, hF⟩ := hrel
    by_cases hlt : i < t.length
    · have hL : (mSGoal.mks (t.take i) k ++ t.drop i).length = t.length := mSGoal.len_ t k i
      have hil : i < (mSGoal.mks (t.take i) k ++ t.drop i).length := by omega
      obtain ⟨b, rfl, -, hSb, hbb, -⟩ := Kd.R_block hM.out (by omega)
      obtain ⟨cs, hA, -⟩ := Kd.At.of_R hM.out hil
      rw [mSGoal.at_ t k i hlt] at hA
      have hnext := Sec.mk (HX.out i hlt)
      have hn1 := HN.out i hlt
      have hn2 := HM.out (i + 1)
      rw [hn1] at hn2
      have HN1 := Sec.mk hn1
      have F0 := hF
      clear hM hn1 hL
      generalize mSGoal.mks (t.take i) k ++ t.drop i = L at *
      generalize t[i] = x at *
      generalize mSGoal.cnts (t.take i) = c at *
      have hcx : Sec (mSGoal.cnt x = _) := ⟨mSGoal_cnt x⟩
      rw [mSGoal_cnt x] at hn2
      have hAt := hA
      obtain ⟨v1, v2, v3, rfl, -, -, -⟩ := kSGoal_K hA.K
      have A0 := Sec.mk hA
      clear hA hAt
      have c0_0 : wr.cell? ⟨b, i * 5, none⟩ = some (.int .i64 x.goal.kind) := Kd.At.cell A0.out 0 _ rfl
      have c0_1 : wr.cell? ⟨b, i * 5 + 1, none⟩ = some (v1) := Kd.At.cell A0.out 1 _ rfl
      have c0_2 : wr.cell? ⟨b, i * 5 + 2, none⟩ = some (v2) := Kd.At.cell A0.out 2 _ rfl
      have c0_3 : wr.cell? ⟨b, i * 5 + 3, none⟩ = some (v3) := Kd.At.cell A0.out 3 _ rfl
      have c0_4 : wr.cell? ⟨b, i * 5 + 4, none⟩ = some (.int .i64 x.cut) := Kd.At.cell A0.out 4 _ rfl
      have f0_0 : wr.frozen? ⟨b, i * 5, none⟩ = false := Kd.At.frozen A0.out (i * 5)
      have f0_1 : wr.frozen? ⟨b, i * 5 + 1, none⟩ = false := Kd.At.frozen A0.out (i * 5 + 1)
      have f0_2 : wr.frozen? ⟨b, i * 5 + 2, none⟩ = false := Kd.At.frozen A0.out (i * 5 + 2)
      have f0_3 : wr.frozen? ⟨b, i * 5 + 3, none⟩ = false := Kd.At.frozen A0.out (i * 5 + 3)
      have f0_4 : wr.frozen? ⟨b, i * 5 + 4, none⟩ = false := Kd.At.frozen A0.out (i * 5 + 4)
      have A1 : Sec (Kd.At kSGoal (wr.setCell ⟨b, i * 5, none⟩ (.int .i64 (k + (c : Int)))) S b t.length cp L i ⟨⟨k + (c : Int), x.goal.a, x.goal.b, x.goal.c⟩, x.cut⟩ [.int .i64 (k + (c : Int)), v1, v2, v3, .int .i64 x.cut]) := ⟨Kd.At.store (e := (Kd.int 3)) A0.out kSGoal_f_goal_kind rfl (k + (c : Int)) (.int .i64 (k + (c : Int))) (fun _ _ => ⟨rfl, trivial⟩)⟩
      have F1 : Sec (Foot S w (wr.setCell ⟨b, i * 5, none⟩ (.int .i64 (k + (c : Int))))) := ⟨F0.out.set (g := b) (.inl hSb) (i * 5) (.int .i64 (k + (c : Int)))⟩
      obtain ⟨S1, r1, hs1, bk1⟩ := Kd.At.sub A1.out kSGoal_f_goal_a (v := v1) rfl
      have SR1 := Sec.mk r1
      have SS1 := Sec.mk hs1
      have BK1 := Sec.mk bk1
      clear r1 hs1 bk1
      have T0 : Sec True := ⟨trivial⟩
      go_wp2_with (first | (clear T2; go_at_call 28; have T3 : Sec True := ⟨trivial⟩; refine (markSCell_c v3 x.goal.c S3 (k + (c : Int) + 1 + ((mCell.cnts x.goal.a : Nat) : Int) + ((mCell.cnts x.goal.b : Nat) : Int)) (by omega) (by omega) _ SR3.out).mono ?_; rintro e w3 ⟨rfl, hR', hF'⟩; have A4 : Sec (Kd.At kSGoal w3 S b t.length cp L i ⟨⟨k + (c : Int), (mCell.mks x.goal.a (k + (c : Int) + 1)), (mCell.mks x.goal.b (k + (c : Int) + 1 + ((mCell.cnts x.goal.a : Nat) : Int))), (mCell.mks x.goal.c (k + (c : Int) + 1 + ((mCell.cnts x.goal.a : Nat) : Int) + ((mCell.cnts x.goal.b : Nat) : Int)))⟩, x.cut⟩ [.int .i64 (k + (c : Int)), v1, v2, v3, .int .i64 x.cut]) := ⟨BK3.out w3 _ hR' hF'⟩; have F4 : Sec (Foot S w w3) := ⟨F3.out.trans hF' (fun k _ h => (SS3.out k h).1)⟩; clear hR' hF'; clear c2_0 f2_0 c2_1 f2_1 c2_2 f2_2 c2_3 f2_3 c2_4 f2_4; have c3_0 : w3.cell? ⟨b, i * 5, none⟩ = some (.int .i64 (k + (c : Int))) := Kd.At.cell A4.out 0 _ rfl; have c3_1 : w3.cell? ⟨b, i * 5 + 1, none⟩ = some (v1) := Kd.At.cell A4.out 1 _ rfl; have c3_2 : w3.cell? ⟨b, i * 5 + 2, none⟩ = some (v2) := Kd.At.cell A4.out 2 _ rfl; have c3_3 : w3.cell? ⟨b, i * 5 + 3, none⟩ = some (v3) := Kd.At.cell A4.out 3 _ rfl; have c3_4 : w3.cell? ⟨b, i * 5 + 4, none⟩ = some (.int .i64 x.cut) := Kd.At.cell A4.out 4 _ rfl; have f3_0 : w3.frozen? ⟨b, i * 5, none⟩ = false := Kd.At.frozen A4.out (i * 5); have f3_1 : w3.frozen? ⟨b, i * 5 + 1, none⟩ = false := Kd.At.frozen A4.out (i * 5 + 1); have f3_2 : w3.frozen? ⟨b, i * 5 + 2, none⟩ = false := Kd.At.frozen A4.out (i * 5 + 2); have f3_3 : w3.frozen? ⟨b, i * 5 + 3, none⟩ = false := Kd.At.frozen A4.out (i * 5 + 3); have f3_4 : w3.frozen? ⟨b, i * 5 + 4, none⟩ = false := Kd.At.frozen A4.out (i * 5 + 4); have A5 : Sec (Kd.At kSGoal (w3.setCell ⟨b, i * 5 + 4, none⟩ (.int .i64 (k + (c : Int) + 1 + ((mCell.cnts x.goal.a : Nat) : Int) + ((mCell.cnts x.goal.b : Nat) : Int) + ((mCell.cnts x.goal.c : Nat) : Int)))) S b t.length cp L i ⟨⟨k + (c : Int), (mCell.mks x.goal.a (k + (c : Int) + 1)), (mCell.mks x.goal.b (k + (c : Int) + 1 + ((mCell.cnts x.goal.a : Nat) : Int))), (mCell.mks x.goal.c (k + (c : Int) + 1 + ((mCell.cnts x.goal.a : Nat) : Int) + ((mCell.cnts x.goal.b : Nat) : Int)))⟩, k + (c : Int) + 1 + ((mCell.cnts x.goal.a : Nat) : Int) + ((mCell.cnts x.goal.b : Nat) : Int) + ((mCell.cnts x.goal.c : Nat) : Int)⟩ [.int .i64 (k + (c : Int)), v1, v2, v3, .int .i64 (k + (c : Int) + 1 + ((mCell.cnts x.goal.a : Nat) : Int) + ((mCell.cnts x.goal.b : Nat) : Int) + ((mCell.cnts x.goal.c : Nat) : Int))]) := ⟨Kd.At.store (e := (Kd.int 3)) A4.out kSGoal_f_cut rfl (k + (c : Int) + 1 + ((mCell.cnts x.goal.a : Nat) : Int) + ((mCell.cnts x.goal.b : Nat) : Int) + ((mCell.cnts x.goal.c : Nat) : Int)) (.int .i64 (k + (c : Int) + 1 + ((mCell.cnts x.goal.a : Nat) : Int) + ((mCell.cnts x.goal.b : Nat) : Int) + ((mCell.cnts x.goal.c : Nat) : Int))) (fun _ _ => ⟨rfl, trivial⟩)⟩; have F5 : Sec (Foot S w (w3.setCell ⟨b, i * 5 + 4, none⟩ (.int .i64 (k + (c : Int) + 1 + ((mCell.cnts x.goal.a : Nat) : Int) + ((mCell.cnts x.goal.b : Nat) : Int) + ((mCell.cnts x.goal.c : Nat) : Int))))) := ⟨F4.out.set (g := b) (.inl hSb) (i * 5 + 4) (.int .i64 (k + (c : Int) + 1 + ((mCell.cnts x.goal.a : Nat) : Int) + ((mCell.cnts x.goal.b : Nat) : Int) + ((mCell.cnts x.goal.c : Nat) : Int)))⟩) | (clear T1; go_at_call 28; have T2 : Sec True := ⟨trivial⟩; refine (markSCell_c v2 x.goal.b S2 (k + (c : Int) + 1 + ((mCell.cnts x.goal.a : Nat) : Int)) (by omega) (by omega) _ SR2.out).mono ?_; rintro e w2 ⟨rfl, hR', hF'⟩; have A3 : Sec (Kd.At kSGoal w2 S b t.length cp L i ⟨⟨k + (c : Int), (mCell.mks x.goal.a (k + (c : Int) + 1)), (mCell.mks x.goal.b (k + (c : Int) + 1 + ((mCell.cnts x.goal.a : Nat) : Int))), x.goal.c⟩, x.cut⟩ [.int .i64 (k + (c : Int)), v1, v2, v3, .int .i64 x.cut]) := ⟨BK2.out w2 _ hR' hF'⟩; have F3 : Sec (Foot S w w2) := ⟨F2.out.trans hF' (fun k _ h => (SS2.out k h).1)⟩; clear hR' hF'; clear c1_0 f1_0 c1_1 f1_1 c1_2 f1_2 c1_3 f1_3 c1_4 f1_4; have c2_0 : w2.cell? ⟨b, i * 5, none⟩ = some (.int .i64 (k + (c : Int))) := Kd.At.cell A3.out 0 _ rfl; have c2_1 : w2.cell? ⟨b, i * 5 + 1, none⟩ = some (v1) := Kd.At.cell A3.out 1 _ rfl; have c2_2 : w2.cell? ⟨b, i * 5 + 2, none⟩ = some (v2) := Kd.At.cell A3.out 2 _ rfl; have c2_3 : w2.cell? ⟨b, i * 5 + 3, none⟩ = some (v3) := Kd.At.cell A3.out 3 _ rfl; have c2_4 : w2.cell? ⟨b, i * 5 + 4, none⟩ = some (.int .i64 x.cut) := Kd.At.cell A3.out 4 _ rfl; have f2_0 : w2.frozen? ⟨b, i * 5, none⟩ = false := Kd.At.frozen A3.out (i * 5); have f2_1 : w2.frozen? ⟨b, i * 5 + 1, none⟩ = false := Kd.At.frozen A3.out (i * 5 + 1); have f2_2 : w2.frozen? ⟨b, i * 5 + 2, none⟩ = false := Kd.At.frozen A3.out (i * 5 + 2); have f2_3 : w2.frozen? ⟨b, i * 5 + 3, none⟩ = false := Kd.At.frozen A3.out (i * 5 + 3); have f2_4 : w2.frozen? ⟨b, i * 5 + 4, none⟩ = false := Kd.At.frozen A3.out (i * 5 + 4); obtain ⟨S3, r3, hs3, bk3⟩ := Kd.At.sub A3.out kSGoal_f_goal_c (v := v3) rfl; have SR3 := Sec.mk r3; have SS3 := Sec.mk hs3; have BK3 := Sec.mk bk3; clear r3 hs3 bk3) | (clear T0; go_at_call 28; have T1 : Sec True := ⟨trivial⟩; refine (markSCell_c v1 x.goal.a S1 (k + (c : Int) + 1) (by omega) (by omega) _ SR1.out).mono ?_; rintro e w1 ⟨rfl, hR', hF'⟩; have A2 : Sec (Kd.At kSGoal w1 S b t.length cp L i ⟨⟨k + (c : Int), (mCell.mks x.goal.a (k + (c : Int) + 1)), x.goal.b, x.goal.c⟩, x.cut⟩ [.int .i64 (k + (c : Int)), v1, v2, v3, .int .i64 x.cut]) := ⟨BK1.out w1 _ hR' hF'⟩; have F2 : Sec (Foot S w w1) := ⟨F1.out.trans hF' (fun k _ h => (SS1.out k h).1)⟩; clear hR' hF'; clear c0_0 f0_0 c0_1 f0_1 c0_2 f0_2 c0_3 f0_3 c0_4 f0_4; have c1_0 : w1.cell? ⟨b, i * 5, none⟩ = some (.int .i64 (k + (c : Int))) := Kd.At.cell A2.out 0 _ rfl; have c1_1 : w1.cell? ⟨b, i * 5 + 1, none⟩ = some (v1) := Kd.At.cell A2.out 1 _ rfl; have c1_2 : w1.cell? ⟨b, i * 5 + 2, none⟩ = some (v2) := Kd.At.cell A2.out 2 _ rfl; have c1_3 : w1.cell? ⟨b, i * 5 + 3, none⟩ = some (v3) := Kd.At.cell A2.out 3 _ rfl; have c1_4 : w1.cell? ⟨b, i * 5 + 4, none⟩ = some (.int .i64 x.cut) := Kd.At.cell A2.out 4 _ rfl; have f1_0 : w1.frozen? ⟨b, i * 5, none⟩ = false := Kd.At.frozen A2.out (i * 5); have f1_1 : w1.frozen? ⟨b, i * 5 + 1, none⟩ = false := Kd.At.frozen A2.out (i * 5 + 1); have f1_2 : w1.frozen? ⟨b, i * 5 + 2, none⟩ = false := Kd.At.frozen A2.out (i * 5 + 2); have f1_3 : w1.frozen? ⟨b, i * 5 + 3, none⟩ = false := Kd.At.frozen A2.out (i * 5 + 3); have f1_4 : w1.frozen? ⟨b, i * 5 + 4, none⟩ = false := Kd.At.frozen A2.out (i * 5 + 4); obtain ⟨S2, r2, hs2, bk2⟩ := Kd.At.sub A2.out kSGoal_f_goal_b (v := v2) rfl; have SR2 := Sec.mk r2; have SS2 := Sec.mk hs2; have BK2 := Sec.mk bk2; clear r2 hs2 bk2))
      go_roundw
      case rel => exact ⟨i + 1, by omega, by go_num, by rw [HN1.out, hcx.out]; congr 1; omega, ⟨by rw [← hnext.out]; exact A5.out.R⟩, F5⟩
      case measure => simp [intOf]; omega
    · have hfin : Sec (mSGoal.mks (t.take i) k ++ t.drop i = mSGoal.mks t k) := ⟨by rw [List.take_of_length_le (by omega), List.drop_of_length_le (by omega), List.append_nil]⟩
      have hM2 := hM.out
      rw [hfin.out] at hM2
      have HM2 := Sec.mk hM2
      have hi2 : Sec (k + ↑(mSGoal.cnts (t.take i)) = k + ↑(mSGoal.cnts t)) := ⟨by rw [List.take_of_length_le (by omega)]⟩
      clear hM2 hM hfin
      go_wp2
      go_ret
      exact ⟨ri hi2.out, HM2.out, hF.out⟩
set_option maxHeartbeats 2000000 in
theorem heldSSGoal_c (v : Value) (t : List SGoal) (ok : Nat → Prop) (k : Int) (hk : 0 ≤ k) (hk2 : k + mSGoal.cnts t ≤ 1000000000000000000) (w : World) (hV : kSGoal.V w ok v (mSGoal.mks t k)) :
    Calls Tryz.prog 213 #[v, .int .i64 k] w fun e w' => e = .returned (.int .i64 (k + mSGoal.cnts t)) ∧ Below w.heap.size w w' := by
  obtain ⟨A, cp, rfl, g1, g2, g3, hC, _⟩ := hV
  rw [Mk.mks_len] at g1 g3
  rw [Mk.mks_len]
  have HC := Sec.mk hC
  have hu := Tryz.underlying102
  have hu_PrgGoal := Tryz.underlying100
  clear hC
  have HN := Sec.mk (mSGoal.cnts_take t)
  have HM := Sec.mk (mSGoal.cnts_le t)
  have HG := Sec.mk (mSGoal.get t k)
  have HLn := Sec.mk (mSGoal.mks_len t k)
  go_enter Tryz.func213, Tryz.ntmps213
  go_wp2
  go_loopw [1, 5] (fun kv iv wr => ∃ i : Nat, i ≤ t.length ∧ iv = .int .i64 i ∧ kv = .int .i64 (k + ↑(mSGoal.cnts (t.take i))) ∧ Sec (Below w.heap.size w wr)) (fun _ iv _ => t.length - (intOf iv).toNat)
  case atStart => exact ⟨0, Nat.zero_le _, rfl, by simp [Mk.cnts], ⟨Below.refl _ _⟩⟩
  case round =>
    obtain ⟨i, hi, rfl, rfl, hb⟩ := hrel
    by_cases hlt : i < t.length
    · obtain ⟨b, off, cs, rfl, hob, hK, hc⟩ := Kd.C_get HC.out (List.getElem?_eq_getElem (by rw [HLn.out]; exact hlt))
      rw [HG.out i hlt] at hK
      have hn1 := HN.out i hlt
      have hn2 := HM.out (i + 1)
      rw [hn1] at hn2
      have HN1 := Sec.mk hn1
      clear hn1
      generalize t[i] = x at *
      generalize mSGoal.cnts (t.take i) = c at *
      have hcx : Sec (mSGoal.cnt x = _) := ⟨mSGoal_cnt x⟩
      rw [mSGoal_cnt x] at hn2
      obtain ⟨v1, v2, v3, rfl, h1, h2, h3⟩ := kSGoal_K hK
      have hat : Sec (∀ W : World, Below w.heap.size w W → W.cell? ⟨b, off + i * 5, none⟩ = some (.int .i64 (k + (c : Int))) ∧ W.cell? ⟨b, off + i * 5 + 1, none⟩ = some (v1) ∧ W.cell? ⟨b, off + i * 5 + 2, none⟩ = some (v2) ∧ W.cell? ⟨b, off + i * 5 + 3, none⟩ = some (v3) ∧ W.cell? ⟨b, off + i * 5 + 4, none⟩ = some (.int .i64 (k + (c : Int) + 1 + ((mCell.cnts x.goal.a : Nat) : Int) + ((mCell.cnts x.goal.b : Nat) : Int) + ((mCell.cnts x.goal.c : Nat) : Int)))) := ⟨fun W h => ⟨Raw.cell_below h (hc 0 _ rfl), Raw.cell_below h (hc 1 _ rfl), Raw.cell_below h (hc 2 _ rfl), Raw.cell_below h (hc 3 _ rfl), Raw.cell_below h (hc 4 _ rfl)⟩⟩
      have i0 : (0 : Int) ≤ (i : Int) := by omega
      have i1 : (i : Int) < (t.length : Int) := by omega
      have H1 : Sec (kCell.V w ok v1 (mCell.mks x.goal.a (k + (c : Int) + 1))) := ⟨h1⟩
      clear h1
      have H2 : Sec (kCell.V w ok v2 (mCell.mks x.goal.b (k + (c : Int) + 1 + ((mCell.cnts x.goal.a : Nat) : Int)))) := ⟨h2⟩
      clear h2
      have H3 : Sec (kCell.V w ok v3 (mCell.mks x.goal.c (k + (c : Int) + 1 + ((mCell.cnts x.goal.a : Nat) : Int) + ((mCell.cnts x.goal.b : Nat) : Int)))) := ⟨h3⟩
      clear h3
      clear hc hK
      obtain ⟨c0, c1, c2, c3, c4⟩ := hat.out _ hb.out
      have B0 := hb
      have T0 : Sec True := ⟨trivial⟩
      go_wp2_with (first | (clear T2; go_at_call 88; have T3 : Sec True := ⟨trivial⟩; refine (heldSCell_c v3 x.goal.c ok (k + (c : Int) + 1 + ((mCell.cnts x.goal.a : Nat) : Int) + ((mCell.cnts x.goal.b : Nat) : Int)) (by omega) (by omega) _ (Kd.V_below H3.out B2.out (by decide))).mono ?_; rintro e w3 ⟨rfl, hb1⟩; have B3 := Sec.mk (bel B2.out hb1); clear hb1 c0 c1 c2 c3 c4; obtain ⟨c0, c1, c2, c3, c4⟩ := hat.out _ B3.out) | (clear T1; go_at_call 88; have T2 : Sec True := ⟨trivial⟩; refine (heldSCell_c v2 x.goal.b ok (k + (c : Int) + 1 + ((mCell.cnts x.goal.a : Nat) : Int)) (by omega) (by omega) _ (Kd.V_below H2.out B1.out (by decide))).mono ?_; rintro e w2 ⟨rfl, hb1⟩; have B2 := Sec.mk (bel B1.out hb1); clear hb1 c0 c1 c2 c3 c4; obtain ⟨c0, c1, c2, c3, c4⟩ := hat.out _ B2.out) | (clear T0; go_at_call 88; have T1 : Sec True := ⟨trivial⟩; refine (heldSCell_c v1 x.goal.a ok (k + (c : Int) + 1) (by omega) (by omega) _ (Kd.V_below H1.out B0.out (by decide))).mono ?_; rintro e w1 ⟨rfl, hb1⟩; have B1 := Sec.mk (bel B0.out hb1); clear hb1 c0 c1 c2 c3 c4; obtain ⟨c0, c1, c2, c3, c4⟩ := hat.out _ B1.out))
      go_roundw
      case rel => exact ⟨i + 1, by omega, by go_num, by rw [HN1.out, hcx.out]; congr 1; omega, B3⟩
      case measure => simp [intOf]; omega
    · have hi2 : Sec (k + ↑(mSGoal.cnts (t.take i)) = k + ↑(mSGoal.cnts t)) := ⟨by rw [List.take_of_length_le (by omega)]⟩
      go_wp2
      go_ret
      exact ⟨ri hi2.out, hb.out⟩
def mSGoalt : Mk SGoal := ⟨fun x => mGoalt.cnt x.goal, fun x k => ⟨mGoalt.one x.goal (k), x.cut⟩⟩
end
section
open Go.RowKit
set_option linter.unusedVariables false
set_option maxRecDepth 100000
def kBind : Kd Bind := Kd.iso 180 (Kd.pair (Kd.int 3) (Kd.slice 23 kCell (by decide))) (fun x => (x.v, x.term))
theorem kBind_K {w : World} {ok : Nat → Prop} {x : Bind} {cs : List Value} (h : kBind.K w ok x cs) : ∃ v1, cs = [.int .i64 x.v, v1] ∧ kCell.V w ok v1 x.term := by
  obtain ⟨_, _, rfl, ⟨rfl, _⟩, ⟨v1, rfl, h1⟩⟩ := h
  exact ⟨v1, rfl, h1⟩
theorem Bind.ext_iff (a b : Bind) : a = b ↔ a.v = b.v ∧ a.term = b.term := by
  cases a; cases b; simp
instance : DecidableEq Bind := fun a b => decidable_of_iff _ (Bind.ext_iff a b).symm
def zeroBind : Bind := ⟨0, []⟩
theorem kBind_f_v : Kd.Fld kBind (Kd.int 3) 0 (fun x => x.v) (fun x y => { x with v := y }) := Kd.Fld.iso _ (Kd.Fld.fst (Kd.Fld.self _)) (fun _ _ => rfl)
theorem kBind_f_term : Kd.Fld kBind (Kd.slice 23 kCell (by decide)) 1 (fun x => x.term) (fun x y => { x with term := y }) := Kd.Fld.iso _ (Kd.Fld.snd (Kd.Fld.self _)) (fun _ _ => rfl)
set_option maxHeartbeats 2000000 in
theorem eqSubBind_c (x y : Bind) (cs ds : List Value) (ok ok' : Nat → Prop) (w : World) (hK : kBind.K w ok x cs) (hD : kBind.K w ok' y ds) :
    Calls Tryz.prog 279 #[.agg cs.toArray, .agg ds.toArray] w fun e w' => e = .returned (.bool (decide (x = y))) ∧ Below w.heap.size w w' := by
  obtain ⟨_, _, rfl, ⟨rfl, _⟩, ⟨v1, rfl, h1⟩⟩ := hK
  have H1 := Sec.mk h1
  clear h1
  obtain ⟨_, _, rfl, ⟨rfl, _⟩, ⟨u1, rfl, g1⟩⟩ := hD
  have G1 := Sec.mk g1
  clear g1
  have hu := Tryz.underlying180
  have hxy := Sec.mk (Bind.ext_iff x y)
  have T0 : Sec True := ⟨trivial⟩
  by_cases h0 : x.v = y.v
  · have E0 := Sec.mk h0
    have d0 : (x.v == y.v) = true := beq_iff_eq.2 h0
    clear h0
    by_cases h1 : x.term = y.term
    · have E1 := Sec.mk h1
      have d1 : decide (x.term = y.term) = true := decide_eq_true h1
      clear h1
      have hd : Sec (decide (x = y) = true) := ⟨by rw [decide_eq_true_eq, hxy.out]; exact ⟨E0.out, E1.out⟩⟩
      go_enter Tryz.func279, Tryz.ntmps279
      go_wp2_with (first | (clear T0; go_at_call 26; have T1 : Sec True := ⟨trivial⟩; refine (eqSCell_c v1 u1 x.term y.term ok ok' _ (Kd.V_below H1.out (belA (belA (Below.refl _ _) _) _) (by decide)) (Kd.V_below G1.out (belA (belA (Below.refl _ _) _) _) (by decide))).mono ?_; rintro e w1 ⟨rfl, hb1⟩; rw [d1]; have B1 := Sec.mk (bel (belA (belA (Below.refl _ _) _) _) hb1); have X := box_cells (b := w.heap.size) (cs := #[.int .i64 x.v, v1]) (t := 180) hb1 (box2 _ _ _).1; have p1_1 := X.2.1 1 _ rfl; have P1 := Sec.mk X; clear X; have X := box_cells (b := w.heap.size + 1) (cs := #[.int .i64 y.v, u1]) (t := 180) hb1 (box2 _ _ _).2; have q1_1 := X.2.1 1 _ rfl; have Q1 := Sec.mk X; clear X hb1))
      go_ret
      exact ⟨rb hd.out.symm, B1.out⟩
    · have hd : Sec (decide (x = y) = false) := ⟨by rw [decide_eq_false_iff_not, hxy.out]; exact fun h => h1 h.2⟩
      have d1 : decide (x.term = y.term) = false := decide_eq_false h1
      clear h1
      go_enter Tryz.func279, Tryz.ntmps279
      go_wp2_with (first | (clear T0; go_at_call 26; have T1 : Sec True := ⟨trivial⟩; refine (eqSCell_c v1 u1 x.term y.term ok ok' _ (Kd.V_below H1.out (belA (belA (Below.refl _ _) _) _) (by decide)) (Kd.V_below G1.out (belA (belA (Below.refl _ _) _) _) (by decide))).mono ?_; rintro e w1 ⟨rfl, hb1⟩; rw [d1]; have B1 := Sec.mk (bel (belA (belA (Below.refl _ _) _) _) hb1); have X := box_cells (b := w.heap.size) (cs := #[.int .i64 x.v, v1]) (t := 180) hb1 (box2 _ _ _).1; have p1_1 := X.2.1 1 _ rfl; have P1 := Sec.mk X; clear X; have X := box_cells (b := w.heap.size + 1) (cs := #[.int .i64 y.v, u1]) (t := 180) hb1 (box2 _ _ _).2; have q1_1 := X.2.1 1 _ rfl; have Q1 := Sec.mk X; clear X hb1))
      go_ret
      exact ⟨rb hd.out.symm, B1.out⟩
  · have hd : Sec (decide (x = y) = false) := ⟨by rw [decide_eq_false_iff_not, hxy.out]; exact fun h => h0 h.1⟩
    have d0 : (x.v == y.v) = false := beq_eq_false_iff_ne.2 h0
    clear h0
    go_enter Tryz.func279, Tryz.ntmps279
    go_wp2
    go_ret
    exact ⟨rb hd.out.symm, (belA (belA (Below.refl _ _) _) _)⟩
set_option maxHeartbeats 2000000 in
theorem eqSBind_c (v u : Value) (t s : List Bind) (ok ok' : Nat → Prop) (w : World) (hV : kBind.V w ok v t) (hU : kBind.V w ok' u s) :
    Calls Tryz.prog 272 #[v, u] w fun e w' => e = .returned (.bool (decide (t = s))) ∧ Below w.heap.size w w' := by
  obtain ⟨A, c, rfl, h1, h2, h3, hC, _⟩ := hV
  obtain ⟨B, d, rfl, k1, k2, k3, hD, _⟩ := hU
  have HC := Sec.mk hC
  have HD := Sec.mk hD
  clear hC hD
  have hu := Tryz.underlying180
  by_cases hl : t.length = s.length
  · rw [← hl]
    have HL := Sec.mk hl
    clear hl
    go_enter Tryz.func272, Tryz.ntmps272
    go_wp2
    go_loopw [5] (fun i wr => ∃ k : Nat, k ≤ t.length ∧ i = .int .i64 k ∧ Sec (t.take k = s.take k) ∧ Sec (Below w.heap.size w wr)) (fun i _ => t.length - (intOf i).toNat)
    case atStart => exact ⟨0, Nat.zero_le _, rfl, ⟨by simp⟩, ⟨Below.refl _ _⟩⟩
    case round =>
      obtain ⟨k, hk, rfl, hT, hb⟩ := hrel
      by_cases hlt : k < t.length
      · have hlt2 : k < s.length := by have := HL.out; omega
        obtain ⟨b, off, cs, rfl, hob, hK, hc⟩ := Kd.C_get HC.out (List.getElem?_eq_getElem hlt)
        obtain ⟨b2, off2, cs2, rfl, hob2, hK2, hc2⟩ := Kd.C_get HD.out (List.getElem?_eq_getElem hlt2)
        have hT1 : Sec (t[k] = s[k] → t.take (k + 1) = s.take (k + 1)) := ⟨fun e => by rw [List.take_succ_eq_append_getElem hlt, List.take_succ_eq_append_getElem hlt2, hT.out, e]⟩
        have hT2 : Sec (t = s → t[k] = s[k]) := ⟨fun e => by subst e; rfl⟩
        generalize t[k] = x at *
        generalize s[k] = y at *
        have HK := Sec.mk hK
        have HK2 := Sec.mk hK2
        obtain ⟨v1, rfl, -⟩ := kBind_K hK
        obtain ⟨u1, rfl, -⟩ := kBind_K hK2
        have hat : Sec (∀ W : World, Below w.heap.size w W → W.cell? ⟨b, off + k * 2, none⟩ = some (.int .i64 x.v) ∧ W.cell? ⟨b, off + k * 2 + 1, none⟩ = some (v1) ∧ W.cell? ⟨b2, off2 + k * 2, none⟩ = some (.int .i64 y.v) ∧ W.cell? ⟨b2, off2 + k * 2 + 1, none⟩ = some (u1)) := ⟨fun W h => ⟨Raw.cell_below h (hc 0 _ rfl), Raw.cell_below h (hc 1 _ rfl), Raw.cell_below h (hc2 0 _ rfl), Raw.cell_below h (hc2 1 _ rfl)⟩⟩
        clear hc hc2 hK hK2
        obtain ⟨x0, x1, y0, y1⟩ := hat.out _ hb.out
        have i0 : (0 : Int) ≤ (k : Int) := by omega
        have i1 : (k : Int) < (t.length : Int) := by omega
        obtain ⟨bb, hbb⟩ : ∃ bb, decide (x = y) = bb := ⟨_, rfl⟩
        have Hc : Sec (∀ W, Below w.heap.size w W → Calls Tryz.prog 279 #[.agg #[.int .i64 x.v, v1], .agg #[.int .i64 y.v, u1]] W fun e w' => e = .returned (.bool bb) ∧ Below W.heap.size W w') := ⟨fun W hB => by rw [← hbb]; exact eqSubBind_c x y _ _ ok ok' W (Kd.K_below HK.out hB) (Kd.K_below HK2.out hB)⟩
        have HBB := Sec.mk hbb
        clear hbb
        go_wp2
        go_region_held3 (fun W => W.cell? ⟨b, off + k * 2, none⟩ = some (.int .i64 x.v) ∧ W.cell? ⟨b, off + k * 2 + 1, none⟩ = some (v1) ∧ W.cell? ⟨b2, off2 + k * 2, none⟩ = some (.int .i64 y.v) ∧ W.cell? ⟨b2, off2 + k * 2 + 1, none⟩ = some (u1))
          (first | (refine ⟨?_, ?_, ?_, ?_⟩ <;> assumption) | go_keep)
          (first | (go_at_call 279; refine (Hc.out _ (belD hb.out)).mono ?_; rintro e w1 ⟨rfl, hb1⟩; have B1 := Sec.mk (bel (belD hb.out) hb1); clear x0 x1 y0 y1; obtain ⟨x0, x1, y0, y1⟩ := hat.out _ B1.out; clear hb1))
        all_goals
          cases bb with
          | true =>
            have HE : Sec (t.take (k + 1) = s.take (k + 1)) := ⟨hT1.out (of_decide_eq_true HBB.out)⟩
            go_wp2
            go_roundw
            case rel => exact ⟨k + 1, by omega, by go_num, HE, B1⟩
            case measure => simp [intOf]; omega
          | false =>
            have HE : Sec (decide (t = s) = false) := ⟨decide_eq_false (fun e => of_decide_eq_false HBB.out (hT2.out e))⟩
            go_wp2
            go_ret
            exact ⟨rb HE.out.symm, B1.out⟩
      · have HE : Sec (decide (t = s) = true) := ⟨decide_eq_true (by have := hT.out; have h2 := HL.out; rwa [List.take_of_length_le (by omega), List.take_of_length_le (by omega)] at this)⟩
        go_wp2
        go_ret
        exact ⟨rb HE.out.symm, hb.out⟩
  · have hl' : ((t.length : Int) == (s.length : Int)) = false := beq_eq_false_iff_ne.2 (by omega)
    have HE : Sec (decide (t = s) = false) := ⟨decide_eq_false (fun e => hl (by rw [e]))⟩
    go_enter Tryz.func272, Tryz.ntmps272
    go_wp2
    go_ret
    exact ⟨rb HE.out.symm, Below.refl _ _⟩
def mBind : Mk Bind := ⟨fun x => 1 + mCell.cnts x.term, fun x k => ⟨k, mCell.mks x.term (k + 1)⟩⟩
theorem mBind_cnt (x : Bind) : mBind.cnt x = 1 + mCell.cnts x.term := rfl
set_option maxHeartbeats 2000000 in
theorem markSBind_c (v : Value) (t : List Bind) (S : Nat → Prop) (k : Int) (hk : 0 ≤ k) (hk2 : k + mBind.cnts t ≤ 1000000000000000000) (w : World) (hR : kBind.R w S v t) :
    Calls Tryz.prog 210 #[v, .int .i64 k] w fun e w' => e = .returned (.int .i64 (k + mBind.cnts t)) ∧ kBind.R w' S v (mBind.mks t k) ∧ Foot S w w' := by
  obtain ⟨A, cp, hv, g1, g2⟩ := Kd.R_form hR
  subst hv
  have h3 : t.length ≤ 1073741824 := hR.1
  have HR := Sec.mk hR
  have hu := Tryz.underlying180
  clear hR
  have HN := Sec.mk (mBind.cnts_take t)
  have HM := Sec.mk (mBind.cnts_le t)
  have HX := Sec.mk (mBind.next t k)
  go_enter Tryz.func210, Tryz.ntmps210
  go_wp2
  go_loopw [1, 5] (fun kv iv wr => ∃ i : Nat, i ≤ t.length ∧ iv = .int .i64 i ∧ kv = .int .i64 (k + ↑(mBind.cnts (t.take i))) ∧ Sec (kBind.R wr S (.slice A t.length cp) (mBind.mks (t.take i) k ++ t.drop i)) ∧ Sec (Foot S w wr)) (fun _ iv _ => t.length - (intOf iv).toNat)
  case atStart => exact ⟨0, Nat.zero_le _, rfl, by simp [Mk.cnts], ⟨by simpa [Mk.mks] using HR.out⟩, ⟨Foot.refl _ _⟩⟩
  case round =>
    obtain ⟨i, hi, rfl, rfl, hM, hF⟩ := hrel
    by_cases hlt : i < t.length
    · have hL : (mBind.mks (t.take i) k ++ t.drop i).length = t.length := mBind.len_ t k i
      have hil : i < (mBind.mks (t.take i) k ++ t.drop i).length := by omega
      obtain ⟨b, rfl, -, hSb, hbb, -⟩ := Kd.R_block hM.out (by omega)
      obtain ⟨cs, hA, -⟩ := Kd.At.of_R hM.out hil
      rw [mBind.at_ t k i hlt] at hA
      have hnext := Sec.mk (HX.out i hlt)
      have hn1 := HN.out i hlt
      have hn2 := HM.out (i + 1)
      rw [hn1] at hn2
      have HN1 := Sec.mk hn1
      have F0 := hF
      clear hM hn1 hL
      generalize mBind.mks (t.take i) k ++ t.drop i = L at *
      generalize t[i] = x at *
      generalize mBind.cnts (t.take i) = c at *
      have hcx : Sec (mBind.cnt x = _) := ⟨mBind_cnt x⟩
      rw [mBind_cnt x] at hn2
      have hAt := hA
      obtain ⟨v1, rfl, -⟩ := kBind_K hA.K
      have A0 := Sec.mk hA
      clear hA hAt
      have c0_0 : wr.cell? ⟨b, i * 2, none⟩ = some (.int .i64 x.v) := Kd.At.cell A0.out 0 _ rfl
      have c0_1 : wr.cell? ⟨b, i * 2 + 1, none⟩ = some (v1) := Kd.At.cell A0.out 1 _ rfl
      have f0_0 : wr.frozen? ⟨b, i * 2, none⟩ = false := Kd.At.frozen A0.out (i * 2)
      have f0_1 : wr.frozen? ⟨b, i * 2 + 1, none⟩ = false := Kd.At.frozen A0.out (i * 2 + 1)
      have A1 : Sec (Kd.At kBind (wr.setCell ⟨b, i * 2, none⟩ (.int .i64 (k + (c : Int)))) S b t.length cp L i ⟨k + (c : Int), x.term⟩ [.int .i64 (k + (c : Int)), v1]) := ⟨Kd.At.store (e := (Kd.int 3)) A0.out kBind_f_v rfl (k + (c : Int)) (.int .i64 (k + (c : Int))) (fun _ _ => ⟨rfl, trivial⟩)⟩
      have F1 : Sec (Foot S w (wr.setCell ⟨b, i * 2, none⟩ (.int .i64 (k + (c : Int))))) := ⟨F0.out.set (g := b) (.inl hSb) (i * 2) (.int .i64 (k + (c : Int)))⟩
      obtain ⟨S1, r1, hs1, bk1⟩ := Kd.At.sub A1.out kBind_f_term (v := v1) rfl
      have SR1 := Sec.mk r1
      have SS1 := Sec.mk hs1
      have BK1 := Sec.mk bk1
      clear r1 hs1 bk1
      have T0 : Sec True := ⟨trivial⟩
      go_wp2_with (first | (clear T0; go_at_call 28; have T1 : Sec True := ⟨trivial⟩; refine (markSCell_c v1 x.term S1 (k + (c : Int) + 1) (by omega) (by omega) _ SR1.out).mono ?_; rintro e w1 ⟨rfl, hR', hF'⟩; have A2 : Sec (Kd.At kBind w1 S b t.length cp L i ⟨k + (c : Int), (mCell.mks x.term (k + (c : Int) + 1))⟩ [.int .i64 (k + (c : Int)), v1]) := ⟨BK1.out w1 _ hR' hF'⟩; have F2 : Sec (Foot S w w1) := ⟨F1.out.trans hF' (fun k _ h => (SS1.out k h).1)⟩; clear hR' hF'; clear c0_0 f0_0 c0_1 f0_1; have c1_0 : w1.cell? ⟨b, i * 2, none⟩ = some (.int .i64 (k + (c : Int))) := Kd.At.cell A2.out 0 _ rfl; have c1_1 : w1.cell? ⟨b, i * 2 + 1, none⟩ = some (v1) := Kd.At.cell A2.out 1 _ rfl; have f1_0 : w1.frozen? ⟨b, i * 2, none⟩ = false := Kd.At.frozen A2.out (i * 2); have f1_1 : w1.frozen? ⟨b, i * 2 + 1, none⟩ = false := Kd.At.frozen A2.out (i * 2 + 1)))
      go_roundw
      case rel => exact ⟨i + 1, by omega, by go_num, by rw [HN1.out, hcx.out]; congr 1; omega, ⟨by rw [← hnext.out]; exact A2.out.R⟩, F2⟩
      case measure => simp [intOf]; omega
    · have hfin : Sec (mBind.mks (t.take i) k ++ t.drop i = mBind.mks t k) := ⟨by rw [List.take_of_length_le (by omega), List.drop_of_length_le (by omega), List.append_nil]⟩
      have hM2 := hM.out
      rw [hfin.out] at hM2
      have HM2 := Sec.mk hM2
      have hi2 : Sec (k + ↑(mBind.cnts (t.take i)) = k + ↑(mBind.cnts t)) := ⟨by rw [List.take_of_length_le (by omega)]⟩
      clear hM2 hM hfin
      go_wp2
      go_ret
      exact ⟨ri hi2.out, HM2.out, hF.out⟩
set_option maxHeartbeats 2000000 in
theorem heldSBind_c (v : Value) (t : List Bind) (ok : Nat → Prop) (k : Int) (hk : 0 ≤ k) (hk2 : k + mBind.cnts t ≤ 1000000000000000000) (w : World) (hV : kBind.V w ok v (mBind.mks t k)) :
    Calls Tryz.prog 214 #[v, .int .i64 k] w fun e w' => e = .returned (.int .i64 (k + mBind.cnts t)) ∧ Below w.heap.size w w' := by
  obtain ⟨A, cp, rfl, g1, g2, g3, hC, _⟩ := hV
  rw [Mk.mks_len] at g1 g3
  rw [Mk.mks_len]
  have HC := Sec.mk hC
  have hu := Tryz.underlying180
  clear hC
  have HN := Sec.mk (mBind.cnts_take t)
  have HM := Sec.mk (mBind.cnts_le t)
  have HG := Sec.mk (mBind.get t k)
  have HLn := Sec.mk (mBind.mks_len t k)
  go_enter Tryz.func214, Tryz.ntmps214
  go_wp2
  go_loopw [1, 5] (fun kv iv wr => ∃ i : Nat, i ≤ t.length ∧ iv = .int .i64 i ∧ kv = .int .i64 (k + ↑(mBind.cnts (t.take i))) ∧ Sec (Below w.heap.size w wr)) (fun _ iv _ => t.length - (intOf iv).toNat)
  case atStart => exact ⟨0, Nat.zero_le _, rfl, by simp [Mk.cnts], ⟨Below.refl _ _⟩⟩
  case round =>
    obtain ⟨i, hi, rfl, rfl, hb⟩ := hrel
    by_cases hlt : i < t.length
    · obtain ⟨b, off, cs, rfl, hob, hK, hc⟩ := Kd.C_get HC.out (List.getElem?_eq_getElem (by rw [HLn.out]; exact hlt))
      rw [HG.out i hlt] at hK
      have hn1 := HN.out i hlt
      have hn2 := HM.out (i + 1)
      rw [hn1] at hn2
      have HN1 := Sec.mk hn1
      clear hn1
      generalize t[i] = x at *
      generalize mBind.cnts (t.take i) = c at *
      have hcx : Sec (mBind.cnt x = _) := ⟨mBind_cnt x⟩
      rw [mBind_cnt x] at hn2
      obtain ⟨v1, rfl, h1⟩ := kBind_K hK
      have hat : Sec (∀ W : World, Below w.heap.size w W → W.cell? ⟨b, off + i * 2, none⟩ = some (.int .i64 (k + (c : Int))) ∧ W.cell? ⟨b, off + i * 2 + 1, none⟩ = some (v1)) := ⟨fun W h => ⟨Raw.cell_below h (hc 0 _ rfl), Raw.cell_below h (hc 1 _ rfl)⟩⟩
      have i0 : (0 : Int) ≤ (i : Int) := by omega
      have i1 : (i : Int) < (t.length : Int) := by omega
      have H1 : Sec (kCell.V w ok v1 (mCell.mks x.term (k + (c : Int) + 1))) := ⟨h1⟩
      clear h1
      clear hc hK
      obtain ⟨c0, c1⟩ := hat.out _ hb.out
      have B0 := hb
      have T0 : Sec True := ⟨trivial⟩
      go_wp2_with (first | (clear T0; go_at_call 88; have T1 : Sec True := ⟨trivial⟩; refine (heldSCell_c v1 x.term ok (k + (c : Int) + 1) (by omega) (by omega) _ (Kd.V_below H1.out B0.out (by decide))).mono ?_; rintro e w1 ⟨rfl, hb1⟩; have B1 := Sec.mk (bel B0.out hb1); clear hb1 c0 c1; obtain ⟨c0, c1⟩ := hat.out _ B1.out))
      go_roundw
      case rel => exact ⟨i + 1, by omega, by go_num, by rw [HN1.out, hcx.out]; congr 1; omega, B1⟩
      case measure => simp [intOf]; omega
    · have hi2 : Sec (k + ↑(mBind.cnts (t.take i)) = k + ↑(mBind.cnts t)) := ⟨by rw [List.take_of_length_le (by omega)]⟩
      go_wp2
      go_ret
      exact ⟨ri hi2.out, hb.out⟩
def mBindt : Mk Bind := ⟨fun x => mCell.cnts x.term, fun x k => ⟨x.v, mCell.mks x.term (k)⟩⟩
end
end Go.Proofs.YtgiobpggonceeaaGreatDoor
