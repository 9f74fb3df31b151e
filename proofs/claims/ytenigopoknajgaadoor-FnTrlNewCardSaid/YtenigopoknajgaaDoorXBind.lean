/- What the exact laws' own functions do with the type SubBind: turned, sized, compared, marked, held. -/
import Derived.Test.YtenigopoknajgaaDoorXCell
namespace Go.Proofs.YtenigopoknajgaaDoor
open Go.RowKit
set_option linter.unusedVariables false
set_option maxRecDepth 100000
def kBind : Kd Bind := Kd.iso 90 (Kd.pair (Kd.int 3) (Kd.slice 23 kCell (by decide))) (fun x => (x.v, x.term))
theorem kBind_K {w : World} {ok : Nat → Prop} {x : Bind} {cs : List Value} (h : kBind.K w ok x cs) : ∃ v1, cs = [.int .i64 x.v, v1] ∧ kCell.V w ok v1 x.term := by
  obtain ⟨_, _, rfl, ⟨rfl, _⟩, ⟨v1, rfl, h1⟩⟩ := h
  exact ⟨v1, rfl, h1⟩
theorem Bind.ext_iff (a b : Bind) : a = b ↔ a.v = b.v ∧ a.term = b.term := by
  cases a; cases b; simp
instance : DecidableEq Bind := fun a b => decidable_of_iff _ (Bind.ext_iff a b).symm
def zeroBind : Bind := ⟨0, []⟩
theorem kBind_zero (w : World) : kBind.O w (fun _ => False) zeroBind [.int .i64 0, .slice none 0 0] := (Kd.O_pair0 (d := (Kd.int 3)) (e := (Kd.slice 23 kCell (by decide))) ⟨rfl, trivial⟩ ⟨_, rfl, Kd.R_nil _ _ _⟩)
theorem kBind_f_v : Kd.Fld kBind (Kd.int 3) 0 (fun x => x.v) (fun x y => { x with v := y }) := Kd.Fld.iso _ (Kd.Fld.fst (Kd.Fld.self _)) (fun _ _ => rfl)
theorem kBind_f_term : Kd.Fld kBind (Kd.slice 23 kCell (by decide)) 1 (fun x => x.term) (fun x y => { x with term := y }) := Kd.Fld.iso _ (Kd.Fld.snd (Kd.Fld.self _)) (fun _ _ => rfl)
set_option maxHeartbeats 2000000 in
theorem eqSubBind_c (x y : Bind) (cs ds : List Value) (ok ok' : Nat → Prop) (w : World) (hK : kBind.K w ok x cs) (hD : kBind.K w ok' y ds) :
    Calls Tryd.prog 70 #[.agg cs.toArray, .agg ds.toArray] w fun e w' => e = .returned (.bool (decide (x = y))) ∧ Below w.heap.size w w' := by
  obtain ⟨_, _, rfl, ⟨rfl, _⟩, ⟨v1, rfl, h1⟩⟩ := hK
  have H1 := Sec.mk h1
  clear h1
  obtain ⟨_, _, rfl, ⟨rfl, _⟩, ⟨u1, rfl, g1⟩⟩ := hD
  have G1 := Sec.mk g1
  clear g1
  have hu := Tryd.underlying90
  have hxy := Sec.mk (Bind.ext_iff x y)
  have T0 : Sec True := ⟨trivial⟩
  by_cases h0 : x.v = y.v
  · have E0 := Sec.mk h0
    have d0 : (x.v == y.v) = true := beq_iff_eq.2 h0
    clear h0
    by_cases h1 : x.term = y.term
    · have E1 := Sec.mk h1
      have d1 : decide (x.term = y.term) = true := decide_eq_true h1
      clear h1
      have hd : Sec (decide (x = y) = true) := ⟨by rw [decide_eq_true_eq, hxy.out]; exact ⟨E0.out, E1.out⟩⟩
      go_enter Tryd.func70, Tryd.ntmps70
      go_wp2_with (first | (clear T0; go_at_call 17; have T1 : Sec True := ⟨trivial⟩; refine (eqSCell_c v1 u1 x.term y.term ok ok' _ (Kd.V_below H1.out (belA (belA (Below.refl _ _) _) _) (by decide)) (Kd.V_below G1.out (belA (belA (Below.refl _ _) _) _) (by decide))).mono ?_; rintro e w1 ⟨rfl, hb1⟩; rw [d1]; have B1 := Sec.mk (bel (belA (belA (Below.refl _ _) _) _) hb1); have X := box_cells (b := w.heap.size) (cs := #[.int .i64 x.v, v1]) (t := 90) hb1 (box2 _ _ _).1; have p1_1 := X.2.1 1 _ rfl; have P1 := Sec.mk X; clear X; have X := box_cells (b := w.heap.size + 1) (cs := #[.int .i64 y.v, u1]) (t := 90) hb1 (box2 _ _ _).2; have q1_1 := X.2.1 1 _ rfl; have Q1 := Sec.mk X; clear X hb1))
      go_ret
      exact ⟨rb hd.out.symm, B1.out⟩
    · have hd : Sec (decide (x = y) = false) := ⟨by rw [decide_eq_false_iff_not, hxy.out]; exact fun h => h1 h.2⟩
      have d1 : decide (x.term = y.term) = false := decide_eq_false h1
      clear h1
      go_enter Tryd.func70, Tryd.ntmps70
      go_wp2_with (first | (clear T0; go_at_call 17; have T1 : Sec True := ⟨trivial⟩; refine (eqSCell_c v1 u1 x.term y.term ok ok' _ (Kd.V_below H1.out (belA (belA (Below.refl _ _) _) _) (by decide)) (Kd.V_below G1.out (belA (belA (Below.refl _ _) _) _) (by decide))).mono ?_; rintro e w1 ⟨rfl, hb1⟩; rw [d1]; have B1 := Sec.mk (bel (belA (belA (Below.refl _ _) _) _) hb1); have X := box_cells (b := w.heap.size) (cs := #[.int .i64 x.v, v1]) (t := 90) hb1 (box2 _ _ _).1; have p1_1 := X.2.1 1 _ rfl; have P1 := Sec.mk X; clear X; have X := box_cells (b := w.heap.size + 1) (cs := #[.int .i64 y.v, u1]) (t := 90) hb1 (box2 _ _ _).2; have q1_1 := X.2.1 1 _ rfl; have Q1 := Sec.mk X; clear X hb1))
      go_ret
      exact ⟨rb hd.out.symm, B1.out⟩
  · have hd : Sec (decide (x = y) = false) := ⟨by rw [decide_eq_false_iff_not, hxy.out]; exact fun h => h0 h.1⟩
    have d0 : (x.v == y.v) = false := beq_eq_false_iff_ne.2 h0
    clear h0
    go_enter Tryd.func70, Tryd.ntmps70
    go_wp2
    go_ret
    exact ⟨rb hd.out.symm, (belA (belA (Below.refl _ _) _) _)⟩
set_option maxHeartbeats 2000000 in
theorem eqSBind_c (v u : Value) (t s : List Bind) (ok ok' : Nat → Prop) (w : World) (hV : kBind.V w ok v t) (hU : kBind.V w ok' u s) :
    Calls Tryd.prog 40 #[v, u] w fun e w' => e = .returned (.bool (decide (t = s))) ∧ Below w.heap.size w w' := by
  obtain ⟨A, c, rfl, h1, h2, h3, hC, _⟩ := hV
  obtain ⟨B, d, rfl, k1, k2, k3, hD, _⟩ := hU
  have HC := Sec.mk hC
  have HD := Sec.mk hD
  clear hC hD
  have hu := Tryd.underlying90
  by_cases hl : t.length = s.length
  · rw [← hl]
    have HL := Sec.mk hl
    clear hl
    go_enter Tryd.func40, Tryd.ntmps40
    go_wp2
    go_loopw [5] (fun i wr => ∃ k : Nat, k ≤ t.length ∧ i = .int .i64 k ∧ Sec (t.take k = s.take k) ∧ Sec (Below w.heap.size w wr)) (fun i _ => t.length - (intOf i).toNat)
    case atStart => exact ⟨0, Nat.zero_le _, rfl, ⟨by simp⟩, ⟨Below.refl _ _⟩⟩
    case round =>
      obtain ⟨k, hk, rfl, hT, hb⟩ := hrel
      by_cases hlt : k < t.length
      · have hlt2 : k < s.length := by have := HL.out; omega
        obtain ⟨b, off, cs, rfl, hob, hK, hc⟩ := Kd.C_get HC.out (List.getElem?_eq_getElem hlt)
        obtain ⟨b2, off2, cs2, rfl, hob2, hK2, hc2⟩ := Kd.C_get HD.out (List.getElem?_eq_getElem hlt2)
        have hT1 : Sec (t[k] = s[k] → t.take (k + 1) = s.take (k + 1)) := ⟨fun e => by rw [List.take_succ_eq_append_getElem hlt, List.take_succ_eq_append_getElem hlt2, hT.out, e]⟩
        have hT2 : Sec (t = s → t[k] = s[k]) := ⟨fun e => by subst e; rfl⟩
        generalize t[k] = x at *
        generalize s[k] = y at *
        have HK := Sec.mk hK
        have HK2 := Sec.mk hK2
        obtain ⟨v1, rfl, -⟩ := kBind_K hK
        obtain ⟨u1, rfl, -⟩ := kBind_K hK2
        have hat : Sec (∀ W : World, Below w.heap.size w W → W.cell? ⟨b, off + k * 2, none⟩ = some (.int .i64 x.v) ∧ W.cell? ⟨b, off + k * 2 + 1, none⟩ = some (v1) ∧ W.cell? ⟨b2, off2 + k * 2, none⟩ = some (.int .i64 y.v) ∧ W.cell? ⟨b2, off2 + k * 2 + 1, none⟩ = some (u1)) := ⟨fun W h => ⟨Raw.cell_below h (hc 0 _ rfl), Raw.cell_below h (hc 1 _ rfl), Raw.cell_below h (hc2 0 _ rfl), Raw.cell_below h (hc2 1 _ rfl)⟩⟩
        clear hc hc2 hK hK2
        obtain ⟨x0, x1, y0, y1⟩ := hat.out _ hb.out
        have i0 : (0 : Int) ≤ (k : Int) := by omega
        have i1 : (k : Int) < (t.length : Int) := by omega
        obtain ⟨bb, hbb⟩ : ∃ bb, decide (x = y) = bb := ⟨_, rfl⟩
        have Hc : Sec (∀ W, Below w.heap.size w W → Calls Tryd.prog 70 #[.agg #[.int .i64 x.v, v1], .agg #[.int .i64 y.v, u1]] W fun e w' => e = .returned (.bool bb) ∧ Below W.heap.size W w') := ⟨fun W hB => by rw [← hbb]; exact eqSubBind_c x y _ _ ok ok' W (Kd.K_below HK.out hB) (Kd.K_below HK2.out hB)⟩
        have HBB := Sec.mk hbb
        clear hbb
        go_wp2
        go_region_held3 (fun W => W.cell? ⟨b, off + k * 2, none⟩ = some (.int .i64 x.v) ∧ W.cell? ⟨b, off + k * 2 + 1, none⟩ = some (v1) ∧ W.cell? ⟨b2, off2 + k * 2, none⟩ = some (.int .i64 y.v) ∧ W.cell? ⟨b2, off2 + k * 2 + 1, none⟩ = some (u1))
          (first | (refine ⟨?_, ?_, ?_, ?_⟩ <;> assumption) | go_keep)
          (first | (go_at_call 70; refine (Hc.out _ (belD hb.out)).mono ?_; rintro e w1 ⟨rfl, hb1⟩; have B1 := Sec.mk (bel (belD hb.out) hb1); clear x0 x1 y0 y1; obtain ⟨x0, x1, y0, y1⟩ := hat.out _ B1.out; clear hb1))
        all_goals
          cases bb with
          | true =>
            have HE : Sec (t.take (k + 1) = s.take (k + 1)) := ⟨hT1.out (of_decide_eq_true HBB.out)⟩
            go_wp2
            go_roundw
            case rel => exact ⟨k + 1, by omega, by go_num, HE, B1⟩
            case measure => simp [intOf]; omega
          | false =>
            have HE : Sec (decide (t = s) = false) := ⟨decide_eq_false (fun e => of_decide_eq_false HBB.out (hT2.out e))⟩
            go_wp2
            go_ret
            exact ⟨rb HE.out.symm, B1.out⟩
      · have HE : Sec (decide (t = s) = true) := ⟨decide_eq_true (by have := hT.out; have h2 := HL.out; rwa [List.take_of_length_le (by omega), List.take_of_length_le (by omega)] at this)⟩
        go_wp2
        go_ret
        exact ⟨rb HE.out.symm, hb.out⟩
  · have hl' : ((t.length : Int) == (s.length : Int)) = false := beq_eq_false_iff_ne.2 (by omega)
    have HE : Sec (decide (t = s) = false) := ⟨decide_eq_false (fun e => hl (by rw [e]))⟩
    go_enter Tryd.func40, Tryd.ntmps40
    go_wp2
    go_ret
    exact ⟨rb HE.out.symm, Below.refl _ _⟩
def mBind : Mk Bind := ⟨fun x => 1 + mCell.cnts x.term, fun x k => ⟨k, mCell.mks x.term (k + 1)⟩⟩
theorem mBind_cnt (x : Bind) : mBind.cnt x = 1 + mCell.cnts x.term := rfl
set_option maxHeartbeats 2000000 in
theorem markSBind_c (v : Value) (t : List Bind) (S : Nat → Prop) (k : Int) (hk : 0 ≤ k) (hk2 : k + mBind.cnts t ≤ 1000000000000000000) (w : World) (hR : kBind.R w S v t) :
    Calls Tryd.prog 45 #[v, .int .i64 k] w fun e w' => e = .returned (.int .i64 (k + mBind.cnts t)) ∧ kBind.R w' S v (mBind.mks t k) ∧ Foot S w w' := by
  obtain ⟨A, cp, hv, g1, g2⟩ := Kd.R_form hR
  subst hv
  have h3 : t.length ≤ 1073741824 := hR.1
  have HR := Sec.mk hR
  have hu := Tryd.underlying90
  clear hR
  have HN := Sec.mk (mBind.cnts_take t)
  have HM := Sec.mk (mBind.cnts_le t)
  have HX := Sec.mk (mBind.next t k)
  go_enter Tryd.func45, Tryd.ntmps45
  go_wp2
  go_loopw [1, 5] (fun kv iv wr => ∃ i : Nat, i ≤ t.length ∧ iv = .int .i64 i ∧ kv = .int .i64 (k + ↑(mBind.cnts (t.take i))) ∧ Sec (kBind.R wr S (.slice A t.length cp) (mBind.mks (t.take i) k ++ t.drop i)) ∧ Sec (Foot S w wr)) (fun _ iv _ => t.length - (intOf iv).toNat)
  case atStart => exact ⟨0, Nat.zero_le _, rfl, by simp [Mk.cnts], ⟨by simpa [Mk.mks] using HR.out⟩, ⟨Foot.refl _ _⟩⟩
  case round =>
    obtain ⟨i, hi, rfl, rfl, hM, hF⟩ := hrel
    by_cases hlt : i < t.length
    · have hL : (mBind.mks (t.take i) k ++ t.drop i).length = t.length := mBind.len_ t k i
      have hil : i < (mBind.mks (t.take i) k ++ t.drop i).length := by omega
      obtain ⟨b, rfl, -, hSb, hbb, -⟩ := Kd.R_block hM.out (by omega)
      obtain ⟨cs, hA, -⟩ := Kd.At.of_R hM.out hil
      rw [mBind.at_ t k i hlt] at hA
      have hnext := Sec.mk (HX.out i hlt)
      have hn1 := HN.out i hlt
      have hn2 := HM.out (i + 1)
      rw [hn1] at hn2
      have HN1 := Sec.mk hn1
      have F0 := hF
      clear hM hn1 hL
      generalize mBind.mks (t.take i) k ++ t.drop i = L at *
      generalize t[i] = x at *
      generalize mBind.cnts (t.take i) = c at *
      have hcx : Sec (mBind.cnt x = _) := ⟨mBind_cnt x⟩
      rw [mBind_cnt x] at hn2
      have hAt := hA
      obtain ⟨v1, rfl, -⟩ := kBind_K hA.K
      have A0 := Sec.mk hA
      clear hA hAt
      have c0_0 : wr.cell? ⟨b, i * 2, none⟩ = some (.int .i64 x.v) := Kd.At.cell A0.out 0 _ rfl
      have c0_1 : wr.cell? ⟨b, i * 2 + 1, none⟩ = some (v1) := Kd.At.cell A0.out 1 _ rfl
      have f0_0 : wr.frozen? ⟨b, i * 2, none⟩ = false := Kd.At.frozen A0.out (i * 2)
      have f0_1 : wr.frozen? ⟨b, i * 2 + 1, none⟩ = false := Kd.At.frozen A0.out (i * 2 + 1)
      have A1 : Sec (Kd.At kBind (wr.setCell ⟨b, i * 2, none⟩ (.int .i64 (k + (c : Int)))) S b t.length cp L i ⟨k + (c : Int), x.term⟩ [.int .i64 (k + (c : Int)), v1]) := ⟨Kd.At.store (e := (Kd.int 3)) A0.out kBind_f_v rfl (k + (c : Int)) (.int .i64 (k + (c : Int))) (fun _ _ => ⟨rfl, trivial⟩)⟩
      have F1 : Sec (Foot S w (wr.setCell ⟨b, i * 2, none⟩ (.int .i64 (k + (c : Int))))) := ⟨F0.out.set (g := b) (.inl hSb) (i * 2) (.int .i64 (k + (c : Int)))⟩
      obtain ⟨S1, r1, hs1, bk1⟩ := Kd.At.sub A1.out kBind_f_term (v := v1) rfl
      have SR1 := Sec.mk r1
      have SS1 := Sec.mk hs1
      have BK1 := Sec.mk bk1
      clear r1 hs1 bk1
      have T0 : Sec True := ⟨trivial⟩
      go_wp2_with (first | (clear T0; go_at_call 18; have T1 : Sec True := ⟨trivial⟩; refine (markSCell_c v1 x.term S1 (k + (c : Int) + 1) (by omega) (by omega) _ SR1.out).mono ?_; rintro e w1 ⟨rfl, hR', hF'⟩; have A2 : Sec (Kd.At kBind w1 S b t.length cp L i ⟨k + (c : Int), (mCell.mks x.term (k + (c : Int) + 1))⟩ [.int .i64 (k + (c : Int)), v1]) := ⟨BK1.out w1 _ hR' hF'⟩; have F2 : Sec (Foot S w w1) := ⟨F1.out.trans hF' (fun k _ h => (SS1.out k h).1)⟩; clear hR' hF'; clear c0_0 f0_0 c0_1 f0_1; have c1_0 : w1.cell? ⟨b, i * 2, none⟩ = some (.int .i64 (k + (c : Int))) := Kd.At.cell A2.out 0 _ rfl; have c1_1 : w1.cell? ⟨b, i * 2 + 1, none⟩ = some (v1) := Kd.At.cell A2.out 1 _ rfl; have f1_0 : w1.frozen? ⟨b, i * 2, none⟩ = false := Kd.At.frozen A2.out (i * 2); have f1_1 : w1.frozen? ⟨b, i * 2 + 1, none⟩ = false := Kd.At.frozen A2.out (i * 2 + 1)))
      go_roundw
      case rel => exact ⟨i + 1, by omega, by go_num, by rw [HN1.out, hcx.out]; congr 1; omega, ⟨by rw [← hnext.out]; exact A2.out.R⟩, F2⟩
      case measure => simp [intOf]; omega
    · have hfin : Sec (mBind.mks (t.take i) k ++ t.drop i = mBind.mks t k) := ⟨by rw [List.take_of_length_le (by omega), List.drop_of_length_le (by omega), List.append_nil]⟩
      have hM2 := hM.out
      rw [hfin.out] at hM2
      have HM2 := Sec.mk hM2
      have hi2 : Sec (k + ↑(mBind.cnts (t.take i)) = k + ↑(mBind.cnts t)) := ⟨by rw [List.take_of_length_le (by omega)]⟩
      clear hM2 hM hfin
      go_wp2
      go_ret
      exact ⟨ri hi2.out, HM2.out, hF.out⟩
set_option maxHeartbeats 2000000 in
theorem heldSBind_c (v : Value) (t : List Bind) (ok : Nat → Prop) (k : Int) (hk : 0 ≤ k) (hk2 : k + mBind.cnts t ≤ 1000000000000000000) (w : World) (hV : kBind.V w ok v (mBind.mks t k)) :
    Calls Tryd.prog 48 #[v, .int .i64 k] w fun e w' => e = .returned (.int .i64 (k + mBind.cnts t)) ∧ Below w.heap.size w w' := by
  obtain ⟨A, cp, rfl, g1, g2, g3, hC, _⟩ := hV
  rw [Mk.mks_len] at g1 g3
  rw [Mk.mks_len]
  have HC := Sec.mk hC
  have hu := Tryd.underlying90
  clear hC
  have HN := Sec.mk (mBind.cnts_take t)
  have HM := Sec.mk (mBind.cnts_le t)
  have HG := Sec.mk (mBind.get t k)
  have HLn := Sec.mk (mBind.mks_len t k)
  go_enter Tryd.func48, Tryd.ntmps48
  go_wp2
  go_loopw [1, 5] (fun kv iv wr => ∃ i : Nat, i ≤ t.length ∧ iv = .int .i64 i ∧ kv = .int .i64 (k + ↑(mBind.cnts (t.take i))) ∧ Sec (Below w.heap.size w wr)) (fun _ iv _ => t.length - (intOf iv).toNat)
  case atStart => exact ⟨0, Nat.zero_le _, rfl, by simp [Mk.cnts], ⟨Below.refl _ _⟩⟩
  case round =>
    obtain ⟨i, hi, rfl, rfl, hb⟩ := hrel
    by_cases hlt : i < t.length
    · obtain ⟨b, off, cs, rfl, hob, hK, hc⟩ := Kd.C_get HC.out (List.getElem?_eq_getElem (by rw [HLn.out]; exact hlt))
      rw [HG.out i hlt] at hK
      have hn1 := HN.out i hlt
      have hn2 := HM.out (i + 1)
      rw [hn1] at hn2
      have HN1 := Sec.mk hn1
      clear hn1
      generalize t[i] = x at *
      generalize mBind.cnts (t.take i) = c at *
      have hcx : Sec (mBind.cnt x = _) := ⟨mBind_cnt x⟩
      rw [mBind_cnt x] at hn2
      obtain ⟨v1, rfl, h1⟩ := kBind_K hK
      have hat : Sec (∀ W : World, Below w.heap.size w W → W.cell? ⟨b, off + i * 2, none⟩ = some (.int .i64 (k + (c : Int))) ∧ W.cell? ⟨b, off + i * 2 + 1, none⟩ = some (v1)) := ⟨fun W h => ⟨Raw.cell_below h (hc 0 _ rfl), Raw.cell_below h (hc 1 _ rfl)⟩⟩
      have i0 : (0 : Int) ≤ (i : Int) := by omega
      have i1 : (i : Int) < (t.length : Int) := by omega
      have H1 : Sec (kCell.V w ok v1 (mCell.mks x.term (k + (c : Int) + 1))) := ⟨h1⟩
      clear h1
      clear hc hK
      obtain ⟨c0, c1⟩ := hat.out _ hb.out
      have B0 := hb
      have T0 : Sec True := ⟨trivial⟩
      go_wp2_with (first | (clear T0; go_at_call 50; have T1 : Sec True := ⟨trivial⟩; refine (heldSCell_c v1 x.term ok (k + (c : Int) + 1) (by omega) (by omega) _ (Kd.V_below H1.out B0.out (by decide))).mono ?_; rintro e w1 ⟨rfl, hb1⟩; have B1 := Sec.mk (bel B0.out hb1); clear hb1 c0 c1; obtain ⟨c0, c1⟩ := hat.out _ B1.out))
      go_roundw
      case rel => exact ⟨i + 1, by omega, by go_num, by rw [HN1.out, hcx.out]; congr 1; omega, B1⟩
      case measure => simp [intOf]; omega
    · have hi2 : Sec (k + ↑(mBind.cnts (t.take i)) = k + ↑(mBind.cnts t)) := ⟨by rw [List.take_of_length_le (by omega)]⟩
      go_wp2
      go_ret
      exact ⟨ri hi2.out, hb.out⟩
def mBindt : Mk Bind := ⟨fun x => mCell.cnts x.term, fun x k => ⟨x.v, mCell.mks x.term (k)⟩⟩
theorem mBindt_cnt (x : Bind) : mBindt.cnt x = mCell.cnts x.term := rfl
end Go.Proofs.YtenigopoknajgaaDoor
