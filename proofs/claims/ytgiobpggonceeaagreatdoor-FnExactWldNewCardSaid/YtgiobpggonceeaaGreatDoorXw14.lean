/- What the exact laws' own functions do with the type NetMsg: turned, sized, compared, marked, held; and what goes with it. -/
import Derived.Test.YtgiobpggonceeaaGreatDoorXw2
import Derived.Test.YtgiobpggonceeaaGreatDoorXw3
import Derived.Test.YtgiobpggonceeaaGreatDoorXw10
import Derived.Test.YtgiobpggonceeaaGreatDoorXw11
import Derived.Test.YtgiobpggonceeaaGreatDoorXw13
namespace Go.Proofs.YtgiobpggonceeaaGreatDoor
section
open Go.RowKit
set_option linter.unusedVariables false
set_option maxRecDepth 100000
def kNetM : Kd NetM := Kd.iso 211 (Kd.pair (Kd.int 3) (Kd.pair (Kd.bool 4) (Kd.slice 22 kByte (by decide)))) (fun x => (x.to, x.bent, x.bytes))
theorem kNetM_K {w : World} {ok : Nat → Prop} {x : NetM} {cs : List Value} (h : kNetM.K w ok x cs) : ∃ v2, cs = [.int .i64 x.to, .bool x.bent, v2] ∧ kByte.V w ok v2 x.bytes := by
  obtain ⟨_, _, rfl, ⟨rfl, _⟩, ⟨_, _, rfl, ⟨rfl, _⟩, ⟨v2, rfl, h2⟩⟩⟩ := h
  exact ⟨v2, rfl, h2⟩
theorem NetM.ext_iff (a b : NetM) : a = b ↔ a.to = b.to ∧ a.bent = b.bent ∧ a.bytes = b.bytes := by
  cases a; cases b; simp
instance : DecidableEq NetM := fun a b => decidable_of_iff _ (NetM.ext_iff a b).symm
def zeroNetM : NetM := ⟨0, false, []⟩
theorem kNetM_f_to : Kd.Fld kNetM (Kd.int 3) 0 (fun x => x.to) (fun x y => { x with to := y }) := Kd.Fld.iso _ (Kd.Fld.fst (Kd.Fld.self _)) (fun _ _ => rfl)
theorem kNetM_f_bent : Kd.Fld kNetM (Kd.bool 4) 1 (fun x => x.bent) (fun x y => { x with bent := y }) := Kd.Fld.iso _ (Kd.Fld.snd (Kd.Fld.fst (Kd.Fld.self _))) (fun _ _ => rfl)
theorem kNetM_f_bytes : Kd.Fld kNetM (Kd.slice 22 kByte (by decide)) 2 (fun x => x.bytes) (fun x y => { x with bytes := y }) := Kd.Fld.iso _ (Kd.Fld.snd (Kd.Fld.snd (Kd.Fld.self _))) (fun _ _ => rfl)
set_option maxHeartbeats 2000000 in
theorem eqNetMsg_c (x y : NetM) (cs ds : List Value) (ok ok' : Nat → Prop) (w : World) (hK : kNetM.K w ok x cs) (hD : kNetM.K w ok' y ds) :
    Calls Tryz.prog 159 #[.agg cs.toArray, .agg ds.toArray] w fun e w' => e = .returned (.bool (decide (x = y))) ∧ Below w.heap.size w w' := by
  obtain ⟨_, _, rfl, ⟨rfl, _⟩, ⟨_, _, rfl, ⟨rfl, _⟩, ⟨v2, rfl, h2⟩⟩⟩ := hK
  have H2 := Sec.mk h2
  clear h2
  obtain ⟨_, _, rfl, ⟨rfl, _⟩, ⟨_, _, rfl, ⟨rfl, _⟩, ⟨u2, rfl, g2⟩⟩⟩ := hD
  have G2 := Sec.mk g2
  clear g2
  have hu := Tryz.underlying211
  have hxy := Sec.mk (NetM.ext_iff x y)
  have T0 : Sec True := ⟨trivial⟩
  by_cases h0 : x.to = y.to
  · have E0 := Sec.mk h0
    have d0 : (x.to == y.to) = true := beq_iff_eq.2 h0
    clear h0
    by_cases h1 : x.bent = y.bent
    · have E1 := Sec.mk h1
      have d1 : (x.bent == y.bent) = true := beq_iff_eq.2 h1
      clear h1
      by_cases h2 : x.bytes = y.bytes
      · have E2 := Sec.mk h2
        have d2 : decide (x.bytes = y.bytes) = true := decide_eq_true h2
        clear h2
        have hd : Sec (decide (x = y) = true) := ⟨by rw [decide_eq_true_eq, hxy.out]; exact ⟨E0.out, E1.out, E2.out⟩⟩
        go_enter Tryz.func159, Tryz.ntmps159
        go_wp2_with (first | (clear T0; go_at_call 35; have T1 : Sec True := ⟨trivial⟩; refine (eqSByte_c v2 u2 x.bytes y.bytes ok ok' _ (Kd.V_below H2.out (belA (belA (Below.refl _ _) _) _) (by decide)) (Kd.V_below G2.out (belA (belA (Below.refl _ _) _) _) (by decide))).mono ?_; rintro e w1 ⟨rfl, hb1⟩; rw [d2]; have B1 := Sec.mk (bel (belA (belA (Below.refl _ _) _) _) hb1); have X := box_cells (b := w.heap.size) (cs := #[.int .i64 x.to, .bool x.bent, v2]) (t := 211) hb1 (box2 _ _ _).1; have p1_2 := X.2.1 2 _ rfl; have P1 := Sec.mk X; clear X; have X := box_cells (b := w.heap.size + 1) (cs := #[.int .i64 y.to, .bool y.bent, u2]) (t := 211) hb1 (box2 _ _ _).2; have q1_2 := X.2.1 2 _ rfl; have Q1 := Sec.mk X; clear X hb1))
        go_ret
        exact ⟨rb hd.out.symm, B1.out⟩
      · have hd : Sec (decide (x = y) = false) := ⟨by rw [decide_eq_false_iff_not, hxy.out]; exact fun h => h2 h.2.2⟩
        have d2 : decide (x.bytes = y.bytes) = false := decide_eq_false h2
        clear h2
        go_enter Tryz.func159, Tryz.ntmps159
        go_wp2_with (first | (clear T0; go_at_call 35; have T1 : Sec True := ⟨trivial⟩; refine (eqSByte_c v2 u2 x.bytes y.bytes ok ok' _ (Kd.V_below H2.out (belA (belA (Below.refl _ _) _) _) (by decide)) (Kd.V_below G2.out (belA (belA (Below.refl _ _) _) _) (by decide))).mono ?_; rintro e w1 ⟨rfl, hb1⟩; rw [d2]; have B1 := Sec.mk (bel (belA (belA (Below.refl _ _) _) _) hb1); have X := box_cells (b := w.heap.size) (cs := #[.int .i64 x.to, .bool x.bent, v2]) (t := 211) hb1 (box2 _ _ _).1; have p1_2 := X.2.1 2 _ rfl; have P1 := Sec.mk X; clear X; have X := box_cells (b := w.heap.size + 1) (cs := #[.int .i64 y.to, .bool y.bent, u2]) (t := 211) hb1 (box2 _ _ _).2; have q1_2 := X.2.1 2 _ rfl; have Q1 := Sec.mk X; clear X hb1))
        go_ret
        exact ⟨rb hd.out.symm, B1.out⟩
    · have hd : Sec (decide (x = y) = false) := ⟨by rw [decide_eq_false_iff_not, hxy.out]; exact fun h => h1 h.2.1⟩
      have d1 : (x.bent == y.bent) = false := beq_eq_false_iff_ne.2 h1
      clear h1
      go_enter Tryz.func159, Tryz.ntmps159
      go_wp2
      go_ret
      exact ⟨rb hd.out.symm, (belA (belA (Below.refl _ _) _) _)⟩
  · have hd : Sec (decide (x = y) = false) := ⟨by rw [decide_eq_false_iff_not, hxy.out]; exact fun h => h0 h.1⟩
    have d0 : (x.to == y.to) = false := beq_eq_false_iff_ne.2 h0
    clear h0
    go_enter Tryz.func159, Tryz.ntmps159
    go_wp2
    go_ret
    exact ⟨rb hd.out.symm, (belA (belA (Below.refl _ _) _) _)⟩
set_option maxHeartbeats 2000000 in
theorem eqSNetM_c (v u : Value) (t s : List NetM) (ok ok' : Nat → Prop) (w : World) (hV : kNetM.V w ok v t) (hU : kNetM.V w ok' u s) :
    Calls Tryz.prog 76 #[v, u] w fun e w' => e = .returned (.bool (decide (t = s))) ∧ Below w.heap.size w w' := by
  obtain ⟨A, c, rfl, h1, h2, h3, hC, _⟩ := hV
  obtain ⟨B, d, rfl, k1, k2, k3, hD, _⟩ := hU
  have HC := Sec.mk hC
  have HD := Sec.mk hD
  clear hC hD
  have hu := Tryz.underlying211
  by_cases hl : t.length = s.length
  · rw [← hl]
    have HL := Sec.mk hl
    clear hl
    go_enter Tryz.func76, Tryz.ntmps76
    go_wp2
    go_loopw [5] (fun i wr => ∃ k : Nat, k ≤ t.length ∧ i = .int .i64 k ∧ Sec (t.take k = s.take k) ∧ Sec (Below w.heap.size w wr)) (fun i _ => t.length - (intOf i).toNat)
    case atStart => exact ⟨0, Nat.zero_le _, rfl, ⟨by simp⟩, ⟨Below.refl _ _⟩⟩
    case round =>
      obtain ⟨k, hk, rfl, hT, hb⟩ := hrel
      by_cases hlt : k < t.length
      · have hlt2 : k < s.length := by have := HL.out; omega
        obtain ⟨b, off, cs, rfl, hob, hK, hc⟩ := Kd.C_get HC.out (List.getElem?_eq_getElem hlt)
        obtain ⟨b2, off2, cs2, rfl, hob2, hK2, hc2⟩ := Kd.C_get HD.out (List.getElem?_eq_getElem hlt2)
        have hT1 : Sec (t[k] = s[k] → t.take (k + 1) = s.take (k + 1)) := ⟨fun e => by rw [List.take_succ_eq_append_getElem hlt, List.take_succ_eq_append_getElem hlt2, hT.out, e]⟩
        have hT2 : Sec (t = s → t[k] = s[k]) := ⟨fun e => by subst e; rfl⟩
        generalize t[k] = x at *
        generalize s[k] = y at *
        have HK := Sec.mk hK
        have HK2 := Sec.mk hK2
        obtain ⟨v2, rfl, -⟩ := kNetM_K hK
        obtain ⟨u2, rfl, -⟩ := kNetM_K hK2
        have hat : Sec (∀ W : World, Below w.heap.size w W → W.cell? ⟨b, off + k * 3, none⟩ = some (.int .i64 x.to) ∧ W.cell? ⟨b, off + k * 3 + 1, none⟩ = some (.bool x.bent) ∧ W.cell? ⟨b, off + k * 3 + 2, none⟩ = some (v2) ∧ W.cell? ⟨b2, off2 + k * 3, none⟩ = some (.int .i64 y.to) ∧ W.cell? ⟨b2, off2 + k * 3 + 1, none⟩ = some (.bool y.bent) ∧ W.cell? ⟨b2, off2 + k * 3 + 2, none⟩ = some (u2)) := ⟨fun W h => ⟨Raw.cell_below h (hc 0 _ rfl), Raw.cell_below h (hc 1 _ rfl), Raw.cell_below h (hc 2 _ rfl), Raw.cell_below h (hc2 0 _ rfl), Raw.cell_below h (hc2 1 _ rfl), Raw.cell_below h (hc2 2 _ rfl)⟩⟩
        clear hc hc2 hK hK2
        obtain ⟨x0, x1, x2, y0, y1, y2⟩ := hat.out _ hb.out
        have i0 : (0 : Int) ≤ (k : Int) := by omega
        have i1 : (k : Int) < (t.length : Int) := by omega
        obtain ⟨bb, hbb⟩ : ∃ bb, decide (x = y) = bb := ⟨_, rfl⟩
        have Hc : Sec (∀ W, Below w.heap.size w W → Calls Tryz.prog 159 #[.agg #[.int .i64 x.to, .bool x.bent, v2], .agg #[.int .i64 y.to, .bool y.bent, u2]] W fun e w' => e = .returned (.bool bb) ∧ Below W.heap.size W w') := ⟨fun W hB => by rw [← hbb]; exact eqNetMsg_c x y _ _ ok ok' W (Kd.K_below HK.out hB) (Kd.K_below HK2.out hB)⟩
        have HBB := Sec.mk hbb
        clear hbb
        go_wp2
        go_region_held3 (fun W => W.cell? ⟨b, off + k * 3, none⟩ = some (.int .i64 x.to) ∧ W.cell? ⟨b, off + k * 3 + 1, none⟩ = some (.bool x.bent) ∧ W.cell? ⟨b, off + k * 3 + 2, none⟩ = some (v2) ∧ W.cell? ⟨b2, off2 + k * 3, none⟩ = some (.int .i64 y.to) ∧ W.cell? ⟨b2, off2 + k * 3 + 1, none⟩ = some (.bool y.bent) ∧ W.cell? ⟨b2, off2 + k * 3 + 2, none⟩ = some (u2))
          (first | (refine ⟨?_, ?_, ?_, ?_, ?_, ?_⟩ <;> assumption) | go_keep)
          (first | (go_at_call 159; refine (Hc.out _ (belD hb.out)).mono ?_; rintro e w1 ⟨rfl, hb1⟩; have B1 := Sec.mk (bel (belD hb.out) hb1); clear x0 x1 x2 y0 y1 y2; obtain ⟨x0, x1, x2, y0, y1, y2⟩ := hat.out _ B1.out; clear hb1))
        all_goals
          cases bb with
          | true =>
            have HE : Sec (t.take (k + 1) = s.take (k + 1)) := ⟨hT1.out (of_decide_eq_true HBB.out)⟩
            go_wp2
            go_roundw
            case rel => exact ⟨k + 1, by omega, by go_num, HE, B1⟩
            case measure => simp [intOf]; omega
          | false =>
            have HE : Sec (decide (t = s) = false) := ⟨decide_eq_false (fun e => of_decide_eq_false HBB.out (hT2.out e))⟩
            go_wp2
            go_ret
            exact ⟨rb HE.out.symm, B1.out⟩
      · have HE : Sec (decide (t = s) = true) := ⟨decide_eq_true (by have := hT.out; have h2 := HL.out; rwa [List.take_of_length_le (by omega), List.take_of_length_le (by omega)] at this)⟩
        go_wp2
        go_ret
        exact ⟨rb HE.out.symm, hb.out⟩
  · have hl' : ((t.length : Int) == (s.length : Int)) = false := beq_eq_false_iff_ne.2 (by omega)
    have HE : Sec (decide (t = s) = false) := ⟨decide_eq_false (fun e => hl (by rw [e]))⟩
    go_enter Tryz.func76, Tryz.ntmps76
    go_wp2
    go_ret
    exact ⟨rb HE.out.symm, Below.refl _ _⟩
def mNetM : Mk NetM := ⟨fun x => 1 + 1 + mByte.cnts x.bytes, fun x k => ⟨k, decide ((k + 1) % 3 = 0), mByte.mks x.bytes (k + 1 + 1)⟩⟩
theorem mNetM_cnt (x : NetM) : mNetM.cnt x = 1 + 1 + mByte.cnts x.bytes := rfl
set_option maxHeartbeats 2000000 in
theorem markSNetM_c (v : Value) (t : List NetM) (S : Nat → Prop) (k : Int) (hk : 0 ≤ k) (hk2 : k + mNetM.cnts t ≤ 1000000000000000000) (w : World) (hR : kNetM.R w S v t) :
    Calls Tryz.prog 85 #[v, .int .i64 k] w fun e w' => e = .returned (.int .i64 (k + mNetM.cnts t)) ∧ kNetM.R w' S v (mNetM.mks t k) ∧ Foot S w w' := by
  obtain ⟨A, cp, hv, g1, g2⟩ := Kd.R_form hR
  subst hv
  have h3 : t.length ≤ 1073741824 := hR.1
  have HR := Sec.mk hR
  have hu := Tryz.underlying211
  clear hR
  have HN := Sec.mk (mNetM.cnts_take t)
  have HM := Sec.mk (mNetM.cnts_le t)
  have HX := Sec.mk (mNetM.next t k)
  go_enter Tryz.func85, Tryz.ntmps85
  go_wp2
  go_loopw [1, 5] (fun kv iv wr => ∃ i : Nat, i ≤ t.length ∧ iv = .int .i64 i ∧ kv = .int .i64 (k + ↑(mNetM.cnts (t.take i))) ∧ Sec (kNetM.R wr S (.slice A t.length cp) (mNetM.mks (t.take i) k ++ t.drop i)) ∧ Sec (Foot S w wr)) (fun _ iv _ => t.length - (intOf iv).toNat)
  case atStart => exact ⟨0, Nat.zero_le _, rfl, by simp [Mk.cnts], ⟨by simpa [Mk.mks] using HR.out⟩, ⟨Foot.refl _ _⟩⟩
  case round =>
    obtain ⟨i, hi, rfl, rfl, hM, hF⟩ := hrel
    by_cases hlt : i < t.length
    · have hL : (mNetM.mks (t.take i) k ++ t.drop i).length = t.length := mNetM.len_ t k i
      have hil : i < (mNetM.mks (t.take i) k ++ t.drop i).length := by omega
      obtain ⟨b, rfl, -, hSb, hbb, -⟩ := Kd.R_block hM.out (by omega)
      obtain ⟨cs, hA, -⟩ := Kd.At.of_R hM.out hil
      rw [mNetM.at_ t k i hlt] at hA
      have hnext := Sec.mk (HX.out i hlt)
      have hn1 := HN.out i hlt
      have hn2 := HM.out (i + 1)
      rw [hn1] at hn2
      have HN1 := Sec.mk hn1
      have F0 := hF
      clear hM hn1 hL
      generalize mNetM.mks (t.take i) k ++ t.drop i = L at *
      generalize t[i] = x at *
      generalize mNetM.cnts (t.take i) = c at *
      have hcx : Sec (mNetM.cnt x = _) := ⟨mNetM_cnt x⟩
      rw [mNetM_cnt x] at hn2
      have hAt := hA
      obtain ⟨v2, rfl, -⟩ := kNetM_K hA.K
      have A0 := Sec.mk hA
      clear hA hAt
      have c0_0 : wr.cell? ⟨b, i * 3, none⟩ = some (.int .i64 x.to) := Kd.At.cell A0.out 0 _ rfl
      have c0_1 : wr.cell? ⟨b, i * 3 + 1, none⟩ = some (.bool x.bent) := Kd.At.cell A0.out 1 _ rfl
      have c0_2 : wr.cell? ⟨b, i * 3 + 2, none⟩ = some (v2) := Kd.At.cell A0.out 2 _ rfl
      have f0_0 : wr.frozen? ⟨b, i * 3, none⟩ = false := Kd.At.frozen A0.out (i * 3)
      have f0_1 : wr.frozen? ⟨b, i * 3 + 1, none⟩ = false := Kd.At.frozen A0.out (i * 3 + 1)
      have f0_2 : wr.frozen? ⟨b, i * 3 + 2, none⟩ = false := Kd.At.frozen A0.out (i * 3 + 2)
      have A1 : Sec (Kd.At kNetM (wr.setCell ⟨b, i * 3, none⟩ (.int .i64 (k + (c : Int)))) S b t.length cp L i ⟨k + (c : Int), x.bent, x.bytes⟩ [.int .i64 (k + (c : Int)), .bool x.bent, v2]) := ⟨Kd.At.store (e := (Kd.int 3)) A0.out kNetM_f_to rfl (k + (c : Int)) (.int .i64 (k + (c : Int))) (fun _ _ => ⟨rfl, trivial⟩)⟩
      have F1 : Sec (Foot S w (wr.setCell ⟨b, i * 3, none⟩ (.int .i64 (k + (c : Int))))) := ⟨F0.out.set (g := b) (.inl hSb) (i * 3) (.int .i64 (k + (c : Int)))⟩
      have A2 : Sec (Kd.At kNetM ((wr.setCell ⟨b, i * 3, none⟩ (.int .i64 (k + (c : Int)))).setCell ⟨b, i * 3 + 1, none⟩ (.bool (decide ((k + (c : Int) + 1) % 3 = 0)))) S b t.length cp L i ⟨k + (c : Int), decide ((k + (c : Int) + 1) % 3 = 0), x.bytes⟩ [.int .i64 (k + (c : Int)), .bool (decide ((k + (c : Int) + 1) % 3 = 0)), v2]) := ⟨Kd.At.store (e := (Kd.bool 4)) A1.out kNetM_f_bent rfl (decide ((k + (c : Int) + 1) % 3 = 0)) (.bool (decide ((k + (c : Int) + 1) % 3 = 0))) (fun _ _ => ⟨rfl, trivial⟩)⟩
      have F2 : Sec (Foot S w ((wr.setCell ⟨b, i * 3, none⟩ (.int .i64 (k + (c : Int)))).setCell ⟨b, i * 3 + 1, none⟩ (.bool (decide ((k + (c : Int) + 1) % 3 = 0))))) := ⟨F1.out.set (g := b) (.inl hSb) (i * 3 + 1) (.bool (decide ((k + (c : Int) + 1) % 3 = 0)))⟩
      obtain ⟨S2, r2, hs2, bk2⟩ := Kd.At.sub A2.out kNetM_f_bytes (v := v2) rfl
      have SR2 := Sec.mk r2
      have SS2 := Sec.mk hs2
      have BK2 := Sec.mk bk2
      clear r2 hs2 bk2
      have T0 : Sec True := ⟨trivial⟩
      go_wp2_with (first | (clear T0; go_at_call 38; have T1 : Sec True := ⟨trivial⟩; refine (markSByte_c v2 x.bytes S2 (k + (c : Int) + 1 + 1) (by omega) (by omega) _ SR2.out).mono ?_; rintro e w1 ⟨rfl, hR', hF'⟩; have A3 : Sec (Kd.At kNetM w1 S b t.length cp L i ⟨k + (c : Int), decide ((k + (c : Int) + 1) % 3 = 0), (mByte.mks x.bytes (k + (c : Int) + 1 + 1))⟩ [.int .i64 (k + (c : Int)), .bool (decide ((k + (c : Int) + 1) % 3 = 0)), v2]) := ⟨BK2.out w1 _ hR' hF'⟩; have F3 : Sec (Foot S w w1) := ⟨F2.out.trans hF' (fun k _ h => (SS2.out k h).1)⟩; clear hR' hF'; clear c0_0 f0_0 c0_1 f0_1 c0_2 f0_2; have c1_0 : w1.cell? ⟨b, i * 3, none⟩ = some (.int .i64 (k + (c : Int))) := Kd.At.cell A3.out 0 _ rfl; have c1_1 : w1.cell? ⟨b, i * 3 + 1, none⟩ = some (.bool (decide ((k + (c : Int) + 1) % 3 = 0))) := Kd.At.cell A3.out 1 _ rfl; have c1_2 : w1.cell? ⟨b, i * 3 + 2, none⟩ = some (v2) := Kd.At.cell A3.out 2 _ rfl; have f1_0 : w1.frozen? ⟨b, i * 3, none⟩ = false := Kd.At.frozen A3.out (i * 3); have f1_1 : w1.frozen? ⟨b, i * 3 + 1, none⟩ = false := Kd.At.frozen A3.out (i * 3 + 1); have f1_2 : w1.frozen? ⟨b, i * 3 + 2, none⟩ = false := Kd.At.frozen A3.out (i * 3 + 2)))
      go_roundw
      case rel => exact ⟨i + 1, by omega, by go_num, by rw [HN1.out, hcx.out]; congr 1; omega, ⟨by rw [← hnext.out]; exact A3.out.R⟩, F3⟩
      case measure => simp [intOf]; omega
    · have hfin : Sec (mNetM.mks (t.take i) k ++ t.drop i = mNetM.mks t k) := ⟨by rw [List.take_of_length_le (by omega), List.drop_of_length_le (by omega), List.append_nil]⟩
      have hM2 := hM.out
      rw [hfin.out] at hM2
      have HM2 := Sec.mk hM2
      have hi2 : Sec (k + ↑(mNetM.cnts (t.take i)) = k + ↑(mNetM.cnts t)) := ⟨by rw [List.take_of_length_le (by omega)]⟩
      clear hM2 hM hfin
      go_wp2
      go_ret
      exact ⟨ri hi2.out, HM2.out, hF.out⟩
set_option maxHeartbeats 2000000 in
theorem heldSNetM_c (v : Value) (t : List NetM) (ok : Nat → Prop) (k : Int) (hk : 0 ≤ k) (hk2 : k + mNetM.cnts t ≤ 1000000000000000000) (w : World) (hV : kNetM.V w ok v (mNetM.mks t k)) :
    Calls Tryz.prog 90 #[v, .int .i64 k] w fun e w' => e = .returned (.int .i64 (k + mNetM.cnts t)) ∧ Below w.heap.size w w' := by
  obtain ⟨A, cp, rfl, g1, g2, g3, hC, _⟩ := hV
  rw [Mk.mks_len] at g1 g3
  rw [Mk.mks_len]
  have HC := Sec.mk hC
  have hu := Tryz.underlying211
  clear hC
  have HN := Sec.mk (mNetM.cnts_take t)
  have HM := Sec.mk (mNetM.cnts_le t)
  have HG := Sec.mk (mNetM.get t k)
  have HLn := Sec.mk (mNetM.mks_len t k)
  go_enter Tryz.func90, Tryz.ntmps90
  go_wp2
  go_loopw [1, 5] (fun kv iv wr => ∃ i : Nat, i ≤ t.length ∧ iv = .int .i64 i ∧ kv = .int .i64 (k + ↑(mNetM.cnts (t.take i))) ∧ Sec (Below w.heap.size w wr)) (fun _ iv _ => t.length - (intOf iv).toNat)
  case atStart => exact ⟨0, Nat.zero_le _, rfl, by simp [Mk.cnts], ⟨Below.refl _ _⟩⟩
  case round =>
    obtain ⟨i, hi, rfl, rfl, hb⟩ := hrel
    by_cases hlt : i < t.length
    · obtain ⟨b, off, cs, rfl, hob, hK, hc⟩ := Kd.C_get HC.out (List.getElem?_eq_getElem (by rw [HLn.out]; exact hlt))
      rw [HG.out i hlt] at hK
      have hn1 := HN.out i hlt
      have hn2 := HM.out (i + 1)
      rw [hn1] at hn2
      have HN1 := Sec.mk hn1
      clear hn1
      generalize t[i] = x at *
      generalize mNetM.cnts (t.take i) = c at *
      have hcx : Sec (mNetM.cnt x = _) := ⟨mNetM_cnt x⟩
      rw [mNetM_cnt x] at hn2
      obtain ⟨v2, rfl, h2⟩ := kNetM_K hK
      have hat : Sec (∀ W : World, Below w.heap.size w W → W.cell? ⟨b, off + i * 3, none⟩ = some (.int .i64 (k + (c : Int))) ∧ W.cell? ⟨b, off + i * 3 + 1, none⟩ = some (.bool (decide ((k + (c : Int) + 1) % 3 = 0))) ∧ W.cell? ⟨b, off + i * 3 + 2, none⟩ = some (v2)) := ⟨fun W h => ⟨Raw.cell_below h (hc 0 _ rfl), Raw.cell_below h (hc 1 _ rfl), Raw.cell_below h (hc 2 _ rfl)⟩⟩
      have i0 : (0 : Int) ≤ (i : Int) := by omega
      have i1 : (i : Int) < (t.length : Int) := by omega
      have H2 : Sec (kByte.V w ok v2 (mByte.mks x.bytes (k + (c : Int) + 1 + 1))) := ⟨h2⟩
      clear h2
      clear hc hK
      have d3_1 : (decide ((k + (c : Int) + 1) % 3 = 0) == ((k + (c : Int) + 1) % 3 == 0)) = true := by by_cases h : (k + (c : Int) + 1) % 3 = 0 <;> simp [h]
      obtain ⟨c0, c1, c2⟩ := hat.out _ hb.out
      have B0 := hb
      have T0 : Sec True := ⟨trivial⟩
      go_wp2_with (first | (clear T0; go_at_call 39; have T1 : Sec True := ⟨trivial⟩; refine (heldSByte_c v2 x.bytes ok (k + (c : Int) + 1 + 1) (by omega) (by omega) _ (Kd.V_below H2.out B0.out (by decide))).mono ?_; rintro e w1 ⟨rfl, hb1⟩; have B1 := Sec.mk (bel B0.out hb1); clear hb1 c0 c1 c2; obtain ⟨c0, c1, c2⟩ := hat.out _ B1.out))
      go_roundw
      case rel => exact ⟨i + 1, by omega, by go_num, by rw [HN1.out, hcx.out]; congr 1; omega, B1⟩
      case measure => simp [intOf]; omega
    · have hi2 : Sec (k + ↑(mNetM.cnts (t.take i)) = k + ↑(mNetM.cnts t)) := ⟨by rw [List.take_of_length_le (by omega)]⟩
      go_wp2
      go_ret
      exact ⟨ri hi2.out, hb.out⟩
def mNetMt : Mk NetM := ⟨fun x => mByte.cnts x.bytes, fun x k => ⟨x.to, x.bent, mByte.mks x.bytes (k)⟩⟩
end
section
open Go.RowKit
set_option linter.unusedVariables false
set_option maxRecDepth 100000
def kWorld : Kd World_ := Kd.iso 57 (Kd.pair kProg (Kd.pair (Kd.slice 53 kNode (by decide)) (Kd.pair (Kd.slice 23 kCell (by decide)) (Kd.pair (Kd.slice 54 kSOut (by decide)) (Kd.slice 55 kNetM (by decide)))))) (fun x => (x.prog, x.nodes, x.top, x.outs, x.net))
theorem kWorld_K {w : World} {ok : Nat → Prop} {x : World_} {cs : List Value} (h : kWorld.K w ok x cs) : ∃ v0 v1 v2 v3 v4 v5, cs = [v0, v1, v2, v3, v4, v5] ∧ kClause.V w ok v0 x.prog.clauses ∧ kPlace.V w ok v1 x.prog.places ∧ kNode.V w ok v2 x.nodes ∧ kCell.V w ok v3 x.top ∧ kSOut.V w ok v4 x.outs ∧ kNetM.V w ok v5 x.net := by
  obtain ⟨_, _, rfl, g0, ⟨_, _, rfl, ⟨v2, rfl, h2⟩, ⟨_, _, rfl, ⟨v3, rfl, h3⟩, ⟨_, _, rfl, ⟨v4, rfl, h4⟩, ⟨v5, rfl, h5⟩⟩⟩⟩⟩ := h
  obtain ⟨v0, v1, rfl, h0, h1⟩ := kProg_K g0
  exact ⟨v0, v1, v2, v3, v4, v5, rfl, h0, h1, h2, h3, h4, h5⟩
theorem World_.ext_iff (a b : World_) : a = b ↔ a.prog = b.prog ∧ a.nodes = b.nodes ∧ a.top = b.top ∧ a.outs = b.outs ∧ a.net = b.net := by
  cases a; cases b; simp
instance : DecidableEq World_ := fun a b => decidable_of_iff _ (World_.ext_iff a b).symm
def zeroWorld : World_ := ⟨⟨[], []⟩, [], [], [], []⟩
theorem kWorld_f_prog : Kd.Fld kWorld kProg 0 (fun x => x.prog) (fun x y => { x with prog := y }) := Kd.Fld.iso _ (Kd.Fld.fst (Kd.Fld.self _)) (fun _ _ => rfl)
theorem kWorld_f_nodes : Kd.Fld kWorld (Kd.slice 53 kNode (by decide)) 2 (fun x => x.nodes) (fun x y => { x with nodes := y }) := Kd.Fld.iso _ (Kd.Fld.snd (Kd.Fld.fst (Kd.Fld.self _))) (fun _ _ => rfl)
theorem kWorld_f_top : Kd.Fld kWorld (Kd.slice 23 kCell (by decide)) 3 (fun x => x.top) (fun x y => { x with top := y }) := Kd.Fld.iso _ (Kd.Fld.snd (Kd.Fld.snd (Kd.Fld.fst (Kd.Fld.self _)))) (fun _ _ => rfl)
theorem kWorld_f_outs : Kd.Fld kWorld (Kd.slice 54 kSOut (by decide)) 4 (fun x => x.outs) (fun x y => { x with outs := y }) := Kd.Fld.iso _ (Kd.Fld.snd (Kd.Fld.snd (Kd.Fld.snd (Kd.Fld.fst (Kd.Fld.self _))))) (fun _ _ => rfl)
theorem kWorld_f_net : Kd.Fld kWorld (Kd.slice 55 kNetM (by decide)) 5 (fun x => x.net) (fun x y => { x with net := y }) := Kd.Fld.iso _ (Kd.Fld.snd (Kd.Fld.snd (Kd.Fld.snd (Kd.Fld.snd (Kd.Fld.self _))))) (fun _ _ => rfl)
set_option maxHeartbeats 2000000 in
theorem eqWldWorld_c (x y : World_) (cs ds : List Value) (ok ok' : Nat → Prop) (w : World) (hK : kWorld.K w ok x cs) (hD : kWorld.K w ok' y ds) :
    Calls Tryz.prog 24 #[.agg cs.toArray, .agg ds.toArray] w fun e w' => e = .returned (.bool (decide (x = y))) ∧ Below w.heap.size w w' := by
  obtain ⟨_, _, rfl, hg0, ⟨_, _, rfl, ⟨v2, rfl, h2⟩, ⟨_, _, rfl, ⟨v3, rfl, h3⟩, ⟨_, _, rfl, ⟨v4, rfl, h4⟩, ⟨v5, rfl, h5⟩⟩⟩⟩⟩ := hK
  have H0 := Sec.mk hg0
  obtain ⟨v0, v1, rfl, -, -⟩ := kProg_K hg0
  clear hg0
  have H2 := Sec.mk h2
  clear h2
  have H3 := Sec.mk h3
  clear h3
  have H4 := Sec.mk h4
  clear h4
  have H5 := Sec.mk h5
  clear h5
  obtain ⟨_, _, rfl, gg0, ⟨_, _, rfl, ⟨u2, rfl, g2⟩, ⟨_, _, rfl, ⟨u3, rfl, g3⟩, ⟨_, _, rfl, ⟨u4, rfl, g4⟩, ⟨u5, rfl, g5⟩⟩⟩⟩⟩ := hD
  have G0 := Sec.mk gg0
  obtain ⟨u0, u1, rfl, -, -⟩ := kProg_K gg0
  clear gg0
  have G2 := Sec.mk g2
  clear g2
  have G3 := Sec.mk g3
  clear g3
  have G4 := Sec.mk g4
  clear g4
  have G5 := Sec.mk g5
  clear g5
  have hu := Tryz.underlying57
  have hxy := Sec.mk (World_.ext_iff x y)
  have T0 : Sec True := ⟨trivial⟩
  by_cases h0 : x.prog = y.prog
  · have E0 := Sec.mk h0
    have d0 : decide (x.prog = y.prog) = true := decide_eq_true h0
    clear h0
    by_cases h1 : x.nodes = y.nodes
    · have E1 := Sec.mk h1
      have d1 : decide (x.nodes = y.nodes) = true := decide_eq_true h1
      clear h1
      by_cases h2 : x.top = y.top
      · have E2 := Sec.mk h2
        have d2 : decide (x.top = y.top) = true := decide_eq_true h2
        clear h2
        by_cases h3 : x.outs = y.outs
        · have E3 := Sec.mk h3
          have d3 : decide (x.outs = y.outs) = true := decide_eq_true h3
          clear h3
          by_cases h4 : x.net = y.net
          · have E4 := Sec.mk h4
            have d4 : decide (x.net = y.net) = true := decide_eq_true h4
            clear h4
            have hd : Sec (decide (x = y) = true) := ⟨by rw [decide_eq_true_eq, hxy.out]; exact ⟨E0.out, E1.out, E2.out, E3.out, E4.out⟩⟩
            go_enter Tryz.func24, Tryz.ntmps24
            go_wp2_with (first | (clear T4; go_at_call 76; have T5 : Sec True := ⟨trivial⟩; refine (eqSNetM_c v5 u5 x.net y.net ok ok' _ (Kd.V_below H5.out B4.out (by decide)) (Kd.V_below G5.out B4.out (by decide))).mono ?_; rintro e w5 ⟨rfl, hb1⟩; rw [d4]; have B5 := Sec.mk (bel B4.out hb1); have X := box_cells (b := w.heap.size) (cs := #[v0, v1, v2, v3, v4, v5]) (t := 57) hb1 P4.out.1; have p5_5 := X.2.1 5 _ rfl; have P5 := Sec.mk X; clear X; have X := box_cells (b := w.heap.size + 1) (cs := #[u0, u1, u2, u3, u4, u5]) (t := 57) hb1 Q4.out.1; have q5_5 := X.2.1 5 _ rfl; have Q5 := Sec.mk X; clear X hb1) | (clear T3; go_at_call 75; have T4 : Sec True := ⟨trivial⟩; refine (eqSSOut_c v4 u4 x.outs y.outs ok ok' _ (Kd.V_below H4.out B3.out (by decide)) (Kd.V_below G4.out B3.out (by decide))).mono ?_; rintro e w4 ⟨rfl, hb1⟩; rw [d3]; have B4 := Sec.mk (bel B3.out hb1); have X := box_cells (b := w.heap.size) (cs := #[v0, v1, v2, v3, v4, v5]) (t := 57) hb1 P3.out.1; have p4_4 := X.2.1 4 _ rfl; have p4_5 := X.2.1 5 _ rfl; have P4 := Sec.mk X; clear X; have X := box_cells (b := w.heap.size + 1) (cs := #[u0, u1, u2, u3, u4, u5]) (t := 57) hb1 Q3.out.1; have q4_4 := X.2.1 4 _ rfl; have q4_5 := X.2.1 5 _ rfl; have Q4 := Sec.mk X; clear X hb1) | (clear T2; go_at_call 26; have T3 : Sec True := ⟨trivial⟩; refine (eqSCell_c v3 u3 x.top y.top ok ok' _ (Kd.V_below H3.out B2.out (by decide)) (Kd.V_below G3.out B2.out (by decide))).mono ?_; rintro e w3 ⟨rfl, hb1⟩; rw [d2]; have B3 := Sec.mk (bel B2.out hb1); have X := box_cells (b := w.heap.size) (cs := #[v0, v1, v2, v3, v4, v5]) (t := 57) hb1 P2.out.1; have p3_3 := X.2.1 3 _ rfl; have p3_4 := X.2.1 4 _ rfl; have p3_5 := X.2.1 5 _ rfl; have P3 := Sec.mk X; clear X; have X := box_cells (b := w.heap.size + 1) (cs := #[u0, u1, u2, u3, u4, u5]) (t := 57) hb1 Q2.out.1; have q3_3 := X.2.1 3 _ rfl; have q3_4 := X.2.1 4 _ rfl; have q3_5 := X.2.1 5 _ rfl; have Q3 := Sec.mk X; clear X hb1) | (clear T1; go_at_call 74; have T2 : Sec True := ⟨trivial⟩; refine (eqSNode_c v2 u2 x.nodes y.nodes ok ok' _ (Kd.V_below H2.out B1.out (by decide)) (Kd.V_below G2.out B1.out (by decide))).mono ?_; rintro e w2 ⟨rfl, hb1⟩; rw [d1]; have B2 := Sec.mk (bel B1.out hb1); have X := box_cells (b := w.heap.size) (cs := #[v0, v1, v2, v3, v4, v5]) (t := 57) hb1 P1.out.1; have p2_2 := X.2.1 2 _ rfl; have p2_3 := X.2.1 3 _ rfl; have p2_4 := X.2.1 4 _ rfl; have p2_5 := X.2.1 5 _ rfl; have P2 := Sec.mk X; clear X; have X := box_cells (b := w.heap.size + 1) (cs := #[u0, u1, u2, u3, u4, u5]) (t := 57) hb1 Q1.out.1; have q2_2 := X.2.1 2 _ rfl; have q2_3 := X.2.1 3 _ rfl; have q2_4 := X.2.1 4 _ rfl; have q2_5 := X.2.1 5 _ rfl; have Q2 := Sec.mk X; clear X hb1) | (clear T0; go_at_call 25; have T1 : Sec True := ⟨trivial⟩; refine (eqPrgProg_c x.prog y.prog _ _ ok ok' _ (Kd.K_below H0.out (belA (belA (Below.refl _ _) _) _)) (Kd.K_below G0.out (belA (belA (Below.refl _ _) _) _))).mono ?_; rintro e w1 ⟨rfl, hb1⟩; rw [d0]; have B1 := Sec.mk (bel (belA (belA (Below.refl _ _) _) _) hb1); have X := box_cells (b := w.heap.size) (cs := #[v0, v1, v2, v3, v4, v5]) (t := 57) hb1 (box2 _ _ _).1; have p1_0 := X.2.1 0 _ rfl; have p1_1 := X.2.1 1 _ rfl; have p1_2 := X.2.1 2 _ rfl; have p1_3 := X.2.1 3 _ rfl; have p1_4 := X.2.1 4 _ rfl; have p1_5 := X.2.1 5 _ rfl; have P1 := Sec.mk X; clear X; have X := box_cells (b := w.heap.size + 1) (cs := #[u0, u1, u2, u3, u4, u5]) (t := 57) hb1 (box2 _ _ _).2; have q1_0 := X.2.1 0 _ rfl; have q1_1 := X.2.1 1 _ rfl; have q1_2 := X.2.1 2 _ rfl; have q1_3 := X.2.1 3 _ rfl; have q1_4 := X.2.1 4 _ rfl; have q1_5 := X.2.1 5 _ rfl; have Q1 := Sec.mk X; clear X hb1))
            go_ret
            exact ⟨rb hd.out.symm, B5.out⟩
          · have hd : Sec (decide (x = y) = false) := ⟨by rw [decide_eq_false_iff_not, hxy.out]; exact fun h => h4 h.2.2.2.2⟩
            have d4 : decide (x.net = y.net) = false := decide_eq_false h4
            clear h4
            go_enter Tryz.func24, Tryz.ntmps24
            go_wp2_with (first | (clear T4; go_at_call 76; have T5 : Sec True := ⟨trivial⟩; refine (eqSNetM_c v5 u5 x.net y.net ok ok' _ (Kd.V_below H5.out B4.out (by decide)) (Kd.V_below G5.out B4.out (by decide))).mono ?_; rintro e w5 ⟨rfl, hb1⟩; rw [d4]; have B5 := Sec.mk (bel B4.out hb1); have X := box_cells (b := w.heap.size) (cs := #[v0, v1, v2, v3, v4, v5]) (t := 57) hb1 P4.out.1; have p5_5 := X.2.1 5 _ rfl; have P5 := Sec.mk X; clear X; have X := box_cells (b := w.heap.size + 1) (cs := #[u0, u1, u2, u3, u4, u5]) (t := 57) hb1 Q4.out.1; have q5_5 := X.2.1 5 _ rfl; have Q5 := Sec.mk X; clear X hb1) | (clear T3; go_at_call 75; have T4 : Sec True := ⟨trivial⟩; refine (eqSSOut_c v4 u4 x.outs y.outs ok ok' _ (Kd.V_below H4.out B3.out (by decide)) (Kd.V_below G4.out B3.out (by decide))).mono ?_; rintro e w4 ⟨rfl, hb1⟩; rw [d3]; have B4 := Sec.mk (bel B3.out hb1); have X := box_cells (b := w.heap.size) (cs := #[v0, v1, v2, v3, v4, v5]) (t := 57) hb1 P3.out.1; have p4_4 := X.2.1 4 _ rfl; have p4_5 := X.2.1 5 _ rfl; have P4 := Sec.mk X; clear X; have X := box_cells (b := w.heap.size + 1) (cs := #[u0, u1, u2, u3, u4, u5]) (t := 57) hb1 Q3.out.1; have q4_4 := X.2.1 4 _ rfl; have q4_5 := X.2.1 5 _ rfl; have Q4 := Sec.mk X; clear X hb1) | (clear T2; go_at_call 26; have T3 : Sec True := ⟨trivial⟩; refine (eqSCell_c v3 u3 x.top y.top ok ok' _ (Kd.V_below H3.out B2.out (by decide)) (Kd.V_below G3.out B2.out (by decide))).mono ?_; rintro e w3 ⟨rfl, hb1⟩; rw [d2]; have B3 := Sec.mk (bel B2.out hb1); have X := box_cells (b := w.heap.size) (cs := #[v0, v1, v2, v3, v4, v5]) (t := 57) hb1 P2.out.1; have p3_3 := X.2.1 3 _ rfl; have p3_4 := X.2.1 4 _ rfl; have p3_5 := X.2.1 5 _ rfl; have P3 := Sec.mk X; clear X; have X := box_cells (b := w.heap.size + 1) (cs := #[u0, u1, u2, u3, u4, u5]) (t := 57) hb1 Q2.out.1; have q3_3 := X.2.1 3 _ rfl; have q3_4 := X.2.1 4 _ rfl; have q3_5 := X.2.1 5 _ rfl; have Q3 := Sec.mk X; clear X hb1) | (clear T1; go_at_call 74; have T2 : Sec True := ⟨trivial⟩; refine (eqSNode_c v2 u2 x.nodes y.nodes ok ok' _ (Kd.V_below H2.out B1.out (by decide)) (Kd.V_below G2.out B1.out (by decide))).mono ?_; rintro e w2 ⟨rfl, hb1⟩; rw [d1]; have B2 := Sec.mk (bel B1.out hb1); have X := box_cells (b := w.heap.size) (cs := #[v0, v1, v2, v3, v4, v5]) (t := 57) hb1 P1.out.1; have p2_2 := X.2.1 2 _ rfl; have p2_3 := X.2.1 3 _ rfl; have p2_4 := X.2.1 4 _ rfl; have p2_5 := X.2.1 5 _ rfl; have P2 := Sec.mk X; clear X; have X := box_cells (b := w.heap.size + 1) (cs := #[u0, u1, u2, u3, u4, u5]) (t := 57) hb1 Q1.out.1; have q2_2 := X.2.1 2 _ rfl; have q2_3 := X.2.1 3 _ rfl; have q2_4 := X.2.1 4 _ rfl; have q2_5 := X.2.1 5 _ rfl; have Q2 := Sec.mk X; clear X hb1) | (clear T0; go_at_call 25; have T1 : Sec True := ⟨trivial⟩; refine (eqPrgProg_c x.prog y.prog _ _ ok ok' _ (Kd.K_below H0.out (belA (belA (Below.refl _ _) _) _)) (Kd.K_below G0.out (belA (belA (Below.refl _ _) _) _))).mono ?_; rintro e w1 ⟨rfl, hb1⟩; rw [d0]; have B1 := Sec.mk (bel (belA (belA (Below.refl _ _) _) _) hb1); have X := box_cells (b := w.heap.size) (cs := #[v0, v1, v2, v3, v4, v5]) (t := 57) hb1 (box2 _ _ _).1; have p1_0 := X.2.1 0 _ rfl; have p1_1 := X.2.1 1 _ rfl; have p1_2 := X.2.1 2 _ rfl; have p1_3 := X.2.1 3 _ rfl; have p1_4 := X.2.1 4 _ rfl; have p1_5 := X.2.1 5 _ rfl; have P1 := Sec.mk X; clear X; have X := box_cells (b := w.heap.size + 1) (cs := #[u0, u1, u2, u3, u4, u5]) (t := 57) hb1 (box2 _ _ _).2; have q1_0 := X.2.1 0 _ rfl; have q1_1 := X.2.1 1 _ rfl; have q1_2 := X.2.1 2 _ rfl; have q1_3 := X.2.1 3 _ rfl; have q1_4 := X.2.1 4 _ rfl; have q1_5 := X.2.1 5 _ rfl; have Q1 := Sec.mk X; clear X hb1))
            go_ret
            exact ⟨rb hd.out.symm, B5.out⟩
        · have hd : Sec (decide (x = y) = false) := ⟨by rw [decide_eq_false_iff_not, hxy.out]; exact fun h => h3 h.2.2.2.1⟩
          have d3 : decide (x.outs = y.outs) = false := decide_eq_false h3
          clear h3
          go_enter Tryz.func24, Tryz.ntmps24
          go_wp2_with (first | (clear T3; go_at_call 75; have T4 : Sec True := ⟨trivial⟩; refine (eqSSOut_c v4 u4 x.outs y.outs ok ok' _ (Kd.V_below H4.out B3.out (by decide)) (Kd.V_below G4.out B3.out (by decide))).mono ?_; rintro e w4 ⟨rfl, hb1⟩; rw [d3]; have B4 := Sec.mk (bel B3.out hb1); have X := box_cells (b := w.heap.size) (cs := #[v0, v1, v2, v3, v4, v5]) (t := 57) hb1 P3.out.1; have p4_4 := X.2.1 4 _ rfl; have p4_5 := X.2.1 5 _ rfl; have P4 := Sec.mk X; clear X; have X := box_cells (b := w.heap.size + 1) (cs := #[u0, u1, u2, u3, u4, u5]) (t := 57) hb1 Q3.out.1; have q4_4 := X.2.1 4 _ rfl; have q4_5 := X.2.1 5 _ rfl; have Q4 := Sec.mk X; clear X hb1) | (clear T2; go_at_call 26; have T3 : Sec True := ⟨trivial⟩; refine (eqSCell_c v3 u3 x.top y.top ok ok' _ (Kd.V_below H3.out B2.out (by decide)) (Kd.V_below G3.out B2.out (by decide))).mono ?_; rintro e w3 ⟨rfl, hb1⟩; rw [d2]; have B3 := Sec.mk (bel B2.out hb1); have X := box_cells (b := w.heap.size) (cs := #[v0, v1, v2, v3, v4, v5]) (t := 57) hb1 P2.out.1; have p3_3 := X.2.1 3 _ rfl; have p3_4 := X.2.1 4 _ rfl; have p3_5 := X.2.1 5 _ rfl; have P3 := Sec.mk X; clear X; have X := box_cells (b := w.heap.size + 1) (cs := #[u0, u1, u2, u3, u4, u5]) (t := 57) hb1 Q2.out.1; have q3_3 := X.2.1 3 _ rfl; have q3_4 := X.2.1 4 _ rfl; have q3_5 := X.2.1 5 _ rfl; have Q3 := Sec.mk X; clear X hb1) | (clear T1; go_at_call 74; have T2 : Sec True := ⟨trivial⟩; refine (eqSNode_c v2 u2 x.nodes y.nodes ok ok' _ (Kd.V_below H2.out B1.out (by decide)) (Kd.V_below G2.out B1.out (by decide))).mono ?_; rintro e w2 ⟨rfl, hb1⟩; rw [d1]; have B2 := Sec.mk (bel B1.out hb1); have X := box_cells (b := w.heap.size) (cs := #[v0, v1, v2, v3, v4, v5]) (t := 57) hb1 P1.out.1; have p2_2 := X.2.1 2 _ rfl; have p2_3 := X.2.1 3 _ rfl; have p2_4 := X.2.1 4 _ rfl; have p2_5 := X.2.1 5 _ rfl; have P2 := Sec.mk X; clear X; have X := box_cells (b := w.heap.size + 1) (cs := #[u0, u1, u2, u3, u4, u5]) (t := 57) hb1 Q1.out.1; have q2_2 := X.2.1 2 _ rfl; have q2_3 := X.2.1 3 _ rfl; have q2_4 := X.2.1 4 _ rfl; have q2_5 := X.2.1 5 _ rfl; have Q2 := Sec.mk X; clear X hb1) | (clear T0; go_at_call 25; have T1 : Sec True := ⟨trivial⟩; refine (eqPrgProg_c x.prog y.prog _ _ ok ok' _ (Kd.K_below H0.out (belA (belA (Below.refl _ _) _) _)) (Kd.K_below G0.out (belA (belA (Below.refl _ _) _) _))).mono ?_; rintro e w1 ⟨rfl, hb1⟩; rw [d0]; have B1 := Sec.mk (bel (belA (belA (Below.refl _ _) _) _) hb1); have X := box_cells (b := w.heap.size) (cs := #[v0, v1, v2, v3, v4, v5]) (t := 57) hb1 (box2 _ _ _).1; have p1_0 := X.2.1 0 _ rfl; have p1_1 := X.2.1 1 _ rfl; have p1_2 := X.2.1 2 _ rfl; have p1_3 := X.2.1 3 _ rfl; have p1_4 := X.2.1 4 _ rfl; have p1_5 := X.2.1 5 _ rfl; have P1 := Sec.mk X; clear X; have X := box_cells (b := w.heap.size + 1) (cs := #[u0, u1, u2, u3, u4, u5]) (t := 57) hb1 (box2 _ _ _).2; have q1_0 := X.2.1 0 _ rfl; have q1_1 := X.2.1 1 _ rfl; have q1_2 := X.2.1 2 _ rfl; have q1_3 := X.2.1 3 _ rfl; have q1_4 := X.2.1 4 _ rfl; have q1_5 := X.2.1 5 _ rfl; have Q1 := Sec.mk X; clear X hb1))
          go_ret
          exact ⟨rb hd.out.symm, B4.out⟩
      · have hd : Sec (decide (x = y) = false) := ⟨by rw [decide_eq_false_iff_not, hxy.out]; exact fun h => h2 h.2.2.1⟩
        have d2 : decide (x.top = y.top) = false := decide_eq_false h2
        clear h2
        go_enter Tryz.func24, Tryz.ntmps24
        go_wp2_with (first | (clear T2; go_at_call 26; have T3 : Sec True := ⟨trivial⟩; refine (eqSCell_c v3 u3 x.top y.top ok ok' _ (Kd.V_below H3.out B2.out (by decide)) (Kd.V_below G3.out B2.out (by decide))).mono ?_; rintro e w3 ⟨rfl, hb1⟩; rw [d2]; have B3 := Sec.mk (bel B2.out hb1); have X := box_cells (b := w.heap.size) (cs := #[v0, v1, v2, v3, v4, v5]) (t := 57) hb1 P2.out.1; have p3_3 := X.2.1 3 _ rfl; have p3_4 := X.2.1 4 _ rfl; have p3_5 := X.2.1 5 _ rfl; have P3 := Sec.mk X; clear X; have X := box_cells (b := w.heap.size + 1) (cs := #[u0, u1, u2, u3, u4, u5]) (t := 57) hb1 Q2.out.1; have q3_3 := X.2.1 3 _ rfl; have q3_4 := X.2.1 4 _ rfl; have q3_5 := X.2.1 5 _ rfl; have Q3 := Sec.mk X; clear X hb1) | (clear T1; go_at_call 74; have T2 : Sec True := ⟨trivial⟩; refine (eqSNode_c v2 u2 x.nodes y.nodes ok ok' _ (Kd.V_below H2.out B1.out (by decide)) (Kd.V_below G2.out B1.out (by decide))).mono ?_; rintro e w2 ⟨rfl, hb1⟩; rw [d1]; have B2 := Sec.mk (bel B1.out hb1); have X := box_cells (b := w.heap.size) (cs := #[v0, v1, v2, v3, v4, v5]) (t := 57) hb1 P1.out.1; have p2_2 := X.2.1 2 _ rfl; have p2_3 := X.2.1 3 _ rfl; have p2_4 := X.2.1 4 _ rfl; have p2_5 := X.2.1 5 _ rfl; have P2 := Sec.mk X; clear X; have X := box_cells (b := w.heap.size + 1) (cs := #[u0, u1, u2, u3, u4, u5]) (t := 57) hb1 Q1.out.1; have q2_2 := X.2.1 2 _ rfl; have q2_3 := X.2.1 3 _ rfl; have q2_4 := X.2.1 4 _ rfl; have q2_5 := X.2.1 5 _ rfl; have Q2 := Sec.mk X; clear X hb1) | (clear T0; go_at_call 25; have T1 : Sec True := ⟨trivial⟩; refine (eqPrgProg_c x.prog y.prog _ _ ok ok' _ (Kd.K_below H0.out (belA (belA (Below.refl _ _) _) _)) (Kd.K_below G0.out (belA (belA (Below.refl _ _) _) _))).mono ?_; rintro e w1 ⟨rfl, hb1⟩; rw [d0]; have B1 := Sec.mk (bel (belA (belA (Below.refl _ _) _) _) hb1); have X := box_cells (b := w.heap.size) (cs := #[v0, v1, v2, v3, v4, v5]) (t := 57) hb1 (box2 _ _ _).1; have p1_0 := X.2.1 0 _ rfl; have p1_1 := X.2.1 1 _ rfl; have p1_2 := X.2.1 2 _ rfl; have p1_3 := X.2.1 3 _ rfl; have p1_4 := X.2.1 4 _ rfl; have p1_5 := X.2.1 5 _ rfl; have P1 := Sec.mk X; clear X; have X := box_cells (b := w.heap.size + 1) (cs := #[u0, u1, u2, u3, u4, u5]) (t := 57) hb1 (box2 _ _ _).2; have q1_0 := X.2.1 0 _ rfl; have q1_1 := X.2.1 1 _ rfl; have q1_2 := X.2.1 2 _ rfl; have q1_3 := X.2.1 3 _ rfl; have q1_4 := X.2.1 4 _ rfl; have q1_5 := X.2.1 5 _ rfl; have Q1 := Sec.mk X; clear X hb1))
        go_ret
        exact ⟨rb hd.out.symm, B3.out⟩
    · have hd : Sec (decide (x = y) = false) := ⟨by rw [decide_eq_false_iff_not, hxy.out]; exact fun h => h1 h.2.1⟩
      have d1 : decide (x.nodes = y.nodes) = false := decide_eq_false h1
      clear h1
      go_enter Tryz.func24, Tryz.ntmps24
      go_wp2_with (first | (clear T1; go_at_call 74; have T2 : Sec True := ⟨trivial⟩; refine (eqSNode_c v2 u2 x.nodes y.nodes ok ok' _ (Kd.V_below H2.out B1.out (by decide)) (Kd.V_below G2.out B1.out (by decide))).mono ?_; rintro e w2 ⟨rfl, hb1⟩; rw [d1]; have B2 := Sec.mk (bel B1.out hb1); have X := box_cells (b := w.heap.size) (cs := #[v0, v1, v2, v3, v4, v5]) (t := 57) hb1 P1.out.1; have p2_2 := X.2.1 2 _ rfl; have p2_3 := X.2.1 3 _ rfl; have p2_4 := X.2.1 4 _ rfl; have p2_5 := X.2.1 5 _ rfl; have P2 := Sec.mk X; clear X; have X := box_cells (b := w.heap.size + 1) (cs := #[u0, u1, u2, u3, u4, u5]) (t := 57) hb1 Q1.out.1; have q2_2 := X.2.1 2 _ rfl; have q2_3 := X.2.1 3 _ rfl; have q2_4 := X.2.1 4 _ rfl; have q2_5 := X.2.1 5 _ rfl; have Q2 := Sec.mk X; clear X hb1) | (clear T0; go_at_call 25; have T1 : Sec True := ⟨trivial⟩; refine (eqPrgProg_c x.prog y.prog _ _ ok ok' _ (Kd.K_below H0.out (belA (belA (Below.refl _ _) _) _)) (Kd.K_below G0.out (belA (belA (Below.refl _ _) _) _))).mono ?_; rintro e w1 ⟨rfl, hb1⟩; rw [d0]; have B1 := Sec.mk (bel (belA (belA (Below.refl _ _) _) _) hb1); have X := box_cells (b := w.heap.size) (cs := #[v0, v1, v2, v3, v4, v5]) (t := 57) hb1 (box2 _ _ _).1; have p1_0 := X.2.1 0 _ rfl; have p1_1 := X.2.1 1 _ rfl; have p1_2 := X.2.1 2 _ rfl; have p1_3 := X.2.1 3 _ rfl; have p1_4 := X.2.1 4 _ rfl; have p1_5 := X.2.1 5 _ rfl; have P1 := Sec.mk X; clear X; have X := box_cells (b := w.heap.size + 1) (cs := #[u0, u1, u2, u3, u4, u5]) (t := 57) hb1 (box2 _ _ _).2; have q1_0 := X.2.1 0 _ rfl; have q1_1 := X.2.1 1 _ rfl; have q1_2 := X.2.1 2 _ rfl; have q1_3 := X.2.1 3 _ rfl; have q1_4 := X.2.1 4 _ rfl; have q1_5 := X.2.1 5 _ rfl; have Q1 := Sec.mk X; clear X hb1))
      go_ret
      exact ⟨rb hd.out.symm, B2.out⟩
  · have hd : Sec (decide (x = y) = false) := ⟨by rw [decide_eq_false_iff_not, hxy.out]; exact fun h => h0 h.1⟩
    have d0 : decide (x.prog = y.prog) = false := decide_eq_false h0
    clear h0
    go_enter Tryz.func24, Tryz.ntmps24
    go_wp2_with (first | (clear T0; go_at_call 25; have T1 : Sec True := ⟨trivial⟩; refine (eqPrgProg_c x.prog y.prog _ _ ok ok' _ (Kd.K_below H0.out (belA (belA (Below.refl _ _) _) _)) (Kd.K_below G0.out (belA (belA (Below.refl _ _) _) _))).mono ?_; rintro e w1 ⟨rfl, hb1⟩; rw [d0]; have B1 := Sec.mk (bel (belA (belA (Below.refl _ _) _) _) hb1); have X := box_cells (b := w.heap.size) (cs := #[v0, v1, v2, v3, v4, v5]) (t := 57) hb1 (box2 _ _ _).1; have p1_0 := X.2.1 0 _ rfl; have p1_1 := X.2.1 1 _ rfl; have p1_2 := X.2.1 2 _ rfl; have p1_3 := X.2.1 3 _ rfl; have p1_4 := X.2.1 4 _ rfl; have p1_5 := X.2.1 5 _ rfl; have P1 := Sec.mk X; clear X; have X := box_cells (b := w.heap.size + 1) (cs := #[u0, u1, u2, u3, u4, u5]) (t := 57) hb1 (box2 _ _ _).2; have q1_0 := X.2.1 0 _ rfl; have q1_1 := X.2.1 1 _ rfl; have q1_2 := X.2.1 2 _ rfl; have q1_3 := X.2.1 3 _ rfl; have q1_4 := X.2.1 4 _ rfl; have q1_5 := X.2.1 5 _ rfl; have Q1 := Sec.mk X; clear X hb1))
    go_ret
    exact ⟨rb hd.out.symm, B1.out⟩
def mWorld : Mk World_ := ⟨fun x => mClause.cnts x.prog.clauses + mPlace.cnts x.prog.places + mNode.cnts x.nodes + mCell.cnts x.top + mSOut.cnts x.outs + mNetM.cnts x.net, fun x k => ⟨⟨mClause.mks x.prog.clauses (k), mPlace.mks x.prog.places (k + ((mClause.cnts x.prog.clauses : Nat) : Int))⟩, mNode.mks x.nodes (k + ((mClause.cnts x.prog.clauses : Nat) : Int) + ((mPlace.cnts x.prog.places : Nat) : Int)), mCell.mks x.top (k + ((mClause.cnts x.prog.clauses : Nat) : Int) + ((mPlace.cnts x.prog.places : Nat) : Int) + ((mNode.cnts x.nodes : Nat) : Int)), mSOut.mks x.outs (k + ((mClause.cnts x.prog.clauses : Nat) : Int) + ((mPlace.cnts x.prog.places : Nat) : Int) + ((mNode.cnts x.nodes : Nat) : Int) + ((mCell.cnts x.top : Nat) : Int)), mNetM.mks x.net (k + ((mClause.cnts x.prog.clauses : Nat) : Int) + ((mPlace.cnts x.prog.places : Nat) : Int) + ((mNode.cnts x.nodes : Nat) : Int) + ((mCell.cnts x.top : Nat) : Int) + ((mSOut.cnts x.outs : Nat) : Int))⟩⟩
def mWorldt : Mk World_ := ⟨fun x => mProgt.cnt x.prog + mNode.cnts x.nodes + mCell.cnts x.top + mSOut.cnts x.outs + mNetM.cnts x.net, fun x k => ⟨mProgt.one x.prog (k), mNode.mks x.nodes (k + ((mProgt.cnt x.prog : Nat) : Int)), mCell.mks x.top (k + ((mProgt.cnt x.prog : Nat) : Int) + ((mNode.cnts x.nodes : Nat) : Int)), mSOut.mks x.outs (k + ((mProgt.cnt x.prog : Nat) : Int) + ((mNode.cnts x.nodes : Nat) : Int) + ((mCell.cnts x.top : Nat) : Int)), mNetM.mks x.net (k + ((mProgt.cnt x.prog : Nat) : Int) + ((mNode.cnts x.nodes : Nat) : Int) + ((mCell.cnts x.top : Nat) : Int) + ((mSOut.cnts x.outs : Nat) : Int))⟩⟩
theorem mWorldt_cnt (x : World_) : mWorldt.cnt x = mProgt.cnt x.prog + mNode.cnts x.nodes + mCell.cnts x.top + mSOut.cnts x.outs + mNetM.cnts x.net := rfl
set_option maxHeartbeats 2000000 in
theorem markWldWorld_c (x : World_) (cs : List Value) (S : Nat → Prop) (k : Int) (hk : 0 ≤ k) (hk2 : k + mWorldt.cnt x ≤ 1000000000000000000) (w : World) (hO : kWorld.O w S x cs) :
    Calls Tryz.prog 29 #[.agg cs.toArray, .int .i64 k] w fun e w' => e = .returned (.int .i64 (k + mWorldt.cnt x)) ∧ kWorld.O w' S (mWorldt.one x k) cs ∧ Foot S w w' := by
  have hOw := Kd.O_below (kWorld.O_mono hO (S1 := fun k => S k ∧ k < w.heap.size) (fun k h1 h2 => ⟨h1, h2⟩)) (belA (Below.refl _ _) (.cells cs.toArray 57))
  obtain ⟨v0, v1, v2, v3, v4, v5, rfl, -, -, -, -, -, -⟩ := kWorld_K (kWorld.O_K hO)
  have hu := Tryz.underlying57
  have hcx : Sec (mWorldt.cnt x = _) := ⟨mWorldt_cnt x⟩
  rw [mWorldt_cnt x] at hk2
  have A0 := Sec.mk hOw
  have P0 := Sec.mk (box1 w (.cells #[v0, v1, v2, v3, v4, v5] 57))
  have F0 : Sec (Foot S w (w.alloc (.cells #[v0, v1, v2, v3, v4, v5] 57))) := ⟨(Foot.refl _ _).alloc _⟩
  have Z0 : Sec (w.heap.size < (w.alloc (.cells #[v0, v1, v2, v3, v4, v5] 57)).heap.size) := ⟨by simp⟩
  clear hO hOw
  have T0 : Sec True := ⟨trivial⟩
  obtain ⟨S0, r0, hs0, bk0⟩ := Kd.O_part A0.out kWorld_f_prog [] [v0, v1] [v2, v3, v4, v5] rfl rfl rfl
  have SR0 := Sec.mk r0
  have SS0 := Sec.mk hs0
  have BK0 := Sec.mk bk0
  clear r0 hs0 bk0
  go_enter Tryz.func29, Tryz.ntmps29
  go_wp2_with (first | (clear T4; go_at_call 85; have T5 : Sec True := ⟨trivial⟩; refine (markSNetM_c v5 x.net S4 (k + ((mProgt.cnt x.prog : Nat) : Int) + ((mNode.cnts x.nodes : Nat) : Int) + ((mCell.cnts x.top : Nat) : Int) + ((mSOut.cnts x.outs : Nat) : Int)) (by omega) (by omega) _ SR4.out).mono ?_; rintro e w5 ⟨rfl, hR', hF'⟩; have A5 : Sec (kWorld.O w5 (fun k => S k ∧ k < w.heap.size) ⟨(mProgt.one x.prog (k)), (mNode.mks x.nodes (k + ((mProgt.cnt x.prog : Nat) : Int))), (mCell.mks x.top (k + ((mProgt.cnt x.prog : Nat) : Int) + ((mNode.cnts x.nodes : Nat) : Int))), (mSOut.mks x.outs (k + ((mProgt.cnt x.prog : Nat) : Int) + ((mNode.cnts x.nodes : Nat) : Int) + ((mCell.cnts x.top : Nat) : Int))), (mNetM.mks x.net (k + ((mProgt.cnt x.prog : Nat) : Int) + ((mNode.cnts x.nodes : Nat) : Int) + ((mCell.cnts x.top : Nat) : Int) + ((mSOut.cnts x.outs : Nat) : Int)))⟩ [v0, v1, v2, v3, v4, v5]) := ⟨BK4.out w5 _ hR' hF'⟩; have X := box_at ((hF'.block w.heap.size Z4.out (fun e => absurd (SS4.out _ e).2 (Nat.lt_irrefl _))).trans P4.out); have P5 := Sec.mk X.1; have F5 : Sec (Foot S w w5) := ⟨F4.out.trans hF' (fun k _ h => (SS4.out k h).1)⟩; have Z5 : Sec (w.heap.size < w5.heap.size) := ⟨Nat.lt_of_lt_of_le Z4.out hF'.size⟩; clear X hR' hF'; clear c4_0 c4_1 c4_2 c4_3 c4_4 c4_5) | (clear T3; go_at_call 84; have T4 : Sec True := ⟨trivial⟩; refine (markSSOut_c v4 x.outs S3 (k + ((mProgt.cnt x.prog : Nat) : Int) + ((mNode.cnts x.nodes : Nat) : Int) + ((mCell.cnts x.top : Nat) : Int)) (by omega) (by omega) _ SR3.out).mono ?_; rintro e w4 ⟨rfl, hR', hF'⟩; have A4 : Sec (kWorld.O w4 (fun k => S k ∧ k < w.heap.size) ⟨(mProgt.one x.prog (k)), (mNode.mks x.nodes (k + ((mProgt.cnt x.prog : Nat) : Int))), (mCell.mks x.top (k + ((mProgt.cnt x.prog : Nat) : Int) + ((mNode.cnts x.nodes : Nat) : Int))), (mSOut.mks x.outs (k + ((mProgt.cnt x.prog : Nat) : Int) + ((mNode.cnts x.nodes : Nat) : Int) + ((mCell.cnts x.top : Nat) : Int))), x.net⟩ [v0, v1, v2, v3, v4, v5]) := ⟨BK3.out w4 _ hR' hF'⟩; have X := box_at ((hF'.block w.heap.size Z3.out (fun e => absurd (SS3.out _ e).2 (Nat.lt_irrefl _))).trans P3.out); have P4 := Sec.mk X.1; have c4_0 := X.2.1 0 _ rfl; have c4_1 := X.2.1 1 _ rfl; have c4_2 := X.2.1 2 _ rfl; have c4_3 := X.2.1 3 _ rfl; have c4_4 := X.2.1 4 _ rfl; have c4_5 := X.2.1 5 _ rfl; have F4 : Sec (Foot S w w4) := ⟨F3.out.trans hF' (fun k _ h => (SS3.out k h).1)⟩; have Z4 : Sec (w.heap.size < w4.heap.size) := ⟨Nat.lt_of_lt_of_le Z3.out hF'.size⟩; clear X hR' hF'; clear c3_0 c3_1 c3_2 c3_3 c3_4 c3_5; obtain ⟨S4, r4, hs4, bk4⟩ := Kd.O_sub A4.out kWorld_f_net (v := v5) rfl; have SR4 := Sec.mk r4; have SS4 := Sec.mk hs4; have BK4 := Sec.mk bk4; clear r4 hs4 bk4) | (clear T2; go_at_call 28; have T3 : Sec True := ⟨trivial⟩; refine (markSCell_c v3 x.top S2 (k + ((mProgt.cnt x.prog : Nat) : Int) + ((mNode.cnts x.nodes : Nat) : Int)) (by omega) (by omega) _ SR2.out).mono ?_; rintro e w3 ⟨rfl, hR', hF'⟩; have A3 : Sec (kWorld.O w3 (fun k => S k ∧ k < w.heap.size) ⟨(mProgt.one x.prog (k)), (mNode.mks x.nodes (k + ((mProgt.cnt x.prog : Nat) : Int))), (mCell.mks x.top (k + ((mProgt.cnt x.prog : Nat) : Int) + ((mNode.cnts x.nodes : Nat) : Int))), x.outs, x.net⟩ [v0, v1, v2, v3, v4, v5]) := ⟨BK2.out w3 _ hR' hF'⟩; have X := box_at ((hF'.block w.heap.size Z2.out (fun e => absurd (SS2.out _ e).2 (Nat.lt_irrefl _))).trans P2.out); have P3 := Sec.mk X.1; have c3_0 := X.2.1 0 _ rfl; have c3_1 := X.2.1 1 _ rfl; have c3_2 := X.2.1 2 _ rfl; have c3_3 := X.2.1 3 _ rfl; have c3_4 := X.2.1 4 _ rfl; have c3_5 := X.2.1 5 _ rfl; have F3 : Sec (Foot S w w3) := ⟨F2.out.trans hF' (fun k _ h => (SS2.out k h).1)⟩; have Z3 : Sec (w.heap.size < w3.heap.size) := ⟨Nat.lt_of_lt_of_le Z2.out hF'.size⟩; clear X hR' hF'; clear c2_0 c2_1 c2_2 c2_3 c2_4 c2_5; obtain ⟨S3, r3, hs3, bk3⟩ := Kd.O_sub A3.out kWorld_f_outs (v := v4) rfl; have SR3 := Sec.mk r3; have SS3 := Sec.mk hs3; have BK3 := Sec.mk bk3; clear r3 hs3 bk3) | (clear T1; go_at_call 83; have T2 : Sec True := ⟨trivial⟩; refine (markSNode_c v2 x.nodes S1 (k + ((mProgt.cnt x.prog : Nat) : Int)) (by omega) (by omega) _ SR1.out).mono ?_; rintro e w2 ⟨rfl, hR', hF'⟩; have A2 : Sec (kWorld.O w2 (fun k => S k ∧ k < w.heap.size) ⟨(mProgt.one x.prog (k)), (mNode.mks x.nodes (k + ((mProgt.cnt x.prog : Nat) : Int))), x.top, x.outs, x.net⟩ [v0, v1, v2, v3, v4, v5]) := ⟨BK1.out w2 _ hR' hF'⟩; have X := box_at ((hF'.block w.heap.size Z1.out (fun e => absurd (SS1.out _ e).2 (Nat.lt_irrefl _))).trans P1.out); have P2 := Sec.mk X.1; have c2_0 := X.2.1 0 _ rfl; have c2_1 := X.2.1 1 _ rfl; have c2_2 := X.2.1 2 _ rfl; have c2_3 := X.2.1 3 _ rfl; have c2_4 := X.2.1 4 _ rfl; have c2_5 := X.2.1 5 _ rfl; have F2 : Sec (Foot S w w2) := ⟨F1.out.trans hF' (fun k _ h => (SS1.out k h).1)⟩; have Z2 : Sec (w.heap.size < w2.heap.size) := ⟨Nat.lt_of_lt_of_le Z1.out hF'.size⟩; clear X hR' hF'; clear c1_0 c1_1 c1_2 c1_3 c1_4 c1_5; obtain ⟨S2, r2, hs2, bk2⟩ := Kd.O_sub A2.out kWorld_f_top (v := v3) rfl; have SR2 := Sec.mk r2; have SS2 := Sec.mk hs2; have BK2 := Sec.mk bk2; clear r2 hs2 bk2) | (clear T0; go_at_call 27; have T1 : Sec True := ⟨trivial⟩; refine (markPrgProg_c x.prog _ S0 (k) (by omega) (by omega) _ SR0.out).mono ?_; rintro e w1 ⟨rfl, hR', hF'⟩; have A1 : Sec (kWorld.O w1 (fun k => S k ∧ k < w.heap.size) ⟨(mProgt.one x.prog (k)), x.nodes, x.top, x.outs, x.net⟩ [v0, v1, v2, v3, v4, v5]) := ⟨BK0.out w1 _ hR' hF'⟩; have X := box_at ((hF'.block w.heap.size Z0.out (fun e => absurd (SS0.out _ e).2 (Nat.lt_irrefl _))).trans P0.out); have P1 := Sec.mk X.1; have c1_0 := X.2.1 0 _ rfl; have c1_1 := X.2.1 1 _ rfl; have c1_2 := X.2.1 2 _ rfl; have c1_3 := X.2.1 3 _ rfl; have c1_4 := X.2.1 4 _ rfl; have c1_5 := X.2.1 5 _ rfl; have F1 : Sec (Foot S w w1) := ⟨F0.out.trans hF' (fun k _ h => (SS0.out k h).1)⟩; have Z1 : Sec (w.heap.size < w1.heap.size) := ⟨Nat.lt_of_lt_of_le Z0.out hF'.size⟩; clear X hR' hF'; obtain ⟨S1, r1, hs1, bk1⟩ := Kd.O_sub A1.out kWorld_f_nodes (v := v2) rfl; have SR1 := Sec.mk r1; have SS1 := Sec.mk hs1; have BK1 := Sec.mk bk1; clear r1 hs1 bk1))
  go_ret
  exact ⟨ri (by have := hcx.out; omega), kWorld.O_mono A5.out (fun k h _ => h.1), F5.out⟩
set_option maxHeartbeats 2000000 in
theorem heldWldWorld_c (x : World_) (cs : List Value) (ok : Nat → Prop) (k : Int) (hk : 0 ≤ k) (hk2 : k + mWorldt.cnt x ≤ 1000000000000000000) (w : World) (hK : kWorld.K w ok (mWorldt.one x k) cs) :
    Calls Tryz.prog 30 #[.agg cs.toArray, .int .i64 k] w fun e w' => e = .returned (.int .i64 (k + mWorldt.cnt x)) ∧ Below w.heap.size w w' := by
  have hu := Tryz.underlying57
  have hcx : Sec (mWorldt.cnt x = _) := ⟨mWorldt_cnt x⟩
  rw [mWorldt_cnt x] at hk2
  obtain ⟨_, _, rfl, g0, ⟨_, _, rfl, ⟨v2, rfl, h2⟩, ⟨_, _, rfl, ⟨v3, rfl, h3⟩, ⟨_, _, rfl, ⟨v4, rfl, h4⟩, ⟨v5, rfl, h5⟩⟩⟩⟩⟩ := hK
  have H0 : Sec (kProg.K w ok (mProgt.one x.prog (k)) _) := ⟨g0⟩
  obtain ⟨v0, v1, rfl, -, -⟩ := kProg_K g0
  clear g0
  have H2 : Sec (kNode.V w ok v2 (mNode.mks x.nodes (k + ((mProgt.cnt x.prog : Nat) : Int)))) := ⟨h2⟩
  clear h2
  have H3 : Sec (kCell.V w ok v3 (mCell.mks x.top (k + ((mProgt.cnt x.prog : Nat) : Int) + ((mNode.cnts x.nodes : Nat) : Int)))) := ⟨h3⟩
  clear h3
  have H4 : Sec (kSOut.V w ok v4 (mSOut.mks x.outs (k + ((mProgt.cnt x.prog : Nat) : Int) + ((mNode.cnts x.nodes : Nat) : Int) + ((mCell.cnts x.top : Nat) : Int)))) := ⟨h4⟩
  clear h4
  have H5 : Sec (kNetM.V w ok v5 (mNetM.mks x.net (k + ((mProgt.cnt x.prog : Nat) : Int) + ((mNode.cnts x.nodes : Nat) : Int) + ((mCell.cnts x.top : Nat) : Int) + ((mSOut.cnts x.outs : Nat) : Int)))) := ⟨h5⟩
  clear h5
  have T0 : Sec True := ⟨trivial⟩
  go_enter Tryz.func30, Tryz.ntmps30
  go_wp2_with (first | (clear T4; go_at_call 90; have T5 : Sec True := ⟨trivial⟩; refine (heldSNetM_c v5 x.net ok (k + ((mProgt.cnt x.prog : Nat) : Int) + ((mNode.cnts x.nodes : Nat) : Int) + ((mCell.cnts x.top : Nat) : Int) + ((mSOut.cnts x.outs : Nat) : Int)) (by omega) (by omega) _ (Kd.V_below H5.out B4.out (by decide))).mono ?_; rintro e w5 ⟨rfl, hb1⟩; have B5 := Sec.mk (bel B4.out hb1); have X := box_cells hb1 P4.out; have P5 := Sec.mk X.1; clear X hb1) | (clear T3; go_at_call 89; have T4 : Sec True := ⟨trivial⟩; refine (heldSSOut_c v4 x.outs ok (k + ((mProgt.cnt x.prog : Nat) : Int) + ((mNode.cnts x.nodes : Nat) : Int) + ((mCell.cnts x.top : Nat) : Int)) (by omega) (by omega) _ (Kd.V_below H4.out B3.out (by decide))).mono ?_; rintro e w4 ⟨rfl, hb1⟩; have B4 := Sec.mk (bel B3.out hb1); have X := box_cells hb1 P3.out; have P4 := Sec.mk X.1; have c4_0 := X.2.1 0 _ rfl; have c4_1 := X.2.1 1 _ rfl; have c4_2 := X.2.1 2 _ rfl; have c4_3 := X.2.1 3 _ rfl; have c4_4 := X.2.1 4 _ rfl; have c4_5 := X.2.1 5 _ rfl; clear X hb1) | (clear T2; go_at_call 88; have T3 : Sec True := ⟨trivial⟩; refine (heldSCell_c v3 x.top ok (k + ((mProgt.cnt x.prog : Nat) : Int) + ((mNode.cnts x.nodes : Nat) : Int)) (by omega) (by omega) _ (Kd.V_below H3.out B2.out (by decide))).mono ?_; rintro e w3 ⟨rfl, hb1⟩; have B3 := Sec.mk (bel B2.out hb1); have X := box_cells hb1 P2.out; have P3 := Sec.mk X.1; have c3_0 := X.2.1 0 _ rfl; have c3_1 := X.2.1 1 _ rfl; have c3_2 := X.2.1 2 _ rfl; have c3_3 := X.2.1 3 _ rfl; have c3_4 := X.2.1 4 _ rfl; have c3_5 := X.2.1 5 _ rfl; clear X hb1) | (clear T1; go_at_call 87; have T2 : Sec True := ⟨trivial⟩; refine (heldSNode_c v2 x.nodes ok (k + ((mProgt.cnt x.prog : Nat) : Int)) (by omega) (by omega) _ (Kd.V_below H2.out B1.out (by decide))).mono ?_; rintro e w2 ⟨rfl, hb1⟩; have B2 := Sec.mk (bel B1.out hb1); have X := box_cells hb1 P1.out; have P2 := Sec.mk X.1; have c2_0 := X.2.1 0 _ rfl; have c2_1 := X.2.1 1 _ rfl; have c2_2 := X.2.1 2 _ rfl; have c2_3 := X.2.1 3 _ rfl; have c2_4 := X.2.1 4 _ rfl; have c2_5 := X.2.1 5 _ rfl; clear X hb1) | (clear T0; go_at_call 86; have T1 : Sec True := ⟨trivial⟩; refine (heldPrgProg_c x.prog _ ok (k) (by omega) (by omega) _ (Kd.K_below H0.out (belA (Below.refl _ _) _))).mono ?_; rintro e w1 ⟨rfl, hb1⟩; have B1 := Sec.mk (bel (belA (Below.refl _ _) _) hb1); have X := box_cells hb1 (box1 _ _); have P1 := Sec.mk X.1; have c1_0 := X.2.1 0 _ rfl; have c1_1 := X.2.1 1 _ rfl; have c1_2 := X.2.1 2 _ rfl; have c1_3 := X.2.1 3 _ rfl; have c1_4 := X.2.1 4 _ rfl; have c1_5 := X.2.1 5 _ rfl; clear X hb1))
  go_ret
  exact ⟨ri (by have := hcx.out; omega), B5.out⟩
end
section
open Go.RowKit
set_option linter.unusedVariables false
def worldOf (x : W0) : World_ := ⟨x.prog, x.nodes.map (fun _ => ⟨true, []⟩), x.top, [], []⟩
def worldX (p : Prog) (t : Term) : World_ := worldOf (newW p t)
theorem kNode_Os {w : World} : ∀ {xs : List Unit} {S : Nat → Prop} {cs : List Value}, kN0.Os w S xs cs → kNode.Os w S (xs.map (fun _ => ⟨true, []⟩)) cs
  | [], _, _, h => h
  | x :: xs, S, cs, ⟨S1, S2, c0, c1, h1, h2, h3, h4, h5⟩ => by
    obtain rfl : c0 = [.bool true, .slice none 0 0] := h4
    exact ⟨S1, S2, _, c1, h1, h2, h3, ⟨fun _ => False, fun _ => False, [.bool true], [.slice none 0 0], rfl, fun _ h => h.elim, fun _ h => h.elim, ⟨rfl, trivial⟩, ⟨_, rfl, Kd.R_nil _ _ _⟩⟩, kNode_Os h5⟩
theorem kNode_R {w : World} {S : Nat → Prop} {v : Value} {xs : List Unit} (h : kN0.R w S v xs) : kNode.R w S v (xs.map (fun _ => ⟨true, []⟩)) := by
  obtain ⟨h0, ⟨rfl, rfl⟩ | ⟨b, cap, cur, rfl, hb, hS, h1, h2, h3, h4⟩⟩ := h
  · exact ⟨by simp, .inl ⟨rfl, rfl⟩⟩
  · refine ⟨by simpa using h0, .inr ⟨b, cap, cur, by simp, hb, hS, by simpa using h1, h2, h3, ?_⟩⟩
    have h5 := kNode_Os h4
    have e : kN0.sz = kNode.sz := rfl
    rw [e] at h5
    simpa using h5
theorem kWorld_of {w : World} {S : Nat → Prop} {x : W0} {c : List Value} (h : kW0.O w S x c) : kWorld.O w S (worldOf x) c := by
  obtain ⟨S1, S2, c0, c1, rfl, d1, d2, h0, S3, S4, c2, c3, rfl, d3, d4, ⟨v2, rfl, h2⟩, S5, S6, c4, c5, rfl, d5, d6, h4, rfl⟩ := h
  exact ⟨S1, S2, c0, _, rfl, d1, d2, h0, S3, S4, _, _, rfl, d3, d4, ⟨v2, rfl, kNode_R h2⟩, S5, S6, c4, _, rfl, d5, d6, h4,
    fun _ => False, fun _ => False, [.slice none 0 0], [.slice none 0 0], rfl, fun _ h => h.elim, fun _ h => h.elim, ⟨_, rfl, Kd.R_nil _ _ _⟩, ⟨_, rfl, Kd.R_nil _ _ _⟩⟩
theorem WldNewX_c (p : Prog) (cs : List Value) (v : Value) (t : Term) (ok0 ok1 : Nat → Prop) (w : World) (hK0 : kProg.K w ok0 p cs) (hV0 : kCell.V w ok1 v t) :
    Calls Tryz.prog 20 #[.agg cs.toArray, v] w fun e w' => ∃ c : List Value, e = .returned (.agg c.toArray) ∧ kWorld.O w' (fun k => w.heap.size ≤ k) (worldX p t) c ∧ Below w.heap.size w w' :=
  (WldNew_c p cs v t ok0 ok1 w hK0 hV0).mono fun _ _ ⟨c, h1, h2, h3⟩ => ⟨c, h1, kWorld_of h2, h3⟩
theorem WldNewX_i (p : Prog) (cs : List Value) (v : Value) (t : Term) (ok0 ok1 : Nat → Prop) (w : World) (hK0 : kProg.K w ok0 p cs) (hV0 : kCell.V w ok1 v t) :
    Calls Tryz.prog 23 #[.agg cs.toArray, v] w fun e w' => ∃ c : List Value, e = .returned (.agg c.toArray) ∧ kWorld.O w' (fun k => w.heap.size ≤ k) (worldX p t) c ∧ Below w.heap.size w w' :=
  (WldNew_i p cs v t ok0 ok1 w hK0 hV0).mono fun _ _ ⟨c, h1, h2, h3⟩ => ⟨c, h1, kWorld_of h2, h3⟩
theorem worldX_cnt (p : Prog) (t : Term) : mWorldt.cnt (worldX p t) ≤ mProgt.cnt p + mCell.cnts t + 3 := by
  have h4 : mSOut.cnts [] = 0 := rfl
  have h5 : mNetM.cnts [] = 0 := rfl
  rw [mWorldt_cnt]
  unfold worldX worldOf newW
  split
  · have h3 : mNode.cnts (List.map (fun _ : Unit => (⟨true, []⟩ : Node)) (List.replicate 3 ())) = 3 := rfl
    simp only [h3, h4, h5]; omega
  · have h1 : mProgt.cnt ⟨[], []⟩ = 0 := rfl
    have h2 : mCell.cnts [] = 0 := rfl
    have h3 : mNode.cnts (List.map (fun _ : Unit => (⟨true, []⟩ : Node)) []) = 0 := rfl
    simp only [h1, h2, h3, h4, h5]; omega
end
section
open Go.RowKit
set_option linter.unusedVariables false
set_option maxRecDepth 100000
theorem carry {S : Nat → Prop} {w W : World} {b : Nat} {o : Obj} (h : Foot S w W) (hb : w.heap[b]? = some o) (hS : ¬ S b) : W.heap[b]? = some o := (h.block b (Array.getElem?_eq_some_iff.1 hb).1 hS).trans hb
theorem carryB {w W : World} {b : Nat} {o : Obj} (h : Below w.heap.size w W) (hb : w.heap[b]? = some o) : W.heap[b]? = some o := (h.block b (Array.getElem?_eq_some_iff.1 hb).1).trans hb
/-- Between two numbers. -/
def Rg (a b : Nat) (k : Nat) : Prop := a ≤ k ∧ k < b
theorem tru_ {α : Type} [DecidableEq α] (t : α) : decide (t = t) = true := decide_eq_true rfl
theorem rProg_len {w : World} {s : Prog} {cs : List Value} (h : rProg.K w s cs) : cs.length = 2 := by
  obtain ⟨v0, v1, rfl, -, -⟩ := rProg_K h
  rfl
set_option maxHeartbeats 16000000 in
theorem FnExactWldNew_law_c (s : Prog) (cs : List Value) (v : Value) (t : Term) (w0 : World) (hK : rProg.K w0 s cs) (hV : rCell.V w0 v t) :
    Calls Tryz.prog 4 #[.agg cs.toArray, v] w0 fun e w' => e = .returned (.bool true) ∧ Below w0.heap.size w0 w' := by
  have hA := rProg_fits.2 w0 s cs hK
  have P_len : Sec (cs.length = 2) := ⟨by by_cases h : 0 ≤ 1; exact rProg_len hK; omega⟩
  have hu := Tryz.underlying49
  have hu2 := Tryz.underlying28
  have hu3 := Tryz.underlying57
  obtain ⟨w, hw⟩ : ∃ w, w = w0.alloc (.cells cs.toArray 49) := ⟨_, rfl⟩
  have WW := Sec.mk hw
  have WB := belA (Below.refl w0.heap.size w0) (.cells cs.toArray 49)
  have P_0 : Sec (w.heap[w0.heap.size]? = some (.cells cs.toArray 49 (0, 0))) := ⟨by rw [hw]; exact heap_alloc_new w0 _⟩
  have RV : Sec (rProg.K w s cs) := ⟨by rw [hw]; exact rProg_mono _ _ _ _ WB hK⟩
  have RW : Sec (rCell.V w v t) := ⟨by rw [hw]; exact Raw.mono_V rCell_mono WB hV⟩
  rw [← hw] at WB
  have WBS := Sec.mk WB
  have Zp : Sec (w0.heap.size < w.heap.size) := ⟨by rw [hw]; simp⟩
  clear hw
  by_cases hbud : rProg.wt s ≤ 1048576
  · have AV := Sec.mk (Kd.K_below (hA (by omega)) WB)
    have HC : Sec (1 + mProgt.cnt s ≤ 100000000000) := ⟨by have := rProg_tle s; omega⟩
    have hsp := Raw.spent_le hbud
    have hl1 : 1048576 - rProg.wt s ≤ 1048576 := by omega
    have HW := Sec.mk hbud
    generalize hlq : 1048576 - rProg.wt s = l at *
    have HLQ := Sec.mk hlq
    have hl0 : ¬ ((l : Int) < 0) := by omega
    clear hbud hA hK WB hlq
    by_cases hbud2 : rCell.wts t ≤ l
    · have DV := Sec.mk (Raw.V_fits rCell_fits RW.out (by omega))
      have HC2 : Sec (1 + mCell.cnts t ≤ 100000000000) := ⟨by have := Mk.cnts_le6 rCell_le6 t; omega⟩
      have HL : Sec (1 + mWorldt.cnt (worldX s t) ≤ 100000000000000000) := ⟨by have h1 := worldX_cnt s t; have h2 := HC.out; have h3 := HC2.out; omega⟩
      have hsp2 := Raw.spent_le hbud2
      generalize l - rCell.wts t = l2 at hsp2
      have hl2 : ¬ ((l2 : Int) < 0) := by omega
      obtain ⟨A9, c9, rfl, -⟩ := hV
      clear hbud2
      generalize hbp : w0.heap.size = bp at *
      have T0 : Sec True := ⟨trivial⟩
      go_enter Tryz.func4, Tryz.ntmps4
      go_wp2_with (first | (clear T11; go_at_call 24; have T12 : Sec True := ⟨trivial⟩; refine (eqWldWorld_c (worldX s t) (worldX s t) cg cu _ _ _ (kWorld.O_K G_11.out) (kWorld.O_K U_11.out)).mono ?_; rintro e w12 ⟨rfl, hb⟩; rw [tru_]; have Z12 := Sec.mk hb.size; have B_12 := Sec.mk (bel B_11.out hb); have P_12 := Sec.mk (carryB hb P_11.out); have U_12 := Sec.mk (Kd.O_below U_11.out hb); have BU_12 := Sec.mk (carryB hb BU_11.out); have X_12 := Sec.mk (Kd.O_below X_11.out hb); have BX_12 := Sec.mk (carryB hb BX_11.out); have X1_12 := Sec.mk (Kd.R_below X1_11.out hb); have G_12 := Sec.mk (Kd.O_below G_11.out hb); have BG_12 := Sec.mk (carryB hb BG_11.out); clear hb) | (with_reducible show wpList _ _ _ (⟨some 37, .load 57 (.tmp 6), _, _, _, _⟩ :: _) _ _; refine wpList_load (cs := cu) (by first | rfl | (simp [Region.wanted]; done) | (simp [Region.wanted, yielded, Act.put]; omega)) 57 (.tmp 6) rfl rfl BU_11.out hu3 rfl (by rw [cu_len.out]; kernel_rfl) ?_) | (with_reducible show wpList _ _ _ (⟨some 36, .load 57 (.tmp 9), _, _, _, _⟩ :: _) _ _; refine wpList_load (cs := cg) (by first | rfl | (simp [Region.wanted]; done) | (simp [Region.wanted, yielded, Act.put]; omega)) 57 (.tmp 9) rfl rfl BG_11.out hu3 rfl (by rw [cg_len.out]; kernel_rfl) ?_) | (clear T10; with_reducible show wpList _ _ _ (⟨none, .store 57 (.tmp 9) (.tmp 35), _, _, _, _⟩ :: _) _ _; have T11 : Sec True := ⟨trivial⟩; refine wpList_store (cs := cg) (old := #[.slice none 0 0, .slice none 0 0, .slice none 0 0, .slice none 0 0, .slice none 0 0, .slice none 0 0]) rfl 57 (.tmp 9) (.tmp 35) rfl rfl rfl (heap_alloc_new w10 _) (by rw [cg_len.out]; kernel_rfl) (by rw [cg_len.out]; kernel_rfl) (kWorld.K_one (kWorld.O_K G_10.out)) ?_; intro w11 hb' hF'; have ZS11 : Sec (w10.heap.size < w11.heap.size) := ⟨(Array.getElem?_eq_some_iff.1 hb').1⟩; have hb : Below w10.heap.size w10 w11 := hF'.below (belA (Below.refl _ _) _) (fun k h => Nat.le_of_eq (show k = w10.heap.size from h).symm); have Z11 := Sec.mk hb.size; have BG_11 : Sec (w11.heap[w10.heap.size]? = some (.cells (cg).toArray 57 (0, 0))) := ⟨hb'⟩; have B_11 := Sec.mk (bel B_10.out hb); have P_11 := Sec.mk (carryB hb P_10.out); have U_11 := Sec.mk (Kd.O_below U_10.out hb); have BU_11 := Sec.mk (carryB hb BU_10.out); have X_11 := Sec.mk (Kd.O_below X_10.out hb); have BX_11 := Sec.mk (carryB hb BX_10.out); have X1_11 := Sec.mk (Kd.R_below X1_10.out hb); have G_11 := Sec.mk (Kd.O_below G_10.out hb); clear hb hb' hF') | (clear T9; go_at_call 23; have T10 : Sec True := ⟨trivial⟩; refine (WldNewX_i s _ _ t _ _ w9 (kProg.O_K X_9.out) (Kd.R_V X1_9.out)).mono ?_; rintro e w10 ⟨cg, rfl, hO, hb⟩; have cg_len := Sec.mk (kWorld.K_len (kWorld.O_K hO)); have Z10 := Sec.mk hb.size; have G_10 : Sec (kWorld.O w10 (Rg w9.heap.size w10.heap.size) (worldX s t) cg) := ⟨Kd.O_mono hO (fun k h1 h2 => ⟨h1, h2⟩)⟩; have B_10 := Sec.mk (bel B_9.out hb); have P_10 := Sec.mk (carryB hb P_9.out); have U_10 := Sec.mk (Kd.O_below U_9.out hb); have BU_10 := Sec.mk (carryB hb BU_9.out); have X_10 := Sec.mk (Kd.O_below X_9.out hb); have BX_10 := Sec.mk (carryB hb BX_9.out); have X1_10 := Sec.mk (Kd.R_below X1_9.out hb); clear hb hO) | (with_reducible show wpList _ _ _ (⟨some 33, .load 28 (.tmp 7), _, _, _, _⟩ :: _) _ _; refine wpList_load (cs := cx) (by first | rfl | (simp [Region.wanted]; done) | (simp [Region.wanted, yielded, Act.put]; omega)) 28 (.tmp 7) rfl rfl BX_9.out hu2 rfl (by rw [cx_len.out]; kernel_rfl) ?_) | (clear T8; go_at_call 22; have T9 : Sec True := ⟨trivial⟩; refine (toSCell_c _ t _ _ (Kd.V_below DV.out B_8.out (by decide))).mono ?_; rintro e w9 ⟨x1, rfl, hR, hb⟩; have Z9 := Sec.mk hb.size; have X1_9 : Sec (kCell.R w9 (Rg w8.heap.size w9.heap.size) x1 t) := ⟨Kd.R_mono hR (fun k h1 h2 => ⟨h1, h2⟩)⟩; have B_9 := Sec.mk (bel B_8.out hb); have P_9 := Sec.mk (carryB hb P_8.out); have U_9 := Sec.mk (Kd.O_below U_8.out hb); have BU_9 := Sec.mk (carryB hb BU_8.out); have X_9 := Sec.mk (Kd.O_below X_8.out hb); have BX_9 := Sec.mk (carryB hb BX_8.out); clear hb hR) | (clear T7; with_reducible show wpList _ _ _ (⟨none, .store 28 (.tmp 7) (.tmp 30), _, _, _, _⟩ :: _) _ _; have T8 : Sec True := ⟨trivial⟩; refine wpList_store (cs := cx) (old := #[.slice none 0 0, .slice none 0 0]) rfl 28 (.tmp 7) (.tmp 30) rfl rfl rfl (heap_alloc_new w7 _) (by rw [cx_len.out]; kernel_rfl) (by rw [cx_len.out]; kernel_rfl) (kProg.K_one (kProg.O_K X_7.out)) ?_; intro w8 hb' hF'; have ZS8 : Sec (w7.heap.size < w8.heap.size) := ⟨(Array.getElem?_eq_some_iff.1 hb').1⟩; have hb : Below w7.heap.size w7 w8 := hF'.below (belA (Below.refl _ _) _) (fun k h => Nat.le_of_eq (show k = w7.heap.size from h).symm); have Z8 := Sec.mk hb.size; have BX_8 : Sec (w8.heap[w7.heap.size]? = some (.cells (cx).toArray 28 (0, 0))) := ⟨hb'⟩; have B_8 := Sec.mk (bel B_7.out hb); have P_8 := Sec.mk (carryB hb P_7.out); have U_8 := Sec.mk (Kd.O_below U_7.out hb); have BU_8 := Sec.mk (carryB hb BU_7.out); have X_8 := Sec.mk (Kd.O_below X_7.out hb); clear hb hb' hF') | (clear T6; go_at_call 21; have T7 : Sec True := ⟨trivial⟩; refine (toPrgProg_c s cs _ _ (Kd.K_below AV.out B_6.out)).mono ?_; rintro e w7 ⟨cx, rfl, hO, hb⟩; have cx_len := Sec.mk (kProg.K_len (kProg.O_K hO)); have Z7 := Sec.mk hb.size; have X_7 : Sec (kProg.O w7 (Rg w6.heap.size w7.heap.size) s cx) := ⟨Kd.O_mono hO (fun k h1 h2 => ⟨h1, h2⟩)⟩; have B_7 := Sec.mk (bel B_6.out hb); have P_7 := Sec.mk (carryB hb P_6.out); have U_7 := Sec.mk (Kd.O_below U_6.out hb); have BU_7 := Sec.mk (carryB hb BU_6.out); clear hb hO) | (with_reducible show wpList _ _ _ (⟨some 29, .load 49 (.tmp 2), _, _, _, _⟩ :: _) _ _; refine wpList_load (cs := cs) (by first | rfl | (simp [Region.wanted]; done) | (simp [Region.wanted, yielded, Act.put]; omega)) 49 (.tmp 2) rfl rfl P_6.out hu rfl (by rw [P_len.out]; kernel_rfl) ?_) | (clear T5; with_reducible show wpList _ _ _ (⟨none, .store 57 (.tmp 6) (.tmp 28), _, _, _, _⟩ :: _) _ _; have T6 : Sec True := ⟨trivial⟩; refine wpList_store (cs := cu) (old := #[.slice none 0 0, .slice none 0 0, .slice none 0 0, .slice none 0 0, .slice none 0 0, .slice none 0 0]) rfl 57 (.tmp 6) (.tmp 28) rfl rfl rfl (heap_alloc_new w5 _) (by rw [cu_len.out]; kernel_rfl) (by rw [cu_len.out]; kernel_rfl) (kWorld.K_one (kWorld.O_K U_5.out)) ?_; intro w6 hb' hF'; have ZS6 : Sec (w5.heap.size < w6.heap.size) := ⟨(Array.getElem?_eq_some_iff.1 hb').1⟩; have hb : Below w5.heap.size w5 w6 := hF'.below (belA (Below.refl _ _) _) (fun k h => Nat.le_of_eq (show k = w5.heap.size from h).symm); have Z6 := Sec.mk hb.size; have BU_6 : Sec (w6.heap[w5.heap.size]? = some (.cells (cu).toArray 57 (0, 0))) := ⟨hb'⟩; have B_6 := Sec.mk (bel B_5.out hb); have P_6 := Sec.mk (carryB hb P_5.out); have U_6 := Sec.mk (Kd.O_below U_5.out hb); clear hb hb' hF') | (clear T4; go_at_call 20; have T5 : Sec True := ⟨trivial⟩; refine (WldNewX_c s _ _ t _ _ w4 (kProg.O_K Y_4.out) (Kd.R_V Y1_4.out)).mono ?_; rintro e w5 ⟨cu, rfl, hO, hb⟩; have cu_len := Sec.mk (kWorld.K_len (kWorld.O_K hO)); have Z5 := Sec.mk hb.size; have U_5 : Sec (kWorld.O w5 (Rg w4.heap.size w5.heap.size) (worldX s t) cu) := ⟨Kd.O_mono hO (fun k h1 h2 => ⟨h1, h2⟩)⟩; have B_5 := Sec.mk (bel B_4.out hb); have P_5 := Sec.mk (carryB hb P_4.out); clear hb hO) | (clear T3; go_at_call 22; have T4 : Sec True := ⟨trivial⟩; refine (toSCell_c _ t _ _ (Kd.V_below DV.out B_3.out (by decide))).mono ?_; rintro e w4 ⟨y1, rfl, hR, hb⟩; have Z4 := Sec.mk hb.size; have Y1_4 : Sec (kCell.R w4 (Rg w3.heap.size w4.heap.size) y1 t) := ⟨Kd.R_mono hR (fun k h1 h2 => ⟨h1, h2⟩)⟩; have B_4 := Sec.mk (bel B_3.out hb); have P_4 := Sec.mk (carryB hb P_3.out); have Y_4 := Sec.mk (Kd.O_below Y_3.out hb); clear hb hR) | (clear T2; go_at_call 21; have T3 : Sec True := ⟨trivial⟩; refine (toPrgProg_c s cs _ _ (Kd.K_below AV.out B_2.out)).mono ?_; rintro e w3 ⟨cy, rfl, hO, hb⟩; have cy_len := Sec.mk (kProg.K_len (kProg.O_K hO)); have Z3 := Sec.mk hb.size; have Y_3 : Sec (kProg.O w3 (Rg w2.heap.size w3.heap.size) s cy) := ⟨Kd.O_mono hO (fun k h1 h2 => ⟨h1, h2⟩)⟩; have B_3 := Sec.mk (bel B_2.out hb); have P_3 := Sec.mk (carryB hb P_2.out); clear hb hO) | (with_reducible show wpList _ _ _ (⟨some 24, .load 49 (.tmp 2), _, _, _, _⟩ :: _) _ _; refine wpList_load (cs := cs) (by first | rfl | (simp [Region.wanted]; done) | (simp [Region.wanted, yielded, Act.put]; omega)) 49 (.tmp 2) rfl rfl P_2.out hu rfl (by rw [P_len.out]; kernel_rfl) ?_) | (clear T1; go_at_call 19; have T2 : Sec True := ⟨trivial⟩; refine (szSCell_c _ t l hl1 _ (Raw.mono_V rCell_mono B_1.out RW.out)).mono ?_; rintro e w2 ⟨rfl, hb⟩; rw [hsp2]; have Z2 := Sec.mk hb.size; have B_2 := Sec.mk (bel B_1.out hb); have P_2 := Sec.mk (carryB hb P_1.out); clear hb) | (clear T0; go_at_call 18; have T1 : Sec True := ⟨trivial⟩; refine (szPrgProg_c s cs 1048576 (Nat.le_refl _) _ RV.out).mono ?_; rintro e w1 ⟨rfl, hb⟩; rw [hsp]; have Z1 := Sec.mk hb.size; have B_1 := Sec.mk (bel (Below.refl w.heap.size w) hb); have P_1 := Sec.mk (carryB hb P_0.out); clear hb) | (with_reducible show wpList _ _ _ (⟨some 14, .load 49 (.tmp 2), _, _, _, _⟩ :: _) _ _; rw [← WW.out]; refine wpList_load (cs := cs) (by first | rfl | (simp [Region.wanted]; done) | (simp [Region.wanted, yielded, Act.put]; omega)) 49 (.tmp 2) rfl rfl P_0.out hu rfl (by rw [P_len.out]; kernel_rfl) ?_))
      have RP := P_12
      have RBX := BX_12
      have RB := B_12
      have RX := X_12
      refine wp_region_lists [[40], [41], [42], [43], [44]]
        [fun val _ _ => val 40 = .agg (cx).toArray,
          fun val _ _ => val 41 = .agg (cs).toArray,
          onO kProg 42 s,
          fun val _ _ => val 43 = .bool true,
          fun val _ _ => val 44 = .bool false]
        [[], [], [], [2], []] 0 (fun _ => False) (fun _ _ => False) (by kernel_rfl) ⟨by kernel_rfl, by kernel_rfl, by kernel_rfl, by kernel_rfl, by kernel_rfl⟩
        (.cons (stab_val 40 (fun v => v = .agg (cx).toArray)) (.cons (stab_val 41 (fun v => v = .agg (cs).toArray)) (.cons (stab_O kProg 42 s) (.cons (stab_val 43 (fun v => v = .bool true)) (.cons (stab_val 44 (fun v => v = .bool false)) .nil)))))
        (fun i j k h1 h2 => h1.elim) (fun i k h => h.elim) (fun i h1 h2 => by simp at h1 h2; omega) (.cons ?_ (.cons ?_ (.cons ?_ (.cons ?_ (.cons ?_ .nil))))) ?_
      · intro a W own hfor huse hap hmi hF K hK
        have e7 : a.eval (.tmp 7) = .pointer (some ⟨w7.heap.size, 0, none⟩) := hfor 7 (by kernel_rfl)
        have hu_40 := hu2
        have hc : ∀ j u, (cx : List Value)[j]? = some u → W.cell? ⟨w7.heap.size, 0 + j, none⟩ = some u := fun j u h => by rw [Nat.zero_add]; exact foot_cell hF (fun h => h) ((box_at RBX.out).2.1 j u (by simpa using h))
        refine step_load (cs := cx) rfl 28 (.tmp 7) rfl e7 hc hu_40 rfl (by rw [cx_len.out]; kernel_rfl) (hK _ _ (post_pure (if_pos rfl)))
      · intro a W own hfor huse hap hmi hF K hK
        have e2 : a.eval (.tmp 2) = .pointer (some ⟨bp, 0, none⟩) := hfor 2 (by kernel_rfl)
        have hu_41 := hu
        have hc : ∀ j u, (cs : List Value)[j]? = some u → W.cell? ⟨bp, 0 + j, none⟩ = some u := fun j u h => by rw [Nat.zero_add]; exact foot_cell hF (fun h => h) ((box_at RP.out).2.1 j u (by simpa using h))
        refine step_load (cs := cs) rfl 49 (.tmp 2) rfl e2 hc hu_41 rfl (by rw [P_len.out]; kernel_rfl) (hK _ _ (post_pure (if_pos rfl)))
      · intro a W own hfor huse hap hmi hF K hK
        have e41 : a.eval (.tmp 41) = .agg (cs).toArray := huse 1 (by kernel_rfl)
        have hbw : Below w.heap.size w W := hF.below (belD RB.out) (fun k h => h.elim)
        have efn : a.eval (.func 21) = .func (.func 21) #[] #[] := rfl
        refine op_call (f := 21) (args := #[.agg (cs).toArray]) (fun v w1 => ∃ c : List Value, v = .agg c.toArray ∧ kProg.O w1 (fun k => W.heap.size ≤ k) s c ∧ Below W.heap.size W w1) rfl ?_ ?_ (fun v w1 h => ?_)
        · clear hfor huse hap hmi hK hF
          generalize a.eval = ρ at *
          go_simp
        · exact (toPrgProg_c s cs _ W (Kd.K_below AV.out hbw)).mono (by rintro e w1 ⟨c, rfl, h1, h2⟩; exact ⟨_, rfl, c, rfl, h1, h2⟩)
        · obtain ⟨c, rfl, h1, h2⟩ := h
          exact hK _ _ (post_new h2 ⟨c, if_pos rfl, kProg.O_mono h1 (fun k h3 h4 => ⟨h3, h4⟩)⟩)
      · intro a W own hfor huse hap hmi hF K hK
        obtain ⟨cs2, e42, r2⟩ := (huse 2 (by kernel_rfl) : onO kProg 42 s (slotsOf a) (own 2) W)
        have e42 : a.eval (.tmp 42) = .agg cs2.toArray := e42
        have e40 : a.eval (.tmp 40) = .agg (cx).toArray := huse 0 (by kernel_rfl)
        have efn : a.eval (.func 25) = .func (.func 25) #[] #[] := rfl
        have hbw : Below w12.heap.size w12 W := hF.below (belD (Below.refl _ _)) (fun k h => h.elim)
        refine op_call (f := 25) (args := #[.agg (cx).toArray, .agg cs2.toArray]) (fun v w1 => v = .bool true ∧ Below W.heap.size W w1) rfl ?_ ?_ (fun v w1 h => ?_)
        · clear hfor huse hap hmi hK hF
          generalize a.eval = ρ at *
          go_simp
        · exact (eqPrgProg_c s s cx cs2 _ _ W (kProg.O_K (Kd.O_below RX.out hbw)) (kProg.O_K r2)).mono (by rintro e w1 ⟨rfl, h2⟩; rw [tru_]; exact ⟨_, rfl, rfl, h2⟩)
        · obtain ⟨rfl, h2⟩ := h
          exact hK _ _ ⟨fun k => own 2 k, Foot.of_below h2, if_pos rfl, fun k h => .inl ⟨2, by decide, h⟩⟩
      · intro a W own hfor huse hap hmi hF K hK
        have e43 : a.eval (.tmp 43) = .bool true := huse 3 (by kernel_rfl)
        refine op_val (.bool false) W rfl ?_ (hK _ _ (post_pure ?_))
        · clear hfor huse hap hmi hK hF
          generalize a.eval = ρ at *
          go_simp
        · exact (if_pos rfl)
      intro a' w13 own hf
      have s1 := hf.st.size
      have s2 := hf.st.rest
      have s3 := fun t ht => hf.st.kept t ht
      revert hf
      revert a'
      refine lay_intro (df := []) [true, true, true, true, true, true, true, true, true, true, true, true, true, true, true, true, true, true, true, true, true, true, true, true, true, true, true, true, true, true, true, true, true, true, true, true, true, true, true, true, false, false, false, false, false, true, true, true, true, true, true, true, true, true, true, true, true, true, true, true, true, true, true, true, true, true, true, true, true, true, true, true, true, true, true, true, true, true, true, true, true, true, true, true, true, true, true, true, true, true, true, true] (by kernel_rfl) rfl ?_
      intro x44 x43 x42 x41 x40 hf
      have e44 : x44 = .bool false := hf.at 4 (fun val _ _ => val 44 = .bool false) rfl (by kernel_rfl)
      subst e44
      have hb : Below w12.heap.size w12 w13 := hf.st.foot.below (belD (Below.refl _ _)) (fun k h => h.elim)
      clear hf RP RBX RB RX T12
      have T13 : Sec True := ⟨trivial⟩
      have Z13 := Sec.mk hb.size
      have B_13 := Sec.mk (bel B_12.out hb)
      have P_13 := Sec.mk (carryB hb P_12.out)
      have U_13 := Sec.mk (Kd.O_below U_12.out hb)
      have BU_13 := Sec.mk (carryB hb BU_12.out)
      have X_13 := Sec.mk (Kd.O_below X_12.out hb)
      have BX_13 := Sec.mk (carryB hb BX_12.out)
      have X1_13 := Sec.mk (Kd.R_below X1_12.out hb)
      have G_13 := Sec.mk (Kd.O_below G_12.out hb)
      have BG_13 := Sec.mk (carryB hb BG_12.out)
      clear hb
      go_wp2_with (first | (clear T25; go_at_call 30; have T26 : Sec True := ⟨trivial⟩; refine (heldWldWorld_c (worldX s t) cg _ 1 (by omega) (by have := HL.out; omega) _ (kWorld.O_K M_25.out)).mono ?_; rintro e w26 ⟨rfl, hb⟩; have c2 : ¬ (1 + ((mWorldt.cnt (worldX s t) : Nat) : Int) < 0) := (by omega); have Z26 := Sec.mk hb.size; have B_26 := Sec.mk (bel B_25.out hb); clear hb) | (with_reducible show wpList _ _ _ (⟨some 84, .load 57 (.tmp 9), _, _, _, _⟩ :: _) _ _; refine wpList_load (cs := cg) (by first | rfl | (simp [Region.wanted]; done) | (simp [Region.wanted, yielded, Act.put]; omega)) 57 (.tmp 9) rfl rfl BG_25.out hu3 rfl (by rw [cg_len.out]; kernel_rfl) ?_) | (clear T24; go_at_call 24; have T25 : Sec True := ⟨trivial⟩; refine (eqWldWorld_c (worldX s t) (worldX s t) ch cu _ _ _ (kWorld.O_K H_24.out) (kWorld.O_K U_24.out)).mono ?_; rintro e w25 ⟨rfl, hb⟩; rw [tru_]; have Z25 := Sec.mk hb.size; have B_25 := Sec.mk (bel B_24.out hb); have BG_25 := Sec.mk (carryB hb BG_24.out); have M_25 := Sec.mk (Kd.O_below M_24.out hb); clear hb) | (with_reducible show wpList _ _ _ (⟨some 81, .load 57 (.tmp 6), _, _, _, _⟩ :: _) _ _; refine wpList_load (cs := cu) (by first | rfl | (simp [Region.wanted]; done) | (simp [Region.wanted, yielded, Act.put]; omega)) 57 (.tmp 6) rfl rfl BU_24.out hu3 rfl (by rw [cu_len.out]; kernel_rfl) ?_) | (with_reducible show wpList _ _ _ (⟨some 80, .load 57 (.tmp 13), _, _, _, _⟩ :: _) _ _; refine wpList_load (cs := ch) (by first | rfl | (simp [Region.wanted]; done) | (simp [Region.wanted, yielded, Act.put]; omega)) 57 (.tmp 13) rfl rfl BH_24.out hu3 rfl (by rw [ch_len.out]; kernel_rfl) ?_) | (clear T23; with_reducible show wpList _ _ _ (⟨none, .store 57 (.tmp 13) (.tmp 79), _, _, _, _⟩ :: _) _ _; have T24 : Sec True := ⟨trivial⟩; refine wpList_store (cs := ch) (old := #[.slice none 0 0, .slice none 0 0, .slice none 0 0, .slice none 0 0, .slice none 0 0, .slice none 0 0]) rfl 57 (.tmp 13) (.tmp 79) rfl rfl rfl (heap_alloc_new w23 _) (by rw [ch_len.out]; kernel_rfl) (by rw [ch_len.out]; kernel_rfl) (kWorld.K_one (kWorld.O_K H_23.out)) ?_; intro w24 hb' hF'; have ZS24 : Sec (w23.heap.size < w24.heap.size) := ⟨(Array.getElem?_eq_some_iff.1 hb').1⟩; have hb : Below w23.heap.size w23 w24 := hF'.below (belA (Below.refl _ _) _) (fun k h => Nat.le_of_eq (show k = w23.heap.size from h).symm); have Z24 := Sec.mk hb.size; have BH_24 : Sec (w24.heap[w23.heap.size]? = some (.cells (ch).toArray 57 (0, 0))) := ⟨hb'⟩; have B_24 := Sec.mk (bel B_23.out hb); have U_24 := Sec.mk (Kd.O_below U_23.out hb); have BU_24 := Sec.mk (carryB hb BU_23.out); have BG_24 := Sec.mk (carryB hb BG_23.out); have M_24 := Sec.mk (Kd.O_below M_23.out hb); have H_24 := Sec.mk (Kd.O_below H_23.out hb); clear hb hb' hF') | (clear T22; go_at_call 23; have T23 : Sec True := ⟨trivial⟩; refine (WldNewX_i s _ _ t _ _ w22 (kProg.O_K Z_22.out) (Kd.R_V Z2_22.out)).mono ?_; rintro e w23 ⟨ch, rfl, hO, hb⟩; have ch_len := Sec.mk (kWorld.K_len (kWorld.O_K hO)); have Z23 := Sec.mk hb.size; have H_23 : Sec (kWorld.O w23 (Rg w22.heap.size w23.heap.size) (worldX s t) ch) := ⟨Kd.O_mono hO (fun k h1 h2 => ⟨h1, h2⟩)⟩; have B_23 := Sec.mk (bel B_22.out hb); have U_23 := Sec.mk (Kd.O_below U_22.out hb); have BU_23 := Sec.mk (carryB hb BU_22.out); have BG_23 := Sec.mk (carryB hb BG_22.out); have M_23 := Sec.mk (Kd.O_below M_22.out hb); clear hb hO) | (clear T21; go_at_call 22; have T22 : Sec True := ⟨trivial⟩; refine (toSCell_c _ t _ _ (Kd.V_below DV.out B_21.out (by decide))).mono ?_; rintro e w22 ⟨z2, rfl, hR, hb⟩; have Z22 := Sec.mk hb.size; have Z2_22 : Sec (kCell.R w22 (Rg w21.heap.size w22.heap.size) z2 t) := ⟨Kd.R_mono hR (fun k h1 h2 => ⟨h1, h2⟩)⟩; have B_22 := Sec.mk (bel B_21.out hb); have U_22 := Sec.mk (Kd.O_below U_21.out hb); have BU_22 := Sec.mk (carryB hb BU_21.out); have BG_22 := Sec.mk (carryB hb BG_21.out); have M_22 := Sec.mk (Kd.O_below M_21.out hb); have Z_22 := Sec.mk (Kd.O_below Z_21.out hb); clear hb hR) | (clear T20; go_at_call 21; have T21 : Sec True := ⟨trivial⟩; refine (toPrgProg_c s cs _ _ (Kd.K_below AV.out B_20.out)).mono ?_; rintro e w21 ⟨cz, rfl, hO, hb⟩; have cz_len := Sec.mk (kProg.K_len (kProg.O_K hO)); have Z21 := Sec.mk hb.size; have Z_21 : Sec (kProg.O w21 (Rg w20.heap.size w21.heap.size) s cz) := ⟨Kd.O_mono hO (fun k h1 h2 => ⟨h1, h2⟩)⟩; have B_21 := Sec.mk (bel B_20.out hb); have U_21 := Sec.mk (Kd.O_below U_20.out hb); have BU_21 := Sec.mk (carryB hb BU_20.out); have BG_21 := Sec.mk (carryB hb BG_20.out); have M_21 := Sec.mk (Kd.O_below M_20.out hb); clear hb hO) | (with_reducible show wpList _ _ _ (⟨some 75, .load 49 (.tmp 2), _, _, _, _⟩ :: _) _ _; refine wpList_load (cs := cs) (by first | rfl | (simp [Region.wanted]; done) | (simp [Region.wanted, yielded, Act.put]; omega)) 49 (.tmp 2) rfl rfl P_20.out hu rfl (by rw [P_len.out]; kernel_rfl) ?_) | (clear T19; go_at_call 30; have T20 : Sec True := ⟨trivial⟩; refine (heldWldWorld_c (worldX s t) cg _ 1 (by omega) (by have := HL.out; omega) _ (kWorld.O_K M_19.out)).mono ?_; rintro e w20 ⟨rfl, hb⟩; have c2 : ¬ (1 + ((mWorldt.cnt (worldX s t) : Nat) : Int) < 0) := (by omega); have Z20 := Sec.mk hb.size; have B_20 := Sec.mk (bel B_19.out hb); have P_20 := Sec.mk (carryB hb P_19.out); have U_20 := Sec.mk (Kd.O_below U_19.out hb); have BU_20 := Sec.mk (carryB hb BU_19.out); have BG_20 := Sec.mk (carryB hb BG_19.out); have M_20 := Sec.mk (Kd.O_below M_19.out hb); clear hb) | (with_reducible show wpList _ _ _ (⟨some 67, .load 57 (.tmp 9), _, _, _, _⟩ :: _) _ _; refine wpList_load (cs := cg) (by first | rfl | (simp [Region.wanted]; done) | (simp [Region.wanted, yielded, Act.put]; omega)) 57 (.tmp 9) rfl rfl BG_19.out hu3 rfl (by rw [cg_len.out]; kernel_rfl) ?_) | (clear T18; go_at_call 29; have T19 : Sec True := ⟨trivial⟩; refine (markWldWorld_c (worldX s t) cg _ 1 (by omega) (by have := HL.out; omega) _ G_18.out).mono ?_; rintro e w19 ⟨rfl, hO', hF⟩; have Z19 := Sec.mk hF.size; have M_19 := Sec.mk (hO'); have B_19 := Sec.mk (hF.below B_18.out (fun k h => by unfold Rg at h; have zp := Zp.out; have z1 := Z1.out; have z2 := Z2.out; have z3 := Z3.out; have z4 := Z4.out; have z5 := Z5.out; have z6 := Z6.out; have z7 := Z7.out; have z8 := Z8.out; have z9 := Z9.out; have z10 := Z10.out; have z11 := Z11.out; have z12 := Z12.out; have z13 := Z13.out; have z14 := Z14.out; have z15 := Z15.out; have z16 := Z16.out; have z17 := Z17.out; have z18 := Z18.out; have zs6 := ZS6.out; have zs8 := ZS8.out; have zs11 := ZS11.out; omega)); have P_19 := Sec.mk (carry hF P_18.out (fun h => by unfold Rg at h; have zp := Zp.out; have z1 := Z1.out; have z2 := Z2.out; have z3 := Z3.out; have z4 := Z4.out; have z5 := Z5.out; have z6 := Z6.out; have z7 := Z7.out; have z8 := Z8.out; have z9 := Z9.out; have z10 := Z10.out; have z11 := Z11.out; have z12 := Z12.out; have z13 := Z13.out; have z14 := Z14.out; have z15 := Z15.out; have z16 := Z16.out; have z17 := Z17.out; have z18 := Z18.out; have zs6 := ZS6.out; have zs8 := ZS8.out; have zs11 := ZS11.out; omega)); have U_19 := Sec.mk (Foot.O hF U_18.out (fun k h1 h2 => by unfold Rg at h1 h2; have zp := Zp.out; have z1 := Z1.out; have z2 := Z2.out; have z3 := Z3.out; have z4 := Z4.out; have z5 := Z5.out; have z6 := Z6.out; have z7 := Z7.out; have z8 := Z8.out; have z9 := Z9.out; have z10 := Z10.out; have z11 := Z11.out; have z12 := Z12.out; have z13 := Z13.out; have z14 := Z14.out; have z15 := Z15.out; have z16 := Z16.out; have z17 := Z17.out; have z18 := Z18.out; have zs6 := ZS6.out; have zs8 := ZS8.out; have zs11 := ZS11.out; omega)); have BU_19 := Sec.mk (carry hF BU_18.out (fun h => by unfold Rg at h; have zp := Zp.out; have z1 := Z1.out; have z2 := Z2.out; have z3 := Z3.out; have z4 := Z4.out; have z5 := Z5.out; have z6 := Z6.out; have z7 := Z7.out; have z8 := Z8.out; have z9 := Z9.out; have z10 := Z10.out; have z11 := Z11.out; have z12 := Z12.out; have z13 := Z13.out; have z14 := Z14.out; have z15 := Z15.out; have z16 := Z16.out; have z17 := Z17.out; have z18 := Z18.out; have zs6 := ZS6.out; have zs8 := ZS8.out; have zs11 := ZS11.out; omega)); have BG_19 := Sec.mk (carry hF BG_18.out (fun h => by unfold Rg at h; have zp := Zp.out; have z1 := Z1.out; have z2 := Z2.out; have z3 := Z3.out; have z4 := Z4.out; have z5 := Z5.out; have z6 := Z6.out; have z7 := Z7.out; have z8 := Z8.out; have z9 := Z9.out; have z10 := Z10.out; have z11 := Z11.out; have z12 := Z12.out; have z13 := Z13.out; have z14 := Z14.out; have z15 := Z15.out; have z16 := Z16.out; have z17 := Z17.out; have z18 := Z18.out; have zs6 := ZS6.out; have zs8 := ZS8.out; have zs11 := ZS11.out; omega)); clear hF hO') | (with_reducible show wpList _ _ _ (⟨some 64, .load 57 (.tmp 9), _, _, _, _⟩ :: _) _ _; refine wpList_load (cs := cg) (by first | rfl | (simp [Region.wanted]; done) | (simp [Region.wanted, yielded, Act.put]; omega)) 57 (.tmp 9) rfl rfl BG_18.out hu3 rfl (by rw [cg_len.out]; kernel_rfl) ?_) | (clear T17; go_at_call 24; have T18 : Sec True := ⟨trivial⟩; refine (eqWldWorld_c (worldX s t) (worldX s t) cg cu _ _ _ (kWorld.O_K G_17.out) (kWorld.O_K U_17.out)).mono ?_; rintro e w18 ⟨rfl, hb⟩; rw [tru_]; have Z18 := Sec.mk hb.size; have B_18 := Sec.mk (bel B_17.out hb); have P_18 := Sec.mk (carryB hb P_17.out); have U_18 := Sec.mk (Kd.O_below U_17.out hb); have BU_18 := Sec.mk (carryB hb BU_17.out); have G_18 := Sec.mk (Kd.O_below G_17.out hb); have BG_18 := Sec.mk (carryB hb BG_17.out); clear hb) | (with_reducible show wpList _ _ _ (⟨some 60, .load 57 (.tmp 6), _, _, _, _⟩ :: _) _ _; refine wpList_load (cs := cu) (by first | rfl | (simp [Region.wanted, yielded, Act.put]; done) | (simp [Region.wanted, yielded, Act.put]; omega)) 57 (.tmp 6) rfl rfl BU_17.out hu3 rfl (by rw [cu_len.out]; kernel_rfl) ?_) | (with_reducible show wpList _ _ _ (⟨some 59, .load 57 (.tmp 9), _, _, _, _⟩ :: _) _ _; refine wpList_load (cs := cg) (by first | rfl | (simp [Region.wanted, yielded]; done) | (simp [Region.wanted, yielded]; omega)) 57 (.tmp 9) rfl rfl BG_17.out hu3 rfl (by rw [cg_len.out]; kernel_rfl) ?_) | (clear T16; go_at_call 28; have T17 : Sec True := ⟨trivial⟩; refine (markSCell_c _ t _ (1 + ((mProgt.cnt s : Nat) : Int)) (by omega) (by have := HC.out; have := HC2.out; omega) _ X1_16.out).mono ?_; rintro e w17 ⟨rfl, -, hF⟩; have c1 : ¬ (1 + ((mProgt.cnt s : Nat) : Int) + ((mCell.cnts t : Nat) : Int) < 0) := (by omega); have Z17 := Sec.mk hF.size; have B_17 := Sec.mk (hF.below B_16.out (fun k h => by unfold Rg at h; have zp := Zp.out; have z1 := Z1.out; have z2 := Z2.out; have z3 := Z3.out; have z4 := Z4.out; have z5 := Z5.out; have z6 := Z6.out; have z7 := Z7.out; have z8 := Z8.out; have z9 := Z9.out; have z10 := Z10.out; have z11 := Z11.out; have z12 := Z12.out; have z13 := Z13.out; have z14 := Z14.out; have z15 := Z15.out; have z16 := Z16.out; have zs6 := ZS6.out; have zs8 := ZS8.out; have zs11 := ZS11.out; omega)); have P_17 := Sec.mk (carry hF P_16.out (fun h => by unfold Rg at h; have zp := Zp.out; have z1 := Z1.out; have z2 := Z2.out; have z3 := Z3.out; have z4 := Z4.out; have z5 := Z5.out; have z6 := Z6.out; have z7 := Z7.out; have z8 := Z8.out; have z9 := Z9.out; have z10 := Z10.out; have z11 := Z11.out; have z12 := Z12.out; have z13 := Z13.out; have z14 := Z14.out; have z15 := Z15.out; have z16 := Z16.out; have zs6 := ZS6.out; have zs8 := ZS8.out; have zs11 := ZS11.out; omega)); have U_17 := Sec.mk (Foot.O hF U_16.out (fun k h1 h2 => by unfold Rg at h1 h2; have zp := Zp.out; have z1 := Z1.out; have z2 := Z2.out; have z3 := Z3.out; have z4 := Z4.out; have z5 := Z5.out; have z6 := Z6.out; have z7 := Z7.out; have z8 := Z8.out; have z9 := Z9.out; have z10 := Z10.out; have z11 := Z11.out; have z12 := Z12.out; have z13 := Z13.out; have z14 := Z14.out; have z15 := Z15.out; have z16 := Z16.out; have zs6 := ZS6.out; have zs8 := ZS8.out; have zs11 := ZS11.out; omega)); have BU_17 := Sec.mk (carry hF BU_16.out (fun h => by unfold Rg at h; have zp := Zp.out; have z1 := Z1.out; have z2 := Z2.out; have z3 := Z3.out; have z4 := Z4.out; have z5 := Z5.out; have z6 := Z6.out; have z7 := Z7.out; have z8 := Z8.out; have z9 := Z9.out; have z10 := Z10.out; have z11 := Z11.out; have z12 := Z12.out; have z13 := Z13.out; have z14 := Z14.out; have z15 := Z15.out; have z16 := Z16.out; have zs6 := ZS6.out; have zs8 := ZS8.out; have zs11 := ZS11.out; omega)); have G_17 := Sec.mk (Foot.O hF G_16.out (fun k h1 h2 => by unfold Rg at h1 h2; have zp := Zp.out; have z1 := Z1.out; have z2 := Z2.out; have z3 := Z3.out; have z4 := Z4.out; have z5 := Z5.out; have z6 := Z6.out; have z7 := Z7.out; have z8 := Z8.out; have z9 := Z9.out; have z10 := Z10.out; have z11 := Z11.out; have z12 := Z12.out; have z13 := Z13.out; have z14 := Z14.out; have z15 := Z15.out; have z16 := Z16.out; have zs6 := ZS6.out; have zs8 := ZS8.out; have zs11 := ZS11.out; omega)); have BG_17 := Sec.mk (carry hF BG_16.out (fun h => by unfold Rg at h; have zp := Zp.out; have z1 := Z1.out; have z2 := Z2.out; have z3 := Z3.out; have z4 := Z4.out; have z5 := Z5.out; have z6 := Z6.out; have z7 := Z7.out; have z8 := Z8.out; have z9 := Z9.out; have z10 := Z10.out; have z11 := Z11.out; have z12 := Z12.out; have z13 := Z13.out; have z14 := Z14.out; have z15 := Z15.out; have z16 := Z16.out; have zs6 := ZS6.out; have zs8 := ZS8.out; have zs11 := ZS11.out; omega)); clear hF) | (clear T15; go_at_call 27; have T16 : Sec True := ⟨trivial⟩; refine (markPrgProg_c s cx _ 1 (by omega) (by have := HC.out; omega) _ X_15.out).mono ?_; rintro e w16 ⟨rfl, -, hF⟩; have Z16 := Sec.mk hF.size; have B_16 := Sec.mk (hF.below B_15.out (fun k h => by unfold Rg at h; have zp := Zp.out; have z1 := Z1.out; have z2 := Z2.out; have z3 := Z3.out; have z4 := Z4.out; have z5 := Z5.out; have z6 := Z6.out; have z7 := Z7.out; have z8 := Z8.out; have z9 := Z9.out; have z10 := Z10.out; have z11 := Z11.out; have z12 := Z12.out; have z13 := Z13.out; have z14 := Z14.out; have z15 := Z15.out; have zs6 := ZS6.out; have zs8 := ZS8.out; have zs11 := ZS11.out; omega)); have P_16 := Sec.mk (carry hF P_15.out (fun h => by unfold Rg at h; have zp := Zp.out; have z1 := Z1.out; have z2 := Z2.out; have z3 := Z3.out; have z4 := Z4.out; have z5 := Z5.out; have z6 := Z6.out; have z7 := Z7.out; have z8 := Z8.out; have z9 := Z9.out; have z10 := Z10.out; have z11 := Z11.out; have z12 := Z12.out; have z13 := Z13.out; have z14 := Z14.out; have z15 := Z15.out; have zs6 := ZS6.out; have zs8 := ZS8.out; have zs11 := ZS11.out; omega)); have U_16 := Sec.mk (Foot.O hF U_15.out (fun k h1 h2 => by unfold Rg at h1 h2; have zp := Zp.out; have z1 := Z1.out; have z2 := Z2.out; have z3 := Z3.out; have z4 := Z4.out; have z5 := Z5.out; have z6 := Z6.out; have z7 := Z7.out; have z8 := Z8.out; have z9 := Z9.out; have z10 := Z10.out; have z11 := Z11.out; have z12 := Z12.out; have z13 := Z13.out; have z14 := Z14.out; have z15 := Z15.out; have zs6 := ZS6.out; have zs8 := ZS8.out; have zs11 := ZS11.out; omega)); have BU_16 := Sec.mk (carry hF BU_15.out (fun h => by unfold Rg at h; have zp := Zp.out; have z1 := Z1.out; have z2 := Z2.out; have z3 := Z3.out; have z4 := Z4.out; have z5 := Z5.out; have z6 := Z6.out; have z7 := Z7.out; have z8 := Z8.out; have z9 := Z9.out; have z10 := Z10.out; have z11 := Z11.out; have z12 := Z12.out; have z13 := Z13.out; have z14 := Z14.out; have z15 := Z15.out; have zs6 := ZS6.out; have zs8 := ZS8.out; have zs11 := ZS11.out; omega)); have X1_16 := Sec.mk (Foot.R hF X1_15.out (fun k h1 h2 => by unfold Rg at h1 h2; have zp := Zp.out; have z1 := Z1.out; have z2 := Z2.out; have z3 := Z3.out; have z4 := Z4.out; have z5 := Z5.out; have z6 := Z6.out; have z7 := Z7.out; have z8 := Z8.out; have z9 := Z9.out; have z10 := Z10.out; have z11 := Z11.out; have z12 := Z12.out; have z13 := Z13.out; have z14 := Z14.out; have z15 := Z15.out; have zs6 := ZS6.out; have zs8 := ZS8.out; have zs11 := ZS11.out; omega)); have G_16 := Sec.mk (Foot.O hF G_15.out (fun k h1 h2 => by unfold Rg at h1 h2; have zp := Zp.out; have z1 := Z1.out; have z2 := Z2.out; have z3 := Z3.out; have z4 := Z4.out; have z5 := Z5.out; have z6 := Z6.out; have z7 := Z7.out; have z8 := Z8.out; have z9 := Z9.out; have z10 := Z10.out; have z11 := Z11.out; have z12 := Z12.out; have z13 := Z13.out; have z14 := Z14.out; have z15 := Z15.out; have zs6 := ZS6.out; have zs8 := ZS8.out; have zs11 := ZS11.out; omega)); have BG_16 := Sec.mk (carry hF BG_15.out (fun h => by unfold Rg at h; have zp := Zp.out; have z1 := Z1.out; have z2 := Z2.out; have z3 := Z3.out; have z4 := Z4.out; have z5 := Z5.out; have z6 := Z6.out; have z7 := Z7.out; have z8 := Z8.out; have z9 := Z9.out; have z10 := Z10.out; have z11 := Z11.out; have z12 := Z12.out; have z13 := Z13.out; have z14 := Z14.out; have z15 := Z15.out; have zs6 := ZS6.out; have zs8 := ZS8.out; have zs11 := ZS11.out; omega)); clear hF) | (with_reducible show wpList _ _ _ (⟨some 50, .load 28 (.tmp 7), _, _, _, _⟩ :: _) _ _; refine wpList_load (cs := cx) (by first | rfl | (simp [Region.wanted]; done) | (simp [Region.wanted, yielded, Act.put]; omega)) 28 (.tmp 7) rfl rfl BX_15.out hu2 rfl (by rw [cx_len.out]; kernel_rfl) ?_) | (clear T14; go_at_call 26; have T15 : Sec True := ⟨trivial⟩; refine (eqSCell_c _ _ t t _ _ _ (Kd.R_V X1_14.out) (Kd.R_V Z1_14.out)).mono ?_; rintro e w15 ⟨rfl, hb⟩; rw [tru_]; have Z15 := Sec.mk hb.size; have B_15 := Sec.mk (bel B_14.out hb); have P_15 := Sec.mk (carryB hb P_14.out); have U_15 := Sec.mk (Kd.O_below U_14.out hb); have BU_15 := Sec.mk (carryB hb BU_14.out); have X_15 := Sec.mk (Kd.O_below X_14.out hb); have BX_15 := Sec.mk (carryB hb BX_14.out); have X1_15 := Sec.mk (Kd.R_below X1_14.out hb); have G_15 := Sec.mk (Kd.O_below G_14.out hb); have BG_15 := Sec.mk (carryB hb BG_14.out); clear hb) | (clear T13; go_at_call 22; have T14 : Sec True := ⟨trivial⟩; refine (toSCell_c _ t _ _ (Kd.V_below DV.out B_13.out (by decide))).mono ?_; rintro e w14 ⟨z1, rfl, hR, hb⟩; have Z14 := Sec.mk hb.size; have Z1_14 : Sec (kCell.R w14 (Rg w13.heap.size w14.heap.size) z1 t) := ⟨Kd.R_mono hR (fun k h1 h2 => ⟨h1, h2⟩)⟩; have B_14 := Sec.mk (bel B_13.out hb); have P_14 := Sec.mk (carryB hb P_13.out); have U_14 := Sec.mk (Kd.O_below U_13.out hb); have BU_14 := Sec.mk (carryB hb BU_13.out); have X_14 := Sec.mk (Kd.O_below X_13.out hb); have BX_14 := Sec.mk (carryB hb BX_13.out); have X1_14 := Sec.mk (Kd.R_below X1_13.out hb); have G_14 := Sec.mk (Kd.O_below G_13.out hb); have BG_14 := Sec.mk (carryB hb BG_13.out); clear hb hR))
      go_ret
      subst hbp
      exact ⟨rfl, bel WBS.out B_26.out⟩
    · have hsp2 := Raw.spent_gt hbud2
      obtain ⟨A9, c9, rfl, -⟩ := hV
      clear hbud2
      generalize hbp : w0.heap.size = bp at *
      have T0 : Sec True := ⟨trivial⟩
      go_enter Tryz.func4, Tryz.ntmps4
      go_wp2_with (first | (clear T1; go_at_call 19; refine (szSCell_c _ t l hl1 _ (Raw.mono_V rCell_mono B1.out RW.out)).mono ?_; rintro e w2 ⟨rfl, hb⟩; rw [hsp2]; have B2 := Sec.mk (bel B1.out hb); clear hb) | (clear T0; go_at_call 18; have T1 : Sec True := ⟨trivial⟩; refine (szPrgProg_c s cs 1048576 (Nat.le_refl _) _ RV.out).mono ?_; rintro e w1 ⟨rfl, hb⟩; rw [hsp]; have B1 := Sec.mk hb; clear hb) | (with_reducible show wpList _ _ _ (⟨some 14, .load 49 (.tmp 2), _, _, _, _⟩ :: _) _ _; rw [← WW.out]; refine wpList_load (cs := cs) (by first | rfl | (simp [Region.wanted]; done) | (simp [Region.wanted, yielded, Act.put]; omega)) 49 (.tmp 2) rfl rfl P_0.out hu rfl (by rw [P_len.out]; kernel_rfl) ?_))
      go_ret
      subst hbp
      exact ⟨rfl, bel WBS.out B2.out⟩
  · have hsp := Raw.spent_gt hbud
    obtain ⟨A9, c9, rfl, -⟩ := hV
    clear hbud hA hK WB
    generalize hbp : w0.heap.size = bp at *
    have T0 : Sec True := ⟨trivial⟩
    go_enter Tryz.func4, Tryz.ntmps4
    go_wp2_with (first | (clear T0; go_at_call 18; refine (szPrgProg_c s cs 1048576 (Nat.le_refl _) _ RV.out).mono ?_; rintro e w1 ⟨rfl, hb⟩; rw [hsp]; have B1 := Sec.mk hb; clear hb) | (with_reducible show wpList _ _ _ (⟨some 14, .load 49 (.tmp 2), _, _, _, _⟩ :: _) _ _; rw [← WW.out]; refine wpList_load (cs := cs) (by first | rfl | (simp [Region.wanted]; done) | (simp [Region.wanted, yielded, Act.put]; omega)) 49 (.tmp 2) rfl rfl P_0.out hu rfl (by rw [P_len.out]; kernel_rfl) ?_))
    go_ret
    subst hbp
    exact ⟨rfl, bel WBS.out B1.out⟩
end
end Go.Proofs.YtgiobpggonceeaaGreatDoor
