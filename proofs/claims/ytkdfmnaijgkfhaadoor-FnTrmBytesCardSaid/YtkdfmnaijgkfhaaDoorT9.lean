/- Contracts: TrmTake of the reference and of the program. -/
import Derived.Test.YtkdfmnaijgkfhaaDoorT8
import Derived.Test.YtkdfmnaijgkfhaaDoorXByte
import Derived.Test.YtkdfmnaijgkfhaaDoorI4
namespace Go.Proofs.YtkdfmnaijgkfhaaDoor
open Go.RowKit
set_option linter.unusedVariables false
set_option maxRecDepth 100000
theorem equalB_c (v u : Value) (t s : List UInt8) (ok ok' : Nat → Prop) (w : World) (hV : kByte.V w ok v t) (hU : kByte.V w ok' u s) :
    Calls Tryd.prog 45 #[v, u] w fun e w' => e = .returned (.bool (decide (t = s))) ∧ Below w.heap.size w w' := by
  obtain ⟨A, c, rfl, h1, h2, h3, hC, _⟩ := hV
  obtain ⟨B, d, rfl, k1, k2, k3, hD, _⟩ := hU
  have HC := Sec.mk hC
  have HD := Sec.mk hD
  clear hC hD
  by_cases hl : t.length = s.length
  · rw [← hl]
    have HL := Sec.mk hl
    clear hl
    go_enter Tryd.func45, Tryd.ntmps45
    go_wp2
    go_loopw [13] (fun i wr => ∃ k : Nat, k ≤ t.length ∧ i = .int .i64 k ∧ Sec (t.take k = s.take k) ∧ Sec (Below w.heap.size w wr)) (fun i _ => t.length - (intOf i).toNat)
    case atStart => exact ⟨0, Nat.zero_le _, rfl, ⟨by simp⟩, ⟨Below.refl _ _⟩⟩
    case round =>
      obtain ⟨k, hk, rfl, hT, hb⟩ := hrel
      by_cases hlt : k < t.length
      · have hlt2 : k < s.length := by have := HL.out; omega
        obtain ⟨b, off, rfl, _, x0⟩ := byte_at (Kd.C_below HC.out hb.out (by decide)) k hlt
        obtain ⟨b2, off2, rfl, _, y0⟩ := byte_at (Kd.C_below HD.out hb.out (by decide)) k hlt2
        have hT1 : Sec (t[k] = s[k] → t.take (k + 1) = s.take (k + 1)) := ⟨fun e => by rw [List.take_succ_eq_append_getElem hlt, List.take_succ_eq_append_getElem hlt2, hT.out, e]⟩
        have hT2 : Sec (t = s → t[k] = s[k]) := ⟨fun e => by subst e; rfl⟩
        generalize t[k] = x at *
        generalize s[k] = y at *
        have hue := Sec.mk (u8_eq x y)
        have i0 : (0 : Int) ≤ (k : Int) := by omega
        have i1 : (k : Int) < (t.length : Int) := by omega
        have B1 : Sec (Below w.heap.size w wr.drew) := ⟨belD hb.out⟩
        by_cases hxy : x = y
        · have HE : Sec (t.take (k + 1) = s.take (k + 1)) := ⟨hT1.out hxy⟩
          have hq : ((x.toNat : Int) == (y.toNat : Int)) = true := by rw [hue.out]; exact decide_eq_true hxy
          have hq2 : ((x.toNat : Int) != (y.toNat : Int)) = false := by simp only [bne, hq]; rfl
          clear hxy
          go_wp2
          go_region_held3 (fun W => W.cell? ⟨b, off + k, none⟩ = some (.int .u8 (x.toNat : Int)) ∧ W.cell? ⟨b2, off2 + k, none⟩ = some (.int .u8 (y.toNat : Int))) (first | (refine ⟨?_, ?_⟩ <;> assumption) | go_keep) (fail)
          all_goals
            go_wp2
            go_roundw
            case rel => exact ⟨k + 1, by omega, by go_num, HE, by first | exact hb | exact B1 | exact ⟨belD B1.out⟩⟩
            case measure => simp [intOf]; omega
        · have HE : Sec (decide (t = s) = false) := ⟨decide_eq_false (fun e => hxy (hT2.out e))⟩
          have hq : ((x.toNat : Int) == (y.toNat : Int)) = false := by rw [hue.out]; exact decide_eq_false hxy
          have hq2 : ((x.toNat : Int) != (y.toNat : Int)) = true := by simp only [bne, hq]; rfl
          clear hxy
          go_wp2
          go_region_held3 (fun W => W.cell? ⟨b, off + k, none⟩ = some (.int .u8 (x.toNat : Int)) ∧ W.cell? ⟨b2, off2 + k, none⟩ = some (.int .u8 (y.toNat : Int))) (first | (refine ⟨?_, ?_⟩ <;> assumption) | go_keep) (fail)
          all_goals
            go_wp2
            go_ret
            exact ⟨rb HE.out.symm, by first | exact hb.out | exact B1.out | exact belD B1.out⟩
      · have HE : Sec (decide (t = s) = true) := ⟨decide_eq_true (by have := hT.out; have h2 := HL.out; rwa [List.take_of_length_le (by omega), List.take_of_length_le (by omega)] at this)⟩
        go_wp2
        go_ret
        exact ⟨rb HE.out.symm, hb.out⟩
  · have hl' : ((t.length : Int) == (s.length : Int)) = false := beq_eq_false_iff_ne.2 (by omega)
    have HE : Sec (decide (t = s) = false) := ⟨decide_eq_false (fun e => hl (by rw [e]))⟩
    go_enter Tryd.func45, Tryd.ntmps45
    go_wp2
    go_ret
    exact ⟨rb HE.out.symm, Below.refl _ _⟩
theorem toSByte_c (v : Value) (t : List UInt8) (ok : Nat → Prop) (w : World) (hV : kByte.V w ok v t) :
    Calls Tryd.prog 18 #[v] w fun e w' => ∃ u, e = .returned u ∧ kByte.R w' (fun k => w.heap.size ≤ k) u t ∧ Below w.heap.size w w' := by
  obtain ⟨A, c, rfl, h1, h2, h3, hC, _⟩ := hV
  have HC := Sec.mk hC
  clear hC
  have hmk := made (P := Tryd.prog) 24 5 (.int .u8 0) 1 1 Tryd.underlying24 (by kernel_rfl) (by decide) t.length h3
  have HM := Sec.mk (Kd.R_made (d := kByte) (w := w) (B := w.heap.size) (x0 := (0 : UInt8)) (z := #[.int .u8 0]) (n := t.length) (fun w => ⟨rfl, trivial⟩) rfl (Nat.le_refl _) h3)
  rw [show t.length * kByte.sz = t.length from Nat.mul_one _] at HM
  go_enter Tryd.func18, Tryd.ntmps18
  go_wp2
  clear hmk
  go_loopw [4] (fun i wr => ∃ k : Nat, k ≤ t.length ∧ i = .int .i64 k ∧ Sec (kByte.R wr (fun k => w.heap.size ≤ k) (.slice (some ⟨w.heap.size, 0, none⟩) t.length t.length) (t.take k ++ List.replicate (t.length - k) 0)) ∧ Sec (Below w.heap.size w wr)) (fun i _ => t.length - (intOf i).toNat)
  case atStart => exact ⟨0, Nat.zero_le _, rfl, ⟨HM.out⟩, ⟨belA (Below.refl _ _) _⟩⟩
  case round =>
    obtain ⟨k, hk, rfl, hR, hb⟩ := hrel
    by_cases hlt : k < t.length
    · obtain ⟨b, off, rfl, hob, c0⟩ := byte_at (Kd.C_below HC.out hb.out (by decide)) k hlt
      have hL : Sec ((t.take k ++ List.replicate (t.length - k) 0).length = t.length) := ⟨by simp; omega⟩
      have hset : Sec ((t.take k ++ List.replicate (t.length - k) 0).set k t[k] = t.take (k + 1) ++ List.replicate (t.length - (k + 1)) 0) := ⟨put_next t 0 k hlt⟩
      generalize t[k] = x at *
      obtain ⟨cs, hA, -⟩ := Kd.At.of_R hR.out (i := k) (by rw [hL.out]; exact hlt)
      obtain ⟨rfl, -⟩ : cs = [byteC _] ∧ True := hA.K
      have A0 := Sec.mk hA
      clear hA
      have d0 := Kd.At.cell A0.out 0 _ rfl
      rw [show k * kByte.sz + 0 = k from by simp [kByte, Kd.byte, Kd.scalar]] at d0
      have f0 : wr.frozen? ⟨w.heap.size, k, none⟩ = false := Kd.At.frozen A0.out k
      have A1 : Sec (kByte.R (wr.setCell ⟨w.heap.size, k, none⟩ (.int .u8 (x.toNat : Int))) (fun k => w.heap.size ≤ k) (.slice (some ⟨w.heap.size, 0, none⟩) t.length t.length) ((t.take k ++ List.replicate (t.length - k) 0).set k x)) := ⟨by
        have := Kd.At.R (Kd.At.store A0.out (Kd.Fld.self kByte) rfl x (.int .u8 (x.toNat : Int)) (fun w S => ⟨rfl, trivial⟩))
        rwa [show k * kByte.sz + 0 = k from by simp [kByte, Kd.byte, Kd.scalar]] at this⟩
      have F1 := Sec.mk (hb.out.setCell (p := ⟨w.heap.size, k, none⟩) (Nat.le_refl _) (.int .u8 (x.toNat : Int)))
      rw [hset.out] at A1
      clear A0 hset hR
      go_wp2
      go_roundw
      case rel => exact ⟨k + 1, by omega, by go_num, A1, F1⟩
      case measure => simp [intOf]; omega
    · have hfin : Sec (t.take k ++ List.replicate (t.length - k) 0 = t) := ⟨by rw [List.take_of_length_le (by omega), show t.length - k = 0 by omega]; simp⟩
      have hR2 := hR.out
      rw [hfin.out] at hR2
      have HR2 := Sec.mk hR2
      clear hR2 hfin hR
      go_wp2
      go_ret
      exact ⟨_, rfl, HR2.out, hb.out⟩
/-- What TrmTake leaves. -/
def TT (w : World) (p : Term × Bool) (e : Ending) (w' : World) : Prop := ∃ u, e = .returned (.tuple #[u, .bool p.2]) ∧ kCell.R w' (fun k => w.heap.size ≤ k) u p.1 ∧ Below w.heap.size w w'
theorem specTrmTake_c (v : Value) (bs : List UInt8) (ok : Nat → Prop) (hl : bs.length ≤ 10000000) (w : World) (hV : kByte.V w ok v bs) :
    Calls Tryd.prog 17 #[v] w (TT w (takeD bs)) := by
  have H0 := Sec.mk (l6Term_c v bs ok 0 hl (by omega) w hV)
  obtain ⟨A, c, rfl, h1, h2, h3, -, -⟩ := hV
  have hT : Sec (takeD bs = if (termAns (termD bs 0)).2 = bs.length then ((termAns (termD bs 0)).1, true) else ([], false)) := ⟨rfl⟩
  generalize termAns (termD bs 0) = p at *
  obtain ⟨t, n9⟩ := p
  simp only at H0 hT
  by_cases hto : n9 = bs.length
  · have hD : Sec (takeD bs = (t, true)) := ⟨by rw [hT.out, if_pos hto]⟩
    have hq : (n9 != (bs.length : Int)) = false := by simp [hto]
    clear hT hto
    go_enter Tryd.func17, Tryd.ntmps17
    go_wp2_with (go_at_call 43; refine H0.out.mono ?_; rintro e w1 ⟨u, rfl, hR, hb⟩; obtain ⟨Au, cu, rfl, -, -⟩ := Kd.R_form hR; have R1 := Sec.mk hR; have B1 := Sec.mk hb; clear hR hb)
    refine bodyPost_ret (v := .tuple #[.slice Au t.length cu, .bool true]) (by simp [results, Tryd.results17, go_sem]) rfl ?_
    exact ⟨_, by rw [hD.out], by rw [hD.out]; exact R1.out, B1.out⟩
  · have hD : Sec (takeD bs = ([], false)) := ⟨by rw [hT.out, if_neg hto]⟩
    have hq : (n9 != (bs.length : Int)) = true := by simp [hto]
    clear hT hto
    go_enter Tryd.func17, Tryd.ntmps17
    go_wp2_with (go_at_call 43; refine H0.out.mono ?_; rintro e w1 ⟨u, rfl, hR, hb⟩; obtain ⟨Au, cu, rfl, -, -⟩ := Kd.R_form hR; have B1 := Sec.mk hb; clear hR hb)
    have hsz := Sec.mk B1.out.size
    refine bodyPost_ret (v := .tuple #[.slice (some ⟨w1.heap.size, 0, none⟩) 0 0, .bool false]) (by simp [results, Tryd.results17, go_sem]) rfl ?_
    exact ⟨_, by rw [hD.out], by rw [hD.out]; exact Kd.R_empty kCell hsz.out, belA B1.out _⟩
theorem TrmTake_i (v : Value) (bs : List UInt8) (ok : Nat → Prop) (hl : bs.length ≤ 10000000) (w : World) (hV0 : kByte.V w ok v bs) :
    Calls Tryd.prog 19 #[v] w (TT w (takeD bs)) := by
  have hV := Sec.mk (Kd.V_in hV0 (by decide))
  have hB : Sec (kByte.V (w.alloc (.cells #[v] 65)) (fun k => ok k ∧ k < w.heap.size) v bs) := ⟨Kd.V_below hV.out (belA (Below.refl _ _) _) (by decide)⟩
  have H0 := Sec.mk (tterm_i w.heap.size v bs (fun k => ok k ∧ k < w.heap.size) hl (fun h => Nat.lt_irrefl _ h.2) (w.alloc (.cells #[v] 65)) (fun k h => Nat.lt_of_lt_of_le h.2 (belA (Below.refl w.heap.size w) _).size) (heap_alloc_new w _) hB.out)
  obtain ⟨A, c, rfl, h1, h2, h3, -, -⟩ := hV0
  have hu := Tryd.underlying65
  have hT := Sec.mk (takeD_impl bs)
  generalize tkTerm bs = t at *
  have FB : ∀ {w1 : World}, Foot (fun x => x = w.heap.size) (w.alloc (.cells #[.slice A bs.length c] 65)) w1 → Below w.heap.size w w1 := fun {w1} h => h.below (belA (Below.refl _ _) _) (fun k e => Nat.le_of_eq e.symm)
  have FV : ∀ {w1 : World}, Below w.heap.size w w1 → kByte.V w1 (fun k => ok k ∧ k < w.heap.size) (.slice A bs.length c) bs := fun {w1} h => Kd.V_below hV.out h (by decide)
  by_cases hok : trmOk t = true
  · by_cases heq : trmBytes t = bs
    · have hD : Sec (takeD bs = (t, true)) := ⟨by rw [hT.out, if_pos ⟨hok, heq⟩]⟩
      have HK := Sec.mk hok
      have HQ := Sec.mk heq
      clear hT hok heq
      go_enter Tryd.func19, Tryd.ntmps19
      go_wp2_with (first | (go_at_call 44; refine H0.out.mono ?_; rintro e w1 ⟨u, rfl, hR, hF⟩; obtain ⟨Au, cu, rfl, -, -⟩ := Kd.R_form hR; have R1 : Sec (kCell.R w1 (fun k => w.heap.size ≤ k) (.slice Au t.length cu) t) := ⟨Kd.R_mono hR (fun k h _ => Nat.le_trans (belA (Below.refl w.heap.size w) _).size h)⟩; have B1 := Sec.mk (FB hF); clear hR hF) | (go_at_call 25; refine (TrmOk_i _ t _ _ (Kd.R_V R1.out)).mono ?_; rw [HK.out]; rintro e w2 ⟨rfl, hb⟩; have R2 := Sec.mk (Kd.R_below R1.out hb); have B2 := Sec.mk (bel B1.out hb); clear hb) | (go_at_call 11; refine (TrmBytes_i _ _ t _ (Kd.R_V R2.out)).mono ?_; rintro e w3 ⟨u3, rfl, hR, hb⟩; rw [HQ.out] at hR; obtain ⟨A3, c3, rfl, -, -⟩ := Kd.R_form hR; have S3 := Sec.mk (Kd.R_V hR); have R3 := Sec.mk (Kd.R_below R2.out hb); have B3 := Sec.mk (bel B2.out hb); clear hR hb) | (go_at_call 45; refine (equalB_c _ _ bs bs _ _ _ S3.out (FV B3.out)).mono ?_; rw [decide_eq_true rfl]; rintro e w4 ⟨rfl, hb⟩; have R4 := Sec.mk (Kd.R_below R3.out hb); have B4 := Sec.mk (bel B3.out hb); clear hb))
      refine bodyPost_ret (v := .tuple #[.slice Au t.length cu, .bool true]) (by simp [results, Tryd.results19, go_sem]) rfl ?_
      exact ⟨_, by rw [hD.out], by rw [hD.out]; exact R4.out, B4.out⟩
    · have hD : Sec (takeD bs = ([], false)) := ⟨by rw [hT.out, if_neg (fun h => heq h.2)]⟩
      have HK := Sec.mk hok
      have HQ := Sec.mk (decide_eq_false heq)
      clear hT hok heq
      go_enter Tryd.func19, Tryd.ntmps19
      go_wp2_with (first | (go_at_call 44; refine H0.out.mono ?_; rintro e w1 ⟨u, rfl, hR, hF⟩; obtain ⟨Au, cu, rfl, -, -⟩ := Kd.R_form hR; have R1 : Sec (kCell.R w1 (fun k => w.heap.size ≤ k) (.slice Au t.length cu) t) := ⟨Kd.R_mono hR (fun k h _ => Nat.le_trans (belA (Below.refl w.heap.size w) _).size h)⟩; have B1 := Sec.mk (FB hF); clear hR hF) | (go_at_call 25; refine (TrmOk_i _ t _ _ (Kd.R_V R1.out)).mono ?_; rw [HK.out]; rintro e w2 ⟨rfl, hb⟩; have R2 := Sec.mk (Kd.R_below R1.out hb); have B2 := Sec.mk (bel B1.out hb); clear hb) | (go_at_call 11; refine (TrmBytes_i _ _ t _ (Kd.R_V R2.out)).mono ?_; rintro e w3 ⟨u3, rfl, hR, hb⟩; obtain ⟨A3, c3, rfl, -, -⟩ := Kd.R_form hR; have S3 := Sec.mk (Kd.R_V hR); have B3 := Sec.mk (bel B2.out hb); clear hR hb) | (go_at_call 45; refine (equalB_c _ _ (trmBytes t) bs _ _ _ S3.out (FV B3.out)).mono ?_; rw [HQ.out]; rintro e w4 ⟨rfl, hb⟩; have B4 := Sec.mk (bel B3.out hb); clear hb))
      refine bodyPost_ret (v := .tuple #[.slice none 0 0, .bool false]) (by simp [results, Tryd.results19, go_sem]) rfl ?_
      exact ⟨_, by rw [hD.out], by rw [hD.out]; exact Kd.R_nil _ _ _, B4.out⟩
  · have hD : Sec (takeD bs = ([], false)) := ⟨by rw [hT.out, if_neg (fun h => hok h.1)]⟩
    have HK : Sec (trmOk t = false) := ⟨by simpa using hok⟩
    clear hT hok
    go_enter Tryd.func19, Tryd.ntmps19
    go_wp2_with (first | (go_at_call 44; refine H0.out.mono ?_; rintro e w1 ⟨u, rfl, hR, hF⟩; obtain ⟨Au, cu, rfl, -, -⟩ := Kd.R_form hR; have R1 : Sec (kCell.R w1 (fun k => w.heap.size ≤ k) (.slice Au t.length cu) t) := ⟨Kd.R_mono hR (fun k h _ => Nat.le_trans (belA (Below.refl w.heap.size w) _).size h)⟩; have B1 := Sec.mk (FB hF); clear hR hF) | (go_at_call 25; refine (TrmOk_i _ t _ _ (Kd.R_V R1.out)).mono ?_; rw [HK.out]; rintro e w2 ⟨rfl, hb⟩; have B2 := Sec.mk (bel B1.out hb); clear hb))
    refine bodyPost_ret (v := .tuple #[.slice none 0 0, .bool false]) (by simp [results, Tryd.results19, go_sem]) rfl ?_
    exact ⟨_, by rw [hD.out], by rw [hD.out]; exact Kd.R_nil _ _ _, B2.out⟩
end Go.Proofs.YtkdfmnaijgkfhaaDoor
