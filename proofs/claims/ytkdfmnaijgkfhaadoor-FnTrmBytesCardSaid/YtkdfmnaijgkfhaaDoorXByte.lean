/- What the exact laws' own functions do with rows of bytes. -/
import Derived.Test.YtkdfmnaijgkfhaaDoorExB
import Derived.Deep.RegionHeld3
namespace Go.Proofs.YtkdfmnaijgkfhaaDoor
open Go.RowKit
set_option linter.unusedVariables false
set_option maxRecDepth 100000
theorem byte_at {w : World} {ok : Nat → Prop} {A : Option Addr} {xs : List UInt8} (h : kByte.C w ok A xs) (i : Nat) (hi : i < xs.length) : ∃ b off, A = some ⟨b, off, none⟩ ∧ ok b ∧ w.cell? ⟨b, off + i, none⟩ = some (.int .u8 (xs[i].toNat : Int)) := by
  obtain ⟨b, off, cs, hA, hb, hK, hc⟩ := Kd.C_get h (List.getElem?_eq_getElem hi)
  obtain ⟨rfl, _⟩ := hK
  refine ⟨b, off, hA, hb, ?_⟩
  have := hc 0 _ rfl
  rw [show i * kByte.sz + 0 = i from by simp [kByte, Kd.byte, Kd.scalar]] at this
  exact this
theorem u8_eq (x y : UInt8) : (((x.toNat : Int) == (y.toNat : Int)) = decide (x = y)) := by
  rw [Bool.beq_eq_decide_eq, decide_eq_decide]
  constructor
  · intro h; exact UInt8.toNat_inj.1 (by omega)
  · rintro rfl; rfl
theorem eqSByte_c (v u : Value) (t s : List UInt8) (ok ok' : Nat → Prop) (w : World) (hV : kByte.V w ok v t) (hU : kByte.V w ok' u s) :
    Calls Tryd.prog 12 #[v, u] w fun e w' => e = .returned (.bool (decide (t = s))) ∧ Below w.heap.size w w' := by
  obtain ⟨A, c, rfl, h1, h2, h3, hC, _⟩ := hV
  obtain ⟨B, d, rfl, k1, k2, k3, hD, _⟩ := hU
  have HC := Sec.mk hC
  have HD := Sec.mk hD
  clear hC hD
  by_cases hl : t.length = s.length
  · rw [← hl]
    have HL := Sec.mk hl
    clear hl
    go_enter Tryd.func12, Tryd.ntmps12
    go_wp2
    go_loopw [5] (fun i wr => ∃ k : Nat, k ≤ t.length ∧ i = .int .i64 k ∧ Sec (t.take k = s.take k) ∧ Sec (Below w.heap.size w wr)) (fun i _ => t.length - (intOf i).toNat)
    case atStart => exact ⟨0, Nat.zero_le _, rfl, ⟨by simp⟩, ⟨Below.refl _ _⟩⟩
    case round =>
      obtain ⟨k, hk, rfl, hT, hb⟩ := hrel
      by_cases hlt : k < t.length
      · have hlt2 : k < s.length := by have := HL.out; omega
        obtain ⟨b, off, rfl, _, x0⟩ := byte_at (Kd.C_below HC.out hb.out (by decide)) k hlt
        obtain ⟨b2, off2, rfl, _, y0⟩ := byte_at (Kd.C_below HD.out hb.out (by decide)) k hlt2
        have hT1 : Sec (t[k] = s[k] → t.take (k + 1) = s.take (k + 1)) := ⟨fun e => by rw [List.take_succ_eq_append_getElem hlt, List.take_succ_eq_append_getElem hlt2, hT.out, e]⟩
        have hT2 : Sec (t = s → t[k] = s[k]) := ⟨fun e => by subst e; rfl⟩
        generalize t[k] = x at *
        generalize s[k] = y at *
        have hue := Sec.mk (u8_eq x y)
        have i0 : (0 : Int) ≤ (k : Int) := by omega
        have i1 : (k : Int) < (t.length : Int) := by omega
        have B1 : Sec (Below w.heap.size w wr.drew) := ⟨belD hb.out⟩
        by_cases hxy : x = y
        · have HE : Sec (t.take (k + 1) = s.take (k + 1)) := ⟨hT1.out hxy⟩
          have hq : ((x.toNat : Int) == (y.toNat : Int)) = true := by rw [hue.out]; exact decide_eq_true hxy
          have hq2 : ((x.toNat : Int) != (y.toNat : Int)) = false := by simp only [bne, hq]; rfl
          clear hxy
          go_wp2
          go_region_held3 (fun W => W.cell? ⟨b, off + k, none⟩ = some (.int .u8 (x.toNat : Int)) ∧ W.cell? ⟨b2, off2 + k, none⟩ = some (.int .u8 (y.toNat : Int))) (first | (refine ⟨?_, ?_⟩ <;> assumption) | go_keep) (fail)
          all_goals
            go_wp2
            go_roundw
            case rel => exact ⟨k + 1, by omega, by go_num, HE, by first | exact hb | exact B1 | exact ⟨belD B1.out⟩⟩
            case measure => simp [intOf]; omega
        · have HE : Sec (decide (t = s) = false) := ⟨decide_eq_false (fun e => hxy (hT2.out e))⟩
          have hq : ((x.toNat : Int) == (y.toNat : Int)) = false := by rw [hue.out]; exact decide_eq_false hxy
          have hq2 : ((x.toNat : Int) != (y.toNat : Int)) = true := by simp only [bne, hq]; rfl
          clear hxy
          go_wp2
          go_region_held3 (fun W => W.cell? ⟨b, off + k, none⟩ = some (.int .u8 (x.toNat : Int)) ∧ W.cell? ⟨b2, off2 + k, none⟩ = some (.int .u8 (y.toNat : Int))) (first | (refine ⟨?_, ?_⟩ <;> assumption) | go_keep) (fail)
          all_goals
            go_wp2
            go_ret
            exact ⟨rb HE.out.symm, by first | exact hb.out | exact B1.out | exact belD B1.out⟩
      · have HE : Sec (decide (t = s) = true) := ⟨decide_eq_true (by have := hT.out; have h2 := HL.out; rwa [List.take_of_length_le (by omega), List.take_of_length_le (by omega)] at this)⟩
        go_wp2
        go_ret
        exact ⟨rb HE.out.symm, hb.out⟩
  · have hl' : ((t.length : Int) == (s.length : Int)) = false := beq_eq_false_iff_ne.2 (by omega)
    have HE : Sec (decide (t = s) = false) := ⟨decide_eq_false (fun e => hl (by rw [e]))⟩
    go_enter Tryd.func12, Tryd.ntmps12
    go_wp2
    go_ret
    exact ⟨rb HE.out.symm, Below.refl _ _⟩
def mByte : Mk UInt8 := ⟨fun _ => 1, fun _ k => u8 k⟩
theorem mByte_cnts (t : List UInt8) : mByte.cnts t = t.length := by
  unfold Mk.cnts
  induction t with
  | nil => rfl
  | cons x t ih => rw [List.map_cons, List.sum_cons, ih, List.length_cons]; show 1 + _ = _; omega
theorem markSByte_c (v : Value) (t : List UInt8) (S : Nat → Prop) (k : Int) (hk : 0 ≤ k) (hk2 : k + mByte.cnts t ≤ 1000000000000000000) (w : World) (hR : kByte.R w S v t) :
    Calls Tryd.prog 15 #[v, .int .i64 k] w fun e w' => e = .returned (.int .i64 (k + mByte.cnts t)) ∧ kByte.R w' S v (mByte.mks t k) ∧ Foot S w w' := by
  obtain ⟨A, cp, hv, g1, g2⟩ := Kd.R_form hR
  subst hv
  have h3 : t.length ≤ 1073741824 := hR.1
  have HR := Sec.mk hR
  clear hR
  rw [mByte_cnts] at hk2 ⊢
  have HX := Sec.mk (mByte.next t k)
  have HCN : Sec (∀ i, i ≤ t.length → mByte.cnts (t.take i) = i) := ⟨fun i hi => by rw [mByte_cnts, List.length_take]; omega⟩
  go_enter Tryd.func15, Tryd.ntmps15
  go_wp2
  go_loopw [1, 5] (fun kv iv wr => ∃ i : Nat, i ≤ t.length ∧ iv = .int .i64 i ∧ kv = .int .i64 (k + (i : Int)) ∧ Sec (kByte.R wr S (.slice A t.length cp) (mByte.mks (t.take i) k ++ t.drop i)) ∧ Sec (Foot S w wr)) (fun _ iv _ => t.length - (intOf iv).toNat)
  case atStart => exact ⟨0, Nat.zero_le _, rfl, by simp, ⟨by simpa [Mk.mks] using HR.out⟩, ⟨Foot.refl _ _⟩⟩
  case round =>
    obtain ⟨i, hi, rfl, rfl, hM, hF⟩ := hrel
    by_cases hlt : i < t.length
    · have hL : (mByte.mks (t.take i) k ++ t.drop i).length = t.length := mByte.len_ t k i
      have hil : i < (mByte.mks (t.take i) k ++ t.drop i).length := by omega
      obtain ⟨b, rfl, -, hSb, hbb, -⟩ := Kd.R_block hM.out (by omega)
      obtain ⟨cs, hA, -⟩ := Kd.At.of_R hM.out hil
      rw [mByte.at_ t k i hlt] at hA
      have hnext := HX.out i hlt
      rw [HCN.out i hi] at hnext
      have HNX := Sec.mk hnext
      clear hM hL hnext
      generalize mByte.mks (t.take i) k ++ t.drop i = L at *
      generalize t[i] = x at *
      obtain ⟨rfl, -⟩ : cs = [byteC x] ∧ True := hA.K
      have A0 := Sec.mk hA
      clear hA
      have c0 : wr.cell? ⟨b, i, none⟩ = some (byteC x) := by
        have := Kd.At.cell A0.out 0 _ rfl
        rwa [show i * kByte.sz + 0 = i from by simp [kByte, Kd.byte, Kd.scalar]] at this
      have f0 : wr.frozen? ⟨b, i, none⟩ = false := Kd.At.frozen A0.out i
      have A1 : Sec (Kd.At kByte (wr.setCell ⟨b, i, none⟩ (.int .u8 (IntKind.u8.wrap (k + (i : Int))))) S b t.length cp L i (mByte.one x (k + (i : Int))) [.int .u8 (IntKind.u8.wrap (k + (i : Int)))]) := ⟨by
        have := Kd.At.store A0.out (Kd.Fld.self kByte) rfl (mByte.one x (k + (i : Int))) (.int .u8 (IntKind.u8.wrap (k + (i : Int)))) (fun w S => kByte_O w S _)
        rwa [show i * kByte.sz + 0 = i from by simp [kByte, Kd.byte, Kd.scalar]] at this⟩
      have F1 : Sec (Foot S w (wr.setCell ⟨b, i, none⟩ (.int .u8 (IntKind.u8.wrap (k + (i : Int)))))) := ⟨hF.out.set (g := b) (.inl hSb) i (.int .u8 (IntKind.u8.wrap (k + (i : Int))))⟩
      go_wp2
      go_roundw
      case rel => exact ⟨i + 1, by omega, by go_num, by congr 1; omega, ⟨by rw [← HNX.out]; exact A1.out.R⟩, F1⟩
      case measure => simp [intOf]; omega
    · have hfin : Sec (mByte.mks (t.take i) k ++ t.drop i = mByte.mks t k) := ⟨by rw [List.take_of_length_le (by omega), List.drop_of_length_le (by omega), List.append_nil]⟩
      have hM2 := hM.out
      rw [hfin.out] at hM2
      have HM2 := Sec.mk hM2
      have hi2 : Sec (k + (i : Int) = k + (t.length : Int)) := ⟨by omega⟩
      clear hM2 hM hfin
      go_wp2
      go_ret
      exact ⟨ri hi2.out, HM2.out, hF.out⟩
theorem heldSByte_c (v : Value) (t : List UInt8) (ok : Nat → Prop) (k : Int) (hk : 0 ≤ k) (hk2 : k + mByte.cnts t ≤ 1000000000000000000) (w : World) (hV : kByte.V w ok v (mByte.mks t k)) :
    Calls Tryd.prog 16 #[v, .int .i64 k] w fun e w' => e = .returned (.int .i64 (k + mByte.cnts t)) ∧ Below w.heap.size w w' := by
  obtain ⟨A, cp, rfl, g1, g2, g3, hC, _⟩ := hV
  rw [Mk.mks_len] at g1 g3
  rw [Mk.mks_len]
  rw [mByte_cnts] at hk2 ⊢
  have HC := Sec.mk hC
  clear hC
  have HCN : Sec (∀ i, i ≤ t.length → mByte.cnts (t.take i) = i) := ⟨fun i hi => by rw [mByte_cnts, List.length_take]; omega⟩
  have HG := Sec.mk (mByte.get t k)
  have HLn := Sec.mk (mByte.mks_len t k)
  go_enter Tryd.func16, Tryd.ntmps16
  go_wp2
  go_loop [1, 5] (fun kv iv => ∃ i : Nat, i ≤ t.length ∧ iv = .int .i64 i ∧ kv = .int .i64 (k + (i : Int))) (fun _ iv => t.length - (intOf iv).toNat)
  case atStart => exact ⟨0, Nat.zero_le _, rfl, by simp⟩
  case round =>
    obtain ⟨i, hi, rfl, rfl⟩ := hrel
    by_cases hlt : i < t.length
    · obtain ⟨b, off, rfl, hob, c0⟩ := byte_at HC.out i (by rw [HLn.out]; exact hlt)
      rw [HG.out i hlt, HCN.out i hi] at c0
      have e1 : ((mByte.one t[i] (k + (i : Int))).toNat : Int) = (k + (i : Int)) % 256 := u8_toNat _
      have c1 : w.cell? ⟨b, off + i, none⟩ = some (.int .u8 ((k + (i : Int)) % 256)) := by rw [← e1]; exact c0
      have e2 : IntKind.u8.wrap (k + (i : Int)) = (k + (i : Int)) % 256 := IntKind.wrap_u8' _
      clear c0 e1
      go_wp2
      go_round
      case rel => exact ⟨i + 1, by omega, by go_num, by congr 1; omega⟩
      case measure => simp [intOf]; omega
    · have hi2 : Sec (k + (i : Int) = k + (t.length : Int)) := ⟨by omega⟩
      go_wp2
      go_ret
      exact ⟨ri hi2.out, Below.refl _ _⟩
end Go.Proofs.YtkdfmnaijgkfhaaDoor
