/- What the exact laws' own functions do with rows of bytes; and what goes with it. -/
import Derived.Test.YteflipoiiddkfaaGreatDoorMr1
import Derived.Test.YteflipoiiddkfaaGreatDoorMr2
import Derived.Deep.RegionHeld3
import Derived.Outline
import Derived.KernelRfl
import Derived.WalkLawsBesides
import Derived.Deep.LoopGhost
import Derived.Lib.SliceRun
import Derived.Test.YteflipoiiddkfaaGreatDoorShelf
namespace Go.Proofs.YteflipoiiddkfaaGreatDoor
section
open Go.RowKit
set_option linter.unusedVariables false
set_option maxRecDepth 100000
theorem byte_at {w : World} {ok : Nat → Prop} {A : Option Addr} {xs : List UInt8} (h : kByte.C w ok A xs) (i : Nat) (hi : i < xs.length) : ∃ b off, A = some ⟨b, off, none⟩ ∧ ok b ∧ w.cell? ⟨b, off + i, none⟩ = some (.int .u8 (xs[i].toNat : Int)) := by
  obtain ⟨b, off, cs, hA, hb, hK, hc⟩ := Kd.C_get h (List.getElem?_eq_getElem hi)
  obtain ⟨rfl, _⟩ := hK
  refine ⟨b, off, hA, hb, ?_⟩
  have := hc 0 _ rfl
  rw [show i * kByte.sz + 0 = i from by simp [kByte, Kd.byte, Kd.scalar]] at this
  exact this
theorem u8_eq (x y : UInt8) : (((x.toNat : Int) == (y.toNat : Int)) = decide (x = y)) := by
  rw [Bool.beq_eq_decide_eq, decide_eq_decide]
  constructor
  · intro h; exact UInt8.toNat_inj.1 (by omega)
  · rintro rfl; rfl
theorem eqSByte_c (v u : Value) (t s : List UInt8) (ok ok' : Nat → Prop) (w : World) (hV : kByte.V w ok v t) (hU : kByte.V w ok' u s) :
    Calls Tryz.prog 9 #[v, u] w fun e w' => e = .returned (.bool (decide (t = s))) ∧ Below w.heap.size w w' := by
  obtain ⟨A, c, rfl, h1, h2, h3, hC, _⟩ := hV
  obtain ⟨B, d, rfl, k1, k2, k3, hD, _⟩ := hU
  have HC := Sec.mk hC
  have HD := Sec.mk hD
  clear hC hD
  by_cases hl : t.length = s.length
  · rw [← hl]
    have HL := Sec.mk hl
    clear hl
    go_enter Tryz.func9, Tryz.ntmps9
    go_wp2
    go_loopw [5] (fun i wr => ∃ k : Nat, k ≤ t.length ∧ i = .int .i64 k ∧ Sec (t.take k = s.take k) ∧ Sec (Below w.heap.size w wr)) (fun i _ => t.length - (intOf i).toNat)
    case atStart => exact ⟨0, Nat.zero_le _, rfl, ⟨by simp⟩, ⟨Below.refl _ _⟩⟩
    case round =>
      obtain ⟨k, hk, rfl, hT, hb⟩ := hrel
      by_cases hlt : k < t.length
      · have hlt2 : k < s.length := by have := HL.out; omega
        obtain ⟨b, off, rfl, _, x0⟩ := byte_at (Kd.C_below HC.out hb.out (by decide)) k hlt
        obtain ⟨b2, off2, rfl, _, y0⟩ := byte_at (Kd.C_below HD.out hb.out (by decide)) k hlt2
        have hT1 : Sec (t[k] = s[k] → t.take (k + 1) = s.take (k + 1)) := ⟨fun e => by rw [List.take_succ_eq_append_getElem hlt, List.take_succ_eq_append_getElem hlt2, hT.out, e]⟩
        have hT2 : Sec (t = s → t[k] = s[k]) := ⟨fun e => by subst e; rfl⟩
        generalize t[k] = x at *
        generalize s[k] = y at *
        have hue := Sec.mk (u8_eq x y)
        have i0 : (0 : Int) ≤ (k : Int) := by omega
        have i1 : (k : Int) < (t.length : Int) := by omega
        have B1 : Sec (Below w.heap.size w wr.drew) := ⟨belD hb.out⟩
        by_cases hxy : x = y
        · have HE : Sec (t.take (k + 1) = s.take (k + 1)) := ⟨hT1.out hxy⟩
          have hq : ((x.toNat : Int) == (y.toNat : Int)) = true := by rw [hue.out]; exact decide_eq_true hxy
          have hq2 : ((x.toNat : Int) != (y.toNat : Int)) = false := by simp only [bne, hq]; rfl
          clear hxy
          go_wp2
          go_region_held3 (fun W => W.cell? ⟨b, off + k, none⟩ = some (.int .u8 (x.toNat : Int)) ∧ W.cell? ⟨b2, off2 + k, none⟩ = some (.int .u8 (y.toNat : Int))) (first | (refine ⟨?_, ?_⟩ <;> assumption) | go_keep) (fail)
          all_goals
            go_wp2
            go_roundw
            case rel => exact ⟨k + 1, by omega, by go_num, HE, by first | exact hb | exact B1 | exact ⟨belD B1.out⟩⟩
            case measure => simp [intOf]; omega
        · have HE : Sec (decide (t = s) = false) := ⟨decide_eq_false (fun e => hxy (hT2.out e))⟩
          have hq : ((x.toNat : Int) == (y.toNat : Int)) = false := by rw [hue.out]; exact decide_eq_false hxy
          have hq2 : ((x.toNat : Int) != (y.toNat : Int)) = true := by simp only [bne, hq]; rfl
          clear hxy
          go_wp2
          go_region_held3 (fun W => W.cell? ⟨b, off + k, none⟩ = some (.int .u8 (x.toNat : Int)) ∧ W.cell? ⟨b2, off2 + k, none⟩ = some (.int .u8 (y.toNat : Int))) (first | (refine ⟨?_, ?_⟩ <;> assumption) | go_keep) (fail)
          all_goals
            go_wp2
            go_ret
            exact ⟨rb HE.out.symm, by first | exact hb.out | exact B1.out | exact belD B1.out⟩
      · have HE : Sec (decide (t = s) = true) := ⟨decide_eq_true (by have := hT.out; have h2 := HL.out; rwa [List.take_of_length_le (by omega), List.take_of_length_le (by omega)] at this)⟩
        go_wp2
        go_ret
        exact ⟨rb HE.out.symm, hb.out⟩
  · have hl' : ((t.length : Int) == (s.length : Int)) = false := beq_eq_false_iff_ne.2 (by omega)
    have HE : Sec (decide (t = s) = false) := ⟨decide_eq_false (fun e => hl (by rw [e]))⟩
    go_enter Tryz.func9, Tryz.ntmps9
    go_wp2
    go_ret
    exact ⟨rb HE.out.symm, Below.refl _ _⟩
def mByte : Mk UInt8 := ⟨fun _ => 1, fun _ k => u8 k⟩
theorem mByte_cnts (t : List UInt8) : mByte.cnts t = t.length := by
  unfold Mk.cnts
  induction t with
  | nil => rfl
  | cons x t ih => rw [List.map_cons, List.sum_cons, ih, List.length_cons]; show 1 + _ = _; omega
theorem markSByte_c (v : Value) (t : List UInt8) (S : Nat → Prop) (k : Int) (hk : 0 ≤ k) (hk2 : k + mByte.cnts t ≤ 1000000000000000000) (w : World) (hR : kByte.R w S v t) :
    Calls Tryz.prog 12 #[v, .int .i64 k] w fun e w' => e = .returned (.int .i64 (k + mByte.cnts t)) ∧ kByte.R w' S v (mByte.mks t k) ∧ Foot S w w' := by
  obtain ⟨A, cp, hv, g1, g2⟩ := Kd.R_form hR
  subst hv
  have h3 : t.length ≤ 1073741824 := hR.1
  have HR := Sec.mk hR
  clear hR
  rw [mByte_cnts] at hk2 ⊢
  have HX := Sec.mk (mByte.next t k)
  have HCN : Sec (∀ i, i ≤ t.length → mByte.cnts (t.take i) = i) := ⟨fun i hi => by rw [mByte_cnts, List.length_take]; omega⟩
  go_enter Tryz.func12, Tryz.ntmps12
  go_wp2
  go_loopw [1, 5] (fun kv iv wr => ∃ i : Nat, i ≤ t.length ∧ iv = .int .i64 i ∧ kv = .int .i64 (k + (i : Int)) ∧ Sec (kByte.R wr S (.slice A t.length cp) (mByte.mks (t.take i) k ++ t.drop i)) ∧ Sec (Foot S w wr)) (fun _ iv _ => t.length - (intOf iv).toNat)
  case atStart => exact ⟨0, Nat.zero_le _, rfl, by simp, ⟨by simpa [Mk.mks] using HR.out⟩, ⟨Foot.refl _ _⟩⟩
  case round =>
    obtain ⟨i, hi, rfl, rfl, hM, hF⟩ := hrel
    by_cases hlt : i < t.length
    · have hL : (mByte.mks (t.take i) k ++ t.drop i).length = t.length := mByte.len_ t k i
      have hil : i < (mByte.mks (t.take i) k ++ t.drop i).length := by omega
      obtain ⟨b, rfl, -, hSb, hbb, -⟩ := Kd.R_block hM.out (by omega)
      obtain ⟨cs, hA, -⟩ := Kd.At.of_R hM.out hil
      rw [mByte.at_ t k i hlt] at hA
      have hnext := HX.out i hlt
      rw [HCN.out i hi] at hnext
      have HNX := Sec.mk hnext
      clear hM hL hnext
      generalize mByte.mks (t.take i) k ++ t.drop i = L at *
      generalize t[i] = x at *
      obtain ⟨rfl, -⟩ : cs = [byteC x] ∧ True := hA.K
      have A0 := Sec.mk hA
      clear hA
      have c0 : wr.cell? ⟨b, i, none⟩ = some (byteC x) := by
        have := Kd.At.cell A0.out 0 _ rfl
        rwa [show i * kByte.sz + 0 = i from by simp [kByte, Kd.byte, Kd.scalar]] at this
      have f0 : wr.frozen? ⟨b, i, none⟩ = false := Kd.At.frozen A0.out i
      have A1 : Sec (Kd.At kByte (wr.setCell ⟨b, i, none⟩ (.int .u8 (IntKind.u8.wrap (k + (i : Int))))) S b t.length cp L i (mByte.one x (k + (i : Int))) [.int .u8 (IntKind.u8.wrap (k + (i : Int)))]) := ⟨by
        have := Kd.At.store A0.out (Kd.Fld.self kByte) rfl (mByte.one x (k + (i : Int))) (.int .u8 (IntKind.u8.wrap (k + (i : Int)))) (fun w S => kByte_O w S _)
        rwa [show i * kByte.sz + 0 = i from by simp [kByte, Kd.byte, Kd.scalar]] at this⟩
      have F1 : Sec (Foot S w (wr.setCell ⟨b, i, none⟩ (.int .u8 (IntKind.u8.wrap (k + (i : Int)))))) := ⟨hF.out.set (g := b) (.inl hSb) i (.int .u8 (IntKind.u8.wrap (k + (i : Int))))⟩
      go_wp2
      go_roundw
      case rel => exact ⟨i + 1, by omega, by go_num, by congr 1; omega, ⟨by rw [← HNX.out]; exact A1.out.R⟩, F1⟩
      case measure => simp [intOf]; omega
    · have hfin : Sec (mByte.mks (t.take i) k ++ t.drop i = mByte.mks t k) := ⟨by rw [List.take_of_length_le (by omega), List.drop_of_length_le (by omega), List.append_nil]⟩
      have hM2 := hM.out
      rw [hfin.out] at hM2
      have HM2 := Sec.mk hM2
      have hi2 : Sec (k + (i : Int) = k + (t.length : Int)) := ⟨by omega⟩
      clear hM2 hM hfin
      go_wp2
      go_ret
      exact ⟨ri hi2.out, HM2.out, hF.out⟩
end
section
open Go.RowKit
set_option linter.unusedVariables false
set_option maxRecDepth 100000
theorem l1In_c (n lo hi : Int) (w : World) : Calls Tryz.prog 46 #[.int .i64 n, .int .i64 lo, .int .i64 hi] w fun e w' => e = .returned (.bool (inB n lo hi)) ∧ w = w' := by
  go_enter Tryz.func46, Tryz.ntmps46
  go_wp2
  all_goals (go_ret; exact ⟨by unfold inB; simp_all; try omega, rfl⟩)
theorem l1Name_c (s : ByteArray) (w : World) : Calls Tryz.prog 80 #[.string s] w fun e w' => e = .returned (.bool (nameOk s)) ∧ w = w' := by
  by_cases h : (1 ≤ s.size ∧ s.size ≤ 8) ∧ (s.toList == [97, 110, 100]) = false
  · obtain ⟨⟨h1, h2⟩, h3⟩ := h
    have h0 : ¬ s = ByteArray.empty := by rintro rfl; simp at h1
    have h4 : ((s.size : Int) == 0) = false := by rw [beq_eq_false_iff_ne]; omega
    have hfin : Sec (s.data.toList.all small = nameOk s) := ⟨by unfold nameOk; simp [h1, h2, h3]⟩
    go_enter Tryz.func80, Tryz.ntmps80
    go_wp2
    go_loop [3] (fun i => ∃ k : Nat, k ≤ s.size ∧ i = .int .i64 k ∧ (s.data.toList.take k).all small = true) (fun i => s.size - (intOf i).toNat)
    case atStart => exact ⟨0, Nat.zero_le _, rfl, by simp⟩
    case round =>
      obtain ⟨k, hk, rfl, hr⟩ := hrel
      have hR : Sec ((s.data.toList.take k).all small = true) := ⟨hr⟩
      clear hr
      by_cases hlt : k < s.size
      · have hA := take_all small s.data.toList k (by simpa using hlt)
        have hb : s.data.toList[k]'(by simpa using hlt) = s[k] := rfl
        rw [hb, hR.out, Bool.true_and] at hA
        cases hs : small s[k] with
        | true =>
          rw [hs] at hA
          have hA' := Sec.mk hA
          clear hA
          simp only [small, Bool.and_eq_true, decide_eq_true_eq] at hs
          obtain ⟨g1, g2⟩ := hs
          go_wp2
          go_round
          case rel => exact ⟨k + 1, by omega, by go_num, hA'.out⟩
          case measure => simp [intOf]; omega
        | false =>
          have hF : Sec (nameOk s = false) := ⟨by
            rw [← hfin.out, ← Bool.not_eq_true]; intro h
            have := List.all_eq_true.1 h s[k] (by rw [← hb]; exact List.getElem_mem _)
            rw [hs] at this; cases this⟩
          clear hA
          have hs' : ¬ (97 ≤ (s[k].toNat : Int) ∧ (s[k].toNat : Int) ≤ 122) := by simpa [small] using hs
          clear hs
          go_wp2
          all_goals first
            | (exfalso; apply hs'; assumption)
            | (go_ret; exact ⟨rb hF.out.symm, rfl⟩)
      · have hf2 : Sec (nameOk s = true) := ⟨by rw [← hfin.out, ← hR.out, List.take_of_length_le (by simp; omega)]⟩
        go_wp2
        go_ret
        exact ⟨rb hf2.out.symm, rfl⟩
  · have hfin : Sec (nameOk s = false) := ⟨by unfold nameOk; revert h; cases (s.toList == [97, 110, 100]) <;> simp <;> omega⟩
    by_cases h1 : s.size = 0
    · have h0 : s = ByteArray.empty := ByteArray.ext (Array.eq_empty_of_size_eq_zero h1)
      clear h h1
      subst h0
      go_enter Tryz.func80, Tryz.ntmps80
      go_wp2
      go_ret
      exact ⟨rb hfin.out.symm, rfl⟩
    · have h4 : ((s.size : Int) == 0) = false := by rw [beq_eq_false_iff_ne]; omega
      have h0 : ¬ s = ByteArray.empty := by rintro rfl; simp at h1
      by_cases h2 : 8 < (s.size : Int)
      · clear h
        go_enter Tryz.func80, Tryz.ntmps80
        go_wp2
        go_ret
        exact ⟨rb hfin.out.symm, rfl⟩
      · have h3 : (s.toList == [97, 110, 100]) = true := by
          cases h5 : (s.toList == [97, 110, 100])
          · exact absurd ⟨⟨by omega, by omega⟩, h5⟩ h
          · rfl
        clear h
        go_enter Tryz.func80, Tryz.ntmps80
        go_wp2
        go_ret
        exact ⟨rb hfin.out.symm, rfl⟩
theorem l1Cell_c (x : Cell) (w : World) : Calls Tryz.prog 64 #[x.agg] w fun e w' => e = .returned (.bool (cellOk x)) ∧ Below w.heap.size w w' := by
  have hu := Tryz.underlying77
  have hB : Sec (Below w.heap.size w (w.alloc (.cells #[.int .i64 x.kind, .int .i64 x.n, .string x.name] 77))) := ⟨(Below.refl _ _).alloc (Nat.le_refl _) _⟩
  go_enter Tryz.func64, Tryz.ntmps64
  go_wp2_with (first | (go_at_call 46; refine (l1In_c _ _ _ _).mono ?_; rintro e w' ⟨rfl, rfl⟩) | (go_at_call 80; refine (l1Name_c _ _).mono ?_; rintro e w' ⟨rfl, rfl⟩))
  all_goals (go_ret; exact ⟨rb (by simp_all [cellOk]), hB.out⟩)
theorem l1End_c (A : Option Addr) (c : Nat) (t : Term) (ok : Nat → Prop) (at_ : Nat) (w : World) (hC : kCell.C w ok A t) (hl : t.length ≤ 1073741824) (hat : at_ ≤ t.length) (hc : t.all cellOk = true) :
    Calls Tryz.prog 65 #[.slice A t.length c, .int .i64 at_] w fun e w' => e = .returned (.int .i64 (endAt t at_)) ∧ w = w' := by
  have HC := Sec.mk hC
  have Hc := Sec.mk hc
  clear hC hc
  go_enter Tryz.func65, Tryz.ntmps65
  go_wp2
  go_loop [5, 6] (fun o k => ∃ m j : Nat, j ≤ t.length ∧ m ≤ 1 + 3 * j ∧ o = .int .i64 m ∧ k = .int .i64 j ∧ Sec (skip 1 (t.drop at_) = skip m (t.drop j))) (fun _ k => t.length - (intOf k).toNat)
  case atStart => exact ⟨1, at_, hat, by omega, rfl, rfl, ⟨rfl⟩⟩
  case round =>
    obtain ⟨m, j, hj, hm, rfl, rfl, hs⟩ := hrel
    cases m with
    | zero =>
      have hf : Sec (endAt t at_ = j) := ⟨by unfold endAt; rw [hs.out]; simp [skip]; omega⟩
      go_wp2
      go_ret
      exact ⟨ri hf.out.symm, rfl⟩
    | succ m =>
      by_cases hlt : j < t.length
      · obtain ⟨b, off, rfl, hb, h0, h1, h2, _⟩ := cell_at HC.out j hlt
        have hok := cellOk_arity (List.all_eq_true.1 Hc.out _ (List.getElem_mem hlt))
        have hst := Sec.mk (hs.out.trans (skip_step hlt))
        generalize t[j] = x at *
        by_cases hk : x.kind = 3
        · obtain ⟨g1, g2⟩ := hok.2 hk
          have hn : Sec ((m : Int) + 1 - 1 + x.n = ((m + arity x : Nat) : Int)) := ⟨by unfold arity; rw [if_pos hk]; omega⟩
          have hbd := hok.1
          clear hok
          have hk' : (x.kind == 3) = true := beq_iff_eq.2 hk
          clear hk
          go_wp2
          go_round
          case rel => exact ⟨m + arity x, j + 1, by omega, by omega, by rw [← hn.out]; go_num, by go_num, hst⟩
          case measure => simp [intOf]; omega
        · have hn : Sec (arity x = 0) := ⟨by unfold arity; rw [if_neg hk]⟩
          clear hok
          have hk' : (x.kind == 3) = false := beq_eq_false_iff_ne.2 hk
          clear hk
          go_wp2
          go_round
          case rel => exact ⟨m, j + 1, by omega, by omega, by go_num, by go_num, ⟨by rw [hst.out, hn.out]; rfl⟩⟩
          case measure => simp [intOf]; omega
      · have hf : Sec (endAt t at_ = -1) := ⟨by unfold endAt; rw [hs.out, skip_out (by omega)]⟩
        go_wp2
        go_ret
        exact ⟨ri hf.out.symm, rfl⟩
theorem TrmOk_c (v : Value) (t : Term) (ok : Nat → Prop) (w : World) (hV : kCell.V w ok v t) :
    Calls Tryz.prog 48 #[v] w fun e w' => e = .returned (.bool (trmOk t)) ∧ Below w.heap.size w w' := by
  obtain ⟨A, c, rfl, h1, h2, h3, hC, _⟩ := hV
  have HC := Sec.mk hC
  clear hC
  have hu := Tryz.underlying77
  by_cases h : 1 ≤ t.length ∧ t.length ≤ 40
  · obtain ⟨g1, g2⟩ := h
    have n1 : ((t.length : Int) == 0) = false := by rw [beq_eq_false_iff_ne]; omega
    have n2 : ¬ t = [] := by rintro rfl; simp at g1
    go_enter Tryz.func48, Tryz.ntmps48
    go_wp2
    go_loopw [3] (fun i wr => ∃ k : Nat, k ≤ t.length ∧ i = .int .i64 k ∧ Sec ((t.take k).all cellOk = true) ∧ Sec (Below w.heap.size w wr)) (fun i _ => t.length - (intOf i).toNat)
    case atStart => exact ⟨0, Nat.zero_le _, rfl, ⟨rfl⟩, ⟨Below.refl _ _⟩⟩
    case round =>
      obtain ⟨k, hk, rfl, hr, hb⟩ := hrel
      by_cases hlt : k < t.length
      · obtain ⟨b, off, rfl, hob, c0, c1, c2, _⟩ := cell_at (Kd.C_below HC.out hb.out (by decide)) k hlt
        have hA := Sec.mk (take_all cellOk t k hlt)
        generalize hx : t[k] = x at *
        have Hx := Sec.mk hx
        clear hx
        cases hs : cellOk x with
        | true =>
          have hA' : Sec ((t.take (k + 1)).all cellOk = true) := ⟨by rw [hA.out, hr.out, hs]; rfl⟩
          have Hs := Sec.mk hs
          clear hs
          go_wp2_with (go_at_call 64; refine (l1Cell_c x _).mono ?_; rw [Hs.out]; rintro e w1 ⟨rfl, hb1⟩; have hb2 := Sec.mk (bel hb.out hb1); clear hb1)
          go_roundw
          case rel => exact ⟨k + 1, by omega, by go_num, hA', hb2⟩
          case measure => simp [intOf]; omega
        | false =>
          have hF : Sec (trmOk t = false) := ⟨by
            unfold trmOk
            have : t.all cellOk = false := by
              rw [← Bool.not_eq_true]; intro h
              have := List.all_eq_true.1 h x (by rw [← Hx.out]; exact List.getElem_mem _)
              rw [hs] at this; cases this
            rw [this]; simp⟩
          have Hs := Sec.mk hs
          clear hs
          go_wp2_with (go_at_call 64; refine (l1Cell_c x _).mono ?_; rw [Hs.out]; rintro e w1 ⟨rfl, hb1⟩; have hb2 := Sec.mk (bel hb.out hb1); clear hb1)
          go_ret
          exact ⟨rb hF.out.symm, hb2.out⟩
      · have hall : Sec (t.all cellOk = true) := ⟨by have := hr.out; rwa [List.take_of_length_le (by omega)] at this⟩
        have hfin : Sec ((endAt t 0 == (t.length : Int)) = trmOk t) := ⟨by
          have e := endAt_whole t
          unfold trmOk; rw [hall.out, ← e, Bool.beq_eq_decide_eq]; simp [g1, g2]⟩
        go_wp2_with (go_at_call 65; refine (l1End_c A c t ok 0 _ (Kd.C_below HC.out hb.out (by decide)) h3 (Nat.zero_le _) hall.out).mono ?_; rintro e w1 ⟨rfl, rfl⟩)
        go_ret
        exact ⟨rb hfin.out, hb.out⟩
  · have hF : Sec (trmOk t = false) := ⟨by unfold trmOk; simp; omega⟩
    by_cases n2 : t = []
    · subst n2
      go_enter Tryz.func48, Tryz.ntmps48
      go_wp2
      go_ret
      exact ⟨rb hF.out.symm, Below.refl _ _⟩
    · have n1 : ((t.length : Int) == 0) = false := by rw [beq_eq_false_iff_ne]; have := List.length_pos_iff.2 n2; omega
      have n3 : 40 < (t.length : Int) := by have := List.length_pos_iff.2 n2; omega
      clear h
      go_enter Tryz.func48, Tryz.ntmps48
      go_wp2
      go_ret
      exact ⟨rb hF.out.symm, Below.refl _ _⟩
end
section
open Go.RowKit
set_option linter.unusedVariables false
set_option maxRecDepth 100000
theorem info_int : (Tryz.prog.info? 3).map (fun i => (i.zero, i.size, i.bytes)) = some (some (.int .i64 0), 1, 8) := by kernel_rfl
theorem info_cell : (Tryz.prog.info? 77).map (fun i => (i.zero, i.size, i.bytes)) = some (some (.agg #[.int .i64 0, .int .i64 0, .string ⟨#[]⟩]), 3, 32) := by kernel_rfl
theorem int_at {w : World} {ok : Nat → Prop} {A : Option Addr} {xs : List Int} (h : kInt.C w ok A xs) (i : Nat) (hi : i < xs.length) : ∃ b off, A = some ⟨b, off, none⟩ ∧ ok b ∧ w.cell? ⟨b, off + i, none⟩ = some (.int .i64 xs[i]) := by
  obtain ⟨b, off, cs, hA, hb, hK, hc⟩ := Kd.C_get h (List.getElem?_eq_getElem hi)
  obtain ⟨rfl, _⟩ := hK
  refine ⟨b, off, hA, hb, ?_⟩
  have := hc 0 _ rfl
  rw [show i * kInt.sz + 0 = i from by simp [kInt, Kd.int, Kd.scalar]] at this
  exact this
theorem int_O (w : World) (S : Nat → Prop) (n : Int) : kInt.O w S n [.int .i64 n] := ⟨rfl, trivial⟩

theorem l1Has_c (v : Value) (l : List Int) (n : Int) (ok : Nat → Prop) (w : World) (hV : kInt.V w ok v l) :
    Calls Tryz.prog 91 #[v, .int .i64 n] w fun e w' => e = .returned (.bool (decide (n ∈ l))) ∧ w = w' := by
  obtain ⟨A, c, rfl, h1, h2, h3, hC, _⟩ := hV
  have HC := Sec.mk hC
  clear hC
  go_enter Tryz.func91, Tryz.ntmps91
  go_wp2
  go_loop [5] (fun i => ∃ k : Nat, k ≤ l.length ∧ i = .int .i64 k ∧ Sec (¬ n ∈ l.take k)) (fun i => l.length - (intOf i).toNat)
  case atStart => exact ⟨0, Nat.zero_le _, rfl, ⟨by simp⟩⟩
  case round =>
    obtain ⟨k, hk, rfl, hr⟩ := hrel
    by_cases hlt : k < l.length
    · obtain ⟨b, off, rfl, hob, c0⟩ := int_at HC.out k hlt
      have hT := Sec.mk (List.take_succ_eq_append_getElem hlt)
      have hM := Sec.mk (List.getElem_mem hlt)
      generalize l[k] = x at *
      by_cases hx : x = n
      · subst hx
        go_wp2
        go_ret
        exact ⟨rb (by simp [hM.out]), rfl⟩
      · have hx' : (x == n) = false := beq_eq_false_iff_ne.2 hx
        have hn : Sec (¬ n ∈ l.take (k + 1)) := ⟨by rw [hT.out]; simp [hr.out]; omega⟩
        clear hx
        go_wp2
        go_round
        case rel => exact ⟨k + 1, by omega, by go_num, hn⟩
        case measure => simp [intOf]; omega
    · have hn : Sec (¬ n ∈ l) := ⟨by have := hr.out; rwa [List.take_of_length_le (by omega)] at this⟩
      go_wp2
      go_ret
      exact ⟨rb (by simp [hn.out]), rfl⟩

theorem TrmFree_c (v : Value) (t : Term) (ok : Nat → Prop) (w : World) (hV : kCell.V w ok v t) :
    Calls Tryz.prog 75 #[v] w fun e w' => ∃ u, e = .returned u ∧ kInt.R w' (fun k => w.heap.size ≤ k) u (free t) ∧ Below w.heap.size w w' := by
  obtain ⟨A, c, rfl, h1, h2, h3, hC, _⟩ := hV
  have HC := Sec.mk hC
  clear hC
  have H3 := Sec.mk h3
  have hu := Tryz.underlying77
  go_enter Tryz.func75, Tryz.ntmps75
  go_wp2
  go_loopw [3, 4] (fun v i wr => ∃ k : Nat, k ≤ t.length ∧ i = .int .i64 k ∧ Sec (kInt.R wr (fun k => w.heap.size ≤ k) v (free (t.take k))) ∧ Sec (Below w.heap.size w wr)) (fun _ i _ => t.length - (intOf i).toNat)
  case atStart => exact ⟨0, Nat.zero_le _, rfl, ⟨Kd.R_empty kInt (Nat.le_refl _)⟩, ⟨belA (Below.refl _ _) _⟩⟩
  case round =>
    obtain ⟨k, hk, rfl, hR, hb⟩ := hrel
    by_cases hlt : k < t.length
    · obtain ⟨b, off, rfl, hob, c0, c1, c2, _⟩ := cell_at (Kd.C_below HC.out hb.out (by decide)) k hlt
      have hT : Sec (free (t.take (k + 1)) = freeStep (free (t.take k)) t[k]) := ⟨take_foldl _ _ _ _ hlt⟩
      have hL : Sec ((free (t.take k)).length + 1 ≤ 1073741824) := ⟨by have := free_len (t.take k); rw [List.length_take] at this; have := H3.out; omega⟩
      generalize t[k] = x at *
      by_cases hx : x.kind = 1
      · have hx' : (x.kind == 1) = true := beq_iff_eq.2 hx
        have hV := Sec.mk (Kd.R_V hR.out)
        by_cases hm : x.n ∈ free (t.take k)
        · have hT' : Sec (free (t.take (k + 1)) = free (t.take k)) := ⟨by rw [hT.out]; unfold freeStep; rw [if_neg (by simp [hm])]⟩
          have Hm := Sec.mk hm
          clear hx hm
          go_wp2_with (go_at_call 91; refine (l1Has_c _ _ _ _ _ hV.out).mono ?_; rw [decide_eq_true Hm.out]; rintro e w' ⟨rfl, rfl⟩)
          go_roundw
          case rel => exact ⟨k + 1, by omega, by go_num, ⟨by rw [hT'.out]; exact hR.out⟩, hb⟩
          case measure => simp [intOf]; omega
        · have hT' : Sec (free (t.take (k + 1)) = free (t.take k) ++ [x.n]) := ⟨by rw [hT.out]; unfold freeStep; rw [if_pos ⟨hx, hm⟩]⟩
          have Hm := Sec.mk hm
          clear hx hm
          go_wp2_with (first | (go_at_call 91; refine (l1Has_c _ _ _ _ _ hV.out).mono ?_; rw [decide_eq_false Hm.out]; rintro e w' ⟨rfl, rfl⟩) | (at_builtin; refine Kd.R_app kInt (w0 := w) (wb := wr) (W := wr) rfl (.tmp 28) (.tmp 34) 96 (.int .i64 0) 8 rfl Tryz.underlying96 info_int rfl (by decide) (by decide) _ _ x.n [.int .i64 x.n] rfl rfl (by simp) hR.out hb.out (Below.refl _ _) (int_O _ _ _) hL.out ?_; intro v1 w1 hR1 hb1; have HR1 := Sec.mk hR1; have HB1 := Sec.mk hb1; clear hR1 hb1))
          go_roundw
          case rel => exact ⟨k + 1, by omega, by go_num, ⟨by rw [hT'.out]; exact HR1.out⟩, HB1⟩
          case measure => simp [intOf]; omega
      · have hx' : (x.kind == 1) = false := beq_eq_false_iff_ne.2 hx
        have hT' : Sec (free (t.take (k + 1)) = free (t.take k)) := ⟨by rw [hT.out]; unfold freeStep; rw [if_neg (by simp [hx])]⟩
        clear hx
        go_wp2
        go_roundw
        case rel => exact ⟨k + 1, by omega, by go_num, ⟨by rw [hT'.out]; exact hR.out⟩, hb⟩
        case measure => simp [intOf]; omega
    · have hf : Sec (free (t.take k) = free t) := ⟨by rw [List.take_of_length_le (by omega)]⟩
      go_wp2
      go_ret
      exact ⟨_, rfl, by rw [← hf.out]; exact hR.out, hb.out⟩

theorem l1Shift_c (v : Value) (t : Term) (n : Int) (ok : Nat → Prop) (w : World) (hV : kCell.V w ok v t) :
    Calls Tryz.prog 63 #[v, .int .i64 n] w fun e w' => ∃ u, e = .returned u ∧ kCell.R w' (fun k => w.heap.size ≤ k) u (shifted t n) ∧ Below w.heap.size w w' := by
  obtain ⟨A, c, rfl, h1, h2, h3, hC, _⟩ := hV
  have HC := Sec.mk hC
  clear hC
  have H3 := Sec.mk h3
  have hu := Tryz.underlying77
  go_enter Tryz.func63, Tryz.ntmps63
  go_wp2
  go_loopw [5, 6] (fun v i wr => ∃ k : Nat, k ≤ t.length ∧ i = .int .i64 k ∧ Sec (kCell.R wr (fun k => w.heap.size ≤ k) v ((t.take k).map (shiftC n))) ∧ Sec (Below w.heap.size w wr)) (fun _ i _ => t.length - (intOf i).toNat)
  case atStart => exact ⟨0, Nat.zero_le _, rfl, ⟨Kd.R_empty kCell (Nat.le_refl _)⟩, ⟨belA (Below.refl _ _) _⟩⟩
  case round =>
    obtain ⟨k, hk, rfl, hR, hb⟩ := hrel
    by_cases hlt : k < t.length
    · obtain ⟨b, off, rfl, hob, c0, c1, c2, hnm⟩ := cell_at (Kd.C_below HC.out hb.out (by decide)) k hlt
      have hT : Sec ((t.take (k + 1)).map (shiftC n) = (t.take k).map (shiftC n) ++ [shiftC n t[k]]) := ⟨take_map _ _ _ hlt⟩
      have hL : Sec (((t.take k).map (shiftC n)).length + 1 ≤ 1073741824) := ⟨by simp; omega⟩
      generalize t[k] = x at *
      by_cases hx : x.kind = 1
      · have hx' : (x.kind == 1) = true := beq_iff_eq.2 hx
        have hs : Sec (shiftC n x = ⟨x.kind, wrap64 (x.n + n), x.name⟩) := ⟨by unfold shiftC; rw [if_pos hx]⟩
        clear hx
        go_wp2_with (at_builtin; refine Kd.R_app kCell (w0 := w) (wb := wr) rfl (.tmp 27) (.tmp 29) 30 (.agg #[.int .i64 0, .int .i64 0, .string ⟨#[]⟩]) 32 rfl Tryz.underlying30 info_cell rfl (by decide) (by decide) _ _ ⟨x.kind, wrap64 (x.n + n), x.name⟩ [.int .i64 x.kind, .int .i64 (wrap64 (x.n + n)), .string x.name] rfl rfl (by simp) hR.out hb.out (belA (Below.refl _ _) _) (kCell_mk _ _ _ hnm) hL.out ?_; intro v1 w1 hR1 hb1; have HR1 := Sec.mk hR1; have HB1 := Sec.mk hb1; clear hR1 hb1)
        go_roundw
        case rel => exact ⟨k + 1, by omega, by go_num, ⟨by rw [hT.out, hs.out]; exact HR1.out⟩, HB1⟩
        case measure => simp [intOf]; omega
      · have hx' : (x.kind == 1) = false := beq_eq_false_iff_ne.2 hx
        have hs : Sec (shiftC n x = x) := ⟨by unfold shiftC; rw [if_neg hx]⟩
        clear hx
        go_wp2_with (at_builtin; refine Kd.R_app kCell (w0 := w) (wb := wr) rfl (.tmp 27) (.tmp 29) 30 (.agg #[.int .i64 0, .int .i64 0, .string ⟨#[]⟩]) 32 rfl Tryz.underlying30 info_cell rfl (by decide) (by decide) _ _ x (cellC x) rfl rfl (by simp) hR.out hb.out (belA (Below.refl _ _) _) (kCell_mk _ _ _ hnm) hL.out ?_; intro v1 w1 hR1 hb1; have HR1 := Sec.mk hR1; have HB1 := Sec.mk hb1; clear hR1 hb1)
        go_roundw
        case rel => exact ⟨k + 1, by omega, by go_num, ⟨by rw [hT.out, hs.out]; exact HR1.out⟩, HB1⟩
        case measure => simp [intOf]; omega
    · have hf : Sec ((t.take k).map (shiftC n) = shifted t n) := ⟨by rw [List.take_of_length_le (by omega)]; rfl⟩
      go_wp2
      go_ret
      exact ⟨_, rfl, by rw [← hf.out]; exact hR.out, hb.out⟩
end
section
open Go.RowKit
set_option linter.unusedVariables false
set_option maxRecDepth 100000
theorem place_at (l : List Int) (n : Int) (k : Nat) (h : k < l.length) (h0 : ¬ n ∈ l.take k) (h1 : l[k] = n) : place l n = k := by
  unfold place
  have hm : n ∈ l := by rw [← h1]; exact List.getElem_mem h
  rw [if_pos hm]
  have e : l = l.take k ++ n :: l.drop (k + 1) := by rw [← h1, ← List.drop_eq_getElem_cons h, List.take_append_drop]
  rw [e, List.idxOf_append, if_neg h0, List.idxOf_cons_self, List.length_take]
  omega
theorem place_not (l : List Int) (n : Int) (h : ¬ n ∈ l) : place l n = -1 := if_neg h
theorem place_in (l : List Int) (n : Int) : (0 ≤ place l n) ↔ n ∈ l := by
  unfold place
  by_cases h : n ∈ l
  · rw [if_pos h]; simp [h]
  · rw [if_neg h]; simp [h]
theorem l1Place_c (v : Value) (l : List Int) (n : Int) (ok : Nat → Prop) (w : World) (hV : kInt.V w ok v l) :
    Calls Tryz.prog 76 #[v, .int .i64 n] w fun e w' => e = .returned (.int .i64 (place l n)) ∧ w = w' := by
  obtain ⟨A, c, rfl, h1, h2, h3, hC, _⟩ := hV
  have HC := Sec.mk hC
  clear hC
  go_enter Tryz.func76, Tryz.ntmps76
  go_wp2
  go_loop [5] (fun i => ∃ k : Nat, k ≤ l.length ∧ i = .int .i64 k ∧ Sec (¬ n ∈ l.take k)) (fun i => l.length - (intOf i).toNat)
  case atStart => exact ⟨0, Nat.zero_le _, rfl, ⟨by simp⟩⟩
  case round =>
    obtain ⟨k, hk, rfl, hr⟩ := hrel
    by_cases hlt : k < l.length
    · obtain ⟨b, off, rfl, hob, c0⟩ := int_at HC.out k hlt
      have hT := Sec.mk (List.take_succ_eq_append_getElem hlt)
      have hP := Sec.mk (place_at l n k hlt hr.out)
      generalize l[k] = x at *
      by_cases hx : x = n
      · have hp := Sec.mk (hP.out hx)
        subst hx
        go_wp2
        go_ret
        exact ⟨ri hp.out.symm, rfl⟩
      · have hx' : (x == n) = false := beq_eq_false_iff_ne.2 hx
        have hn : Sec (¬ n ∈ l.take (k + 1)) := ⟨by rw [hT.out]; simp [hr.out]; omega⟩
        clear hx
        go_wp2
        go_round
        case rel => exact ⟨k + 1, by omega, by go_num, hn⟩
        case measure => simp [intOf]; omega
    · have hn : Sec (place l n = -1) := ⟨place_not l n (by have := hr.out; rwa [List.take_of_length_le (by omega)] at this)⟩
      go_wp2
      go_ret
      exact ⟨ri hn.out.symm, rfl⟩
theorem TrmCanon_c (v : Value) (t : Term) (ok : Nat → Prop) (w : World) (hV : kCell.V w ok v t) :
    Calls Tryz.prog 61 #[v] w fun e w' => ∃ u, e = .returned u ∧ kCell.R w' (fun k => w.heap.size ≤ k) u (canon t) ∧ Below w.heap.size w w' := by
  have HVV := Sec.mk hV
  obtain ⟨A, c, rfl, h1, h2, h3, hC, _⟩ := hV
  have HC := Sec.mk hC
  clear hC
  have H3 := Sec.mk h3
  have hu := Tryz.underlying77
  generalize hfr : free t = fr
  have HFR := Sec.mk hfr
  go_enter Tryz.func61, Tryz.ntmps61
  go_wp2_with (go_at_call 75; refine (TrmFree_c _ t ok _ HVV.out).mono ?_; rintro e wf ⟨vf, rfl, hRf, hbf⟩; rw [HFR.out] at hRf; have HF := Sec.mk (Kd.R_V hRf); obtain ⟨Af, cf, rfl, -, -⟩ := Kd.R_form hRf; have BF := Sec.mk hbf; clear hRf hbf)
  go_loopw [4, 5] (fun v i wr => ∃ k : Nat, k ≤ t.length ∧ i = .int .i64 k ∧ Sec (kCell.R wr (fun k => wf.heap.size ≤ k) v ((t.take k).map (canonC fr))) ∧ Sec (Below wf.heap.size wf wr)) (fun _ i _ => t.length - (intOf i).toNat)
  case atStart => exact ⟨0, Nat.zero_le _, rfl, ⟨Kd.R_empty kCell (Nat.le_refl _)⟩, ⟨belA (Below.refl _ _) _⟩⟩
  case round =>
    obtain ⟨k, hk, rfl, hR, hb⟩ := hrel
    by_cases hlt : k < t.length
    · obtain ⟨b, off, rfl, hob, c0, c1, c2, hnm⟩ := cell_at (Kd.C_below HC.out (bel BF.out hb.out) (by decide)) k hlt
      have hT : Sec ((t.take (k + 1)).map (canonC fr) = (t.take k).map (canonC fr) ++ [canonC fr t[k]]) := ⟨take_map _ _ _ hlt⟩
      have hL : Sec (((t.take k).map (canonC fr)).length + 1 ≤ 1073741824) := ⟨by simp; omega⟩
      generalize t[k] = x at *
      by_cases hx : x.kind = 1
      · have hx' : (x.kind == 1) = true := beq_iff_eq.2 hx
        have hs : Sec (canonC fr x = ⟨x.kind, place fr x.n, x.name⟩) := ⟨by unfold canonC; rw [if_pos hx]⟩
        clear hx
        go_wp2_with (first | (go_at_call 76; refine (l1Place_c _ fr x.n _ _ (Kd.V_below HF.out (belA hb.out _) (by decide))).mono ?_; rintro e w' ⟨rfl, rfl⟩) | (at_builtin; refine Kd.R_app kCell (w0 := wf) (wb := wr) rfl (.tmp 28) (.tmp 30) 30 (.agg #[.int .i64 0, .int .i64 0, .string ⟨#[]⟩]) 32 rfl Tryz.underlying30 info_cell rfl (by decide) (by decide) _ _ ⟨x.kind, place fr x.n, x.name⟩ [.int .i64 x.kind, .int .i64 (place fr x.n), .string x.name] rfl rfl (by simp) hR.out hb.out (belA (Below.refl _ _) _) (kCell_mk _ _ _ hnm) hL.out ?_; intro v1 w1 hR1 hb1; have HR1 := Sec.mk hR1; have HB1 := Sec.mk hb1; clear hR1 hb1))
        go_roundw
        case rel => exact ⟨k + 1, by omega, by go_num, ⟨by rw [hT.out, hs.out]; exact HR1.out⟩, HB1⟩
        case measure => simp [intOf]; omega
      · have hx' : (x.kind == 1) = false := beq_eq_false_iff_ne.2 hx
        have hs : Sec (canonC fr x = x) := ⟨by unfold canonC; rw [if_neg hx]⟩
        clear hx
        go_wp2_with (at_builtin; refine Kd.R_app kCell (w0 := wf) (wb := wr) rfl (.tmp 28) (.tmp 30) 30 (.agg #[.int .i64 0, .int .i64 0, .string ⟨#[]⟩]) 32 rfl Tryz.underlying30 info_cell rfl (by decide) (by decide) _ _ x (cellC x) rfl rfl (by simp) hR.out hb.out (belA (Below.refl _ _) _) (kCell_mk _ _ _ hnm) hL.out ?_; intro v1 w1 hR1 hb1; have HR1 := Sec.mk hR1; have HB1 := Sec.mk hb1; clear hR1 hb1)
        go_roundw
        case rel => exact ⟨k + 1, by omega, by go_num, ⟨by rw [hT.out, hs.out]; exact HR1.out⟩, HB1⟩
        case measure => simp [intOf]; omega
    · have hf : Sec ((t.take k).map (canonC fr) = canon t) := ⟨by rw [List.take_of_length_le (by omega), ← HFR.out]; rfl⟩
      have hsz := Sec.mk BF.out.size
      go_wp2
      go_ret
      exact ⟨_, rfl, by rw [← hf.out]; exact Kd.R_mono hR.out (fun k h _ => Nat.le_trans hsz.out h), bel BF.out hb.out⟩
end
section
open Go.RowKit
set_option linter.unusedVariables false
set_option maxRecDepth 100000
theorem in_c (n lo hi : Int) (w : World) : Calls Tryz.prog 52 #[.int .i64 n, .int .i64 lo, .int .i64 hi] w fun e w' => e = .returned (.bool (inB n lo hi)) ∧ w = w' := by
  by_cases h1 : lo ≤ n
  · by_cases h2 : n ≤ hi
    · have hf : Sec (inB n lo hi = true) := ⟨by simp [inB, h1, h2]⟩
      go_enter Tryz.func52, Tryz.ntmps52
      go_wp2
      go_ret
      exact ⟨rb hf.out.symm, rfl⟩
    · have hf : Sec (inB n lo hi = false) := ⟨by simp [inB, h1]; omega⟩
      go_enter Tryz.func52, Tryz.ntmps52
      go_wp2
      go_ret
      exact ⟨rb hf.out.symm, rfl⟩
  · have hf : Sec (inB n lo hi = false) := ⟨by simp [inB]; omega⟩
    go_enter Tryz.func52, Tryz.ntmps52
    go_wp2
    go_ret
    exact ⟨rb hf.out.symm, rfl⟩
theorem index_c (v : Value) (l : List Int) (n : Int) (ok : Nat → Prop) (w : World) (hV : kInt.V w ok v l) :
    Calls Tryz.prog 84 #[v, .int .i64 n] w fun e w' => e = .returned (.int .i64 (place l n)) ∧ w = w' := by
  obtain ⟨A, c, rfl, h1, h2, h3, hC, _⟩ := hV
  have HC := Sec.mk hC
  clear hC
  go_enter Tryz.func84, Tryz.ntmps84
  go_wp2
  go_loop [8] (fun i => ∃ k : Nat, k ≤ l.length ∧ i = .int .i64 k ∧ Sec (¬ n ∈ l.take k)) (fun i => l.length - (intOf i).toNat)
  case atStart => exact ⟨0, Nat.zero_le _, rfl, ⟨by simp⟩⟩
  case round =>
    obtain ⟨k, hk, rfl, hr⟩ := hrel
    by_cases hlt : k < l.length
    · obtain ⟨b, off, rfl, hob, c0⟩ := int_at HC.out k hlt
      have hT := Sec.mk (List.take_succ_eq_append_getElem hlt)
      have hP := Sec.mk (place_at l n k hlt hr.out)
      generalize l[k] = x at *
      by_cases hx : x = n
      · have hp := Sec.mk (hP.out hx)
        subst hx
        go_wp2
        go_ret
        exact ⟨ri hp.out.symm, rfl⟩
      · have hx' : (n == x) = false := beq_eq_false_iff_ne.2 (fun e => hx e.symm)
        have hn : Sec (¬ n ∈ l.take (k + 1)) := ⟨by rw [hT.out]; simp [hr.out]; omega⟩
        clear hx
        go_wp2
        go_round
        case rel => exact ⟨k + 1, by omega, by go_num, hn⟩
        case measure => simp [intOf]; omega
    · have hn : Sec (place l n = -1) := ⟨place_not l n (by have := hr.out; rwa [List.take_of_length_le (by omega)] at this)⟩
      go_wp2
      go_ret
      exact ⟨ri hn.out.symm, rfl⟩
theorem contains_c (v : Value) (l : List Int) (n : Int) (ok : Nat → Prop) (w : World) (hV : kInt.V w ok v l) :
    Calls Tryz.prog 94 #[v, .int .i64 n] w fun e w' => e = .returned (.bool (decide (n ∈ l))) ∧ w = w' := by
  have HV := Sec.mk hV
  obtain ⟨A, c, rfl, h1, h2, h3, hC, _⟩ := hV
  clear hC
  have hp : Sec (decide (0 ≤ place l n) = decide (n ∈ l)) := ⟨by rw [decide_eq_decide]; exact place_in l n⟩
  generalize hpl : place l n = p at *
  have HP := Sec.mk hpl
  clear hpl
  go_enter Tryz.func94, Tryz.ntmps94
  go_wp2_with (go_at_call 84; refine (index_c _ l n ok _ HV.out).mono ?_; rw [HP.out]; rintro e w' ⟨rfl, rfl⟩)
  go_ret
  exact ⟨rb hp.out, rfl⟩
theorem cloneCells_c (v : Value) (t : Term) (ok : Nat → Prop) (w : World) (hV : kCell.V w ok v t) :
    Calls Tryz.prog 83 #[v] w fun e w' => ∃ u, e = .returned u ∧ kCell.R w' (fun k => w.heap.size ≤ k) u t ∧ Below w.heap.size w w' := by
  obtain ⟨A, c, rfl, h1, h2, h3, hC, h0⟩ := hV
  have hut := Tryz.underlying30
  cases A with
  | none =>
    have ht : t = [] := by
      rcases hC with h | ⟨b, off, hA, _⟩
      · exact h
      · cases hA
    subst ht
    obtain rfl := h0 rfl
    have hq := Go.Lib.run_eql_slice_nil (P := Tryz.prog) w 30 _ none 0 0 0 0 hut
    go_enter Tryz.func83, Tryz.ntmps83
    go_wp2
    go_ret
    exact ⟨_, rfl, Kd.R_nil _ _ _, Below.refl _ _⟩
  | some a =>
    have HV : Sec (kCell.V w ok (.slice (some a) t.length c) t) := ⟨⟨_, c, rfl, h1, h2, h3, hC, h0⟩⟩
    clear hC h0
    have hq := Go.Lib.run_eql_slice_nil (P := Tryz.prog) w 30 _ (some a) t.length c 0 0 hut
    go_enter Tryz.func83, Tryz.ntmps83
    go_wp2_with (at_builtin; refine Kd.W_cat kCell rfl (.tmp 5) (.tmp 6) 30 (.agg #[.int .i64 0, .int .i64 0, .string ⟨#[]⟩]) 32 rfl Tryz.underlying30 info_cell rfl (by decide) (by decide) (.slice (some ⟨w.heap.size, 0, none⟩) 0 0) (.slice (some a) t.length c) [] t (fun k => w.heap.size ≤ k) (fun k => k < w.heap.size) rfl rfl (Kd.W_empty kCell w _ _ (Nat.le_refl _)) (Kd.V_move (fun k hk hl => ⟨⟨hl, fun e => absurd (show k = w.heap.size by simpa [Value.ownBlock] using e) (by omega)⟩, Below.heap_alloc _ _ _ hl⟩) HV.out (by decide)) (by simpa using h3) ?_; intro v1 w1 hW hg; have HR := Sec.mk (kCell_W_R hW); have HB := Sec.mk ((belA (Below.refl w.heap.size w) _).grown hg (by simp) (fun k e => Nat.le_of_eq (show w.heap.size = k by simpa [Value.ownBlock] using e))); clear hW hg)
    go_ret
    exact ⟨_, rfl, by have := HR.out; simp only [List.nil_append] at this; exact Kd.R_mono this (fun k h _ => h.elim id (fun h => by simp at h; omega)), HB.out⟩
theorem TrmFree_i (v : Value) (t : Term) (ok : Nat → Prop) (w : World) (hV : kCell.V w ok v t) :
    Calls Tryz.prog 82 #[v] w fun e w' => ∃ u, e = .returned u ∧ kInt.R w' (fun k => w.heap.size ≤ k) u (free t) ∧ Below w.heap.size w w' := by
  obtain ⟨A, c, rfl, h1, h2, h3, hC, _⟩ := hV
  have HC := Sec.mk hC
  clear hC
  have H3 := Sec.mk h3
  have hu := Tryz.underlying77
  go_enter Tryz.func82, Tryz.ntmps82
  go_wp2
  go_loopw [3, 8] (fun v i wr => ∃ k : Nat, k ≤ t.length ∧ i = .int .i64 k ∧ Sec (kInt.R wr (fun k => w.heap.size ≤ k) v (free (t.take k))) ∧ Sec (Below w.heap.size w wr)) (fun _ i _ => t.length - (intOf i).toNat)
  case atStart => exact ⟨0, Nat.zero_le _, rfl, ⟨Kd.R_nil _ _ _⟩, ⟨Below.refl _ _⟩⟩
  case round =>
    obtain ⟨k, hk, rfl, hR, hb⟩ := hrel
    by_cases hlt : k < t.length
    · obtain ⟨b, off, rfl, hob, c0, c1, c2, _⟩ := cell_at (Kd.C_below HC.out hb.out (by decide)) k hlt
      have hT : Sec (free (t.take (k + 1)) = freeStep (free (t.take k)) t[k]) := ⟨take_foldl _ _ _ _ hlt⟩
      have hL : Sec ((free (t.take k)).length + 1 ≤ 1073741824) := ⟨by have := free_len (t.take k); rw [List.length_take] at this; have := H3.out; omega⟩
      generalize t[k] = x at *
      by_cases hx : x.kind = 1
      · have hx' : (x.kind == 1) = true := beq_iff_eq.2 hx
        have hV := Sec.mk (Kd.R_V hR.out)
        by_cases hm : x.n ∈ free (t.take k)
        · have hT' : Sec (free (t.take (k + 1)) = free (t.take k)) := ⟨by rw [hT.out]; unfold freeStep; rw [if_neg (by simp [hm])]⟩
          have Hm := Sec.mk hm
          clear hx hm
          go_wp2_with (go_at_call 94; refine (contains_c _ _ _ _ _ (Kd.V_below hV.out (belA (Below.refl _ _) _) (by decide))).mono ?_; rw [decide_eq_true Hm.out]; rintro e w' ⟨rfl, rfl⟩)
          go_roundw
          case rel => exact ⟨k + 1, by omega, by go_num, ⟨by rw [hT'.out]; exact Kd.R_below hR.out (belA (Below.refl _ _) _)⟩, ⟨belA hb.out _⟩⟩
          case measure => simp [intOf]; omega
        · have hT' : Sec (free (t.take (k + 1)) = free (t.take k) ++ [x.n]) := ⟨by rw [hT.out]; unfold freeStep; rw [if_pos ⟨hx, hm⟩]⟩
          have Hm := Sec.mk hm
          clear hx hm
          go_wp2_with (first | (go_at_call 94; refine (contains_c _ _ _ _ _ (Kd.V_below hV.out (belA (Below.refl _ _) _) (by decide))).mono ?_; rw [decide_eq_false Hm.out]; rintro e w' ⟨rfl, rfl⟩) | (at_builtin; refine Kd.R_app kInt (w0 := w) (wb := wr) rfl (.tmp 22) (.tmp 25) 96 (.int .i64 0) 8 rfl Tryz.underlying96 info_int rfl (by decide) (by decide) _ _ x.n [.int .i64 x.n] rfl rfl (by simp) hR.out hb.out (belA (Below.refl _ _) _) (int_O _ _ _) hL.out ?_; intro v1 w1 hR1 hb1; have HR1 := Sec.mk hR1; have HB1 := Sec.mk hb1; clear hR1 hb1))
          go_roundw
          case rel => exact ⟨k + 1, by omega, by go_num, ⟨by rw [hT'.out]; exact HR1.out⟩, HB1⟩
          case measure => simp [intOf]; omega
      · have hx' : (x.kind == 1) = false := beq_eq_false_iff_ne.2 hx
        have hT' : Sec (free (t.take (k + 1)) = free (t.take k)) := ⟨by rw [hT.out]; unfold freeStep; rw [if_neg (by simp [hx])]⟩
        clear hx
        go_wp2
        go_roundw
        case rel => exact ⟨k + 1, by omega, by go_num, ⟨by rw [hT'.out]; exact Kd.R_below hR.out (belA (Below.refl _ _) _)⟩, ⟨belA hb.out _⟩⟩
        case measure => simp [intOf]; omega
    · have hf : Sec (free (t.take k) = free t) := ⟨by rw [List.take_of_length_le (by omega)]⟩
      go_wp2
      go_ret
      exact ⟨_, rfl, by rw [← hf.out]; exact hR.out, hb.out⟩
theorem TrmCanon_i (v : Value) (t : Term) (ok : Nat → Prop) (w : World) (hV : kCell.V w ok v t) :
    Calls Tryz.prog 68 #[v] w fun e w' => ∃ u, e = .returned u ∧ kCell.R w' (fun k => w.heap.size ≤ k) u (canon t) ∧ Below w.heap.size w w' := by
  have HVV := Sec.mk hV
  obtain ⟨A, c, rfl, h1, h2, h3, hC, hz⟩ := hV
  clear hC hz
  have hu := Tryz.underlying77
  generalize hfr : free t = fr
  have HFR := Sec.mk hfr
  clear hfr
  go_enter Tryz.func68, Tryz.ntmps68
  go_wp2_with (first | (go_at_call 82; refine (TrmFree_i _ t ok _ HVV.out).mono ?_; rintro e wf ⟨vf, rfl, hRf, hbf⟩; rw [HFR.out] at hRf; have HF := Sec.mk (Kd.R_V hRf); obtain ⟨Af, cf, rfl, -, -⟩ := Kd.R_form hRf; have BF := Sec.mk hbf; clear hRf hbf) | (go_at_call 83; refine (cloneCells_c _ t ok _ (Kd.V_below HVV.out BF.out (by decide))).mono ?_; rintro e wc ⟨vc, rfl, hRc, hbc⟩; obtain ⟨Ac, cc, rfl, -, -⟩ := Kd.R_form hRc; have HRC := Sec.mk hRc; have BC := Sec.mk hbc; clear hRc hbc))
  go_loopw [12] (fun i wr => ∃ k : Nat, k ≤ t.length ∧ i = .int .i64 k ∧ Sec (kCell.R wr (fun k => wf.heap.size ≤ k) (.slice Ac t.length cc) ((t.take k).map (canonC fr) ++ t.drop k)) ∧ Sec (Below wf.heap.size wf wr)) (fun i _ => t.length - (intOf i).toNat)
  case atStart => exact ⟨0, Nat.zero_le _, rfl, ⟨by simpa using HRC.out⟩, BC⟩
  case round =>
    obtain ⟨k, hk, rfl, hR, hb⟩ := hrel
    by_cases hlt : k < t.length
    · have hlen : ((t.take k).map (canonC fr) ++ t.drop k).length = t.length := by simp; omega
      have hkl : k < ((t.take k).map (canonC fr) ++ t.drop k).length := by omega
      obtain ⟨b, rfl, -, hSb, hbb, hfz⟩ := Kd.R_block hR.out (by omega)
      have f1 := hfz (k * 3 + 1)
      obtain ⟨b', off', hA', _, c0, c1, c2, hnm⟩ := cell_at (Kd.V_C (Kd.R_V hR.out)) k hkl
      simp only [Option.some.injEq, Addr.mk.injEq, and_true] at hA'
      obtain ⟨rfl, rfl⟩ := hA'
      simp only [Nat.zero_add] at c0 c1 c2
      have hel : ((t.take k).map (canonC fr) ++ t.drop k)[k]'hkl = t[k] := by
        rw [List.getElem_append_right (by simp; omega)]
        simp only [List.length_map, List.length_take, List.getElem_drop]
        congr 1; omega
      rw [hel] at c0 c1 c2 hnm
      have hnx : Sec (((t.take k).map (canonC fr) ++ t.drop k).set k (canonC fr t[k]) = (t.take (k + 1)).map (canonC fr) ++ t.drop (k + 1)) := ⟨by
        rw [List.take_succ_eq_append_getElem hlt, List.map_append, List.drop_eq_getElem_cons hlt, List.set_append_right _ _ (by simp; omega), List.length_map, List.length_take, Nat.min_eq_left (by omega), Nat.sub_self, List.set_cons_zero, List.append_assoc]
        rfl⟩
      have hel' := Sec.mk hel
      have HKL := Sec.mk hkl
      clear hel hlen hfz
      generalize t[k] = x at *
      by_cases hx : x.kind = 1
      · have hx' : (x.kind == 1) = true := beq_iff_eq.2 hx
        have hs : Sec (canonC fr x = ⟨x.kind, place fr x.n, x.name⟩) := ⟨by unfold canonC; rw [if_pos hx]⟩
        have M := Sec.mk (kCell_store hR.out k 1 ⟨x.kind, place fr x.n, x.name⟩ (.int .i64 (place fr x.n)) HKL.out (by decide) (by rw [hel'.out]; rfl) hnm)
        have MB := Sec.mk (hb.out.setCell (p := ⟨b, k * 3 + 1, none⟩) hSb (.int .i64 (place fr x.n)))
        clear hx
        go_wp2_with (go_at_call 84; refine (index_c _ fr x.n _ _ (Kd.V_below HF.out hb.out (by decide))).mono ?_; rintro e w' ⟨rfl, rfl⟩)
        go_roundw
        case rel => exact ⟨k + 1, by omega, by go_num, ⟨by rw [← hnx.out, hs.out]; exact M.out⟩, MB⟩
        case measure => simp [intOf]; omega
      · have hx' : (x.kind == 1) = false := beq_eq_false_iff_ne.2 hx
        have hs : Sec (canonC fr x = x) := ⟨by unfold canonC; rw [if_neg hx]⟩
        have hnx2 : Sec ((t.take k).map (canonC fr) ++ t.drop k = (t.take (k + 1)).map (canonC fr) ++ t.drop (k + 1)) := ⟨by
          rw [← hnx.out, hs.out]
          conv => rhs; arg 3; rw [← hel'.out]
          rw [List.set_getElem_self]⟩
        clear hx
        go_wp2
        go_roundw
        case rel => exact ⟨k + 1, by omega, by go_num, ⟨by rw [← hnx2.out]; exact hR.out⟩, hb⟩
        case measure => simp [intOf]; omega
    · have hf : Sec ((t.take k).map (canonC fr) ++ t.drop k = canon t) := ⟨by rw [List.take_of_length_le (by omega), List.drop_of_length_le (by omega), List.append_nil, ← HFR.out]; rfl⟩
      have hsz := Sec.mk BF.out.size
      have HR2 : Sec (kCell.R wr (fun k => wf.heap.size ≤ k) (.slice Ac t.length cc) (canon t)) := ⟨by rw [← hf.out]; exact hR.out⟩
      clear hf hR
      go_wp2
      go_ret
      exact ⟨_, rfl, Kd.R_mono HR2.out (fun k h _ => Nat.le_trans hsz.out h), bel BF.out hb.out⟩
end
section
open Go.RowKit
set_option linter.unusedVariables false
set_option maxRecDepth 100000
def letters : List UInt8 := [97, 98, 99, 100, 101, 102, 103, 104, 105, 106, 107, 108, 109, 110, 111, 112, 113, 114, 115, 116, 117, 118, 119, 120, 121, 122]
theorem letters_small (b : UInt8) : letters.contains b = small b := by
  have h : ∀ n : Fin 256, letters.contains (UInt8.ofNat n.1) = small (UInt8.ofNat n.1) := by decide
  have := h ⟨b.toNat, b.toNat_lt⟩
  rwa [UInt8.ofNat_toNat] at this
theorem drop_none (p : UInt8 → Bool) (l : List UInt8) : l.dropWhile p = [] ↔ l.all p = true := by
  induction l with
  | nil => simp
  | cons x l ih =>
    rw [List.dropWhile_cons, List.all_cons]
    cases p x <;> simp_all
theorem trim_none (l : List UInt8) : Lib.trimS l letters = [] ↔ l.all small = true := by
  have e : (fun b => letters.contains b) = small := funext letters_small
  unfold Lib.trimS Lib.trimLeftS Lib.trimRightS
  rw [e, drop_none]
  constructor
  · intro h
    rw [List.all_reverse] at h
    rw [← List.all_reverse, ← List.takeWhile_append_dropWhile (p := small) (l := l.reverse), List.all_append, h, Bool.and_true]
    exact List.all_takeWhile
  · intro h
    rw [List.all_reverse]
    refine List.all_eq_true.2 fun x hx => List.all_eq_true.1 h x ?_
    exact List.mem_reverse.1 ((List.dropWhile_sublist _).mem hx)
theorem nameOk_i (s : ByteArray) (hs : s.size ≤ 1073741824) (w : World) : Calls Tryz.prog 88 #[.string s] w fun e w' => e = .returned (.bool (nameOk s)) ∧ Below w.heap.size w w' := by
  have hcon := Any.strings_Trim_laid Tryz.lays160 (by kernel_rfl) s ⟨#[97, 98, 99, 100, 101, 102, 103, 104, 105, 106, 107, 108, 109, 110, 111, 112, 113, 114, 115, 116, 117, 118, 119, 120, 121, 122]⟩ w (by omega) (by decide) (ascii_of_all (by decide))
  change Calls Tryz.prog 97 _ _ (fun e w' => e = .returned (.string ⟨(Lib.trimS s.data.toList letters).toArray⟩) ∧ Below w.heap.size w w') at hcon
  have HT := Sec.mk (trim_none s.data.toList)
  have HC := Sec.mk hcon
  clear hcon
  by_cases hin : inB s.size 1 8 = true
  · have Hin := Sec.mk hin
    by_cases hsm : s.data.toList.all small = true
    · have hr : (⟨(Lib.trimS s.data.toList letters).toArray⟩ : ByteArray) = ByteArray.empty := by rw [HT.out.2 hsm]; rfl
      have HR := Sec.mk hr
      by_cases hand : (s.toList == [97, 110, 100]) = true
      · have hf : Sec (nameOk s = false) := ⟨by unfold nameOk; rw [hand]; simp⟩
        clear hr hsm hin
        go_enter Tryz.func88, Tryz.ntmps88
        go_wp2_with (first | (go_at_call 52; refine (in_c _ _ _ _).mono ?_; rw [Hin.out]; rintro e w' ⟨rfl, rfl⟩) | (go_at_call 97; refine HC.out.mono ?_; rw [HR.out]; rintro e w1 ⟨rfl, hB⟩; have B1 := Sec.mk hB; clear hB))
        go_ret
        exact ⟨rb hf.out.symm, B1.out⟩
      · have hand' : (s.toList == [97, 110, 100]) = false := by simpa using hand
        have hf : Sec (nameOk s = true) := ⟨by
          unfold inB at hin
          unfold nameOk
          rw [hand', hsm]
          simp at hin ⊢
          omega⟩
        clear hr hsm hin hand
        go_enter Tryz.func88, Tryz.ntmps88
        go_wp2_with (first | (go_at_call 52; refine (in_c _ _ _ _).mono ?_; rw [Hin.out]; rintro e w' ⟨rfl, rfl⟩) | (go_at_call 97; refine HC.out.mono ?_; rw [HR.out]; rintro e w1 ⟨rfl, hB⟩; have B1 := Sec.mk hB; clear hB))
        go_ret
        exact ⟨rb hf.out.symm, B1.out⟩
    · have hne : Sec (¬ (⟨(Lib.trimS s.data.toList letters).toArray⟩ : ByteArray) = ByteArray.empty) := ⟨fun e => hsm (HT.out.1 (by
        have := congrArg (fun x => x.data.toList) e
        simpa using this))⟩
      have hf : Sec (nameOk s = false) := ⟨by unfold nameOk; simp at hsm; simp [hsm]⟩
      have HC2 : Sec (∃ r : ByteArray, ¬ r = ByteArray.empty ∧ Calls Tryz.prog 97 #[.string s, .string ⟨#[97, 98, 99, 100, 101, 102, 103, 104, 105, 106, 107, 108, 109, 110, 111, 112, 113, 114, 115, 116, 117, 118, 119, 120, 121, 122]⟩] w (fun e w' => e = .returned (.string r) ∧ Below w.heap.size w w')) := ⟨⟨_, hne.out, HC.out⟩⟩
      clear hne HC HT hsm hin
      obtain ⟨r, hr0, hr2⟩ := HC2.out
      have hr1 : ¬ r.toList = [] := fun e => hr0 (by
        rw [Lib.toList_data] at e
        exact ByteArray.ext (by rw [← Array.toList_inj, e]; rfl))
      have HC3 := Sec.mk hr2
      clear hr2 HC2
      go_enter Tryz.func88, Tryz.ntmps88
      go_wp2_with (first | (go_at_call 52; refine (in_c _ _ _ _).mono ?_; rw [Hin.out]; rintro e w' ⟨rfl, rfl⟩) | (go_at_call 97; refine HC3.out.mono ?_; rintro e w1 ⟨rfl, hB⟩; have B1 := Sec.mk hB; clear hB))
      go_ret
      exact ⟨rb hf.out.symm, B1.out⟩
  · have hin' : inB s.size 1 8 = false := by simpa using hin
    have Hin := Sec.mk hin'
    have hf : Sec (nameOk s = false) := ⟨by
      unfold inB at hin'
      unfold nameOk
      cases h1 : decide (1 ≤ s.size)
      · simp
      · cases h2 : decide (s.size ≤ 8)
        · simp
        · simp at h1 h2 hin'; omega⟩
    clear hin hin'
    go_enter Tryz.func88, Tryz.ntmps88
    go_wp2_with (go_at_call 52; refine (in_c _ _ _ _).mono ?_; rw [Hin.out]; rintro e w' ⟨rfl, rfl⟩)
    go_ret
    exact ⟨rb hf.out.symm, Below.refl _ _⟩
theorem cellOk_i (x : Cell) (hx : x.name.size ≤ 1073741824) (w : World) : Calls Tryz.prog 72 #[x.agg] w fun e w' => e = .returned (.bool (cellOk x)) ∧ Below w.heap.size w w' := by
  have hu := Tryz.underlying77
  have hB : Sec (Below w.heap.size w (w.alloc (.cells #[.int .i64 x.kind, .int .i64 x.n, .string x.name] 77))) := ⟨(Below.refl _ _).alloc (Nat.le_refl _) _⟩
  obtain ⟨b1, hb1⟩ : ∃ b, inB x.n 0 99999 = b := ⟨_, rfl⟩
  obtain ⟨b2, hb2⟩ : ∃ b, inB x.n (-9999) 9999 = b := ⟨_, rfl⟩
  obtain ⟨b3, hb3⟩ : ∃ b, inB x.n 0 3 = b := ⟨_, rfl⟩
  obtain ⟨b4, hb4⟩ : ∃ b, nameOk x.name = b := ⟨_, rfl⟩
  have hc : Sec (cellOk x = if x.kind = 1 then b1 && x.name.toList.isEmpty else if x.kind = 2 then b2 && x.name.toList.isEmpty else if x.kind = 3 then b3 && b4 else false) := ⟨by unfold cellOk; rw [hb1, hb2, hb3, hb4]⟩
  have H1 := Sec.mk hb1
  have H2 := Sec.mk hb2
  have H3 := Sec.mk hb3
  have H4 := Sec.mk hb4
  clear hb1 hb2 hb3 hb4
  by_cases k1 : x.kind = 1
  · have hc2 : Sec (cellOk x = (b1 && x.name.toList.isEmpty)) := ⟨by rw [hc.out, if_pos k1]⟩
    cases b1 <;>
    · go_enter Tryz.func72, Tryz.ntmps72
      go_wp2_with (go_at_call 52; refine (in_c _ _ _ _).mono ?_; rw [H1.out]; rintro e w' ⟨rfl, rfl⟩)
      all_goals (go_ret; exact ⟨rb (by rw [hc2.out]; simp_all), belA (Below.refl _ _) _⟩)
  · by_cases k2 : x.kind = 2
    · have hc2 : Sec (cellOk x = (b2 && x.name.toList.isEmpty)) := ⟨by rw [hc.out, if_neg k1, if_pos k2]⟩
      cases b2 <;>
      · go_enter Tryz.func72, Tryz.ntmps72
        go_wp2_with (go_at_call 52; refine (in_c _ _ _ _).mono ?_; rw [H2.out]; rintro e w' ⟨rfl, rfl⟩)
        all_goals (go_ret; exact ⟨rb (by rw [hc2.out]; simp_all), belA (Below.refl _ _) _⟩)
    · by_cases k3 : x.kind = 3
      · have hc2 : Sec (cellOk x = (b3 && b4)) := ⟨by rw [hc.out, if_neg k1, if_neg k2, if_pos k3]⟩
        cases b3 with
        | false =>
          go_enter Tryz.func72, Tryz.ntmps72
          go_wp2_with (go_at_call 52; refine (in_c _ _ _ _).mono ?_; rw [H3.out]; rintro e w' ⟨rfl, rfl⟩)
          all_goals (go_ret; exact ⟨rb (by rw [hc2.out]; simp), belA (Below.refl _ _) _⟩)
        | true =>
          go_enter Tryz.func72, Tryz.ntmps72
          go_wp2_with (first | (go_at_call 52; refine (in_c _ _ _ _).mono ?_; rw [H3.out]; rintro e w' ⟨rfl, rfl⟩) | (go_at_call 88; refine (nameOk_i _ hx _).mono ?_; rw [H4.out]; rintro e w1 ⟨rfl, hb⟩; have B1 := Sec.mk (bel (belA (Below.refl _ _) _) hb); clear hb))
          all_goals (go_ret; exact ⟨rb (by rw [hc2.out]; simp), B1.out⟩)
      · have hc2 : Sec (cellOk x = false) := ⟨by rw [hc.out, if_neg k1, if_neg k2, if_neg k3]⟩
        have g1 : (x.kind == 1) = false := beq_eq_false_iff_ne.2 k1
        have g2 : (x.kind == 2) = false := beq_eq_false_iff_ne.2 k2
        have g3 : (x.kind == 3) = false := beq_eq_false_iff_ne.2 k3
        clear k1 k2 k3
        go_enter Tryz.func72, Tryz.ntmps72
        go_wp2
        go_ret
        exact ⟨rb hc2.out.symm, belA (Below.refl _ _) _⟩
theorem arity_i (x : Cell) (w : World) : Calls Tryz.prog 90 #[x.agg] w fun e w' => e = .returned (.int .i64 (if x.kind = 3 then x.n else 0)) ∧ Below w.heap.size w w' := by
  have hu := Tryz.underlying77
  have hB : Sec (Below w.heap.size w (w.alloc (.cells #[.int .i64 x.kind, .int .i64 x.n, .string x.name] 77))) := ⟨(Below.refl _ _).alloc (Nat.le_refl _) _⟩
  by_cases k3 : x.kind = 3
  · rw [if_pos k3]
    go_enter Tryz.func90, Tryz.ntmps90
    go_wp2
    go_ret
    exact ⟨rfl, belA (Below.refl _ _) _⟩
  · rw [if_neg k3]
    have g3 : (x.kind == 3) = false := beq_eq_false_iff_ne.2 k3
    clear k3
    go_enter Tryz.func90, Tryz.ntmps90
    go_wp2
    go_ret
    exact ⟨rfl, belA (Below.refl _ _) _⟩
/-- How many places a term at the beginning of some has; more than there are, if it does not end. -/
def sizeOf_ (t : Term) : Int := match skip 1 t with
  | some r => (t.length : Int) - r.length
  | none => (t.length : Int) + 1
theorem sizeOf_whole (t : Term) : (sizeOf_ t == (t.length : Int)) = decide (skip 1 t = some []) := by
  unfold sizeOf_
  rw [Bool.beq_eq_decide_eq]
  cases h : skip 1 t with
  | none => simp; omega
  | some r => cases r <;> simp <;> omega
theorem size_i (v : Value) (t : Term) (ok : Nat → Prop) (w : World) (hV : kCell.V w ok v t) (hc : t.all cellOk = true) :
    Calls Tryz.prog 74 #[v] w fun e w' => e = .returned (.int .i64 (sizeOf_ t)) ∧ Below w.heap.size w w' := by
  obtain ⟨A, c, rfl, h1, h2, h3, hC, hz⟩ := hV
  have HC := Sec.mk hC
  have Hc := Sec.mk hc
  clear hC hc hz
  have hu := Tryz.underlying77
  go_enter Tryz.func74, Tryz.ntmps74
  go_wp2
  go_loopw [3, 4] (fun nv iv wr => ∃ m j : Nat, j ≤ t.length ∧ m ≤ 1 + 3 * j ∧ nv = .int .i64 ((j : Int) + (m : Int)) ∧ iv = .int .i64 j ∧ Sec (skip 1 t = skip m (t.drop j)) ∧ Sec (Below w.heap.size w wr)) (fun _ iv _ => t.length + 1 - (intOf iv).toNat)
  case atStart => exact ⟨1, 0, Nat.zero_le _, by omega, rfl, rfl, ⟨by simp⟩, ⟨Below.refl _ _⟩⟩
  case round =>
    obtain ⟨m, j, hj, hm, rfl, rfl, hs, hb⟩ := hrel
    cases m with
    | zero =>
      have hf : Sec ((j : Int) + ((0 : Nat) : Int) = sizeOf_ t) := ⟨by unfold sizeOf_; rw [hs.out]; simp [skip] <;> omega⟩
      go_wp2
      go_ret
      exact ⟨ri (by rw [← hf.out] <;> simp), hb.out⟩
    | succ m =>
      by_cases hlt : j < t.length
      · obtain ⟨b, off, rfl, hob, c0, c1, c2, _⟩ := cell_at (Kd.C_below HC.out hb.out (by decide)) j hlt
        have hok := cellOk_arity (List.all_eq_true.1 Hc.out _ (List.getElem_mem hlt))
        have hst := Sec.mk (hs.out.trans (skip_step hlt))
        have hne : ((j : Int) == (t.length : Int)) = false := beq_eq_false_iff_ne.2 (by omega)
        generalize t[j] = x at *
        have harr : (if x.kind = 3 then x.n else 0) = (arity x : Int) := by
          unfold arity
          split
          · next h => have := hok.2 h; omega
          · rfl
        have ha3 := hok.1
        have HA := Sec.mk harr
        clear hok harr
        generalize hax : arity x = a at *
        clear hax
        go_wp2_with (go_at_call 90; refine (arity_i x _).mono ?_; rw [HA.out]; rintro e w1 ⟨rfl, hb1⟩; have B1 := Sec.mk (bel hb.out hb1); clear hb1 c0 c1 c2)
        go_roundw
        case rel => exact ⟨m + a, j + 1, by omega, by omega, by go_num, by go_num, hst, B1⟩
        case measure => simp [intOf]; omega
      · have hf : Sec ((t.length : Int) + 1 = sizeOf_ t) := ⟨by unfold sizeOf_; rw [hs.out, skip_out (by omega)]⟩
        have he : ((j : Int) == (t.length : Int)) = true := beq_iff_eq.2 (by omega)
        have hjm : ((j : Int) < (j : Int) + ((m + 1 : Nat) : Int)) := by omega
        go_wp2
        go_ret
        exact ⟨ri hf.out, hb.out⟩
theorem wrong_i (x : Cell) (hx : x.name.size ≤ 1073741824) (w : World) : Calls Tryz.prog 71 #[x.agg] w fun e w' => e = .returned (.bool (!cellOk x)) ∧ Below w.heap.size w w' := by
  have hu := Tryz.underlying77
  obtain ⟨bb, hbb⟩ : ∃ b, cellOk x = b := ⟨_, rfl⟩
  have HB := Sec.mk hbb
  rw [hbb]
  clear hbb
  go_enter Tryz.func71, Tryz.ntmps71
  go_wp2_with (go_at_call 72; refine (cellOk_i x hx _).mono ?_; rw [HB.out]; rintro e w1 ⟨rfl, hb1⟩; have B1 := Sec.mk (bel (belA (Below.refl _ _) _) hb1); clear hb1)
  go_ret
  exact ⟨rfl, B1.out⟩
/-- Where the first place stands that is not ok; -1, if there is none. -/
def wrongAt (t : Term) (n : Int) : Prop := decide (0 ≤ n) = !t.all cellOk
theorem indexWrong_i (v : Value) (t : Term) (ok : Nat → Prop) (w : World) (hV : kCell.V w ok v t) :
    Calls Tryz.prog 89 #[v, .func (.func 71) #[] #[]] w fun e w' => ∃ n : Int, e = .returned (.int .i64 n) ∧ wrongAt t n ∧ Below w.heap.size w w' := by
  obtain ⟨A, c, rfl, h1, h2, h3, hC, hz⟩ := hV
  have HC := Sec.mk hC
  clear hC hz
  have hu := Tryz.underlying77
  go_enter Tryz.func89, Tryz.ntmps89
  go_wp2
  go_loopw [8] (fun iv wr => ∃ k : Nat, k ≤ t.length ∧ iv = .int .i64 k ∧ Sec ((t.take k).all cellOk = true) ∧ Sec (Below w.heap.size w wr)) (fun iv _ => t.length - (intOf iv).toNat)
  case atStart => exact ⟨0, Nat.zero_le _, rfl, ⟨rfl⟩, ⟨Below.refl _ _⟩⟩
  case round =>
    obtain ⟨k, hk, rfl, hT, hb⟩ := hrel
    by_cases hlt : k < t.length
    · obtain ⟨b, off, rfl, hob, c0, c1, c2, hnm⟩ := cell_at (Kd.C_below HC.out hb.out (by decide)) k hlt
      have hA := Sec.mk (take_all cellOk t k hlt)
      have hmem : Sec (t[k] ∈ t) := ⟨List.getElem_mem hlt⟩
      generalize t[k] = x at *
      obtain ⟨bb, hbb⟩ : ∃ b, cellOk x = b := ⟨_, rfl⟩
      have HB := Sec.mk hbb
      clear hbb
      cases bb with
      | true =>
        have hA' : Sec ((t.take (k + 1)).all cellOk = true) := ⟨by rw [hA.out, hT.out, HB.out]; rfl⟩
        go_wp2_with (go_at_call 71; refine (wrong_i x hnm _).mono ?_; rw [HB.out]; rintro e w1 ⟨rfl, hb1⟩; have B1 := Sec.mk (bel hb.out hb1); clear hb1)
        go_roundw
        case rel => exact ⟨k + 1, by omega, by go_num, hA', B1⟩
        case measure => simp [intOf]; omega
      | false =>
        have hF : Sec (wrongAt t k) := ⟨by
          have : t.all cellOk = false := by
            rw [← Bool.not_eq_true]; intro h
            have := List.all_eq_true.1 h x hmem.out
            rw [HB.out] at this; cases this
          unfold wrongAt; rw [this]; simp⟩
        go_wp2_with (go_at_call 71; refine (wrong_i x hnm _).mono ?_; rw [HB.out]; rintro e w1 ⟨rfl, hb1⟩; have B1 := Sec.mk (bel hb.out hb1); clear hb1)
        go_ret
        exact ⟨_, rfl, hF.out, B1.out⟩
    · have hF : Sec (wrongAt t (-1)) := ⟨by
        have : t.all cellOk = true := by have := hT.out; rwa [List.take_of_length_le (by omega)] at this
        unfold wrongAt; rw [this]; rfl⟩
      go_wp2
      go_ret
      exact ⟨_, rfl, hF.out, hb.out⟩
theorem containsWrong_i (v : Value) (t : Term) (ok : Nat → Prop) (w : World) (hV : kCell.V w ok v t) :
    Calls Tryz.prog 73 #[v, .func (.func 71) #[] #[]] w fun e w' => e = .returned (.bool (!t.all cellOk)) ∧ Below w.heap.size w w' := by
  have HV := Sec.mk hV
  obtain ⟨A, c, rfl, h1, h2, h3, hC, hz⟩ := hV
  clear hC hz
  generalize hall : t.all cellOk = al
  have HAL := Sec.mk hall
  clear hall
  go_enter Tryz.func73, Tryz.ntmps73
  go_wp2_with (go_at_call 89; refine (indexWrong_i _ t ok _ HV.out).mono ?_; rintro e w1 ⟨n, rfl, hw, hb⟩; have B1 := Sec.mk hb; have HW := Sec.mk hw; clear hb hw)
  go_ret
  exact ⟨rb (by have := HW.out; unfold wrongAt at this; rw [HAL.out] at this; exact this), B1.out⟩
theorem TrmOk_i (v : Value) (t : Term) (ok : Nat → Prop) (w : World) (hV : kCell.V w ok v t) :
    Calls Tryz.prog 54 #[v] w fun e w' => e = .returned (.bool (trmOk t)) ∧ Below w.heap.size w w' := by
  have HV := Sec.mk hV
  obtain ⟨A, c, rfl, h1, h2, h3, hC, hz⟩ := hV
  clear hC hz
  have hk : trmOk t = (inB (t.length : Int) 1 40 && t.all cellOk && decide (skip 1 t = some [])) := by
    unfold trmOk inB
    have e1 : decide ((1 : Int) ≤ (t.length : Int)) = decide (1 ≤ t.length) := decide_eq_decide.2 (by omega)
    have e2 : decide ((t.length : Int) ≤ 40) = decide (t.length ≤ 40) := decide_eq_decide.2 (by omega)
    rw [e1, e2]
  have HW := Sec.mk (sizeOf_whole t)
  obtain ⟨b1, hb1⟩ : ∃ b, inB (t.length : Int) 1 40 = b := ⟨_, rfl⟩
  obtain ⟨b2, hb2⟩ : ∃ b, t.all cellOk = b := ⟨_, rfl⟩
  have H1 := Sec.mk hb1
  have H2 := Sec.mk hb2
  rw [hb1, hb2] at hk
  have HK := Sec.mk hk
  clear hk hb1 hb2
  cases b1 with
  | false =>
    go_enter Tryz.func54, Tryz.ntmps54
    go_wp2_with (go_at_call 52; refine (in_c _ _ _ _).mono ?_; rw [H1.out]; rintro e w' ⟨rfl, rfl⟩)
    go_ret
    exact ⟨rb (by rw [HK.out]; rfl), Below.refl _ _⟩
  | true =>
    cases b2 with
    | false =>
      go_enter Tryz.func54, Tryz.ntmps54
      go_wp2_with (first | (go_at_call 52; refine (in_c _ _ _ _).mono ?_; rw [H1.out]; rintro e w' ⟨rfl, rfl⟩) | (go_at_call 73; refine (containsWrong_i _ t ok _ HV.out).mono ?_; rw [H2.out]; rintro e w1 ⟨rfl, hb⟩; have B1 := Sec.mk hb; clear hb))
      go_ret
      exact ⟨rb (by rw [HK.out]; rfl), B1.out⟩
    | true =>
      generalize hso : sizeOf_ t = so at *
      have HSO := Sec.mk hso
      clear hso
      have hfin : Sec ((so == (t.length : Int)) = trmOk t) := ⟨by rw [HK.out, HW.out]; rfl⟩
      go_enter Tryz.func54, Tryz.ntmps54
      go_wp2_with (first | (go_at_call 52; refine (in_c _ _ _ _).mono ?_; rw [H1.out]; rintro e w' ⟨rfl, rfl⟩) | (go_at_call 73; refine (containsWrong_i _ t ok _ HV.out).mono ?_; rw [H2.out]; rintro e w1 ⟨rfl, hb⟩; have B1 := Sec.mk hb; clear hb) | (go_at_call 74; refine (size_i _ t ok _ (Kd.V_below HV.out B1.out (by decide)) H2.out).mono ?_; rw [HSO.out]; rintro e w2 ⟨rfl, hb⟩; have B2 := Sec.mk (bel B1.out hb); clear hb))
      go_ret
      exact ⟨rb hfin.out, B2.out⟩
end
section
open Go.RowKit
set_option linter.unusedVariables false
set_option maxRecDepth 100000
theorem cell_cases (x y : Cell) : (x = y ∧ (x.kind == y.kind) = true ∧ (x.n == y.n) = true ∧ (x.name.toList == y.name.toList) = true) ∨ (¬ x = y ∧ ((x.kind == y.kind) = false ∨ ((x.kind == y.kind) = true ∧ (x.n == y.n) = false) ∨ ((x.kind == y.kind) = true ∧ (x.n == y.n) = true ∧ (x.name.toList == y.name.toList) = false))) := by
  by_cases h1 : x.kind = y.kind
  · by_cases h2 : x.n = y.n
    · by_cases h3 : x.name = y.name
      · exact .inl ⟨(Cell.ext_iff x y).2 ⟨h1, h2, h3⟩, beq_iff_eq.2 h1, beq_iff_eq.2 h2, beq_iff_eq.2 (by rw [h3])⟩
      · exact .inr ⟨fun e => h3 (by rw [e]), .inr (.inr ⟨beq_iff_eq.2 h1, beq_iff_eq.2 h2, beq_eq_false_iff_ne.2 (fun h => h3 (toList_inj.1 h))⟩)⟩
    · exact .inr ⟨fun e => h2 (by rw [e]), .inr (.inl ⟨beq_iff_eq.2 h1, beq_eq_false_iff_ne.2 h2⟩)⟩
  · exact .inr ⟨fun e => h1 (by rw [e]), .inl (beq_eq_false_iff_ne.2 h1)⟩
end
section
open Go.RowKit
set_option linter.unusedVariables false
set_option maxRecDepth 100000
theorem TrmSame_c (v u : Value) (t s : Term) (ok ok' : Nat → Prop) (w : World) (hV : kCell.V w ok v t) (hU : kCell.V w ok' u s) :
    Calls Tryz.prog 60 #[v, u] w fun e w' => e = .returned (.bool (decide (t = s))) ∧ Below w.heap.size w w' := by
  obtain ⟨A, c, rfl, h1, h2, h3, hC, _⟩ := hV
  obtain ⟨B, d, rfl, k1, k2, k3, hD, _⟩ := hU
  have HC := Sec.mk hC
  have HD := Sec.mk hD
  clear hC hD
  have hu := Tryz.underlying77
  by_cases hl : t.length = s.length
  · rw [← hl]
    have HL := Sec.mk hl
    clear hl
    go_enter Tryz.func60, Tryz.ntmps60
    go_wp2
    go_loopw [5] (fun i wr => ∃ k : Nat, k ≤ t.length ∧ i = .int .i64 k ∧ Sec (t.take k = s.take k) ∧ Sec (Below w.heap.size w wr)) (fun i _ => t.length - (intOf i).toNat)
    case atStart => exact ⟨0, Nat.zero_le _, rfl, ⟨by simp⟩, ⟨Below.refl _ _⟩⟩
    case round =>
      obtain ⟨k, hk, rfl, hT, hb⟩ := hrel
      by_cases hlt : k < t.length
      · have hlt2 : k < s.length := by have := HL.out; omega
        obtain ⟨b, off, rfl, _, x0, x1, x2, _⟩ := cell_at (Kd.C_below HC.out hb.out (by decide)) k hlt
        obtain ⟨b2, off2, rfl, _, y0, y1, y2, _⟩ := cell_at (Kd.C_below HD.out hb.out (by decide)) k hlt2
        have hT1 : Sec (t[k] = s[k] → t.take (k + 1) = s.take (k + 1)) := ⟨fun e => by rw [List.take_succ_eq_append_getElem hlt, List.take_succ_eq_append_getElem hlt2, hT.out, e]⟩
        have hT2 : Sec (t = s → t[k] = s[k]) := ⟨fun e => by subst e; rfl⟩
        generalize t[k] = x at *
        generalize s[k] = y at *
        have i0 : (0 : Int) ≤ (k : Int) := by omega
        have i1 : (k : Int) < (t.length : Int) := by omega
        have B1 : Sec (Below w.heap.size w wr.drew) := ⟨belD hb.out⟩
        rcases cell_cases x y with ⟨hxy, g1, g2, g3⟩ | ⟨hxy, hg⟩
        · have HE : Sec (t.take (k + 1) = s.take (k + 1)) := ⟨hT1.out hxy⟩
          clear hxy
          go_wp2
          go_region_held3 (fun W => (W.cell? ⟨b, off + k * 3, none⟩ = some (.int .i64 x.kind) ∧ W.cell? ⟨b, off + k * 3 + 1, none⟩ = some (.int .i64 x.n) ∧ W.cell? ⟨b, off + k * 3 + 2, none⟩ = some (.string x.name)) ∧ (W.cell? ⟨b2, off2 + k * 3, none⟩ = some (.int .i64 y.kind) ∧ W.cell? ⟨b2, off2 + k * 3 + 1, none⟩ = some (.int .i64 y.n) ∧ W.cell? ⟨b2, off2 + k * 3 + 2, none⟩ = some (.string y.name))) (first | (refine ⟨⟨?_, ?_, ?_⟩, ?_, ?_, ?_⟩ <;> assumption) | go_keep) (fail)
          all_goals
            go_wp2
            go_roundw
            case rel => exact ⟨k + 1, by omega, by go_num, HE, by first | exact hb | exact B1 | exact ⟨belD B1.out⟩⟩
            case measure => simp [intOf]; omega
        · have HE : Sec (decide (t = s) = false) := ⟨decide_eq_false (fun e => hxy (hT2.out e))⟩
          clear hxy
          rcases hg with g1 | ⟨g1, g2⟩ | ⟨g1, g2, g3⟩
          all_goals
            go_wp2
            go_region_held3 (fun W => (W.cell? ⟨b, off + k * 3, none⟩ = some (.int .i64 x.kind) ∧ W.cell? ⟨b, off + k * 3 + 1, none⟩ = some (.int .i64 x.n) ∧ W.cell? ⟨b, off + k * 3 + 2, none⟩ = some (.string x.name)) ∧ (W.cell? ⟨b2, off2 + k * 3, none⟩ = some (.int .i64 y.kind) ∧ W.cell? ⟨b2, off2 + k * 3 + 1, none⟩ = some (.int .i64 y.n) ∧ W.cell? ⟨b2, off2 + k * 3 + 2, none⟩ = some (.string y.name))) (first | (refine ⟨⟨?_, ?_, ?_⟩, ?_, ?_, ?_⟩ <;> assumption) | go_keep) (fail)
            all_goals
              go_wp2
              go_ret
              exact ⟨rb HE.out.symm, by first | exact hb.out | exact B1.out | exact belD B1.out⟩
      · have HE : Sec (decide (t = s) = true) := ⟨decide_eq_true (by have := hT.out; have h2 := HL.out; rwa [List.take_of_length_le (by omega), List.take_of_length_le (by omega)] at this)⟩
        go_wp2
        go_ret
        exact ⟨rb HE.out.symm, hb.out⟩
  · have hl' : ((t.length : Int) == (s.length : Int)) = false := beq_eq_false_iff_ne.2 (by omega)
    have HE : Sec (decide (t = s) = false) := ⟨decide_eq_false (fun e => hl (by rw [e]))⟩
    go_enter Tryz.func60, Tryz.ntmps60
    go_wp2
    go_ret
    exact ⟨rb HE.out.symm, Below.refl _ _⟩
theorem equalCells_c (v u : Value) (t s : Term) (ok ok' : Nat → Prop) (w : World) (hV : kCell.V w ok v t) (hU : kCell.V w ok' u s) :
    Calls Tryz.prog 81 #[v, u] w fun e w' => e = .returned (.bool (decide (t = s))) ∧ Below w.heap.size w w' := by
  obtain ⟨A, c, rfl, h1, h2, h3, hC, _⟩ := hV
  obtain ⟨B, d, rfl, k1, k2, k3, hD, _⟩ := hU
  have HC := Sec.mk hC
  have HD := Sec.mk hD
  clear hC hD
  have hu := Tryz.underlying77
  by_cases hl : t.length = s.length
  · rw [← hl]
    have HL := Sec.mk hl
    clear hl
    go_enter Tryz.func81, Tryz.ntmps81
    go_wp2
    go_loopw [13] (fun i wr => ∃ k : Nat, k ≤ t.length ∧ i = .int .i64 k ∧ Sec (t.take k = s.take k) ∧ Sec (Below w.heap.size w wr)) (fun i _ => t.length - (intOf i).toNat)
    case atStart => exact ⟨0, Nat.zero_le _, rfl, ⟨by simp⟩, ⟨Below.refl _ _⟩⟩
    case round =>
      obtain ⟨k, hk, rfl, hT, hb⟩ := hrel
      by_cases hlt : k < t.length
      · have hlt2 : k < s.length := by have := HL.out; omega
        obtain ⟨b, off, rfl, _, x0, x1, x2, _⟩ := cell_at (Kd.C_below HC.out hb.out (by decide)) k hlt
        obtain ⟨b2, off2, rfl, _, y0, y1, y2, _⟩ := cell_at (Kd.C_below HD.out hb.out (by decide)) k hlt2
        have hT1 : Sec (t[k] = s[k] → t.take (k + 1) = s.take (k + 1)) := ⟨fun e => by rw [List.take_succ_eq_append_getElem hlt, List.take_succ_eq_append_getElem hlt2, hT.out, e]⟩
        have hT2 : Sec (t = s → t[k] = s[k]) := ⟨fun e => by subst e; rfl⟩
        generalize t[k] = x at *
        generalize s[k] = y at *
        have i0 : (0 : Int) ≤ (k : Int) := by omega
        have i1 : (k : Int) < (t.length : Int) := by omega
        have B1 : Sec (Below w.heap.size w wr.drew) := ⟨belD hb.out⟩
        rcases cell_cases x y with ⟨hxy, g1, g2, g3⟩ | ⟨hxy, hg⟩
        · have HE : Sec (t.take (k + 1) = s.take (k + 1)) := ⟨hT1.out hxy⟩
          clear hxy
          go_wp2
          go_region_held3 (fun W => (W.cell? ⟨b, off + k * 3, none⟩ = some (.int .i64 x.kind) ∧ W.cell? ⟨b, off + k * 3 + 1, none⟩ = some (.int .i64 x.n) ∧ W.cell? ⟨b, off + k * 3 + 2, none⟩ = some (.string x.name)) ∧ (W.cell? ⟨b2, off2 + k * 3, none⟩ = some (.int .i64 y.kind) ∧ W.cell? ⟨b2, off2 + k * 3 + 1, none⟩ = some (.int .i64 y.n) ∧ W.cell? ⟨b2, off2 + k * 3 + 2, none⟩ = some (.string y.name))) (first | (refine ⟨⟨?_, ?_, ?_⟩, ?_, ?_, ?_⟩ <;> assumption) | go_keep) (fail)
          all_goals
            go_wp2
            go_roundw
            case rel => exact ⟨k + 1, by omega, by go_num, HE, by first | exact hb | exact B1 | exact ⟨belD B1.out⟩⟩
            case measure => simp [intOf]; omega
        · have HE : Sec (decide (t = s) = false) := ⟨decide_eq_false (fun e => hxy (hT2.out e))⟩
          clear hxy
          rcases hg with g1 | ⟨g1, g2⟩ | ⟨g1, g2, g3⟩
          all_goals
            go_wp2
            go_region_held3 (fun W => (W.cell? ⟨b, off + k * 3, none⟩ = some (.int .i64 x.kind) ∧ W.cell? ⟨b, off + k * 3 + 1, none⟩ = some (.int .i64 x.n) ∧ W.cell? ⟨b, off + k * 3 + 2, none⟩ = some (.string x.name)) ∧ (W.cell? ⟨b2, off2 + k * 3, none⟩ = some (.int .i64 y.kind) ∧ W.cell? ⟨b2, off2 + k * 3 + 1, none⟩ = some (.int .i64 y.n) ∧ W.cell? ⟨b2, off2 + k * 3 + 2, none⟩ = some (.string y.name))) (first | (refine ⟨⟨?_, ?_, ?_⟩, ?_, ?_, ?_⟩ <;> assumption) | go_keep) (fail)
            all_goals
              go_wp2
              go_ret
              exact ⟨rb HE.out.symm, by first | exact hb.out | exact B1.out | exact belD B1.out⟩
      · have HE : Sec (decide (t = s) = true) := ⟨decide_eq_true (by have := hT.out; have h2 := HL.out; rwa [List.take_of_length_le (by omega), List.take_of_length_le (by omega)] at this)⟩
        go_wp2
        go_ret
        exact ⟨rb HE.out.symm, hb.out⟩
  · have hl' : ((t.length : Int) == (s.length : Int)) = false := beq_eq_false_iff_ne.2 (by omega)
    have HE : Sec (decide (t = s) = false) := ⟨decide_eq_false (fun e => hl (by rw [e]))⟩
    go_enter Tryz.func81, Tryz.ntmps81
    go_wp2
    go_ret
    exact ⟨rb HE.out.symm, Below.refl _ _⟩
theorem TrmSame_i (v u : Value) (t s : Term) (ok ok' : Nat → Prop) (w : World) (hV : kCell.V w ok v t) (hU : kCell.V w ok' u s) :
    Calls Tryz.prog 67 #[v, u] w fun e w' => e = .returned (.bool (decide (t = s))) ∧ Below w.heap.size w w' := by
  have H := equalCells_c v u t s ok ok' w hV hU
  obtain ⟨A, c, rfl, -⟩ := hV
  obtain ⟨B, d, rfl, -⟩ := hU
  have H := Sec.mk H
  generalize hq : decide (t = s) = q at *
  have HQ := Sec.mk hq
  clear hq
  go_enter Tryz.func67, Tryz.ntmps67
  go_wp2_with (go_at_call 81; refine H.out.mono ?_; rintro e w1 ⟨rfl, hb⟩; have B1 := Sec.mk hb; clear hb)
  go_ret
  exact ⟨rfl, B1.out⟩
end
section
open Go.RowKit
set_option linter.unusedVariables false
set_option maxRecDepth 100000
def headFun : Term → Bool
  | [] => false
  | c :: _ => c.kind == 3
def question (t : Term) : Bool := trmOk t && headFun t && decide (canon t = t)
theorem trmOk_ne {t : Term} (h : trmOk t = true) : t ≠ [] := by rintro rfl; simp [trmOk] at h
theorem question_no1 {t : Term} (h : trmOk t = false) : question t = false := by simp [question, h]
theorem question_no2 {t : Term} (h : headFun t = false) : question t = false := by simp [question, h]
theorem question_at {t : Term} (h : trmOk t = true) (h2 : headFun t = true) : question t = decide (canon t = t) := by simp [question, h, h2]
theorem l3Call_c (v : Value) (t : Term) (ok : Nat → Prop) (w : World) (hV : kCell.V w ok v t) :
    Calls Tryz.prog 59 #[v] w fun e w' => e = .returned (.bool (headFun t)) ∧ Below w.heap.size w w' := by
  obtain ⟨A, c, rfl, h1, h2, h3, hC, -⟩ := hV
  cases t with
  | nil =>
    clear hC
    simp only [List.length_nil] at *
    have hq : decide ((0 : Int) > ((0 : Nat) : Int)) = false := by decide
    go_enter Tryz.func59, Tryz.ntmps59
    go_wp2
    go_ret
    exact ⟨rfl, Below.refl _ _⟩
  | cons x r =>
    obtain ⟨b, off, rfl, _, x0, -, -, -⟩ := cell_at hC 0 (by simp)
    simp only [List.getElem_cons_zero, Nat.zero_mul, Nat.add_zero] at x0
    have hl : 0 < (x :: r).length := by simp
    generalize hn : (x :: r).length = n at *
    have HN := Sec.mk hn
    clear hn hC
    have i1 : (0 : Int) < (n : Int) := by omega
    have hq : decide ((n : Int) > 0) = true := decide_eq_true i1
    go_enter Tryz.func59, Tryz.ntmps59
    go_wp2
    go_ret
    exact ⟨rfl, Below.refl _ _⟩
theorem l4Top_c (v : Value) (t : Term) (ok : Nat → Prop) (w : World) (hV : kCell.V w ok v t) (hok : ∀ k, ok k → k < w.heap.size) :
    Calls Tryz.prog 45 #[v] w fun e w' => e = .returned (.bool (question t)) ∧ Below w.heap.size w w' := by
  have HV := Sec.mk hV
  have FV : ∀ {w' : World}, Below w.heap.size w w' → kCell.V w' ok v t := fun hb => Kd.V_below HV.out hb (by decide)
  obtain ⟨A, c, rfl, -⟩ := hV
  cases ht : trmOk t with
  | false =>
    rw [question_no1 ht]
    have H1 := Sec.mk ht
    clear ht
    go_enter Tryz.func45, Tryz.ntmps45
    go_wp2_with (go_at_call 48; refine (TrmOk_c _ t _ _ HV.out).mono ?_; rw [H1.out]; rintro e w1 ⟨rfl, hb⟩; have B1 := Sec.mk hb; clear hb)
    go_ret
    exact ⟨rfl, B1.out⟩
  | true =>
    cases hh : headFun t with
    | false =>
      rw [question_no2 hh]
      have H1 := Sec.mk ht
      have H2 := Sec.mk hh
      clear ht hh
      go_enter Tryz.func45, Tryz.ntmps45
      go_wp2_with (first | (go_at_call 48; refine (TrmOk_c _ t _ _ HV.out).mono ?_; rw [H1.out]; rintro e w1 ⟨rfl, hb⟩; have B1 := Sec.mk hb; clear hb) | (go_at_call 59; refine (l3Call_c _ t _ _ (FV B1.out)).mono ?_; rw [H2.out]; rintro e w2 ⟨rfl, hb⟩; have B2 := Sec.mk (bel B1.out hb); clear hb))
      go_ret
      exact ⟨rfl, B2.out⟩
    | true =>
      rw [question_at ht hh]
      generalize hq : decide (canon t = t) = q at *
      have HQ := Sec.mk hq
      have H1 := Sec.mk ht
      have H2 := Sec.mk hh
      clear ht hh hq
      go_enter Tryz.func45, Tryz.ntmps45
      go_wp2_with (first | (go_at_call 48; refine (TrmOk_c _ t _ _ HV.out).mono ?_; rw [H1.out]; rintro e w1 ⟨rfl, hb⟩; have B1 := Sec.mk hb; clear hb) | (go_at_call 59; refine (l3Call_c _ t _ _ (FV B1.out)).mono ?_; rw [H2.out]; rintro e w2 ⟨rfl, hb⟩; have B2 := Sec.mk (bel B1.out hb); clear hb) | (go_at_call 61; refine (TrmCanon_c _ t _ _ (FV B2.out)).mono ?_; rintro e w3 ⟨u, rfl, hR, hb⟩; have R3 := Sec.mk (Kd.R_V hR); have B3 := Sec.mk (bel B2.out hb); clear hR hb) | (go_at_call 60; refine (TrmSame_c _ _ (canon t) t _ _ _ R3.out (FV B3.out)).mono ?_; rw [HQ.out]; rintro e w4 ⟨rfl, hb⟩; have B4 := Sec.mk (bel B3.out hb); clear hb))
      go_ret
      exact ⟨rfl, B4.out⟩
theorem called_i (v : Value) (t : Term) (ok : Nat → Prop) (w : World) (hV : kCell.V w ok v t) :
    Calls Tryz.prog 66 #[v] w fun e w' => e = .returned (.bool (trmOk t && headFun t)) ∧ Below w.heap.size w w' := by
  have HV := Sec.mk hV
  cases ht : trmOk t with
  | false =>
    rw [Bool.false_and]
    obtain ⟨A, c, rfl, -⟩ := hV
    have H1 := Sec.mk ht
    clear ht
    go_enter Tryz.func66, Tryz.ntmps66
    go_wp2_with (go_at_call 54; refine (TrmOk_i _ t _ _ HV.out).mono ?_; rw [H1.out]; rintro e w1 ⟨rfl, hb⟩; have B1 := Sec.mk hb; clear hb)
    go_ret
    exact ⟨rfl, B1.out⟩
  | true =>
    rw [Bool.true_and]
    obtain ⟨A, c, rfl, h1, h2, h3, hC, -⟩ := hV
    cases t with
    | nil => exact absurd rfl (trmOk_ne ht)
    | cons x r =>
      have H1 := Sec.mk ht
      clear ht
      have HC := Sec.mk hC
      obtain ⟨b, off, rfl, _, x0, -, -, -⟩ := cell_at hC 0 (by simp)
      clear x0
      have H0 : ∀ {w' : World}, Below w.heap.size w w' → w'.cell? ⟨b, off, none⟩ = some (.int .i64 x.kind) := fun hb => by
        obtain ⟨b', off', e, _, y0, -, -, -⟩ := cell_at (Kd.C_below HC.out hb (by decide)) 0 (by simp)
        simp only [List.getElem_cons_zero, Nat.zero_mul, Nat.add_zero] at y0
        cases e
        exact y0
      have hl : 0 < (x :: r).length := by simp
      have HT : Sec (headFun (x :: r) = (x.kind == 3)) := ⟨rfl⟩
      rw [HT.out]
      generalize hn : (x :: r).length = n at *
      generalize ht : (x :: r) = t at *
      have HN := Sec.mk hn
      clear hn hC ht
      have i1 : (0 : Int) < (n : Int) := by omega
      go_enter Tryz.func66, Tryz.ntmps66
      go_wp2_with (go_at_call 54; refine (TrmOk_i _ t _ _ HV.out).mono ?_; rw [H1.out]; rintro e w1 ⟨rfl, hb⟩; have x0 := H0 hb; have B1 := Sec.mk hb; clear hb)
      go_ret
      exact ⟨rfl, B1.out⟩
theorem isQuestion_i (v : Value) (t : Term) (ok : Nat → Prop) (w : World) (hV : kCell.V w ok v t) :
    Calls Tryz.prog 51 #[v] w fun e w' => e = .returned (.bool (question t)) ∧ Below w.heap.size w w' := by
  have HV := Sec.mk hV
  have FV : ∀ {w' : World}, Below w.heap.size w w' → kCell.V w' ok v t := fun hb => Kd.V_below HV.out hb (by decide)
  obtain ⟨A, c, rfl, -⟩ := hV
  have hc : question t = ((trmOk t && headFun t) && decide (canon t = t)) := rfl
  rw [hc]
  clear hc
  cases ht : (trmOk t && headFun t) with
  | false =>
    rw [Bool.false_and]
    have H1 := Sec.mk ht
    clear ht
    go_enter Tryz.func51, Tryz.ntmps51
    go_wp2_with (go_at_call 66; refine (called_i _ t _ _ HV.out).mono ?_; rw [H1.out]; rintro e w1 ⟨rfl, hb⟩; have B1 := Sec.mk hb; clear hb)
    go_ret
    exact ⟨rfl, B1.out⟩
  | true =>
    rw [Bool.true_and]
    have H1 := Sec.mk ht
    clear ht
    have hs : decide (t = canon t) = decide (canon t = t) := decide_eq_decide.2 eq_comm
    generalize hq : decide (canon t = t) = q at *
    have HQ := Sec.mk hs
    clear hs hq
    go_enter Tryz.func51, Tryz.ntmps51
    go_wp2_with (first | (go_at_call 66; refine (called_i _ t _ _ HV.out).mono ?_; rw [H1.out]; rintro e w1 ⟨rfl, hb⟩; have B1 := Sec.mk hb; clear hb) | (go_at_call 68; refine (TrmCanon_i _ t _ _ (FV B1.out)).mono ?_; rintro e w3 ⟨u, rfl, hR, hb⟩; have R3 := Sec.mk (Kd.R_V hR); have B3 := Sec.mk (bel B1.out hb); clear hR hb) | (go_at_call 67; refine (TrmSame_i _ _ t (canon t) _ _ _ (FV B3.out) R3.out).mono ?_; rw [HQ.out]; rintro e w4 ⟨rfl, hb⟩; have B4 := Sec.mk (bel B3.out hb); clear hb))
    go_ret
    exact ⟨rfl, B4.out⟩
end
section
open Go.RowKit
set_option linter.unusedVariables false
set_option maxRecDepth 100000
open Classical in
/-- Whether two terms can be made the same. -/
noncomputable def sameU (a b : Term) : Bool := decide (∃ n s1, uniF n [] a b = some (some s1))
theorem sameU_eq {n : Nat} {a b : Term} {r : Option (List Bind)} (h : uniF n [] a b = some r) : r.isSome = sameU a b := by
  unfold sameU
  cases r with
  | some s1 =>
    have h2 : ∃ n s1, uniF n [] a b = some (some s1) := ⟨n, s1, h⟩
    simp [h2]
  | none =>
    have h2 : ¬ ∃ n s1, uniF n [] a b = some (some s1) := by
      rintro ⟨m, s1, h2⟩
      have := uniF_det h h2
      cases this
    simp only [h2]
    rfl
theorem sameU_swap {a b : Term} (ha : trmOk a = true) (hb : trmOk b = true) : sameU a b = sameU b a := by
  obtain ⟨n, r, h1, _⟩ := uni_total BOk.nil ha hb
  obtain ⟨m, r2, h2, _⟩ := uni_total BOk.nil hb ha
  rw [← sameU_eq h1, ← sameU_eq h2]
  exact uni_swap BOk.nil ha hb h1 h2
theorem skip_map {f : Cell → Cell} (hf : ∀ c, arity (f c) = arity c) : ∀ (t : Term) (m : Nat), skip m (t.map f) = (skip m t).map (List.map f)
  | t, 0 => by simp [skip]
  | [], m + 1 => rfl
  | c :: r, m + 1 => by
    rw [List.map_cons, skip, skip, hf]
    exact skip_map hf r _
theorem place_low {l : List Int} {n : Int} (h : n ∈ l) : 0 ≤ place l n ∧ place l n < l.length := by
  have : ∃ k, ∃ h : k < l.length, ¬ n ∈ l.take k ∧ l[k] = n := by
    induction l with
    | nil => simp at h
    | cons x r ih =>
      by_cases hx : x = n
      · exact ⟨0, by simp, by simp, by simpa using hx⟩
      · obtain ⟨k, hk, h1, h2⟩ := ih (by rcases List.mem_cons.1 h with e | e; exact absurd e.symm hx; exact e)
        refine ⟨k + 1, by simpa using hk, ?_, by simpa using h2⟩
        rw [List.take_succ_cons, List.mem_cons]
        rintro (e | e)
        · exact hx e.symm
        · exact h1 e
  obtain ⟨k, hk, h1, h2⟩ := this
  rw [place_at l n k hk h1 h2]
  omega
theorem mem_free' (t : Term) : ∀ (out : List Int) (c : Cell), c ∈ t → c.kind = 1 → c.n ∈ t.foldl freeStep out := by
  have keep : ∀ (t : Term) (out : List Int) (y : Int), y ∈ out → y ∈ t.foldl freeStep out := by
    intro t
    induction t with
    | nil => intro out y h; exact h
    | cons d r ih =>
      intro out y h
      rw [List.foldl_cons]
      refine ih _ y ?_
      unfold freeStep
      split
      · exact List.mem_append_left _ h
      · exact h
  induction t with
  | nil => intro out c h; simp at h
  | cons d r ih =>
    intro out c h hk
    rw [List.foldl_cons]
    rcases List.mem_cons.1 h with rfl | h
    · refine keep r _ _ ?_
      unfold freeStep
      split
      · exact List.mem_append_right _ (by simp)
      · rename_i h2
        exact Classical.byContradiction (fun h3 => h2 ⟨hk, h3⟩)
    · exact ih _ c h hk
/-- A question with its variables on is a term. -/
theorem shift_ok {t : Term} (h : question t = true) {n : Nat} (hn : n ≤ 40) : trmOk (shifted t n) = true := by
  have hq := h
  unfold question at hq
  simp only [Bool.and_eq_true, decide_eq_true_eq] at hq
  obtain ⟨⟨ht, _⟩, hc⟩ := hq
  obtain ⟨h1, h2, h3, h4⟩ := trmOk_iff.1 ht
  have hfree : (free t).length ≤ 40 := Nat.le_trans (free_len t) h2
  have hvar : ∀ c ∈ t, c.kind = 1 → 0 ≤ c.n ∧ c.n < 40 := by
    intro c hct hk
    rw [← hc] at hct
    unfold canon at hct
    obtain ⟨d, hd, rfl⟩ := List.mem_map.1 hct
    unfold canonC at hk ⊢
    split at hk
    · rename_i hkd
      rw [if_pos hkd]
      have h5 := place_low (l := free t) (n := d.n) (by unfold free; exact mem_free' t [] d hd hkd)
      simp only
      omega
    · rename_i hkd
      exact absurd hk hkd
  have har : ∀ c, arity (shiftC n c) = arity c := by
    intro c
    unfold shiftC arity
    split
    · rename_i hk
      simp only
      rw [if_neg (by rw [hk]; decide), if_neg (by rw [hk]; decide)]
    · rfl
  refine trmOk_iff.2 ⟨by unfold shifted; rw [List.length_map]; exact h1, by unfold shifted; rw [List.length_map]; exact h2, ?_, ?_⟩
  · refine List.all_eq_true.2 (fun c hc => ?_)
    obtain ⟨d, hd, rfl⟩ := List.mem_map.1 hc
    have hdk := List.all_eq_true.1 h3 d hd
    unfold shiftC
    split
    · rename_i hk
      have h5 := hvar d hd hk
      have e : wrap64 (d.n + n) = d.n + n := IntWalk.wrap64_in _ (by omega)
      rw [e]
      unfold cellOk at hdk ⊢
      rw [if_pos hk] at hdk
      simp only
      rw [if_pos hk]
      simp only [Bool.and_eq_true] at hdk ⊢
      refine ⟨?_, hdk.2⟩
      unfold inB
      simp
      omega
    · exact hdk
  · unfold Trm at h4 ⊢
    unfold shifted
    rw [skip_map har, h4]
    rfl
/-- Whether an outcome may be one of a question. -/
noncomputable def outOk (top : Term) (st : Int) (t : Term) : Bool :=
  question top && (if st = 2 then trmOk t && decide (canon t = t) && sameU (shifted top t.length) t else inB st 3 5 && decide (t = []))
end
section
open Go.RowKit
set_option linter.unusedVariables false
set_option maxRecDepth 100000
def kTerm : Kd Term := Kd.slice 30 kCell (by decide)
theorem info_term : (Tryz.prog.info? 30).map (fun i => (i.zero, i.size, i.bytes)) = some (some (.slice none 0 0), 1, 24) := by kernel_rfl
theorem sizeOf_app {t : Term} (h : Trm t) (r : Term) : sizeOf_ (t ++ r) = (t.length : Int) := by
  unfold sizeOf_
  rw [h.skip r]
  simp
theorem cV_take {w : World} {ok : Nat → Prop} {A : Option Addr} {c : Nat} {n : Nat} {t r : Term} (h : kCell.V w ok (.slice A n c) (t ++ r)) : kCell.V w ok (.slice A t.length c) t := by
  obtain ⟨A', c', hv, h1, h2, h3, hC, hz⟩ := h
  simp only [Value.slice.injEq] at hv
  obtain ⟨rfl, rfl, rfl⟩ := hv
  rw [List.length_append] at h1 h3
  refine ⟨A, c, rfl, by omega, h2, by omega, ?_, hz⟩
  have := Kd.C_take hC t.length
  rwa [List.take_left] at this
theorem cV_from {w : World} {ok : Nat → Prop} {b off c : Nat} {n : Nat} {t r : Term} (h : kCell.V w ok (.slice (some ⟨b, off, none⟩) n c) (t ++ r)) : kCell.V w ok (.slice (some ⟨b, off + t.length * 3, none⟩) r.length (c - t.length)) r := by
  obtain ⟨A', c', hv, h1, h2, h3, hC, hz⟩ := h
  simp only [Value.slice.injEq] at hv
  obtain ⟨rfl, rfl, rfl⟩ := hv
  rw [List.length_append] at h1 h3
  refine ⟨_, _, rfl, by omega, by omega, by omega, ?_, fun e => by cases e⟩
  have := Kd.C_drop hC t.length
  rwa [List.drop_left] at this
theorem cV_nil (w : World) (ok : Nat → Prop) (b off : Nat) : kCell.V w ok (.slice (some ⟨b, off, none⟩) 0 0) [] := ⟨_, 0, rfl, Nat.le_refl _, by simp [maxLen], by simp, .inl rfl, fun _ => rfl⟩
theorem argOwn {w W : World} {okb : Nat → Prop} (hlt : ∀ k, okb k → k < w.heap.size) {v u : Value} {tk : List Term} {a : Term} (hW : kTerm.W W (fun k => w.heap.size ≤ k) okb v tk) (hV : kCell.V W okb u a) : kCell.V W (fun k => okb k ∧ some k ≠ v.ownBlock) u a := by
  obtain ⟨_, _, _, h3⟩ := Kd.W_own hW
  exact Kd.V_mono hV (fun k hk => ⟨hk, fun e => by have := (h3 k e.symm).1; have := hlt k hk; omega⟩) (by decide)
theorem cV_if {w : World} {ok : Nat → Prop} {p : Prop} [Decidable p] {X Y : Addr} {c : Nat} {q : Term} (h : kCell.V w ok (.slice (some X) q.length c) q) (hp : p → c = 0) : kCell.V w ok (.slice (if p then some Y else some X) q.length c) q := by
  split
  · rename_i e
    obtain ⟨_, _, hv, h1, h2, h3, -, -⟩ := h
    simp only [Value.slice.injEq] at hv
    obtain ⟨-, -, rfl⟩ := hv
    have := hp e
    have h0 : q = [] := List.eq_nil_of_length_eq_zero (by omega)
    subst h0
    exact ⟨_, _, rfl, h1, h2, h3, .inl rfl, fun e => by cases e⟩
  · exact h
set_option maxHeartbeats 2000000 in
theorem args_i (v : Value) (t : Term) (ok : Nat → Prop) (w : World) (hV : kCell.V w ok v t) (ht : trmOk t = true) :
    Calls Tryz.prog 87 #[v] w fun e w' => ∃ u, e = .returned u ∧ kTerm.W w' (fun k => w.heap.size ≤ k) (fun k => ok k ∧ k < w.heap.size) u (args t) ∧ Below w.heap.size w w' := by
  obtain ⟨okb, hokb, hVb⟩ : ∃ okb : Nat → Prop, okb = (fun k => ok k ∧ k < w.heap.size) ∧ kCell.V w okb v t := ⟨_, rfl, Kd.V_move (fun k h1 h2 => ⟨⟨h1, h2⟩, rfl⟩) hV (by decide)⟩
  rw [← hokb]
  have hlt : Sec (∀ k, okb k → k < w.heap.size) := ⟨fun k h => by rw [hokb] at h; exact h.2⟩
  clear hV hokb
  obtain ⟨x, r, rfl⟩ : ∃ c r, t = c :: r := by
    cases t with
    | nil => have := (trmOk_len ht).1; simp at this
    | cons c r => exact ⟨c, r, rfl⟩
  obtain ⟨e1, e2, e3⟩ := (trmOk_Trm ht).eq
  have e4 := trmOk_args ht
  have hlen := (trmOk_len ht).2
  have hok := cellOk_arity (trmOk_cell ht List.mem_cons_self)
  have harr : (if x.kind = 3 then x.n else 0) = (arity x : Int) := by
    unfold arity
    split
    · next h => have := hok.2 h; omega
    · rfl
  have hx3 := hok.1
  generalize args (x :: r) = L at *
  subst e1
  rw [← e2] at harr hx3
  have HA := Sec.mk harr
  have hW := hVb
  obtain ⟨A, cp, rfl, h1, h2, h3, hC, -⟩ := hVb
  obtain ⟨b, off, rfl, -, c0, c1, c2, -⟩ := cell_at hC 0 (by simp)
  simp only [List.getElem_cons_zero, Nat.zero_mul, Nat.add_zero] at c0 c1 c2
  have hL := Sec.mk e2
  have h0 : kCell.V w okb (if cp = 1 then .slice (some ⟨b, off, none⟩) 0 0 else .slice (some ⟨b, off + 3, none⟩) L.flatten.length (cp - 1)) L.flatten := by
    have hf : (x :: L.flatten) = [x] ++ L.flatten := rfl
    rw [hf] at hW
    have := cV_from hW
    split
    · rename_i hc
      have hn : L.flatten = [] := by
        rw [List.length_cons] at h1
        exact List.eq_nil_of_length_eq_zero (by omega)
      rw [hn]; exact cV_nil _ _ _ _
    · exact this
  have Hnum := Sec.mk h0
  have Hall := Sec.mk e3
  have Hok := Sec.mk e4
  have hu := Tryz.underlying77
  have h13 : L.flatten.length ≤ 39 := by rw [List.length_cons] at hlen; omega
  simp only [List.length_cons] at h1 h3 ⊢
  generalize hfl : L.flatten.length = fl at *
  have HFL := Sec.mk hfl
  have i1 : (1 : Int) ≤ ((fl + 1 : Nat) : Int) := by omega
  have i2 : (1 : Int) ≤ (cp : Int) := by omega
  have i3 : ((fl + 1 : Nat) : Int) ≤ (cp : Int) := by omega
  have i4 : (0 : Int) < ((fl + 1 : Nat) : Int) := by omega
  clear hW hC h0 e3 e4 e2 harr hok ht hfl hlen
  go_enter Tryz.func87, Tryz.ntmps87
  go_wp2_with (go_at_call 90; refine (arity_i x _).mono ?_; rw [HA.out]; rintro e w1 ⟨rfl, hb⟩; have B1 := Sec.mk hb; clear hb)
  all_goals
    go_loopw [3, 4, 12] (fun ov rv iv wr => ∃ (k : Nat) (A1 : Option Addr) (c1 : Nat), k ≤ L.length ∧ iv = .int .i64 k ∧ rv = .slice A1 (L.drop k).flatten.length c1 ∧ Sec (kCell.V wr okb (.slice A1 (L.drop k).flatten.length c1) (L.drop k).flatten) ∧ Sec (kTerm.W wr (fun k => w.heap.size ≤ k) okb ov (L.take k)) ∧ Sec (Below w.heap.size w wr)) (fun _ _ iv _ => 3 - (intOf iv).toNat)
    case atStart =>
      refine ⟨0, _, _, Nat.zero_le _, rfl, by rw [List.drop_zero, HFL.out], ⟨?_⟩, ⟨Kd.W_nil _ _ _ _⟩, B1⟩
      rw [List.drop_zero, HFL.out]
      have := Kd.V_below Hnum.out B1.out (by decide)
      first | (rw [if_neg (by omega)] at this; exact this) | (have hc : cp = 1 := (by omega); have hf : fl = 0 := (by omega); rw [if_pos hc] at this; rw [hf]; exact this)
    case round =>
      obtain ⟨k, A1, cq, hk, rfl, rfl, hV, hW, hB⟩ := hrel
      by_cases hlk : k < L.length
      · have hd := List.drop_eq_getElem_cons hlk
        have ht1 := List.take_succ_eq_append_getElem hlk
        have ha1 := Hall.out _ (List.getElem_mem hlk)
        have ha2 := Hok.out _ (List.getElem_mem hlk)
        have hfl : (L.drop k).flatten = L[k] ++ (L.drop (k + 1)).flatten := by rw [hd, List.flatten_cons]
        have hal : ((L.drop k).flatten).all cellOk = true := List.all_eq_true.2 (fun c hc => by
          obtain ⟨q, hq, hcq⟩ := List.mem_flatten.1 hc
          exact trmOk_cell (Hok.out q (List.mem_of_mem_drop hq)) hcq)
        rw [hfl] at hV hal
        obtain ⟨tk, htk⟩ : ∃ tk, L.take k = tk := ⟨_, rfl⟩
        rw [htk] at hW ht1
        have HT1 := Sec.mk ht1
        generalize L[k] = a at *
        generalize hq : (L.drop (k + 1)).flatten = q at *
        have HQ := Sec.mk hq
        rw [hfl]
        obtain ⟨A2, c2, hv2, g1, g2, g3, gC, gz⟩ := hV.out
        simp only [Value.slice.injEq] at hv2
        obtain ⟨rfl, -, rfl⟩ := hv2
        obtain ⟨b2, off2, rfl⟩ := Kd.C_addr gC (by have := List.length_pos_iff.2 ha1.ne; rw [List.length_append]; omega)
        have s1 := sizeOf_app ha1 q
        have hlen := trmOk_len ha2
        have HVa := Sec.mk (cV_take hV.out)
        have HVq := Sec.mk (cV_from hV.out)
        have HAL := Sec.mk hal
        rw [List.length_append] at g1 g3
        have j1 : (0 : Int) ≤ (a.length : Int) := by omega
        have j2 : (a.length : Int) ≤ (cq : Int) := by omega
        have j3 : (a.length : Int) ≤ ((a ++ q).length : Int) := by rw [List.length_append]; omega
        obtain ⟨A3, c3, rfl, -, -, -⟩ := Kd.W_form hW.out
        have HS1 := Sec.mk s1
        have HQL : Sec ((a ++ q).length = a.length + q.length) := ⟨List.length_append⟩
        clear hd ht1 ha1 ha2 hfl hal hq gC gz s1
        have HV2 : Sec (kCell.V wr okb (.slice (some ⟨b2, off2, none⟩) (a.length + q.length) cq) (a ++ q)) := ⟨by have := hV.out; rwa [List.length_append] at this⟩
        have htl : tk.length ≤ 3 := by rw [← htk, List.length_take]; omega
        clear htk
        go_wp2_with (first | (at_builtin; refine Kd.W_app kTerm rfl (.tmp 16) (.tmp 20) 99 (.slice none 0 0) 24 rfl Tryz.underlying99 info_term rfl (by decide) (by decide) _ tk a [.slice (some ⟨b2, off2, none⟩) a.length cq] (fun k => w.heap.size ≤ k) okb rfl rfl rfl HW2.out ⟨_, rfl, HP.out⟩ (by omega) ?_; intro v1 w3 hW3 hg3) | (go_at_call 74; refine (size_i _ (a ++ q) okb wr HV2.out HAL.out).mono ?_; rw [HS1.out]; rintro e w2 ⟨rfl, hb⟩; have B2 := Sec.mk hb; have HW2 := Sec.mk (Kd.W_move (Keeps.below hb _) (Keeps.below hb _) hW.out); have HP := Sec.mk (argOwn hlt.out HW2.out (Kd.V_below HVa.out hb (by decide))); clear hb))
        all_goals
          go_roundw
          case rel =>
            have hk3 := hg3.size
            have hB3 : Below w.heap.size w w3 := (bel hB.out B2.out).grown hg3 (bel hB.out B2.out).size (fun j e => by obtain ⟨_, _, _, h3⟩ := Kd.W_own HW2.out; exact (h3 j e).1)
            refine ⟨k + 1, _, _, by omega, by go_num, by rw [HQ.out], ⟨?_⟩, ⟨by rw [HT1.out]; exact Kd.W_move (Keeps.mono fun j hj _ => hj.elim id (fun h => Nat.le_trans (bel hB.out B2.out).size h)) (Keeps.mono fun j hj _ => hj) hW3⟩, ⟨hB3⟩⟩
            rw [HQ.out]
            exact cV_if (Kd.V_move (fun j h1 h2 => ⟨h1, (hB3.block j (hlt.out j h1)).trans (hB.out.block j (hlt.out j h1)).symm⟩) HVq.out (by decide)) (fun e => by omega)
          case measure => simp [intOf]; omega
      · go_wp2
        go_ret
        rw [List.take_of_length_le (by omega)] at hW
        exact ⟨_, rfl, hW.out, hB.out⟩
end
end Go.Proofs.YteflipoiiddkfaaGreatDoor
