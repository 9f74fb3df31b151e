/- Contracts: the reference's functions on terms. -/
import Derived.Test.YtenigopoknajgaaDoorKinds
import Derived.Test.YtenigopoknajgaaDoorTerm
import Derived.Outline
import Derived.KernelRfl
import Derived.WalkLawsBesides
import Derived.Deep.LoopGhost
namespace Go.Proofs.YtenigopoknajgaaDoor
open Go.RowKit
set_option linter.unusedVariables false
set_option maxRecDepth 100000
theorem l1In_c (n lo hi : Int) (w : World) : Calls Tryd.prog 95 #[.int .i64 n, .int .i64 lo, .int .i64 hi] w fun e w' => e = .returned (.bool (inB n lo hi)) ∧ w = w' := by
  go_enter Tryd.func95, Tryd.ntmps95
  go_wp2
  all_goals (go_ret; exact ⟨by unfold inB; simp_all; try omega, rfl⟩)
theorem l1Name_c (s : ByteArray) (w : World) : Calls Tryd.prog 96 #[.string s] w fun e w' => e = .returned (.bool (nameOk s)) ∧ w = w' := by
  by_cases h : (1 ≤ s.size ∧ s.size ≤ 8) ∧ (s.toList == [97, 110, 100]) = false
  · obtain ⟨⟨h1, h2⟩, h3⟩ := h
    have h0 : ¬ s = ByteArray.empty := by rintro rfl; simp at h1
    have h4 : ((s.size : Int) == 0) = false := by rw [beq_eq_false_iff_ne]; omega
    have hfin : Sec (s.data.toList.all small = nameOk s) := ⟨by unfold nameOk; simp [h1, h2, h3]⟩
    go_enter Tryd.func96, Tryd.ntmps96
    go_wp2
    go_loop [3] (fun i => ∃ k : Nat, k ≤ s.size ∧ i = .int .i64 k ∧ (s.data.toList.take k).all small = true) (fun i => s.size - (intOf i).toNat)
    case atStart => exact ⟨0, Nat.zero_le _, rfl, by simp⟩
    case round =>
      obtain ⟨k, hk, rfl, hr⟩ := hrel
      have hR : Sec ((s.data.toList.take k).all small = true) := ⟨hr⟩
      clear hr
      by_cases hlt : k < s.size
      · have hA := take_all small s.data.toList k (by simpa using hlt)
        have hb : s.data.toList[k]'(by simpa using hlt) = s[k] := rfl
        rw [hb, hR.out, Bool.true_and] at hA
        cases hs : small s[k] with
        | true =>
          rw [hs] at hA
          have hA' := Sec.mk hA
          clear hA
          simp only [small, Bool.and_eq_true, decide_eq_true_eq] at hs
          obtain ⟨g1, g2⟩ := hs
          go_wp2
          go_round
          case rel => exact ⟨k + 1, by omega, by go_num, hA'.out⟩
          case measure => simp [intOf]; omega
        | false =>
          have hF : Sec (nameOk s = false) := ⟨by
            rw [← hfin.out, ← Bool.not_eq_true]; intro h
            have := List.all_eq_true.1 h s[k] (by rw [← hb]; exact List.getElem_mem _)
            rw [hs] at this; cases this⟩
          clear hA
          have hs' : ¬ (97 ≤ (s[k].toNat : Int) ∧ (s[k].toNat : Int) ≤ 122) := by simpa [small] using hs
          clear hs
          go_wp2
          all_goals first
            | (exfalso; apply hs'; assumption)
            | (go_ret; exact ⟨rb hF.out.symm, rfl⟩)
      · have hf2 : Sec (nameOk s = true) := ⟨by rw [← hfin.out, ← hR.out, List.take_of_length_le (by simp; omega)]⟩
        go_wp2
        go_ret
        exact ⟨rb hf2.out.symm, rfl⟩
  · have hfin : Sec (nameOk s = false) := ⟨by unfold nameOk; revert h; cases (s.toList == [97, 110, 100]) <;> simp <;> omega⟩
    by_cases h1 : s.size = 0
    · have h0 : s = ByteArray.empty := ByteArray.ext (Array.eq_empty_of_size_eq_zero h1)
      clear h h1
      subst h0
      go_enter Tryd.func96, Tryd.ntmps96
      go_wp2
      go_ret
      exact ⟨rb hfin.out.symm, rfl⟩
    · have h4 : ((s.size : Int) == 0) = false := by rw [beq_eq_false_iff_ne]; omega
      have h0 : ¬ s = ByteArray.empty := by rintro rfl; simp at h1
      by_cases h2 : 8 < (s.size : Int)
      · clear h
        go_enter Tryd.func96, Tryd.ntmps96
        go_wp2
        go_ret
        exact ⟨rb hfin.out.symm, rfl⟩
      · have h3 : (s.toList == [97, 110, 100]) = true := by
          cases h5 : (s.toList == [97, 110, 100])
          · exact absurd ⟨⟨by omega, by omega⟩, h5⟩ h
          · rfl
        clear h
        go_enter Tryd.func96, Tryd.ntmps96
        go_wp2
        go_ret
        exact ⟨rb hfin.out.symm, rfl⟩
theorem l1Cell_c (x : Cell) (w : World) : Calls Tryd.prog 87 #[x.agg] w fun e w' => e = .returned (.bool (cellOk x)) ∧ Below w.heap.size w w' := by
  have hu := Tryd.underlying54
  have hB : Sec (Below w.heap.size w (w.alloc (.cells #[.int .i64 x.kind, .int .i64 x.n, .string x.name] 54))) := ⟨(Below.refl _ _).alloc (Nat.le_refl _) _⟩
  go_enter Tryd.func87, Tryd.ntmps87
  go_wp2_with (first | (go_at_call 95; refine (l1In_c _ _ _ _).mono ?_; rintro e w' ⟨rfl, rfl⟩) | (go_at_call 96; refine (l1Name_c _ _).mono ?_; rintro e w' ⟨rfl, rfl⟩))
  all_goals (go_ret; exact ⟨rb (by simp_all [cellOk]), hB.out⟩)
theorem l1End_c (A : Option Addr) (c : Nat) (t : Term) (ok : Nat → Prop) (at_ : Nat) (w : World) (hC : kCell.C w ok A t) (hl : t.length ≤ 1073741824) (hat : at_ ≤ t.length) (hc : t.all cellOk = true) :
    Calls Tryd.prog 88 #[.slice A t.length c, .int .i64 at_] w fun e w' => e = .returned (.int .i64 (endAt t at_)) ∧ w = w' := by
  have HC := Sec.mk hC
  have Hc := Sec.mk hc
  clear hC hc
  go_enter Tryd.func88, Tryd.ntmps88
  go_wp2
  go_loop [5, 6] (fun o k => ∃ m j : Nat, j ≤ t.length ∧ m ≤ 1 + 3 * j ∧ o = .int .i64 m ∧ k = .int .i64 j ∧ Sec (skip 1 (t.drop at_) = skip m (t.drop j))) (fun _ k => t.length - (intOf k).toNat)
  case atStart => exact ⟨1, at_, hat, by omega, rfl, rfl, ⟨rfl⟩⟩
  case round =>
    obtain ⟨m, j, hj, hm, rfl, rfl, hs⟩ := hrel
    cases m with
    | zero =>
      have hf : Sec (endAt t at_ = j) := ⟨by unfold endAt; rw [hs.out]; simp [skip]; omega⟩
      go_wp2
      go_ret
      exact ⟨ri hf.out.symm, rfl⟩
    | succ m =>
      by_cases hlt : j < t.length
      · obtain ⟨b, off, rfl, hb, h0, h1, h2, _⟩ := cell_at HC.out j hlt
        have hok := cellOk_arity (List.all_eq_true.1 Hc.out _ (List.getElem_mem hlt))
        have hst := Sec.mk (hs.out.trans (skip_step hlt))
        generalize t[j] = x at *
        by_cases hk : x.kind = 3
        · obtain ⟨g1, g2⟩ := hok.2 hk
          have hn : Sec ((m : Int) + 1 - 1 + x.n = ((m + arity x : Nat) : Int)) := ⟨by unfold arity; rw [if_pos hk]; omega⟩
          have hbd := hok.1
          clear hok
          have hk' : (x.kind == 3) = true := beq_iff_eq.2 hk
          clear hk
          go_wp2
          go_round
          case rel => exact ⟨m + arity x, j + 1, by omega, by omega, by rw [← hn.out]; go_num, by go_num, hst⟩
          case measure => simp [intOf]; omega
        · have hn : Sec (arity x = 0) := ⟨by unfold arity; rw [if_neg hk]⟩
          clear hok
          have hk' : (x.kind == 3) = false := beq_eq_false_iff_ne.2 hk
          clear hk
          go_wp2
          go_round
          case rel => exact ⟨m, j + 1, by omega, by omega, by go_num, by go_num, ⟨by rw [hst.out, hn.out]; rfl⟩⟩
          case measure => simp [intOf]; omega
      · have hf : Sec (endAt t at_ = -1) := ⟨by unfold endAt; rw [hs.out, skip_out (by omega)]⟩
        go_wp2
        go_ret
        exact ⟨ri hf.out.symm, rfl⟩
theorem TrmOk_c (v : Value) (t : Term) (ok : Nat → Prop) (w : World) (hV : kCell.V w ok v t) :
    Calls Tryd.prog 72 #[v] w fun e w' => e = .returned (.bool (trmOk t)) ∧ Below w.heap.size w w' := by
  obtain ⟨A, c, rfl, h1, h2, h3, hC, _⟩ := hV
  have HC := Sec.mk hC
  clear hC
  have hu := Tryd.underlying54
  by_cases h : 1 ≤ t.length ∧ t.length ≤ 40
  · obtain ⟨g1, g2⟩ := h
    have n1 : ((t.length : Int) == 0) = false := by rw [beq_eq_false_iff_ne]; omega
    have n2 : ¬ t = [] := by rintro rfl; simp at g1
    go_enter Tryd.func72, Tryd.ntmps72
    go_wp2
    go_loopw [3] (fun i wr => ∃ k : Nat, k ≤ t.length ∧ i = .int .i64 k ∧ Sec ((t.take k).all cellOk = true) ∧ Sec (Below w.heap.size w wr)) (fun i _ => t.length - (intOf i).toNat)
    case atStart => exact ⟨0, Nat.zero_le _, rfl, ⟨rfl⟩, ⟨Below.refl _ _⟩⟩
    case round =>
      obtain ⟨k, hk, rfl, hr, hb⟩ := hrel
      by_cases hlt : k < t.length
      · obtain ⟨b, off, rfl, hob, c0, c1, c2, _⟩ := cell_at (Kd.C_below HC.out hb.out (by decide)) k hlt
        have hA := Sec.mk (take_all cellOk t k hlt)
        generalize hx : t[k] = x at *
        have Hx := Sec.mk hx
        clear hx
        cases hs : cellOk x with
        | true =>
          have hA' : Sec ((t.take (k + 1)).all cellOk = true) := ⟨by rw [hA.out, hr.out, hs]; rfl⟩
          have Hs := Sec.mk hs
          clear hs
          go_wp2_with (go_at_call 87; refine (l1Cell_c x _).mono ?_; rw [Hs.out]; rintro e w1 ⟨rfl, hb1⟩; have hb2 := Sec.mk (bel hb.out hb1); clear hb1)
          go_roundw
          case rel => exact ⟨k + 1, by omega, by go_num, hA', hb2⟩
          case measure => simp [intOf]; omega
        | false =>
          have hF : Sec (trmOk t = false) := ⟨by
            unfold trmOk
            have : t.all cellOk = false := by
              rw [← Bool.not_eq_true]; intro h
              have := List.all_eq_true.1 h x (by rw [← Hx.out]; exact List.getElem_mem _)
              rw [hs] at this; cases this
            rw [this]; simp⟩
          have Hs := Sec.mk hs
          clear hs
          go_wp2_with (go_at_call 87; refine (l1Cell_c x _).mono ?_; rw [Hs.out]; rintro e w1 ⟨rfl, hb1⟩; have hb2 := Sec.mk (bel hb.out hb1); clear hb1)
          go_ret
          exact ⟨rb hF.out.symm, hb2.out⟩
      · have hall : Sec (t.all cellOk = true) := ⟨by have := hr.out; rwa [List.take_of_length_le (by omega)] at this⟩
        have hfin : Sec ((endAt t 0 == (t.length : Int)) = trmOk t) := ⟨by
          have e := endAt_whole t
          unfold trmOk; rw [hall.out, ← e, Bool.beq_eq_decide_eq]; simp [g1, g2]⟩
        go_wp2_with (go_at_call 88; refine (l1End_c A c t ok 0 _ (Kd.C_below HC.out hb.out (by decide)) h3 (Nat.zero_le _) hall.out).mono ?_; rintro e w1 ⟨rfl, rfl⟩)
        go_ret
        exact ⟨rb hfin.out, hb.out⟩
  · have hF : Sec (trmOk t = false) := ⟨by unfold trmOk; simp; omega⟩
    by_cases n2 : t = []
    · subst n2
      go_enter Tryd.func72, Tryd.ntmps72
      go_wp2
      go_ret
      exact ⟨rb hF.out.symm, Below.refl _ _⟩
    · have n1 : ((t.length : Int) == 0) = false := by rw [beq_eq_false_iff_ne]; have := List.length_pos_iff.2 n2; omega
      have n3 : 40 < (t.length : Int) := by have := List.length_pos_iff.2 n2; omega
      clear h
      go_enter Tryd.func72, Tryd.ntmps72
      go_wp2
      go_ret
      exact ⟨rb hF.out.symm, Below.refl _ _⟩
end Go.Proofs.YtenigopoknajgaaDoor
