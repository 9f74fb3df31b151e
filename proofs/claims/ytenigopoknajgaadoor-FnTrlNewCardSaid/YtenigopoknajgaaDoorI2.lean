/- Contracts: the program's own TrmOk. -/
import Derived.Test.YtenigopoknajgaaDoorI1
import Derived.Test.YtenigopoknajgaaDoorShelf
namespace Go.Proofs.YtenigopoknajgaaDoor
open Go.RowKit
set_option linter.unusedVariables false
set_option maxRecDepth 100000
def letters : List UInt8 := [97, 98, 99, 100, 101, 102, 103, 104, 105, 106, 107, 108, 109, 110, 111, 112, 113, 114, 115, 116, 117, 118, 119, 120, 121, 122]
theorem letters_small (b : UInt8) : letters.contains b = small b := by
  have h : ∀ n : Fin 256, letters.contains (UInt8.ofNat n.1) = small (UInt8.ofNat n.1) := by decide
  have := h ⟨b.toNat, b.toNat_lt⟩
  rwa [UInt8.ofNat_toNat] at this
theorem drop_none (p : UInt8 → Bool) (l : List UInt8) : l.dropWhile p = [] ↔ l.all p = true := by
  induction l with
  | nil => simp
  | cons x l ih =>
    rw [List.dropWhile_cons, List.all_cons]
    cases p x <;> simp_all
theorem trim_none (l : List UInt8) : Lib.trimS l letters = [] ↔ l.all small = true := by
  have e : (fun b => letters.contains b) = small := funext letters_small
  unfold Lib.trimS Lib.trimLeftS Lib.trimRightS
  rw [e, drop_none]
  constructor
  · intro h
    rw [List.all_reverse] at h
    rw [← List.all_reverse, ← List.takeWhile_append_dropWhile (p := small) (l := l.reverse), List.all_append, h, Bool.and_true]
    exact List.all_takeWhile
  · intro h
    rw [List.all_reverse]
    refine List.all_eq_true.2 fun x hx => List.all_eq_true.1 h x ?_
    exact List.mem_reverse.1 ((List.dropWhile_sublist _).mem hx)
theorem nameOk_i (s : ByteArray) (hs : s.size ≤ 1073741824) (w : World) : Calls Tryd.prog 83 #[.string s] w fun e w' => e = .returned (.bool (nameOk s)) ∧ Below w.heap.size w w' := by
  have hcon := Any.strings_Trim_laid Tryd.lays160 (by kernel_rfl) s ⟨#[97, 98, 99, 100, 101, 102, 103, 104, 105, 106, 107, 108, 109, 110, 111, 112, 113, 114, 115, 116, 117, 118, 119, 120, 121, 122]⟩ w (by omega) (by decide) (ascii_of_all (by decide))
  change Calls Tryd.prog 94 _ _ (fun e w' => e = .returned (.string ⟨(Lib.trimS s.data.toList letters).toArray⟩) ∧ Below w.heap.size w w') at hcon
  have HT := Sec.mk (trim_none s.data.toList)
  have HC := Sec.mk hcon
  clear hcon
  by_cases hin : inB s.size 1 8 = true
  · have Hin := Sec.mk hin
    by_cases hsm : s.data.toList.all small = true
    · have hr : (⟨(Lib.trimS s.data.toList letters).toArray⟩ : ByteArray) = ByteArray.empty := by rw [HT.out.2 hsm]; rfl
      have HR := Sec.mk hr
      by_cases hand : (s.toList == [97, 110, 100]) = true
      · have hf : Sec (nameOk s = false) := ⟨by unfold nameOk; rw [hand]; simp⟩
        clear hr hsm hin
        go_enter Tryd.func83, Tryd.ntmps83
        go_wp2_with (first | (go_at_call 35; refine (in_c _ _ _ _).mono ?_; rw [Hin.out]; rintro e w' ⟨rfl, rfl⟩) | (go_at_call 94; refine HC.out.mono ?_; rw [HR.out]; rintro e w1 ⟨rfl, hB⟩; have B1 := Sec.mk hB; clear hB))
        go_ret
        exact ⟨rb hf.out.symm, B1.out⟩
      · have hand' : (s.toList == [97, 110, 100]) = false := by simpa using hand
        have hf : Sec (nameOk s = true) := ⟨by
          unfold inB at hin
          unfold nameOk
          rw [hand', hsm]
          simp at hin ⊢
          omega⟩
        clear hr hsm hin hand
        go_enter Tryd.func83, Tryd.ntmps83
        go_wp2_with (first | (go_at_call 35; refine (in_c _ _ _ _).mono ?_; rw [Hin.out]; rintro e w' ⟨rfl, rfl⟩) | (go_at_call 94; refine HC.out.mono ?_; rw [HR.out]; rintro e w1 ⟨rfl, hB⟩; have B1 := Sec.mk hB; clear hB))
        go_ret
        exact ⟨rb hf.out.symm, B1.out⟩
    · have hne : Sec (¬ (⟨(Lib.trimS s.data.toList letters).toArray⟩ : ByteArray) = ByteArray.empty) := ⟨fun e => hsm (HT.out.1 (by
        have := congrArg (fun x => x.data.toList) e
        simpa using this))⟩
      have hf : Sec (nameOk s = false) := ⟨by unfold nameOk; simp at hsm; simp [hsm]⟩
      have HC2 : Sec (∃ r : ByteArray, ¬ r = ByteArray.empty ∧ Calls Tryd.prog 94 #[.string s, .string ⟨#[97, 98, 99, 100, 101, 102, 103, 104, 105, 106, 107, 108, 109, 110, 111, 112, 113, 114, 115, 116, 117, 118, 119, 120, 121, 122]⟩] w (fun e w' => e = .returned (.string r) ∧ Below w.heap.size w w')) := ⟨⟨_, hne.out, HC.out⟩⟩
      clear hne HC HT hsm hin
      obtain ⟨r, hr0, hr2⟩ := HC2.out
      have hr1 : ¬ r.toList = [] := fun e => hr0 (by
        rw [Lib.toList_data] at e
        exact ByteArray.ext (by rw [← Array.toList_inj, e]; rfl))
      have HC3 := Sec.mk hr2
      clear hr2 HC2
      go_enter Tryd.func83, Tryd.ntmps83
      go_wp2_with (first | (go_at_call 35; refine (in_c _ _ _ _).mono ?_; rw [Hin.out]; rintro e w' ⟨rfl, rfl⟩) | (go_at_call 94; refine HC3.out.mono ?_; rintro e w1 ⟨rfl, hB⟩; have B1 := Sec.mk hB; clear hB))
      go_ret
      exact ⟨rb hf.out.symm, B1.out⟩
  · have hin' : inB s.size 1 8 = false := by simpa using hin
    have Hin := Sec.mk hin'
    have hf : Sec (nameOk s = false) := ⟨by
      unfold inB at hin'
      unfold nameOk
      cases h1 : decide (1 ≤ s.size)
      · simp
      · cases h2 : decide (s.size ≤ 8)
        · simp
        · simp at h1 h2 hin'; omega⟩
    clear hin hin'
    go_enter Tryd.func83, Tryd.ntmps83
    go_wp2_with (go_at_call 35; refine (in_c _ _ _ _).mono ?_; rw [Hin.out]; rintro e w' ⟨rfl, rfl⟩)
    go_ret
    exact ⟨rb hf.out.symm, Below.refl _ _⟩
theorem cellOk_i (x : Cell) (hx : x.name.size ≤ 1073741824) (w : World) : Calls Tryd.prog 66 #[x.agg] w fun e w' => e = .returned (.bool (cellOk x)) ∧ Below w.heap.size w w' := by
  have hu := Tryd.underlying54
  have hB : Sec (Below w.heap.size w (w.alloc (.cells #[.int .i64 x.kind, .int .i64 x.n, .string x.name] 54))) := ⟨(Below.refl _ _).alloc (Nat.le_refl _) _⟩
  obtain ⟨b1, hb1⟩ : ∃ b, inB x.n 0 99999 = b := ⟨_, rfl⟩
  obtain ⟨b2, hb2⟩ : ∃ b, inB x.n (-9999) 9999 = b := ⟨_, rfl⟩
  obtain ⟨b3, hb3⟩ : ∃ b, inB x.n 0 3 = b := ⟨_, rfl⟩
  obtain ⟨b4, hb4⟩ : ∃ b, nameOk x.name = b := ⟨_, rfl⟩
  have hc : Sec (cellOk x = if x.kind = 1 then b1 && x.name.toList.isEmpty else if x.kind = 2 then b2 && x.name.toList.isEmpty else if x.kind = 3 then b3 && b4 else false) := ⟨by unfold cellOk; rw [hb1, hb2, hb3, hb4]⟩
  have H1 := Sec.mk hb1
  have H2 := Sec.mk hb2
  have H3 := Sec.mk hb3
  have H4 := Sec.mk hb4
  clear hb1 hb2 hb3 hb4
  by_cases k1 : x.kind = 1
  · have hc2 : Sec (cellOk x = (b1 && x.name.toList.isEmpty)) := ⟨by rw [hc.out, if_pos k1]⟩
    cases b1 <;>
    · go_enter Tryd.func66, Tryd.ntmps66
      go_wp2_with (go_at_call 35; refine (in_c _ _ _ _).mono ?_; rw [H1.out]; rintro e w' ⟨rfl, rfl⟩)
      all_goals (go_ret; exact ⟨rb (by rw [hc2.out]; simp_all), belA (Below.refl _ _) _⟩)
  · by_cases k2 : x.kind = 2
    · have hc2 : Sec (cellOk x = (b2 && x.name.toList.isEmpty)) := ⟨by rw [hc.out, if_neg k1, if_pos k2]⟩
      cases b2 <;>
      · go_enter Tryd.func66, Tryd.ntmps66
        go_wp2_with (go_at_call 35; refine (in_c _ _ _ _).mono ?_; rw [H2.out]; rintro e w' ⟨rfl, rfl⟩)
        all_goals (go_ret; exact ⟨rb (by rw [hc2.out]; simp_all), belA (Below.refl _ _) _⟩)
    · by_cases k3 : x.kind = 3
      · have hc2 : Sec (cellOk x = (b3 && b4)) := ⟨by rw [hc.out, if_neg k1, if_neg k2, if_pos k3]⟩
        cases b3 with
        | false =>
          go_enter Tryd.func66, Tryd.ntmps66
          go_wp2_with (go_at_call 35; refine (in_c _ _ _ _).mono ?_; rw [H3.out]; rintro e w' ⟨rfl, rfl⟩)
          all_goals (go_ret; exact ⟨rb (by rw [hc2.out]; simp), belA (Below.refl _ _) _⟩)
        | true =>
          go_enter Tryd.func66, Tryd.ntmps66
          go_wp2_with (first | (go_at_call 35; refine (in_c _ _ _ _).mono ?_; rw [H3.out]; rintro e w' ⟨rfl, rfl⟩) | (go_at_call 83; refine (nameOk_i _ hx _).mono ?_; rw [H4.out]; rintro e w1 ⟨rfl, hb⟩; have B1 := Sec.mk (bel (belA (Below.refl _ _) _) hb); clear hb))
          all_goals (go_ret; exact ⟨rb (by rw [hc2.out]; simp), B1.out⟩)
      · have hc2 : Sec (cellOk x = false) := ⟨by rw [hc.out, if_neg k1, if_neg k2, if_neg k3]⟩
        have g1 : (x.kind == 1) = false := beq_eq_false_iff_ne.2 k1
        have g2 : (x.kind == 2) = false := beq_eq_false_iff_ne.2 k2
        have g3 : (x.kind == 3) = false := beq_eq_false_iff_ne.2 k3
        clear k1 k2 k3
        go_enter Tryd.func66, Tryd.ntmps66
        go_wp2
        go_ret
        exact ⟨rb hc2.out.symm, belA (Below.refl _ _) _⟩
theorem arity_i (x : Cell) (w : World) : Calls Tryd.prog 85 #[x.agg] w fun e w' => e = .returned (.int .i64 (if x.kind = 3 then x.n else 0)) ∧ Below w.heap.size w w' := by
  have hu := Tryd.underlying54
  have hB : Sec (Below w.heap.size w (w.alloc (.cells #[.int .i64 x.kind, .int .i64 x.n, .string x.name] 54))) := ⟨(Below.refl _ _).alloc (Nat.le_refl _) _⟩
  by_cases k3 : x.kind = 3
  · rw [if_pos k3]
    go_enter Tryd.func85, Tryd.ntmps85
    go_wp2
    go_ret
    exact ⟨rfl, belA (Below.refl _ _) _⟩
  · rw [if_neg k3]
    have g3 : (x.kind == 3) = false := beq_eq_false_iff_ne.2 k3
    clear k3
    go_enter Tryd.func85, Tryd.ntmps85
    go_wp2
    go_ret
    exact ⟨rfl, belA (Below.refl _ _) _⟩
/-- How many places a term at the beginning of some has; more than there are, if it does not end. -/
def sizeOf_ (t : Term) : Int := match skip 1 t with
  | some r => (t.length : Int) - r.length
  | none => (t.length : Int) + 1
theorem sizeOf_whole (t : Term) : (sizeOf_ t == (t.length : Int)) = decide (skip 1 t = some []) := by
  unfold sizeOf_
  rw [Bool.beq_eq_decide_eq]
  cases h : skip 1 t with
  | none => simp; omega
  | some r => cases r <;> simp <;> omega
theorem size_i (v : Value) (t : Term) (ok : Nat → Prop) (w : World) (hV : kCell.V w ok v t) (hc : t.all cellOk = true) :
    Calls Tryd.prog 68 #[v] w fun e w' => e = .returned (.int .i64 (sizeOf_ t)) ∧ Below w.heap.size w w' := by
  obtain ⟨A, c, rfl, h1, h2, h3, hC, hz⟩ := hV
  have HC := Sec.mk hC
  have Hc := Sec.mk hc
  clear hC hc hz
  have hu := Tryd.underlying54
  go_enter Tryd.func68, Tryd.ntmps68
  go_wp2
  go_loopw [3, 4] (fun nv iv wr => ∃ m j : Nat, j ≤ t.length ∧ m ≤ 1 + 3 * j ∧ nv = .int .i64 ((j : Int) + (m : Int)) ∧ iv = .int .i64 j ∧ Sec (skip 1 t = skip m (t.drop j)) ∧ Sec (Below w.heap.size w wr)) (fun _ iv _ => t.length + 1 - (intOf iv).toNat)
  case atStart => exact ⟨1, 0, Nat.zero_le _, by omega, rfl, rfl, ⟨by simp⟩, ⟨Below.refl _ _⟩⟩
  case round =>
    obtain ⟨m, j, hj, hm, rfl, rfl, hs, hb⟩ := hrel
    cases m with
    | zero =>
      have hf : Sec ((j : Int) + ((0 : Nat) : Int) = sizeOf_ t) := ⟨by unfold sizeOf_; rw [hs.out]; simp [skip] <;> omega⟩
      go_wp2
      go_ret
      exact ⟨ri (by rw [← hf.out] <;> simp), hb.out⟩
    | succ m =>
      by_cases hlt : j < t.length
      · obtain ⟨b, off, rfl, hob, c0, c1, c2, _⟩ := cell_at (Kd.C_below HC.out hb.out (by decide)) j hlt
        have hok := cellOk_arity (List.all_eq_true.1 Hc.out _ (List.getElem_mem hlt))
        have hst := Sec.mk (hs.out.trans (skip_step hlt))
        have hne : ((j : Int) == (t.length : Int)) = false := beq_eq_false_iff_ne.2 (by omega)
        generalize t[j] = x at *
        have harr : (if x.kind = 3 then x.n else 0) = (arity x : Int) := by
          unfold arity
          split
          · next h => have := hok.2 h; omega
          · rfl
        have ha3 := hok.1
        have HA := Sec.mk harr
        clear hok harr
        generalize hax : arity x = a at *
        clear hax
        go_wp2_with (go_at_call 85; refine (arity_i x _).mono ?_; rw [HA.out]; rintro e w1 ⟨rfl, hb1⟩; have B1 := Sec.mk (bel hb.out hb1); clear hb1 c0 c1 c2)
        go_roundw
        case rel => exact ⟨m + a, j + 1, by omega, by omega, by go_num, by go_num, hst, B1⟩
        case measure => simp [intOf]; omega
      · have hf : Sec ((t.length : Int) + 1 = sizeOf_ t) := ⟨by unfold sizeOf_; rw [hs.out, skip_out (by omega)]⟩
        have he : ((j : Int) == (t.length : Int)) = true := beq_iff_eq.2 (by omega)
        have hjm : ((j : Int) < (j : Int) + ((m + 1 : Nat) : Int)) := by omega
        go_wp2
        go_ret
        exact ⟨ri hf.out, hb.out⟩
theorem wrong_i (x : Cell) (hx : x.name.size ≤ 1073741824) (w : World) : Calls Tryd.prog 65 #[x.agg] w fun e w' => e = .returned (.bool (!cellOk x)) ∧ Below w.heap.size w w' := by
  have hu := Tryd.underlying54
  obtain ⟨bb, hbb⟩ : ∃ b, cellOk x = b := ⟨_, rfl⟩
  have HB := Sec.mk hbb
  rw [hbb]
  clear hbb
  go_enter Tryd.func65, Tryd.ntmps65
  go_wp2_with (go_at_call 66; refine (cellOk_i x hx _).mono ?_; rw [HB.out]; rintro e w1 ⟨rfl, hb1⟩; have B1 := Sec.mk (bel (belA (Below.refl _ _) _) hb1); clear hb1)
  go_ret
  exact ⟨rfl, B1.out⟩
/-- Where the first place stands that is not ok; -1, if there is none. -/
def wrongAt (t : Term) (n : Int) : Prop := decide (0 ≤ n) = !t.all cellOk
theorem indexWrong_i (v : Value) (t : Term) (ok : Nat → Prop) (w : World) (hV : kCell.V w ok v t) :
    Calls Tryd.prog 84 #[v, .func (.func 65) #[] #[]] w fun e w' => ∃ n : Int, e = .returned (.int .i64 n) ∧ wrongAt t n ∧ Below w.heap.size w w' := by
  obtain ⟨A, c, rfl, h1, h2, h3, hC, hz⟩ := hV
  have HC := Sec.mk hC
  clear hC hz
  have hu := Tryd.underlying54
  go_enter Tryd.func84, Tryd.ntmps84
  go_wp2
  go_loopw [8] (fun iv wr => ∃ k : Nat, k ≤ t.length ∧ iv = .int .i64 k ∧ Sec ((t.take k).all cellOk = true) ∧ Sec (Below w.heap.size w wr)) (fun iv _ => t.length - (intOf iv).toNat)
  case atStart => exact ⟨0, Nat.zero_le _, rfl, ⟨rfl⟩, ⟨Below.refl _ _⟩⟩
  case round =>
    obtain ⟨k, hk, rfl, hT, hb⟩ := hrel
    by_cases hlt : k < t.length
    · obtain ⟨b, off, rfl, hob, c0, c1, c2, hnm⟩ := cell_at (Kd.C_below HC.out hb.out (by decide)) k hlt
      have hA := Sec.mk (take_all cellOk t k hlt)
      have hmem : Sec (t[k] ∈ t) := ⟨List.getElem_mem hlt⟩
      generalize t[k] = x at *
      obtain ⟨bb, hbb⟩ : ∃ b, cellOk x = b := ⟨_, rfl⟩
      have HB := Sec.mk hbb
      clear hbb
      cases bb with
      | true =>
        have hA' : Sec ((t.take (k + 1)).all cellOk = true) := ⟨by rw [hA.out, hT.out, HB.out]; rfl⟩
        go_wp2_with (go_at_call 65; refine (wrong_i x hnm _).mono ?_; rw [HB.out]; rintro e w1 ⟨rfl, hb1⟩; have B1 := Sec.mk (bel hb.out hb1); clear hb1)
        go_roundw
        case rel => exact ⟨k + 1, by omega, by go_num, hA', B1⟩
        case measure => simp [intOf]; omega
      | false =>
        have hF : Sec (wrongAt t k) := ⟨by
          have : t.all cellOk = false := by
            rw [← Bool.not_eq_true]; intro h
            have := List.all_eq_true.1 h x hmem.out
            rw [HB.out] at this; cases this
          unfold wrongAt; rw [this]; simp⟩
        go_wp2_with (go_at_call 65; refine (wrong_i x hnm _).mono ?_; rw [HB.out]; rintro e w1 ⟨rfl, hb1⟩; have B1 := Sec.mk (bel hb.out hb1); clear hb1)
        go_ret
        exact ⟨_, rfl, hF.out, B1.out⟩
    · have hF : Sec (wrongAt t (-1)) := ⟨by
        have : t.all cellOk = true := by have := hT.out; rwa [List.take_of_length_le (by omega)] at this
        unfold wrongAt; rw [this]; rfl⟩
      go_wp2
      go_ret
      exact ⟨_, rfl, hF.out, hb.out⟩
theorem containsWrong_i (v : Value) (t : Term) (ok : Nat → Prop) (w : World) (hV : kCell.V w ok v t) :
    Calls Tryd.prog 67 #[v, .func (.func 65) #[] #[]] w fun e w' => e = .returned (.bool (!t.all cellOk)) ∧ Below w.heap.size w w' := by
  have HV := Sec.mk hV
  obtain ⟨A, c, rfl, h1, h2, h3, hC, hz⟩ := hV
  clear hC hz
  generalize hall : t.all cellOk = al
  have HAL := Sec.mk hall
  clear hall
  go_enter Tryd.func67, Tryd.ntmps67
  go_wp2_with (go_at_call 84; refine (indexWrong_i _ t ok _ HV.out).mono ?_; rintro e w1 ⟨n, rfl, hw, hb⟩; have B1 := Sec.mk hb; have HW := Sec.mk hw; clear hb hw)
  go_ret
  exact ⟨rb (by have := HW.out; unfold wrongAt at this; rw [HAL.out] at this; exact this), B1.out⟩
theorem TrmOk_i (v : Value) (t : Term) (ok : Nat → Prop) (w : World) (hV : kCell.V w ok v t) :
    Calls Tryd.prog 36 #[v] w fun e w' => e = .returned (.bool (trmOk t)) ∧ Below w.heap.size w w' := by
  have HV := Sec.mk hV
  obtain ⟨A, c, rfl, h1, h2, h3, hC, hz⟩ := hV
  clear hC hz
  have hk : trmOk t = (inB (t.length : Int) 1 40 && t.all cellOk && decide (skip 1 t = some [])) := by
    unfold trmOk inB
    have e1 : decide ((1 : Int) ≤ (t.length : Int)) = decide (1 ≤ t.length) := decide_eq_decide.2 (by omega)
    have e2 : decide ((t.length : Int) ≤ 40) = decide (t.length ≤ 40) := decide_eq_decide.2 (by omega)
    rw [e1, e2]
  have HW := Sec.mk (sizeOf_whole t)
  obtain ⟨b1, hb1⟩ : ∃ b, inB (t.length : Int) 1 40 = b := ⟨_, rfl⟩
  obtain ⟨b2, hb2⟩ : ∃ b, t.all cellOk = b := ⟨_, rfl⟩
  have H1 := Sec.mk hb1
  have H2 := Sec.mk hb2
  rw [hb1, hb2] at hk
  have HK := Sec.mk hk
  clear hk hb1 hb2
  cases b1 with
  | false =>
    go_enter Tryd.func36, Tryd.ntmps36
    go_wp2_with (go_at_call 35; refine (in_c _ _ _ _).mono ?_; rw [H1.out]; rintro e w' ⟨rfl, rfl⟩)
    go_ret
    exact ⟨rb (by rw [HK.out]; rfl), Below.refl _ _⟩
  | true =>
    cases b2 with
    | false =>
      go_enter Tryd.func36, Tryd.ntmps36
      go_wp2_with (first | (go_at_call 35; refine (in_c _ _ _ _).mono ?_; rw [H1.out]; rintro e w' ⟨rfl, rfl⟩) | (go_at_call 67; refine (containsWrong_i _ t ok _ HV.out).mono ?_; rw [H2.out]; rintro e w1 ⟨rfl, hb⟩; have B1 := Sec.mk hb; clear hb))
      go_ret
      exact ⟨rb (by rw [HK.out]; rfl), B1.out⟩
    | true =>
      generalize hso : sizeOf_ t = so at *
      have HSO := Sec.mk hso
      clear hso
      have hfin : Sec ((so == (t.length : Int)) = trmOk t) := ⟨by rw [HK.out, HW.out]; rfl⟩
      go_enter Tryd.func36, Tryd.ntmps36
      go_wp2_with (first | (go_at_call 35; refine (in_c _ _ _ _).mono ?_; rw [H1.out]; rintro e w' ⟨rfl, rfl⟩) | (go_at_call 67; refine (containsWrong_i _ t ok _ HV.out).mono ?_; rw [H2.out]; rintro e w1 ⟨rfl, hb⟩; have B1 := Sec.mk hb; clear hb) | (go_at_call 68; refine (size_i _ t ok _ (Kd.V_below HV.out B1.out (by decide)) H2.out).mono ?_; rw [HSO.out]; rintro e w2 ⟨rfl, hb⟩; have B2 := Sec.mk (bel B1.out hb); clear hb))
      go_ret
      exact ⟨rb hfin.out, B2.out⟩
end Go.Proofs.YtenigopoknajgaaDoor
