/- Contracts: a text that is read as a term by the reference: there is always an answer; and what goes with it. -/
import Derived.Test.YtgiobpggonceeaaGreatDoorSn1
import Derived.Test.YtgiobpggonceeaaGreatDoorSn3
import Derived.Test.YtgiobpggonceeaaGreatDoorSn5
import Derived.BigQuiet
import Derived.Laws.DeepStrings4
import Derived.Deep.DeepCutAuto
import Derived.Deep.CutBlock
namespace Go.Proofs.YtgiobpggonceeaaGreatDoor
section
section
open Go.RowKit
set_option linter.unusedVariables false
set_option maxRecDepth 100000
theorem size1 (b : UInt8) (o : ByteArray) : (⟨#[b]⟩ ++ o : ByteArray).size = 1 + o.size := by rw [ByteArray.size_append]; rfl
theorem l1Plain_c (n0 : Nat) (hn0 : n0 ≤ 99999) (w : World) :
    Calls Tryz.prog 225 #[.int .i64 n0] w fun e w' => ∃ s : ByteArray, e = .returned (.string s) ∧ s.size ≤ 10 ∧ Below w.heap.size w w' := by
  have hp0 : Sec (n0 < 10 ^ 5) := ⟨by omega⟩
  go_enter Tryz.func225, Tryz.ntmps225
  go_wp2
  go_loopw [0, 3] (fun kv ov wr => ∃ (n : Nat) (o : ByteArray), kv = .int .i64 n ∧ ov = .string o ∧ n ≤ 99999 ∧ o.size ≤ 5 ∧ Sec (∃ j, n < 10 ^ j ∧ o.size + j ≤ 5) ∧ Sec (Below w.heap.size w wr)) (fun kv _ _ => (intOf kv).toNat)
  case atStart => exact ⟨n0, ⟨#[]⟩, rfl, rfl, hn0, by decide, ⟨5, hp0.out, by decide⟩, ⟨Below.refl _ _⟩⟩
  case round =>
    obtain ⟨n, o, rfl, rfl, hn, ho, hJ, hb⟩ := hrel
    by_cases hp : n ≤ 9
    · have hcv := dig_str n wr
      rw [show ((n : Int) % 10) = (n : Int) by omega] at hcv
      have hsz := Sec.mk (size1 (dig n) o)
      have hq : decide ((n : Int) > 9) = false := decide_eq_false (by omega)
      have hs2 : o.size ≤ 1073741824 := by omega
      go_wp2
      go_ret
      exact ⟨_, rfl, by rw [hsz.out]; omega, belA hb.out _⟩
    · have hcv := dig_str n wr
      have hsz := Sec.mk (size1 (dig n) o)
      have hJ2 : Sec ((∃ j, n / 10 < 10 ^ j ∧ (⟨#[dig n]⟩ ++ o : ByteArray).size + j ≤ 5) ∧ (⟨#[dig n]⟩ ++ o : ByteArray).size ≤ 5) := ⟨by
        obtain ⟨j, h1, h2⟩ := hJ.out
        obtain ⟨i, rfl, h3⟩ := pow10_step h1 (by omega)
        exact ⟨⟨i, h3, by rw [hsz.out]; omega⟩, by rw [hsz.out]; omega⟩⟩
      go_wp2
      go_roundw
      case rel => exact ⟨n / 10, ⟨#[dig n]⟩ ++ o, by go_num, rfl, by omega, hJ2.out.2, ⟨hJ2.out.1⟩, ⟨belA hb.out _⟩⟩
      case measure => simp [intOf]; omega
end
section
open Go.RowKit
set_option linter.unusedVariables false
theorem kInt_Os {w : World} : ∀ {xs : List Int} {S : Nat → Prop} {cs : List Value}, kInt.Os w S xs cs ↔ cs = xs.map (Value.int .i64)
  | [], S, cs => by simp [Kd.Os]
  | x :: xs, S, cs => by
    constructor
    · rintro ⟨S1, S2, c0, c1, rfl, _, _, ⟨rfl, _⟩, h2⟩
      rw [kInt_Os.1 h2]; rfl
    · rintro rfl
      exact ⟨fun _ => False, fun _ => False, [.int .i64 x], xs.map (Value.int .i64), rfl, fun _ h => h.elim, fun _ h => h.elim, ⟨rfl, trivial⟩, kInt_Os.2 rfl⟩
theorem kInt_store {w : World} {S : Nat → Prop} {b n cap : Nat} {t : List Int} (h : kInt.R w S (.slice (some ⟨b, 0, none⟩) n cap) t) (i : Nat) (x : Int) (hi : i < t.length) :
    kInt.R (w.setCell ⟨b, i, none⟩ (.int .i64 x)) S (.slice (some ⟨b, 0, none⟩) n cap) (t.set i x) := by
  obtain ⟨h0, h⟩ := h
  refine ⟨by rw [List.length_set]; exact h0, .inr ?_⟩
  rcases h with ⟨h, _⟩ | ⟨b', cap', cur, hv, hb, hS, h1, h2, h3, h4⟩
  · cases h
  · simp only [Value.slice.injEq, Option.some.injEq, Addr.mk.injEq, and_true] at hv
    obtain ⟨rfl, rfl, rfl⟩ := hv
    have hsz : kInt.sz = 1 := rfl
    rw [hsz, Nat.mul_one] at h3
    rw [hsz, Nat.mul_one] at h4
    have e := kInt_Os.1 h4
    refine ⟨b, cap, cur.setIfInBounds i (.int .i64 x), by rw [List.length_set], ?_, hS, by rw [List.length_set]; exact h1, h2, by rw [hsz, Nat.mul_one]; simp [h3], ?_⟩
    · simp only [World.setCell, Array.getElem?_modify, hb]; simp
    · refine kInt_Os.2 ?_
      rw [List.length_set, hsz, Nat.mul_one, Array.toList_setIfInBounds, List.take_set, e, List.map_set]
theorem kInt_cut {w : World} {S : Nat → Prop} {A : Option Addr} {n cap : Nat} {t : List Int} (h : kInt.R w S (.slice A n cap) t) (k : Nat) (hk : k ≤ t.length) : kInt.R w S (.slice A k cap) (t.take k) := by
  obtain ⟨h0, h⟩ := h
  have hl : (t.take k).length = k := by rw [List.length_take]; omega
  refine ⟨by omega, ?_⟩
  rcases h with ⟨h, rfl⟩ | ⟨b', cap', cur, hv, hb, hS, h1, h2, h3, h4⟩
  · left
    cases h
    simp at hk
    subst hk
    exact ⟨rfl, rfl⟩
  · right
    simp only [Value.slice.injEq] at hv
    obtain ⟨rfl, rfl, rfl⟩ := hv
    refine ⟨b', cap, cur, by rw [hl], hb, hS, by omega, h2, h3, ?_⟩
    have hsz : kInt.sz = 1 := rfl
    rw [hsz, Nat.mul_one] at h4 ⊢
    have e := kInt_Os.1 h4
    refine kInt_Os.2 ?_
    rw [hl, List.map_take, ← e, List.take_take]
    congr 1
    omega
/-- The last number of a row of one's own. -/
theorem kInt_last {w : World} {S : Nat → Prop} {A : Option Addr} {n cap : Nat} {t : List Int} (h : kInt.R w S (.slice A n cap) t) (hn : 0 < t.length) :
    ∃ b x, A = some ⟨b, 0, none⟩ ∧ n = t.length ∧ S b ∧ b < w.heap.size ∧ w.cell? ⟨b, t.length - 1, none⟩ = some (.int .i64 x) ∧ x ∈ t ∧ w.frozen? ⟨b, t.length - 1, none⟩ = false := by
  obtain ⟨b, rfl, rfl, hS, hb, hf⟩ := Kd.R_block h hn
  obtain ⟨A', c', e, _, _, _, hC, _⟩ := Kd.R_V h
  simp only [Value.slice.injEq] at e
  obtain ⟨rfl, _, _⟩ := e
  obtain ⟨b2, off, e2, _, hc⟩ := int_at hC (t.length - 1) (by omega)
  simp only [Option.some.injEq, Addr.mk.injEq, and_true] at e2
  obtain ⟨rfl, rfl⟩ := e2
  rw [Nat.zero_add] at hc
  exact ⟨b, _, rfl, rfl, hS, hb, hc, List.getElem_mem _, hf _⟩
end
section
open Go.RowKit
set_option linter.unusedVariables false
set_option maxRecDepth 100000
theorem cellOk_word {x : Cell} (h : cellOk x = true) : (x.kind = 1 ∧ 0 ≤ x.n ∧ x.n ≤ 99999) ∨ (x.kind = 2 ∧ -9999 ≤ x.n ∧ x.n ≤ 9999) ∨ (x.kind = 3 ∧ x.name.size ≤ 8) := by
  unfold cellOk at h
  by_cases h1 : x.kind = 1
  · rw [if_pos h1] at h; simp [inB] at h; exact .inl ⟨h1, h.1.1, h.1.2⟩
  · by_cases h2 : x.kind = 2
    · rw [if_neg h1, if_pos h2] at h; simp [inB] at h; exact .inr (.inl ⟨h2, h.1.1, h.1.2⟩)
    · by_cases h3 : x.kind = 3
      · rw [if_neg h1, if_neg h2, if_pos h3] at h; simp [nameOk] at h; exact .inr (.inr ⟨h3, h.2.1.1.2⟩)
      · rw [if_neg h1, if_neg h2, if_neg h3] at h; cases h
set_option maxHeartbeats 1000000 in
theorem l1Word_c (x : Cell) (hx : cellOk x = true) (w : World) :
    Calls Tryz.prog 251 #[x.agg] w fun e w' => ∃ s : ByteArray, e = .returned (.string s) ∧ s.size ≤ 11 ∧ Below w.heap.size w w' := by
  have hu := Tryz.underlying39
  have hw := cellOk_word hx
  obtain ⟨xk, xn, xs⟩ := x
  simp only at hw
  clear hx
  show Calls Tryz.prog 251 #[.agg #[.int .i64 xk, .int .i64 xn, .string xs]] w _
  have B0 := Sec.mk (belA (Below.refl w.heap.size w) (.cells #[.int .i64 xk, .int .i64 xn, .string xs] 39))
  rcases hw with ⟨rfl, h2, h3⟩ | ⟨rfl, h2, h3⟩ | ⟨rfl, h2⟩
  · obtain ⟨m, rfl⟩ : ∃ m : Nat, xn = (m : Int) := ⟨xn.toNat, by omega⟩
    have hm2 : m ≤ 99999 := by omega
    clear h2 h3
    go_enter Tryz.func251, Tryz.ntmps251
    go_wp2_with (go_at_call 225; refine (l1Plain_c m hm2 _).mono ?_; rintro e w1 ⟨s, rfl, hs, hb⟩; have B1 := Sec.mk (bel B0.out hb); have HS := Sec.mk hs; clear hb)
    go_ret
    exact ⟨_, rfl, by rw [size1]; have := HS.out; omega, B1.out⟩
  · by_cases h0 : xn < 0
    · obtain ⟨m, hm⟩ : ∃ m : Nat, -xn = (m : Int) := ⟨(-xn).toNat, by omega⟩
      have hw : IntKind.i64.wrap (-xn) = (m : Int) := by rw [← hm]; exact IntWalk.i64_in _ (by omega)
      have hm2 : m ≤ 99999 := by omega
      have q3 : decide (xn < 0) = true := decide_eq_true h0
      clear h2 h3 hm
      go_enter Tryz.func251, Tryz.ntmps251
      go_wp2_with (go_at_call 225; refine (l1Plain_c m hm2 _).mono ?_; rintro e w1 ⟨s, rfl, hs, hb⟩; have B1 := Sec.mk (bel B0.out hb); have HS := Sec.mk hs; clear hb)
      go_ret
      exact ⟨_, rfl, by rw [size1]; have := HS.out; omega, B1.out⟩
    · obtain ⟨m, rfl⟩ : ∃ m : Nat, xn = (m : Int) := ⟨xn.toNat, by omega⟩
      have q3 : decide ((m : Int) < 0) = false := decide_eq_false h0
      have hm2 : m ≤ 99999 := by omega
      clear h2 h3
      go_enter Tryz.func251, Tryz.ntmps251
      go_wp2_with (go_at_call 225; refine (l1Plain_c m hm2 _).mono ?_; rintro e w1 ⟨s, rfl, hs, hb⟩; have B1 := Sec.mk (bel B0.out hb); have HS := Sec.mk hs; clear hb)
      go_ret
      exact ⟨_, rfl, by have := HS.out; omega, B1.out⟩
  · go_enter Tryz.func251, Tryz.ntmps251
    go_wp2
    go_ret
    exact ⟨_, rfl, by omega, B0.out⟩
def lenV : Value → Nat | .slice _ n _ => n | _ => 0
set_option maxHeartbeats 4000000 in
theorem TrmText_c (v : Value) (t : Term) (ok : Nat → Prop) (w : World) (hV : kCell.V w ok v t) :
    Calls Tryz.prog 222 #[v] w fun e w' => ∃ s : ByteArray, e = .returned (.string s) ∧ s.size ≤ 1000 ∧ Below w.heap.size w w' := by
  have HT := Sec.mk (TrmOk_c v t ok w hV)
  obtain ⟨A, c, rfl, h1, h2, h3, hC, hz⟩ := hV
  have HC := Sec.mk hC
  clear hC hz
  cases ht : trmOk t with
  | false =>
    rw [ht] at HT
    clear ht
    go_enter Tryz.func222, Tryz.ntmps222
    go_wp2_with (go_at_call 12; refine HT.out.mono ?_; rintro e w1 ⟨rfl, hb⟩; have B1 := Sec.mk hb; clear hb)
    go_ret
    exact ⟨_, rfl, by decide, B1.out⟩
  | true =>
    rw [ht] at HT
    have hl40 : t.length ≤ 40 := by simp [trmOk] at ht; exact ht.1.1.2
    have HA : Sec (∀ x ∈ t, cellOk x = true) := ⟨by simp [trmOk] at ht; exact ht.1.2⟩
    have hu := Tryz.underlying39
    clear ht
    go_enter Tryz.func222, Tryz.ntmps222
    go_wp2_with (go_at_call 12; refine HT.out.mono ?_; rintro e w1 ⟨rfl, hb⟩; have B1 := Sec.mk hb; clear hb)
    have hz1 := B1.out.size
    go_loopw [3, 4, 5] (fun sv ov kv wr => ∃ (k : Nat) (s : ByteArray) (op : List Int), k ≤ t.length ∧ kv = .int .i64 k ∧ sv = .string s ∧ s.size + op.length ≤ 14 * k ∧ Sec (kInt.R wr (fun q => w.heap.size ≤ q) ov op) ∧ Sec (Below w.heap.size w wr)) (fun _ _ kv _ => t.length - (intOf kv).toNat)
    case atStart => exact ⟨0, ⟨#[]⟩, [], Nat.zero_le _, rfl, rfl, by decide, ⟨Kd.R_mono (Kd.R_empty kInt (w := w1) (W := w1) (Nat.le_refl _)) (fun q h _ => Nat.le_trans hz1 h)⟩, ⟨belA B1.out _⟩⟩
    case round =>
      obtain ⟨k, s, op, hk, rfl, rfl, hs, hR, hb⟩ := hrel
      by_cases hlt : k < t.length
      · obtain ⟨b, off, rfl, _, c0, c1, c2, hnm⟩ := cell_at (Kd.C_below HC.out hb.out (by decide)) k hlt
        have hxok := HA.out t[k] (List.getElem_mem hlt)
        generalize t[k] = x at *
        have HW := Sec.mk (l1Word_c x hxok wr)
        have i0 : (0 : Int) ≤ (k : Int) := by omega
        have i1 : (k : Int) < (t.length : Int) := by omega
        have hat : Sec (∀ W, Below wr.heap.size wr W → W.cell? ⟨b, off + k * 3, none⟩ = some (.int .i64 x.kind) ∧ W.cell? ⟨b, off + k * 3 + 1, none⟩ = some (.int .i64 x.n)) := ⟨fun W h => ⟨Raw.cell_below h c0, Raw.cell_below h c1⟩⟩
        have hsm : s.size ≤ 600 := by omega
        have T0 : Sec True := ⟨trivial⟩
        obtain ⟨bb, hbb⟩ : ∃ bb, (x.kind == 3) = bb := ⟨_, rfl⟩
        obtain ⟨b2, hb2⟩ : ∃ bb, decide (x.n > 0) = bb := ⟨_, rfl⟩
        obtain ⟨A9, c9, rfl, -⟩ := Kd.R_form hR.out
        cases hbq : (bb && b2) with
        | true =>
          have e1 : bb = true := by cases bb; cases hbq; rfl
          have e2 : b2 = true := by cases b2; (cases bb <;> cases hbq); rfl
          subst e1
          subst e2
          clear hbq
          have hLop : op.length + 1 ≤ 1073741824 := by omega
          go_wp2_with (first | (clear T0; go_at_call 251; refine HW.out.mono ?_; have T1 : Sec True := ⟨trivial⟩; rintro e w2 ⟨s2, rfl, hs2, hb2⟩; have B2 := Sec.mk (bel hb.out hb2); have HS2 := Sec.mk (ByteArray.size_append (a := s) (b := s2)); have hsz2 : (s ++ s2).size ≤ 700 := (by rw [ByteArray.size_append]; omega); have R2 := Sec.mk (Kd.R_below hR.out hb2); obtain ⟨k0, k1⟩ := hat.out _ hb2; clear hb2 c0 c1 c2) | (clear T1; at_builtin; refine Kd.R_app kInt (w0 := w) (wb := w2) rfl (.tmp 39) (.tmp 45) 103 (.int .i64 0) 8 rfl Tryz.underlying103 info_int rfl (by decide) (by decide) _ _ x.n [.int .i64 x.n] rfl rfl (by rfl) R2.out B2.out (Below.refl _ _) (int_O _ _ _) hLop ?_; intro v1 w3 hR3 hb3; have R3 := Sec.mk hR3; have B3 := Sec.mk hb3; clear hR3 hb3))
          go_roundw
          case rel => exact ⟨k + 1, _, _, by omega, by go_num, rfl, by rw [ByteArray.size_append, HS2.out]; simp; show s.size + s2.size + 1 + (op.length + 1) ≤ _; omega, R3, B3⟩
          case measure => simp [intOf]; omega
        | false =>
          cases bb <;> cases b2 <;> first | (cases hbq; done) | skip
          all_goals
            clear hbq
            go_wp2_with (clear T0; go_at_call 251; refine HW.out.mono ?_; have T1 : Sec True := ⟨trivial⟩; rintro e w2 ⟨s2, rfl, hs2, hb2⟩; have B2 := Sec.mk (bel hb.out hb2); have HS2 := Sec.mk (ByteArray.size_append (a := s) (b := s2)); have hsz2 : (s ++ s2).size ≤ 700 := (by rw [ByteArray.size_append]; omega); have R2 := Sec.mk (Kd.R_below hR.out hb2); obtain ⟨k0, k1⟩ := hat.out _ hb2; clear hb2 c0 c1 c2)
            go_loopw [3, 4] (fun sv ov ws => ∃ (s3 : ByteArray) (o : List Int), sv = .string s3 ∧ s3.size + o.length ≤ 14 * k + 12 ∧ Sec (kInt.R ws (fun q => w.heap.size ≤ q) ov o) ∧ Sec (Below w.heap.size w ws)) (fun _ ov _ => lenV ov)
            case atStart => exact ⟨_, op, rfl, by rw [HS2.out]; omega, R2, B2⟩
            case round =>
              obtain ⟨s3, o, rfl, hs3, hR3, hb3⟩ := hrel
              obtain ⟨b, off, hA5, _, k0, k1, _, _⟩ := cell_at (Kd.C_below HC.out hb3.out (by decide)) k hlt
              clear hA5 k0 k1
              obtain ⟨A8, c8, rfl, hc8, hc9⟩ := Kd.R_form hR3.out
              have hs4 : s3.size ≤ 700 := by omega
              rcases Nat.eq_zero_or_pos o.length with ho | hpos
              · obtain rfl := List.eq_nil_of_length_eq_zero ho
                clear ho
                go_wp2
                go_roundw
                case rel => exact ⟨k + 1, s3, [], by omega, by go_num, rfl, by simp at hs3; simp; omega, hR3, hb3⟩
                case measure => simp [intOf]; omega
              · obtain ⟨bb, x1, rfl, -, hSb, hbb, hcl, -, hfr⟩ := kInt_last hR3.out hpos
                obtain ⟨m, hm⟩ : ∃ m : Nat, o.length = m + 1 := ⟨o.length - 1, by omega⟩
                have HM := Sec.mk hm
                rw [hm, Nat.add_sub_cancel] at hcl hfr
                have e1 : ((o.length : Int) - 1) = (m : Int) := by omega
                have e2 : IntKind.i64.wrap (m : Int) = (m : Int) := IntWalk.i64_in _ (by omega)
                have j0 : (0 : Int) ≤ (m : Int) := by omega
                have j1 : (m : Int) < (o.length : Int) := by omega
                have j2 : (m : Int) ≤ (c8 : Int) := by omega
                have j3 : (0 : Int) < (o.length : Int) := by omega
                clear hm
                by_cases hx1 : x1 = 1
                · have q1 : (x1 == 1) = true := beq_iff_eq.2 hx1
                  have hsz5 := Sec.mk (ByteArray.size_append (a := s3) (b := ⟨#[41]⟩))
                  have Rc := Sec.mk (kInt_cut hR3.out m (by have := HM.out; omega))
                  clear hx1
                  go_wp2
                  go_roundw
                  case rel => exact ⟨_, o.take m, rfl, by rw [hsz5.out, List.length_take]; have := HM.out; show s3.size + 1 + min m o.length ≤ _; omega, Rc, hb3⟩
                  case measure => have := HM.out; simp [lenV]; omega
                · have q1 : (x1 == 1) = false := beq_eq_false_iff_ne.2 hx1
                  have hsz5 := Sec.mk (ByteArray.size_append (a := s3) (b := ⟨#[44]⟩))
                  have Rs := Sec.mk (fun u => kInt_store hR3.out m u (by have := HM.out; omega))
                  have Bs := Sec.mk (fun u => hb3.out.setCell (p := ⟨bb, m, none⟩) hSb u)
                  clear hx1
                  go_wp2
                  go_roundw
                  case rel => exact ⟨k + 1, _, _, by omega, by go_num, rfl, by rw [hsz5.out, List.length_set]; show s3.size + 1 + o.length ≤ _; omega, ⟨Rs.out _⟩, ⟨Bs.out _⟩⟩
                  case measure => simp [intOf]; omega
      · go_wp2
        go_ret
        exact ⟨_, rfl, by omega, hb.out⟩
end
section
open Go.RowKit
set_option linter.unusedVariables false
set_option maxRecDepth 100000
theorem l1Digits_c (s : ByteArray) (a : Nat) (ha : a ≤ s.size) (hs : s.size ≤ 1000000000) (w : World) :
    Calls Tryz.prog 249 #[.string s, .int .i64 a] w fun e w' => ∃ k : Nat, e = .returned (.int .i64 k) ∧ a ≤ k ∧ k ≤ s.size ∧ w = w' := by
  go_enter Tryz.func249, Tryz.ntmps249
  go_wp2
  go_loopw [5] (fun iv wr => ∃ k : Nat, a ≤ k ∧ k ≤ s.size ∧ iv = .int .i64 k ∧ Sec (w = wr)) (fun iv _ => s.size - (intOf iv).toNat)
  case atStart => exact ⟨a, Nat.le_refl _, ha, rfl, ⟨rfl⟩⟩
  case round =>
    obtain ⟨k, h1, h2, rfl, hw⟩ := hrel
    by_cases hlt : k < s.size
    · obtain ⟨q1, hq1⟩ : ∃ q, decide ((s[k].toNat : Int) ≥ 48) = q := ⟨_, rfl⟩
      obtain ⟨q2, hq2⟩ : ∃ q, decide ((s[k].toNat : Int) ≤ 57) = q := ⟨_, rfl⟩
      have i0 : (0 : Int) ≤ (k : Int) := by omega
      have i1 : (k : Int) < (s.size : Int) := by omega
      cases q1 <;> cases q2 <;> (
        go_wp2
        first
          | (go_ret; exact ⟨k, rfl, h1, h2, hw.out⟩)
          | (go_roundw
             case rel => exact ⟨k + 1, by omega, by omega, by go_num, hw⟩
             case measure => simp [intOf]; omega))
    · go_wp2
      go_ret
      exact ⟨k, rfl, h1, h2, hw.out⟩
theorem l1Num_c (s : ByteArray) (hs : s.size ≤ 1000000000) (w : World) :
    Calls Tryz.prog 250 #[.string s] w fun e w' => ∃ n : Int, e = .returned (.int .i64 n) ∧ w = w' := by
  by_cases h0 : s.size = 0
  · have q0 : ((s.size : Int) == 0) = true := by rw [h0]; rfl
    go_enter Tryz.func250, Tryz.ntmps250
    go_wp2
    go_ret
    exact ⟨_, rfl, rfl⟩
  · have q0 : ((s.size : Int) == 0) = false := beq_eq_false_iff_ne.2 (by omega)
    by_cases h5 : s.size > 5
    · have q5 : decide ((s.size : Int) > 5) = true := decide_eq_true (by omega)
      go_enter Tryz.func250, Tryz.ntmps250
      go_wp2
      go_ret
      exact ⟨_, rfl, rfl⟩
    · have q5 : decide ((s.size : Int) > 5) = false := decide_eq_false (by omega)
      go_enter Tryz.func250, Tryz.ntmps250
      go_wp2
      go_loopw [3, 4] (fun nv iv wr => ∃ (n : Int) (k : Nat), k ≤ s.size ∧ nv = .int .i64 n ∧ iv = .int .i64 k ∧ Sec (w = wr)) (fun _ iv _ => s.size - (intOf iv).toNat)
      case atStart => exact ⟨0, 0, by omega, rfl, rfl, ⟨rfl⟩⟩
      case round =>
        obtain ⟨n, k, h2, rfl, rfl, hw⟩ := hrel
        by_cases hlt : k < s.size
        · have i0 : (0 : Int) ≤ (k : Int) := by omega
          have i1 : (k : Int) < (s.size : Int) := by omega
          go_wp2
          go_roundw
          case rel => exact ⟨_, k + 1, by omega, rfl, by go_num, hw⟩
          case measure => simp [intOf]; omega
        · go_wp2
          go_ret
          exact ⟨_, rfl, hw.out⟩
theorem ext_le (s : ByteArray) (a k : Nat) (hs : s.size ≤ 1000000000) : (s.extract a k).size ≤ 1000000000 := by rw [ByteArray.size_extract]; omega
theorem ext_le' (s : ByteArray) (a k : Nat) : (s.extract a k).size ≤ s.size := by rw [ByteArray.size_extract]; omega
set_option maxHeartbeats 2000000 in
theorem l1Take_c (s : ByteArray) (a : Nat) (ha : a < s.size) (hs : s.size ≤ 1000000000) (w : World) :
    Calls Tryz.prog 221 #[.string s, .int .i64 a] w fun e w' => ∃ (x : Cell) (k : Nat), e = .returned (.tuple #[x.agg, .int .i64 k]) ∧ a ≤ k ∧ k ≤ s.size ∧ x.name.size ≤ s.size ∧ Below w.heap.size w w' := by
  have hu := Tryz.underlying39
  have hus := Tryz.underlying9
  have i0 : (0 : Int) ≤ (a : Int) := by omega
  have i1 : (a : Int) < (s.size : Int) := by omega
  have q0 : decide ((a : Int) ≥ (s.size : Int)) = false := decide_eq_false (by omega)
  have ha1 : a + 1 ≤ s.size := ha
  have hwr : IntKind.i64.wrap ((a : Int) + 1) = ((a + 1 : Nat) : Int) := by rw [show ((a : Int) + 1) = ((a + 1 : Nat) : Int) by omega]; exact IntWalk.i64_in _ (by omega)
  have T0 : Sec True := ⟨trivial⟩
  obtain ⟨q1, hq1⟩ : ∃ q, ((s[a].toNat : Int) == 88) = q := ⟨_, rfl⟩
  obtain ⟨q2, hq2⟩ : ∃ q, ((s[a].toNat : Int) == 45) = q := ⟨_, rfl⟩
  obtain ⟨q3, hq3⟩ : ∃ q, decide ((s[a].toNat : Int) ≥ 48) = q := ⟨_, rfl⟩
  obtain ⟨q4, hq4⟩ : ∃ q, decide ((s[a].toNat : Int) ≤ 57) = q := ⟨_, rfl⟩
  cases q1 with
  | true =>
    clear hq2 hq3 hq4
    go_enter Tryz.func221, Tryz.ntmps221
    go_wp2_with (first | (clear T1; go_at_call 250; refine (l1Num_c _ hx1 _).mono ?_; rintro e w2 ⟨n, rfl, rfl⟩) | (clear T0; go_at_call 249; have T1 : Sec True := ⟨trivial⟩; refine (l1Digits_c s (a + 1) ha1 hs _).mono ?_; rintro e w1 ⟨k, rfl, h1, h2, rfl⟩; have hx1 := ext_le s (a + 1) k hs; have i3 : ((a + 1 : Nat) : Int) ≤ (k : Int) := (by omega); have i4 : (k : Int) ≤ (s.size : Int) := (by omega)))
    exact bodyPost_ret (v := .tuple #[.agg #[.int .i64 1, .int .i64 n, .string ⟨#[]⟩], .int .i64 k]) (by simp [results, Tryz.results221, go_sem]) rfl ⟨⟨1, n, ⟨#[]⟩⟩, k, rfl, by omega, h2, Nat.zero_le _, belA (Below.refl _ _) _⟩
  | false =>
  cases q2 with
  | true =>
    clear hq3 hq4
    go_enter Tryz.func221, Tryz.ntmps221
    go_wp2_with (first | (clear T1; go_at_call 250; refine (l1Num_c _ hx1 _).mono ?_; rintro e w2 ⟨n, rfl, rfl⟩; obtain ⟨n2, hn2⟩ : ∃ z, IntKind.i64.wrap (-n) = z := ⟨_, rfl⟩) | (clear T0; go_at_call 249; have T1 : Sec True := ⟨trivial⟩; refine (l1Digits_c s (a + 1) ha1 hs _).mono ?_; rintro e w1 ⟨k, rfl, h1, h2, rfl⟩; have hx1 := ext_le s (a + 1) k hs; have i3 : ((a + 1 : Nat) : Int) ≤ (k : Int) := (by omega); have i4 : (k : Int) ≤ (s.size : Int) := (by omega)))
    exact bodyPost_ret (v := .tuple #[.agg #[.int .i64 2, .int .i64 n2, .string ⟨#[]⟩], .int .i64 k]) (by simp [results, Tryz.results221, go_sem]) rfl ⟨⟨2, n2, ⟨#[]⟩⟩, k, rfl, by omega, h2, Nat.zero_le _, belA (Below.refl _ _) _⟩
  | false =>
  cases q3 with
  | true =>
    cases q4 with
    | true =>
      go_enter Tryz.func221, Tryz.ntmps221
      go_wp2_with (first | (clear T1; go_at_call 250; refine (l1Num_c _ hx1 _).mono ?_; rintro e w2 ⟨n, rfl, rfl⟩) | (clear T0; go_at_call 249; have T1 : Sec True := ⟨trivial⟩; refine (l1Digits_c s a (by omega) hs _).mono ?_; rintro e w1 ⟨k, rfl, h1, h2, rfl⟩; have hx1 := ext_le s a k hs; have i3 : ((a : Nat) : Int) ≤ (k : Int) := (by omega); have i4 : (k : Int) ≤ (s.size : Int) := (by omega)))
      exact bodyPost_ret (v := .tuple #[.agg #[.int .i64 2, .int .i64 n, .string ⟨#[]⟩], .int .i64 k]) (by simp [results, Tryz.results221, go_sem]) rfl ⟨⟨2, n, ⟨#[]⟩⟩, k, rfl, by omega, h2, Nat.zero_le _, belA (Below.refl _ _) _⟩
    | false =>
      go_enter Tryz.func221, Tryz.ntmps221
      go_wp2
      go_loopw [10] (fun iv wr => ∃ k : Nat, a ≤ k ∧ k ≤ s.size ∧ iv = .int .i64 k ∧ Sec (wr = w.alloc (.cells #[.int .i64 0, .int .i64 0, .string ⟨#[]⟩] 39))) (fun iv _ => s.size - (intOf iv).toNat)
      case atStart => exact ⟨a, Nat.le_refl _, by omega, rfl, ⟨rfl⟩⟩
      case round =>
        obtain ⟨k, h1, h2, rfl, hw⟩ := hrel
        have hw' := hw.out
        subst hw'
        have i3 : (a : Int) ≤ (k : Int) := by omega
        have i4 : (k : Int) ≤ (s.size : Int) := by omega
        have hle := Sec.mk (ext_le' s a k)
        by_cases hlt : k < s.size
        · have i5 : (0 : Int) ≤ (k : Int) := by omega
          have i6 : (k : Int) < (s.size : Int) := by omega
          obtain ⟨p1, hp1⟩ : ∃ q, decide ((s[k].toNat : Int) ≥ 97) = q := ⟨_, rfl⟩
          obtain ⟨p2, hp2⟩ : ∃ q, decide ((s[k].toNat : Int) ≤ 122) = q := ⟨_, rfl⟩
          cases p1 <;> cases p2 <;> (
            go_wp2
            first
              | (exact bodyPost_ret (v := .tuple #[.agg #[.int .i64 3, .int .i64 0, .string (s.extract a k)], .int .i64 k]) (by simp [results, Tryz.results221, go_sem]) rfl ⟨⟨3, 0, s.extract a k⟩, k, rfl, h1, h2, hle.out, belA (Below.refl _ _) _⟩)
              | (go_roundw
                 case rel => exact ⟨k + 1, by omega, by omega, by go_num, ⟨by first | rfl | trivial⟩⟩
                 case measure => simp [intOf]; omega))
        · go_wp2
          exact bodyPost_ret (v := .tuple #[.agg #[.int .i64 3, .int .i64 0, .string (s.extract a k)], .int .i64 k]) (by simp [results, Tryz.results221, go_sem]) rfl ⟨⟨3, 0, s.extract a k⟩, k, rfl, h1, h2, hle.out, belA (Below.refl _ _) _⟩
  | false =>
    go_enter Tryz.func221, Tryz.ntmps221
    go_wp2
    go_loopw [10] (fun iv wr => ∃ k : Nat, a ≤ k ∧ k ≤ s.size ∧ iv = .int .i64 k ∧ Sec (wr = w.alloc (.cells #[.int .i64 0, .int .i64 0, .string ⟨#[]⟩] 39))) (fun iv _ => s.size - (intOf iv).toNat)
    case atStart => exact ⟨a, Nat.le_refl _, by omega, rfl, ⟨rfl⟩⟩
    case round =>
      obtain ⟨k, h1, h2, rfl, hw⟩ := hrel
      have hw' := hw.out
      subst hw'
      have i3 : (a : Int) ≤ (k : Int) := by omega
      have i4 : (k : Int) ≤ (s.size : Int) := by omega
      have hle := Sec.mk (ext_le' s a k)
      by_cases hlt : k < s.size
      · have i5 : (0 : Int) ≤ (k : Int) := by omega
        have i6 : (k : Int) < (s.size : Int) := by omega
        obtain ⟨p1, hp1⟩ : ∃ q, decide ((s[k].toNat : Int) ≥ 97) = q := ⟨_, rfl⟩
        obtain ⟨p2, hp2⟩ : ∃ q, decide ((s[k].toNat : Int) ≤ 122) = q := ⟨_, rfl⟩
        cases p1 <;> cases p2 <;> (
          go_wp2
          first
            | (exact bodyPost_ret (v := .tuple #[.agg #[.int .i64 3, .int .i64 0, .string (s.extract a k)], .int .i64 k]) (by simp [results, Tryz.results221, go_sem]) rfl ⟨⟨3, 0, s.extract a k⟩, k, rfl, h1, h2, hle.out, belA (Below.refl _ _) _⟩)
            | (go_roundw
               case rel => exact ⟨k + 1, by omega, by omega, by go_num, ⟨by first | rfl | trivial⟩⟩
               case measure => simp [intOf]; omega))
      · go_wp2
        exact bodyPost_ret (v := .tuple #[.agg #[.int .i64 3, .int .i64 0, .string (s.extract a k)], .int .i64 k]) (by simp [results, Tryz.results221, go_sem]) rfl ⟨⟨3, 0, s.extract a k⟩, k, rfl, h1, h2, hle.out, belA (Below.refl _ _) _⟩
end
section
open Go.RowKit
set_option linter.unusedVariables false
set_option maxRecDepth 100000
/-- Two rows of one's own, apart: places, and numbers that name some of them. -/
structure TR (w wr : World) (ov pv : Value) (out : Term) (op : List Int) : Prop where
  rows : ∃ So Sp : Nat → Prop, kCell.R wr So ov out ∧ kInt.R wr Sp pv op ∧ (∀ k, So k → ¬ Sp k) ∧ ∀ k, So k ∨ Sp k → w.heap.size ≤ k ∧ k < wr.heap.size
  nums : ∀ i ∈ op, 0 ≤ i ∧ i < out.length
  bel : Below w.heap.size w wr
/-- Where the two ways meet: the row of places (blocks So), the row of numbers (blocks Sp), the place that was read, in a box. -/
structure RJ (w wc : World) (So Sp : Nat → Prop) (ov pv : Value) (out : Term) (op : List Int) (bx : Nat) (x : Cell) : Prop where
  row : kCell.R wc So ov out
  num : kInt.R wc Sp pv op
  apart : ∀ q, So q → ¬ Sp q
  low : ∀ q, So q → w.heap.size ≤ q
  mine : ∀ q, Sp q → w.heap.size ≤ q ∧ q < wc.heap.size
  box : wc.heap[bx]? = some (.cells #[.int .i64 x.kind, .int .i64 x.n, .string x.name] 39 (0, 0))
  nbx : ¬ So bx
  bel : Below w.heap.size w wc
theorem emptyR {α : Type} (d : Kd α) (W : World) : d.R (W.alloc (.cells #[] d.ty)) (fun k => k = W.heap.size) (.slice (some ⟨W.heap.size, 0, none⟩) 0 0) [] :=
  ⟨by simp, .inr ⟨W.heap.size, 0, #[], rfl, heap_alloc_new W _, rfl, Nat.le_refl _, by simp [maxLen], by simp, by simp [Kd.Os]⟩⟩
theorem emptyR' {α : Type} (d : Kd α) (W : World) (n : Nat) (h : W.heap.size = n) : d.R (W.alloc (.cells #[] d.ty)) (fun k => k = n) (.slice (some ⟨n, 0, none⟩) 0 0) [] := by
  subst h; exact emptyR d W
theorem row_cells {w : World} {S : Nat → Prop} {b n c : Nat} {t : Term} (h : kCell.R w S (.slice (some ⟨b, 0, none⟩) n c) t) (j : Nat) (hj : j < t.length) :
    w.cell? ⟨b, j * 3, none⟩ = some (.int .i64 t[j].kind) ∧ w.cell? ⟨b, j * 3 + 1, none⟩ = some (.int .i64 t[j].n) ∧ w.cell? ⟨b, j * 3 + 2, none⟩ = some (.string t[j].name) ∧ (∀ q, w.frozen? ⟨b, q, none⟩ = false) ∧ S b := by
  obtain ⟨b1, e1, -, hS, hb, hf⟩ := Kd.R_block h (by omega)
  simp only [Option.some.injEq, Addr.mk.injEq, and_true] at e1
  subst e1
  obtain ⟨b2, off, e9, _, c0, c1, c2, hnm⟩ := cell_at (Kd.V_C (Kd.R_V h)) j hj
  simp only [Option.some.injEq, Addr.mk.injEq, and_true] at e9
  obtain ⟨rfl, rfl⟩ := e9
  rw [Nat.zero_add] at c0 c1 c2
  exact ⟨c0, c1, c2, hf, hS⟩
set_option maxHeartbeats 8000000 in
theorem TrmRead_c (s : ByteArray) (hs : s.size ≤ 1000000000) (w : World) :
    Calls Tryz.prog 174 #[.string s] w fun e w' => ∃ (u : Value) (t : Term) (b : Bool), e = .returned (.tuple #[u, .bool b]) ∧ t.length ≤ 41 ∧ kCell.R w' (fun k => w.heap.size ≤ k) u t ∧ Below w.heap.size w w' := by
  have hu := Tryz.underlying39
  have hus := Tryz.underlying9
  go_enter Tryz.func174, Tryz.ntmps174
  go_wp2
  go_loopw [4, 5, 6] (fun ov pv av wr => ∃ (a : Nat) (out : Term) (op : List Int), a ≤ s.size ∧ av = .int .i64 a ∧ out.length ≤ 40 ∧ op.length ≤ out.length ∧ Sec (TR w wr ov pv out op)) (fun _ _ av _ => s.size - (intOf av).toNat)
  case atStart => exact ⟨0, [], [], Nat.zero_le _, rfl, by simp, by simp, ⟨⟨fun q => q = w.heap.size, fun q => q = w.heap.size + 1, Kd.R_below (emptyR kCell w) (belA (Below.refl _ _) _), emptyR' kInt _ _ (by simp), fun q h1 h2 => by simp at h1 h2; omega, fun q h => by simp at h ⊢; omega⟩, fun i hi => by simp at hi, belA (belA (Below.refl _ _) _) _⟩⟩
  case round =>
    obtain ⟨a, out, op, ha, rfl, hlo, hlp, hT⟩ := hrel
    have T0 : Sec True := ⟨trivial⟩
    by_cases hlt : a < s.size
    · by_cases h40 : out.length < 40
      · obtain ⟨So, Sp, hRo, hRp, hap, hmi⟩ := hT.out.rows
        obtain ⟨Ao, co, rfl, hco, -⟩ := Kd.R_form hRo
        obtain ⟨Ap, cp, rfl, hcp, -⟩ := Kd.R_form hRp
        have RO := Sec.mk hRo
        have RP := Sec.mk hRp
        have AP := Sec.mk hap
        have MI := Sec.mk hmi
        have NU := Sec.mk hT.out.nums
        have BW := Sec.mk hT.out.bel
        clear hRo hRp hap hmi hT
        have q40 : decide ((out.length : Int) < 40) = true := decide_eq_true (by omega)
        have i0 : (0 : Int) ≤ (a : Int) := by omega
        have i1 : (a : Int) < (s.size : Int) := by omega
        go_wp2_with fail
        refine (l1Take_c s a hlt hs _).mono ?_
        rintro e w1 ⟨x, k, rfl, hk1, hk2, hxn, hb⟩
        have B1 := Sec.mk (bel BW.out hb)
        rcases Nat.eq_or_lt_of_le hk1 with hka | hka
        · subst hka
          go_wp2
          exact bodyPost_ret (v := .tuple #[.slice (some ⟨w1.heap.size + 1, 0, none⟩) 0 0, .bool false]) (by simp [results, Tryz.results174, go_sem]) rfl ⟨_, [], false, rfl, by simp, Kd.R_mono (emptyR' kCell _ (w1.heap.size + 1) (by simp)) (fun q h _ => by have := B1.out.size; have h1 : q = w1.heap.size + 1 := h; omega), belA (belA B1.out _) _⟩
        · have kgt : decide ((k : Int) ≤ (a : Int)) = false := decide_eq_false (by omega)
          have kgt2 : ¬ (k : Int) ≤ (a : Int) := by omega
          have WB := belA (Below.refl w1.heap.size w1) (.cells #[.int .i64 x.kind, .int .i64 x.n, .string x.name] 39)
          have J0 : Sec (RJ w (w1.alloc (.cells #[.int .i64 x.kind, .int .i64 x.n, .string x.name] 39)) So Sp (.slice Ao out.length co) (.slice Ap op.length cp) out op w1.heap.size x) := ⟨⟨Kd.R_below (Kd.R_below RO.out hb) WB, Kd.R_below (Kd.R_below RP.out hb) WB, AP.out, fun q h => (MI.out q (.inl h)).1, fun q h => ⟨(MI.out q (.inr h)).1, Nat.lt_of_lt_of_le (MI.out q (.inr h)).2 (Nat.le_trans hb.size WB.size)⟩, heap_alloc_new w1 _, fun h => by have := (MI.out _ (.inl h)).2; have := hb.size; omega, belA B1.out _⟩⟩
          have ML : Sec (∀ q, So q → q < (w1.alloc (.cells #[.int .i64 x.kind, .int .i64 x.n, .string x.name] 39)).heap.size) := ⟨fun q h => Nat.lt_of_lt_of_le (MI.out q (.inl h)).2 (Nat.le_trans hb.size WB.size)⟩
          clear hb WB
          go_upto_if 32 with (fail)
          generalize w1.alloc (.cells #[.int .i64 x.kind, .int .i64 x.n, .string x.name] 39) = wr at *
          generalize w1.heap.size = bx at *
          go_cut [] (fun wc => ∃ (So2 : Nat → Prop) (out2 : Term), out2.length = out.length ∧ Sec (RJ w wc So2 Sp (.slice Ao out.length co) (.slice Ap op.length cp) out2 op bx x))
          case first =>
            rcases Nat.eq_zero_or_pos op.length with ho | hpos
            · have g1 : ¬ ((0 : Int) < (op.length : Int)) := by omega
              have g0 : decide ((op.length : Int) > 0) = false := decide_eq_false (by omega)
              clear ho
              go_wp2
              go_meet
              case rel => exact ⟨So, out, rfl, J0⟩
            · obtain ⟨bp, i, rfl, -, hSb, hbp, hcl, hmem, hfr⟩ := kInt_last J0.out.num hpos
              obtain ⟨hi0, hi1⟩ := NU.out i hmem
              obtain ⟨j, rfl⟩ : ∃ j : Nat, i = (j : Int) := ⟨i.toNat, by omega⟩
              have hj : j < out.length := by omega
              obtain ⟨m, hm⟩ : ∃ m : Nat, op.length = m + 1 := ⟨op.length - 1, by omega⟩
              rw [hm, Nat.add_sub_cancel] at hcl hfr
              have e1 : ((op.length : Int) - 1) = (m : Int) := by omega
              have e2 : IntKind.i64.wrap (m : Int) = (m : Int) := IntWalk.i64_in _ (by omega)
              have j0 : (0 : Int) ≤ (m : Int) := by omega
              have j1 : (m : Int) < (op.length : Int) := by omega
              have j2 : (m : Int) ≤ (cp : Int) := by omega
              have j3 : (0 : Int) < (op.length : Int) := by omega
              have g3 : decide ((op.length : Int) > 0) = true := decide_eq_true (by omega)
              have j4 : (0 : Int) ≤ (j : Int) := by omega
              have j5 : (j : Int) < (out.length : Int) := by omega
              obtain ⟨bo, rfl, -, hSo, hbo, -⟩ := Kd.R_block J0.out.row (by omega)
              have hnm : out[j].name.size ≤ 1073741824 := by
                obtain ⟨_, _, _, _, _, _, _, hnm⟩ := cell_at (Kd.V_C (Kd.R_V J0.out.row)) j hj
                exact hnm
              have nBP : Sec (¬ So bp) := ⟨fun h => AP.out bp h hSb⟩
              have KD := Sec.mk hcl
              have RO1 := Sec.mk J0.out.row
              have MI1 : Sec (∀ q, So q → q < wr.heap.size) := ML
              obtain ⟨z, hz⟩ : ∃ z, IntKind.i64.wrap (out[j].n + 1) = z := ⟨_, rfl⟩
              have HZ := Sec.mk hz
              clear hm hi0 hi1 hmem hz hcl hfr
              go_wp2
              refine wp_region_lists [[33], [34], [35], [36], [37], [38], [39], [40], [41], [42], [43], [44], [45], [46], [47], [48], [49], [50], [51], [52], [], []]
                [fun val _ _ => val 33 = .slice (some ⟨bo, 0, none⟩) out.length co,
                  fun val _ _ => val 34 = .slice (some ⟨bp, 0, none⟩) op.length cp,
                  fun val _ _ => val 35 = .slice (some ⟨bp, 0, none⟩) op.length cp,
                  fun val _ _ => val 36 = .int .i64 op.length,
                  fun val _ _ => val 37 = .int .i64 m,
                  fun val _ _ => val 38 = .pointer (some ⟨bp, m, none⟩),
                  fun val _ _ => val 39 = .int .i64 j,
                  fun val _ _ => val 40 = .slice (some ⟨bo, 0, none⟩) out.length co,
                  fun val _ _ => val 41 = .slice (some ⟨bp, 0, none⟩) op.length cp,
                  fun val _ _ => val 42 = .slice (some ⟨bp, 0, none⟩) op.length cp,
                  fun val _ _ => val 43 = .int .i64 op.length,
                  fun val _ _ => val 44 = .int .i64 m,
                  fun val _ _ => val 45 = .pointer (some ⟨bp, m, none⟩),
                  fun val _ _ => val 46 = .int .i64 j,
                  fun val _ _ => val 47 = .pointer (some ⟨bo, j * 3, none⟩),
                  fun val _ _ => val 48 = .pointer (some ⟨bo, j * 3 + 1, none⟩),
                  fun val _ _ => val 49 = .int .i64 out[j].n,
                  fun val _ _ => val 50 = .int .i64 z,
                  fun val _ _ => val 51 = .pointer (some ⟨bo, j * 3, none⟩),
                  fun val _ _ => val 52 = .pointer (some ⟨bo, j * 3 + 1, none⟩),
                  onRc kCell (.slice (some ⟨bo, 0, none⟩) out.length co) (out.set j ⟨out[j].kind, z, out[j].name⟩),
                  onRc kCell (.slice (some ⟨bo, 0, none⟩) out.length co) out]
                [[], [], [], [], [], [], [], [], [], [], [], [], [], [], [], [], [], [], [], [], [21], []] 1 So (fun i k => i = 21 ∧ So k) (by kernel_rfl) ⟨by kernel_rfl, by kernel_rfl, by kernel_rfl, by kernel_rfl, by kernel_rfl⟩
                (.cons (stab_val 33 (fun v => v = .slice (some ⟨bo, 0, none⟩) out.length co)) (.cons (stab_val 34 (fun v => v = .slice (some ⟨bp, 0, none⟩) op.length cp)) (.cons (stab_val 35 (fun v => v = .slice (some ⟨bp, 0, none⟩) op.length cp)) (.cons (stab_val 36 (fun v => v = .int .i64 op.length)) (.cons (stab_val 37 (fun v => v = .int .i64 m)) (.cons (stab_val 38 (fun v => v = .pointer (some ⟨bp, m, none⟩))) (.cons (stab_val 39 (fun v => v = .int .i64 j)) (.cons (stab_val 40 (fun v => v = .slice (some ⟨bo, 0, none⟩) out.length co)) (.cons (stab_val 41 (fun v => v = .slice (some ⟨bp, 0, none⟩) op.length cp)) (.cons (stab_val 42 (fun v => v = .slice (some ⟨bp, 0, none⟩) op.length cp)) (.cons (stab_val 43 (fun v => v = .int .i64 op.length)) (.cons (stab_val 44 (fun v => v = .int .i64 m)) (.cons (stab_val 45 (fun v => v = .pointer (some ⟨bp, m, none⟩))) (.cons (stab_val 46 (fun v => v = .int .i64 j)) (.cons (stab_val 47 (fun v => v = .pointer (some ⟨bo, j * 3, none⟩))) (.cons (stab_val 48 (fun v => v = .pointer (some ⟨bo, j * 3 + 1, none⟩))) (.cons (stab_val 49 (fun v => v = .int .i64 out[j].n)) (.cons (stab_val 50 (fun v => v = .int .i64 z)) (.cons (stab_val 51 (fun v => v = .pointer (some ⟨bo, j * 3, none⟩))) (.cons (stab_val 52 (fun v => v = .pointer (some ⟨bo, j * 3 + 1, none⟩))) (.cons (stab_Rc kCell (.slice (some ⟨bo, 0, none⟩) out.length co) (out.set j ⟨out[j].kind, z, out[j].name⟩)) (.cons (stab_Rc kCell (.slice (some ⟨bo, 0, none⟩) out.length co) out) .nil))))))))))))))))))))))
                (fun i j k h1 h2 => h1.1.trans h2.1.symm) (fun i k h => ⟨by rw [h.1]; decide, h.2, MI1.out k h.2⟩) (fun i h1 h2 => by (obtain rfl : i = 21 := (by simp at h1 h2; omega)); exact Kd.R_mono (Kd.R_below RO1.out (belD (Below.refl _ _))) (fun q h _ => ⟨rfl, h⟩)) (.cons ?_ (.cons ?_ (.cons ?_ (.cons ?_ (.cons ?_ (.cons ?_ (.cons ?_ (.cons ?_ (.cons ?_ (.cons ?_ (.cons ?_ (.cons ?_ (.cons ?_ (.cons ?_ (.cons ?_ (.cons ?_ (.cons ?_ (.cons ?_ (.cons ?_ (.cons ?_ (.cons ?_ .nil))))))))))))))))))))) ?_
              · intro a W own hfor huse hap hmi hF K hK
                have e4 : a.eval (.tmp 4) = .slice (some ⟨bo, 0, none⟩) out.length co := hfor 4 (by kernel_rfl)
                refine op_val (.slice (some ⟨bo, 0, none⟩) out.length co) W rfl ?_ (hK _ _ (post_pure ?_))
                · clear hfor huse hap hmi hK hF
                  generalize a.eval = ρ at *
                  go_simp
                · exact (if_pos rfl)
              · intro a W own hfor huse hap hmi hF K hK
                have e5 : a.eval (.tmp 5) = .slice (some ⟨bp, 0, none⟩) op.length cp := hfor 5 (by kernel_rfl)
                refine op_val (.slice (some ⟨bp, 0, none⟩) op.length cp) W rfl ?_ (hK _ _ (post_pure ?_))
                · clear hfor huse hap hmi hK hF
                  generalize a.eval = ρ at *
                  go_simp
                · exact (if_pos rfl)
              · intro a W own hfor huse hap hmi hF K hK
                have e5 : a.eval (.tmp 5) = .slice (some ⟨bp, 0, none⟩) op.length cp := hfor 5 (by kernel_rfl)
                refine op_val (.slice (some ⟨bp, 0, none⟩) op.length cp) W rfl ?_ (hK _ _ (post_pure ?_))
                · clear hfor huse hap hmi hK hF
                  generalize a.eval = ρ at *
                  go_simp
                · exact (if_pos rfl)
              · intro a W own hfor huse hap hmi hF K hK
                have e35 : a.eval (.tmp 35) = .slice (some ⟨bp, 0, none⟩) op.length cp := huse 2 (by kernel_rfl)
                refine op_val (.int .i64 op.length) W rfl ?_ (hK _ _ (post_pure ?_))
                · clear hfor huse hap hmi hK hF
                  generalize a.eval = ρ at *
                  go_simp
                · exact (if_pos rfl)
              · intro a W own hfor huse hap hmi hF K hK
                have e36 : a.eval (.tmp 36) = .int .i64 op.length := huse 3 (by kernel_rfl)
                have ec : a.eval (.const (.int .i64 1)) = .int .i64 1 := rfl
                refine op_val (.int .i64 m) W rfl ?_ (hK _ _ (post_pure ?_))
                · clear hfor huse hap hmi hK hF
                  generalize a.eval = ρ at *
                  go_simp
                · exact (if_pos rfl)
              · intro a W own hfor huse hap hmi hF K hK
                have e34 : a.eval (.tmp 34) = .slice (some ⟨bp, 0, none⟩) op.length cp := huse 1 (by kernel_rfl)
                have e37 : a.eval (.tmp 37) = .int .i64 m := huse 4 (by kernel_rfl)
                refine op_val (.pointer (some ⟨bp, m, none⟩)) W rfl ?_ (hK _ _ (post_pure ?_))
                · clear hfor huse hap hmi hK hF
                  generalize a.eval = ρ at *
                  go_simp
                · exact (if_pos rfl)
              · intro a W own hfor huse hap hmi hF K hK
                have e38 : a.eval (.tmp 38) = .pointer (some ⟨bp, m, none⟩) := huse 5 (by kernel_rfl)
                have y1 := foot_cell hF nBP.out KD.out
                refine op_val (.int .i64 j) W rfl ?_ (hK _ _ (post_pure ?_))
                · clear hfor huse hap hmi hK hF
                  generalize a.eval = ρ at *
                  go_simp
                · exact (if_pos rfl)
              · intro a W own hfor huse hap hmi hF K hK
                have e4 : a.eval (.tmp 4) = .slice (some ⟨bo, 0, none⟩) out.length co := hfor 4 (by kernel_rfl)
                refine op_val (.slice (some ⟨bo, 0, none⟩) out.length co) W rfl ?_ (hK _ _ (post_pure ?_))
                · clear hfor huse hap hmi hK hF
                  generalize a.eval = ρ at *
                  go_simp
                · exact (if_pos rfl)
              · intro a W own hfor huse hap hmi hF K hK
                have e5 : a.eval (.tmp 5) = .slice (some ⟨bp, 0, none⟩) op.length cp := hfor 5 (by kernel_rfl)
                refine op_val (.slice (some ⟨bp, 0, none⟩) op.length cp) W rfl ?_ (hK _ _ (post_pure ?_))
                · clear hfor huse hap hmi hK hF
                  generalize a.eval = ρ at *
                  go_simp
                · exact (if_pos rfl)
              · intro a W own hfor huse hap hmi hF K hK
                have e5 : a.eval (.tmp 5) = .slice (some ⟨bp, 0, none⟩) op.length cp := hfor 5 (by kernel_rfl)
                refine op_val (.slice (some ⟨bp, 0, none⟩) op.length cp) W rfl ?_ (hK _ _ (post_pure ?_))
                · clear hfor huse hap hmi hK hF
                  generalize a.eval = ρ at *
                  go_simp
                · exact (if_pos rfl)
              · intro a W own hfor huse hap hmi hF K hK
                have e42 : a.eval (.tmp 42) = .slice (some ⟨bp, 0, none⟩) op.length cp := huse 9 (by kernel_rfl)
                refine op_val (.int .i64 op.length) W rfl ?_ (hK _ _ (post_pure ?_))
                · clear hfor huse hap hmi hK hF
                  generalize a.eval = ρ at *
                  go_simp
                · exact (if_pos rfl)
              · intro a W own hfor huse hap hmi hF K hK
                have e43 : a.eval (.tmp 43) = .int .i64 op.length := huse 10 (by kernel_rfl)
                have ec : a.eval (.const (.int .i64 1)) = .int .i64 1 := rfl
                refine op_val (.int .i64 m) W rfl ?_ (hK _ _ (post_pure ?_))
                · clear hfor huse hap hmi hK hF
                  generalize a.eval = ρ at *
                  go_simp
                · exact (if_pos rfl)
              · intro a W own hfor huse hap hmi hF K hK
                have e41 : a.eval (.tmp 41) = .slice (some ⟨bp, 0, none⟩) op.length cp := huse 8 (by kernel_rfl)
                have e44 : a.eval (.tmp 44) = .int .i64 m := huse 11 (by kernel_rfl)
                refine op_val (.pointer (some ⟨bp, m, none⟩)) W rfl ?_ (hK _ _ (post_pure ?_))
                · clear hfor huse hap hmi hK hF
                  generalize a.eval = ρ at *
                  go_simp
                · exact (if_pos rfl)
              · intro a W own hfor huse hap hmi hF K hK
                have e45 : a.eval (.tmp 45) = .pointer (some ⟨bp, m, none⟩) := huse 12 (by kernel_rfl)
                have y1 := foot_cell hF nBP.out KD.out
                refine op_val (.int .i64 j) W rfl ?_ (hK _ _ (post_pure ?_))
                · clear hfor huse hap hmi hK hF
                  generalize a.eval = ρ at *
                  go_simp
                · exact (if_pos rfl)
              · intro a W own hfor huse hap hmi hF K hK
                have e40 : a.eval (.tmp 40) = .slice (some ⟨bo, 0, none⟩) out.length co := huse 7 (by kernel_rfl)
                have e46 : a.eval (.tmp 46) = .int .i64 j := huse 13 (by kernel_rfl)
                refine op_val (.pointer (some ⟨bo, j * 3, none⟩)) W rfl ?_ (hK _ _ (post_pure ?_))
                · clear hfor huse hap hmi hK hF
                  generalize a.eval = ρ at *
                  go_simp
                · exact (if_pos rfl)
              · intro a W own hfor huse hap hmi hF K hK
                have e47 : a.eval (.tmp 47) = .pointer (some ⟨bo, j * 3, none⟩) := huse 14 (by kernel_rfl)
                refine op_val (.pointer (some ⟨bo, j * 3 + 1, none⟩)) W rfl ?_ (hK _ _ (post_pure ?_))
                · clear hfor huse hap hmi hK hF
                  generalize a.eval = ρ at *
                  go_simp
                · exact (if_pos rfl)
              · intro a W own hfor huse hap hmi hF K hK
                have e48 : a.eval (.tmp 48) = .pointer (some ⟨bo, j * 3 + 1, none⟩) := huse 15 (by kernel_rfl)
                have r21 := (huse 21 (by kernel_rfl) : onRc kCell (.slice (some ⟨bo, 0, none⟩) out.length co) out (slotsOf a) (own 21) W)
                have r21 : kCell.R W (own 21) (.slice (some ⟨bo, 0, none⟩) out.length co) out := r21
                obtain ⟨c0, c1, c2, fz, hS21⟩ := row_cells r21 j hj
                refine op_val (.int .i64 out[j].n) W rfl ?_ (hK _ _ (post_pure ?_))
                · clear hfor huse hap hmi hK hF
                  generalize a.eval = ρ at *
                  go_simp
                · exact (if_pos rfl)
              · intro a W own hfor huse hap hmi hF K hK
                have e49 : a.eval (.tmp 49) = .int .i64 out[j].n := huse 16 (by kernel_rfl)
                have hz2 := HZ.out
                have ec : a.eval (.const (.int .i64 1)) = .int .i64 1 := rfl
                refine op_val (.int .i64 z) W rfl ?_ (hK _ _ (post_pure ?_))
                · clear hfor huse hap hmi hK hF
                  generalize a.eval = ρ at *
                  go_simp
                · exact (if_pos rfl)
              · intro a W own hfor huse hap hmi hF K hK
                have e33 : a.eval (.tmp 33) = .slice (some ⟨bo, 0, none⟩) out.length co := huse 0 (by kernel_rfl)
                have e39 : a.eval (.tmp 39) = .int .i64 j := huse 6 (by kernel_rfl)
                refine op_val (.pointer (some ⟨bo, j * 3, none⟩)) W rfl ?_ (hK _ _ (post_pure ?_))
                · clear hfor huse hap hmi hK hF
                  generalize a.eval = ρ at *
                  go_simp
                · exact (if_pos rfl)
              · intro a W own hfor huse hap hmi hF K hK
                have e51 : a.eval (.tmp 51) = .pointer (some ⟨bo, j * 3, none⟩) := huse 18 (by kernel_rfl)
                refine op_val (.pointer (some ⟨bo, j * 3 + 1, none⟩)) W rfl ?_ (hK _ _ (post_pure ?_))
                · clear hfor huse hap hmi hK hF
                  generalize a.eval = ρ at *
                  go_simp
                · exact (if_pos rfl)
              · intro a W own hfor huse hap hmi hF K hK
                have e50 : a.eval (.tmp 50) = .int .i64 z := huse 17 (by kernel_rfl)
                have e52 : a.eval (.tmp 52) = .pointer (some ⟨bo, j * 3 + 1, none⟩) := huse 19 (by kernel_rfl)
                have r21 := (huse 21 (by kernel_rfl) : onRc kCell (.slice (some ⟨bo, 0, none⟩) out.length co) out (slotsOf a) (own 21) W)
                have r21 : kCell.R W (own 21) (.slice (some ⟨bo, 0, none⟩) out.length co) out := r21
                obtain ⟨c0, c1, c2, fz, hS21⟩ := row_cells r21 j hj
                refine op_skip (W.setCell ⟨bo, j * 3 + 1, none⟩ (.int .i64 z)) rfl ?_ (hK _ _ ⟨fun k => own 21 k, Foot.mono (Foot.set (Foot.refl (fun k => k = bo) W) (.inl rfl) _ _) (fun k e => ⟨21, by decide, e ▸ hS21⟩), ?_, fun k h => .inl ⟨21, by decide, h⟩⟩)
                · clear hfor huse hap hmi hK hF r21
                  generalize a.eval = ρ at *
                  go_simp
                · exact kCell_store r21 j 1 ⟨out[j].kind, z, out[j].name⟩ (.int .i64 z) hj (by decide) rfl hnm
              intro a' W own hf
              have hsz := hf.st.size
              have hdf := hf.st.rest
              obtain ⟨⟨l⟩, df⟩ := a'
              have hl0 : l.length = 125 := hsz
              clear hsz
              obtain rfl : df = [] := hdf
              obtain ⟨x0, l0, rfl, hl1⟩ := lst_cons hl0
              clear hl0
              obtain ⟨x1, l1, rfl, hl2⟩ := lst_cons hl1
              clear hl1
              obtain ⟨x2, l2, rfl, hl3⟩ := lst_cons hl2
              clear hl2
              obtain ⟨x3, l3, rfl, hl4⟩ := lst_cons hl3
              clear hl3
              obtain ⟨x4, l4, rfl, hl5⟩ := lst_cons hl4
              clear hl4
              obtain ⟨x5, l5, rfl, hl6⟩ := lst_cons hl5
              clear hl5
              obtain ⟨x6, l6, rfl, hl7⟩ := lst_cons hl6
              clear hl6
              obtain ⟨x7, l7, rfl, hl8⟩ := lst_cons hl7
              clear hl7
              obtain ⟨x8, l8, rfl, hl9⟩ := lst_cons hl8
              clear hl8
              obtain ⟨x9, l9, rfl, hl10⟩ := lst_cons hl9
              clear hl9
              obtain ⟨x10, l10, rfl, hl11⟩ := lst_cons hl10
              clear hl10
              obtain ⟨x11, l11, rfl, hl12⟩ := lst_cons hl11
              clear hl11
              obtain ⟨x12, l12, rfl, hl13⟩ := lst_cons hl12
              clear hl12
              obtain ⟨x13, l13, rfl, hl14⟩ := lst_cons hl13
              clear hl13
              obtain ⟨x14, l14, rfl, hl15⟩ := lst_cons hl14
              clear hl14
              obtain ⟨x15, l15, rfl, hl16⟩ := lst_cons hl15
              clear hl15
              obtain ⟨x16, l16, rfl, hl17⟩ := lst_cons hl16
              clear hl16
              obtain ⟨x17, l17, rfl, hl18⟩ := lst_cons hl17
              clear hl17
              obtain ⟨x18, l18, rfl, hl19⟩ := lst_cons hl18
              clear hl18
              obtain ⟨x19, l19, rfl, hl20⟩ := lst_cons hl19
              clear hl19
              obtain ⟨x20, l20, rfl, hl21⟩ := lst_cons hl20
              clear hl20
              obtain ⟨x21, l21, rfl, hl22⟩ := lst_cons hl21
              clear hl21
              obtain ⟨x22, l22, rfl, hl23⟩ := lst_cons hl22
              clear hl22
              obtain ⟨x23, l23, rfl, hl24⟩ := lst_cons hl23
              clear hl23
              obtain ⟨x24, l24, rfl, hl25⟩ := lst_cons hl24
              clear hl24
              obtain ⟨x25, l25, rfl, hl26⟩ := lst_cons hl25
              clear hl25
              obtain ⟨x26, l26, rfl, hl27⟩ := lst_cons hl26
              clear hl26
              obtain ⟨x27, l27, rfl, hl28⟩ := lst_cons hl27
              clear hl27
              obtain ⟨x28, l28, rfl, hl29⟩ := lst_cons hl28
              clear hl28
              obtain ⟨x29, l29, rfl, hl30⟩ := lst_cons hl29
              clear hl29
              obtain ⟨x30, l30, rfl, hl31⟩ := lst_cons hl30
              clear hl30
              obtain ⟨x31, l31, rfl, hl32⟩ := lst_cons hl31
              clear hl31
              obtain ⟨x32, l32, rfl, hl33⟩ := lst_cons hl32
              clear hl32
              obtain ⟨x33, l33, rfl, hl34⟩ := lst_cons hl33
              clear hl33
              obtain ⟨x34, l34, rfl, hl35⟩ := lst_cons hl34
              clear hl34
              obtain ⟨x35, l35, rfl, hl36⟩ := lst_cons hl35
              clear hl35
              obtain ⟨x36, l36, rfl, hl37⟩ := lst_cons hl36
              clear hl36
              obtain ⟨x37, l37, rfl, hl38⟩ := lst_cons hl37
              clear hl37
              obtain ⟨x38, l38, rfl, hl39⟩ := lst_cons hl38
              clear hl38
              obtain ⟨x39, l39, rfl, hl40⟩ := lst_cons hl39
              clear hl39
              obtain ⟨x40, l40, rfl, hl41⟩ := lst_cons hl40
              clear hl40
              obtain ⟨x41, l41, rfl, hl42⟩ := lst_cons hl41
              clear hl41
              obtain ⟨x42, l42, rfl, hl43⟩ := lst_cons hl42
              clear hl42
              obtain ⟨x43, l43, rfl, hl44⟩ := lst_cons hl43
              clear hl43
              obtain ⟨x44, l44, rfl, hl45⟩ := lst_cons hl44
              clear hl44
              obtain ⟨x45, l45, rfl, hl46⟩ := lst_cons hl45
              clear hl45
              obtain ⟨x46, l46, rfl, hl47⟩ := lst_cons hl46
              clear hl46
              obtain ⟨x47, l47, rfl, hl48⟩ := lst_cons hl47
              clear hl47
              obtain ⟨x48, l48, rfl, hl49⟩ := lst_cons hl48
              clear hl48
              obtain ⟨x49, l49, rfl, hl50⟩ := lst_cons hl49
              clear hl49
              obtain ⟨x50, l50, rfl, hl51⟩ := lst_cons hl50
              clear hl50
              obtain ⟨x51, l51, rfl, hl52⟩ := lst_cons hl51
              clear hl51
              obtain ⟨x52, l52, rfl, hl53⟩ := lst_cons hl52
              clear hl52
              obtain ⟨x53, l53, rfl, hl54⟩ := lst_cons hl53
              clear hl53
              obtain ⟨x54, l54, rfl, hl55⟩ := lst_cons hl54
              clear hl54
              obtain ⟨x55, l55, rfl, hl56⟩ := lst_cons hl55
              clear hl55
              obtain ⟨x56, l56, rfl, hl57⟩ := lst_cons hl56
              clear hl56
              obtain ⟨x57, l57, rfl, hl58⟩ := lst_cons hl57
              clear hl57
              obtain ⟨x58, l58, rfl, hl59⟩ := lst_cons hl58
              clear hl58
              obtain ⟨x59, l59, rfl, hl60⟩ := lst_cons hl59
              clear hl59
              obtain ⟨x60, l60, rfl, hl61⟩ := lst_cons hl60
              clear hl60
              obtain ⟨x61, l61, rfl, hl62⟩ := lst_cons hl61
              clear hl61
              obtain ⟨x62, l62, rfl, hl63⟩ := lst_cons hl62
              clear hl62
              obtain ⟨x63, l63, rfl, hl64⟩ := lst_cons hl63
              clear hl63
              obtain ⟨x64, l64, rfl, hl65⟩ := lst_cons hl64
              clear hl64
              obtain ⟨x65, l65, rfl, hl66⟩ := lst_cons hl65
              clear hl65
              obtain ⟨x66, l66, rfl, hl67⟩ := lst_cons hl66
              clear hl66
              obtain ⟨x67, l67, rfl, hl68⟩ := lst_cons hl67
              clear hl67
              obtain ⟨x68, l68, rfl, hl69⟩ := lst_cons hl68
              clear hl68
              obtain ⟨x69, l69, rfl, hl70⟩ := lst_cons hl69
              clear hl69
              obtain ⟨x70, l70, rfl, hl71⟩ := lst_cons hl70
              clear hl70
              obtain ⟨x71, l71, rfl, hl72⟩ := lst_cons hl71
              clear hl71
              obtain ⟨x72, l72, rfl, hl73⟩ := lst_cons hl72
              clear hl72
              obtain ⟨x73, l73, rfl, hl74⟩ := lst_cons hl73
              clear hl73
              obtain ⟨x74, l74, rfl, hl75⟩ := lst_cons hl74
              clear hl74
              obtain ⟨x75, l75, rfl, hl76⟩ := lst_cons hl75
              clear hl75
              obtain ⟨x76, l76, rfl, hl77⟩ := lst_cons hl76
              clear hl76
              obtain ⟨x77, l77, rfl, hl78⟩ := lst_cons hl77
              clear hl77
              obtain ⟨x78, l78, rfl, hl79⟩ := lst_cons hl78
              clear hl78
              obtain ⟨x79, l79, rfl, hl80⟩ := lst_cons hl79
              clear hl79
              obtain ⟨x80, l80, rfl, hl81⟩ := lst_cons hl80
              clear hl80
              obtain ⟨x81, l81, rfl, hl82⟩ := lst_cons hl81
              clear hl81
              obtain ⟨x82, l82, rfl, hl83⟩ := lst_cons hl82
              clear hl82
              obtain ⟨x83, l83, rfl, hl84⟩ := lst_cons hl83
              clear hl83
              obtain ⟨x84, l84, rfl, hl85⟩ := lst_cons hl84
              clear hl84
              obtain ⟨x85, l85, rfl, hl86⟩ := lst_cons hl85
              clear hl85
              obtain ⟨x86, l86, rfl, hl87⟩ := lst_cons hl86
              clear hl86
              obtain ⟨x87, l87, rfl, hl88⟩ := lst_cons hl87
              clear hl87
              obtain ⟨x88, l88, rfl, hl89⟩ := lst_cons hl88
              clear hl88
              obtain ⟨x89, l89, rfl, hl90⟩ := lst_cons hl89
              clear hl89
              obtain ⟨x90, l90, rfl, hl91⟩ := lst_cons hl90
              clear hl90
              obtain ⟨x91, l91, rfl, hl92⟩ := lst_cons hl91
              clear hl91
              obtain ⟨x92, l92, rfl, hl93⟩ := lst_cons hl92
              clear hl92
              obtain ⟨x93, l93, rfl, hl94⟩ := lst_cons hl93
              clear hl93
              obtain ⟨x94, l94, rfl, hl95⟩ := lst_cons hl94
              clear hl94
              obtain ⟨x95, l95, rfl, hl96⟩ := lst_cons hl95
              clear hl95
              obtain ⟨x96, l96, rfl, hl97⟩ := lst_cons hl96
              clear hl96
              obtain ⟨x97, l97, rfl, hl98⟩ := lst_cons hl97
              clear hl97
              obtain ⟨x98, l98, rfl, hl99⟩ := lst_cons hl98
              clear hl98
              obtain ⟨x99, l99, rfl, hl100⟩ := lst_cons hl99
              clear hl99
              obtain ⟨x100, l100, rfl, hl101⟩ := lst_cons hl100
              clear hl100
              obtain ⟨x101, l101, rfl, hl102⟩ := lst_cons hl101
              clear hl101
              obtain ⟨x102, l102, rfl, hl103⟩ := lst_cons hl102
              clear hl102
              obtain ⟨x103, l103, rfl, hl104⟩ := lst_cons hl103
              clear hl103
              obtain ⟨x104, l104, rfl, hl105⟩ := lst_cons hl104
              clear hl104
              obtain ⟨x105, l105, rfl, hl106⟩ := lst_cons hl105
              clear hl105
              obtain ⟨x106, l106, rfl, hl107⟩ := lst_cons hl106
              clear hl106
              obtain ⟨x107, l107, rfl, hl108⟩ := lst_cons hl107
              clear hl107
              obtain ⟨x108, l108, rfl, hl109⟩ := lst_cons hl108
              clear hl108
              obtain ⟨x109, l109, rfl, hl110⟩ := lst_cons hl109
              clear hl109
              obtain ⟨x110, l110, rfl, hl111⟩ := lst_cons hl110
              clear hl110
              obtain ⟨x111, l111, rfl, hl112⟩ := lst_cons hl111
              clear hl111
              obtain ⟨x112, l112, rfl, hl113⟩ := lst_cons hl112
              clear hl112
              obtain ⟨x113, l113, rfl, hl114⟩ := lst_cons hl113
              clear hl113
              obtain ⟨x114, l114, rfl, hl115⟩ := lst_cons hl114
              clear hl114
              obtain ⟨x115, l115, rfl, hl116⟩ := lst_cons hl115
              clear hl115
              obtain ⟨x116, l116, rfl, hl117⟩ := lst_cons hl116
              clear hl116
              obtain ⟨x117, l117, rfl, hl118⟩ := lst_cons hl117
              clear hl117
              obtain ⟨x118, l118, rfl, hl119⟩ := lst_cons hl118
              clear hl118
              obtain ⟨x119, l119, rfl, hl120⟩ := lst_cons hl119
              clear hl119
              obtain ⟨x120, l120, rfl, hl121⟩ := lst_cons hl120
              clear hl120
              obtain ⟨x121, l121, rfl, hl122⟩ := lst_cons hl121
              clear hl121
              obtain ⟨x122, l122, rfl, hl123⟩ := lst_cons hl122
              clear hl122
              obtain ⟨x123, l123, rfl, hl124⟩ := lst_cons hl123
              clear hl123
              obtain ⟨x124, l124, rfl, hl125⟩ := lst_cons hl124
              clear hl124
              obtain rfl := List.eq_nil_of_length_eq_zero hl125
              have e0 := hf.st.kept 0 (by kernel_rfl)
              simp only [slotsOf, Act.eval, Array.getD_eq_getD_getElem?, List.getElem?_toArray, List.getElem?_cons_zero, Option.getD_some] at e0
              subst e0
              have e1 := hf.st.kept 1 (by kernel_rfl)
              simp only [slotsOf, Act.eval, Array.getD_eq_getD_getElem?, List.getElem?_toArray, List.getElem?_cons_succ, List.getElem?_cons_zero, Option.getD_some] at e1
              subst e1
              have e2 := hf.st.kept 2 (by kernel_rfl)
              simp only [slotsOf, Act.eval, Array.getD_eq_getD_getElem?, List.getElem?_toArray, List.getElem?_cons_succ, List.getElem?_cons_zero, Option.getD_some] at e2
              subst e2
              have e3 := hf.st.kept 3 (by kernel_rfl)
              simp only [slotsOf, Act.eval, Array.getD_eq_getD_getElem?, List.getElem?_toArray, List.getElem?_cons_succ, List.getElem?_cons_zero, Option.getD_some] at e3
              subst e3
              have e4 := hf.st.kept 4 (by kernel_rfl)
              simp only [slotsOf, Act.eval, Array.getD_eq_getD_getElem?, List.getElem?_toArray, List.getElem?_cons_succ, List.getElem?_cons_zero, Option.getD_some] at e4
              subst e4
              have e5 := hf.st.kept 5 (by kernel_rfl)
              simp only [slotsOf, Act.eval, Array.getD_eq_getD_getElem?, List.getElem?_toArray, List.getElem?_cons_succ, List.getElem?_cons_zero, Option.getD_some] at e5
              subst e5
              have e6 := hf.st.kept 6 (by kernel_rfl)
              simp only [slotsOf, Act.eval, Array.getD_eq_getD_getElem?, List.getElem?_toArray, List.getElem?_cons_succ, List.getElem?_cons_zero, Option.getD_some] at e6
              subst e6
              have e7 := hf.st.kept 7 (by kernel_rfl)
              simp only [slotsOf, Act.eval, Array.getD_eq_getD_getElem?, List.getElem?_toArray, List.getElem?_cons_succ, List.getElem?_cons_zero, Option.getD_some] at e7
              subst e7
              have e8 := hf.st.kept 8 (by kernel_rfl)
              simp only [slotsOf, Act.eval, Array.getD_eq_getD_getElem?, List.getElem?_toArray, List.getElem?_cons_succ, List.getElem?_cons_zero, Option.getD_some] at e8
              subst e8
              have e9 := hf.st.kept 9 (by kernel_rfl)
              simp only [slotsOf, Act.eval, Array.getD_eq_getD_getElem?, List.getElem?_toArray, List.getElem?_cons_succ, List.getElem?_cons_zero, Option.getD_some] at e9
              subst e9
              have e10 := hf.st.kept 10 (by kernel_rfl)
              simp only [slotsOf, Act.eval, Array.getD_eq_getD_getElem?, List.getElem?_toArray, List.getElem?_cons_succ, List.getElem?_cons_zero, Option.getD_some] at e10
              subst e10
              have e11 := hf.st.kept 11 (by kernel_rfl)
              simp only [slotsOf, Act.eval, Array.getD_eq_getD_getElem?, List.getElem?_toArray, List.getElem?_cons_succ, List.getElem?_cons_zero, Option.getD_some] at e11
              subst e11
              have e12 := hf.st.kept 12 (by kernel_rfl)
              simp only [slotsOf, Act.eval, Array.getD_eq_getD_getElem?, List.getElem?_toArray, List.getElem?_cons_succ, List.getElem?_cons_zero, Option.getD_some] at e12
              subst e12
              have e13 := hf.st.kept 13 (by kernel_rfl)
              simp only [slotsOf, Act.eval, Array.getD_eq_getD_getElem?, List.getElem?_toArray, List.getElem?_cons_succ, List.getElem?_cons_zero, Option.getD_some] at e13
              subst e13
              have e14 := hf.st.kept 14 (by kernel_rfl)
              simp only [slotsOf, Act.eval, Array.getD_eq_getD_getElem?, List.getElem?_toArray, List.getElem?_cons_succ, List.getElem?_cons_zero, Option.getD_some] at e14
              subst e14
              have e15 := hf.st.kept 15 (by kernel_rfl)
              simp only [slotsOf, Act.eval, Array.getD_eq_getD_getElem?, List.getElem?_toArray, List.getElem?_cons_succ, List.getElem?_cons_zero, Option.getD_some] at e15
              subst e15
              have e16 := hf.st.kept 16 (by kernel_rfl)
              simp only [slotsOf, Act.eval, Array.getD_eq_getD_getElem?, List.getElem?_toArray, List.getElem?_cons_succ, List.getElem?_cons_zero, Option.getD_some] at e16
              subst e16
              have e17 := hf.st.kept 17 (by kernel_rfl)
              simp only [slotsOf, Act.eval, Array.getD_eq_getD_getElem?, List.getElem?_toArray, List.getElem?_cons_succ, List.getElem?_cons_zero, Option.getD_some] at e17
              subst e17
              have e18 := hf.st.kept 18 (by kernel_rfl)
              simp only [slotsOf, Act.eval, Array.getD_eq_getD_getElem?, List.getElem?_toArray, List.getElem?_cons_succ, List.getElem?_cons_zero, Option.getD_some] at e18
              subst e18
              have e19 := hf.st.kept 19 (by kernel_rfl)
              simp only [slotsOf, Act.eval, Array.getD_eq_getD_getElem?, List.getElem?_toArray, List.getElem?_cons_succ, List.getElem?_cons_zero, Option.getD_some] at e19
              subst e19
              have e20 := hf.st.kept 20 (by kernel_rfl)
              simp only [slotsOf, Act.eval, Array.getD_eq_getD_getElem?, List.getElem?_toArray, List.getElem?_cons_succ, List.getElem?_cons_zero, Option.getD_some] at e20
              subst e20
              have e21 := hf.st.kept 21 (by kernel_rfl)
              simp only [slotsOf, Act.eval, Array.getD_eq_getD_getElem?, List.getElem?_toArray, List.getElem?_cons_succ, List.getElem?_cons_zero, Option.getD_some] at e21
              subst e21
              have e22 := hf.st.kept 22 (by kernel_rfl)
              simp only [slotsOf, Act.eval, Array.getD_eq_getD_getElem?, List.getElem?_toArray, List.getElem?_cons_succ, List.getElem?_cons_zero, Option.getD_some] at e22
              subst e22
              have e23 := hf.st.kept 23 (by kernel_rfl)
              simp only [slotsOf, Act.eval, Array.getD_eq_getD_getElem?, List.getElem?_toArray, List.getElem?_cons_succ, List.getElem?_cons_zero, Option.getD_some] at e23
              subst e23
              have e24 := hf.st.kept 24 (by kernel_rfl)
              simp only [slotsOf, Act.eval, Array.getD_eq_getD_getElem?, List.getElem?_toArray, List.getElem?_cons_succ, List.getElem?_cons_zero, Option.getD_some] at e24
              subst e24
              have e25 := hf.st.kept 25 (by kernel_rfl)
              simp only [slotsOf, Act.eval, Array.getD_eq_getD_getElem?, List.getElem?_toArray, List.getElem?_cons_succ, List.getElem?_cons_zero, Option.getD_some] at e25
              subst e25
              have e26 := hf.st.kept 26 (by kernel_rfl)
              simp only [slotsOf, Act.eval, Array.getD_eq_getD_getElem?, List.getElem?_toArray, List.getElem?_cons_succ, List.getElem?_cons_zero, Option.getD_some] at e26
              subst e26
              have e27 := hf.st.kept 27 (by kernel_rfl)
              simp only [slotsOf, Act.eval, Array.getD_eq_getD_getElem?, List.getElem?_toArray, List.getElem?_cons_succ, List.getElem?_cons_zero, Option.getD_some] at e27
              subst e27
              have e28 := hf.st.kept 28 (by kernel_rfl)
              simp only [slotsOf, Act.eval, Array.getD_eq_getD_getElem?, List.getElem?_toArray, List.getElem?_cons_succ, List.getElem?_cons_zero, Option.getD_some] at e28
              subst e28
              have e29 := hf.st.kept 29 (by kernel_rfl)
              simp only [slotsOf, Act.eval, Array.getD_eq_getD_getElem?, List.getElem?_toArray, List.getElem?_cons_succ, List.getElem?_cons_zero, Option.getD_some] at e29
              subst e29
              have e30 := hf.st.kept 30 (by kernel_rfl)
              simp only [slotsOf, Act.eval, Array.getD_eq_getD_getElem?, List.getElem?_toArray, List.getElem?_cons_succ, List.getElem?_cons_zero, Option.getD_some] at e30
              subst e30
              have e31 := hf.st.kept 31 (by kernel_rfl)
              simp only [slotsOf, Act.eval, Array.getD_eq_getD_getElem?, List.getElem?_toArray, List.getElem?_cons_succ, List.getElem?_cons_zero, Option.getD_some] at e31
              subst e31
              have e32 := hf.st.kept 32 (by kernel_rfl)
              simp only [slotsOf, Act.eval, Array.getD_eq_getD_getElem?, List.getElem?_toArray, List.getElem?_cons_succ, List.getElem?_cons_zero, Option.getD_some] at e32
              subst e32
              have e53 := hf.st.kept 53 (by kernel_rfl)
              simp only [slotsOf, Act.eval, Array.getD_eq_getD_getElem?, List.getElem?_toArray, List.getElem?_cons_succ, List.getElem?_cons_zero, Option.getD_some] at e53
              subst e53
              have e54 := hf.st.kept 54 (by kernel_rfl)
              simp only [slotsOf, Act.eval, Array.getD_eq_getD_getElem?, List.getElem?_toArray, List.getElem?_cons_succ, List.getElem?_cons_zero, Option.getD_some] at e54
              subst e54
              have e55 := hf.st.kept 55 (by kernel_rfl)
              simp only [slotsOf, Act.eval, Array.getD_eq_getD_getElem?, List.getElem?_toArray, List.getElem?_cons_succ, List.getElem?_cons_zero, Option.getD_some] at e55
              subst e55
              have e56 := hf.st.kept 56 (by kernel_rfl)
              simp only [slotsOf, Act.eval, Array.getD_eq_getD_getElem?, List.getElem?_toArray, List.getElem?_cons_succ, List.getElem?_cons_zero, Option.getD_some] at e56
              subst e56
              have e57 := hf.st.kept 57 (by kernel_rfl)
              simp only [slotsOf, Act.eval, Array.getD_eq_getD_getElem?, List.getElem?_toArray, List.getElem?_cons_succ, List.getElem?_cons_zero, Option.getD_some] at e57
              subst e57
              have e58 := hf.st.kept 58 (by kernel_rfl)
              simp only [slotsOf, Act.eval, Array.getD_eq_getD_getElem?, List.getElem?_toArray, List.getElem?_cons_succ, List.getElem?_cons_zero, Option.getD_some] at e58
              subst e58
              have e59 := hf.st.kept 59 (by kernel_rfl)
              simp only [slotsOf, Act.eval, Array.getD_eq_getD_getElem?, List.getElem?_toArray, List.getElem?_cons_succ, List.getElem?_cons_zero, Option.getD_some] at e59
              subst e59
              have e60 := hf.st.kept 60 (by kernel_rfl)
              simp only [slotsOf, Act.eval, Array.getD_eq_getD_getElem?, List.getElem?_toArray, List.getElem?_cons_succ, List.getElem?_cons_zero, Option.getD_some] at e60
              subst e60
              have e61 := hf.st.kept 61 (by kernel_rfl)
              simp only [slotsOf, Act.eval, Array.getD_eq_getD_getElem?, List.getElem?_toArray, List.getElem?_cons_succ, List.getElem?_cons_zero, Option.getD_some] at e61
              subst e61
              have e62 := hf.st.kept 62 (by kernel_rfl)
              simp only [slotsOf, Act.eval, Array.getD_eq_getD_getElem?, List.getElem?_toArray, List.getElem?_cons_succ, List.getElem?_cons_zero, Option.getD_some] at e62
              subst e62
              have e63 := hf.st.kept 63 (by kernel_rfl)
              simp only [slotsOf, Act.eval, Array.getD_eq_getD_getElem?, List.getElem?_toArray, List.getElem?_cons_succ, List.getElem?_cons_zero, Option.getD_some] at e63
              subst e63
              have e64 := hf.st.kept 64 (by kernel_rfl)
              simp only [slotsOf, Act.eval, Array.getD_eq_getD_getElem?, List.getElem?_toArray, List.getElem?_cons_succ, List.getElem?_cons_zero, Option.getD_some] at e64
              subst e64
              have e65 := hf.st.kept 65 (by kernel_rfl)
              simp only [slotsOf, Act.eval, Array.getD_eq_getD_getElem?, List.getElem?_toArray, List.getElem?_cons_succ, List.getElem?_cons_zero, Option.getD_some] at e65
              subst e65
              have e66 := hf.st.kept 66 (by kernel_rfl)
              simp only [slotsOf, Act.eval, Array.getD_eq_getD_getElem?, List.getElem?_toArray, List.getElem?_cons_succ, List.getElem?_cons_zero, Option.getD_some] at e66
              subst e66
              have e67 := hf.st.kept 67 (by kernel_rfl)
              simp only [slotsOf, Act.eval, Array.getD_eq_getD_getElem?, List.getElem?_toArray, List.getElem?_cons_succ, List.getElem?_cons_zero, Option.getD_some] at e67
              subst e67
              have e68 := hf.st.kept 68 (by kernel_rfl)
              simp only [slotsOf, Act.eval, Array.getD_eq_getD_getElem?, List.getElem?_toArray, List.getElem?_cons_succ, List.getElem?_cons_zero, Option.getD_some] at e68
              subst e68
              have e69 := hf.st.kept 69 (by kernel_rfl)
              simp only [slotsOf, Act.eval, Array.getD_eq_getD_getElem?, List.getElem?_toArray, List.getElem?_cons_succ, List.getElem?_cons_zero, Option.getD_some] at e69
              subst e69
              have e70 := hf.st.kept 70 (by kernel_rfl)
              simp only [slotsOf, Act.eval, Array.getD_eq_getD_getElem?, List.getElem?_toArray, List.getElem?_cons_succ, List.getElem?_cons_zero, Option.getD_some] at e70
              subst e70
              have e71 := hf.st.kept 71 (by kernel_rfl)
              simp only [slotsOf, Act.eval, Array.getD_eq_getD_getElem?, List.getElem?_toArray, List.getElem?_cons_succ, List.getElem?_cons_zero, Option.getD_some] at e71
              subst e71
              have e72 := hf.st.kept 72 (by kernel_rfl)
              simp only [slotsOf, Act.eval, Array.getD_eq_getD_getElem?, List.getElem?_toArray, List.getElem?_cons_succ, List.getElem?_cons_zero, Option.getD_some] at e72
              subst e72
              have e73 := hf.st.kept 73 (by kernel_rfl)
              simp only [slotsOf, Act.eval, Array.getD_eq_getD_getElem?, List.getElem?_toArray, List.getElem?_cons_succ, List.getElem?_cons_zero, Option.getD_some] at e73
              subst e73
              have e74 := hf.st.kept 74 (by kernel_rfl)
              simp only [slotsOf, Act.eval, Array.getD_eq_getD_getElem?, List.getElem?_toArray, List.getElem?_cons_succ, List.getElem?_cons_zero, Option.getD_some] at e74
              subst e74
              have e75 := hf.st.kept 75 (by kernel_rfl)
              simp only [slotsOf, Act.eval, Array.getD_eq_getD_getElem?, List.getElem?_toArray, List.getElem?_cons_succ, List.getElem?_cons_zero, Option.getD_some] at e75
              subst e75
              have e76 := hf.st.kept 76 (by kernel_rfl)
              simp only [slotsOf, Act.eval, Array.getD_eq_getD_getElem?, List.getElem?_toArray, List.getElem?_cons_succ, List.getElem?_cons_zero, Option.getD_some] at e76
              subst e76
              have e77 := hf.st.kept 77 (by kernel_rfl)
              simp only [slotsOf, Act.eval, Array.getD_eq_getD_getElem?, List.getElem?_toArray, List.getElem?_cons_succ, List.getElem?_cons_zero, Option.getD_some] at e77
              subst e77
              have e78 := hf.st.kept 78 (by kernel_rfl)
              simp only [slotsOf, Act.eval, Array.getD_eq_getD_getElem?, List.getElem?_toArray, List.getElem?_cons_succ, List.getElem?_cons_zero, Option.getD_some] at e78
              subst e78
              have e79 := hf.st.kept 79 (by kernel_rfl)
              simp only [slotsOf, Act.eval, Array.getD_eq_getD_getElem?, List.getElem?_toArray, List.getElem?_cons_succ, List.getElem?_cons_zero, Option.getD_some] at e79
              subst e79
              have e80 := hf.st.kept 80 (by kernel_rfl)
              simp only [slotsOf, Act.eval, Array.getD_eq_getD_getElem?, List.getElem?_toArray, List.getElem?_cons_succ, List.getElem?_cons_zero, Option.getD_some] at e80
              subst e80
              have e81 := hf.st.kept 81 (by kernel_rfl)
              simp only [slotsOf, Act.eval, Array.getD_eq_getD_getElem?, List.getElem?_toArray, List.getElem?_cons_succ, List.getElem?_cons_zero, Option.getD_some] at e81
              subst e81
              have e82 := hf.st.kept 82 (by kernel_rfl)
              simp only [slotsOf, Act.eval, Array.getD_eq_getD_getElem?, List.getElem?_toArray, List.getElem?_cons_succ, List.getElem?_cons_zero, Option.getD_some] at e82
              subst e82
              have e83 := hf.st.kept 83 (by kernel_rfl)
              simp only [slotsOf, Act.eval, Array.getD_eq_getD_getElem?, List.getElem?_toArray, List.getElem?_cons_succ, List.getElem?_cons_zero, Option.getD_some] at e83
              subst e83
              have e84 := hf.st.kept 84 (by kernel_rfl)
              simp only [slotsOf, Act.eval, Array.getD_eq_getD_getElem?, List.getElem?_toArray, List.getElem?_cons_succ, List.getElem?_cons_zero, Option.getD_some] at e84
              subst e84
              have e85 := hf.st.kept 85 (by kernel_rfl)
              simp only [slotsOf, Act.eval, Array.getD_eq_getD_getElem?, List.getElem?_toArray, List.getElem?_cons_succ, List.getElem?_cons_zero, Option.getD_some] at e85
              subst e85
              have e86 := hf.st.kept 86 (by kernel_rfl)
              simp only [slotsOf, Act.eval, Array.getD_eq_getD_getElem?, List.getElem?_toArray, List.getElem?_cons_succ, List.getElem?_cons_zero, Option.getD_some] at e86
              subst e86
              have e87 := hf.st.kept 87 (by kernel_rfl)
              simp only [slotsOf, Act.eval, Array.getD_eq_getD_getElem?, List.getElem?_toArray, List.getElem?_cons_succ, List.getElem?_cons_zero, Option.getD_some] at e87
              subst e87
              have e88 := hf.st.kept 88 (by kernel_rfl)
              simp only [slotsOf, Act.eval, Array.getD_eq_getD_getElem?, List.getElem?_toArray, List.getElem?_cons_succ, List.getElem?_cons_zero, Option.getD_some] at e88
              subst e88
              have e89 := hf.st.kept 89 (by kernel_rfl)
              simp only [slotsOf, Act.eval, Array.getD_eq_getD_getElem?, List.getElem?_toArray, List.getElem?_cons_succ, List.getElem?_cons_zero, Option.getD_some] at e89
              subst e89
              have e90 := hf.st.kept 90 (by kernel_rfl)
              simp only [slotsOf, Act.eval, Array.getD_eq_getD_getElem?, List.getElem?_toArray, List.getElem?_cons_succ, List.getElem?_cons_zero, Option.getD_some] at e90
              subst e90
              have e91 := hf.st.kept 91 (by kernel_rfl)
              simp only [slotsOf, Act.eval, Array.getD_eq_getD_getElem?, List.getElem?_toArray, List.getElem?_cons_succ, List.getElem?_cons_zero, Option.getD_some] at e91
              subst e91
              have e92 := hf.st.kept 92 (by kernel_rfl)
              simp only [slotsOf, Act.eval, Array.getD_eq_getD_getElem?, List.getElem?_toArray, List.getElem?_cons_succ, List.getElem?_cons_zero, Option.getD_some] at e92
              subst e92
              have e93 := hf.st.kept 93 (by kernel_rfl)
              simp only [slotsOf, Act.eval, Array.getD_eq_getD_getElem?, List.getElem?_toArray, List.getElem?_cons_succ, List.getElem?_cons_zero, Option.getD_some] at e93
              subst e93
              have e94 := hf.st.kept 94 (by kernel_rfl)
              simp only [slotsOf, Act.eval, Array.getD_eq_getD_getElem?, List.getElem?_toArray, List.getElem?_cons_succ, List.getElem?_cons_zero, Option.getD_some] at e94
              subst e94
              have e95 := hf.st.kept 95 (by kernel_rfl)
              simp only [slotsOf, Act.eval, Array.getD_eq_getD_getElem?, List.getElem?_toArray, List.getElem?_cons_succ, List.getElem?_cons_zero, Option.getD_some] at e95
              subst e95
              have e96 := hf.st.kept 96 (by kernel_rfl)
              simp only [slotsOf, Act.eval, Array.getD_eq_getD_getElem?, List.getElem?_toArray, List.getElem?_cons_succ, List.getElem?_cons_zero, Option.getD_some] at e96
              subst e96
              have e97 := hf.st.kept 97 (by kernel_rfl)
              simp only [slotsOf, Act.eval, Array.getD_eq_getD_getElem?, List.getElem?_toArray, List.getElem?_cons_succ, List.getElem?_cons_zero, Option.getD_some] at e97
              subst e97
              have e98 := hf.st.kept 98 (by kernel_rfl)
              simp only [slotsOf, Act.eval, Array.getD_eq_getD_getElem?, List.getElem?_toArray, List.getElem?_cons_succ, List.getElem?_cons_zero, Option.getD_some] at e98
              subst e98
              have e99 := hf.st.kept 99 (by kernel_rfl)
              simp only [slotsOf, Act.eval, Array.getD_eq_getD_getElem?, List.getElem?_toArray, List.getElem?_cons_succ, List.getElem?_cons_zero, Option.getD_some] at e99
              subst e99
              have e100 := hf.st.kept 100 (by kernel_rfl)
              simp only [slotsOf, Act.eval, Array.getD_eq_getD_getElem?, List.getElem?_toArray, List.getElem?_cons_succ, List.getElem?_cons_zero, Option.getD_some] at e100
              subst e100
              have e101 := hf.st.kept 101 (by kernel_rfl)
              simp only [slotsOf, Act.eval, Array.getD_eq_getD_getElem?, List.getElem?_toArray, List.getElem?_cons_succ, List.getElem?_cons_zero, Option.getD_some] at e101
              subst e101
              have e102 := hf.st.kept 102 (by kernel_rfl)
              simp only [slotsOf, Act.eval, Array.getD_eq_getD_getElem?, List.getElem?_toArray, List.getElem?_cons_succ, List.getElem?_cons_zero, Option.getD_some] at e102
              subst e102
              have e103 := hf.st.kept 103 (by kernel_rfl)
              simp only [slotsOf, Act.eval, Array.getD_eq_getD_getElem?, List.getElem?_toArray, List.getElem?_cons_succ, List.getElem?_cons_zero, Option.getD_some] at e103
              subst e103
              have e104 := hf.st.kept 104 (by kernel_rfl)
              simp only [slotsOf, Act.eval, Array.getD_eq_getD_getElem?, List.getElem?_toArray, List.getElem?_cons_succ, List.getElem?_cons_zero, Option.getD_some] at e104
              subst e104
              have e105 := hf.st.kept 105 (by kernel_rfl)
              simp only [slotsOf, Act.eval, Array.getD_eq_getD_getElem?, List.getElem?_toArray, List.getElem?_cons_succ, List.getElem?_cons_zero, Option.getD_some] at e105
              subst e105
              have e106 := hf.st.kept 106 (by kernel_rfl)
              simp only [slotsOf, Act.eval, Array.getD_eq_getD_getElem?, List.getElem?_toArray, List.getElem?_cons_succ, List.getElem?_cons_zero, Option.getD_some] at e106
              subst e106
              have e107 := hf.st.kept 107 (by kernel_rfl)
              simp only [slotsOf, Act.eval, Array.getD_eq_getD_getElem?, List.getElem?_toArray, List.getElem?_cons_succ, List.getElem?_cons_zero, Option.getD_some] at e107
              subst e107
              have e108 := hf.st.kept 108 (by kernel_rfl)
              simp only [slotsOf, Act.eval, Array.getD_eq_getD_getElem?, List.getElem?_toArray, List.getElem?_cons_succ, List.getElem?_cons_zero, Option.getD_some] at e108
              subst e108
              have e109 := hf.st.kept 109 (by kernel_rfl)
              simp only [slotsOf, Act.eval, Array.getD_eq_getD_getElem?, List.getElem?_toArray, List.getElem?_cons_succ, List.getElem?_cons_zero, Option.getD_some] at e109
              subst e109
              have e110 := hf.st.kept 110 (by kernel_rfl)
              simp only [slotsOf, Act.eval, Array.getD_eq_getD_getElem?, List.getElem?_toArray, List.getElem?_cons_succ, List.getElem?_cons_zero, Option.getD_some] at e110
              subst e110
              have e111 := hf.st.kept 111 (by kernel_rfl)
              simp only [slotsOf, Act.eval, Array.getD_eq_getD_getElem?, List.getElem?_toArray, List.getElem?_cons_succ, List.getElem?_cons_zero, Option.getD_some] at e111
              subst e111
              have e112 := hf.st.kept 112 (by kernel_rfl)
              simp only [slotsOf, Act.eval, Array.getD_eq_getD_getElem?, List.getElem?_toArray, List.getElem?_cons_succ, List.getElem?_cons_zero, Option.getD_some] at e112
              subst e112
              have e113 := hf.st.kept 113 (by kernel_rfl)
              simp only [slotsOf, Act.eval, Array.getD_eq_getD_getElem?, List.getElem?_toArray, List.getElem?_cons_succ, List.getElem?_cons_zero, Option.getD_some] at e113
              subst e113
              have e114 := hf.st.kept 114 (by kernel_rfl)
              simp only [slotsOf, Act.eval, Array.getD_eq_getD_getElem?, List.getElem?_toArray, List.getElem?_cons_succ, List.getElem?_cons_zero, Option.getD_some] at e114
              subst e114
              have e115 := hf.st.kept 115 (by kernel_rfl)
              simp only [slotsOf, Act.eval, Array.getD_eq_getD_getElem?, List.getElem?_toArray, List.getElem?_cons_succ, List.getElem?_cons_zero, Option.getD_some] at e115
              subst e115
              have e116 := hf.st.kept 116 (by kernel_rfl)
              simp only [slotsOf, Act.eval, Array.getD_eq_getD_getElem?, List.getElem?_toArray, List.getElem?_cons_succ, List.getElem?_cons_zero, Option.getD_some] at e116
              subst e116
              have e117 := hf.st.kept 117 (by kernel_rfl)
              simp only [slotsOf, Act.eval, Array.getD_eq_getD_getElem?, List.getElem?_toArray, List.getElem?_cons_succ, List.getElem?_cons_zero, Option.getD_some] at e117
              subst e117
              have e118 := hf.st.kept 118 (by kernel_rfl)
              simp only [slotsOf, Act.eval, Array.getD_eq_getD_getElem?, List.getElem?_toArray, List.getElem?_cons_succ, List.getElem?_cons_zero, Option.getD_some] at e118
              subst e118
              have e119 := hf.st.kept 119 (by kernel_rfl)
              simp only [slotsOf, Act.eval, Array.getD_eq_getD_getElem?, List.getElem?_toArray, List.getElem?_cons_succ, List.getElem?_cons_zero, Option.getD_some] at e119
              subst e119
              have e120 := hf.st.kept 120 (by kernel_rfl)
              simp only [slotsOf, Act.eval, Array.getD_eq_getD_getElem?, List.getElem?_toArray, List.getElem?_cons_succ, List.getElem?_cons_zero, Option.getD_some] at e120
              subst e120
              have e121 := hf.st.kept 121 (by kernel_rfl)
              simp only [slotsOf, Act.eval, Array.getD_eq_getD_getElem?, List.getElem?_toArray, List.getElem?_cons_succ, List.getElem?_cons_zero, Option.getD_some] at e121
              subst e121
              have e122 := hf.st.kept 122 (by kernel_rfl)
              simp only [slotsOf, Act.eval, Array.getD_eq_getD_getElem?, List.getElem?_toArray, List.getElem?_cons_succ, List.getElem?_cons_zero, Option.getD_some] at e122
              subst e122
              have e123 := hf.st.kept 123 (by kernel_rfl)
              simp only [slotsOf, Act.eval, Array.getD_eq_getD_getElem?, List.getElem?_toArray, List.getElem?_cons_succ, List.getElem?_cons_zero, Option.getD_some] at e123
              subst e123
              have e124 := hf.st.kept 124 (by kernel_rfl)
              simp only [slotsOf, Act.eval, Array.getD_eq_getD_getElem?, List.getElem?_toArray, List.getElem?_cons_succ, List.getElem?_cons_zero, Option.getD_some] at e124
              subst e124
              have r20 := hf.at 20 (onRc kCell (.slice (some ⟨bo, 0, none⟩) out.length co) (out.set j ⟨out[j].kind, z, out[j].name⟩)) rfl (by kernel_rfl)
              have r20 : kCell.R W (own 20) (.slice (some ⟨bo, 0, none⟩) out.length co) (out.set j ⟨out[j].kind, z, out[j].name⟩) := r20
              have hft := hf.st.foot
              have hm20 := hf.st.mine 20
              have J1 : Sec (RJ w W (own 20) Sp (.slice (some ⟨bo, 0, none⟩) out.length co) (.slice (some ⟨bp, 0, none⟩) op.length cp) (out.set j ⟨out[j].kind, z, out[j].name⟩) op bx x) := ⟨⟨r20,
                Kd.R_move (w := wr) (fun q h1 h2 => ⟨h1, hft.block q h2 (fun e => AP.out q e h1)⟩) J0.out.num,
                fun q h e => by
                  rcases (hm20 q h).1 with h2 | h2
                  · have h3 : wr.heap.size ≤ q := h2
                    have := (J0.out.mine q e).2; omega
                  · exact AP.out q h2 e,
                fun q h => by
                  rcases (hm20 q h).1 with h2 | h2
                  · have h3 : wr.heap.size ≤ q := h2
                    exact Nat.le_trans J0.out.bel.size h3
                  · exact J0.out.low q h2,
                fun q h => ⟨(J0.out.mine q h).1, Nat.lt_of_lt_of_le (J0.out.mine q h).2 hft.size⟩,
                (hft.block bx (Array.getElem?_eq_some_iff.1 J0.out.box).1 J0.out.nbx).trans J0.out.box,
                fun h => by
                  rcases (hm20 bx h).1 with h2 | h2
                  · have h3 : wr.heap.size ≤ bx := h2
                    have := (Array.getElem?_eq_some_iff.1 J0.out.box).1; omega
                  · exact J0.out.nbx h2,
                hft.below (belD J0.out.bel) (fun q h => J0.out.low q h)⟩⟩
              clear hf r20 hft hm20 RO1 KD
              go_wp2
              go_meet
              case rel => exact ⟨_, _, by rw [List.length_set], J1⟩
          case rest =>
            obtain ⟨So2, out2, hl2, hJ⟩ := hcut
            clear J0 ML RO RP MI BW
            generalize wc = W at *
            have RO2 := Sec.mk hJ.out.row
            have RP2 := Sec.mk hJ.out.num
            have AP2 := Sec.mk hJ.out.apart
            have MO2 := Sec.mk hJ.out.low
            have MP2 := Sec.mk hJ.out.mine
            have PX2 := Sec.mk hJ.out.box
            have nBX2 := Sec.mk hJ.out.nbx
            have B3 := Sec.mk hJ.out.bel
            have NU2 := NU
            clear hJ
            have hL : out.length + 1 ≤ 1073741824 := by omega
            have hLp : op.length + 1 ≤ 1073741824 := by omega
            have len2 : Sec ((out2 ++ [x]).length = out.length + 1) := ⟨by rw [List.length_append, hl2]; rfl⟩
            have hxk : x.name.size ≤ 1073741824 := by omega
            have X := (box_at PX2.out).2.1
            have x0 := X 0 _ rfl
            have x1 := X 1 _ rfl
            have x2 := X 2 _ rfl
            clear X
            go_upto_region 12 with ((clear T0; at_builtin; refine Kd.R_app2 kCell (W := W) (by rfl) (.tmp 53) (.tmp 55) 23 (.agg #[.int .i64 0, .int .i64 0, .string ⟨#[]⟩]) 32 (by rfl) Tryz.underlying23 info_cell rfl (by decide) (by decide) _ out2 x (cellC x) So2 (fun _ => False) (by rfl) (by rfl) (by first | rfl | simp) RO2.out (kCell_mk _ _ x hxk) (fun k h => h.elim) (by rw [hl2]; exact hL) ?_; intro v3 w3 hR3 hg3 hr3; have T2 : Sec True := ⟨trivial⟩; obtain ⟨A3, c3, rfl, hc3, -⟩ := Kd.R_form hR3; rw [len2.out] at hR3; have F3 : Foot So2 W w3 := Foot.grown2 (Foot.refl _ _) hg3 (fun k e => .inl (hr3 k e)); have RO3 : Sec (kCell.R w3 (fun k => (So2 k ∨ W.heap.size ≤ k) ∧ k < w3.heap.size) (.slice A3 (out.length + 1) c3) (out2 ++ [x])) := ⟨Kd.R_mono hR3 (fun k h h2 => ⟨h.elim .inl (fun h => h.elim (fun h => h.elim) .inr), h2⟩)⟩; have RP3 := Sec.mk (Kd.R_move (fun k h1 h2 => ⟨h1, F3.block k h2 (fun e => AP2.out k e h1)⟩) RP2.out); have AP3 : Sec (∀ k, ((So2 k ∨ W.heap.size ≤ k) ∧ k < w3.heap.size) → ¬ Sp k) := ⟨fun k h e => h.1.elim (fun h => AP2.out k h e) (fun h => by have := (MP2.out k e).2; omega)⟩; have MI3 : Sec (∀ k, ((So2 k ∨ W.heap.size ≤ k) ∧ k < w3.heap.size) ∨ Sp k → w.heap.size ≤ k ∧ k < w3.heap.size) := ⟨fun k h => h.elim (fun h => ⟨h.1.elim (fun h => MO2.out k h) (fun h => Nat.le_trans B3.out.size h), h.2⟩) (fun h => ⟨(MP2.out k h).1, Nat.lt_of_lt_of_le (MP2.out k h).2 F3.size⟩)⟩; have B4 := Sec.mk (F3.below B3.out (fun k h => MO2.out k h)); have Z3 := Sec.mk F3.size; have hb3 := (F3.block bx (Array.getElem?_eq_some_iff.1 PX2.out).1 nBX2.out).trans PX2.out; have X := (box_at hb3).2.1; have z0 := X 0 _ rfl; clear hR3 hg3 hr3 hb3 X F3 x0 x1 x2))
            go_cut [72] (fun v wc => ∃ q : Bool, v = .bool q ∧ (q = true → k < s.size) ∧ wc = w3)
            case first =>
              obtain ⟨q3, hq3⟩ : ∃ q, (x.kind == 3) = q := ⟨_, rfl⟩
              by_cases hks : k < s.size
              · obtain ⟨q4, hq4⟩ : ∃ q, ((s[k].toNat : Int) == 40) = q := ⟨_, rfl⟩
                have k0 : (0 : Int) ≤ (k : Int) := by omega
                have k1 : (k : Int) < (s.size : Int) := by omega
                have k2 : decide ((k : Int) < (s.size : Int)) = true := decide_eq_true k1
                cases q3 <;> cases q4 <;> (
                  go_wp2
                  go_meet
                  case rel => exact ⟨_, rfl, fun _ => hks, rfl⟩)
              · have k2 : decide ((k : Int) < (s.size : Int)) = false := decide_eq_false (by omega)
                cases q3 <;> (
                  go_wp2
                  go_meet
                  case rel => exact ⟨false, rfl, fun h => (by cases h), rfl⟩)
            case rest =>
              obtain ⟨q, rfl, hks, hwc⟩ := hcut
              have hwc := hwc.symm
              subst hwc
              clear z0
              cases q with
              | true =>
                have hks := hks rfl
                go_wp2_with (clear T2; at_builtin; refine Kd.R_app2 kInt (W := w3) (by rfl) (.tmp 73) (.tmp 77) 103 (.int .i64 0) 8 (by rfl) Tryz.underlying103 info_int rfl (by decide) (by decide) _ op (out.length : Int) [.int .i64 (out.length : Int)] Sp (fun _ => False) (by rfl) (by rfl) (by rfl) RP3.out (int_O _ _ _) (fun k h => h.elim) hLp ?_; intro v4 w4 hR4 hg4 hr4; have F4 : Foot Sp w3 w4 := Foot.grown2 (Foot.refl _ _) hg4 (fun k e => .inl (hr4 k e)); have TR4 : Sec (TR w w4 (.slice A3 (out.length + 1) c3) v4 (out2 ++ [x]) (op ++ [(out.length : Int)])) := ⟨⟨⟨_, fun k => (Sp k ∨ w3.heap.size ≤ k) ∧ k < w4.heap.size, Kd.R_move (fun k h1 h2 => ⟨h1, F4.block k h2 (fun e => AP3.out k h1 e)⟩) RO3.out, Kd.R_mono hR4 (fun k h h2 => ⟨h.elim .inl (fun h => h.elim (fun h => h.elim) .inr), h2⟩), fun k h e => e.1.elim (fun e => AP3.out k h e) (fun e => by have := h.2; omega), fun k h => h.elim (fun h => ⟨(MI3.out k (.inl h)).1, Nat.lt_of_lt_of_le (MI3.out k (.inl h)).2 F4.size⟩) (fun h => ⟨h.1.elim (fun h => (MI3.out k (.inr h)).1) (fun h => Nat.le_trans B4.out.size h), h.2⟩)⟩, fun i hi => by rcases List.mem_append.1 hi with hi | hi; (have := NU2.out i hi; rw [len2.out]; omega); (simp at hi; subst hi; rw [len2.out]; omega), F4.below B4.out (fun k h => (MI3.out k (.inr h)).1)⟩⟩; clear hR4 hg4 hr4 F4)
                go_roundw
                case rel => exact ⟨k + 1, _, _, by omega, by go_num, by rw [len2.out]; omega, by rw [len2.out, List.length_append]; simp; omega, TR4⟩
                case measure => simp [intOf]; omega
              | false =>
                clear hks
                go_wp2
                go_loopw [5, 6] (fun pv av ws => ∃ (k' : Nat) (op' : List Int), k ≤ k' ∧ k' ≤ s.size ∧ av = .int .i64 k' ∧ op'.length ≤ out.length + 1 ∧ Sec (TR w ws (.slice A3 (out.length + 1) c3) pv (out2 ++ [x]) op')) (fun _ av _ => s.size - (intOf av).toNat)
                case atStart => exact ⟨k, op, Nat.le_refl _, hk2, rfl, by omega, ⟨⟨_, _, RO3.out, RP3.out, AP3.out, MI3.out⟩, fun i hi => by have := NU2.out i hi; rw [len2.out]; omega, B4.out⟩⟩
                case round =>
                  obtain ⟨k', op', hkk, hks', rfl, hop, hT2⟩ := hrel
                  obtain ⟨SO, SP, rO, rP, rA, rM⟩ := hT2.out.rows
                  obtain ⟨A8, c8, rfl, hc8, -⟩ := Kd.R_form rP
                  have RO9 := Sec.mk rO
                  have RP9 := Sec.mk rP
                  have RA9 := Sec.mk rA
                  have RM9 := Sec.mk rM
                  clear rO rP rA rM
                  by_cases hk8 : k' < s.size
                  · have m0 : (0 : Int) ≤ (k' : Int) := by omega
                    have m1 : (k' : Int) < (s.size : Int) := by omega
                    obtain ⟨q5, hq5⟩ : ∃ q, ((s[k'].toNat : Int) == 41) = q := ⟨_, rfl⟩
                    obtain ⟨q6, hq6⟩ : ∃ q, ((s[k'].toNat : Int) == 44) = q := ⟨_, rfl⟩
                    rcases Nat.eq_zero_or_pos op'.length with ho2 | hpos2
                    · obtain rfl := List.eq_nil_of_length_eq_zero ho2
                      clear ho2
                      cases q6 with
                      | true =>
                        cases q5 <;> (
                          go_wp2
                          go_roundw
                          case rel => exact ⟨k' + 1, _, [], by omega, by go_num, by rw [len2.out]; omega, by simp, hT2⟩
                          case measure => simp [intOf]; omega)
                      | false =>
                        cases q5 <;> (
                          go_wp2
                          go_roundw
                          case rel => exact ⟨k', _, [], by omega, rfl, by rw [len2.out]; omega, by simp, hT2⟩
                          case measure => simp [intOf]; omega)
                    · have n0 : (0 : Int) < (op'.length : Int) := by omega
                      cases q5 with
                      | true =>
                        obtain ⟨m8, hm8⟩ : ∃ m : Nat, op'.length = m + 1 := ⟨op'.length - 1, by omega⟩
                        have HM8 := Sec.mk hm8
                        have e8 : ((op'.length : Int) - 1) = (m8 : Int) := by omega
                        have e9 : IntKind.i64.wrap (m8 : Int) = (m8 : Int) := IntWalk.i64_in _ (by omega)
                        have n1 : (0 : Int) ≤ (m8 : Int) := by omega
                        have n2 : (m8 : Int) ≤ (c8 : Int) := by omega
                        clear hm8
                        go_wp2
                        go_roundw
                        case rel => exact ⟨k' + 1, op'.take m8, by omega, by omega, by go_num, by rw [List.length_take]; omega, ⟨⟨SO, SP, RO9.out, kInt_cut RP9.out m8 (by have := HM8.out; omega), RA9.out, RM9.out⟩, fun i hi => hT2.out.nums i (List.mem_of_mem_take hi), hT2.out.bel⟩⟩
                        case measure => simp [intOf]; omega
                      | false =>
                        cases q6 with
                        | true =>
                          go_wp2
                          go_roundw
                          case rel => exact ⟨k' + 1, _, op', by omega, by go_num, by rw [len2.out]; omega, by rw [len2.out]; omega, hT2⟩
                          case measure => simp [intOf]; omega
                        | false =>
                          go_wp2
                          go_roundw
                          case rel => exact ⟨k', _, op', by omega, rfl, by rw [len2.out]; omega, by rw [len2.out]; omega, hT2⟩
                          case measure => simp [intOf]; omega
                  · go_wp2
                    go_roundw
                    case rel => exact ⟨k', _, op', by omega, rfl, by rw [len2.out]; omega, by rw [len2.out]; omega, hT2⟩
                    case measure => simp [intOf]; omega
      · have q40 : decide ((out.length : Int) < 40) = false := decide_eq_false (by omega)
        have RO0 := hT.out.rows
        have BW := Sec.mk hT.out.bel
        obtain ⟨So, Sp, hRo, hRp, -, hmi⟩ := RO0
        obtain ⟨Ao, co, rfl, hco, -⟩ := Kd.R_form hRo
        obtain ⟨Ap, cp, rfl, -⟩ := Kd.R_form hRp
        have RO := Sec.mk hRo
        have MI := Sec.mk hmi
        clear hRo hRp hmi hT
        obtain ⟨q9, hq9⟩ : ∃ q, (s.toList == []) = q := ⟨_, rfl⟩
        go_wp2_with (go_at_call 222; refine (TrmText_c _ out _ _ (Kd.R_V RO.out)).mono ?_; rintro e w1 ⟨s2, rfl, hs2, hb⟩; have B1 := Sec.mk (bel BW.out hb); have RO1 := Sec.mk (Kd.R_below RO.out hb); obtain ⟨q7, hq7⟩ : ∃ q, (s2.toList == s.toList) = q := ⟨_, rfl⟩; clear hb)
        all_goals first
          | exact bodyPost_ret (v := .tuple #[.slice (some ⟨w1.heap.size, 0, none⟩) 0 0, .bool false]) (by simp [results, Tryz.results174, go_sem]) rfl ⟨_, [], false, rfl, by simp, Kd.R_mono (emptyR' kCell _ w1.heap.size rfl) (fun q h _ => by have := B1.out.size; have h1 : q = w1.heap.size := h; omega), belA B1.out _⟩
          | exact bodyPost_ret (v := .tuple #[.slice Ao out.length co, .bool true]) (by simp [results, Tryz.results174, go_sem]) rfl ⟨_, out, true, rfl, by omega, Kd.R_mono RO1.out (fun q h _ => (MI.out q (.inl h)).1), B1.out⟩
    · have q41 : ¬ ((a : Int) < (s.size : Int)) := by omega
      have RO0 := hT.out.rows
      have BW := Sec.mk hT.out.bel
      obtain ⟨So, Sp, hRo, hRp, -, hmi⟩ := RO0
      obtain ⟨Ao, co, rfl, hco, -⟩ := Kd.R_form hRo
      obtain ⟨Ap, cp, rfl, -⟩ := Kd.R_form hRp
      have RO := Sec.mk hRo
      have MI := Sec.mk hmi
      clear hRo hRp hmi hT
      obtain ⟨q9, hq9⟩ : ∃ q, (s.toList == []) = q := ⟨_, rfl⟩
      go_wp2_with (go_at_call 222; refine (TrmText_c _ out _ _ (Kd.R_V RO.out)).mono ?_; rintro e w1 ⟨s2, rfl, hs2, hb⟩; have B1 := Sec.mk (bel BW.out hb); have RO1 := Sec.mk (Kd.R_below RO.out hb); obtain ⟨q7, hq7⟩ : ∃ q, (s2.toList == s.toList) = q := ⟨_, rfl⟩; clear hb)
      all_goals first
        | exact bodyPost_ret (v := .tuple #[.slice (some ⟨w1.heap.size, 0, none⟩) 0 0, .bool false]) (by simp [results, Tryz.results174, go_sem]) rfl ⟨_, [], false, rfl, by simp, Kd.R_mono (emptyR' kCell _ w1.heap.size rfl) (fun q h _ => by have := B1.out.size; have h1 : q = w1.heap.size := h; omega), belA B1.out _⟩
        | exact bodyPost_ret (v := .tuple #[.slice Ao out.length co, .bool true]) (by simp [results, Tryz.results174, go_sem]) rfl ⟨_, out, true, rfl, by omega, Kd.R_mono RO1.out (fun q h _ => (MI.out q (.inl h)).1), B1.out⟩
end
end
end Go.Proofs.YtgiobpggonceeaaGreatDoor
