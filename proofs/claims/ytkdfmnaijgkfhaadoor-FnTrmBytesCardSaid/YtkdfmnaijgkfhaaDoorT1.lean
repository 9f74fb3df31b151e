/- Contracts: a term read from bytes, by the reference. -/
import Derived.Test.YtkdfmnaijgkfhaaDoorDraw4
import Derived.Deep.RegionHeld3
namespace Go.Proofs.YtkdfmnaijgkfhaaDoor
open Go.RowKit
set_option linter.unusedVariables false
set_option maxRecDepth 100000
theorem byteAt {w : World} {ok : Nat → Prop} {A : Option Addr} {xs : List UInt8} (h : kByte.C w ok A xs) (i : Nat) (hi : i < xs.length) : ∃ b off, A = some ⟨b, off, none⟩ ∧ ok b ∧ w.cell? ⟨b, off + i, none⟩ = some (.int .u8 (xs[i].toNat : Int)) := by
  obtain ⟨b, off, cs, hA, hb, hK, hc⟩ := Kd.C_get h (List.getElem?_eq_getElem hi)
  obtain ⟨rfl, _⟩ := hK
  refine ⟨b, off, hA, hb, ?_⟩
  have := hc 0 _ rfl
  rw [show i * kByte.sz + 0 = i from by simp [kByte, Kd.byte, Kd.scalar]] at this
  exact this
/-- The number that three bytes tell. -/
def numD (bs : List UInt8) (k : Nat) : Int := if h : k + 3 ≤ bs.length then (bs[k].toNat : Int) * 65536 + (bs[k + 1].toNat : Int) * 256 + (bs[k + 2].toNat : Int) - 99999 - 1 else 0
theorem wrapIn (n : Int) (h0 : -9223372036854775808 ≤ n) (h1 : n ≤ 9223372036854775807) : IntKind.i64.wrap n = n := by rw [IntKind.wrap_i64]; omega
set_option maxHeartbeats 1000000 in
theorem l6Num_c (v : Value) (bs : List UInt8) (ok : Nat → Prop) (k : Nat) (hk : k ≤ 1000000000) (w : World) (hV : kByte.V w ok v bs) :
    Calls Tryd.prog 96 #[v, .int .i64 k] w fun e w' => e = .returned (.tuple #[.int .i64 (numD bs k), .bool (decide (k + 3 ≤ bs.length))]) ∧ Below w.heap.size w w' := by
  obtain ⟨A, c, rfl, h1, h2, h3, hC, _⟩ := hV
  have HC := Sec.mk hC
  clear hC
  by_cases hlen : k + 3 ≤ bs.length
  · obtain ⟨b, off, rfl, hob, x0⟩ := byteAt HC.out k (by omega)
    obtain ⟨b', off', hA', _, x1⟩ := byteAt HC.out (k + 1) (by omega)
    simp only [Option.some.injEq, Addr.mk.injEq, and_true] at hA'
    obtain ⟨rfl, rfl⟩ := hA'
    obtain ⟨b', off', hA', _, x2⟩ := byteAt HC.out (k + 2) (by omega)
    simp only [Option.some.injEq, Addr.mk.injEq, and_true] at hA'
    obtain ⟨rfl, rfl⟩ := hA'
    have hN : Sec (numD bs k = _) := ⟨dif_pos hlen⟩
    have hd : Sec (decide (k + 3 ≤ bs.length) = true) := ⟨decide_eq_true hlen⟩
    generalize bs[k]'(by omega) = y0 at *
    generalize bs[k + 1]'(by omega) = y1 at *
    generalize bs[k + 2]'(by omega) = y2 at *
    have l0 : y0.toNat < 256 := y0.toNat_lt
    have l1 : y1.toNat < 256 := y1.toNat_lt
    have l2 : y2.toNat < 256 := y2.toNat_lt
    generalize y0.toNat = a0 at *
    generalize y1.toNat = a1 at *
    generalize y2.toNat = a2 at *
    generalize hn : bs.length = n at *
    have i0 : (0 : Int) ≤ (k : Int) := by omega
    have i1 : (k : Int) < (n : Int) := by omega
    obtain ⟨k1, hk1⟩ : ∃ k1 : Nat, k1 = k + 1 := ⟨_, rfl⟩
    obtain ⟨k2, hk2⟩ : ∃ k2 : Nat, k2 = k + 2 := ⟨_, rfl⟩
    rw [← hk1] at x1
    rw [← hk2] at x2
    have e1 : (k : Int) + 1 = (k1 : Int) := by omega
    have e2 : (k : Int) + 2 = (k2 : Int) := by omega
    have e3 : IntKind.i64.wrap (k1 : Int) = (k1 : Int) := wrapIn _ (by omega) (by omega)
    have e4 : IntKind.i64.wrap (k2 : Int) = (k2 : Int) := wrapIn _ (by omega) (by omega)
    have j0 : (0 : Int) ≤ (k1 : Int) := by omega
    have j1 : (k1 : Int) < (n : Int) := by omega
    have m0 : (0 : Int) ≤ (k2 : Int) := by omega
    have m1 : (k2 : Int) < (n : Int) := by omega
    have t1 : ¬ ((k : Int) < 0) := by omega
    have t2 : ¬ ((n : Int) - 3 < (k : Int)) := by omega
    have v0 : IntKind.i64.wrap (a0 : Int) = (a0 : Int) := wrapIn _ (by omega) (by omega)
    have v1 : IntKind.i64.wrap (a1 : Int) = (a1 : Int) := wrapIn _ (by omega) (by omega)
    have v2 : IntKind.i64.wrap (a2 : Int) = (a2 : Int) := wrapIn _ (by omega) (by omega)
    have v3 : IntKind.i64.wrap ((a0 : Int) * 65536) = (a0 : Int) * 65536 := wrapIn _ (by omega) (by omega)
    have v4 : IntKind.i64.wrap ((a1 : Int) * 256) = (a1 : Int) * 256 := wrapIn _ (by omega) (by omega)
    have v5 : IntKind.i64.wrap ((a0 : Int) * 65536 + (a1 : Int) * 256) = (a0 : Int) * 65536 + (a1 : Int) * 256 := wrapIn _ (by omega) (by omega)
    have v6 : IntKind.i64.wrap ((a0 : Int) * 65536 + (a1 : Int) * 256 + (a2 : Int)) = (a0 : Int) * 65536 + (a1 : Int) * 256 + (a2 : Int) := wrapIn _ (by omega) (by omega)
    have v7 : IntKind.i64.wrap ((a0 : Int) * 65536 + (a1 : Int) * 256 + (a2 : Int) - 99999) = (a0 : Int) * 65536 + (a1 : Int) * 256 + (a2 : Int) - 99999 := wrapIn _ (by omega) (by omega)
    have v8 : IntKind.i64.wrap ((a0 : Int) * 65536 + (a1 : Int) * 256 + (a2 : Int) - 99999 - 1) = (a0 : Int) * 65536 + (a1 : Int) * 256 + (a2 : Int) - 99999 - 1 := wrapIn _ (by omega) (by omega)
    clear hk1 hk2 hlen hob hn
    go_enter Tryd.func96, Tryd.ntmps96
    go_wp2
    go_region_held3 (fun W => W.cell? ⟨b, off + k, none⟩ = some (.int .u8 (a0 : Int)) ∧ W.cell? ⟨b, off + k1, none⟩ = some (.int .u8 (a1 : Int)) ∧ W.cell? ⟨b, off + k2, none⟩ = some (.int .u8 (a2 : Int))) (first | (refine ⟨?_, ?_, ?_⟩ <;> with_reducible assumption) | (simp only [World.cell?_drew]; refine ⟨?_, ?_, ?_⟩ <;> with_reducible assumption) | go_keep) (fail)
    all_goals
      go_wp2
      refine bodyPost_ret (v := .tuple #[.int .i64 ((a0 : Int) * 65536 + (a1 : Int) * 256 + (a2 : Int) - 99999 - 1), .bool true]) (by simp [results, Tryd.results96, go_sem]) rfl ?_
      exact ⟨by first | rw [hN.out, hd.out] | rw [hN.out], by first | exact Below.refl _ _ | exact belD (Below.refl _ _)⟩
  · have hN : Sec (numD bs k = 0) := ⟨dif_neg hlen⟩
    have hd : Sec (decide (k + 3 ≤ bs.length) = false) := ⟨decide_eq_false hlen⟩
    have t1 : ¬ ((k : Int) < 0) := by omega
    have t2 : ((bs.length : Int) - 3 < (k : Int)) := by omega
    go_enter Tryd.func96, Tryd.ntmps96
    go_wp2
    refine bodyPost_ret (v := .tuple #[.int .i64 0, .bool false]) (by simp [results, Tryd.results96, go_sem]) rfl ?_
    exact ⟨by first | rw [hN.out, hd.out] | rw [hN.out], Below.refl _ _⟩
end Go.Proofs.YtkdfmnaijgkfhaaDoor
