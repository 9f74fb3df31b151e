/- Contracts: the sum of bytes; and what goes with it. -/
import Derived.Test.YteflipoiiddkfaaGreatDoorMr2
import Derived.Test.YteflipoiiddkfaaGreatDoorMr3
import Derived.Test.YteflipoiiddkfaaGreatDoorMr5
import Derived.Test.YteflipoiiddkfaaGreatDoorMr7
import Derived.Deep.RegionHeld3
import Derived.Laws.MakeOwn
import Derived.Laws.IdiomStrings
namespace Go.Proofs.YteflipoiiddkfaaGreatDoor
section
open Go.RowKit
set_option linter.unusedVariables false
set_option maxRecDepth 100000
def sumStep (n : Int) (x : UInt8) : Int := (n * 257 + x.toNat) % 65521
def sumB (bs : List UInt8) : Int := bs.foldl sumStep 1
theorem sum_in : ∀ (bs : List UInt8) (n : Int), 0 ≤ n → n ≤ 65520 → 0 ≤ bs.foldl sumStep n ∧ bs.foldl sumStep n ≤ 65520
  | [], n, h1, h2 => ⟨h1, h2⟩
  | x :: bs, n, h1, h2 => sum_in bs _ (by unfold sumStep; omega) (by unfold sumStep; omega)
theorem specMsgSum_c (w : World) (v : Value) (bs : List UInt8) (ok : Nat → Prop) (hV : kByte.V w ok v bs) :
    Calls Tryz.prog 49 #[v] w fun e w' => e = .returned (.int .i64 (sumB bs)) ∧ w = w' := by
  obtain ⟨A, c, rfl, h1, h2, h3, hC, _⟩ := hV
  have HC := Sec.mk hC
  clear hC
  go_enter Tryz.func49, Tryz.ntmps49
  go_wp2
  go_loopw [3, 4] (fun v i wr => ∃ k : Nat, k ≤ bs.length ∧ i = .int .i64 k ∧ v = .int .i64 (sumB (bs.take k)) ∧ wr = w) (fun _ i _ => bs.length - (intOf i).toNat)
  case atStart => exact ⟨0, Nat.zero_le _, rfl, rfl, rfl⟩
  case round =>
    obtain ⟨k, hk, rfl, rfl, rfl⟩ := hrel
    obtain ⟨n0, n1⟩ := sum_in (bs.take k) 1 (by omega) (by omega)
    by_cases hlt : k < bs.length
    · obtain ⟨b, off, rfl, _, cb⟩ := byte_at HC.out k hlt
      have hx : (bs[k].toNat : Int) < 256 := by have := bs[k].toNat_lt; omega
      have hx0 : (0 : Int) ≤ bs[k].toNat := by omega
      have hs : Sec (sumB (bs.take (k + 1)) = (sumB (bs.take k) * 257 + bs[k].toNat) % 65521) := ⟨take_foldl sumStep 1 bs k hlt⟩
      have e : bs.foldl sumStep 1 = sumB bs := rfl
      change 0 ≤ sumB (bs.take k) at n0
      change sumB (bs.take k) ≤ 65520 at n1
      generalize sumB (bs.take k) = n at *
      generalize (bs[k].toNat : Int) = x at *
      have hm : (n * 257 + x).tmod 65521 = (n * 257 + x) % 65521 := Int.tmod_eq_emod_of_nonneg (by omega)
      go_wp2
      go_roundw
      case rel => exact ⟨k + 1, by omega, by go_num, by rw [hs.out], by simp⟩
      case measure => simp [intOf]; omega
    · have hs : Sec (sumB (bs.take k) = sumB bs) := ⟨by rw [List.take_of_length_le (by omega)]⟩
      go_wp2
      go_ret
      exact ⟨congrArg (fun z => Ending.returned (Value.int .i64 z)) hs.out, rfl⟩
theorem MsgSum_c (w : World) (v : Value) (bs : List UInt8) (ok : Nat → Prop) (hV : kByte.V w ok v bs) :
    Calls Tryz.prog 30 #[v] w fun e w' => e = .returned (.int .i64 (sumB bs)) ∧ w = w' := by
  obtain ⟨A, c, rfl, h1, h2, h3, hC, _⟩ := hV
  have HC := Sec.mk hC
  clear hC
  go_enter Tryz.func30, Tryz.ntmps30
  go_wp2
  go_loopw [3, 8] (fun v i wr => ∃ k : Nat, k ≤ bs.length ∧ i = .int .i64 k ∧ v = .int .i64 (sumB (bs.take k)) ∧ wr = w) (fun _ i _ => bs.length - (intOf i).toNat)
  case atStart => exact ⟨0, Nat.zero_le _, rfl, rfl, rfl⟩
  case round =>
    obtain ⟨k, hk, rfl, rfl, rfl⟩ := hrel
    obtain ⟨n0, n1⟩ := sum_in (bs.take k) 1 (by omega) (by omega)
    by_cases hlt : k < bs.length
    · obtain ⟨b, off, rfl, _, cb⟩ := byte_at HC.out k hlt
      have hx : (bs[k].toNat : Int) < 256 := by have := bs[k].toNat_lt; omega
      have hx0 : (0 : Int) ≤ bs[k].toNat := by omega
      have hs : Sec (sumB (bs.take (k + 1)) = (sumB (bs.take k) * 257 + bs[k].toNat) % 65521) := ⟨take_foldl sumStep 1 bs k hlt⟩
      change 0 ≤ sumB (bs.take k) at n0
      change sumB (bs.take k) ≤ 65520 at n1
      generalize sumB (bs.take k) = n at *
      generalize (bs[k].toNat : Int) = x at *
      have hm : (n * 257 + x).tmod 65521 = (n * 257 + x) % 65521 := Int.tmod_eq_emod_of_nonneg (by omega)
      go_wp2
      go_roundw
      case rel => exact ⟨k + 1, by omega, by go_num, by rw [hs.out], by simp⟩
      case measure => simp [intOf]; omega
    · have hs : Sec (sumB (bs.take k) = sumB bs) := ⟨by rw [List.take_of_length_le (by omega)]⟩
      go_wp2
      go_ret
      exact ⟨congrArg (fun z => Ending.returned (Value.int .i64 z)) hs.out, rfl⟩
end
section
open Go.RowKit
set_option linter.unusedVariables false
set_option maxRecDepth 100000
def cellBytes (x : Cell) : List UInt8 := u8 x.kind :: (num3 x.n ++ (if x.kind = 3 then u8 x.name.size :: x.name.data.toList else []))
def trmBytes (t : Term) : List UInt8 := if trmOk t = true then u8 t.length :: t.flatMap cellBytes else []
theorem cellOk_nums {x : Cell} (h : cellOk x = true) : 1 ≤ x.kind ∧ x.kind ≤ 3 ∧ -9999 ≤ x.n ∧ x.n ≤ 99999 := by
  unfold cellOk at h
  split at h
  · simp [inB] at h; omega
  · split at h
    · simp [inB] at h; omega
    · split at h
      · simp [inB] at h; omega
      · cases h
theorem cellOk_name {x : Cell} (h : cellOk x = true) (h3 : x.kind = 3) : x.name.size ≤ 8 := by
  unfold cellOk at h
  rw [if_neg (by omega), if_neg (by omega), if_pos h3] at h
  simp [nameOk] at h
  omega
theorem cellBytes_len {x : Cell} (h : cellOk x = true) : (cellBytes x).length ≤ 13 := by
  unfold cellBytes
  by_cases h3 : x.kind = 3
  · have := cellOk_name h h3
    have e : x.name.data.toList.length = x.name.size := by simp
    rw [if_pos h3]
    simp only [List.length_cons, List.length_append, num3, e, List.length_nil]
    omega
  · rw [if_neg h3]
    simp [num3]
theorem bytes_len : ∀ {t : Term}, t.all cellOk = true → (t.flatMap cellBytes).length ≤ 13 * t.length
  | [], _ => by simp
  | x :: t, h => by
    rw [List.all_cons, Bool.and_eq_true] at h
    have h1 := cellBytes_len h.1
    have h2 := bytes_len h.2
    rw [List.flatMap_cons, List.length_append, List.length_cons]
    omega
theorem trmOk_all {t : Term} (h : trmOk t = true) : t.length ≤ 40 ∧ t.all cellOk = true := by
  unfold trmOk at h
  simp only [Bool.and_eq_true, decide_eq_true_eq] at h
  exact ⟨h.1.1.2, h.1.2⟩
theorem trmBytes_len (t : Term) : (trmBytes t).length ≤ 600 := by
  unfold trmBytes
  split
  · next h =>
    obtain ⟨h1, h2⟩ := trmOk_all h
    have := bytes_len h2
    rw [List.length_cons]; omega
  · simp
theorem take_flat {α β : Type} (f : α → List β) (l : List α) (k : Nat) (h : k < l.length) : (l.take (k + 1)).flatMap f = (l.take k).flatMap f ++ f l[k] := by
  rw [List.take_succ_eq_append_getElem h, List.flatMap_append]; simp
def TB (w : World) (bs : List UInt8) (e : Ending) (w' : World) : Prop := ∃ u, e = .returned u ∧ kByte.R w' (fun k => w.heap.size ≤ k) u bs ∧ Below w.heap.size w w'
end
section
open Go.RowKit
set_option linter.unusedVariables false
set_option maxRecDepth 100000
theorem made_ (t e : TypeId) (z : Value) (size bytes : Nat) (ht : Tryz.prog.underlying t = some (.slice e)) (hinfo : (Tryz.prog.info? e).map (fun i => (i.zero, i.size, i.bytes)) = some (some z, size, bytes)) (hb : bytes ≤ 1000) (n : Nat) (hn : n ≤ 1073741824) (w : World) :
    (Instr.makeSlice t (.int .i64 (n : Int)) (.int .i64 (n : Int))).run Tryz.prog w = .ok (.slice (some ⟨w.heap.size, 0, none⟩) n n) (w.alloc (.cells (madeCells z.cells (n * size)) e)) := by
  obtain ⟨i0, hi, hzz⟩ := Option.map_eq_some_iff.1 hinfo
  simp only [Prod.mk.injEq] at hzz
  obtain ⟨hz0, rfl, rfl⟩ := hzz
  have hbb : (i0.bytes : Int) * (n : Int) ≤ 281474976710656 := by
    have h1 : i0.bytes * n ≤ 1000 * 1073741824 := Nat.mul_le_mul hb hn
    have h2 : ((i0.bytes * n : Nat) : Int) ≤ 281474976710656 := by omega
    rwa [Int.natCast_mul] at h2
  have hr := run_make (P := Tryz.prog) w t e i0 z ht hi hz0 .i64 .i64 n n (by omega) (by omega) hbb (by omega)
  simp only [Int.toNat_natCast] at hr
  exact hr
theorem big3_c (n : Int) (h0 : 0 ≤ n) (h1 : n < 16777216) (w : World) :
    Calls Tryz.prog 29 #[.int .i64 n, .int .i64 3] w fun e w' => ∃ u, e = .returned u ∧ kByte.R w' (fun k => w.heap.size ≤ k) u [u8 (n / 65536), u8 (n / 256 % 256), u8 (n % 256)] ∧ Below w.heap.size w w' := by
  have hmk : (Instr.makeSlice 28 (.int .i64 3) (.int .i64 3)).run Tryz.prog w = .ok (.slice (some ⟨w.heap.size, 0, none⟩) 3 3) (w.alloc (.cells #[.int .u8 0, .int .u8 0, .int .u8 0] 5)) := by
    have h := made_ 28 5 (.int .u8 0) 1 1 Tryz.underlying28 (by kernel_rfl) (by decide) 3 (by decide) w
    have e : madeCells (Value.int .u8 0).cells (3 * 1) = #[.int .u8 0, .int .u8 0, .int .u8 0] := Array.toList_inj.1 ((Kd.made_toList #[.int .u8 0] 3).trans rfl)
    rw [e] at h
    exact h
  go_enter Tryz.func29, Tryz.ntmps29
  go_wp2
  clear hmk
  go_loopw [11] (fun iv wr => ∃ (k : Nat) (a b c : Int), k ≤ 3 ∧ iv = .int .i64 k ∧ wr = w.alloc (.cells #[.int .u8 a, .int .u8 b, .int .u8 c] 5) ∧ Sec (k = 0 ∧ a = 0 ∧ b = 0 ∧ c = 0 ∨ k = 1 ∧ a = 0 ∧ b = 0 ∧ c = n % 256 ∨ k = 2 ∧ a = 0 ∧ b = n / 256 % 256 ∧ c = n % 256 ∨ k = 3 ∧ a = n / 65536 ∧ b = n / 256 % 256 ∧ c = n % 256)) (fun iv _ => 3 - (intOf iv).toNat)
  case atStart => exact ⟨0, 0, 0, 0, by omega, rfl, rfl, ⟨.inl ⟨rfl, rfl, rfl, rfl⟩⟩⟩
  case round =>
    obtain ⟨k, a, b, c, hk, rfl, rfl, hS⟩ := hrel
    obtain rfl | rfl | rfl | rfl : k = 0 ∨ k = 1 ∨ k = 2 ∨ k = 3 := by omega
    · go_wp2
      go_roundw
      case rel => exact ⟨1, a, b, n % 256, by omega, rfl, rfl, ⟨.inr (.inl (by have := hS.out; omega))⟩⟩
      case measure => simp [intOf]
    · go_wp2
      go_roundw
      case rel => exact ⟨2, a, n / 256 % 256, c, by omega, rfl, rfl, ⟨.inr (.inr (.inl (by have := hS.out; omega)))⟩⟩
      case measure => simp [intOf]
    · go_wp2
      go_roundw
      case rel => exact ⟨3, n / 65536, b, c, by omega, rfl, rfl, ⟨.inr (.inr (.inr (by have := hS.out; omega)))⟩⟩
      case measure => simp [intOf]
    · obtain ⟨rfl, rfl, rfl⟩ : a = n / 65536 ∧ b = n / 256 % 256 ∧ c = n % 256 := by have := hS.out; omega
      go_wp2
      go_ret
      refine ⟨_, rfl, ?_, belA (Below.refl _ _) _⟩
      have hR := kByte_new w w.heap.size (Nat.le_refl _) [n / 65536, n / 256 % 256, n % 256] (by simp)
      have e1 : IntKind.u8.wrap (n / 65536) = n / 65536 := by rw [IntKind.wrap_u8']; omega
      have e2 : IntKind.u8.wrap (n / 256 % 256) = n / 256 % 256 := by rw [IntKind.wrap_u8']; omega
      have e3 : IntKind.u8.wrap (n % 256) = n % 256 := by rw [IntKind.wrap_u8']; omega
      simp only [List.map_cons, List.map_nil, e1, e2, e3] at hR
      exact hR
theorem number_c (n : Int) (h0 : -9999 ≤ n) (h1 : n ≤ 99999) (w : World) :
    Calls Tryz.prog 27 #[.int .i64 n] w fun e w' => ∃ u, e = .returned u ∧ kByte.R w' (fun k => w.heap.size ≤ k) u (num3 n) ∧ Below w.heap.size w w' := by
  go_enter Tryz.func27, Tryz.ntmps27
  go_wp2_with (go_at_call 29; refine (big3_c (n + 99999 + 1) (by omega) (by omega) _).mono ?_; rintro e w1 ⟨u, rfl, hR, hb⟩; have HR := Sec.mk hR; have HB := Sec.mk hb; clear hR hb)
  go_ret
  exact ⟨_, rfl, HR.out, HB.out⟩
/-- A block's cells. -/
theorem box_at' {w w' : World} {b : Nat} {cs : Array Value} {t : TypeId} (hB : Below w.heap.size w w') (h : w.heap[b]? = some (.cells cs t (0, 0))) : (∀ j u, cs[j]? = some u → w'.cell? ⟨b, j, none⟩ = some u) ∧ ∀ j, w'.frozen? ⟨b, j, none⟩ = false := by
  have h' := (hB.block b (Array.getElem?_eq_some_iff.1 h).1).trans h
  exact ⟨fun j u hj => by rw [cell_of_row w' b _ cs t (0, 0) h']; exact hj, fun j => by simp [World.frozen?, h']⟩
/-- append(v, y...) of bytes, y's memory apart. -/
theorem B_own {P : Program} {ops : Array Oper} {rest : List Oper} {o : Oper} {a : Act} {Q : Exit → Act → World → Prop} {S T : Nat → Prop} {W : World} (hgd : o.guard = none) (s x : Operand) (t : TypeId)
    (ho : o.op = .call { callee := .builtin .append, args := #[s, x], argTypes := #[t, t] })
    (ht : P.underlying t = some (.slice 5)) (hinfo : (P.info? 5).map (fun i => (i.zero, i.size, i.bytes)) = some (some (.int .u8 0), 1, 1))
    (v u : Value) (xs ys : List UInt8) (hs : a.eval s = v) (hx : a.eval x = u) (HO : kByte.R W S v xs) (hy : kByte.V W T u ys) (hd : ∀ k, T k → ¬ S k)
    (hl : xs.length + ys.length ≤ 1073741824)
    (h : ∀ v1 w1, kByte.R w1 (fun k => S k ∨ W.heap.size ≤ k) v1 (xs ++ ys) → W.grownBy w1 v.ownBlock → (∀ k, v.ownBlock = some k → S k) → wpList P ops Q rest (a.put o.dst v1) w1) :
    wpList P ops Q (o :: rest) a W := by
  obtain ⟨_, _, _, h3⟩ := Kd.R_own HO
  refine Kd.W_cat kByte hgd s x t (.int .u8 0) 1 ho ht hinfo rfl (by decide) (by decide) v u xs ys S T hs hx (kByte_R_W _ HO) (Kd.V_mono hy (fun k hk => ⟨hk, fun e => hd k hk (h3 k e.symm).1⟩) (by decide)) hl ?_
  intro v1 w1 h1 hg
  exact h v1 w1 (kByte_W_R h1) hg (fun k e => (h3 k e).1)
/-- append(v, n), a byte. -/
theorem B_put {P : Program} {ops : Array Oper} {rest : List Oper} {o : Oper} {a : Act} {Q : Exit → Act → World → Prop} {S : Nat → Prop} {W : World} (hgd : o.guard = none) (s x : Operand) (t : TypeId)
    (ho : o.op = .call { callee := .builtin .append, args := #[s, x], argTypes := #[t, t] })
    (ht : P.underlying t = some (.slice 5)) (hinfo : (P.info? 5).map (fun i => (i.zero, i.size, i.bytes)) = some (some (.int .u8 0), 1, 1))
    (v : Value) (xs : List UInt8) (n : Int) (hs : a.eval s = v) {N : Nat} (hx : a.eval x = .slice (some ⟨N, 0, none⟩) 1 1) (hN : N = W.heap.size) (HO : kByte.R W S v xs)
    (hl : xs.length + 1 ≤ 1073741824)
    (h : ∀ v1 w1, kByte.R w1 (fun k => S k ∨ W.heap.size ≤ k) v1 (xs ++ [u8 n]) → W.grownBy w1 v.ownBlock → (∀ k, v.ownBlock = some k → S k) → wpList P ops Q rest (a.put o.dst v1) w1) :
    wpList P ops Q (o :: rest) a (W.alloc (.cells #[.int .u8 (IntKind.u8.wrap n)] 5)) := by
  subst hN
  obtain ⟨_, _, _, h3⟩ := Kd.R_own HO
  exact Kd.R_append kByte hgd s x t (.int .u8 0) 1 ho ht hinfo rfl (by decide) (by decide) v xs (u8 n) [.int .u8 (IntKind.u8.wrap n)] S (fun _ => False) hs hx HO (kByte_O _ _ n) (fun k h1 _ _ => h1) hl
    (fun v1 w1 h1 hg => h v1 w1 (Kd.R_mono h1 (fun k hk _ => hk.elim .inl (fun hk => hk.elim False.elim .inr))) hg (fun k e => (h3 k e).1))
theorem Foot.grown {S : Nat → Prop} {w0 W w1 : World} {row : Option Nat} (h : Foot S w0 W) (hg : W.grownBy w1 row) (hr : ∀ k, row = some k → S k ∨ w0.heap.size ≤ k) : Foot S w0 w1 :=
  ⟨hg.os.trans h.os, hg.tape.trans h.tape, hg.output.trans h.output, Nat.le_trans h.size hg.size, fun k hk hn => (hg.block k (Nat.lt_of_lt_of_le hk h.size) (fun e => (hr k e.symm).elim hn (fun e => by omega))).trans (h.block k hk hn)⟩
theorem carry_ {S : Nat → Prop} {w W : World} {b : Nat} {o : Obj} (h : Foot S w W) (hb : w.heap[b]? = some o) (hS : ¬ S b) : W.heap[b]? = some o := (h.block b (Array.getElem?_eq_some_iff.1 hb).1 hS).trans hb
end
section
open Go.RowKit
set_option linter.unusedVariables false
set_option maxRecDepth 100000
/-- A body in a frame. -/
def frameO (bs : List UInt8) : List UInt8 := [u8 ((bs.length : Int) / 256), u8 ((bs.length : Int) % 256)] ++ bs
def frameB (bs : List UInt8) : List UInt8 := frameO bs ++ [u8 (sumB (frameO bs) / 256), u8 (sumB (frameO bs) % 256)]
theorem sumB_in (bs : List UInt8) : 0 ≤ sumB bs ∧ sumB bs ≤ 65520 := sum_in bs 1 (by omega) (by omega)
theorem frameO_len (bs : List UInt8) : (frameO bs).length = bs.length + 2 := by simp [frameO]
def TBq (w : World) (bs : List UInt8) (e : Ending) (w' : World) : Prop := ∃ u, e = .returned u ∧ kByte.R w' (fun k => w.heap.size ≤ k) u bs ∧ Below w.heap.size w w'
theorem big2_c (n : Int) (h0 : 0 ≤ n) (h1 : n < 65536) (w : World) :
    Calls Tryz.prog 29 #[.int .i64 n, .int .i64 2] w (TBq w [u8 (n / 256), u8 (n % 256)]) := by
  have hmk : (Instr.makeSlice 28 (.int .i64 2) (.int .i64 2)).run Tryz.prog w = .ok (.slice (some ⟨w.heap.size, 0, none⟩) 2 2) (w.alloc (.cells #[.int .u8 0, .int .u8 0] 5)) := by
    have h := made_ 28 5 (.int .u8 0) 1 1 Tryz.underlying28 (by kernel_rfl) (by decide) 2 (by decide) w
    have e : madeCells (Value.int .u8 0).cells (2 * 1) = #[.int .u8 0, .int .u8 0] := Array.toList_inj.1 ((Kd.made_toList #[.int .u8 0] 2).trans rfl)
    rw [e] at h
    exact h
  go_enter Tryz.func29, Tryz.ntmps29
  go_wp2
  clear hmk
  go_loopw [11] (fun iv wr => ∃ (k : Nat) (a b : Int), k ≤ 2 ∧ iv = .int .i64 k ∧ wr = w.alloc (.cells #[.int .u8 a, .int .u8 b] 5) ∧ Sec (k = 0 ∧ a = 0 ∧ b = 0 ∨ k = 1 ∧ a = 0 ∧ b = n % 256 ∨ k = 2 ∧ a = n / 256 ∧ b = n % 256)) (fun iv _ => 2 - (intOf iv).toNat)
  case atStart => exact ⟨0, 0, 0, by omega, rfl, rfl, ⟨.inl ⟨rfl, rfl, rfl⟩⟩⟩
  case round =>
    obtain ⟨k, a, b, hk, rfl, rfl, hS⟩ := hrel
    obtain rfl | rfl | rfl : k = 0 ∨ k = 1 ∨ k = 2 := by omega
    · go_wp2
      go_roundw
      case rel => exact ⟨1, a, n % 256, by omega, rfl, rfl, ⟨.inr (.inl (by have := hS.out; omega))⟩⟩
      case measure => simp [intOf]
    · go_wp2
      go_roundw
      case rel => exact ⟨2, n / 256, b, by omega, rfl, rfl, ⟨.inr (.inr (by have := hS.out; omega))⟩⟩
      case measure => simp [intOf]
    · obtain ⟨rfl, rfl⟩ : a = n / 256 ∧ b = n % 256 := by have := hS.out; omega
      go_wp2
      go_ret
      refine ⟨_, rfl, ?_, belA (Below.refl _ _) _⟩
      have hR := kByte_new w w.heap.size (Nat.le_refl _) [n / 256, n % 256] (by simp)
      have e1 : IntKind.u8.wrap (n / 256) = n / 256 := by rw [IntKind.wrap_u8']; omega
      have e2 : IntKind.u8.wrap (n % 256) = n % 256 := by rw [IntKind.wrap_u8']; omega
      simp only [List.map_cons, List.map_nil, e1, e2] at hR
      exact hR
section
variable {o : Oper} {a : Act} {w : World} {K : Act → World → Prop} {Q : Exit → Act → World → Prop} {E : Prop} {ops : Array Oper}
/-- append(v, y...) of bytes, as a step. -/
theorem step_bytes {S ok : Nat → Prop} (hg : o.guard = none) (s x : Operand) (ho : o.op = .call { callee := .builtin .append, args := #[s, x], argTypes := #[28, 28] })
    {v u : Value} {xs ys : List UInt8} (hs : a.eval s = v) (hx : a.eval x = u) (HR : kByte.R w S v xs) (HV : kByte.V w ok u ys) (hd : ∀ k, ok k → ¬ S k) (hl : xs.length + ys.length ≤ 1073741824)
    (hk : ∀ v1 w1, kByte.R w1 (fun k => S k ∨ (w.heap.size ≤ k ∧ k < w1.heap.size)) v1 (xs ++ ys) → Foot S w w1 → K (a.put o.dst v1) w1) : if Region.wanted o (yielded ops a.tmps) = true then Oper.wp Tryz.prog o a w K Q else E := by
  refine step_of hg (fun Q9 h9 => ?_)
  refine B_own hg s x 28 ho Tryz.underlying28 info_byte v u xs ys hs hx HR HV hd hl ?_
  intro v1 w1 h1 hg1 hr1
  exact h9 _ _ (hk v1 w1 (Kd.R_mono h1 (fun k h1 h2 => h1.imp id (fun h => ⟨h, h2⟩))) (Foot.of_grown hg1 hr1))
end
end
section
open Go.RowKit
set_option linter.unusedVariables false
set_option maxRecDepth 100000
set_option maxHeartbeats 2000000 in
theorem TrmBytes_i (w : World) (v : Value) (t : Term) (ok : Nat → Prop) (hV : kCell.V w ok v t) :
    Calls Tryz.prog 28 #[v] w (TB w (trmBytes t)) := by
  have hu := Tryz.underlying77
  have H0 := Sec.mk (TrmOk_i v t ok w hV)
  obtain ⟨A, c, rfl, h1, h2, h3, hC, hz⟩ := hV
  have HC := Sec.mk hC
  clear hC hz
  by_cases hT : trmOk t = true
  · have ha := Sec.mk (trmOk_all hT)
    have hres : Sec (trmBytes t = u8 t.length :: t.flatMap cellBytes) := ⟨if_pos hT⟩
    rw [hT] at H0
    clear hT
    go_enter Tryz.func28, Tryz.ntmps28
    go_wp2_with fail
    refine H0.out.mono ?_
    rintro e w1 ⟨rfl, hb1⟩
    have B1 := Sec.mk hb1
    clear hb1
    go_wp2
    go_loopw [3, 15] (fun v i wr => ∃ k : Nat, k ≤ t.length ∧ i = .int .i64 k ∧ Sec (kByte.R wr (fun k => w.heap.size ≤ k) v (u8 t.length :: (t.take k).flatMap cellBytes)) ∧ Sec (Below w.heap.size w wr)) (fun _ i _ => t.length - (intOf i).toNat)
    case atStart => exact ⟨0, Nat.zero_le _, rfl, ⟨kByte_new w1 w.heap.size B1.out.size [t.length] (by simp)⟩, ⟨belA B1.out _⟩⟩
    case round =>
      obtain ⟨k, hk, rfl, hR, hb⟩ := hrel
      by_cases hlt : k < t.length
      · obtain ⟨b, off, rfl, hob, c0, c1, c2, hnm⟩ := cell_at (Kd.C_below HC.out hb.out (by decide)) k hlt
        have hok : Sec (cellOk t[k] = true) := ⟨List.all_eq_true.1 ha.out.2 _ (List.getElem_mem hlt)⟩
        have hlen : Sec ((u8 t.length :: (t.take k).flatMap cellBytes).length ≤ 521) := ⟨by
          have h1 := ha.out.1
          have h2 := bytes_len (t := t.take k) (List.all_eq_true.2 fun x hx => List.all_eq_true.1 ha.out.2 x (List.mem_of_mem_take hx))
          rw [List.length_take] at h2
          rw [List.length_cons]; omega⟩
        have hT2 : Sec (u8 t.length :: (t.take (k + 1)).flatMap cellBytes = (u8 t.length :: (t.take k).flatMap cellBytes) ++ cellBytes t[k]) := ⟨by rw [take_flat _ _ _ hlt]; rfl⟩
        have hnum := Sec.mk (cellOk_nums hok.out)
        generalize t[k] = x at *
        generalize hbs : u8 t.length :: (t.take k).flatMap cellBytes = bs at *
        clear hbs
        obtain ⟨A9, c9, hv9, _⟩ := Kd.R_form hR.out
        subst hv9
        have hat : Sec (∀ W : World, W.heap[wr.heap.size]? = some (.cells #[.int .i64 x.kind, .int .i64 x.n, .string x.name] 77 (0, 0)) → W.cell? ⟨wr.heap.size, 0, none⟩ = some (.int .i64 x.kind) ∧ W.cell? ⟨wr.heap.size, 1, none⟩ = some (.int .i64 x.n) ∧ W.cell? ⟨wr.heap.size, 2, none⟩ = some (.string x.name)) := ⟨fun W h => by
          have X := (box_at' (Below.refl _ _) h).1
          exact ⟨X 0 _ rfl, X 1 _ rfl, X 2 _ rfl⟩⟩
        have P0 := Sec.mk (heap_alloc_new wr (.cells #[.int .i64 x.kind, .int .i64 x.n, .string x.name] 77))
        have R0 := Sec.mk (Kd.R_below (Kd.R_mono hR.out (S1 := fun k => w.heap.size ≤ k ∧ k < wr.heap.size) (fun k h1 h2 => ⟨h1, h2⟩)) (belA (Below.refl wr.heap.size wr) (.cells #[.int .i64 x.kind, .int .i64 x.n, .string x.name] 77)))
        have B0 := Sec.mk (belA hb.out (.cells #[.int .i64 x.kind, .int .i64 x.n, .string x.name] 77))
        have Z0 : Sec ((wr.alloc (.cells #[.int .i64 x.kind, .int .i64 x.n, .string x.name] 77)).heap.size = wr.heap.size + 1 ∧ w.heap.size ≤ wr.heap.size) := ⟨by simp, hb.out.size⟩
        have T0 : Sec True := ⟨trivial⟩
        go_wp2
        clear c0 c1 c2 hob
        obtain ⟨y0, y1, y2⟩ := hat.out _ P0.out
        generalize wr.alloc (.cells #[.int .i64 x.kind, .int .i64 x.n, .string x.name] 77) = w0 at *
        generalize wr.heap.size = bx at *
        go_region_held3 (fun W => W.cell? ⟨bx, 0, none⟩ = some (.int .i64 x.kind) ∧ W.cell? ⟨bx, 1, none⟩ = some (.int .i64 x.n) ∧ W.cell? ⟨bx, 2, none⟩ = some (.string x.name)) (first | (refine ⟨?_, ?_, ?_⟩ <;> assumption) | go_keep) (first
            | (clear T0; refine step_of rfl (fun Q9 h9 => ?_); refine B_put (W := w0.drew) rfl (.tmp 19) (.tmp 23) 28 rfl Tryz.underlying28 info_byte _ bs x.kind (by rfl) (by rfl) (by rfl) (Kd.R_below R0.out (belD (Below.refl _ _))) (by have := hlen.out; omega) ?_; intro v1 w2 hR1 hg1 hr1; have TA : Sec True := ⟨trivial⟩; have FA : Sec (Foot (fun k => w.heap.size ≤ k ∧ k < bx) w0 w2) := ⟨Foot.grown (Foot.of_below (belD (Below.refl _ _))) hg1 (fun k e => .inl (hr1 k e))⟩; have PA := Sec.mk (carry_ FA.out P0.out (fun h => Nat.lt_irrefl _ h.2)); have RA : Sec (kByte.R w2 (fun k => (w.heap.size ≤ k ∧ k < bx ∨ w0.heap.size ≤ k) ∧ k < w2.heap.size) v1 (bs ++ [u8 x.kind])) := ⟨Kd.R_mono hR1 (fun k h1 h2 => ⟨h1, h2⟩)⟩; clear y0 y1 y2; obtain ⟨y0, y1, y2⟩ := hat.out _ PA.out; clear hR1 hg1 hr1; refine h9 _ _ ?_; clear h9 Q9)
            | (clear TA; go_at_call 27; have TC : Sec True := ⟨trivial⟩; refine (number_c x.n (by have := hnum.out; omega) (by have := hnum.out; omega) _).mono ?_; rintro e w3 ⟨u3, rfl, hR3, hb3⟩; have hb2 : Below w2.heap.size w2 w3 := (by first | exact hb3 | exact bel (belD (Below.refl w2.heap.size w2)) hb3); have FC : Sec (Foot (fun k => w.heap.size ≤ k ∧ k < bx) w0 w3) := ⟨Foot.trans FA.out (Foot.of_below (S := fun _ => False) hb2) (fun _ _ h => h.elim)⟩; have PC := Sec.mk (carry_ FC.out P0.out (fun h => Nat.lt_irrefl _ h.2)); have RC := Sec.mk (Kd.R_below RA.out hb2); have NC : Sec (kByte.R w3 (fun k => w2.heap.size ≤ k) u3 (num3 x.n)) := ⟨hR3⟩; obtain ⟨A3, c3, rfl, -⟩ := Kd.R_form hR3; clear y0 y1 y2; obtain ⟨y0, y1, y2⟩ := hat.out _ PC.out; clear hR3 hb3 hb2)
            | (clear TC; refine step_of rfl (fun Q9 h9 => ?_); refine B_own rfl (.tmp 24) (.tmp 27) 28 rfl Tryz.underlying28 info_byte _ _ (bs ++ [u8 x.kind]) (num3 x.n) (by rfl) (by rfl) (by first | exact RC.out | exact Kd.R_below RC.out (belD (Below.refl _ _))) (by first | exact Kd.R_V NC.out | exact Kd.V_below (Kd.R_V NC.out) (belD (Below.refl _ _)) (by decide)) (fun k h1 h2 => by omega) (by have := hlen.out; simp [num3]; omega) ?_; intro v5 w5 hR5 hg5 hr5; have T5 : Sec True := ⟨trivial⟩; have F5 : Sec (Foot (fun k => w.heap.size ≤ k ∧ k < bx) w0 w5) := ⟨Foot.grown (by first | exact FC.out | exact Foot.trans FC.out (Foot.of_below (S := fun _ => False) (belD (Below.refl w3.heap.size w3))) (fun _ _ h => h.elim)) hg5 (fun k e => (hr5 k e).1)⟩; have P5 := Sec.mk (carry_ F5.out P0.out (fun h => Nat.lt_irrefl _ h.2)); have R5 : Sec (kByte.R w5 (fun k => w.heap.size ≤ k ∧ k ≠ bx) v5 (bs ++ [u8 x.kind] ++ num3 x.n)) := ⟨Kd.R_mono hR5 (fun k h _ => by have z1 := FC.out.size; have z2 := Z0.out; have h' : ((w.heap.size ≤ k ∧ k < bx ∨ w0.heap.size ≤ k) ∧ k < w2.heap.size) ∨ w3.heap.size ≤ k := h; omega)⟩; have B5 : Sec (Below w.heap.size w w5) := ⟨F5.out.below B0.out (fun k h => h.1)⟩; clear y0 y1 y2; obtain ⟨y0, y1, y2⟩ := hat.out _ P5.out; clear hR5 hg5 hr5; refine h9 _ _ ?_; clear h9 Q9))
        all_goals
          have L3 : Sec ((bs ++ [u8 x.kind] ++ num3 x.n).length ≤ 540) := ⟨by have := hlen.out; simp [num3]; omega⟩
          obtain ⟨A5, c5, hv5, -⟩ := Kd.R_form R5.out
          subst hv5
          by_cases hx : x.kind = 3
          · have hx' : (x.kind == 3) = true := beq_iff_eq.2 hx
            have hcb : Sec (cellBytes x = u8 x.kind :: (num3 x.n ++ u8 x.name.size :: x.name.data.toList)) := ⟨by unfold cellBytes; rw [if_pos hx]⟩
            have hn8 := Sec.mk (cellOk_name hok.out hx)
            have hT3 : Sec (∀ ys, bs ++ [u8 x.kind] ++ num3 x.n ++ [u8 x.name.size] ++ ys = bs ++ (u8 x.kind :: (num3 x.n ++ u8 x.name.size :: ys))) := ⟨fun ys => by simp⟩
            generalize bs ++ [u8 x.kind] ++ num3 x.n = b3 at *
            have L4 : Sec ((b3 ++ [u8 x.name.size]).length ≤ 541) := ⟨by have := L3.out; simp; omega⟩
            clear hx
            go_wp2
            go_region_held3 (fun W => W.cell? ⟨bx, 2, none⟩ = some (.string x.name)) (first | assumption | go_keep) (first
              | (clear T5; refine step_of rfl (fun Q9 h9 => ?_); refine B_put (W := w5.drew) rfl (.tmp 32) (.tmp 37) 28 rfl Tryz.underlying28 info_byte _ b3 x.name.size (by rfl) (by rfl) (by rfl) (Kd.R_below R5.out (belD (Below.refl _ _))) (by have := L3.out; omega) ?_; intro v6 w6 hR6 hg6 hr6; have T6 : Sec True := ⟨trivial⟩; have F6 : Sec (Foot (fun k => w.heap.size ≤ k ∧ k ≠ bx) w5 w6) := ⟨Foot.grown (Foot.of_below (belD (Below.refl _ _))) hg6 (fun k e => .inl (hr6 k e))⟩; have P6 := Sec.mk (carry_ F6.out P5.out (fun h => h.2 rfl)); have R6 := Sec.mk (Kd.R_mono hR6 (S1 := fun k => (w.heap.size ≤ k ∧ k ≠ bx) ∨ w5.heap.size ≤ k) (fun k h _ => h)); have B6 : Sec (Below w.heap.size w w6) := ⟨F6.out.below B5.out (fun k h => h.1)⟩; clear y0 y1 y2; obtain ⟨y0, y1, y2⟩ := hat.out _ P6.out; clear hR6 hg6 hr6; refine h9 _ _ ?_; clear h9 Q9)
              | (clear T6; refine step_of rfl (fun Q9 h9 => ?_); refine B_str (B := w.heap.size) rfl (.tmp 38) (.tmp 40) 28 9 rfl Tryz.underlying28 (by kernel_rfl) info_byte _ _ x.name (by rfl) (by rfl) (Kd.R_mono (S := fun k => (w.heap.size ≤ k ∧ k ≠ bx) ∨ w5.heap.size ≤ k) (by first | exact R6.out | exact Kd.R_below R6.out (belD (Below.refl _ _))) (fun k h _ => by have z := B5.out.size; omega)) (by first | exact B6.out.size | exact (belD B6.out).size) (by have := L4.out; have := hn8.out; omega) ?_; intro v7 w7 hR7 hg7 hr7; have T7 : Sec True := ⟨trivial⟩; have P7 : Sec (w7.heap[bx]? = _) := ⟨(hg7.block bx (Array.getElem?_eq_some_iff.1 P6.out).1 (fun e => by obtain ⟨_, _, _, h3⟩ := Kd.R_own R6.out; have h4 := (h3 bx e.symm).1; have z := F5.out.size; have z2 := Z0.out; omega)).trans P6.out⟩; have R7 := Sec.mk hR7; have B7 : Sec (Below w.heap.size w w7) := ⟨by first | exact B6.out.grown hg7 B6.out.size hr7 | exact (belD B6.out).grown hg7 (belD B6.out).size hr7⟩; clear y0 y1 y2; obtain ⟨y0, y1, y2⟩ := hat.out _ P7.out; clear hR7 hg7 hr7; refine h9 _ _ ?_; clear h9 Q9))
            all_goals
              go_wp2
              go_roundw
              case rel => exact ⟨k + 1, by omega, by go_num, ⟨by rw [hT2.out, hcb.out, ← hT3.out]; exact R7.out⟩, B7⟩
              case measure => simp [intOf]; omega
          · have hx' : (x.kind == 3) = false := beq_eq_false_iff_ne.2 hx
            have hcb : Sec (cellBytes x = u8 x.kind :: num3 x.n) := ⟨by unfold cellBytes; rw [if_neg hx, List.append_nil]⟩
            clear hx
            go_wp2
            go_roundw
            case rel => exact ⟨k + 1, by omega, by go_num, ⟨by rw [hT2.out, hcb.out]; have := Kd.R_mono R5.out (S1 := fun k => w.heap.size ≤ k) (fun k h _ => h.1); simpa using this⟩, B5⟩
            case measure => simp [intOf]; omega
      · have hk' : Sec (t.flatMap cellBytes = (t.take k).flatMap cellBytes) := ⟨by rw [List.take_of_length_le (by omega)]⟩
        go_wp2
        go_ret
        exact ⟨_, rfl, by rw [hres.out, hk'.out]; exact hR.out, hb.out⟩
  · have hT' : trmOk t = false := by simpa using hT
    have hres : Sec (trmBytes t = []) := ⟨if_neg hT⟩
    rw [hT'] at H0
    clear hT hT'
    go_enter Tryz.func28, Tryz.ntmps28
    go_wp2_with fail
    refine H0.out.mono ?_
    rintro e w1 ⟨rfl, hb1⟩
    have B1 := Sec.mk hb1
    clear hb1
    go_wp2
    go_ret
    exact ⟨_, rfl, by rw [hres.out]; exact Kd.R_nil _ _ _, B1.out⟩
end
section
open Go.RowKit
theorem carry {S : Nat → Prop} {w W : World} {b : Nat} {o : Obj} (h : Foot S w W) (hb : w.heap[b]? = some o) (hS : ¬ S b) : W.heap[b]? = some o := (h.block b (Array.getElem?_eq_some_iff.1 hb).1 hS).trans hb
theorem carryB {w W : World} {b : Nat} {o : Obj} (h : Below w.heap.size w W) (hb : w.heap[b]? = some o) : W.heap[b]? = some o := (h.block b (Array.getElem?_eq_some_iff.1 hb).1).trans hb
end
section
open Go.RowKit
set_option linter.unusedVariables false
set_option maxRecDepth 100000
/-- A message's bytes. -/
def msgBody (m : Msg) : List UInt8 := [u8 m.kind, u8 m.from_, u8 m.out.status] ++ num3 m.n ++ trmBytes m.top ++ (if m.out.status = 2 then trmBytes m.out.term else [])
noncomputable def msgBytes (m : Msg) : List UInt8 := if msgOk m = true then frameB (msgBody m) else []
theorem msgOk_n {m : Msg} (h : msgOk m = true) : 1 ≤ m.n ∧ m.n ≤ 12000 := by
  unfold msgOk at h
  rw [Bool.and_eq_true, Bool.and_eq_true] at h
  have := h.2.1
  simpa [inB] using this
set_option maxHeartbeats 4000000 in
theorem MsgBytes_i (m : Msg) (cs : List Value) (ok : Nat → Prop) (w : World) (hK : kMsg.K w ok m cs) :
    Calls Tryz.prog 8 #[.agg cs.toArray] w (TBq w (msgBytes m)) := by
  obtain ⟨v2, v5, rfl, hV0, hT0⟩ := kMsg_K hK
  have hV : kCell.V w (fun k => k < w.heap.size) v2 m.top := Kd.V_move (fun k _ hl => ⟨hl, rfl⟩) hV0 (by decide)
  have hT : kCell.V w (fun k => k < w.heap.size) v5 m.out.term := Kd.V_move (fun k _ hl => ⟨hl, rfl⟩) hT0 (by decide)
  obtain ⟨A2, c2, rfl, -⟩ := id hV
  obtain ⟨A5, c5, rfl, -⟩ := id hT
  clear hV0 hT0
  have b0 : Below w.heap.size w (w.alloc (.cells #[.int .i64 m.kind, .int .i64 m.from_, .slice A2 m.top.length c2, .int .i64 m.n, .int .i64 m.out.status, .slice A5 m.out.term.length c5] 34)) := belA (Below.refl _ _) _
  have HP : Sec (∀ W, Below (w.alloc (.cells #[.int .i64 m.kind, .int .i64 m.from_, .slice A2 m.top.length c2, .int .i64 m.n, .int .i64 m.out.status, .slice A5 m.out.term.length c5] 34)).heap.size (w.alloc (.cells #[.int .i64 m.kind, .int .i64 m.from_, .slice A2 m.top.length c2, .int .i64 m.n, .int .i64 m.out.status, .slice A5 m.out.term.length c5] 34)) W → W.cell? ⟨w.heap.size, 0, none⟩ = some (.int .i64 m.kind) ∧ W.cell? ⟨w.heap.size, 1, none⟩ = some (.int .i64 m.from_) ∧ W.cell? ⟨w.heap.size, 2, none⟩ = some (.slice A2 m.top.length c2) ∧ W.cell? ⟨w.heap.size, 3, none⟩ = some (.int .i64 m.n) ∧ W.cell? ⟨w.heap.size, 4, none⟩ = some (.int .i64 m.out.status) ∧ W.cell? ⟨w.heap.size, 5, none⟩ = some (.slice A5 m.out.term.length c5)) := ⟨fun W h => by
    have X := (box_at ((h.block _ (Array.getElem?_eq_some_iff.1 (heap_alloc_new w (.cells #[.int .i64 m.kind, .int .i64 m.from_, .slice A2 m.top.length c2, .int .i64 m.n, .int .i64 m.out.status, .slice A5 m.out.term.length c5] 34))).1).trans (heap_alloc_new w _))).2.1
    exact ⟨X 0 _ rfl, X 1 _ rfl, X 2 _ rfl, X 3 _ rfl, X 4 _ rfl, X 5 _ rfl⟩⟩
  have HV : Sec (∀ W, Below (w.alloc (.cells #[.int .i64 m.kind, .int .i64 m.from_, .slice A2 m.top.length c2, .int .i64 m.n, .int .i64 m.out.status, .slice A5 m.out.term.length c5] 34)).heap.size (w.alloc (.cells #[.int .i64 m.kind, .int .i64 m.from_, .slice A2 m.top.length c2, .int .i64 m.n, .int .i64 m.out.status, .slice A5 m.out.term.length c5] 34)) W → kCell.V W (fun k => k < w.heap.size) (.slice A2 m.top.length c2) m.top) := ⟨fun W h => Kd.V_below hV (bel b0 h) (by decide)⟩
  have HT : Sec (∀ W, Below (w.alloc (.cells #[.int .i64 m.kind, .int .i64 m.from_, .slice A2 m.top.length c2, .int .i64 m.n, .int .i64 m.out.status, .slice A5 m.out.term.length c5] 34)).heap.size (w.alloc (.cells #[.int .i64 m.kind, .int .i64 m.from_, .slice A2 m.top.length c2, .int .i64 m.n, .int .i64 m.out.status, .slice A5 m.out.term.length c5] 34)) W → kCell.V W (fun k => k < w.heap.size) (.slice A5 m.out.term.length c5) m.out.term) := ⟨fun W h => Kd.V_below hT (bel b0 h) (by decide)⟩
  have HKM : Sec (∀ W, Below (w.alloc (.cells #[.int .i64 m.kind, .int .i64 m.from_, .slice A2 m.top.length c2, .int .i64 m.n, .int .i64 m.out.status, .slice A5 m.out.term.length c5] 34)).heap.size (w.alloc (.cells #[.int .i64 m.kind, .int .i64 m.from_, .slice A2 m.top.length c2, .int .i64 m.n, .int .i64 m.out.status, .slice A5 m.out.term.length c5] 34)) W → kMsg.K W ok m [.int .i64 m.kind, .int .i64 m.from_, .slice A2 m.top.length c2, .int .i64 m.n, .int .i64 m.out.status, .slice A5 m.out.term.length c5]) := ⟨fun W h => Kd.K_below hK (bel b0 h)⟩
  have BB : Sec (∀ W, Below (w.alloc (.cells #[.int .i64 m.kind, .int .i64 m.from_, .slice A2 m.top.length c2, .int .i64 m.n, .int .i64 m.out.status, .slice A5 m.out.term.length c5] 34)).heap.size (w.alloc (.cells #[.int .i64 m.kind, .int .i64 m.from_, .slice A2 m.top.length c2, .int .i64 m.n, .int .i64 m.out.status, .slice A5 m.out.term.length c5] 34)) W → Below w.heap.size w W) := ⟨fun W h => bel b0 h⟩
  have Zb : Sec ((w.alloc (.cells #[.int .i64 m.kind, .int .i64 m.from_, .slice A2 m.top.length c2, .int .i64 m.n, .int .i64 m.out.status, .slice A5 m.out.term.length c5] 34)).heap.size = w.heap.size + 1) := ⟨by simp⟩
  have KN : Sec (∀ W : World, kByte.R (W.alloc (.cells #[.int .u8 (IntKind.u8.wrap m.kind), .int .u8 (IntKind.u8.wrap m.from_), .int .u8 (IntKind.u8.wrap m.out.status)] 5)) (fun k => W.heap.size ≤ k) (.slice (some ⟨W.heap.size, 0, none⟩) 3 3) [u8 m.kind, u8 m.from_, u8 m.out.status]) := ⟨fun W => by
    have hR := kByte_new W W.heap.size (Nat.le_refl _) [m.kind, m.from_, m.out.status] (by simp)
    simp only [List.map_cons, List.map_nil] at hR
    exact hR⟩
  have KS : Sec (∀ W : World, kByte.R (W.alloc (.cells #[.int .u8 (m.kind % 256), .int .u8 (m.from_ % 256), .int .u8 (m.out.status % 256)] 5)) (fun k => W.heap.size ≤ k) (.slice (some ⟨W.heap.size, 0, none⟩) 3 3) [u8 m.kind, u8 m.from_, u8 m.out.status]) := ⟨fun W => by
    have hR := KN.out W
    rw [IntKind.wrap_u8', IntKind.wrap_u8', IntKind.wrap_u8'] at hR
    exact hR⟩
  clear hT hV b0 hK
  cases ho : msgOk m with
  | false =>
    have HE : Sec (msgBytes m = []) := ⟨by unfold msgBytes; rw [ho]; rfl⟩
    have HO := Sec.mk ho
    clear ho
    obtain ⟨p0, p1, p2, p3, p4, p5⟩ := HP.out _ (Below.refl _ _)
    go_enter Tryz.func8, Tryz.ntmps8
    go_wp2_with (go_at_call 26; refine (MsgOk_i m [.int .i64 m.kind, .int .i64 m.from_, .slice A2 m.top.length c2, .int .i64 m.n, .int .i64 m.out.status, .slice A5 m.out.term.length c5] _ _ (HKM.out _ (Below.refl _ _))).mono ?_; rw [HO.out]; rintro e w1 ⟨rfl, hb⟩; have B1 := Sec.mk hb; clear hb)
    go_ret
    refine ⟨_, rfl, ?_, BB.out _ B1.out⟩
    rw [HE.out]
    exact Kd.R_nil _ _ _
  | true =>
    have HO := Sec.mk ho
    have hn := msgOk_n ho
    have hn1 := hn.1
    have hn2 := hn.2
    clear hn
    obtain ⟨b1, hb1⟩ : ∃ b1, Sec ([u8 m.kind, u8 m.from_, u8 m.out.status] ++ num3 m.n = b1) := ⟨_, ⟨rfl⟩⟩
    obtain ⟨b2, hb2⟩ : ∃ b2, Sec (b1 ++ trmBytes m.top = b2) := ⟨_, ⟨rfl⟩⟩
    obtain ⟨b3, hb3⟩ : ∃ b3, Sec (b2 ++ trmBytes m.out.term = b3) := ⟨_, ⟨rfl⟩⟩
    have hl1 : Sec (b1.length = 6) := ⟨by rw [← hb1.out]; rfl⟩
    have hl2 : Sec (b2.length ≤ 606) := ⟨by rw [← hb2.out, List.length_append, hl1.out]; have := trmBytes_len m.top; omega⟩
    have hl3 : Sec (b3.length ≤ 1206) := ⟨by rw [← hb3.out, List.length_append]; have := trmBytes_len m.out.term; have := hl2.out; omega⟩
    cases hs : (m.out.status == 2) with
    | false =>
      have HE : Sec (msgBytes m = frameB b2) := ⟨by unfold msgBytes msgBody; rw [ho, if_pos rfl, if_neg (fun e => by rw [e] at hs; simp at hs), List.append_nil, hb1.out, hb2.out]⟩
      have HB : Sec (b2.length ≤ 1206) := ⟨by have := hl2.out; omega⟩
      obtain ⟨fo, hfo⟩ : ∃ fo, Sec (frameO b2 = fo) := ⟨_, ⟨rfl⟩⟩
      have hlf : Sec (fo.length = b2.length + 2) := ⟨by rw [← hfo.out]; exact frameO_len _⟩
      clear ho
      obtain ⟨p0, p1, p2, p3, p4, p5⟩ := HP.out _ (Below.refl _ _)
      go_enter Tryz.func8, Tryz.ntmps8
      go_wp2_with (go_at_call 26; refine (MsgOk_i m [.int .i64 m.kind, .int .i64 m.from_, .slice A2 m.top.length c2, .int .i64 m.n, .int .i64 m.out.status, .slice A5 m.out.term.length c5] _ _ (HKM.out _ (Below.refl _ _))).mono ?_; rw [HO.out]; rintro e w1 ⟨rfl, hb⟩; have B1 := Sec.mk hb; have T0 : Sec True := ⟨trivial⟩; clear p0 p1 p2 p3 p4 p5; obtain ⟨p0, p1, p2, p3, p4, p5⟩ := HP.out _ hb; clear hb)
      have P0 := Sec.mk p0
      have P1 := Sec.mk p1
      have P3 := Sec.mk p3
      have P4 := Sec.mk p4
      refine wp_region_lists [[8], [9], [10], [11], [12], [13], [14], [15], [16], [17], [18], [19], [20], [21], [22], [3]]
        [fun val _ _ => val 8 = .pointer (some ⟨w.heap.size, 0, none⟩),
          fun val _ _ => val 9 = .int .i64 m.kind,
          fun val _ _ => val 10 = .int .u8 (IntKind.u8.wrap m.kind),
          fun val _ _ => val 11 = .pointer (some ⟨w.heap.size, 1, none⟩),
          fun val _ _ => val 12 = .int .i64 m.from_,
          fun val _ _ => val 13 = .int .u8 (IntKind.u8.wrap m.from_),
          fun val _ _ => val 14 = .pointer (some ⟨w.heap.size, 4, none⟩),
          fun val _ _ => val 15 = .pointer (some ⟨w.heap.size, 4, none⟩),
          fun val _ _ => val 16 = .int .i64 m.out.status,
          fun val _ _ => val 17 = .int .u8 (IntKind.u8.wrap m.out.status),
          onR kByte 18 [u8 m.kind, u8 m.from_, u8 m.out.status],
          fun val _ _ => val 19 = .pointer (some ⟨w.heap.size, 3, none⟩),
          fun val _ _ => val 20 = .int .i64 m.n,
          onR kByte 21 (num3 m.n),
          onR kByte 22 b1,
          onR kByte 3 b1]
        [[], [], [], [], [], [], [], [], [], [], [], [], [], [], [10], [14]] 0 (fun _ => False) (fun _ _ => False) (by kernel_rfl) ⟨by kernel_rfl, by kernel_rfl, by kernel_rfl, by kernel_rfl, by kernel_rfl⟩
        (.cons (stab_val 8 (fun v => v = .pointer (some ⟨w.heap.size, 0, none⟩))) (.cons (stab_val 9 (fun v => v = .int .i64 m.kind)) (.cons (stab_val 10 (fun v => v = .int .u8 (IntKind.u8.wrap m.kind))) (.cons (stab_val 11 (fun v => v = .pointer (some ⟨w.heap.size, 1, none⟩))) (.cons (stab_val 12 (fun v => v = .int .i64 m.from_)) (.cons (stab_val 13 (fun v => v = .int .u8 (IntKind.u8.wrap m.from_))) (.cons (stab_val 14 (fun v => v = .pointer (some ⟨w.heap.size, 4, none⟩))) (.cons (stab_val 15 (fun v => v = .pointer (some ⟨w.heap.size, 4, none⟩))) (.cons (stab_val 16 (fun v => v = .int .i64 m.out.status)) (.cons (stab_val 17 (fun v => v = .int .u8 (IntKind.u8.wrap m.out.status))) (.cons (stab_R kByte 18 [u8 m.kind, u8 m.from_, u8 m.out.status]) (.cons (stab_val 19 (fun v => v = .pointer (some ⟨w.heap.size, 3, none⟩))) (.cons (stab_val 20 (fun v => v = .int .i64 m.n)) (.cons (stab_R kByte 21 (num3 m.n)) (.cons (stab_R kByte 22 b1) (.cons (stab_R kByte 3 b1) .nil))))))))))))))))
        (fun i j k h1 h2 => h1.elim) (fun i k h => h.elim) (fun i h1 h2 => by simp at h1 h2; omega) (.cons ?_ (.cons ?_ (.cons ?_ (.cons ?_ (.cons ?_ (.cons ?_ (.cons ?_ (.cons ?_ (.cons ?_ (.cons ?_ (.cons ?_ (.cons ?_ (.cons ?_ (.cons ?_ (.cons ?_ (.cons ?_ .nil)))))))))))))))) ?_
      · intro a W own hfor huse hap hmi hF K hK
        have e1 : a.eval (.tmp 1) = .pointer (some ⟨w.heap.size, 0, none⟩) := hfor 1 (by kernel_rfl)
        refine op_val (.pointer (some ⟨w.heap.size, 0, none⟩)) W rfl ?_ (hK _ _ (post_pure ?_))
        · clear hfor huse hap hmi hK hF
          generalize a.eval = ρ at *
          go_simp
        · exact (if_pos rfl)
      · intro a W own hfor huse hap hmi hF K hK
        have e8 : a.eval (.tmp 8) = .pointer (some ⟨w.heap.size, 0, none⟩) := huse 0 (by kernel_rfl)
        have c0 := foot_cell hF (fun h => h) P0.out
        refine op_val (.int .i64 m.kind) W rfl ?_ (hK _ _ (post_pure ?_))
        · clear hfor huse hap hmi hK hF
          generalize a.eval = ρ at *
          go_simp
        · exact (if_pos rfl)
      · intro a W own hfor huse hap hmi hF K hK
        have e9 : a.eval (.tmp 9) = .int .i64 m.kind := huse 1 (by kernel_rfl)
        refine op_val (.int .u8 (IntKind.u8.wrap m.kind)) W rfl ?_ (hK _ _ (post_pure ?_))
        · clear hfor huse hap hmi hK hF
          generalize a.eval = ρ at *
          go_simp
        · exact (if_pos rfl)
      · intro a W own hfor huse hap hmi hF K hK
        have e1 : a.eval (.tmp 1) = .pointer (some ⟨w.heap.size, 0, none⟩) := hfor 1 (by kernel_rfl)
        refine op_val (.pointer (some ⟨w.heap.size, 1, none⟩)) W rfl ?_ (hK _ _ (post_pure ?_))
        · clear hfor huse hap hmi hK hF
          generalize a.eval = ρ at *
          go_simp
        · exact (if_pos rfl)
      · intro a W own hfor huse hap hmi hF K hK
        have e11 : a.eval (.tmp 11) = .pointer (some ⟨w.heap.size, 1, none⟩) := huse 3 (by kernel_rfl)
        have c1 := foot_cell hF (fun h => h) P1.out
        refine op_val (.int .i64 m.from_) W rfl ?_ (hK _ _ (post_pure ?_))
        · clear hfor huse hap hmi hK hF
          generalize a.eval = ρ at *
          go_simp
        · exact (if_pos rfl)
      · intro a W own hfor huse hap hmi hF K hK
        have e12 : a.eval (.tmp 12) = .int .i64 m.from_ := huse 4 (by kernel_rfl)
        refine op_val (.int .u8 (IntKind.u8.wrap m.from_)) W rfl ?_ (hK _ _ (post_pure ?_))
        · clear hfor huse hap hmi hK hF
          generalize a.eval = ρ at *
          go_simp
        · exact (if_pos rfl)
      · intro a W own hfor huse hap hmi hF K hK
        have e1 : a.eval (.tmp 1) = .pointer (some ⟨w.heap.size, 0, none⟩) := hfor 1 (by kernel_rfl)
        refine op_val (.pointer (some ⟨w.heap.size, 4, none⟩)) W rfl ?_ (hK _ _ (post_pure ?_))
        · clear hfor huse hap hmi hK hF
          generalize a.eval = ρ at *
          go_simp
        · exact (if_pos rfl)
      · intro a W own hfor huse hap hmi hF K hK
        have e14 : a.eval (.tmp 14) = .pointer (some ⟨w.heap.size, 4, none⟩) := huse 6 (by kernel_rfl)
        refine op_val (.pointer (some ⟨w.heap.size, 4, none⟩)) W rfl ?_ (hK _ _ (post_pure ?_))
        · clear hfor huse hap hmi hK hF
          generalize a.eval = ρ at *
          go_simp
        · exact (if_pos rfl)
      · intro a W own hfor huse hap hmi hF K hK
        have e15 : a.eval (.tmp 15) = .pointer (some ⟨w.heap.size, 4, none⟩) := huse 7 (by kernel_rfl)
        have c4 := foot_cell hF (fun h => h) P4.out
        refine op_val (.int .i64 m.out.status) W rfl ?_ (hK _ _ (post_pure ?_))
        · clear hfor huse hap hmi hK hF
          generalize a.eval = ρ at *
          go_simp
        · exact (if_pos rfl)
      · intro a W own hfor huse hap hmi hF K hK
        have e16 : a.eval (.tmp 16) = .int .i64 m.out.status := huse 8 (by kernel_rfl)
        refine op_val (.int .u8 (IntKind.u8.wrap m.out.status)) W rfl ?_ (hK _ _ (post_pure ?_))
        · clear hfor huse hap hmi hK hF
          generalize a.eval = ρ at *
          go_simp
        · exact (if_pos rfl)
      · intro a W own hfor huse hap hmi hF K hK
        have e10 : a.eval (.tmp 10) = .int .u8 (IntKind.u8.wrap m.kind) := huse 2 (by kernel_rfl)
        have e13 : a.eval (.tmp 13) = .int .u8 (IntKind.u8.wrap m.from_) := huse 5 (by kernel_rfl)
        have e17 : a.eval (.tmp 17) = .int .u8 (IntKind.u8.wrap m.out.status) := huse 9 (by kernel_rfl)
        refine op_val (.slice (some ⟨W.heap.size, 0, none⟩) 3 3) (W.alloc (.cells #[.int .u8 (IntKind.u8.wrap m.kind), .int .u8 (IntKind.u8.wrap m.from_), .int .u8 (IntKind.u8.wrap m.out.status)] 5)) rfl ?_ (hK _ _ (post_new (belA (Below.refl _ _) _) ?_))
        · clear hfor huse hap hmi hK hF
          generalize a.eval = ρ at *
          go_simp
        · show kByte.R _ _ (if _ then _ else _) [u8 m.kind, u8 m.from_, u8 m.out.status]
          rw [if_pos rfl]
          exact Kd.R_mono (KN.out W) (fun k h1 h2 => ⟨h1, h2⟩)
      · intro a W own hfor huse hap hmi hF K hK
        have e1 : a.eval (.tmp 1) = .pointer (some ⟨w.heap.size, 0, none⟩) := hfor 1 (by kernel_rfl)
        refine op_val (.pointer (some ⟨w.heap.size, 3, none⟩)) W rfl ?_ (hK _ _ (post_pure ?_))
        · clear hfor huse hap hmi hK hF
          generalize a.eval = ρ at *
          go_simp
        · exact (if_pos rfl)
      · intro a W own hfor huse hap hmi hF K hK
        have e19 : a.eval (.tmp 19) = .pointer (some ⟨w.heap.size, 3, none⟩) := huse 11 (by kernel_rfl)
        have c3 := foot_cell hF (fun h => h) P3.out
        refine op_val (.int .i64 m.n) W rfl ?_ (hK _ _ (post_pure ?_))
        · clear hfor huse hap hmi hK hF
          generalize a.eval = ρ at *
          go_simp
        · exact (if_pos rfl)
      · intro a W own hfor huse hap hmi hF K hK
        have e20 : a.eval (.tmp 20) = .int .i64 m.n := huse 12 (by kernel_rfl)
        have efn : a.eval (.func 27) = .func (.func 27) #[] #[] := rfl
        refine op_call (f := 27) (args := #[.int .i64 m.n]) (fun v w1 => kByte.R w1 (fun k => W.heap.size ≤ k) v (num3 m.n) ∧ Below W.heap.size W w1) rfl ?_ ?_ (fun v w1 h => ?_)
        · clear hfor huse hap hmi hK hF
          generalize a.eval = ρ at *
          go_simp
        · exact (number_c m.n (by omega) (by omega) W).mono (by rintro e w1 ⟨u, rfl, h1, h2⟩; exact ⟨_, rfl, h1, h2⟩)
        · obtain ⟨h1, h2⟩ := h
          exact hK _ _ (post_new h2 (by show kByte.R _ _ (if _ then _ else _) (num3 m.n); rw [if_pos rfl]; exact Kd.R_mono h1 (fun k h3 h4 => ⟨h3, h4⟩)))
      · intro a W own hfor huse hap hmi hF K hK
        have r10 : kByte.R W (own 10) (a.eval (.tmp 18)) [u8 m.kind, u8 m.from_, u8 m.out.status] := huse 10 (by kernel_rfl)
        have r13 : kByte.R W (own 13) (a.eval (.tmp 21)) (num3 m.n) := huse 13 (by kernel_rfl)
        refine step_bytes rfl (.tmp 18) (.tmp 21) rfl rfl rfl r10 (Kd.R_V r13) (fun k h1 h2 => by have := hap 13 10 k h1 h2; omega) (by have h3 : (num3 m.n).length = 3 := rfl; simp only [h3, List.length_cons, List.length_nil]; omega) (fun v1 w1 hR hF1 => hK _ _ ⟨fun k => own 10 k ∨ (W.heap.size ≤ k ∧ k < w1.heap.size), Foot.mono hF1 (fun k h => ⟨10, by decide, h⟩), ?_, fun k h => Or.imp (fun h => ⟨10, by decide, h⟩) id h⟩)
        · show kByte.R _ _ (if _ then _ else _) b1
          rw [if_pos rfl]
          rw [hb1.out] at hR
          exact hR
      · intro a W own hfor huse hap hmi hF K hK
        have r := (huse 14 (by kernel_rfl) : onR kByte 22 b1 (slotsOf a) (own 14) W)
        refine op_val (a.eval (.tmp 22)) W rfl ?_ (hK _ _ ⟨own 14, Foot.refl _ _, ?_, fun k h => .inl ⟨14, by decide, h⟩⟩)
        · rfl
        · show kByte.R _ _ (if _ then _ else _) b1
          rw [if_pos rfl]
          exact r
      intro a' W own hf
      have s1 := hf.st.size
      have s2 := hf.st.rest
      have s3 := fun t ht => hf.st.kept t ht
      revert hf
      revert a'
      refine lay_intro (df := []) [true, true, true, false, true, true, true, true, false, false, false, false, false, false, false, false, false, false, false, false, false, false, false, true, true, true, true, true, true, true, true, true, true, true, true, true, true, true, true, true, true, true, true, true, true, true, true, true] (by kernel_rfl) rfl ?_
      intro x22 x21 x20 x19 x18 x17 x16 x15 x14 x13 x12 x11 x10 x9 x8 x3 hf
      have hr3 : kByte.R W (own 15) x3 b1 := hf.at 15 (onR kByte 3 b1) rfl (by kernel_rfl)
      have HM := Sec.mk (hf.st.mine 15)
      have HF := Sec.mk hf.st.foot
      clear hf P0 P1 P3 P4
      have B2 := Sec.mk (HF.out.below (belD B1.out) (fun k h => h.elim))
      have R2 : Sec (kByte.R W (fun k => (w.alloc (.cells #[.int .i64 m.kind, .int .i64 m.from_, .slice A2 m.top.length c2, .int .i64 m.n, .int .i64 m.out.status, .slice A5 m.out.term.length c5] 34)).heap.size ≤ k ∧ k < W.heap.size) x3 b1) := ⟨Kd.R_mono hr3 (fun k h1 h2 => ⟨(HM.out k h1).1.elim (fun h => Nat.le_trans B1.out.size (by simpa using h)) (fun h => h.elim), h2⟩)⟩
      clear hr3 HM HF
      generalize W = w2 at *
      obtain ⟨a2, n2, rfl, -, -⟩ := Kd.R_form R2.out
      clear p0 p1 p2 p3 p4 p5
      obtain ⟨p0, p1, p2, p3, p4, p5⟩ := HP.out _ B2.out
      have T1 : Sec True := ⟨trivial⟩
      go_wp2_with (first | (at_builtin; clear T2; have T3 : Sec True := ⟨trivial⟩; refine B_own (S := fun k => (w.alloc (.cells #[.int .i64 m.kind, .int .i64 m.from_, .slice A2 m.top.length c2, .int .i64 m.n, .int .i64 m.out.status, .slice A5 m.out.term.length c5] 34)).heap.size ≤ k ∧ k < w2.heap.size) rfl (.tmp 23) (.tmp 26) 28 rfl Tryz.underlying28 info_byte _ _ b1 (trmBytes m.top) rfl rfl R3.out (Kd.R_V Y3.out) (fun k h1 h2 => by have := h2.2; omega) (by have := trmBytes_len m.top; have := trmBytes_len m.out.term; have := hl1.out; have := hl2.out; omega) ?_; intro v4 w4 hR hg hr; rw [hb2.out] at hR; have B4 := Sec.mk (grew B3.out hg (fun k e => (hr k e).1)); have R4 : Sec (kByte.R w4 (fun k => (w.alloc (.cells #[.int .i64 m.kind, .int .i64 m.from_, .slice A2 m.top.length c2, .int .i64 m.n, .int .i64 m.out.status, .slice A5 m.out.term.length c5] 34)).heap.size ≤ k ∧ k < w4.heap.size) v4 b2) := ⟨Kd.R_mono hR (fun k h1 h2 => ⟨h1.elim (fun h => h.1) (fun h => Nat.le_trans B3.out.size h), h2⟩)⟩; obtain ⟨a4, n4, rfl, -, -⟩ := Kd.R_form hR; clear p0 p1 p2 p3 p4 p5; obtain ⟨p0, p1, p2, p3, p4, p5⟩ := HP.out _ B4.out; clear hR hg hr) | (clear T1; go_at_call 28; have T2 : Sec True := ⟨trivial⟩; refine (TrmBytes_i _ _ m.top _ (HV.out _ B2.out)).mono ?_; rintro e w3 ⟨u3, rfl, hR, hb⟩; have B3 := Sec.mk (bel B2.out hb); have R3 := Sec.mk (Kd.R_below R2.out hb); have Y3 := Sec.mk hR; obtain ⟨a3, n3, rfl, -, -⟩ := Kd.R_form hR; clear p0 p1 p2 p3 p4 p5; obtain ⟨p0, p1, p2, p3, p4, p5⟩ := HP.out _ B3.out; clear hb hR) | (clear T3; go_at_call 29; have U1 : Sec True := ⟨trivial⟩; refine (big2_c (b2.length : Int) (by omega) (by have := HB.out; omega) _).mono ?_; rintro e w5 ⟨u5, rfl, hR, hb⟩; have B5 := Sec.mk (bel B4.out hb); have R5 := Sec.mk (Kd.R_below R4.out hb); have Y5 := Sec.mk hR; obtain ⟨a5, n5, rfl, -, -⟩ := Kd.R_form hR; clear hb hR) | (at_builtin; clear U1; have U2 : Sec True := ⟨trivial⟩; refine B_own rfl (.tmp 40) (.tmp 41) 28 rfl Tryz.underlying28 info_byte _ _ [u8 ((b2.length : Int) / 256), u8 ((b2.length : Int) % 256)] b2 rfl rfl Y5.out (Kd.R_V R5.out) (fun k h1 h2 => by have := h1.2; omega) (by have := HB.out; simp only [List.length_cons, List.length_nil]; omega) ?_; intro v6 w6 hR hg hr; rw [show [u8 ((b2.length : Int) / 256), u8 ((b2.length : Int) % 256)] ++ b2 = fo from hfo.out] at hR; have B6 := Sec.mk (grew B5.out hg (fun k e => Nat.le_trans B4.out.size (hr k e))); have R6 : Sec (kByte.R w6 (fun k => (w.alloc (.cells #[.int .i64 m.kind, .int .i64 m.from_, .slice A2 m.top.length c2, .int .i64 m.n, .int .i64 m.out.status, .slice A5 m.out.term.length c5] 34)).heap.size ≤ k ∧ k < w6.heap.size) v6 fo) := ⟨Kd.R_mono hR (fun k h1 h2 => ⟨h1.elim (fun h => Nat.le_trans B4.out.size h) (fun h => Nat.le_trans B5.out.size h), h2⟩)⟩; obtain ⟨a6, n6, rfl, -, -⟩ := Kd.R_form R6.out; clear hR hg hr) | (clear U2; go_at_call 30; have U3 : Sec True := ⟨trivial⟩; refine (MsgSum_c _ _ fo _ (Kd.R_V R6.out)).mono ?_; rintro e w' ⟨rfl, rfl⟩) | (clear U3; go_at_call 29; have U4 : Sec True := ⟨trivial⟩; refine (big2_c (sumB fo) (sumB_in _).1 (by have := (sumB_in fo).2; omega) _).mono ?_; rintro e w7 ⟨u7, rfl, hR, hb⟩; have B7 := Sec.mk (bel B6.out hb); have R7 := Sec.mk (Kd.R_below R6.out hb); have Y7 := Sec.mk hR; obtain ⟨a7, n7, rfl, -, -⟩ := Kd.R_form hR; clear hb hR) | (at_builtin; clear U4; refine B_own rfl (.tmp 43) (.tmp 46) 28 rfl Tryz.underlying28 info_byte _ _ fo [u8 (sumB fo / 256), u8 (sumB fo % 256)] rfl rfl R7.out (Kd.R_V Y7.out) (fun k h1 h2 => by have := h2.2; omega) (by have := HB.out; have := hlf.out; simp only [List.length_cons, List.length_nil]; omega) ?_; intro v8 w8 hR hg hr; have B8 := Sec.mk (grew B7.out hg (fun k e => (hr k e).1)); have RF : Sec (kByte.R w8 (fun k => (w.alloc (.cells #[.int .i64 m.kind, .int .i64 m.from_, .slice A2 m.top.length c2, .int .i64 m.n, .int .i64 m.out.status, .slice A5 m.out.term.length c5] 34)).heap.size ≤ k) v8 (frameB b2)) := ⟨by unfold frameB; rw [hfo.out]; exact Kd.R_mono hR (fun k h1 h2 => h1.elim (fun h => h.1) (fun h => Nat.le_trans B7.out.size h))⟩; clear hR hg hr))
      go_ret
      refine ⟨_, rfl, ?_, BB.out _ B8.out⟩
      rw [HE.out]
      exact Kd.R_mono RF.out (fun k h1 h2 => by have := Zb.out; omega)
    | true =>
      have HE : Sec (msgBytes m = frameB b3) := ⟨by unfold msgBytes msgBody; rw [ho, if_pos rfl, if_pos (by simpa using hs), hb1.out, hb2.out, hb3.out]⟩
      have HB : Sec (b3.length ≤ 1206) := hl3
      obtain ⟨fo, hfo⟩ : ∃ fo, Sec (frameO b3 = fo) := ⟨_, ⟨rfl⟩⟩
      have hlf : Sec (fo.length = b3.length + 2) := ⟨by rw [← hfo.out]; exact frameO_len _⟩
      clear ho
      obtain ⟨p0, p1, p2, p3, p4, p5⟩ := HP.out _ (Below.refl _ _)
      go_enter Tryz.func8, Tryz.ntmps8
      go_wp2_with (go_at_call 26; refine (MsgOk_i m [.int .i64 m.kind, .int .i64 m.from_, .slice A2 m.top.length c2, .int .i64 m.n, .int .i64 m.out.status, .slice A5 m.out.term.length c5] _ _ (HKM.out _ (Below.refl _ _))).mono ?_; rw [HO.out]; rintro e w1 ⟨rfl, hb⟩; have B1 := Sec.mk hb; have T0 : Sec True := ⟨trivial⟩; clear p0 p1 p2 p3 p4 p5; obtain ⟨p0, p1, p2, p3, p4, p5⟩ := HP.out _ hb; clear hb)
      have P0 := Sec.mk p0
      have P1 := Sec.mk p1
      have P3 := Sec.mk p3
      have P4 := Sec.mk p4
      refine wp_region_lists [[8], [9], [10], [11], [12], [13], [14], [15], [16], [17], [18], [19], [20], [21], [22], [3]]
        [fun val _ _ => val 8 = .pointer (some ⟨w.heap.size, 0, none⟩),
          fun val _ _ => val 9 = .int .i64 m.kind,
          fun val _ _ => val 10 = .int .u8 (IntKind.u8.wrap m.kind),
          fun val _ _ => val 11 = .pointer (some ⟨w.heap.size, 1, none⟩),
          fun val _ _ => val 12 = .int .i64 m.from_,
          fun val _ _ => val 13 = .int .u8 (IntKind.u8.wrap m.from_),
          fun val _ _ => val 14 = .pointer (some ⟨w.heap.size, 4, none⟩),
          fun val _ _ => val 15 = .pointer (some ⟨w.heap.size, 4, none⟩),
          fun val _ _ => val 16 = .int .i64 m.out.status,
          fun val _ _ => val 17 = .int .u8 (IntKind.u8.wrap m.out.status),
          onR kByte 18 [u8 m.kind, u8 m.from_, u8 m.out.status],
          fun val _ _ => val 19 = .pointer (some ⟨w.heap.size, 3, none⟩),
          fun val _ _ => val 20 = .int .i64 m.n,
          onR kByte 21 (num3 m.n),
          onR kByte 22 b1,
          onR kByte 3 b1]
        [[], [], [], [], [], [], [], [], [], [], [], [], [], [], [10], [14]] 0 (fun _ => False) (fun _ _ => False) (by kernel_rfl) ⟨by kernel_rfl, by kernel_rfl, by kernel_rfl, by kernel_rfl, by kernel_rfl⟩
        (.cons (stab_val 8 (fun v => v = .pointer (some ⟨w.heap.size, 0, none⟩))) (.cons (stab_val 9 (fun v => v = .int .i64 m.kind)) (.cons (stab_val 10 (fun v => v = .int .u8 (IntKind.u8.wrap m.kind))) (.cons (stab_val 11 (fun v => v = .pointer (some ⟨w.heap.size, 1, none⟩))) (.cons (stab_val 12 (fun v => v = .int .i64 m.from_)) (.cons (stab_val 13 (fun v => v = .int .u8 (IntKind.u8.wrap m.from_))) (.cons (stab_val 14 (fun v => v = .pointer (some ⟨w.heap.size, 4, none⟩))) (.cons (stab_val 15 (fun v => v = .pointer (some ⟨w.heap.size, 4, none⟩))) (.cons (stab_val 16 (fun v => v = .int .i64 m.out.status)) (.cons (stab_val 17 (fun v => v = .int .u8 (IntKind.u8.wrap m.out.status))) (.cons (stab_R kByte 18 [u8 m.kind, u8 m.from_, u8 m.out.status]) (.cons (stab_val 19 (fun v => v = .pointer (some ⟨w.heap.size, 3, none⟩))) (.cons (stab_val 20 (fun v => v = .int .i64 m.n)) (.cons (stab_R kByte 21 (num3 m.n)) (.cons (stab_R kByte 22 b1) (.cons (stab_R kByte 3 b1) .nil))))))))))))))))
        (fun i j k h1 h2 => h1.elim) (fun i k h => h.elim) (fun i h1 h2 => by simp at h1 h2; omega) (.cons ?_ (.cons ?_ (.cons ?_ (.cons ?_ (.cons ?_ (.cons ?_ (.cons ?_ (.cons ?_ (.cons ?_ (.cons ?_ (.cons ?_ (.cons ?_ (.cons ?_ (.cons ?_ (.cons ?_ (.cons ?_ .nil)))))))))))))))) ?_
      · intro a W own hfor huse hap hmi hF K hK
        have e1 : a.eval (.tmp 1) = .pointer (some ⟨w.heap.size, 0, none⟩) := hfor 1 (by kernel_rfl)
        refine op_val (.pointer (some ⟨w.heap.size, 0, none⟩)) W rfl ?_ (hK _ _ (post_pure ?_))
        · clear hfor huse hap hmi hK hF
          generalize a.eval = ρ at *
          go_simp
        · exact (if_pos rfl)
      · intro a W own hfor huse hap hmi hF K hK
        have e8 : a.eval (.tmp 8) = .pointer (some ⟨w.heap.size, 0, none⟩) := huse 0 (by kernel_rfl)
        have c0 := foot_cell hF (fun h => h) P0.out
        refine op_val (.int .i64 m.kind) W rfl ?_ (hK _ _ (post_pure ?_))
        · clear hfor huse hap hmi hK hF
          generalize a.eval = ρ at *
          go_simp
        · exact (if_pos rfl)
      · intro a W own hfor huse hap hmi hF K hK
        have e9 : a.eval (.tmp 9) = .int .i64 m.kind := huse 1 (by kernel_rfl)
        refine op_val (.int .u8 (IntKind.u8.wrap m.kind)) W rfl ?_ (hK _ _ (post_pure ?_))
        · clear hfor huse hap hmi hK hF
          generalize a.eval = ρ at *
          go_simp
        · exact (if_pos rfl)
      · intro a W own hfor huse hap hmi hF K hK
        have e1 : a.eval (.tmp 1) = .pointer (some ⟨w.heap.size, 0, none⟩) := hfor 1 (by kernel_rfl)
        refine op_val (.pointer (some ⟨w.heap.size, 1, none⟩)) W rfl ?_ (hK _ _ (post_pure ?_))
        · clear hfor huse hap hmi hK hF
          generalize a.eval = ρ at *
          go_simp
        · exact (if_pos rfl)
      · intro a W own hfor huse hap hmi hF K hK
        have e11 : a.eval (.tmp 11) = .pointer (some ⟨w.heap.size, 1, none⟩) := huse 3 (by kernel_rfl)
        have c1 := foot_cell hF (fun h => h) P1.out
        refine op_val (.int .i64 m.from_) W rfl ?_ (hK _ _ (post_pure ?_))
        · clear hfor huse hap hmi hK hF
          generalize a.eval = ρ at *
          go_simp
        · exact (if_pos rfl)
      · intro a W own hfor huse hap hmi hF K hK
        have e12 : a.eval (.tmp 12) = .int .i64 m.from_ := huse 4 (by kernel_rfl)
        refine op_val (.int .u8 (IntKind.u8.wrap m.from_)) W rfl ?_ (hK _ _ (post_pure ?_))
        · clear hfor huse hap hmi hK hF
          generalize a.eval = ρ at *
          go_simp
        · exact (if_pos rfl)
      · intro a W own hfor huse hap hmi hF K hK
        have e1 : a.eval (.tmp 1) = .pointer (some ⟨w.heap.size, 0, none⟩) := hfor 1 (by kernel_rfl)
        refine op_val (.pointer (some ⟨w.heap.size, 4, none⟩)) W rfl ?_ (hK _ _ (post_pure ?_))
        · clear hfor huse hap hmi hK hF
          generalize a.eval = ρ at *
          go_simp
        · exact (if_pos rfl)
      · intro a W own hfor huse hap hmi hF K hK
        have e14 : a.eval (.tmp 14) = .pointer (some ⟨w.heap.size, 4, none⟩) := huse 6 (by kernel_rfl)
        refine op_val (.pointer (some ⟨w.heap.size, 4, none⟩)) W rfl ?_ (hK _ _ (post_pure ?_))
        · clear hfor huse hap hmi hK hF
          generalize a.eval = ρ at *
          go_simp
        · exact (if_pos rfl)
      · intro a W own hfor huse hap hmi hF K hK
        have e15 : a.eval (.tmp 15) = .pointer (some ⟨w.heap.size, 4, none⟩) := huse 7 (by kernel_rfl)
        have c4 := foot_cell hF (fun h => h) P4.out
        refine op_val (.int .i64 m.out.status) W rfl ?_ (hK _ _ (post_pure ?_))
        · clear hfor huse hap hmi hK hF
          generalize a.eval = ρ at *
          go_simp
        · exact (if_pos rfl)
      · intro a W own hfor huse hap hmi hF K hK
        have e16 : a.eval (.tmp 16) = .int .i64 m.out.status := huse 8 (by kernel_rfl)
        refine op_val (.int .u8 (IntKind.u8.wrap m.out.status)) W rfl ?_ (hK _ _ (post_pure ?_))
        · clear hfor huse hap hmi hK hF
          generalize a.eval = ρ at *
          go_simp
        · exact (if_pos rfl)
      · intro a W own hfor huse hap hmi hF K hK
        have e10 : a.eval (.tmp 10) = .int .u8 (IntKind.u8.wrap m.kind) := huse 2 (by kernel_rfl)
        have e13 : a.eval (.tmp 13) = .int .u8 (IntKind.u8.wrap m.from_) := huse 5 (by kernel_rfl)
        have e17 : a.eval (.tmp 17) = .int .u8 (IntKind.u8.wrap m.out.status) := huse 9 (by kernel_rfl)
        refine op_val (.slice (some ⟨W.heap.size, 0, none⟩) 3 3) (W.alloc (.cells #[.int .u8 (IntKind.u8.wrap m.kind), .int .u8 (IntKind.u8.wrap m.from_), .int .u8 (IntKind.u8.wrap m.out.status)] 5)) rfl ?_ (hK _ _ (post_new (belA (Below.refl _ _) _) ?_))
        · clear hfor huse hap hmi hK hF
          generalize a.eval = ρ at *
          go_simp
        · show kByte.R _ _ (if _ then _ else _) [u8 m.kind, u8 m.from_, u8 m.out.status]
          rw [if_pos rfl]
          exact Kd.R_mono (KN.out W) (fun k h1 h2 => ⟨h1, h2⟩)
      · intro a W own hfor huse hap hmi hF K hK
        have e1 : a.eval (.tmp 1) = .pointer (some ⟨w.heap.size, 0, none⟩) := hfor 1 (by kernel_rfl)
        refine op_val (.pointer (some ⟨w.heap.size, 3, none⟩)) W rfl ?_ (hK _ _ (post_pure ?_))
        · clear hfor huse hap hmi hK hF
          generalize a.eval = ρ at *
          go_simp
        · exact (if_pos rfl)
      · intro a W own hfor huse hap hmi hF K hK
        have e19 : a.eval (.tmp 19) = .pointer (some ⟨w.heap.size, 3, none⟩) := huse 11 (by kernel_rfl)
        have c3 := foot_cell hF (fun h => h) P3.out
        refine op_val (.int .i64 m.n) W rfl ?_ (hK _ _ (post_pure ?_))
        · clear hfor huse hap hmi hK hF
          generalize a.eval = ρ at *
          go_simp
        · exact (if_pos rfl)
      · intro a W own hfor huse hap hmi hF K hK
        have e20 : a.eval (.tmp 20) = .int .i64 m.n := huse 12 (by kernel_rfl)
        have efn : a.eval (.func 27) = .func (.func 27) #[] #[] := rfl
        refine op_call (f := 27) (args := #[.int .i64 m.n]) (fun v w1 => kByte.R w1 (fun k => W.heap.size ≤ k) v (num3 m.n) ∧ Below W.heap.size W w1) rfl ?_ ?_ (fun v w1 h => ?_)
        · clear hfor huse hap hmi hK hF
          generalize a.eval = ρ at *
          go_simp
        · exact (number_c m.n (by omega) (by omega) W).mono (by rintro e w1 ⟨u, rfl, h1, h2⟩; exact ⟨_, rfl, h1, h2⟩)
        · obtain ⟨h1, h2⟩ := h
          exact hK _ _ (post_new h2 (by show kByte.R _ _ (if _ then _ else _) (num3 m.n); rw [if_pos rfl]; exact Kd.R_mono h1 (fun k h3 h4 => ⟨h3, h4⟩)))
      · intro a W own hfor huse hap hmi hF K hK
        have r10 : kByte.R W (own 10) (a.eval (.tmp 18)) [u8 m.kind, u8 m.from_, u8 m.out.status] := huse 10 (by kernel_rfl)
        have r13 : kByte.R W (own 13) (a.eval (.tmp 21)) (num3 m.n) := huse 13 (by kernel_rfl)
        refine step_bytes rfl (.tmp 18) (.tmp 21) rfl rfl rfl r10 (Kd.R_V r13) (fun k h1 h2 => by have := hap 13 10 k h1 h2; omega) (by have h3 : (num3 m.n).length = 3 := rfl; simp only [h3, List.length_cons, List.length_nil]; omega) (fun v1 w1 hR hF1 => hK _ _ ⟨fun k => own 10 k ∨ (W.heap.size ≤ k ∧ k < w1.heap.size), Foot.mono hF1 (fun k h => ⟨10, by decide, h⟩), ?_, fun k h => Or.imp (fun h => ⟨10, by decide, h⟩) id h⟩)
        · show kByte.R _ _ (if _ then _ else _) b1
          rw [if_pos rfl]
          rw [hb1.out] at hR
          exact hR
      · intro a W own hfor huse hap hmi hF K hK
        have r := (huse 14 (by kernel_rfl) : onR kByte 22 b1 (slotsOf a) (own 14) W)
        refine op_val (a.eval (.tmp 22)) W rfl ?_ (hK _ _ ⟨own 14, Foot.refl _ _, ?_, fun k h => .inl ⟨14, by decide, h⟩⟩)
        · rfl
        · show kByte.R _ _ (if _ then _ else _) b1
          rw [if_pos rfl]
          exact r
      intro a' W own hf
      have s1 := hf.st.size
      have s2 := hf.st.rest
      have s3 := fun t ht => hf.st.kept t ht
      revert hf
      revert a'
      refine lay_intro (df := []) [true, true, true, false, true, true, true, true, false, false, false, false, false, false, false, false, false, false, false, false, false, false, false, true, true, true, true, true, true, true, true, true, true, true, true, true, true, true, true, true, true, true, true, true, true, true, true, true] (by kernel_rfl) rfl ?_
      intro x22 x21 x20 x19 x18 x17 x16 x15 x14 x13 x12 x11 x10 x9 x8 x3 hf
      have hr3 : kByte.R W (own 15) x3 b1 := hf.at 15 (onR kByte 3 b1) rfl (by kernel_rfl)
      have HM := Sec.mk (hf.st.mine 15)
      have HF := Sec.mk hf.st.foot
      clear hf P0 P1 P3 P4
      have B2 := Sec.mk (HF.out.below (belD B1.out) (fun k h => h.elim))
      have R2 : Sec (kByte.R W (fun k => (w.alloc (.cells #[.int .i64 m.kind, .int .i64 m.from_, .slice A2 m.top.length c2, .int .i64 m.n, .int .i64 m.out.status, .slice A5 m.out.term.length c5] 34)).heap.size ≤ k ∧ k < W.heap.size) x3 b1) := ⟨Kd.R_mono hr3 (fun k h1 h2 => ⟨(HM.out k h1).1.elim (fun h => Nat.le_trans B1.out.size (by simpa using h)) (fun h => h.elim), h2⟩)⟩
      clear hr3 HM HF
      generalize W = w2 at *
      obtain ⟨a2, n2, rfl, -, -⟩ := Kd.R_form R2.out
      clear p0 p1 p2 p3 p4 p5
      obtain ⟨p0, p1, p2, p3, p4, p5⟩ := HP.out _ B2.out
      have T1 : Sec True := ⟨trivial⟩
      go_wp2_with (first | (at_builtin; clear T4; have T5 : Sec True := ⟨trivial⟩; refine B_own (S := fun k => (w.alloc (.cells #[.int .i64 m.kind, .int .i64 m.from_, .slice A2 m.top.length c2, .int .i64 m.n, .int .i64 m.out.status, .slice A5 m.out.term.length c5] 34)).heap.size ≤ k ∧ k < w4.heap.size) rfl (.tmp 32) (.tmp 36) 28 rfl Tryz.underlying28 info_byte _ _ b2 (trmBytes m.out.term) rfl rfl R5.out (Kd.R_V Y5.out) (fun k h1 h2 => by have := h2.2; omega) (by have := trmBytes_len m.top; have := trmBytes_len m.out.term; have := hl1.out; have := hl2.out; omega) ?_; intro v6 w6 hR hg hr; rw [hb3.out] at hR; have B6 := Sec.mk (grew B5.out hg (fun k e => (hr k e).1)); have R6 : Sec (kByte.R w6 (fun k => (w.alloc (.cells #[.int .i64 m.kind, .int .i64 m.from_, .slice A2 m.top.length c2, .int .i64 m.n, .int .i64 m.out.status, .slice A5 m.out.term.length c5] 34)).heap.size ≤ k ∧ k < w6.heap.size) v6 b3) := ⟨Kd.R_mono hR (fun k h1 h2 => ⟨h1.elim (fun h => h.1) (fun h => Nat.le_trans B5.out.size h), h2⟩)⟩; obtain ⟨a6, n6, rfl, -, -⟩ := Kd.R_form hR; clear p0 p1 p2 p3 p4 p5; obtain ⟨p0, p1, p2, p3, p4, p5⟩ := HP.out _ B6.out; clear hR hg hr) | (clear T3; go_at_call 28; have T4 : Sec True := ⟨trivial⟩; refine (TrmBytes_i _ _ m.out.term _ (HT.out _ B4.out)).mono ?_; rintro e w5 ⟨u5, rfl, hR, hb⟩; have B5 := Sec.mk (bel B4.out hb); have R5 := Sec.mk (Kd.R_below R4.out hb); have Y5 := Sec.mk hR; obtain ⟨a5, n5, rfl, -, -⟩ := Kd.R_form hR; clear p0 p1 p2 p3 p4 p5; obtain ⟨p0, p1, p2, p3, p4, p5⟩ := HP.out _ B5.out; clear hb hR) | (at_builtin; clear T2; have T3 : Sec True := ⟨trivial⟩; refine B_own (S := fun k => (w.alloc (.cells #[.int .i64 m.kind, .int .i64 m.from_, .slice A2 m.top.length c2, .int .i64 m.n, .int .i64 m.out.status, .slice A5 m.out.term.length c5] 34)).heap.size ≤ k ∧ k < w2.heap.size) rfl (.tmp 23) (.tmp 26) 28 rfl Tryz.underlying28 info_byte _ _ b1 (trmBytes m.top) rfl rfl R3.out (Kd.R_V Y3.out) (fun k h1 h2 => by have := h2.2; omega) (by have := trmBytes_len m.top; have := trmBytes_len m.out.term; have := hl1.out; have := hl2.out; omega) ?_; intro v4 w4 hR hg hr; rw [hb2.out] at hR; have B4 := Sec.mk (grew B3.out hg (fun k e => (hr k e).1)); have R4 : Sec (kByte.R w4 (fun k => (w.alloc (.cells #[.int .i64 m.kind, .int .i64 m.from_, .slice A2 m.top.length c2, .int .i64 m.n, .int .i64 m.out.status, .slice A5 m.out.term.length c5] 34)).heap.size ≤ k ∧ k < w4.heap.size) v4 b2) := ⟨Kd.R_mono hR (fun k h1 h2 => ⟨h1.elim (fun h => h.1) (fun h => Nat.le_trans B3.out.size h), h2⟩)⟩; obtain ⟨a4, n4, rfl, -, -⟩ := Kd.R_form hR; clear p0 p1 p2 p3 p4 p5; obtain ⟨p0, p1, p2, p3, p4, p5⟩ := HP.out _ B4.out; clear hR hg hr) | (clear T1; go_at_call 28; have T2 : Sec True := ⟨trivial⟩; refine (TrmBytes_i _ _ m.top _ (HV.out _ B2.out)).mono ?_; rintro e w3 ⟨u3, rfl, hR, hb⟩; have B3 := Sec.mk (bel B2.out hb); have R3 := Sec.mk (Kd.R_below R2.out hb); have Y3 := Sec.mk hR; obtain ⟨a3, n3, rfl, -, -⟩ := Kd.R_form hR; clear p0 p1 p2 p3 p4 p5; obtain ⟨p0, p1, p2, p3, p4, p5⟩ := HP.out _ B3.out; clear hb hR) | (clear T5; go_at_call 29; have U1 : Sec True := ⟨trivial⟩; refine (big2_c (b3.length : Int) (by omega) (by have := HB.out; omega) _).mono ?_; rintro e w7 ⟨u7, rfl, hR, hb⟩; have B7 := Sec.mk (bel B6.out hb); have R7 := Sec.mk (Kd.R_below R6.out hb); have Y7 := Sec.mk hR; obtain ⟨a7, n7, rfl, -, -⟩ := Kd.R_form hR; clear hb hR) | (at_builtin; clear U1; have U2 : Sec True := ⟨trivial⟩; refine B_own rfl (.tmp 40) (.tmp 41) 28 rfl Tryz.underlying28 info_byte _ _ [u8 ((b3.length : Int) / 256), u8 ((b3.length : Int) % 256)] b3 rfl rfl Y7.out (Kd.R_V R7.out) (fun k h1 h2 => by have := h1.2; omega) (by have := HB.out; simp only [List.length_cons, List.length_nil]; omega) ?_; intro v8 w8 hR hg hr; rw [show [u8 ((b3.length : Int) / 256), u8 ((b3.length : Int) % 256)] ++ b3 = fo from hfo.out] at hR; have B8 := Sec.mk (grew B7.out hg (fun k e => Nat.le_trans B6.out.size (hr k e))); have R8 : Sec (kByte.R w8 (fun k => (w.alloc (.cells #[.int .i64 m.kind, .int .i64 m.from_, .slice A2 m.top.length c2, .int .i64 m.n, .int .i64 m.out.status, .slice A5 m.out.term.length c5] 34)).heap.size ≤ k ∧ k < w8.heap.size) v8 fo) := ⟨Kd.R_mono hR (fun k h1 h2 => ⟨h1.elim (fun h => Nat.le_trans B6.out.size h) (fun h => Nat.le_trans B7.out.size h), h2⟩)⟩; obtain ⟨a8, n8, rfl, -, -⟩ := Kd.R_form R8.out; clear hR hg hr) | (clear U2; go_at_call 30; have U3 : Sec True := ⟨trivial⟩; refine (MsgSum_c _ _ fo _ (Kd.R_V R8.out)).mono ?_; rintro e w' ⟨rfl, rfl⟩) | (clear U3; go_at_call 29; have U4 : Sec True := ⟨trivial⟩; refine (big2_c (sumB fo) (sumB_in _).1 (by have := (sumB_in fo).2; omega) _).mono ?_; rintro e w9 ⟨u9, rfl, hR, hb⟩; have B9 := Sec.mk (bel B8.out hb); have R9 := Sec.mk (Kd.R_below R8.out hb); have Y9 := Sec.mk hR; obtain ⟨a9, n9, rfl, -, -⟩ := Kd.R_form hR; clear hb hR) | (at_builtin; clear U4; refine B_own rfl (.tmp 43) (.tmp 46) 28 rfl Tryz.underlying28 info_byte _ _ fo [u8 (sumB fo / 256), u8 (sumB fo % 256)] rfl rfl R9.out (Kd.R_V Y9.out) (fun k h1 h2 => by have := h2.2; omega) (by have := HB.out; have := hlf.out; simp only [List.length_cons, List.length_nil]; omega) ?_; intro v10 w10 hR hg hr; have B10 := Sec.mk (grew B9.out hg (fun k e => (hr k e).1)); have RF : Sec (kByte.R w10 (fun k => (w.alloc (.cells #[.int .i64 m.kind, .int .i64 m.from_, .slice A2 m.top.length c2, .int .i64 m.n, .int .i64 m.out.status, .slice A5 m.out.term.length c5] 34)).heap.size ≤ k) v10 (frameB b3)) := ⟨by unfold frameB; rw [hfo.out]; exact Kd.R_mono hR (fun k h1 h2 => h1.elim (fun h => h.1) (fun h => Nat.le_trans B9.out.size h))⟩; clear hR hg hr))
      go_ret
      refine ⟨_, rfl, ?_, BB.out _ B10.out⟩
      rw [HE.out]
      exact Kd.R_mono RF.out (fun k h1 h2 => by have := Zb.out; omega)
end
section
open Go.RowKit
set_option linter.unusedVariables false
set_option maxRecDepth 100000
theorem byteAt {w : World} {ok : Nat → Prop} {A : Option Addr} {xs : List UInt8} (h : kByte.C w ok A xs) (i : Nat) (hi : i < xs.length) : ∃ b off, A = some ⟨b, off, none⟩ ∧ ok b ∧ w.cell? ⟨b, off + i, none⟩ = some (.int .u8 (xs[i].toNat : Int)) := by
  obtain ⟨b, off, cs, hA, hb, hK, hc⟩ := Kd.C_get h (List.getElem?_eq_getElem hi)
  obtain ⟨rfl, _⟩ := hK
  refine ⟨b, off, hA, hb, ?_⟩
  have := hc 0 _ rfl
  rw [show i * kByte.sz + 0 = i from by simp [kByte, Kd.byte, Kd.scalar]] at this
  exact this
/-- The number that three bytes tell. -/
def numD (bs : List UInt8) (k : Nat) : Int := if h : k + 3 ≤ bs.length then (bs[k].toNat : Int) * 65536 + (bs[k + 1].toNat : Int) * 256 + (bs[k + 2].toNat : Int) - 99999 - 1 else 0
theorem wrapIn (n : Int) (h0 : -9223372036854775808 ≤ n) (h1 : n ≤ 9223372036854775807) : IntKind.i64.wrap n = n := by rw [IntKind.wrap_i64]; omega
set_option maxHeartbeats 1000000 in
theorem l6Num_c (v : Value) (bs : List UInt8) (ok : Nat → Prop) (k : Nat) (hk : k ≤ 1000000000) (w : World) (hV : kByte.V w ok v bs) :
    Calls Tryz.prog 36 #[v, .int .i64 k] w fun e w' => e = .returned (.tuple #[.int .i64 (numD bs k), .bool (decide (k + 3 ≤ bs.length))]) ∧ Below w.heap.size w w' := by
  obtain ⟨A, c, rfl, h1, h2, h3, hC, _⟩ := hV
  have HC := Sec.mk hC
  clear hC
  by_cases hlen : k + 3 ≤ bs.length
  · obtain ⟨b, off, rfl, hob, x0⟩ := byteAt HC.out k (by omega)
    obtain ⟨b', off', hA', _, x1⟩ := byteAt HC.out (k + 1) (by omega)
    simp only [Option.some.injEq, Addr.mk.injEq, and_true] at hA'
    obtain ⟨rfl, rfl⟩ := hA'
    obtain ⟨b', off', hA', _, x2⟩ := byteAt HC.out (k + 2) (by omega)
    simp only [Option.some.injEq, Addr.mk.injEq, and_true] at hA'
    obtain ⟨rfl, rfl⟩ := hA'
    have hN : Sec (numD bs k = _) := ⟨dif_pos hlen⟩
    have hd : Sec (decide (k + 3 ≤ bs.length) = true) := ⟨decide_eq_true hlen⟩
    generalize bs[k]'(by omega) = y0 at *
    generalize bs[k + 1]'(by omega) = y1 at *
    generalize bs[k + 2]'(by omega) = y2 at *
    have l0 : y0.toNat < 256 := y0.toNat_lt
    have l1 : y1.toNat < 256 := y1.toNat_lt
    have l2 : y2.toNat < 256 := y2.toNat_lt
    generalize y0.toNat = a0 at *
    generalize y1.toNat = a1 at *
    generalize y2.toNat = a2 at *
    generalize hn : bs.length = n at *
    have i0 : (0 : Int) ≤ (k : Int) := by omega
    have i1 : (k : Int) < (n : Int) := by omega
    obtain ⟨k1, hk1⟩ : ∃ k1 : Nat, k1 = k + 1 := ⟨_, rfl⟩
    obtain ⟨k2, hk2⟩ : ∃ k2 : Nat, k2 = k + 2 := ⟨_, rfl⟩
    rw [← hk1] at x1
    rw [← hk2] at x2
    have e1 : (k : Int) + 1 = (k1 : Int) := by omega
    have e2 : (k : Int) + 2 = (k2 : Int) := by omega
    have e3 : IntKind.i64.wrap (k1 : Int) = (k1 : Int) := wrapIn _ (by omega) (by omega)
    have e4 : IntKind.i64.wrap (k2 : Int) = (k2 : Int) := wrapIn _ (by omega) (by omega)
    have j0 : (0 : Int) ≤ (k1 : Int) := by omega
    have j1 : (k1 : Int) < (n : Int) := by omega
    have m0 : (0 : Int) ≤ (k2 : Int) := by omega
    have m1 : (k2 : Int) < (n : Int) := by omega
    have t1 : ¬ ((k : Int) < 0) := by omega
    have t2 : ¬ ((n : Int) - 3 < (k : Int)) := by omega
    have v0 : IntKind.i64.wrap (a0 : Int) = (a0 : Int) := wrapIn _ (by omega) (by omega)
    have v1 : IntKind.i64.wrap (a1 : Int) = (a1 : Int) := wrapIn _ (by omega) (by omega)
    have v2 : IntKind.i64.wrap (a2 : Int) = (a2 : Int) := wrapIn _ (by omega) (by omega)
    have v3 : IntKind.i64.wrap ((a0 : Int) * 65536) = (a0 : Int) * 65536 := wrapIn _ (by omega) (by omega)
    have v4 : IntKind.i64.wrap ((a1 : Int) * 256) = (a1 : Int) * 256 := wrapIn _ (by omega) (by omega)
    have v5 : IntKind.i64.wrap ((a0 : Int) * 65536 + (a1 : Int) * 256) = (a0 : Int) * 65536 + (a1 : Int) * 256 := wrapIn _ (by omega) (by omega)
    have v6 : IntKind.i64.wrap ((a0 : Int) * 65536 + (a1 : Int) * 256 + (a2 : Int)) = (a0 : Int) * 65536 + (a1 : Int) * 256 + (a2 : Int) := wrapIn _ (by omega) (by omega)
    have v7 : IntKind.i64.wrap ((a0 : Int) * 65536 + (a1 : Int) * 256 + (a2 : Int) - 99999) = (a0 : Int) * 65536 + (a1 : Int) * 256 + (a2 : Int) - 99999 := wrapIn _ (by omega) (by omega)
    have v8 : IntKind.i64.wrap ((a0 : Int) * 65536 + (a1 : Int) * 256 + (a2 : Int) - 99999 - 1) = (a0 : Int) * 65536 + (a1 : Int) * 256 + (a2 : Int) - 99999 - 1 := wrapIn _ (by omega) (by omega)
    clear hk1 hk2 hlen hob hn
    go_enter Tryz.func36, Tryz.ntmps36
    go_wp2
    go_region_held3 (fun W => W.cell? ⟨b, off + k, none⟩ = some (.int .u8 (a0 : Int)) ∧ W.cell? ⟨b, off + k1, none⟩ = some (.int .u8 (a1 : Int)) ∧ W.cell? ⟨b, off + k2, none⟩ = some (.int .u8 (a2 : Int))) (first | (refine ⟨?_, ?_, ?_⟩ <;> with_reducible assumption) | (simp only [World.cell?_drew]; refine ⟨?_, ?_, ?_⟩ <;> with_reducible assumption) | go_keep) (fail)
    all_goals
      go_wp2
      refine bodyPost_ret (v := .tuple #[.int .i64 ((a0 : Int) * 65536 + (a1 : Int) * 256 + (a2 : Int) - 99999 - 1), .bool true]) (by simp [results, Tryz.results36, go_sem]) rfl ?_
      exact ⟨by first | rw [hN.out, hd.out] | rw [hN.out], by first | exact Below.refl _ _ | exact belD (Below.refl _ _)⟩
  · have hN : Sec (numD bs k = 0) := ⟨dif_neg hlen⟩
    have hd : Sec (decide (k + 3 ≤ bs.length) = false) := ⟨decide_eq_false hlen⟩
    have t1 : ¬ ((k : Int) < 0) := by omega
    have t2 : ((bs.length : Int) - 3 < (k : Int)) := by omega
    go_enter Tryz.func36, Tryz.ntmps36
    go_wp2
    refine bodyPost_ret (v := .tuple #[.int .i64 0, .bool false]) (by simp [results, Tryz.results36, go_sem]) rfl ?_
    exact ⟨by first | rw [hN.out, hd.out] | rw [hN.out], Below.refl _ _⟩
end
section
open Go.RowKit
set_option linter.unusedVariables false
set_option maxRecDepth 100000
/-- A place read at a place, and where that ends. -/
def cellD (bs : List UInt8) (k : Nat) : Option (Cell × Nat) :=
  if h : k + 4 ≤ bs.length then
    if bs[k].toNat ≠ 3 then some (⟨bs[k].toNat, numD bs (k + 1), ⟨#[]⟩⟩, k + 4)
    else if h2 : k + 5 ≤ bs.length then
      if k + 5 + bs[k + 4].toNat ≤ bs.length then some (⟨3, numD bs (k + 1), ⟨((bs.drop (k + 5)).take bs[k + 4].toNat).toArray⟩⟩, k + 5 + bs[k + 4].toNat) else none
    else none
  else none
theorem cellD_short {bs : List UInt8} {k : Nat} (h : ¬ k + 4 ≤ bs.length) : cellD bs k = none := dif_neg h
theorem cellD_plain {bs : List UInt8} {k : Nat} (h : k + 4 ≤ bs.length) (h3 : bs[k].toNat ≠ 3) : cellD bs k = some (⟨bs[k].toNat, numD bs (k + 1), ⟨#[]⟩⟩, k + 4) := by unfold cellD; rw [dif_pos h, if_pos h3]
theorem cellD_a {bs : List UInt8} {k : Nat} (h : k + 4 ≤ bs.length) (h3 : bs[k].toNat = 3) (h5 : ¬ k + 5 ≤ bs.length) : cellD bs k = none := by unfold cellD; rw [dif_pos h, if_neg (by simp [h3]), dif_neg h5]
theorem cellD_b {bs : List UInt8} {k : Nat} (h : k + 4 ≤ bs.length) (h3 : bs[k].toNat = 3) (h5 : k + 5 ≤ bs.length) (h6 : ¬ k + 5 + bs[k + 4].toNat ≤ bs.length) : cellD bs k = none := by unfold cellD; rw [dif_pos h, if_neg (by simp [h3]), dif_pos h5, if_neg h6]
theorem cellD_c {bs : List UInt8} {k : Nat} (h : k + 4 ≤ bs.length) (h3 : bs[k].toNat = 3) (h5 : k + 5 ≤ bs.length) (h6 : k + 5 + bs[k + 4].toNat ≤ bs.length) : cellD bs k = some (⟨3, numD bs (k + 1), ⟨((bs.drop (k + 5)).take bs[k + 4].toNat).toArray⟩⟩, k + 5 + bs[k + 4].toNat) := by unfold cellD; rw [dif_pos h, if_neg (by simp [h3]), dif_pos h5, if_pos h6]
/-- What l6Cell answers. -/
def cellAns (o : Option (Cell × Nat)) : Value := match o with
  | some (c, n) => .tuple #[c.agg, .int .i64 n]
  | none => .tuple #[(⟨0, 0, ⟨#[]⟩⟩ : Cell).agg, .int .i64 (-1)]
theorem name_conv {W : World} {ok : Nat → Prop} {b off c : Nat} {bs : List UInt8} (hC : kByte.C W ok (some ⟨b, off, none⟩) bs) (k n cap : Nat) (h : k + n ≤ bs.length) (o : Nat) (ho : n = 0 ∨ o = off + k) :
    (convert 28 9 (.slice (some ⟨b, o, none⟩) n cap)).run Tryz.prog W = .ok (.string ⟨((bs.drop k).take n).toArray⟩) W := by
  have hl : ((bs.drop k).take n).length = n := by rw [List.length_take, List.length_drop]; omega
  have := run_convert_bytes_back (P := Tryz.prog) W 28 9 5 ⟨b, o, none⟩ cap ((bs.drop k).take n) Tryz.underlying28 (by kernel_rfl) (by kernel_rfl) (fun j hj => by
    rw [hl] at hj
    obtain ⟨b', off', hA', _, x1⟩ := byteAt hC (k + j) (by omega)
    simp only [Option.some.injEq, Addr.mk.injEq, and_true] at hA'
    obtain ⟨rfl, rfl⟩ := hA'
    have e1 : (⟨b, o, none⟩ : Addr).add j = ⟨b, off + (k + j), none⟩ := by
      rcases ho with rfl | rfl
      · omega
      · unfold Addr.add; split <;> simp_all <;> omega
    rw [e1, x1]
    simp)
  rw [hl] at this
  exact this
set_option maxHeartbeats 1000000 in
theorem l6Cell_c (v : Value) (bs : List UInt8) (ok : Nat → Prop) (k : Nat) (hk : k ≤ 100000000) (w : World) (hV : kByte.V w ok v bs) :
    Calls Tryz.prog 57 #[v, .int .i64 k] w fun e w' => e = .returned (cellAns (cellD bs k)) ∧ Below w.heap.size w w' := by
  have HV := Sec.mk hV
  have hu := Tryz.underlying77
  obtain ⟨A, c, rfl, h1, h2, h3, hC, hz⟩ := hV
  have HC := Sec.mk hC
  clear hC hz
  by_cases hlen : k + 4 ≤ bs.length
  · obtain ⟨b, off, rfl, hob, x0⟩ := byteAt HC.out k (by omega)
    have HN : Sec (∀ W, Below w.heap.size w W → Calls Tryz.prog 36 #[.slice (some ⟨b, off, none⟩) bs.length c, .int .i64 ((k : Int) + 1)] W fun e w' => e = .returned (.tuple #[.int .i64 (numD bs (k + 1)), .bool true]) ∧ Below W.heap.size W w') := ⟨fun W h => by
      have := l6Num_c _ bs ok (k + 1) (by omega) W (Kd.V_below HV.out h (by decide))
      rw [decide_eq_true (show k + 1 + 3 ≤ bs.length by omega), show ((k + 1 : Nat) : Int) = (k : Int) + 1 by omega] at this
      exact this⟩
    have hcat : Sec (∀ W : World, Below w.heap.size w W → W.cell? ⟨b, off + k, none⟩ = some (.int .u8 (bs[k].toNat : Int))) := ⟨fun W h => by
      obtain ⟨b', off', hA', _, x1⟩ := byteAt (Kd.C_below HC.out h (by decide)) k (by omega)
      simp only [Option.some.injEq, Addr.mk.injEq, and_true] at hA'
      obtain ⟨rfl, rfl⟩ := hA'
      exact x1⟩
    clear x0
    by_cases hkd : bs[k].toNat = 3
    · have h3' : Sec (∀ W : World, Below w.heap.size w W → W.cell? ⟨b, off + k, none⟩ = some (.int .u8 3)) := ⟨fun W h => by have := hcat.out W h; rw [hkd] at this; exact this⟩
      have i0 : (0 : Int) ≤ (k : Int) := by omega
      have i1 : (k : Int) < (bs.length : Int) := by omega
      by_cases h5 : k + 5 ≤ bs.length
      · obtain ⟨b', off', hA', _, x4⟩ := byteAt HC.out (k + 4) (by omega)
        simp only [Option.some.injEq, Addr.mk.injEq, and_true] at hA'
        obtain ⟨rfl, rfl⟩ := hA'
        clear x4
        have hat4 : Sec (∀ W : World, Below w.heap.size w W → W.cell? ⟨b, off + (k + 4), none⟩ = some (.int .u8 (bs[k + 4].toNat : Int))) := ⟨fun W h => by
          obtain ⟨b', off', hA', _, x1⟩ := byteAt (Kd.C_below HC.out h (by decide)) (k + 4) (by omega)
          simp only [Option.some.injEq, Addr.mk.injEq, and_true] at hA'
          obtain ⟨rfl, rfl⟩ := hA'
          exact x1⟩
        have hlt := bs[k + 4].toNat_lt
        by_cases h6 : k + 5 + bs[k + 4].toNat ≤ bs.length
        · have hans := Sec.mk (cellD_c hlen hkd h5 h6)
          generalize bs[k + 4]'(by omega) = y4 at *
          have l4 : y4.toNat < 256 := hlt
          clear hlt
          generalize y4.toNat = a4 at *
          generalize numD bs (k + 1) = nn at *
          obtain ⟨k4, hk4⟩ : ∃ k4 : Nat, k4 = k + 4 := ⟨_, rfl⟩
          rw [← hk4] at hat4
          have e4 : (k : Int) + 4 = (k4 : Int) := by omega
          have e5 : IntKind.i64.wrap (k4 : Int) = (k4 : Int) := wrapIn _ (by omega) (by omega)
          have v4 : IntKind.i64.wrap (a4 : Int) = (a4 : Int) := wrapIn _ (by omega) (by omega)
          have j0 : (0 : Int) ≤ (k4 : Int) := by omega
          have j1 : (k4 : Int) < (bs.length : Int) := by omega
          have t1 : ¬ ((bs.length : Int) < (k : Int) + 5) := by omega
          have t2 : ¬ ((bs.length : Int) < (k : Int) + 5 + (a4 : Int)) := by omega
          obtain ⟨k5, hk5⟩ : ∃ k5 : Nat, k5 = k + 5 := ⟨_, rfl⟩
          obtain ⟨kt, hkt⟩ : ∃ kt : Nat, kt = k + 5 + a4 := ⟨_, rfl⟩
          have e6 : (k : Int) + 5 = (k5 : Int) := by omega
          have e7 : IntKind.i64.wrap (k5 : Int) = (k5 : Int) := wrapIn _ (by omega) (by omega)
          have e8 : (k5 : Int) + (a4 : Int) = (kt : Int) := by omega
          have e9 : IntKind.i64.wrap (kt : Int) = (kt : Int) := wrapIn _ (by omega) (by omega)
          have t3 : ¬ ((bs.length : Int) < (k5 : Int)) := by omega
          have t4 : ¬ ((bs.length : Int) < (kt : Int)) := by omega
          have n0 : (0 : Int) ≤ (k5 : Int) := by omega
          have n1 : (k5 : Int) ≤ (kt : Int) := by omega
          have n2 : (kt : Int) ≤ (c : Int) := by omega
          have n3 : kt - k5 = a4 := by omega
          have HCV : Sec (∀ (W : World) (o : Nat), Below w.heap.size w W → (a4 = 0 ∨ o = off + k5) → (convert 28 9 (.slice (some ⟨b, o, none⟩) a4 (c - k5))).run Tryz.prog W = .ok (.string ⟨((bs.drop k5).take a4).toArray⟩) W) := ⟨fun W o h ho => name_conv (c := c) (Kd.C_below HC.out h (by decide)) k5 a4 _ (by omega) o ho⟩
          have N9 : Sec (k5 = k + 5 ∧ kt = k + 5 + a4) := ⟨hk5, hkt⟩
          clear hcat hk4 hkd hlen h5 h6 hk5 hkt t1 t2
          have hans2 : Sec (cellAns (cellD bs k) = .tuple #[.agg #[.int .i64 3, .int .i64 nn, .string ⟨((bs.drop k5).take a4).toArray⟩], .int .i64 kt]) := ⟨by rw [hans.out, N9.out.1, N9.out.2]; rfl⟩
          clear hans
          generalize (⟨((bs.drop k5).take a4).toArray⟩ : ByteArray) = nm at *
          by_cases hc5 : c = k5
          · have ha0 : a4 = 0 := by omega
            subst hc5
            go_enter Tryz.func57, Tryz.ntmps57
            go_wp2_with (go_at_call 36; refine (HN.out _ (belA (Below.refl _ _) _)).mono ?_; rintro e w1 ⟨rfl, hb⟩; have B1 := Sec.mk (bel (belA (Below.refl _ _) _) hb); have Q1 := Sec.mk (box_at' hb (heap_alloc_new w _)); have r0 := Q1.out.1 0 _ rfl; have r1 := Q1.out.1 1 _ rfl; have r2 := Q1.out.1 2 _ rfl; have g0 := Q1.out.2 0; have g1 := Q1.out.2 1; have g2 := Q1.out.2 2; have QA := Sec.mk (fun o : Obj => box_at' (bel hb (belA (Below.refl _ _) o)) (heap_alloc_new w _)); have q0 := fun o => (QA.out o).1 0 _ rfl; have q1 := fun o => (QA.out o).1 1 _ rfl; have q2 := fun o => (QA.out o).1 2 _ rfl; have f0 := fun o => (QA.out o).2 0; have f1 := fun o => (QA.out o).2 1; have f2 := fun o => (QA.out o).2 2; have y := h3'.out _ B1.out; have y4 := hat4.out _ B1.out; have ycv : ∀ o : Obj, (convert 28 9 (.slice (some ⟨b, off, none⟩) 0 0)).run Tryz.prog (w1.alloc o) = .ok (.string nm) (w1.alloc o) := (fun o => by have h9 := HCV.out _ off (belA B1.out o) (.inl ha0); rw [ha0, Nat.sub_self] at h9; exact h9); have ya := fun o => h3'.out _ (belA B1.out o); have yb := fun o => hat4.out _ (belA B1.out o); clear hb)
            refine bodyPost_ret (v := .tuple #[.agg #[.int .i64 3, .int .i64 nn, .string nm], .int .i64 kt]) (by first | (simp [results, Tryz.results57, go_sem, q0, q1, q2]; done) | (simp [results, Tryz.results57, go_sem, q0, q1, q2]; omega)) rfl ?_
            exact ⟨by rw [hans2.out], (((belA B1.out _).setCell (p := ⟨w.heap.size, 0, none⟩) (Nat.le_refl _) _).setCell (p := ⟨w.heap.size, 1, none⟩) (Nat.le_refl _) _).setCell (p := ⟨w.heap.size, 2, none⟩) (Nat.le_refl _) _⟩
          · go_enter Tryz.func57, Tryz.ntmps57
            go_wp2_with (go_at_call 36; refine (HN.out _ (belA (Below.refl _ _) _)).mono ?_; rintro e w1 ⟨rfl, hb⟩; have B1 := Sec.mk (bel (belA (Below.refl _ _) _) hb); have Q1 := Sec.mk (box_at' hb (heap_alloc_new w _)); have r0 := Q1.out.1 0 _ rfl; have r1 := Q1.out.1 1 _ rfl; have r2 := Q1.out.1 2 _ rfl; have g0 := Q1.out.2 0; have g1 := Q1.out.2 1; have g2 := Q1.out.2 2; have QA := Sec.mk (fun o : Obj => box_at' (bel hb (belA (Below.refl _ _) o)) (heap_alloc_new w _)); have q0 := fun o => (QA.out o).1 0 _ rfl; have q1 := fun o => (QA.out o).1 1 _ rfl; have q2 := fun o => (QA.out o).1 2 _ rfl; have f0 := fun o => (QA.out o).2 0; have f1 := fun o => (QA.out o).2 1; have f2 := fun o => (QA.out o).2 2; have y := h3'.out _ B1.out; have y4 := hat4.out _ B1.out; have ycv := fun o : Obj => HCV.out _ (off + k5) (belA B1.out o) (.inr rfl); have ya := fun o => h3'.out _ (belA B1.out o); have yb := fun o => hat4.out _ (belA B1.out o); clear hb)
            refine bodyPost_ret (v := .tuple #[.agg #[.int .i64 3, .int .i64 nn, .string nm], .int .i64 kt]) (by first | (simp [results, Tryz.results57, go_sem, q0, q1, q2]; done) | (simp [results, Tryz.results57, go_sem, q0, q1, q2]; omega)) rfl ?_
            exact ⟨by rw [hans2.out], (((belA B1.out _).setCell (p := ⟨w.heap.size, 0, none⟩) (Nat.le_refl _) _).setCell (p := ⟨w.heap.size, 1, none⟩) (Nat.le_refl _) _).setCell (p := ⟨w.heap.size, 2, none⟩) (Nat.le_refl _) _⟩
        · have hans := Sec.mk (cellD_b hlen hkd h5 h6)
          generalize bs[k + 4]'(by omega) = y4 at *
          have l4 : y4.toNat < 256 := hlt
          clear hlt
          generalize y4.toNat = a4 at *
          generalize numD bs (k + 1) = nn at *
          obtain ⟨k4, hk4⟩ : ∃ k4 : Nat, k4 = k + 4 := ⟨_, rfl⟩
          rw [← hk4] at hat4
          have e4 : (k : Int) + 4 = (k4 : Int) := by omega
          have e5 : IntKind.i64.wrap (k4 : Int) = (k4 : Int) := wrapIn _ (by omega) (by omega)
          have v4 : IntKind.i64.wrap (a4 : Int) = (a4 : Int) := wrapIn _ (by omega) (by omega)
          have j0 : (0 : Int) ≤ (k4 : Int) := by omega
          have j1 : (k4 : Int) < (bs.length : Int) := by omega
          have t1 : ¬ ((bs.length : Int) < (k : Int) + 5) := by omega
          have t2 : (bs.length : Int) < (k : Int) + 5 + (a4 : Int) := by omega
          clear hcat hk4 hkd hlen h5 h6
          go_enter Tryz.func57, Tryz.ntmps57
          go_wp2_with (go_at_call 36; refine (HN.out _ (belA (Below.refl _ _) _)).mono ?_; rintro e w1 ⟨rfl, hb⟩; have B1 := Sec.mk (bel (belA (Below.refl _ _) _) hb); have Q1 := Sec.mk (box_at' hb (heap_alloc_new w _)); have r0 := Q1.out.1 0 _ rfl; have r1 := Q1.out.1 1 _ rfl; have r2 := Q1.out.1 2 _ rfl; have g0 := Q1.out.2 0; have g1 := Q1.out.2 1; have g2 := Q1.out.2 2; have QA := Sec.mk (fun o : Obj => box_at' (bel hb (belA (Below.refl _ _) o)) (heap_alloc_new w _)); have q0 := fun o => (QA.out o).1 0 _ rfl; have q1 := fun o => (QA.out o).1 1 _ rfl; have q2 := fun o => (QA.out o).1 2 _ rfl; have f0 := fun o => (QA.out o).2 0; have f1 := fun o => (QA.out o).2 1; have f2 := fun o => (QA.out o).2 2; have y := h3'.out _ B1.out; have y4 := hat4.out _ B1.out; have ya := fun o => h3'.out _ (belA B1.out o); have yb := fun o => hat4.out _ (belA B1.out o); clear hb)
          refine bodyPost_ret (v := .tuple #[.agg #[.int .i64 0, .int .i64 0, .string ⟨#[]⟩], .int .i64 (-1)]) (by simp [results, Tryz.results57, go_sem, q0, q1, q2]) rfl ?_
          exact ⟨by rw [hans.out]; rfl, (((belA B1.out _).setCell (p := ⟨w.heap.size, 0, none⟩) (Nat.le_refl _) _).setCell (p := ⟨w.heap.size, 1, none⟩) (Nat.le_refl _) _).setCell (p := ⟨w.heap.size, 2, none⟩) (Nat.le_refl _) _⟩
      · have hans := Sec.mk (cellD_a hlen hkd h5)
        generalize numD bs (k + 1) = nn at *
        have t1 : (bs.length : Int) < (k : Int) + 5 := by omega
        clear hcat hkd hlen h5
        go_enter Tryz.func57, Tryz.ntmps57
        go_wp2_with (go_at_call 36; refine (HN.out _ (belA (Below.refl _ _) _)).mono ?_; rintro e w1 ⟨rfl, hb⟩; have B1 := Sec.mk (bel (belA (Below.refl _ _) _) hb); have Q1 := Sec.mk (box_at' hb (heap_alloc_new w _)); have r0 := Q1.out.1 0 _ rfl; have r1 := Q1.out.1 1 _ rfl; have r2 := Q1.out.1 2 _ rfl; have g0 := Q1.out.2 0; have g1 := Q1.out.2 1; have g2 := Q1.out.2 2; have QA := Sec.mk (fun o : Obj => box_at' (bel hb (belA (Below.refl _ _) o)) (heap_alloc_new w _)); have q0 := fun o => (QA.out o).1 0 _ rfl; have q1 := fun o => (QA.out o).1 1 _ rfl; have q2 := fun o => (QA.out o).1 2 _ rfl; have f0 := fun o => (QA.out o).2 0; have f1 := fun o => (QA.out o).2 1; have f2 := fun o => (QA.out o).2 2; have y := h3'.out _ B1.out; clear hb)
        refine bodyPost_ret (v := .tuple #[.agg #[.int .i64 0, .int .i64 0, .string ⟨#[]⟩], .int .i64 (-1)]) (by simp [results, Tryz.results57, go_sem, q0, q1, q2]) rfl ?_
        exact ⟨by rw [hans.out]; rfl, (((belA B1.out _).setCell (p := ⟨w.heap.size, 0, none⟩) (Nat.le_refl _) _).setCell (p := ⟨w.heap.size, 1, none⟩) (Nat.le_refl _) _).setCell (p := ⟨w.heap.size, 2, none⟩) (Nat.le_refl _) _⟩
    · have hans := Sec.mk (cellD_plain hlen hkd)
      have hlt := bs[k].toNat_lt
      generalize bs[k]'(by omega) = y0 at *
      have l0 : y0.toNat < 256 := hlt
      clear hlt
      generalize y0.toNat = a0 at *
      generalize numD bs (k + 1) = nn at *
      have i0 : (0 : Int) ≤ (k : Int) := by omega
      have i1 : (k : Int) < (bs.length : Int) := by omega
      have v0 : IntKind.i64.wrap (a0 : Int) = (a0 : Int) := wrapIn _ (by omega) (by omega)
      have g9 : ((a0 : Int) != 3) = true := by simp; omega
      have hto : Sec (((k + 4 : Nat) : Int) = (k : Int) + 4) := ⟨by omega⟩
      clear hkd hlen
      go_enter Tryz.func57, Tryz.ntmps57
      go_wp2_with (go_at_call 36; refine (HN.out _ (belA (Below.refl _ _) _)).mono ?_; rintro e w1 ⟨rfl, hb⟩; have B1 := Sec.mk (bel (belA (Below.refl _ _) _) hb); have Q1 := Sec.mk (box_at' hb (heap_alloc_new w _)); have r0 := Q1.out.1 0 _ rfl; have r1 := Q1.out.1 1 _ rfl; have r2 := Q1.out.1 2 _ rfl; have g0 := Q1.out.2 0; have g1 := Q1.out.2 1; have g2 := Q1.out.2 2; have QA := Sec.mk (fun o : Obj => box_at' (bel hb (belA (Below.refl _ _) o)) (heap_alloc_new w _)); have q0 := fun o => (QA.out o).1 0 _ rfl; have q1 := fun o => (QA.out o).1 1 _ rfl; have q2 := fun o => (QA.out o).1 2 _ rfl; have f0 := fun o => (QA.out o).2 0; have f1 := fun o => (QA.out o).2 1; have f2 := fun o => (QA.out o).2 2; have y := hcat.out _ B1.out; clear hb)
      refine bodyPost_ret (v := .tuple #[.agg #[.int .i64 a0, .int .i64 nn, .string ⟨#[]⟩], .int .i64 ((k : Int) + 4)]) (by simp [results, Tryz.results57, go_sem, q0, q1, q2]) rfl ?_
      exact ⟨by rw [hans.out, cellAns, hto.out], ((((belA B1.out _).setCell (p := ⟨w.heap.size, 0, none⟩) (Nat.le_refl _) _).setCell (p := ⟨w.heap.size, 1, none⟩) (Nat.le_refl _) _).setCell (p := ⟨w.heap.size, 2, none⟩) (Nat.le_refl _) _)⟩
  · have hans := Sec.mk (cellD_short hlen)
    have HN : Sec (∀ W, Below w.heap.size w W → Calls Tryz.prog 36 #[.slice A bs.length c, .int .i64 ((k : Int) + 1)] W fun e w' => e = .returned (.tuple #[.int .i64 0, .bool false]) ∧ Below W.heap.size W w') := ⟨fun W h => by
      have := l6Num_c _ bs ok (k + 1) (by omega) W (Kd.V_below HV.out h (by decide))
      rw [decide_eq_false (show ¬ k + 1 + 3 ≤ bs.length by omega), show ((k + 1 : Nat) : Int) = (k : Int) + 1 by omega, show numD bs (k + 1) = 0 from dif_neg (by omega)] at this
      exact this⟩
    go_enter Tryz.func57, Tryz.ntmps57
    go_wp2_with (go_at_call 36; refine (HN.out _ (belA (Below.refl _ _) _)).mono ?_; rintro e w1 ⟨rfl, hb⟩; have B1 := Sec.mk (bel (belA (Below.refl _ _) _) hb); have Q1 := Sec.mk (box_at' hb (heap_alloc_new w _)); have r0 := Q1.out.1 0 _ rfl; have r1 := Q1.out.1 1 _ rfl; have r2 := Q1.out.1 2 _ rfl; have g0 := Q1.out.2 0; have g1 := Q1.out.2 1; have g2 := Q1.out.2 2; have QA := Sec.mk (fun o : Obj => box_at' (bel hb (belA (Below.refl _ _) o)) (heap_alloc_new w _)); have q0 := fun o => (QA.out o).1 0 _ rfl; have q1 := fun o => (QA.out o).1 1 _ rfl; have q2 := fun o => (QA.out o).1 2 _ rfl; have f0 := fun o => (QA.out o).2 0; have f1 := fun o => (QA.out o).2 1; have f2 := fun o => (QA.out o).2 2; clear hb)
    refine bodyPost_ret (v := .tuple #[.agg #[.int .i64 0, .int .i64 0, .string ⟨#[]⟩], .int .i64 (-1)]) (by simp [results, Tryz.results57, go_sem, r0, r1, r2]) rfl ?_
    exact ⟨by rw [hans.out]; rfl, (((B1.out.setCell (p := ⟨w.heap.size, 0, none⟩) (Nat.le_refl _) _).setCell (p := ⟨w.heap.size, 1, none⟩) (Nat.le_refl _) _).setCell (p := ⟨w.heap.size, 2, none⟩) (Nat.le_refl _) _)⟩
end
end Go.Proofs.YteflipoiiddkfaaGreatDoor
