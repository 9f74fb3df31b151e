/- Contracts: the program's own TrmBytes. -/
import Derived.Test.YtkdfmnaijgkfhaaDoorI2
import Derived.Test.YtkdfmnaijgkfhaaDoorDraw4
import Derived.Test.YtkdfmnaijgkfhaaDoorRows2
import Derived.Laws.MakeOwn
namespace Go.Proofs.YtkdfmnaijgkfhaaDoor
open Go.RowKit
set_option linter.unusedVariables false
set_option maxRecDepth 100000
theorem made_ (t e : TypeId) (z : Value) (size bytes : Nat) (ht : Tryd.prog.underlying t = some (.slice e)) (hinfo : (Tryd.prog.info? e).map (fun i => (i.zero, i.size, i.bytes)) = some (some z, size, bytes)) (hb : bytes ≤ 1000) (n : Nat) (hn : n ≤ 1073741824) (w : World) :
    (Instr.makeSlice t (.int .i64 (n : Int)) (.int .i64 (n : Int))).run Tryd.prog w = .ok (.slice (some ⟨w.heap.size, 0, none⟩) n n) (w.alloc (.cells (madeCells z.cells (n * size)) e)) := by
  obtain ⟨i0, hi, hzz⟩ := Option.map_eq_some_iff.1 hinfo
  simp only [Prod.mk.injEq] at hzz
  obtain ⟨hz0, rfl, rfl⟩ := hzz
  have hbb : (i0.bytes : Int) * (n : Int) ≤ 281474976710656 := by
    have h1 : i0.bytes * n ≤ 1000 * 1073741824 := Nat.mul_le_mul hb hn
    have h2 : ((i0.bytes * n : Nat) : Int) ≤ 281474976710656 := by omega
    rwa [Int.natCast_mul] at h2
  have hr := run_make (P := Tryd.prog) w t e i0 z ht hi hz0 .i64 .i64 n n (by omega) (by omega) hbb (by omega)
  simp only [Int.toNat_natCast] at hr
  exact hr
theorem big3_c (n : Int) (h0 : 0 ≤ n) (h1 : n < 16777216) (w : World) :
    Calls Tryd.prog 69 #[.int .i64 n, .int .i64 3] w fun e w' => ∃ u, e = .returned u ∧ kByte.R w' (fun k => w.heap.size ≤ k) u [u8 (n / 65536), u8 (n / 256 % 256), u8 (n % 256)] ∧ Below w.heap.size w w' := by
  have hmk : (Instr.makeSlice 24 (.int .i64 3) (.int .i64 3)).run Tryd.prog w = .ok (.slice (some ⟨w.heap.size, 0, none⟩) 3 3) (w.alloc (.cells #[.int .u8 0, .int .u8 0, .int .u8 0] 5)) := by
    have h := made_ 24 5 (.int .u8 0) 1 1 Tryd.underlying24 (by kernel_rfl) (by decide) 3 (by decide) w
    have e : madeCells (Value.int .u8 0).cells (3 * 1) = #[.int .u8 0, .int .u8 0, .int .u8 0] := Array.toList_inj.1 ((Kd.made_toList #[.int .u8 0] 3).trans rfl)
    rw [e] at h
    exact h
  go_enter Tryd.func69, Tryd.ntmps69
  go_wp2
  clear hmk
  go_loopw [11] (fun iv wr => ∃ (k : Nat) (a b c : Int), k ≤ 3 ∧ iv = .int .i64 k ∧ wr = w.alloc (.cells #[.int .u8 a, .int .u8 b, .int .u8 c] 5) ∧ Sec (k = 0 ∧ a = 0 ∧ b = 0 ∧ c = 0 ∨ k = 1 ∧ a = 0 ∧ b = 0 ∧ c = n % 256 ∨ k = 2 ∧ a = 0 ∧ b = n / 256 % 256 ∧ c = n % 256 ∨ k = 3 ∧ a = n / 65536 ∧ b = n / 256 % 256 ∧ c = n % 256)) (fun iv _ => 3 - (intOf iv).toNat)
  case atStart => exact ⟨0, 0, 0, 0, by omega, rfl, rfl, ⟨.inl ⟨rfl, rfl, rfl, rfl⟩⟩⟩
  case round =>
    obtain ⟨k, a, b, c, hk, rfl, rfl, hS⟩ := hrel
    obtain rfl | rfl | rfl | rfl : k = 0 ∨ k = 1 ∨ k = 2 ∨ k = 3 := by omega
    · go_wp2
      go_roundw
      case rel => exact ⟨1, a, b, n % 256, by omega, rfl, rfl, ⟨.inr (.inl (by have := hS.out; omega))⟩⟩
      case measure => simp [intOf]
    · go_wp2
      go_roundw
      case rel => exact ⟨2, a, n / 256 % 256, c, by omega, rfl, rfl, ⟨.inr (.inr (.inl (by have := hS.out; omega)))⟩⟩
      case measure => simp [intOf]
    · go_wp2
      go_roundw
      case rel => exact ⟨3, n / 65536, b, c, by omega, rfl, rfl, ⟨.inr (.inr (.inr (by have := hS.out; omega)))⟩⟩
      case measure => simp [intOf]
    · obtain ⟨rfl, rfl, rfl⟩ : a = n / 65536 ∧ b = n / 256 % 256 ∧ c = n % 256 := by have := hS.out; omega
      go_wp2
      go_ret
      refine ⟨_, rfl, ?_, belA (Below.refl _ _) _⟩
      have hR := kByte_new w w.heap.size (Nat.le_refl _) [n / 65536, n / 256 % 256, n % 256] (by simp)
      have e1 : IntKind.u8.wrap (n / 65536) = n / 65536 := by rw [IntKind.wrap_u8']; omega
      have e2 : IntKind.u8.wrap (n / 256 % 256) = n / 256 % 256 := by rw [IntKind.wrap_u8']; omega
      have e3 : IntKind.u8.wrap (n % 256) = n % 256 := by rw [IntKind.wrap_u8']; omega
      simp only [List.map_cons, List.map_nil, e1, e2, e3] at hR
      exact hR
theorem number_c (n : Int) (h0 : -9999 ≤ n) (h1 : n ≤ 99999) (w : World) :
    Calls Tryd.prog 40 #[.int .i64 n] w fun e w' => ∃ u, e = .returned u ∧ kByte.R w' (fun k => w.heap.size ≤ k) u (num3 n) ∧ Below w.heap.size w w' := by
  go_enter Tryd.func40, Tryd.ntmps40
  go_wp2_with (go_at_call 69; refine (big3_c (n + 99999 + 1) (by omega) (by omega) _).mono ?_; rintro e w1 ⟨u, rfl, hR, hb⟩; have HR := Sec.mk hR; have HB := Sec.mk hb; clear hR hb)
  go_ret
  exact ⟨_, rfl, HR.out, HB.out⟩
/-- A block's cells. -/
theorem box_at' {w w' : World} {b : Nat} {cs : Array Value} {t : TypeId} (hB : Below w.heap.size w w') (h : w.heap[b]? = some (.cells cs t (0, 0))) : (∀ j u, cs[j]? = some u → w'.cell? ⟨b, j, none⟩ = some u) ∧ ∀ j, w'.frozen? ⟨b, j, none⟩ = false := by
  have h' := (hB.block b (Array.getElem?_eq_some_iff.1 h).1).trans h
  exact ⟨fun j u hj => by rw [cell_of_row w' b _ cs t (0, 0) h']; exact hj, fun j => by simp [World.frozen?, h']⟩
/-- append(v, y...) of bytes, y's memory apart. -/
theorem B_own {P : Program} {ops : Array Oper} {rest : List Oper} {o : Oper} {a : Act} {Q : Exit → Act → World → Prop} {S T : Nat → Prop} {W : World} (hgd : o.guard = none) (s x : Operand) (t : TypeId)
    (ho : o.op = .call { callee := .builtin .append, args := #[s, x], argTypes := #[t, t] })
    (ht : P.underlying t = some (.slice 5)) (hinfo : (P.info? 5).map (fun i => (i.zero, i.size, i.bytes)) = some (some (.int .u8 0), 1, 1))
    (v u : Value) (xs ys : List UInt8) (hs : a.eval s = v) (hx : a.eval x = u) (HO : kByte.R W S v xs) (hy : kByte.V W T u ys) (hd : ∀ k, T k → ¬ S k)
    (hl : xs.length + ys.length ≤ 1073741824)
    (h : ∀ v1 w1, kByte.R w1 (fun k => S k ∨ W.heap.size ≤ k) v1 (xs ++ ys) → W.grownBy w1 v.ownBlock → (∀ k, v.ownBlock = some k → S k) → wpList P ops Q rest (a.put o.dst v1) w1) :
    wpList P ops Q (o :: rest) a W := by
  obtain ⟨_, _, _, h3⟩ := Kd.R_own HO
  refine Kd.W_cat kByte hgd s x t (.int .u8 0) 1 ho ht hinfo rfl (by decide) (by decide) v u xs ys S T hs hx (kByte_R_W _ HO) (Kd.V_mono hy (fun k hk => ⟨hk, fun e => hd k hk (h3 k e.symm).1⟩) (by decide)) hl ?_
  intro v1 w1 h1 hg
  exact h v1 w1 (kByte_W_R h1) hg (fun k e => (h3 k e).1)
/-- append(v, n), a byte. -/
theorem B_put {P : Program} {ops : Array Oper} {rest : List Oper} {o : Oper} {a : Act} {Q : Exit → Act → World → Prop} {S : Nat → Prop} {W : World} (hgd : o.guard = none) (s x : Operand) (t : TypeId)
    (ho : o.op = .call { callee := .builtin .append, args := #[s, x], argTypes := #[t, t] })
    (ht : P.underlying t = some (.slice 5)) (hinfo : (P.info? 5).map (fun i => (i.zero, i.size, i.bytes)) = some (some (.int .u8 0), 1, 1))
    (v : Value) (xs : List UInt8) (n : Int) (hs : a.eval s = v) {N : Nat} (hx : a.eval x = .slice (some ⟨N, 0, none⟩) 1 1) (hN : N = W.heap.size) (HO : kByte.R W S v xs)
    (hl : xs.length + 1 ≤ 1073741824)
    (h : ∀ v1 w1, kByte.R w1 (fun k => S k ∨ W.heap.size ≤ k) v1 (xs ++ [u8 n]) → W.grownBy w1 v.ownBlock → (∀ k, v.ownBlock = some k → S k) → wpList P ops Q rest (a.put o.dst v1) w1) :
    wpList P ops Q (o :: rest) a (W.alloc (.cells #[.int .u8 (IntKind.u8.wrap n)] 5)) := by
  subst hN
  obtain ⟨_, _, _, h3⟩ := Kd.R_own HO
  exact Kd.R_append kByte hgd s x t (.int .u8 0) 1 ho ht hinfo rfl (by decide) (by decide) v xs (u8 n) [.int .u8 (IntKind.u8.wrap n)] S (fun _ => False) hs hx HO (kByte_O _ _ n) (fun k h1 _ _ => h1) hl
    (fun v1 w1 h1 hg => h v1 w1 (Kd.R_mono h1 (fun k hk _ => hk.elim .inl (fun hk => hk.elim False.elim .inr))) hg (fun k e => (h3 k e).1))
theorem Foot.grown {S : Nat → Prop} {w0 W w1 : World} {row : Option Nat} (h : Foot S w0 W) (hg : W.grownBy w1 row) (hr : ∀ k, row = some k → S k ∨ w0.heap.size ≤ k) : Foot S w0 w1 :=
  ⟨hg.os.trans h.os, hg.tape.trans h.tape, hg.output.trans h.output, Nat.le_trans h.size hg.size, fun k hk hn => (hg.block k (Nat.lt_of_lt_of_le hk h.size) (fun e => (hr k e.symm).elim hn (fun e => by omega))).trans (h.block k hk hn)⟩
theorem carry_ {S : Nat → Prop} {w W : World} {b : Nat} {o : Obj} (h : Foot S w W) (hb : w.heap[b]? = some o) (hS : ¬ S b) : W.heap[b]? = some o := (h.block b (Array.getElem?_eq_some_iff.1 hb).1 hS).trans hb
end Go.Proofs.YtkdfmnaijgkfhaaDoor
