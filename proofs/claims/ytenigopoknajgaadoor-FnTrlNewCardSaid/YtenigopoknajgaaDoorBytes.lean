/- Rows of bytes: what is appended to them. -/
import Derived.Test.YtenigopoknajgaaDoorKinds
import Derived.Lib.AppendStr
import Derived.Laws.BitsAllLaws
import Derived.KernelRfl
import Derived.Orders
import Derived.Tactics
namespace Go.Proofs.YtenigopoknajgaaDoor
open Go.RowKit
set_option linter.unusedVariables false
set_option maxRecDepth 100000
def u8 (n : Int) : UInt8 := UInt8.ofNat (n % 256).toNat
theorem u8_toNat (n : Int) : ((u8 n).toNat : Int) = n % 256 := by
  have h := Int.emod_nonneg n (show (256:Int) ≠ 0 by decide)
  have h2 := Int.emod_lt_of_pos n (show (0:Int) < 256 by decide)
  unfold u8
  rw [UInt8.toNat_ofNat']
  omega
theorem u8_wrap (n : Int) : ((u8 n).toNat : Int) = IntKind.u8.wrap n := by rw [IntKind.wrap_u8', u8_toNat]
theorem u8_of (b : UInt8) : u8 b.toNat = b := by
  apply UInt8.toNat_inj.1
  have := u8_toNat b.toNat
  have h2 := UInt8.toNat_lt b
  omega
theorem kByte_O (w : World) (S : Nat → Prop) (n : Int) : kByte.O w S (u8 n) [.int .u8 (IntKind.u8.wrap n)] := ⟨by show _ = [Value.int .u8 ((u8 n).toNat : Int)]; rw [u8_wrap], trivial⟩
theorem info_byte : (Tryd.prog.info? 5).map (fun i => (i.zero, i.size, i.bytes)) = some (some (.int .u8 0), 1, 1) := by kernel_rfl
def byteC (x : UInt8) : Value := .int .u8 x.toNat
theorem kByte_Ks {w : World} {ok : Nat → Prop} : ∀ {xs : List UInt8} {cs : List Value}, kByte.Ks w ok xs cs ↔ cs = xs.map byteC
  | [], cs => Iff.rfl
  | x :: xs, cs => by
    constructor
    · rintro ⟨c0, c1, rfl, ⟨rfl, _⟩, h2⟩
      rw [kByte_Ks.1 h2]; rfl
    · rintro rfl
      exact ⟨[byteC x], xs.map byteC, rfl, ⟨rfl, trivial⟩, kByte_Ks.2 rfl⟩
theorem kByte_Os {w : World} : ∀ {xs : List UInt8} {S : Nat → Prop} {cs : List Value}, kByte.Os w S xs cs ↔ cs = xs.map byteC
  | [], S, cs => by simp [Kd.Os]
  | x :: xs, S, cs => by
    constructor
    · rintro ⟨S1, S2, c0, c1, rfl, _, _, ⟨rfl, _⟩, h2⟩
      rw [kByte_Os.1 h2]; rfl
    · rintro rfl
      exact ⟨fun _ => False, fun _ => False, [byteC x], xs.map byteC, rfl, fun _ h => h.elim, fun _ h => h.elim, ⟨rfl, trivial⟩, kByte_Os.2 rfl⟩
theorem kByte_W_R {w : World} {S ok : Nat → Prop} {v : Value} {xs : List UInt8} (h : kByte.W w S ok v xs) : kByte.R w S v xs := by
  obtain ⟨h0, ⟨rfl, rfl⟩ | ⟨b, cap, cur, rfl, hb, hS, h1, h2, h3, h4⟩⟩ := h
  · exact ⟨h0, .inl ⟨rfl, rfl⟩⟩
  · exact ⟨h0, .inr ⟨b, cap, cur, rfl, hb, hS, h1, h2, h3, kByte_Os.2 (kByte_Ks.1 h4)⟩⟩
theorem kByte_R_W {w : World} {S : Nat → Prop} (ok : Nat → Prop) {v : Value} {xs : List UInt8} (h : kByte.R w S v xs) : kByte.W w S ok v xs := by
  obtain ⟨h0, ⟨rfl, rfl⟩ | ⟨b, cap, cur, rfl, hb, hS, h1, h2, h3, h4⟩⟩ := h
  · exact ⟨h0, .inl ⟨rfl, rfl⟩⟩
  · exact ⟨h0, .inr ⟨b, cap, cur, rfl, hb, hS, h1, h2, h3, kByte_Ks.2 (kByte_Os.1 h4)⟩⟩
theorem wp_only {P : Program} {o : Oper} {a : Act} {w : World} {K : Act → World → Prop} {Q Q' : Exit → Act → World → Prop} (hf : ∀ e a w, Q' e a w → e = .normal)
    (hh : o.wp P a w K Q') : o.wp P a w K Q := by
  unfold Oper.wp at *
  generalize (execOp a.eval o).run P w = r at *
  cases r with
  | ok n w' =>
    cases n <;> simp only [Oper.upon] at hh ⊢ <;>
      first
        | exact hh
        | exact Calls.mono hh (fun e w'' he => by
            cases e with
            | returned v => exact he
            | panicked c => cases hf _ _ _ he
            | outgrown => obtain ⟨a, w, h⟩ := he; cases hf _ _ _ h)
  | halt x w' =>
    cases x <;> simp only [Oper.upon] at hh ⊢
    all_goals first | exact hh | cases hf _ _ _ hh
/-- A law of the list's, as one step of a region that draws. -/
theorem step_of {P : Program} {ops : Array Oper} {o : Oper} {a : Act} {w : World} {K : Act → World → Prop} {Q : Exit → Act → World → Prop} {E : Prop} (hg : o.guard = none)
    (h : ∀ Q' : Exit → Act → World → Prop, (∀ a w, K a w → Q' .normal a w) → wpList P ops Q' [o] a w) : if Region.wanted o (yielded ops a.tmps) = true then Oper.wp P o a w K Q else E := by
  have hw : Region.wanted o (yielded ops a.tmps) = true := by simp [Region.wanted, hg]
  rw [if_pos hw]
  have h1 := h (fun e a w => e = .normal ∧ K a w) (fun a w hk => ⟨rfl, hk⟩)
  unfold wpList at h1
  rw [if_pos hw] at h1
  rcases h1 with h1 | ⟨_, a', w', h1, _⟩
  · exact wp_only (fun e a w h => h.1) (Oper.wp_mono (fun a w hk => hk.2) h1)
  · cases h1
section
variable {P : Program} {ops : Array Oper} {rest : List Oper} {o : Oper} {a : Act} {Q : Exit → Act → World → Prop}
/-- append(v, y...) of bytes, onto a row of one's own. -/
theorem B_cat {B : Nat} {W : World} (hgd : o.guard = none) (s x : Operand) (t : TypeId)
    (ho : o.op = .call { callee := .builtin .append, args := #[s, x], argTypes := #[t, t] })
    (ht : P.underlying t = some (.slice 5)) (hinfo : (P.info? 5).map (fun i => (i.zero, i.size, i.bytes)) = some (some (.int .u8 0), 1, 1))
    (v u : Value) (xs ys : List UInt8) (ok : Nat → Prop) (hs : a.eval s = v) (hx : a.eval x = u) (HO : kByte.R W (fun k => B ≤ k) v xs) (hB : B ≤ W.heap.size) (hy : kByte.V W ok u ys) (hok : ∀ k, ok k → k < B)
    (hl : xs.length + ys.length ≤ 1073741824)
    (h : ∀ v1 w1, kByte.R w1 (fun k => B ≤ k) v1 (xs ++ ys) → W.grownBy w1 v.ownBlock → (∀ k, v.ownBlock = some k → B ≤ k) → wpList P ops Q rest (a.put o.dst v1) w1) :
    wpList P ops Q (o :: rest) a W := by
  obtain ⟨_, _, _, h3⟩ := Kd.R_own HO
  refine Kd.W_cat kByte hgd s x t (.int .u8 0) 1 ho ht hinfo rfl (by decide) (by decide) v u xs ys (fun k => B ≤ k) (fun k => k < B) hs hx (kByte_R_W _ HO) (Kd.V_mono hy (fun k hk => ⟨hok k hk, fun e => ?_⟩) (by decide)) hl ?_
  · have := (h3 k e.symm).1
    have := hok k hk
    omega
  · intro v1 w1 h1 hg
    exact h v1 w1 (Kd.R_mono (kByte_W_R h1) (fun k hk _ => by omega)) hg (fun k e => (h3 k e).1)
/-- append(v, s...), s a string. -/
theorem B_str {B : Nat} {W : World} (hgd : o.guard = none) (s x : Operand) (t u : TypeId)
    (ho : o.op = .call { callee := .builtin .append, args := #[s, x], argTypes := #[t, u] })
    (ht : P.underlying t = some (.slice 5)) (hu : P.underlying u = some .string) (hinfo : (P.info? 5).map (fun i => (i.zero, i.size, i.bytes)) = some (some (.int .u8 0), 1, 1))
    (v : Value) (xs : List UInt8) (y : ByteArray) (hs : a.eval s = v) (hx : a.eval x = .string y) (HO : kByte.R W (fun k => B ≤ k) v xs) (hB : B ≤ W.heap.size)
    (hl : xs.length + y.size ≤ 1073741824)
    (h : ∀ v1 w1, kByte.R w1 (fun k => B ≤ k) v1 (xs ++ y.data.toList) → W.grownBy w1 v.ownBlock → (∀ k, v.ownBlock = some k → B ≤ k) → wpList P ops Q rest (a.put o.dst v1) w1) :
    wpList P ops Q (o :: rest) a W := by
  obtain ⟨i0, hi, hzz⟩ := Option.map_eq_some_iff.1 hinfo
  simp only [Prod.mk.injEq] at hzz
  obtain ⟨hz0, hz1, hz2⟩ := hzz
  obtain ⟨inner, hown, hO, h3⟩ := Kd.R_own HO
  obtain rfl := kByte_Os.1 hO
  have hown2 : W.ownsRow B 5 1 v xs.length (xs.map byteC) := by
    refine ⟨hown.1, ?_⟩
    rcases hown.2 with h | ⟨g, cap, cur, h⟩
    · exact .inl h
    · obtain ⟨rfl, _, h⟩ := h
      exact .inr ⟨g, cap, cur, rfl, (h3 g rfl).1, h⟩
  refine Lib.wpList_append_own_string W hgd s x t u ho B 5 i0 ht hu hi hz0 hz1 hz2 v xs.length (xs.map byteC) hs hown2 y hx (by simp only [maxLen]; omega) (by omega) hB ?_
  intro v1 w1 ho1 hg _
  have hl2 : (xs ++ y.data.toList).length = xs.length + y.size := by rw [List.length_append, Array.length_toList]; rfl
  refine h v1 w1 (Kd.R_of_own (inner := xs.map byteC ++ Lib.strCells y) ⟨?_, ?_⟩ ?_ ?_ (by rw [hl2]; exact hl)) hg (fun k e => (h3 k e).1)
  · rw [hl2]; exact ho1.1
  · rw [hl2]
    rcases ho1.2 with h | ⟨g, cap, cur, h⟩
    · exact .inl h
    · obtain ⟨rfl, _, h⟩ := h
      exact .inr ⟨g, cap, cur, rfl, Nat.zero_le _, h⟩
  · exact kByte_Os.2 (by rw [List.map_append]; rfl)
  · intro k e
    rcases ho1.2 with ⟨rfl, _⟩ | ⟨g, cap, cur, rfl, hb, _⟩
    · cases e
    · simp [Value.ownBlock] at e; subst e; exact hb
/-- append(v, n), a byte. -/
theorem B_app {B : Nat} {W : World} (hgd : o.guard = none) (s x : Operand) (t : TypeId)
    (ho : o.op = .call { callee := .builtin .append, args := #[s, x], argTypes := #[t, t] })
    (ht : P.underlying t = some (.slice 5)) (hinfo : (P.info? 5).map (fun i => (i.zero, i.size, i.bytes)) = some (some (.int .u8 0), 1, 1))
    (v : Value) (xs : List UInt8) (n : Int) (hs : a.eval s = v) {N : Nat} (hx : a.eval x = .slice (some ⟨N, 0, none⟩) 1 1) (hN : N = W.heap.size) (HO : kByte.R W (fun k => B ≤ k) v xs) (hB : B ≤ W.heap.size)
    (hl : xs.length + 1 ≤ 1073741824)
    (h : ∀ v1 w1, kByte.R w1 (fun k => B ≤ k) v1 (xs ++ [u8 n]) → W.grownBy w1 v.ownBlock → (∀ k, v.ownBlock = some k → B ≤ k) → wpList P ops Q rest (a.put o.dst v1) w1) :
    wpList P ops Q (o :: rest) a (W.alloc (.cells #[.int .u8 (IntKind.u8.wrap n)] 5)) :=
  Kd.R_appG kByte hgd s x t (.int .u8 0) 1 ho ht hinfo rfl (by decide) (by decide) v xs (u8 n) [.int .u8 (IntKind.u8.wrap n)] hs hx hN HO hB (kByte_O _ _ n) hl h
end
theorem kByte_new (W : World) (B : Nat) (hB : B ≤ W.heap.size) : ∀ ns : List Int, ns.length ≤ 1073741824 → kByte.R (W.alloc (.cells (ns.map (fun n => Value.int .u8 (IntKind.u8.wrap n))).toArray 5)) (fun k => B ≤ k) (.slice (some ⟨W.heap.size, 0, none⟩) ns.length ns.length) (ns.map u8) := fun ns hn => by
  refine ⟨by rw [List.length_map]; exact hn, .inr ⟨W.heap.size, ns.length, _, by rw [List.length_map], heap_alloc_new W _, hB, by rw [List.length_map]; exact Nat.le_refl _, by simp only [maxLen]; omega, by simp [kByte, Kd.byte, Kd.scalar], kByte_Os.2 ?_⟩⟩
  have e : (ns.map u8).length * kByte.sz = ns.length := by simp [kByte, Kd.byte, Kd.scalar]
  rw [e, List.map_map]
  rw [List.take_of_length_le (by simp)]
  simp only [byteC, u8_wrap, Function.comp_def]
/-- append(v, n0, n1, ..), bytes. -/
theorem B_lit {P : Program} {ops : Array Oper} {rest : List Oper} {o : Oper} {a : Act} {Q : Exit → Act → World → Prop} {B : Nat} {W : World} (hgd : o.guard = none) (s x : Operand) (t : TypeId)
    (ho : o.op = .call { callee := .builtin .append, args := #[s, x], argTypes := #[t, t] })
    (ht : P.underlying t = some (.slice 5)) (hinfo : (P.info? 5).map (fun i => (i.zero, i.size, i.bytes)) = some (some (.int .u8 0), 1, 1))
    (v : Value) (xs : List UInt8) (ns : List Int) (cs : Array Value) (hcs : cs = (ns.map (fun n => Value.int .u8 (IntKind.u8.wrap n))).toArray) (hs : a.eval s = v) {N : Nat} (hx : a.eval x = .slice (some ⟨N, 0, none⟩) ns.length ns.length) (hN : N = W.heap.size) (HO : kByte.R W (fun k => B ≤ k) v xs) (hB : B ≤ W.heap.size)
    (hl : xs.length + ns.length ≤ 1073741824)
    (h : ∀ v1 w1, kByte.R w1 (fun k => B ≤ k) v1 (xs ++ ns.map u8) → W.grownBy w1 v.ownBlock → (∀ k, v.ownBlock = some k → B ≤ k) → wpList P ops Q rest (a.put o.dst v1) w1) :
    wpList P ops Q (o :: rest) a (W.alloc (.cells cs 5)) := by
  subst hN hcs
  obtain ⟨_, _, _, h3⟩ := Kd.R_own HO
  have hn := Kd.R_V (kByte_new W W.heap.size (Nat.le_refl _) ns (by omega))
  refine Kd.W_cat kByte hgd s x t (.int .u8 0) 1 ho ht hinfo rfl (by decide) (by decide) v _ xs (ns.map u8) (fun k => B ≤ k) (fun _ => True) hs hx (kByte_R_W _ (Kd.R_below HO (belA (Below.refl _ _) _))) (Kd.V_mono hn (fun k hk => ⟨trivial, fun e => ?_⟩) (by decide)) (by rw [List.length_map]; exact hl) ?_
  · have := (h3 k e.symm).2
    omega
  · intro v1 w1 h1 hg
    exact h v1 w1 (Kd.R_mono (kByte_W_R h1) (fun k hk _ => by simp at hk; omega)) (World.grownBy.trans (World.grownBy_alloc W _ _) hg) (fun k e => (h3 k e).1)
theorem Kd.V_in {α : Type} {d : Kd α} {w : World} {ok : Nat → Prop} {v : Value} {xs : List α} (h : d.V w ok v xs) (hsz : 0 < d.sz) : d.V w (fun k => ok k ∧ k < w.heap.size) v xs := Kd.V_move (fun k hk hl => ⟨⟨hk, hl⟩, rfl⟩) h hsz
/-- What a row that is grown leaves alone. -/
theorem grew {w w1 w2 : World} {r : Option Nat} (h : Below w.heap.size w w1) (hg : w1.grownBy w2 r) (hr : ∀ k, r = some k → w.heap.size ≤ k) : Below w.heap.size w w2 := h.grown hg h.size hr
end Go.Proofs.YtenigopoknajgaaDoor
