/- Contracts: bytes that are turned. -/
import Derived.Test.YtkdfmnaijgkfhaaDoorDraw4
namespace Go.Proofs.YtkdfmnaijgkfhaaDoor
open Go.RowKit
set_option linter.unusedVariables false
set_option maxRecDepth 100000
theorem kByte_store {w : World} {S : Nat → Prop} {b n cap : Nat} {t : List UInt8} (h : kByte.R w S (.slice (some ⟨b, 0, none⟩) n cap) t) (i : Nat) (x : UInt8) (y : Int) (hi : i < t.length) (hy : y = x.toNat) :
    kByte.R (w.setCell ⟨b, i, none⟩ (.int .u8 y)) S (.slice (some ⟨b, 0, none⟩) n cap) (t.set i x) := by
  subst hy
  obtain ⟨h0, h⟩ := h
  refine ⟨by rw [List.length_set]; exact h0, .inr ?_⟩
  rcases h with ⟨h, _⟩ | ⟨b', cap', cur, hv, hb, hS, h1, h2, h3, h4⟩
  · cases h
  · simp only [Value.slice.injEq, Option.some.injEq, Addr.mk.injEq, and_true] at hv
    obtain ⟨rfl, rfl, rfl⟩ := hv
    have hsz : kByte.sz = 1 := rfl
    rw [hsz, Nat.mul_one] at h3
    rw [hsz, Nat.mul_one] at h4
    have e := kByte_Os.1 h4
    refine ⟨b, cap, cur.setIfInBounds i (byteC x), by rw [List.length_set], ?_, hS, by rw [List.length_set]; exact h1, h2, by rw [hsz, Nat.mul_one]; simp [h3], ?_⟩
    · simp only [World.setCell, Array.getElem?_modify, hb]; simp [byteC]
    · refine kByte_Os.2 ?_
      rw [List.length_set, hsz, Nat.mul_one, Array.toList_setIfInBounds, List.take_set, e, List.map_set]
theorem V_take {α : Type} {d : Kd α} {w : World} {ok : Nat → Prop} {A : Option Addr} {n c k : Nat} {xs : List α} (h : d.V w ok (.slice A n c) xs) (hk : k ≤ xs.length) : d.V w ok (.slice A k c) (xs.take k) := by
  obtain ⟨A', c', e, h1, h2, h3, h4, h5⟩ := h
  simp only [Value.slice.injEq] at e
  obtain ⟨rfl, rfl, rfl⟩ := e
  have hl : (xs.take k).length = k := by rw [List.length_take]; omega
  exact ⟨A, c, by rw [hl], by omega, h2, by omega, Kd.C_take h4 k, h5⟩
theorem kByte_drop {w : World} {ok : Nat → Prop} {b off n c k : Nat} {xs : List UInt8} (h : kByte.V w ok (.slice (some ⟨b, off, none⟩) n c) xs) (hk : k ≤ xs.length) : kByte.V w ok (.slice (some ⟨b, off + k, none⟩) (xs.length - k) (c - k)) (xs.drop k) := by
  obtain ⟨A', c', e, h1, h2, h3, h4, h5⟩ := h
  simp only [Value.slice.injEq] at e
  obtain ⟨rfl, rfl, rfl⟩ := e
  have := Kd.C_drop h4 k
  rw [show kByte.sz = 1 from rfl, Nat.mul_one] at this
  exact ⟨_, c - k, by rw [List.length_drop], by rw [List.length_drop]; omega, by omega, by rw [List.length_drop]; omega, this, fun e => by cases e⟩
theorem V_only {w w' : World} {g : Nat} {v : Value} {xs : List UInt8} (h : kByte.V w (fun k => k ≠ g ∧ k < w.heap.size) v xs) (ho : Only g w w') : kByte.V w' (fun k => k < w.heap.size) v xs :=
  Kd.V_move (fun k hk hl => ⟨hk.2, ho.block k hk.2 hk.1⟩) h (by decide)
theorem kByte_drop' {w : World} {ok : Nat → Prop} {b off n c k : Nat} {xs : List UInt8} (h : kByte.V w ok (.slice (some ⟨b, off, none⟩) n c) xs) (hk : k ≤ xs.length) : kByte.V w ok (.slice (if c = k then some ⟨b, off, none⟩ else some ⟨b, off + k, none⟩) (xs.length - k) (c - k)) (xs.drop k) := by
  by_cases hc : c = k
  · have hb : xs.length ≤ c ∧ c ≤ maxLen := by
      obtain ⟨A', c', e, h1, h2, h3, h4, h5⟩ := h
      simp only [Value.slice.injEq] at e
      obtain ⟨rfl, rfl, rfl⟩ := e
      exact ⟨h1, h2⟩
    have hd : xs.drop k = [] := List.drop_of_length_le (by omega)
    rw [if_pos hc, hd]
    exact ⟨some ⟨b, off, none⟩, c - k, by simp; omega, by simp, by omega, by simp, .inl rfl, fun e => by cases e⟩
  · rw [if_neg hc]
    exact kByte_drop h hk
theorem xor8 {a b : Int} (h1 : 0 ≤ a) (h2 : a < 256) (h3 : 0 ≤ b) (h4 : b < 256) : bits .xor .u8 a b = ((u8 (bits .xor .u8 a b)).toNat : Int) := by
  rw [u8_toNat, u8_xor a b h1 h2 h3 h4]
  have := Nat.xor_lt_two_pow (x := a.toNat) (y := b.toNat) (n := 8) (by omega) (by omega)
  omega
/-- What holds while bytes are made. -/
structure BX (w0 w : World) (g P : Nat) (v : Value) (t : List UInt8) (wr : World) : Prop where
  row : kByte.R wr (fun k => w.heap.size ≤ k) v t
  rd : Rd w0 wr g P
  only : Only g w wr
theorem BX.pick {w0 w w1 w2 : World} {g P P' : Nat} {v : Value} {t : List UInt8} (h : BX w0 w g P v t w1) (hg : g < w.heap.size) (hR : Rd w0 w2 g P') (hO : Only g w1 w2) : BX w0 w g P' v t w2 :=
  ⟨Kd.R_move (hO.keeps (ok := fun k => w.heap.size ≤ k) (by omega)) h.row, hR, h.only.trans hO⟩
theorem BX.drew {w0 w w1 : World} {g P : Nat} {v : Value} {t : List UInt8} (h : BX w0 w g P v t w1) : BX w0 w g P v t w1.drew :=
  ⟨Kd.R_below h.row (belD (Below.refl _ _)), h.rd.below (belD (Below.refl _ _)), h.only.drew⟩
theorem BX.grown {w0 w w1 w2 : World} {g P : Nat} {v v2 : Value} {t t2 : List UInt8} {row : Option Nat} (h : BX w0 w g P v t w1) (hw0 : w0.heap.size ≤ w.heap.size) (hlt : g < w.heap.size) (hR : kByte.R w2 (fun k => w.heap.size ≤ k) v2 t2) (hg : w1.grownBy w2 row) (hr : ∀ k, row = some k → w.heap.size ≤ k) : BX w0 w g P v2 t2 w2 :=
  ⟨hR, h.rd.grown hg (fun k e => ⟨by have := hr k e; omega, by have := hr k e; omega⟩), h.only.grown hg hr⟩
theorem BX.empty {w0 w w1 : World} {g P : Nat} (hR : Rd w0 w1 g P) (hO : Only g w w1) : BX w0 w g P (.slice (some ⟨w1.heap.size, 0, none⟩) 0 0) [] (w1.alloc (.cells #[] 5)) :=
  ⟨Kd.R_empty kByte hO.size, hR.below (belA (Below.refl _ _) _), hO.alloc _⟩
theorem BX.store {w0 w w1 : World} {g P b n cap : Nat} {t : List UInt8} (h : BX w0 w g P (.slice (some ⟨b, 0, none⟩) n cap) t w1) (hw0 : w0.heap.size ≤ w.heap.size) (hlt : g < w.heap.size) (i : Nat) (x : UInt8) (y : Int) (hi : i < t.length) (hy : y = x.toNat) :
    BX w0 w g P (.slice (some ⟨b, 0, none⟩) n cap) (t.set i x) (w1.setCell ⟨b, i, none⟩ (.int .u8 y)) := by
  have hb : w.heap.size ≤ b := by
    obtain ⟨_, _, _, h3⟩ := Kd.R_own h.row
    exact (h3 b rfl).1
  exact ⟨kByte_store h.row i x y hi hy, h.rd.set (by omega) (by omega) _ _, h.only.setNew hb _ _⟩
def BOut (w0 w : World) (g P m : Nat) (e : Ending) (w' : World) : Prop := ∃ u bs, e = .returned u ∧ kByte.R w' (fun k => w.heap.size ≤ k) u bs ∧ bs.length ≤ m ∧ Rd w0 w' g P ∧ Only g w w'
theorem turn_c (w0 w : World) (g P : Nat) (v : Value) (bs : List UInt8) (hR : Rd w0 w g P) (hP : P ≤ 999999000) (hV : kByte.V w (fun k => k ≠ g) v bs) (hl : bs.length ≤ 1000000) :
    Calls Tryd.prog 49 #[.pointer (some ⟨g, 0, none⟩), v] w (BOut w0 w g (P + 5) (bs.length + 1)) := by
  have H0 := Sec.mk hR
  have hlt := hR.lt
  have hB0 : w0.heap.size ≤ w.heap.size := hR.bel.size
  have hge := hR.ge
  obtain ⟨A, c, hv, g1, g2, _⟩ := id hV
  subst hv
  have HV := Sec.mk (Kd.V_in hV (by decide))
  clear hR hV
  by_cases h0 : bs = []
  · subst h0
    go_enter Tryd.func49, Tryd.ntmps49
    go_wp2_with fail
    refine (pick_c w0 _ g P 256 H0.out (by omega)).mono ?_
    rintro e w1 ⟨r, rfl, hp, hR1, hO1⟩
    have R1 := Sec.mk hR1
    have O1 := Sec.mk hO1
    clear hp hR1 hO1
    go_wp2
    go_ret
    exact ⟨_, _, rfl, kByte_new w1 w.heap.size O1.out.size [r] (by simp), by simp, (R1.out.below (belA (Below.refl _ _) _)).mono (by omega), O1.out.alloc _⟩
  · have h1 : 0 < bs.length := List.length_pos_iff.2 h0
    have h4 : ((bs.length : Int) == 0) = false := by rw [beq_eq_false_iff_ne]; omega
    obtain ⟨b, off, rfl, _⟩ := byte_at (Kd.V_C HV.out) 0 h1
    clear h0
    go_enter Tryd.func49, Tryd.ntmps49
    go_wp2_with fail
    refine (pick_c w0 _ g P 256 H0.out (by omega)).mono ?_
    rintro e w1 ⟨r1, rfl, ⟨p0, p1, -⟩, hR1, hO1⟩
    have p2 := p1 (by omega)
    have R1 := Sec.mk hR1
    have O1 := Sec.mk hO1
    clear p1 hR1 hO1
    go_wp2_with fail
    refine (pick_c w0 _ g (P + 1) 256 R1.out (by omega)).mono ?_
    rintro e w2 ⟨r2, rfl, ⟨q0, q1, -⟩, hR2, hO2⟩
    have q2 := q1 (by omega)
    have R2 := Sec.mk hR2
    have O2 := Sec.mk (O1.out.trans hO2)
    clear q1 hR2 hO2 R1 O1
    go_wp2_with fail
    have hk0 : 0 ≤ (r1 * 256 + r2) % (bs.length : Int) := Int.emod_nonneg _ (by omega)
    have hk1 : (r1 * 256 + r2) % (bs.length : Int) < bs.length := Int.emod_lt_of_pos _ (by omega)
    generalize (r1 * 256 + r2) % (bs.length : Int) = k at *
    obtain ⟨k, rfl⟩ := Int.eq_ofNat_of_zero_le hk0
    have hk : k < bs.length := by omega
    clear hk0 hk1 p0 p2 q0 q2
    refine (pick_c w0 _ g (P + 2) 4 R2.out (by omega)).mono ?_
    rintro e w3 ⟨r, rfl, ⟨q0, q1, -⟩, hR3, hO3⟩
    have q2 := q1 (by omega)
    have R3 := Sec.mk hR3
    have O3 := Sec.mk (O2.out.trans hO3)
    clear q1 hR3 hO3 R2 O2
    have z3 := O3.out.size
    have E3 := Sec.mk (BX.empty R3.out O3.out)
    have E3d := Sec.mk (BX.empty R3.out O3.out).drew
    have E3e := Sec.mk (BX.empty (w1 := w3.drew) (R3.out.below (belD (Below.refl _ _))) O3.out.drew)
    have i0 : (0 : Int) ≤ (k : Int) := by omega
    have i1 : (k : Int) ≤ (c : Int) := by omega
    have i2 : (k : Int) ≤ (bs.length : Int) := by omega
    have i3 : (k : Int) + 1 ≤ (bs.length : Int) := by omega
    have i4 : (0 : Int) ≤ (k : Int) + 1 := by omega
    have i5 : IntKind.i64.wrap ((k : Int) + 1) = (k : Int) + 1 := by rw [IntKind.wrap_i64]; omega
    have V3 := Sec.mk (V_only HV.out E3d.out.only)
    rcases (by omega : r = 0 ∨ r = 1 ∨ (r ≠ 0 ∧ r ≠ 1)) with rfl | rfl | ⟨rn0, rn1⟩
    · go_wp2_with fail
      go_region_held3 (fun W => True) (exact trivial) (first
        | (refine step_of rfl (fun Q9 h9 => ?_); refine B_cat (B := w.heap.size) rfl (.tmp 27) (.tmp 30) 24 rfl Tryd.underlying24 info_byte _ _ [] (bs.take k) (fun k => k < w.heap.size) (by rfl) (by rfl) E3d.out.row E3d.out.only.size (V_take V3.out (by omega)) (fun k hk => hk) (by simp; omega) ?_; intro v4 w4 hR4 hg4 hr4; have S4 := Sec.mk (E3d.out.grown hB0 hlt hR4 hg4 hr4); have V4 := Sec.mk (V_only HV.out S4.out.only); clear hR4 hg4 hr4; refine h9 _ _ ?_; clear h9 Q9)
        | (refine step_of rfl (fun Q9 h9 => ?_); refine B_cat (B := w.heap.size) rfl (.tmp 31) (.tmp 35) 24 rfl Tryd.underlying24 info_byte _ _ _ (bs.drop (k + 1)) (fun k => k < w.heap.size) (by rfl) (by rfl) S4.out.row S4.out.only.size (kByte_drop' V4.out (by omega)) (fun k hk => hk) (by simp; omega) ?_; intro v5 w5 hR5 hg5 hr5; have S5 := Sec.mk (S4.out.grown hB0 hlt hR5 hg5 hr5); clear hR5 hg5 hr5; refine h9 _ _ ?_; clear h9 Q9))
      all_goals go_wp2
      all_goals
        go_ret
        exact ⟨_, _, rfl, S5.out.row, by simp; omega, S5.out.rd.mono (by omega), S5.out.only⟩
    · go_wp2_with fail
      go_region_held3 (fun W => True) (exact trivial) (first
        | (refine step_of rfl (fun Q9 h9 => ?_); refine B_cat (B := w.heap.size) rfl (.tmp 39) (.tmp 42) 24 rfl Tryd.underlying24 info_byte _ _ [] (bs.take k) (fun k => k < w.heap.size) (by rfl) (by rfl) E3d.out.row E3d.out.only.size (V_take V3.out (by omega)) (fun k hk => hk) (by simp; omega) ?_; intro v4 w4 hR4 hg4 hr4; have S4 := Sec.mk (E3d.out.grown hB0 hlt hR4 hg4 hr4); have V4 := Sec.mk (V_only HV.out S4.out.only); clear hR4 hg4 hr4; refine h9 _ _ ?_; clear h9 Q9)
        | (go_at_call 48; refine (pick_c w0 _ g (P + 2 + 1) 5 S4.out.rd (by omega)).mono ?_; rintro e w5 ⟨r5, rfl, -, hR5, hO5⟩; have S5 := Sec.mk (S4.out.pick hlt hR5 hO5); clear hR5 hO5)
        | (refine step_of rfl (fun Q9 h9 => ?_); refine B_app (B := w.heap.size) rfl (.tmp 43) (.tmp 47) 24 rfl Tryd.underlying24 info_byte _ _ r5 (by rfl) (by rfl) (by rfl) S5.out.row S5.out.only.size (by simp; omega) ?_; intro v6 w6 hR6 hg6 hr6; have S6 := Sec.mk (S5.out.grown hB0 hlt hR6 hg6 hr6); have V6 := Sec.mk (V_only HV.out S6.out.only); clear hR6 hg6 hr6; refine h9 _ _ ?_; clear h9 Q9)
        | (refine step_of rfl (fun Q9 h9 => ?_); refine B_cat (B := w.heap.size) rfl (.tmp 48) (.tmp 51) 24 rfl Tryd.underlying24 info_byte _ _ _ (bs.drop k) (fun k => k < w.heap.size) (by rfl) (by rfl) S6.out.row S6.out.only.size (kByte_drop V6.out (by omega)) (fun k hk => hk) (by simp; omega) ?_; intro v7 w7 hR7 hg7 hr7; have S7 := Sec.mk (S6.out.grown hB0 hlt hR7 hg7 hr7); clear hR7 hg7 hr7; refine h9 _ _ ?_; clear h9 Q9))
      all_goals
        go_wp2
        go_ret
        exact ⟨_, _, rfl, S7.out.row, by simp; omega, S7.out.rd.mono (by omega), S7.out.only⟩
    · have hr0 : (r == 0) = false := beq_eq_false_iff_ne.2 rn0
      have hr1 : (r == 1) = false := beq_eq_false_iff_ne.2 rn1
      go_wp2_with (at_builtin; refine B_cat (B := w.heap.size) rfl (.tmp 53) (.tmp 54) 24 rfl Tryd.underlying24 info_byte _ _ [] bs (fun k => k < w.heap.size) rfl rfl E3.out.row E3.out.only.size (V_only HV.out E3.out.only) (fun k hk => hk) (by simp; omega) ?_; intro v4 w4 hR4 hg4 hr4; have S4 := Sec.mk (E3.out.grown hB0 hlt hR4 hg4 hr4); obtain ⟨A4, c4, e4, _⟩ := Kd.R_form S4.out.row; subst e4; clear hR4 hg4 hr4)
      obtain ⟨d, rfl, _, hd0, hd1, df⟩ := Kd.R_block S4.out.row (by simp; omega)
      obtain ⟨b', off', hA, _, cd⟩ := byte_at (Kd.V_C (Kd.R_V S4.out.row)) k hk
      simp only [Option.some.injEq, Addr.mk.injEq, and_true] at hA
      obtain ⟨rfl, rfl⟩ := hA
      rw [Nat.zero_add] at cd
      have fd := df k
      have hby : Sec (0 ≤ (([] ++ bs)[k].toNat : Int) ∧ (([] ++ bs)[k].toNat : Int) < 256) := ⟨by have := ([] ++ bs)[k].toNat_lt; omega⟩
      generalize (([] ++ bs)[k].toNat : Int) = x at *
      have hS4 := Sec.mk S4.out.drew
      clear df
      go_region_with (first
        | (go_at_call 48; refine (pick_c w0 _ g (P + 2 + 1) 255 hS4.out.rd (by omega)).mono ?_; rintro e w5 ⟨r5, rfl, ⟨u0, u1, -⟩, hR5, hO5⟩; have S5 := Sec.mk (hS4.out.pick hlt hR5 hO5); have cd5 := (World.cell?_of_block (a := ⟨d, k, none⟩) (hO5.block d hd1 (by omega))).trans cd; have fd5 := (World.frozen?_of_block (a := ⟨d, k, none⟩) (hO5.block d hd1 (by omega))).trans fd; have hr5 := Sec.mk (And.intro u0 (u1 (by omega))); clear hR5 hO5 u0 u1))
      all_goals
        have S6 := Sec.mk (S5.out.store hB0 hlt k (u8 (bits .xor .u8 x (IntKind.u8.wrap (IntKind.i64.wrap (1 + r5))))) _ (by simp; omega) (xor8 hby.out.1 hby.out.2 (by rw [IntKind.wrap_u8']; omega) (by rw [IntKind.wrap_u8']; omega)))
        go_wp2
        go_ret
        exact ⟨_, _, rfl, S6.out.row, by simp, S6.out.rd.mono (by omega), S6.out.only⟩
end Go.Proofs.YtkdfmnaijgkfhaaDoor
