/- MsgSum of the program and MsgSum of the reference give the same number for all bytes: both take 257 times the number, and the byte, mod 65521, byte by byte. Conditions: none beyond the row's own. -/
import Derived.Test.YtlilbhjcdicnkaaPFnExactMsgSumx1
namespace Go.Proofs.Ytlilbhjcdicnkaa.Pure
open Go.RowKit Go.Proofs.Ytlilbhjcdicnkaa.PFnExactMsgSum Go.Proofs.YtlilbhjcdicnkaaW.PrintWords Go.Proofs.YtlilbhjcdicnkaaW.PrintLast

theorem wrap_up {i n : Int} (h0 : 0 ≤ i) (h : i < n) (hn : n ≤ 1048576) : wrap64 (i + 1) = i + 1 := by
  unfold wrap64
  omega

/-- the number that the bytes from place i on make of x -/
def sumFrom (l : List Int) (x : Int) (i : Nat) : Nat → Int
  | 0 => x
  | d + 1 => sumFrom l (Int.tmod (wrap64 ((wrap64 (x * 257)) + (wrap64 (rd l i)))) 65521) (i + 1) d

theorem spec_tells (l : List Int) (hl : (l.length : Int) ≤ 1048576) (d : Nat) : ∀ (k i : Nat) (x : Int), i + d = l.length → d < k →
    spec_MsgSum.l0 k l x i = some (sumFrom l x i d) := by
  induction d with
  | zero =>
    intro k i x hi hk
    obtain ⟨k, rfl⟩ : ∃ m, k = m + 1 := ⟨k - 1, by omega⟩
    simp only [spec_MsgSum.l0, sumFrom]; rw [if_neg (by omega)]
  | succ d ih =>
    intro k i x hi hk
    obtain ⟨k, rfl⟩ : ∃ m, k = m + 1 := ⟨k - 1, by omega⟩
    simp only [spec_MsgSum.l0, sumFrom]
    rw [if_pos (by omega), if_pos (by omega), wrap_up (n := l.length) (by omega) (by omega) (by omega)]
    exact ih k (i + 1) _ (by omega) (by omega)

theorem impl_tells (l : List Int) (hl : (l.length : Int) ≤ 1048576) (d : Nat) : ∀ (k i : Nat) (x : Int), i + d = l.length → d < k →
    impl_MsgSum.l0 k x l l.length i = some (sumFrom l x i d) := by
  induction d with
  | zero =>
    intro k i x hi hk
    obtain ⟨k, rfl⟩ : ∃ m, k = m + 1 := ⟨k - 1, by omega⟩
    simp only [impl_MsgSum.l0, sumFrom]; rw [if_neg (by omega)]
  | succ d ih =>
    intro k i x hi hk
    obtain ⟨k, rfl⟩ : ∃ m, k = m + 1 := ⟨k - 1, by omega⟩
    simp only [impl_MsgSum.l0, sumFrom]
    rw [if_pos (by omega), if_pos (by omega), if_pos (by omega), wrap_up (n := l.length) (by omega) (by omega) (by omega)]
    exact ih k (i + 1) _ (by omega) (by omega)

theorem copy_tells (l : List Int) (hl : (l.length : Int) ≤ 1048576) (d : Nat) : ∀ (k i : Nat) (ys : List Int), i + d = l.length → d < k → ys.length = l.length → (∀ j, j < i → ys[j]? = l[j]?) →
    laws_toByteS.l0 k l ys i = some l := by
  induction d with
  | zero =>
    intro k i ys hi hk hy hj
    obtain ⟨k, rfl⟩ : ∃ m, k = m + 1 := ⟨k - 1, by omega⟩
    simp only [laws_toByteS.l0]; rw [if_neg (by omega)]
    congr 1
    apply List.ext_getElem? ; intro j
    by_cases h : j < i
    · exact hj j h
    · rw [List.getElem?_eq_none (by omega), List.getElem?_eq_none (by omega)]
  | succ d ih =>
    intro k i ys hi hk hy hj
    obtain ⟨k, rfl⟩ : ∃ m, k = m + 1 := ⟨k - 1, by omega⟩
    simp only [laws_toByteS.l0]
    rw [if_pos (by omega), if_pos (by omega), if_pos (by omega), wrap_up (n := l.length) (by omega) (by omega) (by omega)]
    refine ih k (i + 1) _ (by omega) (by omega) (by simpa using hy) ?_
    intro j h
    by_cases e : j = i
    · subst e
      rw [Int.toNat_natCast, List.getElem?_set_self (by omega)]
      unfold rd
      rw [Int.toNat_natCast, List.getD_eq_getElem?_getD, List.getElem?_eq_getElem (by omega)]; rfl
    · rw [Int.toNat_natCast, List.getElem?_set_ne (by omega)]
      exact hj j (by omega)

theorem toByteS_tells (l : List Int) (hl : (l.length : Int) ≤ 1048576) (k : Nat) (hk : l.length < k) : laws_toByteS.f k l = some l := by
  unfold laws_toByteS.f
  rw [if_pos (by omega), if_pos (by omega)]
  exact copy_tells l hl l.length k 0 _ (by omega) hk (by simp) (fun j h => by omega)

theorem eq_tells (l : List Int) (hl : (l.length : Int) ≤ 1048576) (d : Nat) : ∀ (k i : Nat), i + d = l.length → d < k →
    laws_eqByteS.l0 k l l i = some true := by
  induction d with
  | zero =>
    intro k i hi hk
    obtain ⟨k, rfl⟩ : ∃ m, k = m + 1 := ⟨k - 1, by omega⟩
    simp only [laws_eqByteS.l0]; rw [if_neg (by omega)]
  | succ d ih =>
    intro k i hi hk
    obtain ⟨k, rfl⟩ : ∃ m, k = m + 1 := ⟨k - 1, by omega⟩
    simp only [laws_eqByteS.l0]
    rw [if_pos (by omega), if_pos (by omega), if_pos (by omega), if_pos trivial, wrap_up (n := l.length) (by omega) (by omega) (by omega)]
    exact ih k (i + 1) (by omega) (by omega)

theorem FnExactMsgSum : laws_FnExactMsgSum.Pure := by
  intro l _ _ _
  by_cases h : (l.length : Int) > 1048576
  · exact ⟨0, by unfold laws_FnExactMsgSum.f; rw [if_pos h]⟩
  · have hl : (l.length : Int) ≤ 1048576 := by omega
    refine ⟨l.length + 1, ?_⟩
    have hc := toByteS_tells l hl (l.length + 1) (by omega)
    have hs : spec_MsgSum.f (l.length + 1) l = some (sumFrom l 1 0 l.length) := spec_tells l hl l.length _ 0 1 (by omega) (by omega)
    have hi : impl_MsgSum.f (l.length + 1) l = some (sumFrom l 1 0 l.length) := impl_tells l hl l.length _ 0 1 (by omega) (by omega)
    have he : laws_eqByteS.f (l.length + 1) l l = some true := by
      unfold laws_eqByteS.f
      rw [if_pos rfl]
      exact eq_tells l hl l.length _ 0 (by omega) (by omega)
    unfold laws_FnExactMsgSum.f
    rw [if_neg h, hc]; simp only [Option.bind_some]
    rw [hs]; simp only [Option.bind_some]
    rw [hi]; simp only [Option.bind_some]
    rw [if_pos trivial, he]; rfl

end Go.Proofs.Ytlilbhjcdicnkaa.Pure
