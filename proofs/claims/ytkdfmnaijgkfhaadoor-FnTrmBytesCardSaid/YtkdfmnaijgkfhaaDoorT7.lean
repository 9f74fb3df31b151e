/- A term's bytes are read as it, and nothing else is. No program in sight. -/
import Derived.Test.YtkdfmnaijgkfhaaDoorT6
namespace Go.Proofs.YtkdfmnaijgkfhaaDoor
open Go.RowKit
set_option linter.unusedVariables false
set_option maxRecDepth 100000
theorem num3_of (a b c : UInt8) : num3 ((a.toNat : Int) * 65536 + (b.toNat : Int) * 256 + (c.toNat : Int) - 99999 - 1) = [a, b, c] := by
  have ha := a.toNat_lt
  have hb := b.toNat_lt
  have hc := c.toNat_lt
  unfold num3
  have e1 : ((a.toNat : Int) * 65536 + (b.toNat : Int) * 256 + (c.toNat : Int) - 99999 - 1 + 99999 + 1) / 65536 = a.toNat := by omega
  have e2 : ((a.toNat : Int) * 65536 + (b.toNat : Int) * 256 + (c.toNat : Int) - 99999 - 1 + 99999 + 1) / 256 % 256 = b.toNat := by omega
  have e3 : ((a.toNat : Int) * 65536 + (b.toNat : Int) * 256 + (c.toNat : Int) - 99999 - 1 + 99999 + 1) % 256 = c.toNat := by omega
  rw [e1, e2, e3, u8_of, u8_of, u8_of]
theorem drop_cons {bs : List UInt8} {k : Nat} (h : k < bs.length) : bs.drop k = bs[k] :: bs.drop (k + 1) := List.drop_eq_getElem_cons h
theorem num3_at {bs : List UInt8} {k : Nat} (h : k + 3 ≤ bs.length) : bs.drop k = num3 (numD bs k) ++ bs.drop (k + 3) := by
  unfold numD
  rw [dif_pos h, num3_of, drop_cons (show k < bs.length by omega), drop_cons (show k + 1 < bs.length by omega), drop_cons (show k + 1 + 1 < bs.length by omega)]
  rfl
/-- What a place that is read is written as. -/
theorem cellD_bytes {bs : List UInt8} {k : Nat} {c : Cell} {nx : Nat} (h : cellD bs k = some (c, nx)) : bs.drop k = cellBytes c ++ bs.drop nx := by
  by_cases h4 : k + 4 ≤ bs.length
  · by_cases h3 : bs[k].toNat = 3
    · by_cases h5 : k + 5 ≤ bs.length
      · by_cases h6 : k + 5 + bs[k + 4].toNat ≤ bs.length
        · rw [cellD_c h4 h3 h5 h6] at h
          simp only [Option.some.injEq, Prod.mk.injEq] at h
          obtain ⟨rfl, rfl⟩ := h
          have hl : ((bs.drop (k + 5)).take bs[k + 4].toNat).length = bs[k + 4].toNat := by rw [List.length_take, List.length_drop]; omega
          have e0 : u8 3 = bs[k] := by rw [← u8_of bs[k], h3]; rfl
          simp only [cellBytes, ByteArray.size, List.size_toArray, hl, u8_of, e0]
          rw [drop_cons (show k < bs.length by omega), num3_at (show k + 1 + 3 ≤ bs.length by omega), drop_cons (show k + 1 + 3 < bs.length by omega)]
          simp only [if_true, List.cons_append, List.append_assoc, List.cons.injEq, true_and]
          rw [show bs.drop (k + 5 + bs[k + 4].toNat) = (bs.drop (k + 5)).drop bs[k + 4].toNat from List.drop_drop.symm, List.take_append_drop]
        · rw [cellD_b h4 h3 h5 h6] at h; cases h
      · rw [cellD_a h4 h3 h5] at h; cases h
    · rw [cellD_plain h4 h3] at h
      simp only [Option.some.injEq, Prod.mk.injEq] at h
      obtain ⟨rfl, rfl⟩ := h
      have h3' : ¬ ((bs[k].toNat : Int) = 3) := by omega
      simp only [cellBytes, u8_of, if_neg h3', List.append_nil]
      rw [drop_cons (show k < bs.length by omega), num3_at (show k + 1 + 3 ≤ bs.length by omega)]
      rfl
  · rw [cellD_short h4] at h; cases h
theorem cellsD_bytes {bs : List UInt8} : ∀ {m k : Nat} {t : Term} {e : Nat}, cellsD bs m k = some (t, e) → bs.drop k = t.flatMap cellBytes ++ bs.drop e ∧ t.length = m
  | 0, k, t, e, h => by
    simp only [cellsD, Option.some.injEq, Prod.mk.injEq] at h
    obtain ⟨rfl, rfl⟩ := h
    simp
  | m + 1, k, t, e, h => by
    rw [cellsD] at h
    cases h1 : cellD bs k with
    | none => rw [h1] at h; cases h
    | some p =>
      obtain ⟨c, nx⟩ := p
      rw [h1] at h
      simp only at h
      cases h2 : cellsD bs m nx with
      | none => rw [h2] at h; cases h
      | some q =>
        obtain ⟨t', e'⟩ := q
        rw [h2] at h
        simp only [Option.some.injEq, Prod.mk.injEq] at h
        obtain ⟨rfl, rfl⟩ := h
        have h3 := cellsD_bytes h2
        refine ⟨?_, by simp [h3.2]⟩
        rw [cellD_bytes h1, h3.1, List.flatMap_cons, List.append_assoc]
theorem termD_bytes {bs : List UInt8} {k : Nat} {t : Term} {e : Nat} (h : termD bs k = some (t, e)) : trmOk t = true ∧ bs.drop k = trmBytes t ++ bs.drop e := by
  unfold termD at h
  split at h
  · next hk =>
    split at h
    · cases h
    · next t' e' h1 =>
      split at h
      · next hok =>
        simp only [Option.some.injEq, Prod.mk.injEq] at h
        obtain ⟨rfl, rfl⟩ := h
        obtain ⟨h2, h3⟩ := cellsD_bytes h1
        refine ⟨hok, ?_⟩
        unfold trmBytes
        rw [if_pos hok, h3, u8_of, drop_cons hk, h2]
        rfl
      · cases h
  · cases h
end Go.Proofs.YtkdfmnaijgkfhaaDoor
