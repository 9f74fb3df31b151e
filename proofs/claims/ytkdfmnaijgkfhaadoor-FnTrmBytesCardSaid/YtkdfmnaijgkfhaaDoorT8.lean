/- A term's bytes are read as it: by the reference and by the program alike. No program in sight. -/
import Derived.Test.YtkdfmnaijgkfhaaDoorT7
namespace Go.Proofs.YtkdfmnaijgkfhaaDoor
open Go.RowKit
set_option linter.unusedVariables false
set_option maxRecDepth 100000
theorem numD_in (bs : List UInt8) (k : Nat) : -100000 ≤ numD bs k ∧ numD bs k ≤ 16677215 := by
  unfold numD
  split
  · next h =>
    have h0 := bs[k].toNat_lt
    have h1 := bs[k + 1].toNat_lt
    have h2 := bs[k + 2].toNat_lt
    omega
  · omega
theorem u8_inj {a b : Int} (h : u8 a = u8 b) : a % 256 = b % 256 := by rw [← u8_toNat, ← u8_toNat, h]
theorem num3_inj {a b : Int} (h : num3 a = num3 b) (ha : -100000 ≤ a ∧ a ≤ 16677215) (hb : -100000 ≤ b ∧ b ≤ 16677215) : a = b := by
  unfold num3 at h
  simp only [List.cons.injEq, and_true] at h
  obtain ⟨h1, h2, h3⟩ := h
  have g1 := u8_inj h1
  have g2 := u8_inj h2
  have g3 := u8_inj h3
  omega
theorem numD_num3 {bs : List UInt8} {k : Nat} {n : Int} {r : List UInt8} (h : bs.drop k = num3 n ++ r) (h0 : -9999 ≤ n) (h1 : n ≤ 99999) : numD bs k = n ∧ k + 3 ≤ bs.length ∧ bs.drop (k + 3) = r := by
  have hl : k + 3 ≤ bs.length := by
    have := congrArg List.length h
    simp only [List.length_drop, List.length_append, num3, List.length_cons, List.length_nil] at this
    omega
  have h2 := num3_at hl
  rw [h] at h2
  obtain ⟨h3, h4⟩ := List.append_inj h2 (by simp [num3])
  exact ⟨(num3_inj h3 (by omega) (numD_in bs k)).symm, hl, h4.symm⟩
theorem name_nil {s : ByteArray} (h : s.toList.isEmpty = true) : s = ⟨#[]⟩ := by
  rw [List.isEmpty_iff, Lib.toList_data] at h
  exact ByteArray.ext (by rw [← Array.toList_inj, h])
theorem cellOk_noname {x : Cell} (h : cellOk x = true) (h3 : ¬ x.kind = 3) : x.name = ⟨#[]⟩ := by
  unfold cellOk at h
  split at h
  · rw [Bool.and_eq_true] at h; exact name_nil h.2
  · split at h
    · rw [Bool.and_eq_true] at h; exact name_nil h.2
    · simp [h3] at h
theorem drop_head {bs : List UInt8} {k : Nat} {x : UInt8} {r : List UInt8} (h : bs.drop k = x :: r) : ∃ hk : k < bs.length, bs[k] = x ∧ bs.drop (k + 1) = r := by
  have hk : k < bs.length := by
    have := congrArg List.length h
    simp only [List.length_drop, List.length_cons] at this
    omega
  rw [drop_cons hk] at h
  simp only [List.cons.injEq] at h
  exact ⟨hk, h.1, h.2⟩
theorem u8_small {n : Int} (h0 : 0 ≤ n) (h1 : n < 256) : (u8 n).toNat = n.toNat := by
  have := u8_toNat n
  omega
theorem cellD_of {bs : List UInt8} {k : Nat} {c : Cell} {r : List UInt8} (hc : cellOk c = true) (h : bs.drop k = cellBytes c ++ r) : cellD bs k = some (c, k + (cellBytes c).length) ∧ bs.drop (k + (cellBytes c).length) = r := by
  obtain ⟨k1, k3, n0, n1⟩ := cellOk_nums hc
  have hh := h
  unfold cellBytes at h
  rw [List.cons_append] at h
  obtain ⟨hk, hb, h⟩ := drop_head h
  rw [List.append_assoc] at h
  obtain ⟨hn, hl, h⟩ := numD_num3 h n0 n1
  have h4 : k + 4 ≤ bs.length := by omega
  have hkd : bs[k].toNat = c.kind.toNat := by rw [hb, u8_small (by omega) (by omega)]
  by_cases h3 : c.kind = 3
  · have hs := cellOk_name hc h3
    rw [if_pos h3, List.cons_append] at h
    obtain ⟨hk5, hb5, h⟩ := drop_head h
    have hk5' : k + 4 < bs.length := by omega
    have hb5' : bs[k + 4].toNat = c.name.size := by
      have : bs[k + 4] = bs[k + 1 + 3] := by congr 1
      rw [this, hb5, u8_small (by omega) (by omega)]; omega
    have hsz : c.name.data.toList.length = c.name.size := by simp
    have h6 : bs.drop (k + 5) = c.name.data.toList ++ r := by
      rw [show k + 5 = k + 1 + 3 + 1 by omega]; exact h
    have h7 : k + 5 + bs[k + 4].toNat ≤ bs.length := by
      have := congrArg List.length h6
      simp only [List.length_drop, List.length_append, hsz] at this
      omega
    have hlen : (cellBytes c).length = 5 + c.name.size := by
      unfold cellBytes
      rw [if_pos h3]
      simp only [List.length_cons, List.length_append, num3, hsz, List.length_nil]
      omega
    refine ⟨?_, ?_⟩
    · rw [cellD_c h4 (by rw [hkd, h3]; rfl) (by omega) h7, hn, h6, hb5', List.take_left' hsz, hlen, Nat.add_assoc]
      obtain ⟨kd, n, nm⟩ := c
      simp only at h3
      subst h3
      rfl
    · rw [hlen, show k + (5 + c.name.size) = (k + 5) + c.name.size by omega, ← List.drop_drop, h6, List.drop_left' hsz]
  · have hnm := cellOk_noname hc h3
    have hlen : (cellBytes c).length = 4 := by
      unfold cellBytes
      rw [if_neg h3]
      simp [num3]
    rw [if_neg h3, List.nil_append] at h
    refine ⟨?_, ?_⟩
    · rw [cellD_plain h4 (by rw [hkd]; omega), hn, hlen, hkd]
      obtain ⟨kd, n, nm⟩ := c
      simp only at hnm k1 k3
      subst hnm
      have : ((kd.toNat : Nat) : Int) = kd := by omega
      simp only [this]
    · rw [hlen, ← h]
theorem cellsD_of {bs : List UInt8} : ∀ {t : Term} {k : Nat} {r : List UInt8}, t.all cellOk = true → bs.drop k = t.flatMap cellBytes ++ r → cellsD bs t.length k = some (t, k + (t.flatMap cellBytes).length)
  | [], k, r, _, _ => by simp [cellsD]
  | c :: t, k, r, hc, h => by
    rw [List.all_cons, Bool.and_eq_true] at hc
    rw [List.flatMap_cons, List.append_assoc] at h
    obtain ⟨h1, h2⟩ := cellD_of hc.1 h
    have h3 := cellsD_of hc.2 h2
    simp only [List.length_cons, cellsD, h1, h3, List.flatMap_cons, List.length_append, Option.some.injEq, Prod.mk.injEq, true_and]
    omega
/-- What a term is written as is read as it. -/
theorem termD_of {bs : List UInt8} {k : Nat} {t : Term} {r : List UInt8} (ht : trmOk t = true) (h : bs.drop k = trmBytes t ++ r) : termD bs k = some (t, k + (trmBytes t).length) := by
  obtain ⟨h40, hall⟩ := trmOk_all ht
  have hB : trmBytes t = u8 t.length :: t.flatMap cellBytes := if_pos ht
  rw [hB, List.cons_append] at h
  obtain ⟨hk, hb, h⟩ := drop_head h
  have h1 := cellsD_of hall h
  have e : bs[k].toNat = t.length := by rw [hb, u8_small (by omega) (by omega)]; omega
  unfold termD
  rw [dif_pos hk, e, h1]
  simp only [ht, if_true, hB, List.length_cons, Option.some.injEq, Prod.mk.injEq, true_and]
  omega
theorem padB_app {n : Nat} {p r : List UInt8} (h : p.length = n) : padB n (p ++ r) = p := by
  have e : n - (p ++ r).length = 0 := by rw [List.length_append]; omega
  unfold padB
  rw [List.take_left' h, e, List.replicate_zero, List.append_nil]
theorem numB_num3 {n : Int} (h0 : -9999 ≤ n) (h1 : n ≤ 99999) : (numB (num3 n) : Int) - 99999 - 1 = n := by
  have e : numB (num3 n) = ((u8 ((n + 99999 + 1) / 65536)).toNat * 256 + (u8 ((n + 99999 + 1) / 256 % 256)).toNat) * 256 + (u8 ((n + 99999 + 1) % 256)).toNat := by simp [numB, num3]
  have g1 := u8_toNat ((n + 99999 + 1) / 65536)
  have g2 := u8_toNat ((n + 99999 + 1) / 256 % 256)
  have g3 := u8_toNat ((n + 99999 + 1) % 256)
  omega
theorem numB_one {n : Int} (h0 : 0 ≤ n) (h1 : n < 256) : numB [u8 n] = n.toNat := by
  have : numB [u8 n] = (u8 n).toNat := by simp [numB]
  rw [this, u8_small h0 h1]
theorem tkCell_of {c : Cell} {r : List UInt8} (hc : cellOk c = true) : tkCell (cellBytes c ++ r) = (c, r) := by
  obtain ⟨k1, k3, n0, n1⟩ := cellOk_nums hc
  have hl3 : (num3 c.n).length = 3 := rfl
  by_cases h3 : c.kind = 3
  · have hs := cellOk_name hc h3
    have hsz : c.name.data.toList.length = c.name.size := by simp
    have e : cellBytes c ++ r = [u8 c.kind] ++ (num3 c.n ++ ([u8 c.name.size] ++ (c.name.data.toList ++ r))) := by unfold cellBytes; rw [if_pos h3]; simp
    have d1 : (cellBytes c ++ r).drop 1 = num3 c.n ++ ([u8 c.name.size] ++ (c.name.data.toList ++ r)) := by rw [e]; rfl
    have p1 : numB (padB 1 (cellBytes c ++ r)) = 3 := by rw [e, padB_app (p := [u8 c.kind]) (n := 1) rfl, numB_one (by omega) (by omega), h3]; rfl
    have d2 : ((cellBytes c ++ r).drop 1).drop 3 = [u8 c.name.size] ++ (c.name.data.toList ++ r) := by rw [d1]; exact List.drop_left' hl3
    have d3 : (((cellBytes c ++ r).drop 1).drop 3).drop 1 = c.name.data.toList ++ r := by rw [d2]; rfl
    have p2 : numB (padB 1 (((cellBytes c ++ r).drop 1).drop 3)) = c.name.size := by rw [d2, padB_app (p := [u8 c.name.size]) (n := 1) rfl, numB_one (by omega) (by omega)]; omega
    have p3 : (numB (padB 3 ((cellBytes c ++ r).drop 1)) : Int) - 99999 - 1 = c.n := by rw [d1, padB_app hl3]; exact numB_num3 n0 n1
    unfold tkCell
    rw [if_pos p1, p2, p3, d3, padB_app hsz, List.drop_left' hsz]
    obtain ⟨kd, n, nm⟩ := c
    simp only at h3
    subst h3
    rfl
  · have hnm := cellOk_noname hc h3
    have e : cellBytes c ++ r = [u8 c.kind] ++ (num3 c.n ++ r) := by unfold cellBytes; rw [if_neg h3]; simp
    have d1 : (cellBytes c ++ r).drop 1 = num3 c.n ++ r := by rw [e]; rfl
    have p1 : numB (padB 1 (cellBytes c ++ r)) = c.kind.toNat := by rw [e, padB_app (p := [u8 c.kind]) (n := 1) rfl, numB_one (by omega) (by omega)]
    have d2 : ((cellBytes c ++ r).drop 1).drop 3 = r := by rw [d1]; exact List.drop_left' hl3
    have p3 : (numB (padB 3 ((cellBytes c ++ r).drop 1)) : Int) - 99999 - 1 = c.n := by rw [d1, padB_app hl3]; exact numB_num3 n0 n1
    unfold tkCell
    rw [p1, if_neg (by omega), p3, d2]
    obtain ⟨kd, n, nm⟩ := c
    simp only at hnm k1 k3
    subst hnm
    have : ((kd.toNat : Nat) : Int) = kd := by omega
    simp only [this]
theorem tkCells_of : ∀ {t : Term} {r : List UInt8}, t.all cellOk = true → tkCells t.length (t.flatMap cellBytes ++ r) = t
  | [], r, _ => rfl
  | c :: t, r, hc => by
    rw [List.all_cons, Bool.and_eq_true] at hc
    rw [List.flatMap_cons, List.append_assoc, List.length_cons, tkCells, tkCell_of hc.1]
    simp only
    rw [tkCells_of hc.2]
theorem tkTerm_of {t : Term} {r : List UInt8} (ht : trmOk t = true) : tkTerm (trmBytes t ++ r) = t := by
  obtain ⟨h40, hall⟩ := trmOk_all ht
  have hB : trmBytes t ++ r = [u8 t.length] ++ (t.flatMap cellBytes ++ r) := by
    have : trmBytes t = u8 t.length :: t.flatMap cellBytes := if_pos ht
    rw [this]; rfl
  unfold tkTerm
  rw [hB, padB_app (p := [u8 t.length]) (n := 1) rfl, numB_one (by omega) (by omega)]
  have : ((t.length : Int)).toNat = t.length := by omega
  rw [this]
  exact tkCells_of hall
/-- The term that all bytes are, and whether they are one. -/
def takeD (bs : List UInt8) : Term × Bool := if (termAns (termD bs 0)).2 = bs.length then ((termAns (termD bs 0)).1, true) else ([], false)
theorem takeD_some {bs : List UInt8} (h : (takeD bs).2 = true) : trmOk (takeD bs).1 = true ∧ trmBytes (takeD bs).1 = bs := by
  unfold takeD at h ⊢
  split at h
  · next he =>
    rw [if_pos he]
    cases hd : termD bs 0 with
    | none => rw [hd] at he; simp [termAns] at he
    | some p =>
      obtain ⟨t, e⟩ := p
      rw [hd] at he
      simp only [termAns] at he ⊢
      have he' : e = bs.length := by omega
      obtain ⟨h1, h2⟩ := termD_bytes hd
      refine ⟨h1, ?_⟩
      rw [he', List.drop_length, List.append_nil, List.drop_zero] at h2
      exact h2.symm
  · cases h
theorem takeD_of {bs : List UInt8} {t : Term} (ht : trmOk t = true) (h : trmBytes t = bs) : takeD bs = (t, true) := by
  have h1 := termD_of (bs := bs) (k := 0) (r := []) ht (by rw [h, List.append_nil, List.drop_zero])
  unfold takeD
  rw [h1, h]
  simp only [termAns, Nat.zero_add, if_true]
theorem takeD_no {bs : List UInt8} (h : (takeD bs).2 = false) : takeD bs = ([], false) := by
  unfold takeD at h ⊢
  split at h
  · cases h
  · next he => rw [if_neg he]
theorem takeD_impl (bs : List UInt8) : takeD bs = if trmOk (tkTerm bs) = true ∧ trmBytes (tkTerm bs) = bs then (tkTerm bs, true) else ([], false) := by
  split
  · next h => exact takeD_of h.1 h.2
  · next h =>
    cases hb : (takeD bs).2 with
    | false => exact takeD_no hb
    | true =>
      exfalso
      obtain ⟨h1, h2⟩ := takeD_some hb
      have h3 : tkTerm bs = (takeD bs).1 := by
        have := tkTerm_of (r := []) h1
        rw [List.append_nil, h2] at this
        exact this
      exact h ⟨by rw [h3]; exact h1, by rw [h3]; exact h2⟩
end Go.Proofs.YtkdfmnaijgkfhaaDoor
