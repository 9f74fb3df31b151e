/- The code that a law is given: a row of bytes. -/
import Derived.Test.YtenigopoknajgaaDoorBytes
namespace Go.Proofs.YtenigopoknajgaaDoor
open Go.RowKit
set_option linter.unusedVariables false
/-- What a law's row says of its bytes. -/
def CodeRow (w : World) (a : Option Addr) (len cap : Nat) (zs : List Int) : Prop :=
  (a = none ∧ len = 0 ∧ cap = 0 ∧ zs = []) ∨
  ∃ x, a = some x ∧ len ≤ cap ∧ cap ≤ maxLen ∧ zs.length = cap ∧ (∀ i, i < zs.length → w.cell? (x.add i) = some (.int .u8 (zs.getD i 0))) ∧ ∀ n ∈ zs, (Lit.int .u8 n).wf = true
theorem CodeRow.view {w : World} {a : Option Addr} {len cap : Nat} {zs : List Int} (h : CodeRow w a len cap zs) (hl : len ≤ 1073741824) : ∃ bs : List UInt8, bs.length = len ∧ kByte.V w (fun _ => True) (.slice a len cap) bs := by
  rcases h with ⟨rfl, rfl, rfl, rfl⟩ | ⟨x, rfl, h1, h2, h3, h4, h5⟩
  · exact ⟨[], rfl, Kd.V_nil _ _ _⟩
  · have hlen : ((zs.take len).map u8).length = len := by rw [List.length_map, List.length_take]; omega
    refine ⟨(zs.take len).map u8, hlen, some x, cap, by rw [hlen], by omega, h2, by omega, ?_, fun e => by cases e⟩
    by_cases h0 : len = 0
    · exact .inl (by subst h0; simp)
    · have hs : x.spot = none := by
        have := World.cell?_spot (h4 0 (by omega))
        simpa [Addr.add] using this
      obtain ⟨b, off, spot⟩ := x
      simp only at hs
      subst hs
      refine .inr ⟨b, off, rfl, trivial, fun i y hy => ?_⟩
      have hi : i < len := by have := (List.getElem?_eq_some_iff.1 hy).1; omega
      have hz : i < zs.length := by omega
      refine ⟨[byteC y], ⟨rfl, trivial⟩, fun j u hu => ?_⟩
      have hj : j = 0 := by
        have := (List.getElem?_eq_some_iff.1 hu).1
        simp at this; omega
      subst hj
      obtain rfl : byteC y = u := by simpa using hu
      have hc := h4 i hz
      have hwf := h5 _ (List.getElem_mem hz)
      rw [List.getElem?_map, List.getElem?_take, if_pos hi, List.getElem?_eq_getElem hz] at hy
      obtain rfl : u8 zs[i] = y := by simpa using hy
      have e1 : (⟨b, off, none⟩ : Addr).add i = ⟨b, off + (i * kByte.sz + 0), none⟩ := by
        have : kByte.sz = 1 := rfl
        rw [this]
        unfold Addr.add
        split
        · next h => subst h; simp
        · simp
      rw [e1] at hc
      show w.cell? ⟨b, off + (i * kByte.sz + 0), none⟩ = _
      rw [hc, List.getD_eq_getElem?_getD, List.getElem?_eq_getElem hz]
      have hr : 0 ≤ zs[i] ∧ zs[i] < 256 := by
        simp [Lit.wf, IntKind.min, IntKind.max, IntKind.bits, IntKind.signed] at hwf
        omega
      simp only [Option.getD_some, byteC, u8_toNat]
      rw [Int.emod_eq_of_lt hr.1 hr.2]
end Go.Proofs.YtenigopoknajgaaDoor
