/- Contracts: bytes. The reader opened; a number, a term in bytes. -/
import Derived.Test.YtkdfmnaijgkfhaaDoorDraw2
import Derived.Test.YtkdfmnaijgkfhaaDoorBytes
namespace Go.Proofs.YtkdfmnaijgkfhaaDoor
open Go.RowKit
set_option linter.unusedVariables false
set_option maxRecDepth 100000

theorem open_c (w : World) (v : Value) (bs : List UInt8) (ok : Nat → Prop) (hV : kByte.V w ok v bs) :
    Calls Tryd.prog 47 #[v] w fun e w' => ∃ g, e = .returned (.pointer (some ⟨g, 0, none⟩)) ∧ Rd w w' g 0 ∧ Below w.heap.size w w' := by
  obtain ⟨A, c, rfl, h1, h2, h3, hC, _⟩ := hV
  have HC := Sec.mk (Kd.C_move (ok1 := fun _ => True) (Keeps.mono fun _ _ _ => trivial) hC (by decide))
  have hu := Tryd.underlying98
  clear hC
  by_cases hl : bs.length > 2000
  · have h1' : ¬ 2000 > c := by omega
    go_enter Tryd.func47, Tryd.ntmps47
    go_wp2
    go_ret
    refine ⟨_, rfl, ⟨⟨A, c, 0, bs.take 2000, ?_, Nat.le_refl _, by rw [List.length_take]; omega, Kd.C_take HC.out 2000⟩, belA (Below.refl _ _) _, Nat.le_refl _⟩, belA (Below.refl _ _) _⟩
    rw [List.length_take, Nat.min_eq_left (by omega)]
    exact heap_alloc_new w _
  · go_enter Tryd.func47, Tryd.ntmps47
    go_wp2
    go_ret
    exact ⟨_, rfl, ⟨⟨A, c, 0, bs, heap_alloc_new w _, Nat.le_refl _, by omega, HC.out⟩, belA (Below.refl _ _) _, Nat.le_refl _⟩, belA (Below.refl _ _) _⟩

def num3 (n : Int) : List UInt8 := [u8 ((n + 99999 + 1) / 65536), u8 ((n + 99999 + 1) / 256 % 256), u8 ((n + 99999 + 1) % 256)]
theorem l6Put_c (w : World) (v : Value) (bs : List UInt8) (n : Int) (ok : Nat → Prop) (hV : kByte.V w ok v bs) (hl : bs.length ≤ 1000000) (n0 : -100000 ≤ n) (n1 : n ≤ 16000000) :
    Calls Tryd.prog 38 #[v, .int .i64 n] w fun e w' => ∃ u, e = .returned u ∧ kByte.R w' (fun k => w.heap.size ≤ k) u (bs ++ num3 n) ∧ Below w.heap.size w w' := by
  have HV := Sec.mk (Kd.V_in hV (by decide))
  obtain ⟨A, c, rfl, _⟩ := id hV
  have e1 : Sec (IntKind.u8.wrap ((n + 99999 + 1) / 65536) = (n + 99999 + 1) / 65536) := ⟨by rw [IntKind.wrap_u8']; omega⟩
  have e2 : Sec (IntKind.u8.wrap ((n + 99999 + 1) / 256 % 256) = (n + 99999 + 1) / 256 % 256) := ⟨by rw [IntKind.wrap_u8']; omega⟩
  have e3 : Sec (IntKind.u8.wrap ((n + 99999 + 1) % 256) = (n + 99999 + 1) % 256) := ⟨by rw [IntKind.wrap_u8']; omega⟩
  clear hV
  go_enter Tryd.func38, Tryd.ntmps38
  go_wp2_with (at_builtin; first
    | refine B_cat (B := w.heap.size) rfl (.tmp 9) (.tmp 10) 24 rfl Tryd.underlying24 info_byte _ _ [] bs _ rfl rfl (Kd.R_empty kByte (Nat.le_refl _)) (by simp) (Kd.V_below HV.out (belA (Below.refl _ _) _) (by decide)) (fun k hk => hk.2) (by simp; omega) ?_; intro v1 w1 hR1 hg1 hr1; have S1 := Sec.mk hR1; have B1 := Sec.mk (grew (belA (Below.refl w.heap.size w) (.cells #[] 5)) hg1 hr1); have Z1 := B1.out.size; clear hR1 hg1 hr1
    | refine B_lit (B := w.heap.size) rfl (.tmp 11) (.tmp 22) 24 rfl Tryd.underlying24 info_byte _ ([] ++ bs) [(n + 99999 + 1) / 65536, (n + 99999 + 1) / 256 % 256, (n + 99999 + 1) % 256] _ (by simp only [List.map_cons, List.map_nil]; rw [e1.out, e2.out, e3.out]) rfl rfl rfl S1.out Z1 (by simp; omega) ?_; intro v2 w2 hR2 hg2 hr2; have S2 := Sec.mk hR2; have B2 := Sec.mk (grew B1.out hg2 hr2); clear hR2 hg2 hr2)
  go_ret
  exact ⟨_, rfl, S2.out, B2.out⟩
end Go.Proofs.YtkdfmnaijgkfhaaDoor
