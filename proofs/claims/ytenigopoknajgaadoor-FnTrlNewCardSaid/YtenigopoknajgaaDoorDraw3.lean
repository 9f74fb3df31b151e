/- Contracts: bytes. The reader opened; a number, a term in bytes. -/
import Derived.Test.YtenigopoknajgaaDoorDraw2
import Derived.Test.YtenigopoknajgaaDoorBytes
namespace Go.Proofs.YtenigopoknajgaaDoor
open Go.RowKit
set_option linter.unusedVariables false
set_option maxRecDepth 100000

theorem open_c (w : World) (v : Value) (bs : List UInt8) (ok : Nat → Prop) (hV : kByte.V w ok v bs) :
    Calls Tryd.prog 26 #[v] w fun e w' => ∃ g, e = .returned (.pointer (some ⟨g, 0, none⟩)) ∧ Rd w w' g 0 ∧ Below w.heap.size w w' := by
  obtain ⟨A, c, rfl, h1, h2, h3, hC, _⟩ := hV
  have HC := Sec.mk (Kd.C_move (ok1 := fun _ => True) (Keeps.mono fun _ _ _ => trivial) hC (by decide))
  have hu := Tryd.underlying86
  clear hC
  by_cases hl : bs.length > 2000
  · have h1' : ¬ 2000 > c := by omega
    go_enter Tryd.func26, Tryd.ntmps26
    go_wp2
    go_ret
    refine ⟨_, rfl, ⟨⟨A, c, 0, bs.take 2000, ?_, Nat.le_refl _, by rw [List.length_take]; omega, Kd.C_take HC.out 2000⟩, belA (Below.refl _ _) _, Nat.le_refl _⟩, belA (Below.refl _ _) _⟩
    rw [List.length_take, Nat.min_eq_left (by omega)]
    exact heap_alloc_new w _
  · go_enter Tryd.func26, Tryd.ntmps26
    go_wp2
    go_ret
    exact ⟨_, rfl, ⟨⟨A, c, 0, bs, heap_alloc_new w _, Nat.le_refl _, by omega, HC.out⟩, belA (Below.refl _ _) _, Nat.le_refl _⟩, belA (Below.refl _ _) _⟩

def num3 (n : Int) : List UInt8 := [u8 ((n + 99999 + 1) / 65536), u8 ((n + 99999 + 1) / 256 % 256), u8 ((n + 99999 + 1) % 256)]
end Go.Proofs.YtenigopoknajgaaDoor
