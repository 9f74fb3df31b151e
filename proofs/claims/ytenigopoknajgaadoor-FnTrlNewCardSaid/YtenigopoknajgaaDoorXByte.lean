/- What the exact laws' own functions do with rows of bytes. -/
import Derived.Test.YtenigopoknajgaaDoorExB
import Derived.Deep.RegionHeld3
namespace Go.Proofs.YtenigopoknajgaaDoor
open Go.RowKit
set_option linter.unusedVariables false
set_option maxRecDepth 100000
theorem byte_at {w : World} {ok : Nat → Prop} {A : Option Addr} {xs : List UInt8} (h : kByte.C w ok A xs) (i : Nat) (hi : i < xs.length) : ∃ b off, A = some ⟨b, off, none⟩ ∧ ok b ∧ w.cell? ⟨b, off + i, none⟩ = some (.int .u8 (xs[i].toNat : Int)) := by
  obtain ⟨b, off, cs, hA, hb, hK, hc⟩ := Kd.C_get h (List.getElem?_eq_getElem hi)
  obtain ⟨rfl, _⟩ := hK
  refine ⟨b, off, hA, hb, ?_⟩
  have := hc 0 _ rfl
  rw [show i * kByte.sz + 0 = i from by simp [kByte, Kd.byte, Kd.scalar]] at this
  exact this
theorem u8_eq (x y : UInt8) : (((x.toNat : Int) == (y.toNat : Int)) = decide (x = y)) := by
  rw [Bool.beq_eq_decide_eq, decide_eq_decide]
  constructor
  · intro h; exact UInt8.toNat_inj.1 (by omega)
  · rintro rfl; rfl
def mByte : Mk UInt8 := ⟨fun _ => 1, fun _ k => u8 k⟩
theorem mByte_cnts (t : List UInt8) : mByte.cnts t = t.length := by
  unfold Mk.cnts
  induction t with
  | nil => rfl
  | cons x t ih => rw [List.map_cons, List.sum_cons, ih, List.length_cons]; show 1 + _ = _; omega
end Go.Proofs.YtenigopoknajgaaDoor
