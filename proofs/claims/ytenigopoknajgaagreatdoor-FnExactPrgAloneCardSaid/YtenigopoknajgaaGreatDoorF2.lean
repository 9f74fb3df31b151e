/- Contracts: the reference's functions on terms, what is made. -/
import Derived.Test.YtenigopoknajgaaGreatDoorF1
namespace Go.Proofs.YtenigopoknajgaaGreatDoor
open Go.RowKit
set_option linter.unusedVariables false
set_option maxRecDepth 100000
theorem info_int : (Tryz.prog.info? 3).map (fun i => (i.zero, i.size, i.bytes)) = some (some (.int .i64 0), 1, 8) := by kernel_rfl
theorem info_cell : (Tryz.prog.info? 73).map (fun i => (i.zero, i.size, i.bytes)) = some (some (.agg #[.int .i64 0, .int .i64 0, .string ⟨#[]⟩]), 3, 32) := by kernel_rfl
theorem int_at {w : World} {ok : Nat → Prop} {A : Option Addr} {xs : List Int} (h : kInt.C w ok A xs) (i : Nat) (hi : i < xs.length) : ∃ b off, A = some ⟨b, off, none⟩ ∧ ok b ∧ w.cell? ⟨b, off + i, none⟩ = some (.int .i64 xs[i]) := by
  obtain ⟨b, off, cs, hA, hb, hK, hc⟩ := Kd.C_get h (List.getElem?_eq_getElem hi)
  obtain ⟨rfl, _⟩ := hK
  refine ⟨b, off, hA, hb, ?_⟩
  have := hc 0 _ rfl
  rw [show i * kInt.sz + 0 = i from by simp [kInt, Kd.int, Kd.scalar]] at this
  exact this
theorem int_O (w : World) (S : Nat → Prop) (n : Int) : kInt.O w S n [.int .i64 n] := ⟨rfl, trivial⟩

end Go.Proofs.YtenigopoknajgaaGreatDoor
