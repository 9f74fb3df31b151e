/- Contracts: numbers and terms taken, by the program. -/
import Derived.Test.YtkdfmnaijgkfhaaDoorT4
namespace Go.Proofs.YtkdfmnaijgkfhaaDoor
open Go.RowKit
set_option linter.unusedVariables false
set_option maxRecDepth 100000
/-- The number that bytes are. -/
def numB (l : List UInt8) : Nat := l.foldl (fun n b => n * 256 + b.toNat) 0
theorem numB_take (l : List UInt8) (k : Nat) (h : k < l.length) : numB (l.take (k + 1)) = numB (l.take k) * 256 + l[k].toNat := by
  rw [numB, List.take_succ_eq_append_getElem h, List.foldl_append]; rfl
theorem numB_lt (l : List UInt8) : numB l < 256 ^ l.length := by
  rw [← List.take_length (l := l)]
  generalize hk : l.length = k
  have : ∀ k, k ≤ l.length → numB (l.take k) < 256 ^ (l.take k).length := by
    intro k
    induction k with
    | zero => intro _; simp [numB]
    | succ k ih =>
      intro h
      have h1 := ih (by omega)
      rw [numB_take l k (by omega)]
      rw [List.length_take, Nat.min_eq_left (by omega)] at h1 ⊢
      have := l[k].toNat_lt
      rw [Nat.pow_succ]
      omega
  rw [← hk]
  exact this _ (Nat.le_refl _)
theorem shl_or (a y : Nat) (ha : a < 16777216) (hy : y < 256) : bits BinOp.or IntKind.i64 (wrap64 ((a : Int) * 256)) (wrap64 (y : Int)) = (a * 256 + y : Nat) := by
  have e1 : wrap64 ((a : Int) * 256) = (a : Int) * 256 := by unfold wrap64; omega
  have e2 : wrap64 (y : Int) = (y : Int) := by unfold wrap64; omega
  have p40 : (2 : Int) ^ 40 = 1099511627776 := by decide
  rw [e1, e2, bits_join .i64 40 (by decide) (fun n h0 h1 => wrapIn n (by omega) (by omega)) 8 _ _ (by omega) (by omega) (by omega) (by omega) (by omega) (by omega)]
  omega
theorem numB_small {p : List UInt8} (h : p.length ≤ 3) : numB p < 16777216 := by
  have h1 := numB_lt p
  have h2 : 256 ^ p.length ≤ 256 ^ 3 := Nat.pow_le_pow_right (by decide) h
  omega
set_option maxHeartbeats 2000000 in
theorem tnumber_i (b n : Nat) (v : Value) (l : List UInt8) (ok : Nat → Prop) (hn : n ≤ 3) (hl : l.length ≤ 10000000) (hok : ¬ ok b) (w : World) (hB : w.heap[b]? = some (.cells #[v] 65 (0, 0))) (hV : kByte.V w ok v l) :
    Calls Tryd.prog 71 #[.pointer (some ⟨b, 0, none⟩), .int .i64 n] w fun e w' => e = .returned (.int .i64 (numB (padB n l))) ∧ ∃ v', kByte.V w' ok v' (l.drop n) ∧ w'.heap[b]? = some (.cells #[v'] 65 (0, 0)) ∧ Foot (fun x => x = b) w w' := by
  have HT := Sec.mk (tbytes_i b n v l ok (by omega) hl hok w hB hV)
  have HN := Sec.mk (numB_lt (padB n l))
  have hlen : (padB n l).length ≤ 3 := by rw [padB_len]; exact hn
  clear hB hV
  generalize padB n l = p at *
  go_enter Tryd.func71, Tryd.ntmps71
  go_wp2_with (go_at_call 73; refine HT.out.mono ?_; rintro e w1 ⟨u, v', rfl, -, hR, hv, hB, hF⟩; have R1 := Sec.mk (Kd.R_V hR); have V1 := Sec.mk hv; have B1 := Sec.mk hB; have F1 := Sec.mk hF; obtain ⟨A, c, rfl, -, -⟩ := Kd.R_form hR; clear hR hv hB hF)
  go_loop [5, 12] (fun x i => ∃ k : Nat, k ≤ p.length ∧ x = .int .i64 (numB (p.take k)) ∧ i = .int .i64 k) (fun _ i => p.length - (intOf i).toNat)
  case atStart => exact ⟨0, Nat.zero_le _, rfl, rfl⟩
  case round =>
    obtain ⟨k, hk, rfl, rfl⟩ := hrel
    by_cases hlt : k < p.length
    · obtain ⟨b2, off, rfl, hob, x0⟩ := byteAt (Kd.V_C R1.out) k hlt
      have hN := Sec.mk (numB_take p k hlt)
      have hE : Sec (bits BinOp.or IntKind.i64 (wrap64 ((numB (p.take k) : Int) * 256)) (wrap64 (p[k].toNat : Int)) = numB (p.take (k + 1))) := ⟨by rw [hN.out]; exact shl_or _ _ (numB_small (by rw [List.length_take]; omega)) p[k].toNat_lt⟩
      go_wp2
      go_round
      case rel => exact ⟨k + 1, by omega, by rw [hE.out], rfl⟩
      case measure => simp [intOf]; omega
    · go_wp2
      go_ret
      exact ⟨by rw [List.take_of_length_le (by omega)]; rfl, _, V1.out, B1.out, F1.out⟩
theorem tsigned_i (b : Nat) (v : Value) (l : List UInt8) (ok : Nat → Prop) (hl : l.length ≤ 10000000) (hok : ¬ ok b) (w : World) (hB : w.heap[b]? = some (.cells #[v] 65 (0, 0))) (hV : kByte.V w ok v l) :
    Calls Tryd.prog 72 #[.pointer (some ⟨b, 0, none⟩)] w fun e w' => e = .returned (.int .i64 ((numB (padB 3 l) : Int) - 99999 - 1)) ∧ ∃ v', kByte.V w' ok v' (l.drop 3) ∧ w'.heap[b]? = some (.cells #[v'] 65 (0, 0)) ∧ Foot (fun x => x = b) w w' := by
  have HT := Sec.mk (tnumber_i b 3 v l ok (by omega) hl hok w hB hV)
  have hs := numB_small (p := padB 3 l) (by rw [padB_len]; omega)
  clear hB hV
  generalize numB (padB 3 l) = p at *
  go_enter Tryd.func72, Tryd.ntmps72
  go_wp2_with (go_at_call 71; refine HT.out.mono ?_; rintro e w1 ⟨rfl, v', hv, hB, hF⟩; have V1 := Sec.mk hv; have B1 := Sec.mk hB; have F1 := Sec.mk hF; clear hv hB hF)
  go_ret
  exact ⟨rfl, _, V1.out, B1.out, F1.out⟩
end Go.Proofs.YtkdfmnaijgkfhaaDoor
