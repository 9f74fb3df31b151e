/- Contracts: the reference's functions on terms, what is made. -/
import Derived.Test.YtenigopoknajgaaDoorF1
namespace Go.Proofs.YtenigopoknajgaaDoor
open Go.RowKit
set_option linter.unusedVariables false
set_option maxRecDepth 100000
theorem info_int : (Tryd.prog.info? 3).map (fun i => (i.zero, i.size, i.bytes)) = some (some (.int .i64 0), 1, 8) := by kernel_rfl
theorem info_cell : (Tryd.prog.info? 54).map (fun i => (i.zero, i.size, i.bytes)) = some (some (.agg #[.int .i64 0, .int .i64 0, .string ⟨#[]⟩]), 3, 32) := by kernel_rfl
theorem int_at {w : World} {ok : Nat → Prop} {A : Option Addr} {xs : List Int} (h : kInt.C w ok A xs) (i : Nat) (hi : i < xs.length) : ∃ b off, A = some ⟨b, off, none⟩ ∧ ok b ∧ w.cell? ⟨b, off + i, none⟩ = some (.int .i64 xs[i]) := by
  obtain ⟨b, off, cs, hA, hb, hK, hc⟩ := Kd.C_get h (List.getElem?_eq_getElem hi)
  obtain ⟨rfl, _⟩ := hK
  refine ⟨b, off, hA, hb, ?_⟩
  have := hc 0 _ rfl
  rw [show i * kInt.sz + 0 = i from by simp [kInt, Kd.int, Kd.scalar]] at this
  exact this
theorem int_O (w : World) (S : Nat → Prop) (n : Int) : kInt.O w S n [.int .i64 n] := ⟨rfl, trivial⟩

theorem l1Has_c (v : Value) (l : List Int) (n : Int) (ok : Nat → Prop) (w : World) (hV : kInt.V w ok v l) :
    Calls Tryd.prog 76 #[v, .int .i64 n] w fun e w' => e = .returned (.bool (decide (n ∈ l))) ∧ w = w' := by
  obtain ⟨A, c, rfl, h1, h2, h3, hC, _⟩ := hV
  have HC := Sec.mk hC
  clear hC
  go_enter Tryd.func76, Tryd.ntmps76
  go_wp2
  go_loop [5] (fun i => ∃ k : Nat, k ≤ l.length ∧ i = .int .i64 k ∧ Sec (¬ n ∈ l.take k)) (fun i => l.length - (intOf i).toNat)
  case atStart => exact ⟨0, Nat.zero_le _, rfl, ⟨by simp⟩⟩
  case round =>
    obtain ⟨k, hk, rfl, hr⟩ := hrel
    by_cases hlt : k < l.length
    · obtain ⟨b, off, rfl, hob, c0⟩ := int_at HC.out k hlt
      have hT := Sec.mk (List.take_succ_eq_append_getElem hlt)
      have hM := Sec.mk (List.getElem_mem hlt)
      generalize l[k] = x at *
      by_cases hx : x = n
      · subst hx
        go_wp2
        go_ret
        exact ⟨rb (by simp [hM.out]), rfl⟩
      · have hx' : (x == n) = false := beq_eq_false_iff_ne.2 hx
        have hn : Sec (¬ n ∈ l.take (k + 1)) := ⟨by rw [hT.out]; simp [hr.out]; omega⟩
        clear hx
        go_wp2
        go_round
        case rel => exact ⟨k + 1, by omega, by go_num, hn⟩
        case measure => simp [intOf]; omega
    · have hn : Sec (¬ n ∈ l) := ⟨by have := hr.out; rwa [List.take_of_length_le (by omega)] at this⟩
      go_wp2
      go_ret
      exact ⟨rb (by simp [hn.out]), rfl⟩

theorem TrmFree_c (v : Value) (t : Term) (ok : Nat → Prop) (w : World) (hV : kCell.V w ok v t) :
    Calls Tryd.prog 52 #[v] w fun e w' => ∃ u, e = .returned u ∧ kInt.R w' (fun k => w.heap.size ≤ k) u (free t) ∧ Below w.heap.size w w' := by
  obtain ⟨A, c, rfl, h1, h2, h3, hC, _⟩ := hV
  have HC := Sec.mk hC
  clear hC
  have H3 := Sec.mk h3
  have hu := Tryd.underlying54
  go_enter Tryd.func52, Tryd.ntmps52
  go_wp2
  go_loopw [3, 4] (fun v i wr => ∃ k : Nat, k ≤ t.length ∧ i = .int .i64 k ∧ Sec (kInt.R wr (fun k => w.heap.size ≤ k) v (free (t.take k))) ∧ Sec (Below w.heap.size w wr)) (fun _ i _ => t.length - (intOf i).toNat)
  case atStart => exact ⟨0, Nat.zero_le _, rfl, ⟨Kd.R_empty kInt (Nat.le_refl _)⟩, ⟨belA (Below.refl _ _) _⟩⟩
  case round =>
    obtain ⟨k, hk, rfl, hR, hb⟩ := hrel
    by_cases hlt : k < t.length
    · obtain ⟨b, off, rfl, hob, c0, c1, c2, _⟩ := cell_at (Kd.C_below HC.out hb.out (by decide)) k hlt
      have hT : Sec (free (t.take (k + 1)) = freeStep (free (t.take k)) t[k]) := ⟨take_foldl _ _ _ _ hlt⟩
      have hL : Sec ((free (t.take k)).length + 1 ≤ 1073741824) := ⟨by have := free_len (t.take k); rw [List.length_take] at this; have := H3.out; omega⟩
      generalize t[k] = x at *
      by_cases hx : x.kind = 1
      · have hx' : (x.kind == 1) = true := beq_iff_eq.2 hx
        have hV := Sec.mk (Kd.R_V hR.out)
        by_cases hm : x.n ∈ free (t.take k)
        · have hT' : Sec (free (t.take (k + 1)) = free (t.take k)) := ⟨by rw [hT.out]; unfold freeStep; rw [if_neg (by simp [hm])]⟩
          have Hm := Sec.mk hm
          clear hx hm
          go_wp2_with (go_at_call 76; refine (l1Has_c _ _ _ _ _ hV.out).mono ?_; rw [decide_eq_true Hm.out]; rintro e w' ⟨rfl, rfl⟩)
          go_roundw
          case rel => exact ⟨k + 1, by omega, by go_num, ⟨by rw [hT'.out]; exact hR.out⟩, hb⟩
          case measure => simp [intOf]; omega
        · have hT' : Sec (free (t.take (k + 1)) = free (t.take k) ++ [x.n]) := ⟨by rw [hT.out]; unfold freeStep; rw [if_pos ⟨hx, hm⟩]⟩
          have Hm := Sec.mk hm
          clear hx hm
          go_wp2_with (first | (go_at_call 76; refine (l1Has_c _ _ _ _ _ hV.out).mono ?_; rw [decide_eq_false Hm.out]; rintro e w' ⟨rfl, rfl⟩) | (at_builtin; refine Kd.R_app kInt (w0 := w) (wb := wr) (W := wr) rfl (.tmp 28) (.tmp 34) 59 (.int .i64 0) 8 rfl Tryd.underlying59 info_int rfl (by decide) (by decide) _ _ x.n [.int .i64 x.n] rfl rfl (by simp) hR.out hb.out (Below.refl _ _) (int_O _ _ _) hL.out ?_; intro v1 w1 hR1 hb1; have HR1 := Sec.mk hR1; have HB1 := Sec.mk hb1; clear hR1 hb1))
          go_roundw
          case rel => exact ⟨k + 1, by omega, by go_num, ⟨by rw [hT'.out]; exact HR1.out⟩, HB1⟩
          case measure => simp [intOf]; omega
      · have hx' : (x.kind == 1) = false := beq_eq_false_iff_ne.2 hx
        have hT' : Sec (free (t.take (k + 1)) = free (t.take k)) := ⟨by rw [hT.out]; unfold freeStep; rw [if_neg (by simp [hx])]⟩
        clear hx
        go_wp2
        go_roundw
        case rel => exact ⟨k + 1, by omega, by go_num, ⟨by rw [hT'.out]; exact hR.out⟩, hb⟩
        case measure => simp [intOf]; omega
    · have hf : Sec (free (t.take k) = free t) := ⟨by rw [List.take_of_length_le (by omega)]⟩
      go_wp2
      go_ret
      exact ⟨_, rfl, by rw [← hf.out]; exact hR.out, hb.out⟩

end Go.Proofs.YtenigopoknajgaaDoor
