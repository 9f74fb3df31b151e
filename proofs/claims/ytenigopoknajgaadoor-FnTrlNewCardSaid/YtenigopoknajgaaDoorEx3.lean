/- The exact laws' own functions on rows of places: equal, marked, held. -/
import Derived.Test.YtenigopoknajgaaDoorEx2
import Derived.Deep.RegionHeld3
namespace Go.Proofs.YtenigopoknajgaaDoor
open Go.RowKit
set_option linter.unusedVariables false
set_option maxRecDepth 100000
theorem cells_in {w : World} {ok : Nat → Prop} {b off : Nat} {xs : Term} (h : kCell.C w ok (some ⟨b, off, none⟩) xs) (i : Nat) (hi : i < xs.length) :
    w.cell? ⟨b, off + i * 3, none⟩ = some (.int .i64 xs[i].kind) ∧ w.cell? ⟨b, off + i * 3 + 1, none⟩ = some (.int .i64 xs[i].n) ∧ w.cell? ⟨b, off + i * 3 + 2, none⟩ = some (.string xs[i].name) := by
  obtain ⟨b', off', hA, _, c0, c1, c2, _⟩ := cell_at h i hi
  simp only [Option.some.injEq, Addr.mk.injEq, and_true] at hA
  obtain ⟨rfl, rfl⟩ := hA
  exact ⟨c0, c1, c2⟩
theorem eqCells_c (v u : Value) (t s : Term) (ok ok' : Nat → Prop) (w : World) (hV : kCell.V w ok v t) (hU : kCell.V w ok' u s) :
    Calls Tryd.prog 17 #[v, u] w fun e w' => e = .returned (.bool (decide (t = s))) ∧ Below w.heap.size w w' := by
  obtain ⟨A, c, rfl, h1, h2, h3, hC, _⟩ := hV
  obtain ⟨B, d, rfl, k1, k2, k3, hD, _⟩ := hU
  have HC := Sec.mk hC
  have HD := Sec.mk hD
  clear hC hD
  have hu := Tryd.underlying54
  by_cases hl : t.length = s.length
  · rw [← hl]
    have HL := Sec.mk hl
    clear hl
    go_enter Tryd.func17, Tryd.ntmps17
    go_wp2
    go_loopw [5] (fun i wr => ∃ k : Nat, k ≤ t.length ∧ i = .int .i64 k ∧ Sec (t.take k = s.take k) ∧ Sec (Below w.heap.size w wr)) (fun i _ => t.length - (intOf i).toNat)
    case atStart => exact ⟨0, Nat.zero_le _, rfl, ⟨by simp⟩, ⟨Below.refl _ _⟩⟩
    case round =>
      obtain ⟨k, hk, rfl, hT, hb⟩ := hrel
      by_cases hlt : k < t.length
      · have hlt2 : k < s.length := by have := HL.out; omega
        obtain ⟨b, off, rfl, _, _, _, _, _⟩ := cell_at (Kd.C_below HC.out hb.out (by decide)) k hlt
        obtain ⟨b2, off2, rfl, _, _, _, _, _⟩ := cell_at (Kd.C_below HD.out hb.out (by decide)) k hlt2
        have hat : Sec (∀ W : World, Below w.heap.size w W → W.cell? ⟨b, off + k * 3, none⟩ = some (.int .i64 t[k].kind) ∧ W.cell? ⟨b, off + k * 3 + 1, none⟩ = some (.int .i64 t[k].n) ∧ W.cell? ⟨b, off + k * 3 + 2, none⟩ = some (.string t[k].name) ∧
            W.cell? ⟨b2, off2 + k * 3, none⟩ = some (.int .i64 s[k].kind) ∧ W.cell? ⟨b2, off2 + k * 3 + 1, none⟩ = some (.int .i64 s[k].n) ∧ W.cell? ⟨b2, off2 + k * 3 + 2, none⟩ = some (.string s[k].name)) := ⟨fun W h => by
          obtain ⟨x0, x1, x2⟩ := cells_in (Kd.C_below HC.out h (by decide)) k hlt
          obtain ⟨y0, y1, y2⟩ := cells_in (Kd.C_below HD.out h (by decide)) k hlt2
          exact ⟨x0, x1, x2, y0, y1, y2⟩⟩
        have hT1 : Sec (t[k] = s[k] → t.take (k + 1) = s.take (k + 1)) := ⟨fun e => by rw [List.take_succ_eq_append_getElem hlt, List.take_succ_eq_append_getElem hlt2, hT.out, e]⟩
        have hT2 : Sec (t = s → t[k] = s[k]) := ⟨fun e => by subst e; rfl⟩
        generalize t[k] = x at *
        generalize s[k] = y at *
        obtain ⟨x0, x1, x2, y0, y1, y2⟩ := hat.out _ hb.out
        have i0 : (0 : Int) ≤ (k : Int) := by omega
        have i1 : (k : Int) < (t.length : Int) := by omega
        obtain ⟨bb, hbb⟩ : ∃ bb, decide (x = y) = bb := ⟨_, rfl⟩
        have Hc : Sec (∀ W, Calls Tryd.prog 42 #[x.agg, y.agg] W fun e w' => e = .returned (.bool bb) ∧ Below W.heap.size W w') := ⟨fun W => by rw [← hbb]; exact eqCell_c x y W⟩
        have HBB := Sec.mk hbb
        clear hbb
        go_wp2
        go_region_held3 (fun W => W.cell? ⟨b, off + k * 3, none⟩ = some (.int .i64 x.kind) ∧ W.cell? ⟨b, off + k * 3 + 1, none⟩ = some (.int .i64 x.n) ∧ W.cell? ⟨b, off + k * 3 + 2, none⟩ = some (.string x.name) ∧
            W.cell? ⟨b2, off2 + k * 3, none⟩ = some (.int .i64 y.kind) ∧ W.cell? ⟨b2, off2 + k * 3 + 1, none⟩ = some (.int .i64 y.n) ∧ W.cell? ⟨b2, off2 + k * 3 + 2, none⟩ = some (.string y.name))
          (first | (refine ⟨?_, ?_, ?_, ?_, ?_, ?_⟩ <;> assumption) | go_keep)
          (first | (go_at_call 42; refine (Hc.out _).mono ?_; rintro e w1 ⟨rfl, hb1⟩; have B1 := Sec.mk (bel (belD hb.out) hb1); clear x0 x1 x2 y0 y1 y2; obtain ⟨x0, x1, x2, y0, y1, y2⟩ := hat.out _ B1.out; clear hb1))
        all_goals
          cases bb with
          | true =>
            have HE : Sec (t.take (k + 1) = s.take (k + 1)) := ⟨hT1.out (of_decide_eq_true HBB.out)⟩
            go_wp2
            go_roundw
            case rel => exact ⟨k + 1, by omega, by go_num, HE, B1⟩
            case measure => simp [intOf]; omega
          | false =>
            have HE : Sec (decide (t = s) = false) := ⟨decide_eq_false (fun e => of_decide_eq_false HBB.out (hT2.out e))⟩
            go_wp2
            go_ret
            exact ⟨rb HE.out.symm, B1.out⟩
      · have HE : Sec (decide (t = s) = true) := ⟨decide_eq_true (by have := hT.out; have h2 := HL.out; rwa [List.take_of_length_le (by omega), List.take_of_length_le (by omega)] at this)⟩
        go_wp2
        go_ret
        exact ⟨rb HE.out.symm, hb.out⟩
  · have hl' : ((t.length : Int) == (s.length : Int)) = false := beq_eq_false_iff_ne.2 (by omega)
    have HE : Sec (decide (t = s) = false) := ⟨decide_eq_false (fun e => hl (by rw [e]))⟩
    go_enter Tryd.func17, Tryd.ntmps17
    go_wp2
    go_ret
    exact ⟨rb HE.out.symm, Below.refl _ _⟩
def mkCell (k : Int) : Cell := ⟨k, k + 1, mt (k + 2)⟩
/-- A row of places marked, from a number on. -/
def mkCells : Term → Int → Term
  | [], _ => []
  | _ :: t, k => mkCell k :: mkCells t (k + 3)
theorem mkCells_len : ∀ (t : Term) (k : Int), (mkCells t k).length = t.length
  | [], _ => rfl
  | _ :: t, k => by rw [mkCells, List.length_cons, List.length_cons, mkCells_len]
theorem mkCells_snoc : ∀ (t : Term) (x : Cell) (k : Int), mkCells (t ++ [x]) k = mkCells t k ++ [mkCell (k + 3 * t.length)]
  | [], x, k => by simp [mkCells]
  | y :: t, x, k => by
    rw [List.cons_append, mkCells, mkCells_snoc t x (k + 3), mkCells, List.cons_append, List.length_cons]
    congr 4
    omega
theorem mk_next (t : Term) (k : Int) (i : Nat) (h : i < t.length) : (mkCells (t.take i) k ++ t.drop i).set i (mkCell (k + 3 * i)) = mkCells (t.take (i + 1)) k ++ t.drop (i + 1) := by
  rw [List.take_succ_eq_append_getElem h, mkCells_snoc, List.length_take, Nat.min_eq_left (by omega), List.drop_eq_getElem_cons h]
  rw [List.set_append_right _ _ (by rw [mkCells_len, List.length_take]; omega), mkCells_len, List.length_take, Nat.min_eq_left (by omega), Nat.sub_self, List.set_cons_zero, List.append_assoc]
  rfl
theorem mk_get (t : Term) (k : Int) (i : Nat) (h : i < t.length) : (mkCells t k)[i]? = some (mkCell (k + 3 * i)) := by
  have e : t = t.take i ++ t[i] :: t.drop (i + 1) := by rw [← List.drop_eq_getElem_cons h, List.take_append_drop]
  induction t generalizing k i with
  | nil => simp at h
  | cons x t ih =>
    cases i with
    | zero => simp [mkCells]
    | succ i =>
      have h' : i < t.length := by simpa using h
      rw [mkCells, List.getElem?_cons_succ, ih (k + 3) i h' (by rw [← List.drop_eq_getElem_cons h', List.take_append_drop])]
      congr 2
      omega
end Go.Proofs.YtenigopoknajgaaDoor
