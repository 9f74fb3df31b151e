/- What the exact laws' own functions do with the type TrmCell: turned, sized, compared, marked, held; and what goes with it. -/
import Derived.Test.YteflipoiiddkfaaGreatDoorMr1
import Derived.Test.YteflipoiiddkfaaGreatDoorMr2
import Derived.Test.YteflipoiiddkfaaGreatDoorMr3
import Derived.RangeFuncNested
import Derived.RangeFuncBox
import Derived.RangeFuncBound
import Derived.RangeFuncCalls
import Derived.RangeFuncLeaves
import Derived.Shelf.Abstract
import Derived.Shelf.RegionOpen
import Derived.OwnWalkIn
import Derived.TacticsInMore
import Derived.LoopNIn
import Derived.LoopIn
import Derived.WalkSpells
import Derived.Deep.LoopGhost
import Derived.Maps.Own
import Derived.Maps.OwnOps
import Derived.Maps.Views
import Derived.ArgAppend
import Derived.Deep.QuietTactic
import Derived.BigQuiet
namespace Go.Proofs.YteflipoiiddkfaaGreatDoor
section
open Go.RowKit
set_option linter.unusedVariables false
set_option maxRecDepth 100000
theorem kCell_K {w : World} {ok : Nat → Prop} {x : Cell} {cs : List Value} (h : kCell.K w ok x cs) : cs = [.int .i64 x.kind, .int .i64 x.n, .string x.name] ∧ x.name.size ≤ 1073741824 := kCell_open h
theorem kCell_f_kind : Kd.Fld kCell (Kd.int 3) 0 (fun x => x.kind) (fun x y => { x with kind := y }) := Kd.Fld.iso _ (Kd.Fld.fst (Kd.Fld.self _)) (fun _ _ => rfl)
theorem kCell_f_n : Kd.Fld kCell (Kd.int 3) 1 (fun x => x.n) (fun x y => { x with n := y }) := Kd.Fld.iso _ (Kd.Fld.snd (Kd.Fld.fst (Kd.Fld.self _))) (fun _ _ => rfl)
theorem kCell_f_name : Kd.Fld kCell (Kd.str 9) 2 (fun x => x.name) (fun x y => { x with name := y }) := Kd.Fld.iso _ (Kd.Fld.snd (Kd.Fld.snd (Kd.Fld.self _))) (fun _ _ => rfl)
def mCell : Mk Cell := ⟨fun x => 1 + 1 + 1, fun x k => ⟨k, k + 1, mt (k + 1 + 1)⟩⟩
theorem mCell_cnt (x : Cell) : mCell.cnt x = 1 + 1 + 1 := rfl
set_option maxHeartbeats 2000000 in
theorem markSCell_c (v : Value) (t : List Cell) (S : Nat → Prop) (k : Int) (hk : 0 ≤ k) (hk2 : k + mCell.cnts t ≤ 1000000000000000000) (w : World) (hR : kCell.R w S v t) :
    Calls Tryz.prog 33 #[v, .int .i64 k] w fun e w' => e = .returned (.int .i64 (k + mCell.cnts t)) ∧ kCell.R w' S v (mCell.mks t k) ∧ Foot S w w' := by
  obtain ⟨A, cp, hv, g1, g2⟩ := Kd.R_form hR
  subst hv
  have h3 : t.length ≤ 1073741824 := hR.1
  have HR := Sec.mk hR
  have hu := Tryz.underlying77
  clear hR
  have HN := Sec.mk (mCell.cnts_take t)
  have HM := Sec.mk (mCell.cnts_le t)
  have HX := Sec.mk (mCell.next t k)
  go_enter Tryz.func33, Tryz.ntmps33
  go_wp2
  go_loopw [1, 5] (fun kv iv wr => ∃ i : Nat, i ≤ t.length ∧ iv = .int .i64 i ∧ kv = .int .i64 (k + ↑(mCell.cnts (t.take i))) ∧ Sec (kCell.R wr S (.slice A t.length cp) (mCell.mks (t.take i) k ++ t.drop i)) ∧ Sec (Foot S w wr)) (fun _ iv _ => t.length - (intOf iv).toNat)
  case atStart => exact ⟨0, Nat.zero_le _, rfl, by simp [Mk.cnts], ⟨by simpa [Mk.mks] using HR.out⟩, ⟨Foot.refl _ _⟩⟩
  case round =>
    obtain ⟨i, hi, rfl, rfl, hM, hF⟩ := hrel
    by_cases hlt : i < t.length
    · have hL : (mCell.mks (t.take i) k ++ t.drop i).length = t.length := mCell.len_ t k i
      have hil : i < (mCell.mks (t.take i) k ++ t.drop i).length := by omega
      obtain ⟨b, rfl, -, hSb, hbb, -⟩ := Kd.R_block hM.out (by omega)
      obtain ⟨cs, hA, -⟩ := Kd.At.of_R hM.out hil
      rw [mCell.at_ t k i hlt] at hA
      have hnext := Sec.mk (HX.out i hlt)
      have hn1 := HN.out i hlt
      have hn2 := HM.out (i + 1)
      rw [hn1] at hn2
      have HN1 := Sec.mk hn1
      have F0 := hF
      clear hM hn1 hL
      generalize mCell.mks (t.take i) k ++ t.drop i = L at *
      generalize t[i] = x at *
      generalize mCell.cnts (t.take i) = c at *
      have hcx : Sec (mCell.cnt x = _) := ⟨mCell_cnt x⟩
      rw [mCell_cnt x] at hn2
      have hAt := hA
      obtain ⟨rfl, -⟩ := kCell_K hA.K
      have A0 := Sec.mk hA
      clear hA hAt
      have c0_0 : wr.cell? ⟨b, i * 3, none⟩ = some (.int .i64 x.kind) := Kd.At.cell A0.out 0 _ rfl
      have c0_1 : wr.cell? ⟨b, i * 3 + 1, none⟩ = some (.int .i64 x.n) := Kd.At.cell A0.out 1 _ rfl
      have c0_2 : wr.cell? ⟨b, i * 3 + 2, none⟩ = some (.string x.name) := Kd.At.cell A0.out 2 _ rfl
      have f0_0 : wr.frozen? ⟨b, i * 3, none⟩ = false := Kd.At.frozen A0.out (i * 3)
      have f0_1 : wr.frozen? ⟨b, i * 3 + 1, none⟩ = false := Kd.At.frozen A0.out (i * 3 + 1)
      have f0_2 : wr.frozen? ⟨b, i * 3 + 2, none⟩ = false := Kd.At.frozen A0.out (i * 3 + 2)
      have A1 : Sec (Kd.At kCell (wr.setCell ⟨b, i * 3, none⟩ (.int .i64 (k + (c : Int)))) S b t.length cp L i ⟨k + (c : Int), x.n, x.name⟩ [.int .i64 (k + (c : Int)), .int .i64 x.n, .string x.name]) := ⟨Kd.At.store (e := (Kd.int 3)) A0.out kCell_f_kind rfl (k + (c : Int)) (.int .i64 (k + (c : Int))) (fun _ _ => ⟨rfl, trivial⟩)⟩
      have F1 : Sec (Foot S w (wr.setCell ⟨b, i * 3, none⟩ (.int .i64 (k + (c : Int))))) := ⟨F0.out.set (g := b) (.inl hSb) (i * 3) (.int .i64 (k + (c : Int)))⟩
      have A2 : Sec (Kd.At kCell ((wr.setCell ⟨b, i * 3, none⟩ (.int .i64 (k + (c : Int)))).setCell ⟨b, i * 3 + 1, none⟩ (.int .i64 (k + (c : Int) + 1))) S b t.length cp L i ⟨k + (c : Int), k + (c : Int) + 1, x.name⟩ [.int .i64 (k + (c : Int)), .int .i64 (k + (c : Int) + 1), .string x.name]) := ⟨Kd.At.store (e := (Kd.int 3)) A1.out kCell_f_n rfl (k + (c : Int) + 1) (.int .i64 (k + (c : Int) + 1)) (fun _ _ => ⟨rfl, trivial⟩)⟩
      have F2 : Sec (Foot S w ((wr.setCell ⟨b, i * 3, none⟩ (.int .i64 (k + (c : Int)))).setCell ⟨b, i * 3 + 1, none⟩ (.int .i64 (k + (c : Int) + 1)))) := ⟨F1.out.set (g := b) (.inl hSb) (i * 3 + 1) (.int .i64 (k + (c : Int) + 1))⟩
      have T0 : Sec True := ⟨trivial⟩
      go_wp2_with (first | (clear T0; go_at_call 56; have T1 : Sec True := ⟨trivial⟩; refine (markText_c (k + (c : Int) + 1 + 1) (by omega) _).mono ?_; rintro e w1 ⟨rfl, hz, hb'⟩; have A3 : Sec (Kd.At kCell w1 S b t.length cp L i ⟨k + (c : Int), k + (c : Int) + 1, x.name⟩ [.int .i64 (k + (c : Int)), .int .i64 (k + (c : Int) + 1), .string x.name]) := ⟨Kd.At.below A2.out hb'⟩; have F3 : Sec (Foot S w w1) := ⟨F2.out.trans (Foot.of_below (S := S) hb') (fun _ _ h => h)⟩; clear hb'; clear c0_0 f0_0 c0_1 f0_1 c0_2 f0_2; have c1_0 : w1.cell? ⟨b, i * 3, none⟩ = some (.int .i64 (k + (c : Int))) := Kd.At.cell A3.out 0 _ rfl; have c1_1 : w1.cell? ⟨b, i * 3 + 1, none⟩ = some (.int .i64 (k + (c : Int) + 1)) := Kd.At.cell A3.out 1 _ rfl; have c1_2 : w1.cell? ⟨b, i * 3 + 2, none⟩ = some (.string x.name) := Kd.At.cell A3.out 2 _ rfl; have f1_0 : w1.frozen? ⟨b, i * 3, none⟩ = false := Kd.At.frozen A3.out (i * 3); have f1_1 : w1.frozen? ⟨b, i * 3 + 1, none⟩ = false := Kd.At.frozen A3.out (i * 3 + 1); have f1_2 : w1.frozen? ⟨b, i * 3 + 2, none⟩ = false := Kd.At.frozen A3.out (i * 3 + 2); have A4 : Sec (Kd.At kCell (w1.setCell ⟨b, i * 3 + 2, none⟩ (.string (mt (k + (c : Int) + 1 + 1)))) S b t.length cp L i ⟨k + (c : Int), k + (c : Int) + 1, (mt (k + (c : Int) + 1 + 1))⟩ [.int .i64 (k + (c : Int)), .int .i64 (k + (c : Int) + 1), .string (mt (k + (c : Int) + 1 + 1))]) := ⟨Kd.At.store (e := (Kd.str 9)) A3.out kCell_f_name rfl (mt (k + (c : Int) + 1 + 1)) (.string (mt (k + (c : Int) + 1 + 1))) (fun _ _ => ⟨rfl, hz⟩)⟩; have F4 : Sec (Foot S w (w1.setCell ⟨b, i * 3 + 2, none⟩ (.string (mt (k + (c : Int) + 1 + 1))))) := ⟨F3.out.set (g := b) (.inl hSb) (i * 3 + 2) (.string (mt (k + (c : Int) + 1 + 1)))⟩; clear hz))
      go_roundw
      case rel => exact ⟨i + 1, by omega, by go_num, by rw [HN1.out, hcx.out]; congr 1; omega, ⟨by rw [← hnext.out]; exact A4.out.R⟩, F4⟩
      case measure => simp [intOf]; omega
    · have hfin : Sec (mCell.mks (t.take i) k ++ t.drop i = mCell.mks t k) := ⟨by rw [List.take_of_length_le (by omega), List.drop_of_length_le (by omega), List.append_nil]⟩
      have hM2 := hM.out
      rw [hfin.out] at hM2
      have HM2 := Sec.mk hM2
      have hi2 : Sec (k + ↑(mCell.cnts (t.take i)) = k + ↑(mCell.cnts t)) := ⟨by rw [List.take_of_length_le (by omega)]⟩
      clear hM2 hM hfin
      go_wp2
      go_ret
      exact ⟨ri hi2.out, HM2.out, hF.out⟩
set_option maxHeartbeats 1000000 in
theorem heldSCell_c (v : Value) (t : List Cell) (ok : Nat → Prop) (k : Int) (hk : 0 ≤ k) (hk2 : k + mCell.cnts t ≤ 1000000000000000000) (w : World) (hV : kCell.V w ok v (mCell.mks t k)) :
    Calls Tryz.prog 42 #[v, .int .i64 k] w fun e w' => e = .returned (.int .i64 (k + mCell.cnts t)) ∧ Below w.heap.size w w' := by
  obtain ⟨A, cp, rfl, g1, g2, g3, hC, _⟩ := hV
  rw [Mk.mks_len] at g1 g3
  rw [Mk.mks_len]
  have HC := Sec.mk hC
  have hu := Tryz.underlying77
  clear hC
  have HN := Sec.mk (mCell.cnts_take t)
  have HM := Sec.mk (mCell.cnts_le t)
  have HG := Sec.mk (mCell.get t k)
  have HLn := Sec.mk (mCell.mks_len t k)
  go_enter Tryz.func42, Tryz.ntmps42
  go_wp2
  go_loopw [1, 5] (fun kv iv wr => ∃ i : Nat, i ≤ t.length ∧ iv = .int .i64 i ∧ kv = .int .i64 (k + ↑(mCell.cnts (t.take i))) ∧ Sec (Below w.heap.size w wr)) (fun _ iv _ => t.length - (intOf iv).toNat)
  case atStart => exact ⟨0, Nat.zero_le _, rfl, by simp [Mk.cnts], ⟨Below.refl _ _⟩⟩
  case round =>
    obtain ⟨i, hi, rfl, rfl, hb⟩ := hrel
    by_cases hlt : i < t.length
    · obtain ⟨b, off, cs, rfl, hob, hK, hc⟩ := Kd.C_get HC.out (List.getElem?_eq_getElem (by rw [HLn.out]; exact hlt))
      rw [HG.out i hlt] at hK
      have hn1 := HN.out i hlt
      have hn2 := HM.out (i + 1)
      rw [hn1] at hn2
      have HN1 := Sec.mk hn1
      clear hn1
      generalize t[i] = x at *
      generalize mCell.cnts (t.take i) = c at *
      have hcx : Sec (mCell.cnt x = _) := ⟨mCell_cnt x⟩
      rw [mCell_cnt x] at hn2
      obtain ⟨rfl, -⟩ := kCell_K hK
      have hat : Sec (∀ W : World, Below w.heap.size w W → W.cell? ⟨b, off + i * 3, none⟩ = some (.int .i64 (k + (c : Int))) ∧ W.cell? ⟨b, off + i * 3 + 1, none⟩ = some (.int .i64 (k + (c : Int) + 1)) ∧ W.cell? ⟨b, off + i * 3 + 2, none⟩ = some (.string (mt (k + (c : Int) + 1 + 1)))) := ⟨fun W h => ⟨Raw.cell_below h (hc 0 _ rfl), Raw.cell_below h (hc 1 _ rfl), Raw.cell_below h (hc 2 _ rfl)⟩⟩
      have i0 : (0 : Int) ≤ (i : Int) := by omega
      have i1 : (i : Int) < (t.length : Int) := by omega
      clear hc hK
      obtain ⟨c0, c1, c2⟩ := hat.out _ hb.out
      have B0 := hb
      go_wp2
      go_region_held3 (fun W => W.cell? ⟨b, off + i * 3, none⟩ = some (.int .i64 (k + (c : Int))) ∧ W.cell? ⟨b, off + i * 3 + 1, none⟩ = some (.int .i64 (k + (c : Int) + 1)) ∧ W.cell? ⟨b, off + i * 3 + 2, none⟩ = some (.string (mt (k + (c : Int) + 1 + 1))))
          (first | (refine ⟨?_, ?_, ?_⟩ <;> assumption) | go_keep)
          (first | (go_at_call 56; refine (markText_c (k + (c : Int) + 1 + 1) (by omega) _).mono ?_; rintro e w1 ⟨rfl, hz, hb1⟩; have B1 := Sec.mk (bel (belD hb.out) hb1); clear c0 c1 c2; obtain ⟨c0, c1, c2⟩ := hat.out _ B1.out; clear hb1))
      all_goals
        go_wp2
        go_roundw
        case rel => exact ⟨i + 1, by omega, by go_num, by rw [HN1.out, hcx.out]; congr 1; omega, B1⟩
        case measure => simp [intOf]; omega
    · have hi2 : Sec (k + ↑(mCell.cnts (t.take i)) = k + ↑(mCell.cnts t)) := ⟨by rw [List.take_of_length_le (by omega)]⟩
      go_wp2
      go_ret
      exact ⟨ri hi2.out, hb.out⟩
end
section
open Go.RowKit
set_option linter.unusedVariables false
set_option maxRecDepth 100000
def kBind : Kd Bind := Kd.iso 110 (Kd.pair (Kd.int 3) (Kd.slice 30 kCell (by decide))) (fun x => (x.v, x.term))
theorem kBind_K {w : World} {ok : Nat → Prop} {x : Bind} {cs : List Value} (h : kBind.K w ok x cs) : ∃ v1, cs = [.int .i64 x.v, v1] ∧ kCell.V w ok v1 x.term := by
  obtain ⟨_, _, rfl, ⟨rfl, _⟩, ⟨v1, rfl, h1⟩⟩ := h
  exact ⟨v1, rfl, h1⟩
theorem Bind.ext_iff (a b : Bind) : a = b ↔ a.v = b.v ∧ a.term = b.term := by
  cases a; cases b; simp
instance : DecidableEq Bind := fun a b => decidable_of_iff _ (Bind.ext_iff a b).symm
def zeroBind : Bind := ⟨0, []⟩
def mBind : Mk Bind := ⟨fun x => 1 + mCell.cnts x.term, fun x k => ⟨k, mCell.mks x.term (k + 1)⟩⟩
def mBindt : Mk Bind := ⟨fun x => mCell.cnts x.term, fun x k => ⟨x.v, mCell.mks x.term (k)⟩⟩
end
section
open Go.RowKit Go.Shelf
set_option linter.unusedVariables false
set_option maxRecDepth 100000
attribute [local go_sem] Oper.semAt_some
theorem cnew (W : World) (v : Value) (t : TypeId) : (W.alloc (.cells #[v] t)).cell? ⟨W.heap.size, 0, none⟩ = some v ∧ (W.alloc (.cells #[v] t)).frozen? ⟨W.heap.size, 0, none⟩ = false := by
  have h := heap_alloc_new W (.cells #[v] t)
  exact ⟨by rw [cell_of_row _ _ _ _ _ _ h]; rfl, by unfold World.frozen?; simp only [h]; rfl⟩
theorem calloc {W : World} {a : Addr} {v : Value} (o : Obj) (h : W.cell? a = some v) : (W.alloc o).cell? a = some v := cell_kept h (World.grownBy_alloc W o none) (fun r e => by cases e)
theorem falloc {W : World} {a : Addr} {v : Value} (o : Obj) (h : W.cell? a = some v) (hf : W.frozen? a = false) : (W.alloc o).frozen? a = false := (frozen_kept h (World.grownBy_alloc W o none) (fun r e => by cases e)).trans hf
/-- The numbers below n from m on, the greatest first. -/
def dn (n m : Nat) : List Nat := (List.range (n - m)).map (fun j => n - 1 - j)
theorem dn_len (n m : Nat) : (dn n m).length = n - m := by simp [dn]
theorem dn_succ {n m : Nat} (h : m < n) : dn n (m + 1) ++ [m] = dn n m := by
  unfold dn
  rw [show n - m = (n - (m + 1)) + 1 by omega, List.range_succ, List.map_append, List.map_singleton, show n - 1 - (n - (m + 1)) = m by omega]
theorem mem_dn {n m j : Nat} : j ∈ dn n m ↔ m ≤ j ∧ j < n := by
  unfold dn
  rw [List.mem_map]
  constructor
  · rintro ⟨i, hi, rfl⟩
    have := List.mem_range.1 hi
    omega
  · rintro ⟨h1, h2⟩
    exact ⟨n - 1 - j, List.mem_range.2 (by omega), by omega⟩
/-- A row of bindings as it lies: numbers, and slices. -/
structure BRow where
  v : Nat → Int
  a : Nat → Option Addr
  n : Nat → Nat
  c : Nat → Nat
def BRow.enc (r : BRow) (i : Nat) : Array Value := #[.int .i64 (i : Int), .agg #[.int .i64 (r.v i), .slice (r.a i) (r.n i) (r.c i)]]
def BRow.At (r : BRow) (W : World) (b off len : Nat) : Prop := ∀ j, j < len → W.cell? ⟨b, off + j * 2, none⟩ = some (.int .i64 (r.v j)) ∧ W.cell? ⟨b, off + j * 2 + 1, none⟩ = some (.slice (r.a j) (r.n j) (r.c j))
set_option maxHeartbeats 1000000 in
theorem back1_in (F : Fence) (n : Nat) (hF : F.fn 106) (hro : F.round = none) (hn : 1 ≤ n) (l Bs n₀ b off len cap : Nat) (r : BRow) (hl : len ≤ 1073741824) (hb : b < n₀) (J Jx : List Nat → World → Prop)
    (hY : ∀ pre x W, J pre W → pre.length < len → YieldAt F (n - 1) Tryz.prog l (r.enc x) W fun e W' =>
      (e = .returned (.bool true) ∧ J (pre ++ [x]) W' ∧ Below n₀ W W') ∨ (e = .returned (.bool false) ∧ Jx (pre ++ [x]) W'))
    (W : World) (hBs : W.cell? ⟨Bs, 0, none⟩ = some (.slice (some ⟨b, off, none⟩) len cap)) (hBn : Bs < n₀) (hc : r.At W b off len) (h0 : J [] W) :
    CallsIn F n Tryz.prog 106 #[.func (.yield l) #[] #[], .pointer (some ⟨Bs, 0, none⟩)] W fun e W' => (∃ v, e = .returned v) ∧
      ((∃ ys, ys = dn len 0 ∧ J ys W') ∨ (∃ pre, (∃ k, k < len ∧ pre = dn len k) ∧ Jx pre W')) := by
  have hu := Tryz.underlying110
  have hsz : Sec (∀ k, (dn len k).length = len - k) := ⟨dn_len len⟩
  have i0 : (0 : Int) ≤ (len : Int) := by omega
  have hR := Sec.mk hc
  have hYS := Sec.mk hY
  clear hc hY
  refine callsIn_of_wp Tryz.func106 rfl hF ?_ hro
  simp only [Tryz.ntmps106, List.size_toArray, List.length_cons, List.length_nil, Nat.reduceAdd, Nat.reduceSub, Array.replicate_succ, Array.replicate_zero, List.push_toArray, List.append_toArray, List.nil_append, List.cons_append]
  gi_wp2
  gi_loopw [3] (fun i wr => ∃ (m : Nat) (i0 : Int), m ≤ len ∧ i = .int .i64 i0 ∧ i0 = (m : Int) - 1 ∧ J (dn len m) wr ∧ Below n₀ W wr)
    (fun i _ => (intOf i + 1).toNat)
  case atStart => exact ⟨len, _, Nat.le_refl _, rfl, rfl, by simpa [dn] using h0, Below.refl _ _⟩
  case round =>
    obtain ⟨m, i0, hm, rfl, hi, hJs, hnx⟩ := hrel
    cases m with
    | zero =>
      have hn0 : i0 < 0 := by omega
      have hn1 : -1 ≤ i0 := by omega
      have hn2 : decide (i0 ≥ 0) = false := decide_eq_false (by omega)
      clear hi
      gi_wp2
      go_end0
      exact ⟨⟨_, rfl⟩, .inl ⟨_, rfl, hJs⟩⟩
    | succ m =>
      obtain rfl : i0 = (m : Int) := by omega
      obtain ⟨c0, c1⟩ := hR.out m (by omega)
      have d0 := (hnx.cell (p := ⟨b, off + m * 2, none⟩) hb).trans c0
      have d1 := (hnx.cell (p := ⟨b, off + m * 2 + 1, none⟩) hb).trans c1
      have hBs' := (hnx.cell (p := ⟨Bs, 0, none⟩) hBn).trans hBs
      obtain ⟨fn, tmps, assign, body, hy, hRd⟩ := hYS.out _ m wr hJs (by rw [dn_len]; omega)
      simp only [BRow.enc] at hy
      have j0 : (0 : Int) ≤ (m : Int) := by omega
      have j1 : (m : Int) < (len : Int) := by omega
      have hd := Sec.mk (dn_succ (n := len) (m := m) (by omega))
      clear hBs c0 c1 hi
      gi_wp2
      refine hRd.mono ?_
      rintro e W3 (⟨rfl, hJ3, hk3⟩ | ⟨rfl, hJx3⟩)
      · gi_wp2
        go_roundw
        case rel => exact ⟨m, _, by omega, rfl, by omega, by rw [← hd.out]; exact hJ3, hnx.trans hk3⟩
        case measure => simp [intOf]
      · gi_wp2
        refine bodyPost_ret (results_none rfl _ _ _) rfl ?_
        exact ⟨⟨_, rfl⟩, .inr ⟨_, ⟨m, by omega, hd.out⟩, hJx3⟩⟩
theorem back1_nil_in (F : Fence) (n : Nat) (hF : F.fn 106) (hro : F.round = none) (l Bs : Nat) (A : Option Addr) (c : Nat) (J : List Nat → World → Prop) (W : World) (hBs : W.cell? ⟨Bs, 0, none⟩ = some (.slice A 0 c)) (h0 : J [] W) :
    CallsIn F n Tryz.prog 106 #[.func (.yield l) #[] #[], .pointer (some ⟨Bs, 0, none⟩)] W fun e W' => (∃ v, e = .returned v) ∧ J [] W' := by
  refine callsIn_of_wp Tryz.func106 rfl hF ?_ hro
  simp only [Tryz.ntmps106, List.size_toArray, List.length_cons, List.length_nil, Nat.reduceAdd, Nat.reduceSub, Array.replicate_succ, Array.replicate_zero, List.push_toArray, List.append_toArray, List.nil_append, List.cons_append]
  gi_wp2
  gi_loopw [3] (fun i wr => (∃ i0 : Int, i = .int .i64 i0 ∧ i0 = -1) ∧ J [] wr) (fun _ _ => 0)
  case atStart => exact ⟨⟨_, rfl, rfl⟩, h0⟩
  case round =>
    obtain ⟨⟨i0, rfl, hi⟩, hJs⟩ := hrel
    have hn0 : i0 < 0 := by omega
    have hn1 : -1 ≤ i0 := by omega
    have hn2 : decide (i0 ≥ 0) = false := decide_eq_false (by omega)
    clear hi
    gi_wp2
    go_end0
    exact ⟨⟨_, rfl⟩, hJs⟩
theorem back_in (F : Fence) (n : Nat) (hF : F.fn 98) (hro : F.round = none) (a : Option Addr) (len cap : Nat) (w : World) :
    CallsIn F n Tryz.prog 98 #[.slice a len cap] w fun e w' => e = .returned (.func (.func 106) #[] #[.pointer (some ⟨w.heap.size, 0, none⟩)]) ∧ w' = w.alloc (.cells #[.slice a len cap] 90) := by
  refine callsIn_of_wp Tryz.func98 rfl hF ?_ hro
  simp only [Tryz.ntmps98, List.size_toArray, List.length_cons, List.length_nil, Nat.reduceAdd, Nat.reduceSub, Array.replicate_succ, Array.replicate_zero, List.push_toArray, List.append_toArray, List.nil_append, List.cons_append]
  gi_wp2
  go_ret
  exact ⟨rfl, rfl⟩
theorem back_stops (F : Fence) (n : Nat) (hF : F.fn 106) (hro : F.round = none) (hn : 1 ≤ n) (Bs n₀ : Nat) (A : Option Addr) (len cap : Nat) (r : BRow) (hl : len ≤ 1073741824) (w : World) (hBs : Bs < n₀) (hn₀ : n₀ ≤ w.heap.size)
    (hc : w.cell? ⟨Bs, 0, none⟩ = some (.slice A len cap)) (hI : len = 0 ∨ ∃ b off, A = some ⟨b, off, none⟩ ∧ b < n₀ ∧ r.At w b off len) :
    SeqStopsK F n Tryz.prog 106 #[.pointer (some ⟨Bs, 0, none⟩)] r.enc (Below n₀) (fun ys => ys = dn len 0)
      (fun pre => ∃ k, k < len ∧ pre = dn len k) len w := fun l J Jx W hW _ _ hY h0 => by
  have hW' := hW.mono hn₀
  have hc' := (hW'.cell (p := ⟨Bs, 0, none⟩) hBs).trans hc
  rcases hI with rfl | ⟨b, off, rfl, hb, hat⟩
  · exact (back1_nil_in F n hF hro l Bs A cap J W hc' h0).mono fun e W' ⟨he, hj⟩ => ⟨he, .inl ⟨[], rfl, hj⟩⟩
  · exact back1_in F n hF hro hn l Bs n₀ b off len cap r hl hb J Jx hY W hc' hBs (fun j hj => ⟨(hW'.cell (p := ⟨b, _, none⟩) hb).trans (hat j hj).1, (hW'.cell (p := ⟨b, _, none⟩) hb).trans (hat j hj).2⟩) h0
set_option maxHeartbeats 2000000 in
theorem get_in (F : Fence) (n : Nat) (h1f : F.fn 95) (h2f : F.fn 98) (h3f : F.fn 106) (hro : F.round = none) (hn : 3 ≤ n) (r : BRow) (A : Option Addr) (len cap : Nat) (v : Int) (hl : len ≤ 1073741824) (w : World)
    (hI : len = 0 ∨ ∃ b off, A = some ⟨b, off, none⟩ ∧ b < w.heap.size ∧ r.At w b off len) :
    CallsIn F n Tryz.prog 95 #[.slice A len cap, .int .i64 v] w fun e W' =>
      ((e = .returned (.slice none 0 0) ∧ ∀ j, j < len → r.v j ≠ v) ∨ (∃ k, k < len ∧ e = .returned (.slice (r.a k) (r.n k) (r.c k)) ∧ r.v k = v)) ∧ Below w.heap.size w W' := by
  have h1 : 1 ≤ n := by omega
  have hu := Tryz.underlying110
  have HI := Sec.mk hI
  clear hI
  refine callsIn_of_wp_marks Tryz.func95 rfl h1f ?_ hro
  simp only [Tryz.ntmps95, List.size_toArray, List.length_cons, List.length_nil, Nat.reduceAdd, Nat.reduceSub, Array.replicate_succ, Array.replicate_zero, List.push_toArray, List.append_toArray, List.nil_append, List.cons_append]
  gi_wp2_with (gi_at_call 98; refine (back_in F (n - 1) h2f hro _ _ _ _).mono ?_; rintro e w' ⟨rfl, rfl⟩)
  have c0 := cnew w (.int .i64 v) 3
  have c1 := cnew (w.alloc (.cells #[.int .i64 v] 3)) (.slice none 0 0) 30
  have c2 := cnew ((w.alloc (.cells #[.int .i64 v] 3)).alloc (.cells #[.slice none 0 0] 30)) (.slice A len cap) 90
  simp only [World.size_alloc] at c1 c2
  have hB0 : Below w.heap.size w (((w.alloc (.cells #[.int .i64 v] 3)).alloc (.cells #[.slice none 0 0] 30)).alloc (.cells #[.slice A len cap] 90)) := (((Below.refl _ w).alloc (Nat.le_refl _) _).alloc (by simp) _).alloc (by simp; omega) _
  have k0 := calloc (.cells #[.slice A len cap] 90) (calloc (.cells #[.slice none 0 0] 30) c0.1)
  have k1 := calloc (.cells #[.slice A len cap] 90) c1.1
  have k2 := falloc (.cells #[.slice A len cap] 90) c1.1 c1.2
  have k3 := c2.1
  have hsz : (((w.alloc (.cells #[.int .i64 v] 3)).alloc (.cells #[.slice none 0 0] 30)).alloc (.cells #[.slice A len cap] 90)).heap.size = w.heap.size + 3 := by simp
  obtain ⟨W0, hW0⟩ : ∃ W0, ((w.alloc (.cells #[.int .i64 v] 3)).alloc (.cells #[.slice none 0 0] 30)).alloc (.cells #[.slice A len cap] 90) = W0 := ⟨_, rfl⟩
  rw [hW0] at hB0 k0 k1 k2 k3 hsz ⊢
  clear c0 c1 c2 hW0
  have HI2 : Sec (len = 0 ∨ ∃ b off, A = some ⟨b, off, none⟩ ∧ b < W0.heap.size ∧ r.At W0 b off len) := ⟨HI.out.imp id (fun ⟨b, off, e, hb, hat⟩ => ⟨b, off, e, by omega, fun j hj => ⟨(hB0.cell (p := ⟨b, _, none⟩) hb).trans (hat j hj).1, (hB0.cell (p := ⟨b, _, none⟩) hb).trans (hat j hj).2⟩⟩)⟩
  refine wpIn_rangeFunc_ownH hro h1 (gf := 106) (lb := #[.pointer (some ⟨w.heap.size + 1 + 1, 0, none⟩)]) rfl h3f (enters_of Tryz.func106 (by kernel_rfl) rfl)
    (back_stops F (n - 1) h3f hro (by omega) (w.heap.size + 1 + 1) W0.heap.size A len cap r hl W0 (by omega) (Nat.le_refl _) k3 HI2.out) belowK_t (belowK_b (Nat.le_refl _)) (Below.refl _ _) (fun _ => rfl)
    (fun pre W => ((∀ j ∈ pre, r.v j ≠ v) ∧ W.cell? ⟨w.heap.size, 0, none⟩ = some (.int .i64 v) ∧ W.cell? ⟨w.heap.size + 1, 0, none⟩ = some (.slice none 0 0) ∧ W.frozen? ⟨w.heap.size + 1, 0, none⟩ = false ∧ W0.heap.size ≤ W.heap.size) ∧ Below w.heap.size w W)
    (fun c pre W => (c = .ret ∧ ∃ ini last, pre = ini ++ [last] ∧ r.v last = v ∧ W.cell? ⟨w.heap.size + 1, 0, none⟩ = some (.slice (r.a last) (r.n last) (r.c last))) ∧ Below w.heap.size w W)
    (OwnFrom.and (Own.from (fun s A B row hs hg hr => ⟨hs.1, cell_kept hs.2.1 hg hr, cell_kept hs.2.2.1 hg hr, (frozen_kept hs.2.2.1 hg hr).trans hs.2.2.2.1, Nat.le_trans hs.2.2.2.2 hg.size⟩) _) (ownFrom_below (Nat.le_refl _) (by omega)))
    (fun c => OwnFrom.and (Own.from (fun s A B row hs hg hr => by obtain ⟨hc, ini, last, e1, e2, e3⟩ := hs; exact ⟨hc, ini, last, e1, e2, cell_kept e3 hg hr⟩) _) (ownFrom_below (Nat.le_refl _) (by omega)))
    ⟨⟨by simp, k0, k1, k2, Nat.le_refl _⟩, hB0⟩
    (fun x a' W => ∃ Bx, w.heap.size + 2 < Bx ∧ W.cell? ⟨Bx, 0, none⟩ = some (.int .i64 (r.v x)) ∧ W.cell? ⟨Bx, 1, none⟩ = some (.slice (r.a x) (r.n x) (r.c x)) ∧ a' = { tmps := #[.slice A len cap, .int .i64 v, undef, .pointer (some ⟨w.heap.size, 0, none⟩), .pointer (some ⟨w.heap.size + 1, 0, none⟩), undef, .pointer (some ⟨Bx, 0, none⟩), .slice A len cap, .func (.func 106) #[] #[.pointer (some ⟨w.heap.size + 1 + 1, 0, none⟩)], .int .i64 (x : Int), .agg #[.int .i64 (r.v x), .slice (r.a x) (r.n x) (r.c x)], undef, undef, undef, undef, undef, undef], defers := [] })
    (fun x a' => Own.from (fun _ X Y row hs hg hr => by obtain ⟨Bx, h1, h2, h3, h4⟩ := hs; exact ⟨Bx, h1, cell_kept h2 hg hr, cell_kept h3 hg hr, h4⟩) _)
    ?assign ?body ?done ?stop
  case assign =>
    rintro l pre x W K ⟨⟨hp, hcv, hcr, hfr, hzz⟩, hB1⟩ hK
    unfold BRow.enc
    gi_wp2
    have hnb := heap_alloc_new W (.cells #[.int .i64 (r.v x), .slice (r.a x) (r.n x) (r.c x)] 110)
    exact hK _ _ ((KeepsOthers.alloc _ _).from _) ((Below.refl _ W).alloc hzz _) ⟨⟨hp, calloc _ hcv, calloc _ hcr, falloc _ hcr hfr, by simp; omega⟩, hB1.alloc hB1.size _⟩ ⟨W.heap.size, by omega, by rw [cell_of_row _ _ _ _ _ _ hnb]; rfl, by rw [cell_of_row _ _ _ _ _ _ hnb]; rfl, rfl⟩
  case body =>
    rintro l pre x a' W hl ⟨rr, hr⟩ ⟨⟨hp, hcv, hcr, hfr, hzz⟩, hB⟩ ⟨Bx, hBx, cx0, cx1, rfl⟩ hlt
    gi_wp2
    · have hx : (r.v x == v) = true := by assumption
      exact ⟨(KeepsOthers.setCell _ _ _).from _, ⟨rfl, pre, x, rfl, eq_of_beq hx, World.cell?_setCell_same' _ _ _ (by rw [hcr]; rfl)⟩, hB.setCell (p := ⟨w.heap.size + 1, 0, none⟩) (by simp) _⟩
    · have hx : (r.v x == v) = false := by assumption
      exact ⟨KeepsFrom.refl _ _, Below.refl _ _, ⟨fun j hj => (List.mem_append.1 hj).elim (hp j) (fun e e' => by simp at e; subst e; rw [e'] at hx; simp at hx), hcv, hcr, hfr, hzz⟩, hB⟩
  case done =>
    rintro D ys W hD rfl ⟨⟨hp, hcv, hcr, hfr, hzz⟩, hB⟩ hK
    have hp2 := Sec.mk hp
    clear hp
    gi_wp2
    have hK' := (KeepsOthers.setCell W ⟨w.heap.size + 1, 0, none⟩ (.slice none 0 0)).same D _ hK rfl
    refine ⟨by simp, .inl ⟨_, _, rfl, run_takeDeferred hK', ?_⟩⟩
    have hc5 := cell_kept (World.cell?_setCell_same' W ⟨w.heap.size + 1, 0, none⟩ (.slice none 0 0) (by rw [hcr]; rfl)) (grownBy_putObj' _ D (.deferred none)) (fun r e => by cases e; exact ⟨_, hK', rfl⟩)
    refine ⟨.slice none 0 0, ?_, .inl ⟨rfl, fun j hj => hp2.out j (mem_dn.2 ⟨Nat.zero_le _, hj⟩)⟩, (hB.setCell (p := ⟨w.heap.size + 1, 0, none⟩) (by simp) _).trans (belowK_b (w := w) (Nat.le_refl _) _ D _ _ (by omega) hK' rfl rfl)⟩
    simp [results, Tryz.f95, go_sem, hc5]
  case stop =>
    rintro D c pre W hD ⟨k, hk, rfl⟩ ⟨⟨rfl, ini, last, e1, e2, hcr⟩, hB⟩ hK
    have hlast : last = k := by
      rw [← dn_succ hk] at e1
      exact ((List.append_inj' e1 rfl).2 |> List.cons.inj |>.1).symm
    subst hlast
    have E2 := Sec.mk e2
    clear e1 e2
    gi_wp2
    refine ⟨by simp, .inl ⟨_, _, rfl, run_takeDeferred hK, ?_⟩⟩
    have hc5 := cell_kept hcr (grownBy_putObj' _ D (.deferred none)) (fun r e => by cases e; exact ⟨_, hK, rfl⟩)
    refine ⟨.slice (r.a last) (r.n last) (r.c last), ?_, .inr ⟨last, hk, rfl, E2.out⟩, hB.trans (belowK_b (w := w) (Nat.le_refl _) W D _ _ (by omega) hK rfl rfl)⟩
    simp [results, Tryz.f95, go_sem, hc5]
/-- A row of bindings, read: its own block satisfies okR; what its terms read satisfies okE. -/
def BV2 (w : World) (okR okE : Nat → Prop) (v : Value) (s : List Bind) : Prop := ∃ A c, v = .slice A s.length c ∧ s.length ≤ c ∧ c ≤ maxLen ∧ s.length ≤ 1073741824 ∧ (s = [] ∨ ∃ b off, A = some ⟨b, off, none⟩ ∧ okR b ∧ kBind.E w okE s (fun j => w.cell? ⟨b, off + j, none⟩))
theorem E_move2 {w w1 : World} {ok ok1 : Nat → Prop} {b off : Nat} {s : List Bind} (hk : Keeps w w1 ok ok1) (hb : b < w.heap.size → w1.heap[b]? = w.heap[b]?) (h : kBind.E w ok s (fun j => w.cell? ⟨b, off + j, none⟩)) : kBind.E w1 ok1 s (fun j => w1.cell? ⟨b, off + j, none⟩) := by
  intro i x hx
  obtain ⟨cs, h1, h2⟩ := h i x hx
  refine ⟨cs, kBind.K_move hk h1, fun j u hu => ?_⟩
  have h3 := h2 j u hu
  have hl := World.block_lt_of_cell? w _ h3
  exact (World.cell?_of_block (w := w) (w' := w1) (hb hl)).trans h3
theorem BV2.lt {w : World} {okE : Nat → Prop} {s : List Bind} {b off : Nat} (h : kBind.E w okE s (fun j => w.cell? ⟨b, off + j, none⟩)) (hs : s ≠ []) : b < w.heap.size := by
  cases s with
  | nil => exact absurd rfl hs
  | cons x r =>
    obtain ⟨cs, h1, h2⟩ := h 0 x rfl
    have hl := kBind.K_len h1
    have hl2 : 0 < cs.length := by rw [hl]; decide
    exact World.block_lt_of_cell? w _ (h2 0 (cs[0]'hl2) (List.getElem?_eq_getElem hl2))
theorem BV2.move {w w1 : World} {okR okE okR1 okE1 : Nat → Prop} {v : Value} {s : List Bind} (h : BV2 w okR okE v s) (hR : Keeps w w1 okR okR1) (hE : Keeps w w1 okE okE1) : BV2 w1 okR1 okE1 v s := by
  obtain ⟨A, c, h1, h2, h3, h4, h5⟩ := h
  refine ⟨A, c, h1, h2, h3, h4, ?_⟩
  by_cases hs : s = []
  · exact .inl hs
  · rcases h5 with h5 | ⟨b, off, hA, hb, hh⟩
    · exact .inl h5
    · have hl := BV2.lt hh hs
      exact .inr ⟨b, off, hA, (hR b hb hl).1, E_move2 hE (fun _ => (hR b hb hl).2) hh⟩
theorem BV2.below {w w1 : World} {okR okE : Nat → Prop} {v : Value} {s : List Bind} (h : BV2 w okR okE v s) (hb : Below w.heap.size w w1) : BV2 w1 okR okE v s := h.move (Keeps.below hb _) (Keeps.below hb _)
theorem BV2.mono {w : World} {okR okE okR1 okE1 : Nat → Prop} {v : Value} {s : List Bind} (h : BV2 w okR okE v s) (hR : ∀ k, okR k → k < w.heap.size → okR1 k) (hE : ∀ k, okE k → k < w.heap.size → okE1 k) : BV2 w okR1 okE1 v s := h.move (Keeps.mono hR) (Keeps.mono hE)
theorem BV2.form {w : World} {okR okE : Nat → Prop} {v : Value} {s : List Bind} (h : BV2 w okR okE v s) : ∃ A c, v = .slice A s.length c := by
  obtain ⟨A, c, h1, _⟩ := h
  exact ⟨A, c, h1⟩
theorem bind_cells {w : World} {okE : Nat → Prop} {A : Option Addr} {s : List Bind} (hC : s = [] ∨ ∃ b off, A = some ⟨b, off, none⟩ ∧ kBind.E w okE s (fun j => w.cell? ⟨b, off + j, none⟩)) : ∃ r : BRow, (∀ i (h : i < s.length), r.v i = s[i].v ∧ kCell.V w okE (.slice (r.a i) (r.n i) (r.c i)) s[i].term) ∧ (s.length = 0 ∨ ∃ b off, A = some ⟨b, off, none⟩ ∧ b < w.heap.size ∧ r.At w b off s.length) := by
  by_cases hs : s = []
  · subst hs
    exact ⟨⟨fun _ => 0, fun _ => none, fun _ => 0, fun _ => 0⟩, fun i h => absurd h (Nat.not_lt_zero _), .inl rfl⟩
  obtain ⟨b, off, hA, hE⟩ := hC.resolve_left hs
  have h : ∀ i, ∃ x : Option Addr × Nat × Nat, ∀ h : i < s.length, kCell.V w okE (.slice x.1 x.2.1 x.2.2) s[i].term ∧ w.cell? ⟨b, off + i * 2, none⟩ = some (.int .i64 s[i].v) ∧ w.cell? ⟨b, off + i * 2 + 1, none⟩ = some (.slice x.1 x.2.1 x.2.2) := by
    intro i
    by_cases hi : i < s.length
    · obtain ⟨cs, hK, hc⟩ := hE i s[i] (List.getElem?_eq_getElem hi)
      obtain ⟨v1, rfl, hv⟩ := kBind_K hK
      have hv1 := hv
      obtain ⟨A1, c1, rfl, _⟩ := hv
      exact ⟨(A1, s[i].term.length, c1), fun _ => ⟨hv1, hc 0 _ rfl, hc 1 _ rfl⟩⟩
    · exact ⟨(none, 0, 0), fun h => absurd h hi⟩
  obtain ⟨f, hf⟩ := Classical.skolem.1 h
  refine ⟨⟨fun i => (s[i]?.map (·.v)).getD 0, fun i => (f i).1, fun i => (f i).2.1, fun i => (f i).2.2⟩, fun i hi => ⟨by simp [hi], (hf i hi).1⟩, .inr ⟨b, off, hA, BV2.lt hE hs, fun j hj => ?_⟩⟩
  have := (hf j hj).2
  refine ⟨?_, this.2⟩
  rw [this.1]
  show some (Value.int .i64 s[j].v) = some (.int .i64 ((s[j]?.map (·.v)).getD 0))
  rw [List.getElem?_eq_getElem hj]; rfl
theorem get_i (val : Value) (s : List Bind) (v : Int) (okR okE : Nat → Prop) (w : World) (hV : BV2 w okR okE val s) (hs : Nd s) :
    Calls Tryz.prog 95 #[val, .int .i64 v] w fun e w' => ((e = .returned (.slice none 0 0) ∧ bget s v = none) ∨ ∃ u t, e = .returned u ∧ bget s v = some t ∧ kCell.V w' okE u t) ∧ Below w.heap.size w w' := by
  obtain ⟨A, c, rfl, h1, h2, h3, hC⟩ := hV
  obtain ⟨r, hr, hI⟩ := bind_cells (hC.imp id (fun ⟨b, off, e, _, h⟩ => ⟨b, off, e, h⟩))
  refine (callsIn_wide (n := 3)).1 ((get_in Fence.wide 3 trivial trivial trivial rfl (Nat.le_refl _) r A s.length c v h3 w hI).mono ?_)
  rintro e w' ⟨h | ⟨k, hk, rfl, hv⟩, hb⟩
  · obtain ⟨rfl, hno⟩ := h
    refine ⟨.inl ⟨rfl, bget_none.2 (fun ⟨b, hb, e⟩ => ?_)⟩, hb⟩
    obtain ⟨i, hi, rfl⟩ := List.mem_iff_getElem.1 hb
    exact hno i hi ((hr i hi).1.trans e)
  · refine ⟨.inr ⟨_, s[k].term, rfl, ?_, Kd.V_below (hr k hk).2 hb (by decide)⟩, hb⟩
    rw [← hv, (hr k hk).1]
    exact bget_at hs hk
theorem get_none_i (val : Value) (s : List Bind) (v : Int) (okR okE : Nat → Prop) (w : World) (hV : BV2 w okR okE val s) (hs : BOk s) (hg : bget s v = none) :
    Calls Tryz.prog 95 #[val, .int .i64 v] w fun e w' => e = .returned (.slice none 0 0) ∧ Below w.heap.size w w' :=
  (get_i val s v okR okE w hV hs.tri.nd).mono fun e w' ⟨h, hb⟩ => by
    rcases h with ⟨h, _⟩ | ⟨u, t, _, h, _⟩
    · exact ⟨h, hb⟩
    · rw [hg] at h; cases h
theorem get_some_i (val : Value) (s : List Bind) (v : Int) (t : Term) (okR okE : Nat → Prop) (w : World) (hV : BV2 w okR okE val s) (hs : BOk s) (hg : bget s v = some t) :
    Calls Tryz.prog 95 #[val, .int .i64 v] w fun e w' => ∃ u, e = .returned u ∧ kCell.V w' okE u t ∧ Below w.heap.size w w' :=
  (get_i val s v okR okE w hV hs.tri.nd).mono fun e w' ⟨h, hb⟩ => by
    rcases h with ⟨_, h⟩ | ⟨u, t1, h1, h, h2⟩
    · rw [hg] at h; cases h
    · rw [hg] at h; cases h
      exact ⟨u, h1, h2, hb⟩
end
section
open Go.RowKit
set_option linter.unusedVariables false
set_option maxRecDepth 100000
theorem cV_cons {w : World} {ok : Nat → Prop} {v : Value} {c : Cell} {r : Term} (h : kCell.V w ok v (c :: r)) : ∃ b off cp, v = .slice (some ⟨b, off, none⟩) (r.length + 1) cp ∧ r.length + 1 ≤ cp ∧ w.cell? ⟨b, off, none⟩ = some (.int .i64 c.kind) ∧ w.cell? ⟨b, off + 1, none⟩ = some (.int .i64 c.n) ∧ w.cell? ⟨b, off + 2, none⟩ = some (.string c.name) := by
  obtain ⟨A, cp, rfl, h1, h2, h3, hC, -⟩ := h
  obtain ⟨b, off, rfl, -, c0, c1, c2, -⟩ := cell_at hC 0 (by simp)
  simp only [List.getElem_cons_zero, Nat.zero_mul, Nat.add_zero] at c0 c1 c2
  exact ⟨b, off, cp, rfl, h1, c0, c1, c2⟩
set_option maxHeartbeats 1000000 in
theorem walk_i (n : Nat) (val v : Value) (s : List Bind) (t u : Term) (okR ok : Nat → Prop) (w : World) (hs : BOk s) (hV : BV2 w okR ok val s) (hT : kCell.V w ok v t) (ht : trmOk t = true) (h : walkF s n t = some u) :
    Calls Tryz.prog 85 #[val, v] w fun e w' => ∃ z, e = .returned z ∧ kCell.V w' ok z u ∧ Below w.heap.size w w' := by
  have HV := Sec.mk hV
  have HS := Sec.mk hs
  have hq := fun (w : World) (a : Option Addr) (n c : Nat) => Lib.run_eql_slice_nil (P := Tryz.prog) w 30 77 a n c 0 0 Tryz.underlying30
  have H0 : Sec (kCell.V w ok v t ∧ trmOk t = true ∧ walkF s n t = some u) := ⟨hT, ht, h⟩
  obtain ⟨Ab, cb, rfl⟩ := hV.form
  obtain ⟨At, ct, rfl, -⟩ := hT
  clear hs h ht hV
  go_enter Tryz.func85, Tryz.ntmps85
  go_wp2
  go_loopg [1] n (fun g tv wr => Sec (∃ t1, kCell.V wr ok tv t1 ∧ trmOk t1 = true ∧ walkF s g t1 = some u) ∧ Sec (Below w.heap.size w wr))
  case atStart => exact ⟨⟨t, H0.out⟩, ⟨Below.refl _ _⟩⟩
  case round =>
    obtain ⟨hr, hb⟩ := hrel
    obtain ⟨t1, h1, h2, h3⟩ := hr.out
    cases t1 with
    | nil => exact absurd (trmOk_len h2).1 (by simp)
    | cons c r =>
    cases gk with
    | zero => cases h3
    | succ g =>
    obtain ⟨b, off, cp, rfl, i0, c0, c1, c2⟩ := cV_cons h1
    have T1 := Sec.mk h1
    have i1 : (0 : Int) < ((r.length + 1 : Nat) : Int) := by omega
    rw [walkF] at h3
    clear hr h1
    by_cases hk : c.kind = 1
    · rw [if_pos hk] at h3
      have d1 : (c.kind == 1) = true := beq_iff_eq.2 hk
      clear hk
      cases hg : bget s c.n with
      | none =>
        rw [hg] at h3
        cases h3
        have HG := Sec.mk hg
        clear hg
        go_wp2_with (go_at_call 95; refine (get_none_i _ s c.n okR ok _ (HV.out.below hb.out) HS.out HG.out).mono ?_; rintro e w2 ⟨rfl, hb2⟩; have B2 := Sec.mk (bel hb.out hb2); have T2 := Sec.mk (Kd.V_below T1.out hb2 (by decide)); clear hb2 c0 c1 c2)
        go_ret
        exact ⟨_, rfl, T2.out, B2.out⟩
      | some t2 =>
        rw [hg] at h3
        have HG := Sec.mk hg
        have HW := Sec.mk h3
        have ht2 := HS.out.get hg
        obtain ⟨c9, r9, h9⟩ : ∃ c9 r9, t2 = c9 :: r9 := by
          cases t2 with
          | nil => exact absurd (trmOk_len ht2).1 (by simp)
          | cons c9 r9 => exact ⟨c9, r9, rfl⟩
        have H9 := Sec.mk h9
        clear hg h3 h9
        go_wp2_with (go_at_call 95; refine (get_some_i _ s c.n t2 okR ok _ (HV.out.below hb.out) HS.out HG.out).mono ?_; rintro e w2 ⟨z, rfl, hz, hb2⟩; have B2 := Sec.mk (bel hb.out hb2); have T2 := Sec.mk hz; rw [H9.out] at hz; obtain ⟨b9, off9, cp9, rfl, -⟩ := cV_cons hz; clear hb2 hz c0 c1 c2)
        go_roundg g
        case rel => exact ⟨⟨t2, T2.out, ht2, HW.out⟩, B2⟩
        case measure => exact Nat.lt_succ_self _
    · rw [if_neg hk] at h3
      have d1 : (c.kind == 1) = false := beq_eq_false_iff_ne.2 hk
      cases h3
      clear hk
      go_wp2
      go_ret
      exact ⟨_, rfl, T1.out, hb.out⟩
end
section
open Go.RowKit
set_option linter.unusedVariables false
set_option maxRecDepth 100000
theorem foldl_mem (t : Term) : ∀ (out : List Int) (y : Int), y ∈ t.foldl freeStep out ↔ y ∈ out ∨ vin y t := by
  induction t with
  | nil => intro out y; simp [vin]
  | cons c r ih =>
    intro out y
    rw [List.foldl_cons, ih]
    have h : y ∈ freeStep out c ↔ y ∈ out ∨ (c.kind = 1 ∧ c.n = y) := by
      unfold freeStep
      split
      · rename_i h
        rw [List.mem_append, List.mem_singleton]
        exact ⟨fun h1 => h1.imp id (fun e => ⟨h.1, e.symm⟩), fun h1 => h1.imp id (fun e => e.2.symm)⟩
      · rename_i h
        refine ⟨.inl, fun h1 => h1.elim id (fun e => ?_)⟩
        exact Classical.byContradiction (fun h2 => h ⟨e.1, by rw [e.2]; exact h2⟩)
    rw [h]
    constructor
    · rintro ((h1 | ⟨h1, h2⟩) | ⟨d, hd, h1⟩)
      · exact .inl h1
      · exact .inr ⟨c, List.mem_cons_self, h1, h2⟩
      · exact .inr ⟨d, List.mem_cons_of_mem _ hd, h1⟩
    · rintro (h1 | ⟨d, hd, h1⟩)
      · exact .inl (.inl h1)
      · rcases List.mem_cons.1 hd with rfl | hd
        · exact .inl (.inr h1)
        · exact .inr ⟨d, hd, h1⟩
theorem mem_free {t : Term} {y : Int} : y ∈ free t ↔ vin y t := by
  unfold free
  rw [foldl_mem]; simp
/-- How many variables are in a set. -/
def cntS (f : Int → Bool) : Nat := allV.countP f
def updS (f : Int → Bool) (v : Int) : Int → Bool := fun y => if y = v then true else f y
theorem allV_len : allV.length = 100000 := by unfold allV; rw [List.length_map, List.length_range]
theorem cntS_le (f : Int → Bool) : cntS f ≤ 100000 := by
  have := List.countP_le_length (p := f) (l := allV)
  rwa [allV_len] at this
theorem cntS_upd {f : Int → Bool} {v : Int} (h0 : 0 ≤ v) (h1 : v ≤ 99999) (h : f v = false) : cntS f + 1 ≤ cntS (updS f v) := by
  have hm : v ∈ allV := mem_allV.2 ⟨h0, h1⟩
  obtain ⟨l1, l2, e⟩ := List.append_of_mem hm
  have hle : ∀ l : List Int, l.countP f ≤ l.countP (updS f v) := fun l => List.countP_mono_left (fun x _ hx => by
    unfold updS; split
    · rfl
    · exact hx)
  unfold cntS
  rw [e, List.countP_append, List.countP_append, List.countP_cons, List.countP_cons]
  have h2 := hle l1
  have h3 := hle l2
  have h4 : updS f v v = true := by simp [updS]
  rw [h4, h]
  simp only [if_true]
  simp
  omega
/-- Block b is a set of variables. -/
def SeenM (w : World) (b : Nat) (f : Int → Bool) : Prop := ∃ D : DataW Unit, w.ownsMap Tryz.prog 3 (plainElem Tryz.prog 4) b (cntS f) D ∧ Maps.IsMap D ∧ ∀ v : Int, 0 ≤ v → v ≤ 99999 → D.atKey (.int .i64 v) (.lit (.bool false)) = .lit (.bool (f v))
theorem seen_made (w : World) : SeenM (w.alloc (.map #[] 0)) w.heap.size (fun _ => false) :=
  ⟨.map [], (World.ownsMap_made w Tryz.prog 3 (plainElem Tryz.prog 4)).mono (Nat.zero_le _), Maps.isMap_empty, fun v _ _ => rfl⟩
theorem SeenM.lt {w : World} {b : Nat} {f : Int → Bool} (h : SeenM w b f) : b < w.heap.size := by
  obtain ⟨D, h1, -, -⟩ := h
  exact h1.lt
theorem SeenM.kept {w w1 : World} {b : Nat} {f : Int → Bool} (h : SeenM w b f) (hk : w1.heap[b]? = w.heap[b]?) : SeenM w1 b f := by
  obtain ⟨D, ⟨es, cl, h1, h2, h3, h4⟩, h5, h6⟩ := h
  exact ⟨D, ⟨es, cl, hk.trans h1, h2, h3, h4⟩, h5, h6⟩
theorem SeenM.below {w w1 : World} {b : Nat} {f : Int → Bool} (h : SeenM w b f) (hb : Below w.heap.size w w1) : SeenM w1 b f := h.kept (hb.block b h.lt)
theorem plainElem_bool_inv {v : Value} {x : Bool} {ps : List MemPlace} (h : plainElem (H := Unit) Tryz.prog 4 v = some (.lit (.bool x), ps)) : v = .bool x := by
  unfold plainElem at h
  rw [Tryz.underlying4] at h
  cases v <;> simp at h
  rw [h.1]
theorem seen_look {w : World} {b : Nat} {f : Int → Bool} (h : SeenM w b f) {v : Int} (h0 : 0 ≤ v) (h1 : v ≤ 99999) : (Instr.lookup 113 (.map (some b)) (.int .i64 v) false).run Tryz.prog w = .ok (.bool (f v)) w := by
  obtain ⟨D, hown, hD, hf⟩ := h
  obtain ⟨u, ps, hrun, hu⟩ := hown.lookup (Maps.int_keyed Tryz.underlying3) Tryz.underlying113 (z := .bool false) (by kernel_rfl) (plainElem_bool Tryz.underlying4 false) (Maps.keyOf_int_mk Tryz.underlying3 (WalkArith.wf_i64 (n := v) (by omega)))
  rw [hf v h0 h1] at hu
  rw [hrun, plainElem_bool_inv hu]
theorem seen_put {w : World} {ops : Array Oper} {rest : List Oper} {o : Oper} {a : Act} {Q : Exit → Act → World → Prop} {b : Nat} {f : Int → Bool} (h : SeenM w b f) {v : Int} (h0 : 0 ≤ v) (h1 : v ≤ 99999) (hn : f v = false)
    (hg : o.guard = none) (m x y : Operand) (hop : o.op = Op.mapUpdate 113 m x y) (hm : a.eval m = .map (some b)) (hx : a.eval x = .int .i64 v) (hy : a.eval y = .bool true)
    (hK : ∀ w', SeenM w' b (updS f v) → w.grownBy w' (some b) → wpList Tryz.prog ops Q rest (a.put o.dst undef) w') : wpList Tryz.prog ops Q (o :: rest) a w := by
  obtain ⟨D, hown, hD, hf⟩ := h
  have hle := cntS_le f
  refine wpList_mapUpdate_own w hg m x y 113 hop 3 4 (Maps.int_keyed Tryz.underlying3) Tryz.underlying113 (plainElem Tryz.prog 4) b (cntS f) D hm hown (by unfold maxLen; omega) (.int .i64 v) (.bool true) (.int .i64 v) hx hy
    (Maps.keyOf_int_mk Tryz.underlying3 (WalkArith.wf_i64 (n := v) (by omega))) (.lit (.bool true)) [] (plainElem_bool Tryz.underlying4 true) (fun w' r1 r2 => hK w' ⟨_, r1.mono (cntS_upd h0 h1 hn), hD.put _ _, fun z hz0 hz1 => ?_⟩ r2)
  unfold updS
  by_cases e : z = v
  · subst e
    rw [if_pos rfl]
    exact Maps.atKey_put_same hD (by simp [WideAt.IsKeyLit]) _ _
  · rw [if_neg e, Maps.atKey_put_other (fun e2 => e (by simpa using e2))]
    exact hf z hz0 hz1
theorem foot_grown {w w1 : World} {S : Nat → Prop} {row : Option Nat} (hg : w.grownBy w1 row) (hr : ∀ k, row = some k → S k) : Foot S w w1 :=
  ⟨hg.os, hg.tape, hg.output, hg.size, fun k hk hS => hg.block k hk (fun e => hS (hr k e.symm))⟩
theorem intAt {w : World} {ok : Nat → Prop} {A : Option Addr} {xs : List Int} (h : kInt.C w ok A xs) (i : Nat) (hi : i < xs.length) : ∃ b off, A = some ⟨b, off, none⟩ ∧ w.cell? ⟨b, off + i, none⟩ = some (.int .i64 xs[i]) := by
  obtain ⟨b, off, cs, hA, hb, hK, hc⟩ := Kd.C_get h (List.getElem?_eq_getElem hi)
  obtain ⟨rfl, -⟩ := hK
  have := hc 0 _ rfl
  rw [show kInt.sz = 1 from rfl, Nat.mul_one, Nat.add_zero] at this
  exact ⟨b, off, hA, this⟩
theorem Foot_keeps_ne {w w1 : World} {b : Nat} {ok : Nat → Prop} (h : Foot (fun k => k = b) w w1) (hb : ∀ k, ok k → k ≠ b) : Keeps w w1 ok ok := Foot.keeps h (fun k hk => hb k hk)
theorem holds_end {s : List Bind} {x : Int} {t : Term} (h : ∀ (j : Nat) (hj : j < (free t).length), ¬ vin x (sig s (free t)[j])) : vinB x (sub (sig s) t) = false := by
  rw [Bool.eq_false_iff]
  intro e
  obtain ⟨y, hy, hv⟩ := vin_sub.1 (vinB_iff.1 e)
  obtain ⟨j, hj, rfl⟩ := List.mem_iff_getElem.1 (mem_free.2 hy)
  exact h j hj hv
theorem holds_yes {s : List Bind} {x y : Int} {t : Term} (hy : vin y t) (hv : vin x (sig s y)) : vinB x (sub (sig s) t) = true := vinB_iff.2 (vin_sub.2 ⟨y, hy, hv⟩)
set_option maxHeartbeats 4000000 in
theorem holds_i {s : List Bind} (hs : BOk s) (x : Int) (hx : bget s x = none) (rk : Int → Nat) (hrk : ∀ v t, bget s v = some t → ∀ y, vin y t → rk y < rk v) : ∀ (R : Nat) (val v : Value) (t : Term) (b : Nat) (f : Int → Bool) (okR ok : Nat → Prop) (w : World), BV2 w okR ok val s → kCell.V w ok v t → trmOk t = true → (∀ k, okR k → k < w.heap.size → k ≠ b) → (∀ k, ok k → k < w.heap.size → k ≠ b) → (∀ y, vin y t → rk y < R) → SeenM w b f → (∀ y, f y = true → rk y < R → ¬ vin x (sig s y)) →
    Calls Tryz.prog 96 #[val, v, .int .i64 x, .map (some b)] w fun e w' => ∃ f1, e = .returned (.bool (vinB x (sub (sig s) t))) ∧ Foot (fun k => k = b) w w' ∧ SeenM w' b f1 ∧ (vinB x (sub (sig s) t) = false → ∀ y, f1 y = true → f y = true ∨ (rk y < R ∧ ¬ vin x (sig s y))) := by
  intro R
  induction R using Nat.strongRecOn with
  | ind R IH =>
  intro val v t b f okR0 ok0 w hV0 hT0 ht hokr0 hok0 hR hM hf
  obtain ⟨okR, hokr, hV1⟩ : ∃ okR : Nat → Prop, (∀ k, okR k → k ≠ b) ∧ BV2 w okR ok0 val s := ⟨fun k => okR0 k ∧ k < w.heap.size, fun k h => hokr0 k h.1 h.2, hV0.mono (fun k h1 h2 => ⟨h1, h2⟩) (fun k h _ => h)⟩
  obtain ⟨ok, hok, hV, hT, hback⟩ : ∃ ok : Nat → Prop, (∀ k, ok k → k ≠ b) ∧ BV2 w okR ok val s ∧ kCell.V w ok v t ∧ True := ⟨fun k => ok0 k ∧ k < w.heap.size, fun k h => hok0 k h.1 h.2, hV1.mono (fun k h _ => h) (fun k h1 h2 => ⟨h1, h2⟩), Kd.V_move (fun k h1 h2 => ⟨⟨h1, h2⟩, rfl⟩) hT0 (by decide), trivial⟩
  clear hV0 hV1 hT0 hokr0 hok0 hback
  have HV := Sec.mk hV
  have HT := Sec.mk hT
  have HM := Sec.mk hM
  have hbl := hM.lt
  have HF := Sec.mk hf
  have HR := Sec.mk hR
  have HOK := Sec.mk hok
  have HOR := Sec.mk hokr
  have IHS := Sec.mk IH
  have HS := Sec.mk hs
  have HX := Sec.mk hx
  have HRK := Sec.mk hrk
  have HTV := Sec.mk (trmOk_V ht)
  have hq := fun (w : World) (a : Option Addr) (n c : Nat) => run_neq_slice_nil_any (P := Tryz.prog) w 30 77 a n c 0 0 Tryz.underlying30
  obtain ⟨L, hL⟩ : ∃ L, free t = L := ⟨_, rfl⟩
  have HL := Sec.mk hL
  have hl3 : L.length ≤ 40 := by have := free_len t; have := (trmOk_len ht).2; rw [hL] at *; omega
  obtain ⟨Ab, cb, rfl⟩ := hV.form
  clear hV hT hM hf hR hok hokr IH ht hL hs hx hrk
  go_enter Tryz.func96, Tryz.ntmps96
  go_wp2_with (go_at_call 82; refine (TrmFree_i _ t ok _ HT.out).mono ?_; rintro e w1 ⟨u, rfl, hu, hb1⟩; rw [HL.out] at hu; have U1 := Sec.mk hu; obtain ⟨Au, cu, rfl, -, -⟩ := Kd.R_form hu; have B1 := Sec.mk hb1; clear hu hb1)
  go_loopw [15] (fun iv wr => ∃ k : Nat, k ≤ L.length ∧ iv = .int .i64 k ∧ Sec (∃ f1, SeenM wr b f1 ∧ ∀ y, f1 y = true → f y = true ∨ (rk y < R ∧ ¬ vin x (sig s y))) ∧ Sec (∀ (j : Nat) (hj : j < L.length), j < k → ¬ vin x (sig s L[j])) ∧ Sec (Foot (fun k => k = b) w1 wr)) (fun iv _ => L.length - (intOf iv).toNat)
  case atStart => exact ⟨0, Nat.zero_le _, rfl, ⟨f, HM.out.below B1.out, fun y h => .inl h⟩, ⟨fun j hj h => absurd h (Nat.not_lt_zero _)⟩, ⟨Foot.refl _ _⟩⟩
  case round =>
    obtain ⟨k, hk, rfl, hsm, hno, hft⟩ := hrel
    have FT : Sec (Foot (fun k => k = b) w wr) := ⟨Foot.trans (S' := fun k => k = b) (Foot.of_below (S := fun k => k = b) B1.out) hft.out (fun _ _ h => h)⟩
    by_cases hlk : k < L.length
    · have hV1 := Kd.V_move (Foot_keeps_ne hft.out (fun q hq => by intro e; rw [e] at hq; omega)) (Kd.R_V U1.out) (by decide)
      obtain ⟨bu, offu, rfl, i0⟩ := intAt (Kd.V_C hV1) k hlk
      have hmem : L[k] ∈ free t := by rw [HL.out]; exact List.getElem_mem hlk
      have hvin := mem_free.1 hmem
      have hrn := HR.out _ hvin
      obtain ⟨h0, h1⟩ := mem_allV.1 (HTV.out _ hvin)
      have hstep : Sec (¬ vin x (sig s L[k]) → ∀ (j : Nat) (hj : j < L.length), j < k + 1 → ¬ vin x (sig s L[j])) := ⟨fun h2 j hj h3 => by
        by_cases e : j = k
        · subst e; exact h2
        · exact hno.out j hj (by omega)⟩
      have hyes : Sec (vin x (sig s L[k]) → vinB x (sub (sig s) t) = true) := ⟨fun h2 => holds_yes hvin h2⟩
      obtain ⟨f1, hm1, hf1⟩ := hsm.out
      have M1 := Sec.mk hm1
      have F1 := Sec.mk hf1
      have j0 : (0 : Int) ≤ (k : Int) := by omega
      have j1 : (k : Int) < (L.length : Int) := by omega
      have HRN := Sec.mk hrn
      generalize L[k] = n at *
      clear hV1 hmem hvin hsm hno hm1 hf1 hrn
      by_cases hnx : n = x
      · have d1 : (n == x) = true := beq_iff_eq.2 hnx
        have hfin : Sec (vinB x (sub (sig s) t) = true) := ⟨hyes.out (by rw [hnx, sig_out HX.out]; exact ⟨_, List.mem_singleton.2 rfl, rfl, rfl⟩)⟩
        clear hnx
        go_wp2
        go_ret
        rw [hfin.out]
        exact ⟨f1, rfl, FT.out, M1.out, fun h => by cases h⟩
      · have d1 : (n == x) = false := beq_eq_false_iff_ne.2 hnx
        have HNX := Sec.mk hnx
        clear hnx
        cases hfn : f1 n with
        | true =>
          have hlook := seen_look M1.out h0 h1
          rw [hfn] at hlook
          have hnot : Sec (¬ vin x (sig s n)) := ⟨by
            rcases F1.out n hfn with h2 | h2
            · exact HF.out n h2 HRN.out
            · exact h2.2⟩
          clear hfn
          go_wp2
          go_roundw
          case rel => exact ⟨k + 1, by omega, by go_num, ⟨f1, M1.out, F1.out⟩, ⟨hstep.out hnot.out⟩, hft⟩
          case measure => simp [intOf]; omega
        | false =>
          have hlook := seen_look M1.out h0 h1
          rw [hfn] at hlook
          have HFN := Sec.mk hfn
          clear hfn
          cases hg : bget s n with
          | none =>
            have HG := Sec.mk hg
            have hnot : Sec (¬ vin x (sig s n)) := ⟨by
              rw [sig_out hg]
              rintro ⟨c, hc, _, e⟩
              rw [List.mem_singleton] at hc
              subst hc
              exact HNX.out e⟩
            clear hg
            go_wp2_with (first | (go_at_call 95; refine (get_none_i _ s n okR ok _ V2.out HS.out HG.out).mono ?_; rintro e w3 ⟨rfl, hb3⟩; have M3 := Sec.mk (M2.out.below hb3); have G3 := Sec.mk (Foot.trans (S' := fun k => k = b) G2.out (Foot.of_below (S := fun k => k = b) hb3) (fun _ _ h => h)); clear hb3) | (at_mapUpdate; refine seen_put (f := f1) M1.out h0 h1 HFN.out rfl _ _ _ rfl rfl rfl rfl ?_; intro w2 hm2 hg2; have M2 := Sec.mk hm2; have F2 := Sec.mk (Foot.trans (S' := fun k => k = b) FT.out (foot_grown hg2 (fun k e => by cases e; rfl)) (fun _ _ h => h)); have G2 := Sec.mk (Foot.trans (S' := fun k => k = b) hft.out (foot_grown hg2 (fun k e => by cases e; rfl)) (fun _ _ h => h)); have V2 := Sec.mk (HV.out.move (Foot_keeps_ne F2.out HOR.out) (Foot_keeps_ne F2.out HOK.out)); clear hm2 hg2))
            go_roundw
            case rel => exact ⟨k + 1, by omega, by go_num, ⟨_, M3.out, fun y hy => by
              unfold updS at hy
              split at hy
              · rename_i e
                rw [e]; exact .inr ⟨HRN.out, hnot.out⟩
              · exact F1.out y hy⟩, ⟨hstep.out hnot.out⟩, G3⟩
            case measure => simp [intOf]; omega
          | some t2 =>
            have HG := Sec.mk hg
            have hsig : Sec (vinB x (sub (sig s) t2) = vinB x (sig s n)) := ⟨by rw [sig_in HS.out.tri hg]⟩
            have ht2 := Sec.mk (HS.out.get hg)
            have hcond : Sec (∀ y, updS f1 n y = true → rk y < rk n → ¬ vin x (sig s y)) := ⟨fun y hy hr => by
              unfold updS at hy
              split at hy
              · rename_i e
                rw [e] at hr; omega
              · rcases F1.out y hy with h2 | h2
                · exact HF.out y h2 (Nat.lt_trans hr HRN.out)
                · exact h2.2⟩
            obtain ⟨c9, r9, h9⟩ : ∃ c9 r9, t2 = c9 :: r9 := by
              cases t2 with
              | nil => exact absurd (trmOk_len ht2.out).1 (by simp)
              | cons c9 r9 => exact ⟨c9, r9, rfl⟩
            have H9 := Sec.mk h9
            clear hg h9
            cases hres : vinB x (sub (sig s) t2) with
            | true =>
              have HRS := Sec.mk hres
              have hfin : Sec (vinB x (sub (sig s) t) = true) := ⟨hyes.out (vinB_iff.1 (by rw [← hsig.out]; exact hres))⟩
              clear hres
              go_wp2_with (first | (go_at_call 96; refine (IHS.out (rk n) HRN.out _ _ t2 b (updS f1 n) okR ok _ V3.out T3.out ht2.out (fun k h _ => HOR.out k h) (fun k h _ => HOK.out k h) (fun y hy => HRK.out n t2 HG.out y hy) M3.out hcond.out).mono ?_; rw [HRS.out]; rintro e w4 ⟨f4, rfl, hF4, hM4, hf4⟩; have M4 := Sec.mk hM4; have P4 := Sec.mk hf4; have K4 := Sec.mk (Foot.trans (S' := fun k => k = b) F3.out hF4 (fun _ _ h => h)); have G4 := Sec.mk (Foot.trans (S' := fun k => k = b) G3.out hF4 (fun _ _ h => h)); clear hF4 hM4 hf4) | (go_at_call 95; refine (get_some_i _ s n t2 okR ok _ V2.out HS.out HG.out).mono ?_; rintro e w3 ⟨z, rfl, hz, hb3⟩; have T3 := Sec.mk hz; have M3 := Sec.mk (M2.out.below hb3); have V3 := Sec.mk (V2.out.below hb3); have F3 := Sec.mk (Foot.trans (S' := fun k => k = b) F2.out (Foot.of_below (S := fun k => k = b) hb3) (fun _ _ h => h)); have G3 := Sec.mk (Foot.trans (S' := fun k => k = b) G2.out (Foot.of_below (S := fun k => k = b) hb3) (fun _ _ h => h)); rw [H9.out] at hz; obtain ⟨b9, off9, cp9, rfl, -⟩ := cV_cons hz; clear hz hb3) | (at_mapUpdate; refine seen_put (f := f1) M1.out h0 h1 HFN.out rfl _ _ _ rfl rfl rfl rfl ?_; intro w2 hm2 hg2; have M2 := Sec.mk hm2; have F2 := Sec.mk (Foot.trans (S' := fun k => k = b) FT.out (foot_grown hg2 (fun k e => by cases e; rfl)) (fun _ _ h => h)); have G2 := Sec.mk (Foot.trans (S' := fun k => k = b) hft.out (foot_grown hg2 (fun k e => by cases e; rfl)) (fun _ _ h => h)); have V2 := Sec.mk (HV.out.move (Foot_keeps_ne F2.out HOR.out) (Foot_keeps_ne F2.out HOK.out)); clear hm2 hg2))
              go_ret
              rw [hfin.out]
              exact ⟨f4, rfl, K4.out, M4.out, fun h => by cases h⟩
            | false =>
              have HRS := Sec.mk hres
              have hnot : Sec (¬ vin x (sig s n)) := ⟨fun h => by have h2 := vinB_iff.2 h; rw [← hsig.out, hres] at h2; cases h2⟩
              clear hres
              go_wp2_with (first | (go_at_call 96; refine (IHS.out (rk n) HRN.out _ _ t2 b (updS f1 n) okR ok _ V3.out T3.out ht2.out (fun k h _ => HOR.out k h) (fun k h _ => HOK.out k h) (fun y hy => HRK.out n t2 HG.out y hy) M3.out hcond.out).mono ?_; rw [HRS.out]; rintro e w4 ⟨f4, rfl, hF4, hM4, hf4⟩; have M4 := Sec.mk hM4; have P4 := Sec.mk hf4; have K4 := Sec.mk (Foot.trans (S' := fun k => k = b) F3.out hF4 (fun _ _ h => h)); have G4 := Sec.mk (Foot.trans (S' := fun k => k = b) G3.out hF4 (fun _ _ h => h)); clear hF4 hM4 hf4) | (go_at_call 95; refine (get_some_i _ s n t2 okR ok _ V2.out HS.out HG.out).mono ?_; rintro e w3 ⟨z, rfl, hz, hb3⟩; have T3 := Sec.mk hz; have M3 := Sec.mk (M2.out.below hb3); have V3 := Sec.mk (V2.out.below hb3); have F3 := Sec.mk (Foot.trans (S' := fun k => k = b) F2.out (Foot.of_below (S := fun k => k = b) hb3) (fun _ _ h => h)); have G3 := Sec.mk (Foot.trans (S' := fun k => k = b) G2.out (Foot.of_below (S := fun k => k = b) hb3) (fun _ _ h => h)); rw [H9.out] at hz; obtain ⟨b9, off9, cp9, rfl, -⟩ := cV_cons hz; clear hz hb3) | (at_mapUpdate; refine seen_put (f := f1) M1.out h0 h1 HFN.out rfl _ _ _ rfl rfl rfl rfl ?_; intro w2 hm2 hg2; have M2 := Sec.mk hm2; have F2 := Sec.mk (Foot.trans (S' := fun k => k = b) FT.out (foot_grown hg2 (fun k e => by cases e; rfl)) (fun _ _ h => h)); have G2 := Sec.mk (Foot.trans (S' := fun k => k = b) hft.out (foot_grown hg2 (fun k e => by cases e; rfl)) (fun _ _ h => h)); have V2 := Sec.mk (HV.out.move (Foot_keeps_ne F2.out HOR.out) (Foot_keeps_ne F2.out HOK.out)); clear hm2 hg2))
              go_roundw
              case rel => exact ⟨k + 1, by omega, by go_num, ⟨f4, M4.out, fun y hy => by
                rcases P4.out (by first | trivial | rfl | exact HRS.out) y hy with h2 | h2
                · unfold updS at h2
                  split at h2
                  · rename_i e
                    rw [e]; exact .inr ⟨HRN.out, hnot.out⟩
                  · exact F1.out y h2
                · exact .inr ⟨Nat.lt_trans h2.1 HRN.out, h2.2⟩⟩, ⟨hstep.out hnot.out⟩, G4⟩
              case measure => simp [intOf]; omega
    · have hfin : Sec (vinB x (sub (sig s) t) = false) := ⟨holds_end (by rw [HL.out]; exact fun j hj => hno.out j hj (by omega))⟩
      obtain ⟨f1, h1, h2⟩ := hsm.out
      have M1 := Sec.mk h1
      have F1 := Sec.mk h2
      clear h1 h2 hsm hno
      go_wp2
      go_ret
      rw [hfin.out]
      exact ⟨f1, rfl, FT.out, M1.out, fun _ => F1.out⟩
end
section
open Go.RowKit
set_option linter.unusedVariables false
set_option maxRecDepth 100000
theorem info_bnd : (Tryz.prog.info? 110).map (fun i => (i.zero, i.size, i.bytes)) = some (some (.agg #[.int .i64 0, .slice none 0 0]), 2, 32) := by kernel_rfl
theorem ints_le : ∀ (n : Nat) (l : List Int), l.Nodup → (∀ x ∈ l, 0 ≤ x ∧ x < n) → l.length ≤ n := by
  intro n
  induction n with
  | zero =>
    intro l _ h
    cases l with
    | nil => exact Nat.le_refl _
    | cons x r => have := h x List.mem_cons_self; omega
  | succ n ih =>
    intro l hl h
    have h1 := ih (l.erase (n : Int)) (hl.erase _) (fun x hx => by
      have h2 := (List.Nodup.mem_erase_iff hl).1 hx
      have h3 := h x h2.2
      have h4 := h2.1
      omega)
    have h2 := List.length_erase (a := (n : Int)) (l := l)
    split at h2 <;> omega
theorem BOk.len {s : List Bind} (h : BOk s) : s.length ≤ 100000 := by
  have h1 : (s.map (·.v)).Nodup := by
    have := h.tri.nd
    unfold Nd at this
    exact List.pairwise_map.2 this
  have h2 := ints_le 100000 (s.map (·.v)) h1 (fun x hx => by
    obtain ⟨b, hb, rfl⟩ := List.mem_map.1 hx
    have := h.v b hb
    omega)
  rwa [List.length_map] at h2
theorem W_BV2 {w : World} {S ok : Nat → Prop} {v : Value} {s : List Bind} (h : kBind.W w S ok v s) : BV2 w S ok v s := by
  obtain ⟨h0, ⟨rfl, rfl⟩ | ⟨b, cap, cur, rfl, hb, hS, h1, h2, h3, h4⟩⟩ := h
  · exact ⟨none, 0, rfl, Nat.le_refl _, by simp [maxLen], by simp, .inl rfl⟩
  · refine ⟨_, cap, rfl, h1, h2, h0, .inr ⟨b, 0, rfl, hS, fun i x hx => ?_⟩⟩
    obtain ⟨c, g1, g2⟩ := Kd.Ks_get h4 i x hx
    refine ⟨c, Kd.K_mono g1 (fun k hk => hk.1), fun j u hu => ?_⟩
    have g3 := g2 j u hu
    rw [List.getElem?_take] at g3
    split at g3
    · show w.cell? ⟨b, 0 + (i * kBind.sz + j), none⟩ = some u
      rw [cell_of_row w b _ cur kBind.ty (0, 0) hb, Nat.zero_add]; simpa using g3
    · cases g3
theorem bv_Ks {w : World} {ok : Nat → Prop} : ∀ {s : List Bind} {b off : Nat}, kBind.E w ok s (fun j => w.cell? ⟨b, off + j, none⟩) → ∃ cs, kBind.Ks w ok s cs ∧ ∀ j u, cs[j]? = some u → w.cell? ⟨b, off + j, none⟩ = some u
  | [], b, off, _ => ⟨[], rfl, fun j u hu => by simp at hu⟩
  | x :: s, b, off, hE => by
    have hd : kBind.E w ok s (fun j => w.cell? ⟨b, off + kBind.sz + j, none⟩) := by
      intro i y hy
      obtain ⟨c, h1, h2⟩ := hE (i + 1) y (by simpa using hy)
      refine ⟨c, h1, fun j u hu => ?_⟩
      have h3 := h2 j u hu
      have e : off + kBind.sz + (i * kBind.sz + j) = off + ((i + 1) * kBind.sz + j) := by rw [Nat.succ_mul]; omega
      show w.cell? ⟨b, off + kBind.sz + (i * kBind.sz + j), none⟩ = some u
      rw [e]; exact h3
    obtain ⟨c1, g1, g2⟩ := bv_Ks hd
    obtain ⟨c0, h1, h2⟩ := hE 0 x rfl
    have hl := kBind.K_len h1
    refine ⟨c0 ++ c1, ⟨c0, c1, rfl, h1, g1⟩, fun j u hu => ?_⟩
    rw [List.getElem?_append] at hu
    split at hu
    · have := h2 j u hu; rwa [Nat.zero_mul, Nat.zero_add] at this
    · have := g2 _ u hu
      rw [show off + kBind.sz + (j - c0.length) = off + j from by omega] at this
      exact this
section
variable {ops : Array Oper} {rest : List Oper} {o : Oper} {a : Act} {Q : Exit → Act → World → Prop}
/-- append(v, x) onto a row whose array is full: a row of one's own. -/
theorem bv_grow {W : World} (hgd : o.guard = none) (s x : Operand) (t : TypeId) (ht : Tryz.prog.underlying t = some (.slice kBind.ty))
    (ho : o.op = .call { callee := .builtin .append, args := #[s, x], argTypes := #[t, t] })
    (A : Option Addr) (xs : List Bind) (p : Bind) (cs : List Value) (okR okE : Nat → Prop) (hs : a.eval s = .slice A xs.length xs.length) {N : Nat} (hx : a.eval x = .slice (some ⟨N, 0, none⟩) 1 1) (hN : N = W.heap.size)
    (HO : BV2 W okR okE (.slice A xs.length xs.length) xs) (hp : kBind.K W okE p cs) (hl : xs.length + 1 ≤ 1073741824)
    (h : ∀ v1 w1, kBind.W w1 (fun k => W.heap.size ≤ k) okE v1 (xs ++ [p]) → W.grownBy w1 none → wpList Tryz.prog ops Q rest (a.put o.dst v1) w1) :
    wpList Tryz.prog ops Q (o :: rest) a (W.alloc (.cells cs.toArray kBind.ty)) := by
  subst hN
  obtain ⟨i0, hi, hzz⟩ := Option.map_eq_some_iff.1 info_bnd
  simp only [Prod.mk.injEq] at hzz
  obtain ⟨hz0, hz1, hz2⟩ := hzz
  obtain ⟨A', c', hv, g1, g2, g3, g4⟩ := HO
  simp only [Value.slice.injEq] at hv
  obtain ⟨rfl, -, rfl⟩ := hv
  have hold : ∃ olds, kBind.Ks W okE xs olds ∧ ∀ b, A = some b → ∀ j u, olds[j]? = some u → W.cell? (b.add j) = some u := by
    rcases g4 with rfl | ⟨b, off, rfl, hb, hE⟩
    · exact ⟨[], rfl, fun b _ j u hu => by simp at hu⟩
    · obtain ⟨es, k1, k2⟩ := bv_Ks hE
      refine ⟨es, k1, fun b' e j u hu => ?_⟩
      cases e
      have : (⟨b, off, none⟩ : Addr).add j = ⟨b, off + j, none⟩ := by unfold Addr.add; split <;> simp_all
      rw [this]; exact k2 j u hu
  obtain ⟨olds, k1, k2⟩ := hold
  have hnone : A = none → xs.length = 0 ∧ xs.length = 0 := by
    rintro rfl
    rcases g4 with rfl | ⟨b, off, e, _⟩
    · exact ⟨rfl, rfl⟩
    · cases e
  refine wpList_append_grows (W.alloc (.cells cs.toArray kBind.ty)) hgd s x t ho kBind.ty i0 (.agg #[.int .i64 0, .slice none 0 0]) kBind.sz 32 ht hi hz0 hz1 hz2 rfl (by decide) A xs.length xs.length olds hs hnone (Kd.Ks_len k1)
    (fun b e j u hu => ((belA (Below.refl W.heap.size W) (.cells cs.toArray kBind.ty)).cell (p := b.add j) (World.block_lt_of_cell? W _ (k2 b e j u hu))).trans (k2 b e j u hu)) ⟨W.heap.size, 0, none⟩ 1 1 cs hx (by rw [kBind.K_len hp]; simp)
    (by simpa using World.news_of_block (cs := cs.toArray) (t := kBind.ty) (fr := (0, 0)) (heap_alloc_new W (.cells cs.toArray kBind.ty))) (kBind.K_one hp) (by omega) (by simp only [maxLen]; omega) (by omega) ?_
  intro v1 w1 hown hg
  have hg1 := World.grownBy.trans (World.grownBy_alloc W _ _) hg
  refine h v1 w1 ?_ hg1
  have hlo : ∀ k, v1.ownBlock = some k → W.heap.size + 1 ≤ k := by
    intro k hk
    rcases hown.2 with ⟨rfl, hn⟩ | ⟨g, cap, cur, rfl, hle, _⟩
    · simp [Value.ownBlock] at hk
    · simp [Value.ownBlock] at hk
      subst hk
      simpa using hle
  have h0 : w1.ownsRow 0 kBind.ty kBind.sz v1 (xs ++ [p]).length (olds ++ cs) := by
    rw [List.length_append, List.length_singleton]
    refine ⟨hown.1, ?_⟩
    rcases hown.2 with h2 | ⟨g, cap, cur, e, hle, h3⟩
    · exact .inl h2
    · exact .inr ⟨g, cap, cur, e, Nat.zero_le _, h3⟩
  have mv : Keeps W w1 okE (fun k => okE k ∧ some k ≠ v1.ownBlock) := fun k hk hlt => ⟨⟨hk, fun e => by have := hlo k e.symm; omega⟩, hg1.block k hlt (by simp)⟩
  refine Kd.W_of_own (inner := olds ++ cs) h0 (Kd.Ks_append (Kd.Ks_move mv k1) (Kd.Ks_move mv ⟨cs, [], by simp, hp, rfl⟩)) (fun k hk => Nat.le_of_succ_le (hlo k hk)) (by rw [List.length_append]; exact hl)
end
/-- Bindings in hand: of a full array that lies below B, or a row of one's own above it. -/
def UOwn (w : World) (B : Nat) (okE : Nat → Prop) (v : Value) (s : List Bind) : Prop :=
  (∃ A, v = .slice A s.length s.length ∧ BV2 w (fun k => k < B) okE v s) ∨ kBind.W w (fun k => B ≤ k ∧ ¬ okE k) okE v s
theorem UOwn.below {w w1 : World} {B : Nat} {okE : Nat → Prop} {v : Value} {s : List Bind} (h : UOwn w B okE v s) (hb : Below w.heap.size w w1) : UOwn w1 B okE v s := by
  rcases h with ⟨A, h1, h2⟩ | h
  · exact .inl ⟨A, h1, h2.below hb⟩
  · exact .inr (Kd.W_move (Keeps.below hb _) (Keeps.below hb _) h)
theorem UOwn.bv {w : World} {B : Nat} {okE : Nat → Prop} {v : Value} {s : List Bind} (h : UOwn w B okE v s) : ∃ okR, BV2 w okR okE v s := by
  rcases h with ⟨A, h1, h2⟩ | h
  · exact ⟨_, h2⟩
  · exact ⟨_, W_BV2 h⟩
theorem UOwn.form {w : World} {B : Nat} {okE : Nat → Prop} {v : Value} {s : List Bind} (h : UOwn w B okE v s) : ∃ A c, v = .slice A s.length c := by
  obtain ⟨_, h⟩ := h.bv
  exact h.form
/-- What a way of unification leaves. -/
def UPost (w w' : World) (B : Nat) (okE : Nat → Prop) (e : Ending) (r : Option (List Bind)) : Prop := ∃ okE' : Nat → Prop, (∀ k, okE k → okE' k) ∧ (∀ k, okE' k → k < w'.heap.size) ∧ (∀ k, okE k → k < w.heap.size → w'.heap[k]? = w.heap[k]?) ∧ Below B w w' ∧
  (match r with
   | none => e = .returned (.tuple #[.slice none 0 0, .bool false])
   | some s1 => ∃ v1, e = .returned (.tuple #[v1, .bool true]) ∧ UOwn w' B okE' v1 s1)
theorem UPost.pre {w0 w w' : World} {B : Nat} {okE : Nat → Prop} {e : Ending} {r : Option (List Bind)} (h : UPost w w' B okE e r) (hb : Below w0.heap.size w0 w) (hB : B ≤ w0.heap.size) : UPost w0 w' B okE e r := by
  obtain ⟨okE', h1, h2, h3, h4, h5⟩ := h
  exact ⟨okE', h1, h2, fun k hk hl => (h3 k hk (Nat.lt_of_lt_of_le hl hb.size)).trans (hb.block k hl), (hb.mono hB).trans h4, h5⟩
theorem rank_top (rk : Int → Nat) (t : Term) : ∃ R, ∀ y, vin y t → rk y < R := by
  induction t with
  | nil => exact ⟨0, fun y hy => by obtain ⟨c, hc, _⟩ := hy; simp at hc⟩
  | cons c r ih =>
    obtain ⟨R, h⟩ := ih
    refine ⟨max R (rk c.n + 1), fun y hy => ?_⟩
    obtain ⟨d, hd, h1, h2⟩ := hy
    rcases List.mem_cons.1 hd with rfl | hd
    · rw [← h2]; omega
    · have := h y ⟨d, hd, h1, h2⟩; omega
theorem bindF_eq {s : List Bind} (hs : BOk s) {n : Nat} {x : Int} {t : Term} (ht : trmOk t = true) {r : Option (List Bind)} (h : bindF s n x t = some r) : r = if vinB x (sub (sig s) t) = true then none else some (s ++ [⟨x, t⟩]) := by
  unfold bindF at h
  cases hf : fullF s n t with
  | none => rw [hf] at h; cases h
  | some u =>
    obtain ⟨m, hm⟩ := full_total hs ht
    have e := fullF_det hf hm
    subst e
    rw [hf] at h
    simp only at h
    split at h <;> rename_i h1 <;> cases h
    · rw [if_pos h1]
    · rw [if_neg h1]
theorem kBind_mkK {w : World} {ok : Nat → Prop} {x : Bind} {v : Value} (h : kCell.V w ok v x.term) : kBind.K w ok x [.int .i64 x.v, v] :=
  ⟨[.int .i64 x.v], [v], rfl, ⟨rfl, trivial⟩, ⟨v, rfl, h⟩⟩
theorem upost_full {w w2 w3 w4 : World} {B : Nat} {okE : Nat → Prop} {v1 : Value} {s1 : List Bind} (hok : ∀ k, okE k → k < w.heap.size) (hB : B ≤ w.heap.size) (b2 : Below w.heap.size w w2) (b3 : Below w2.heap.size w2 w3) (hg : w3.grownBy w4 none)
    (hW : kBind.W w4 (fun k => w3.heap.size ≤ k) (fun k => okE k ∨ (w2.heap.size ≤ k ∧ k < w3.heap.size)) v1 s1) : UPost w w4 B okE (.returned (.tuple #[v1, .bool true])) (some s1) := by
  have hb : Below w.heap.size w w4 := (bel b2 b3).grown hg (bel b2 b3).size (fun j e => by cases e)
  have e2 := b2.size
  have e3 := b3.size
  have e4 := hg.size
  refine ⟨fun k => okE k ∨ (w2.heap.size ≤ k ∧ k < w3.heap.size), fun k h => .inl h, fun k h => ?_, fun k _ hl => hb.block k hl, hb.mono hB, v1, rfl, .inr ?_⟩
  · rcases h with h | h
    · have := hok k h; omega
    · omega
  · refine Kd.W_move (Keeps.mono fun k hk _ => ⟨by omega, ?_⟩) (Keeps.mono fun k hk _ => hk) hW
    rintro (h | h)
    · have := hok k h; omega
    · omega
theorem W_later {w w2 w3 : World} {B : Nat} {okE : Nat → Prop} {v : Value} {s : List Bind} (h : kBind.W w (fun k => B ≤ k ∧ ¬ okE k) okE v s) (b2 : Below w.heap.size w w2) (b3 : Below w2.heap.size w2 w3) :
    kBind.W w3 (fun k => (B ≤ k ∧ ¬ okE k) ∧ k < w2.heap.size) (fun k => okE k ∨ (w2.heap.size ≤ k ∧ k < w3.heap.size)) v s :=
  Kd.W_move (fun k hk hl => ⟨⟨hk, Nat.lt_of_lt_of_le hl b2.size⟩, (bel b2 b3).block k hl⟩) (fun k hk hl => ⟨.inl hk, (bel b2 b3).block k hl⟩) h
theorem K_later {w w2 w3 : World} {B : Nat} {okE : Nat → Prop} {v : Value} {s : List Bind} {p : Bind} {cs : List Value} (h : kBind.W w (fun k => B ≤ k ∧ ¬ okE k) okE v s) (b2 : Below w.heap.size w w2) (hok : ∀ k, okE k → k < w.heap.size)
    (hp : kBind.K w3 (fun k => okE k ∨ (w2.heap.size ≤ k ∧ k < w3.heap.size)) p cs) : kBind.K w3 (fun k => (okE k ∨ (w2.heap.size ≤ k ∧ k < w3.heap.size)) ∧ some k ≠ v.ownBlock) p cs := by
  obtain ⟨_, _, _, hS⟩ := Kd.W_own h
  refine Kd.K_mono hp (fun k hk => ⟨hk, fun e => ?_⟩)
  obtain ⟨⟨h1, h2⟩, h3⟩ := hS k e.symm
  have := b2.size
  rcases hk with hk | hk
  · exact h2 hk
  · omega
theorem upost_own {w w2 w3 w4 : World} {B : Nat} {okE : Nat → Prop} {v v1 : Value} {s s1 : List Bind} (hok : ∀ k, okE k → k < w.heap.size) (hB : B ≤ w.heap.size) (h : kBind.W w (fun k => B ≤ k ∧ ¬ okE k) okE v s) (b2 : Below w.heap.size w w2) (b3 : Below w2.heap.size w2 w3) (hg : w3.grownBy w4 v.ownBlock)
    (hW : kBind.W w4 (fun k => ((B ≤ k ∧ ¬ okE k) ∧ k < w2.heap.size) ∨ w3.heap.size ≤ k) (fun k => okE k ∨ (w2.heap.size ≤ k ∧ k < w3.heap.size)) v1 s1) : UPost w w4 B okE (.returned (.tuple #[v1, .bool true])) (some s1) := by
  obtain ⟨_, _, _, hS⟩ := Kd.W_own h
  have hb : Below B w w4 := ((bel b2 b3).mono hB).grown hg (Nat.le_trans hB (bel b2 b3).size) (fun j e => (hS j e).1.1)
  have e2 := b2.size
  have e3 := b3.size
  have e4 := hg.size
  refine ⟨fun k => okE k ∨ (w2.heap.size ≤ k ∧ k < w3.heap.size), fun k h => .inl h, fun k h => ?_, fun k hk hl => ?_, hb, v1, rfl, .inr ?_⟩
  · rcases h with h | h
    · have := hok k h; omega
    · omega
  · exact (hg.block k (by omega) (fun e => (hS k e.symm).1.2 hk)).trans ((bel b2 b3).block k hl)
  · refine Kd.W_move (Keeps.mono fun k hk _ => ?_) (Keeps.mono fun k hk _ => hk) hW
    rcases hk with hk | hk
    · refine ⟨hk.1.1, ?_⟩
      rintro (h | h)
      · exact hk.1.2 h
      · omega
    · refine ⟨by omega, ?_⟩
      rintro (h | h)
      · have := hok k h; omega
      · omega
set_option maxHeartbeats 2000000 in
theorem bind_i {s : List Bind} (hs : BOk s) (n : Nat) (x : Int) (hx : bget s x = none) (val v : Value) (t : Term) (B : Nat) (okE : Nat → Prop) (w : World) (hU : UOwn w B okE val s) (hT : kCell.V w okE v t) (ht : trmOk t = true) (hok : ∀ k, okE k → k < w.heap.size) (hB : B ≤ w.heap.size) (r : Option (List Bind)) (h : bindF s n x t = some r) :
    Calls Tryz.prog 86 #[val, .int .i64 x, v] w fun e w' => UPost w w' B okE e r := by
  obtain ⟨rk, hrk⟩ := hs.tri.rank
  obtain ⟨R, hR⟩ := rank_top rk t
  have hr := bindF_eq hs ht h
  have hlen := hs.len
  have hmm := @run_makeMap Tryz.prog
  have bA : Below w.heap.size w (w.alloc (.map #[] 0)) := belA (Below.refl _ _) _
  have HT := Sec.mk hT
  have HU := Sec.mk hU
  have HOK := Sec.mk hok
  have HLB := Sec.mk hB
  have HLEN := Sec.mk hlen
  obtain ⟨okR, hV⟩ := hU.bv
  have HC := Sec.mk (holds_i hs x hx rk hrk R val v t w.heap.size (fun _ => false) (fun k => okR k ∧ k < w.heap.size) okE (w.alloc (.map #[] 0)) ((hV.mono (fun k h1 h2 => ⟨h1, h2⟩) (fun k h _ => h)).below bA) (Kd.V_below hT bA (by decide)) ht (fun k h _ => Nat.ne_of_lt h.2) (fun k h _ => Nat.ne_of_lt (hok k h)) hR (seen_made w) (fun y h => by cases h))
  obtain ⟨Ab, cb, rfl⟩ := hV.form
  obtain ⟨At, ct, rfl, -⟩ := hT
  clear hV hok hR hrk h hx hs ht hlen
  cases hc : vinB x (sub (sig s) t) with
  | true =>
    have HE := Sec.mk hc
    have HR := Sec.mk hr
    clear hr hc hU hB bA
    go_enter Tryz.func86, Tryz.ntmps86
    go_wp2_with (go_at_call 96; refine HC.out.mono ?_; rw [HE.out]; rintro e w2 ⟨f1, rfl, hF, -, -⟩; have B2 := Sec.mk (Foot.below (w0 := w) hF (belA (Below.refl _ _) _) (fun k hk => Nat.le_of_eq hk.symm)); clear hF)
    refine bodyPost_ret (v := .tuple #[.slice none 0 0, .bool false]) (by simp [results, Tryz.results86, go_sem]) rfl ?_
    rw [HR.out, if_pos HE.out]
    exact ⟨okE, fun _ h => h, fun k h => Nat.lt_of_lt_of_le (HOK.out k h) B2.out.size, fun k _ hl => B2.out.block k hl, B2.out.mono HLB.out, rfl⟩
  | false =>
    have HE := Sec.mk hc
    have HR : Sec (r = some (s ++ [⟨x, t⟩])) := ⟨by rw [hr, hc]; rfl⟩
    clear hr hc hB bA
    rcases hU with ⟨A, e, hV⟩ | hW
    · have HV := Sec.mk hV
      simp only [Value.slice.injEq] at e
      obtain ⟨rfl, -, rfl⟩ := e
      go_enter Tryz.func86, Tryz.ntmps86
      go_wp2_with (first | (go_at_call 96; refine HC.out.mono ?_; rw [HE.out]; rintro e w2 ⟨f1, rfl, hF, -, -⟩; have B2 := Sec.mk (Foot.below (w0 := w) hF (belA (Below.refl _ _) _) (fun k hk => Nat.le_of_eq hk.symm)); clear hF) | (go_at_call 83; refine (cloneCells_c _ t okE w2 (Kd.V_below HT.out B2.out (by decide))).mono ?_; rintro e w3 ⟨u, rfl, hRc, hbc⟩; obtain ⟨Ac, cc, rfl, -, -⟩ := Kd.R_form hRc; have B3 := Sec.mk (bel B2.out hbc); have D3 := Sec.mk hbc; have K3 : Sec (kBind.K w3 (fun k => okE k ∨ (w2.heap.size ≤ k ∧ k < w3.heap.size)) ⟨x, t⟩ [.int .i64 x, .slice Ac t.length cc]) := ⟨kBind_mkK (Kd.V_move (fun k h1 h2 => ⟨.inr ⟨h1, h2⟩, rfl⟩) (Kd.R_V hRc) (by decide))⟩; have U3 := Sec.mk (HU.out.below (bel B2.out hbc)); clear hRc hbc) | (at_builtin; refine bv_grow rfl (.tmp 13) (.tmp 18) 90 Tryz.underlying90 rfl Ab s ⟨x, t⟩ [.int .i64 x, .slice Ac t.length cc] (fun k => k < B) (fun k => okE k ∨ (w2.heap.size ≤ k ∧ k < w3.heap.size)) rfl rfl rfl (((HV.out.below B3.out).move (Keeps.mono fun k h _ => h) (Keeps.mono fun k h _ => .inl h))) K3.out (by have := HLEN.out; omega) ?_; intro v1 w4 hW4 hg4; have W4 := Sec.mk hW4; have G4 := Sec.mk hg4; clear hW4 hg4))
      refine bodyPost_ret (v := .tuple #[v1, .bool true]) (by simp [results, Tryz.results86, go_sem]) rfl ?_
      rw [HR.out]
      exact upost_full HOK.out HLB.out B2.out D3.out G4.out W4.out
    · have HW := Sec.mk hW
      clear hW
      go_enter Tryz.func86, Tryz.ntmps86
      go_wp2_with (first | (go_at_call 96; refine HC.out.mono ?_; rw [HE.out]; rintro e w2 ⟨f1, rfl, hF, -, -⟩; have B2 := Sec.mk (Foot.below (w0 := w) hF (belA (Below.refl _ _) _) (fun k hk => Nat.le_of_eq hk.symm)); clear hF) | (go_at_call 83; refine (cloneCells_c _ t okE w2 (Kd.V_below HT.out B2.out (by decide))).mono ?_; rintro e w3 ⟨u, rfl, hRc, hbc⟩; obtain ⟨Ac, cc, rfl, -, -⟩ := Kd.R_form hRc; have B3 := Sec.mk (bel B2.out hbc); have D3 := Sec.mk hbc; have K3 : Sec (kBind.K w3 (fun k => okE k ∨ (w2.heap.size ≤ k ∧ k < w3.heap.size)) ⟨x, t⟩ [.int .i64 x, .slice Ac t.length cc]) := ⟨kBind_mkK (Kd.V_move (fun k h1 h2 => ⟨.inr ⟨h1, h2⟩, rfl⟩) (Kd.R_V hRc) (by decide))⟩; have U3 := Sec.mk (HU.out.below (bel B2.out hbc)); clear hRc hbc) | (at_builtin; refine Kd.W_app kBind rfl (.tmp 13) (.tmp 18) 90 (.agg #[.int .i64 0, .slice none 0 0]) 32 rfl Tryz.underlying90 info_bnd rfl (by decide) (by decide) _ s ⟨x, t⟩ [.int .i64 x, .slice Ac t.length cc] (fun k => (B ≤ k ∧ ¬ okE k) ∧ k < w2.heap.size) (fun k => okE k ∨ (w2.heap.size ≤ k ∧ k < w3.heap.size)) rfl rfl rfl (W_later HW.out B2.out D3.out) (K_later HW.out B2.out HOK.out K3.out) (by have := HLEN.out; omega) ?_; intro v1 w4 hW4 hg4; have W4 := Sec.mk hW4; have G4 := Sec.mk hg4; clear hW4 hg4))
      refine bodyPost_ret (v := .tuple #[v1, .bool true]) (by simp [results, Tryz.results86, go_sem]) rfl ?_
      rw [HR.out]
      exact upost_own HOK.out HLB.out HW.out B2.out D3.out G4.out W4.out
end
section
open Go.RowKit
set_option linter.unusedVariables false
set_option maxRecDepth 100000
theorem uniF_open {n : Nat} {s : List Bind} {a b : Term} {r : Option (List Bind)} (h : uniF (n + 1) s a b = some r) : ∃ c x d y, walkF s n a = some (c :: x) ∧ walkF s n b = some (d :: y) ∧
    (if c.kind = 1 then (if d = c then some (some s) else bindF s n c.n (d :: y)) else if d.kind = 1 then bindF s n d.n (c :: x) else if c ≠ d then some none else foldU (uniF n) s (args (c :: x)) (args (d :: y))) = some r := by
  rw [uniF] at h
  cases h1 : walkF s n a with
  | none => rw [h1] at h; cases h
  | some X =>
    cases h2 : walkF s n b with
    | none => rw [h1, h2] at h; cases X <;> cases h
    | some Y =>
      rw [h1, h2] at h
      cases X with
      | nil => cases h
      | cons c x =>
        cases Y with
        | nil => cases h
        | cons d y => exact ⟨c, x, d, y, rfl, rfl, h⟩
theorem walkF_free {s : List Bind} (hs : BOk s) {n : Nat} {t : Term} (ht : trmOk t = true) {c : Cell} {x : Term} (h : walkF s n t = some (c :: x)) (hk : c.kind = 1) : bget s c.n = none := by
  obtain ⟨m, u, h1, _, ⟨c', r', rfl, h3⟩, _⟩ := walk_total hs ht
  have e1 := walkF_mono (Nat.le_max_left n m) h
  have e2 := walkF_mono (Nat.le_max_right n m) h1
  rw [e1] at e2
  simp only [Option.some.injEq, List.cons.injEq] at e2
  rw [← e2.1] at h3
  exact (h3 hk).2.2
theorem foldU_cons {f : List Bind → Term → Term → Option (Option (List Bind))} {s : List Bind} {L M : List Term} {k : Nat} (h1 : k < L.length) (h2 : k < M.length) {r : Option (List Bind)} (h : foldU f s (L.drop k) (M.drop k) = some r) :
    (f s L[k] M[k] = some none ∧ r = none) ∨ ∃ s1, f s L[k] M[k] = some (some s1) ∧ foldU f s1 (L.drop (k + 1)) (M.drop (k + 1)) = some r := by
  rw [List.drop_eq_getElem_cons h1, List.drop_eq_getElem_cons h2, foldU] at h
  cases hf : f s L[k] M[k] with
  | none => rw [hf] at h; cases h
  | some q =>
    rw [hf] at h
    cases q with
    | none => simp only [Option.some.injEq] at h; exact .inl ⟨rfl, h.symm⟩
    | some s1 => exact .inr ⟨s1, rfl, h⟩
theorem foldU_end {f : List Bind → Term → Term → Option (Option (List Bind))} {s : List Bind} {L M : List Term} {k : Nat} (h1 : L.length ≤ k) {r : Option (List Bind)} (h : foldU f s (L.drop k) (M.drop k) = some r) : r = some s := by
  rw [List.drop_eq_nil_of_le h1, foldU] at h
  · cases h; rfl
  · intro _ _ _ _ h; cases h
theorem belDq {n : Nat} {w W : World} {m : Nat} (h : Below n w W) : Below n w (W.drewN m) := ⟨h.os, h.tape, h.output, h.size, h.block⟩
theorem UPost.form {w w' : World} {B : Nat} {okE : Nat → Prop} {e : Ending} {r : Option (List Bind)} (h : UPost w w' B okE e r) : ∃ v q, e = .returned (.tuple #[v, .bool q]) := by
  obtain ⟨_, _, _, _, _, h⟩ := h
  cases r with
  | none => exact ⟨_, _, h⟩
  | some s1 => obtain ⟨v1, h, _⟩ := h; exact ⟨_, _, h⟩
theorem UPost.same {w w' : World} {B : Nat} {okE : Nat → Prop} {v : Value} {s : List Bind} (hU : UOwn w B okE v s) (hok : ∀ k, okE k → k < w.heap.size) (hB : B ≤ w.heap.size) (hb : Below w.heap.size w w') : UPost w w' B okE (.returned (.tuple #[v, .bool true])) (some s) :=
  ⟨okE, fun _ h => h, fun k h => Nat.lt_of_lt_of_le (hok k h) hb.size, fun k _ hl => hb.block k hl, hb.mono hB, v, rfl, hU.below hb⟩
theorem UPost.no {w w' : World} {B : Nat} {okE : Nat → Prop} (hok : ∀ k, okE k → k < w.heap.size) (hB : B ≤ w.heap.size) (hb : Below w.heap.size w w') : UPost w w' B okE (.returned (.tuple #[.slice none 0 0, .bool false])) none :=
  ⟨okE, fun _ h => h, fun k h => Nat.lt_of_lt_of_le (hok k h) hb.size, fun k _ hl => hb.block k hl, hb.mono hB, rfl⟩
/-- An element of a row of terms. -/
theorem termAt {w : World} {ok : Nat → Prop} {A : Option Addr} {xs : List Term} (h : kTerm.C w ok A xs) (i : Nat) (hi : i < xs.length) : ∃ b off v, A = some ⟨b, off, none⟩ ∧ w.cell? ⟨b, off + i, none⟩ = some v ∧ kCell.V w ok v xs[i] := by
  obtain ⟨b, off, cs, hA, hb, hK, hc⟩ := Kd.C_get h (List.getElem?_eq_getElem hi)
  obtain ⟨v, rfl, hv⟩ := hK
  have := hc 0 _ rfl
  rw [show kTerm.sz = 1 from rfl, Nat.mul_one, Nat.add_zero] at this
  exact ⟨b, off, v, hA, this, hv⟩
theorem UOwn.grow {w w6 : World} {B : Nat} {okE okL : Nat → Prop} {v : Value} {s : List Bind} (h : UOwn w B okE v s) (hb : Below w.heap.size w w6) (h1 : ∀ k, okE k → okL k) (h2 : ∀ k, k < w.heap.size → okL k → okE k) : UOwn w6 B okL v s := by
  rcases h with ⟨A, h3, h4⟩ | h
  · exact .inl ⟨A, h3, (h4.below hb).mono (fun k h _ => h) (fun k h _ => h1 k h)⟩
  · exact .inr (Kd.W_move (fun k hk hl => ⟨⟨hk.1, fun e => hk.2 (h2 k hl e)⟩, hb.block k hl⟩) (fun k hk hl => ⟨h1 k hk, hb.block k hl⟩) h)
/-- What holds in the loop over the arguments. -/
def ULoop (n : Nat) (L M : List Term) (r : Option (List Bind)) (w6 wr : World) (B : Nat) (okL : Nat → Prop) (sv : Value) (k : Nat) : Prop := ∃ (s1 : List Bind) (okE1 : Nat → Prop), foldU (uniF n) s1 (L.drop k) (M.drop k) = some r ∧ BOk s1 ∧ UOwn wr B okE1 sv s1 ∧
  (∀ j, okL j → okE1 j) ∧ (∀ j, okE1 j → j < wr.heap.size) ∧ (∀ j, okL j → j < w6.heap.size → wr.heap[j]? = w6.heap[j]?) ∧ Below B w6 wr
theorem uloop_out {w w6 wr w7 : World} {B : Nat} {okE okL okE1 okE2 : Nat → Prop} (hb : Below w.heap.size w w6) (hB : B ≤ w.heap.size) (h1 : ∀ k, okE k → okL k) (h2 : ∀ k, okL k → okE1 k) (h3 : ∀ j, okL j → j < w6.heap.size → wr.heap[j]? = w6.heap[j]?) (h4 : Below B w6 wr)
    (q1 : ∀ k, okE1 k → okE2 k) (q2 : ∀ k, okE2 k → k < w7.heap.size) (q3 : ∀ k, okE1 k → k < wr.heap.size → w7.heap[k]? = wr.heap[k]?) (q4 : Below B wr w7) : (∀ k, okE k → okE2 k) ∧ (∀ k, okE2 k → k < w7.heap.size) ∧ (∀ k, okE k → k < w.heap.size → w7.heap[k]? = w.heap[k]?) ∧ Below B w w7 :=
  ⟨fun k h => q1 k (h2 k (h1 k h)), q2, fun k h hl => (q3 k (h2 k (h1 k h)) (Nat.lt_of_lt_of_le (Nat.lt_of_lt_of_le hl hb.size) h4.size)).trans ((h3 k (h1 k h) (Nat.lt_of_lt_of_le hl hb.size)).trans (hb.block k hl)), ((hb.mono hB).trans h4).trans q4⟩
theorem args_row {w2 W w5 w6 : World} {okE : Nat → Prop} {v : Value} {l : List Term} (h0 : W.heap.size = w2.heap.size) (h : kTerm.W w5 (fun k => W.heap.size ≤ k) (fun k => okE k ∧ k < W.heap.size) v l) (hb : Below w5.heap.size w5 w6) : kTerm.V w6 (fun k => okE k ∨ (w2.heap.size ≤ k ∧ k < w6.heap.size)) v l :=
  Kd.V_move (fun k hk hl => ⟨hk.elim (fun h => .inr ⟨by rw [← h0]; exact h, Nat.lt_of_lt_of_le hl hb.size⟩) (fun h => .inl h.1), hb.block k hl⟩) (Kd.W_V h) (by decide)
set_option maxHeartbeats 8000000 in
theorem unify_i : ∀ (n : Nat) (val va vb : Value) (s : List Bind) (a b : Term) (B : Nat) (okE : Nat → Prop) (w : World) (r : Option (List Bind)), BOk s → UOwn w B okE val s → kCell.V w okE va a → kCell.V w okE vb b → trmOk a = true → trmOk b = true → (∀ k, okE k → k < w.heap.size) → B ≤ w.heap.size → uniF n s a b = some r →
    Calls Tryz.prog 69 #[val, va, vb] w fun e w' => UPost w w' B okE e r := by
  intro n
  induction n with
  | zero => intro val va vb s a b B okE w r _ _ _ _ _ _ _ _ h; cases h
  | succ n IH =>
  intro val va vb s a b B okE w r hs hU hA hB ha hb hok hlb h
  obtain ⟨c, x, d, y, hwa, hwb, hrest⟩ := uniF_open h
  obtain ⟨okR, hV⟩ := hU.bv
  obtain ⟨Ab, cb, rfl⟩ := hU.form
  have HS := Sec.mk hs
  have HU := Sec.mk hU
  have HV := Sec.mk hV
  have HA := Sec.mk hA
  have HB := Sec.mk hB
  have HTA := Sec.mk ha
  have HTB := Sec.mk hb
  have HWA := Sec.mk hwa
  have HWB := Sec.mk hwb
  have HOK := Sec.mk hok
  have HLB := Sec.mk hlb
  have HTX := Sec.mk (walkF_trm hs ha hwa)
  have HTY := Sec.mk (walkF_trm hs hb hwb)
  have HNX := Sec.mk (fun hk : c.kind = 1 => walkF_free hs ha hwa hk)
  have HNY := Sec.mk (fun hk : d.kind = 1 => walkF_free hs hb hwb hk)
  have IHS := Sec.mk IH
  have hu := Tryz.underlying77
  have T0 : Sec True := ⟨trivial⟩
  clear hs hU hV hA hB ha hb hwa hwb hok hlb IH h
  have hr := hrest
  have HR := Sec.mk hr
  clear hr hrest
  go_enter Tryz.func69, Tryz.ntmps69
  go_wp2_with (first | (clear T1; go_at_call 85; have T2 : Sec True := ⟨trivial⟩; refine (walk_i n _ _ s b (d :: y) okR okE _ HS.out (HV.out.below B1.out) (Kd.V_below HB.out B1.out (by decide)) HTB.out HWB.out).mono ?_; rintro e w2 ⟨z, rfl, hz, hb2⟩; have ZB := Sec.mk hz; have ZA2 := Sec.mk (Kd.V_below ZA.out hb2 (by decide)); obtain ⟨b2, off2, cp2, rfl, -⟩ := cV_cons hz; have B2 := Sec.mk (bel B1.out hb2); clear hz hb2) | (clear T0; go_at_call 85; have T1 : Sec True := ⟨trivial⟩; refine (walk_i n _ _ s a (c :: x) okR okE _ HS.out HV.out HA.out HTA.out HWA.out).mono ?_; rintro e w1 ⟨z, rfl, hz, hb1⟩; have ZA := Sec.mk hz; obtain ⟨b1, off1, cp1, rfl, -⟩ := cV_cons hz; have B1 := Sec.mk hb1; clear hz hb1))
  obtain ⟨b1', off1', cp1', e1, p1, x0, x1, x2⟩ := cV_cons ZA2.out
  simp only [Value.slice.injEq, Option.some.injEq, Addr.mk.injEq, and_true, true_and] at e1
  obtain ⟨⟨rfl, rfl⟩, rfl⟩ := e1
  obtain ⟨b2', off2', cp2', e2, p2, y0, y1, y2⟩ := cV_cons ZB.out
  simp only [Value.slice.injEq, Option.some.injEq, Addr.mk.injEq, and_true, true_and] at e2
  obtain ⟨⟨rfl, rfl⟩, rfl⟩ := e2
  have i1 : (0 : Int) < ((x.length + 1 : Nat) : Int) := by omega
  have i2 : (0 : Int) < ((y.length + 1 : Nat) : Int) := by omega
  have HOK2 : Sec (∀ k, okE k → k < w2.heap.size) := ⟨fun k h => Nat.lt_of_lt_of_le (HOK.out k h) B2.out.size⟩
  have HLB2 : Sec (B ≤ w2.heap.size) := ⟨Nat.le_trans HLB.out B2.out.size⟩
  by_cases hk : c.kind = 1
  · have hr := HR.out
    rw [if_pos hk] at hr
    have d1 : (c.kind == 1) = true := beq_iff_eq.2 hk
    have HNC := Sec.mk (HNX.out hk)
    clear hk HR
    rcases cell_cases c d with ⟨hcd, g1, g2, g3⟩ | ⟨hcd, hg⟩
    · rw [if_pos hcd.symm] at hr
      cases hr
      clear hcd
      go_quiet (fail)
      go_wp2
      refine bodyPost_ret (v := .tuple #[.slice Ab s.length cb, .bool true]) (by simp [results, Tryz.results69, go_sem]) rfl ?_
      exact UPost.same HU.out HOK.out HLB.out (belDq B2.out)
    · rw [if_neg (fun e => hcd e.symm)] at hr
      have HR := Sec.mk hr
      clear hr hcd
      rcases hg with g1 | ⟨g1, g2⟩ | ⟨g1, g2, g3⟩
      all_goals
        go_quiet (fail)
        go_wp2_with (go_at_call 86; refine (bind_i HS.out n c.n HNC.out _ _ (d :: y) B okE _ (HU.out.below (belDq B2.out)) (Kd.V_below ZB.out (belDq (Below.refl _ _)) (by decide)) HTY.out HOK2.out HLB2.out r HR.out).mono ?_; rintro e w4 hp; have hp2 := UPost.pre hp (belDq B2.out) HLB.out; obtain ⟨v9, q9, rfl⟩ := hp2.form; have P4 := Sec.mk hp2; clear hp hp2)
        refine bodyPost_ret (v := .tuple #[v9, .bool q9]) (by simp [results, Tryz.results69, go_sem]) rfl ?_
        exact P4.out
  · have hr := HR.out
    rw [if_neg hk] at hr
    have d1 : (c.kind == 1) = false := beq_eq_false_iff_ne.2 hk
    clear hk HR
    by_cases hk2 : d.kind = 1
    · rw [if_pos hk2] at hr
      have HR := Sec.mk hr
      have d2 : (d.kind == 1) = true := beq_iff_eq.2 hk2
      have HND := Sec.mk (HNY.out hk2)
      clear hk2 hr
      go_quiet (fail)
      go_wp2_with (go_at_call 86; refine (bind_i HS.out n d.n HND.out _ _ (c :: x) B okE _ (HU.out.below (belDq B2.out)) (Kd.V_below ZA2.out (belDq (Below.refl _ _)) (by decide)) HTX.out HOK2.out HLB2.out r HR.out).mono ?_; rintro e w4 hp; have hp2 := UPost.pre hp (belDq B2.out) HLB.out; obtain ⟨v9, q9, rfl⟩ := hp2.form; have P4 := Sec.mk hp2; clear hp hp2)
      refine bodyPost_ret (v := .tuple #[v9, .bool q9]) (by simp [results, Tryz.results69, go_sem]) rfl ?_
      exact P4.out
    · rw [if_neg hk2] at hr
      have d2 : (d.kind == 1) = false := beq_eq_false_iff_ne.2 hk2
      clear hk2
      rcases cell_cases c d with ⟨hcd, g1, g2, g3⟩ | ⟨hcd, hg⟩
      · rw [if_neg (fun h => h hcd)] at hr
        have HR := Sec.mk hr
        have HCD := Sec.mk hcd
        clear hr hcd
        go_quiet (fail)
        go_wp2
        go_quiet (fail)
        obtain ⟨L, hL⟩ : ∃ L, args (c :: x) = L := ⟨_, rfl⟩
        obtain ⟨M, hM⟩ : ∃ M, args (d :: y) = M := ⟨_, rfl⟩
        have HL := Sec.mk hL
        have HM := Sec.mk hM
        have hlm : L.length = M.length := by rw [← hL, ← hM, (trmOk_Trm HTX.out).eq.2.1, (trmOk_Trm HTY.out).eq.2.1, HCD.out]
        have HLM := Sec.mk hlm
        have HLO : Sec (∀ a ∈ L, trmOk a = true) := ⟨by rw [← hL]; exact trmOk_args HTX.out⟩
        have HMO : Sec (∀ a ∈ M, trmOk a = true) := ⟨by rw [← hM]; exact trmOk_args HTY.out⟩
        clear hL hM hlm
        go_wp2_with (first | (clear T3; go_at_call 87; have T4 : Sec True := ⟨trivial⟩; refine (args_i _ (c :: x) okE w5 (Kd.V_below ZA2.out B5.out (by decide)) HTX.out).mono ?_; rw [HL.out]; rintro e w6 ⟨u6, rfl, hW6, hb6⟩; obtain ⟨A6, c6, rfl, -, -, -⟩ := Kd.W_form hW6; have B6 := Sec.mk (bel B5.out hb6); have R6 := Sec.mk (args_row (w2 := w5) rfl hW6 (Below.refl _ _)); have R5 := Sec.mk (Kd.V_below R5.out hb6 (by decide)); have Z6 := Sec.mk hb6.size; clear hW6 hb6) | (clear T2; go_at_call 87; have T3 : Sec True := ⟨trivial⟩; refine (args_i _ (d :: y) okE _ (Kd.V_below ZB.out (belDq (Below.refl _ _)) (by decide)) HTY.out).mono ?_; rw [HM.out]; rintro e w5 ⟨u5, rfl, hW5, hb5⟩; obtain ⟨A5, c5, rfl, -, -, -⟩ := Kd.W_form hW5; have B5 := Sec.mk (bel (belDq (Below.refl w2.heap.size w2)) hb5); have R5 := Sec.mk (args_row (w2 := w2) rfl hW5 (Below.refl _ _)); clear hW5 hb5))
        have hll : L.length ≤ 1073741824 := by obtain ⟨_, _, _, _, _, h, _⟩ := R6.out; exact h
        rw [← HLM.out]
        obtain ⟨okL, hokL⟩ : ∃ okL : Nat → Prop, okL = (fun k => okE k ∨ (w2.heap.size ≤ k ∧ k < w6.heap.size)) := ⟨_, rfl⟩
        have HOL := Sec.mk hokL
        have R6L : Sec (kTerm.V w6 okL (.slice A6 L.length c6) L) := ⟨Kd.V_move (Keeps.mono fun k h hl => by rw [hokL]; exact h.elim .inl (fun h => .inr ⟨Nat.le_trans B5.out.size h.1, hl⟩)) R6.out (by decide)⟩
        have R5L : Sec (kTerm.V w6 okL (.slice A5 L.length c5) M) := ⟨by rw [HLM.out]; exact Kd.V_move (Keeps.mono fun k h hl => by rw [hokL]; exact h.elim .inl (fun h => .inr ⟨h.1, hl⟩)) R5.out (by decide)⟩
        have HST : Sec (ULoop n L M r w6 w6 B okL (.slice Ab s.length cb) 0) := ⟨s, okL, by rw [List.drop_zero, List.drop_zero, ← HL.out, ← HM.out]; exact HR.out, HS.out, HU.out.grow (bel B2.out B6.out) (fun k h => by rw [hokL]; exact .inl h) (fun k hl h => by rw [hokL] at h; exact h.elim id (fun h => absurd (Nat.lt_of_lt_of_le hl B2.out.size) (Nat.not_lt_of_le h.1))), fun j h => h, fun j h => by
          rw [hokL] at h
          rcases h with h | h
          · exact Nat.lt_of_lt_of_le (HOK2.out j h) B6.out.size
          · exact h.2, fun j _ _ => rfl, Below.refl _ _⟩
        have HEL : Sec (∀ k, okE k → okL k) := ⟨fun k h => by rw [hokL]; exact .inl h⟩
        clear hokL
        go_loopw [0, 78] (fun sv iv wr => ∃ k : Nat, k ≤ L.length ∧ iv = .int .i64 k ∧ Sec (ULoop n L M r w6 wr B okL sv k)) (fun _ iv _ => L.length - (intOf iv).toNat)
        case atStart => exact ⟨0, Nat.zero_le _, rfl, HST⟩
        case round =>
          obtain ⟨k, hk, rfl, hsm⟩ := hrel
          obtain ⟨s1, okE1, h1, h2, h3, h4, h5, h6, h7⟩ := hsm.out
          obtain ⟨A8, c8, rfl⟩ := h3.form
          have HS1 := Sec.mk h2
          have HU1 := Sec.mk h3
          have HO1 := Sec.mk h5
          have HLE := Sec.mk h4
          have HK6 := Sec.mk h6
          have HB7 := Sec.mk h7
          have HLB3 : Sec (B ≤ wr.heap.size) := ⟨Nat.le_trans HLB2.out (Nat.le_trans B6.out.size h7.size)⟩
          have HFD := Sec.mk h1
          clear h1 h2 h3 h4 h5 h6 h7 hsm
          by_cases hlk : k < L.length
          · have hlk2 : k < M.length := by have := HLM.out; omega
            have KP : Keeps w6 wr okL okE1 := fun j h hl => ⟨HLE.out j h, HK6.out j h hl⟩
            obtain ⟨b6, off6, vA, rfl, a6, hvA⟩ := termAt (Kd.V_C (Kd.V_move KP R6L.out (by decide))) k hlk
            obtain ⟨b5, off5, vB, rfl, a5, hvB⟩ := termAt (Kd.V_C (Kd.V_move KP R5L.out (by decide))) k hlk2
            have hvA := Sec.mk hvA
            have hvB := Sec.mk hvB
            have HL1 := Sec.mk (HLO.out _ (List.getElem_mem hlk))
            have HM1 := Sec.mk (HMO.out _ (List.getElem_mem hlk2))
            have hfd := foldU_cons hlk hlk2 HFD.out
            generalize L[k] = l1 at *
            generalize M[k] = m1 at *
            have j0 : (0 : Int) ≤ (k : Int) := by omega
            have j1 : (k : Int) < (L.length : Int) := by omega
            clear KP hlk2
            rcases hfd with ⟨hf, hr⟩ | ⟨s2, hf, hn⟩
            · have HF := Sec.mk hf
              have HRR := Sec.mk hr
              clear hf hr
              go_wp2_with (go_at_call 69; refine (IHS.out _ vA vB s1 l1 m1 B okE1 wr none HS1.out HU1.out hvA.out hvB.out HL1.out HM1.out HO1.out HLB3.out HF.out).mono ?_; rintro e w7 hp; obtain ⟨okE2, q1, q2, q3, q4, rfl⟩ := hp; have Q1 := Sec.mk q1; have Q2 := Sec.mk q2; have Q3 := Sec.mk q3; have Q4 := Sec.mk q4;  clear q1 q2 q3 q4)
              refine bodyPost_ret (v := .tuple #[.slice none 0 0, .bool false]) (by simp [results, Tryz.results69, go_sem]) rfl ?_
              rw [HRR.out]
              obtain ⟨z1, z2, z3, z4⟩ := uloop_out (bel B2.out B6.out) HLB.out HEL.out HLE.out HK6.out HB7.out Q1.out Q2.out Q3.out Q4.out
              exact ⟨okE2, z1, z2, z3, z4, rfl⟩
            · have HF := Sec.mk hf
              have HN := Sec.mk hn
              clear hf hn
              go_wp2_with (go_at_call 69; refine (IHS.out _ vA vB s1 l1 m1 B okE1 wr (some s2) HS1.out HU1.out hvA.out hvB.out HL1.out HM1.out HO1.out HLB3.out HF.out).mono ?_; rintro e w7 hp; obtain ⟨okE2, q1, q2, q3, q4, v7, rfl, q5⟩ := hp; have Q1 := Sec.mk q1; have Q2 := Sec.mk q2; have Q3 := Sec.mk q3; have Q4 := Sec.mk q4; have Q5 := Sec.mk q5; clear q5; clear q1 q2 q3 q4)
              go_roundw
              case rel => exact ⟨k + 1, by omega, by go_num, ⟨s2, okE2, HN.out, ((uniF_ok HS1.out HL1.out HM1.out HF.out).yes s2 rfl).1, Q5.out, fun j h => Q1.out j (HLE.out j h), Q2.out, fun j h hl => (Q3.out j (HLE.out j h) (Nat.lt_of_lt_of_le hl HB7.out.size)).trans (HK6.out j h hl), HB7.out.trans Q4.out⟩⟩
              case measure => simp [intOf]; omega
          · have hre := foldU_end (by omega) HFD.out
            have HRE := Sec.mk hre
            clear hre
            go_wp2
            refine bodyPost_ret (v := .tuple #[.slice A8 s1.length c8, .bool true]) (by simp [results, Tryz.results69, go_sem]) rfl ?_
            rw [HRE.out]
            obtain ⟨z1, z2, z3, z4⟩ := uloop_out (bel B2.out B6.out) HLB.out HEL.out HLE.out HK6.out HB7.out (fun _ h => h) HO1.out (fun _ _ _ => rfl) (Below.refl _ _)
            exact ⟨okE1, z1, z2, z3, z4, _, rfl, HU1.out⟩
      · rw [if_pos hcd] at hr
        cases hr
        clear hcd
        rcases hg with g1 | ⟨g1, g2⟩ | ⟨g1, g2, g3⟩
        all_goals
          go_quiet (fail)
          go_wp2
          go_quiet (fail)
          go_wp2
          refine bodyPost_ret (v := .tuple #[.slice none 0 0, .bool false]) (by simp [results, Tryz.results69, go_sem]) rfl ?_
          exact UPost.no HOK.out HLB.out (belDq (belDq B2.out))
end
section
open Go.RowKit
set_option linter.unusedVariables false
set_option maxRecDepth 100000
theorem shifted_i (v : Value) (t : Term) (n : Int) (ok : Nat → Prop) (w : World) (hV : kCell.V w ok v t) :
    Calls Tryz.prog 70 #[v, .int .i64 n] w fun e w' => ∃ u, e = .returned u ∧ kCell.R w' (fun k => w.heap.size ≤ k) u (shifted t n) ∧ Below w.heap.size w w' := by
  have HVV := Sec.mk hV
  obtain ⟨A, c, rfl, h1, h2, h3, hC, hz⟩ := hV
  clear hC hz
  have hu := Tryz.underlying77
  go_enter Tryz.func70, Tryz.ntmps70
  go_wp2_with (go_at_call 83; refine (cloneCells_c _ t ok _ HVV.out).mono ?_; rintro e wc ⟨vc, rfl, hRc, hbc⟩; obtain ⟨Ac, cc, rfl, -, -⟩ := Kd.R_form hRc; have HRC := Sec.mk hRc; have BC := Sec.mk hbc; clear hRc hbc)
  go_loopw [11] (fun i wr => ∃ k : Nat, k ≤ t.length ∧ i = .int .i64 k ∧ Sec (kCell.R wr (fun k => w.heap.size ≤ k) (.slice Ac t.length cc) ((t.take k).map (shiftC n) ++ t.drop k)) ∧ Sec (Below w.heap.size w wr)) (fun i _ => t.length - (intOf i).toNat)
  case atStart => exact ⟨0, Nat.zero_le _, rfl, ⟨by simpa using HRC.out⟩, BC⟩
  case round =>
    obtain ⟨k, hk, rfl, hR, hb⟩ := hrel
    by_cases hlt : k < t.length
    · have hlen : ((t.take k).map (shiftC n) ++ t.drop k).length = t.length := by simp; omega
      have hkl : k < ((t.take k).map (shiftC n) ++ t.drop k).length := by omega
      obtain ⟨b, rfl, -, hSb, hbb, hfz⟩ := Kd.R_block hR.out (by omega)
      have f1 := hfz (k * 3 + 1)
      obtain ⟨b', off', hA', _, c0, c1, c2, hnm⟩ := cell_at (Kd.V_C (Kd.R_V hR.out)) k hkl
      simp only [Option.some.injEq, Addr.mk.injEq, and_true] at hA'
      obtain ⟨rfl, rfl⟩ := hA'
      simp only [Nat.zero_add] at c0 c1 c2
      have hel : ((t.take k).map (shiftC n) ++ t.drop k)[k]'hkl = t[k] := by
        rw [List.getElem_append_right (by simp; omega)]
        simp only [List.length_map, List.length_take, List.getElem_drop]
        congr 1; omega
      rw [hel] at c0 c1 c2 hnm
      have hnx : Sec (((t.take k).map (shiftC n) ++ t.drop k).set k (shiftC n t[k]) = (t.take (k + 1)).map (shiftC n) ++ t.drop (k + 1)) := ⟨by
        rw [List.take_succ_eq_append_getElem hlt, List.map_append, List.drop_eq_getElem_cons hlt, List.set_append_right _ _ (by simp; omega), List.length_map, List.length_take, Nat.min_eq_left (by omega), Nat.sub_self, List.set_cons_zero, List.append_assoc]
        rfl⟩
      have hel' := Sec.mk hel
      have HKL := Sec.mk hkl
      clear hel hlen hfz
      generalize t[k] = x at *
      by_cases hx : x.kind = 1
      · have hx' : (x.kind == 1) = true := beq_iff_eq.2 hx
        have hs : Sec (shiftC n x = ⟨x.kind, wrap64 (x.n + n), x.name⟩) := ⟨by unfold shiftC; rw [if_pos hx]⟩
        have M := Sec.mk (kCell_store hR.out k 1 ⟨x.kind, wrap64 (x.n + n), x.name⟩ (.int .i64 (wrap64 (x.n + n))) HKL.out (by decide) (by rw [hel'.out]; rfl) hnm)
        have MB := Sec.mk (hb.out.setCell (p := ⟨b, k * 3 + 1, none⟩) hSb (.int .i64 (wrap64 (x.n + n))))
        clear hx
        go_wp2
        go_roundw
        case rel => exact ⟨k + 1, by omega, by go_num, ⟨by rw [← hnx.out, hs.out]; exact M.out⟩, MB⟩
        case measure => simp [intOf]; omega
      · have hx' : (x.kind == 1) = false := beq_eq_false_iff_ne.2 hx
        have hs : Sec (shiftC n x = x) := ⟨by unfold shiftC; rw [if_neg hx]⟩
        have hnx2 : Sec ((t.take k).map (shiftC n) ++ t.drop k = (t.take (k + 1)).map (shiftC n) ++ t.drop (k + 1)) := ⟨by
          rw [← hnx.out, hs.out]
          conv => rhs; arg 3; rw [← hel'.out]
          rw [List.set_getElem_self]⟩
        clear hx
        go_wp2
        go_roundw
        case rel => exact ⟨k + 1, by omega, by go_num, ⟨by rw [← hnx2.out]; exact hR.out⟩, hb⟩
        case measure => simp [intOf]; omega
    · have hf : Sec ((t.take k).map (shiftC n) ++ t.drop k = shifted t n) := ⟨by rw [List.take_of_length_le (by omega), List.drop_of_length_le (by omega), List.append_nil]; rfl⟩
      have HR2 : Sec (kCell.R wr (fun k => w.heap.size ≤ k) (.slice Ac t.length cc) (shifted t n)) := ⟨by rw [← hf.out]; exact hR.out⟩
      clear hf hR
      go_wp2
      go_ret
      exact ⟨_, rfl, HR2.out, hb.out⟩
end
end Go.Proofs.YteflipoiiddkfaaGreatDoor
