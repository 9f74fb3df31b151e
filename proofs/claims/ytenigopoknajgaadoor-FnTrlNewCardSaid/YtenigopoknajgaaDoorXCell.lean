/- What the exact laws' own functions do with the type TrmCell: turned, sized, compared, marked, held. -/
import Derived.Test.YtenigopoknajgaaDoorExB
namespace Go.Proofs.YtenigopoknajgaaDoor
open Go.RowKit
set_option linter.unusedVariables false
set_option maxRecDepth 100000
theorem kCell_K {w : World} {ok : Nat → Prop} {x : Cell} {cs : List Value} (h : kCell.K w ok x cs) : cs = [.int .i64 x.kind, .int .i64 x.n, .string x.name] ∧ x.name.size ≤ 1073741824 := kCell_open h
theorem kCell_f_kind : Kd.Fld kCell (Kd.int 3) 0 (fun x => x.kind) (fun x y => { x with kind := y }) := Kd.Fld.iso _ (Kd.Fld.fst (Kd.Fld.self _)) (fun _ _ => rfl)
theorem kCell_f_n : Kd.Fld kCell (Kd.int 3) 1 (fun x => x.n) (fun x y => { x with n := y }) := Kd.Fld.iso _ (Kd.Fld.snd (Kd.Fld.fst (Kd.Fld.self _))) (fun _ _ => rfl)
theorem kCell_f_name : Kd.Fld kCell (Kd.str 9) 2 (fun x => x.name) (fun x y => { x with name := y }) := Kd.Fld.iso _ (Kd.Fld.snd (Kd.Fld.snd (Kd.Fld.self _))) (fun _ _ => rfl)
def mCell : Mk Cell := ⟨fun x => 1 + 1 + 1, fun x k => ⟨k, k + 1, mt (k + 1 + 1)⟩⟩
theorem mCell_cnt (x : Cell) : mCell.cnt x = 1 + 1 + 1 := rfl
set_option maxHeartbeats 2000000 in
theorem markSCell_c (v : Value) (t : List Cell) (S : Nat → Prop) (k : Int) (hk : 0 ≤ k) (hk2 : k + mCell.cnts t ≤ 1000000000000000000) (w : World) (hR : kCell.R w S v t) :
    Calls Tryd.prog 18 #[v, .int .i64 k] w fun e w' => e = .returned (.int .i64 (k + mCell.cnts t)) ∧ kCell.R w' S v (mCell.mks t k) ∧ Foot S w w' := by
  obtain ⟨A, cp, hv, g1, g2⟩ := Kd.R_form hR
  subst hv
  have h3 : t.length ≤ 1073741824 := hR.1
  have HR := Sec.mk hR
  have hu := Tryd.underlying54
  clear hR
  have HN := Sec.mk (mCell.cnts_take t)
  have HM := Sec.mk (mCell.cnts_le t)
  have HX := Sec.mk (mCell.next t k)
  go_enter Tryd.func18, Tryd.ntmps18
  go_wp2
  go_loopw [1, 5] (fun kv iv wr => ∃ i : Nat, i ≤ t.length ∧ iv = .int .i64 i ∧ kv = .int .i64 (k + ↑(mCell.cnts (t.take i))) ∧ Sec (kCell.R wr S (.slice A t.length cp) (mCell.mks (t.take i) k ++ t.drop i)) ∧ Sec (Foot S w wr)) (fun _ iv _ => t.length - (intOf iv).toNat)
  case atStart => exact ⟨0, Nat.zero_le _, rfl, by simp [Mk.cnts], ⟨by simpa [Mk.mks] using HR.out⟩, ⟨Foot.refl _ _⟩⟩
  case round =>
    obtain ⟨i, hi, rfl, rfl, hM, hF⟩ := hrel
    by_cases hlt : i < t.length
    · have hL : (mCell.mks (t.take i) k ++ t.drop i).length = t.length := mCell.len_ t k i
      have hil : i < (mCell.mks (t.take i) k ++ t.drop i).length := by omega
      obtain ⟨b, rfl, -, hSb, hbb, -⟩ := Kd.R_block hM.out (by omega)
      obtain ⟨cs, hA, -⟩ := Kd.At.of_R hM.out hil
      rw [mCell.at_ t k i hlt] at hA
      have hnext := Sec.mk (HX.out i hlt)
      have hn1 := HN.out i hlt
      have hn2 := HM.out (i + 1)
      rw [hn1] at hn2
      have HN1 := Sec.mk hn1
      have F0 := hF
      clear hM hn1 hL
      generalize mCell.mks (t.take i) k ++ t.drop i = L at *
      generalize t[i] = x at *
      generalize mCell.cnts (t.take i) = c at *
      have hcx : Sec (mCell.cnt x = _) := ⟨mCell_cnt x⟩
      rw [mCell_cnt x] at hn2
      have hAt := hA
      obtain ⟨rfl, -⟩ := kCell_K hA.K
      have A0 := Sec.mk hA
      clear hA hAt
      have c0_0 : wr.cell? ⟨b, i * 3, none⟩ = some (.int .i64 x.kind) := Kd.At.cell A0.out 0 _ rfl
      have c0_1 : wr.cell? ⟨b, i * 3 + 1, none⟩ = some (.int .i64 x.n) := Kd.At.cell A0.out 1 _ rfl
      have c0_2 : wr.cell? ⟨b, i * 3 + 2, none⟩ = some (.string x.name) := Kd.At.cell A0.out 2 _ rfl
      have f0_0 : wr.frozen? ⟨b, i * 3, none⟩ = false := Kd.At.frozen A0.out (i * 3)
      have f0_1 : wr.frozen? ⟨b, i * 3 + 1, none⟩ = false := Kd.At.frozen A0.out (i * 3 + 1)
      have f0_2 : wr.frozen? ⟨b, i * 3 + 2, none⟩ = false := Kd.At.frozen A0.out (i * 3 + 2)
      have A1 : Sec (Kd.At kCell (wr.setCell ⟨b, i * 3, none⟩ (.int .i64 (k + (c : Int)))) S b t.length cp L i ⟨k + (c : Int), x.n, x.name⟩ [.int .i64 (k + (c : Int)), .int .i64 x.n, .string x.name]) := ⟨Kd.At.store (e := (Kd.int 3)) A0.out kCell_f_kind rfl (k + (c : Int)) (.int .i64 (k + (c : Int))) (fun _ _ => ⟨rfl, trivial⟩)⟩
      have F1 : Sec (Foot S w (wr.setCell ⟨b, i * 3, none⟩ (.int .i64 (k + (c : Int))))) := ⟨F0.out.set (g := b) (.inl hSb) (i * 3) (.int .i64 (k + (c : Int)))⟩
      have A2 : Sec (Kd.At kCell ((wr.setCell ⟨b, i * 3, none⟩ (.int .i64 (k + (c : Int)))).setCell ⟨b, i * 3 + 1, none⟩ (.int .i64 (k + (c : Int) + 1))) S b t.length cp L i ⟨k + (c : Int), k + (c : Int) + 1, x.name⟩ [.int .i64 (k + (c : Int)), .int .i64 (k + (c : Int) + 1), .string x.name]) := ⟨Kd.At.store (e := (Kd.int 3)) A1.out kCell_f_n rfl (k + (c : Int) + 1) (.int .i64 (k + (c : Int) + 1)) (fun _ _ => ⟨rfl, trivial⟩)⟩
      have F2 : Sec (Foot S w ((wr.setCell ⟨b, i * 3, none⟩ (.int .i64 (k + (c : Int)))).setCell ⟨b, i * 3 + 1, none⟩ (.int .i64 (k + (c : Int) + 1)))) := ⟨F1.out.set (g := b) (.inl hSb) (i * 3 + 1) (.int .i64 (k + (c : Int) + 1))⟩
      have T0 : Sec True := ⟨trivial⟩
      go_wp2_with (first | (clear T0; go_at_call 43; have T1 : Sec True := ⟨trivial⟩; refine (markText_c (k + (c : Int) + 1 + 1) (by omega) _).mono ?_; rintro e w1 ⟨rfl, hz, hb'⟩; have A3 : Sec (Kd.At kCell w1 S b t.length cp L i ⟨k + (c : Int), k + (c : Int) + 1, x.name⟩ [.int .i64 (k + (c : Int)), .int .i64 (k + (c : Int) + 1), .string x.name]) := ⟨Kd.At.below A2.out hb'⟩; have F3 : Sec (Foot S w w1) := ⟨F2.out.trans (Foot.of_below (S := S) hb') (fun _ _ h => h)⟩; clear hb'; clear c0_0 f0_0 c0_1 f0_1 c0_2 f0_2; have c1_0 : w1.cell? ⟨b, i * 3, none⟩ = some (.int .i64 (k + (c : Int))) := Kd.At.cell A3.out 0 _ rfl; have c1_1 : w1.cell? ⟨b, i * 3 + 1, none⟩ = some (.int .i64 (k + (c : Int) + 1)) := Kd.At.cell A3.out 1 _ rfl; have c1_2 : w1.cell? ⟨b, i * 3 + 2, none⟩ = some (.string x.name) := Kd.At.cell A3.out 2 _ rfl; have f1_0 : w1.frozen? ⟨b, i * 3, none⟩ = false := Kd.At.frozen A3.out (i * 3); have f1_1 : w1.frozen? ⟨b, i * 3 + 1, none⟩ = false := Kd.At.frozen A3.out (i * 3 + 1); have f1_2 : w1.frozen? ⟨b, i * 3 + 2, none⟩ = false := Kd.At.frozen A3.out (i * 3 + 2); have A4 : Sec (Kd.At kCell (w1.setCell ⟨b, i * 3 + 2, none⟩ (.string (mt (k + (c : Int) + 1 + 1)))) S b t.length cp L i ⟨k + (c : Int), k + (c : Int) + 1, (mt (k + (c : Int) + 1 + 1))⟩ [.int .i64 (k + (c : Int)), .int .i64 (k + (c : Int) + 1), .string (mt (k + (c : Int) + 1 + 1))]) := ⟨Kd.At.store (e := (Kd.str 9)) A3.out kCell_f_name rfl (mt (k + (c : Int) + 1 + 1)) (.string (mt (k + (c : Int) + 1 + 1))) (fun _ _ => ⟨rfl, hz⟩)⟩; have F4 : Sec (Foot S w (w1.setCell ⟨b, i * 3 + 2, none⟩ (.string (mt (k + (c : Int) + 1 + 1))))) := ⟨F3.out.set (g := b) (.inl hSb) (i * 3 + 2) (.string (mt (k + (c : Int) + 1 + 1)))⟩; clear hz))
      go_roundw
      case rel => exact ⟨i + 1, by omega, by go_num, by rw [HN1.out, hcx.out]; congr 1; omega, ⟨by rw [← hnext.out]; exact A4.out.R⟩, F4⟩
      case measure => simp [intOf]; omega
    · have hfin : Sec (mCell.mks (t.take i) k ++ t.drop i = mCell.mks t k) := ⟨by rw [List.take_of_length_le (by omega), List.drop_of_length_le (by omega), List.append_nil]⟩
      have hM2 := hM.out
      rw [hfin.out] at hM2
      have HM2 := Sec.mk hM2
      have hi2 : Sec (k + ↑(mCell.cnts (t.take i)) = k + ↑(mCell.cnts t)) := ⟨by rw [List.take_of_length_le (by omega)]⟩
      clear hM2 hM hfin
      go_wp2
      go_ret
      exact ⟨ri hi2.out, HM2.out, hF.out⟩
theorem rCell_le6 (x : Cell) : mCell.cnt x ≤ 8 + 8 * rCell.wt x := by rw [mCell_cnt]; omega
set_option maxHeartbeats 1000000 in
theorem heldSCell_c (v : Value) (t : List Cell) (ok : Nat → Prop) (k : Int) (hk : 0 ≤ k) (hk2 : k + mCell.cnts t ≤ 1000000000000000000) (w : World) (hV : kCell.V w ok v (mCell.mks t k)) :
    Calls Tryd.prog 50 #[v, .int .i64 k] w fun e w' => e = .returned (.int .i64 (k + mCell.cnts t)) ∧ Below w.heap.size w w' := by
  obtain ⟨A, cp, rfl, g1, g2, g3, hC, _⟩ := hV
  rw [Mk.mks_len] at g1 g3
  rw [Mk.mks_len]
  have HC := Sec.mk hC
  have hu := Tryd.underlying54
  clear hC
  have HN := Sec.mk (mCell.cnts_take t)
  have HM := Sec.mk (mCell.cnts_le t)
  have HG := Sec.mk (mCell.get t k)
  have HLn := Sec.mk (mCell.mks_len t k)
  go_enter Tryd.func50, Tryd.ntmps50
  go_wp2
  go_loopw [1, 5] (fun kv iv wr => ∃ i : Nat, i ≤ t.length ∧ iv = .int .i64 i ∧ kv = .int .i64 (k + ↑(mCell.cnts (t.take i))) ∧ Sec (Below w.heap.size w wr)) (fun _ iv _ => t.length - (intOf iv).toNat)
  case atStart => exact ⟨0, Nat.zero_le _, rfl, by simp [Mk.cnts], ⟨Below.refl _ _⟩⟩
  case round =>
    obtain ⟨i, hi, rfl, rfl, hb⟩ := hrel
    by_cases hlt : i < t.length
    · obtain ⟨b, off, cs, rfl, hob, hK, hc⟩ := Kd.C_get HC.out (List.getElem?_eq_getElem (by rw [HLn.out]; exact hlt))
      rw [HG.out i hlt] at hK
      have hn1 := HN.out i hlt
      have hn2 := HM.out (i + 1)
      rw [hn1] at hn2
      have HN1 := Sec.mk hn1
      clear hn1
      generalize t[i] = x at *
      generalize mCell.cnts (t.take i) = c at *
      have hcx : Sec (mCell.cnt x = _) := ⟨mCell_cnt x⟩
      rw [mCell_cnt x] at hn2
      obtain ⟨rfl, -⟩ := kCell_K hK
      have hat : Sec (∀ W : World, Below w.heap.size w W → W.cell? ⟨b, off + i * 3, none⟩ = some (.int .i64 (k + (c : Int))) ∧ W.cell? ⟨b, off + i * 3 + 1, none⟩ = some (.int .i64 (k + (c : Int) + 1)) ∧ W.cell? ⟨b, off + i * 3 + 2, none⟩ = some (.string (mt (k + (c : Int) + 1 + 1)))) := ⟨fun W h => ⟨Raw.cell_below h (hc 0 _ rfl), Raw.cell_below h (hc 1 _ rfl), Raw.cell_below h (hc 2 _ rfl)⟩⟩
      have i0 : (0 : Int) ≤ (i : Int) := by omega
      have i1 : (i : Int) < (t.length : Int) := by omega
      clear hc hK
      obtain ⟨c0, c1, c2⟩ := hat.out _ hb.out
      have B0 := hb
      go_wp2
      go_region_held3 (fun W => W.cell? ⟨b, off + i * 3, none⟩ = some (.int .i64 (k + (c : Int))) ∧ W.cell? ⟨b, off + i * 3 + 1, none⟩ = some (.int .i64 (k + (c : Int) + 1)) ∧ W.cell? ⟨b, off + i * 3 + 2, none⟩ = some (.string (mt (k + (c : Int) + 1 + 1))))
          (first | (refine ⟨?_, ?_, ?_⟩ <;> assumption) | go_keep)
          (first | (go_at_call 43; refine (markText_c (k + (c : Int) + 1 + 1) (by omega) _).mono ?_; rintro e w1 ⟨rfl, hz, hb1⟩; have B1 := Sec.mk (bel (belD hb.out) hb1); clear c0 c1 c2; obtain ⟨c0, c1, c2⟩ := hat.out _ B1.out; clear hb1))
      all_goals
        go_wp2
        go_roundw
        case rel => exact ⟨i + 1, by omega, by go_num, by rw [HN1.out, hcx.out]; congr 1; omega, B1⟩
        case measure => simp [intOf]; omega
    · have hi2 : Sec (k + ↑(mCell.cnts (t.take i)) = k + ↑(mCell.cnts t)) := ⟨by rw [List.take_of_length_le (by omega)]⟩
      go_wp2
      go_ret
      exact ⟨ri hi2.out, hb.out⟩
end Go.Proofs.YtenigopoknajgaaDoor
