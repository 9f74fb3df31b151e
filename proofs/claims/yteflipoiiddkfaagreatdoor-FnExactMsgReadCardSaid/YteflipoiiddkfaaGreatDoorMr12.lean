/- The code that a law is given: a row of bytes; and what goes with it. -/
import Derived.Test.YteflipoiiddkfaaGreatDoorMr2
import Derived.Test.YteflipoiiddkfaaGreatDoorMr7
import Derived.Test.YteflipoiiddkfaaGreatDoorMr8
import Derived.Test.YteflipoiiddkfaaGreatDoorMr11
namespace Go.Proofs.YteflipoiiddkfaaGreatDoor
section
open Go.RowKit
set_option linter.unusedVariables false
/-- What a law's row says of its bytes. -/
def CodeRow (w : World) (a : Option Addr) (len cap : Nat) (zs : List Int) : Prop :=
  (a = none ∧ len = 0 ∧ cap = 0 ∧ zs = []) ∨
  ∃ x, a = some x ∧ len ≤ cap ∧ cap ≤ maxLen ∧ zs.length = cap ∧ (∀ i, i < zs.length → w.cell? (x.add i) = some (.int .u8 (zs.getD i 0))) ∧ ∀ n ∈ zs, (Lit.int .u8 n).wf = true
theorem CodeRow.view {w : World} {a : Option Addr} {len cap : Nat} {zs : List Int} (h : CodeRow w a len cap zs) (hl : len ≤ 1073741824) : ∃ bs : List UInt8, bs.length = len ∧ kByte.V w (fun _ => True) (.slice a len cap) bs := by
  rcases h with ⟨rfl, rfl, rfl, rfl⟩ | ⟨x, rfl, h1, h2, h3, h4, h5⟩
  · exact ⟨[], rfl, Kd.V_nil _ _ _⟩
  · have hlen : ((zs.take len).map u8).length = len := by rw [List.length_map, List.length_take]; omega
    refine ⟨(zs.take len).map u8, hlen, some x, cap, by rw [hlen], by omega, h2, by omega, ?_, fun e => by cases e⟩
    by_cases h0 : len = 0
    · exact .inl (by subst h0; simp)
    · have hs : x.spot = none := by
        have := World.cell?_spot (h4 0 (by omega))
        simpa [Addr.add] using this
      obtain ⟨b, off, spot⟩ := x
      simp only at hs
      subst hs
      refine .inr ⟨b, off, rfl, trivial, fun i y hy => ?_⟩
      have hi : i < len := by have := (List.getElem?_eq_some_iff.1 hy).1; omega
      have hz : i < zs.length := by omega
      refine ⟨[byteC y], ⟨rfl, trivial⟩, fun j u hu => ?_⟩
      have hj : j = 0 := by
        have := (List.getElem?_eq_some_iff.1 hu).1
        simp at this; omega
      subst hj
      obtain rfl : byteC y = u := by simpa using hu
      have hc := h4 i hz
      have hwf := h5 _ (List.getElem_mem hz)
      rw [List.getElem?_map, List.getElem?_take, if_pos hi, List.getElem?_eq_getElem hz] at hy
      obtain rfl : u8 zs[i] = y := by simpa using hy
      have e1 : (⟨b, off, none⟩ : Addr).add i = ⟨b, off + (i * kByte.sz + 0), none⟩ := by
        have : kByte.sz = 1 := rfl
        rw [this]
        unfold Addr.add
        split
        · next h => subst h; simp
        · simp
      rw [e1] at hc
      show w.cell? ⟨b, off + (i * kByte.sz + 0), none⟩ = _
      rw [hc, List.getD_eq_getElem?_getD, List.getElem?_eq_getElem hz]
      have hr : 0 ≤ zs[i] ∧ zs[i] < 256 := by
        simp [Lit.wf, IntKind.min, IntKind.max, IntKind.bits, IntKind.signed] at hwf
        omega
      simp only [Option.getD_some, byteC, u8_toNat]
      rw [Int.emod_eq_of_lt hr.1 hr.2]
end
section
open Go.RowKit
set_option linter.unusedVariables false
set_option maxRecDepth 100000
/-- Between two numbers. -/
def Rg (a b : Nat) (k : Nat) : Prop := a ≤ k ∧ k < b
theorem tru_ {α : Type} [DecidableEq α] (t : α) : decide (t = t) = true := decide_eq_true rfl
def RO (w : World) (m : Msg) (bb : Bool) (e : Ending) (w' : World) : Prop := ∃ c : List Value, e = .returned (.tuple #[.agg c.toArray, .bool bb]) ∧ kMsg.O w' (fun k => w.heap.size ≤ k) m c ∧ Below w.heap.size w w'
theorem mCell_cntsM (t : Term) : mCell.cnts t = 3 * t.length := by
  unfold Mk.cnts
  induction t with
  | nil => rfl
  | cons x t ih => rw [List.map_cons, List.sum_cons, ih, List.length_cons]; show 1 + 1 + 1 + _ = _; omega
theorem read_cnt (bs : List UInt8) : mMsgt.cnt ((readD bs).getD zeroMsg) ≤ 1000 := by
  cases h : readD bs with
  | none =>
    have e : mMsgt.cnt zeroMsg = mCell.cnts [] + mCell.cnts [] := rfl
    rw [Option.getD_none, e]
    have : mCell.cnts [] = 0 := rfl
    omega
  | some m =>
    obtain ⟨h1, -⟩ := readD_bytes h
    obtain ⟨ht, -, -, -, -, h2, h3⟩ := msgOk_parts h1
    have e : mMsgt.cnt m = mCell.cnts m.top + mCell.cnts m.out.term := rfl
    rw [Option.getD_some, e, mCell_cntsM, mCell_cntsM]
    have := (trmOk_all ht).1
    by_cases hs : m.out.status = 2
    · have := (trmOk_all (h2 hs)).1; omega
    · rw [h3 hs]; simp; omega
set_option maxHeartbeats 8000000 in
theorem FnExactMsgRead_law_c (a : Option Addr) (len cap : Nat) (zs : List Int) (w : World) (hr : CodeRow w a len cap zs) :
    Calls Tryz.prog 4 #[.slice a len cap] w fun e w' => e = .returned (.bool true) ∧ Below w.heap.size w w' := by
  have hu2 := Tryz.underlying34
  by_cases hl : len ≤ 1048576
  · obtain ⟨bs, rfl, hV⟩ := hr.view (by omega)
    have AV := Sec.mk hV
    have HB : Sec (1 + mByte.cnts bs ≤ 100000000000) := ⟨by rw [mByte_cnts]; omega⟩
    have hrc := read_cnt bs
    obtain ⟨m, hm⟩ : ∃ m, m = (readD bs).getD zeroMsg := ⟨_, rfl⟩
    obtain ⟨bb, hbb⟩ : ∃ bb, bb = (readD bs).isSome := ⟨_, rfl⟩
    rw [← hm] at hrc
    have HD : Sec (∀ w e w', ReadOut w (readD bs) e w' → RO w m bb e w') := ⟨fun w e w' h => by rw [hm, hbb]; exact h⟩
    have HC : Sec (1 + mMsgt.cnt m ≤ 100000000000) := ⟨by omega⟩
    have hne : (bb != bb) = false := bne_self_eq_false _
    clear hV hr hm hbb hrc
    have T0 : Sec True := ⟨trivial⟩
    go_enter Tryz.func4, Tryz.ntmps4
    go_wp2_with (first | (clear T17; go_at_call 17; have T18 : Sec True := ⟨trivial⟩; refine (heldMsgMsg_c m cg _ 1 (by omega) (by have := HC.out; omega) _ (kMsg.O_K M_17.out)).mono ?_; rintro e w18 ⟨rfl, hb⟩; have c2 : ¬ (1 + ((mMsgt.cnt m : Nat) : Int) < 0) := (by omega); have Z18 := Sec.mk hb.size; have B_18 := Sec.mk (bel B_17.out hb); clear hb) | (with_reducible show wpList _ _ _ (⟨some 85, .load 34 (.tmp 6), _, _, _, _⟩ :: _) _ _; refine wpList_load (cs := cg) (by first | rfl | (simp [Region.wanted]; done) | (simp [Region.wanted, yielded, Act.put]; omega)) 34 (.tmp 6) rfl rfl BG_17.out hu2 rfl (by rw [cg_len.out]; kernel_rfl) ?_) | (clear T16; go_at_call 10; have T17 : Sec True := ⟨trivial⟩; refine (eqMsgMsg_c m m ch cu _ _ _ (kMsg.O_K H_16.out) (kMsg.O_K U_16.out)).mono ?_; rintro e w17 ⟨rfl, hb⟩; rw [tru_]; have Z17 := Sec.mk hb.size; have B_17 := Sec.mk (bel B_16.out hb); have BG_17 := Sec.mk (carryB hb BG_16.out); have M_17 := Sec.mk (Kd.O_below M_16.out hb); clear hb) | (with_reducible show wpList _ _ _ (⟨some 77, .load 34 (.tmp 3), _, _, _, _⟩ :: _) _ _; refine wpList_load (cs := cu) (by first | rfl | (simp [Region.wanted]; done) | (simp [Region.wanted, yielded, Act.put]; omega)) 34 (.tmp 3) rfl rfl BU_16.out hu2 rfl (by rw [cu_len.out]; kernel_rfl) ?_) | (with_reducible show wpList _ _ _ (⟨some 76, .load 34 (.tmp 11), _, _, _, _⟩ :: _) _ _; refine wpList_load (cs := ch) (by first | rfl | (simp [Region.wanted]; done) | (simp [Region.wanted, yielded, Act.put]; omega)) 34 (.tmp 11) rfl rfl BH_16.out hu2 rfl (by rw [ch_len.out]; kernel_rfl) ?_) | (clear T15; with_reducible show wpList _ _ _ (⟨none, .store 34 (.tmp 11) (.tmp 74), _, _, _, _⟩ :: _) _ _; have T16 : Sec True := ⟨trivial⟩; refine wpList_store (cs := ch) (old := #[.int .i64 0, .int .i64 0, .slice none 0 0, .int .i64 0, .int .i64 0, .slice none 0 0]) rfl 34 (.tmp 11) (.tmp 74) rfl rfl rfl (heap_alloc_new w15 _) (by rw [ch_len.out]; kernel_rfl) (by rw [ch_len.out]; kernel_rfl) (kMsg.K_one (kMsg.O_K H_15.out)) ?_; intro w16 hb' hF'; have ZS16 : Sec (w15.heap.size < w16.heap.size) := ⟨(Array.getElem?_eq_some_iff.1 hb').1⟩; have hb : Below w15.heap.size w15 w16 := hF'.below (belA (Below.refl _ _) _) (fun k h => Nat.le_of_eq (show k = w15.heap.size from h).symm); have Z16 := Sec.mk hb.size; have BH_16 : Sec (w16.heap[w15.heap.size]? = some (.cells (ch).toArray 34 (0, 0))) := ⟨hb'⟩; have B_16 := Sec.mk (bel B_15.out hb); have U_16 := Sec.mk (Kd.O_below U_15.out hb); have BU_16 := Sec.mk (carryB hb BU_15.out); have BG_16 := Sec.mk (carryB hb BG_15.out); have M_16 := Sec.mk (Kd.O_below M_15.out hb); have H_16 := Sec.mk (Kd.O_below H_15.out hb); clear hb hb' hF') | (clear T14; go_at_call 16; have T15 : Sec True := ⟨trivial⟩; refine (MsgRead_i _ bs _ _ (by omega) (Kd.R_V Y2_14.out)).mono ?_; rintro e w15 hh; obtain ⟨ch, rfl, hO, hb⟩ := HD.out _ _ _ hh; clear hh; have ch_len := Sec.mk (kMsg.K_len (kMsg.O_K hO)); have Z15 := Sec.mk hb.size; have H_15 : Sec (kMsg.O w15 (Rg w14.heap.size w15.heap.size) m ch) := ⟨Kd.O_mono hO (fun k h1 h2 => ⟨h1, h2⟩)⟩; have B_15 := Sec.mk (bel B_14.out hb); have U_15 := Sec.mk (Kd.O_below U_14.out hb); have BU_15 := Sec.mk (carryB hb BU_14.out); have BG_15 := Sec.mk (carryB hb BG_14.out); have M_15 := Sec.mk (Kd.O_below M_14.out hb); clear hb hO) | (clear T13; go_at_call 15; have T14 : Sec True := ⟨trivial⟩; refine (toSByte_c _ bs _ _ (Kd.V_below AV.out B_13.out (by decide))).mono ?_; rintro e w14 ⟨y2, rfl, hR, hb⟩; have Z14 := Sec.mk hb.size; have Y2_14 : Sec (kByte.R w14 (Rg w13.heap.size w14.heap.size) y2 bs) := ⟨Kd.R_mono hR (fun k h1 h2 => ⟨h1, h2⟩)⟩; have B_14 := Sec.mk (bel B_13.out hb); have U_14 := Sec.mk (Kd.O_below U_13.out hb); have BU_14 := Sec.mk (carryB hb BU_13.out); have BG_14 := Sec.mk (carryB hb BG_13.out); have M_14 := Sec.mk (Kd.O_below M_13.out hb); clear hb hR) | (clear T12; go_at_call 17; have T13 : Sec True := ⟨trivial⟩; refine (heldMsgMsg_c m cg _ 1 (by omega) (by have := HC.out; omega) _ (kMsg.O_K M_12.out)).mono ?_; rintro e w13 ⟨rfl, hb⟩; have c2 : ¬ (1 + ((mMsgt.cnt m : Nat) : Int) < 0) := (by omega); have Z13 := Sec.mk hb.size; have B_13 := Sec.mk (bel B_12.out hb); have U_13 := Sec.mk (Kd.O_below U_12.out hb); have BU_13 := Sec.mk (carryB hb BU_12.out); have BG_13 := Sec.mk (carryB hb BG_12.out); have M_13 := Sec.mk (Kd.O_below M_12.out hb); clear hb) | (with_reducible show wpList _ _ _ (⟨some 62, .load 34 (.tmp 6), _, _, _, _⟩ :: _) _ _; refine wpList_load (cs := cg) (by first | rfl | (simp [Region.wanted]; done) | (simp [Region.wanted, yielded, Act.put]; omega)) 34 (.tmp 6) rfl rfl BG_12.out hu2 rfl (by rw [cg_len.out]; kernel_rfl) ?_) | (clear T11; go_at_call 11; have T12 : Sec True := ⟨trivial⟩; refine (markMsgMsg_c m cg _ 1 (by omega) (by have := HC.out; omega) _ G_11.out).mono ?_; rintro e w12 ⟨rfl, hO', hF⟩; have Z12 := Sec.mk hF.size; have M_12 := Sec.mk (hO'); have B_12 := Sec.mk (hF.below B_11.out (fun k h => by unfold Rg at h; have z1 := Z1.out; have z2 := Z2.out; have z3 := Z3.out; have z4 := Z4.out; have z5 := Z5.out; have z6 := Z6.out; have z7 := Z7.out; have z8 := Z8.out; have z9 := Z9.out; have z10 := Z10.out; have z11 := Z11.out; have zs3 := ZS3.out; have zs6 := ZS6.out; omega)); have U_12 := Sec.mk (Foot.O hF U_11.out (fun k h1 h2 => by unfold Rg at h1 h2; have z1 := Z1.out; have z2 := Z2.out; have z3 := Z3.out; have z4 := Z4.out; have z5 := Z5.out; have z6 := Z6.out; have z7 := Z7.out; have z8 := Z8.out; have z9 := Z9.out; have z10 := Z10.out; have z11 := Z11.out; have zs3 := ZS3.out; have zs6 := ZS6.out; omega)); have BU_12 := Sec.mk (carry hF BU_11.out (fun h => by unfold Rg at h; have z1 := Z1.out; have z2 := Z2.out; have z3 := Z3.out; have z4 := Z4.out; have z5 := Z5.out; have z6 := Z6.out; have z7 := Z7.out; have z8 := Z8.out; have z9 := Z9.out; have z10 := Z10.out; have z11 := Z11.out; have zs3 := ZS3.out; have zs6 := ZS6.out; omega)); have BG_12 := Sec.mk (carry hF BG_11.out (fun h => by unfold Rg at h; have z1 := Z1.out; have z2 := Z2.out; have z3 := Z3.out; have z4 := Z4.out; have z5 := Z5.out; have z6 := Z6.out; have z7 := Z7.out; have z8 := Z8.out; have z9 := Z9.out; have z10 := Z10.out; have z11 := Z11.out; have zs3 := ZS3.out; have zs6 := ZS6.out; omega)); clear hF hO') | (with_reducible show wpList _ _ _ (⟨some 59, .load 34 (.tmp 6), _, _, _, _⟩ :: _) _ _; refine wpList_load (cs := cg) (by first | rfl | (simp [Region.wanted]; done) | (simp [Region.wanted, yielded, Act.put]; omega)) 34 (.tmp 6) rfl rfl BG_11.out hu2 rfl (by rw [cg_len.out]; kernel_rfl) ?_) | (clear T10; go_at_call 10; have T11 : Sec True := ⟨trivial⟩; refine (eqMsgMsg_c m m cg cu _ _ _ (kMsg.O_K G_10.out) (kMsg.O_K U_10.out)).mono ?_; rintro e w11 ⟨rfl, hb⟩; rw [tru_]; have Z11 := Sec.mk hb.size; have B_11 := Sec.mk (bel B_10.out hb); have U_11 := Sec.mk (Kd.O_below U_10.out hb); have BU_11 := Sec.mk (carryB hb BU_10.out); have G_11 := Sec.mk (Kd.O_below G_10.out hb); have BG_11 := Sec.mk (carryB hb BG_10.out); clear hb) | (with_reducible show wpList _ _ _ (⟨some 50, .load 34 (.tmp 3), _, _, _, _⟩ :: _) _ _; refine wpList_load (cs := cu) (by first | rfl | (simp [Region.wanted, yielded, Act.put]; done) | (simp [Region.wanted, yielded, Act.put]; omega)) 34 (.tmp 3) rfl rfl BU_10.out hu2 rfl (by rw [cu_len.out]; kernel_rfl) ?_) | (with_reducible show wpList _ _ _ (⟨some 49, .load 34 (.tmp 6), _, _, _, _⟩ :: _) _ _; refine wpList_load (cs := cg) (by first | rfl | (simp [Region.wanted, yielded]; done) | (simp [Region.wanted, yielded]; omega)) 34 (.tmp 6) rfl rfl BG_10.out hu2 rfl (by rw [cg_len.out]; kernel_rfl) ?_) | (clear T9; go_at_call 12; have T10 : Sec True := ⟨trivial⟩; refine (markSByte_c _ bs _ 1 (by omega) (by have := HB.out; omega) _ X_9.out).mono ?_; rintro e w10 ⟨rfl, -, hF⟩; have c1 : ¬ (1 + ((mByte.cnts bs : Nat) : Int) < 0) := (by omega); have Z10 := Sec.mk hF.size; have B_10 := Sec.mk (hF.below B_9.out (fun k h => by unfold Rg at h; have z1 := Z1.out; have z2 := Z2.out; have z3 := Z3.out; have z4 := Z4.out; have z5 := Z5.out; have z6 := Z6.out; have z7 := Z7.out; have z8 := Z8.out; have z9 := Z9.out; have zs3 := ZS3.out; have zs6 := ZS6.out; omega)); have U_10 := Sec.mk (Foot.O hF U_9.out (fun k h1 h2 => by unfold Rg at h1 h2; have z1 := Z1.out; have z2 := Z2.out; have z3 := Z3.out; have z4 := Z4.out; have z5 := Z5.out; have z6 := Z6.out; have z7 := Z7.out; have z8 := Z8.out; have z9 := Z9.out; have zs3 := ZS3.out; have zs6 := ZS6.out; omega)); have BU_10 := Sec.mk (carry hF BU_9.out (fun h => by unfold Rg at h; have z1 := Z1.out; have z2 := Z2.out; have z3 := Z3.out; have z4 := Z4.out; have z5 := Z5.out; have z6 := Z6.out; have z7 := Z7.out; have z8 := Z8.out; have z9 := Z9.out; have zs3 := ZS3.out; have zs6 := ZS6.out; omega)); have G_10 := Sec.mk (Foot.O hF G_9.out (fun k h1 h2 => by unfold Rg at h1 h2; have z1 := Z1.out; have z2 := Z2.out; have z3 := Z3.out; have z4 := Z4.out; have z5 := Z5.out; have z6 := Z6.out; have z7 := Z7.out; have z8 := Z8.out; have z9 := Z9.out; have zs3 := ZS3.out; have zs6 := ZS6.out; omega)); have BG_10 := Sec.mk (carry hF BG_9.out (fun h => by unfold Rg at h; have z1 := Z1.out; have z2 := Z2.out; have z3 := Z3.out; have z4 := Z4.out; have z5 := Z5.out; have z6 := Z6.out; have z7 := Z7.out; have z8 := Z8.out; have z9 := Z9.out; have zs3 := ZS3.out; have zs6 := ZS6.out; omega)); clear hF) | (clear T8; go_at_call 9; have T9 : Sec True := ⟨trivial⟩; refine (eqSByte_c _ _ bs bs _ _ _ (Kd.R_V X_8.out) (Kd.R_V Z_8.out)).mono ?_; rintro e w9 ⟨rfl, hb⟩; rw [tru_]; have Z9 := Sec.mk hb.size; have B_9 := Sec.mk (bel B_8.out hb); have U_9 := Sec.mk (Kd.O_below U_8.out hb); have BU_9 := Sec.mk (carryB hb BU_8.out); have X_9 := Sec.mk (Kd.R_below X_8.out hb); have G_9 := Sec.mk (Kd.O_below G_8.out hb); have BG_9 := Sec.mk (carryB hb BG_8.out); clear hb) | (clear T7; go_at_call 15; have T8 : Sec True := ⟨trivial⟩; refine (toSByte_c _ bs _ _ (Kd.V_below AV.out B_7.out (by decide))).mono ?_; rintro e w8 ⟨z, rfl, hR, hb⟩; have Z8 := Sec.mk hb.size; have Z_8 : Sec (kByte.R w8 (Rg w7.heap.size w8.heap.size) z bs) := ⟨Kd.R_mono hR (fun k h1 h2 => ⟨h1, h2⟩)⟩; have B_8 := Sec.mk (bel B_7.out hb); have U_8 := Sec.mk (Kd.O_below U_7.out hb); have BU_8 := Sec.mk (carryB hb BU_7.out); have X_8 := Sec.mk (Kd.R_below X_7.out hb); have G_8 := Sec.mk (Kd.O_below G_7.out hb); have BG_8 := Sec.mk (carryB hb BG_7.out); clear hb hR) | (clear T6; go_at_call 10; have T7 : Sec True := ⟨trivial⟩; refine (eqMsgMsg_c m m cg cu _ _ _ (kMsg.O_K G_6.out) (kMsg.O_K U_6.out)).mono ?_; rintro e w7 ⟨rfl, hb⟩; rw [tru_]; have Z7 := Sec.mk hb.size; have B_7 := Sec.mk (bel B_6.out hb); have U_7 := Sec.mk (Kd.O_below U_6.out hb); have BU_7 := Sec.mk (carryB hb BU_6.out); have X_7 := Sec.mk (Kd.R_below X_6.out hb); have G_7 := Sec.mk (Kd.O_below G_6.out hb); have BG_7 := Sec.mk (carryB hb BG_6.out); clear hb) | (with_reducible show wpList _ _ _ (⟨some 30, .load 34 (.tmp 3), _, _, _, _⟩ :: _) _ _; refine wpList_load (cs := cu) (by first | rfl | (simp [Region.wanted]; done) | (simp [Region.wanted, yielded, Act.put]; omega)) 34 (.tmp 3) rfl rfl BU_6.out hu2 rfl (by rw [cu_len.out]; kernel_rfl) ?_) | (with_reducible show wpList _ _ _ (⟨some 29, .load 34 (.tmp 6), _, _, _, _⟩ :: _) _ _; refine wpList_load (cs := cg) (by first | rfl | (simp [Region.wanted]; done) | (simp [Region.wanted, yielded, Act.put]; omega)) 34 (.tmp 6) rfl rfl BG_6.out hu2 rfl (by rw [cg_len.out]; kernel_rfl) ?_) | (clear T5; with_reducible show wpList _ _ _ (⟨none, .store 34 (.tmp 6) (.tmp 27), _, _, _, _⟩ :: _) _ _; have T6 : Sec True := ⟨trivial⟩; refine wpList_store (cs := cg) (old := #[.int .i64 0, .int .i64 0, .slice none 0 0, .int .i64 0, .int .i64 0, .slice none 0 0]) rfl 34 (.tmp 6) (.tmp 27) rfl rfl rfl (heap_alloc_new w5 _) (by rw [cg_len.out]; kernel_rfl) (by rw [cg_len.out]; kernel_rfl) (kMsg.K_one (kMsg.O_K G_5.out)) ?_; intro w6 hb' hF'; have ZS6 : Sec (w5.heap.size < w6.heap.size) := ⟨(Array.getElem?_eq_some_iff.1 hb').1⟩; have hb : Below w5.heap.size w5 w6 := hF'.below (belA (Below.refl _ _) _) (fun k h => Nat.le_of_eq (show k = w5.heap.size from h).symm); have Z6 := Sec.mk hb.size; have BG_6 : Sec (w6.heap[w5.heap.size]? = some (.cells (cg).toArray 34 (0, 0))) := ⟨hb'⟩; have B_6 := Sec.mk (bel B_5.out hb); have U_6 := Sec.mk (Kd.O_below U_5.out hb); have BU_6 := Sec.mk (carryB hb BU_5.out); have X_6 := Sec.mk (Kd.R_below X_5.out hb); have G_6 := Sec.mk (Kd.O_below G_5.out hb); clear hb hb' hF') | (clear T4; go_at_call 16; have T5 : Sec True := ⟨trivial⟩; refine (MsgRead_i _ bs _ _ (by omega) (Kd.R_V X_4.out)).mono ?_; rintro e w5 hh; obtain ⟨cg, rfl, hO, hb⟩ := HD.out _ _ _ hh; clear hh; have cg_len := Sec.mk (kMsg.K_len (kMsg.O_K hO)); have Z5 := Sec.mk hb.size; have G_5 : Sec (kMsg.O w5 (Rg w4.heap.size w5.heap.size) m cg) := ⟨Kd.O_mono hO (fun k h1 h2 => ⟨h1, h2⟩)⟩; have B_5 := Sec.mk (bel B_4.out hb); have U_5 := Sec.mk (Kd.O_below U_4.out hb); have BU_5 := Sec.mk (carryB hb BU_4.out); have X_5 := Sec.mk (Kd.R_below X_4.out hb); clear hb hO) | (clear T3; go_at_call 15; have T4 : Sec True := ⟨trivial⟩; refine (toSByte_c _ bs _ _ (Kd.V_below AV.out B_3.out (by decide))).mono ?_; rintro e w4 ⟨x, rfl, hR, hb⟩; have Z4 := Sec.mk hb.size; have X_4 : Sec (kByte.R w4 (Rg w3.heap.size w4.heap.size) x bs) := ⟨Kd.R_mono hR (fun k h1 h2 => ⟨h1, h2⟩)⟩; have B_4 := Sec.mk (bel B_3.out hb); have U_4 := Sec.mk (Kd.O_below U_3.out hb); have BU_4 := Sec.mk (carryB hb BU_3.out); clear hb hR) | (clear T2; with_reducible show wpList _ _ _ (⟨none, .store 34 (.tmp 3) (.tmp 20), _, _, _, _⟩ :: _) _ _; have T3 : Sec True := ⟨trivial⟩; refine wpList_store (cs := cu) (old := #[.int .i64 0, .int .i64 0, .slice none 0 0, .int .i64 0, .int .i64 0, .slice none 0 0]) rfl 34 (.tmp 3) (.tmp 20) rfl rfl rfl (heap_alloc_new w2 _) (by rw [cu_len.out]; kernel_rfl) (by rw [cu_len.out]; kernel_rfl) (kMsg.K_one (kMsg.O_K U_2.out)) ?_; intro w3 hb' hF'; have ZS3 : Sec (w2.heap.size < w3.heap.size) := ⟨(Array.getElem?_eq_some_iff.1 hb').1⟩; have hb : Below w2.heap.size w2 w3 := hF'.below (belA (Below.refl _ _) _) (fun k h => Nat.le_of_eq (show k = w2.heap.size from h).symm); have Z3 := Sec.mk hb.size; have BU_3 : Sec (w3.heap[w2.heap.size]? = some (.cells (cu).toArray 34 (0, 0))) := ⟨hb'⟩; have B_3 := Sec.mk (bel B_2.out hb); have U_3 := Sec.mk (Kd.O_below U_2.out hb); clear hb hb' hF') | (clear T1; go_at_call 14; have T2 : Sec True := ⟨trivial⟩; refine (MsgRead_c _ bs _ _ (by omega) (Kd.R_V Y_1.out)).mono ?_; rintro e w2 hh; obtain ⟨cu, rfl, hO, hb⟩ := HD.out _ _ _ hh; clear hh; have cu_len := Sec.mk (kMsg.K_len (kMsg.O_K hO)); have Z2 := Sec.mk hb.size; have U_2 : Sec (kMsg.O w2 (Rg w1.heap.size w2.heap.size) m cu) := ⟨Kd.O_mono hO (fun k h1 h2 => ⟨h1, h2⟩)⟩; have B_2 := Sec.mk (bel B_1.out hb); clear hb hO) | (clear T0; go_at_call 15; have T1 : Sec True := ⟨trivial⟩; refine (toSByte_c _ bs _ _ AV.out).mono ?_; rintro e w1 ⟨y, rfl, hR, hb⟩; have Z1 := Sec.mk hb.size; have Y_1 : Sec (kByte.R w1 (Rg w.heap.size w1.heap.size) y bs) := ⟨Kd.R_mono hR (fun k h1 h2 => ⟨h1, h2⟩)⟩; have B_1 := Sec.mk (bel (Below.refl w.heap.size w) hb); clear hb hR))
    go_ret
    exact ⟨rfl, B_18.out⟩
  · go_enter Tryz.func4, Tryz.ntmps4
    go_wp2
    go_ret
    exact ⟨rfl, Below.refl _ _⟩
end
end Go.Proofs.YteflipoiiddkfaaGreatDoor
