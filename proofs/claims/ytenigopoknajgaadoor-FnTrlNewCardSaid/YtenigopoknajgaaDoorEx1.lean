/- The exact laws' own functions: what they do on places. -/
import Derived.Test.YtenigopoknajgaaDoorRows2
import Derived.Test.YtenigopoknajgaaDoorRaw
import Derived.KernelRfl
import Derived.Laws.IdiomStrings
import Derived.Test.YtenigopoknajgaaDoorBytes
namespace Go.Proofs.YtenigopoknajgaaDoor
open Go.RowKit
set_option linter.unusedVariables false
set_option maxRecDepth 100000
theorem toCell_c (x : Cell) (w : World) : Calls Tryd.prog 38 #[x.agg] w fun e w' => e = .returned x.agg ∧ Below w.heap.size w w' := by
  have hu := Tryd.underlying54
  have hu2 := Tryd.underlying71
  go_enter Tryd.func38, Tryd.ntmps38
  go_wp2
  exact bodyPost_ret (v := x.agg) (by simp [results, Tryd.results38, go_sem]) rfl ⟨rfl, belA (belA (belA (Below.refl _ _) _) _) _⟩
def zeroCell : Cell := ⟨0, 0, ⟨#[]⟩⟩
theorem made {P : Program} (t e : TypeId) (z : Value) (size bytes : Nat) (ht : P.underlying t = some (.slice e)) (hinfo : (P.info? e).map (fun i => (i.zero, i.size, i.bytes)) = some (some z, size, bytes)) (hb : bytes ≤ 1000) (n : Nat) (hn : n ≤ 1073741824) (w : World) :
    (Instr.makeSlice t (.int .i64 (n : Int)) (.int .i64 (n : Int))).run P w = .ok (.slice (some ⟨w.heap.size, 0, none⟩) n n) (w.alloc (.cells (madeCells z.cells (n * size)) e)) := by
  obtain ⟨i0, hi, hzz⟩ := Option.map_eq_some_iff.1 hinfo
  simp only [Prod.mk.injEq] at hzz
  obtain ⟨hz0, rfl, rfl⟩ := hzz
  have hbb : (i0.bytes : Int) * (n : Int) ≤ 281474976710656 := by
    have h1 : i0.bytes * n ≤ 1000 * 1073741824 := Nat.mul_le_mul hb hn
    have h2 : ((i0.bytes * n : Nat) : Int) ≤ 281474976710656 := by omega
    rwa [Int.natCast_mul] at h2
  have hr := run_make (P := P) w t e i0 z ht hi hz0 .i64 .i64 n n (by omega) (by omega) hbb (by omega)
  simp only [Int.toNat_natCast] at hr
  exact hr
theorem put_next {α : Type} (t : List α) (z : α) (k : Nat) (h : k < t.length) : (t.take k ++ List.replicate (t.length - k) z).set k t[k] = t.take (k + 1) ++ List.replicate (t.length - (k + 1)) z := by
  have e : t.length - k = (t.length - (k + 1)) + 1 := by omega
  rw [e, List.replicate_succ, List.set_append_right _ _ (by rw [List.length_take]; omega), List.length_take, Nat.min_eq_left (by omega), Nat.sub_self, List.set_cons_zero, List.take_succ_eq_append_getElem h, List.append_assoc]
  rfl
theorem toCells_c (v : Value) (t : Term) (ok : Nat → Prop) (w : World) (hV : kCell.V w ok v t) :
    Calls Tryd.prog 15 #[v] w fun e w' => ∃ u, e = .returned u ∧ kCell.R w' (fun k => w.heap.size ≤ k) u t ∧ Below w.heap.size w w' := by
  obtain ⟨A, c, rfl, h1, h2, h3, hC, _⟩ := hV
  have HC := Sec.mk hC
  clear hC
  have hu := Tryd.underlying54
  have hu2 := Tryd.underlying71
  have hmk := made (P := Tryd.prog) 23 54 (.agg #[.int .i64 0, .int .i64 0, .string ⟨#[]⟩]) 3 32 Tryd.underlying23 (by kernel_rfl) (by decide) t.length h3
  have HM := Sec.mk (Kd.R_made (d := kCell) (w := w) (B := w.heap.size) (x0 := zeroCell) (z := #[.int .i64 0, .int .i64 0, .string ⟨#[]⟩]) (n := t.length) (fun w => kCell_mk w _ zeroCell (by decide)) rfl (Nat.le_refl _) h3)
  go_enter Tryd.func15, Tryd.ntmps15
  go_wp2
  clear hmk
  go_loopw [4] (fun i wr => ∃ k : Nat, k ≤ t.length ∧ i = .int .i64 k ∧ Sec (kCell.R wr (fun k => w.heap.size ≤ k) (.slice (some ⟨w.heap.size, 0, none⟩) t.length t.length) (t.take k ++ List.replicate (t.length - k) zeroCell)) ∧ Sec (Below w.heap.size w wr)) (fun i _ => t.length - (intOf i).toNat)
  case atStart => exact ⟨0, Nat.zero_le _, rfl, ⟨HM.out⟩, ⟨belA (Below.refl _ _) _⟩⟩
  case round =>
    obtain ⟨k, hk, rfl, hR, hb⟩ := hrel
    by_cases hlt : k < t.length
    · obtain ⟨b, off, rfl, hob, c0, c1, c2, hnm⟩ := cell_at (Kd.C_below HC.out hb.out (by decide)) k hlt
      have hL : Sec ((t.take k ++ List.replicate (t.length - k) zeroCell).length = t.length) := ⟨by simp; omega⟩
      have hset : Sec ((t.take k ++ List.replicate (t.length - k) zeroCell).set k t[k] = t.take (k + 1) ++ List.replicate (t.length - (k + 1)) zeroCell) := ⟨put_next t zeroCell k hlt⟩
      generalize t[k] = x at *
      go_wp2_with (go_at_call 38; refine (toCell_c x _).mono ?_; rintro e w1 ⟨rfl, hb1⟩; have R1 := Sec.mk (Kd.R_below hR.out hb1); have B1 := Sec.mk (bel hb.out hb1); obtain ⟨u0, d0, f0⟩ := Kd.R_cell R1.out k 0 (by rw [hL.out]; exact hlt) (by decide); obtain ⟨u1, d1, f1⟩ := Kd.R_cell R1.out k 1 (by rw [hL.out]; exact hlt) (by decide); obtain ⟨u2, d2, f2⟩ := Kd.R_cell R1.out k 2 (by rw [hL.out]; exact hlt) (by decide); rw [show kCell.sz = 3 from rfl] at d0 f0 d1 f1 d2 f2; rw [Nat.add_zero] at d0 f0; have P1 := Sec.mk (Kd.R_put R1.out k (by rw [hL.out]; exact hlt) (kCell_mk w1 (fun _ => False) x hnm) (fun _ h => h.elim)); have F1 := Sec.mk ((Foot.refl (fun k => w.heap.size ≤ k) w1).setCells (g := w.heap.size) (.inl (Nat.le_refl _)) (cellC x) (k * 3)); clear c0 c1 c2)
      go_roundw
      case rel => exact ⟨k + 1, by omega, by go_num, ⟨by rw [← hset.out]; exact Kd.R_mono P1.out (fun k h _ => h.elim id False.elim)⟩, ⟨F1.out.below B1.out (fun _ h => h)⟩⟩
      case measure => simp [intOf]; omega
    · have hfin : Sec (t.take k ++ List.replicate (t.length - k) zeroCell = t) := ⟨by rw [List.take_of_length_le (by omega), show t.length - k = 0 by omega]; simp⟩
      have hR2 := hR.out
      rw [hfin.out] at hR2
      have HR2 := Sec.mk hR2
      clear hR2 hfin hR
      go_wp2
      go_ret
      exact ⟨_, rfl, HR2.out, hb.out⟩
theorem szCell_c (x : Cell) (left : Nat) (hx : x.name.size ≤ maxLen) (hl : left ≤ 1048576) (w : World) :
    Calls Tryd.prog 37 #[x.agg, .int .i64 left] w fun e w' => e = .returned (.int .i64 (if x.name.size ≤ left then (left : Int) - x.name.size else -1)) ∧ Below w.heap.size w w' := by
  have hx2 : x.name.size ≤ 9223372036854775807 := by simpa [maxLen] using hx
  have hu2 := Tryd.underlying71
  by_cases h : x.name.size ≤ left
  · rw [if_pos h]
    go_enter Tryd.func37, Tryd.ntmps37
    go_wp2
    go_ret
    exact ⟨rfl, belA (Below.refl _ _) _⟩
  · rw [if_neg h]
    go_enter Tryd.func37, Tryd.ntmps37
    go_wp2
    go_ret
    exact ⟨rfl, belA (Below.refl _ _) _⟩
theorem toList_loop (s : ByteArray) : ∀ n i r, s.size - i = n → ByteArray.toList.loop s i r = r.reverse ++ s.data.toList.drop i
  | 0, i, r, h => by
    unfold ByteArray.toList.loop
    have h0 : ¬ i < s.size := by omega
    have : s.size = s.data.toList.length := by simp
    rw [if_neg h0, List.drop_of_length_le (by omega), List.append_nil]
  | n + 1, i, r, h => by
    unfold ByteArray.toList.loop
    have hi : i < s.size := by omega
    have hi2 : i < s.data.toList.length := by simpa using hi
    rw [if_pos hi, toList_loop s n (i + 1) _ (by omega), List.drop_eq_getElem_cons hi2, List.reverse_cons, List.append_assoc]
    have : s.get! i = s.data.toList[i] := by
      simp only [ByteArray.get!, Array.getElem_toList]
      exact getElem!_pos s.data i (by simpa using hi)
    rw [this]; rfl
theorem toList_data (s : ByteArray) : s.toList = s.data.toList := by
  show ByteArray.toList.loop s 0 [] = _
  rw [toList_loop s _ 0 [] rfl]; simp
theorem toList_inj {s t : ByteArray} : s.toList = t.toList ↔ s = t := by
  rw [toList_data, toList_data, Array.toList_inj]
  constructor
  · intro h; cases s; cases t; simp at h; simp [h]
  · rintro rfl; rfl
theorem eqCell_c (x y : Cell) (w : World) :
    Calls Tryd.prog 42 #[x.agg, y.agg] w fun e w' => e = .returned (.bool (decide (x = y))) ∧ Below w.heap.size w w' := by
  have hu := Tryd.underlying54
  have hxy := Cell.ext_iff x y
  by_cases h1 : x.kind = y.kind
  · have g1 : (x.kind == y.kind) = true := beq_iff_eq.2 h1
    by_cases h2 : x.n = y.n
    · have g2 : (x.n == y.n) = true := beq_iff_eq.2 h2
      by_cases h3 : x.name = y.name
      · have g3 : (x.name.toList == y.name.toList) = true := beq_iff_eq.2 (toList_inj.2 h3)
        have hd : Sec (decide (x = y) = true) := ⟨by rw [decide_eq_true_eq, hxy]; exact ⟨h1, h2, h3⟩⟩
        go_enter Tryd.func42, Tryd.ntmps42
        go_wp2
        go_ret
        exact ⟨rb hd.out.symm, belA (belA (Below.refl _ _) _) _⟩
      · have g3 : (x.name.toList == y.name.toList) = false := beq_eq_false_iff_ne.2 (fun h => h3 (toList_inj.1 h))
        have hd : Sec (decide (x = y) = false) := ⟨by rw [decide_eq_false_iff_not, hxy]; exact fun h => h3 h.2.2⟩
        go_enter Tryd.func42, Tryd.ntmps42
        go_wp2
        go_ret
        exact ⟨rb hd.out.symm, belA (belA (Below.refl _ _) _) _⟩
    · have g2 : (x.n == y.n) = false := beq_eq_false_iff_ne.2 h2
      have hd : Sec (decide (x = y) = false) := ⟨by rw [decide_eq_false_iff_not, hxy]; exact fun h => h2 h.2.1⟩
      go_enter Tryd.func42, Tryd.ntmps42
      go_wp2
      go_ret
      exact ⟨rb hd.out.symm, belA (belA (Below.refl _ _) _) _⟩
  · have g1 : (x.kind == y.kind) = false := beq_eq_false_iff_ne.2 h1
    have hd : Sec (decide (x = y) = false) := ⟨by rw [decide_eq_false_iff_not, hxy]; exact fun h => h1 h.1⟩
    go_enter Tryd.func42, Tryd.ntmps42
    go_wp2
    go_ret
    exact ⟨rb hd.out.symm, belA (belA (Below.refl _ _) _) _⟩
/-- A number's last digit. -/
def dig (n : Nat) : UInt8 := u8 (48 + (n : Int) % 10)
theorem dig_toNat (n : Nat) : ((dig n).toNat : Int) = 48 + (n : Int) % 10 := by unfold dig; rw [u8_toNat]; omega
theorem dig_str (n : Nat) (w : World) : (convert 22 9 (.slice (some ⟨w.heap.size, 0, none⟩) 1 1)).run Tryd.prog (w.alloc (.cells #[.int .u8 (48 + (n : Int) % 10)] 5)) = .ok (.string ⟨#[dig n]⟩) (w.alloc (.cells #[.int .u8 (48 + (n : Int) % 10)] 5)) := by
  refine run_convert_bytes_back _ 22 9 5 ⟨w.heap.size, 0, none⟩ 1 [dig n] Tryd.underlying22 (by kernel_rfl) (by kernel_rfl) (fun j hj => ?_)
  have hj0 : j = 0 := by simp at hj; omega
  subst hj0
  rw [show ([dig n][0]'hj) = dig n from rfl, dig_toNat]
  rw [show Addr.add ⟨w.heap.size, 0, none⟩ 0 = ⟨w.heap.size, 0, none⟩ from rfl, cell_of_row _ _ _ _ _ _ (heap_alloc_new w _)]
  rfl
/-- The letter m and a number's digits. -/
def mtd (n : Nat) (out : ByteArray) : ByteArray := if n = 0 then out else mtd (n / 10) (⟨#[dig n]⟩ ++ out)
termination_by n
decreasing_by omega
def mt (k : Int) : ByteArray := if k ≤ 0 then ⟨#[109, 48]⟩ else ⟨#[109]⟩ ++ mtd k.toNat ⟨#[]⟩
theorem pow10_step {n j : Nat} (h : n < 10 ^ j) (hn : 0 < n) : ∃ i, j = i + 1 ∧ n / 10 < 10 ^ i := by
  cases j with
  | zero => simp at h; omega
  | succ i => exact ⟨i, rfl, Nat.div_lt_of_lt_mul (by rw [Nat.pow_succ] at h; omega)⟩
theorem markText_c (k : Int) (hk : k ≤ 1000000000000000000) (w : World) :
    Calls Tryd.prog 43 #[.int .i64 k] w fun e w' => e = .returned (.string (mt k)) ∧ (mt k).size ≤ 1073741824 ∧ Below w.heap.size w w' := by
  by_cases h0 : k ≤ 0
  · have hm : Sec (mt k = ⟨#[109, 48]⟩) := ⟨if_pos h0⟩
    go_enter Tryd.func43, Tryd.ntmps43
    go_wp2
    go_ret
    exact ⟨by rw [hm.out]; rfl, by rw [hm.out]; decide, Below.refl _ _⟩
  · obtain ⟨n0, rfl⟩ : ∃ n : Nat, k = (n : Int) := ⟨k.toNat, by omega⟩
    have hm : Sec (mt n0 = ⟨#[109]⟩ ++ mtd n0 ⟨#[]⟩) := ⟨by unfold mt; rw [if_neg h0]; rfl⟩
    have hp0 : Sec (n0 < 10 ^ 19) := ⟨by omega⟩
    go_enter Tryd.func43, Tryd.ntmps43
    go_wp2
    go_loopw [0, 3] (fun kv ov wr => ∃ (n : Nat) (o : ByteArray), kv = .int .i64 n ∧ ov = .string o ∧ n ≤ 1000000000000000000 ∧ o.size ≤ 19 ∧ Sec (∃ j, n < 10 ^ j ∧ o.size + j ≤ 19) ∧ Sec (mtd n o = mtd n0 ⟨#[]⟩) ∧ Sec (Below w.heap.size w wr)) (fun kv _ _ => (intOf kv).toNat)
    case atStart => exact ⟨n0, ⟨#[]⟩, rfl, rfl, by omega, by decide, ⟨19, hp0.out, by decide⟩, ⟨rfl⟩, ⟨Below.refl _ _⟩⟩
    case round =>
      obtain ⟨n, o, rfl, rfl, hn, ho, hJ, hM, hb⟩ := hrel
      by_cases hp : n = 0
      · subst hp
        have hM2 : Sec (o = mtd n0 ⟨#[]⟩) := ⟨by rw [← hM.out]; unfold mtd; rfl⟩
        have ho2 : Sec (o.size ≤ 19) := ⟨ho⟩
        go_wp2
        go_ret
        exact ⟨by rw [hm.out, ← hM2.out]; rfl, by rw [hm.out, ← hM2.out, ByteArray.size_append]; have := ho2.out; show 1 + o.size ≤ _; omega, hb.out⟩
      · have hp2 : 0 < n := by omega
        have hM2 : Sec (mtd (n / 10) (⟨#[dig n]⟩ ++ o) = mtd n0 ⟨#[]⟩) := ⟨by rw [← hM.out]; conv => rhs; unfold mtd; rw [if_neg hp]⟩
        have hcv := dig_str n wr
        have hsz : (⟨#[dig n]⟩ : ByteArray).size = 1 := rfl
        have hsz2 : Sec ((⟨#[dig n]⟩ ++ o : ByteArray).size = 1 + o.size) := ⟨by rw [ByteArray.size_append]; rfl⟩
        have hJ2 : Sec ((∃ j, n / 10 < 10 ^ j ∧ (⟨#[dig n]⟩ ++ o : ByteArray).size + j ≤ 19) ∧ (⟨#[dig n]⟩ ++ o : ByteArray).size ≤ 19) := ⟨by
          obtain ⟨j, h1, h2⟩ := hJ.out
          obtain ⟨i, rfl, h3⟩ := pow10_step h1 hp2
          exact ⟨⟨i, h3, by rw [hsz2.out]; omega⟩, by rw [hsz2.out]; omega⟩⟩
        go_wp2
        go_roundw
        case rel => exact ⟨n / 10, ⟨#[dig n]⟩ ++ o, by go_num, rfl, by omega, hJ2.out.2, ⟨hJ2.out.1⟩, hM2, ⟨belA hb.out _⟩⟩
        case measure => simp [intOf]; omega
end Go.Proofs.YtenigopoknajgaaDoor
