/- Contracts: the reference's TrmCanon; and what goes with it. -/
import Derived.Test.YtgiobpggonceeaaGreatDoorSn1
import Derived.Lib.SliceRun
import Derived.Test.YtgiobpggonceeaaGreatDoorShelf
namespace Go.Proofs.YtgiobpggonceeaaGreatDoor
section
open Go.RowKit
set_option linter.unusedVariables false
set_option maxRecDepth 100000
theorem place_at (l : List Int) (n : Int) (k : Nat) (h : k < l.length) (h0 : ¬ n ∈ l.take k) (h1 : l[k] = n) : place l n = k := by
  unfold place
  have hm : n ∈ l := by rw [← h1]; exact List.getElem_mem h
  rw [if_pos hm]
  have e : l = l.take k ++ n :: l.drop (k + 1) := by rw [← h1, ← List.drop_eq_getElem_cons h, List.take_append_drop]
  rw [e, List.idxOf_append, if_neg h0, List.idxOf_cons_self, List.length_take]
  omega
theorem place_not (l : List Int) (n : Int) (h : ¬ n ∈ l) : place l n = -1 := if_neg h
theorem place_in (l : List Int) (n : Int) : (0 ≤ place l n) ↔ n ∈ l := by
  unfold place
  by_cases h : n ∈ l
  · rw [if_pos h]; simp [h]
  · rw [if_neg h]; simp [h]
theorem l1Place_c (v : Value) (l : List Int) (n : Int) (ok : Nat → Prop) (w : World) (hV : kInt.V w ok v l) :
    Calls Tryz.prog 55 #[v, .int .i64 n] w fun e w' => e = .returned (.int .i64 (place l n)) ∧ w = w' := by
  obtain ⟨A, c, rfl, h1, h2, h3, hC, _⟩ := hV
  have HC := Sec.mk hC
  clear hC
  go_enter Tryz.func55, Tryz.ntmps55
  go_wp2
  go_loop [5] (fun i => ∃ k : Nat, k ≤ l.length ∧ i = .int .i64 k ∧ Sec (¬ n ∈ l.take k)) (fun i => l.length - (intOf i).toNat)
  case atStart => exact ⟨0, Nat.zero_le _, rfl, ⟨by simp⟩⟩
  case round =>
    obtain ⟨k, hk, rfl, hr⟩ := hrel
    by_cases hlt : k < l.length
    · obtain ⟨b, off, rfl, hob, c0⟩ := int_at HC.out k hlt
      have hT := Sec.mk (List.take_succ_eq_append_getElem hlt)
      have hP := Sec.mk (place_at l n k hlt hr.out)
      generalize l[k] = x at *
      by_cases hx : x = n
      · have hp := Sec.mk (hP.out hx)
        subst hx
        go_wp2
        go_ret
        exact ⟨ri hp.out.symm, rfl⟩
      · have hx' : (x == n) = false := beq_eq_false_iff_ne.2 hx
        have hn : Sec (¬ n ∈ l.take (k + 1)) := ⟨by rw [hT.out]; simp [hr.out]; omega⟩
        clear hx
        go_wp2
        go_round
        case rel => exact ⟨k + 1, by omega, by go_num, hn⟩
        case measure => simp [intOf]; omega
    · have hn : Sec (place l n = -1) := ⟨place_not l n (by have := hr.out; rwa [List.take_of_length_le (by omega)] at this)⟩
      go_wp2
      go_ret
      exact ⟨ri hn.out.symm, rfl⟩
theorem TrmCanon_c (v : Value) (t : Term) (ok : Nat → Prop) (w : World) (hV : kCell.V w ok v t) :
    Calls Tryz.prog 14 #[v] w fun e w' => ∃ u, e = .returned u ∧ kCell.R w' (fun k => w.heap.size ≤ k) u (canon t) ∧ Below w.heap.size w w' := by
  have HVV := Sec.mk hV
  obtain ⟨A, c, rfl, h1, h2, h3, hC, _⟩ := hV
  have HC := Sec.mk hC
  clear hC
  have H3 := Sec.mk h3
  have hu := Tryz.underlying39
  generalize hfr : free t = fr
  have HFR := Sec.mk hfr
  go_enter Tryz.func14, Tryz.ntmps14
  go_wp2_with (go_at_call 52; refine (TrmFree_c _ t ok _ HVV.out).mono ?_; rintro e wf ⟨vf, rfl, hRf, hbf⟩; rw [HFR.out] at hRf; have HF := Sec.mk (Kd.R_V hRf); obtain ⟨Af, cf, rfl, -, -⟩ := Kd.R_form hRf; have BF := Sec.mk hbf; clear hRf hbf)
  go_loopw [4, 5] (fun v i wr => ∃ k : Nat, k ≤ t.length ∧ i = .int .i64 k ∧ Sec (kCell.R wr (fun k => wf.heap.size ≤ k) v ((t.take k).map (canonC fr))) ∧ Sec (Below wf.heap.size wf wr)) (fun _ i _ => t.length - (intOf i).toNat)
  case atStart => exact ⟨0, Nat.zero_le _, rfl, ⟨Kd.R_empty kCell (Nat.le_refl _)⟩, ⟨belA (Below.refl _ _) _⟩⟩
  case round =>
    obtain ⟨k, hk, rfl, hR, hb⟩ := hrel
    by_cases hlt : k < t.length
    · obtain ⟨b, off, rfl, hob, c0, c1, c2, hnm⟩ := cell_at (Kd.C_below HC.out (bel BF.out hb.out) (by decide)) k hlt
      have hT : Sec ((t.take (k + 1)).map (canonC fr) = (t.take k).map (canonC fr) ++ [canonC fr t[k]]) := ⟨take_map _ _ _ hlt⟩
      have hL : Sec (((t.take k).map (canonC fr)).length + 1 ≤ 1073741824) := ⟨by simp; omega⟩
      generalize t[k] = x at *
      by_cases hx : x.kind = 1
      · have hx' : (x.kind == 1) = true := beq_iff_eq.2 hx
        have hs : Sec (canonC fr x = ⟨x.kind, place fr x.n, x.name⟩) := ⟨by unfold canonC; rw [if_pos hx]⟩
        clear hx
        go_wp2_with (first | (go_at_call 55; refine (l1Place_c _ fr x.n _ _ (Kd.V_below HF.out (belA hb.out _) (by decide))).mono ?_; rintro e w' ⟨rfl, rfl⟩) | (at_builtin; refine Kd.R_app kCell (w0 := wf) (wb := wr) rfl (.tmp 28) (.tmp 30) 23 (.agg #[.int .i64 0, .int .i64 0, .string ⟨#[]⟩]) 32 rfl Tryz.underlying23 info_cell rfl (by decide) (by decide) _ _ ⟨x.kind, place fr x.n, x.name⟩ [.int .i64 x.kind, .int .i64 (place fr x.n), .string x.name] rfl rfl (by simp) hR.out hb.out (belA (Below.refl _ _) _) (kCell_mk _ _ _ hnm) hL.out ?_; intro v1 w1 hR1 hb1; have HR1 := Sec.mk hR1; have HB1 := Sec.mk hb1; clear hR1 hb1))
        go_roundw
        case rel => exact ⟨k + 1, by omega, by go_num, ⟨by rw [hT.out, hs.out]; exact HR1.out⟩, HB1⟩
        case measure => simp [intOf]; omega
      · have hx' : (x.kind == 1) = false := beq_eq_false_iff_ne.2 hx
        have hs : Sec (canonC fr x = x) := ⟨by unfold canonC; rw [if_neg hx]⟩
        clear hx
        go_wp2_with (at_builtin; refine Kd.R_app kCell (w0 := wf) (wb := wr) rfl (.tmp 28) (.tmp 30) 23 (.agg #[.int .i64 0, .int .i64 0, .string ⟨#[]⟩]) 32 rfl Tryz.underlying23 info_cell rfl (by decide) (by decide) _ _ x (cellC x) rfl rfl (by simp) hR.out hb.out (belA (Below.refl _ _) _) (kCell_mk _ _ _ hnm) hL.out ?_; intro v1 w1 hR1 hb1; have HR1 := Sec.mk hR1; have HB1 := Sec.mk hb1; clear hR1 hb1)
        go_roundw
        case rel => exact ⟨k + 1, by omega, by go_num, ⟨by rw [hT.out, hs.out]; exact HR1.out⟩, HB1⟩
        case measure => simp [intOf]; omega
    · have hf : Sec ((t.take k).map (canonC fr) = canon t) := ⟨by rw [List.take_of_length_le (by omega), ← HFR.out]; rfl⟩
      have hsz := Sec.mk BF.out.size
      go_wp2
      go_ret
      exact ⟨_, rfl, by rw [← hf.out]; exact Kd.R_mono hR.out (fun k h _ => Nat.le_trans hsz.out h), bel BF.out hb.out⟩
end
section
open Go.RowKit
set_option linter.unusedVariables false
set_option maxRecDepth 100000
theorem in_c (n lo hi : Int) (w : World) : Calls Tryz.prog 121 #[.int .i64 n, .int .i64 lo, .int .i64 hi] w fun e w' => e = .returned (.bool (inB n lo hi)) ∧ w = w' := by
  by_cases h1 : lo ≤ n
  · by_cases h2 : n ≤ hi
    · have hf : Sec (inB n lo hi = true) := ⟨by simp [inB, h1, h2]⟩
      go_enter Tryz.func121, Tryz.ntmps121
      go_wp2
      go_ret
      exact ⟨rb hf.out.symm, rfl⟩
    · have hf : Sec (inB n lo hi = false) := ⟨by simp [inB, h1]; omega⟩
      go_enter Tryz.func121, Tryz.ntmps121
      go_wp2
      go_ret
      exact ⟨rb hf.out.symm, rfl⟩
  · have hf : Sec (inB n lo hi = false) := ⟨by simp [inB]; omega⟩
    go_enter Tryz.func121, Tryz.ntmps121
    go_wp2
    go_ret
    exact ⟨rb hf.out.symm, rfl⟩
theorem index_c (v : Value) (l : List Int) (n : Int) (ok : Nat → Prop) (w : World) (hV : kInt.V w ok v l) :
    Calls Tryz.prog 197 #[v, .int .i64 n] w fun e w' => e = .returned (.int .i64 (place l n)) ∧ w = w' := by
  obtain ⟨A, c, rfl, h1, h2, h3, hC, _⟩ := hV
  have HC := Sec.mk hC
  clear hC
  go_enter Tryz.func197, Tryz.ntmps197
  go_wp2
  go_loop [8] (fun i => ∃ k : Nat, k ≤ l.length ∧ i = .int .i64 k ∧ Sec (¬ n ∈ l.take k)) (fun i => l.length - (intOf i).toNat)
  case atStart => exact ⟨0, Nat.zero_le _, rfl, ⟨by simp⟩⟩
  case round =>
    obtain ⟨k, hk, rfl, hr⟩ := hrel
    by_cases hlt : k < l.length
    · obtain ⟨b, off, rfl, hob, c0⟩ := int_at HC.out k hlt
      have hT := Sec.mk (List.take_succ_eq_append_getElem hlt)
      have hP := Sec.mk (place_at l n k hlt hr.out)
      generalize l[k] = x at *
      by_cases hx : x = n
      · have hp := Sec.mk (hP.out hx)
        subst hx
        go_wp2
        go_ret
        exact ⟨ri hp.out.symm, rfl⟩
      · have hx' : (n == x) = false := beq_eq_false_iff_ne.2 (fun e => hx e.symm)
        have hn : Sec (¬ n ∈ l.take (k + 1)) := ⟨by rw [hT.out]; simp [hr.out]; omega⟩
        clear hx
        go_wp2
        go_round
        case rel => exact ⟨k + 1, by omega, by go_num, hn⟩
        case measure => simp [intOf]; omega
    · have hn : Sec (place l n = -1) := ⟨place_not l n (by have := hr.out; rwa [List.take_of_length_le (by omega)] at this)⟩
      go_wp2
      go_ret
      exact ⟨ri hn.out.symm, rfl⟩
theorem contains_c (v : Value) (l : List Int) (n : Int) (ok : Nat → Prop) (w : World) (hV : kInt.V w ok v l) :
    Calls Tryz.prog 179 #[v, .int .i64 n] w fun e w' => e = .returned (.bool (decide (n ∈ l))) ∧ w = w' := by
  have HV := Sec.mk hV
  obtain ⟨A, c, rfl, h1, h2, h3, hC, _⟩ := hV
  clear hC
  have hp : Sec (decide (0 ≤ place l n) = decide (n ∈ l)) := ⟨by rw [decide_eq_decide]; exact place_in l n⟩
  generalize hpl : place l n = p at *
  have HP := Sec.mk hpl
  clear hpl
  go_enter Tryz.func179, Tryz.ntmps179
  go_wp2_with (go_at_call 197; refine (index_c _ l n ok _ HV.out).mono ?_; rw [HP.out]; rintro e w' ⟨rfl, rfl⟩)
  go_ret
  exact ⟨rb hp.out, rfl⟩
theorem cloneCells_c (v : Value) (t : Term) (ok : Nat → Prop) (w : World) (hV : kCell.V w ok v t) :
    Calls Tryz.prog 72 #[v] w fun e w' => ∃ u, e = .returned u ∧ kCell.R w' (fun k => w.heap.size ≤ k) u t ∧ Below w.heap.size w w' := by
  obtain ⟨A, c, rfl, h1, h2, h3, hC, h0⟩ := hV
  have hut := Tryz.underlying23
  cases A with
  | none =>
    have ht : t = [] := by
      rcases hC with h | ⟨b, off, hA, _⟩
      · exact h
      · cases hA
    subst ht
    obtain rfl := h0 rfl
    have hq := Go.Lib.run_eql_slice_nil (P := Tryz.prog) w 23 _ none 0 0 0 0 hut
    go_enter Tryz.func72, Tryz.ntmps72
    go_wp2
    go_ret
    exact ⟨_, rfl, Kd.R_nil _ _ _, Below.refl _ _⟩
  | some a =>
    have HV : Sec (kCell.V w ok (.slice (some a) t.length c) t) := ⟨⟨_, c, rfl, h1, h2, h3, hC, h0⟩⟩
    clear hC h0
    have hq := Go.Lib.run_eql_slice_nil (P := Tryz.prog) w 23 _ (some a) t.length c 0 0 hut
    go_enter Tryz.func72, Tryz.ntmps72
    go_wp2_with (at_builtin; refine Kd.W_cat kCell rfl (.tmp 5) (.tmp 6) 23 (.agg #[.int .i64 0, .int .i64 0, .string ⟨#[]⟩]) 32 rfl Tryz.underlying23 info_cell rfl (by decide) (by decide) (.slice (some ⟨w.heap.size, 0, none⟩) 0 0) (.slice (some a) t.length c) [] t (fun k => w.heap.size ≤ k) (fun k => k < w.heap.size) rfl rfl (Kd.W_empty kCell w _ _ (Nat.le_refl _)) (Kd.V_move (fun k hk hl => ⟨⟨hl, fun e => absurd (show k = w.heap.size by simpa [Value.ownBlock] using e) (by omega)⟩, Below.heap_alloc _ _ _ hl⟩) HV.out (by decide)) (by simpa using h3) ?_; intro v1 w1 hW hg; have HR := Sec.mk (kCell_W_R hW); have HB := Sec.mk ((belA (Below.refl w.heap.size w) _).grown hg (by simp) (fun k e => Nat.le_of_eq (show w.heap.size = k by simpa [Value.ownBlock] using e))); clear hW hg)
    go_ret
    exact ⟨_, rfl, by have := HR.out; simp only [List.nil_append] at this; exact Kd.R_mono this (fun k h _ => h.elim id (fun h => by simp at h; omega)), HB.out⟩
theorem TrmFree_i (v : Value) (t : Term) (ok : Nat → Prop) (w : World) (hV : kCell.V w ok v t) :
    Calls Tryz.prog 122 #[v] w fun e w' => ∃ u, e = .returned u ∧ kInt.R w' (fun k => w.heap.size ≤ k) u (free t) ∧ Below w.heap.size w w' := by
  obtain ⟨A, c, rfl, h1, h2, h3, hC, _⟩ := hV
  have HC := Sec.mk hC
  clear hC
  have H3 := Sec.mk h3
  have hu := Tryz.underlying39
  go_enter Tryz.func122, Tryz.ntmps122
  go_wp2
  go_loopw [3, 8] (fun v i wr => ∃ k : Nat, k ≤ t.length ∧ i = .int .i64 k ∧ Sec (kInt.R wr (fun k => w.heap.size ≤ k) v (free (t.take k))) ∧ Sec (Below w.heap.size w wr)) (fun _ i _ => t.length - (intOf i).toNat)
  case atStart => exact ⟨0, Nat.zero_le _, rfl, ⟨Kd.R_nil _ _ _⟩, ⟨Below.refl _ _⟩⟩
  case round =>
    obtain ⟨k, hk, rfl, hR, hb⟩ := hrel
    by_cases hlt : k < t.length
    · obtain ⟨b, off, rfl, hob, c0, c1, c2, _⟩ := cell_at (Kd.C_below HC.out hb.out (by decide)) k hlt
      have hT : Sec (free (t.take (k + 1)) = freeStep (free (t.take k)) t[k]) := ⟨take_foldl _ _ _ _ hlt⟩
      have hL : Sec ((free (t.take k)).length + 1 ≤ 1073741824) := ⟨by have := free_len (t.take k); rw [List.length_take] at this; have := H3.out; omega⟩
      generalize t[k] = x at *
      by_cases hx : x.kind = 1
      · have hx' : (x.kind == 1) = true := beq_iff_eq.2 hx
        have hV := Sec.mk (Kd.R_V hR.out)
        by_cases hm : x.n ∈ free (t.take k)
        · have hT' : Sec (free (t.take (k + 1)) = free (t.take k)) := ⟨by rw [hT.out]; unfold freeStep; rw [if_neg (by simp [hm])]⟩
          have Hm := Sec.mk hm
          clear hx hm
          go_wp2_with (go_at_call 179; refine (contains_c _ _ _ _ _ (Kd.V_below hV.out (belA (Below.refl _ _) _) (by decide))).mono ?_; rw [decide_eq_true Hm.out]; rintro e w' ⟨rfl, rfl⟩)
          go_roundw
          case rel => exact ⟨k + 1, by omega, by go_num, ⟨by rw [hT'.out]; exact Kd.R_below hR.out (belA (Below.refl _ _) _)⟩, ⟨belA hb.out _⟩⟩
          case measure => simp [intOf]; omega
        · have hT' : Sec (free (t.take (k + 1)) = free (t.take k) ++ [x.n]) := ⟨by rw [hT.out]; unfold freeStep; rw [if_pos ⟨hx, hm⟩]⟩
          have Hm := Sec.mk hm
          clear hx hm
          go_wp2_with (first | (go_at_call 179; refine (contains_c _ _ _ _ _ (Kd.V_below hV.out (belA (Below.refl _ _) _) (by decide))).mono ?_; rw [decide_eq_false Hm.out]; rintro e w' ⟨rfl, rfl⟩) | (at_builtin; refine Kd.R_app kInt (w0 := w) (wb := wr) rfl (.tmp 22) (.tmp 25) 103 (.int .i64 0) 8 rfl Tryz.underlying103 info_int rfl (by decide) (by decide) _ _ x.n [.int .i64 x.n] rfl rfl (by simp) hR.out hb.out (belA (Below.refl _ _) _) (int_O _ _ _) hL.out ?_; intro v1 w1 hR1 hb1; have HR1 := Sec.mk hR1; have HB1 := Sec.mk hb1; clear hR1 hb1))
          go_roundw
          case rel => exact ⟨k + 1, by omega, by go_num, ⟨by rw [hT'.out]; exact HR1.out⟩, HB1⟩
          case measure => simp [intOf]; omega
      · have hx' : (x.kind == 1) = false := beq_eq_false_iff_ne.2 hx
        have hT' : Sec (free (t.take (k + 1)) = free (t.take k)) := ⟨by rw [hT.out]; unfold freeStep; rw [if_neg (by simp [hx])]⟩
        clear hx
        go_wp2
        go_roundw
        case rel => exact ⟨k + 1, by omega, by go_num, ⟨by rw [hT'.out]; exact Kd.R_below hR.out (belA (Below.refl _ _) _)⟩, ⟨belA hb.out _⟩⟩
        case measure => simp [intOf]; omega
    · have hf : Sec (free (t.take k) = free t) := ⟨by rw [List.take_of_length_le (by omega)]⟩
      go_wp2
      go_ret
      exact ⟨_, rfl, by rw [← hf.out]; exact hR.out, hb.out⟩
theorem TrmCanon_i (v : Value) (t : Term) (ok : Nat → Prop) (w : World) (hV : kCell.V w ok v t) :
    Calls Tryz.prog 142 #[v] w fun e w' => ∃ u, e = .returned u ∧ kCell.R w' (fun k => w.heap.size ≤ k) u (canon t) ∧ Below w.heap.size w w' := by
  have HVV := Sec.mk hV
  obtain ⟨A, c, rfl, h1, h2, h3, hC, hz⟩ := hV
  clear hC hz
  have hu := Tryz.underlying39
  generalize hfr : free t = fr
  have HFR := Sec.mk hfr
  clear hfr
  go_enter Tryz.func142, Tryz.ntmps142
  go_wp2_with (first | (go_at_call 122; refine (TrmFree_i _ t ok _ HVV.out).mono ?_; rintro e wf ⟨vf, rfl, hRf, hbf⟩; rw [HFR.out] at hRf; have HF := Sec.mk (Kd.R_V hRf); obtain ⟨Af, cf, rfl, -, -⟩ := Kd.R_form hRf; have BF := Sec.mk hbf; clear hRf hbf) | (go_at_call 72; refine (cloneCells_c _ t ok _ (Kd.V_below HVV.out BF.out (by decide))).mono ?_; rintro e wc ⟨vc, rfl, hRc, hbc⟩; obtain ⟨Ac, cc, rfl, -, -⟩ := Kd.R_form hRc; have HRC := Sec.mk hRc; have BC := Sec.mk hbc; clear hRc hbc))
  go_loopw [12] (fun i wr => ∃ k : Nat, k ≤ t.length ∧ i = .int .i64 k ∧ Sec (kCell.R wr (fun k => wf.heap.size ≤ k) (.slice Ac t.length cc) ((t.take k).map (canonC fr) ++ t.drop k)) ∧ Sec (Below wf.heap.size wf wr)) (fun i _ => t.length - (intOf i).toNat)
  case atStart => exact ⟨0, Nat.zero_le _, rfl, ⟨by simpa using HRC.out⟩, BC⟩
  case round =>
    obtain ⟨k, hk, rfl, hR, hb⟩ := hrel
    by_cases hlt : k < t.length
    · have hlen : ((t.take k).map (canonC fr) ++ t.drop k).length = t.length := by simp; omega
      have hkl : k < ((t.take k).map (canonC fr) ++ t.drop k).length := by omega
      obtain ⟨b, rfl, -, hSb, hbb, hfz⟩ := Kd.R_block hR.out (by omega)
      have f1 := hfz (k * 3 + 1)
      obtain ⟨b', off', hA', _, c0, c1, c2, hnm⟩ := cell_at (Kd.V_C (Kd.R_V hR.out)) k hkl
      simp only [Option.some.injEq, Addr.mk.injEq, and_true] at hA'
      obtain ⟨rfl, rfl⟩ := hA'
      simp only [Nat.zero_add] at c0 c1 c2
      have hel : ((t.take k).map (canonC fr) ++ t.drop k)[k]'hkl = t[k] := by
        rw [List.getElem_append_right (by simp; omega)]
        simp only [List.length_map, List.length_take, List.getElem_drop]
        congr 1; omega
      rw [hel] at c0 c1 c2 hnm
      have hnx : Sec (((t.take k).map (canonC fr) ++ t.drop k).set k (canonC fr t[k]) = (t.take (k + 1)).map (canonC fr) ++ t.drop (k + 1)) := ⟨by
        rw [List.take_succ_eq_append_getElem hlt, List.map_append, List.drop_eq_getElem_cons hlt, List.set_append_right _ _ (by simp; omega), List.length_map, List.length_take, Nat.min_eq_left (by omega), Nat.sub_self, List.set_cons_zero, List.append_assoc]
        rfl⟩
      have hel' := Sec.mk hel
      have HKL := Sec.mk hkl
      clear hel hlen hfz
      generalize t[k] = x at *
      by_cases hx : x.kind = 1
      · have hx' : (x.kind == 1) = true := beq_iff_eq.2 hx
        have hs : Sec (canonC fr x = ⟨x.kind, place fr x.n, x.name⟩) := ⟨by unfold canonC; rw [if_pos hx]⟩
        have M := Sec.mk (kCell_store hR.out k 1 ⟨x.kind, place fr x.n, x.name⟩ (.int .i64 (place fr x.n)) HKL.out (by decide) (by rw [hel'.out]; rfl) hnm)
        have MB := Sec.mk (hb.out.setCell (p := ⟨b, k * 3 + 1, none⟩) hSb (.int .i64 (place fr x.n)))
        clear hx
        go_wp2_with (go_at_call 197; refine (index_c _ fr x.n _ _ (Kd.V_below HF.out hb.out (by decide))).mono ?_; rintro e w' ⟨rfl, rfl⟩)
        go_roundw
        case rel => exact ⟨k + 1, by omega, by go_num, ⟨by rw [← hnx.out, hs.out]; exact M.out⟩, MB⟩
        case measure => simp [intOf]; omega
      · have hx' : (x.kind == 1) = false := beq_eq_false_iff_ne.2 hx
        have hs : Sec (canonC fr x = x) := ⟨by unfold canonC; rw [if_neg hx]⟩
        have hnx2 : Sec ((t.take k).map (canonC fr) ++ t.drop k = (t.take (k + 1)).map (canonC fr) ++ t.drop (k + 1)) := ⟨by
          rw [← hnx.out, hs.out]
          conv => rhs; arg 3; rw [← hel'.out]
          rw [List.set_getElem_self]⟩
        clear hx
        go_wp2
        go_roundw
        case rel => exact ⟨k + 1, by omega, by go_num, ⟨by rw [← hnx2.out]; exact hR.out⟩, hb⟩
        case measure => simp [intOf]; omega
    · have hf : Sec ((t.take k).map (canonC fr) ++ t.drop k = canon t) := ⟨by rw [List.take_of_length_le (by omega), List.drop_of_length_le (by omega), List.append_nil, ← HFR.out]; rfl⟩
      have hsz := Sec.mk BF.out.size
      have HR2 : Sec (kCell.R wr (fun k => wf.heap.size ≤ k) (.slice Ac t.length cc) (canon t)) := ⟨by rw [← hf.out]; exact hR.out⟩
      clear hf hR
      go_wp2
      go_ret
      exact ⟨_, rfl, Kd.R_mono HR2.out (fun k h _ => Nat.le_trans hsz.out h), bel BF.out hb.out⟩
end
section
open Go.RowKit
set_option linter.unusedVariables false
set_option maxRecDepth 100000
def letters : List UInt8 := [97, 98, 99, 100, 101, 102, 103, 104, 105, 106, 107, 108, 109, 110, 111, 112, 113, 114, 115, 116, 117, 118, 119, 120, 121, 122]
theorem letters_small (b : UInt8) : letters.contains b = small b := by
  have h : ∀ n : Fin 256, letters.contains (UInt8.ofNat n.1) = small (UInt8.ofNat n.1) := by decide
  have := h ⟨b.toNat, b.toNat_lt⟩
  rwa [UInt8.ofNat_toNat] at this
theorem drop_none (p : UInt8 → Bool) (l : List UInt8) : l.dropWhile p = [] ↔ l.all p = true := by
  induction l with
  | nil => simp
  | cons x l ih =>
    rw [List.dropWhile_cons, List.all_cons]
    cases p x <;> simp_all
theorem trim_none (l : List UInt8) : Lib.trimS l letters = [] ↔ l.all small = true := by
  have e : (fun b => letters.contains b) = small := funext letters_small
  unfold Lib.trimS Lib.trimLeftS Lib.trimRightS
  rw [e, drop_none]
  constructor
  · intro h
    rw [List.all_reverse] at h
    rw [← List.all_reverse, ← List.takeWhile_append_dropWhile (p := small) (l := l.reverse), List.all_append, h, Bool.and_true]
    exact List.all_takeWhile
  · intro h
    rw [List.all_reverse]
    refine List.all_eq_true.2 fun x hx => List.all_eq_true.1 h x ?_
    exact List.mem_reverse.1 ((List.dropWhile_sublist _).mem hx)
theorem nameOk_i (s : ByteArray) (hs : s.size ≤ 1073741824) (w : World) : Calls Tryz.prog 151 #[.string s] w fun e w' => e = .returned (.bool (nameOk s)) ∧ Below w.heap.size w w' := by
  have hcon := Any.strings_Trim_laid Tryz.lays160 (by kernel_rfl) s ⟨#[97, 98, 99, 100, 101, 102, 103, 104, 105, 106, 107, 108, 109, 110, 111, 112, 113, 114, 115, 116, 117, 118, 119, 120, 121, 122]⟩ w (by omega) (by decide) (ascii_of_all (by decide))
  change Calls Tryz.prog 201 _ _ (fun e w' => e = .returned (.string ⟨(Lib.trimS s.data.toList letters).toArray⟩) ∧ Below w.heap.size w w') at hcon
  have HT := Sec.mk (trim_none s.data.toList)
  have HC := Sec.mk hcon
  clear hcon
  by_cases hin : inB s.size 1 8 = true
  · have Hin := Sec.mk hin
    by_cases hsm : s.data.toList.all small = true
    · have hr : (⟨(Lib.trimS s.data.toList letters).toArray⟩ : ByteArray) = ByteArray.empty := by rw [HT.out.2 hsm]; rfl
      have HR := Sec.mk hr
      by_cases hand : (s.toList == [97, 110, 100]) = true
      · have hf : Sec (nameOk s = false) := ⟨by unfold nameOk; rw [hand]; simp⟩
        clear hr hsm hin
        go_enter Tryz.func151, Tryz.ntmps151
        go_wp2_with (first | (go_at_call 121; refine (in_c _ _ _ _).mono ?_; rw [Hin.out]; rintro e w' ⟨rfl, rfl⟩) | (go_at_call 201; refine HC.out.mono ?_; rw [HR.out]; rintro e w1 ⟨rfl, hB⟩; have B1 := Sec.mk hB; clear hB))
        go_ret
        exact ⟨rb hf.out.symm, B1.out⟩
      · have hand' : (s.toList == [97, 110, 100]) = false := by simpa using hand
        have hf : Sec (nameOk s = true) := ⟨by
          unfold inB at hin
          unfold nameOk
          rw [hand', hsm]
          simp at hin ⊢
          omega⟩
        clear hr hsm hin hand
        go_enter Tryz.func151, Tryz.ntmps151
        go_wp2_with (first | (go_at_call 121; refine (in_c _ _ _ _).mono ?_; rw [Hin.out]; rintro e w' ⟨rfl, rfl⟩) | (go_at_call 201; refine HC.out.mono ?_; rw [HR.out]; rintro e w1 ⟨rfl, hB⟩; have B1 := Sec.mk hB; clear hB))
        go_ret
        exact ⟨rb hf.out.symm, B1.out⟩
    · have hne : Sec (¬ (⟨(Lib.trimS s.data.toList letters).toArray⟩ : ByteArray) = ByteArray.empty) := ⟨fun e => hsm (HT.out.1 (by
        have := congrArg (fun x => x.data.toList) e
        simpa using this))⟩
      have hf : Sec (nameOk s = false) := ⟨by unfold nameOk; simp at hsm; simp [hsm]⟩
      have HC2 : Sec (∃ r : ByteArray, ¬ r = ByteArray.empty ∧ Calls Tryz.prog 201 #[.string s, .string ⟨#[97, 98, 99, 100, 101, 102, 103, 104, 105, 106, 107, 108, 109, 110, 111, 112, 113, 114, 115, 116, 117, 118, 119, 120, 121, 122]⟩] w (fun e w' => e = .returned (.string r) ∧ Below w.heap.size w w')) := ⟨⟨_, hne.out, HC.out⟩⟩
      clear hne HC HT hsm hin
      obtain ⟨r, hr0, hr2⟩ := HC2.out
      have hr1 : ¬ r.toList = [] := fun e => hr0 (by
        rw [Lib.toList_data] at e
        exact ByteArray.ext (by rw [← Array.toList_inj, e]; rfl))
      have HC3 := Sec.mk hr2
      clear hr2 HC2
      go_enter Tryz.func151, Tryz.ntmps151
      go_wp2_with (first | (go_at_call 121; refine (in_c _ _ _ _).mono ?_; rw [Hin.out]; rintro e w' ⟨rfl, rfl⟩) | (go_at_call 201; refine HC3.out.mono ?_; rintro e w1 ⟨rfl, hB⟩; have B1 := Sec.mk hB; clear hB))
      go_ret
      exact ⟨rb hf.out.symm, B1.out⟩
  · have hin' : inB s.size 1 8 = false := by simpa using hin
    have Hin := Sec.mk hin'
    have hf : Sec (nameOk s = false) := ⟨by
      unfold inB at hin'
      unfold nameOk
      cases h1 : decide (1 ≤ s.size)
      · simp
      · cases h2 : decide (s.size ≤ 8)
        · simp
        · simp at h1 h2 hin'; omega⟩
    clear hin hin'
    go_enter Tryz.func151, Tryz.ntmps151
    go_wp2_with (go_at_call 121; refine (in_c _ _ _ _).mono ?_; rw [Hin.out]; rintro e w' ⟨rfl, rfl⟩)
    go_ret
    exact ⟨rb hf.out.symm, Below.refl _ _⟩
theorem cellOk_i (x : Cell) (hx : x.name.size ≤ 1073741824) (w : World) : Calls Tryz.prog 130 #[x.agg] w fun e w' => e = .returned (.bool (cellOk x)) ∧ Below w.heap.size w w' := by
  have hu := Tryz.underlying39
  have hB : Sec (Below w.heap.size w (w.alloc (.cells #[.int .i64 x.kind, .int .i64 x.n, .string x.name] 39))) := ⟨(Below.refl _ _).alloc (Nat.le_refl _) _⟩
  obtain ⟨b1, hb1⟩ : ∃ b, inB x.n 0 99999 = b := ⟨_, rfl⟩
  obtain ⟨b2, hb2⟩ : ∃ b, inB x.n (-9999) 9999 = b := ⟨_, rfl⟩
  obtain ⟨b3, hb3⟩ : ∃ b, inB x.n 0 3 = b := ⟨_, rfl⟩
  obtain ⟨b4, hb4⟩ : ∃ b, nameOk x.name = b := ⟨_, rfl⟩
  have hc : Sec (cellOk x = if x.kind = 1 then b1 && x.name.toList.isEmpty else if x.kind = 2 then b2 && x.name.toList.isEmpty else if x.kind = 3 then b3 && b4 else false) := ⟨by unfold cellOk; rw [hb1, hb2, hb3, hb4]⟩
  have H1 := Sec.mk hb1
  have H2 := Sec.mk hb2
  have H3 := Sec.mk hb3
  have H4 := Sec.mk hb4
  clear hb1 hb2 hb3 hb4
  by_cases k1 : x.kind = 1
  · have hc2 : Sec (cellOk x = (b1 && x.name.toList.isEmpty)) := ⟨by rw [hc.out, if_pos k1]⟩
    cases b1 <;>
    · go_enter Tryz.func130, Tryz.ntmps130
      go_wp2_with (go_at_call 121; refine (in_c _ _ _ _).mono ?_; rw [H1.out]; rintro e w' ⟨rfl, rfl⟩)
      all_goals (go_ret; exact ⟨rb (by rw [hc2.out]; simp_all), belA (Below.refl _ _) _⟩)
  · by_cases k2 : x.kind = 2
    · have hc2 : Sec (cellOk x = (b2 && x.name.toList.isEmpty)) := ⟨by rw [hc.out, if_neg k1, if_pos k2]⟩
      cases b2 <;>
      · go_enter Tryz.func130, Tryz.ntmps130
        go_wp2_with (go_at_call 121; refine (in_c _ _ _ _).mono ?_; rw [H2.out]; rintro e w' ⟨rfl, rfl⟩)
        all_goals (go_ret; exact ⟨rb (by rw [hc2.out]; simp_all), belA (Below.refl _ _) _⟩)
    · by_cases k3 : x.kind = 3
      · have hc2 : Sec (cellOk x = (b3 && b4)) := ⟨by rw [hc.out, if_neg k1, if_neg k2, if_pos k3]⟩
        cases b3 with
        | false =>
          go_enter Tryz.func130, Tryz.ntmps130
          go_wp2_with (go_at_call 121; refine (in_c _ _ _ _).mono ?_; rw [H3.out]; rintro e w' ⟨rfl, rfl⟩)
          all_goals (go_ret; exact ⟨rb (by rw [hc2.out]; simp), belA (Below.refl _ _) _⟩)
        | true =>
          go_enter Tryz.func130, Tryz.ntmps130
          go_wp2_with (first | (go_at_call 121; refine (in_c _ _ _ _).mono ?_; rw [H3.out]; rintro e w' ⟨rfl, rfl⟩) | (go_at_call 151; refine (nameOk_i _ hx _).mono ?_; rw [H4.out]; rintro e w1 ⟨rfl, hb⟩; have B1 := Sec.mk (bel (belA (Below.refl _ _) _) hb); clear hb))
          all_goals (go_ret; exact ⟨rb (by rw [hc2.out]; simp), B1.out⟩)
      · have hc2 : Sec (cellOk x = false) := ⟨by rw [hc.out, if_neg k1, if_neg k2, if_neg k3]⟩
        have g1 : (x.kind == 1) = false := beq_eq_false_iff_ne.2 k1
        have g2 : (x.kind == 2) = false := beq_eq_false_iff_ne.2 k2
        have g3 : (x.kind == 3) = false := beq_eq_false_iff_ne.2 k3
        clear k1 k2 k3
        go_enter Tryz.func130, Tryz.ntmps130
        go_wp2
        go_ret
        exact ⟨rb hc2.out.symm, belA (Below.refl _ _) _⟩
theorem arity_i (x : Cell) (w : World) : Calls Tryz.prog 181 #[x.agg] w fun e w' => e = .returned (.int .i64 (if x.kind = 3 then x.n else 0)) ∧ Below w.heap.size w w' := by
  have hu := Tryz.underlying39
  have hB : Sec (Below w.heap.size w (w.alloc (.cells #[.int .i64 x.kind, .int .i64 x.n, .string x.name] 39))) := ⟨(Below.refl _ _).alloc (Nat.le_refl _) _⟩
  by_cases k3 : x.kind = 3
  · rw [if_pos k3]
    go_enter Tryz.func181, Tryz.ntmps181
    go_wp2
    go_ret
    exact ⟨rfl, belA (Below.refl _ _) _⟩
  · rw [if_neg k3]
    have g3 : (x.kind == 3) = false := beq_eq_false_iff_ne.2 k3
    clear k3
    go_enter Tryz.func181, Tryz.ntmps181
    go_wp2
    go_ret
    exact ⟨rfl, belA (Below.refl _ _) _⟩
/-- How many places a term at the beginning of some has; more than there are, if it does not end. -/
def sizeOf_ (t : Term) : Int := match skip 1 t with
  | some r => (t.length : Int) - r.length
  | none => (t.length : Int) + 1
theorem sizeOf_whole (t : Term) : (sizeOf_ t == (t.length : Int)) = decide (skip 1 t = some []) := by
  unfold sizeOf_
  rw [Bool.beq_eq_decide_eq]
  cases h : skip 1 t with
  | none => simp; omega
  | some r => cases r <;> simp <;> omega
theorem size_i (v : Value) (t : Term) (ok : Nat → Prop) (w : World) (hV : kCell.V w ok v t) (hc : t.all cellOk = true) :
    Calls Tryz.prog 132 #[v] w fun e w' => e = .returned (.int .i64 (sizeOf_ t)) ∧ Below w.heap.size w w' := by
  obtain ⟨A, c, rfl, h1, h2, h3, hC, hz⟩ := hV
  have HC := Sec.mk hC
  have Hc := Sec.mk hc
  clear hC hc hz
  have hu := Tryz.underlying39
  go_enter Tryz.func132, Tryz.ntmps132
  go_wp2
  go_loopw [3, 4] (fun nv iv wr => ∃ m j : Nat, j ≤ t.length ∧ m ≤ 1 + 3 * j ∧ nv = .int .i64 ((j : Int) + (m : Int)) ∧ iv = .int .i64 j ∧ Sec (skip 1 t = skip m (t.drop j)) ∧ Sec (Below w.heap.size w wr)) (fun _ iv _ => t.length + 1 - (intOf iv).toNat)
  case atStart => exact ⟨1, 0, Nat.zero_le _, by omega, rfl, rfl, ⟨by simp⟩, ⟨Below.refl _ _⟩⟩
  case round =>
    obtain ⟨m, j, hj, hm, rfl, rfl, hs, hb⟩ := hrel
    cases m with
    | zero =>
      have hf : Sec ((j : Int) + ((0 : Nat) : Int) = sizeOf_ t) := ⟨by unfold sizeOf_; rw [hs.out]; simp [skip] <;> omega⟩
      go_wp2
      go_ret
      exact ⟨ri (by rw [← hf.out] <;> simp), hb.out⟩
    | succ m =>
      by_cases hlt : j < t.length
      · obtain ⟨b, off, rfl, hob, c0, c1, c2, _⟩ := cell_at (Kd.C_below HC.out hb.out (by decide)) j hlt
        have hok := cellOk_arity (List.all_eq_true.1 Hc.out _ (List.getElem_mem hlt))
        have hst := Sec.mk (hs.out.trans (skip_step hlt))
        have hne : ((j : Int) == (t.length : Int)) = false := beq_eq_false_iff_ne.2 (by omega)
        generalize t[j] = x at *
        have harr : (if x.kind = 3 then x.n else 0) = (arity x : Int) := by
          unfold arity
          split
          · next h => have := hok.2 h; omega
          · rfl
        have ha3 := hok.1
        have HA := Sec.mk harr
        clear hok harr
        generalize hax : arity x = a at *
        clear hax
        go_wp2_with (go_at_call 181; refine (arity_i x _).mono ?_; rw [HA.out]; rintro e w1 ⟨rfl, hb1⟩; have B1 := Sec.mk (bel hb.out hb1); clear hb1 c0 c1 c2)
        go_roundw
        case rel => exact ⟨m + a, j + 1, by omega, by omega, by go_num, by go_num, hst, B1⟩
        case measure => simp [intOf]; omega
      · have hf : Sec ((t.length : Int) + 1 = sizeOf_ t) := ⟨by unfold sizeOf_; rw [hs.out, skip_out (by omega)]⟩
        have he : ((j : Int) == (t.length : Int)) = true := beq_iff_eq.2 (by omega)
        have hjm : ((j : Int) < (j : Int) + ((m + 1 : Nat) : Int)) := by omega
        go_wp2
        go_ret
        exact ⟨ri hf.out, hb.out⟩
theorem wrong_i (x : Cell) (hx : x.name.size ≤ 1073741824) (w : World) : Calls Tryz.prog 129 #[x.agg] w fun e w' => e = .returned (.bool (!cellOk x)) ∧ Below w.heap.size w w' := by
  have hu := Tryz.underlying39
  obtain ⟨bb, hbb⟩ : ∃ b, cellOk x = b := ⟨_, rfl⟩
  have HB := Sec.mk hbb
  rw [hbb]
  clear hbb
  go_enter Tryz.func129, Tryz.ntmps129
  go_wp2_with (go_at_call 130; refine (cellOk_i x hx _).mono ?_; rw [HB.out]; rintro e w1 ⟨rfl, hb1⟩; have B1 := Sec.mk (bel (belA (Below.refl _ _) _) hb1); clear hb1)
  go_ret
  exact ⟨rfl, B1.out⟩
/-- Where the first place stands that is not ok; -1, if there is none. -/
def wrongAt (t : Term) (n : Int) : Prop := decide (0 ≤ n) = !t.all cellOk
theorem indexWrong_i (v : Value) (t : Term) (ok : Nat → Prop) (w : World) (hV : kCell.V w ok v t) :
    Calls Tryz.prog 180 #[v, .func (.func 129) #[] #[]] w fun e w' => ∃ n : Int, e = .returned (.int .i64 n) ∧ wrongAt t n ∧ Below w.heap.size w w' := by
  obtain ⟨A, c, rfl, h1, h2, h3, hC, hz⟩ := hV
  have HC := Sec.mk hC
  clear hC hz
  have hu := Tryz.underlying39
  go_enter Tryz.func180, Tryz.ntmps180
  go_wp2
  go_loopw [8] (fun iv wr => ∃ k : Nat, k ≤ t.length ∧ iv = .int .i64 k ∧ Sec ((t.take k).all cellOk = true) ∧ Sec (Below w.heap.size w wr)) (fun iv _ => t.length - (intOf iv).toNat)
  case atStart => exact ⟨0, Nat.zero_le _, rfl, ⟨rfl⟩, ⟨Below.refl _ _⟩⟩
  case round =>
    obtain ⟨k, hk, rfl, hT, hb⟩ := hrel
    by_cases hlt : k < t.length
    · obtain ⟨b, off, rfl, hob, c0, c1, c2, hnm⟩ := cell_at (Kd.C_below HC.out hb.out (by decide)) k hlt
      have hA := Sec.mk (take_all cellOk t k hlt)
      have hmem : Sec (t[k] ∈ t) := ⟨List.getElem_mem hlt⟩
      generalize t[k] = x at *
      obtain ⟨bb, hbb⟩ : ∃ b, cellOk x = b := ⟨_, rfl⟩
      have HB := Sec.mk hbb
      clear hbb
      cases bb with
      | true =>
        have hA' : Sec ((t.take (k + 1)).all cellOk = true) := ⟨by rw [hA.out, hT.out, HB.out]; rfl⟩
        go_wp2_with (go_at_call 129; refine (wrong_i x hnm _).mono ?_; rw [HB.out]; rintro e w1 ⟨rfl, hb1⟩; have B1 := Sec.mk (bel hb.out hb1); clear hb1)
        go_roundw
        case rel => exact ⟨k + 1, by omega, by go_num, hA', B1⟩
        case measure => simp [intOf]; omega
      | false =>
        have hF : Sec (wrongAt t k) := ⟨by
          have : t.all cellOk = false := by
            rw [← Bool.not_eq_true]; intro h
            have := List.all_eq_true.1 h x hmem.out
            rw [HB.out] at this; cases this
          unfold wrongAt; rw [this]; simp⟩
        go_wp2_with (go_at_call 129; refine (wrong_i x hnm _).mono ?_; rw [HB.out]; rintro e w1 ⟨rfl, hb1⟩; have B1 := Sec.mk (bel hb.out hb1); clear hb1)
        go_ret
        exact ⟨_, rfl, hF.out, B1.out⟩
    · have hF : Sec (wrongAt t (-1)) := ⟨by
        have : t.all cellOk = true := by have := hT.out; rwa [List.take_of_length_le (by omega)] at this
        unfold wrongAt; rw [this]; rfl⟩
      go_wp2
      go_ret
      exact ⟨_, rfl, hF.out, hb.out⟩
theorem containsWrong_i (v : Value) (t : Term) (ok : Nat → Prop) (w : World) (hV : kCell.V w ok v t) :
    Calls Tryz.prog 131 #[v, .func (.func 129) #[] #[]] w fun e w' => e = .returned (.bool (!t.all cellOk)) ∧ Below w.heap.size w w' := by
  have HV := Sec.mk hV
  obtain ⟨A, c, rfl, h1, h2, h3, hC, hz⟩ := hV
  clear hC hz
  generalize hall : t.all cellOk = al
  have HAL := Sec.mk hall
  clear hall
  go_enter Tryz.func131, Tryz.ntmps131
  go_wp2_with (go_at_call 180; refine (indexWrong_i _ t ok _ HV.out).mono ?_; rintro e w1 ⟨n, rfl, hw, hb⟩; have B1 := Sec.mk hb; have HW := Sec.mk hw; clear hb hw)
  go_ret
  exact ⟨rb (by have := HW.out; unfold wrongAt at this; rw [HAL.out] at this; exact this), B1.out⟩
theorem TrmOk_i (v : Value) (t : Term) (ok : Nat → Prop) (w : World) (hV : kCell.V w ok v t) :
    Calls Tryz.prog 56 #[v] w fun e w' => e = .returned (.bool (trmOk t)) ∧ Below w.heap.size w w' := by
  have HV := Sec.mk hV
  obtain ⟨A, c, rfl, h1, h2, h3, hC, hz⟩ := hV
  clear hC hz
  have hk : trmOk t = (inB (t.length : Int) 1 40 && t.all cellOk && decide (skip 1 t = some [])) := by
    unfold trmOk inB
    have e1 : decide ((1 : Int) ≤ (t.length : Int)) = decide (1 ≤ t.length) := decide_eq_decide.2 (by omega)
    have e2 : decide ((t.length : Int) ≤ 40) = decide (t.length ≤ 40) := decide_eq_decide.2 (by omega)
    rw [e1, e2]
  have HW := Sec.mk (sizeOf_whole t)
  obtain ⟨b1, hb1⟩ : ∃ b, inB (t.length : Int) 1 40 = b := ⟨_, rfl⟩
  obtain ⟨b2, hb2⟩ : ∃ b, t.all cellOk = b := ⟨_, rfl⟩
  have H1 := Sec.mk hb1
  have H2 := Sec.mk hb2
  rw [hb1, hb2] at hk
  have HK := Sec.mk hk
  clear hk hb1 hb2
  cases b1 with
  | false =>
    go_enter Tryz.func56, Tryz.ntmps56
    go_wp2_with (go_at_call 121; refine (in_c _ _ _ _).mono ?_; rw [H1.out]; rintro e w' ⟨rfl, rfl⟩)
    go_ret
    exact ⟨rb (by rw [HK.out]; rfl), Below.refl _ _⟩
  | true =>
    cases b2 with
    | false =>
      go_enter Tryz.func56, Tryz.ntmps56
      go_wp2_with (first | (go_at_call 121; refine (in_c _ _ _ _).mono ?_; rw [H1.out]; rintro e w' ⟨rfl, rfl⟩) | (go_at_call 131; refine (containsWrong_i _ t ok _ HV.out).mono ?_; rw [H2.out]; rintro e w1 ⟨rfl, hb⟩; have B1 := Sec.mk hb; clear hb))
      go_ret
      exact ⟨rb (by rw [HK.out]; rfl), B1.out⟩
    | true =>
      generalize hso : sizeOf_ t = so at *
      have HSO := Sec.mk hso
      clear hso
      have hfin : Sec ((so == (t.length : Int)) = trmOk t) := ⟨by rw [HK.out, HW.out]; rfl⟩
      go_enter Tryz.func56, Tryz.ntmps56
      go_wp2_with (first | (go_at_call 121; refine (in_c _ _ _ _).mono ?_; rw [H1.out]; rintro e w' ⟨rfl, rfl⟩) | (go_at_call 131; refine (containsWrong_i _ t ok _ HV.out).mono ?_; rw [H2.out]; rintro e w1 ⟨rfl, hb⟩; have B1 := Sec.mk hb; clear hb) | (go_at_call 132; refine (size_i _ t ok _ (Kd.V_below HV.out B1.out (by decide)) H2.out).mono ?_; rw [HSO.out]; rintro e w2 ⟨rfl, hb⟩; have B2 := Sec.mk (bel B1.out hb); clear hb))
      go_ret
      exact ⟨rb hfin.out, B2.out⟩
end
section
open Go.RowKit
set_option linter.unusedVariables false
set_option maxRecDepth 100000
theorem cell_cases (x y : Cell) : (x = y ∧ (x.kind == y.kind) = true ∧ (x.n == y.n) = true ∧ (x.name.toList == y.name.toList) = true) ∨ (¬ x = y ∧ ((x.kind == y.kind) = false ∨ ((x.kind == y.kind) = true ∧ (x.n == y.n) = false) ∨ ((x.kind == y.kind) = true ∧ (x.n == y.n) = true ∧ (x.name.toList == y.name.toList) = false))) := by
  by_cases h1 : x.kind = y.kind
  · by_cases h2 : x.n = y.n
    · by_cases h3 : x.name = y.name
      · exact .inl ⟨(Cell.ext_iff x y).2 ⟨h1, h2, h3⟩, beq_iff_eq.2 h1, beq_iff_eq.2 h2, beq_iff_eq.2 (by rw [h3])⟩
      · exact .inr ⟨fun e => h3 (by rw [e]), .inr (.inr ⟨beq_iff_eq.2 h1, beq_iff_eq.2 h2, beq_eq_false_iff_ne.2 (fun h => h3 (toList_inj.1 h))⟩)⟩
    · exact .inr ⟨fun e => h2 (by rw [e]), .inr (.inl ⟨beq_iff_eq.2 h1, beq_eq_false_iff_ne.2 h2⟩)⟩
  · exact .inr ⟨fun e => h1 (by rw [e]), .inl (beq_eq_false_iff_ne.2 h1)⟩
theorem caTerm_c (v u : Value) (t s : Term) (ok ok' : Nat → Prop) (w : World) (hV : kCell.V w ok v t) (hU : kCell.V w ok' u s) :
    Calls Tryz.prog 13 #[v, u] w fun e w' => e = .returned (.bool (decide (t = s))) ∧ Below w.heap.size w w' := by
  obtain ⟨A, c, rfl, h1, h2, h3, hC, _⟩ := hV
  obtain ⟨B, d, rfl, k1, k2, k3, hD, _⟩ := hU
  have HC := Sec.mk hC
  have HD := Sec.mk hD
  clear hC hD
  have hu := Tryz.underlying39
  by_cases hl : t.length = s.length
  · rw [← hl]
    have HL := Sec.mk hl
    clear hl
    go_enter Tryz.func13, Tryz.ntmps13
    go_wp2
    go_loopw [5] (fun i wr => ∃ k : Nat, k ≤ t.length ∧ i = .int .i64 k ∧ Sec (t.take k = s.take k) ∧ Sec (Below w.heap.size w wr)) (fun i _ => t.length - (intOf i).toNat)
    case atStart => exact ⟨0, Nat.zero_le _, rfl, ⟨by simp⟩, ⟨Below.refl _ _⟩⟩
    case round =>
      obtain ⟨k, hk, rfl, hT, hb⟩ := hrel
      by_cases hlt : k < t.length
      · have hlt2 : k < s.length := by have := HL.out; omega
        obtain ⟨b, off, rfl, _, x0, x1, x2, _⟩ := cell_at (Kd.C_below HC.out hb.out (by decide)) k hlt
        obtain ⟨b2, off2, rfl, _, y0, y1, y2, _⟩ := cell_at (Kd.C_below HD.out hb.out (by decide)) k hlt2
        have hT1 : Sec (t[k] = s[k] → t.take (k + 1) = s.take (k + 1)) := ⟨fun e => by rw [List.take_succ_eq_append_getElem hlt, List.take_succ_eq_append_getElem hlt2, hT.out, e]⟩
        have hT2 : Sec (t = s → t[k] = s[k]) := ⟨fun e => by subst e; rfl⟩
        generalize t[k] = x at *
        generalize s[k] = y at *
        have i0 : (0 : Int) ≤ (k : Int) := by omega
        have i1 : (k : Int) < (t.length : Int) := by omega
        have B1 : Sec (Below w.heap.size w wr.drew) := ⟨belD hb.out⟩
        rcases cell_cases x y with ⟨hxy, g1, g2, g3⟩ | ⟨hxy, hg⟩
        · have HE : Sec (t.take (k + 1) = s.take (k + 1)) := ⟨hT1.out hxy⟩
          clear hxy
          go_wp2
          go_region_held3 (fun W => (W.cell? ⟨b, off + k * 3, none⟩ = some (.int .i64 x.kind) ∧ W.cell? ⟨b, off + k * 3 + 1, none⟩ = some (.int .i64 x.n) ∧ W.cell? ⟨b, off + k * 3 + 2, none⟩ = some (.string x.name)) ∧ (W.cell? ⟨b2, off2 + k * 3, none⟩ = some (.int .i64 y.kind) ∧ W.cell? ⟨b2, off2 + k * 3 + 1, none⟩ = some (.int .i64 y.n) ∧ W.cell? ⟨b2, off2 + k * 3 + 2, none⟩ = some (.string y.name))) (first | (refine ⟨⟨?_, ?_, ?_⟩, ?_, ?_, ?_⟩ <;> assumption) | go_keep) (fail)
          all_goals
            go_wp2
            go_roundw
            case rel => exact ⟨k + 1, by omega, by go_num, HE, by first | exact hb | exact B1 | exact ⟨belD B1.out⟩⟩
            case measure => simp [intOf]; omega
        · have HE : Sec (decide (t = s) = false) := ⟨decide_eq_false (fun e => hxy (hT2.out e))⟩
          clear hxy
          rcases hg with g1 | ⟨g1, g2⟩ | ⟨g1, g2, g3⟩
          all_goals
            go_wp2
            go_region_held3 (fun W => (W.cell? ⟨b, off + k * 3, none⟩ = some (.int .i64 x.kind) ∧ W.cell? ⟨b, off + k * 3 + 1, none⟩ = some (.int .i64 x.n) ∧ W.cell? ⟨b, off + k * 3 + 2, none⟩ = some (.string x.name)) ∧ (W.cell? ⟨b2, off2 + k * 3, none⟩ = some (.int .i64 y.kind) ∧ W.cell? ⟨b2, off2 + k * 3 + 1, none⟩ = some (.int .i64 y.n) ∧ W.cell? ⟨b2, off2 + k * 3 + 2, none⟩ = some (.string y.name))) (first | (refine ⟨⟨?_, ?_, ?_⟩, ?_, ?_, ?_⟩ <;> assumption) | go_keep) (fail)
            all_goals
              go_wp2
              go_ret
              exact ⟨rb HE.out.symm, by first | exact hb.out | exact B1.out | exact belD B1.out⟩
      · have HE : Sec (decide (t = s) = true) := ⟨decide_eq_true (by have := hT.out; have h2 := HL.out; rwa [List.take_of_length_le (by omega), List.take_of_length_le (by omega)] at this)⟩
        go_wp2
        go_ret
        exact ⟨rb HE.out.symm, hb.out⟩
  · have hl' : ((t.length : Int) == (s.length : Int)) = false := beq_eq_false_iff_ne.2 (by omega)
    have HE : Sec (decide (t = s) = false) := ⟨decide_eq_false (fun e => hl (by rw [e]))⟩
    go_enter Tryz.func13, Tryz.ntmps13
    go_wp2
    go_ret
    exact ⟨rb HE.out.symm, Below.refl _ _⟩
theorem caOk_c (w : World) : Calls Tryz.prog 15 #[] w fun e w' => e = .returned (.bool true) ∧ Below w.heap.size w w' := by
  have H := Sec.mk (fun W (h : kCell.V W (fun k => w.heap.size ≤ k) (.slice (some ⟨w.heap.size, 0, none⟩) 1 1) [⟨2, 1, ⟨#[]⟩⟩]) => TrmOk_i _ [⟨2, 1, ⟨#[]⟩⟩] (fun k => w.heap.size ≤ k) W h)
  have hV : Sec (kCell.V (w.alloc (.cells #[.int .i64 2, .int .i64 1, .string ⟨#[]⟩] 39)) (fun k => w.heap.size ≤ k) (.slice (some ⟨w.heap.size, 0, none⟩) 1 1) [⟨2, 1, ⟨#[]⟩⟩]) := ⟨⟨_, 1, rfl, Nat.le_refl _, by simp [maxLen], by simp, .inr ⟨w.heap.size, 0, rfl, Nat.le_refl _, fun i x hx => by
    have hi : i = 0 := by have := (List.getElem?_eq_some_iff.1 hx).1; simpa using this
    subst hi
    obtain rfl : (⟨2, 1, ⟨#[]⟩⟩ : Cell) = x := by simpa using hx
    refine ⟨_, Kd.O_K _ (kCell_mk _ _ ⟨2, 1, ⟨#[]⟩⟩ (by decide)), fun j u hu => ?_⟩
    have := (box_at (heap_alloc_new w (.cells #[.int .i64 2, .int .i64 1, .string ⟨#[]⟩] 39))).2.1 j u (by simpa [cellC] using hu)
    simpa using this⟩, fun h => by cases h⟩⟩
  have hT : trmOk [⟨2, 1, ⟨#[]⟩⟩] = true := by
    have h1 : cellOk ⟨2, 1, ⟨#[]⟩⟩ = true := by
      unfold cellOk
      rw [if_neg (by decide), if_pos rfl, Bool.and_eq_true]
      exact ⟨by decide, by rw [toList_data]; rfl⟩
    have h2 : skip 1 [⟨2, 1, ⟨#[]⟩⟩] = some [] := by simp [skip, arity]
    unfold trmOk
    rw [List.all_cons, h1, h2]
    decide
  rw [hT] at H
  clear hT
  go_enter Tryz.func15, Tryz.ntmps15
  go_wp2_with (go_at_call 56; refine (H.out _ hV.out).mono ?_; rintro e w1 ⟨rfl, hb⟩; have B1 := Sec.mk (bel (belA (Below.refl _ _) _) hb); clear hb)
  go_ret
  exact ⟨rfl, B1.out⟩
end
section
open Go.RowKit
set_option linter.unusedVariables false
set_option maxRecDepth 100000
theorem TrmSame_c (v u : Value) (t s : Term) (ok ok' : Nat → Prop) (w : World) (hV : kCell.V w ok v t) (hU : kCell.V w ok' u s) :
    Calls Tryz.prog 125 #[v, u] w fun e w' => e = .returned (.bool (decide (t = s))) ∧ Below w.heap.size w w' := by
  obtain ⟨A, c, rfl, h1, h2, h3, hC, _⟩ := hV
  obtain ⟨B, d, rfl, k1, k2, k3, hD, _⟩ := hU
  have HC := Sec.mk hC
  have HD := Sec.mk hD
  clear hC hD
  have hu := Tryz.underlying39
  by_cases hl : t.length = s.length
  · rw [← hl]
    have HL := Sec.mk hl
    clear hl
    go_enter Tryz.func125, Tryz.ntmps125
    go_wp2
    go_loopw [5] (fun i wr => ∃ k : Nat, k ≤ t.length ∧ i = .int .i64 k ∧ Sec (t.take k = s.take k) ∧ Sec (Below w.heap.size w wr)) (fun i _ => t.length - (intOf i).toNat)
    case atStart => exact ⟨0, Nat.zero_le _, rfl, ⟨by simp⟩, ⟨Below.refl _ _⟩⟩
    case round =>
      obtain ⟨k, hk, rfl, hT, hb⟩ := hrel
      by_cases hlt : k < t.length
      · have hlt2 : k < s.length := by have := HL.out; omega
        obtain ⟨b, off, rfl, _, x0, x1, x2, _⟩ := cell_at (Kd.C_below HC.out hb.out (by decide)) k hlt
        obtain ⟨b2, off2, rfl, _, y0, y1, y2, _⟩ := cell_at (Kd.C_below HD.out hb.out (by decide)) k hlt2
        have hT1 : Sec (t[k] = s[k] → t.take (k + 1) = s.take (k + 1)) := ⟨fun e => by rw [List.take_succ_eq_append_getElem hlt, List.take_succ_eq_append_getElem hlt2, hT.out, e]⟩
        have hT2 : Sec (t = s → t[k] = s[k]) := ⟨fun e => by subst e; rfl⟩
        generalize t[k] = x at *
        generalize s[k] = y at *
        have i0 : (0 : Int) ≤ (k : Int) := by omega
        have i1 : (k : Int) < (t.length : Int) := by omega
        have B1 : Sec (Below w.heap.size w wr.drew) := ⟨belD hb.out⟩
        rcases cell_cases x y with ⟨hxy, g1, g2, g3⟩ | ⟨hxy, hg⟩
        · have HE : Sec (t.take (k + 1) = s.take (k + 1)) := ⟨hT1.out hxy⟩
          clear hxy
          go_wp2
          go_region_held3 (fun W => (W.cell? ⟨b, off + k * 3, none⟩ = some (.int .i64 x.kind) ∧ W.cell? ⟨b, off + k * 3 + 1, none⟩ = some (.int .i64 x.n) ∧ W.cell? ⟨b, off + k * 3 + 2, none⟩ = some (.string x.name)) ∧ (W.cell? ⟨b2, off2 + k * 3, none⟩ = some (.int .i64 y.kind) ∧ W.cell? ⟨b2, off2 + k * 3 + 1, none⟩ = some (.int .i64 y.n) ∧ W.cell? ⟨b2, off2 + k * 3 + 2, none⟩ = some (.string y.name))) (first | (refine ⟨⟨?_, ?_, ?_⟩, ?_, ?_, ?_⟩ <;> assumption) | go_keep) (fail)
          all_goals
            go_wp2
            go_roundw
            case rel => exact ⟨k + 1, by omega, by go_num, HE, by first | exact hb | exact B1 | exact ⟨belD B1.out⟩⟩
            case measure => simp [intOf]; omega
        · have HE : Sec (decide (t = s) = false) := ⟨decide_eq_false (fun e => hxy (hT2.out e))⟩
          clear hxy
          rcases hg with g1 | ⟨g1, g2⟩ | ⟨g1, g2, g3⟩
          all_goals
            go_wp2
            go_region_held3 (fun W => (W.cell? ⟨b, off + k * 3, none⟩ = some (.int .i64 x.kind) ∧ W.cell? ⟨b, off + k * 3 + 1, none⟩ = some (.int .i64 x.n) ∧ W.cell? ⟨b, off + k * 3 + 2, none⟩ = some (.string x.name)) ∧ (W.cell? ⟨b2, off2 + k * 3, none⟩ = some (.int .i64 y.kind) ∧ W.cell? ⟨b2, off2 + k * 3 + 1, none⟩ = some (.int .i64 y.n) ∧ W.cell? ⟨b2, off2 + k * 3 + 2, none⟩ = some (.string y.name))) (first | (refine ⟨⟨?_, ?_, ?_⟩, ?_, ?_, ?_⟩ <;> assumption) | go_keep) (fail)
            all_goals
              go_wp2
              go_ret
              exact ⟨rb HE.out.symm, by first | exact hb.out | exact B1.out | exact belD B1.out⟩
      · have HE : Sec (decide (t = s) = true) := ⟨decide_eq_true (by have := hT.out; have h2 := HL.out; rwa [List.take_of_length_le (by omega), List.take_of_length_le (by omega)] at this)⟩
        go_wp2
        go_ret
        exact ⟨rb HE.out.symm, hb.out⟩
  · have hl' : ((t.length : Int) == (s.length : Int)) = false := beq_eq_false_iff_ne.2 (by omega)
    have HE : Sec (decide (t = s) = false) := ⟨decide_eq_false (fun e => hl (by rw [e]))⟩
    go_enter Tryz.func125, Tryz.ntmps125
    go_wp2
    go_ret
    exact ⟨rb HE.out.symm, Below.refl _ _⟩
theorem equalCells_c (v u : Value) (t s : Term) (ok ok' : Nat → Prop) (w : World) (hV : kCell.V w ok v t) (hU : kCell.V w ok' u s) :
    Calls Tryz.prog 196 #[v, u] w fun e w' => e = .returned (.bool (decide (t = s))) ∧ Below w.heap.size w w' := by
  obtain ⟨A, c, rfl, h1, h2, h3, hC, _⟩ := hV
  obtain ⟨B, d, rfl, k1, k2, k3, hD, _⟩ := hU
  have HC := Sec.mk hC
  have HD := Sec.mk hD
  clear hC hD
  have hu := Tryz.underlying39
  by_cases hl : t.length = s.length
  · rw [← hl]
    have HL := Sec.mk hl
    clear hl
    go_enter Tryz.func196, Tryz.ntmps196
    go_wp2
    go_loopw [13] (fun i wr => ∃ k : Nat, k ≤ t.length ∧ i = .int .i64 k ∧ Sec (t.take k = s.take k) ∧ Sec (Below w.heap.size w wr)) (fun i _ => t.length - (intOf i).toNat)
    case atStart => exact ⟨0, Nat.zero_le _, rfl, ⟨by simp⟩, ⟨Below.refl _ _⟩⟩
    case round =>
      obtain ⟨k, hk, rfl, hT, hb⟩ := hrel
      by_cases hlt : k < t.length
      · have hlt2 : k < s.length := by have := HL.out; omega
        obtain ⟨b, off, rfl, _, x0, x1, x2, _⟩ := cell_at (Kd.C_below HC.out hb.out (by decide)) k hlt
        obtain ⟨b2, off2, rfl, _, y0, y1, y2, _⟩ := cell_at (Kd.C_below HD.out hb.out (by decide)) k hlt2
        have hT1 : Sec (t[k] = s[k] → t.take (k + 1) = s.take (k + 1)) := ⟨fun e => by rw [List.take_succ_eq_append_getElem hlt, List.take_succ_eq_append_getElem hlt2, hT.out, e]⟩
        have hT2 : Sec (t = s → t[k] = s[k]) := ⟨fun e => by subst e; rfl⟩
        generalize t[k] = x at *
        generalize s[k] = y at *
        have i0 : (0 : Int) ≤ (k : Int) := by omega
        have i1 : (k : Int) < (t.length : Int) := by omega
        have B1 : Sec (Below w.heap.size w wr.drew) := ⟨belD hb.out⟩
        rcases cell_cases x y with ⟨hxy, g1, g2, g3⟩ | ⟨hxy, hg⟩
        · have HE : Sec (t.take (k + 1) = s.take (k + 1)) := ⟨hT1.out hxy⟩
          clear hxy
          go_wp2
          go_region_held3 (fun W => (W.cell? ⟨b, off + k * 3, none⟩ = some (.int .i64 x.kind) ∧ W.cell? ⟨b, off + k * 3 + 1, none⟩ = some (.int .i64 x.n) ∧ W.cell? ⟨b, off + k * 3 + 2, none⟩ = some (.string x.name)) ∧ (W.cell? ⟨b2, off2 + k * 3, none⟩ = some (.int .i64 y.kind) ∧ W.cell? ⟨b2, off2 + k * 3 + 1, none⟩ = some (.int .i64 y.n) ∧ W.cell? ⟨b2, off2 + k * 3 + 2, none⟩ = some (.string y.name))) (first | (refine ⟨⟨?_, ?_, ?_⟩, ?_, ?_, ?_⟩ <;> assumption) | go_keep) (fail)
          all_goals
            go_wp2
            go_roundw
            case rel => exact ⟨k + 1, by omega, by go_num, HE, by first | exact hb | exact B1 | exact ⟨belD B1.out⟩⟩
            case measure => simp [intOf]; omega
        · have HE : Sec (decide (t = s) = false) := ⟨decide_eq_false (fun e => hxy (hT2.out e))⟩
          clear hxy
          rcases hg with g1 | ⟨g1, g2⟩ | ⟨g1, g2, g3⟩
          all_goals
            go_wp2
            go_region_held3 (fun W => (W.cell? ⟨b, off + k * 3, none⟩ = some (.int .i64 x.kind) ∧ W.cell? ⟨b, off + k * 3 + 1, none⟩ = some (.int .i64 x.n) ∧ W.cell? ⟨b, off + k * 3 + 2, none⟩ = some (.string x.name)) ∧ (W.cell? ⟨b2, off2 + k * 3, none⟩ = some (.int .i64 y.kind) ∧ W.cell? ⟨b2, off2 + k * 3 + 1, none⟩ = some (.int .i64 y.n) ∧ W.cell? ⟨b2, off2 + k * 3 + 2, none⟩ = some (.string y.name))) (first | (refine ⟨⟨?_, ?_, ?_⟩, ?_, ?_, ?_⟩ <;> assumption) | go_keep) (fail)
            all_goals
              go_wp2
              go_ret
              exact ⟨rb HE.out.symm, by first | exact hb.out | exact B1.out | exact belD B1.out⟩
      · have HE : Sec (decide (t = s) = true) := ⟨decide_eq_true (by have := hT.out; have h2 := HL.out; rwa [List.take_of_length_le (by omega), List.take_of_length_le (by omega)] at this)⟩
        go_wp2
        go_ret
        exact ⟨rb HE.out.symm, hb.out⟩
  · have hl' : ((t.length : Int) == (s.length : Int)) = false := beq_eq_false_iff_ne.2 (by omega)
    have HE : Sec (decide (t = s) = false) := ⟨decide_eq_false (fun e => hl (by rw [e]))⟩
    go_enter Tryz.func196, Tryz.ntmps196
    go_wp2
    go_ret
    exact ⟨rb HE.out.symm, Below.refl _ _⟩
theorem TrmSame_i (v u : Value) (t s : Term) (ok ok' : Nat → Prop) (w : World) (hV : kCell.V w ok v t) (hU : kCell.V w ok' u s) :
    Calls Tryz.prog 141 #[v, u] w fun e w' => e = .returned (.bool (decide (t = s))) ∧ Below w.heap.size w w' := by
  have H := equalCells_c v u t s ok ok' w hV hU
  obtain ⟨A, c, rfl, -⟩ := hV
  obtain ⟨B, d, rfl, -⟩ := hU
  have H := Sec.mk H
  generalize hq : decide (t = s) = q at *
  have HQ := Sec.mk hq
  clear hq
  go_enter Tryz.func141, Tryz.ntmps141
  go_wp2_with (go_at_call 196; refine H.out.mono ?_; rintro e w1 ⟨rfl, hb⟩; have B1 := Sec.mk hb; clear hb)
  go_ret
  exact ⟨rfl, B1.out⟩
end
section
open Go.RowKit
set_option linter.unusedVariables false
set_option maxRecDepth 100000
def headFun : Term → Bool
  | [] => false
  | c :: _ => c.kind == 3
def question (t : Term) : Bool := trmOk t && headFun t && decide (canon t = t)
theorem trmOk_ne {t : Term} (h : trmOk t = true) : t ≠ [] := by rintro rfl; simp [trmOk] at h
theorem question_no1 {t : Term} (h : trmOk t = false) : question t = false := by simp [question, h]
theorem question_no2 {t : Term} (h : headFun t = false) : question t = false := by simp [question, h]
theorem question_at {t : Term} (h : trmOk t = true) (h2 : headFun t = true) : question t = decide (canon t = t) := by simp [question, h, h2]
theorem l3Call_c (v : Value) (t : Term) (ok : Nat → Prop) (w : World) (hV : kCell.V w ok v t) :
    Calls Tryz.prog 124 #[v] w fun e w' => e = .returned (.bool (headFun t)) ∧ Below w.heap.size w w' := by
  obtain ⟨A, c, rfl, h1, h2, h3, hC, -⟩ := hV
  cases t with
  | nil =>
    clear hC
    simp only [List.length_nil] at *
    have hq : decide ((0 : Int) > ((0 : Nat) : Int)) = false := by decide
    go_enter Tryz.func124, Tryz.ntmps124
    go_wp2
    go_ret
    exact ⟨rfl, Below.refl _ _⟩
  | cons x r =>
    obtain ⟨b, off, rfl, _, x0, -, -, -⟩ := cell_at hC 0 (by simp)
    simp only [List.getElem_cons_zero, Nat.zero_mul, Nat.add_zero] at x0
    have hl : 0 < (x :: r).length := by simp
    generalize hn : (x :: r).length = n at *
    have HN := Sec.mk hn
    clear hn hC
    have i1 : (0 : Int) < (n : Int) := by omega
    have hq : decide ((n : Int) > 0) = true := decide_eq_true i1
    go_enter Tryz.func124, Tryz.ntmps124
    go_wp2
    go_ret
    exact ⟨rfl, Below.refl _ _⟩
theorem l4Top_c (v : Value) (t : Term) (ok : Nat → Prop) (w : World) (hV : kCell.V w ok v t) (hok : ∀ k, ok k → k < w.heap.size) :
    Calls Tryz.prog 51 #[v] w fun e w' => e = .returned (.bool (question t)) ∧ Below w.heap.size w w' := by
  have HV := Sec.mk hV
  have FV : ∀ {w' : World}, Below w.heap.size w w' → kCell.V w' ok v t := fun hb => Kd.V_below HV.out hb (by decide)
  obtain ⟨A, c, rfl, -⟩ := hV
  cases ht : trmOk t with
  | false =>
    rw [question_no1 ht]
    have H1 := Sec.mk ht
    clear ht
    go_enter Tryz.func51, Tryz.ntmps51
    go_wp2_with (go_at_call 12; refine (TrmOk_c _ t _ _ HV.out).mono ?_; rw [H1.out]; rintro e w1 ⟨rfl, hb⟩; have B1 := Sec.mk hb; clear hb)
    go_ret
    exact ⟨rfl, B1.out⟩
  | true =>
    cases hh : headFun t with
    | false =>
      rw [question_no2 hh]
      have H1 := Sec.mk ht
      have H2 := Sec.mk hh
      clear ht hh
      go_enter Tryz.func51, Tryz.ntmps51
      go_wp2_with (first | (go_at_call 12; refine (TrmOk_c _ t _ _ HV.out).mono ?_; rw [H1.out]; rintro e w1 ⟨rfl, hb⟩; have B1 := Sec.mk hb; clear hb) | (go_at_call 124; refine (l3Call_c _ t _ _ (FV B1.out)).mono ?_; rw [H2.out]; rintro e w2 ⟨rfl, hb⟩; have B2 := Sec.mk (bel B1.out hb); clear hb))
      go_ret
      exact ⟨rfl, B2.out⟩
    | true =>
      rw [question_at ht hh]
      generalize hq : decide (canon t = t) = q at *
      have HQ := Sec.mk hq
      have H1 := Sec.mk ht
      have H2 := Sec.mk hh
      clear ht hh hq
      go_enter Tryz.func51, Tryz.ntmps51
      go_wp2_with (first | (go_at_call 12; refine (TrmOk_c _ t _ _ HV.out).mono ?_; rw [H1.out]; rintro e w1 ⟨rfl, hb⟩; have B1 := Sec.mk hb; clear hb) | (go_at_call 124; refine (l3Call_c _ t _ _ (FV B1.out)).mono ?_; rw [H2.out]; rintro e w2 ⟨rfl, hb⟩; have B2 := Sec.mk (bel B1.out hb); clear hb) | (go_at_call 14; refine (TrmCanon_c _ t _ _ (FV B2.out)).mono ?_; rintro e w3 ⟨u, rfl, hR, hb⟩; have R3 := Sec.mk (Kd.R_V hR); have B3 := Sec.mk (bel B2.out hb); clear hR hb) | (go_at_call 125; refine (TrmSame_c _ _ (canon t) t _ _ _ R3.out (FV B3.out)).mono ?_; rw [HQ.out]; rintro e w4 ⟨rfl, hb⟩; have B4 := Sec.mk (bel B3.out hb); clear hb))
      go_ret
      exact ⟨rfl, B4.out⟩
theorem called_i (v : Value) (t : Term) (ok : Nat → Prop) (w : World) (hV : kCell.V w ok v t) :
    Calls Tryz.prog 155 #[v] w fun e w' => e = .returned (.bool (trmOk t && headFun t)) ∧ Below w.heap.size w w' := by
  have HV := Sec.mk hV
  cases ht : trmOk t with
  | false =>
    rw [Bool.false_and]
    obtain ⟨A, c, rfl, -⟩ := hV
    have H1 := Sec.mk ht
    clear ht
    go_enter Tryz.func155, Tryz.ntmps155
    go_wp2_with (go_at_call 56; refine (TrmOk_i _ t _ _ HV.out).mono ?_; rw [H1.out]; rintro e w1 ⟨rfl, hb⟩; have B1 := Sec.mk hb; clear hb)
    go_ret
    exact ⟨rfl, B1.out⟩
  | true =>
    rw [Bool.true_and]
    obtain ⟨A, c, rfl, h1, h2, h3, hC, -⟩ := hV
    cases t with
    | nil => exact absurd rfl (trmOk_ne ht)
    | cons x r =>
      have H1 := Sec.mk ht
      clear ht
      have HC := Sec.mk hC
      obtain ⟨b, off, rfl, _, x0, -, -, -⟩ := cell_at hC 0 (by simp)
      clear x0
      have H0 : ∀ {w' : World}, Below w.heap.size w w' → w'.cell? ⟨b, off, none⟩ = some (.int .i64 x.kind) := fun hb => by
        obtain ⟨b', off', e, _, y0, -, -, -⟩ := cell_at (Kd.C_below HC.out hb (by decide)) 0 (by simp)
        simp only [List.getElem_cons_zero, Nat.zero_mul, Nat.add_zero] at y0
        cases e
        exact y0
      have hl : 0 < (x :: r).length := by simp
      have HT : Sec (headFun (x :: r) = (x.kind == 3)) := ⟨rfl⟩
      rw [HT.out]
      generalize hn : (x :: r).length = n at *
      generalize ht : (x :: r) = t at *
      have HN := Sec.mk hn
      clear hn hC ht
      have i1 : (0 : Int) < (n : Int) := by omega
      go_enter Tryz.func155, Tryz.ntmps155
      go_wp2_with (go_at_call 56; refine (TrmOk_i _ t _ _ HV.out).mono ?_; rw [H1.out]; rintro e w1 ⟨rfl, hb⟩; have x0 := H0 hb; have B1 := Sec.mk hb; clear hb)
      go_ret
      exact ⟨rfl, B1.out⟩
theorem isQuestion_i (v : Value) (t : Term) (ok : Nat → Prop) (w : World) (hV : kCell.V w ok v t) :
    Calls Tryz.prog 70 #[v] w fun e w' => e = .returned (.bool (question t)) ∧ Below w.heap.size w w' := by
  have HV := Sec.mk hV
  have FV : ∀ {w' : World}, Below w.heap.size w w' → kCell.V w' ok v t := fun hb => Kd.V_below HV.out hb (by decide)
  obtain ⟨A, c, rfl, -⟩ := hV
  have hc : question t = ((trmOk t && headFun t) && decide (canon t = t)) := rfl
  rw [hc]
  clear hc
  cases ht : (trmOk t && headFun t) with
  | false =>
    rw [Bool.false_and]
    have H1 := Sec.mk ht
    clear ht
    go_enter Tryz.func70, Tryz.ntmps70
    go_wp2_with (go_at_call 155; refine (called_i _ t _ _ HV.out).mono ?_; rw [H1.out]; rintro e w1 ⟨rfl, hb⟩; have B1 := Sec.mk hb; clear hb)
    go_ret
    exact ⟨rfl, B1.out⟩
  | true =>
    rw [Bool.true_and]
    have H1 := Sec.mk ht
    clear ht
    have hs : decide (t = canon t) = decide (canon t = t) := decide_eq_decide.2 eq_comm
    generalize hq : decide (canon t = t) = q at *
    have HQ := Sec.mk hs
    clear hs hq
    go_enter Tryz.func70, Tryz.ntmps70
    go_wp2_with (first | (go_at_call 155; refine (called_i _ t _ _ HV.out).mono ?_; rw [H1.out]; rintro e w1 ⟨rfl, hb⟩; have B1 := Sec.mk hb; clear hb) | (go_at_call 142; refine (TrmCanon_i _ t _ _ (FV B1.out)).mono ?_; rintro e w3 ⟨u, rfl, hR, hb⟩; have R3 := Sec.mk (Kd.R_V hR); have B3 := Sec.mk (bel B1.out hb); clear hR hb) | (go_at_call 141; refine (TrmSame_i _ _ t (canon t) _ _ _ (FV B3.out) R3.out).mono ?_; rw [HQ.out]; rintro e w4 ⟨rfl, hb⟩; have B4 := Sec.mk (bel B3.out hb); clear hb))
    go_ret
    exact ⟨rfl, B4.out⟩
end
section
open Go.RowKit
set_option linter.unusedVariables false
set_option maxRecDepth 100000
def mCell : Mk Cell := ⟨fun x => 1 + 1 + 1, fun x k => ⟨k, k + 1, mt (k + 1 + 1)⟩⟩
end
section
open Go.RowKit
set_option linter.unusedVariables false
set_option maxRecDepth 100000
def kGoal : Kd Goal := Kd.iso 100 (Kd.pair (Kd.int 3) (Kd.pair (Kd.slice 23 kCell (by decide)) (Kd.pair (Kd.slice 23 kCell (by decide)) (Kd.slice 23 kCell (by decide))))) (fun x => (x.kind, x.a, x.b, x.c))
theorem kGoal_K {w : World} {ok : Nat → Prop} {x : Goal} {cs : List Value} (h : kGoal.K w ok x cs) : ∃ v1 v2 v3, cs = [.int .i64 x.kind, v1, v2, v3] ∧ kCell.V w ok v1 x.a ∧ kCell.V w ok v2 x.b ∧ kCell.V w ok v3 x.c := by
  obtain ⟨_, _, rfl, ⟨rfl, _⟩, ⟨_, _, rfl, ⟨v1, rfl, h1⟩, ⟨_, _, rfl, ⟨v2, rfl, h2⟩, ⟨v3, rfl, h3⟩⟩⟩⟩ := h
  exact ⟨v1, v2, v3, rfl, h1, h2, h3⟩
def rGoal : Raw Goal := Raw.iso 273 (Raw.pair (Raw.int 3) (Raw.pair (Raw.slice 50 rCell) (Raw.pair (Raw.slice 50 rCell) (Raw.slice 50 rCell)))) (fun x => (x.kind, x.a, x.b, x.c))
theorem Goal.ext_iff (a b : Goal) : a = b ↔ a.kind = b.kind ∧ a.a = b.a ∧ a.b = b.b ∧ a.c = b.c := by
  cases a; cases b; simp
instance : DecidableEq Goal := fun a b => decidable_of_iff _ (Goal.ext_iff a b).symm
def zeroGoal : Goal := ⟨0, [], [], []⟩
theorem kGoal_zero (w : World) : kGoal.O w (fun _ => False) zeroGoal [.int .i64 0, .slice none 0 0, .slice none 0 0, .slice none 0 0] := (Kd.O_pair0 (d := (Kd.int 3)) (e := (Kd.pair (Kd.slice 23 kCell (by decide)) (Kd.pair (Kd.slice 23 kCell (by decide)) (Kd.slice 23 kCell (by decide))))) ⟨rfl, trivial⟩ (Kd.O_pair0 (d := (Kd.slice 23 kCell (by decide))) (e := (Kd.pair (Kd.slice 23 kCell (by decide)) (Kd.slice 23 kCell (by decide)))) ⟨_, rfl, Kd.R_nil _ _ _⟩ (Kd.O_pair0 (d := (Kd.slice 23 kCell (by decide))) (e := (Kd.slice 23 kCell (by decide))) ⟨_, rfl, Kd.R_nil _ _ _⟩ ⟨_, rfl, Kd.R_nil _ _ _⟩)))
def mGoal : Mk Goal := ⟨fun x => 1 + mCell.cnts x.a + mCell.cnts x.b + mCell.cnts x.c, fun x k => ⟨k, mCell.mks x.a (k + 1), mCell.mks x.b (k + 1 + ((mCell.cnts x.a : Nat) : Int)), mCell.mks x.c (k + 1 + ((mCell.cnts x.a : Nat) : Int) + ((mCell.cnts x.b : Nat) : Int))⟩⟩
def mGoalt : Mk Goal := ⟨fun x => mCell.cnts x.a + mCell.cnts x.b + mCell.cnts x.c, fun x k => ⟨x.kind, mCell.mks x.a (k), mCell.mks x.b (k + ((mCell.cnts x.a : Nat) : Int)), mCell.mks x.c (k + ((mCell.cnts x.a : Nat) : Int) + ((mCell.cnts x.b : Nat) : Int))⟩⟩
end
section
open Go.RowKit
set_option linter.unusedVariables false
set_option maxRecDepth 100000
def kClause : Kd Clause := Kd.iso 113 (Kd.pair (Kd.slice 23 kCell (by decide)) (Kd.slice 111 kGoal (by decide))) (fun x => (x.head, x.body))
theorem kClause_K {w : World} {ok : Nat → Prop} {x : Clause} {cs : List Value} (h : kClause.K w ok x cs) : ∃ v0 v1, cs = [v0, v1] ∧ kCell.V w ok v0 x.head ∧ kGoal.V w ok v1 x.body := by
  obtain ⟨_, _, rfl, ⟨v0, rfl, h0⟩, ⟨v1, rfl, h1⟩⟩ := h
  exact ⟨v0, v1, rfl, h0, h1⟩
def rClause : Raw Clause := Raw.iso 199 (Raw.pair (Raw.slice 50 rCell) (Raw.slice 197 rGoal)) (fun x => (x.head, x.body))
theorem Clause.ext_iff (a b : Clause) : a = b ↔ a.head = b.head ∧ a.body = b.body := by
  cases a; cases b; simp
instance : DecidableEq Clause := fun a b => decidable_of_iff _ (Clause.ext_iff a b).symm
def zeroClause : Clause := ⟨[], []⟩
theorem kClause_zero (w : World) : kClause.O w (fun _ => False) zeroClause [.slice none 0 0, .slice none 0 0] := (Kd.O_pair0 (d := (Kd.slice 23 kCell (by decide))) (e := (Kd.slice 111 kGoal (by decide))) ⟨_, rfl, Kd.R_nil _ _ _⟩ ⟨_, rfl, Kd.R_nil _ _ _⟩)
def mClause : Mk Clause := ⟨fun x => mCell.cnts x.head + mGoal.cnts x.body, fun x k => ⟨mCell.mks x.head (k), mGoal.mks x.body (k + ((mCell.cnts x.head : Nat) : Int))⟩⟩
def mClauset : Mk Clause := ⟨fun x => mCell.cnts x.head + mGoal.cnts x.body, fun x k => ⟨mCell.mks x.head (k), mGoal.mks x.body (k + ((mCell.cnts x.head : Nat) : Int))⟩⟩
end
section
open Go.RowKit
set_option linter.unusedVariables false
set_option maxRecDepth 100000
def kPlace : Kd Place := Kd.iso 116 (Kd.pair (Kd.str 9) (Kd.pair (Kd.int 3) (Kd.int 3))) (fun x => (x.name, x.n, x.node))
theorem kPlace_K {w : World} {ok : Nat → Prop} {x : Place} {cs : List Value} (h : kPlace.K w ok x cs) : cs = [.string x.name, .int .i64 x.n, .int .i64 x.node] ∧ x.name.size ≤ 1073741824 := by
  obtain ⟨_, _, rfl, ⟨rfl, h0⟩, ⟨_, _, rfl, ⟨rfl, _⟩, ⟨rfl, _⟩⟩⟩ := h
  exact ⟨rfl, h0⟩
def rPlace : Raw Place := Raw.iso 201 (Raw.pair (Raw.str 9) (Raw.pair (Raw.int 3) (Raw.int 3))) (fun x => (x.name, x.n, x.node))
theorem Place.ext_iff (a b : Place) : a = b ↔ a.name = b.name ∧ a.n = b.n ∧ a.node = b.node := by
  cases a; cases b; simp
instance : DecidableEq Place := fun a b => decidable_of_iff _ (Place.ext_iff a b).symm
def zeroPlace : Place := ⟨⟨#[]⟩, 0, 0⟩
theorem kPlace_zero (w : World) : kPlace.O w (fun _ => False) zeroPlace [.string ⟨#[]⟩, .int .i64 0, .int .i64 0] := (Kd.O_pair0 (d := (Kd.str 9)) (e := (Kd.pair (Kd.int 3) (Kd.int 3))) ⟨rfl, by decide⟩ (Kd.O_pair0 (d := (Kd.int 3)) (e := (Kd.int 3)) ⟨rfl, trivial⟩ ⟨rfl, trivial⟩))
theorem kPlace_mk (w : World) (S : Nat → Prop) (x : Place) (h : x.name.size ≤ 1073741824) : kPlace.O w S x [.string x.name, .int .i64 x.n, .int .i64 x.node] :=
  ⟨fun _ => False, fun _ => False, [.string x.name], [.int .i64 x.n, .int .i64 x.node], rfl, fun _ h => h.elim, fun _ h => h.elim, ⟨rfl, h⟩,
    fun _ => False, fun _ => False, [.int .i64 x.n], [.int .i64 x.node], rfl, fun _ h => h.elim, fun _ h => h.elim, ⟨rfl, trivial⟩, rfl, trivial⟩
def mPlace : Mk Place := ⟨fun x => 1 + 1 + 1, fun x k => ⟨mt (k), k + 1, k + 1 + 1⟩⟩
end
section
open Go.RowKit
set_option linter.unusedVariables false
set_option maxRecDepth 100000
def kProg : Kd Prog := Kd.iso 28 (Kd.pair (Kd.slice 25 kClause (by decide)) (Kd.slice 26 kPlace (by decide))) (fun x => (x.clauses, x.places))
theorem kProg_K {w : World} {ok : Nat → Prop} {x : Prog} {cs : List Value} (h : kProg.K w ok x cs) : ∃ v0 v1, cs = [v0, v1] ∧ kClause.V w ok v0 x.clauses ∧ kPlace.V w ok v1 x.places := by
  obtain ⟨_, _, rfl, ⟨v0, rfl, h0⟩, ⟨v1, rfl, h1⟩⟩ := h
  exact ⟨v0, v1, rfl, h0, h1⟩
end
section
open Go.RowKit
set_option linter.unusedVariables false
def varIn (x : Cell) : Bool := !(x.kind == 1 && decide (8 ≤ x.n))
def termIn (t : Term) : Bool := trmOk t && decide (t.length ≤ 12) && t.all varIn
def goalOk (g : Goal) : Bool :=
  if g.kind = 1 then termIn g.a && headFun g.a && decide (g.b.length + g.c.length = 0)
  else if g.kind = 3 then decide (g.a.length + g.b.length + g.c.length = 0)
  else if g.kind = 2 ∨ g.kind = 4 then termIn g.a && termIn g.b && decide (g.c.length = 0)
  else if g.kind = 5 then termIn g.a && termIn g.b && termIn g.c
  else false
def clauseOk (c : Clause) : Bool := termIn c.head && headFun c.head && decide (c.body.length ≤ 4) && c.body.all goalOk
def placeOk (p : Place) : Bool := nameOk p.name && inB p.n 0 3 && inB p.node 1 2
def samePlace (p q : Place) : Bool := p.name.toList == q.name.toList && p.n == q.n
def newAt (l : List Place) (k : Nat) : Bool := match l[k]? with
  | some x => placeOk x && (l.take k).all (fun q => !samePlace q x)
  | none => true
def placesOk (l : List Place) : Bool := (List.range l.length).all (newAt l)
def prgOk (p : Prog) : Bool := decide (p.clauses.length ≤ 12) && decide (p.places.length ≤ 6) && p.clauses.all clauseOk && placesOk p.places
theorem newAt_at {l : List Place} {k : Nat} (h : k < l.length) : newAt l k = (placeOk l[k] && (l.take k).all (fun q => !samePlace q l[k])) := by
  unfold newAt; rw [List.getElem?_eq_getElem h]
theorem range_all {p : Nat → Bool} (k : Nat) : (List.range (k + 1)).all p = ((List.range k).all p && p k) := by
  rw [List.range_succ, List.all_append]; simp
theorem places_no {l : List Place} {k : Nat} (h : k < l.length) (hn : newAt l k = false) : placesOk l = false :=
  List.all_eq_false.2 ⟨k, List.mem_range.2 h, by rw [hn]; decide⟩
theorem prgOk_1 {p : Prog} (h : ¬ p.clauses.length ≤ 12) : prgOk p = false := by simp [prgOk, h]
theorem prgOk_2 {p : Prog} (h : ¬ p.places.length ≤ 6) : prgOk p = false := by simp [prgOk, h]
theorem prgOk_3 {p : Prog} (h : p.clauses.all clauseOk = false) : prgOk p = false := by simp [prgOk, h]
theorem prgOk_4 {p : Prog} (h : placesOk p.places = false) : prgOk p = false := by simp [prgOk, h]
theorem prgOk_5 {p : Prog} (h1 : p.clauses.length ≤ 12) (h2 : p.places.length ≤ 6) (h3 : p.clauses.all clauseOk = true) (h4 : placesOk p.places = true) : prgOk p = true := by simp [prgOk, h1, h2, h3, h4]
/-- goalOk with the tests as the program makes them. -/
def goalI (k : Int) (a d b c q1 q2 q3 : Bool) : Bool :=
  if k = 1 then a && d && q1 else if k = 3 then q2 else if k = 2 ∨ k = 4 then a && b && q3 else if k = 5 then a && b && c else false
theorem goalOk_int (g : Goal) : goalOk g = goalI g.kind (termIn g.a) (headFun g.a) (termIn g.b) (termIn g.c) ((g.b.length : Int) + (g.c.length : Int) == 0) ((g.a.length : Int) + (g.b.length : Int) + (g.c.length : Int) == 0) ((g.c.length : Int) == 0) := by
  have e1 : ((g.b.length : Int) + (g.c.length : Int) == 0) = decide (g.b.length + g.c.length = 0) := by exact decide_eq_decide.2 (by omega)
  have e2 : ((g.a.length : Int) + (g.b.length : Int) + (g.c.length : Int) == 0) = decide (g.a.length + g.b.length + g.c.length = 0) := by exact decide_eq_decide.2 (by omega)
  have e3 : ((g.c.length : Int) == 0) = decide (g.c.length = 0) := by exact decide_eq_decide.2 (by omega)
  rw [e1, e2, e3]; rfl
section
variable {g : Goal} {a b c d q1 q2 q3 : Bool}
theorem goalOkI_1 (hk : g.kind = 1) (h : goalOk g = goalI g.kind a d b c q1 q2 q3) : goalOk g = (a && d && q1) := by rw [h, hk]; rfl
theorem goalOkI_3 (hk : g.kind = 3) (h : goalOk g = goalI g.kind a d b c q1 q2 q3) : goalOk g = q2 := by rw [h, hk]; rfl
theorem goalOkI_2 (hk : g.kind = 2) (h : goalOk g = goalI g.kind a d b c q1 q2 q3) : goalOk g = (a && b && q3) := by rw [h, hk]; rfl
theorem goalOkI_4 (hk : g.kind = 4) (h : goalOk g = goalI g.kind a d b c q1 q2 q3) : goalOk g = (a && b && q3) := by rw [h, hk]; rfl
theorem goalOkI_5 (hk : g.kind = 5) (h : goalOk g = goalI g.kind a d b c q1 q2 q3) : goalOk g = (a && b && c) := by rw [h, hk]; rfl
theorem goalOkI_0 (h1 : ¬ g.kind = 1) (h3 : ¬ g.kind = 3) (h2 : ¬ g.kind = 2) (h4 : ¬ g.kind = 4) (h5 : ¬ g.kind = 5) (h : goalOk g = goalI g.kind a d b c q1 q2 q3) : goalOk g = false := by
  rw [h]; unfold goalI; rw [if_neg h1, if_neg h3, if_neg (by rintro (h | h); exact h2 h; exact h4 h), if_neg h5]
end
end
section
open Go.RowKit
set_option linter.unusedVariables false
set_option maxRecDepth 100000
def overC (n : Int) (x : Cell) : Bool := x.kind == 1 && decide (n ≤ x.n)
def overAt (n : Int) (t : Term) (i : Int) : Prop := decide (0 ≤ i) = t.any (overC n)
theorem over_all (t : Term) : t.all varIn = !t.any (overC 8) := by
  rw [List.not_any_eq_all_not]; rfl
theorem below1_i (x : Cell) (n : Int) (b : Nat) (w : World) (hb : w.cell? ⟨b, 0, none⟩ = some (.int .i64 n)) : Calls Tryz.prog 194 #[x.agg, .pointer (some ⟨b, 0, none⟩)] w fun e w' => e = .returned (.bool (overC n x)) ∧ Below w.heap.size w w' := by
  have B1 := Sec.mk (belA (Below.refl w.heap.size w) (.cells #[.int .i64 x.kind, .int .i64 x.n, .string x.name] 39))
  have c0 : (w.alloc (.cells #[.int .i64 x.kind, .int .i64 x.n, .string x.name] 39)).cell? ⟨b, 0, none⟩ = some (.int .i64 n) := Raw.cell_below (belA (Below.refl _ _) _) hb
  have X := (box_at (heap_alloc_new w (.cells #[.int .i64 x.kind, .int .i64 x.n, .string x.name] 39))).2.1
  have y0 := X 0 _ rfl
  have y1 := X 1 _ rfl
  have y2 := X 2 _ rfl
  clear X
  have hu := Tryz.underlying39
  by_cases hk : x.kind = 1
  · have g1 : (x.kind == 1) = true := beq_iff_eq.2 hk
    obtain ⟨q, hq⟩ : ∃ q, decide (x.n ≥ n) = q := ⟨_, rfl⟩
    have HE : Sec (overC n x = q) := ⟨by rw [← hq]; simp [overC, hk]⟩
    clear hk
    go_enter Tryz.func194, Tryz.ntmps194
    go_wp2
    go_ret
    exact ⟨rb HE.out.symm, B1.out⟩
  · have g1 : (x.kind == 1) = false := beq_eq_false_iff_ne.2 hk
    have HE : Sec (overC n x = false) := ⟨by simp [overC, hk]⟩
    clear hk
    go_enter Tryz.func194, Tryz.ntmps194
    go_wp2
    go_ret
    exact ⟨rb HE.out.symm, B1.out⟩
theorem indexOver_i (v : Value) (t : Term) (n : Int) (b0 : Nat) (ok : Nat → Prop) (w : World) (hV : kCell.V w ok v t) (hb0 : w.cell? ⟨b0, 0, none⟩ = some (.int .i64 n)) :
    Calls Tryz.prog 180 #[v, .func (.func 194) #[] #[.pointer (some ⟨b0, 0, none⟩)]] w fun e w' => ∃ i : Int, e = .returned (.int .i64 i) ∧ overAt n t i ∧ Below w.heap.size w w' := by
  obtain ⟨A, c, rfl, h1, h2, h3, hC, hz⟩ := hV
  have HC := Sec.mk hC
  have HB0 := Sec.mk hb0
  clear hC hz hb0
  have hu := Tryz.underlying39
  go_enter Tryz.func180, Tryz.ntmps180
  go_wp2
  go_loopw [8] (fun iv wr => ∃ k : Nat, k ≤ t.length ∧ iv = .int .i64 k ∧ Sec ((t.take k).any (overC n) = false) ∧ Sec (Below w.heap.size w wr)) (fun iv _ => t.length - (intOf iv).toNat)
  case atStart => exact ⟨0, Nat.zero_le _, rfl, ⟨rfl⟩, ⟨Below.refl _ _⟩⟩
  case round =>
    obtain ⟨k, hk, rfl, hT, hb⟩ := hrel
    by_cases hlt : k < t.length
    · obtain ⟨b, off, rfl, hob, c0, c1, c2, hnm⟩ := cell_at (Kd.C_below HC.out hb.out (by decide)) k hlt
      have hA : Sec ((t.take (k + 1)).any (overC n) = overC n t[k]) := ⟨by rw [List.take_succ_eq_append_getElem hlt, List.any_append, hT.out]; simp⟩
      have hmem : Sec (t[k] ∈ t) := ⟨List.getElem_mem hlt⟩
      have HW := Sec.mk (below1_i t[k] n b0 wr (Raw.cell_below hb.out HB0.out))
      generalize t[k] = x at *
      obtain ⟨bb, hbb⟩ : ∃ b, overC n x = b := ⟨_, rfl⟩
      have HB := Sec.mk hbb
      rw [hbb] at HW
      clear hbb
      cases bb with
      | false =>
        have hA' : Sec ((t.take (k + 1)).any (overC n) = false) := ⟨by rw [hA.out, HB.out]⟩
        go_wp2_with (go_at_call 194; refine HW.out.mono ?_; rintro e w1 ⟨rfl, hb1⟩; have B1 := Sec.mk (bel hb.out hb1); clear hb1)
        go_roundw
        case rel => exact ⟨k + 1, by omega, by go_num, hA', B1⟩
        case measure => simp [intOf]; omega
      | true =>
        have hF : Sec (overAt n t k) := ⟨by
          have : t.any (overC n) = true := List.any_eq_true.2 ⟨x, hmem.out, HB.out⟩
          unfold overAt; rw [this]; simp⟩
        go_wp2_with (go_at_call 194; refine HW.out.mono ?_; rintro e w1 ⟨rfl, hb1⟩; have B1 := Sec.mk (bel hb.out hb1); clear hb1)
        go_ret
        exact ⟨_, rfl, hF.out, B1.out⟩
    · have hF : Sec (overAt n t (-1)) := ⟨by
        have : t.any (overC n) = false := by have := hT.out; rwa [List.take_of_length_le (by omega)] at this
        unfold overAt; rw [this]; rfl⟩
      go_wp2
      go_ret
      exact ⟨_, rfl, hF.out, hb.out⟩
theorem containsOver_i (v : Value) (t : Term) (n : Int) (b0 : Nat) (ok : Nat → Prop) (w : World) (hV : kCell.V w ok v t) (hb0 : w.cell? ⟨b0, 0, none⟩ = some (.int .i64 n)) :
    Calls Tryz.prog 131 #[v, .func (.func 194) #[] #[.pointer (some ⟨b0, 0, none⟩)]] w fun e w' => e = .returned (.bool (t.any (overC n))) ∧ Below w.heap.size w w' := by
  have HI := Sec.mk (indexOver_i v t n b0 ok w hV hb0)
  obtain ⟨A, c, rfl, h1, h2, h3, hC, hz⟩ := hV
  clear hC hz hb0
  generalize hall : t.any (overC n) = al
  have HAL := Sec.mk hall
  clear hall
  go_enter Tryz.func131, Tryz.ntmps131
  go_wp2_with (go_at_call 180; refine HI.out.mono ?_; rintro e w1 ⟨i, rfl, hw, hb⟩; have B1 := Sec.mk hb; have HW := Sec.mk hw; clear hb hw)
  go_ret
  exact ⟨rb (by have := HW.out; unfold overAt at this; rw [HAL.out] at this; exact this), B1.out⟩
theorem below_i (v : Value) (t : Term) (n : Int) (ok : Nat → Prop) (w : World) (hV : kCell.V w ok v t) :
    Calls Tryz.prog 139 #[v, .int .i64 n] w fun e w' => e = .returned (.bool (!t.any (overC n))) ∧ Below w.heap.size w w' := by
  have B0 := Sec.mk (belA (Below.refl w.heap.size w) (.cells #[.int .i64 n] 3))
  have HI := Sec.mk (containsOver_i v t n w.heap.size ok _ (Kd.V_below hV B0.out (by decide)) ((box_at (heap_alloc_new w (.cells #[.int .i64 n] 3))).2.1 0 _ rfl))
  obtain ⟨A, c, rfl, -⟩ := hV
  generalize t.any (overC n) = al at *
  go_enter Tryz.func139, Tryz.ntmps139
  go_wp2_with (go_at_call 131; refine HI.out.mono ?_; rintro e w1 ⟨rfl, hb⟩; have B1 := Sec.mk (bel B0.out hb); clear hb)
  go_ret
  exact ⟨rfl, B1.out⟩
theorem inClause_i (v : Value) (t : Term) (ok : Nat → Prop) (w : World) (hV : kCell.V w ok v t) :
    Calls Tryz.prog 204 #[v] w fun e w' => e = .returned (.bool (decide (t.length ≤ 12) && t.all varIn)) ∧ Below w.heap.size w w' := by
  have HI := Sec.mk (below_i v t 8 ok w hV)
  rw [← over_all] at HI
  obtain ⟨A, c, rfl, -, -, h3, -⟩ := hV
  by_cases hl : t.length ≤ 12
  · have q1 : decide ((t.length : Int) ≤ 12) = true := decide_eq_true (by omega)
    rw [decide_eq_true hl, Bool.true_and]
    generalize t.all varIn = al at *
    go_enter Tryz.func204, Tryz.ntmps204
    go_wp2_with (go_at_call 139; refine HI.out.mono ?_; rintro e w1 ⟨rfl, hb⟩; have B1 := Sec.mk hb; clear hb)
    go_ret
    exact ⟨rfl, B1.out⟩
  · have q1 : decide ((t.length : Int) ≤ 12) = false := decide_eq_false (by omega)
    rw [decide_eq_false hl, Bool.false_and]
    clear HI
    go_enter Tryz.func204, Tryz.ntmps204
    go_wp2
    go_ret
    exact ⟨rfl, Below.refl _ _⟩
end
end Go.Proofs.YtgiobpggonceeaaGreatDoor
