/- Contracts: the program's own small functions on terms. -/
import Derived.Test.YtenigopoknajgaaDoorF3
import Derived.Lib.SliceRun
namespace Go.Proofs.YtenigopoknajgaaDoor
open Go.RowKit
set_option linter.unusedVariables false
set_option maxRecDepth 100000
theorem in_c (n lo hi : Int) (w : World) : Calls Tryd.prog 35 #[.int .i64 n, .int .i64 lo, .int .i64 hi] w fun e w' => e = .returned (.bool (inB n lo hi)) ∧ w = w' := by
  by_cases h1 : lo ≤ n
  · by_cases h2 : n ≤ hi
    · have hf : Sec (inB n lo hi = true) := ⟨by simp [inB, h1, h2]⟩
      go_enter Tryd.func35, Tryd.ntmps35
      go_wp2
      go_ret
      exact ⟨rb hf.out.symm, rfl⟩
    · have hf : Sec (inB n lo hi = false) := ⟨by simp [inB, h1]; omega⟩
      go_enter Tryd.func35, Tryd.ntmps35
      go_wp2
      go_ret
      exact ⟨rb hf.out.symm, rfl⟩
  · have hf : Sec (inB n lo hi = false) := ⟨by simp [inB]; omega⟩
    go_enter Tryd.func35, Tryd.ntmps35
    go_wp2
    go_ret
    exact ⟨rb hf.out.symm, rfl⟩
theorem index_c (v : Value) (l : List Int) (n : Int) (ok : Nat → Prop) (w : World) (hV : kInt.V w ok v l) :
    Calls Tryd.prog 82 #[v, .int .i64 n] w fun e w' => e = .returned (.int .i64 (place l n)) ∧ w = w' := by
  obtain ⟨A, c, rfl, h1, h2, h3, hC, _⟩ := hV
  have HC := Sec.mk hC
  clear hC
  go_enter Tryd.func82, Tryd.ntmps82
  go_wp2
  go_loop [8] (fun i => ∃ k : Nat, k ≤ l.length ∧ i = .int .i64 k ∧ Sec (¬ n ∈ l.take k)) (fun i => l.length - (intOf i).toNat)
  case atStart => exact ⟨0, Nat.zero_le _, rfl, ⟨by simp⟩⟩
  case round =>
    obtain ⟨k, hk, rfl, hr⟩ := hrel
    by_cases hlt : k < l.length
    · obtain ⟨b, off, rfl, hob, c0⟩ := int_at HC.out k hlt
      have hT := Sec.mk (List.take_succ_eq_append_getElem hlt)
      have hP := Sec.mk (place_at l n k hlt hr.out)
      generalize l[k] = x at *
      by_cases hx : x = n
      · have hp := Sec.mk (hP.out hx)
        subst hx
        go_wp2
        go_ret
        exact ⟨ri hp.out.symm, rfl⟩
      · have hx' : (n == x) = false := beq_eq_false_iff_ne.2 (fun e => hx e.symm)
        have hn : Sec (¬ n ∈ l.take (k + 1)) := ⟨by rw [hT.out]; simp [hr.out]; omega⟩
        clear hx
        go_wp2
        go_round
        case rel => exact ⟨k + 1, by omega, by go_num, hn⟩
        case measure => simp [intOf]; omega
    · have hn : Sec (place l n = -1) := ⟨place_not l n (by have := hr.out; rwa [List.take_of_length_le (by omega)] at this)⟩
      go_wp2
      go_ret
      exact ⟨ri hn.out.symm, rfl⟩
theorem contains_c (v : Value) (l : List Int) (n : Int) (ok : Nat → Prop) (w : World) (hV : kInt.V w ok v l) :
    Calls Tryd.prog 62 #[v, .int .i64 n] w fun e w' => e = .returned (.bool (decide (n ∈ l))) ∧ w = w' := by
  have HV := Sec.mk hV
  obtain ⟨A, c, rfl, h1, h2, h3, hC, _⟩ := hV
  clear hC
  have hp : Sec (decide (0 ≤ place l n) = decide (n ∈ l)) := ⟨by rw [decide_eq_decide]; exact place_in l n⟩
  generalize hpl : place l n = p at *
  have HP := Sec.mk hpl
  clear hpl
  go_enter Tryd.func62, Tryd.ntmps62
  go_wp2_with (go_at_call 82; refine (index_c _ l n ok _ HV.out).mono ?_; rw [HP.out]; rintro e w' ⟨rfl, rfl⟩)
  go_ret
  exact ⟨rb hp.out, rfl⟩
theorem cloneCells_c (v : Value) (t : Term) (ok : Nat → Prop) (w : World) (hV : kCell.V w ok v t) :
    Calls Tryd.prog 28 #[v] w fun e w' => ∃ u, e = .returned u ∧ kCell.R w' (fun k => w.heap.size ≤ k) u t ∧ Below w.heap.size w w' := by
  obtain ⟨A, c, rfl, h1, h2, h3, hC, h0⟩ := hV
  have hut := Tryd.underlying23
  cases A with
  | none =>
    have ht : t = [] := by
      rcases hC with h | ⟨b, off, hA, _⟩
      · exact h
      · cases hA
    subst ht
    obtain rfl := h0 rfl
    have hq := Go.Lib.run_eql_slice_nil (P := Tryd.prog) w 23 _ none 0 0 0 0 hut
    go_enter Tryd.func28, Tryd.ntmps28
    go_wp2
    go_ret
    exact ⟨_, rfl, Kd.R_nil _ _ _, Below.refl _ _⟩
  | some a =>
    have HV : Sec (kCell.V w ok (.slice (some a) t.length c) t) := ⟨⟨_, c, rfl, h1, h2, h3, hC, h0⟩⟩
    clear hC h0
    have hq := Go.Lib.run_eql_slice_nil (P := Tryd.prog) w 23 _ (some a) t.length c 0 0 hut
    go_enter Tryd.func28, Tryd.ntmps28
    go_wp2_with (at_builtin; refine Kd.W_cat kCell rfl (.tmp 5) (.tmp 6) 23 (.agg #[.int .i64 0, .int .i64 0, .string ⟨#[]⟩]) 32 rfl Tryd.underlying23 info_cell rfl (by decide) (by decide) (.slice (some ⟨w.heap.size, 0, none⟩) 0 0) (.slice (some a) t.length c) [] t (fun k => w.heap.size ≤ k) (fun k => k < w.heap.size) rfl rfl (Kd.W_empty kCell w _ _ (Nat.le_refl _)) (Kd.V_move (fun k hk hl => ⟨⟨hl, fun e => absurd (show k = w.heap.size by simpa [Value.ownBlock] using e) (by omega)⟩, Below.heap_alloc _ _ _ hl⟩) HV.out (by decide)) (by simpa using h3) ?_; intro v1 w1 hW hg; have HR := Sec.mk (kCell_W_R hW); have HB := Sec.mk ((belA (Below.refl w.heap.size w) _).grown hg (by simp) (fun k e => Nat.le_of_eq (show w.heap.size = k by simpa [Value.ownBlock] using e))); clear hW hg)
    go_ret
    exact ⟨_, rfl, by have := HR.out; simp only [List.nil_append] at this; exact Kd.R_mono this (fun k h _ => h.elim id (fun h => by simp at h; omega)), HB.out⟩
theorem TrmFree_i (v : Value) (t : Term) (ok : Nat → Prop) (w : World) (hV : kCell.V w ok v t) :
    Calls Tryd.prog 29 #[v] w fun e w' => ∃ u, e = .returned u ∧ kInt.R w' (fun k => w.heap.size ≤ k) u (free t) ∧ Below w.heap.size w w' := by
  obtain ⟨A, c, rfl, h1, h2, h3, hC, _⟩ := hV
  have HC := Sec.mk hC
  clear hC
  have H3 := Sec.mk h3
  have hu := Tryd.underlying54
  go_enter Tryd.func29, Tryd.ntmps29
  go_wp2
  go_loopw [3, 8] (fun v i wr => ∃ k : Nat, k ≤ t.length ∧ i = .int .i64 k ∧ Sec (kInt.R wr (fun k => w.heap.size ≤ k) v (free (t.take k))) ∧ Sec (Below w.heap.size w wr)) (fun _ i _ => t.length - (intOf i).toNat)
  case atStart => exact ⟨0, Nat.zero_le _, rfl, ⟨Kd.R_nil _ _ _⟩, ⟨Below.refl _ _⟩⟩
  case round =>
    obtain ⟨k, hk, rfl, hR, hb⟩ := hrel
    by_cases hlt : k < t.length
    · obtain ⟨b, off, rfl, hob, c0, c1, c2, _⟩ := cell_at (Kd.C_below HC.out hb.out (by decide)) k hlt
      have hT : Sec (free (t.take (k + 1)) = freeStep (free (t.take k)) t[k]) := ⟨take_foldl _ _ _ _ hlt⟩
      have hL : Sec ((free (t.take k)).length + 1 ≤ 1073741824) := ⟨by have := free_len (t.take k); rw [List.length_take] at this; have := H3.out; omega⟩
      generalize t[k] = x at *
      by_cases hx : x.kind = 1
      · have hx' : (x.kind == 1) = true := beq_iff_eq.2 hx
        have hV := Sec.mk (Kd.R_V hR.out)
        by_cases hm : x.n ∈ free (t.take k)
        · have hT' : Sec (free (t.take (k + 1)) = free (t.take k)) := ⟨by rw [hT.out]; unfold freeStep; rw [if_neg (by simp [hm])]⟩
          have Hm := Sec.mk hm
          clear hx hm
          go_wp2_with (go_at_call 62; refine (contains_c _ _ _ _ _ (Kd.V_below hV.out (belA (Below.refl _ _) _) (by decide))).mono ?_; rw [decide_eq_true Hm.out]; rintro e w' ⟨rfl, rfl⟩)
          go_roundw
          case rel => exact ⟨k + 1, by omega, by go_num, ⟨by rw [hT'.out]; exact Kd.R_below hR.out (belA (Below.refl _ _) _)⟩, ⟨belA hb.out _⟩⟩
          case measure => simp [intOf]; omega
        · have hT' : Sec (free (t.take (k + 1)) = free (t.take k) ++ [x.n]) := ⟨by rw [hT.out]; unfold freeStep; rw [if_pos ⟨hx, hm⟩]⟩
          have Hm := Sec.mk hm
          clear hx hm
          go_wp2_with (first | (go_at_call 62; refine (contains_c _ _ _ _ _ (Kd.V_below hV.out (belA (Below.refl _ _) _) (by decide))).mono ?_; rw [decide_eq_false Hm.out]; rintro e w' ⟨rfl, rfl⟩) | (at_builtin; refine Kd.R_app kInt (w0 := w) (wb := wr) rfl (.tmp 22) (.tmp 25) 59 (.int .i64 0) 8 rfl Tryd.underlying59 info_int rfl (by decide) (by decide) _ _ x.n [.int .i64 x.n] rfl rfl (by simp) hR.out hb.out (belA (Below.refl _ _) _) (int_O _ _ _) hL.out ?_; intro v1 w1 hR1 hb1; have HR1 := Sec.mk hR1; have HB1 := Sec.mk hb1; clear hR1 hb1))
          go_roundw
          case rel => exact ⟨k + 1, by omega, by go_num, ⟨by rw [hT'.out]; exact HR1.out⟩, HB1⟩
          case measure => simp [intOf]; omega
      · have hx' : (x.kind == 1) = false := beq_eq_false_iff_ne.2 hx
        have hT' : Sec (free (t.take (k + 1)) = free (t.take k)) := ⟨by rw [hT.out]; unfold freeStep; rw [if_neg (by simp [hx])]⟩
        clear hx
        go_wp2
        go_roundw
        case rel => exact ⟨k + 1, by omega, by go_num, ⟨by rw [hT'.out]; exact Kd.R_below hR.out (belA (Below.refl _ _) _)⟩, ⟨belA hb.out _⟩⟩
        case measure => simp [intOf]; omega
    · have hf : Sec (free (t.take k) = free t) := ⟨by rw [List.take_of_length_le (by omega)]⟩
      go_wp2
      go_ret
      exact ⟨_, rfl, by rw [← hf.out]; exact hR.out, hb.out⟩
theorem TrmCanon_i (v : Value) (t : Term) (ok : Nat → Prop) (w : World) (hV : kCell.V w ok v t) :
    Calls Tryd.prog 61 #[v] w fun e w' => ∃ u, e = .returned u ∧ kCell.R w' (fun k => w.heap.size ≤ k) u (canon t) ∧ Below w.heap.size w w' := by
  have HVV := Sec.mk hV
  obtain ⟨A, c, rfl, h1, h2, h3, hC, hz⟩ := hV
  clear hC hz
  have hu := Tryd.underlying54
  generalize hfr : free t = fr
  have HFR := Sec.mk hfr
  clear hfr
  go_enter Tryd.func61, Tryd.ntmps61
  go_wp2_with (first | (go_at_call 29; refine (TrmFree_i _ t ok _ HVV.out).mono ?_; rintro e wf ⟨vf, rfl, hRf, hbf⟩; rw [HFR.out] at hRf; have HF := Sec.mk (Kd.R_V hRf); obtain ⟨Af, cf, rfl, -, -⟩ := Kd.R_form hRf; have BF := Sec.mk hbf; clear hRf hbf) | (go_at_call 28; refine (cloneCells_c _ t ok _ (Kd.V_below HVV.out BF.out (by decide))).mono ?_; rintro e wc ⟨vc, rfl, hRc, hbc⟩; obtain ⟨Ac, cc, rfl, -, -⟩ := Kd.R_form hRc; have HRC := Sec.mk hRc; have BC := Sec.mk hbc; clear hRc hbc))
  go_loopw [12] (fun i wr => ∃ k : Nat, k ≤ t.length ∧ i = .int .i64 k ∧ Sec (kCell.R wr (fun k => wf.heap.size ≤ k) (.slice Ac t.length cc) ((t.take k).map (canonC fr) ++ t.drop k)) ∧ Sec (Below wf.heap.size wf wr)) (fun i _ => t.length - (intOf i).toNat)
  case atStart => exact ⟨0, Nat.zero_le _, rfl, ⟨by simpa using HRC.out⟩, BC⟩
  case round =>
    obtain ⟨k, hk, rfl, hR, hb⟩ := hrel
    by_cases hlt : k < t.length
    · have hlen : ((t.take k).map (canonC fr) ++ t.drop k).length = t.length := by simp; omega
      have hkl : k < ((t.take k).map (canonC fr) ++ t.drop k).length := by omega
      obtain ⟨b, rfl, -, hSb, hbb, hfz⟩ := Kd.R_block hR.out (by omega)
      have f1 := hfz (k * 3 + 1)
      obtain ⟨b', off', hA', _, c0, c1, c2, hnm⟩ := cell_at (Kd.V_C (Kd.R_V hR.out)) k hkl
      simp only [Option.some.injEq, Addr.mk.injEq, and_true] at hA'
      obtain ⟨rfl, rfl⟩ := hA'
      simp only [Nat.zero_add] at c0 c1 c2
      have hel : ((t.take k).map (canonC fr) ++ t.drop k)[k]'hkl = t[k] := by
        rw [List.getElem_append_right (by simp; omega)]
        simp only [List.length_map, List.length_take, List.getElem_drop]
        congr 1; omega
      rw [hel] at c0 c1 c2 hnm
      have hnx : Sec (((t.take k).map (canonC fr) ++ t.drop k).set k (canonC fr t[k]) = (t.take (k + 1)).map (canonC fr) ++ t.drop (k + 1)) := ⟨by
        rw [List.take_succ_eq_append_getElem hlt, List.map_append, List.drop_eq_getElem_cons hlt, List.set_append_right _ _ (by simp; omega), List.length_map, List.length_take, Nat.min_eq_left (by omega), Nat.sub_self, List.set_cons_zero, List.append_assoc]
        rfl⟩
      have hel' := Sec.mk hel
      have HKL := Sec.mk hkl
      clear hel hlen hfz
      generalize t[k] = x at *
      by_cases hx : x.kind = 1
      · have hx' : (x.kind == 1) = true := beq_iff_eq.2 hx
        have hs : Sec (canonC fr x = ⟨x.kind, place fr x.n, x.name⟩) := ⟨by unfold canonC; rw [if_pos hx]⟩
        have M := Sec.mk (kCell_store hR.out k 1 ⟨x.kind, place fr x.n, x.name⟩ (.int .i64 (place fr x.n)) HKL.out (by decide) (by rw [hel'.out]; rfl) hnm)
        have MB := Sec.mk (hb.out.setCell (p := ⟨b, k * 3 + 1, none⟩) hSb (.int .i64 (place fr x.n)))
        clear hx
        go_wp2_with (go_at_call 82; refine (index_c _ fr x.n _ _ (Kd.V_below HF.out hb.out (by decide))).mono ?_; rintro e w' ⟨rfl, rfl⟩)
        go_roundw
        case rel => exact ⟨k + 1, by omega, by go_num, ⟨by rw [← hnx.out, hs.out]; exact M.out⟩, MB⟩
        case measure => simp [intOf]; omega
      · have hx' : (x.kind == 1) = false := beq_eq_false_iff_ne.2 hx
        have hs : Sec (canonC fr x = x) := ⟨by unfold canonC; rw [if_neg hx]⟩
        have hnx2 : Sec ((t.take k).map (canonC fr) ++ t.drop k = (t.take (k + 1)).map (canonC fr) ++ t.drop (k + 1)) := ⟨by
          rw [← hnx.out, hs.out]
          conv => rhs; arg 3; rw [← hel'.out]
          rw [List.set_getElem_self]⟩
        clear hx
        go_wp2
        go_roundw
        case rel => exact ⟨k + 1, by omega, by go_num, ⟨by rw [← hnx2.out]; exact hR.out⟩, hb⟩
        case measure => simp [intOf]; omega
    · have hf : Sec ((t.take k).map (canonC fr) ++ t.drop k = canon t) := ⟨by rw [List.take_of_length_le (by omega), List.drop_of_length_le (by omega), List.append_nil, ← HFR.out]; rfl⟩
      have hsz := Sec.mk BF.out.size
      have HR2 : Sec (kCell.R wr (fun k => wf.heap.size ≤ k) (.slice Ac t.length cc) (canon t)) := ⟨by rw [← hf.out]; exact hR.out⟩
      clear hf hR
      go_wp2
      go_ret
      exact ⟨_, rfl, Kd.R_mono HR2.out (fun k h _ => Nat.le_trans hsz.out h), bel BF.out hb.out⟩
end Go.Proofs.YtenigopoknajgaaDoor
