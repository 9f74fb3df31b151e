/- Contracts: the reference's TrmCanon. -/
import Derived.Test.YtenigopoknajgaaDoorF2
namespace Go.Proofs.YtenigopoknajgaaDoor
open Go.RowKit
set_option linter.unusedVariables false
set_option maxRecDepth 100000
theorem place_at (l : List Int) (n : Int) (k : Nat) (h : k < l.length) (h0 : ¬ n ∈ l.take k) (h1 : l[k] = n) : place l n = k := by
  unfold place
  have hm : n ∈ l := by rw [← h1]; exact List.getElem_mem h
  rw [if_pos hm]
  have e : l = l.take k ++ n :: l.drop (k + 1) := by rw [← h1, ← List.drop_eq_getElem_cons h, List.take_append_drop]
  rw [e, List.idxOf_append, if_neg h0, List.idxOf_cons_self, List.length_take]
  omega
theorem place_not (l : List Int) (n : Int) (h : ¬ n ∈ l) : place l n = -1 := if_neg h
theorem place_in (l : List Int) (n : Int) : (0 ≤ place l n) ↔ n ∈ l := by
  unfold place
  by_cases h : n ∈ l
  · rw [if_pos h]; simp [h]
  · rw [if_neg h]; simp [h]
theorem l1Place_c (v : Value) (l : List Int) (n : Int) (ok : Nat → Prop) (w : World) (hV : kInt.V w ok v l) :
    Calls Tryd.prog 89 #[v, .int .i64 n] w fun e w' => e = .returned (.int .i64 (place l n)) ∧ w = w' := by
  obtain ⟨A, c, rfl, h1, h2, h3, hC, _⟩ := hV
  have HC := Sec.mk hC
  clear hC
  go_enter Tryd.func89, Tryd.ntmps89
  go_wp2
  go_loop [5] (fun i => ∃ k : Nat, k ≤ l.length ∧ i = .int .i64 k ∧ Sec (¬ n ∈ l.take k)) (fun i => l.length - (intOf i).toNat)
  case atStart => exact ⟨0, Nat.zero_le _, rfl, ⟨by simp⟩⟩
  case round =>
    obtain ⟨k, hk, rfl, hr⟩ := hrel
    by_cases hlt : k < l.length
    · obtain ⟨b, off, rfl, hob, c0⟩ := int_at HC.out k hlt
      have hT := Sec.mk (List.take_succ_eq_append_getElem hlt)
      have hP := Sec.mk (place_at l n k hlt hr.out)
      generalize l[k] = x at *
      by_cases hx : x = n
      · have hp := Sec.mk (hP.out hx)
        subst hx
        go_wp2
        go_ret
        exact ⟨ri hp.out.symm, rfl⟩
      · have hx' : (x == n) = false := beq_eq_false_iff_ne.2 hx
        have hn : Sec (¬ n ∈ l.take (k + 1)) := ⟨by rw [hT.out]; simp [hr.out]; omega⟩
        clear hx
        go_wp2
        go_round
        case rel => exact ⟨k + 1, by omega, by go_num, hn⟩
        case measure => simp [intOf]; omega
    · have hn : Sec (place l n = -1) := ⟨place_not l n (by have := hr.out; rwa [List.take_of_length_le (by omega)] at this)⟩
      go_wp2
      go_ret
      exact ⟨ri hn.out.symm, rfl⟩
theorem TrmCanon_c (v : Value) (t : Term) (ok : Nat → Prop) (w : World) (hV : kCell.V w ok v t) :
    Calls Tryd.prog 75 #[v] w fun e w' => ∃ u, e = .returned u ∧ kCell.R w' (fun k => w.heap.size ≤ k) u (canon t) ∧ Below w.heap.size w w' := by
  have HVV := Sec.mk hV
  obtain ⟨A, c, rfl, h1, h2, h3, hC, _⟩ := hV
  have HC := Sec.mk hC
  clear hC
  have H3 := Sec.mk h3
  have hu := Tryd.underlying54
  generalize hfr : free t = fr
  have HFR := Sec.mk hfr
  go_enter Tryd.func75, Tryd.ntmps75
  go_wp2_with (go_at_call 52; refine (TrmFree_c _ t ok _ HVV.out).mono ?_; rintro e wf ⟨vf, rfl, hRf, hbf⟩; rw [HFR.out] at hRf; have HF := Sec.mk (Kd.R_V hRf); obtain ⟨Af, cf, rfl, -, -⟩ := Kd.R_form hRf; have BF := Sec.mk hbf; clear hRf hbf)
  go_loopw [4, 5] (fun v i wr => ∃ k : Nat, k ≤ t.length ∧ i = .int .i64 k ∧ Sec (kCell.R wr (fun k => wf.heap.size ≤ k) v ((t.take k).map (canonC fr))) ∧ Sec (Below wf.heap.size wf wr)) (fun _ i _ => t.length - (intOf i).toNat)
  case atStart => exact ⟨0, Nat.zero_le _, rfl, ⟨Kd.R_empty kCell (Nat.le_refl _)⟩, ⟨belA (Below.refl _ _) _⟩⟩
  case round =>
    obtain ⟨k, hk, rfl, hR, hb⟩ := hrel
    by_cases hlt : k < t.length
    · obtain ⟨b, off, rfl, hob, c0, c1, c2, hnm⟩ := cell_at (Kd.C_below HC.out (bel BF.out hb.out) (by decide)) k hlt
      have hT : Sec ((t.take (k + 1)).map (canonC fr) = (t.take k).map (canonC fr) ++ [canonC fr t[k]]) := ⟨take_map _ _ _ hlt⟩
      have hL : Sec (((t.take k).map (canonC fr)).length + 1 ≤ 1073741824) := ⟨by simp; omega⟩
      generalize t[k] = x at *
      by_cases hx : x.kind = 1
      · have hx' : (x.kind == 1) = true := beq_iff_eq.2 hx
        have hs : Sec (canonC fr x = ⟨x.kind, place fr x.n, x.name⟩) := ⟨by unfold canonC; rw [if_pos hx]⟩
        clear hx
        go_wp2_with (first | (go_at_call 89; refine (l1Place_c _ fr x.n _ _ (Kd.V_below HF.out (belA hb.out _) (by decide))).mono ?_; rintro e w' ⟨rfl, rfl⟩) | (at_builtin; refine Kd.R_app kCell (w0 := wf) (wb := wr) rfl (.tmp 28) (.tmp 30) 23 (.agg #[.int .i64 0, .int .i64 0, .string ⟨#[]⟩]) 32 rfl Tryd.underlying23 info_cell rfl (by decide) (by decide) _ _ ⟨x.kind, place fr x.n, x.name⟩ [.int .i64 x.kind, .int .i64 (place fr x.n), .string x.name] rfl rfl (by simp) hR.out hb.out (belA (Below.refl _ _) _) (kCell_mk _ _ _ hnm) hL.out ?_; intro v1 w1 hR1 hb1; have HR1 := Sec.mk hR1; have HB1 := Sec.mk hb1; clear hR1 hb1))
        go_roundw
        case rel => exact ⟨k + 1, by omega, by go_num, ⟨by rw [hT.out, hs.out]; exact HR1.out⟩, HB1⟩
        case measure => simp [intOf]; omega
      · have hx' : (x.kind == 1) = false := beq_eq_false_iff_ne.2 hx
        have hs : Sec (canonC fr x = x) := ⟨by unfold canonC; rw [if_neg hx]⟩
        clear hx
        go_wp2_with (at_builtin; refine Kd.R_app kCell (w0 := wf) (wb := wr) rfl (.tmp 28) (.tmp 30) 23 (.agg #[.int .i64 0, .int .i64 0, .string ⟨#[]⟩]) 32 rfl Tryd.underlying23 info_cell rfl (by decide) (by decide) _ _ x (cellC x) rfl rfl (by simp) hR.out hb.out (belA (Below.refl _ _) _) (kCell_mk _ _ _ hnm) hL.out ?_; intro v1 w1 hR1 hb1; have HR1 := Sec.mk hR1; have HB1 := Sec.mk hb1; clear hR1 hb1)
        go_roundw
        case rel => exact ⟨k + 1, by omega, by go_num, ⟨by rw [hT.out, hs.out]; exact HR1.out⟩, HB1⟩
        case measure => simp [intOf]; omega
    · have hf : Sec ((t.take k).map (canonC fr) = canon t) := ⟨by rw [List.take_of_length_le (by omega), ← HFR.out]; rfl⟩
      have hsz := Sec.mk BF.out.size
      go_wp2
      go_ret
      exact ⟨_, rfl, by rw [← hf.out]; exact Kd.R_mono hR.out (fun k h _ => Nat.le_trans hsz.out h), bel BF.out hb.out⟩
end Go.Proofs.YtenigopoknajgaaDoor
