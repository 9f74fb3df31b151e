/- Draws of programs: a text read as a goal. Condition: the text is not great; and what goes with it. -/
import Derived.Test.YtgiobpggonceeaaGreatDoorSn5
import Derived.Test.YtgiobpggonceeaaGreatDoorSn12
import Derived.Deep.DeepCutAuto
import Derived.Deep.CutBlock
namespace Go.Proofs.YtgiobpggonceeaaGreatDoor
section
open Go.RowKit
set_option linter.unusedVariables false
set_option maxRecDepth 100000
theorem terms_os {w : World} : ∀ {ts : List Term} {S : Nat → Prop} {cs : List Value}, kTerms.Os w S ts cs → ∃ Sf : Nat → Nat → Prop, (∀ i j k, Sf i k → Sf j k → i = j) ∧ (∀ i k, Sf i k → S k) ∧ ∀ i (hi : i < ts.length), ∃ v, cs[i]? = some v ∧ kCell.R w (Sf i) v ts[i]
  | [], S, cs, h => ⟨fun _ _ => False, fun _ _ _ h => h.elim, fun _ _ h => h.elim, fun i hi => absurd hi (Nat.not_lt_zero i)⟩
  | t :: ts, S, cs, h => by
    obtain ⟨S1, S2, c0, c1, rfl, h1, h2, ⟨v, rfl, hR⟩, hO⟩ := h
    obtain ⟨Sf, k1, k2, k3⟩ := terms_os hO
    refine ⟨fun i k => match i with | 0 => S1 k | i + 1 => Sf i k, fun i j k => ?_, fun i k => ?_, fun i hi => ?_⟩
    · cases i with
      | zero =>
        cases j with
        | zero => intro _ _; rfl
        | succ j => intro ha hb; exact ((h1 k ha).2 (k2 j k hb)).elim
      | succ i =>
        cases j with
        | zero => intro ha hb; exact ((h1 k hb).2 (k2 i k ha)).elim
        | succ j => intro ha hb; exact congrArg (· + 1) (k1 i j k ha hb)
    · cases i with
      | zero => exact fun h => (h1 k h).1
      | succ i => exact fun h => h2 k (k2 i k h)
    · cases i with
      | zero => exact ⟨v, rfl, hR⟩
      | succ i =>
        obtain ⟨u, hu, hR'⟩ := k3 i (by simpa using hi)
        exact ⟨u, by simpa using hu, by simpa using hR'⟩
theorem terms_parts {w : World} {S : Nat → Prop} {u : Value} {ts : List Term} (h : kTerms.R w S u ts) (h0 : 0 < ts.length) : ∃ (b cap : Nat) (vs : Nat → Value) (Sf : Nat → Nat → Prop), u = .slice (some ⟨b, 0, none⟩) ts.length cap ∧ ts.length ≤ cap ∧ S b ∧ b < w.heap.size ∧ (∀ i j k, Sf i k → Sf j k → i = j) ∧ (∀ i k, Sf i k → S k ∧ k ≠ b) ∧
    ∀ i (hi : i < ts.length), w.cell? ⟨b, i, none⟩ = some (vs i) ∧ kCell.R w (Sf i) (vs i) ts[i] := by
  obtain ⟨_, ⟨rfl, rfl⟩ | ⟨b, cap, cur, rfl, hb, hS, h1, h2, h3, h4⟩⟩ := h
  · simp at h0
  · obtain ⟨Sf, k1, k2, k3⟩ := terms_os h4
    refine ⟨b, cap, fun i => (cur[i]?).getD undef, Sf, rfl, h1, hS, (Array.getElem?_eq_some_iff.1 hb).1, k1, k2, fun i hi => ?_⟩
    obtain ⟨v, hv, hR⟩ := k3 i hi
    have e : cur[i]? = some v := by
      rw [List.getElem?_take] at hv
      split at hv
      · rw [← Array.getElem?_toList]; exact hv
      · cases hv
    refine ⟨?_, by show kCell.R w (Sf i) ((cur[i]?).getD undef) ts[i]; rw [e]; exact hR⟩
    rw [cell_of_row w b _ cur _ (0, 0) hb, e]
    show some v = some ((cur[i]?).getD undef)
    rw [e]; rfl
theorem kGoal_of {w : World} {S1 S2 S3 : Nat → Prop} {k : Int} {a b c : Term} {v1 v2 v3 : Value} (h1 : kCell.R w S1 v1 a) (h2 : kCell.R w S2 v2 b) (h3 : kCell.R w S3 v3 c) (d12 : ∀ k, S1 k → ¬ S2 k) (d13 : ∀ k, S1 k → ¬ S3 k) (d23 : ∀ k, S2 k → ¬ S3 k) :
    kGoal.O w (fun k => S1 k ∨ S2 k ∨ S3 k) ⟨k, a, b, c⟩ [.int .i64 k, v1, v2, v3] :=
  ⟨fun _ => False, fun k => S1 k ∨ S2 k ∨ S3 k, [.int .i64 k], [v1, v2, v3], rfl, fun _ h => h.elim, fun _ h => h, ⟨rfl, trivial⟩,
    S1, fun k => S2 k ∨ S3 k, [v1], [v2, v3], rfl, fun k h => ⟨.inl h, fun e => e.elim (d12 k h) (d13 k h)⟩, fun k h => .inr h, ⟨v1, rfl, h1⟩,
    S2, S3, [v2], [v3], rfl, fun k h => ⟨.inl h, d23 k h⟩, fun k h => .inr h, ⟨v2, rfl, h2⟩, ⟨v3, rfl, h3⟩⟩
theorem strs_V {w : World} {b : Nat} {l : List ByteArray} {n : Nat} (hn : n = l.length) (hb : w.heap[b]? = some (.cells (l.map .string).toArray 9 (0, 0))) (hl : l.length ≤ 1000) (hs : ∀ x ∈ l, x.size ≤ 100000000) : kStr.V w (fun _ => True) (.slice (some ⟨b, 0, none⟩) n n) l := by
  subst hn
  refine ⟨_, _, rfl, Nat.le_refl _, by simp only [maxLen]; omega, by omega, .inr ⟨b, 0, rfl, trivial, fun i x hx => ?_⟩, fun h => by cases h⟩
  refine ⟨[.string x], ⟨rfl, by have := hs x (List.mem_of_getElem? hx); omega⟩, fun j u hu => ?_⟩
  match j, hu with
  | 0, hu =>
    obtain rfl := Option.some.inj hu
    show w.cell? ⟨b, 0 + (i * 1 + 0), none⟩ = _
    rw [show 0 + (i * 1 + 0) = i by omega, cell_of_row w b _ _ _ (0, 0) hb]
    simp [hx]
  | j + 1, hu => simp at hu
/-- Ahead of the reading of a goal's terms: the list of their texts, the goal's box, the result's box. -/
structure GRd (w : World) (bx : Nat) (k : Int) (l : List ByteArray) (v : Value) (wc : World) : Prop where
  V : kStr.V wc (fun _ => True) v l
  len : 1 ≤ l.length ∧ l.length ≤ 3
  sz : ∀ x ∈ l, x.size ≤ 100000000
  box : wc.heap[bx]? = some (.cells #[.int .i64 k, .slice none 0 0, .slice none 0 0, .slice none 0 0] 100 (0, 0))
  res : wc.heap[w.heap.size]? = some (.cells #[.int .i64 0, .slice none 0 0, .slice none 0 0, .slice none 0 0] 100 (0, 0))
  bel : Below w.heap.size w wc
structure GR0 (w : World) (bx : Nat) (k : Int) (wc : World) : Prop where
  box : wc.heap[bx]? = some (.cells #[.int .i64 k, .slice none 0 0, .slice none 0 0, .slice none 0 0] 100 (0, 0))
  res : wc.heap[w.heap.size]? = some (.cells #[.int .i64 0, .slice none 0 0, .slice none 0 0, .slice none 0 0] 100 (0, 0))
  bel : Below w.heap.size w wc
theorem fcell {T : Nat → Prop} {w W : World} {b o : Nat} {u : Value} (h : Foot T w W) (hT : ¬ T b) (hc : w.cell? ⟨b, o, none⟩ = some u) : W.cell? ⟨b, o, none⟩ = some u := by
  have hl := World.block_lt_of_cell? w _ hc
  exact (World.cell?_of_block (w := w) (w' := W) (h.block b hl hT)).trans hc
theorem GRd.lit {w : World} {bx : Nat} {k : Int} {l : List ByteArray} {wc W : World} {bb n : Nat} (hb : W.heap[bb]? = some (.cells (l.map .string).toArray 9 (0, 0))) (h : GR0 w bx k wc) (hF : Foot (fun _ => False) wc.drew W) (h1 : n = l.length) (h2 : 1 ≤ l.length ∧ l.length ≤ 3) (h3 : ∀ x ∈ l, x.size ≤ 100000000) : GRd w bx k l (.slice (some ⟨bb, 0, none⟩) n n) W :=
  ⟨strs_V h1 hb (by omega) h3, h2, h3, (hF.block _ (Array.getElem?_eq_some_iff.1 h.box).1 (fun h => h)).trans h.box, (hF.block _ (Array.getElem?_eq_some_iff.1 h.res).1 (fun h => h)).trans h.res, hF.below (belD h.bel) (fun k h => h.elim)⟩
set_option maxHeartbeats 4000000 in
theorem GoalRead_c (s : ByteArray) (hs : s.size ≤ 100000000) (w : World) :
    Calls Tryz.prog 254 #[.string s] w fun e w' => ∃ (g : Goal) (cs : List Value) (q : Bool), e = .returned (.tuple #[.agg cs.toArray, .bool q]) ∧ kGoal.O w' (fun k => w.heap.size ≤ k) g cs ∧ Below w.heap.size w w' := by
  have hus := Tryz.underlying9
  have hu2 := Tryz.underlying100
  have B0 := Sec.mk (belA (Below.refl w.heap.size w) (.cells #[.int .i64 0, .slice none 0 0, .slice none 0 0, .slice none 0 0] 100))
  have P0 := Sec.mk (heap_alloc_new w (.cells #[.int .i64 0, .slice none 0 0, .slice none 0 0, .slice none 0 0] 100))
  go_enter Tryz.func254, Tryz.ntmps254
  go_wp2_with fail
  refine (l3Words_c s hs _).mono ?_
  rintro e w1 ⟨u, ws, rfl, hR, hl1, hl2, hS, hb⟩
  obtain ⟨A, c, rfl, -, -⟩ := Kd.R_form hR
  have hV := Kd.R_V (Kd.R_mono hR (S1 := fun k => w.heap.size < k ∧ k < w1.heap.size) (fun k h h2 => ⟨by simp at h; omega, h2⟩))
  have hsz1 := hb.size
  have S1 := Sec.mk hS
  have B1 := Sec.mk (bel B0.out hb)
  have P1 := Sec.mk ((hb.block _ (Array.getElem?_eq_some_iff.1 P0.out).1).trans P0.out)
  obtain ⟨A', c', hh, hlc, hcm, -, hC, -⟩ := hV
  obtain ⟨rfl, -, rfl⟩ : A = A' ∧ (ws.length : Int) = ws.length ∧ c = c' := by simpa using hh
  clear hb hR hh
  by_cases hx : s.toList = [33]
  · go_wp2_with (with_reducible show wpList _ _ _ (⟨none, .store 100 (.tmp 2) (.tmp 13), _, _, _, _⟩ :: _) _ _; refine wpList_store (cs := [.int .i64 3, .slice none 0 0, .slice none 0 0, .slice none 0 0]) (old := #[.int .i64 0, .slice none 0 0, .slice none 0 0, .slice none 0 0]) rfl 100 (.tmp 2) (.tmp 13) rfl rfl rfl P1.out (by kernel_rfl) rfl (kGoal.K_one (kGoal.O_K (kGoal_of (k := 3) (a := []) (b := []) (c := []) (Kd.R_nil kCell w (fun _ => False)) (Kd.R_nil kCell w (fun _ => False)) (Kd.R_nil kCell w (fun _ => False)) (fun _ h => h.elim) (fun _ h => h.elim) (fun _ h => h.elim)))) ?_; intro w8 hb8 hF8; have B8 := Sec.mk hb8; have F8 := Sec.mk hF8; clear hb8 hF8)
    exact bodyPost_ret (results_cell2 rfl rfl rfl B8.out hu2 rfl (by kernel_rfl)) rfl ⟨⟨3, [], [], []⟩, _, true, rfl, Kd.O_mono (kGoal_of (Kd.R_nil kCell _ (fun _ => False)) (Kd.R_nil kCell _ (fun _ => False)) (Kd.R_nil kCell _ (fun _ => False)) (fun _ h => h.elim) (fun _ h => h.elim) (fun _ h => h.elim)) (fun k h _ => by rcases h with h | h | h <;> exact h.elim), F8.out.below B1.out (fun k h => Nat.le_of_eq (show k = w.heap.size from h).symm)⟩
  · have hx' : (s.toList == [33]) = false := beq_eq_false_iff_ne.2 hx
    have WB := belA (Below.refl w1.heap.size w1) (.cells #[.int .i64 1, .slice none 0 0, .slice none 0 0, .slice none 0 0] 100)
    have CC := Sec.mk (Kd.C_below hC WB (by decide))
    have NB : Sec (∀ b, (fun k => w.heap.size < k ∧ k < w1.heap.size) b → ¬ b = w1.heap.size) := ⟨fun b h e => by have h := h.2; omega⟩
    have BXG : Sec (w.heap.size < w1.heap.size) := ⟨(Array.getElem?_eq_some_iff.1 P1.out).1⟩
    have G1 := Sec.mk (show GR0 w w1.heap.size 1 _ from ⟨heap_alloc_new w1 (.cells #[.int .i64 1, .slice none 0 0, .slice none 0 0, .slice none 0 0] 100), (box_cells WB P1.out).1, belA B1.out _⟩)
    clear hC WB hS
    have hc1 : (1 : Int) ≤ (c : Int) := by omega
    have i0 : (0 : Int) ≤ (ws.length : Int) := by omega
    go_upto_region 6 with (fail)
    generalize w1.alloc (.cells #[.int .i64 1, .slice none 0 0, .slice none 0 0, .slice none 0 0] 100) = w2 at *
    generalize w1.heap.size = bx at *
    go_cut [25] (fun v wc => ∃ q : Bool, v = .bool q ∧ (q = true → ws.length = 3) ∧ wc = w2)
    case first =>
      by_cases hlen : ws.length = 3
      · obtain ⟨x0, x1, x2, rfl⟩ : ∃ x0 x1 x2, ws = [x0, x1, x2] := by
          match ws, hlen with
          | [x0, x1, x2], _ => exact ⟨x0, x1, x2, rfl⟩
        obtain ⟨b, off, rfl, hok, hcs⟩ := strs_at CC.out (by show 0 < 3; omega)
        have c0 := (hcs 0 (by simp)).1
        have c1 := (hcs 1 (by simp)).1
        have c2 := (hcs 2 (by simp)).1
        have hs0 := Sec.mk (Nat.le_trans (S1.out x0 (by simp)) hs)
        have hs1 := Sec.mk (Nat.le_trans (S1.out x1 (by simp)) hs)
        have hs2 := Sec.mk (Nat.le_trans (S1.out x2 (by simp)) hs)
        simp only [List.getElem_cons_zero, List.getElem_cons_succ, Nat.add_zero] at c0 c1 c2
        have HNB : Sec (¬ b = bx) := ⟨fun e => NB.out b hok e⟩
        clear hcs hok hlen
        have t3 : ((3 : Int) == 3) = true := rfl
        by_cases hx1 : x1.toList = [61]
        · go_wp2
          go_meet
          case rel => exact ⟨_, rfl, fun _ => rfl, rfl⟩
        · have hx1' : (x1.toList == [61]) = false := beq_eq_false_iff_ne.2 hx1
          go_wp2
          go_meet
          case rel => exact ⟨_, rfl, fun _ => rfl, rfl⟩
      · have t3 : ((ws.length : Int) == 3) = false := beq_eq_false_iff_ne.2 (by omega)
        go_wp2
        go_meet
        case rel => exact ⟨false, rfl, fun h => (by cases h), rfl⟩
    case rest =>
    obtain ⟨q, rfl, hq, hwc⟩ := hcut
    subst hwc
    generalize hwx : wc = wx at *
    clear hwx
    go_upto_if 25 with (fail)
    go_cut [6] (fun v wc => ∃ (k : Int) (l : List ByteArray), Sec (GRd w bx k l v wc))
    case first =>
      cases q with
      | true =>
        have hlen := hq rfl
        obtain ⟨x0, x1, x2, rfl⟩ : ∃ x0 x1 x2, ws = [x0, x1, x2] := by
          match ws, hlen with
          | [x0, x1, x2], _ => exact ⟨x0, x1, x2, rfl⟩
        obtain ⟨b, off, rfl, hok, hcs⟩ := strs_at CC.out (by show 0 < 3; omega)
        have c0 := (hcs 0 (by simp)).1
        have c1 := (hcs 1 (by simp)).1
        have c2 := (hcs 2 (by simp)).1
        have hs0 := Sec.mk (Nat.le_trans (S1.out x0 (by simp)) hs)
        have hs1 := Sec.mk (Nat.le_trans (S1.out x1 (by simp)) hs)
        have hs2 := Sec.mk (Nat.le_trans (S1.out x2 (by simp)) hs)
        simp only [List.getElem_cons_zero, List.getElem_cons_succ, Nat.add_zero] at c0 c1 c2
        have HNB : Sec (¬ b = bx) := ⟨fun e => NB.out b hok e⟩
        clear hcs hok hlen
        have q0 := (box_at G1.out.box).2.1 0 _ rfl
        have f0 := (box_at G1.out.box).2.2 0
        have hF1 := Foot.set (S := fun k => k = bx) (Foot.refl _ wx) (g := bx) (.inl rfl) 0 (.int .i64 2)
        have HG := Sec.mk (show GR0 w bx 2 (wx.setCell ⟨bx, 0, none⟩ (.int .i64 2)) from ⟨box_store 0 _ G1.out.box, (hF1.block _ (Array.getElem?_eq_some_iff.1 G1.out.res).1 (fun e => by have := BXG.out; omega)).trans G1.out.res, hF1.below G1.out.bel (fun k h => by have := BXG.out; have h : k = bx := h; omega)⟩)
        have C0 := Sec.mk (fcell hF1 (fun e => HNB.out e) c0)
        have C2 := Sec.mk (fcell hF1 (fun e => HNB.out e) c2)
        clear c0 c2 hF1
        go_upto_region 8 with (fail)
        generalize (wx.setCell ⟨bx, 0, none⟩ (.int .i64 2)) = wr at *
        refine wp_region_lists [[27], [28], [29], [30], [31], [32], [33], [6]]
          [fun val _ _ => val 27 = .slice (some ⟨b, off, none⟩) 3 c,
            fun val _ _ => val 28 = .pointer (some ⟨b, off, none⟩),
            fun val _ _ => val 29 = .string x0,
            fun val _ _ => val 30 = .slice (some ⟨b, off, none⟩) 3 c,
            fun val _ _ => val 31 = .pointer (some ⟨b, off + 2, none⟩),
            fun val _ _ => val 32 = .string x2,
            onTab 33 #[.string x0, .string x2] 9 2,
            onTab 6 #[.string x0, .string x2] 9 2]
          [[], [], [], [], [], [], [], [6]] 0 (fun _ => False) (fun _ _ => False) (by kernel_rfl) ⟨by kernel_rfl, by kernel_rfl, by kernel_rfl, by kernel_rfl, by kernel_rfl⟩
          (.cons (stab_val 27 (fun v => v = .slice (some ⟨b, off, none⟩) 3 c)) (.cons (stab_val 28 (fun v => v = .pointer (some ⟨b, off, none⟩))) (.cons (stab_val 29 (fun v => v = .string x0)) (.cons (stab_val 30 (fun v => v = .slice (some ⟨b, off, none⟩) 3 c)) (.cons (stab_val 31 (fun v => v = .pointer (some ⟨b, off + 2, none⟩))) (.cons (stab_val 32 (fun v => v = .string x2)) (.cons (stab_tab 33 #[.string x0, .string x2] 9 2) (.cons (stab_tab 6 #[.string x0, .string x2] 9 2) .nil))))))))
          (fun i j k h1 h2 => h1.elim) (fun i k h => h.elim) (fun i h1 h2 => by simp at h1 h2; omega) (.cons ?_ (.cons ?_ (.cons ?_ (.cons ?_ (.cons ?_ (.cons ?_ (.cons ?_ (.cons ?_ .nil)))))))) ?_
        · intro a W own hfor huse hap hmi hF K hK
          have e4 : a.eval (.tmp 4) = .slice (some ⟨b, off, none⟩) 3 c := hfor 4 (by kernel_rfl)
          refine op_val (.slice (some ⟨b, off, none⟩) 3 c) W rfl ?_ (hK _ _ (post_pure ?_))
          · clear hfor huse hap hmi hK hF
            generalize a.eval = ρ at *
            go_simp
          · exact (if_pos rfl)
        · intro a W own hfor huse hap hmi hF K hK
          have e27 : a.eval (.tmp 27) = .slice (some ⟨b, off, none⟩) 3 c := huse 0 (by kernel_rfl)
          have ec0 : a.eval (.const (.int .i64 0)) = .int .i64 0 := rfl
          refine op_val (.pointer (some ⟨b, off, none⟩)) W rfl ?_ (hK _ _ (post_pure ?_))
          · clear hfor huse hap hmi hK hF
            generalize a.eval = ρ at *
            go_simp
          · exact (if_pos rfl)
        · intro a W own hfor huse hap hmi hF K hK
          have e28 : a.eval (.tmp 28) = .pointer (some ⟨b, off, none⟩) := huse 1 (by kernel_rfl)
          have c0 := foot_cell hF (fun h => h) C0.out
          refine op_val (.string x0) W rfl ?_ (hK _ _ (post_pure ?_))
          · clear hfor huse hap hmi hK hF
            generalize a.eval = ρ at *
            go_simp
          · exact (if_pos rfl)
        · intro a W own hfor huse hap hmi hF K hK
          have e4 : a.eval (.tmp 4) = .slice (some ⟨b, off, none⟩) 3 c := hfor 4 (by kernel_rfl)
          refine op_val (.slice (some ⟨b, off, none⟩) 3 c) W rfl ?_ (hK _ _ (post_pure ?_))
          · clear hfor huse hap hmi hK hF
            generalize a.eval = ρ at *
            go_simp
          · exact (if_pos rfl)
        · intro a W own hfor huse hap hmi hF K hK
          have e30 : a.eval (.tmp 30) = .slice (some ⟨b, off, none⟩) 3 c := huse 3 (by kernel_rfl)
          have ec0 : a.eval (.const (.int .i64 2)) = .int .i64 2 := rfl
          refine op_val (.pointer (some ⟨b, off + 2, none⟩)) W rfl ?_ (hK _ _ (post_pure ?_))
          · clear hfor huse hap hmi hK hF
            generalize a.eval = ρ at *
            go_simp
          · exact (if_pos rfl)
        · intro a W own hfor huse hap hmi hF K hK
          have e31 : a.eval (.tmp 31) = .pointer (some ⟨b, off + 2, none⟩) := huse 4 (by kernel_rfl)
          have c2 := foot_cell hF (fun h => h) C2.out
          refine op_val (.string x2) W rfl ?_ (hK _ _ (post_pure ?_))
          · clear hfor huse hap hmi hK hF
            generalize a.eval = ρ at *
            go_simp
          · exact (if_pos rfl)
        · intro a W own hfor huse hap hmi hF K hK
          have e29 : a.eval (.tmp 29) = .string x0 := huse 2 (by kernel_rfl)
          have e32 : a.eval (.tmp 32) = .string x2 := huse 5 (by kernel_rfl)
          refine op_val (.slice (some ⟨W.heap.size, 0, none⟩) 2 2) (W.alloc (.cells #[.string x0, .string x2] 9)) rfl ?_ (hK _ _ (post_new (belA (Below.refl _ _) _) ⟨W.heap.size, if_pos rfl, heap_alloc_new W _, Nat.le_refl _, by simp⟩))
          · clear hfor huse hap hmi hK hF
            generalize a.eval = ρ at *
            go_simp
        · intro a W own hfor huse hap hmi hF K hK
          obtain ⟨bb, h1, h2, h3⟩ := (huse 6 (by kernel_rfl) : onTab 33 #[.string x0, .string x2] 9 2 (slotsOf a) (own 6) W)
          have h1 : a.eval (.tmp 33) = .slice (some ⟨bb, 0, none⟩) 2 2 := h1
          refine op_val (.slice (some ⟨bb, 0, none⟩) 2 2) W rfl ?_ (hK _ _ ⟨own 6, Foot.refl _ _, ⟨bb, if_pos rfl, h2, h3⟩, fun k h => .inl ⟨6, by decide, h⟩⟩)
          · clear hfor huse hap hmi hK hF
            generalize a.eval = ρ at *
            go_simp
        intro a' W own hf
        have hsz := hf.st.size
        have hdf := hf.st.rest
        obtain ⟨⟨l⟩, df⟩ := a'
        have hl0 : l.length = 112 := hsz
        clear hsz
        obtain rfl : df = [] := hdf
        revert hf
        apply lay_all l hl0
        clear hl0 l
        intro x111 x110 x109 x108 x107 x106 x105 x104 x103 x102 x101 x100 x99 x98 x97 x96 x95 x94 x93 x92 x91 x90 x89 x88 x87 x86 x85 x84 x83 x82 x81 x80 x79 x78 x77 x76 x75 x74 x73 x72 x71 x70 x69 x68 x67 x66 x65 x64 x63 x62 x61 x60 x59 x58 x57 x56 x55 x54 x53 x52 x51 x50 x49 x48 x47 x46 x45 x44 x43 x42 x41 x40 x39 x38 x37 x36 x35 x34 x33 x32 x31 x30 x29 x28 x27 x26 x25 x24 x23 x22 x21 x20 x19 x18 x17 x16 x15 x14 x13 x12 x11 x10 x9 x8 x7 x6 x5 x4 x3 x2 x1 x0 hf
        have e0 := hf.st.kept 0 (by kernel_rfl)
        simp only [slotsOf, Act.eval, Array.getD_eq_getD_getElem?, List.getElem?_toArray, List.getElem?_cons_zero, Option.getD_some] at e0
        subst e0
        have e1 := hf.st.kept 1 (by kernel_rfl)
        simp only [slotsOf, Act.eval, Array.getD_eq_getD_getElem?, List.getElem?_toArray, List.getElem?_cons_succ, List.getElem?_cons_zero, Option.getD_some] at e1
        subst e1
        have e2 := hf.st.kept 2 (by kernel_rfl)
        simp only [slotsOf, Act.eval, Array.getD_eq_getD_getElem?, List.getElem?_toArray, List.getElem?_cons_succ, List.getElem?_cons_zero, Option.getD_some] at e2
        subst e2
        have e3 := hf.st.kept 3 (by kernel_rfl)
        simp only [slotsOf, Act.eval, Array.getD_eq_getD_getElem?, List.getElem?_toArray, List.getElem?_cons_succ, List.getElem?_cons_zero, Option.getD_some] at e3
        subst e3
        have e4 := hf.st.kept 4 (by kernel_rfl)
        simp only [slotsOf, Act.eval, Array.getD_eq_getD_getElem?, List.getElem?_toArray, List.getElem?_cons_succ, List.getElem?_cons_zero, Option.getD_some] at e4
        subst e4
        have e5 := hf.st.kept 5 (by kernel_rfl)
        simp only [slotsOf, Act.eval, Array.getD_eq_getD_getElem?, List.getElem?_toArray, List.getElem?_cons_succ, List.getElem?_cons_zero, Option.getD_some] at e5
        subst e5
        have e7 := hf.st.kept 7 (by kernel_rfl)
        simp only [slotsOf, Act.eval, Array.getD_eq_getD_getElem?, List.getElem?_toArray, List.getElem?_cons_succ, List.getElem?_cons_zero, Option.getD_some] at e7
        subst e7
        have e8 := hf.st.kept 8 (by kernel_rfl)
        simp only [slotsOf, Act.eval, Array.getD_eq_getD_getElem?, List.getElem?_toArray, List.getElem?_cons_succ, List.getElem?_cons_zero, Option.getD_some] at e8
        subst e8
        have e9 := hf.st.kept 9 (by kernel_rfl)
        simp only [slotsOf, Act.eval, Array.getD_eq_getD_getElem?, List.getElem?_toArray, List.getElem?_cons_succ, List.getElem?_cons_zero, Option.getD_some] at e9
        subst e9
        have e10 := hf.st.kept 10 (by kernel_rfl)
        simp only [slotsOf, Act.eval, Array.getD_eq_getD_getElem?, List.getElem?_toArray, List.getElem?_cons_succ, List.getElem?_cons_zero, Option.getD_some] at e10
        subst e10
        have e11 := hf.st.kept 11 (by kernel_rfl)
        simp only [slotsOf, Act.eval, Array.getD_eq_getD_getElem?, List.getElem?_toArray, List.getElem?_cons_succ, List.getElem?_cons_zero, Option.getD_some] at e11
        subst e11
        have e12 := hf.st.kept 12 (by kernel_rfl)
        simp only [slotsOf, Act.eval, Array.getD_eq_getD_getElem?, List.getElem?_toArray, List.getElem?_cons_succ, List.getElem?_cons_zero, Option.getD_some] at e12
        subst e12
        have e13 := hf.st.kept 13 (by kernel_rfl)
        simp only [slotsOf, Act.eval, Array.getD_eq_getD_getElem?, List.getElem?_toArray, List.getElem?_cons_succ, List.getElem?_cons_zero, Option.getD_some] at e13
        subst e13
        have e14 := hf.st.kept 14 (by kernel_rfl)
        simp only [slotsOf, Act.eval, Array.getD_eq_getD_getElem?, List.getElem?_toArray, List.getElem?_cons_succ, List.getElem?_cons_zero, Option.getD_some] at e14
        subst e14
        have e15 := hf.st.kept 15 (by kernel_rfl)
        simp only [slotsOf, Act.eval, Array.getD_eq_getD_getElem?, List.getElem?_toArray, List.getElem?_cons_succ, List.getElem?_cons_zero, Option.getD_some] at e15
        subst e15
        have e16 := hf.st.kept 16 (by kernel_rfl)
        simp only [slotsOf, Act.eval, Array.getD_eq_getD_getElem?, List.getElem?_toArray, List.getElem?_cons_succ, List.getElem?_cons_zero, Option.getD_some] at e16
        subst e16
        have e17 := hf.st.kept 17 (by kernel_rfl)
        simp only [slotsOf, Act.eval, Array.getD_eq_getD_getElem?, List.getElem?_toArray, List.getElem?_cons_succ, List.getElem?_cons_zero, Option.getD_some] at e17
        subst e17
        have e18 := hf.st.kept 18 (by kernel_rfl)
        simp only [slotsOf, Act.eval, Array.getD_eq_getD_getElem?, List.getElem?_toArray, List.getElem?_cons_succ, List.getElem?_cons_zero, Option.getD_some] at e18
        subst e18
        have e19 := hf.st.kept 19 (by kernel_rfl)
        simp only [slotsOf, Act.eval, Array.getD_eq_getD_getElem?, List.getElem?_toArray, List.getElem?_cons_succ, List.getElem?_cons_zero, Option.getD_some] at e19
        subst e19
        have e20 := hf.st.kept 20 (by kernel_rfl)
        simp only [slotsOf, Act.eval, Array.getD_eq_getD_getElem?, List.getElem?_toArray, List.getElem?_cons_succ, List.getElem?_cons_zero, Option.getD_some] at e20
        subst e20
        have e21 := hf.st.kept 21 (by kernel_rfl)
        simp only [slotsOf, Act.eval, Array.getD_eq_getD_getElem?, List.getElem?_toArray, List.getElem?_cons_succ, List.getElem?_cons_zero, Option.getD_some] at e21
        subst e21
        have e22 := hf.st.kept 22 (by kernel_rfl)
        simp only [slotsOf, Act.eval, Array.getD_eq_getD_getElem?, List.getElem?_toArray, List.getElem?_cons_succ, List.getElem?_cons_zero, Option.getD_some] at e22
        subst e22
        have e23 := hf.st.kept 23 (by kernel_rfl)
        simp only [slotsOf, Act.eval, Array.getD_eq_getD_getElem?, List.getElem?_toArray, List.getElem?_cons_succ, List.getElem?_cons_zero, Option.getD_some] at e23
        subst e23
        have e24 := hf.st.kept 24 (by kernel_rfl)
        simp only [slotsOf, Act.eval, Array.getD_eq_getD_getElem?, List.getElem?_toArray, List.getElem?_cons_succ, List.getElem?_cons_zero, Option.getD_some] at e24
        subst e24
        have e25 := hf.st.kept 25 (by kernel_rfl)
        simp only [slotsOf, Act.eval, Array.getD_eq_getD_getElem?, List.getElem?_toArray, List.getElem?_cons_succ, List.getElem?_cons_zero, Option.getD_some] at e25
        subst e25
        have e26 := hf.st.kept 26 (by kernel_rfl)
        simp only [slotsOf, Act.eval, Array.getD_eq_getD_getElem?, List.getElem?_toArray, List.getElem?_cons_succ, List.getElem?_cons_zero, Option.getD_some] at e26
        subst e26
        have e34 := hf.st.kept 34 (by kernel_rfl)
        simp only [slotsOf, Act.eval, Array.getD_eq_getD_getElem?, List.getElem?_toArray, List.getElem?_cons_succ, List.getElem?_cons_zero, Option.getD_some] at e34
        subst e34
        have e35 := hf.st.kept 35 (by kernel_rfl)
        simp only [slotsOf, Act.eval, Array.getD_eq_getD_getElem?, List.getElem?_toArray, List.getElem?_cons_succ, List.getElem?_cons_zero, Option.getD_some] at e35
        subst e35
        have e36 := hf.st.kept 36 (by kernel_rfl)
        simp only [slotsOf, Act.eval, Array.getD_eq_getD_getElem?, List.getElem?_toArray, List.getElem?_cons_succ, List.getElem?_cons_zero, Option.getD_some] at e36
        subst e36
        have e37 := hf.st.kept 37 (by kernel_rfl)
        simp only [slotsOf, Act.eval, Array.getD_eq_getD_getElem?, List.getElem?_toArray, List.getElem?_cons_succ, List.getElem?_cons_zero, Option.getD_some] at e37
        subst e37
        have e38 := hf.st.kept 38 (by kernel_rfl)
        simp only [slotsOf, Act.eval, Array.getD_eq_getD_getElem?, List.getElem?_toArray, List.getElem?_cons_succ, List.getElem?_cons_zero, Option.getD_some] at e38
        subst e38
        have e39 := hf.st.kept 39 (by kernel_rfl)
        simp only [slotsOf, Act.eval, Array.getD_eq_getD_getElem?, List.getElem?_toArray, List.getElem?_cons_succ, List.getElem?_cons_zero, Option.getD_some] at e39
        subst e39
        have e40 := hf.st.kept 40 (by kernel_rfl)
        simp only [slotsOf, Act.eval, Array.getD_eq_getD_getElem?, List.getElem?_toArray, List.getElem?_cons_succ, List.getElem?_cons_zero, Option.getD_some] at e40
        subst e40
        have e41 := hf.st.kept 41 (by kernel_rfl)
        simp only [slotsOf, Act.eval, Array.getD_eq_getD_getElem?, List.getElem?_toArray, List.getElem?_cons_succ, List.getElem?_cons_zero, Option.getD_some] at e41
        subst e41
        have e42 := hf.st.kept 42 (by kernel_rfl)
        simp only [slotsOf, Act.eval, Array.getD_eq_getD_getElem?, List.getElem?_toArray, List.getElem?_cons_succ, List.getElem?_cons_zero, Option.getD_some] at e42
        subst e42
        have e43 := hf.st.kept 43 (by kernel_rfl)
        simp only [slotsOf, Act.eval, Array.getD_eq_getD_getElem?, List.getElem?_toArray, List.getElem?_cons_succ, List.getElem?_cons_zero, Option.getD_some] at e43
        subst e43
        have e44 := hf.st.kept 44 (by kernel_rfl)
        simp only [slotsOf, Act.eval, Array.getD_eq_getD_getElem?, List.getElem?_toArray, List.getElem?_cons_succ, List.getElem?_cons_zero, Option.getD_some] at e44
        subst e44
        have e45 := hf.st.kept 45 (by kernel_rfl)
        simp only [slotsOf, Act.eval, Array.getD_eq_getD_getElem?, List.getElem?_toArray, List.getElem?_cons_succ, List.getElem?_cons_zero, Option.getD_some] at e45
        subst e45
        have e46 := hf.st.kept 46 (by kernel_rfl)
        simp only [slotsOf, Act.eval, Array.getD_eq_getD_getElem?, List.getElem?_toArray, List.getElem?_cons_succ, List.getElem?_cons_zero, Option.getD_some] at e46
        subst e46
        have e47 := hf.st.kept 47 (by kernel_rfl)
        simp only [slotsOf, Act.eval, Array.getD_eq_getD_getElem?, List.getElem?_toArray, List.getElem?_cons_succ, List.getElem?_cons_zero, Option.getD_some] at e47
        subst e47
        have e48 := hf.st.kept 48 (by kernel_rfl)
        simp only [slotsOf, Act.eval, Array.getD_eq_getD_getElem?, List.getElem?_toArray, List.getElem?_cons_succ, List.getElem?_cons_zero, Option.getD_some] at e48
        subst e48
        have e49 := hf.st.kept 49 (by kernel_rfl)
        simp only [slotsOf, Act.eval, Array.getD_eq_getD_getElem?, List.getElem?_toArray, List.getElem?_cons_succ, List.getElem?_cons_zero, Option.getD_some] at e49
        subst e49
        have e50 := hf.st.kept 50 (by kernel_rfl)
        simp only [slotsOf, Act.eval, Array.getD_eq_getD_getElem?, List.getElem?_toArray, List.getElem?_cons_succ, List.getElem?_cons_zero, Option.getD_some] at e50
        subst e50
        have e51 := hf.st.kept 51 (by kernel_rfl)
        simp only [slotsOf, Act.eval, Array.getD_eq_getD_getElem?, List.getElem?_toArray, List.getElem?_cons_succ, List.getElem?_cons_zero, Option.getD_some] at e51
        subst e51
        have e52 := hf.st.kept 52 (by kernel_rfl)
        simp only [slotsOf, Act.eval, Array.getD_eq_getD_getElem?, List.getElem?_toArray, List.getElem?_cons_succ, List.getElem?_cons_zero, Option.getD_some] at e52
        subst e52
        have e53 := hf.st.kept 53 (by kernel_rfl)
        simp only [slotsOf, Act.eval, Array.getD_eq_getD_getElem?, List.getElem?_toArray, List.getElem?_cons_succ, List.getElem?_cons_zero, Option.getD_some] at e53
        subst e53
        have e54 := hf.st.kept 54 (by kernel_rfl)
        simp only [slotsOf, Act.eval, Array.getD_eq_getD_getElem?, List.getElem?_toArray, List.getElem?_cons_succ, List.getElem?_cons_zero, Option.getD_some] at e54
        subst e54
        have e55 := hf.st.kept 55 (by kernel_rfl)
        simp only [slotsOf, Act.eval, Array.getD_eq_getD_getElem?, List.getElem?_toArray, List.getElem?_cons_succ, List.getElem?_cons_zero, Option.getD_some] at e55
        subst e55
        have e56 := hf.st.kept 56 (by kernel_rfl)
        simp only [slotsOf, Act.eval, Array.getD_eq_getD_getElem?, List.getElem?_toArray, List.getElem?_cons_succ, List.getElem?_cons_zero, Option.getD_some] at e56
        subst e56
        have e57 := hf.st.kept 57 (by kernel_rfl)
        simp only [slotsOf, Act.eval, Array.getD_eq_getD_getElem?, List.getElem?_toArray, List.getElem?_cons_succ, List.getElem?_cons_zero, Option.getD_some] at e57
        subst e57
        have e58 := hf.st.kept 58 (by kernel_rfl)
        simp only [slotsOf, Act.eval, Array.getD_eq_getD_getElem?, List.getElem?_toArray, List.getElem?_cons_succ, List.getElem?_cons_zero, Option.getD_some] at e58
        subst e58
        have e59 := hf.st.kept 59 (by kernel_rfl)
        simp only [slotsOf, Act.eval, Array.getD_eq_getD_getElem?, List.getElem?_toArray, List.getElem?_cons_succ, List.getElem?_cons_zero, Option.getD_some] at e59
        subst e59
        have e60 := hf.st.kept 60 (by kernel_rfl)
        simp only [slotsOf, Act.eval, Array.getD_eq_getD_getElem?, List.getElem?_toArray, List.getElem?_cons_succ, List.getElem?_cons_zero, Option.getD_some] at e60
        subst e60
        have e61 := hf.st.kept 61 (by kernel_rfl)
        simp only [slotsOf, Act.eval, Array.getD_eq_getD_getElem?, List.getElem?_toArray, List.getElem?_cons_succ, List.getElem?_cons_zero, Option.getD_some] at e61
        subst e61
        have e62 := hf.st.kept 62 (by kernel_rfl)
        simp only [slotsOf, Act.eval, Array.getD_eq_getD_getElem?, List.getElem?_toArray, List.getElem?_cons_succ, List.getElem?_cons_zero, Option.getD_some] at e62
        subst e62
        have e63 := hf.st.kept 63 (by kernel_rfl)
        simp only [slotsOf, Act.eval, Array.getD_eq_getD_getElem?, List.getElem?_toArray, List.getElem?_cons_succ, List.getElem?_cons_zero, Option.getD_some] at e63
        subst e63
        have e64 := hf.st.kept 64 (by kernel_rfl)
        simp only [slotsOf, Act.eval, Array.getD_eq_getD_getElem?, List.getElem?_toArray, List.getElem?_cons_succ, List.getElem?_cons_zero, Option.getD_some] at e64
        subst e64
        have e65 := hf.st.kept 65 (by kernel_rfl)
        simp only [slotsOf, Act.eval, Array.getD_eq_getD_getElem?, List.getElem?_toArray, List.getElem?_cons_succ, List.getElem?_cons_zero, Option.getD_some] at e65
        subst e65
        have e66 := hf.st.kept 66 (by kernel_rfl)
        simp only [slotsOf, Act.eval, Array.getD_eq_getD_getElem?, List.getElem?_toArray, List.getElem?_cons_succ, List.getElem?_cons_zero, Option.getD_some] at e66
        subst e66
        have e67 := hf.st.kept 67 (by kernel_rfl)
        simp only [slotsOf, Act.eval, Array.getD_eq_getD_getElem?, List.getElem?_toArray, List.getElem?_cons_succ, List.getElem?_cons_zero, Option.getD_some] at e67
        subst e67
        have e68 := hf.st.kept 68 (by kernel_rfl)
        simp only [slotsOf, Act.eval, Array.getD_eq_getD_getElem?, List.getElem?_toArray, List.getElem?_cons_succ, List.getElem?_cons_zero, Option.getD_some] at e68
        subst e68
        have e69 := hf.st.kept 69 (by kernel_rfl)
        simp only [slotsOf, Act.eval, Array.getD_eq_getD_getElem?, List.getElem?_toArray, List.getElem?_cons_succ, List.getElem?_cons_zero, Option.getD_some] at e69
        subst e69
        have e70 := hf.st.kept 70 (by kernel_rfl)
        simp only [slotsOf, Act.eval, Array.getD_eq_getD_getElem?, List.getElem?_toArray, List.getElem?_cons_succ, List.getElem?_cons_zero, Option.getD_some] at e70
        subst e70
        have e71 := hf.st.kept 71 (by kernel_rfl)
        simp only [slotsOf, Act.eval, Array.getD_eq_getD_getElem?, List.getElem?_toArray, List.getElem?_cons_succ, List.getElem?_cons_zero, Option.getD_some] at e71
        subst e71
        have e72 := hf.st.kept 72 (by kernel_rfl)
        simp only [slotsOf, Act.eval, Array.getD_eq_getD_getElem?, List.getElem?_toArray, List.getElem?_cons_succ, List.getElem?_cons_zero, Option.getD_some] at e72
        subst e72
        have e73 := hf.st.kept 73 (by kernel_rfl)
        simp only [slotsOf, Act.eval, Array.getD_eq_getD_getElem?, List.getElem?_toArray, List.getElem?_cons_succ, List.getElem?_cons_zero, Option.getD_some] at e73
        subst e73
        have e74 := hf.st.kept 74 (by kernel_rfl)
        simp only [slotsOf, Act.eval, Array.getD_eq_getD_getElem?, List.getElem?_toArray, List.getElem?_cons_succ, List.getElem?_cons_zero, Option.getD_some] at e74
        subst e74
        have e75 := hf.st.kept 75 (by kernel_rfl)
        simp only [slotsOf, Act.eval, Array.getD_eq_getD_getElem?, List.getElem?_toArray, List.getElem?_cons_succ, List.getElem?_cons_zero, Option.getD_some] at e75
        subst e75
        have e76 := hf.st.kept 76 (by kernel_rfl)
        simp only [slotsOf, Act.eval, Array.getD_eq_getD_getElem?, List.getElem?_toArray, List.getElem?_cons_succ, List.getElem?_cons_zero, Option.getD_some] at e76
        subst e76
        have e77 := hf.st.kept 77 (by kernel_rfl)
        simp only [slotsOf, Act.eval, Array.getD_eq_getD_getElem?, List.getElem?_toArray, List.getElem?_cons_succ, List.getElem?_cons_zero, Option.getD_some] at e77
        subst e77
        have e78 := hf.st.kept 78 (by kernel_rfl)
        simp only [slotsOf, Act.eval, Array.getD_eq_getD_getElem?, List.getElem?_toArray, List.getElem?_cons_succ, List.getElem?_cons_zero, Option.getD_some] at e78
        subst e78
        have e79 := hf.st.kept 79 (by kernel_rfl)
        simp only [slotsOf, Act.eval, Array.getD_eq_getD_getElem?, List.getElem?_toArray, List.getElem?_cons_succ, List.getElem?_cons_zero, Option.getD_some] at e79
        subst e79
        have e80 := hf.st.kept 80 (by kernel_rfl)
        simp only [slotsOf, Act.eval, Array.getD_eq_getD_getElem?, List.getElem?_toArray, List.getElem?_cons_succ, List.getElem?_cons_zero, Option.getD_some] at e80
        subst e80
        have e81 := hf.st.kept 81 (by kernel_rfl)
        simp only [slotsOf, Act.eval, Array.getD_eq_getD_getElem?, List.getElem?_toArray, List.getElem?_cons_succ, List.getElem?_cons_zero, Option.getD_some] at e81
        subst e81
        have e82 := hf.st.kept 82 (by kernel_rfl)
        simp only [slotsOf, Act.eval, Array.getD_eq_getD_getElem?, List.getElem?_toArray, List.getElem?_cons_succ, List.getElem?_cons_zero, Option.getD_some] at e82
        subst e82
        have e83 := hf.st.kept 83 (by kernel_rfl)
        simp only [slotsOf, Act.eval, Array.getD_eq_getD_getElem?, List.getElem?_toArray, List.getElem?_cons_succ, List.getElem?_cons_zero, Option.getD_some] at e83
        subst e83
        have e84 := hf.st.kept 84 (by kernel_rfl)
        simp only [slotsOf, Act.eval, Array.getD_eq_getD_getElem?, List.getElem?_toArray, List.getElem?_cons_succ, List.getElem?_cons_zero, Option.getD_some] at e84
        subst e84
        have e85 := hf.st.kept 85 (by kernel_rfl)
        simp only [slotsOf, Act.eval, Array.getD_eq_getD_getElem?, List.getElem?_toArray, List.getElem?_cons_succ, List.getElem?_cons_zero, Option.getD_some] at e85
        subst e85
        have e86 := hf.st.kept 86 (by kernel_rfl)
        simp only [slotsOf, Act.eval, Array.getD_eq_getD_getElem?, List.getElem?_toArray, List.getElem?_cons_succ, List.getElem?_cons_zero, Option.getD_some] at e86
        subst e86
        have e87 := hf.st.kept 87 (by kernel_rfl)
        simp only [slotsOf, Act.eval, Array.getD_eq_getD_getElem?, List.getElem?_toArray, List.getElem?_cons_succ, List.getElem?_cons_zero, Option.getD_some] at e87
        subst e87
        have e88 := hf.st.kept 88 (by kernel_rfl)
        simp only [slotsOf, Act.eval, Array.getD_eq_getD_getElem?, List.getElem?_toArray, List.getElem?_cons_succ, List.getElem?_cons_zero, Option.getD_some] at e88
        subst e88
        have e89 := hf.st.kept 89 (by kernel_rfl)
        simp only [slotsOf, Act.eval, Array.getD_eq_getD_getElem?, List.getElem?_toArray, List.getElem?_cons_succ, List.getElem?_cons_zero, Option.getD_some] at e89
        subst e89
        have e90 := hf.st.kept 90 (by kernel_rfl)
        simp only [slotsOf, Act.eval, Array.getD_eq_getD_getElem?, List.getElem?_toArray, List.getElem?_cons_succ, List.getElem?_cons_zero, Option.getD_some] at e90
        subst e90
        have e91 := hf.st.kept 91 (by kernel_rfl)
        simp only [slotsOf, Act.eval, Array.getD_eq_getD_getElem?, List.getElem?_toArray, List.getElem?_cons_succ, List.getElem?_cons_zero, Option.getD_some] at e91
        subst e91
        have e92 := hf.st.kept 92 (by kernel_rfl)
        simp only [slotsOf, Act.eval, Array.getD_eq_getD_getElem?, List.getElem?_toArray, List.getElem?_cons_succ, List.getElem?_cons_zero, Option.getD_some] at e92
        subst e92
        have e93 := hf.st.kept 93 (by kernel_rfl)
        simp only [slotsOf, Act.eval, Array.getD_eq_getD_getElem?, List.getElem?_toArray, List.getElem?_cons_succ, List.getElem?_cons_zero, Option.getD_some] at e93
        subst e93
        have e94 := hf.st.kept 94 (by kernel_rfl)
        simp only [slotsOf, Act.eval, Array.getD_eq_getD_getElem?, List.getElem?_toArray, List.getElem?_cons_succ, List.getElem?_cons_zero, Option.getD_some] at e94
        subst e94
        have e95 := hf.st.kept 95 (by kernel_rfl)
        simp only [slotsOf, Act.eval, Array.getD_eq_getD_getElem?, List.getElem?_toArray, List.getElem?_cons_succ, List.getElem?_cons_zero, Option.getD_some] at e95
        subst e95
        have e96 := hf.st.kept 96 (by kernel_rfl)
        simp only [slotsOf, Act.eval, Array.getD_eq_getD_getElem?, List.getElem?_toArray, List.getElem?_cons_succ, List.getElem?_cons_zero, Option.getD_some] at e96
        subst e96
        have e97 := hf.st.kept 97 (by kernel_rfl)
        simp only [slotsOf, Act.eval, Array.getD_eq_getD_getElem?, List.getElem?_toArray, List.getElem?_cons_succ, List.getElem?_cons_zero, Option.getD_some] at e97
        subst e97
        have e98 := hf.st.kept 98 (by kernel_rfl)
        simp only [slotsOf, Act.eval, Array.getD_eq_getD_getElem?, List.getElem?_toArray, List.getElem?_cons_succ, List.getElem?_cons_zero, Option.getD_some] at e98
        subst e98
        have e99 := hf.st.kept 99 (by kernel_rfl)
        simp only [slotsOf, Act.eval, Array.getD_eq_getD_getElem?, List.getElem?_toArray, List.getElem?_cons_succ, List.getElem?_cons_zero, Option.getD_some] at e99
        subst e99
        have e100 := hf.st.kept 100 (by kernel_rfl)
        simp only [slotsOf, Act.eval, Array.getD_eq_getD_getElem?, List.getElem?_toArray, List.getElem?_cons_succ, List.getElem?_cons_zero, Option.getD_some] at e100
        subst e100
        have e101 := hf.st.kept 101 (by kernel_rfl)
        simp only [slotsOf, Act.eval, Array.getD_eq_getD_getElem?, List.getElem?_toArray, List.getElem?_cons_succ, List.getElem?_cons_zero, Option.getD_some] at e101
        subst e101
        have e102 := hf.st.kept 102 (by kernel_rfl)
        simp only [slotsOf, Act.eval, Array.getD_eq_getD_getElem?, List.getElem?_toArray, List.getElem?_cons_succ, List.getElem?_cons_zero, Option.getD_some] at e102
        subst e102
        have e103 := hf.st.kept 103 (by kernel_rfl)
        simp only [slotsOf, Act.eval, Array.getD_eq_getD_getElem?, List.getElem?_toArray, List.getElem?_cons_succ, List.getElem?_cons_zero, Option.getD_some] at e103
        subst e103
        have e104 := hf.st.kept 104 (by kernel_rfl)
        simp only [slotsOf, Act.eval, Array.getD_eq_getD_getElem?, List.getElem?_toArray, List.getElem?_cons_succ, List.getElem?_cons_zero, Option.getD_some] at e104
        subst e104
        have e105 := hf.st.kept 105 (by kernel_rfl)
        simp only [slotsOf, Act.eval, Array.getD_eq_getD_getElem?, List.getElem?_toArray, List.getElem?_cons_succ, List.getElem?_cons_zero, Option.getD_some] at e105
        subst e105
        have e106 := hf.st.kept 106 (by kernel_rfl)
        simp only [slotsOf, Act.eval, Array.getD_eq_getD_getElem?, List.getElem?_toArray, List.getElem?_cons_succ, List.getElem?_cons_zero, Option.getD_some] at e106
        subst e106
        have e107 := hf.st.kept 107 (by kernel_rfl)
        simp only [slotsOf, Act.eval, Array.getD_eq_getD_getElem?, List.getElem?_toArray, List.getElem?_cons_succ, List.getElem?_cons_zero, Option.getD_some] at e107
        subst e107
        have e108 := hf.st.kept 108 (by kernel_rfl)
        simp only [slotsOf, Act.eval, Array.getD_eq_getD_getElem?, List.getElem?_toArray, List.getElem?_cons_succ, List.getElem?_cons_zero, Option.getD_some] at e108
        subst e108
        have e109 := hf.st.kept 109 (by kernel_rfl)
        simp only [slotsOf, Act.eval, Array.getD_eq_getD_getElem?, List.getElem?_toArray, List.getElem?_cons_succ, List.getElem?_cons_zero, Option.getD_some] at e109
        subst e109
        have e110 := hf.st.kept 110 (by kernel_rfl)
        simp only [slotsOf, Act.eval, Array.getD_eq_getD_getElem?, List.getElem?_toArray, List.getElem?_cons_succ, List.getElem?_cons_zero, Option.getD_some] at e110
        subst e110
        have e111 := hf.st.kept 111 (by kernel_rfl)
        simp only [slotsOf, Act.eval, Array.getD_eq_getD_getElem?, List.getElem?_toArray, List.getElem?_cons_succ, List.getElem?_cons_zero, Option.getD_some] at e111
        subst e111
        obtain ⟨bb, h1, h2, h3⟩ := hf.at 7 (onTab 6 #[.string x0, .string x2] 9 2) rfl (by kernel_rfl)
        have h1 : x6 = .slice (some ⟨bb, 0, none⟩) 2 2 := h1
        subst h1
        have GR := Sec.mk (GRd.lit (n := 2) (w := w) (bx := bx) (l := [x0, x2]) h2 HG.out (hf.st.foot) (by simp) (by simp) (by simp; exact ⟨hs0.out, hs2.out⟩))
        clear hf h2 h3
        go_wp2
        go_meet
        case rel => exact ⟨_, [x0, x2], GR⟩
      | false =>
        clear hq
        by_cases hlen : ws.length = 3
        · obtain ⟨x0, x1, x2, rfl⟩ : ∃ x0 x1 x2, ws = [x0, x1, x2] := by
            match ws, hlen with
            | [x0, x1, x2], _ => exact ⟨x0, x1, x2, rfl⟩
          obtain ⟨b, off, rfl, hok, hcs⟩ := strs_at CC.out (by show 0 < 3; omega)
          have c0 := (hcs 0 (by simp)).1
          have c1 := (hcs 1 (by simp)).1
          have c2 := (hcs 2 (by simp)).1
          have hs0 := Sec.mk (Nat.le_trans (S1.out x0 (by simp)) hs)
          have hs1 := Sec.mk (Nat.le_trans (S1.out x1 (by simp)) hs)
          have hs2 := Sec.mk (Nat.le_trans (S1.out x2 (by simp)) hs)
          simp only [List.getElem_cons_zero, List.getElem_cons_succ, Nat.add_zero] at c0 c1 c2
          have HNB : Sec (¬ b = bx) := ⟨fun e => NB.out b hok e⟩
          clear hcs hok hlen
          have t3 : ((3 : Int) == 3) = true := rfl
          have t5 : ((3 : Int) == 5) = false := rfl
          have t1 : ((3 : Int) != 1) = true := rfl
          by_cases hx1 : x1.toList = [60]
          · skip
            have q0 := (box_at G1.out.box).2.1 0 _ rfl
            have f0 := (box_at G1.out.box).2.2 0
            have hF1 := Foot.set (S := fun k => k = bx) (Foot.refl _ wx) (g := bx) (.inl rfl) 0 (.int .i64 4)
            have HG := Sec.mk (show GR0 w bx 4 (wx.setCell ⟨bx, 0, none⟩ (.int .i64 4)) from ⟨box_store 0 _ G1.out.box, (hF1.block _ (Array.getElem?_eq_some_iff.1 G1.out.res).1 (fun e => by have := BXG.out; omega)).trans G1.out.res, hF1.below G1.out.bel (fun k h => by have := BXG.out; have h : k = bx := h; omega)⟩)
            have C0 := Sec.mk (fcell hF1 (fun e => HNB.out e) c0)
            have C2 := Sec.mk (fcell hF1 (fun e => HNB.out e) c2)
            clear c0 c2 hF1
            go_upto_region 11 with (fail)
            generalize (wx.setCell ⟨bx, 0, none⟩ (.int .i64 4)) = wr at *
            refine wp_region_lists [[44], [45], [46], [47], [48], [49], [50], [6]]
              [fun val _ _ => val 44 = .slice (some ⟨b, off, none⟩) 3 c,
                fun val _ _ => val 45 = .pointer (some ⟨b, off, none⟩),
                fun val _ _ => val 46 = .string x0,
                fun val _ _ => val 47 = .slice (some ⟨b, off, none⟩) 3 c,
                fun val _ _ => val 48 = .pointer (some ⟨b, off + 2, none⟩),
                fun val _ _ => val 49 = .string x2,
                onTab 50 #[.string x0, .string x2] 9 2,
                onTab 6 #[.string x0, .string x2] 9 2]
              [[], [], [], [], [], [], [], [6]] 0 (fun _ => False) (fun _ _ => False) (by kernel_rfl) ⟨by kernel_rfl, by kernel_rfl, by kernel_rfl, by kernel_rfl, by kernel_rfl⟩
              (.cons (stab_val 44 (fun v => v = .slice (some ⟨b, off, none⟩) 3 c)) (.cons (stab_val 45 (fun v => v = .pointer (some ⟨b, off, none⟩))) (.cons (stab_val 46 (fun v => v = .string x0)) (.cons (stab_val 47 (fun v => v = .slice (some ⟨b, off, none⟩) 3 c)) (.cons (stab_val 48 (fun v => v = .pointer (some ⟨b, off + 2, none⟩))) (.cons (stab_val 49 (fun v => v = .string x2)) (.cons (stab_tab 50 #[.string x0, .string x2] 9 2) (.cons (stab_tab 6 #[.string x0, .string x2] 9 2) .nil))))))))
              (fun i j k h1 h2 => h1.elim) (fun i k h => h.elim) (fun i h1 h2 => by simp at h1 h2; omega) (.cons ?_ (.cons ?_ (.cons ?_ (.cons ?_ (.cons ?_ (.cons ?_ (.cons ?_ (.cons ?_ .nil)))))))) ?_
            · intro a W own hfor huse hap hmi hF K hK
              have e4 : a.eval (.tmp 4) = .slice (some ⟨b, off, none⟩) 3 c := hfor 4 (by kernel_rfl)
              refine op_val (.slice (some ⟨b, off, none⟩) 3 c) W rfl ?_ (hK _ _ (post_pure ?_))
              · clear hfor huse hap hmi hK hF
                generalize a.eval = ρ at *
                go_simp
              · exact (if_pos rfl)
            · intro a W own hfor huse hap hmi hF K hK
              have e44 : a.eval (.tmp 44) = .slice (some ⟨b, off, none⟩) 3 c := huse 0 (by kernel_rfl)
              have ec0 : a.eval (.const (.int .i64 0)) = .int .i64 0 := rfl
              refine op_val (.pointer (some ⟨b, off, none⟩)) W rfl ?_ (hK _ _ (post_pure ?_))
              · clear hfor huse hap hmi hK hF
                generalize a.eval = ρ at *
                go_simp
              · exact (if_pos rfl)
            · intro a W own hfor huse hap hmi hF K hK
              have e45 : a.eval (.tmp 45) = .pointer (some ⟨b, off, none⟩) := huse 1 (by kernel_rfl)
              have c0 := foot_cell hF (fun h => h) C0.out
              refine op_val (.string x0) W rfl ?_ (hK _ _ (post_pure ?_))
              · clear hfor huse hap hmi hK hF
                generalize a.eval = ρ at *
                go_simp
              · exact (if_pos rfl)
            · intro a W own hfor huse hap hmi hF K hK
              have e4 : a.eval (.tmp 4) = .slice (some ⟨b, off, none⟩) 3 c := hfor 4 (by kernel_rfl)
              refine op_val (.slice (some ⟨b, off, none⟩) 3 c) W rfl ?_ (hK _ _ (post_pure ?_))
              · clear hfor huse hap hmi hK hF
                generalize a.eval = ρ at *
                go_simp
              · exact (if_pos rfl)
            · intro a W own hfor huse hap hmi hF K hK
              have e47 : a.eval (.tmp 47) = .slice (some ⟨b, off, none⟩) 3 c := huse 3 (by kernel_rfl)
              have ec0 : a.eval (.const (.int .i64 2)) = .int .i64 2 := rfl
              refine op_val (.pointer (some ⟨b, off + 2, none⟩)) W rfl ?_ (hK _ _ (post_pure ?_))
              · clear hfor huse hap hmi hK hF
                generalize a.eval = ρ at *
                go_simp
              · exact (if_pos rfl)
            · intro a W own hfor huse hap hmi hF K hK
              have e48 : a.eval (.tmp 48) = .pointer (some ⟨b, off + 2, none⟩) := huse 4 (by kernel_rfl)
              have c2 := foot_cell hF (fun h => h) C2.out
              refine op_val (.string x2) W rfl ?_ (hK _ _ (post_pure ?_))
              · clear hfor huse hap hmi hK hF
                generalize a.eval = ρ at *
                go_simp
              · exact (if_pos rfl)
            · intro a W own hfor huse hap hmi hF K hK
              have e46 : a.eval (.tmp 46) = .string x0 := huse 2 (by kernel_rfl)
              have e49 : a.eval (.tmp 49) = .string x2 := huse 5 (by kernel_rfl)
              refine op_val (.slice (some ⟨W.heap.size, 0, none⟩) 2 2) (W.alloc (.cells #[.string x0, .string x2] 9)) rfl ?_ (hK _ _ (post_new (belA (Below.refl _ _) _) ⟨W.heap.size, if_pos rfl, heap_alloc_new W _, Nat.le_refl _, by simp⟩))
              · clear hfor huse hap hmi hK hF
                generalize a.eval = ρ at *
                go_simp
            · intro a W own hfor huse hap hmi hF K hK
              obtain ⟨bb, h1, h2, h3⟩ := (huse 6 (by kernel_rfl) : onTab 50 #[.string x0, .string x2] 9 2 (slotsOf a) (own 6) W)
              have h1 : a.eval (.tmp 50) = .slice (some ⟨bb, 0, none⟩) 2 2 := h1
              refine op_val (.slice (some ⟨bb, 0, none⟩) 2 2) W rfl ?_ (hK _ _ ⟨own 6, Foot.refl _ _, ⟨bb, if_pos rfl, h2, h3⟩, fun k h => .inl ⟨6, by decide, h⟩⟩)
              · clear hfor huse hap hmi hK hF
                generalize a.eval = ρ at *
                go_simp
            intro a' W own hf
            have hsz := hf.st.size
            have hdf := hf.st.rest
            obtain ⟨⟨l⟩, df⟩ := a'
            have hl0 : l.length = 112 := hsz
            clear hsz
            obtain rfl : df = [] := hdf
            revert hf
            apply lay_all l hl0
            clear hl0 l
            intro x111 x110 x109 x108 x107 x106 x105 x104 x103 x102 x101 x100 x99 x98 x97 x96 x95 x94 x93 x92 x91 x90 x89 x88 x87 x86 x85 x84 x83 x82 x81 x80 x79 x78 x77 x76 x75 x74 x73 x72 x71 x70 x69 x68 x67 x66 x65 x64 x63 x62 x61 x60 x59 x58 x57 x56 x55 x54 x53 x52 x51 x50 x49 x48 x47 x46 x45 x44 x43 x42 x41 x40 x39 x38 x37 x36 x35 x34 x33 x32 x31 x30 x29 x28 x27 x26 x25 x24 x23 x22 x21 x20 x19 x18 x17 x16 x15 x14 x13 x12 x11 x10 x9 x8 x7 x6 x5 x4 x3 x2 x1 x0 hf
            have e0 := hf.st.kept 0 (by kernel_rfl)
            simp only [slotsOf, Act.eval, Array.getD_eq_getD_getElem?, List.getElem?_toArray, List.getElem?_cons_zero, Option.getD_some] at e0
            subst e0
            have e1 := hf.st.kept 1 (by kernel_rfl)
            simp only [slotsOf, Act.eval, Array.getD_eq_getD_getElem?, List.getElem?_toArray, List.getElem?_cons_succ, List.getElem?_cons_zero, Option.getD_some] at e1
            subst e1
            have e2 := hf.st.kept 2 (by kernel_rfl)
            simp only [slotsOf, Act.eval, Array.getD_eq_getD_getElem?, List.getElem?_toArray, List.getElem?_cons_succ, List.getElem?_cons_zero, Option.getD_some] at e2
            subst e2
            have e3 := hf.st.kept 3 (by kernel_rfl)
            simp only [slotsOf, Act.eval, Array.getD_eq_getD_getElem?, List.getElem?_toArray, List.getElem?_cons_succ, List.getElem?_cons_zero, Option.getD_some] at e3
            subst e3
            have e4 := hf.st.kept 4 (by kernel_rfl)
            simp only [slotsOf, Act.eval, Array.getD_eq_getD_getElem?, List.getElem?_toArray, List.getElem?_cons_succ, List.getElem?_cons_zero, Option.getD_some] at e4
            subst e4
            have e5 := hf.st.kept 5 (by kernel_rfl)
            simp only [slotsOf, Act.eval, Array.getD_eq_getD_getElem?, List.getElem?_toArray, List.getElem?_cons_succ, List.getElem?_cons_zero, Option.getD_some] at e5
            subst e5
            have e7 := hf.st.kept 7 (by kernel_rfl)
            simp only [slotsOf, Act.eval, Array.getD_eq_getD_getElem?, List.getElem?_toArray, List.getElem?_cons_succ, List.getElem?_cons_zero, Option.getD_some] at e7
            subst e7
            have e8 := hf.st.kept 8 (by kernel_rfl)
            simp only [slotsOf, Act.eval, Array.getD_eq_getD_getElem?, List.getElem?_toArray, List.getElem?_cons_succ, List.getElem?_cons_zero, Option.getD_some] at e8
            subst e8
            have e9 := hf.st.kept 9 (by kernel_rfl)
            simp only [slotsOf, Act.eval, Array.getD_eq_getD_getElem?, List.getElem?_toArray, List.getElem?_cons_succ, List.getElem?_cons_zero, Option.getD_some] at e9
            subst e9
            have e10 := hf.st.kept 10 (by kernel_rfl)
            simp only [slotsOf, Act.eval, Array.getD_eq_getD_getElem?, List.getElem?_toArray, List.getElem?_cons_succ, List.getElem?_cons_zero, Option.getD_some] at e10
            subst e10
            have e11 := hf.st.kept 11 (by kernel_rfl)
            simp only [slotsOf, Act.eval, Array.getD_eq_getD_getElem?, List.getElem?_toArray, List.getElem?_cons_succ, List.getElem?_cons_zero, Option.getD_some] at e11
            subst e11
            have e12 := hf.st.kept 12 (by kernel_rfl)
            simp only [slotsOf, Act.eval, Array.getD_eq_getD_getElem?, List.getElem?_toArray, List.getElem?_cons_succ, List.getElem?_cons_zero, Option.getD_some] at e12
            subst e12
            have e13 := hf.st.kept 13 (by kernel_rfl)
            simp only [slotsOf, Act.eval, Array.getD_eq_getD_getElem?, List.getElem?_toArray, List.getElem?_cons_succ, List.getElem?_cons_zero, Option.getD_some] at e13
            subst e13
            have e14 := hf.st.kept 14 (by kernel_rfl)
            simp only [slotsOf, Act.eval, Array.getD_eq_getD_getElem?, List.getElem?_toArray, List.getElem?_cons_succ, List.getElem?_cons_zero, Option.getD_some] at e14
            subst e14
            have e15 := hf.st.kept 15 (by kernel_rfl)
            simp only [slotsOf, Act.eval, Array.getD_eq_getD_getElem?, List.getElem?_toArray, List.getElem?_cons_succ, List.getElem?_cons_zero, Option.getD_some] at e15
            subst e15
            have e16 := hf.st.kept 16 (by kernel_rfl)
            simp only [slotsOf, Act.eval, Array.getD_eq_getD_getElem?, List.getElem?_toArray, List.getElem?_cons_succ, List.getElem?_cons_zero, Option.getD_some] at e16
            subst e16
            have e17 := hf.st.kept 17 (by kernel_rfl)
            simp only [slotsOf, Act.eval, Array.getD_eq_getD_getElem?, List.getElem?_toArray, List.getElem?_cons_succ, List.getElem?_cons_zero, Option.getD_some] at e17
            subst e17
            have e18 := hf.st.kept 18 (by kernel_rfl)
            simp only [slotsOf, Act.eval, Array.getD_eq_getD_getElem?, List.getElem?_toArray, List.getElem?_cons_succ, List.getElem?_cons_zero, Option.getD_some] at e18
            subst e18
            have e19 := hf.st.kept 19 (by kernel_rfl)
            simp only [slotsOf, Act.eval, Array.getD_eq_getD_getElem?, List.getElem?_toArray, List.getElem?_cons_succ, List.getElem?_cons_zero, Option.getD_some] at e19
            subst e19
            have e20 := hf.st.kept 20 (by kernel_rfl)
            simp only [slotsOf, Act.eval, Array.getD_eq_getD_getElem?, List.getElem?_toArray, List.getElem?_cons_succ, List.getElem?_cons_zero, Option.getD_some] at e20
            subst e20
            have e21 := hf.st.kept 21 (by kernel_rfl)
            simp only [slotsOf, Act.eval, Array.getD_eq_getD_getElem?, List.getElem?_toArray, List.getElem?_cons_succ, List.getElem?_cons_zero, Option.getD_some] at e21
            subst e21
            have e22 := hf.st.kept 22 (by kernel_rfl)
            simp only [slotsOf, Act.eval, Array.getD_eq_getD_getElem?, List.getElem?_toArray, List.getElem?_cons_succ, List.getElem?_cons_zero, Option.getD_some] at e22
            subst e22
            have e23 := hf.st.kept 23 (by kernel_rfl)
            simp only [slotsOf, Act.eval, Array.getD_eq_getD_getElem?, List.getElem?_toArray, List.getElem?_cons_succ, List.getElem?_cons_zero, Option.getD_some] at e23
            subst e23
            have e24 := hf.st.kept 24 (by kernel_rfl)
            simp only [slotsOf, Act.eval, Array.getD_eq_getD_getElem?, List.getElem?_toArray, List.getElem?_cons_succ, List.getElem?_cons_zero, Option.getD_some] at e24
            subst e24
            have e25 := hf.st.kept 25 (by kernel_rfl)
            simp only [slotsOf, Act.eval, Array.getD_eq_getD_getElem?, List.getElem?_toArray, List.getElem?_cons_succ, List.getElem?_cons_zero, Option.getD_some] at e25
            subst e25
            have e26 := hf.st.kept 26 (by kernel_rfl)
            simp only [slotsOf, Act.eval, Array.getD_eq_getD_getElem?, List.getElem?_toArray, List.getElem?_cons_succ, List.getElem?_cons_zero, Option.getD_some] at e26
            subst e26
            have e27 := hf.st.kept 27 (by kernel_rfl)
            simp only [slotsOf, Act.eval, Array.getD_eq_getD_getElem?, List.getElem?_toArray, List.getElem?_cons_succ, List.getElem?_cons_zero, Option.getD_some] at e27
            subst e27
            have e28 := hf.st.kept 28 (by kernel_rfl)
            simp only [slotsOf, Act.eval, Array.getD_eq_getD_getElem?, List.getElem?_toArray, List.getElem?_cons_succ, List.getElem?_cons_zero, Option.getD_some] at e28
            subst e28
            have e29 := hf.st.kept 29 (by kernel_rfl)
            simp only [slotsOf, Act.eval, Array.getD_eq_getD_getElem?, List.getElem?_toArray, List.getElem?_cons_succ, List.getElem?_cons_zero, Option.getD_some] at e29
            subst e29
            have e30 := hf.st.kept 30 (by kernel_rfl)
            simp only [slotsOf, Act.eval, Array.getD_eq_getD_getElem?, List.getElem?_toArray, List.getElem?_cons_succ, List.getElem?_cons_zero, Option.getD_some] at e30
            subst e30
            have e31 := hf.st.kept 31 (by kernel_rfl)
            simp only [slotsOf, Act.eval, Array.getD_eq_getD_getElem?, List.getElem?_toArray, List.getElem?_cons_succ, List.getElem?_cons_zero, Option.getD_some] at e31
            subst e31
            have e32 := hf.st.kept 32 (by kernel_rfl)
            simp only [slotsOf, Act.eval, Array.getD_eq_getD_getElem?, List.getElem?_toArray, List.getElem?_cons_succ, List.getElem?_cons_zero, Option.getD_some] at e32
            subst e32
            have e33 := hf.st.kept 33 (by kernel_rfl)
            simp only [slotsOf, Act.eval, Array.getD_eq_getD_getElem?, List.getElem?_toArray, List.getElem?_cons_succ, List.getElem?_cons_zero, Option.getD_some] at e33
            subst e33
            have e34 := hf.st.kept 34 (by kernel_rfl)
            simp only [slotsOf, Act.eval, Array.getD_eq_getD_getElem?, List.getElem?_toArray, List.getElem?_cons_succ, List.getElem?_cons_zero, Option.getD_some] at e34
            subst e34
            have e35 := hf.st.kept 35 (by kernel_rfl)
            simp only [slotsOf, Act.eval, Array.getD_eq_getD_getElem?, List.getElem?_toArray, List.getElem?_cons_succ, List.getElem?_cons_zero, Option.getD_some] at e35
            subst e35
            have e36 := hf.st.kept 36 (by kernel_rfl)
            simp only [slotsOf, Act.eval, Array.getD_eq_getD_getElem?, List.getElem?_toArray, List.getElem?_cons_succ, List.getElem?_cons_zero, Option.getD_some] at e36
            subst e36
            have e37 := hf.st.kept 37 (by kernel_rfl)
            simp only [slotsOf, Act.eval, Array.getD_eq_getD_getElem?, List.getElem?_toArray, List.getElem?_cons_succ, List.getElem?_cons_zero, Option.getD_some] at e37
            subst e37
            have e38 := hf.st.kept 38 (by kernel_rfl)
            simp only [slotsOf, Act.eval, Array.getD_eq_getD_getElem?, List.getElem?_toArray, List.getElem?_cons_succ, List.getElem?_cons_zero, Option.getD_some] at e38
            subst e38
            have e39 := hf.st.kept 39 (by kernel_rfl)
            simp only [slotsOf, Act.eval, Array.getD_eq_getD_getElem?, List.getElem?_toArray, List.getElem?_cons_succ, List.getElem?_cons_zero, Option.getD_some] at e39
            subst e39
            have e40 := hf.st.kept 40 (by kernel_rfl)
            simp only [slotsOf, Act.eval, Array.getD_eq_getD_getElem?, List.getElem?_toArray, List.getElem?_cons_succ, List.getElem?_cons_zero, Option.getD_some] at e40
            subst e40
            have e41 := hf.st.kept 41 (by kernel_rfl)
            simp only [slotsOf, Act.eval, Array.getD_eq_getD_getElem?, List.getElem?_toArray, List.getElem?_cons_succ, List.getElem?_cons_zero, Option.getD_some] at e41
            subst e41
            have e42 := hf.st.kept 42 (by kernel_rfl)
            simp only [slotsOf, Act.eval, Array.getD_eq_getD_getElem?, List.getElem?_toArray, List.getElem?_cons_succ, List.getElem?_cons_zero, Option.getD_some] at e42
            subst e42
            have e43 := hf.st.kept 43 (by kernel_rfl)
            simp only [slotsOf, Act.eval, Array.getD_eq_getD_getElem?, List.getElem?_toArray, List.getElem?_cons_succ, List.getElem?_cons_zero, Option.getD_some] at e43
            subst e43
            have e51 := hf.st.kept 51 (by kernel_rfl)
            simp only [slotsOf, Act.eval, Array.getD_eq_getD_getElem?, List.getElem?_toArray, List.getElem?_cons_succ, List.getElem?_cons_zero, Option.getD_some] at e51
            subst e51
            have e52 := hf.st.kept 52 (by kernel_rfl)
            simp only [slotsOf, Act.eval, Array.getD_eq_getD_getElem?, List.getElem?_toArray, List.getElem?_cons_succ, List.getElem?_cons_zero, Option.getD_some] at e52
            subst e52
            have e53 := hf.st.kept 53 (by kernel_rfl)
            simp only [slotsOf, Act.eval, Array.getD_eq_getD_getElem?, List.getElem?_toArray, List.getElem?_cons_succ, List.getElem?_cons_zero, Option.getD_some] at e53
            subst e53
            have e54 := hf.st.kept 54 (by kernel_rfl)
            simp only [slotsOf, Act.eval, Array.getD_eq_getD_getElem?, List.getElem?_toArray, List.getElem?_cons_succ, List.getElem?_cons_zero, Option.getD_some] at e54
            subst e54
            have e55 := hf.st.kept 55 (by kernel_rfl)
            simp only [slotsOf, Act.eval, Array.getD_eq_getD_getElem?, List.getElem?_toArray, List.getElem?_cons_succ, List.getElem?_cons_zero, Option.getD_some] at e55
            subst e55
            have e56 := hf.st.kept 56 (by kernel_rfl)
            simp only [slotsOf, Act.eval, Array.getD_eq_getD_getElem?, List.getElem?_toArray, List.getElem?_cons_succ, List.getElem?_cons_zero, Option.getD_some] at e56
            subst e56
            have e57 := hf.st.kept 57 (by kernel_rfl)
            simp only [slotsOf, Act.eval, Array.getD_eq_getD_getElem?, List.getElem?_toArray, List.getElem?_cons_succ, List.getElem?_cons_zero, Option.getD_some] at e57
            subst e57
            have e58 := hf.st.kept 58 (by kernel_rfl)
            simp only [slotsOf, Act.eval, Array.getD_eq_getD_getElem?, List.getElem?_toArray, List.getElem?_cons_succ, List.getElem?_cons_zero, Option.getD_some] at e58
            subst e58
            have e59 := hf.st.kept 59 (by kernel_rfl)
            simp only [slotsOf, Act.eval, Array.getD_eq_getD_getElem?, List.getElem?_toArray, List.getElem?_cons_succ, List.getElem?_cons_zero, Option.getD_some] at e59
            subst e59
            have e60 := hf.st.kept 60 (by kernel_rfl)
            simp only [slotsOf, Act.eval, Array.getD_eq_getD_getElem?, List.getElem?_toArray, List.getElem?_cons_succ, List.getElem?_cons_zero, Option.getD_some] at e60
            subst e60
            have e61 := hf.st.kept 61 (by kernel_rfl)
            simp only [slotsOf, Act.eval, Array.getD_eq_getD_getElem?, List.getElem?_toArray, List.getElem?_cons_succ, List.getElem?_cons_zero, Option.getD_some] at e61
            subst e61
            have e62 := hf.st.kept 62 (by kernel_rfl)
            simp only [slotsOf, Act.eval, Array.getD_eq_getD_getElem?, List.getElem?_toArray, List.getElem?_cons_succ, List.getElem?_cons_zero, Option.getD_some] at e62
            subst e62
            have e63 := hf.st.kept 63 (by kernel_rfl)
            simp only [slotsOf, Act.eval, Array.getD_eq_getD_getElem?, List.getElem?_toArray, List.getElem?_cons_succ, List.getElem?_cons_zero, Option.getD_some] at e63
            subst e63
            have e64 := hf.st.kept 64 (by kernel_rfl)
            simp only [slotsOf, Act.eval, Array.getD_eq_getD_getElem?, List.getElem?_toArray, List.getElem?_cons_succ, List.getElem?_cons_zero, Option.getD_some] at e64
            subst e64
            have e65 := hf.st.kept 65 (by kernel_rfl)
            simp only [slotsOf, Act.eval, Array.getD_eq_getD_getElem?, List.getElem?_toArray, List.getElem?_cons_succ, List.getElem?_cons_zero, Option.getD_some] at e65
            subst e65
            have e66 := hf.st.kept 66 (by kernel_rfl)
            simp only [slotsOf, Act.eval, Array.getD_eq_getD_getElem?, List.getElem?_toArray, List.getElem?_cons_succ, List.getElem?_cons_zero, Option.getD_some] at e66
            subst e66
            have e67 := hf.st.kept 67 (by kernel_rfl)
            simp only [slotsOf, Act.eval, Array.getD_eq_getD_getElem?, List.getElem?_toArray, List.getElem?_cons_succ, List.getElem?_cons_zero, Option.getD_some] at e67
            subst e67
            have e68 := hf.st.kept 68 (by kernel_rfl)
            simp only [slotsOf, Act.eval, Array.getD_eq_getD_getElem?, List.getElem?_toArray, List.getElem?_cons_succ, List.getElem?_cons_zero, Option.getD_some] at e68
            subst e68
            have e69 := hf.st.kept 69 (by kernel_rfl)
            simp only [slotsOf, Act.eval, Array.getD_eq_getD_getElem?, List.getElem?_toArray, List.getElem?_cons_succ, List.getElem?_cons_zero, Option.getD_some] at e69
            subst e69
            have e70 := hf.st.kept 70 (by kernel_rfl)
            simp only [slotsOf, Act.eval, Array.getD_eq_getD_getElem?, List.getElem?_toArray, List.getElem?_cons_succ, List.getElem?_cons_zero, Option.getD_some] at e70
            subst e70
            have e71 := hf.st.kept 71 (by kernel_rfl)
            simp only [slotsOf, Act.eval, Array.getD_eq_getD_getElem?, List.getElem?_toArray, List.getElem?_cons_succ, List.getElem?_cons_zero, Option.getD_some] at e71
            subst e71
            have e72 := hf.st.kept 72 (by kernel_rfl)
            simp only [slotsOf, Act.eval, Array.getD_eq_getD_getElem?, List.getElem?_toArray, List.getElem?_cons_succ, List.getElem?_cons_zero, Option.getD_some] at e72
            subst e72
            have e73 := hf.st.kept 73 (by kernel_rfl)
            simp only [slotsOf, Act.eval, Array.getD_eq_getD_getElem?, List.getElem?_toArray, List.getElem?_cons_succ, List.getElem?_cons_zero, Option.getD_some] at e73
            subst e73
            have e74 := hf.st.kept 74 (by kernel_rfl)
            simp only [slotsOf, Act.eval, Array.getD_eq_getD_getElem?, List.getElem?_toArray, List.getElem?_cons_succ, List.getElem?_cons_zero, Option.getD_some] at e74
            subst e74
            have e75 := hf.st.kept 75 (by kernel_rfl)
            simp only [slotsOf, Act.eval, Array.getD_eq_getD_getElem?, List.getElem?_toArray, List.getElem?_cons_succ, List.getElem?_cons_zero, Option.getD_some] at e75
            subst e75
            have e76 := hf.st.kept 76 (by kernel_rfl)
            simp only [slotsOf, Act.eval, Array.getD_eq_getD_getElem?, List.getElem?_toArray, List.getElem?_cons_succ, List.getElem?_cons_zero, Option.getD_some] at e76
            subst e76
            have e77 := hf.st.kept 77 (by kernel_rfl)
            simp only [slotsOf, Act.eval, Array.getD_eq_getD_getElem?, List.getElem?_toArray, List.getElem?_cons_succ, List.getElem?_cons_zero, Option.getD_some] at e77
            subst e77
            have e78 := hf.st.kept 78 (by kernel_rfl)
            simp only [slotsOf, Act.eval, Array.getD_eq_getD_getElem?, List.getElem?_toArray, List.getElem?_cons_succ, List.getElem?_cons_zero, Option.getD_some] at e78
            subst e78
            have e79 := hf.st.kept 79 (by kernel_rfl)
            simp only [slotsOf, Act.eval, Array.getD_eq_getD_getElem?, List.getElem?_toArray, List.getElem?_cons_succ, List.getElem?_cons_zero, Option.getD_some] at e79
            subst e79
            have e80 := hf.st.kept 80 (by kernel_rfl)
            simp only [slotsOf, Act.eval, Array.getD_eq_getD_getElem?, List.getElem?_toArray, List.getElem?_cons_succ, List.getElem?_cons_zero, Option.getD_some] at e80
            subst e80
            have e81 := hf.st.kept 81 (by kernel_rfl)
            simp only [slotsOf, Act.eval, Array.getD_eq_getD_getElem?, List.getElem?_toArray, List.getElem?_cons_succ, List.getElem?_cons_zero, Option.getD_some] at e81
            subst e81
            have e82 := hf.st.kept 82 (by kernel_rfl)
            simp only [slotsOf, Act.eval, Array.getD_eq_getD_getElem?, List.getElem?_toArray, List.getElem?_cons_succ, List.getElem?_cons_zero, Option.getD_some] at e82
            subst e82
            have e83 := hf.st.kept 83 (by kernel_rfl)
            simp only [slotsOf, Act.eval, Array.getD_eq_getD_getElem?, List.getElem?_toArray, List.getElem?_cons_succ, List.getElem?_cons_zero, Option.getD_some] at e83
            subst e83
            have e84 := hf.st.kept 84 (by kernel_rfl)
            simp only [slotsOf, Act.eval, Array.getD_eq_getD_getElem?, List.getElem?_toArray, List.getElem?_cons_succ, List.getElem?_cons_zero, Option.getD_some] at e84
            subst e84
            have e85 := hf.st.kept 85 (by kernel_rfl)
            simp only [slotsOf, Act.eval, Array.getD_eq_getD_getElem?, List.getElem?_toArray, List.getElem?_cons_succ, List.getElem?_cons_zero, Option.getD_some] at e85
            subst e85
            have e86 := hf.st.kept 86 (by kernel_rfl)
            simp only [slotsOf, Act.eval, Array.getD_eq_getD_getElem?, List.getElem?_toArray, List.getElem?_cons_succ, List.getElem?_cons_zero, Option.getD_some] at e86
            subst e86
            have e87 := hf.st.kept 87 (by kernel_rfl)
            simp only [slotsOf, Act.eval, Array.getD_eq_getD_getElem?, List.getElem?_toArray, List.getElem?_cons_succ, List.getElem?_cons_zero, Option.getD_some] at e87
            subst e87
            have e88 := hf.st.kept 88 (by kernel_rfl)
            simp only [slotsOf, Act.eval, Array.getD_eq_getD_getElem?, List.getElem?_toArray, List.getElem?_cons_succ, List.getElem?_cons_zero, Option.getD_some] at e88
            subst e88
            have e89 := hf.st.kept 89 (by kernel_rfl)
            simp only [slotsOf, Act.eval, Array.getD_eq_getD_getElem?, List.getElem?_toArray, List.getElem?_cons_succ, List.getElem?_cons_zero, Option.getD_some] at e89
            subst e89
            have e90 := hf.st.kept 90 (by kernel_rfl)
            simp only [slotsOf, Act.eval, Array.getD_eq_getD_getElem?, List.getElem?_toArray, List.getElem?_cons_succ, List.getElem?_cons_zero, Option.getD_some] at e90
            subst e90
            have e91 := hf.st.kept 91 (by kernel_rfl)
            simp only [slotsOf, Act.eval, Array.getD_eq_getD_getElem?, List.getElem?_toArray, List.getElem?_cons_succ, List.getElem?_cons_zero, Option.getD_some] at e91
            subst e91
            have e92 := hf.st.kept 92 (by kernel_rfl)
            simp only [slotsOf, Act.eval, Array.getD_eq_getD_getElem?, List.getElem?_toArray, List.getElem?_cons_succ, List.getElem?_cons_zero, Option.getD_some] at e92
            subst e92
            have e93 := hf.st.kept 93 (by kernel_rfl)
            simp only [slotsOf, Act.eval, Array.getD_eq_getD_getElem?, List.getElem?_toArray, List.getElem?_cons_succ, List.getElem?_cons_zero, Option.getD_some] at e93
            subst e93
            have e94 := hf.st.kept 94 (by kernel_rfl)
            simp only [slotsOf, Act.eval, Array.getD_eq_getD_getElem?, List.getElem?_toArray, List.getElem?_cons_succ, List.getElem?_cons_zero, Option.getD_some] at e94
            subst e94
            have e95 := hf.st.kept 95 (by kernel_rfl)
            simp only [slotsOf, Act.eval, Array.getD_eq_getD_getElem?, List.getElem?_toArray, List.getElem?_cons_succ, List.getElem?_cons_zero, Option.getD_some] at e95
            subst e95
            have e96 := hf.st.kept 96 (by kernel_rfl)
            simp only [slotsOf, Act.eval, Array.getD_eq_getD_getElem?, List.getElem?_toArray, List.getElem?_cons_succ, List.getElem?_cons_zero, Option.getD_some] at e96
            subst e96
            have e97 := hf.st.kept 97 (by kernel_rfl)
            simp only [slotsOf, Act.eval, Array.getD_eq_getD_getElem?, List.getElem?_toArray, List.getElem?_cons_succ, List.getElem?_cons_zero, Option.getD_some] at e97
            subst e97
            have e98 := hf.st.kept 98 (by kernel_rfl)
            simp only [slotsOf, Act.eval, Array.getD_eq_getD_getElem?, List.getElem?_toArray, List.getElem?_cons_succ, List.getElem?_cons_zero, Option.getD_some] at e98
            subst e98
            have e99 := hf.st.kept 99 (by kernel_rfl)
            simp only [slotsOf, Act.eval, Array.getD_eq_getD_getElem?, List.getElem?_toArray, List.getElem?_cons_succ, List.getElem?_cons_zero, Option.getD_some] at e99
            subst e99
            have e100 := hf.st.kept 100 (by kernel_rfl)
            simp only [slotsOf, Act.eval, Array.getD_eq_getD_getElem?, List.getElem?_toArray, List.getElem?_cons_succ, List.getElem?_cons_zero, Option.getD_some] at e100
            subst e100
            have e101 := hf.st.kept 101 (by kernel_rfl)
            simp only [slotsOf, Act.eval, Array.getD_eq_getD_getElem?, List.getElem?_toArray, List.getElem?_cons_succ, List.getElem?_cons_zero, Option.getD_some] at e101
            subst e101
            have e102 := hf.st.kept 102 (by kernel_rfl)
            simp only [slotsOf, Act.eval, Array.getD_eq_getD_getElem?, List.getElem?_toArray, List.getElem?_cons_succ, List.getElem?_cons_zero, Option.getD_some] at e102
            subst e102
            have e103 := hf.st.kept 103 (by kernel_rfl)
            simp only [slotsOf, Act.eval, Array.getD_eq_getD_getElem?, List.getElem?_toArray, List.getElem?_cons_succ, List.getElem?_cons_zero, Option.getD_some] at e103
            subst e103
            have e104 := hf.st.kept 104 (by kernel_rfl)
            simp only [slotsOf, Act.eval, Array.getD_eq_getD_getElem?, List.getElem?_toArray, List.getElem?_cons_succ, List.getElem?_cons_zero, Option.getD_some] at e104
            subst e104
            have e105 := hf.st.kept 105 (by kernel_rfl)
            simp only [slotsOf, Act.eval, Array.getD_eq_getD_getElem?, List.getElem?_toArray, List.getElem?_cons_succ, List.getElem?_cons_zero, Option.getD_some] at e105
            subst e105
            have e106 := hf.st.kept 106 (by kernel_rfl)
            simp only [slotsOf, Act.eval, Array.getD_eq_getD_getElem?, List.getElem?_toArray, List.getElem?_cons_succ, List.getElem?_cons_zero, Option.getD_some] at e106
            subst e106
            have e107 := hf.st.kept 107 (by kernel_rfl)
            simp only [slotsOf, Act.eval, Array.getD_eq_getD_getElem?, List.getElem?_toArray, List.getElem?_cons_succ, List.getElem?_cons_zero, Option.getD_some] at e107
            subst e107
            have e108 := hf.st.kept 108 (by kernel_rfl)
            simp only [slotsOf, Act.eval, Array.getD_eq_getD_getElem?, List.getElem?_toArray, List.getElem?_cons_succ, List.getElem?_cons_zero, Option.getD_some] at e108
            subst e108
            have e109 := hf.st.kept 109 (by kernel_rfl)
            simp only [slotsOf, Act.eval, Array.getD_eq_getD_getElem?, List.getElem?_toArray, List.getElem?_cons_succ, List.getElem?_cons_zero, Option.getD_some] at e109
            subst e109
            have e110 := hf.st.kept 110 (by kernel_rfl)
            simp only [slotsOf, Act.eval, Array.getD_eq_getD_getElem?, List.getElem?_toArray, List.getElem?_cons_succ, List.getElem?_cons_zero, Option.getD_some] at e110
            subst e110
            have e111 := hf.st.kept 111 (by kernel_rfl)
            simp only [slotsOf, Act.eval, Array.getD_eq_getD_getElem?, List.getElem?_toArray, List.getElem?_cons_succ, List.getElem?_cons_zero, Option.getD_some] at e111
            subst e111
            obtain ⟨bb, h1, h2, h3⟩ := hf.at 7 (onTab 6 #[.string x0, .string x2] 9 2) rfl (by kernel_rfl)
            have h1 : x6 = .slice (some ⟨bb, 0, none⟩) 2 2 := h1
            subst h1
            have GR := Sec.mk (GRd.lit (n := 2) (w := w) (bx := bx) (l := [x0, x2]) h2 HG.out (hf.st.foot) (by simp) (by simp) (by simp; exact ⟨hs0.out, hs2.out⟩))
            clear hf h2 h3
            go_wp2
            go_meet
            case rel => exact ⟨_, [x0, x2], GR⟩
          · have hx1' : (x1.toList == [60]) = false := beq_eq_false_iff_ne.2 hx1
            go_wp2_with (with_reducible show wpList _ _ _ (⟨none, .store 100 (.tmp 2) (.tmp 80), _, _, _, _⟩ :: _) _ _; refine wpList_store (cs := [.int .i64 0, .slice none 0 0, .slice none 0 0, .slice none 0 0]) (old := #[.int .i64 0, .slice none 0 0, .slice none 0 0, .slice none 0 0]) rfl 100 (.tmp 2) (.tmp 80) rfl rfl rfl G1.out.res (by kernel_rfl) rfl (kGoal.K_one (kGoal.O_K (kGoal_zero w))) ?_; intro w8 hb8 hF8; have B8 := Sec.mk hb8; have F8 := Sec.mk hF8; clear hb8 hF8)
            exact bodyPost_ret (results_cell2 rfl rfl rfl B8.out hu2 rfl (by kernel_rfl)) rfl ⟨zeroGoal, _, false, rfl, Kd.O_mono (kGoal_zero _) (fun k h _ => h.elim), F8.out.below G1.out.bel (fun k h => Nat.le_of_eq (show k = w.heap.size from h).symm)⟩
        · have t3 : ((ws.length : Int) == 3) = false := beq_eq_false_iff_ne.2 (by omega)
          by_cases h5 : ws.length = 5
          · clear t3
            have t3 : ((5 : Int) == 3) = false := rfl
            have t5 : ((5 : Int) == 5) = true := rfl
            have t1 : ((5 : Int) != 1) = true := rfl
            clear hlen
            have hlen := h5
            clear h5
            obtain ⟨x0, x1, x2, x3, x4, rfl⟩ : ∃ x0 x1 x2 x3 x4, ws = [x0, x1, x2, x3, x4] := by
              match ws, hlen with
              | [x0, x1, x2, x3, x4], _ => exact ⟨x0, x1, x2, x3, x4, rfl⟩
            obtain ⟨b, off, rfl, hok, hcs⟩ := strs_at CC.out (by show 0 < 5; omega)
            have c0 := (hcs 0 (by simp)).1
            have c1 := (hcs 1 (by simp)).1
            have c2 := (hcs 2 (by simp)).1
            have c3 := (hcs 3 (by simp)).1
            have c4 := (hcs 4 (by simp)).1
            have hs0 := Sec.mk (Nat.le_trans (S1.out x0 (by simp)) hs)
            have hs1 := Sec.mk (Nat.le_trans (S1.out x1 (by simp)) hs)
            have hs2 := Sec.mk (Nat.le_trans (S1.out x2 (by simp)) hs)
            have hs3 := Sec.mk (Nat.le_trans (S1.out x3 (by simp)) hs)
            have hs4 := Sec.mk (Nat.le_trans (S1.out x4 (by simp)) hs)
            simp only [List.getElem_cons_zero, List.getElem_cons_succ, Nat.add_zero] at c0 c1 c2 c3 c4
            have HNB : Sec (¬ b = bx) := ⟨fun e => NB.out b hok e⟩
            clear hcs hok hlen
            by_cases hx1 : x1.toList = [43]
            · by_cases hx3 : x3.toList = [61]
              · skip
                have q0 := (box_at G1.out.box).2.1 0 _ rfl
                have f0 := (box_at G1.out.box).2.2 0
                have hF1 := Foot.set (S := fun k => k = bx) (Foot.refl _ wx) (g := bx) (.inl rfl) 0 (.int .i64 5)
                have HG := Sec.mk (show GR0 w bx 5 (wx.setCell ⟨bx, 0, none⟩ (.int .i64 5)) from ⟨box_store 0 _ G1.out.box, (hF1.block _ (Array.getElem?_eq_some_iff.1 G1.out.res).1 (fun e => by have := BXG.out; omega)).trans G1.out.res, hF1.below G1.out.bel (fun k h => by have := BXG.out; have h : k = bx := h; omega)⟩)
                have C0 := Sec.mk (fcell hF1 (fun e => HNB.out e) c0)
                have C2 := Sec.mk (fcell hF1 (fun e => HNB.out e) c2)
                have C4 := Sec.mk (fcell hF1 (fun e => HNB.out e) c4)
                clear c0 c2 c4 hF1
                go_upto_region 14 with (fail)
                generalize (wx.setCell ⟨bx, 0, none⟩ (.int .i64 5)) = wr at *
                refine wp_region_lists [[67], [68], [69], [70], [71], [72], [73], [74], [75], [76], [6]]
                  [fun val _ _ => val 67 = .slice (some ⟨b, off, none⟩) 5 c,
                    fun val _ _ => val 68 = .pointer (some ⟨b, off, none⟩),
                    fun val _ _ => val 69 = .string x0,
                    fun val _ _ => val 70 = .slice (some ⟨b, off, none⟩) 5 c,
                    fun val _ _ => val 71 = .pointer (some ⟨b, off + 2, none⟩),
                    fun val _ _ => val 72 = .string x2,
                    fun val _ _ => val 73 = .slice (some ⟨b, off, none⟩) 5 c,
                    fun val _ _ => val 74 = .pointer (some ⟨b, off + 4, none⟩),
                    fun val _ _ => val 75 = .string x4,
                    onTab 76 #[.string x0, .string x2, .string x4] 9 3,
                    onTab 6 #[.string x0, .string x2, .string x4] 9 3]
                  [[], [], [], [], [], [], [], [], [], [], [9]] 0 (fun _ => False) (fun _ _ => False) (by kernel_rfl) ⟨by kernel_rfl, by kernel_rfl, by kernel_rfl, by kernel_rfl, by kernel_rfl⟩
                  (.cons (stab_val 67 (fun v => v = .slice (some ⟨b, off, none⟩) 5 c)) (.cons (stab_val 68 (fun v => v = .pointer (some ⟨b, off, none⟩))) (.cons (stab_val 69 (fun v => v = .string x0)) (.cons (stab_val 70 (fun v => v = .slice (some ⟨b, off, none⟩) 5 c)) (.cons (stab_val 71 (fun v => v = .pointer (some ⟨b, off + 2, none⟩))) (.cons (stab_val 72 (fun v => v = .string x2)) (.cons (stab_val 73 (fun v => v = .slice (some ⟨b, off, none⟩) 5 c)) (.cons (stab_val 74 (fun v => v = .pointer (some ⟨b, off + 4, none⟩))) (.cons (stab_val 75 (fun v => v = .string x4)) (.cons (stab_tab 76 #[.string x0, .string x2, .string x4] 9 3) (.cons (stab_tab 6 #[.string x0, .string x2, .string x4] 9 3) .nil)))))))))))
                  (fun i j k h1 h2 => h1.elim) (fun i k h => h.elim) (fun i h1 h2 => by simp at h1 h2; omega) (.cons ?_ (.cons ?_ (.cons ?_ (.cons ?_ (.cons ?_ (.cons ?_ (.cons ?_ (.cons ?_ (.cons ?_ (.cons ?_ (.cons ?_ .nil))))))))))) ?_
                · intro a W own hfor huse hap hmi hF K hK
                  have e4 : a.eval (.tmp 4) = .slice (some ⟨b, off, none⟩) 5 c := hfor 4 (by kernel_rfl)
                  refine op_val (.slice (some ⟨b, off, none⟩) 5 c) W rfl ?_ (hK _ _ (post_pure ?_))
                  · clear hfor huse hap hmi hK hF
                    generalize a.eval = ρ at *
                    go_simp
                  · exact (if_pos rfl)
                · intro a W own hfor huse hap hmi hF K hK
                  have e67 : a.eval (.tmp 67) = .slice (some ⟨b, off, none⟩) 5 c := huse 0 (by kernel_rfl)
                  have ec0 : a.eval (.const (.int .i64 0)) = .int .i64 0 := rfl
                  refine op_val (.pointer (some ⟨b, off, none⟩)) W rfl ?_ (hK _ _ (post_pure ?_))
                  · clear hfor huse hap hmi hK hF
                    generalize a.eval = ρ at *
                    go_simp
                  · exact (if_pos rfl)
                · intro a W own hfor huse hap hmi hF K hK
                  have e68 : a.eval (.tmp 68) = .pointer (some ⟨b, off, none⟩) := huse 1 (by kernel_rfl)
                  have c0 := foot_cell hF (fun h => h) C0.out
                  refine op_val (.string x0) W rfl ?_ (hK _ _ (post_pure ?_))
                  · clear hfor huse hap hmi hK hF
                    generalize a.eval = ρ at *
                    go_simp
                  · exact (if_pos rfl)
                · intro a W own hfor huse hap hmi hF K hK
                  have e4 : a.eval (.tmp 4) = .slice (some ⟨b, off, none⟩) 5 c := hfor 4 (by kernel_rfl)
                  refine op_val (.slice (some ⟨b, off, none⟩) 5 c) W rfl ?_ (hK _ _ (post_pure ?_))
                  · clear hfor huse hap hmi hK hF
                    generalize a.eval = ρ at *
                    go_simp
                  · exact (if_pos rfl)
                · intro a W own hfor huse hap hmi hF K hK
                  have e70 : a.eval (.tmp 70) = .slice (some ⟨b, off, none⟩) 5 c := huse 3 (by kernel_rfl)
                  have ec0 : a.eval (.const (.int .i64 2)) = .int .i64 2 := rfl
                  refine op_val (.pointer (some ⟨b, off + 2, none⟩)) W rfl ?_ (hK _ _ (post_pure ?_))
                  · clear hfor huse hap hmi hK hF
                    generalize a.eval = ρ at *
                    go_simp
                  · exact (if_pos rfl)
                · intro a W own hfor huse hap hmi hF K hK
                  have e71 : a.eval (.tmp 71) = .pointer (some ⟨b, off + 2, none⟩) := huse 4 (by kernel_rfl)
                  have c2 := foot_cell hF (fun h => h) C2.out
                  refine op_val (.string x2) W rfl ?_ (hK _ _ (post_pure ?_))
                  · clear hfor huse hap hmi hK hF
                    generalize a.eval = ρ at *
                    go_simp
                  · exact (if_pos rfl)
                · intro a W own hfor huse hap hmi hF K hK
                  have e4 : a.eval (.tmp 4) = .slice (some ⟨b, off, none⟩) 5 c := hfor 4 (by kernel_rfl)
                  refine op_val (.slice (some ⟨b, off, none⟩) 5 c) W rfl ?_ (hK _ _ (post_pure ?_))
                  · clear hfor huse hap hmi hK hF
                    generalize a.eval = ρ at *
                    go_simp
                  · exact (if_pos rfl)
                · intro a W own hfor huse hap hmi hF K hK
                  have e73 : a.eval (.tmp 73) = .slice (some ⟨b, off, none⟩) 5 c := huse 6 (by kernel_rfl)
                  have ec0 : a.eval (.const (.int .i64 4)) = .int .i64 4 := rfl
                  refine op_val (.pointer (some ⟨b, off + 4, none⟩)) W rfl ?_ (hK _ _ (post_pure ?_))
                  · clear hfor huse hap hmi hK hF
                    generalize a.eval = ρ at *
                    go_simp
                  · exact (if_pos rfl)
                · intro a W own hfor huse hap hmi hF K hK
                  have e74 : a.eval (.tmp 74) = .pointer (some ⟨b, off + 4, none⟩) := huse 7 (by kernel_rfl)
                  have c4 := foot_cell hF (fun h => h) C4.out
                  refine op_val (.string x4) W rfl ?_ (hK _ _ (post_pure ?_))
                  · clear hfor huse hap hmi hK hF
                    generalize a.eval = ρ at *
                    go_simp
                  · exact (if_pos rfl)
                · intro a W own hfor huse hap hmi hF K hK
                  have e69 : a.eval (.tmp 69) = .string x0 := huse 2 (by kernel_rfl)
                  have e72 : a.eval (.tmp 72) = .string x2 := huse 5 (by kernel_rfl)
                  have e75 : a.eval (.tmp 75) = .string x4 := huse 8 (by kernel_rfl)
                  refine op_val (.slice (some ⟨W.heap.size, 0, none⟩) 3 3) (W.alloc (.cells #[.string x0, .string x2, .string x4] 9)) rfl ?_ (hK _ _ (post_new (belA (Below.refl _ _) _) ⟨W.heap.size, if_pos rfl, heap_alloc_new W _, Nat.le_refl _, by simp⟩))
                  · clear hfor huse hap hmi hK hF
                    generalize a.eval = ρ at *
                    go_simp
                · intro a W own hfor huse hap hmi hF K hK
                  obtain ⟨bb, h1, h2, h3⟩ := (huse 9 (by kernel_rfl) : onTab 76 #[.string x0, .string x2, .string x4] 9 3 (slotsOf a) (own 9) W)
                  have h1 : a.eval (.tmp 76) = .slice (some ⟨bb, 0, none⟩) 3 3 := h1
                  refine op_val (.slice (some ⟨bb, 0, none⟩) 3 3) W rfl ?_ (hK _ _ ⟨own 9, Foot.refl _ _, ⟨bb, if_pos rfl, h2, h3⟩, fun k h => .inl ⟨9, by decide, h⟩⟩)
                  · clear hfor huse hap hmi hK hF
                    generalize a.eval = ρ at *
                    go_simp
                intro a' W own hf
                have hsz := hf.st.size
                have hdf := hf.st.rest
                obtain ⟨⟨l⟩, df⟩ := a'
                have hl0 : l.length = 112 := hsz
                clear hsz
                obtain rfl : df = [] := hdf
                revert hf
                apply lay_all l hl0
                clear hl0 l
                intro x111 x110 x109 x108 x107 x106 x105 x104 x103 x102 x101 x100 x99 x98 x97 x96 x95 x94 x93 x92 x91 x90 x89 x88 x87 x86 x85 x84 x83 x82 x81 x80 x79 x78 x77 x76 x75 x74 x73 x72 x71 x70 x69 x68 x67 x66 x65 x64 x63 x62 x61 x60 x59 x58 x57 x56 x55 x54 x53 x52 x51 x50 x49 x48 x47 x46 x45 x44 x43 x42 x41 x40 x39 x38 x37 x36 x35 x34 x33 x32 x31 x30 x29 x28 x27 x26 x25 x24 x23 x22 x21 x20 x19 x18 x17 x16 x15 x14 x13 x12 x11 x10 x9 x8 x7 x6 x5 x4 x3 x2 x1 x0 hf
                have e0 := hf.st.kept 0 (by kernel_rfl)
                simp only [slotsOf, Act.eval, Array.getD_eq_getD_getElem?, List.getElem?_toArray, List.getElem?_cons_zero, Option.getD_some] at e0
                subst e0
                have e1 := hf.st.kept 1 (by kernel_rfl)
                simp only [slotsOf, Act.eval, Array.getD_eq_getD_getElem?, List.getElem?_toArray, List.getElem?_cons_succ, List.getElem?_cons_zero, Option.getD_some] at e1
                subst e1
                have e2 := hf.st.kept 2 (by kernel_rfl)
                simp only [slotsOf, Act.eval, Array.getD_eq_getD_getElem?, List.getElem?_toArray, List.getElem?_cons_succ, List.getElem?_cons_zero, Option.getD_some] at e2
                subst e2
                have e3 := hf.st.kept 3 (by kernel_rfl)
                simp only [slotsOf, Act.eval, Array.getD_eq_getD_getElem?, List.getElem?_toArray, List.getElem?_cons_succ, List.getElem?_cons_zero, Option.getD_some] at e3
                subst e3
                have e4 := hf.st.kept 4 (by kernel_rfl)
                simp only [slotsOf, Act.eval, Array.getD_eq_getD_getElem?, List.getElem?_toArray, List.getElem?_cons_succ, List.getElem?_cons_zero, Option.getD_some] at e4
                subst e4
                have e5 := hf.st.kept 5 (by kernel_rfl)
                simp only [slotsOf, Act.eval, Array.getD_eq_getD_getElem?, List.getElem?_toArray, List.getElem?_cons_succ, List.getElem?_cons_zero, Option.getD_some] at e5
                subst e5
                have e7 := hf.st.kept 7 (by kernel_rfl)
                simp only [slotsOf, Act.eval, Array.getD_eq_getD_getElem?, List.getElem?_toArray, List.getElem?_cons_succ, List.getElem?_cons_zero, Option.getD_some] at e7
                subst e7
                have e8 := hf.st.kept 8 (by kernel_rfl)
                simp only [slotsOf, Act.eval, Array.getD_eq_getD_getElem?, List.getElem?_toArray, List.getElem?_cons_succ, List.getElem?_cons_zero, Option.getD_some] at e8
                subst e8
                have e9 := hf.st.kept 9 (by kernel_rfl)
                simp only [slotsOf, Act.eval, Array.getD_eq_getD_getElem?, List.getElem?_toArray, List.getElem?_cons_succ, List.getElem?_cons_zero, Option.getD_some] at e9
                subst e9
                have e10 := hf.st.kept 10 (by kernel_rfl)
                simp only [slotsOf, Act.eval, Array.getD_eq_getD_getElem?, List.getElem?_toArray, List.getElem?_cons_succ, List.getElem?_cons_zero, Option.getD_some] at e10
                subst e10
                have e11 := hf.st.kept 11 (by kernel_rfl)
                simp only [slotsOf, Act.eval, Array.getD_eq_getD_getElem?, List.getElem?_toArray, List.getElem?_cons_succ, List.getElem?_cons_zero, Option.getD_some] at e11
                subst e11
                have e12 := hf.st.kept 12 (by kernel_rfl)
                simp only [slotsOf, Act.eval, Array.getD_eq_getD_getElem?, List.getElem?_toArray, List.getElem?_cons_succ, List.getElem?_cons_zero, Option.getD_some] at e12
                subst e12
                have e13 := hf.st.kept 13 (by kernel_rfl)
                simp only [slotsOf, Act.eval, Array.getD_eq_getD_getElem?, List.getElem?_toArray, List.getElem?_cons_succ, List.getElem?_cons_zero, Option.getD_some] at e13
                subst e13
                have e14 := hf.st.kept 14 (by kernel_rfl)
                simp only [slotsOf, Act.eval, Array.getD_eq_getD_getElem?, List.getElem?_toArray, List.getElem?_cons_succ, List.getElem?_cons_zero, Option.getD_some] at e14
                subst e14
                have e15 := hf.st.kept 15 (by kernel_rfl)
                simp only [slotsOf, Act.eval, Array.getD_eq_getD_getElem?, List.getElem?_toArray, List.getElem?_cons_succ, List.getElem?_cons_zero, Option.getD_some] at e15
                subst e15
                have e16 := hf.st.kept 16 (by kernel_rfl)
                simp only [slotsOf, Act.eval, Array.getD_eq_getD_getElem?, List.getElem?_toArray, List.getElem?_cons_succ, List.getElem?_cons_zero, Option.getD_some] at e16
                subst e16
                have e17 := hf.st.kept 17 (by kernel_rfl)
                simp only [slotsOf, Act.eval, Array.getD_eq_getD_getElem?, List.getElem?_toArray, List.getElem?_cons_succ, List.getElem?_cons_zero, Option.getD_some] at e17
                subst e17
                have e18 := hf.st.kept 18 (by kernel_rfl)
                simp only [slotsOf, Act.eval, Array.getD_eq_getD_getElem?, List.getElem?_toArray, List.getElem?_cons_succ, List.getElem?_cons_zero, Option.getD_some] at e18
                subst e18
                have e19 := hf.st.kept 19 (by kernel_rfl)
                simp only [slotsOf, Act.eval, Array.getD_eq_getD_getElem?, List.getElem?_toArray, List.getElem?_cons_succ, List.getElem?_cons_zero, Option.getD_some] at e19
                subst e19
                have e20 := hf.st.kept 20 (by kernel_rfl)
                simp only [slotsOf, Act.eval, Array.getD_eq_getD_getElem?, List.getElem?_toArray, List.getElem?_cons_succ, List.getElem?_cons_zero, Option.getD_some] at e20
                subst e20
                have e21 := hf.st.kept 21 (by kernel_rfl)
                simp only [slotsOf, Act.eval, Array.getD_eq_getD_getElem?, List.getElem?_toArray, List.getElem?_cons_succ, List.getElem?_cons_zero, Option.getD_some] at e21
                subst e21
                have e22 := hf.st.kept 22 (by kernel_rfl)
                simp only [slotsOf, Act.eval, Array.getD_eq_getD_getElem?, List.getElem?_toArray, List.getElem?_cons_succ, List.getElem?_cons_zero, Option.getD_some] at e22
                subst e22
                have e23 := hf.st.kept 23 (by kernel_rfl)
                simp only [slotsOf, Act.eval, Array.getD_eq_getD_getElem?, List.getElem?_toArray, List.getElem?_cons_succ, List.getElem?_cons_zero, Option.getD_some] at e23
                subst e23
                have e24 := hf.st.kept 24 (by kernel_rfl)
                simp only [slotsOf, Act.eval, Array.getD_eq_getD_getElem?, List.getElem?_toArray, List.getElem?_cons_succ, List.getElem?_cons_zero, Option.getD_some] at e24
                subst e24
                have e25 := hf.st.kept 25 (by kernel_rfl)
                simp only [slotsOf, Act.eval, Array.getD_eq_getD_getElem?, List.getElem?_toArray, List.getElem?_cons_succ, List.getElem?_cons_zero, Option.getD_some] at e25
                subst e25
                have e26 := hf.st.kept 26 (by kernel_rfl)
                simp only [slotsOf, Act.eval, Array.getD_eq_getD_getElem?, List.getElem?_toArray, List.getElem?_cons_succ, List.getElem?_cons_zero, Option.getD_some] at e26
                subst e26
                have e27 := hf.st.kept 27 (by kernel_rfl)
                simp only [slotsOf, Act.eval, Array.getD_eq_getD_getElem?, List.getElem?_toArray, List.getElem?_cons_succ, List.getElem?_cons_zero, Option.getD_some] at e27
                subst e27
                have e28 := hf.st.kept 28 (by kernel_rfl)
                simp only [slotsOf, Act.eval, Array.getD_eq_getD_getElem?, List.getElem?_toArray, List.getElem?_cons_succ, List.getElem?_cons_zero, Option.getD_some] at e28
                subst e28
                have e29 := hf.st.kept 29 (by kernel_rfl)
                simp only [slotsOf, Act.eval, Array.getD_eq_getD_getElem?, List.getElem?_toArray, List.getElem?_cons_succ, List.getElem?_cons_zero, Option.getD_some] at e29
                subst e29
                have e30 := hf.st.kept 30 (by kernel_rfl)
                simp only [slotsOf, Act.eval, Array.getD_eq_getD_getElem?, List.getElem?_toArray, List.getElem?_cons_succ, List.getElem?_cons_zero, Option.getD_some] at e30
                subst e30
                have e31 := hf.st.kept 31 (by kernel_rfl)
                simp only [slotsOf, Act.eval, Array.getD_eq_getD_getElem?, List.getElem?_toArray, List.getElem?_cons_succ, List.getElem?_cons_zero, Option.getD_some] at e31
                subst e31
                have e32 := hf.st.kept 32 (by kernel_rfl)
                simp only [slotsOf, Act.eval, Array.getD_eq_getD_getElem?, List.getElem?_toArray, List.getElem?_cons_succ, List.getElem?_cons_zero, Option.getD_some] at e32
                subst e32
                have e33 := hf.st.kept 33 (by kernel_rfl)
                simp only [slotsOf, Act.eval, Array.getD_eq_getD_getElem?, List.getElem?_toArray, List.getElem?_cons_succ, List.getElem?_cons_zero, Option.getD_some] at e33
                subst e33
                have e34 := hf.st.kept 34 (by kernel_rfl)
                simp only [slotsOf, Act.eval, Array.getD_eq_getD_getElem?, List.getElem?_toArray, List.getElem?_cons_succ, List.getElem?_cons_zero, Option.getD_some] at e34
                subst e34
                have e35 := hf.st.kept 35 (by kernel_rfl)
                simp only [slotsOf, Act.eval, Array.getD_eq_getD_getElem?, List.getElem?_toArray, List.getElem?_cons_succ, List.getElem?_cons_zero, Option.getD_some] at e35
                subst e35
                have e36 := hf.st.kept 36 (by kernel_rfl)
                simp only [slotsOf, Act.eval, Array.getD_eq_getD_getElem?, List.getElem?_toArray, List.getElem?_cons_succ, List.getElem?_cons_zero, Option.getD_some] at e36
                subst e36
                have e37 := hf.st.kept 37 (by kernel_rfl)
                simp only [slotsOf, Act.eval, Array.getD_eq_getD_getElem?, List.getElem?_toArray, List.getElem?_cons_succ, List.getElem?_cons_zero, Option.getD_some] at e37
                subst e37
                have e38 := hf.st.kept 38 (by kernel_rfl)
                simp only [slotsOf, Act.eval, Array.getD_eq_getD_getElem?, List.getElem?_toArray, List.getElem?_cons_succ, List.getElem?_cons_zero, Option.getD_some] at e38
                subst e38
                have e39 := hf.st.kept 39 (by kernel_rfl)
                simp only [slotsOf, Act.eval, Array.getD_eq_getD_getElem?, List.getElem?_toArray, List.getElem?_cons_succ, List.getElem?_cons_zero, Option.getD_some] at e39
                subst e39
                have e40 := hf.st.kept 40 (by kernel_rfl)
                simp only [slotsOf, Act.eval, Array.getD_eq_getD_getElem?, List.getElem?_toArray, List.getElem?_cons_succ, List.getElem?_cons_zero, Option.getD_some] at e40
                subst e40
                have e41 := hf.st.kept 41 (by kernel_rfl)
                simp only [slotsOf, Act.eval, Array.getD_eq_getD_getElem?, List.getElem?_toArray, List.getElem?_cons_succ, List.getElem?_cons_zero, Option.getD_some] at e41
                subst e41
                have e42 := hf.st.kept 42 (by kernel_rfl)
                simp only [slotsOf, Act.eval, Array.getD_eq_getD_getElem?, List.getElem?_toArray, List.getElem?_cons_succ, List.getElem?_cons_zero, Option.getD_some] at e42
                subst e42
                have e43 := hf.st.kept 43 (by kernel_rfl)
                simp only [slotsOf, Act.eval, Array.getD_eq_getD_getElem?, List.getElem?_toArray, List.getElem?_cons_succ, List.getElem?_cons_zero, Option.getD_some] at e43
                subst e43
                have e44 := hf.st.kept 44 (by kernel_rfl)
                simp only [slotsOf, Act.eval, Array.getD_eq_getD_getElem?, List.getElem?_toArray, List.getElem?_cons_succ, List.getElem?_cons_zero, Option.getD_some] at e44
                subst e44
                have e45 := hf.st.kept 45 (by kernel_rfl)
                simp only [slotsOf, Act.eval, Array.getD_eq_getD_getElem?, List.getElem?_toArray, List.getElem?_cons_succ, List.getElem?_cons_zero, Option.getD_some] at e45
                subst e45
                have e46 := hf.st.kept 46 (by kernel_rfl)
                simp only [slotsOf, Act.eval, Array.getD_eq_getD_getElem?, List.getElem?_toArray, List.getElem?_cons_succ, List.getElem?_cons_zero, Option.getD_some] at e46
                subst e46
                have e47 := hf.st.kept 47 (by kernel_rfl)
                simp only [slotsOf, Act.eval, Array.getD_eq_getD_getElem?, List.getElem?_toArray, List.getElem?_cons_succ, List.getElem?_cons_zero, Option.getD_some] at e47
                subst e47
                have e48 := hf.st.kept 48 (by kernel_rfl)
                simp only [slotsOf, Act.eval, Array.getD_eq_getD_getElem?, List.getElem?_toArray, List.getElem?_cons_succ, List.getElem?_cons_zero, Option.getD_some] at e48
                subst e48
                have e49 := hf.st.kept 49 (by kernel_rfl)
                simp only [slotsOf, Act.eval, Array.getD_eq_getD_getElem?, List.getElem?_toArray, List.getElem?_cons_succ, List.getElem?_cons_zero, Option.getD_some] at e49
                subst e49
                have e50 := hf.st.kept 50 (by kernel_rfl)
                simp only [slotsOf, Act.eval, Array.getD_eq_getD_getElem?, List.getElem?_toArray, List.getElem?_cons_succ, List.getElem?_cons_zero, Option.getD_some] at e50
                subst e50
                have e51 := hf.st.kept 51 (by kernel_rfl)
                simp only [slotsOf, Act.eval, Array.getD_eq_getD_getElem?, List.getElem?_toArray, List.getElem?_cons_succ, List.getElem?_cons_zero, Option.getD_some] at e51
                subst e51
                have e52 := hf.st.kept 52 (by kernel_rfl)
                simp only [slotsOf, Act.eval, Array.getD_eq_getD_getElem?, List.getElem?_toArray, List.getElem?_cons_succ, List.getElem?_cons_zero, Option.getD_some] at e52
                subst e52
                have e53 := hf.st.kept 53 (by kernel_rfl)
                simp only [slotsOf, Act.eval, Array.getD_eq_getD_getElem?, List.getElem?_toArray, List.getElem?_cons_succ, List.getElem?_cons_zero, Option.getD_some] at e53
                subst e53
                have e54 := hf.st.kept 54 (by kernel_rfl)
                simp only [slotsOf, Act.eval, Array.getD_eq_getD_getElem?, List.getElem?_toArray, List.getElem?_cons_succ, List.getElem?_cons_zero, Option.getD_some] at e54
                subst e54
                have e55 := hf.st.kept 55 (by kernel_rfl)
                simp only [slotsOf, Act.eval, Array.getD_eq_getD_getElem?, List.getElem?_toArray, List.getElem?_cons_succ, List.getElem?_cons_zero, Option.getD_some] at e55
                subst e55
                have e56 := hf.st.kept 56 (by kernel_rfl)
                simp only [slotsOf, Act.eval, Array.getD_eq_getD_getElem?, List.getElem?_toArray, List.getElem?_cons_succ, List.getElem?_cons_zero, Option.getD_some] at e56
                subst e56
                have e57 := hf.st.kept 57 (by kernel_rfl)
                simp only [slotsOf, Act.eval, Array.getD_eq_getD_getElem?, List.getElem?_toArray, List.getElem?_cons_succ, List.getElem?_cons_zero, Option.getD_some] at e57
                subst e57
                have e58 := hf.st.kept 58 (by kernel_rfl)
                simp only [slotsOf, Act.eval, Array.getD_eq_getD_getElem?, List.getElem?_toArray, List.getElem?_cons_succ, List.getElem?_cons_zero, Option.getD_some] at e58
                subst e58
                have e59 := hf.st.kept 59 (by kernel_rfl)
                simp only [slotsOf, Act.eval, Array.getD_eq_getD_getElem?, List.getElem?_toArray, List.getElem?_cons_succ, List.getElem?_cons_zero, Option.getD_some] at e59
                subst e59
                have e60 := hf.st.kept 60 (by kernel_rfl)
                simp only [slotsOf, Act.eval, Array.getD_eq_getD_getElem?, List.getElem?_toArray, List.getElem?_cons_succ, List.getElem?_cons_zero, Option.getD_some] at e60
                subst e60
                have e61 := hf.st.kept 61 (by kernel_rfl)
                simp only [slotsOf, Act.eval, Array.getD_eq_getD_getElem?, List.getElem?_toArray, List.getElem?_cons_succ, List.getElem?_cons_zero, Option.getD_some] at e61
                subst e61
                have e62 := hf.st.kept 62 (by kernel_rfl)
                simp only [slotsOf, Act.eval, Array.getD_eq_getD_getElem?, List.getElem?_toArray, List.getElem?_cons_succ, List.getElem?_cons_zero, Option.getD_some] at e62
                subst e62
                have e63 := hf.st.kept 63 (by kernel_rfl)
                simp only [slotsOf, Act.eval, Array.getD_eq_getD_getElem?, List.getElem?_toArray, List.getElem?_cons_succ, List.getElem?_cons_zero, Option.getD_some] at e63
                subst e63
                have e64 := hf.st.kept 64 (by kernel_rfl)
                simp only [slotsOf, Act.eval, Array.getD_eq_getD_getElem?, List.getElem?_toArray, List.getElem?_cons_succ, List.getElem?_cons_zero, Option.getD_some] at e64
                subst e64
                have e65 := hf.st.kept 65 (by kernel_rfl)
                simp only [slotsOf, Act.eval, Array.getD_eq_getD_getElem?, List.getElem?_toArray, List.getElem?_cons_succ, List.getElem?_cons_zero, Option.getD_some] at e65
                subst e65
                have e66 := hf.st.kept 66 (by kernel_rfl)
                simp only [slotsOf, Act.eval, Array.getD_eq_getD_getElem?, List.getElem?_toArray, List.getElem?_cons_succ, List.getElem?_cons_zero, Option.getD_some] at e66
                subst e66
                have e77 := hf.st.kept 77 (by kernel_rfl)
                simp only [slotsOf, Act.eval, Array.getD_eq_getD_getElem?, List.getElem?_toArray, List.getElem?_cons_succ, List.getElem?_cons_zero, Option.getD_some] at e77
                subst e77
                have e78 := hf.st.kept 78 (by kernel_rfl)
                simp only [slotsOf, Act.eval, Array.getD_eq_getD_getElem?, List.getElem?_toArray, List.getElem?_cons_succ, List.getElem?_cons_zero, Option.getD_some] at e78
                subst e78
                have e79 := hf.st.kept 79 (by kernel_rfl)
                simp only [slotsOf, Act.eval, Array.getD_eq_getD_getElem?, List.getElem?_toArray, List.getElem?_cons_succ, List.getElem?_cons_zero, Option.getD_some] at e79
                subst e79
                have e80 := hf.st.kept 80 (by kernel_rfl)
                simp only [slotsOf, Act.eval, Array.getD_eq_getD_getElem?, List.getElem?_toArray, List.getElem?_cons_succ, List.getElem?_cons_zero, Option.getD_some] at e80
                subst e80
                have e81 := hf.st.kept 81 (by kernel_rfl)
                simp only [slotsOf, Act.eval, Array.getD_eq_getD_getElem?, List.getElem?_toArray, List.getElem?_cons_succ, List.getElem?_cons_zero, Option.getD_some] at e81
                subst e81
                have e82 := hf.st.kept 82 (by kernel_rfl)
                simp only [slotsOf, Act.eval, Array.getD_eq_getD_getElem?, List.getElem?_toArray, List.getElem?_cons_succ, List.getElem?_cons_zero, Option.getD_some] at e82
                subst e82
                have e83 := hf.st.kept 83 (by kernel_rfl)
                simp only [slotsOf, Act.eval, Array.getD_eq_getD_getElem?, List.getElem?_toArray, List.getElem?_cons_succ, List.getElem?_cons_zero, Option.getD_some] at e83
                subst e83
                have e84 := hf.st.kept 84 (by kernel_rfl)
                simp only [slotsOf, Act.eval, Array.getD_eq_getD_getElem?, List.getElem?_toArray, List.getElem?_cons_succ, List.getElem?_cons_zero, Option.getD_some] at e84
                subst e84
                have e85 := hf.st.kept 85 (by kernel_rfl)
                simp only [slotsOf, Act.eval, Array.getD_eq_getD_getElem?, List.getElem?_toArray, List.getElem?_cons_succ, List.getElem?_cons_zero, Option.getD_some] at e85
                subst e85
                have e86 := hf.st.kept 86 (by kernel_rfl)
                simp only [slotsOf, Act.eval, Array.getD_eq_getD_getElem?, List.getElem?_toArray, List.getElem?_cons_succ, List.getElem?_cons_zero, Option.getD_some] at e86
                subst e86
                have e87 := hf.st.kept 87 (by kernel_rfl)
                simp only [slotsOf, Act.eval, Array.getD_eq_getD_getElem?, List.getElem?_toArray, List.getElem?_cons_succ, List.getElem?_cons_zero, Option.getD_some] at e87
                subst e87
                have e88 := hf.st.kept 88 (by kernel_rfl)
                simp only [slotsOf, Act.eval, Array.getD_eq_getD_getElem?, List.getElem?_toArray, List.getElem?_cons_succ, List.getElem?_cons_zero, Option.getD_some] at e88
                subst e88
                have e89 := hf.st.kept 89 (by kernel_rfl)
                simp only [slotsOf, Act.eval, Array.getD_eq_getD_getElem?, List.getElem?_toArray, List.getElem?_cons_succ, List.getElem?_cons_zero, Option.getD_some] at e89
                subst e89
                have e90 := hf.st.kept 90 (by kernel_rfl)
                simp only [slotsOf, Act.eval, Array.getD_eq_getD_getElem?, List.getElem?_toArray, List.getElem?_cons_succ, List.getElem?_cons_zero, Option.getD_some] at e90
                subst e90
                have e91 := hf.st.kept 91 (by kernel_rfl)
                simp only [slotsOf, Act.eval, Array.getD_eq_getD_getElem?, List.getElem?_toArray, List.getElem?_cons_succ, List.getElem?_cons_zero, Option.getD_some] at e91
                subst e91
                have e92 := hf.st.kept 92 (by kernel_rfl)
                simp only [slotsOf, Act.eval, Array.getD_eq_getD_getElem?, List.getElem?_toArray, List.getElem?_cons_succ, List.getElem?_cons_zero, Option.getD_some] at e92
                subst e92
                have e93 := hf.st.kept 93 (by kernel_rfl)
                simp only [slotsOf, Act.eval, Array.getD_eq_getD_getElem?, List.getElem?_toArray, List.getElem?_cons_succ, List.getElem?_cons_zero, Option.getD_some] at e93
                subst e93
                have e94 := hf.st.kept 94 (by kernel_rfl)
                simp only [slotsOf, Act.eval, Array.getD_eq_getD_getElem?, List.getElem?_toArray, List.getElem?_cons_succ, List.getElem?_cons_zero, Option.getD_some] at e94
                subst e94
                have e95 := hf.st.kept 95 (by kernel_rfl)
                simp only [slotsOf, Act.eval, Array.getD_eq_getD_getElem?, List.getElem?_toArray, List.getElem?_cons_succ, List.getElem?_cons_zero, Option.getD_some] at e95
                subst e95
                have e96 := hf.st.kept 96 (by kernel_rfl)
                simp only [slotsOf, Act.eval, Array.getD_eq_getD_getElem?, List.getElem?_toArray, List.getElem?_cons_succ, List.getElem?_cons_zero, Option.getD_some] at e96
                subst e96
                have e97 := hf.st.kept 97 (by kernel_rfl)
                simp only [slotsOf, Act.eval, Array.getD_eq_getD_getElem?, List.getElem?_toArray, List.getElem?_cons_succ, List.getElem?_cons_zero, Option.getD_some] at e97
                subst e97
                have e98 := hf.st.kept 98 (by kernel_rfl)
                simp only [slotsOf, Act.eval, Array.getD_eq_getD_getElem?, List.getElem?_toArray, List.getElem?_cons_succ, List.getElem?_cons_zero, Option.getD_some] at e98
                subst e98
                have e99 := hf.st.kept 99 (by kernel_rfl)
                simp only [slotsOf, Act.eval, Array.getD_eq_getD_getElem?, List.getElem?_toArray, List.getElem?_cons_succ, List.getElem?_cons_zero, Option.getD_some] at e99
                subst e99
                have e100 := hf.st.kept 100 (by kernel_rfl)
                simp only [slotsOf, Act.eval, Array.getD_eq_getD_getElem?, List.getElem?_toArray, List.getElem?_cons_succ, List.getElem?_cons_zero, Option.getD_some] at e100
                subst e100
                have e101 := hf.st.kept 101 (by kernel_rfl)
                simp only [slotsOf, Act.eval, Array.getD_eq_getD_getElem?, List.getElem?_toArray, List.getElem?_cons_succ, List.getElem?_cons_zero, Option.getD_some] at e101
                subst e101
                have e102 := hf.st.kept 102 (by kernel_rfl)
                simp only [slotsOf, Act.eval, Array.getD_eq_getD_getElem?, List.getElem?_toArray, List.getElem?_cons_succ, List.getElem?_cons_zero, Option.getD_some] at e102
                subst e102
                have e103 := hf.st.kept 103 (by kernel_rfl)
                simp only [slotsOf, Act.eval, Array.getD_eq_getD_getElem?, List.getElem?_toArray, List.getElem?_cons_succ, List.getElem?_cons_zero, Option.getD_some] at e103
                subst e103
                have e104 := hf.st.kept 104 (by kernel_rfl)
                simp only [slotsOf, Act.eval, Array.getD_eq_getD_getElem?, List.getElem?_toArray, List.getElem?_cons_succ, List.getElem?_cons_zero, Option.getD_some] at e104
                subst e104
                have e105 := hf.st.kept 105 (by kernel_rfl)
                simp only [slotsOf, Act.eval, Array.getD_eq_getD_getElem?, List.getElem?_toArray, List.getElem?_cons_succ, List.getElem?_cons_zero, Option.getD_some] at e105
                subst e105
                have e106 := hf.st.kept 106 (by kernel_rfl)
                simp only [slotsOf, Act.eval, Array.getD_eq_getD_getElem?, List.getElem?_toArray, List.getElem?_cons_succ, List.getElem?_cons_zero, Option.getD_some] at e106
                subst e106
                have e107 := hf.st.kept 107 (by kernel_rfl)
                simp only [slotsOf, Act.eval, Array.getD_eq_getD_getElem?, List.getElem?_toArray, List.getElem?_cons_succ, List.getElem?_cons_zero, Option.getD_some] at e107
                subst e107
                have e108 := hf.st.kept 108 (by kernel_rfl)
                simp only [slotsOf, Act.eval, Array.getD_eq_getD_getElem?, List.getElem?_toArray, List.getElem?_cons_succ, List.getElem?_cons_zero, Option.getD_some] at e108
                subst e108
                have e109 := hf.st.kept 109 (by kernel_rfl)
                simp only [slotsOf, Act.eval, Array.getD_eq_getD_getElem?, List.getElem?_toArray, List.getElem?_cons_succ, List.getElem?_cons_zero, Option.getD_some] at e109
                subst e109
                have e110 := hf.st.kept 110 (by kernel_rfl)
                simp only [slotsOf, Act.eval, Array.getD_eq_getD_getElem?, List.getElem?_toArray, List.getElem?_cons_succ, List.getElem?_cons_zero, Option.getD_some] at e110
                subst e110
                have e111 := hf.st.kept 111 (by kernel_rfl)
                simp only [slotsOf, Act.eval, Array.getD_eq_getD_getElem?, List.getElem?_toArray, List.getElem?_cons_succ, List.getElem?_cons_zero, Option.getD_some] at e111
                subst e111
                obtain ⟨bb, h1, h2, h3⟩ := hf.at 10 (onTab 6 #[.string x0, .string x2, .string x4] 9 3) rfl (by kernel_rfl)
                have h1 : x6 = .slice (some ⟨bb, 0, none⟩) 3 3 := h1
                subst h1
                have GR := Sec.mk (GRd.lit (n := 3) (w := w) (bx := bx) (l := [x0, x2, x4]) h2 HG.out (hf.st.foot) (by simp) (by simp) (by simp; exact ⟨hs0.out, hs2.out, hs4.out⟩))
                clear hf h2 h3
                go_wp2
                go_meet
                case rel => exact ⟨_, [x0, x2, x4], GR⟩
              · have hx3' : (x3.toList == [61]) = false := beq_eq_false_iff_ne.2 hx3
                go_wp2_with (with_reducible show wpList _ _ _ (⟨none, .store 100 (.tmp 2) (.tmp 80), _, _, _, _⟩ :: _) _ _; refine wpList_store (cs := [.int .i64 0, .slice none 0 0, .slice none 0 0, .slice none 0 0]) (old := #[.int .i64 0, .slice none 0 0, .slice none 0 0, .slice none 0 0]) rfl 100 (.tmp 2) (.tmp 80) rfl rfl rfl G1.out.res (by kernel_rfl) rfl (kGoal.K_one (kGoal.O_K (kGoal_zero w))) ?_; intro w8 hb8 hF8; have B8 := Sec.mk hb8; have F8 := Sec.mk hF8; clear hb8 hF8)
                exact bodyPost_ret (results_cell2 rfl rfl rfl B8.out hu2 rfl (by kernel_rfl)) rfl ⟨zeroGoal, _, false, rfl, Kd.O_mono (kGoal_zero _) (fun k h _ => h.elim), F8.out.below G1.out.bel (fun k h => Nat.le_of_eq (show k = w.heap.size from h).symm)⟩
            · have hx1' : (x1.toList == [43]) = false := beq_eq_false_iff_ne.2 hx1
              go_wp2_with (with_reducible show wpList _ _ _ (⟨none, .store 100 (.tmp 2) (.tmp 80), _, _, _, _⟩ :: _) _ _; refine wpList_store (cs := [.int .i64 0, .slice none 0 0, .slice none 0 0, .slice none 0 0]) (old := #[.int .i64 0, .slice none 0 0, .slice none 0 0, .slice none 0 0]) rfl 100 (.tmp 2) (.tmp 80) rfl rfl rfl G1.out.res (by kernel_rfl) rfl (kGoal.K_one (kGoal.O_K (kGoal_zero w))) ?_; intro w8 hb8 hF8; have B8 := Sec.mk hb8; have F8 := Sec.mk hF8; clear hb8 hF8)
              exact bodyPost_ret (results_cell2 rfl rfl rfl B8.out hu2 rfl (by kernel_rfl)) rfl ⟨zeroGoal, _, false, rfl, Kd.O_mono (kGoal_zero _) (fun k h _ => h.elim), F8.out.below G1.out.bel (fun k h => Nat.le_of_eq (show k = w.heap.size from h).symm)⟩
          · have t5 : ((ws.length : Int) == 5) = false := beq_eq_false_iff_ne.2 (by omega)
            by_cases h1 : ws.length = 1
            · clear t3 t5 hlen h5
              have t3 : ((1 : Int) == 3) = false := rfl
              have t5 : ((1 : Int) == 5) = false := rfl
              have t1 : ((1 : Int) != 1) = false := rfl
              have hlen := h1
              clear h1
              obtain ⟨x0, rfl⟩ : ∃ x0, ws = [x0] := by
                match ws, hlen with
                | [x0], _ => exact ⟨x0, rfl⟩
              obtain ⟨b, off, rfl, hok, hcs⟩ := strs_at CC.out (by show 0 < 1; omega)
              have c0 := (hcs 0 (by simp)).1
              have hs0 := Sec.mk (Nat.le_trans (S1.out x0 (by simp)) hs)
              simp only [List.getElem_cons_zero, Nat.add_zero] at c0
              have HNB : Sec (¬ b = bx) := ⟨fun e => NB.out b hok e⟩
              clear hcs hok hlen
              clear c0
              have GR := Sec.mk (show GRd w bx 1 [x0] (.slice (some ⟨b, off, none⟩) 1 c) _ from ⟨Kd.V_mono (ok := fun k => w.heap.size < k ∧ k < bx) ⟨_, _, rfl, by simpa using hlc, hcm, by simp, CC.out, fun h => by cases h⟩ (fun _ _ => trivial) (by decide), by simp, by simp; exact hs0.out, G1.out.box, G1.out.res, G1.out.bel⟩)
              go_wp2
              go_meet
              case rel => exact ⟨_, _, GR⟩
            · have t1 : ((ws.length : Int) != 1) = true := bne_iff_ne.2 (by omega)
              go_wp2_with (with_reducible show wpList _ _ _ (⟨none, .store 100 (.tmp 2) (.tmp 80), _, _, _, _⟩ :: _) _ _; refine wpList_store (cs := [.int .i64 0, .slice none 0 0, .slice none 0 0, .slice none 0 0]) (old := #[.int .i64 0, .slice none 0 0, .slice none 0 0, .slice none 0 0]) rfl 100 (.tmp 2) (.tmp 80) rfl rfl rfl G1.out.res (by kernel_rfl) rfl (kGoal.K_one (kGoal.O_K (kGoal_zero w))) ?_; intro w8 hb8 hF8; have B8 := Sec.mk hb8; have F8 := Sec.mk hF8; clear hb8 hF8)
              exact bodyPost_ret (results_cell2 rfl rfl rfl B8.out hu2 rfl (by kernel_rfl)) rfl ⟨zeroGoal, _, false, rfl, Kd.O_mono (kGoal_zero _) (fun k h _ => h.elim), F8.out.below G1.out.bel (fun k h => Nat.le_of_eq (show k = w.heap.size from h).symm)⟩
    case rest =>
    obtain ⟨k, l, GG⟩ := hcut
    have HV := GG.out.V
    have hll := GG.out.len
    have hls := GG.out.sz
    go_wp2_with fail
    refine (l3Read_c _ l (by omega) (fun x hx => Nat.le_trans (hls x hx) (by decide)) _ wc HV).mono ?_
    rintro e w3 ⟨u, ts, q, rfl, hR, hq, hT, hb⟩
    have BX := Sec.mk ((hb.block _ (Array.getElem?_eq_some_iff.1 GG.out.box).1).trans GG.out.box)
    have RX := Sec.mk ((hb.block _ (Array.getElem?_eq_some_iff.1 GG.out.res).1).trans GG.out.res)
    have BXL : Sec (bx < wc.heap.size) := ⟨(Array.getElem?_eq_some_iff.1 GG.out.box).1⟩
    have B3 := Sec.mk (bel GG.out.bel hb)
    clear hb HV hls hT
    cases q with
    | false =>
      clear hR hq
      go_wp2_with (with_reducible show wpList _ _ _ (⟨none, .store 100 (.tmp 2) (.tmp 88), _, _, _, _⟩ :: _) _ _; refine wpList_store (cs := [.int .i64 0, .slice none 0 0, .slice none 0 0, .slice none 0 0]) (old := #[.int .i64 0, .slice none 0 0, .slice none 0 0, .slice none 0 0]) rfl 100 (.tmp 2) (.tmp 88) rfl rfl rfl RX.out (by kernel_rfl) rfl (kGoal.K_one (kGoal.O_K (kGoal_zero w))) ?_; intro w8 hb8 hF8; have B8 := Sec.mk hb8; have F8 := Sec.mk hF8; clear hb8 hF8)
      exact bodyPost_ret (results_cell2 rfl rfl rfl B8.out hu2 rfl (by kernel_rfl)) rfl ⟨zeroGoal, _, false, rfl, Kd.O_mono (kGoal_zero _) (fun k h _ => h.elim), F8.out.below B3.out (fun k h => Nat.le_of_eq (show k = w.heap.size from h).symm)⟩
    | true =>
      have hq := hq rfl
      obtain ⟨bt, cap, vs, Sf, rfl, hcap, hSb, hbt, d, sub, hc⟩ := terms_parts hR (by omega)
      have NBX : Sec (¬ bt = bx) := ⟨fun e => by have := BXL.out; omega⟩
      rcases (show ts.length = 1 ∨ ts.length = 2 ∨ ts.length = 3 by omega) with hn | hn | hn
      · clear hq hR
        obtain ⟨t0, rfl⟩ : ∃ t0, ts = [t0] := by
          match ts, hn with
          | [t0], _ => exact ⟨t0, rfl⟩
        obtain ⟨c0, r0⟩ := hc 0 (by simp)
        obtain ⟨E0, m0, e0, -, -⟩ := Kd.R_form r0
        rw [e0] at c0 r0
        simp only [List.getElem_cons_zero] at c0 r0
        clear e0
        clear hc
        have F0 := Foot.refl (fun k => k = bx) w3
        have BX0 := BX.out
        have F1 := Foot.set F0 (g := bx) (.inl rfl) 1 (.slice E0 t0.length m0)
        have BX1 : (w3.setCell ⟨bx, 1, none⟩ (.slice E0 t0.length m0)).heap[bx]? = some (.cells #[.int .i64 k, .slice E0 t0.length m0, .slice none 0 0, .slice none 0 0] 100 (0, 0)) := box_store 1 _ BX0
        have q0 := (box_at BX0).2.1 1 _ rfl
        have f0 := (box_at BX0).2.2 1
        have R0 := Sec.mk (F1.R r0 (fun k h e => by have h1 := (sub 0 k h).1; have h2 := BXL.out; have h3 : k = bx := e; omega))
        have RX5 := Sec.mk ((F1.block _ (Array.getElem?_eq_some_iff.1 RX.out).1 (fun e => by have := BXG.out; have e : w.heap.size = bx := e; omega)).trans RX.out)
        have B5 := Sec.mk (F1.below B3.out (fun k h => by have := BXG.out; have h : k = bx := h; omega))
        have BX5 := Sec.mk BX1
        clear F0 BX0 F1 BX1 r0
        go_upto_region 25 with (fail)
        generalize (w3.setCell ⟨bx, 1, none⟩ (.slice E0 t0.length m0)) = w5 at *
        clear c0 q0 f0
        have OG : Sec (kGoal.O w5 (fun k => w.heap.size + 1 < k) ⟨k, t0, [], []⟩ [.int .i64 k, .slice E0 t0.length m0, .slice none 0 0, .slice none 0 0]) := ⟨Kd.O_mono (kGoal_of R0.out (Kd.R_nil kCell w5 (fun _ => False)) (Kd.R_nil kCell w5 (fun _ => False)) (fun _ _ h => h) (fun _ _ h => h) (fun _ h => h.elim)) (fun k h _ => by
          have h2 := BXL.out
          have h4 := BXG.out
          rcases h with h | h | h
          · have h1 := (sub 0 k h).1; omega
          · exact h.elim
          · exact h.elim)⟩
        clear R0
        have X := (box_at BX5.out).2.1
        have y0 := X 0 _ rfl
        have y1 := X 1 _ rfl
        have y2 := X 2 _ rfl
        have y3 := X 3 _ rfl
        clear X
        cases HQ : goalOk ⟨k, t0, [], []⟩ with
        | false =>
          go_wp2_with (first | (go_at_call 145; go_loud (refine (specGoalOk_c ⟨k, t0, [], []⟩ _ _ w5 (kGoal.O_K OG.out)).mono ?_; rw [HQ]; rintro e w6 ⟨rfl, hb6⟩; have RX6 := Sec.mk ((hb6.block _ (Array.getElem?_eq_some_iff.1 RX5.out).1).trans RX5.out); have B6 := Sec.mk (bel B5.out hb6); have BX6 := Sec.mk ((hb6.block _ (Array.getElem?_eq_some_iff.1 BX5.out).1).trans BX5.out); have O6 := Sec.mk (Kd.O_below OG.out hb6); have X := (box_at BX6.out).2.1; have z0 := X 0 _ rfl; have z1 := X 1 _ rfl; have z2 := X 2 _ rfl; have z3 := X 3 _ rfl; clear X hb6 y0 y1 y2 y3)) | (with_reducible show wpList _ _ _ (⟨none, .store 100 (.tmp 2) (.tmp 110), _, _, _, _⟩ :: _) _ _; refine wpList_store (cs := [.int .i64 0, .slice none 0 0, .slice none 0 0, .slice none 0 0]) (old := #[.int .i64 0, .slice none 0 0, .slice none 0 0, .slice none 0 0]) rfl 100 (.tmp 2) (.tmp 110) rfl rfl rfl RX6.out (by kernel_rfl) rfl (kGoal.K_one (kGoal.O_K (kGoal_zero w))) ?_; intro w8 hb8 hF8; have B8 := Sec.mk hb8; have F8 := Sec.mk hF8; clear hb8 hF8))
          exact bodyPost_ret (results_cell2 rfl rfl rfl B8.out hu2 rfl (by kernel_rfl)) rfl ⟨zeroGoal, _, false, rfl, Kd.O_mono (kGoal_zero _) (fun k h _ => h.elim), F8.out.below B6.out (fun k h => Nat.le_of_eq (show k = w.heap.size from h).symm)⟩
        | true =>
          go_wp2_with (first | (go_at_call 145; go_loud (refine (specGoalOk_c ⟨k, t0, [], []⟩ _ _ w5 (kGoal.O_K OG.out)).mono ?_; rw [HQ]; rintro e w6 ⟨rfl, hb6⟩; have RX6 := Sec.mk ((hb6.block _ (Array.getElem?_eq_some_iff.1 RX5.out).1).trans RX5.out); have B6 := Sec.mk (bel B5.out hb6); have BX6 := Sec.mk ((hb6.block _ (Array.getElem?_eq_some_iff.1 BX5.out).1).trans BX5.out); have O6 := Sec.mk (Kd.O_below OG.out hb6); have X := (box_at BX6.out).2.1; have z0 := X 0 _ rfl; have z1 := X 1 _ rfl; have z2 := X 2 _ rfl; have z3 := X 3 _ rfl; clear X hb6 y0 y1 y2 y3)) | (with_reducible show wpList _ _ _ (⟨none, .store 100 (.tmp 2) (.tmp 111), _, _, _, _⟩ :: _) _ _; refine wpList_store (cs := [.int .i64 k, .slice E0 t0.length m0, .slice none 0 0, .slice none 0 0]) (old := #[.int .i64 0, .slice none 0 0, .slice none 0 0, .slice none 0 0]) rfl 100 (.tmp 2) (.tmp 111) rfl rfl rfl RX6.out (by kernel_rfl) rfl (kGoal.K_one (kGoal.O_K O6.out)) ?_; intro w8 hb8 hF8; have B8 := Sec.mk hb8; have F8 := Sec.mk hF8; clear hb8 hF8))
          exact bodyPost_ret (results_cell2 rfl rfl rfl B8.out hu2 rfl (by kernel_rfl)) rfl ⟨⟨k, t0, [], []⟩, _, true, rfl, Kd.O_mono (F8.out.O O6.out (fun k h e => by have e : k = w.heap.size := e; omega)) (fun k h _ => by omega), F8.out.below B6.out (fun k h => Nat.le_of_eq (show k = w.heap.size from h).symm)⟩
      · clear hq hR
        obtain ⟨t0, t1, rfl⟩ : ∃ t0 t1, ts = [t0, t1] := by
          match ts, hn with
          | [t0, t1], _ => exact ⟨t0, t1, rfl⟩
        obtain ⟨c0, r0⟩ := hc 0 (by simp)
        obtain ⟨E0, m0, e0, -, -⟩ := Kd.R_form r0
        rw [e0] at c0 r0
        simp only [List.getElem_cons_zero] at c0 r0
        clear e0
        obtain ⟨c1, r1⟩ := hc 1 (by simp)
        obtain ⟨E1, m1, e1, -, -⟩ := Kd.R_form r1
        rw [e1] at c1 r1
        simp only [List.getElem_cons_zero, List.getElem_cons_succ] at c1 r1
        clear e1
        clear hc
        have F0 := Foot.refl (fun k => k = bx) w3
        have BX0 := BX.out
        have F1 := Foot.set F0 (g := bx) (.inl rfl) 1 (.slice E0 t0.length m0)
        have BX1 : (w3.setCell ⟨bx, 1, none⟩ (.slice E0 t0.length m0)).heap[bx]? = some (.cells #[.int .i64 k, .slice E0 t0.length m0, .slice none 0 0, .slice none 0 0] 100 (0, 0)) := box_store 1 _ BX0
        have F2 := Foot.set F1 (g := bx) (.inl rfl) 2 (.slice E1 t1.length m1)
        have BX2 : ((w3.setCell ⟨bx, 1, none⟩ (.slice E0 t0.length m0)).setCell ⟨bx, 2, none⟩ (.slice E1 t1.length m1)).heap[bx]? = some (.cells #[.int .i64 k, .slice E0 t0.length m0, .slice E1 t1.length m1, .slice none 0 0] 100 (0, 0)) := box_store 2 _ BX1
        have q0 := (box_at BX0).2.1 1 _ rfl
        have f0 := (box_at BX0).2.2 1
        have q1 := (box_at BX1).2.1 2 _ rfl
        have f1 := (box_at BX1).2.2 2
        have c1 := fcell F1 (fun e => NBX.out e) c1
        have R0 := Sec.mk (F2.R r0 (fun k h e => by have h1 := (sub 0 k h).1; have h2 := BXL.out; have h3 : k = bx := e; omega))
        have R1 := Sec.mk (F2.R r1 (fun k h e => by have h1 := (sub 1 k h).1; have h2 := BXL.out; have h3 : k = bx := e; omega))
        have RX5 := Sec.mk ((F2.block _ (Array.getElem?_eq_some_iff.1 RX.out).1 (fun e => by have := BXG.out; have e : w.heap.size = bx := e; omega)).trans RX.out)
        have B5 := Sec.mk (F2.below B3.out (fun k h => by have := BXG.out; have h : k = bx := h; omega))
        have BX5 := Sec.mk BX2
        clear F0 BX0 F1 BX1 F2 BX2 r0 r1
        go_upto_region 25 with (fail)
        generalize ((w3.setCell ⟨bx, 1, none⟩ (.slice E0 t0.length m0)).setCell ⟨bx, 2, none⟩ (.slice E1 t1.length m1)) = w5 at *
        clear c0 q0 f0 c1 q1 f1
        have OG : Sec (kGoal.O w5 (fun k => w.heap.size + 1 < k) ⟨k, t0, t1, []⟩ [.int .i64 k, .slice E0 t0.length m0, .slice E1 t1.length m1, .slice none 0 0]) := ⟨Kd.O_mono (kGoal_of R0.out R1.out (Kd.R_nil kCell w5 (fun _ => False)) (fun k h1 h2 => by have := d 0 1 k h1 h2; omega) (fun _ _ h => h) (fun _ _ h => h)) (fun k h _ => by
          have h2 := BXL.out
          have h4 := BXG.out
          rcases h with h | h | h
          · have h1 := (sub 0 k h).1; omega
          · have h1 := (sub 1 k h).1; omega
          · exact h.elim)⟩
        clear R0 R1
        have X := (box_at BX5.out).2.1
        have y0 := X 0 _ rfl
        have y1 := X 1 _ rfl
        have y2 := X 2 _ rfl
        have y3 := X 3 _ rfl
        clear X
        cases HQ : goalOk ⟨k, t0, t1, []⟩ with
        | false =>
          go_wp2_with (first | (go_at_call 145; go_loud (refine (specGoalOk_c ⟨k, t0, t1, []⟩ _ _ w5 (kGoal.O_K OG.out)).mono ?_; rw [HQ]; rintro e w6 ⟨rfl, hb6⟩; have RX6 := Sec.mk ((hb6.block _ (Array.getElem?_eq_some_iff.1 RX5.out).1).trans RX5.out); have B6 := Sec.mk (bel B5.out hb6); have BX6 := Sec.mk ((hb6.block _ (Array.getElem?_eq_some_iff.1 BX5.out).1).trans BX5.out); have O6 := Sec.mk (Kd.O_below OG.out hb6); have X := (box_at BX6.out).2.1; have z0 := X 0 _ rfl; have z1 := X 1 _ rfl; have z2 := X 2 _ rfl; have z3 := X 3 _ rfl; clear X hb6 y0 y1 y2 y3)) | (with_reducible show wpList _ _ _ (⟨none, .store 100 (.tmp 2) (.tmp 110), _, _, _, _⟩ :: _) _ _; refine wpList_store (cs := [.int .i64 0, .slice none 0 0, .slice none 0 0, .slice none 0 0]) (old := #[.int .i64 0, .slice none 0 0, .slice none 0 0, .slice none 0 0]) rfl 100 (.tmp 2) (.tmp 110) rfl rfl rfl RX6.out (by kernel_rfl) rfl (kGoal.K_one (kGoal.O_K (kGoal_zero w))) ?_; intro w8 hb8 hF8; have B8 := Sec.mk hb8; have F8 := Sec.mk hF8; clear hb8 hF8))
          exact bodyPost_ret (results_cell2 rfl rfl rfl B8.out hu2 rfl (by kernel_rfl)) rfl ⟨zeroGoal, _, false, rfl, Kd.O_mono (kGoal_zero _) (fun k h _ => h.elim), F8.out.below B6.out (fun k h => Nat.le_of_eq (show k = w.heap.size from h).symm)⟩
        | true =>
          go_wp2_with (first | (go_at_call 145; go_loud (refine (specGoalOk_c ⟨k, t0, t1, []⟩ _ _ w5 (kGoal.O_K OG.out)).mono ?_; rw [HQ]; rintro e w6 ⟨rfl, hb6⟩; have RX6 := Sec.mk ((hb6.block _ (Array.getElem?_eq_some_iff.1 RX5.out).1).trans RX5.out); have B6 := Sec.mk (bel B5.out hb6); have BX6 := Sec.mk ((hb6.block _ (Array.getElem?_eq_some_iff.1 BX5.out).1).trans BX5.out); have O6 := Sec.mk (Kd.O_below OG.out hb6); have X := (box_at BX6.out).2.1; have z0 := X 0 _ rfl; have z1 := X 1 _ rfl; have z2 := X 2 _ rfl; have z3 := X 3 _ rfl; clear X hb6 y0 y1 y2 y3)) | (with_reducible show wpList _ _ _ (⟨none, .store 100 (.tmp 2) (.tmp 111), _, _, _, _⟩ :: _) _ _; refine wpList_store (cs := [.int .i64 k, .slice E0 t0.length m0, .slice E1 t1.length m1, .slice none 0 0]) (old := #[.int .i64 0, .slice none 0 0, .slice none 0 0, .slice none 0 0]) rfl 100 (.tmp 2) (.tmp 111) rfl rfl rfl RX6.out (by kernel_rfl) rfl (kGoal.K_one (kGoal.O_K O6.out)) ?_; intro w8 hb8 hF8; have B8 := Sec.mk hb8; have F8 := Sec.mk hF8; clear hb8 hF8))
          exact bodyPost_ret (results_cell2 rfl rfl rfl B8.out hu2 rfl (by kernel_rfl)) rfl ⟨⟨k, t0, t1, []⟩, _, true, rfl, Kd.O_mono (F8.out.O O6.out (fun k h e => by have e : k = w.heap.size := e; omega)) (fun k h _ => by omega), F8.out.below B6.out (fun k h => Nat.le_of_eq (show k = w.heap.size from h).symm)⟩
      · clear hq hR
        obtain ⟨t0, t1, t2, rfl⟩ : ∃ t0 t1 t2, ts = [t0, t1, t2] := by
          match ts, hn with
          | [t0, t1, t2], _ => exact ⟨t0, t1, t2, rfl⟩
        obtain ⟨c0, r0⟩ := hc 0 (by simp)
        obtain ⟨E0, m0, e0, -, -⟩ := Kd.R_form r0
        rw [e0] at c0 r0
        simp only [List.getElem_cons_zero] at c0 r0
        clear e0
        obtain ⟨c1, r1⟩ := hc 1 (by simp)
        obtain ⟨E1, m1, e1, -, -⟩ := Kd.R_form r1
        rw [e1] at c1 r1
        simp only [List.getElem_cons_zero, List.getElem_cons_succ] at c1 r1
        clear e1
        obtain ⟨c2, r2⟩ := hc 2 (by simp)
        obtain ⟨E2, m2, e2, -, -⟩ := Kd.R_form r2
        rw [e2] at c2 r2
        simp only [List.getElem_cons_zero, List.getElem_cons_succ] at c2 r2
        clear e2
        clear hc
        have F0 := Foot.refl (fun k => k = bx) w3
        have BX0 := BX.out
        have F1 := Foot.set F0 (g := bx) (.inl rfl) 1 (.slice E0 t0.length m0)
        have BX1 : (w3.setCell ⟨bx, 1, none⟩ (.slice E0 t0.length m0)).heap[bx]? = some (.cells #[.int .i64 k, .slice E0 t0.length m0, .slice none 0 0, .slice none 0 0] 100 (0, 0)) := box_store 1 _ BX0
        have F2 := Foot.set F1 (g := bx) (.inl rfl) 2 (.slice E1 t1.length m1)
        have BX2 : ((w3.setCell ⟨bx, 1, none⟩ (.slice E0 t0.length m0)).setCell ⟨bx, 2, none⟩ (.slice E1 t1.length m1)).heap[bx]? = some (.cells #[.int .i64 k, .slice E0 t0.length m0, .slice E1 t1.length m1, .slice none 0 0] 100 (0, 0)) := box_store 2 _ BX1
        have F3 := Foot.set F2 (g := bx) (.inl rfl) 3 (.slice E2 t2.length m2)
        have BX3 : (((w3.setCell ⟨bx, 1, none⟩ (.slice E0 t0.length m0)).setCell ⟨bx, 2, none⟩ (.slice E1 t1.length m1)).setCell ⟨bx, 3, none⟩ (.slice E2 t2.length m2)).heap[bx]? = some (.cells #[.int .i64 k, .slice E0 t0.length m0, .slice E1 t1.length m1, .slice E2 t2.length m2] 100 (0, 0)) := box_store 3 _ BX2
        have q0 := (box_at BX0).2.1 1 _ rfl
        have f0 := (box_at BX0).2.2 1
        have q1 := (box_at BX1).2.1 2 _ rfl
        have f1 := (box_at BX1).2.2 2
        have c1 := fcell F1 (fun e => NBX.out e) c1
        have q2 := (box_at BX2).2.1 3 _ rfl
        have f2 := (box_at BX2).2.2 3
        have c2 := fcell F2 (fun e => NBX.out e) c2
        have R0 := Sec.mk (F3.R r0 (fun k h e => by have h1 := (sub 0 k h).1; have h2 := BXL.out; have h3 : k = bx := e; omega))
        have R1 := Sec.mk (F3.R r1 (fun k h e => by have h1 := (sub 1 k h).1; have h2 := BXL.out; have h3 : k = bx := e; omega))
        have R2 := Sec.mk (F3.R r2 (fun k h e => by have h1 := (sub 2 k h).1; have h2 := BXL.out; have h3 : k = bx := e; omega))
        have RX5 := Sec.mk ((F3.block _ (Array.getElem?_eq_some_iff.1 RX.out).1 (fun e => by have := BXG.out; have e : w.heap.size = bx := e; omega)).trans RX.out)
        have B5 := Sec.mk (F3.below B3.out (fun k h => by have := BXG.out; have h : k = bx := h; omega))
        have BX5 := Sec.mk BX3
        clear F0 BX0 F1 BX1 F2 BX2 F3 BX3 r0 r1 r2
        go_upto_region 25 with (fail)
        generalize (((w3.setCell ⟨bx, 1, none⟩ (.slice E0 t0.length m0)).setCell ⟨bx, 2, none⟩ (.slice E1 t1.length m1)).setCell ⟨bx, 3, none⟩ (.slice E2 t2.length m2)) = w5 at *
        clear c0 q0 f0 c1 q1 f1 c2 q2 f2
        have OG : Sec (kGoal.O w5 (fun k => w.heap.size + 1 < k) ⟨k, t0, t1, t2⟩ [.int .i64 k, .slice E0 t0.length m0, .slice E1 t1.length m1, .slice E2 t2.length m2]) := ⟨Kd.O_mono (kGoal_of R0.out R1.out R2.out (fun k h1 h2 => by have := d 0 1 k h1 h2; omega) (fun k h1 h2 => by have := d 0 2 k h1 h2; omega) (fun k h1 h2 => by have := d 1 2 k h1 h2; omega)) (fun k h _ => by
          have h2 := BXL.out
          have h4 := BXG.out
          rcases h with h | h | h
          · have h1 := (sub 0 k h).1; omega
          · have h1 := (sub 1 k h).1; omega
          · have h1 := (sub 2 k h).1; omega)⟩
        clear R0 R1 R2
        have X := (box_at BX5.out).2.1
        have y0 := X 0 _ rfl
        have y1 := X 1 _ rfl
        have y2 := X 2 _ rfl
        have y3 := X 3 _ rfl
        clear X
        cases HQ : goalOk ⟨k, t0, t1, t2⟩ with
        | false =>
          go_wp2_with (first | (go_at_call 145; go_loud (refine (specGoalOk_c ⟨k, t0, t1, t2⟩ _ _ w5 (kGoal.O_K OG.out)).mono ?_; rw [HQ]; rintro e w6 ⟨rfl, hb6⟩; have RX6 := Sec.mk ((hb6.block _ (Array.getElem?_eq_some_iff.1 RX5.out).1).trans RX5.out); have B6 := Sec.mk (bel B5.out hb6); have BX6 := Sec.mk ((hb6.block _ (Array.getElem?_eq_some_iff.1 BX5.out).1).trans BX5.out); have O6 := Sec.mk (Kd.O_below OG.out hb6); have X := (box_at BX6.out).2.1; have z0 := X 0 _ rfl; have z1 := X 1 _ rfl; have z2 := X 2 _ rfl; have z3 := X 3 _ rfl; clear X hb6 y0 y1 y2 y3)) | (with_reducible show wpList _ _ _ (⟨none, .store 100 (.tmp 2) (.tmp 110), _, _, _, _⟩ :: _) _ _; refine wpList_store (cs := [.int .i64 0, .slice none 0 0, .slice none 0 0, .slice none 0 0]) (old := #[.int .i64 0, .slice none 0 0, .slice none 0 0, .slice none 0 0]) rfl 100 (.tmp 2) (.tmp 110) rfl rfl rfl RX6.out (by kernel_rfl) rfl (kGoal.K_one (kGoal.O_K (kGoal_zero w))) ?_; intro w8 hb8 hF8; have B8 := Sec.mk hb8; have F8 := Sec.mk hF8; clear hb8 hF8))
          exact bodyPost_ret (results_cell2 rfl rfl rfl B8.out hu2 rfl (by kernel_rfl)) rfl ⟨zeroGoal, _, false, rfl, Kd.O_mono (kGoal_zero _) (fun k h _ => h.elim), F8.out.below B6.out (fun k h => Nat.le_of_eq (show k = w.heap.size from h).symm)⟩
        | true =>
          go_wp2_with (first | (go_at_call 145; go_loud (refine (specGoalOk_c ⟨k, t0, t1, t2⟩ _ _ w5 (kGoal.O_K OG.out)).mono ?_; rw [HQ]; rintro e w6 ⟨rfl, hb6⟩; have RX6 := Sec.mk ((hb6.block _ (Array.getElem?_eq_some_iff.1 RX5.out).1).trans RX5.out); have B6 := Sec.mk (bel B5.out hb6); have BX6 := Sec.mk ((hb6.block _ (Array.getElem?_eq_some_iff.1 BX5.out).1).trans BX5.out); have O6 := Sec.mk (Kd.O_below OG.out hb6); have X := (box_at BX6.out).2.1; have z0 := X 0 _ rfl; have z1 := X 1 _ rfl; have z2 := X 2 _ rfl; have z3 := X 3 _ rfl; clear X hb6 y0 y1 y2 y3)) | (with_reducible show wpList _ _ _ (⟨none, .store 100 (.tmp 2) (.tmp 111), _, _, _, _⟩ :: _) _ _; refine wpList_store (cs := [.int .i64 k, .slice E0 t0.length m0, .slice E1 t1.length m1, .slice E2 t2.length m2]) (old := #[.int .i64 0, .slice none 0 0, .slice none 0 0, .slice none 0 0]) rfl 100 (.tmp 2) (.tmp 111) rfl rfl rfl RX6.out (by kernel_rfl) rfl (kGoal.K_one (kGoal.O_K O6.out)) ?_; intro w8 hb8 hF8; have B8 := Sec.mk hb8; have F8 := Sec.mk hF8; clear hb8 hF8))
          exact bodyPost_ret (results_cell2 rfl rfl rfl B8.out hu2 rfl (by kernel_rfl)) rfl ⟨⟨k, t0, t1, t2⟩, _, true, rfl, Kd.O_mono (F8.out.O O6.out (fun k h e => by have e : k = w.heap.size := e; omega)) (fun k h _ => by omega), F8.out.below B6.out (fun k h => Nat.le_of_eq (show k = w.heap.size from h).symm)⟩
end
end Go.Proofs.YtgiobpggonceeaaGreatDoor
