/- Contracts: what a variable is bound to, what it leads to (the reference); and what goes with it. -/
import Derived.Test.YteflipoiiddkfaaGreatDoorMr3
import Derived.Test.YteflipoiiddkfaaGreatDoorMr4
namespace Go.Proofs.YteflipoiiddkfaaGreatDoor
section
open Go.RowKit
set_option linter.unusedVariables false
set_option maxRecDepth 100000
theorem bindAt {w : World} {okR okE : Nat → Prop} {A : Option Addr} {n c : Nat} {s : List Bind} (h : BV2 w okR okE (.slice A n c) s) (i : Nat) (hi : i < s.length) : ∃ b off v, A = some ⟨b, off, none⟩ ∧ w.cell? ⟨b, off + i * 2, none⟩ = some (.int .i64 s[i].v) ∧ w.cell? ⟨b, off + i * 2 + 1, none⟩ = some v ∧ kCell.V w okE v s[i].term := by
  obtain ⟨A', c', e, h1, h2, h3, h4⟩ := h
  simp only [Value.slice.injEq] at e
  obtain ⟨rfl, -, -⟩ := e
  rcases h4 with rfl | ⟨b, off, rfl, hb, hE⟩
  · simp at hi
  · obtain ⟨cs, hK, hc⟩ := hE i s[i] (List.getElem?_eq_getElem hi)
    obtain ⟨v1, rfl, hv⟩ := kBind_K hK
    exact ⟨b, off, v1, rfl, hc 0 _ rfl, hc 1 _ rfl, hv⟩
theorem l2Get_c (val : Value) (s : List Bind) (v : Int) (okR okE : Nat → Prop) (w : World) (hV : BV2 w okR okE val s) (hs : Nd s) :
    Calls Tryz.prog 92 #[val, .int .i64 v] w fun e w' => ∃ u, e = .returned u ∧ kCell.V w' okE u ((bget s v).getD []) ∧ Below w.heap.size w w' := by
  have HV := Sec.mk hV
  have HS := Sec.mk hs
  obtain ⟨A, c, rfl, h1, h2, h3, -⟩ := hV
  have hu := Tryz.underlying77
  clear hs
  go_enter Tryz.func92, Tryz.ntmps92
  go_wp2
  go_loop [5] (fun i => ∃ k : Nat, k ≤ s.length ∧ i = .int .i64 k ∧ Sec (∀ (j : Nat) (hj : j < s.length), j < k → s[j].v ≠ v)) (fun i => s.length - (intOf i).toNat)
  case atStart => exact ⟨0, Nat.zero_le _, rfl, ⟨fun j hj h => absurd h (Nat.not_lt_zero _)⟩⟩
  case round =>
    obtain ⟨k, hk, rfl, hr⟩ := hrel
    by_cases hlt : k < s.length
    · obtain ⟨b, off, u, rfl, c0, c1, hu1⟩ := bindAt HV.out k hlt
      have HU := Sec.mk hu1
      have HG := Sec.mk (bget_at HS.out hlt)
      have HN : Sec (s[k].v ≠ v → ∀ (j : Nat) (hj : j < s.length), j < k + 1 → s[j].v ≠ v) := ⟨fun h j hj h2 => by
        by_cases e : j = k
        · subst e; exact h
        · exact hr.out j hj (by omega)⟩
      generalize s[k] = x at *
      clear hu1
      by_cases hx : x.v = v
      · have hx' : (x.v == v) = true := beq_iff_eq.2 hx
        have HX := Sec.mk hx
        clear hx
        go_wp2
        go_ret
        rw [← HX.out, HG.out]
        exact ⟨_, rfl, HU.out, Below.refl _ _⟩
      · have hx' : (x.v == v) = false := beq_eq_false_iff_ne.2 hx
        have HX := Sec.mk (HN.out hx)
        clear hx
        go_wp2
        go_round
        case rel => exact ⟨k + 1, by omega, by go_num, HX⟩
        case measure => simp [intOf]; omega
    · have hn : Sec (bget s v = none) := ⟨bget_none.2 (fun ⟨b, hb, e⟩ => by
        obtain ⟨i, hi, rfl⟩ := List.mem_iff_getElem.1 hb
        exact hr.out i hi (by omega) e)⟩
      go_wp2
      go_ret
      rw [hn.out]
      exact ⟨_, rfl, ⟨_, 0, rfl, Nat.le_refl _, by simp [maxLen], by simp, .inl rfl, fun h => by cases h⟩, belA (Below.refl _ _) _⟩
theorem l2Walk_c (n : Nat) (val v : Value) (s : List Bind) (t u : Term) (okR ok : Nat → Prop) (w : World) (hs : BOk s) (hV : BV2 w okR ok val s) (hT : kCell.V w ok v t) (ht : trmOk t = true) (h : walkF s n t = some u) :
    Calls Tryz.prog 77 #[val, v] w fun e w' => ∃ z, e = .returned z ∧ kCell.V w' ok z u ∧ Below w.heap.size w w' := by
  have HV := Sec.mk hV
  have HS := Sec.mk hs
  have H0 : Sec (kCell.V w ok v t ∧ trmOk t = true ∧ walkF s n t = some u) := ⟨hT, ht, h⟩
  obtain ⟨Ab, cb, rfl⟩ := hV.form
  obtain ⟨At, ct, rfl, -⟩ := hT
  clear hs h ht hV
  go_enter Tryz.func77, Tryz.ntmps77
  go_wp2
  go_loopg [5] n (fun g tv wr => Sec (∃ t1, kCell.V wr ok tv t1 ∧ trmOk t1 = true ∧ walkF s g t1 = some u) ∧ Sec (Below w.heap.size w wr))
  case atStart => exact ⟨⟨t, H0.out⟩, ⟨Below.refl _ _⟩⟩
  case round =>
    obtain ⟨hr, hb⟩ := hrel
    obtain ⟨t1, h1, h2, h3⟩ := hr.out
    cases t1 with
    | nil => exact absurd (trmOk_len h2).1 (by simp)
    | cons c r =>
    cases gk with
    | zero => cases h3
    | succ g =>
    obtain ⟨b, off, cp, rfl, i0, c0, c1, c2⟩ := cV_cons h1
    have T1 := Sec.mk h1
    have i1 : (0 : Int) < ((r.length + 1 : Nat) : Int) := by omega
    rw [walkF] at h3
    clear hr h1
    by_cases hk : c.kind = 1
    · rw [if_pos hk] at h3
      have d1 : (c.kind == 1) = true := beq_iff_eq.2 hk
      clear hk
      cases hg : bget s c.n with
      | none =>
        rw [hg] at h3
        cases h3
        have HG := Sec.mk hg
        clear hg
        go_wp2_with (go_at_call 92; refine (l2Get_c _ s c.n okR ok _ (HV.out.below hb.out) HS.out.tri.nd).mono ?_; rw [HG.out]; rintro e w2 ⟨z, rfl, hz, hb2⟩; have hz2 : kCell.V w2 ok z [] := hz; obtain ⟨_, _, rfl, -⟩ := hz2; have B2 := Sec.mk (bel hb.out hb2); have T2 := Sec.mk (Kd.V_below T1.out hb2 (by decide)); clear hb2 hz c0 c1 c2)
        go_ret
        exact ⟨_, rfl, T2.out, B2.out⟩
      | some t2 =>
        rw [hg] at h3
        have HG := Sec.mk hg
        have HW := Sec.mk h3
        have ht2 := HS.out.get hg
        obtain ⟨c9, r9, h9⟩ : ∃ c9 r9, t2 = c9 :: r9 := by
          cases t2 with
          | nil => exact absurd (trmOk_len ht2).1 (by simp)
          | cons c9 r9 => exact ⟨c9, r9, rfl⟩
        have H9 := Sec.mk h9
        have i9 : (((r9.length + 1 : Nat) : Int) == 0) = false := beq_eq_false_iff_ne.2 (by omega)
        clear hg h3 h9
        go_wp2_with (go_at_call 92; refine (l2Get_c _ s c.n okR ok _ (HV.out.below hb.out) HS.out.tri.nd).mono ?_; rw [HG.out]; rintro e w2 ⟨z, rfl, hz, hb2⟩; have hz2 : kCell.V w2 ok z t2 := hz; have B2 := Sec.mk (bel hb.out hb2); have T2 := Sec.mk hz2; rw [H9.out] at hz2; obtain ⟨b9, off9, cp9, rfl, -⟩ := cV_cons hz2; clear hb2 hz hz2 c0 c1 c2)
        go_roundg g
        case rel => exact ⟨⟨t2, T2.out, ht2, HW.out⟩, B2⟩
        case measure => exact Nat.lt_succ_self _
    · rw [if_neg hk] at h3
      have d1 : (c.kind == 1) = false := beq_eq_false_iff_ne.2 hk
      cases h3
      clear hk
      go_wp2
      go_ret
      exact ⟨_, rfl, T1.out, hb.out⟩
end
section
open Go.RowKit
set_option linter.unusedVariables false
set_option maxRecDepth 100000
theorem free_nodup (t : Term) : (free t).Nodup := by
  have : ∀ (t : Term) (out : List Int), out.Nodup → (t.foldl freeStep out).Nodup := by
    intro t
    induction t with
    | nil => intro out h; exact h
    | cons c r ih =>
      intro out h
      rw [List.foldl_cons]
      refine ih _ ?_
      unfold freeStep
      split
      · rename_i hc
        rw [List.nodup_append]
        refine ⟨h, by simp, fun a ha b hb => ?_⟩
        rw [List.mem_singleton] at hb
        intro e
        exact hc.2 (by rw [← hb, ← e]; exact ha)
      · exact h
  exact this t [] List.nodup_nil
/-- So far come, over all that is known. -/
structure Leads (s : List Bind) (t : Term) (k : Nat) (out : List Int) : Prop where
  nd : out.Nodup
  rng : ∀ y ∈ out, 0 ≤ y ∧ y ≤ 99999
  src : ∀ y, vin y t → y ∈ out
  snd : ∀ y ∈ out, ∀ z, vin z (sig s y) → vin z (sub (sig s) t)
  cl : ∀ (j : Nat) (hj : j < out.length), j < k → ∀ t2, bget s out[j] = some t2 → ∀ z, vin z t2 → z ∈ out
theorem Leads.start (s : List Bind) {t : Term} (ht : trmOk t = true) : Leads s t 0 (free t) :=
  ⟨free_nodup t, fun y hy => mem_allV.1 (trmOk_V ht y (mem_free.1 hy)), fun y hy => mem_free.2 hy, fun y hy z hz => vin_sub.2 ⟨y, mem_free.1 hy, hz⟩, fun j hj h => absurd h (Nat.not_lt_zero _)⟩
theorem Leads.len {s : List Bind} {t : Term} {k : Nat} {out : List Int} (h : Leads s t k out) : out.length ≤ 100000 :=
  ints_le 100000 out h.nd (fun y hy => by have := h.rng y hy; omega)
theorem Leads.add {s : List Bind} {t t2 : Term} {k : Nat} {out : List Int} {y z : Int} (hs : BOk s) (h : Leads s t k out) (hy : out[k]? = some y) (hg : bget s y = some t2) (hz : vin z t2) (hn : z ∉ out) : Leads s t k (out ++ [z]) := by
  have hym : y ∈ out := List.mem_of_getElem? hy
  refine ⟨?_, fun x hx => ?_, fun x hx => List.mem_append_left _ (h.src x hx), fun x hx q hq => ?_, fun j hj hjk u hu q hq => ?_⟩
  · rw [List.nodup_append]
    refine ⟨h.nd, by simp, fun a ha b hb => ?_⟩
    rw [List.mem_singleton] at hb
    intro e
    exact hn (by rw [← hb, ← e]; exact ha)
  · rcases List.mem_append.1 hx with hx | hx
    · exact h.rng x hx
    · rw [List.mem_singleton] at hx
      rw [hx]
      exact mem_allV.1 (trmOk_V (hs.get hg) z hz)
  · rcases List.mem_append.1 hx with hx | hx
    · exact h.snd x hx q hq
    · rw [List.mem_singleton] at hx
      subst hx
      exact h.snd y hym q (by rw [sig_in hs.tri hg]; exact vin_sub.2 ⟨x, hz, hq⟩)
  · have hkl : k < out.length := (List.getElem?_eq_some_iff.1 hy).1
    have hjl : j < out.length := by omega
    rw [List.getElem_append_left hjl] at hu
    exact List.mem_append_left _ (h.cl j hjl hjk u hu q hq)
theorem Leads.next {s : List Bind} {t : Term} {k : Nat} {out : List Int} {y : Int} (h : Leads s t k out) (hy : out[k]? = some y) (hall : ∀ t2, bget s y = some t2 → ∀ z, vin z t2 → z ∈ out) : Leads s t (k + 1) out := by
  refine ⟨h.nd, h.rng, h.src, h.snd, fun j hj hjk u hu q hq => ?_⟩
  by_cases e : j = k
  · subst e
    rw [List.getElem?_eq_getElem hj] at hy
    cases hy
    exact hall u hu q hq
  · exact h.cl j hj (by omega) u hu q hq
theorem Leads.fin {s : List Bind} {t : Term} {k : Nat} {out : List Int} (hs : BOk s) (h : Leads s t k out) (hk : out.length ≤ k) {x : Int} (hx : bget s x = none) : x ∈ out ↔ vin x (sub (sig s) t) := by
  obtain ⟨rk, hrk⟩ := hs.tri.rank
  constructor
  · intro hm
    exact h.snd x hm x (by rw [sig_out hx]; exact ⟨_, List.mem_singleton.2 rfl, rfl, rfl⟩)
  · intro hv
    obtain ⟨y, hy, hxy⟩ := vin_sub.1 hv
    have : ∀ (m : Nat) (y : Int), rk y < m → y ∈ out → vin x (sig s y) → x ∈ out := by
      intro m
      induction m with
      | zero => intro y h0; exact absurd h0 (Nat.not_lt_zero _)
      | succ m ih =>
        intro y hm hy hxy
        cases hg : bget s y with
        | none =>
          rw [sig_out hg] at hxy
          obtain ⟨c, hc, h1, h2⟩ := hxy
          rw [List.mem_singleton] at hc
          subst hc
          have : x = y := h2.symm
          rw [this]; exact hy
        | some t2 =>
          rw [sig_in hs.tri hg] at hxy
          obtain ⟨z, hz, hxz⟩ := vin_sub.1 hxy
          obtain ⟨j, hj, rfl⟩ := List.mem_iff_getElem.1 hy
          exact ih z (Nat.lt_of_lt_of_le (hrk _ t2 hg z hz) (Nat.le_of_lt_succ hm)) (h.cl j hj (by omega) t2 hg z hz) hxz
    exact this (rk y + 1) y (Nat.lt_succ_self _) (h.src y hy) hxy
theorem R_appS {α : Type} (d : Kd α) {P : Program} {ops : Array Oper} {rest : List Oper} {o : Oper} {a : Act} {Q : Exit → Act → World → Prop} {W : World} (hgd : o.guard = none) (s x : Operand) (t : TypeId) (z : Value) (bytes : Nat)
    (ho : o.op = .call { callee := .builtin .append, args := #[s, x], argTypes := #[t, t] })
    (ht : P.underlying t = some (.slice d.ty)) (hinfo : (P.info? d.ty).map (fun i => (i.zero, i.size, i.bytes)) = some (some z, d.sz, bytes)) (hz : z.cells.size = d.sz) (hs0 : 0 < d.sz) (hb0 : bytes ≤ 256)
    (v : Value) (xs : List α) (p : α) (cs : List Value) (S : Nat → Prop) (hs : a.eval s = v) {N : Nat} (hx : a.eval x = .slice (some ⟨N, 0, none⟩) 1 1) (hN : N = W.heap.size) (HO : d.R W S v xs) (hp : d.O W (fun _ => False) p cs)
    (hl : xs.length + 1 ≤ 1073741824)
    (h : ∀ v1 w1, d.R w1 (fun k => S k ∨ W.heap.size ≤ k) v1 (xs ++ [p]) → W.grownBy w1 v.ownBlock → (∀ k, v.ownBlock = some k → S k) → wpList P ops Q rest (a.put o.dst v1) w1) :
    wpList P ops Q (o :: rest) a (W.alloc (.cells cs.toArray d.ty)) := by
  subst hN
  obtain ⟨_, _, _, h3⟩ := Kd.R_own HO
  refine Kd.R_append d hgd s x t z bytes ho ht hinfo hz hs0 hb0 v xs p cs S (fun _ => False) hs hx HO hp (fun k h1 _ _ => h1) hl ?_
  intro v1 w1 hR hg
  exact h v1 w1 (Kd.R_mono hR (fun k h1 _ => by rcases h1 with h1 | h1 | h1; exact .inl h1; exact h1.elim; exact .inr h1)) hg (fun k hk => (h3 k hk).1)
set_option maxHeartbeats 2000000 in
theorem l2Leads_c (val v : Value) (s : List Bind) (t : Term) (okR ok : Nat → Prop) (w : World) (hs : BOk s) (hV : BV2 w okR ok val s) (hT : kCell.V w ok v t) (ht : trmOk t = true) :
    Calls Tryz.prog 93 #[val, v] w fun e w' => ∃ u l, e = .returned u ∧ kInt.R w' (fun k => w.heap.size ≤ k) u l ∧ (∀ x, bget s x = none → (x ∈ l ↔ vin x (sub (sig s) t))) ∧ Below w.heap.size w w' := by
  have HV := Sec.mk hV
  have HS := Sec.mk hs
  have HT := Sec.mk hT
  have HTT := Sec.mk ht
  obtain ⟨Ab, cb, rfl⟩ := hV.form
  clear hs hV hT ht
  go_enter Tryz.func93, Tryz.ntmps93
  go_wp2_with (go_at_call 75; refine (TrmFree_c _ t ok _ HT.out).mono ?_; rintro e w1 ⟨u, rfl, hR, hb⟩; have R1 := Sec.mk hR; have B1 := Sec.mk hb; clear hR hb)
  go_loopw [5, 6] (fun ov iv wr => ∃ (k : Nat) (out : List Int), k ≤ out.length ∧ iv = .int .i64 k ∧ Sec (kInt.R wr (fun k => w.heap.size ≤ k) ov out) ∧ Sec (Leads s t k out) ∧ Sec (Below w.heap.size w wr)) (fun _ iv _ => 100001 - (intOf iv).toNat)
  case atStart => exact ⟨0, free t, Nat.zero_le _, rfl, R1, ⟨Leads.start s HTT.out⟩, B1⟩
  case round =>
    obtain ⟨k, out, hk, rfl, hR, hL, hb⟩ := hrel
    obtain ⟨A, c, rfl, hc1, hc2⟩ := Kd.R_form hR.out
    have hlen : out.length ≤ 100000 := hL.out.len
    by_cases hlt : k < out.length
    · obtain ⟨b, off, rfl, -, x0⟩ := int_at (Kd.V_C (Kd.R_V hR.out)) k hlt
      have HY : Sec (out[k]? = some out[k]) := ⟨List.getElem?_eq_getElem hlt⟩
      generalize out[k] = y at *
      have i0 : (0 : Int) ≤ (k : Int) := by omega
      have i1 : (k : Int) < (out.length : Int) := by omega
      have i2 : IntKind.i64.wrap ((k : Int) + 1) = ((k + 1 : Nat) : Int) := by rw [show ((k : Int) + 1) = ((k + 1 : Nat) : Int) by omega]; exact IntWalk.i64_in _ (by omega)
      go_wp2_with (first | (go_at_call 75; refine (TrmFree_c _ _ ok _ V2.out).mono ?_; rintro e w3 ⟨mv, rfl, hR3, hb3⟩; obtain ⟨A3, c3, rfl, -, -⟩ := Kd.R_form hR3; have R3 := Sec.mk hR3; have B3 := Sec.mk (bel B2.out hb3); have D3 := Sec.mk hb3; clear hR3 hb3) | (go_at_call 92; refine (l2Get_c _ s y okR ok _ (HV.out.below hb.out) HS.out.tri.nd).mono ?_; rintro e w2 ⟨z, rfl, hz, hb2⟩; have V2 := Sec.mk hz; have B2 := Sec.mk (bel hb.out hb2); have D2 := Sec.mk hb2; clear hz hb2))
      obtain ⟨M, hM⟩ : ∃ M, free ((bget s y).getD []) = M := ⟨_, rfl⟩
      have HMV : Sec (∀ z ∈ M, ∃ t2, bget s y = some t2 ∧ vin z t2) := ⟨fun z hz => by
        rw [← hM, mem_free] at hz
        cases hg : bget s y with
        | none => rw [hg] at hz; obtain ⟨c, hc, _⟩ := hz; simp at hc
        | some t2 => rw [hg] at hz; exact ⟨t2, rfl, hz⟩⟩
      have HMA : Sec (∀ t2, bget s y = some t2 → ∀ z, vin z t2 → z ∈ M) := ⟨fun t2 hg z hz => by rw [← hM, mem_free, hg]; exact hz⟩
      have hml : M.length ≤ 1073741824 := by obtain ⟨_, _, _, _, _, h, _⟩ := Kd.R_V R3.out; rw [hM] at h; exact h
      have HM := Sec.mk hM
      rw [hM]
      clear hM
      go_loopw [5, 8] (fun ov jv wq => ∃ (j : Nat) (o2 : List Int), j ≤ M.length ∧ jv = .int .i64 j ∧ Sec (kInt.R wq (fun k => w.heap.size ≤ k ∧ ¬ (w2.heap.size ≤ k ∧ k < w3.heap.size)) ov o2) ∧ Sec (kInt.V wq (fun k => w2.heap.size ≤ k ∧ k < w3.heap.size) (.slice A3 M.length c3) M) ∧ Sec (Leads s t k o2 ∧ o2[k]? = some y ∧ ∀ z ∈ M.take j, z ∈ o2) ∧ Sec (Below w.heap.size w wq ∧ w3.heap.size ≤ wq.heap.size)) (fun _ jv _ => M.length - (intOf jv).toNat)
      case atStart => exact ⟨0, out, Nat.zero_le _, rfl, ⟨Kd.R_move (fun k h hl => ⟨⟨h, fun h2 => by have := D2.out.size; omega⟩, (bel D2.out D3.out).block k hl⟩) hR.out⟩, ⟨by rw [← HM.out]; exact Kd.V_move (Keeps.mono fun k h hl => ⟨h, hl⟩) (Kd.R_V R3.out) (by decide)⟩, ⟨hL.out, HY.out, by simp⟩, ⟨B3.out, Nat.le_refl _⟩⟩
      case round =>
        obtain ⟨j, o2, hj, rfl, hR2, hV2, hL2, hb2⟩ := hrel
        obtain ⟨A4, c4, rfl, -, -⟩ := Kd.R_form hR2.out
        have hlen2 := hL2.out.1.len
        have hkl2 : k < o2.length := (List.getElem?_eq_some_iff.1 hL2.out.2.1).1
        by_cases hlj : j < M.length
        · obtain ⟨b4, off4, rfl, -, z0⟩ := int_at (Kd.V_C hV2.out) j hlj
          have HT2 : Sec (M.take (j + 1) = M.take j ++ [M[j]]) := ⟨List.take_succ_eq_append_getElem hlj⟩
          have HZ := Sec.mk (HMV.out _ (List.getElem_mem hlj))
          generalize M[j] = z at *
          have hVo := Sec.mk (Kd.R_V hR2.out)
          have j0 : (0 : Int) ≤ (j : Int) := by omega
          have j1 : (j : Int) < (M.length : Int) := by omega
          by_cases hm : z ∈ o2
          · have HAL : Sec (∀ q ∈ M.take (j + 1), q ∈ o2) := ⟨fun q hq => by
              rw [HT2.out] at hq
              rcases List.mem_append.1 hq with hq | hq
              · exact hL2.out.2.2 q hq
              · rw [List.mem_singleton] at hq; rw [hq]; exact hm⟩
            have Hm := Sec.mk hm
            clear hm
            go_wp2_with (go_at_call 91; refine (l1Has_c _ _ _ _ _ hVo.out).mono ?_; rw [decide_eq_true Hm.out]; rintro e w' ⟨rfl, rfl⟩)
            go_roundw
            case rel => exact ⟨j + 1, o2, by omega, by go_num, hR2, hV2, ⟨hL2.out.1, hL2.out.2.1, HAL.out⟩, hb2⟩
            case measure => simp [intOf]; omega
          · have Hm := Sec.mk hm
            have HLA : Sec (Leads s t k (o2 ++ [z])) := ⟨by obtain ⟨t2, h1, h2⟩ := HZ.out; exact hL2.out.1.add HS.out hL2.out.2.1 h1 h2 hm⟩
            have HAL : Sec (∀ q ∈ M.take (j + 1), q ∈ o2 ++ [z]) := ⟨fun q hq => by
              rw [HT2.out] at hq
              rcases List.mem_append.1 hq with hq | hq
              · exact List.mem_append_left _ (hL2.out.2.2 q hq)
              · exact List.mem_append_right _ hq⟩
            clear hm
            go_wp2_with (first | (go_at_call 91; refine (l1Has_c _ _ _ _ _ hVo.out).mono ?_; rw [decide_eq_false Hm.out]; rintro e w' ⟨rfl, rfl⟩) | (at_builtin; refine R_appS kInt (W := wr) rfl (.tmp 37) (.tmp 42) 96 (.int .i64 0) 8 rfl Tryz.underlying96 info_int rfl (by decide) (by decide) _ _ z [.int .i64 z] _ rfl rfl rfl hR2.out (int_O _ _ _) (by omega) ?_; intro v1 w5 hR5 hg5 hS5; have R5 := Sec.mk hR5; have G5 := Sec.mk hg5; have S5 := Sec.mk hS5; clear hR5 hg5 hS5))
            go_roundw
            case rel => exact ⟨j + 1, _, by omega, by go_num, ⟨Kd.R_mono R5.out (fun q h _ => h.elim id (fun h => ⟨Nat.le_trans hb2.out.1.size h, fun h2 => by have := hb2.out.2; omega⟩))⟩, ⟨Kd.V_move (fun q h hl => ⟨h, G5.out.block q hl (fun e => (S5.out q e.symm).2 h)⟩) hV2.out (by decide)⟩, ⟨HLA.out, by rw [List.getElem?_append_left hkl2]; exact hL2.out.2.1, HAL.out⟩, ⟨hb2.out.1.grown G5.out hb2.out.1.size (fun q e => (S5.out q e).1), Nat.le_trans hb2.out.2 G5.out.size⟩⟩
            case measure => simp [intOf]; omega
        · have HNX : Sec (Leads s t (k + 1) o2) := ⟨hL2.out.1.next hL2.out.2.1 (fun t2 hg q hq => hL2.out.2.2 q (by rw [List.take_of_length_le (by omega)]; exact HMA.out t2 hg q hq))⟩
          go_wp2
          go_roundw
          case rel => exact ⟨k + 1, o2, by omega, by go_num, ⟨Kd.R_mono hR2.out (fun q h _ => h.1)⟩, HNX, ⟨hb2.out.1⟩⟩
          case measure => simp [intOf]; omega
    · have HF : Sec (∀ x, bget s x = none → (x ∈ out ↔ vin x (sub (sig s) t))) := ⟨fun x hx => hL.out.fin HS.out (by omega) hx⟩
      go_wp2
      go_ret
      exact ⟨_, out, rfl, hR.out, HF.out, hb.out⟩
end
section
open Go.RowKit
set_option linter.unusedVariables false
set_option maxRecDepth 100000
/-- What a way of the reference's unification leaves. -/
def SPost (w w' : World) (own : Option Nat) (okE : Nat → Prop) (e : Ending) (r : Option (List Bind)) : Prop := Foot (fun k => own = some k) w w' ∧
  (match r with
   | none => ∃ v0, e = .returned (.tuple #[v0, .bool false])
   | some s1 => ∃ (v1 : Value) (okF : Nat → Prop), e = .returned (.tuple #[v1, .bool true]) ∧ (∀ k, okF k → w.heap.size ≤ k ∧ k < w'.heap.size) ∧ kBind.W w' (fun k => (own = some k ∨ w.heap.size ≤ k) ∧ ¬ okF k) (fun k => okE k ∨ okF k) v1 s1)
theorem W_self {α : Type} {d : Kd α} {w : World} {S ok : Nat → Prop} {v : Value} {xs : List α} (h : d.W w S ok v xs) : d.W w (fun k => v.ownBlock = some k) ok v xs := by
  obtain ⟨h0, ⟨rfl, rfl⟩ | ⟨b, cap, cur, rfl, hb, hS, h1, h2, h3, h4⟩⟩ := h
  · exact Kd.W_nil _ _ _ _
  · exact ⟨h0, .inr ⟨b, cap, cur, rfl, hb, by simp [Value.ownBlock], h1, h2, h3, h4⟩⟩
theorem spost_own {w w2 w3 w4 : World} {S okE : Nat → Prop} {v v1 : Value} {s s1 : List Bind} (h : kBind.W w S okE v s) (b2 : Below w.heap.size w w2) (b3 : Below w2.heap.size w2 w3) (hg : w3.grownBy w4 v.ownBlock)
    (hW : kBind.W w4 (fun k => v.ownBlock = some k ∨ w3.heap.size ≤ k) (fun k => okE k ∨ (w2.heap.size ≤ k ∧ k < w3.heap.size)) v1 s1) : SPost w w4 v.ownBlock okE (.returned (.tuple #[v1, .bool true])) (some s1) := by
  obtain ⟨_, _, _, hS⟩ := Kd.W_own h
  have e2 := b2.size
  have e3 := b3.size
  have e4 := hg.size
  refine ⟨(Foot.of_below (S := fun k => v.ownBlock = some k) (bel b2 b3)).trans (S' := fun k => v.ownBlock = some k) (foot_grown hg (fun k e => e)) (fun _ _ h => h), v1, fun k => w2.heap.size ≤ k ∧ k < w3.heap.size, rfl, fun k h => by omega, ?_⟩
  refine Kd.W_move (Keeps.mono fun k hk _ => ?_) (Keeps.mono fun k hk _ => hk) hW
  rcases hk with hk | hk
  · exact ⟨.inl hk, fun h => by have := (hS k hk).2; omega⟩
  · exact ⟨.inr (by omega), fun h => by omega⟩
theorem W_later2 {w w2 w3 : World} {S okE : Nat → Prop} {v : Value} {s : List Bind} (h : kBind.W w S okE v s) (b2 : Below w.heap.size w w2) (b3 : Below w2.heap.size w2 w3) :
    kBind.W w3 (fun k => v.ownBlock = some k) (fun k => okE k ∨ (w2.heap.size ≤ k ∧ k < w3.heap.size)) v s :=
  Kd.W_move (fun k hk hl => ⟨hk, (bel b2 b3).block k hl⟩) (fun k hk hl => ⟨.inl hk, (bel b2 b3).block k hl⟩) (W_self h)
theorem K_later2 {w w2 w3 : World} {S okE : Nat → Prop} {v : Value} {s : List Bind} {p : Bind} {cs : List Value} (h : kBind.W w S okE v s) (b2 : Below w.heap.size w w2)
    (hp : kBind.K w3 (fun k => w2.heap.size ≤ k ∧ k < w3.heap.size) p cs) : kBind.K w3 (fun k => (okE k ∨ (w2.heap.size ≤ k ∧ k < w3.heap.size)) ∧ some k ≠ v.ownBlock) p cs := by
  obtain ⟨_, _, _, hS⟩ := Kd.W_own h
  refine Kd.K_mono hp (fun k hk => ⟨.inr hk, fun e => ?_⟩)
  have := (hS k e.symm).2
  have := b2.size
  omega
set_option maxHeartbeats 2000000 in
theorem l2Bind_c {s : List Bind} (hs : BOk s) (n : Nat) (x : Int) (hx : bget s x = none) (val v : Value) (t : Term) (S okE : Nat → Prop) (w : World) (hU : kBind.W w S okE val s) (hT : kCell.V w okE v t) (ht : trmOk t = true) (r : Option (List Bind)) (h : bindF s n x t = some r) :
    Calls Tryz.prog 78 #[val, .int .i64 x, v] w fun e w' => SPost w w' val.ownBlock okE e r := by
  have hr := bindF_eq hs ht h
  have HLEN := Sec.mk hs.len
  have HT := Sec.mk hT
  have HU := Sec.mk hU
  have HX := Sec.mk hx
  have HC := Sec.mk (l2Leads_c val v s t _ okE w hs (W_BV2 hU) hT ht)
  have htl := trmOk_len ht
  obtain ⟨Ab, cb, rfl, -, -, -⟩ := Kd.W_form hU
  obtain ⟨At, ct, rfl, -⟩ := hT
  clear h hx hs hU
  cases hc : vinB x (sub (sig s) t) with
  | true =>
    have HE := Sec.mk (vinB_iff.1 hc)
    have HR : Sec (r = none) := ⟨by rw [hr, if_pos hc]⟩
    clear hr hc
    go_enter Tryz.func78, Tryz.ntmps78
    go_wp2_with (first | (go_at_call 91; refine (l1Has_c _ l x _ _ (Kd.R_V RL.out)).mono ?_; rw [decide_eq_true HM.out]; rintro e w' ⟨rfl, rfl⟩) | (go_at_call 93; refine HC.out.mono ?_; rintro e w1 ⟨u, l, rfl, hRl, hl, hb⟩; have RL := Sec.mk hRl; have HM : Sec (x ∈ l) := ⟨(hl x HX.out).2 HE.out⟩; have B1 := Sec.mk hb; clear hRl hl hb))
    refine bodyPost_ret (v := .tuple #[.slice (some ⟨w1.heap.size, 0, none⟩) 0 0, .bool false]) (by simp [results, Tryz.results78, go_sem]) rfl ?_
    rw [HR.out]
    have b2 := belA B1.out (.cells #[] 110)
    exact ⟨Foot.of_below b2, _, rfl⟩
  | false =>
    have HE : Sec (¬ vin x (sub (sig s) t)) := ⟨fun h => by rw [vinB_iff.2 h] at hc; cases hc⟩
    have HR : Sec (r = some (s ++ [⟨x, t⟩])) := ⟨by rw [hr, hc]; rfl⟩
    clear hr hc
    go_enter Tryz.func78, Tryz.ntmps78
    go_wp2_with (first | (go_at_call 91; refine (l1Has_c _ l x _ _ (Kd.R_V RL.out)).mono ?_; rw [decide_eq_false HM.out]; rintro e w' ⟨rfl, rfl⟩) | (go_at_call 93; refine HC.out.mono ?_; rintro e w1 ⟨u, l, rfl, hRl, hl, hb⟩; have RL := Sec.mk hRl; have HM : Sec (¬ x ∈ l) := ⟨fun h => HE.out ((hl x HX.out).1 h)⟩; have B1 := Sec.mk hb; have V1 := Sec.mk (Kd.V_below HT.out hb (by decide)); clear hRl hl hb) | (at_builtin; refine Kd.W_cat kCell rfl (.tmp 16) (.tmp 17) 30 (.agg #[.int .i64 0, .int .i64 0, .string ⟨#[]⟩]) 32 rfl Tryz.underlying30 info_cell rfl (by decide) (by decide) (.slice (some ⟨w1.heap.size, 0, none⟩) 0 0) (.slice At t.length ct) [] t (fun k => w1.heap.size ≤ k) (fun k => k < w1.heap.size) rfl rfl (Kd.W_empty kCell w1 _ _ (Nat.le_refl _)) (Kd.V_move (fun k hk hl => ⟨⟨hl, fun e => absurd (show k = w1.heap.size by simpa [Value.ownBlock] using e) (by omega)⟩, Below.heap_alloc _ _ _ hl⟩) V1.out (by decide)) (by simpa using (show t.length ≤ 1073741824 by omega)) ?_; intro v1 w3 hW hg; have hRc := kCell_W_R hW; rw [List.nil_append] at hRc; obtain ⟨Ac, cc, rfl, -, -⟩ := Kd.R_form hRc; have D3 := Sec.mk ((belA (Below.refl w1.heap.size w1) _).grown hg (by simp) (fun k e => Nat.le_of_eq (show w1.heap.size = k by simpa [Value.ownBlock] using e))); have K3 : Sec (kBind.K w3 (fun k => w1.heap.size ≤ k ∧ k < w3.heap.size) ⟨x, t⟩ [.int .i64 x, .slice Ac t.length cc]) := ⟨kBind_mkK (Kd.V_move (fun k h1 h2 => ⟨⟨h1.elim id (fun h => by simp at h; omega), h2⟩, rfl⟩) (Kd.R_V hRc) (by decide))⟩; clear hW hg hRc) | (at_builtin; refine Kd.W_app kBind rfl (.tmp 14) (.tmp 20) 85 (.agg #[.int .i64 0, .slice none 0 0]) 32 rfl Tryz.underlying85 info_bnd rfl (by decide) (by decide) _ s ⟨x, t⟩ [.int .i64 x, .slice Ac t.length cc] (fun k => (Value.slice Ab s.length cb).ownBlock = some k) (fun k => okE k ∨ (w1.heap.size ≤ k ∧ k < w3.heap.size)) rfl rfl rfl (W_later2 HU.out B1.out D3.out) (K_later2 HU.out B1.out K3.out) (by have := HLEN.out; omega) ?_; intro v1 w4 hW4 hg4; have W4 := Sec.mk hW4; have G4 := Sec.mk hg4; clear hW4 hg4))
    refine bodyPost_ret (v := .tuple #[v1, .bool true]) (by simp [results, Tryz.results78, go_sem]) rfl ?_
    rw [HR.out]
    exact spost_own HU.out B1.out D3.out G4.out W4.out
end
section
open Go.RowKit
set_option linter.unusedVariables false
set_option maxRecDepth 100000
/-- Where an argument begins. -/
def offs (L : List Term) (k : Nat) : Nat := 1 + (L.take k).flatten.length
theorem offs_succ {L : List Term} {k : Nat} (hk : k < L.length) : offs L (k + 1) = offs L k + L[k].length := by
  unfold offs
  rw [List.take_succ_eq_append_getElem hk, List.flatten_append, List.length_append]
  simp
  omega
theorem args_split {c : Cell} {r : Term} {L : List Term} (h : Trm (c :: r)) (hL : args (c :: r) = L) (k : Nat) : c :: r = (c :: (L.take k).flatten) ++ (L.drop k).flatten := by
  have h1 := h.eq.1
  rw [hL] at h1
  rw [List.cons_append, ← List.flatten_append, List.take_append_drop, ← h1]
theorem endAt_offs {c : Cell} {r : Term} {L : List Term} (h : Trm (c :: r)) (hL : args (c :: r) = L) {k : Nat} (hk : k < L.length) : endAt (c :: r) (offs L k) = (offs L (k + 1) : Int) := by
  have h1 := args_split h hL k
  have hlen : (c :: (L.take k).flatten).length = offs L k := by unfold offs; simp; omega
  have hd : (c :: r).drop (offs L k) = (L.drop k).flatten := by
    rw [h1, ← hlen, List.drop_left]
  have ha : Trm L[k] := by
    have := h.eq.2.2
    rw [hL] at this
    exact this _ (List.getElem_mem hk)
  unfold endAt
  rw [hd, List.drop_eq_getElem_cons hk, List.flatten_cons, ha.skip]
  have h2 := args_split h hL (k + 1)
  have hlen2 : (c :: (L.take (k + 1)).flatten).length = offs L (k + 1) := by unfold offs; simp; omega
  have h3 := congrArg List.length h2
  rw [List.length_append, hlen2] at h3
  show ((c :: r).length : Int) - ((L.drop (k + 1)).flatten.length : Int) = _
  omega
set_option maxHeartbeats 1000000 in
theorem l1Arg_c (v : Value) (c : Cell) (r : Term) (L : List Term) (k : Nat) (ok : Nat → Prop) (w : World) (hV : kCell.V w ok v (c :: r)) (ht : trmOk (c :: r) = true) (hL : args (c :: r) = L) (hk : k < L.length) (hk3 : c.kind = 3) :
    Calls Tryz.prog 79 #[v, .int .i64 k] w fun e w' => ∃ u, e = .returned u ∧ kCell.R w' (fun k => w.heap.size ≤ k) u L[k] ∧ Below w.heap.size w w' := by
  have HTR := Sec.mk (trmOk_Trm ht)
  have HL := Sec.mk hL
  have htl := trmOk_len ht
  have hcn : (L.length : Int) = c.n := by
    have h1 := (trmOk_Trm ht).eq.2.1
    rw [hL] at h1
    have h2 := (cellOk_arity (trmOk_cell ht List.mem_cons_self)).2 hk3
    rw [h1]
    unfold arity
    rw [if_pos hk3]
    omega
  have hk4 : k < 4 := by
    have h1 := (trmOk_Trm ht).eq.2.1
    rw [hL] at h1
    have h2 := (cellOk_arity (trmOk_cell ht List.mem_cons_self)).1
    omega
  have HALL : Sec ((c :: r).all cellOk = true) := ⟨List.all_eq_true.2 (fun x hx => trmOk_cell ht hx)⟩
  have HV := Sec.mk hV
  obtain ⟨b, off, cp, rfl, i0, c0, c1, c2⟩ := cV_cons hV
  have hlen : (c :: (L.take k).flatten).length = offs L k := by unfold offs; simp; omega
  have hsp := args_split (trmOk_Trm ht) hL k
  rw [List.drop_eq_getElem_cons hk, List.flatten_cons] at hsp
  have hla := congrArg List.length hsp
  rw [List.length_append, List.length_append, hlen] at hla
  have hos := offs_succ hk
  have hla2 : L[k].length ≠ 0 := by
    have := (trmOk_Trm ht).eq.2.2
    rw [hL] at this
    have := (this _ (List.getElem_mem hk)).ne
    exact fun e => this (List.eq_nil_of_length_eq_zero e)
  have HVA := Sec.mk hV
  rw [show r.length + 1 = (c :: r).length from rfl] at HVA
  have hva := HVA.out
  rw [hsp] at hva
  have hva2 := cV_take (cV_from hva)
  rw [hlen] at hva2
  have HVX := Sec.mk hva2
  have d1 : (c.kind != 3) = false := by rw [bne_eq_false_iff_eq]; exact hk3
  have d2 : ((k : Int) < 0) = False := eq_false (by omega)
  have d3 : ((k : Int) ≥ c.n) = False := eq_false (by omega)
  have i1 : (0 : Int) < ((r.length + 1 : Nat) : Int) := by omega
  have HOS := Sec.mk hos
  have HEQ : Sec (∀ i, i < L.length → endAt (c :: r) (offs L i) = (offs L (i + 1) : Int)) := ⟨fun i hi => endAt_offs HTR.out HL.out hi⟩
  have hrl : r.length + 1 ≤ 40 := htl.2
  have hol : Sec (∀ i, i ≤ L.length → offs L i ≤ r.length + 1) := ⟨fun i hi => by
    have h1 := congrArg List.length (args_split HTR.out HL.out i)
    rw [List.length_append] at h1
    have : (c :: (L.take i).flatten).length = offs L i := by unfold offs; simp; omega
    rw [this] at h1
    simp only [List.length_cons] at h1
    omega⟩
  have hC : Sec (kCell.C w ok (some ⟨b, off, none⟩) (c :: r)) := ⟨Kd.V_C HVA.out⟩
  simp only [List.length_cons] at hla
  have HLA := Sec.mk hla
  have hofl : Sec (offs L k + L[k].length ≤ r.length + 1) := ⟨by omega⟩
  clear hla hva hva2 hsp htl hV ht hL HVA hk3 hcn hos
  go_enter Tryz.func79, Tryz.ntmps79
  go_wp2
  go_loop [5, 6] (fun av jv => ∃ i : Nat, i ≤ k ∧ jv = .int .i64 i ∧ av = .int .i64 (offs L i)) (fun _ jv => k - (intOf jv).toNat)
  case atStart => exact ⟨0, Nat.zero_le _, rfl, by simp [offs]⟩
  case round =>
    obtain ⟨i, hi, rfl, rfl⟩ := hrel
    by_cases hlt : i < k
    · have he := Sec.mk (HEQ.out i (by omega))
      have ho := hol.out i (by omega)
      have HLE := Sec.mk (l1End_c (some ⟨b, off, none⟩) cp (c :: r) ok (offs L i) w hC.out (by simp; omega) (by simpa using ho) HALL.out)
      have HI : Sec (i + 1 ≤ k ∧ k - (i + 1) < k - i) := ⟨by omega, by omega⟩
      clear ho
      go_wp2_with (go_at_call 65; refine HLE.out.mono ?_; rw [he.out]; rintro e w' ⟨rfl, rfl⟩)
      go_round
      case rel => exact ⟨i + 1, HI.out.1, by go_num, rfl⟩
      case measure => have := HI.out; simp [intOf]; omega
    · obtain rfl : i = k := by omega
      have he : Sec (endAt (c :: r) (offs L i) = ((offs L i + L[i].length : Nat) : Int)) := ⟨by rw [HEQ.out i hk, HOS.out]⟩
      have ho := hol.out i (by omega)
      have HLE := Sec.mk (l1End_c (some ⟨b, off, none⟩) cp (c :: r) ok (offs L i) (w.alloc (.cells #[] 77)) (Kd.C_below hC.out (belA (Below.refl _ _) _) (by decide)) (by simp; omega) (by simpa using ho) HALL.out)
      have hnl : Sec (L[i].length ≤ 1073741824) := ⟨by obtain ⟨_, _, _, _, _, h, _⟩ := HVX.out; exact h⟩
      have hcp : r.length + 1 ≤ cp := by obtain ⟨_, _, e, h, _⟩ := HV.out; simp only [Value.slice.injEq] at e; obtain ⟨-, -, rfl⟩ := e; exact h
      have hofl2 := hofl.out
      clear ho d2 d3
      generalize offs L i = P at *
      generalize hl1 : L[i] = l1 at *
      have HL1 := Sec.mk hl1
      clear hl1
      generalize hnn : l1.length = nn at *
      have j1 : (P : Int) ≤ ((P + nn : Nat) : Int) := by omega
      have j2 : ((P + nn : Nat) : Int) ≤ (cp : Int) := by omega
      have j3 : (cp = P) = False := eq_false (by omega)
      have j4 : ((P + nn) - P) = nn := by omega
      have HNN := Sec.mk hnn
      clear hnn
      go_wp2_with (first | (go_at_call 65; refine HLE.out.mono ?_; rw [he.out]; rintro e w' ⟨rfl, rfl⟩) | (at_builtin; refine Kd.W_cat kCell rfl (.tmp 33) (.tmp 39) 30 (.agg #[.int .i64 0, .int .i64 0, .string ⟨#[]⟩]) 32 rfl Tryz.underlying30 info_cell rfl (by decide) (by decide) (.slice (some ⟨w.heap.size, 0, none⟩) 0 0) (.slice (some ⟨b, off + P * 3, none⟩) (P + nn - P) (cp - P)) [] l1 (fun k => w.heap.size ≤ k) (fun k => k < w.heap.size) rfl rfl (Kd.W_empty kCell w _ _ (Nat.le_refl _)) (by rw [Nat.add_sub_cancel_left]; exact Kd.V_move (fun k hk hl => ⟨⟨hl, fun e => absurd (show k = w.heap.size by simpa [Value.ownBlock] using e) (by omega)⟩, Below.heap_alloc _ _ _ hl⟩) HVX.out (by decide)) (by have h1 := hnl.out; have h2 := HNN.out; rw [h2]; simpa using h1) ?_; intro v1 w1 hW hg; have HR := Sec.mk (kCell_W_R hW); have HB := Sec.mk ((belA (Below.refl w.heap.size w) _).grown hg (by simp) (fun k e => Nat.le_of_eq (show w.heap.size = k by simpa [Value.ownBlock] using e))); clear hW hg))
      go_ret
      refine ⟨v1, rfl, ?_, HB.out⟩
      have h9 := HR.out
      rw [List.nil_append] at h9
      rw [HL1.out]
      exact Kd.R_mono h9 (fun k h _ => by
        rcases h with h | h
        · exact h
        · simp at h; omega)
end
section
open Go.RowKit
set_option linter.unusedVariables false
set_option maxRecDepth 100000
/-- What is left to be made the same, the next one first; so many steps at most. -/
def stU (N : Nat) : Nat → List Bind → List (Term × Term) → Option (Option (List Bind))
  | 0, _, _ => none
  | _ + 1, s, [] => some (some s)
  | m + 1, s, (a, b) :: st => match walkF s N a, walkF s N b with
    | some (c :: x), some (d :: y) =>
      if c.kind = 1 then (if d = c then stU N m s st else match bindF s N c.n (d :: y) with
        | some (some s1) => stU N m s1 st
        | o => o)
      else if d.kind = 1 then (match bindF s N d.n (c :: x) with
        | some (some s1) => stU N m s1 st
        | o => o)
      else if c ≠ d then some none
      else stU N m s ((args (c :: x)).zip (args (d :: y)) ++ st)
    | _, _ => none
/-- How it goes on behind an outcome. -/
def goU (N m : Nat) (st : List (Term × Term)) : Option (List Bind) → Option (Option (List Bind))
  | none => some none
  | some s1 => stU N m s1 st
theorem stU_fold {N n : Nat} (ih : ∀ (s : List Bind) (a b : Term) (r : Option (List Bind)), uniF n s a b = some r → ∃ k, ∀ m st, stU N (k + m) s ((a, b) :: st) = goU N m st r) : ∀ (L M : List Term) (s : List Bind) (r : Option (List Bind)), foldU (uniF n) s L M = some r → ∃ k, ∀ m st, stU N (k + m) s (L.zip M ++ st) = goU N m st r := by
  intro L
  induction L with
  | nil =>
    intro M s r h
    rw [foldU] at h
    · cases h
      exact ⟨0, fun m st => by rw [Nat.zero_add]; rfl⟩
    · intro _ _ _ _ h; cases h
  | cons a L ihL =>
    intro M s r h
    cases M with
    | nil =>
      rw [foldU] at h
      · cases h
        exact ⟨0, fun m st => by rw [Nat.zero_add]; rfl⟩
      · intro _ _ _ _ _ h; cases h
    | cons b M =>
      rw [foldU] at h
      cases hf : uniF n s a b with
      | none => rw [hf] at h; cases h
      | some q =>
        obtain ⟨k1, h1⟩ := ih s a b q hf
        rw [hf] at h
        cases q with
        | none =>
          cases h
          exact ⟨k1, fun m st => by rw [List.zip_cons_cons, List.cons_append, h1]; rfl⟩
        | some s1 =>
          obtain ⟨k2, h2⟩ := ihL M s1 r h
          refine ⟨k1 + k2, fun m st => ?_⟩
          rw [List.zip_cons_cons, List.cons_append, Nat.add_assoc, h1]
          exact h2 m st
theorem stU_uni {N : Nat} : ∀ (n : Nat), n ≤ N → ∀ (s : List Bind) (a b : Term) (r : Option (List Bind)), uniF n s a b = some r → ∃ k, ∀ m st, stU N (k + m) s ((a, b) :: st) = goU N m st r := by
  intro n
  induction n with
  | zero => intro _ s a b r h; cases h
  | succ n ih =>
    intro hn s a b r h
    have hnN : n ≤ N := by omega
    obtain ⟨c, x, d, y, h1, h2, h3⟩ := uniF_open h
    have w1 := walkF_mono hnN h1
    have w2 := walkF_mono hnN h2
    have hb : ∀ (v : Int) (t : Term), bindF s n v t = some r → ∀ m st, (match bindF s N v t with
        | some (some s1) => stU N m s1 st
        | o => o) = goU N m st r := by
      intro v t hb m st
      rw [bindF_mono hnN hb]
      cases r <;> rfl
    by_cases hk : c.kind = 1
    · rw [if_pos hk] at h3
      by_cases hd : d = c
      · rw [if_pos hd] at h3
        cases h3
        refine ⟨1, fun m st => ?_⟩
        rw [Nat.add_comm, stU, w1, w2]
        simp only
        rw [if_pos hk, if_pos hd]
        rfl
      · rw [if_neg hd] at h3
        refine ⟨1, fun m st => ?_⟩
        rw [Nat.add_comm, stU, w1, w2]
        simp only
        rw [if_pos hk, if_neg hd]
        exact hb _ _ h3 m st
    · rw [if_neg hk] at h3
      by_cases hk2 : d.kind = 1
      · rw [if_pos hk2] at h3
        refine ⟨1, fun m st => ?_⟩
        rw [Nat.add_comm, stU, w1, w2]
        simp only
        rw [if_neg hk, if_pos hk2]
        exact hb _ _ h3 m st
      · rw [if_neg hk2] at h3
        by_cases hcd : c ≠ d
        · rw [if_pos hcd] at h3
          cases h3
          refine ⟨1, fun m st => ?_⟩
          rw [Nat.add_comm, stU, w1, w2]
          simp only
          rw [if_neg hk, if_neg hk2, if_pos hcd]
          rfl
        · rw [if_neg hcd] at h3
          obtain ⟨k, h4⟩ := stU_fold (ih hnN) _ _ s r h3
          refine ⟨k + 1, fun m st => ?_⟩
          rw [show k + 1 + m = (k + m) + 1 by omega, stU, w1, w2]
          simp only
          rw [if_neg hk, if_neg hk2, if_neg hcd]
          exact h4 m st
theorem stU_one {n : Nat} {s : List Bind} {a b : Term} {r : Option (List Bind)} (h : uniF n s a b = some r) : ∃ K, stU n K s [(a, b)] = some r := by
  obtain ⟨k, hk⟩ := stU_uni n (Nat.le_refl _) s a b r h
  refine ⟨k + 1, ?_⟩
  rw [hk]
  cases r <;> rfl
/-- The three rows: the bindings, and what is left on either side. -/
def St3 (B : Nat) (w : World) (okE : Nat → Prop) (sv lv rv : Value) (s : List Bind) (Ls Rs : List Term) : Prop := ∃ So SL SR : Nat → Prop, kBind.W w So okE sv s ∧ kTerm.W w SL okE lv Ls ∧ kTerm.W w SR okE rv Rs ∧
  (∀ k, So k → B ≤ k ∧ ¬ SL k ∧ ¬ SR k ∧ ¬ okE k) ∧ (∀ k, SL k → B ≤ k ∧ ¬ SR k ∧ ¬ okE k) ∧ (∀ k, SR k → B ≤ k ∧ ¬ okE k) ∧ (∀ k, So k ∨ SL k ∨ SR k ∨ okE k → k < w.heap.size)
theorem St3.below {B : Nat} {w w1 : World} {okE : Nat → Prop} {sv lv rv : Value} {s : List Bind} {Ls Rs : List Term} (h : St3 B w okE sv lv rv s Ls Rs) (hb : Below w.heap.size w w1) : St3 B w1 okE sv lv rv s Ls Rs := by
  obtain ⟨So, SL, SR, h1, h2, h3, h4, h5, h6, h7⟩ := h
  exact ⟨So, SL, SR, Kd.W_move (Keeps.below hb _) (Keeps.below hb _) h1, Kd.W_move (Keeps.below hb _) (Keeps.below hb _) h2, Kd.W_move (Keeps.below hb _) (Keeps.below hb _) h3, h4, h5, h6, fun k hk => Nat.lt_of_lt_of_le (h7 k hk) hb.size⟩
theorem W_pop {α : Type} {d : Kd α} {w : World} {S ok : Nat → Prop} {A : Option Addr} {n c : Nat} {xs : List α} {x : α} (h : d.W w S ok (.slice A n c) (xs ++ [x])) : d.W w S ok (.slice A xs.length c) xs := by
  obtain ⟨h0, ⟨_, h⟩ | ⟨b, cap, cur, e, hb, hS, h1, h2, h3, h4⟩⟩ := h
  · simp at h
  · simp only [Value.slice.injEq] at e
    obtain ⟨rfl, -, rfl⟩ := e
    rw [List.length_append] at h0 h1
    refine ⟨by omega, .inr ⟨b, c, cur, rfl, hb, hS, by omega, h2, h3, ?_⟩⟩
    have := Kd.Ks_take xs.length h4
    rw [List.take_left, List.take_take, Nat.min_eq_left] at this
    · exact this
    · rw [List.length_append]; exact Nat.mul_le_mul_right _ (by omega)
theorem St3.pop {B : Nat} {w : World} {okE : Nat → Prop} {sv : Value} {A A2 : Option Addr} {n n2 c c2 : Nat} {s : List Bind} {Ls Rs : List Term} {a b : Term} (h : St3 B w okE sv (.slice A n c) (.slice A2 n2 c2) s (Ls ++ [a]) (Rs ++ [b])) : St3 B w okE sv (.slice A Ls.length c) (.slice A2 Rs.length c2) s Ls Rs := by
  obtain ⟨So, SL, SR, h1, h2, h3, h4⟩ := h
  exact ⟨So, SL, SR, h1, W_pop h2, W_pop h3, h4⟩
theorem St3.bv {B : Nat} {w : World} {okE : Nat → Prop} {sv lv rv : Value} {s : List Bind} {Ls Rs : List Term} (h : St3 B w okE sv lv rv s Ls Rs) : ∃ okR, BV2 w okR okE sv s := by
  obtain ⟨So, SL, SR, h1, -⟩ := h
  exact ⟨So, W_BV2 h1⟩
theorem St3.bind {B : Nat} {w w1 : World} {okE okF : Nat → Prop} {sv lv rv v1 : Value} {s s1 : List Bind} {Ls Rs : List Term} (h : St3 B w okE sv lv rv s Ls Rs) (hB : B ≤ w.heap.size) (hf : Foot (fun k => sv.ownBlock = some k) w w1) (hF : ∀ k, okF k → w.heap.size ≤ k ∧ k < w1.heap.size)
    (hW : kBind.W w1 (fun k => (sv.ownBlock = some k ∨ w.heap.size ≤ k) ∧ ¬ okF k) (fun k => okE k ∨ okF k) v1 s1) : St3 B w1 (fun k => okE k ∨ okF k) v1 lv rv s1 Ls Rs := by
  obtain ⟨So, SL, SR, h1, h2, h3, h4, h5, h6, h7⟩ := h
  obtain ⟨_, _, _, hS⟩ := Kd.W_own h1
  have e1 := hf.size
  have kp : ∀ ok : Nat → Prop, (∀ k, ok k → ¬ So k) → Keeps w w1 ok ok := fun ok h => Foot.keeps hf (fun k hk e => h k hk (hS k e).1)
  have hoF : ∀ ok ok2 : Nat → Prop, (∀ k, ok k → ¬ So k) → (∀ k, ok k → ok2 k) → Keeps w w1 ok ok2 := fun ok ok2 h h2 k hk hl => ⟨h2 k hk, (kp ok h k hk hl).2⟩
  refine ⟨fun k => ((sv.ownBlock = some k ∨ w.heap.size ≤ k) ∧ ¬ okF k) ∧ k < w1.heap.size, SL, SR, ?_, Kd.W_move (kp SL (fun k hk e => (h4 k e).2.1 hk)) (hoF okE _ (fun k hk e => (h4 k e).2.2.2 hk) (fun k hk => .inl hk)) h2, Kd.W_move (kp SR (fun k hk e => (h4 k e).2.2.1 hk)) (hoF okE _ (fun k hk e => (h4 k e).2.2.2 hk) (fun k hk => .inl hk)) h3, ?_, ?_, ?_, ?_⟩
  · exact Kd.W_move (fun k hk hl => ⟨⟨hk, hl⟩, rfl⟩) (Keeps.mono fun k hk _ => hk) hW
  · rintro k ⟨⟨hk, hn⟩, hl⟩
    rcases hk with hk | hk
    · have h8 := h4 k (hS k hk).1
      exact ⟨h8.1, h8.2.1, h8.2.2.1, fun h => h.elim h8.2.2.2 hn⟩
    · have hx : ∀ P : Prop, (P → k < w.heap.size) → ¬ P := fun P h p => absurd (h p) (Nat.not_lt_of_le hk)
      exact ⟨Nat.le_trans hB hk, hx _ (fun h => h7 k (.inr (.inl h))), hx _ (fun h => h7 k (.inr (.inr (.inl h)))), fun h => h.elim (hx _ (fun h => h7 k (.inr (.inr (.inr h))))) hn⟩
  · intro k hk
    refine ⟨(h5 k hk).1, (h5 k hk).2.1, fun h => h.elim (h5 k hk).2.2 (fun h => ?_)⟩
    have := (hF k h).1
    have := h7 k (.inr (.inl hk))
    omega
  · intro k hk
    refine ⟨(h6 k hk).1, fun h => h.elim (h6 k hk).2 (fun h => ?_)⟩
    have := (hF k h).1
    have := h7 k (.inr (.inr (.inl hk)))
    omega
  · intro k hk
    rcases hk with hk | hk | hk | hk | hk
    · exact hk.2
    · have := h7 k (.inr (.inl hk)); omega
    · have := h7 k (.inr (.inr (.inl hk))); omega
    · have := h7 k (.inr (.inr (.inr hk))); omega
    · exact (hF k hk).2
theorem St3.swap {B : Nat} {w : World} {okE : Nat → Prop} {sv lv rv : Value} {s : List Bind} {Ls Rs : List Term} (h : St3 B w okE sv lv rv s Ls Rs) : St3 B w okE sv rv lv s Rs Ls := by
  obtain ⟨So, SL, SR, h1, h2, h3, h4, h5, h6, h7⟩ := h
  exact ⟨So, SR, SL, h1, h3, h2, fun k hk => ⟨(h4 k hk).1, (h4 k hk).2.2.1, (h4 k hk).2.1, (h4 k hk).2.2.2⟩, fun k hk => ⟨(h6 k hk).1, fun h => (h5 k h).2.1 hk, (h6 k hk).2⟩, fun k hk => ⟨(h5 k hk).1, (h5 k hk).2.2⟩, fun k hk => h7 k (by rcases hk with h | h | h | h; exact .inl h; exact .inr (.inr (.inl h)); exact .inr (.inl h); exact .inr (.inr (.inr h)))⟩
/-- What an append onto the left row wants. -/
theorem St3.wantL {B : Nat} {w W : World} {okE : Nat → Prop} {sv lv rv u : Value} {s : List Bind} {Ls Rs : List Term} {a : Term} (h : St3 B w okE sv lv rv s Ls Rs) (hb : Below w.heap.size w W) (hu : kCell.V W (fun k => w.heap.size ≤ k ∧ k < W.heap.size) u a) :
    kTerm.W W (fun k => lv.ownBlock = some k) (fun k => okE k ∨ (w.heap.size ≤ k ∧ k < W.heap.size)) lv Ls ∧ kTerm.K W (fun k => (okE k ∨ (w.heap.size ≤ k ∧ k < W.heap.size)) ∧ some k ≠ lv.ownBlock) a [u] := by
  obtain ⟨So, SL, SR, h1, h2, h3, h4, h5, h6, h7⟩ := h
  obtain ⟨_, _, _, hS⟩ := Kd.W_own h2
  refine ⟨Kd.W_move (Keeps.below hb _) (fun k hk hl => ⟨.inl hk, hb.block k hl⟩) (W_self h2), ⟨u, rfl, Kd.V_mono hu (fun k hk => ⟨.inr hk, fun e => ?_⟩) (by decide)⟩⟩
  have := (hS k e.symm).2
  omega
theorem St3.pushL {B : Nat} {w W w1 : World} {okE : Nat → Prop} {sv lv rv v1 : Value} {s : List Bind} {Ls Ls1 Rs : List Term} (h : St3 B w okE sv lv rv s Ls Rs) (hB : B ≤ w.heap.size) (hb : Below w.heap.size w W) (hg : W.grownBy w1 lv.ownBlock)
    (hW : kTerm.W w1 (fun k => lv.ownBlock = some k ∨ W.heap.size ≤ k) (fun k => okE k ∨ (w.heap.size ≤ k ∧ k < W.heap.size)) v1 Ls1) : St3 B w1 (fun k => okE k ∨ (w.heap.size ≤ k ∧ k < W.heap.size)) sv v1 rv s Ls1 Rs := by
  obtain ⟨So, SL, SR, h1, h2, h3, h4, h5, h6, h7⟩ := h
  obtain ⟨_, _, _, hS⟩ := Kd.W_own h2
  have e1 := hb.size
  have e2 := hg.size
  have kp : ∀ ok ok2 : Nat → Prop, (∀ k, ok k → ¬ SL k) → (∀ k, ok k → ok2 k) → Keeps w w1 ok ok2 := fun ok ok2 h h2 k hk hl => ⟨h2 k hk, (hg.block k (by omega) (fun e => h k hk (hS k e.symm).1)).trans (hb.block k hl)⟩
  refine ⟨So, fun k => (lv.ownBlock = some k ∨ W.heap.size ≤ k) ∧ k < w1.heap.size, SR, Kd.W_move (kp So So (fun k hk e => (h4 k hk).2.1 e) (fun _ h => h)) (kp okE _ (fun k hk e => (h5 k e).2.2 hk) (fun k hk => .inl hk)) h1, Kd.W_move (fun k hk hl => ⟨⟨hk, hl⟩, rfl⟩) (Keeps.mono fun k hk _ => hk) hW, Kd.W_move (kp SR SR (fun k hk e => (h5 k e).2.1 hk) (fun _ h => h)) (kp okE _ (fun k hk e => (h5 k e).2.2 hk) (fun k hk => .inl hk)) h3, ?_, ?_, ?_, ?_⟩
  · intro k hk
    have hl := h7 k (.inl hk)
    refine ⟨(h4 k hk).1, ?_, (h4 k hk).2.2.1, ?_⟩
    · rintro ⟨h | h, _⟩
      · exact (h4 k hk).2.1 (hS k h).1
      · omega
    · rintro (h | h)
      · exact (h4 k hk).2.2.2 h
      · omega
  · rintro k ⟨hk | hk, hl⟩
    · have h8 := h5 k (hS k hk).1
      have := (hS k hk).2
      refine ⟨h8.1, h8.2.1, ?_⟩
      rintro (h | h)
      · exact h8.2.2 h
      · omega
    · refine ⟨by omega, fun h => ?_, ?_⟩
      · have := h7 k (.inr (.inr (.inl h))); omega
      · rintro (h | h)
        · have := h7 k (.inr (.inr (.inr h))); omega
        · omega
  · intro k hk
    have hl := h7 k (.inr (.inr (.inl hk)))
    refine ⟨(h6 k hk).1, ?_⟩
    rintro (h | h)
    · exact (h6 k hk).2 h
    · omega
  · rintro k (h | h | h | h | h)
    · have := h7 k (.inl h); omega
    · exact h.2
    · have := h7 k (.inr (.inr (.inl h))); omega
    · have := h7 k (.inr (.inr (.inr h))); omega
    · omega
/-- The left row's last term. -/
theorem St3.lastL {B : Nat} {w : World} {okE : Nat → Prop} {sv lv rv : Value} {s : List Bind} {Ls Rs : List Term} {a : Term} (h : St3 B w okE sv lv rv s (Ls ++ [a]) Rs) : ∃ b c v, lv = .slice (some ⟨b, 0, none⟩) (Ls.length + 1) c ∧ Ls.length + 1 ≤ c ∧ w.cell? ⟨b, Ls.length, none⟩ = some v ∧ kCell.V w okE v a := by
  obtain ⟨So, SL, SR, h1, h2, h3, h4, h5, h6, h7⟩ := h
  obtain ⟨h0, ⟨_, h⟩ | ⟨b, cap, cur, rfl, hb, hS, g1, g2, g3, g4⟩⟩ := h2
  · simp at h
  · obtain ⟨cs, k1, k2⟩ := Kd.Ks_get g4 Ls.length a (by simp)
    obtain ⟨v, rfl, hv⟩ := k1
    refine ⟨b, cap, v, by simp, by simpa using g1, ?_, Kd.V_mono hv (fun k hk => hk.1) (by decide)⟩
    have g5 := k2 0 v rfl
    rw [List.getElem?_take] at g5
    split at g5
    · rw [cell_of_row w b _ cur kTerm.ty (0, 0) hb]
      rw [show kTerm.sz = 1 from rfl, Nat.mul_one, Nat.add_zero] at g5
      simpa using g5
    · cases g5
end
section
open Go.RowKit
set_option linter.unusedVariables false
set_option maxRecDepth 100000
theorem rank_low {s : List Bind} (hs : Tri s) : ∃ rk : Int → Nat, (∀ v t, bget s v = some t → ∀ x, vin x t → rk x < rk v) ∧ ∀ x, rk x ≤ s.length := by
  obtain ⟨rk, h⟩ := hs.rank
  refine ⟨fun x => s.countP (fun b => decide (rk b.v ≤ rk x)), fun v t hg x hx => ?_, fun x => List.countP_le_length⟩
  have h1 := h v t hg x hx
  obtain ⟨b, hb, hbv, _⟩ := bget_mem hg
  obtain ⟨l1, l2, e⟩ := List.append_of_mem hb
  have hle : ∀ l : List Bind, l.countP (fun b => decide (rk b.v ≤ rk x)) ≤ l.countP (fun b => decide (rk b.v ≤ rk v)) := fun l => List.countP_mono_left (fun b _ hb => by
    simp only [decide_eq_true_eq] at hb ⊢
    omega)
  have h2 := hle l1
  have h3 := hle l2
  simp only [e, List.countP_append, List.countP_cons]
  have e1 : decide (rk b.v ≤ rk x) = false := decide_eq_false (by rw [hbv]; omega)
  have e2 : decide (rk b.v ≤ rk v) = true := decide_eq_true (by rw [hbv]; omega)
  rw [e1, e2]
  simp
  omega
/-- The highest variable's rank, and one. -/
def topR (rk : Int → Nat) : Term → Nat
  | [] => 0
  | c :: r => if c.kind = 1 then max (rk c.n + 1) (topR rk r) else topR rk r
theorem topR_mem {rk : Int → Nat} {t : Term} {v : Int} (h : vin v t) : rk v + 1 ≤ topR rk t := by
  obtain ⟨c, hc, h1, h2⟩ := h
  induction t with
  | nil => simp at hc
  | cons d r ih =>
    rw [topR]
    rcases List.mem_cons.1 hc with rfl | hc
    · rw [if_pos h1, h2]; omega
    · have := ih hc
      split <;> omega
theorem topR_le {rk : Int → Nat} {t : Term} {m : Nat} (h : ∀ v, vin v t → rk v + 1 ≤ m) : topR rk t ≤ m := by
  induction t with
  | nil => exact Nat.zero_le _
  | cons d r ih =>
    rw [topR]
    have h2 := ih (fun v ⟨c, hc, h1, h2⟩ => h v ⟨c, List.mem_cons_of_mem _ hc, h1, h2⟩)
    split
    · rename_i hk
      have := h d.n ⟨d, List.mem_cons_self, hk, rfl⟩
      omega
    · exact h2
def lam (rk : Int → Nat) (t : Term) : Nat := 41 * topR rk t + t.length
theorem lam_arg {rk : Int → Nat} {t a : Term} (h : trmOk t = true) (ha : a ∈ args t) : lam rk a < lam rk t := by
  have h1 := args_len (trmOk_Trm h) ha
  have h2 : topR rk a ≤ topR rk t := topR_le (fun v ⟨c, hc, g1, g2⟩ => topR_mem ⟨c, args_sub (trmOk_Trm h) ha c hc, g1, g2⟩)
  unfold lam
  omega
theorem lam_walk {s : List Bind} (hs : BOk s) {rk : Int → Nat} (hrk : ∀ v t, bget s v = some t → ∀ x, vin x t → rk x < rk v) : ∀ {n : Nat} {t u : Term}, trmOk t = true → walkF s n t = some u → lam rk u ≤ lam rk t := by
  intro n
  induction n with
  | zero => intro t u _ h; cases h
  | succ n ih =>
    intro t u ht h
    cases t with
    | nil => have := (trmOk_len ht).1; simp at this
    | cons c r =>
      rw [walkF] at h
      split at h
      · rename_i hk
        cases hg : bget s c.n with
        | none => rw [hg] at h; cases h; exact Nat.le_refl _
        | some w =>
          rw [hg] at h
          have h1 := ih (hs.get hg) h
          have h2 := (trmOk_len (hs.get hg)).2
          have h3 : topR rk w ≤ rk c.n := topR_le (fun v hv => hrk c.n w hg v hv)
          have h4 := topR_mem (rk := rk) (t := c :: r) ⟨c, List.mem_cons_self, hk, rfl⟩
          unfold lam at h1 ⊢
          simp only [List.length_cons]
          omega
      · cases h; exact Nat.le_refl _
theorem walkF_ext {s s1 : List Bind} (he : ∀ v t, bget s v = some t → bget s1 v = some t) : ∀ {n : Nat} {t : Term} {c : Cell} {x : Term}, c.kind ≠ 1 → walkF s n t = some (c :: x) → walkF s1 n t = some (c :: x) := by
  intro n
  induction n with
  | zero => intro t c x _ h; cases h
  | succ n ih =>
    intro t c x hk h
    cases t with
    | nil => rw [walkF] at h; rw [walkF]; first | exact h | (intro _ _ hh; cases hh)
    | cons d r =>
      rw [walkF] at h ⊢
      split at h
      · rename_i hd
        rw [if_pos hd]
        cases hg : bget s d.n with
        | none =>
          rw [hg] at h
          simp only [Option.some.injEq, List.cons.injEq] at h
          exact absurd (by rw [← h.1]; exact hd) hk
        | some w =>
          rw [hg] at h
          rw [he _ _ hg]
          exact ih hk h
      · rename_i hd
        rw [if_neg hd]; exact h
theorem bget_app {s l : List Bind} {v : Int} {t : Term} (h : bget s v = some t) : bget (s ++ l) v = some t := by
  unfold bget at h ⊢
  rw [List.find?_append]
  cases hf : s.find? (fun b => b.v == v) with
  | none => rw [hf] at h; cases h
  | some b => rw [hf] at h; exact h
/-- The frames above each other: what is left is of their arguments. -/
inductive Fit (s : List Bind) : List (Term × Term) → List Term → Prop
  | base {st : List (Term × Term)} : st.length ≤ 1 → Fit s st []
  | one {st1 st : List (Term × Term)} {X : Term} : (∀ p ∈ st1, p.1 ∈ args X) → st1.length ≤ 3 → trmOk X = true → Fit s st [] → Fit s (st1 ++ st) [X]
  | more {st1 st : List (Term × Term)} {X Y a : Term} {F : List Term} {n : Nat} {c : Cell} {x : Term} : X = c :: x → c.kind ≠ 1 → (∀ p ∈ st1, p.1 ∈ args X) → st1.length ≤ 3 → trmOk X = true → a ∈ args Y → walkF s n a = some X → Fit s st (Y :: F) → Fit s (st1 ++ st) (X :: Y :: F)
theorem Fit.ext {s s1 : List Bind} (he : ∀ v t, bget s v = some t → bget s1 v = some t) {st : List (Term × Term)} {F : List Term} (h : Fit s st F) : Fit s1 st F := by
  induction h with
  | base h => exact .base h
  | one h1 h2 h3 h4 ih => exact .one h1 h2 h3 ih
  | more h0 hk h1 h2 h3 h4 h5 h6 ih => exact .more h0 hk h1 h2 h3 h4 (by rw [h0] at h5 ⊢; exact walkF_ext he hk h5) ih
theorem Fit.head_ok {s : List Bind} {st : List (Term × Term)} {X : Term} {F : List Term} (h : Fit s st (X :: F)) : trmOk X = true := by
  cases h with
  | one h1 h2 h3 h4 => exact h3
  | more h0 hk h1 h2 h3 h4 h5 h6 => exact h3
theorem Fit.le {s : List Bind} {st : List (Term × Term)} {F : List Term} (h : Fit s st F) : st.length ≤ 1 + 3 * F.length := by
  induction h with
  | base h => simpa using h
  | one h1 h2 h3 h4 ih => simp only [List.length_append, List.length_cons, List.length_nil] at *; omega
  | more h0 hk h1 h2 h3 h4 h5 h6 ih => simp only [List.length_append, List.length_cons] at *; omega
theorem lam_top {rk : Int → Nat} {N : Nat} (h : ∀ x, rk x ≤ N) {t : Term} (ht : trmOk t = true) : lam rk t ≤ 41 * (N + 1) + 40 := by
  have h1 : topR rk t ≤ N + 1 := topR_le (fun v _ => Nat.succ_le_succ (h v))
  have h2 := (trmOk_len ht).2
  unfold lam
  have := Nat.mul_le_mul_left 41 h1
  omega
theorem Fit.deep {s : List Bind} (hs : BOk s) {rk : Int → Nat} (hrk : ∀ v t, bget s v = some t → ∀ x, vin x t → rk x < rk v) (hN : ∀ x, rk x ≤ s.length) {st : List (Term × Term)} {F : List Term} (h : Fit s st F) : ∀ X G, F = X :: G → lam rk X + G.length ≤ 41 * (s.length + 1) + 40 := by
  induction h with
  | base h => intro X G e; cases e
  | one h1 h2 h3 h4 ih =>
    intro X G e
    cases e
    simpa using lam_top hN h3
  | @more st1 st X Y a F n c x h0 hk h1 h2 h3 h4 h5 h6 ih =>
    intro X2 G e
    simp only [List.cons.injEq] at e
    obtain ⟨rfl, rfl⟩ := e
    have g1 := ih Y F rfl
    have hY := h6.head_ok
    have g2 := lam_arg (rk := rk) hY h4
    have g3 := lam_walk hs hrk (trmOk_args hY a h4) h5
    simp only [List.length_cons]
    omega
theorem Fit.bound {s : List Bind} (hs : BOk s) {st : List (Term × Term)} {F : List Term} (h : Fit s st F) : st.length ≤ 20000000 := by
  obtain ⟨rk, h1, h2⟩ := rank_low hs.tri
  have h3 := hs.len
  have h4 := h.le
  cases F with
  | nil => simp at h4; omega
  | cons X G =>
    have h5 := h.deep hs h1 h2 X G rfl
    simp only [List.length_cons] at h4
    omega
theorem Fit.pop {s : List Bind} {p : Term × Term} : ∀ {F : List Term} {st0 st : List (Term × Term)}, Fit s st0 F → st0 = p :: st → ∃ F', Fit s st F' ∧ (F' = [] ∨ ∃ X G, F' = X :: G ∧ p.1 ∈ args X) := by
  intro F st0 st h
  induction h with
  | base h =>
    intro e
    subst e
    exact ⟨[], .base (by simp at h; simp [h]), .inl rfl⟩
  | @one st1 st' X h1 h2 h3 h4 ih =>
    intro e
    cases st1 with
    | nil => exact ih e
    | cons q st1 =>
      simp only [List.cons_append, List.cons.injEq] at e
      obtain ⟨rfl, rfl⟩ := e
      exact ⟨[X], .one (fun r hr => h1 r (List.mem_cons_of_mem _ hr)) (by simp at h2; omega) h3 h4, .inr ⟨X, [], rfl, h1 q List.mem_cons_self⟩⟩
  | @more st1 st' X Y a F n c x h0 hk h1 h2 h3 h4 h5 h6 ih =>
    intro e
    cases st1 with
    | nil => exact ih e
    | cons q st1 =>
      simp only [List.cons_append, List.cons.injEq] at e
      obtain ⟨rfl, rfl⟩ := e
      exact ⟨X :: Y :: F, .more h0 hk (fun r hr => h1 r (List.mem_cons_of_mem _ hr)) (by simp at h2; omega) h3 h4 h5 h6, .inr ⟨X, Y :: F, rfl, h1 q List.mem_cons_self⟩⟩
theorem Fit.push {s : List Bind} {st st1 : List (Term × Term)} {F : List Term} {a : Term} {n : Nat} {c : Cell} {x : Term} (h : Fit s st F) (hF : F = [] ∨ ∃ X G, F = X :: G ∧ a ∈ args X) (hw : walkF s n a = some (c :: x)) (hk : c.kind ≠ 1) (ht : trmOk (c :: x) = true) (h1 : ∀ p ∈ st1, p.1 ∈ args (c :: x)) (h2 : st1.length ≤ 3) : Fit s (st1 ++ st) ((c :: x) :: F) := by
  rcases hF with rfl | ⟨X, G, rfl, ha⟩
  · exact .one h1 h2 ht h
  · exact .more rfl hk h1 h2 ht ha hw h
end
section
open Go.RowKit
set_option linter.unusedVariables false
set_option maxRecDepth 100000
/-- What is kept on the way. -/
def SKeep (w w' : World) (B : Nat) (okE okE' : Nat → Prop) : Prop := B ≤ w.heap.size ∧ (∀ k, okE k → okE' k) ∧ (∀ k, okE' k → k < w'.heap.size) ∧ (∀ k, okE k → k < w.heap.size → w'.heap[k]? = w.heap[k]?) ∧ Below B w w'
theorem SKeep.refl {w : World} {B : Nat} {okE : Nat → Prop} (hB : B ≤ w.heap.size) (h : ∀ k, okE k → k < w.heap.size) : SKeep w w B okE okE := ⟨hB, fun _ h => h, h, fun _ _ _ => rfl, Below.refl _ _⟩
theorem SKeep.trans {w w1 w2 : World} {B : Nat} {ok ok1 ok2 : Nat → Prop} (h : SKeep w w1 B ok ok1) (k : SKeep w1 w2 B ok1 ok2) : SKeep w w2 B ok ok2 :=
  ⟨h.1, fun q hq => k.2.1 q (h.2.1 q hq), k.2.2.1, fun q hq hl => (k.2.2.2.1 q (h.2.1 q hq) (Nat.lt_of_lt_of_le hl h.2.2.2.2.size)).trans (h.2.2.2.1 q hq hl), h.2.2.2.2.trans k.2.2.2.2⟩
theorem SKeep.below {w w1 w2 : World} {B : Nat} {ok ok1 : Nat → Prop} (h : SKeep w w1 B ok ok1) (hb : Below w1.heap.size w1 w2) : SKeep w w2 B ok ok1 :=
  h.trans ⟨Nat.le_trans h.1 h.2.2.2.2.size, fun _ h => h, fun k hk => Nat.lt_of_lt_of_le (h.2.2.1 k hk) hb.size, fun k _ hl => hb.block k hl, hb.mono (Nat.le_trans h.1 h.2.2.2.2.size)⟩
theorem SKeep.V {w w1 : World} {B : Nat} {ok ok1 : Nat → Prop} (h : SKeep w w1 B ok ok1) {v : Value} {t : Term} (hv : kCell.V w ok v t) : kCell.V w1 ok1 v t := Kd.V_move (fun k hk hl => ⟨h.2.1 k hk, h.2.2.2.1 k hk hl⟩) hv (by decide)
theorem below_foot {B : Nat} {w w1 : World} {S : Nat → Prop} (h : Foot S w w1) (hS : ∀ k, S k → B ≤ k) (hB : B ≤ w.heap.size) : Below B w w1 :=
  ⟨h.os, h.tape, h.output, h.size, fun k hk => h.block k (Nat.lt_of_lt_of_le hk hB) (fun e => absurd (hS k e) (Nat.not_le_of_lt hk))⟩
theorem St3.bindK {B : Nat} {w w1 : World} {okE okF : Nat → Prop} {sv lv rv : Value} {s : List Bind} {Ls Rs : List Term} (h : St3 B w okE sv lv rv s Ls Rs) (hB : B ≤ w.heap.size) (hf : Foot (fun k => sv.ownBlock = some k) w w1) (hF : ∀ k, okF k → w.heap.size ≤ k ∧ k < w1.heap.size) : SKeep w w1 B okE (fun k => okE k ∨ okF k) := by
  obtain ⟨So, SL, SR, h1, h2, h3, h4, h5, h6, h7⟩ := h
  obtain ⟨_, _, _, hS⟩ := Kd.W_own h1
  exact ⟨hB, fun k hk => .inl hk, fun k hk => hk.elim (fun hk => Nat.lt_of_lt_of_le (h7 k (.inr (.inr (.inr hk)))) hf.size) (fun hk => (hF k hk).2), fun k hk hl => hf.block k hl (fun e => (h4 k (hS k e).1).2.2.2 hk), below_foot hf (fun k e => (h4 k (hS k e).1).1) hB⟩
theorem St3.pushK {B : Nat} {w W w1 : World} {okE : Nat → Prop} {sv lv rv : Value} {s : List Bind} {Ls Rs : List Term} (h : St3 B w okE sv lv rv s Ls Rs) (hB : B ≤ w.heap.size) (hb : Below w.heap.size w W) (hg : W.grownBy w1 lv.ownBlock) : SKeep w w1 B okE (fun k => okE k ∨ (w.heap.size ≤ k ∧ k < W.heap.size)) := by
  obtain ⟨So, SL, SR, h1, h2, h3, h4, h5, h6, h7⟩ := h
  obtain ⟨_, _, _, hS⟩ := Kd.W_own h2
  have e1 := hb.size
  have e2 := hg.size
  refine ⟨hB, fun k hk => .inl hk, fun k hk => ?_, fun k hk hl => (hg.block k (by omega) (fun e => (h5 k (hS k e.symm).1).2.2 hk)).trans (hb.block k hl), (hb.mono hB).grown hg (by omega) (fun k e => (h5 k (hS k e).1).1)⟩
  rcases hk with hk | hk
  · have := h7 k (.inr (.inr (.inr hk))); omega
  · omega
theorem St3.pushR {B : Nat} {w W w1 : World} {okE : Nat → Prop} {sv lv rv v1 : Value} {s : List Bind} {Ls Rs1 Rs : List Term} (h : St3 B w okE sv lv rv s Ls Rs) (hB : B ≤ w.heap.size) (hb : Below w.heap.size w W) (hg : W.grownBy w1 rv.ownBlock)
    (hW : kTerm.W w1 (fun k => rv.ownBlock = some k ∨ W.heap.size ≤ k) (fun k => okE k ∨ (w.heap.size ≤ k ∧ k < W.heap.size)) v1 Rs1) : St3 B w1 (fun k => okE k ∨ (w.heap.size ≤ k ∧ k < W.heap.size)) sv lv v1 s Ls Rs1 := (h.swap.pushL hB hb hg hW).swap
theorem one_row {w : World} {ok : Nat → Prop} {u : Value} {a : Term} (hV : kCell.V w ok u a) : kTerm.W (w.alloc (.cells #[u] 30)) (fun k => k = w.heap.size) ok (.slice (some ⟨w.heap.size, 0, none⟩) 1 1) [a] := by
  refine ⟨by simp, .inr ⟨w.heap.size, 1, #[u], rfl, heap_alloc_new w _, rfl, Nat.le_refl _, by simp [maxLen], rfl, ?_⟩⟩
  refine ⟨[u], [], rfl, ⟨u, rfl, ?_⟩, rfl⟩
  exact Kd.V_move (fun k hk hl => ⟨⟨hk, by omega⟩, Below.heap_alloc _ _ _ hl⟩) hV (by decide)
theorem St3.start {B : Nat} {w : World} {S okE : Nat → Prop} {sv va vb : Value} {s : List Bind} {a b : Term} (hU : kBind.W w S okE sv s) (hS : ∀ k, S k → B ≤ k ∧ k < w.heap.size ∧ ¬ okE k) (hok : ∀ k, okE k → k < w.heap.size) (hB : B ≤ w.heap.size) (hA : kCell.V w okE va a) (hb : kCell.V w okE vb b) :
    St3 B ((w.alloc (.cells #[va] 30)).alloc (.cells #[vb] 30)) okE sv (.slice (some ⟨w.heap.size, 0, none⟩) 1 1) (.slice (some ⟨w.heap.size + 1, 0, none⟩) 1 1) s [a] [b] := by
  have b1 : Below w.heap.size w (w.alloc (.cells #[va] 30)) := belA (Below.refl _ _) _
  have b2 : Below (w.alloc (.cells #[va] 30)).heap.size (w.alloc (.cells #[va] 30)) ((w.alloc (.cells #[va] 30)).alloc (.cells #[vb] 30)) := belA (Below.refl _ _) _
  have z : (w.alloc (.cells #[va] 30)).heap.size = w.heap.size + 1 := by simp
  have z2 : ((w.alloc (.cells #[va] 30)).alloc (.cells #[vb] 30)).heap.size = w.heap.size + 2 := by simp
  refine ⟨S, fun k => k = w.heap.size, fun k => k = w.heap.size + 1, Kd.W_move (Keeps.below (bel b1 b2) _) (Keeps.below (bel b1 b2) _) hU, Kd.W_move (Keeps.below b2 _) (Keeps.below b2 _) (one_row hA), ?_, fun k hk => ?_, fun k hk => ?_, fun k hk => ?_, fun k hk => ?_⟩
  · have := one_row (Kd.V_below hb b1 (by decide))
    rw [z] at this
    exact this
  · have := hS k hk
    exact ⟨this.1, by omega, by omega, this.2.2⟩
  · subst hk
    exact ⟨hB, by omega, fun h => absurd (hok _ h) (Nat.lt_irrefl _)⟩
  · subst hk
    exact ⟨by omega, fun h => by have := hok _ h; omega⟩
  · rw [z2]
    rcases hk with hk | hk | hk | hk
    · have := (hS k hk).2.1; omega
    · omega
    · omega
    · have := hok k hk; omega
/-- A variable is bound, and it goes on. -/
def NextU (n g : Nat) (s : List Bind) (st : List (Term × Term)) (v : Int) (t : Term) (r : Option (List Bind)) : Prop := (bindF s n v t = some none ∧ r = none) ∨ ∃ s1, bindF s n v t = some (some s1) ∧ stU n g s1 st = some r
theorem stU_open {n g : Nat} {s : List Bind} {a b : Term} {st : List (Term × Term)} {r : Option (List Bind)} (h : stU n g s ((a, b) :: st) = some r) : ∃ g' c x d y, g = g' + 1 ∧ walkF s n a = some (c :: x) ∧ walkF s n b = some (d :: y) ∧
    ((c.kind = 1 ∧ d = c ∧ stU n g' s st = some r) ∨ (c.kind = 1 ∧ d ≠ c ∧ NextU n g' s st c.n (d :: y) r) ∨ (c.kind ≠ 1 ∧ d.kind = 1 ∧ NextU n g' s st d.n (c :: x) r) ∨ (c.kind ≠ 1 ∧ d.kind ≠ 1 ∧ c ≠ d ∧ r = none) ∨ (c.kind ≠ 1 ∧ d.kind ≠ 1 ∧ c = d ∧ stU n g' s ((args (c :: x)).zip (args (d :: y)) ++ st) = some r)) := by
  cases g with
  | zero => cases h
  | succ g =>
    have hnx : ∀ (v : Int) (t : Term), (match bindF s n v t with
        | some (some s1) => stU n g s1 st
        | o => o) = some r → NextU n g s st v t r := by
      intro v t h
      cases hb : bindF s n v t with
      | none => rw [hb] at h; cases h
      | some q =>
        rw [hb] at h
        cases q with
        | none => exact .inl ⟨hb, by simpa using h.symm⟩
        | some s1 => exact .inr ⟨s1, hb, h⟩
    rw [stU] at h
    cases h1 : walkF s n a with
    | none => rw [h1] at h; cases h
    | some X =>
      cases h2 : walkF s n b with
      | none => rw [h1, h2] at h; cases X <;> cases h
      | some Y =>
        rw [h1, h2] at h
        cases X with
        | nil => cases h
        | cons c x =>
          cases Y with
          | nil => cases h
          | cons d y =>
            refine ⟨g, c, x, d, y, rfl, rfl, rfl, ?_⟩
            simp only at h
            by_cases hk : c.kind = 1
            · rw [if_pos hk] at h
              by_cases hd : d = c
              · rw [if_pos hd] at h; exact .inl ⟨hk, hd, h⟩
              · rw [if_neg hd] at h; exact .inr (.inl ⟨hk, hd, hnx _ _ h⟩)
            · rw [if_neg hk] at h
              by_cases hk2 : d.kind = 1
              · rw [if_pos hk2] at h; exact .inr (.inr (.inl ⟨hk, hk2, hnx _ _ h⟩))
              · rw [if_neg hk2] at h
                by_cases hcd : c ≠ d
                · rw [if_pos hcd] at h
                  exact .inr (.inr (.inr (.inl ⟨hk, hk2, hcd, by simpa using h.symm⟩)))
                · rw [if_neg hcd] at h
                  exact .inr (.inr (.inr (.inr ⟨hk, hk2, Classical.not_not.1 hcd, h⟩)))
theorem uni_step {s s1 : List Bind} (hs : BOk s) {n : Nat} {a b : Term} (ha : trmOk a = true) (hb : trmOk b = true) {c d : Cell} {x y : Term} (h1 : walkF s n a = some (c :: x)) (h2 : walkF s n b = some (d :: y))
    (h : (c.kind = 1 ∧ d ≠ c ∧ bindF s n c.n (d :: y) = some (some s1)) ∨ (c.kind ≠ 1 ∧ d.kind = 1 ∧ bindF s n d.n (c :: x) = some (some s1))) : BOk s1 ∧ ∃ l, s1 = s ++ l := by
  have hu : uniF (n + 1) s a b = some (some s1) := by
    rw [uniF, h1, h2]
    simp only
    rcases h with ⟨h3, h4, h5⟩ | ⟨h3, h4, h5⟩
    · rw [if_pos h3, if_neg h4]; exact h5
    · rw [if_neg h3, if_pos h4]; exact h5
  obtain ⟨k1, k2, _⟩ := (uniF_ok hs ha hb hu).yes s1 rfl
  exact ⟨k1, k2⟩
/-- What holds in the loop. -/
def U2 (n : Nat) (r : Option (List Bind)) (B : Nat) (okE : Nat → Prop) (w wr : World) (g : Nat) (sv lv rv : Value) : Prop := ∃ (st : List (Term × Term)) (s2 : List Bind) (okE2 : Nat → Prop) (F : List Term), St3 B wr okE2 sv lv rv s2 (st.map Prod.fst).reverse (st.map Prod.snd).reverse ∧ stU n g s2 st = some r ∧ BOk s2 ∧
  (∀ p ∈ st, trmOk p.1 = true ∧ trmOk p.2 = true) ∧ Fit s2 st F ∧ SKeep w wr B okE okE2
/-- What the reference's unification leaves. -/
def SPostB (w w' : World) (B : Nat) (okE : Nat → Prop) (e : Ending) (r : Option (List Bind)) : Prop := ∃ okE' : Nat → Prop, SKeep w w' B okE okE' ∧
  (match r with
   | none => ∃ v0, e = .returned (.tuple #[v0, .bool false])
   | some s1 => ∃ v1, e = .returned (.tuple #[v1, .bool true]) ∧ kBind.W w' (fun k => B ≤ k ∧ ¬ okE' k) okE' v1 s1)
theorem St3.out {B : Nat} {w : World} {okE : Nat → Prop} {sv lv rv : Value} {s : List Bind} {Ls Rs : List Term} (h : St3 B w okE sv lv rv s Ls Rs) : kBind.W w (fun k => B ≤ k ∧ ¬ okE k) okE sv s := by
  obtain ⟨So, SL, SR, h1, h2, h3, h4, h5, h6, h7⟩ := h
  exact Kd.W_move (Keeps.mono fun k hk _ => ⟨(h4 k hk).1, (h4 k hk).2.2.2⟩) (Keeps.mono fun k hk _ => hk) h1
theorem St3.forms {B : Nat} {w : World} {okE : Nat → Prop} {sv lv rv : Value} {s : List Bind} {Ls Rs : List Term} (h : St3 B w okE sv lv rv s Ls Rs) : (∃ A c, sv = .slice A s.length c) ∧ (∃ A c, lv = .slice A Ls.length c) ∧ ∃ A c, rv = .slice A Rs.length c := by
  obtain ⟨So, SL, SR, h1, h2, h3, -⟩ := h
  obtain ⟨A1, c1, e1, -⟩ := Kd.W_form h1
  obtain ⟨A2, c2, e2, -⟩ := Kd.W_form h2
  obtain ⟨A3, c3, e3, -⟩ := Kd.W_form h3
  exact ⟨⟨A1, c1, e1⟩, ⟨A2, c2, e2⟩, A3, c3, e3⟩
end
section
open Go.RowKit
set_option linter.unusedVariables false
set_option maxRecDepth 100000
/-- What holds of what is left, when arguments are put onto it. -/
def U2Next (n : Nat) (r : Option (List Bind)) (B : Nat) (s2 : List Bind) (st : List (Term × Term)) (L M : List Term) (g : Nat) (F2 : List Term) (ta : Term) (okE2 : Nat → Prop) : Prop := stU n g s2 (L.zip M ++ st) = some r ∧ BOk s2 ∧ (∀ p ∈ L.zip M ++ st, trmOk p.1 = true ∧ trmOk p.2 = true) ∧ ∃ F, Fit s2 (L.zip M ++ st) F
set_option maxHeartbeats 16000000 in
theorem l2Unify_c (n : Nat) (val va vb : Value) (s : List Bind) (a b : Term) (S okE : Nat → Prop) (B : Nat) (w : World) (r : Option (List Bind)) (hs : BOk s) (hU : kBind.W w S okE val s) (hS : ∀ k, S k → B ≤ k ∧ k < w.heap.size ∧ ¬ okE k) (hok : ∀ k, okE k → k < w.heap.size) (hB : B ≤ w.heap.size) (hA : kCell.V w okE va a) (hb : kCell.V w okE vb b) (ha : trmOk a = true) (hb2 : trmOk b = true) (h : uniF n s a b = some r) :
    Calls Tryz.prog 62 #[val, va, vb] w fun e w' => SPostB w w' B okE e r := by
  obtain ⟨K, hK⟩ := stU_one h
  obtain ⟨Av, cv, rfl, -, -, -⟩ := Kd.W_form hU
  have hst := St3.start hU hS hok hB hA hb
  have H0 : Sec (∀ wr, Below ((w.alloc (.cells #[va] 30)).alloc (.cells #[vb] 30)).heap.size ((w.alloc (.cells #[va] 30)).alloc (.cells #[vb] 30)) wr → U2 n r B okE w wr K (.slice Av s.length cv) (.slice (some ⟨w.heap.size, 0, none⟩) 1 1) (.slice (some ⟨w.heap.size + 1, 0, none⟩) 1 1)) := ⟨fun wr hbw =>
    ⟨[(a, b)], s, okE, [], hst.below hbw, hK, hs, by simp [ha, hb2], .base (by simp), (SKeep.refl hB hok).below (bel (belA (belA (Below.refl _ _) _) _) hbw)⟩⟩
  have hu := Tryz.underlying77
  have hBs : Sec (B ≤ w.heap.size) := ⟨hB⟩
  obtain ⟨Aa, ca, rfl, -⟩ := hA
  obtain ⟨Ab, cb, rfl, -⟩ := hb
  clear hst hs hU hS hok hB ha hb2 h hK
  go_enter Tryz.func62, Tryz.ntmps62
  go_wp2
  go_loopg [0, 8, 9] K (fun g sv lv rv wr => Sec (U2 n r B okE w wr g sv lv rv))
  case atStart => exact ⟨H0.out _ (Below.refl _ _)⟩
  case round =>
    obtain ⟨st, s2, okE2, F, h1, h2, h3, h4, h5, h6⟩ := hrel.out
    clear hrel
    have HS := Sec.mk h3
    have HK := Sec.mk h6
    cases st with
    | nil =>
      have hr : Sec (r = some s2) := ⟨by cases gk with
        | zero => cases h2
        | succ g => rw [stU] at h2; simpa using h2.symm⟩
      obtain ⟨⟨A1, c1, rfl⟩, ⟨A2, c2, rfl⟩, A3, c3, rfl⟩ := h1.forms
      have HW := Sec.mk h1.out
      simp only [List.map_nil, List.reverse_nil, List.length_nil]
      clear h1 h2 h3 h4 h5 h6
      go_wp2
      refine bodyPost_ret (v := .tuple #[.slice A1 s2.length c1, .bool true]) (by simp [results, Tryz.results62, go_sem]) rfl ?_
      rw [hr.out]
      exact ⟨okE2, HK.out, _, rfl, HW.out⟩
    | cons p st =>
      obtain ⟨ta, tb⟩ := p
      obtain ⟨g, c, x, d, y, rfl, hwa, hwb, hcase⟩ := stU_open h2
      obtain ⟨hta, htb⟩ := h4 (ta, tb) List.mem_cons_self
      have H4 : Sec (∀ p ∈ st, trmOk p.1 = true ∧ trmOk p.2 = true) := ⟨fun p hp => h4 p (List.mem_cons_of_mem _ hp)⟩
      obtain ⟨F2, hf1, hf2⟩ := h5.pop rfl
      have hbd := h5.bound h3
      simp only [List.length_cons] at hbd
      simp only [List.map_cons, List.reverse_cons] at h1
      have hp := h1
      obtain ⟨b1, c1, v1, rfl, k1, x1, hv1⟩ := h1.lastL
      obtain ⟨b2, c2, v2, rfl, k2, x2, hv2⟩ := h1.swap.lastL
      obtain ⟨⟨A1, cs1, rfl⟩, -⟩ := h1.forms
      have HPOP := Sec.mk hp.pop
      obtain ⟨okR, hbv⟩ := h1.bv
      have HBV := Sec.mk hbv
      have hm1 : (st.map Prod.fst).reverse.length = st.length := by simp
      have hm2 : (st.map Prod.snd).reverse.length = st.length := by simp
      rw [hm1] at x1 k1
      rw [hm2] at x2 k2
      rw [hm1, hm2] at HPOP
      rw [hm1, hm2]
      have HV1 := Sec.mk hv1
      have HV2 := Sec.mk hv2
      have HTA := Sec.mk hta
      have HTB := Sec.mk htb
      have HWA := Sec.mk hwa
      have HWB := Sec.mk hwb
      have HC := Sec.mk hcase
      have HF1 := Sec.mk hf1
      have HF2 := Sec.mk hf2
      have X2 : Sec (∀ W, Below wr.heap.size wr W → W.cell? ⟨b2, st.length, none⟩ = some v2) := ⟨fun W h => Raw.cell_below h x2⟩
      have T0 : Sec True := ⟨trivial⟩
      generalize hm : st.length = m at *
      have HM := Sec.mk hm
      have i0 : IntKind.i64.wrap (((m + 1 : Nat) : Int) - 1) = (m : Int) := by rw [show ((m + 1 : Nat) : Int) - 1 = (m : Int) by omega]; exact IntWalk.i64_in _ (by omega)
      have i1 : (0 : Int) ≤ (m : Int) := by omega
      have i2 : (m : Int) < ((m + 1 : Nat) : Int) := by omega
      have i3 : ((m + 1 : Nat) : Int) > 0 := by omega
      have i4 : (m : Int) ≤ (c1 : Int) := by omega
      have i5 : (m : Int) ≤ (c2 : Int) := by omega
      clear h1 h2 h3 h4 h5 h6 hp hbv hv1 hv2 hta htb hwa hwb hcase hf1 hf2 hm1 hm2 hm H0
      go_wp2_with (first | (clear T1; go_at_call 77; have T2 : Sec True := ⟨trivial⟩; refine (l2Walk_c n _ v2 s2 tb (d :: y) okR okE2 _ HS.out (HBV.out.below B1.out) (Kd.V_below HV2.out B1.out (by decide)) HTB.out HWB.out).mono ?_; rintro e w2 ⟨z, rfl, hz, hb2⟩; have ZB := Sec.mk hz; have ZA2 := Sec.mk (Kd.V_below ZA.out hb2 (by decide)); obtain ⟨b4, off4, cp4, rfl, -⟩ := cV_cons hz; have B2 := Sec.mk (bel B1.out hb2); clear hz hb2) | (clear T0; go_at_call 77; have T1 : Sec True := ⟨trivial⟩; refine (l2Walk_c n _ v1 s2 ta (c :: x) okR okE2 _ HS.out HBV.out HV1.out HTA.out HWA.out).mono ?_; rintro e w1 ⟨z, rfl, hz, hb1⟩; have ZA := Sec.mk hz; obtain ⟨b3, off3, cp3, rfl, -⟩ := cV_cons hz; have B1 := Sec.mk hb1; have x2 := X2.out _ hb1; clear hz hb1))
      obtain ⟨b3', off3', cp3', e1, p1, c0, c1', c2'⟩ := cV_cons ZA2.out
      simp only [Value.slice.injEq, Option.some.injEq, Addr.mk.injEq, and_true, true_and] at e1
      obtain ⟨⟨rfl, rfl⟩, rfl⟩ := e1
      obtain ⟨b4', off4', cp4', e2, p2, d0, d1', d2'⟩ := cV_cons ZB.out
      simp only [Value.slice.injEq, Option.some.injEq, Addr.mk.injEq, and_true, true_and] at e2
      obtain ⟨⟨rfl, rfl⟩, rfl⟩ := e2
      have j1 : (0 : Int) < ((x.length + 1 : Nat) : Int) := by omega
      have j2 : (0 : Int) < ((y.length + 1 : Nat) : Int) := by omega
      have HP2 : Sec (∀ q, St3 B (w2.drewN q) okE2 (.slice A1 s2.length cs1) (.slice (some ⟨b1, 0, none⟩) m c1) (.slice (some ⟨b2, 0, none⟩) m c2) s2 (st.map Prod.fst).reverse (st.map Prod.snd).reverse) := ⟨fun q => HPOP.out.below (belDq B2.out)⟩
      have HK2 : Sec (∀ q, SKeep w (w2.drewN q) B okE okE2) := ⟨fun q => HK.out.below (belDq B2.out)⟩
      have HB2 : Sec (B ≤ w2.heap.size) := ⟨Nat.le_trans HK.out.1 (Nat.le_trans HK.out.2.2.2.2.size B2.out.size)⟩
      have HTX := Sec.mk (walkF_trm HS.out HTA.out HWA.out)
      have HTY := Sec.mk (walkF_trm HS.out HTB.out HWB.out)
      have HNX := Sec.mk (fun hk : c.kind = 1 => walkF_free HS.out HTA.out HWA.out hk)
      have HNY := Sec.mk (fun hk : d.kind = 1 => walkF_free HS.out HTB.out HWB.out hk)
      have hc := HC.out
      clear HC x2
      rcases hc with ⟨hk, hdc, hst⟩ | ⟨hk, hdc, hnx⟩ | ⟨hk, hk2, hnx⟩ | ⟨hk, hk2, hcd, hr⟩ | ⟨hk, hk2, hcd, hst⟩
      · have d1 : (c.kind == 1) = true := beq_iff_eq.2 hk
        have HST := Sec.mk hst
        rcases cell_cases d c with ⟨_, g1, g2, g3⟩ | ⟨hx, _⟩
        case inr => exact absurd hdc hx
        clear hk hdc hst
        go_quiet (fail)
        rename_i nq
        have HP5 := Sec.mk (HP2.out nq)
        have HK5 := Sec.mk (HK2.out nq)
        go_wp2
        go_roundg g
        case rel => exact ⟨⟨st, s2, okE2, F2, HP5.out, HST.out, HS.out, H4.out, HF1.out, HK5.out⟩⟩
        case measure => exact Nat.lt_succ_self _
      · have d1 : (c.kind == 1) = true := beq_iff_eq.2 hk
        have HNC := Sec.mk (HNX.out hk)
        have HDC := Sec.mk (And.intro hk hdc)
        rcases cell_cases d c with ⟨hx, _⟩ | ⟨_, hg⟩
        case inl => exact absurd hx hdc
        clear hk hdc
        rcases hg with g1 | ⟨g1, g2⟩ | ⟨g1, g2, g3⟩
        all_goals
          rcases hnx with ⟨hbd, hr⟩ | ⟨s3, hbd, hn⟩
          · have HBD := Sec.mk hbd
            have HR := Sec.mk hr
            clear hbd hr
            go_quiet (fail)
            rename_i nq
            have HP5 := Sec.mk (HP2.out nq)
            have HK5 := Sec.mk (HK2.out nq)
            go_wp2_with (go_at_call 78; refine (l2Bind_c HS.out n c.n HNC.out _ _ (d :: y) _ okE2 _ (HP2.out _).out (Kd.V_below ZB.out (belDq (Below.refl _ _)) (by decide)) HTY.out none HBD.out).mono ?_; rintro e w5 hp; obtain ⟨hF5, v0, rfl⟩ := hp; have F5 := Sec.mk hF5; clear hF5)
            refine bodyPost_ret (v := .tuple #[.slice (some ⟨w5.heap.size, 0, none⟩) 0 0, .bool false]) (by simp [results, Tryz.results62, go_sem]) rfl ?_
            rw [HR.out]
            exact ⟨_, (HK5.out.trans (HP5.out.bindK (okF := fun _ => False) HB2.out F5.out (fun _ h => h.elim))).below (belA (Below.refl _ _) _), _, rfl⟩
          · have HBD := Sec.mk hbd
            have HN := Sec.mk hn
            have HBS := Sec.mk (uni_step HS.out HTA.out HTB.out HWA.out HWB.out (.inl ⟨HDC.out.1, HDC.out.2, HBD.out⟩))
            clear hbd hn
            go_quiet (fail)
            rename_i nq
            have HP5 := Sec.mk (HP2.out nq)
            have HK5 := Sec.mk (HK2.out nq)
            go_wp2_with (go_at_call 78; refine (l2Bind_c HS.out n c.n HNC.out _ _ (d :: y) _ okE2 _ (HP2.out _).out (Kd.V_below ZB.out (belDq (Below.refl _ _)) (by decide)) HTY.out (some s3) HBD.out).mono ?_; rintro e w5 hp; obtain ⟨hF5, v3, okF, rfl, hoF, hW5⟩ := hp; have F5 := Sec.mk hF5; have OF5 := Sec.mk hoF; have W5 := Sec.mk hW5; clear hF5 hoF hW5)
            go_roundg g
            case rel => exact ⟨⟨st, s3, _, F2, HP5.out.bind HB2.out F5.out OF5.out W5.out, HN.out, HBS.out.1, H4.out, HF1.out.ext (fun v t h => by obtain ⟨l, e⟩ := HBS.out.2; rw [e]; exact bget_app h), HK5.out.trans (HP5.out.bindK HB2.out F5.out OF5.out)⟩⟩
            case measure => exact Nat.lt_succ_self _

      · have d1 : (c.kind == 1) = false := beq_eq_false_iff_ne.2 hk
        have d2 : (d.kind == 1) = true := beq_iff_eq.2 hk2
        have HND := Sec.mk (HNY.out hk2)
        have HDC := Sec.mk (And.intro hk hk2)
        clear hk hk2
        rcases hnx with ⟨hbd, hr⟩ | ⟨s3, hbd, hn⟩
        · have HBD := Sec.mk hbd
          have HR := Sec.mk hr
          clear hbd hr
          go_quiet (fail)
          rename_i nq
          have HP5 := Sec.mk (HP2.out nq)
          have HK5 := Sec.mk (HK2.out nq)
          go_wp2_with (go_at_call 78; refine (l2Bind_c HS.out n d.n HND.out _ _ (c :: x) _ okE2 _ (HP2.out _).out (Kd.V_below ZA2.out (belDq (Below.refl _ _)) (by decide)) HTX.out none HBD.out).mono ?_; rintro e w5 hp; obtain ⟨hF5, v0, rfl⟩ := hp; have F5 := Sec.mk hF5; clear hF5)
          refine bodyPost_ret (v := .tuple #[.slice (some ⟨w5.heap.size, 0, none⟩) 0 0, .bool false]) (by simp [results, Tryz.results62, go_sem]) rfl ?_
          rw [HR.out]
          exact ⟨_, (HK5.out.trans (HP5.out.bindK (okF := fun _ => False) HB2.out F5.out (fun _ h => h.elim))).below (belA (Below.refl _ _) _), _, rfl⟩
        · have HBD := Sec.mk hbd
          have HN := Sec.mk hn
          have HBS := Sec.mk (uni_step HS.out HTA.out HTB.out HWA.out HWB.out (.inr ⟨HDC.out.1, HDC.out.2, HBD.out⟩))
          clear hbd hn
          go_quiet (fail)
          rename_i nq
          have HP5 := Sec.mk (HP2.out nq)
          have HK5 := Sec.mk (HK2.out nq)
          go_wp2_with (go_at_call 78; refine (l2Bind_c HS.out n d.n HND.out _ _ (c :: x) _ okE2 _ (HP2.out _).out (Kd.V_below ZA2.out (belDq (Below.refl _ _)) (by decide)) HTX.out (some s3) HBD.out).mono ?_; rintro e w5 hp; obtain ⟨hF5, v3, okF, rfl, hoF, hW5⟩ := hp; have F5 := Sec.mk hF5; have OF5 := Sec.mk hoF; have W5 := Sec.mk hW5; clear hF5 hoF hW5)
          go_roundg g
          case rel => exact ⟨⟨st, s3, _, F2, HP5.out.bind HB2.out F5.out OF5.out W5.out, HN.out, HBS.out.1, H4.out, HF1.out.ext (fun v t h => by obtain ⟨l, e⟩ := HBS.out.2; rw [e]; exact bget_app h), HK5.out.trans (HP5.out.bindK HB2.out F5.out OF5.out)⟩⟩
          case measure => exact Nat.lt_succ_self _

      · have d1 : (c.kind == 1) = false := beq_eq_false_iff_ne.2 hk
        have d2 : (d.kind == 1) = false := beq_eq_false_iff_ne.2 hk2
        have HR := Sec.mk hr
        rcases cell_cases c d with ⟨hx, _⟩ | ⟨_, hg⟩
        case inl => exact absurd hx hcd
        clear hk hk2 hr hcd
        rcases hg with g1 | ⟨g1, g2⟩ | ⟨g1, g2, g3⟩
        all_goals
          go_quiet (fail)
          go_wp2
          go_quiet (fail)
          rename_i nq
          have HK5 := Sec.mk (HK2.out nq)
          go_wp2
          refine bodyPost_ret (v := .tuple #[.slice (some ⟨w2.heap.size, 0, none⟩) 0 0, .bool false]) (by simp [results, Tryz.results62, go_sem]) rfl ?_
          rw [HR.out]
          exact ⟨okE2, (HK2.out _).below (belA (Below.refl _ _) _), _, rfl⟩
      · obtain ⟨L, hL⟩ : ∃ L, args (c :: x) = L := ⟨_, rfl⟩
        obtain ⟨M, hM⟩ : ∃ M, args (d :: y) = M := ⟨_, rfl⟩
        rw [hL, hM] at hst
        have hl3 : L.length ≤ 3 := by rw [← hL, (trmOk_Trm HTX.out).eq.2.1]; exact (cellOk_arity (trmOk_cell HTX.out List.mem_cons_self)).1
        have hlm : L.length = M.length := by rw [← hL, ← hM, (trmOk_Trm HTX.out).eq.2.1, (trmOk_Trm HTY.out).eq.2.1, hcd]
        have HLM := Sec.mk hlm
        have HL := Sec.mk hL
        have HM2 := Sec.mk hM
        have HST : Sec (U2Next n r B s2 st L M g F2 ta okE2) := ⟨hst, HS.out, by
          intro p hp
          rcases List.mem_append.1 hp with hp | hp
          · obtain ⟨e1, e2⟩ := List.of_mem_zip hp
            exact ⟨trmOk_args HTX.out _ (by rw [hL]; exact e1), trmOk_args HTY.out _ (by rw [hM]; exact e2)⟩
          · exact H4.out p hp, _, HF1.out.push HF2.out HWA.out hk HTX.out (fun p hp => by rw [hL]; exact (List.of_mem_zip hp).1) (by rw [List.length_zip]; omega)⟩
        have HKE : Sec (∀ q, SKeep w2 (w2.drewN q) B okE2 okE2) := ⟨fun q => (SKeep.refl HB2.out (HK2.out 0).2.2.1).below (belDq (Below.refl _ _))⟩
        have HKW : Sec (SKeep w w2 B okE okE2) := ⟨HK.out.below B2.out⟩
        have HST0 : Sec (∀ q, St3 B (w2.drewN q) okE2 (.slice A1 s2.length cs1) (.slice (some ⟨b1, 0, none⟩) m c1) (.slice (some ⟨b2, 0, none⟩) m c2) s2 ((st.map Prod.fst).reverse ++ (L.drop L.length).reverse) ((st.map Prod.snd).reverse ++ (M.drop L.length).reverse)) := ⟨fun q => by
          rw [hlm, List.drop_length, ← hlm, List.drop_length]
          simpa using HP2.out q⟩
        have d1 : (c.kind == 1) = false := beq_eq_false_iff_ne.2 hk
        have d2 : (d.kind == 1) = false := beq_eq_false_iff_ne.2 hk2
        have HCD := Sec.mk hcd
        rcases cell_cases c d with ⟨hcd9, g1, g2, g3⟩ | ⟨hx, _⟩
        case inr => exact absurd hcd hx
        clear hcd9
        have HXY : Sec ((L.length : Int) = c.n ∨ c.kind ≠ 3) := ⟨by
          by_cases hk3 : c.kind = 3
          · have h1 := (trmOk_Trm HTX.out).eq.2.1
            rw [hL] at h1
            have h2 := (cellOk_arity (trmOk_cell HTX.out List.mem_cons_self)).2 hk3
            left
            rw [h1]
            unfold arity
            rw [if_pos hk3]
            omega
          · exact .inr hk3⟩
        have HL0 : Sec (c.kind ≠ 3 → L = [] ∧ M = []) := ⟨fun h => by
          have h1 := (trmOk_Trm HTX.out).eq.2.1
          rw [hL] at h1
          unfold arity at h1
          rw [if_neg h] at h1
          exact ⟨List.eq_nil_of_length_eq_zero h1, List.eq_nil_of_length_eq_zero (by omega)⟩⟩
        by_cases hk3 : c.kind = 3
        · have hcn : c.n = (L.length : Int) := (HXY.out.resolve_right (fun h => h hk3)).symm
          have HK3 := Sec.mk hk3
          have HCN := Sec.mk hcn
          have i9 : IntKind.i64.wrap ((L.length : Int) - 1) = (L.length : Int) - 1 := IntWalk.i64_in _ (by omega)
          clear hk hk2 hcd hk3 hst hL hM hlm hcn i9
          go_quiet (fail)
          go_wp2
          go_quiet (fail)
          rw [HCN.out] at c1'
          clear g1 g2 g3
          have i9 : IntKind.i64.wrap ((L.length : Int) - 1) = (L.length : Int) - 1 := IntWalk.i64_in _ (by omega)
          have d3 : (c.kind == 3) = true := beq_iff_eq.2 HK3.out
          go_wp2
          go_loopw [8, 9, 13] (fun lv rv kv wr2 => ∃ (j : Nat) (z : Int), j ≤ L.length ∧ kv = .int .i64 z ∧ z = (j : Int) - 1 ∧ Sec (∃ okE3, St3 B wr2 okE3 (.slice A1 s2.length cs1) lv rv s2 ((st.map Prod.fst).reverse ++ (L.drop j).reverse) ((st.map Prod.snd).reverse ++ (M.drop j).reverse) ∧ SKeep w2 wr2 B okE2 okE3)) (fun _ _ kv _ => (intOf kv + 1).toNat)
          case atStart => exact ⟨L.length, _, Nat.le_refl _, rfl, rfl, ⟨okE2, HST0.out _, HKE.out _⟩⟩
          case round =>
            clear c0 c1' c2' d0 d1' d2'
            obtain ⟨j, z, hj, rfl, hz, hsm⟩ := hrel
            obtain ⟨okE3, h1, h2⟩ := hsm.out
            have H1 := Sec.mk h1
            have K2 := Sec.mk h2
            have ZA3 := Sec.mk (h2.V ZA2.out)
            obtain ⟨b3'', off3'', cp3'', e1, p1'', c0, c1', c2'⟩ := cV_cons ZA3.out
            simp only [Value.slice.injEq, Option.some.injEq, Addr.mk.injEq, and_true, true_and] at e1
            obtain ⟨⟨rfl, rfl⟩, rfl⟩ := e1
            clear h1 h2 hsm p1''
            cases j with
            | zero =>
              obtain rfl : z = -1 := by omega
              clear hz
              have HZL : Sec (((L.zip M ++ st).map Prod.fst).reverse = (st.map Prod.fst).reverse ++ (L.drop 0).reverse) := ⟨by rw [List.drop_zero, List.map_append, List.reverse_append, List.map_fst_zip (by have := HLM.out; omega)]⟩
              have HZR : Sec (((L.zip M ++ st).map Prod.snd).reverse = (st.map Prod.snd).reverse ++ (M.drop 0).reverse) := ⟨by rw [List.drop_zero, List.map_append, List.reverse_append, List.map_snd_zip (by have := HLM.out; omega)]⟩
              go_wp2
              go_roundg g
              case rel =>
                obtain ⟨s1, s3, s4, F3, hF3⟩ := HST.out
                exact ⟨⟨L.zip M ++ st, s2, okE3, F3, by rw [HZL.out, HZR.out]; exact H1.out, s1, s3, s4, hF3, HKW.out.trans K2.out⟩⟩
              case measure => exact Nat.lt_succ_self _
            | succ j =>
              obtain rfl : z = (j : Int) := by omega
              clear hz
              have hj1 : j < L.length := by omega
              have hj2 : j < M.length := by have := HLM.out; omega
              have HA1 := Sec.mk (fun (v : Value) (ok : Nat → Prop) (W : World) (hV : kCell.V W ok v (c :: x)) => l1Arg_c v c x L j ok W hV HTX.out HL.out hj1 HK3.out)
              have HA2 := Sec.mk (fun (v : Value) (ok : Nat → Prop) (W : World) (hV : kCell.V W ok v (d :: y)) => l1Arg_c v d y M j ok W hV HTY.out HM2.out hj2 (by rw [← HCD.out]; exact HK3.out))
              have HDL : Sec ((st.map Prod.fst).reverse ++ (L.drop j).reverse = ((st.map Prod.fst).reverse ++ (L.drop (j + 1)).reverse) ++ [L[j]]) := ⟨by rw [List.drop_eq_getElem_cons hj1, List.reverse_cons, List.append_assoc]⟩
              have HDR : Sec ((st.map Prod.snd).reverse ++ (M.drop j).reverse = ((st.map Prod.snd).reverse ++ (M.drop (j + 1)).reverse) ++ [M[j]]) := ⟨by rw [List.drop_eq_getElem_cons hj2, List.reverse_cons, List.append_assoc]⟩
              have HLL : Sec (((st.map Prod.fst).reverse ++ (L.drop (j + 1)).reverse).length + 1 ≤ 1073741824) := ⟨by simp only [List.length_append, List.length_reverse, List.length_map, List.length_drop]; have := HM.out; omega⟩
              have HLR : Sec (((st.map Prod.snd).reverse ++ (M.drop (j + 1)).reverse).length + 1 ≤ 1073741824) := ⟨by simp only [List.length_append, List.length_reverse, List.length_map, List.length_drop]; have := HM.out; have := HLM.out; omega⟩
              have HB3 : Sec (B ≤ wr.heap.size) := ⟨Nat.le_trans HB2.out K2.out.2.2.2.2.size⟩
              have i20 : (0 : Int) ≤ (j : Int) := by omega
              have i21 : IntKind.i64.wrap ((j : Int) - 1) = (j : Int) - 1 := IntWalk.i64_in _ (by omega)
              generalize L[j] = l1 at *
              generalize M[j] = m1 at *
              generalize (st.map Prod.fst).reverse ++ (L.drop (j + 1)).reverse = LS at *
              generalize (st.map Prod.snd).reverse ++ (M.drop (j + 1)).reverse = RS at *
              have T5 : Sec True := ⟨trivial⟩
              clear hj2
              go_wp2_with (first | (clear T6; go_at_call 79; have T7 : Sec True := ⟨trivial⟩; refine (HA2.out _ _ _ ((K2.out.trans K7.out).V ZB.out)).mono ?_; rintro e w8 ⟨u8, rfl, hR8, hb8⟩; obtain ⟨A8, c8, rfl, -, -⟩ := Kd.R_form hR8; have B8 := Sec.mk hb8; have WR := Sec.mk (H7.out.swap.wantL hb8 (Kd.V_move (fun k h1 h2 => ⟨⟨h1, h2⟩, rfl⟩) (Kd.R_V hR8) (by decide))); clear hR8 hb8) | (clear T5; go_at_call 79; have T6 : Sec True := ⟨trivial⟩; refine (HA1.out _ _ _ ZA3.out).mono ?_; rintro e w6 ⟨u6, rfl, hR6, hb6⟩; obtain ⟨A6, c6, rfl, -, -⟩ := Kd.R_form hR6; have B6 := Sec.mk hb6; have WL := Sec.mk (H1.out.wantL hb6 (Kd.V_move (fun k h1 h2 => ⟨⟨h1, h2⟩, rfl⟩) (Kd.R_V hR6) (by decide))); clear hR6 hb6) | (clear T7; at_builtin; refine Kd.W_app kTerm rfl (.tmp 69) (.tmp 73) 99 (.slice none 0 0) 24 rfl Tryz.underlying99 info_term rfl (by decide) (by decide) _ RS m1 [.slice A8 m1.length c8] _ _ rfl rfl rfl WR.out.1 WR.out.2 HLR.out ?_; intro v9 w9 hW9 hg9; have H9 := Sec.mk (H7.out.pushR HB7.out B8.out hg9 hW9); have K9 := Sec.mk (H7.out.swap.pushK HB7.out B8.out hg9); clear hW9 hg9) | (at_builtin; refine Kd.W_app kTerm rfl (.tmp 63) (.tmp 67) 99 (.slice none 0 0) 24 rfl Tryz.underlying99 info_term rfl (by decide) (by decide) _ LS l1 [.slice A6 l1.length c6] _ _ rfl rfl rfl WL.out.1 WL.out.2 HLL.out ?_; intro v7 w7 hW7 hg7; have H7 := Sec.mk (H1.out.pushL HB3.out B6.out hg7 hW7); have K7 := Sec.mk (H1.out.pushK HB3.out B6.out hg7); have HB7 : Sec (B ≤ w7.heap.size) := ⟨Nat.le_trans HB3.out K7.out.2.2.2.2.size⟩; clear hW7 hg7))
              go_roundw
              case rel => exact ⟨j, (j : Int) - 1, by omega, by go_num, rfl, ⟨_, by rw [HDL.out, HDR.out]; exact H9.out, (K2.out.trans K7.out).trans K9.out⟩⟩
              case measure => simp [intOf] <;> omega
        · have HK3 := Sec.mk hk3
          obtain ⟨hL0, hM0⟩ := HL0.out hk3
          have HL00 := Sec.mk hL0
          have HM00 := Sec.mk hM0
          clear hk hk2 hcd hk3 hst hL hM hlm hL0 hM0
          go_quiet (fail)
          go_wp2
          go_quiet (fail)
          clear g1 g2 g3
          have d3 : (c.kind == 3) = false := beq_eq_false_iff_ne.2 HK3.out
          go_wp2
          go_loopw [8, 9, 13] (fun lv rv kv wr2 => lv = .slice (some ⟨b1, 0, none⟩) m c1 ∧ rv = .slice (some ⟨b2, 0, none⟩) m c2 ∧ (∃ z, kv = .int .i64 z) ∧ Sec (Below w2.heap.size w2 wr2)) (fun _ _ _ _ => 0)
          case atStart => exact ⟨rfl, rfl, ⟨_, rfl⟩, ⟨belDq (Below.refl _ _)⟩⟩
          case round =>
            obtain ⟨rfl, rfl, ⟨z, rfl⟩, hb9⟩ := hrel
            have c0 := Raw.cell_below hb9.out c0
            go_wp2
            go_roundg g
            case rel =>
              obtain ⟨s1, s3, s4, F3, hF3⟩ := HST.out
              rw [HL00.out, HM00.out] at s1 s4 hF3
              exact ⟨⟨st, s2, okE2, F3, HPOP.out.below (bel B2.out hb9.out), s1, s3, s4, hF3, HKW.out.below hb9.out⟩⟩
            case measure => exact Nat.lt_succ_self _
end
end Go.Proofs.YteflipoiiddkfaaGreatDoor
