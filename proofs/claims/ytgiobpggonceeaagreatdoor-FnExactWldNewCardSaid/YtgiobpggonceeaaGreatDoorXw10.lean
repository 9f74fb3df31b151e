/- Contracts: the world at its beginning, by both; and what goes with it. -/
import Derived.Test.YtgiobpggonceeaaGreatDoorXw3
import Derived.Test.YtgiobpggonceeaaGreatDoorXw4
import Derived.Test.YtgiobpggonceeaaGreatDoorXw7
import Derived.Test.YtgiobpggonceeaaGreatDoorXw8
import Derived.Test.YtgiobpggonceeaaGreatDoorXw9
namespace Go.Proofs.YtgiobpggonceeaaGreatDoor
section
open Go.RowKit
set_option linter.unusedVariables false
set_option maxRecDepth 100000
/-- A node that is up and works at nothing. -/
def kN0 : Kd Unit where
  ty := 124
  sz := 2
  K := fun _ _ _ cs => cs = [.bool true, .slice none 0 0]
  O := fun _ _ _ cs => cs = [.bool true, .slice none 0 0]
  K_len := by rintro _ _ _ _ rfl; rfl
  K_one := by
    rintro _ _ _ _ rfl u hu
    simp only [List.mem_cons, List.not_mem_nil, or_false] at hu
    rcases hu with rfl | rfl <;> rfl
  K_move := fun _ h => h
  O_K := fun h => h
  O_move := fun _ h => h
/-- No outcome, and nothing on its way. -/
def kNil2 : Kd Unit where
  ty := 57
  sz := 2
  K := fun _ _ _ cs => cs = [.slice none 0 0, .slice none 0 0]
  O := fun _ _ _ cs => cs = [.slice none 0 0, .slice none 0 0]
  K_len := by rintro _ _ _ _ rfl; rfl
  K_one := by
    rintro _ _ _ _ rfl u hu
    simp only [List.mem_cons, List.not_mem_nil, or_false] at hu
    rcases hu with rfl | rfl <;> rfl
  K_move := fun _ h => h
  O_K := fun h => h
  O_move := fun _ h => h
structure W0 where
  prog : Prog
  nodes : List Unit
  top : Term
def kW0 : Kd W0 := Kd.iso 57 (Kd.pair kProg (Kd.pair (Kd.slice 53 kN0 (by decide)) (Kd.pair (Kd.slice 23 kCell (by decide)) kNil2))) (fun x => (x.prog, x.nodes, x.top, ()))
theorem kW0_K {w : World} {ok : Nat → Prop} {x : W0} {cs : List Value} (h : kW0.K w ok x cs) : ∃ v0 v1 v2 v3, cs = [v0, v1, v2, v3, .slice none 0 0, .slice none 0 0] ∧ kProg.K w ok x.prog [v0, v1] ∧ kN0.V w ok v2 x.nodes ∧ kCell.V w ok v3 x.top := by
  obtain ⟨_, _, rfl, g0, ⟨_, _, rfl, ⟨v2, rfl, h2⟩, ⟨_, _, rfl, ⟨v3, rfl, h3⟩, rfl⟩⟩⟩ := h
  have g := g0
  obtain ⟨v0, v1, rfl, -, -⟩ := kProg_K g0
  exact ⟨v0, v1, v2, v3, rfl, g, h2, h3⟩
theorem kW0_of {w : World} {S1 S3 : Nat → Prop} {p : Prog} {t : Term} {c : List Value} {v3 : Value} (h1 : kProg.O w S1 p c) (h3 : kCell.R w S3 v3 t) (d : ∀ k, S1 k → ¬ S3 k) : kW0.O w (fun k => S1 k ∨ S3 k) ⟨p, [], t⟩ (c ++ [.slice none 0 0, v3, .slice none 0 0, .slice none 0 0]) :=
  ⟨S1, S3, c, _, rfl, fun k h => ⟨.inl h, d k h⟩, fun k h => .inr h, h1,
    fun _ => False, S3, [.slice none 0 0], _, rfl, fun k h => h.elim, fun k h => h, ⟨_, rfl, Kd.R_nil _ _ _⟩,
    S3, fun _ => False, [v3], _, rfl, fun k h => ⟨h, id⟩, fun k h => h.elim, ⟨_, rfl, h3⟩, rfl⟩
theorem kProg_nil (w : World) (S : Nat → Prop) : kProg.O w S ⟨[], []⟩ [.slice none 0 0, .slice none 0 0] :=
  kProg.O_mono (kProg_of (x := ⟨[], []⟩) (Kd.R_nil kClause w (fun _ => False)) (Kd.R_nil kPlace w (fun _ => False)) (fun _ h => h.elim)) (fun k h _ => h.elim (fun h => h.elim) (fun h => h.elim))
theorem kW0_nil (w : World) : kW0.O w (fun _ => False) ⟨⟨[], []⟩, [], []⟩ [.slice none 0 0, .slice none 0 0, .slice none 0 0, .slice none 0 0, .slice none 0 0, .slice none 0 0] :=
  kW0.O_mono (kW0_of (kProg_nil w (fun _ => False)) (Kd.R_nil kCell w (fun _ => False)) (fun _ h => h.elim)) (fun k h _ => h.elim id id)
theorem gf_nodes : Kd.GFld kW0 (Kd.slice 53 kN0 (by decide)) 2 (fun x => x.nodes) (fun x y => { x with nodes := y }) := Kd.GFld.iso _ (Kd.GFld.snd (Kd.GFld.fst (Kd.GFld.self _))) (fun _ _ => rfl)
theorem info_Node : (Tryz.prog.info? 124).map (fun i => (i.zero, i.size, i.bytes)) = some (some (.agg #[.bool false, .slice none 0 0]), 2, 32) := by kernel_rfl
def newW (p : Prog) (t : Term) : W0 := if (prgOk p && question t) = true then ⟨p, List.replicate 3 (), t⟩ else ⟨⟨[], []⟩, [], []⟩
theorem kPlace_Ks_of {w : World} {S ok : Nat → Prop} : ∀ {xs : List Place} {S : Nat → Prop} {cs : List Value}, kPlace.Os w S xs cs → kPlace.Ks w ok xs cs
  | [], _, _, h => h
  | x :: xs, _, _, ⟨_, _, c0, c1, hc, _, _, h1, h2⟩ => ⟨c0, c1, hc, Kd.K_mono (kPlace.O_K (kPlace_KO (kPlace.O_K h1))) (fun _ h => h.elim), kPlace_Ks_of (S := S) h2⟩
theorem kPlace_R_W {w : World} {S : Nat → Prop} (ok : Nat → Prop) {v : Value} {xs : List Place} (h : kPlace.R w S v xs) : kPlace.W w S ok v xs := by
  obtain ⟨h0, ⟨rfl, rfl⟩ | ⟨b, cap, cur, rfl, hb, hS, h1, h2, h3, h4⟩⟩ := h
  · exact ⟨h0, .inl ⟨rfl, rfl⟩⟩
  · exact ⟨h0, .inr ⟨b, cap, cur, rfl, hb, hS, h1, h2, h3, kPlace_Ks_of (S := S) h4⟩⟩
section
variable {o : Oper} {a : Act} {w : World} {K : Act → World → Prop} {Q : Exit → Act → World → Prop} {E : Prop} {ops : Array Oper}
/-- append(v, y...) of a program's places, as a step. -/
theorem step_places {S ok : Nat → Prop} (hg : o.guard = none) (s x : Operand) (ho : o.op = .call { callee := .builtin .append, args := #[s, x], argTypes := #[26, 26] })
    {v u : Value} {xs ys : List Place} (hs : a.eval s = v) (hx : a.eval x = u) (HR : kPlace.R w S v xs) (HV : kPlace.V w ok u ys) (hd : ∀ k, ok k → ¬ S k) (hl : xs.length + ys.length ≤ 1073741824)
    (hk : ∀ v1 w1, kPlace.R w1 (fun k => S k ∨ (w.heap.size ≤ k ∧ k < w1.heap.size)) v1 (xs ++ ys) → Foot S w w1 → K (a.put o.dst v1) w1) : if Region.wanted o (yielded ops a.tmps) = true then Oper.wp Tryz.prog o a w K Q else E := by
  refine step_of hg (fun Q9 h9 => ?_)
  obtain ⟨_, _, _, h3⟩ := Kd.R_own HR
  refine Kd.W_cat kPlace hg s x 26 (.agg #[.string ⟨#[]⟩, .int .i64 0, .int .i64 0]) 32 ho Tryz.underlying26 info_Place rfl (by decide) (by decide) v u xs ys S ok hs hx (kPlace_R_W ok HR) (Kd.V_mono HV (fun k hk => ⟨hk, fun e => hd k hk (h3 k e.symm).1⟩) (by decide)) hl ?_
  intro v1 w1 hW hg1
  exact h9 _ _ (hk v1 w1 (Kd.R_mono (Kd.W_R_plain kPlace_KO hW) (fun k h1 h2 => h1.imp id (fun h => ⟨h, h2⟩))) (Foot.of_grown hg1 (fun k e => (h3 k e).1)))
end
theorem kp_V {w : World} {ok : Nat → Prop} {x : Prog} {cs : List Value} (h : kProg.K w ok x cs) : ∃ E0 m0 E1 m1, cs = [.slice E0 x.clauses.length m0, .slice E1 x.places.length m1] ∧ kClause.V w ok (.slice E0 x.clauses.length m0) x.clauses ∧ kPlace.V w ok (.slice E1 x.places.length m1) x.places := by
  obtain ⟨v0, v1, rfl, h0, h1⟩ := kProg_K h
  have g0 := h0
  have g1 := h1
  obtain ⟨E0, m0, rfl, -⟩ := h0
  obtain ⟨E1, m1, rfl, -⟩ := h1
  exact ⟨E0, m0, E1, m1, rfl, g0, g1⟩
theorem NodNewK_s (w : World) : Calls Tryz.prog 65 #[] w fun e w' => ∃ c : List Value, e = .returned (.agg c.toArray) ∧ kN0.O w' (fun k => w.heap.size ≤ k) () c ∧ Below w.heap.size w w' := by
  have hu := Tryz.underlying124
  have X := (box_at (heap_alloc_new w (.cells #[.bool true, .slice none 0 0] 124))).2.1
  have p0 := X 0 _ rfl
  have p1 := X 1 _ rfl
  have B0 := Sec.mk (belA (Below.refl w.heap.size w) (.cells #[.bool true, .slice none 0 0] 124))
  clear X
  go_enter Tryz.func65, Tryz.ntmps65
  go_wp2
  exact bodyPost_ret (v := .agg #[.bool true, .slice none 0 0]) (by simp [results, Tryz.results65, go_sem, p0, p1]) rfl ⟨[.bool true, .slice none 0 0], rfl, rfl, B0.out⟩
theorem NodNewK_i (w : World) : Calls Tryz.prog 73 #[] w fun e w' => ∃ c : List Value, e = .returned (.agg c.toArray) ∧ kN0.O w' (fun k => w.heap.size ≤ k) () c ∧ Below w.heap.size w w' := by
  have hu := Tryz.underlying124
  have X := (box_at (heap_alloc_new w (.cells #[.bool true, .slice none 0 0] 124))).2.1
  have p0 := X 0 _ rfl
  have p1 := X 1 _ rfl
  have B0 := Sec.mk (belA (Below.refl w.heap.size w) (.cells #[.bool true, .slice none 0 0] 124))
  clear X
  go_enter Tryz.func73, Tryz.ntmps73
  go_wp2
  exact bodyPost_ret (v := .agg #[.bool true, .slice none 0 0]) (by simp [results, Tryz.results73, go_sem, p0, p1]) rfl ⟨[.bool true, .slice none 0 0], rfl, rfl, B0.out⟩
set_option maxHeartbeats 4000000 in
theorem l8Prog_c (p : Prog) (cs : List Value) (ok0 : Nat → Prop) (w : World) (hK0 : kProg.K w ok0 p cs) :
    Calls Tryz.prog 64 #[.agg cs.toArray] w fun e w' => ∃ c : List Value, e = .returned (.agg c.toArray) ∧ kProg.O w' (fun k => w.heap.size ≤ k) p c ∧ Below w.heap.size w w' := by
  obtain ⟨ok, hok, hK⟩ : ∃ ok : Nat → Prop, (∀ k, ok k → k < w.heap.size) ∧ kProg.K w ok p cs := ⟨fun k => ok0 k ∧ k < w.heap.size, fun k h => h.2, kProg.K_move (fun k h1 h2 => ⟨⟨h1, h2⟩, rfl⟩) hK0⟩
  clear hK0
  have HOK := Sec.mk hok
  obtain ⟨E0, m0, E1, m1, rfl, h0, h1⟩ := kp_V hK
  have B0 := Sec.mk (belA (belA (Below.refl w.heap.size w) (.cells #[.slice E0 p.clauses.length m0, .slice E1 p.places.length m1] 28)) (.cells #[.slice none 0 0, .slice none 0 0] 28))
  have V0 := Sec.mk (Kd.V_below h0 B0.out (by decide))
  have V1 := Sec.mk (Kd.V_below h1 B0.out (by decide))
  have LP : Sec (p.places.length ≤ 1073741824) := ⟨by obtain ⟨_, _, _, _, _, h, _⟩ := h1; exact h⟩
  have P0 := Sec.mk (box2 w (.cells #[.slice E0 p.clauses.length m0, .slice E1 p.places.length m1] 28) (.cells #[.slice none 0 0, .slice none 0 0] 28)).1
  have P1 := Sec.mk (box2 w (.cells #[.slice E0 p.clauses.length m0, .slice E1 p.places.length m1] 28) (.cells #[.slice none 0 0, .slice none 0 0] 28)).2
  have X := (box_at P0.out).2.1
  have X0 := Sec.mk (X 0 _ rfl)
  have X1 := Sec.mk (X 1 _ rfl)
  have Z0 : Sec (((w.alloc (.cells #[.slice E0 p.clauses.length m0, .slice E1 p.places.length m1] 28)).alloc (.cells #[.slice none 0 0, .slice none 0 0] 28)).heap.size = w.heap.size + 2) := ⟨by simp⟩
  have hu := Tryz.underlying28
  have hnT : ∀ k, ok k → ¬ k = w.heap.size + 1 := fun k h e => by have := hok k h; omega
  have hnX : ¬ w.heap.size = w.heap.size + 1 := by omega
  have HN1 := Sec.mk hnT
  have HN2 := Sec.mk hnX
  clear hok hK h0 h1 X hnT hnX
  go_enter Tryz.func64, Tryz.ntmps64
  go_wp2
  generalize (w.alloc (.cells #[.slice E0 p.clauses.length m0, .slice E1 p.places.length m1] 28)).alloc (.cells #[.slice none 0 0, .slice none 0 0] 28) = wq at *
  have hnT := HN1.out
  have hnX := HN2.out
  refine wp_region_lists [[3], [4], [5], [6], [7], [8], [9], [10], [2], [2]]
    [fun val _ _ => val 3 = .pointer (some ⟨w.heap.size, 0, none⟩),
      fun val _ _ => val 4 = .slice E0 p.clauses.length m0,
      onR kClause 5 p.clauses,
      onR kPlace 6 [],
      fun val _ _ => val 7 = .pointer (some ⟨w.heap.size, 1, none⟩),
      fun val _ _ => val 8 = .slice E1 p.places.length m1,
      onR kPlace 9 p.places,
      onO kProg 10 p,
      onPtr kProg 2 28 p,
      onBox 2 #[.slice none 0 0, .slice none 0 0] 28]
    [[], [], [], [], [], [], [3], [2, 6], [9, 7], []] 1 (fun k => k = w.heap.size + 1) (fun i k => i = 9 ∧ k = w.heap.size + 1) (by kernel_rfl) ⟨by kernel_rfl, by kernel_rfl, by kernel_rfl, by kernel_rfl, by kernel_rfl⟩
    (.cons (stab_val 3 (fun v => v = .pointer (some ⟨w.heap.size, 0, none⟩))) (.cons (stab_val 4 (fun v => v = .slice E0 p.clauses.length m0)) (.cons (stab_R kClause 5 p.clauses) (.cons (stab_R kPlace 6 []) (.cons (stab_val 7 (fun v => v = .pointer (some ⟨w.heap.size, 1, none⟩))) (.cons (stab_val 8 (fun v => v = .slice E1 p.places.length m1)) (.cons (stab_R kPlace 9 p.places) (.cons (stab_O kProg 10 p) (.cons (stab_ptr kProg 2 28 p) (.cons (stab_box 2 #[.slice none 0 0, .slice none 0 0] 28) .nil))))))))))
    (fun i j k h1 h2 => h1.1.trans h2.1.symm) (fun i k h => by obtain ⟨rfl, rfl⟩ := h; exact ⟨by decide, rfl, (Array.getElem?_eq_some_iff.1 P1.out).1⟩) (fun i h1 h2 => by simp only [List.length] at h1 h2; obtain rfl : i = 9 := (by omega); exact ⟨w.heap.size + 1, rfl, P1.out, rfl, rfl⟩) (.cons ?_ (.cons ?_ (.cons ?_ (.cons ?_ (.cons ?_ (.cons ?_ (.cons ?_ (.cons ?_ (.cons ?_ .nil))))))))) ?_
  · intro a W own hfor huse hap hmi hF K hK
    have e1 : a.eval (.tmp 1) = .pointer (some ⟨w.heap.size, 0, none⟩) := hfor 1 (by kernel_rfl)
    refine op_val (.pointer (some ⟨w.heap.size, 0, none⟩)) W rfl ?_ (hK _ _ (post_pure ?_))
    · clear hfor huse hap hmi hK hF
      generalize a.eval = ρ at *
      go_simp
    · exact (if_pos rfl)
  · intro a W own hfor huse hap hmi hF K hK
    have e3 : a.eval (.tmp 3) = .pointer (some ⟨w.heap.size, 0, none⟩) := huse 0 (by kernel_rfl)
    have c0 := foot_cell hF hnX X0.out
    refine op_val (.slice E0 p.clauses.length m0) W rfl ?_ (hK _ _ (post_pure ?_))
    · clear hfor huse hap hmi hK hF
      generalize a.eval = ρ at *
      go_simp
    · exact (if_pos rfl)
  · intro a W own hfor huse hap hmi hF K hK
    have e4 : a.eval (.tmp 4) = .slice E0 p.clauses.length m0 := huse 1 (by kernel_rfl)
    have efn : a.eval (.func 148) = .func (.func 148) #[] #[] := rfl
    refine op_call (f := 148) (args := #[.slice E0 p.clauses.length m0]) (fun v w1 => kClause.R w1 (fun k => W.heap.size ≤ k) v p.clauses ∧ Below W.heap.size W w1) rfl ?_ ?_ (fun v w1 h => ?_)
    · clear hfor huse hap hmi hK hF
      generalize a.eval = ρ at *
      go_simp
    · exact (l3Copy_c _ p.clauses ok W (foot_V hF hnT V0.out (by decide))).mono (by rintro e w1 ⟨u, rfl, h1, h2⟩; exact ⟨_, rfl, h1, h2⟩)
    · obtain ⟨h1, h2⟩ := h
      exact hK _ _ (post_new h2 (by show kClause.R _ _ (if _ then _ else _) p.clauses; rw [if_pos rfl]; exact Kd.R_mono h1 (fun k h3 h4 => ⟨h3, h4⟩)))
  · intro a W own hfor huse hap hmi hF K hK
    refine op_val (.slice (some ⟨W.heap.size, 0, none⟩) 0 0) (W.alloc (.cells #[] kPlace.ty)) rfl ?_ (hK _ _ (post_new (belA (Below.refl _ _) _) ?_))
    · clear hfor huse hap hmi hK hF
      generalize a.eval = ρ at *
      go_simp
      try rfl
    · show kPlace.R _ _ (if _ then _ else _) []
      rw [if_pos rfl]
      exact Kd.R_mono (Kd.R_empty (w := W) kPlace (Nat.le_refl _)) (fun k h1 h2 => ⟨h1, h2⟩)
  · intro a W own hfor huse hap hmi hF K hK
    have e1 : a.eval (.tmp 1) = .pointer (some ⟨w.heap.size, 0, none⟩) := hfor 1 (by kernel_rfl)
    refine op_val (.pointer (some ⟨w.heap.size, 1, none⟩)) W rfl ?_ (hK _ _ (post_pure ?_))
    · clear hfor huse hap hmi hK hF
      generalize a.eval = ρ at *
      go_simp
    · exact (if_pos rfl)
  · intro a W own hfor huse hap hmi hF K hK
    have e7 : a.eval (.tmp 7) = .pointer (some ⟨w.heap.size, 1, none⟩) := huse 4 (by kernel_rfl)
    have c1 := foot_cell hF hnX X1.out
    refine op_val (.slice E1 p.places.length m1) W rfl ?_ (hK _ _ (post_pure ?_))
    · clear hfor huse hap hmi hK hF
      generalize a.eval = ρ at *
      go_simp
    · exact (if_pos rfl)
  · intro a W own hfor huse hap hmi hF K hK
    have e8 : a.eval (.tmp 8) = .slice E1 p.places.length m1 := huse 5 (by kernel_rfl)
    have r0 : kPlace.R W (own 3) (a.eval (.tmp 6)) [] := huse 3 (by kernel_rfl)
    have hV := foot_V hF hnT V1.out (by decide)
    refine step_places rfl (.tmp 6) (.tmp 8) rfl rfl e8 r0 hV ?_ ?_ (fun v1 w1 hR hF1 => hK _ _ ⟨fun k => own 3 k ∨ (W.heap.size ≤ k ∧ k < w1.heap.size), Foot.mono hF1 (fun k h => ⟨3, by decide, h⟩), ?_, fun k h => Or.imp (fun h => ⟨3, by decide, h⟩) id h⟩)
    · exact fun k h1 h2 => by have h3 := (hmi 3 k h2).1; have h4 := HOK.out k h1; have z0 := Z0.out; rcases h3 with h3 | h3; (have h3 : wq.heap.size ≤ k := h3; omega); (have h3 : k = w.heap.size + 1 := h3; omega)
    · have := LP.out; simpa using this
    · show kPlace.R _ _ (if _ then _ else _) p.places
      rw [if_pos rfl]
      exact hR
  · intro a W own hfor huse hap hmi hF K hK
    have r2 : kClause.R W (own 2) (a.eval (.tmp 5)) p.clauses := huse 2 (by kernel_rfl)
    obtain ⟨A2, n2, e5, -, -⟩ := Kd.R_form r2
    rw [e5] at r2
    have r6 : kPlace.R W (own 6) (a.eval (.tmp 9)) p.places := huse 6 (by kernel_rfl)
    obtain ⟨A6, n6, e9, -, -⟩ := Kd.R_form r6
    rw [e9] at r6
    refine op_val (.agg #[.slice A2 p.clauses.length n2, .slice A6 p.places.length n6]) W rfl ?_ (hK _ _ ⟨fun k => own 2 k ∨ own 6 k, Foot.refl _ _, ⟨[.slice A2 p.clauses.length n2, .slice A6 p.places.length n6], if_pos rfl, kProg_of r2 r6 (fun k h1 h2 => by have := hap 2 6 k h1 h2; omega)⟩, ?_⟩)
    · clear hfor huse hap hmi hK hF
      generalize a.eval = ρ at *
      go_simp
    · intro k h
      left
      rcases h with h | h
      · exact ⟨2, by decide, h⟩
      · exact ⟨6, by decide, h⟩
  · intro a W own hfor huse hap hmi hF K hK
    obtain ⟨g, e2, hb, hSg⟩ := (huse 9 (by kernel_rfl) : onBox 2 #[.slice none 0 0, .slice none 0 0] 28 (slotsOf a) (own 9) W)
    have e2 : a.eval (.tmp 2) = .pointer (some ⟨g, 0, none⟩) := e2
    obtain ⟨cs7, e10, r7⟩ := (huse 7 (by kernel_rfl) : onO kProg 10 p (slotsOf a) (own 7) W)
    have e10 : a.eval (.tmp 10) = .agg cs7.toArray := e10
    have hlen := kProg.K_len (kProg.O_K r7)
    refine step_store rfl 28 (.tmp 2) (.tmp 10) rfl e2 e10 hb (by rw [hlen]; kernel_rfl) (by rw [hlen]; rfl) (kProg.K_one (kProg.O_K r7)) (fun w1 hb1 hF1 => hK _ _ ⟨fun k => own 9 k ∨ own 7 k, Foot.mono hF1 (fun k e => ⟨9, by decide, e ▸ hSg⟩), ?_, ?_⟩)
    · exact ⟨g, cs7, e2, hb1, .inl hSg, Kd.O_mono (hF1.O r7 (fun k h1 h2 => by have := hap 9 7 g hSg (h2 ▸ h1); omega)) (fun k h _ => ⟨.inr h, fun e => by have := hap 9 7 g hSg (e ▸ h); omega⟩)⟩
    · intro k h
      left
      rcases h with h | h
      · exact ⟨9, by decide, h⟩
      · exact ⟨7, by decide, h⟩
  intro a' W own hf
  have s1 := hf.st.size
  have s2 := hf.st.rest
  have s3 := fun t ht => hf.st.kept t ht
  revert hf
  revert a'
  refine lay_intro (df := []) [true, true, true, false, false, false, false, false, false, false, false] (by kernel_rfl) rfl ?_
  intro x10 x9 x8 x7 x6 x5 x4 x3 hf
  obtain ⟨g, cs, h0, hb, hSg, hO⟩ := hf.at 8 (onPtr kProg 2 28 p) rfl (by kernel_rfl)
  have h0 : (Value.pointer (some ⟨w.heap.size + 1, 0, none⟩)) = .pointer (some ⟨g, 0, none⟩) := h0
  obtain rfl : w.heap.size + 1 = g := by injection h0 with h0; injection h0 with h0; injection h0
  have HB := Sec.mk hb
  have hlen := kProg.K_len (kProg.O_K hO)
  have hlow : ∀ k, (own 8 k ∧ k ≠ w.heap.size + 1) → w.heap.size ≤ k := fun k h => by
    have := hf.st.mine 8 k h.1
    rcases this.1 with h1 | h1
    · have h1 : wq.heap.size ≤ k := h1
      have := Z0.out
      omega
    · have h2 : k = w.heap.size + 1 := h1
      omega
  have HO := Sec.mk (kProg.O_mono hO (fun k h _ => hlow k h))
  have HF := Sec.mk (hf.st.foot.below (belD B0.out) (fun k h => by have h : k = w.heap.size + 1 := h; omega))
  clear hf hb hO hlow h0 hSg
  go_wp2
  refine bodyPost_ret (results_cell rfl rfl HB.out hu rfl (by rw [hlen]; kernel_rfl)) rfl ⟨_, rfl, ?_, ?_⟩
  · exact HO.out
  · exact HF.out
set_option maxHeartbeats 8000000 in
theorem WldNew_c (p : Prog) (cs : List Value) (v : Value) (t : Term) (ok0 ok1 : Nat → Prop) (w : World) (hK0 : kProg.K w ok0 p cs) (hV0 : kCell.V w ok1 v t) :
    Calls Tryz.prog 20 #[.agg cs.toArray, v] w fun e w' => ∃ c : List Value, e = .returned (.agg c.toArray) ∧ kW0.O w' (fun k => w.heap.size ≤ k) (newW p t) c ∧ Below w.heap.size w w' := by
  obtain ⟨okp, hok, hK⟩ : ∃ ok : Nat → Prop, (∀ k, ok k → k < w.heap.size) ∧ kProg.K w ok p cs := ⟨fun k => ok0 k ∧ k < w.heap.size, fun k h => h.2, kProg.K_move (fun k h1 h2 => ⟨⟨h1, h2⟩, rfl⟩) hK0⟩
  obtain ⟨okt, hokt, hV⟩ : ∃ ok : Nat → Prop, (∀ k, ok k → k < w.heap.size) ∧ kCell.V w ok v t := ⟨fun k => ok1 k ∧ k < w.heap.size, fun k h => h.2, Kd.V_move (fun k h1 h2 => ⟨⟨h1, h2⟩, rfl⟩) hV0 (by decide)⟩
  clear hK0 hV0
  have HOK := Sec.mk (And.intro hok hokt)
  obtain ⟨E0, m0, E1, m1, rfl, -, -⟩ := kp_V hK
  have LT : Sec (t.length ≤ 1073741824) := ⟨by obtain ⟨_, _, _, _, _, h, _⟩ := hV; exact h⟩
  have B0 := Sec.mk (belA (belA (Below.refl w.heap.size w) (.cells #[.slice E0 p.clauses.length m0, .slice E1 p.places.length m1] 28)) (.cells #[.slice none 0 0, .slice none 0 0, .slice none 0 0, .slice none 0 0, .slice none 0 0, .slice none 0 0] 57))
  have K0 := Sec.mk (Kd.K_below hK B0.out)
  have V0 := Sec.mk (Kd.V_below hV B0.out (by decide))
  have PB0 := Sec.mk (box2 w (.cells #[.slice E0 p.clauses.length m0, .slice E1 p.places.length m1] 28) (.cells #[.slice none 0 0, .slice none 0 0, .slice none 0 0, .slice none 0 0, .slice none 0 0, .slice none 0 0] 57)).1
  have RB0 := Sec.mk (box2 w (.cells #[.slice E0 p.clauses.length m0, .slice E1 p.places.length m1] 28) (.cells #[.slice none 0 0, .slice none 0 0, .slice none 0 0, .slice none 0 0, .slice none 0 0, .slice none 0 0] 57)).2
  have X := (box_at PB0.out).2.1
  have y0 := X 0 _ rfl
  have y1 := X 1 _ rfl
  have Z0 : Sec (w.heap.size + 2 ≤ ((w.alloc (.cells #[.slice E0 p.clauses.length m0, .slice E1 p.places.length m1] 28)).alloc (.cells #[.slice none 0 0, .slice none 0 0, .slice none 0 0, .slice none 0 0, .slice none 0 0, .slice none 0 0] 57)).heap.size) := ⟨by simp⟩
  have T0 : Sec True := ⟨trivial⟩
  obtain ⟨A9, c9, rfl, -⟩ := hV
  clear hok hokt hK X
  have hu := Tryz.underlying57
  have hu2 := Tryz.underlying28
  cases hq : prgOk p with
  | false =>
    have HQ := Sec.mk hq
    have hn : Sec (newW p t = ⟨⟨[], []⟩, [], []⟩) := ⟨if_neg (by rw [hq]; simp)⟩
    clear hq
    go_enter Tryz.func20, Tryz.ntmps20
    go_wp2_with (first | (clear T0; go_at_call 17; have T1 : Sec True := ⟨trivial⟩; refine (specPrgOk_c p _ okp _ K0.out (fun q h => by have := HOK.out.1 q h; have := Z0.out; omega)).mono ?_; rw [HQ.out]; rintro e w1 ⟨rfl, hb⟩; have RB1 := Sec.mk ((hb.block _ (Array.getElem?_eq_some_iff.1 RB0.out).1).trans RB0.out); have PB1 := Sec.mk ((hb.block _ (Array.getElem?_eq_some_iff.1 PB0.out).1).trans PB0.out); have X := (box_at PB1.out).2.1; have z0 := X 0 _ rfl; have z1 := X 1 _ rfl; have B1 := Sec.mk (bel B0.out hb); have V1 := Sec.mk (Kd.V_below V0.out hb (by decide)); have K1 := Sec.mk (Kd.K_below K0.out hb); have Z1 : Sec (w.heap.size + 2 ≤ w1.heap.size) := ⟨Nat.le_trans Z0.out hb.size⟩; clear hb X) | (with_reducible show wpList _ _ _ (⟨none, .store 57 (.tmp 4) (.tmp 15), _, _, _, _⟩ :: _) _ _; refine wpList_store (cs := [.slice none 0 0, .slice none 0 0, .slice none 0 0, .slice none 0 0, .slice none 0 0, .slice none 0 0]) rfl 57 (.tmp 4) (.tmp 15) rfl rfl rfl RB1.out (by kernel_rfl) rfl (kW0.K_one (kW0.O_K (kW0_nil w))) ?_; intro w8 hb8 hF8; have B8 := Sec.mk hb8; have F8 := Sec.mk hF8; clear hb8 hF8))
    refine bodyPost_ret (results_cell rfl rfl B8.out hu rfl (by kernel_rfl)) rfl ⟨_, rfl, ?_, ?_⟩
    · rw [hn.out]; exact kW0.O_mono (kW0_nil _) (fun _ h _ => h.elim)
    · exact F8.out.below B1.out (fun q h => by have h1 : q = w.heap.size + 1 := h; omega)
  | true =>
    have HQ := Sec.mk hq
    cases ht : question t with
    | false =>
      have HT := Sec.mk ht
      have hn : Sec (newW p t = ⟨⟨[], []⟩, [], []⟩) := ⟨if_neg (by rw [ht]; simp)⟩
      clear hq ht
      go_enter Tryz.func20, Tryz.ntmps20
      go_wp2_with (first | (clear T1; go_at_call 51; have T2 : Sec True := ⟨trivial⟩; refine (l4Top_c _ t okt _ V1.out (fun q h => by have := HOK.out.2 q h; have := Z1.out; omega)).mono ?_; rw [HT.out]; rintro e w2 ⟨rfl, hb⟩; have RB2 := Sec.mk ((hb.block _ (Array.getElem?_eq_some_iff.1 RB1.out).1).trans RB1.out); have PB2 := Sec.mk ((hb.block _ (Array.getElem?_eq_some_iff.1 PB1.out).1).trans PB1.out); have X := (box_at PB2.out).2.1; have z0 := X 0 _ rfl; have z1 := X 1 _ rfl; have B2 := Sec.mk (bel B1.out hb); have V2 := Sec.mk (Kd.V_below V1.out hb (by decide)); have K2 := Sec.mk (Kd.K_below K1.out hb); have Z2 : Sec (w.heap.size + 2 ≤ w2.heap.size) := ⟨Nat.le_trans Z1.out hb.size⟩; clear hb X) | (clear T0; go_at_call 17; have T1 : Sec True := ⟨trivial⟩; refine (specPrgOk_c p _ okp _ K0.out (fun q h => by have := HOK.out.1 q h; have := Z0.out; omega)).mono ?_; rw [HQ.out]; rintro e w1 ⟨rfl, hb⟩; have RB1 := Sec.mk ((hb.block _ (Array.getElem?_eq_some_iff.1 RB0.out).1).trans RB0.out); have PB1 := Sec.mk ((hb.block _ (Array.getElem?_eq_some_iff.1 PB0.out).1).trans PB0.out); have X := (box_at PB1.out).2.1; have z0 := X 0 _ rfl; have z1 := X 1 _ rfl; have B1 := Sec.mk (bel B0.out hb); have V1 := Sec.mk (Kd.V_below V0.out hb (by decide)); have K1 := Sec.mk (Kd.K_below K0.out hb); have Z1 : Sec (w.heap.size + 2 ≤ w1.heap.size) := ⟨Nat.le_trans Z0.out hb.size⟩; clear hb X) | (with_reducible show wpList _ _ _ (⟨none, .store 57 (.tmp 4) (.tmp 15), _, _, _, _⟩ :: _) _ _; refine wpList_store (cs := [.slice none 0 0, .slice none 0 0, .slice none 0 0, .slice none 0 0, .slice none 0 0, .slice none 0 0]) rfl 57 (.tmp 4) (.tmp 15) rfl rfl rfl RB2.out (by kernel_rfl) rfl (kW0.K_one (kW0.O_K (kW0_nil w))) ?_; intro w8 hb8 hF8; have B8 := Sec.mk hb8; have F8 := Sec.mk hF8; clear hb8 hF8))
      refine bodyPost_ret (results_cell rfl rfl B8.out hu rfl (by kernel_rfl)) rfl ⟨_, rfl, ?_, ?_⟩
      · rw [hn.out]; exact kW0.O_mono (kW0_nil _) (fun _ h _ => h.elim)
      · exact F8.out.below B2.out (fun q h => by have h1 : q = w.heap.size + 1 := h; omega)
    | true =>
      have HT := Sec.mk ht
      have hn : Sec (newW p t = ⟨p, List.replicate 3 (), t⟩) := ⟨if_pos (by rw [hq, ht]; rfl)⟩
      clear hq ht
      go_enter Tryz.func20, Tryz.ntmps20
      go_wp2_with (first | (at_builtin; clear T3; have T4 : Sec True := ⟨trivial⟩; refine Kd.W_cat kCell rfl (.tmp 18) (.tmp 19) 23 (.agg #[.int .i64 0, .int .i64 0, .string ⟨#[]⟩]) 32 rfl Tryz.underlying23 info_cell rfl (by decide) (by decide) (.slice (some ⟨w3.heap.size, 0, none⟩) 0 0) (.slice A9 t.length c9) [] t (fun k => w3.heap.size ≤ k) (fun k => k < w3.heap.size) rfl rfl (Kd.W_empty kCell w3 _ _ (Nat.le_refl _)) (Kd.V_move (fun k hk hl => ⟨⟨hl, fun e => absurd (show k = w3.heap.size by simpa [Value.ownBlock] using e) (by omega)⟩, Below.heap_alloc _ _ _ hl⟩) V3.out (by decide)) (by have := LT.out; simpa using this) ?_; intro v1 w4 hW hg; have hb : Below w3.heap.size w3 w4 := (belA (Below.refl w3.heap.size w3) _).grown hg (by simp) (fun k e => Nat.le_of_eq (show w3.heap.size = k by simpa [Value.ownBlock] using e)); have hR0 := kCell_W_R hW; simp only [List.nil_append] at hR0; have hR : kCell.R w4 (fun k => w3.heap.size ≤ k ∧ k < w4.heap.size) v1 t := Kd.R_mono hR0 (fun k h h2 => ⟨h.elim id (fun h => by simp at h; omega), h2⟩); clear hR0 hW hg; obtain ⟨A1, n1, rfl, -, -⟩ := Kd.R_form hR; have R4 := Sec.mk hR; have RB4 := Sec.mk ((hb.block _ (Array.getElem?_eq_some_iff.1 RB3.out).1).trans RB3.out); have B4 := Sec.mk (bel B3.out hb); have O4 := Sec.mk (Kd.O_below O3.out hb); have Z4 : Sec (w.heap.size + 2 ≤ w4.heap.size ∧ w3.heap.size ≤ w4.heap.size) := ⟨Nat.le_trans Z3.out hb.size, hb.size⟩; clear hb hR) | (clear T2; go_at_call 64; have T3 : Sec True := ⟨trivial⟩; refine (l8Prog_c p _ okp _ K2.out).mono ?_; rintro e w3 ⟨c9p, rfl, hO, hb⟩; obtain ⟨D0, d0, D1, d1, rfl, -, -⟩ := kp_V (kProg.O_K hO); have O3 := Sec.mk (kProg.O_mono hO (S1 := fun k => w.heap.size + 2 ≤ k ∧ k < w3.heap.size) (fun k h h2 => ⟨Nat.le_trans Z2.out h, h2⟩)); have RB3 := Sec.mk ((hb.block _ (Array.getElem?_eq_some_iff.1 RB2.out).1).trans RB2.out); have PB3 := Sec.mk ((hb.block _ (Array.getElem?_eq_some_iff.1 PB2.out).1).trans PB2.out); have X := (box_at PB3.out).2.1; have z0 := X 0 _ rfl; have z1 := X 1 _ rfl; have B3 := Sec.mk (bel B2.out hb); have V3 := Sec.mk (Kd.V_below V2.out hb (by decide)); have K3 := Sec.mk (Kd.K_below K2.out hb); have Z3 : Sec (w.heap.size + 2 ≤ w3.heap.size) := ⟨Nat.le_trans Z2.out hb.size⟩; clear hb X hO) | (clear T1; go_at_call 51; have T2 : Sec True := ⟨trivial⟩; refine (l4Top_c _ t okt _ V1.out (fun q h => by have := HOK.out.2 q h; have := Z1.out; omega)).mono ?_; rw [HT.out]; rintro e w2 ⟨rfl, hb⟩; have RB2 := Sec.mk ((hb.block _ (Array.getElem?_eq_some_iff.1 RB1.out).1).trans RB1.out); have PB2 := Sec.mk ((hb.block _ (Array.getElem?_eq_some_iff.1 PB1.out).1).trans PB1.out); have X := (box_at PB2.out).2.1; have z0 := X 0 _ rfl; have z1 := X 1 _ rfl; have B2 := Sec.mk (bel B1.out hb); have V2 := Sec.mk (Kd.V_below V1.out hb (by decide)); have K2 := Sec.mk (Kd.K_below K1.out hb); have Z2 : Sec (w.heap.size + 2 ≤ w2.heap.size) := ⟨Nat.le_trans Z1.out hb.size⟩; clear hb X) | (clear T0; go_at_call 17; have T1 : Sec True := ⟨trivial⟩; refine (specPrgOk_c p _ okp _ K0.out (fun q h => by have := HOK.out.1 q h; have := Z0.out; omega)).mono ?_; rw [HQ.out]; rintro e w1 ⟨rfl, hb⟩; have RB1 := Sec.mk ((hb.block _ (Array.getElem?_eq_some_iff.1 RB0.out).1).trans RB0.out); have PB1 := Sec.mk ((hb.block _ (Array.getElem?_eq_some_iff.1 PB0.out).1).trans PB0.out); have X := (box_at PB1.out).2.1; have z0 := X 0 _ rfl; have z1 := X 1 _ rfl; have B1 := Sec.mk (bel B0.out hb); have V1 := Sec.mk (Kd.V_below V0.out hb (by decide)); have K1 := Sec.mk (Kd.K_below K0.out hb); have Z1 : Sec (w.heap.size + 2 ≤ w1.heap.size) := ⟨Nat.le_trans Z0.out hb.size⟩; clear hb X))
      obtain ⟨c0, c2, v, Sr, Sc, hl0, -, HG0⟩ := Growing.start (w := w4.alloc (.cells #[.slice D0 p.clauses.length d0, .slice D1 p.places.length d1, .slice none 0 0, .slice A1 t.length n1, .slice none 0 0, .slice none 0 0] 57)) (X := w4.heap.size) (n0 := w.heap.size + 2) gf_nodes (heap_alloc_new w4 _) (kW0_of (Kd.O_below O4.out (belA (Below.refl _ _) _)) (Kd.R_below R4.out (belA (Below.refl _ _) _)) (fun k h1 h2 => by omega)) (fun k hk => by have := Z4.out; have := Z3.out; rcases hk with hk | hk <;> exact ⟨by omega, by omega⟩) Z4.out.1
      have GS := Sec.mk HG0
      have HBS := Sec.mk (belA B4.out (.cells #[.slice D0 p.clauses.length d0, .slice D1 p.places.length d1, .slice none 0 0, .slice A1 t.length n1, .slice none 0 0, .slice none 0 0] 57))
      have QS := Sec.mk (box_cells (belA (Below.refl w4.heap.size w4) (.cells #[.slice D0 p.clauses.length d0, .slice D1 p.places.length d1, .slice none 0 0, .slice A1 t.length n1, .slice none 0 0, .slice none 0 0] 57)) RB4.out).1
      have HGZ : Sec (w.heap.size + 2 ≤ w4.heap.size) := ⟨Z4.out.1⟩
      clear HG0 R4 O4 B4 RB4 Z4 B3 B2 B1 B0 RB3 RB2 RB1 RB0 PB3 PB2 PB1 PB0 y0 y1 z0 z1 V0 V1 V2 V3 K0 K1 K2 K3 Z0 Z1 Z2 Z3 O3
      generalize w4.alloc (.cells #[.slice D0 p.clauses.length d0, .slice D1 p.places.length d1, .slice none 0 0, .slice A1 t.length n1, .slice none 0 0, .slice none 0 0] 57) = w5 at *
      generalize w4.heap.size = g at *
      go_loopw [6] (fun iv wr => ∃ k : Nat, k ≤ 3 ∧ iv = .int .i64 k ∧ Sec (∃ v Sr Sc, Growing kW0 kN0 53 (by decide) (fun y => (⟨p, y, t⟩ : W0)) g (w.heap.size + 2) c0 c2 57 wr v (List.replicate k ()) Sr Sc) ∧ Sec (Below w.heap.size w wr ∧ wr.heap[w.heap.size + 1]? = some (.cells #[.slice none 0 0, .slice none 0 0, .slice none 0 0, .slice none 0 0, .slice none 0 0, .slice none 0 0] 57 (0, 0)))) (fun iv _ => 3 - (intOf iv).toNat)
      case atStart => exact ⟨0, by omega, rfl, ⟨_, _, _, GS.out⟩, ⟨HBS.out, QS.out⟩⟩
      case round =>
        clear GS HBS QS
        obtain ⟨k, hk, rfl, hG, hb⟩ := hrel
        obtain ⟨v, Sr, Sc, HG0⟩ := hG.out
        clear hG
        by_cases hlt : k < 3
        · have d1 : decide ((k : Int) < 3) = true := decide_eq_true (by omega)
          have hT : Sec (List.replicate (k + 1) () = List.replicate k () ++ [()]) := ⟨List.replicate_succ'⟩
          have hLd : Sec ((List.replicate k ()).length + 1 ≤ 1073741824) := ⟨by rw [List.length_replicate]; omega⟩
          obtain ⟨Av, nv, rfl, -, -⟩ := Kd.R_form HG0.row
          generalize List.replicate k () = done at *
          have HG := Sec.mk HG0
          have NW : Sec (∀ q, (q = g ∨ Sc q) → w.heap.size + 2 ≤ q) := ⟨fun q h => by
            rcases h with h | h
            · have := HGZ.out; omega
            · exact (HG0.mine q (.inr h)).1⟩
          clear HG0
          go_wp2
          refine wp_region_lists [[26], [27], [28], [29], [30], [31], [], [], []]
            [fun val _ _ => val 26 = .pointer (some ⟨g, 2, none⟩),
              fun val _ _ => val 27 = (.slice Av done.length nv),
              onO kN0 28 (),
              onOne kN0 29 (),
              onR kN0 30 (done ++ [()]),
              fun val _ _ => val 31 = .pointer (some ⟨g, 2, none⟩),
              onGrew kN0 g c0 c2 57 (done ++ [()]),
              onCells g (c0 ++ ((.slice Av done.length nv) :: c2)).toArray 57,
              onRc kN0 (.slice Av done.length nv) done]
            [[], [], [], [2], [8, 3], [], [7, 4], [], []] 2 (fun q => q = g ∨ Sc q) (fun i k => (i = 7 ∧ k = g) ∨ (i = 8 ∧ Sc k)) (by kernel_rfl) ⟨by kernel_rfl, by kernel_rfl, by kernel_rfl, by kernel_rfl, by kernel_rfl⟩
            (.cons (stab_val 26 (fun v => v = .pointer (some ⟨g, 2, none⟩))) (.cons (stab_val 27 (fun v => v = (.slice Av done.length nv))) (.cons (stab_O kN0 28 ()) (.cons (stab_one kN0 29 ()) (.cons (stab_R kN0 30 (done ++ [()])) (.cons (stab_val 31 (fun v => v = .pointer (some ⟨g, 2, none⟩))) (.cons (stab_grew kN0 g c0 c2 57 (done ++ [()])) (.cons (stab_cells g (c0 ++ ((.slice Av done.length nv) :: c2)).toArray 57) (.cons (stab_Rc kN0 (.slice Av done.length nv) done) .nil)))))))))
            (fun i j k h1 h2 => by rcases h1 with ⟨a1, b1⟩ | ⟨a1, b1⟩ <;> rcases h2 with ⟨a2, b2⟩ | ⟨a2, b2⟩ <;> first | omega | (exact ((HG.out.mine k (.inr (by assumption))).2.2 (by assumption)).elim)) (fun i k h => by rcases h with ⟨rfl, rfl⟩ | ⟨rfl, h⟩ <;> first | exact ⟨by decide, .inl rfl, (Array.getElem?_eq_some_iff.1 HG.out.box).1⟩ | exact ⟨by decide, .inr h, (HG.out.mine k (.inr h)).2.1⟩) (fun i h1 h2 => by
              rcases (show i = 7 ∨ i = 8 by simp at h1 h2; omega) with rfl | rfl
              · exact ⟨HG.out.box, .inl ⟨rfl, rfl⟩⟩
              · exact Kd.R_mono (Kd.R_below HG.out.row (belD (Below.refl _ _))) (fun q h _ => .inr ⟨rfl, h⟩)) (.cons ?_ (.cons ?_ (.cons ?_ (.cons ?_ (.cons ?_ (.cons ?_ (.cons ?_ .nil))))))) ?_
          · intro a W own hfor huse hap hmi hF K hK
            have e5 : a.eval (.tmp 5) = .pointer (some ⟨g, 0, none⟩) := hfor 5 (by kernel_rfl)
            refine op_val (.pointer (some ⟨g, 2, none⟩)) W rfl ?_ (hK _ _ (post_pure ?_))
            · clear hfor huse hap hmi hK hF
              generalize a.eval = ρ at *
              go_simp
            · exact (if_pos rfl)
          · intro a W own hfor huse hap hmi hF K hK
            have e26 : a.eval (.tmp 26) = .pointer (some ⟨g, 2, none⟩) := huse 0 (by kernel_rfl)
            have q0 := grow_cell (huse 7 (by kernel_rfl) : onCells g (c0 ++ ((.slice Av done.length nv) :: c2)).toArray 57 (slotsOf a) (own 7) W).1 hl0
            refine op_val ((.slice Av done.length nv)) W rfl ?_ (hK _ _ (post_pure ?_))
            · clear hfor huse hap hmi hK hF
              generalize a.eval = ρ at *
              go_simp
            · exact (if_pos rfl)
          · intro a W own hfor huse hap hmi hF K hK
            have efn : a.eval (.func 65) = .func (.func 65) #[] #[] := rfl
            refine op_call (f := 65) (args := #[]) (fun v w1 => ∃ c : List Value, v = .agg c.toArray ∧ kN0.O w1 (fun k => W.heap.size ≤ k) () c ∧ Below W.heap.size W w1) rfl ?_ ?_ (fun v w1 h => ?_)
            · clear hfor huse hap hmi hK hF
              generalize a.eval = ρ at *
              go_simp
            · exact (NodNewK_s W).mono (by rintro e w1 ⟨c, rfl, h1, h2⟩; exact ⟨_, rfl, c, rfl, h1, h2⟩)
            · obtain ⟨c, rfl, h1, h2⟩ := h
              exact hK _ _ (post_new h2 ⟨c, if_pos rfl, kN0.O_mono h1 (fun k h3 h4 => ⟨h3, h4⟩)⟩)
          · intro a W own hfor huse hap hmi hF K hK
            obtain ⟨cs2, e28, r2⟩ := (huse 2 (by kernel_rfl) : onO kN0 28 () (slotsOf a) (own 2) W)
            have e28 : a.eval (.tmp 28) = .agg cs2.toArray := e28
            have hlen := kN0.K_len (kN0.O_K r2)
            refine step_box rfl 53 124 (.tmp 28) rfl e28 Tryz.underlying53 info_Node hlen (by decide) (by decide) (hK _ _ ⟨fun k => own 2 k ∨ (W.heap.size ≤ k ∧ k < (W.alloc (.cells cs2.toArray 124)).heap.size), Foot.of_below (belA (Below.refl _ _) _), ?_, fun k h => Or.imp (fun h => ⟨2, by decide, h⟩) id h⟩)
            refine ⟨W.heap.size, cs2, if_pos rfl, heap_alloc_new W _, .inr ⟨Nat.le_refl _, by simp⟩, Kd.O_mono (Kd.O_below r2 (belA (Below.refl _ _) _)) (fun k h _ => ⟨.inl h, fun e => by have h1 := (hmi 2 k h).2; omega⟩)⟩
          · intro a W own hfor huse hap hmi hF K hK
            have e27 : a.eval (.tmp 27) = (.slice Av done.length nv) := huse 1 (by kernel_rfl)
            have r8 := (huse 8 (by kernel_rfl) : onRc kN0 (.slice Av done.length nv) done (slotsOf a) (own 8) W)
            obtain ⟨g, cs, e29, hbx, hSg, rb⟩ := (huse 3 (by kernel_rfl) : onOne kN0 29 () (slotsOf a) (own 3) W)
            have e29 : a.eval (.tmp 29) = .slice (some ⟨g, 0, none⟩) 1 1 := e29
            refine step_one kN0 rfl (.tmp 27) (.tmp 29) 53 (.agg #[.bool false, .slice none 0 0]) 32 rfl Tryz.underlying53 info_Node rfl (by decide) (by decide) e27 e29 r8 hbx rb (fun k h1 h2 => by have := hap 3 8 k h1.1 h2; omega) hLd.out (fun v1 w1 hR hF1 => hK _ _ ⟨fun k => own 8 k ∨ own 3 k ∨ (W.heap.size ≤ k ∧ k < w1.heap.size), Foot.mono hF1 (fun k h => ⟨8, by decide, h⟩), ?_, ?_⟩)
            · show kN0.R _ _ (if _ then _ else _) (done ++ [()])
              rw [if_pos rfl]
              exact Kd.R_mono hR (fun k h _ => h.imp id (fun h => h.imp (fun h => h.1) id))
            · intro k h
              rcases h with h | h | h
              · exact .inl ⟨8, by decide, h⟩
              · exact .inl ⟨3, by decide, h⟩
              · exact .inr h
          · intro a W own hfor huse hap hmi hF K hK
            have e5 : a.eval (.tmp 5) = .pointer (some ⟨g, 0, none⟩) := hfor 5 (by kernel_rfl)
            refine op_val (.pointer (some ⟨g, 2, none⟩)) W rfl ?_ (hK _ _ (post_pure ?_))
            · clear hfor huse hap hmi hK hF
              generalize a.eval = ρ at *
              go_simp
            · exact (if_pos rfl)
          · intro a W own hfor huse hap hmi hF K hK
            have e31 : a.eval (.tmp 31) = .pointer (some ⟨g, 2, none⟩) := huse 5 (by kernel_rfl)
            obtain ⟨hb, hSX⟩ := (huse 7 (by kernel_rfl) : onCells g (c0 ++ ((.slice Av done.length nv) :: c2)).toArray 57 (slotsOf a) (own 7) W)
            have r4 : kN0.R W (own 4) (a.eval (.tmp 30)) (done ++ [()]) := huse 4 (by kernel_rfl)
            obtain ⟨A4, n4, e30, -, -⟩ := Kd.R_form r4
            rw [e30] at r4
            have q0 := grow_cell hb hl0
            have f0 := (box_at hb).2.2 2
            have F : Foot (fun k => k = g) W (W.setCell ⟨g, 2, none⟩ (.slice A4 (done ++ [()]).length n4)) := Foot.set (Foot.refl (fun k => k = g) W) (.inl rfl) _ _
            refine op_skip (W.setCell ⟨g, 2, none⟩ (.slice A4 (done ++ [()]).length n4)) rfl ?_ (hK _ _ ⟨fun k => own 7 k ∨ own 4 k, Foot.mono F (fun k e => ⟨7, by decide, e ▸ hSX⟩), ?_, ?_⟩)
            · clear hfor huse hap hmi hK hF hb F r4
              generalize a.eval = ρ at *
              go_simp
            · exact ⟨_, grow_set hb hl0 _, .inl hSX, Kd.R_mono (F.R r4 (fun k h1 h2 => by have := hap 7 4 g hSX (h2 ▸ h1); omega)) (fun k h _ => ⟨.inr h, fun e => by have := hap 7 4 g hSX (e ▸ h); omega⟩)⟩
            · intro k h
              left
              rcases h with h | h
              · exact ⟨7, by decide, h⟩
              · exact ⟨4, by decide, h⟩
          intro a' W own hf
          have s1 := hf.st.size
          have s2 := hf.st.rest
          have s3 := fun t ht => hf.st.kept t ht
          revert hf
          revert a'
          refine lay_intro (df := []) [true, true, true, true, true, true, true, true, true, true, true, true, true, true, true, true, true, true, true, true, true, true, true, true, true, true, false, false, false, false, false, false, true] (by kernel_rfl) rfl ?_
          intro x31 x30 x29 x28 x27 x26 hf
          obtain ⟨u, HG2⟩ := Growing.next HG.out hf.st.foot (hf.at 6 (onGrew kN0 g c0 c2 57 (done ++ [()])) rfl (by kernel_rfl)) (fun k h => hf.st.mine 6 k h)
          have GS2 := Sec.mk HG2
          have HB2 := Sec.mk (hf.st.foot.below (belD hb.out.1) (fun q h => by have := NW.out q h; omega))
          have QB2 := Sec.mk ((hf.st.foot.block (w.heap.size + 1) (Array.getElem?_eq_some_iff.1 hb.out.2).1 (fun h => by have := NW.out _ h; omega)).trans hb.out.2)
          clear hf HG2
          go_wp2
          go_roundw
          case rel => exact ⟨k + 1, by omega, by go_num, ⟨_, _, _, by rw [hT.out]; exact GS2.out⟩, ⟨HB2.out, QB2.out⟩⟩
          case measure => simp [intOf]; omega
        · obtain rfl : k = 3 := by omega
          have HD := HG0.done
          have hbx := HG0.box
          generalize c0 ++ (v :: c2) = cs9 at HD hbx
          obtain ⟨u0, u1, u2, u3, rfl, kp, kn, kt⟩ := kW0_K (kW0.O_K HD)
          have GO : Sec (kW0.O wr (fun k => w.heap.size + 2 ≤ k ∧ k < wr.heap.size ∧ k ≠ g) ⟨p, List.replicate 3 (), t⟩ [u0, u1, u2, u3, .slice none 0 0, .slice none 0 0]) := ⟨HD⟩
          have X := (box_at hbx).2.1
          have g0 := X 0 _ rfl
          have g1 := X 1 _ rfl
          have g2 := X 2 _ rfl
          have g3 := X 3 _ rfl
          have g4 := X 4 _ rfl
          have g5 := X 5 _ rfl
          have h1c : Sec (∀ u ∈ ([u0, u1, u2, u3, .slice none 0 0, .slice none 0 0] : List Value), u.oneCell' = true) := ⟨kW0.K_one (kW0.O_K HD)⟩
          have hW2 := Sec.mk hb.out.2
          have d1 : decide (((3 : Nat) : Int) < 3) = false := rfl
          clear HG0 HD hbx X kp kn kt
          go_wp2_with (with_reducible show wpList _ _ _ (⟨none, .store 57 (.tmp 4) (.tmp 32), _, _, _, _⟩ :: _) _ _; refine wpList_store (cs := [u0, u1, u2, u3, .slice none 0 0, .slice none 0 0]) rfl 57 (.tmp 4) (.tmp 32) rfl rfl rfl hW2.out (by kernel_rfl) rfl h1c.out ?_; intro w8 hb8 hF8; have B8 := Sec.mk hb8; have F8 := Sec.mk hF8; clear hb8 hF8)
          refine bodyPost_ret (results_cell rfl rfl B8.out hu rfl (by kernel_rfl)) rfl ⟨_, rfl, ?_, ?_⟩
          · rw [hn.out]; exact kW0.O_mono (F8.out.O GO.out (fun q h e => by have h1 : q = w.heap.size + 1 := e; omega)) (fun q h _ => by omega)
          · exact F8.out.below hb.out.1 (fun q h => by have h1 : q = w.heap.size + 1 := h; omega)
set_option maxHeartbeats 8000000 in
theorem WldNew_i (p : Prog) (cs : List Value) (v : Value) (t : Term) (ok0 ok1 : Nat → Prop) (w : World) (hK0 : kProg.K w ok0 p cs) (hV0 : kCell.V w ok1 v t) :
    Calls Tryz.prog 23 #[.agg cs.toArray, v] w fun e w' => ∃ c : List Value, e = .returned (.agg c.toArray) ∧ kW0.O w' (fun k => w.heap.size ≤ k) (newW p t) c ∧ Below w.heap.size w w' := by
  obtain ⟨okp, hok, hK⟩ : ∃ ok : Nat → Prop, (∀ k, ok k → k < w.heap.size) ∧ kProg.K w ok p cs := ⟨fun k => ok0 k ∧ k < w.heap.size, fun k h => h.2, kProg.K_move (fun k h1 h2 => ⟨⟨h1, h2⟩, rfl⟩) hK0⟩
  obtain ⟨okt, hokt, hV⟩ : ∃ ok : Nat → Prop, (∀ k, ok k → k < w.heap.size) ∧ kCell.V w ok v t := ⟨fun k => ok1 k ∧ k < w.heap.size, fun k h => h.2, Kd.V_move (fun k h1 h2 => ⟨⟨h1, h2⟩, rfl⟩) hV0 (by decide)⟩
  clear hK0 hV0
  have HOK := Sec.mk (And.intro hok hokt)
  obtain ⟨E0, m0, E1, m1, rfl, -, -⟩ := kp_V hK
  have LT : Sec (t.length ≤ 1073741824) := ⟨by obtain ⟨_, _, _, _, _, h, _⟩ := hV; exact h⟩
  have B0 := Sec.mk (belA (belA (Below.refl w.heap.size w) (.cells #[.slice E0 p.clauses.length m0, .slice E1 p.places.length m1] 28)) (.cells #[.slice none 0 0, .slice none 0 0, .slice none 0 0, .slice none 0 0, .slice none 0 0, .slice none 0 0] 57))
  have K0 := Sec.mk (Kd.K_below hK B0.out)
  have V0 := Sec.mk (Kd.V_below hV B0.out (by decide))
  have PB0 := Sec.mk (box2 w (.cells #[.slice E0 p.clauses.length m0, .slice E1 p.places.length m1] 28) (.cells #[.slice none 0 0, .slice none 0 0, .slice none 0 0, .slice none 0 0, .slice none 0 0, .slice none 0 0] 57)).1
  have RB0 := Sec.mk (box2 w (.cells #[.slice E0 p.clauses.length m0, .slice E1 p.places.length m1] 28) (.cells #[.slice none 0 0, .slice none 0 0, .slice none 0 0, .slice none 0 0, .slice none 0 0, .slice none 0 0] 57)).2
  have X := (box_at PB0.out).2.1
  have y0 := X 0 _ rfl
  have y1 := X 1 _ rfl
  have Z0 : Sec (w.heap.size + 2 ≤ ((w.alloc (.cells #[.slice E0 p.clauses.length m0, .slice E1 p.places.length m1] 28)).alloc (.cells #[.slice none 0 0, .slice none 0 0, .slice none 0 0, .slice none 0 0, .slice none 0 0, .slice none 0 0] 57)).heap.size) := ⟨by simp⟩
  have T0 : Sec True := ⟨trivial⟩
  obtain ⟨A9, c9, rfl, -⟩ := hV
  clear hok hokt hK X
  have hu := Tryz.underlying57
  have hu2 := Tryz.underlying28
  cases hq : prgOk p with
  | false =>
    have HQ := Sec.mk hq
    have hn : Sec (newW p t = ⟨⟨[], []⟩, [], []⟩) := ⟨if_neg (by rw [hq]; simp)⟩
    clear hq
    go_enter Tryz.func23, Tryz.ntmps23
    go_wp2_with (first | (clear T0; go_at_call 69; have T1 : Sec True := ⟨trivial⟩; refine (PrgOk_i p _ okp _ K0.out).mono ?_; rw [HQ.out]; rintro e w1 ⟨rfl, hb⟩; have RB1 := Sec.mk ((hb.block _ (Array.getElem?_eq_some_iff.1 RB0.out).1).trans RB0.out); have PB1 := Sec.mk ((hb.block _ (Array.getElem?_eq_some_iff.1 PB0.out).1).trans PB0.out); have X := (box_at PB1.out).2.1; have z0 := X 0 _ rfl; have z1 := X 1 _ rfl; have B1 := Sec.mk (bel B0.out hb); have V1 := Sec.mk (Kd.V_below V0.out hb (by decide)); have K1 := Sec.mk (Kd.K_below K0.out hb); have Z1 : Sec (w.heap.size + 2 ≤ w1.heap.size) := ⟨Nat.le_trans Z0.out hb.size⟩; clear hb X) | (with_reducible show wpList _ _ _ (⟨none, .store 57 (.tmp 4) (.tmp 14), _, _, _, _⟩ :: _) _ _; refine wpList_store (cs := [.slice none 0 0, .slice none 0 0, .slice none 0 0, .slice none 0 0, .slice none 0 0, .slice none 0 0]) rfl 57 (.tmp 4) (.tmp 14) rfl rfl rfl RB1.out (by kernel_rfl) rfl (kW0.K_one (kW0.O_K (kW0_nil w))) ?_; intro w8 hb8 hF8; have B8 := Sec.mk hb8; have F8 := Sec.mk hF8; clear hb8 hF8))
    refine bodyPost_ret (results_cell rfl rfl B8.out hu rfl (by kernel_rfl)) rfl ⟨_, rfl, ?_, ?_⟩
    · rw [hn.out]; exact kW0.O_mono (kW0_nil _) (fun _ h _ => h.elim)
    · exact F8.out.below B1.out (fun q h => by have h1 : q = w.heap.size + 1 := h; omega)
  | true =>
    have HQ := Sec.mk hq
    cases ht : question t with
    | false =>
      have HT := Sec.mk ht
      have hn : Sec (newW p t = ⟨⟨[], []⟩, [], []⟩) := ⟨if_neg (by rw [ht]; simp)⟩
      clear hq ht
      go_enter Tryz.func23, Tryz.ntmps23
      go_wp2_with (first | (clear T1; go_at_call 70; have T2 : Sec True := ⟨trivial⟩; refine (isQuestion_i _ t okt _ V1.out).mono ?_; rw [HT.out]; rintro e w2 ⟨rfl, hb⟩; have RB2 := Sec.mk ((hb.block _ (Array.getElem?_eq_some_iff.1 RB1.out).1).trans RB1.out); have PB2 := Sec.mk ((hb.block _ (Array.getElem?_eq_some_iff.1 PB1.out).1).trans PB1.out); have X := (box_at PB2.out).2.1; have z0 := X 0 _ rfl; have z1 := X 1 _ rfl; have B2 := Sec.mk (bel B1.out hb); have V2 := Sec.mk (Kd.V_below V1.out hb (by decide)); have K2 := Sec.mk (Kd.K_below K1.out hb); have Z2 : Sec (w.heap.size + 2 ≤ w2.heap.size) := ⟨Nat.le_trans Z1.out hb.size⟩; clear hb X) | (clear T0; go_at_call 69; have T1 : Sec True := ⟨trivial⟩; refine (PrgOk_i p _ okp _ K0.out).mono ?_; rw [HQ.out]; rintro e w1 ⟨rfl, hb⟩; have RB1 := Sec.mk ((hb.block _ (Array.getElem?_eq_some_iff.1 RB0.out).1).trans RB0.out); have PB1 := Sec.mk ((hb.block _ (Array.getElem?_eq_some_iff.1 PB0.out).1).trans PB0.out); have X := (box_at PB1.out).2.1; have z0 := X 0 _ rfl; have z1 := X 1 _ rfl; have B1 := Sec.mk (bel B0.out hb); have V1 := Sec.mk (Kd.V_below V0.out hb (by decide)); have K1 := Sec.mk (Kd.K_below K0.out hb); have Z1 : Sec (w.heap.size + 2 ≤ w1.heap.size) := ⟨Nat.le_trans Z0.out hb.size⟩; clear hb X) | (with_reducible show wpList _ _ _ (⟨none, .store 57 (.tmp 4) (.tmp 14), _, _, _, _⟩ :: _) _ _; refine wpList_store (cs := [.slice none 0 0, .slice none 0 0, .slice none 0 0, .slice none 0 0, .slice none 0 0, .slice none 0 0]) rfl 57 (.tmp 4) (.tmp 14) rfl rfl rfl RB2.out (by kernel_rfl) rfl (kW0.K_one (kW0.O_K (kW0_nil w))) ?_; intro w8 hb8 hF8; have B8 := Sec.mk hb8; have F8 := Sec.mk hF8; clear hb8 hF8))
      refine bodyPost_ret (results_cell rfl rfl B8.out hu rfl (by kernel_rfl)) rfl ⟨_, rfl, ?_, ?_⟩
      · rw [hn.out]; exact kW0.O_mono (kW0_nil _) (fun _ h _ => h.elim)
      · exact F8.out.below B2.out (fun q h => by have h1 : q = w.heap.size + 1 := h; omega)
    | true =>
      have HT := Sec.mk ht
      have hn : Sec (newW p t = ⟨p, List.replicate 3 (), t⟩) := ⟨if_pos (by rw [hq, ht]; rfl)⟩
      clear hq ht
      go_enter Tryz.func23, Tryz.ntmps23
      go_wp2_with (first | (clear T3; go_at_call 72; have T4 : Sec True := ⟨trivial⟩; refine (cloneCells_c _ t okt _ V3.out).mono ?_; rintro e w4 ⟨u, rfl, hR0, hb⟩; have hR : kCell.R w4 (fun k => w3.heap.size ≤ k ∧ k < w4.heap.size) u t := Kd.R_mono hR0 (fun k h h2 => ⟨h, h2⟩); clear hR0; obtain ⟨A1, n1, rfl, -, -⟩ := Kd.R_form hR; have R4 := Sec.mk hR; have RB4 := Sec.mk ((hb.block _ (Array.getElem?_eq_some_iff.1 RB3.out).1).trans RB3.out); have B4 := Sec.mk (bel B3.out hb); have O4 := Sec.mk (Kd.O_below O3.out hb); have Z4 : Sec (w.heap.size + 2 ≤ w4.heap.size ∧ w3.heap.size ≤ w4.heap.size) := ⟨Nat.le_trans Z3.out hb.size, hb.size⟩; clear hb hR) | (clear T2; go_at_call 71; have T3 : Sec True := ⟨trivial⟩; refine (copiedProg_i p _ okp _ K2.out).mono ?_; rintro e w3 ⟨c9p, rfl, hO, hb⟩; obtain ⟨D0, d0, D1, d1, rfl, -, -⟩ := kp_V (kProg.O_K hO); have O3 := Sec.mk (kProg.O_mono hO (S1 := fun k => w.heap.size + 2 ≤ k ∧ k < w3.heap.size) (fun k h h2 => ⟨Nat.le_trans Z2.out h, h2⟩)); have RB3 := Sec.mk ((hb.block _ (Array.getElem?_eq_some_iff.1 RB2.out).1).trans RB2.out); have PB3 := Sec.mk ((hb.block _ (Array.getElem?_eq_some_iff.1 PB2.out).1).trans PB2.out); have X := (box_at PB3.out).2.1; have z0 := X 0 _ rfl; have z1 := X 1 _ rfl; have B3 := Sec.mk (bel B2.out hb); have V3 := Sec.mk (Kd.V_below V2.out hb (by decide)); have K3 := Sec.mk (Kd.K_below K2.out hb); have Z3 : Sec (w.heap.size + 2 ≤ w3.heap.size) := ⟨Nat.le_trans Z2.out hb.size⟩; clear hb X hO) | (clear T1; go_at_call 70; have T2 : Sec True := ⟨trivial⟩; refine (isQuestion_i _ t okt _ V1.out).mono ?_; rw [HT.out]; rintro e w2 ⟨rfl, hb⟩; have RB2 := Sec.mk ((hb.block _ (Array.getElem?_eq_some_iff.1 RB1.out).1).trans RB1.out); have PB2 := Sec.mk ((hb.block _ (Array.getElem?_eq_some_iff.1 PB1.out).1).trans PB1.out); have X := (box_at PB2.out).2.1; have z0 := X 0 _ rfl; have z1 := X 1 _ rfl; have B2 := Sec.mk (bel B1.out hb); have V2 := Sec.mk (Kd.V_below V1.out hb (by decide)); have K2 := Sec.mk (Kd.K_below K1.out hb); have Z2 : Sec (w.heap.size + 2 ≤ w2.heap.size) := ⟨Nat.le_trans Z1.out hb.size⟩; clear hb X) | (clear T0; go_at_call 69; have T1 : Sec True := ⟨trivial⟩; refine (PrgOk_i p _ okp _ K0.out).mono ?_; rw [HQ.out]; rintro e w1 ⟨rfl, hb⟩; have RB1 := Sec.mk ((hb.block _ (Array.getElem?_eq_some_iff.1 RB0.out).1).trans RB0.out); have PB1 := Sec.mk ((hb.block _ (Array.getElem?_eq_some_iff.1 PB0.out).1).trans PB0.out); have X := (box_at PB1.out).2.1; have z0 := X 0 _ rfl; have z1 := X 1 _ rfl; have B1 := Sec.mk (bel B0.out hb); have V1 := Sec.mk (Kd.V_below V0.out hb (by decide)); have K1 := Sec.mk (Kd.K_below K0.out hb); have Z1 : Sec (w.heap.size + 2 ≤ w1.heap.size) := ⟨Nat.le_trans Z0.out hb.size⟩; clear hb X))
      obtain ⟨c0, c2, v, Sr, Sc, hl0, -, HG0⟩ := Growing.start (w := w4.alloc (.cells #[.slice D0 p.clauses.length d0, .slice D1 p.places.length d1, .slice none 0 0, .slice A1 t.length n1, .slice none 0 0, .slice none 0 0] 57)) (X := w4.heap.size) (n0 := w.heap.size + 2) gf_nodes (heap_alloc_new w4 _) (kW0_of (Kd.O_below O4.out (belA (Below.refl _ _) _)) (Kd.R_below R4.out (belA (Below.refl _ _) _)) (fun k h1 h2 => by omega)) (fun k hk => by have := Z4.out; have := Z3.out; rcases hk with hk | hk <;> exact ⟨by omega, by omega⟩) Z4.out.1
      have GS := Sec.mk HG0
      have HBS := Sec.mk (belA B4.out (.cells #[.slice D0 p.clauses.length d0, .slice D1 p.places.length d1, .slice none 0 0, .slice A1 t.length n1, .slice none 0 0, .slice none 0 0] 57))
      have QS := Sec.mk (box_cells (belA (Below.refl w4.heap.size w4) (.cells #[.slice D0 p.clauses.length d0, .slice D1 p.places.length d1, .slice none 0 0, .slice A1 t.length n1, .slice none 0 0, .slice none 0 0] 57)) RB4.out).1
      have HGZ : Sec (w.heap.size + 2 ≤ w4.heap.size) := ⟨Z4.out.1⟩
      clear HG0 R4 O4 B4 RB4 Z4 B3 B2 B1 B0 RB3 RB2 RB1 RB0 PB3 PB2 PB1 PB0 y0 y1 z0 z1 V0 V1 V2 V3 K0 K1 K2 K3 Z0 Z1 Z2 Z3 O3
      generalize w4.alloc (.cells #[.slice D0 p.clauses.length d0, .slice D1 p.places.length d1, .slice none 0 0, .slice A1 t.length n1, .slice none 0 0, .slice none 0 0] 57) = w5 at *
      generalize w4.heap.size = g at *
      go_loopw [20] (fun iv wr => ∃ k : Nat, k ≤ 3 ∧ iv = .int .i64 k ∧ Sec (∃ v Sr Sc, Growing kW0 kN0 53 (by decide) (fun y => (⟨p, y, t⟩ : W0)) g (w.heap.size + 2) c0 c2 57 wr v (List.replicate k ()) Sr Sc) ∧ Sec (Below w.heap.size w wr ∧ wr.heap[w.heap.size + 1]? = some (.cells #[.slice none 0 0, .slice none 0 0, .slice none 0 0, .slice none 0 0, .slice none 0 0, .slice none 0 0] 57 (0, 0)))) (fun iv _ => 3 - (intOf iv).toNat)
      case atStart => exact ⟨0, by omega, rfl, ⟨_, _, _, GS.out⟩, ⟨HBS.out, QS.out⟩⟩
      case round =>
        clear GS HBS QS
        obtain ⟨k, hk, rfl, hG, hb⟩ := hrel
        obtain ⟨v, Sr, Sc, HG0⟩ := hG.out
        clear hG
        by_cases hlt : k < 3
        · have d1 : decide ((k : Int) < 3) = true := decide_eq_true (by omega)
          have hT : Sec (List.replicate (k + 1) () = List.replicate k () ++ [()]) := ⟨List.replicate_succ'⟩
          have hLd : Sec ((List.replicate k ()).length + 1 ≤ 1073741824) := ⟨by rw [List.length_replicate]; omega⟩
          obtain ⟨Av, nv, rfl, -, -⟩ := Kd.R_form HG0.row
          generalize List.replicate k () = done at *
          have HG := Sec.mk HG0
          have NW : Sec (∀ q, (q = g ∨ Sc q) → w.heap.size + 2 ≤ q) := ⟨fun q h => by
            rcases h with h | h
            · have := HGZ.out; omega
            · exact (HG0.mine q (.inr h)).1⟩
          clear HG0
          go_wp2
          refine wp_region_lists [[22], [23], [24], [25], [26], [27], [], [], []]
            [fun val _ _ => val 22 = .pointer (some ⟨g, 2, none⟩),
              fun val _ _ => val 23 = (.slice Av done.length nv),
              onO kN0 24 (),
              onOne kN0 25 (),
              onR kN0 26 (done ++ [()]),
              fun val _ _ => val 27 = .pointer (some ⟨g, 2, none⟩),
              onGrew kN0 g c0 c2 57 (done ++ [()]),
              onCells g (c0 ++ ((.slice Av done.length nv) :: c2)).toArray 57,
              onRc kN0 (.slice Av done.length nv) done]
            [[], [], [], [2], [8, 3], [], [7, 4], [], []] 2 (fun q => q = g ∨ Sc q) (fun i k => (i = 7 ∧ k = g) ∨ (i = 8 ∧ Sc k)) (by kernel_rfl) ⟨by kernel_rfl, by kernel_rfl, by kernel_rfl, by kernel_rfl, by kernel_rfl⟩
            (.cons (stab_val 22 (fun v => v = .pointer (some ⟨g, 2, none⟩))) (.cons (stab_val 23 (fun v => v = (.slice Av done.length nv))) (.cons (stab_O kN0 24 ()) (.cons (stab_one kN0 25 ()) (.cons (stab_R kN0 26 (done ++ [()])) (.cons (stab_val 27 (fun v => v = .pointer (some ⟨g, 2, none⟩))) (.cons (stab_grew kN0 g c0 c2 57 (done ++ [()])) (.cons (stab_cells g (c0 ++ ((.slice Av done.length nv) :: c2)).toArray 57) (.cons (stab_Rc kN0 (.slice Av done.length nv) done) .nil)))))))))
            (fun i j k h1 h2 => by rcases h1 with ⟨a1, b1⟩ | ⟨a1, b1⟩ <;> rcases h2 with ⟨a2, b2⟩ | ⟨a2, b2⟩ <;> first | omega | (exact ((HG.out.mine k (.inr (by assumption))).2.2 (by assumption)).elim)) (fun i k h => by rcases h with ⟨rfl, rfl⟩ | ⟨rfl, h⟩ <;> first | exact ⟨by decide, .inl rfl, (Array.getElem?_eq_some_iff.1 HG.out.box).1⟩ | exact ⟨by decide, .inr h, (HG.out.mine k (.inr h)).2.1⟩) (fun i h1 h2 => by
              rcases (show i = 7 ∨ i = 8 by simp at h1 h2; omega) with rfl | rfl
              · exact ⟨HG.out.box, .inl ⟨rfl, rfl⟩⟩
              · exact Kd.R_mono (Kd.R_below HG.out.row (belD (Below.refl _ _))) (fun q h _ => .inr ⟨rfl, h⟩)) (.cons ?_ (.cons ?_ (.cons ?_ (.cons ?_ (.cons ?_ (.cons ?_ (.cons ?_ .nil))))))) ?_
          · intro a W own hfor huse hap hmi hF K hK
            have e5 : a.eval (.tmp 5) = .pointer (some ⟨g, 0, none⟩) := hfor 5 (by kernel_rfl)
            refine op_val (.pointer (some ⟨g, 2, none⟩)) W rfl ?_ (hK _ _ (post_pure ?_))
            · clear hfor huse hap hmi hK hF
              generalize a.eval = ρ at *
              go_simp
            · exact (if_pos rfl)
          · intro a W own hfor huse hap hmi hF K hK
            have e22 : a.eval (.tmp 22) = .pointer (some ⟨g, 2, none⟩) := huse 0 (by kernel_rfl)
            have q0 := grow_cell (huse 7 (by kernel_rfl) : onCells g (c0 ++ ((.slice Av done.length nv) :: c2)).toArray 57 (slotsOf a) (own 7) W).1 hl0
            refine op_val ((.slice Av done.length nv)) W rfl ?_ (hK _ _ (post_pure ?_))
            · clear hfor huse hap hmi hK hF
              generalize a.eval = ρ at *
              go_simp
            · exact (if_pos rfl)
          · intro a W own hfor huse hap hmi hF K hK
            have efn : a.eval (.func 73) = .func (.func 73) #[] #[] := rfl
            refine op_call (f := 73) (args := #[]) (fun v w1 => ∃ c : List Value, v = .agg c.toArray ∧ kN0.O w1 (fun k => W.heap.size ≤ k) () c ∧ Below W.heap.size W w1) rfl ?_ ?_ (fun v w1 h => ?_)
            · clear hfor huse hap hmi hK hF
              generalize a.eval = ρ at *
              go_simp
            · exact (NodNewK_i W).mono (by rintro e w1 ⟨c, rfl, h1, h2⟩; exact ⟨_, rfl, c, rfl, h1, h2⟩)
            · obtain ⟨c, rfl, h1, h2⟩ := h
              exact hK _ _ (post_new h2 ⟨c, if_pos rfl, kN0.O_mono h1 (fun k h3 h4 => ⟨h3, h4⟩)⟩)
          · intro a W own hfor huse hap hmi hF K hK
            obtain ⟨cs2, e24, r2⟩ := (huse 2 (by kernel_rfl) : onO kN0 24 () (slotsOf a) (own 2) W)
            have e24 : a.eval (.tmp 24) = .agg cs2.toArray := e24
            have hlen := kN0.K_len (kN0.O_K r2)
            refine step_box rfl 53 124 (.tmp 24) rfl e24 Tryz.underlying53 info_Node hlen (by decide) (by decide) (hK _ _ ⟨fun k => own 2 k ∨ (W.heap.size ≤ k ∧ k < (W.alloc (.cells cs2.toArray 124)).heap.size), Foot.of_below (belA (Below.refl _ _) _), ?_, fun k h => Or.imp (fun h => ⟨2, by decide, h⟩) id h⟩)
            refine ⟨W.heap.size, cs2, if_pos rfl, heap_alloc_new W _, .inr ⟨Nat.le_refl _, by simp⟩, Kd.O_mono (Kd.O_below r2 (belA (Below.refl _ _) _)) (fun k h _ => ⟨.inl h, fun e => by have h1 := (hmi 2 k h).2; omega⟩)⟩
          · intro a W own hfor huse hap hmi hF K hK
            have e23 : a.eval (.tmp 23) = (.slice Av done.length nv) := huse 1 (by kernel_rfl)
            have r8 := (huse 8 (by kernel_rfl) : onRc kN0 (.slice Av done.length nv) done (slotsOf a) (own 8) W)
            obtain ⟨g, cs, e25, hbx, hSg, rb⟩ := (huse 3 (by kernel_rfl) : onOne kN0 25 () (slotsOf a) (own 3) W)
            have e25 : a.eval (.tmp 25) = .slice (some ⟨g, 0, none⟩) 1 1 := e25
            refine step_one kN0 rfl (.tmp 23) (.tmp 25) 53 (.agg #[.bool false, .slice none 0 0]) 32 rfl Tryz.underlying53 info_Node rfl (by decide) (by decide) e23 e25 r8 hbx rb (fun k h1 h2 => by have := hap 3 8 k h1.1 h2; omega) hLd.out (fun v1 w1 hR hF1 => hK _ _ ⟨fun k => own 8 k ∨ own 3 k ∨ (W.heap.size ≤ k ∧ k < w1.heap.size), Foot.mono hF1 (fun k h => ⟨8, by decide, h⟩), ?_, ?_⟩)
            · show kN0.R _ _ (if _ then _ else _) (done ++ [()])
              rw [if_pos rfl]
              exact Kd.R_mono hR (fun k h _ => h.imp id (fun h => h.imp (fun h => h.1) id))
            · intro k h
              rcases h with h | h | h
              · exact .inl ⟨8, by decide, h⟩
              · exact .inl ⟨3, by decide, h⟩
              · exact .inr h
          · intro a W own hfor huse hap hmi hF K hK
            have e5 : a.eval (.tmp 5) = .pointer (some ⟨g, 0, none⟩) := hfor 5 (by kernel_rfl)
            refine op_val (.pointer (some ⟨g, 2, none⟩)) W rfl ?_ (hK _ _ (post_pure ?_))
            · clear hfor huse hap hmi hK hF
              generalize a.eval = ρ at *
              go_simp
            · exact (if_pos rfl)
          · intro a W own hfor huse hap hmi hF K hK
            have e27 : a.eval (.tmp 27) = .pointer (some ⟨g, 2, none⟩) := huse 5 (by kernel_rfl)
            obtain ⟨hb, hSX⟩ := (huse 7 (by kernel_rfl) : onCells g (c0 ++ ((.slice Av done.length nv) :: c2)).toArray 57 (slotsOf a) (own 7) W)
            have r4 : kN0.R W (own 4) (a.eval (.tmp 26)) (done ++ [()]) := huse 4 (by kernel_rfl)
            obtain ⟨A4, n4, e26, -, -⟩ := Kd.R_form r4
            rw [e26] at r4
            have q0 := grow_cell hb hl0
            have f0 := (box_at hb).2.2 2
            have F : Foot (fun k => k = g) W (W.setCell ⟨g, 2, none⟩ (.slice A4 (done ++ [()]).length n4)) := Foot.set (Foot.refl (fun k => k = g) W) (.inl rfl) _ _
            refine op_skip (W.setCell ⟨g, 2, none⟩ (.slice A4 (done ++ [()]).length n4)) rfl ?_ (hK _ _ ⟨fun k => own 7 k ∨ own 4 k, Foot.mono F (fun k e => ⟨7, by decide, e ▸ hSX⟩), ?_, ?_⟩)
            · clear hfor huse hap hmi hK hF hb F r4
              generalize a.eval = ρ at *
              go_simp
            · exact ⟨_, grow_set hb hl0 _, .inl hSX, Kd.R_mono (F.R r4 (fun k h1 h2 => by have := hap 7 4 g hSX (h2 ▸ h1); omega)) (fun k h _ => ⟨.inr h, fun e => by have := hap 7 4 g hSX (e ▸ h); omega⟩)⟩
            · intro k h
              left
              rcases h with h | h
              · exact ⟨7, by decide, h⟩
              · exact ⟨4, by decide, h⟩
          intro a' W own hf
          have s1 := hf.st.size
          have s2 := hf.st.rest
          have s3 := fun t ht => hf.st.kept t ht
          revert hf
          revert a'
          refine lay_intro (df := []) [true, true, true, true, true, true, true, true, true, true, true, true, true, true, true, true, true, true, true, true, true, true, false, false, false, false, false, false, true, true] (by kernel_rfl) rfl ?_
          intro x27 x26 x25 x24 x23 x22 hf
          obtain ⟨u, HG2⟩ := Growing.next HG.out hf.st.foot (hf.at 6 (onGrew kN0 g c0 c2 57 (done ++ [()])) rfl (by kernel_rfl)) (fun k h => hf.st.mine 6 k h)
          have GS2 := Sec.mk HG2
          have HB2 := Sec.mk (hf.st.foot.below (belD hb.out.1) (fun q h => by have := NW.out q h; omega))
          have QB2 := Sec.mk ((hf.st.foot.block (w.heap.size + 1) (Array.getElem?_eq_some_iff.1 hb.out.2).1 (fun h => by have := NW.out _ h; omega)).trans hb.out.2)
          clear hf HG2
          go_wp2
          go_roundw
          case rel => exact ⟨k + 1, by omega, by go_num, ⟨_, _, _, by rw [hT.out]; exact GS2.out⟩, ⟨HB2.out, QB2.out⟩⟩
          case measure => simp [intOf]; omega
        · obtain rfl : k = 3 := by omega
          have HD := HG0.done
          have hbx := HG0.box
          generalize c0 ++ (v :: c2) = cs9 at HD hbx
          obtain ⟨u0, u1, u2, u3, rfl, kp, kn, kt⟩ := kW0_K (kW0.O_K HD)
          have GO : Sec (kW0.O wr (fun k => w.heap.size + 2 ≤ k ∧ k < wr.heap.size ∧ k ≠ g) ⟨p, List.replicate 3 (), t⟩ [u0, u1, u2, u3, .slice none 0 0, .slice none 0 0]) := ⟨HD⟩
          have X := (box_at hbx).2.1
          have g0 := X 0 _ rfl
          have g1 := X 1 _ rfl
          have g2 := X 2 _ rfl
          have g3 := X 3 _ rfl
          have g4 := X 4 _ rfl
          have g5 := X 5 _ rfl
          have h1c : Sec (∀ u ∈ ([u0, u1, u2, u3, .slice none 0 0, .slice none 0 0] : List Value), u.oneCell' = true) := ⟨kW0.K_one (kW0.O_K HD)⟩
          have hW2 := Sec.mk hb.out.2
          have d1 : decide (((3 : Nat) : Int) < 3) = false := rfl
          clear HG0 HD hbx X kp kn kt
          go_wp2_with (with_reducible show wpList _ _ _ (⟨none, .store 57 (.tmp 4) (.tmp 29), _, _, _, _⟩ :: _) _ _; refine wpList_store (cs := [u0, u1, u2, u3, .slice none 0 0, .slice none 0 0]) rfl 57 (.tmp 4) (.tmp 29) rfl rfl rfl hW2.out (by kernel_rfl) rfl h1c.out ?_; intro w8 hb8 hF8; have B8 := Sec.mk hb8; have F8 := Sec.mk hF8; clear hb8 hF8)
          refine bodyPost_ret (results_cell rfl rfl B8.out hu rfl (by kernel_rfl)) rfl ⟨_, rfl, ?_, ?_⟩
          · rw [hn.out]; exact kW0.O_mono (F8.out.O GO.out (fun q h e => by have h1 : q = w.heap.size + 1 := e; omega)) (fun q h _ => by omega)
          · exact F8.out.below hb.out.1 (fun q h => by have h1 : q = w.heap.size + 1 := h; omega)
end
section
open Go.RowKit
set_option linter.unusedVariables false
set_option maxRecDepth 100000
def rProg : Raw Prog := Raw.iso 49 (Raw.pair (Raw.slice 46 rClause) (Raw.slice 47 rPlace)) (fun x => (x.clauses, x.places))
theorem rProg_K {w : World} {x : Prog} {cs : List Value} (h : rProg.K w x cs) : ∃ v0 v1, cs = [v0, v1] ∧ rClause.V w v0 x.clauses ∧ rPlace.V w v1 x.places := by
  obtain ⟨_, _, rfl, ⟨v0, rfl, h0⟩, ⟨v1, rfl, h1⟩⟩ := h
  exact ⟨v0, v1, rfl, h0, h1⟩
theorem rProg_mono : Raw.Mono rProg := Raw.mono_iso (Raw.mono_pair (Raw.mono_slice rClause_mono) (Raw.mono_slice rPlace_mono))
theorem rProg_wt (x : Prog) : rProg.wt x = (HAdd.hAdd (rClause.wts x.clauses) (rPlace.wts x.places)) := rfl
theorem rProg_fits : Raw.Fits rProg kProg := Raw.fits_iso (Raw.fits_pair (Raw.fits_slice rClause_fits _ _ (by decide)) (Raw.fits_slice rPlace_fits _ _ (by decide))) _ _ _
theorem rProg_opn : Raw.Opn Tryz.prog rProg := Raw.opn_struct Tryz.underlying49 (by kernel_rfl) (fun b => ⟨⟨b.1, b.2⟩, rfl⟩) (Raw.opnF_cons (Raw.opn_slice (r := rClause) Tryz.underlying46 (by kernel_rfl) (by decide) rClause_opn) rfl rfl (by kernel_rfl) (by decide) (Raw.opnF_last (Raw.opn_slice (r := rPlace) Tryz.underlying47 (by kernel_rfl) (by decide) rPlace_opn) rfl rfl (by kernel_rfl) (by decide)))
theorem Prog.ext_iff (a b : Prog) : a = b ↔ a.clauses = b.clauses ∧ a.places = b.places := by
  cases a; cases b; simp
instance : DecidableEq Prog := fun a b => decidable_of_iff _ (Prog.ext_iff a b).symm
def zeroProg : Prog := ⟨[], []⟩
theorem kProg_f_clauses : Kd.Fld kProg (Kd.slice 25 kClause (by decide)) 0 (fun x => x.clauses) (fun x y => { x with clauses := y }) := Kd.Fld.iso _ (Kd.Fld.fst (Kd.Fld.self _)) (fun _ _ => rfl)
theorem kProg_f_places : Kd.Fld kProg (Kd.slice 26 kPlace (by decide)) 1 (fun x => x.places) (fun x y => { x with places := y }) := Kd.Fld.iso _ (Kd.Fld.snd (Kd.Fld.self _)) (fun _ _ => rfl)
theorem szPrgProg_c (x : Prog) (cs : List Value) (left : Nat) (hl : left ≤ 1048576) (w : World) (hK : rProg.K w x cs) :
    Calls Tryz.prog 18 #[.agg cs.toArray, .int .i64 left] w fun e w' => e = .returned (.int .i64 (Raw.spent (rProg.wt x) left)) ∧ Below w.heap.size w w' := by
  obtain ⟨_, _, rfl, ⟨v0, rfl, h0⟩, ⟨v1, rfl, h1⟩⟩ := hK
  have H0 := Sec.mk h0
  clear h0
  have H1 := Sec.mk h1
  clear h1
  have hu := Tryz.underlying49
  have hb0 := hl
  have T0 : Sec True := ⟨trivial⟩
  by_cases e0 : rClause.wts x.clauses ≤ left
  · have s0 := Raw.spent_le e0
    have L0 := Sec.mk (show (left - rClause.wts x.clauses) + rClause.wts x.clauses = left by omega)
    have hb1 : left - rClause.wts x.clauses ≤ 1048576 := by omega
    generalize left - rClause.wts x.clauses = l0 at *
    have n0 : ¬ ((l0 : Int) < 0) := by omega
    by_cases e1 : rPlace.wts x.places ≤ l0
    · have s1 := Raw.spent_le e1
      have L1 := Sec.mk (show (l0 - rPlace.wts x.places) + rPlace.wts x.places = l0 by omega)
      have hb2 : l0 - rPlace.wts x.places ≤ 1048576 := by omega
      generalize l0 - rPlace.wts x.places = l1 at *
      have n1 : ¬ ((l1 : Int) < 0) := by omega
      have hfin : Sec ((l1 : Int) = Raw.spent (rProg.wt x) left) := ⟨by rw [Raw.spent_le (by rw [rProg_wt]; have := L0.out; have := L1.out; omega), rProg_wt]; have := L0.out; have := L1.out; omega⟩
      go_enter Tryz.func18, Tryz.ntmps18
      go_wp2_with (first | (clear T1; go_at_call 62; have T2 : Sec True := ⟨trivial⟩; refine (szSPlace_c v1 x.places l0 hb1 _ (Raw.mono_V rPlace_mono B0.out H1.out)).mono ?_; rintro e w2 ⟨rfl, hb1⟩; rw [s1]; have B1 := Sec.mk (bel B0.out hb1); have Q := box_cells hb1 (P0.out.1); have P1 := Sec.mk Q; clear Q hb1) | (clear T0; go_at_call 61; have T1 : Sec True := ⟨trivial⟩; refine (szSClause_c v0 x.clauses left hb0 _ (Raw.mono_V rClause_mono (belA (Below.refl _ _) _) H0.out)).mono ?_; rintro e w1 ⟨rfl, hb1⟩; rw [s0]; have B0 := Sec.mk (bel (belA (Below.refl _ _) _) hb1); have Q := box_cells hb1 (box1 _ _); have c0_0 := Q.2.1 0 _ rfl; have c0_1 := Q.2.1 1 _ rfl; have P0 := Sec.mk Q; clear Q hb1))
      go_ret
      exact ⟨ri hfin.out, B1.out⟩
    · have s1 := Raw.spent_gt e1
      have hfin : Sec (Raw.spent (rProg.wt x) left = -1) := ⟨Raw.spent_gt (by rw [rProg_wt]; have := L0.out; omega)⟩
      go_enter Tryz.func18, Tryz.ntmps18
      go_wp2_with (first | (clear T1; go_at_call 62; have T2 : Sec True := ⟨trivial⟩; refine (szSPlace_c v1 x.places l0 hb1 _ (Raw.mono_V rPlace_mono B0.out H1.out)).mono ?_; rintro e w2 ⟨rfl, hb1⟩; rw [s1]; have B1 := Sec.mk (bel B0.out hb1); have Q := box_cells hb1 (P0.out.1); have P1 := Sec.mk Q; clear Q hb1) | (clear T0; go_at_call 61; have T1 : Sec True := ⟨trivial⟩; refine (szSClause_c v0 x.clauses left hb0 _ (Raw.mono_V rClause_mono (belA (Below.refl _ _) _) H0.out)).mono ?_; rintro e w1 ⟨rfl, hb1⟩; rw [s0]; have B0 := Sec.mk (bel (belA (Below.refl _ _) _) hb1); have Q := box_cells hb1 (box1 _ _); have c0_0 := Q.2.1 0 _ rfl; have c0_1 := Q.2.1 1 _ rfl; have P0 := Sec.mk Q; clear Q hb1))
      go_ret
      exact ⟨ri hfin.out.symm, B1.out⟩
  · have s0 := Raw.spent_gt e0
    have hfin : Sec (Raw.spent (rProg.wt x) left = -1) := ⟨Raw.spent_gt (by rw [rProg_wt]; omega)⟩
    go_enter Tryz.func18, Tryz.ntmps18
    go_wp2_with (first | (clear T0; go_at_call 61; have T1 : Sec True := ⟨trivial⟩; refine (szSClause_c v0 x.clauses left hb0 _ (Raw.mono_V rClause_mono (belA (Below.refl _ _) _) H0.out)).mono ?_; rintro e w1 ⟨rfl, hb1⟩; rw [s0]; have B0 := Sec.mk (bel (belA (Below.refl _ _) _) hb1); have Q := box_cells hb1 (box1 _ _); have P0 := Sec.mk Q; clear Q hb1))
    go_ret
    exact ⟨ri hfin.out.symm, B0.out⟩
set_option maxHeartbeats 1000000 in
theorem toPrgProg_c (x : Prog) (cs : List Value) (ok : Nat → Prop) (w : World) (hK : kProg.K w ok x cs) :
    Calls Tryz.prog 21 #[.agg cs.toArray] w fun e w' => ∃ c : List Value, e = .returned (.agg c.toArray) ∧ kProg.O w' (fun k => w.heap.size ≤ k) x c ∧ Below w.heap.size w w' := by
  obtain ⟨_, _, rfl, ⟨v0, rfl, h0⟩, ⟨v1, rfl, h1⟩⟩ := hK
  have H0 := Sec.mk h0
  clear h0
  have H1 := Sec.mk h1
  clear h1
  have hu := Tryz.underlying49
  have hu2 := Tryz.underlying28
  have T0 : Sec True := ⟨trivial⟩
  go_enter Tryz.func21, Tryz.ntmps21
  go_wp2_with (first | (clear T1; go_at_call 67; have T2 : Sec True := ⟨trivial⟩; refine (toSPlace_c v1 x.places ok _ (Kd.V_below H1.out (B1.out.setCell (p := ⟨w.heap.size + 1 + 1, 0, none⟩) (by show w.heap.size ≤ w.heap.size + 1 + 1; omega) _) (by decide))).mono ?_; rintro e w2 ⟨u1, rfl, hR, hb1⟩; obtain ⟨A1, n1, rfl, -, -⟩ := Kd.R_form hR; have Z2 : w1.heap.size ≤ w2.heap.size := (by have := hb1.size; simpa [World.setCell] using this); have R2 := Sec.mk (Kd.R_mono (S1 := fun k => w1.heap.size ≤ k ∧ k < w2.heap.size) hR (fun k h1 h2 => ⟨by simpa [World.setCell] using h1, h2⟩)); have G2 := Sec.mk (Foot.call ((Foot.refl (Own w 3) w1).set (.inl ⟨by omega, by omega⟩) _ _) hb1); have B2 := Sec.mk (bel (B1.out.setCell (p := ⟨w.heap.size + 1 + 1, 0, none⟩) (by show w.heap.size ≤ w.heap.size + 1 + 1; omega) _) hb1); have X := box_cells (b := w.heap.size) (cs := #[v0, v1]) (t := 49) hb1 ((Below.heap_setCell _ _ _ _ (by show w.heap.size ≠ w.heap.size + 1 + 1; omega)).trans P1.out.1); have p2_0 := X.2.1 0 _ rfl; have p2_1 := X.2.1 1 _ rfl; have P2 := Sec.mk X; clear X; have X := box_cells (b := w.heap.size + 1) (cs := #[.slice none 0 0, .slice none 0 0]) (t := 28) hb1 ((Below.heap_setCell _ _ _ _ (by show w.heap.size + 1 ≠ w.heap.size + 1 + 1; omega)).trans Q1.out.1); have q2_0 := X.2.1 0 _ rfl; have qf2_0 := X.2.2 0; have q2_1 := X.2.1 1 _ rfl; have qf2_1 := X.2.2 1; have Q2 := Sec.mk X; clear X; have X := box_cells (b := w.heap.size + 1 + 1) (cs := #[.slice A0 x.clauses.length n0, .slice none 0 0]) (t := 28) hb1 (box_store _ _ O1.out.1); have o2_0 := X.2.1 0 _ rfl; have of2_0 := X.2.2 0; have o2_1 := X.2.1 1 _ rfl; have of2_1 := X.2.2 1; have O2 := Sec.mk X; clear X; clear hb1 hR; clear p1_0 q1_0 qf1_0 o1_0 of1_0 p1_1 q1_1 qf1_1 o1_1 of1_1) | (clear T0; go_at_call 66; have T1 : Sec True := ⟨trivial⟩; refine (toSClause_c v0 x.clauses ok _ (Kd.V_below H0.out (belA (belA (belA (Below.refl _ _) _) _) _) (by decide))).mono ?_; rintro e w1 ⟨u0, rfl, hR, hb1⟩; obtain ⟨A0, n0, rfl, -, -⟩ := Kd.R_form hR; have Z1 : w.heap.size + 3 ≤ w1.heap.size := (by have := hb1.size; simp at this; omega); have R1 := Sec.mk (Kd.R_mono (S1 := fun k => w.heap.size + 3 ≤ k ∧ k < w1.heap.size) hR (fun k h1 h2 => ⟨by simp at h1; omega, h2⟩)); have G1 := Sec.mk (Foot.call ((((Foot.refl (Own w 3) w).alloc _).alloc _).alloc _) hb1); have B1 := Sec.mk (bel (belA (belA (belA (Below.refl _ _) _) _) _) hb1); have X := box_cells (b := w.heap.size) (cs := #[v0, v1]) (t := 49) hb1 (box3 _ _ _ _).1; have p1_0 := X.2.1 0 _ rfl; have p1_1 := X.2.1 1 _ rfl; have P1 := Sec.mk X; clear X; have X := box_cells (b := w.heap.size + 1) (cs := #[.slice none 0 0, .slice none 0 0]) (t := 28) hb1 (box3 _ _ _ _).2.1; have q1_0 := X.2.1 0 _ rfl; have qf1_0 := X.2.2 0; have q1_1 := X.2.1 1 _ rfl; have qf1_1 := X.2.2 1; have Q1 := Sec.mk X; clear X; have X := box_cells (b := w.heap.size + 1 + 1) (cs := #[.slice none 0 0, .slice none 0 0]) (t := 28) hb1 (box3 _ _ _ _).2.2; have o1_0 := X.2.1 0 _ rfl; have of1_0 := X.2.2 0; have o1_1 := X.2.1 1 _ rfl; have of1_1 := X.2.2 1; have O1 := Sec.mk X; clear X; clear hb1 hR))
  refine bodyPost_ret (v := .agg #[.slice A0 x.clauses.length n0, .slice A1 x.places.length n1]) (by simp [results, Tryz.results21, go_sem, q2_0, q2_1]) rfl ⟨[.slice A0 x.clauses.length n0, .slice A1 x.places.length n1], rfl, ?_, ?_⟩
  rotate_left
  · refine Foot.own (n := 3) (Foot.trans (S' := Own w 3) (G1.out.trans G2.out (fun _ _ h => h)) ?_ (fun _ _ h => h))
    exact (Foot.set (Foot.set (Foot.set (Foot.refl _ _) (.inl ⟨by omega, by omega⟩) _ _) (.inl ⟨by omega, by omega⟩) _ _) (.inl ⟨by omega, by omega⟩) _ _)
  · have FF : ∀ W, Foot (Own w 3) w2 W → kProg.O W (fun k => w.heap.size ≤ k) x [.slice A0 x.clauses.length n0, .slice A1 x.places.length n1] := fun W FF => ?_
    · refine FF _ ?_
      exact (Foot.set (Foot.set (Foot.set (Foot.refl _ _) (.inl ⟨by omega, by omega⟩) _ _) (.inl ⟨by omega, by omega⟩) _ _) (.inl ⟨by omega, by omega⟩) _ _)
    · exact (Kd.O_stack (d := (Kd.slice 25 kClause (by decide))) (e := (Kd.slice 26 kPlace (by decide))) (n0 := w.heap.size) (n1 := w1.heap.size) ⟨_, rfl, Kd.R_mono (Foot.R (Foot.trans (S' := Own w 3) G2.out FF (fun _ _ h => h)) R1.out (fun k h1 h2 => by have := h1.1; have := h2.2; omega)) (fun k h _ => by have := h.1; have := h.2; omega)⟩ ⟨_, rfl, Kd.R_mono (Foot.R FF R2.out (fun k h1 h2 => by have := h1.1; have := h2.2; omega)) (fun k h _ => by have := h.1; have := h.2; omega)⟩ (by omega))
set_option maxHeartbeats 2000000 in
theorem eqPrgProg_c (x y : Prog) (cs ds : List Value) (ok ok' : Nat → Prop) (w : World) (hK : kProg.K w ok x cs) (hD : kProg.K w ok' y ds) :
    Calls Tryz.prog 25 #[.agg cs.toArray, .agg ds.toArray] w fun e w' => e = .returned (.bool (decide (x = y))) ∧ Below w.heap.size w w' := by
  obtain ⟨_, _, rfl, ⟨v0, rfl, h0⟩, ⟨v1, rfl, h1⟩⟩ := hK
  have H0 := Sec.mk h0
  clear h0
  have H1 := Sec.mk h1
  clear h1
  obtain ⟨_, _, rfl, ⟨u0, rfl, g0⟩, ⟨u1, rfl, g1⟩⟩ := hD
  have G0 := Sec.mk g0
  clear g0
  have G1 := Sec.mk g1
  clear g1
  have hu := Tryz.underlying28
  have hxy := Sec.mk (Prog.ext_iff x y)
  have T0 : Sec True := ⟨trivial⟩
  by_cases h0 : x.clauses = y.clauses
  · have E0 := Sec.mk h0
    have d0 : decide (x.clauses = y.clauses) = true := decide_eq_true h0
    clear h0
    by_cases h1 : x.places = y.places
    · have E1 := Sec.mk h1
      have d1 : decide (x.places = y.places) = true := decide_eq_true h1
      clear h1
      have hd : Sec (decide (x = y) = true) := ⟨by rw [decide_eq_true_eq, hxy.out]; exact ⟨E0.out, E1.out⟩⟩
      go_enter Tryz.func25, Tryz.ntmps25
      go_wp2_with (first | (clear T1; go_at_call 78; have T2 : Sec True := ⟨trivial⟩; refine (eqSPlace_c v1 u1 x.places y.places ok ok' _ (Kd.V_below H1.out B1.out (by decide)) (Kd.V_below G1.out B1.out (by decide))).mono ?_; rintro e w2 ⟨rfl, hb1⟩; rw [d1]; have B2 := Sec.mk (bel B1.out hb1); have X := box_cells (b := w.heap.size) (cs := #[v0, v1]) (t := 28) hb1 P1.out.1; have p2_1 := X.2.1 1 _ rfl; have P2 := Sec.mk X; clear X; have X := box_cells (b := w.heap.size + 1) (cs := #[u0, u1]) (t := 28) hb1 Q1.out.1; have q2_1 := X.2.1 1 _ rfl; have Q2 := Sec.mk X; clear X hb1) | (clear T0; go_at_call 77; have T1 : Sec True := ⟨trivial⟩; refine (eqSClause_c v0 u0 x.clauses y.clauses ok ok' _ (Kd.V_below H0.out (belA (belA (Below.refl _ _) _) _) (by decide)) (Kd.V_below G0.out (belA (belA (Below.refl _ _) _) _) (by decide))).mono ?_; rintro e w1 ⟨rfl, hb1⟩; rw [d0]; have B1 := Sec.mk (bel (belA (belA (Below.refl _ _) _) _) hb1); have X := box_cells (b := w.heap.size) (cs := #[v0, v1]) (t := 28) hb1 (box2 _ _ _).1; have p1_0 := X.2.1 0 _ rfl; have p1_1 := X.2.1 1 _ rfl; have P1 := Sec.mk X; clear X; have X := box_cells (b := w.heap.size + 1) (cs := #[u0, u1]) (t := 28) hb1 (box2 _ _ _).2; have q1_0 := X.2.1 0 _ rfl; have q1_1 := X.2.1 1 _ rfl; have Q1 := Sec.mk X; clear X hb1))
      go_ret
      exact ⟨rb hd.out.symm, B2.out⟩
    · have hd : Sec (decide (x = y) = false) := ⟨by rw [decide_eq_false_iff_not, hxy.out]; exact fun h => h1 h.2⟩
      have d1 : decide (x.places = y.places) = false := decide_eq_false h1
      clear h1
      go_enter Tryz.func25, Tryz.ntmps25
      go_wp2_with (first | (clear T1; go_at_call 78; have T2 : Sec True := ⟨trivial⟩; refine (eqSPlace_c v1 u1 x.places y.places ok ok' _ (Kd.V_below H1.out B1.out (by decide)) (Kd.V_below G1.out B1.out (by decide))).mono ?_; rintro e w2 ⟨rfl, hb1⟩; rw [d1]; have B2 := Sec.mk (bel B1.out hb1); have X := box_cells (b := w.heap.size) (cs := #[v0, v1]) (t := 28) hb1 P1.out.1; have p2_1 := X.2.1 1 _ rfl; have P2 := Sec.mk X; clear X; have X := box_cells (b := w.heap.size + 1) (cs := #[u0, u1]) (t := 28) hb1 Q1.out.1; have q2_1 := X.2.1 1 _ rfl; have Q2 := Sec.mk X; clear X hb1) | (clear T0; go_at_call 77; have T1 : Sec True := ⟨trivial⟩; refine (eqSClause_c v0 u0 x.clauses y.clauses ok ok' _ (Kd.V_below H0.out (belA (belA (Below.refl _ _) _) _) (by decide)) (Kd.V_below G0.out (belA (belA (Below.refl _ _) _) _) (by decide))).mono ?_; rintro e w1 ⟨rfl, hb1⟩; rw [d0]; have B1 := Sec.mk (bel (belA (belA (Below.refl _ _) _) _) hb1); have X := box_cells (b := w.heap.size) (cs := #[v0, v1]) (t := 28) hb1 (box2 _ _ _).1; have p1_0 := X.2.1 0 _ rfl; have p1_1 := X.2.1 1 _ rfl; have P1 := Sec.mk X; clear X; have X := box_cells (b := w.heap.size + 1) (cs := #[u0, u1]) (t := 28) hb1 (box2 _ _ _).2; have q1_0 := X.2.1 0 _ rfl; have q1_1 := X.2.1 1 _ rfl; have Q1 := Sec.mk X; clear X hb1))
      go_ret
      exact ⟨rb hd.out.symm, B2.out⟩
  · have hd : Sec (decide (x = y) = false) := ⟨by rw [decide_eq_false_iff_not, hxy.out]; exact fun h => h0 h.1⟩
    have d0 : decide (x.clauses = y.clauses) = false := decide_eq_false h0
    clear h0
    go_enter Tryz.func25, Tryz.ntmps25
    go_wp2_with (first | (clear T0; go_at_call 77; have T1 : Sec True := ⟨trivial⟩; refine (eqSClause_c v0 u0 x.clauses y.clauses ok ok' _ (Kd.V_below H0.out (belA (belA (Below.refl _ _) _) _) (by decide)) (Kd.V_below G0.out (belA (belA (Below.refl _ _) _) _) (by decide))).mono ?_; rintro e w1 ⟨rfl, hb1⟩; rw [d0]; have B1 := Sec.mk (bel (belA (belA (Below.refl _ _) _) _) hb1); have X := box_cells (b := w.heap.size) (cs := #[v0, v1]) (t := 28) hb1 (box2 _ _ _).1; have p1_0 := X.2.1 0 _ rfl; have p1_1 := X.2.1 1 _ rfl; have P1 := Sec.mk X; clear X; have X := box_cells (b := w.heap.size + 1) (cs := #[u0, u1]) (t := 28) hb1 (box2 _ _ _).2; have q1_0 := X.2.1 0 _ rfl; have q1_1 := X.2.1 1 _ rfl; have Q1 := Sec.mk X; clear X hb1))
    go_ret
    exact ⟨rb hd.out.symm, B1.out⟩
def mProg : Mk Prog := ⟨fun x => mClause.cnts x.clauses + mPlace.cnts x.places, fun x k => ⟨mClause.mks x.clauses (k), mPlace.mks x.places (k + ((mClause.cnts x.clauses : Nat) : Int))⟩⟩
def mProgt : Mk Prog := ⟨fun x => mClause.cnts x.clauses + mPlace.cnts x.places, fun x k => ⟨mClause.mks x.clauses (k), mPlace.mks x.places (k + ((mClause.cnts x.clauses : Nat) : Int))⟩⟩
theorem mProgt_cnt (x : Prog) : mProgt.cnt x = mClause.cnts x.clauses + mPlace.cnts x.places := rfl
set_option maxHeartbeats 2000000 in
theorem markPrgProg_c (x : Prog) (cs : List Value) (S : Nat → Prop) (k : Int) (hk : 0 ≤ k) (hk2 : k + mProgt.cnt x ≤ 1000000000000000000) (w : World) (hO : kProg.O w S x cs) :
    Calls Tryz.prog 27 #[.agg cs.toArray, .int .i64 k] w fun e w' => e = .returned (.int .i64 (k + mProgt.cnt x)) ∧ kProg.O w' S (mProgt.one x k) cs ∧ Foot S w w' := by
  have hOw := Kd.O_below (kProg.O_mono hO (S1 := fun k => S k ∧ k < w.heap.size) (fun k h1 h2 => ⟨h1, h2⟩)) (belA (Below.refl _ _) (.cells cs.toArray 28))
  obtain ⟨v0, v1, rfl, -, -⟩ := kProg_K (kProg.O_K hO)
  have hu := Tryz.underlying28
  have hcx : Sec (mProgt.cnt x = _) := ⟨mProgt_cnt x⟩
  rw [mProgt_cnt x] at hk2
  have A0 := Sec.mk hOw
  have P0 := Sec.mk (box1 w (.cells #[v0, v1] 28))
  have F0 : Sec (Foot S w (w.alloc (.cells #[v0, v1] 28))) := ⟨(Foot.refl _ _).alloc _⟩
  have Z0 : Sec (w.heap.size < (w.alloc (.cells #[v0, v1] 28)).heap.size) := ⟨by simp⟩
  clear hO hOw
  have T0 : Sec True := ⟨trivial⟩
  obtain ⟨S0, r0, hs0, bk0⟩ := Kd.O_sub A0.out kProg_f_clauses (v := v0) rfl
  have SR0 := Sec.mk r0
  have SS0 := Sec.mk hs0
  have BK0 := Sec.mk bk0
  clear r0 hs0 bk0
  go_enter Tryz.func27, Tryz.ntmps27
  go_wp2_with (first | (clear T1; go_at_call 81; have T2 : Sec True := ⟨trivial⟩; refine (markSPlace_c v1 x.places S1 (k + ((mClause.cnts x.clauses : Nat) : Int)) (by omega) (by omega) _ SR1.out).mono ?_; rintro e w2 ⟨rfl, hR', hF'⟩; have A2 : Sec (kProg.O w2 (fun k => S k ∧ k < w.heap.size) ⟨(mClause.mks x.clauses (k)), (mPlace.mks x.places (k + ((mClause.cnts x.clauses : Nat) : Int)))⟩ [v0, v1]) := ⟨BK1.out w2 _ hR' hF'⟩; have X := box_at ((hF'.block w.heap.size Z1.out (fun e => absurd (SS1.out _ e).2 (Nat.lt_irrefl _))).trans P1.out); have P2 := Sec.mk X.1; have F2 : Sec (Foot S w w2) := ⟨F1.out.trans hF' (fun k _ h => (SS1.out k h).1)⟩; have Z2 : Sec (w.heap.size < w2.heap.size) := ⟨Nat.lt_of_lt_of_le Z1.out hF'.size⟩; clear X hR' hF'; clear c1_0 c1_1) | (clear T0; go_at_call 80; have T1 : Sec True := ⟨trivial⟩; refine (markSClause_c v0 x.clauses S0 (k) (by omega) (by omega) _ SR0.out).mono ?_; rintro e w1 ⟨rfl, hR', hF'⟩; have A1 : Sec (kProg.O w1 (fun k => S k ∧ k < w.heap.size) ⟨(mClause.mks x.clauses (k)), x.places⟩ [v0, v1]) := ⟨BK0.out w1 _ hR' hF'⟩; have X := box_at ((hF'.block w.heap.size Z0.out (fun e => absurd (SS0.out _ e).2 (Nat.lt_irrefl _))).trans P0.out); have P1 := Sec.mk X.1; have c1_0 := X.2.1 0 _ rfl; have c1_1 := X.2.1 1 _ rfl; have F1 : Sec (Foot S w w1) := ⟨F0.out.trans hF' (fun k _ h => (SS0.out k h).1)⟩; have Z1 : Sec (w.heap.size < w1.heap.size) := ⟨Nat.lt_of_lt_of_le Z0.out hF'.size⟩; clear X hR' hF'; obtain ⟨S1, r1, hs1, bk1⟩ := Kd.O_sub A1.out kProg_f_places (v := v1) rfl; have SR1 := Sec.mk r1; have SS1 := Sec.mk hs1; have BK1 := Sec.mk bk1; clear r1 hs1 bk1))
  go_ret
  exact ⟨ri (by rw [hcx.out]; omega), kProg.O_mono A2.out (fun k h _ => h.1), F2.out⟩
set_option maxHeartbeats 2000000 in
theorem heldPrgProg_c (x : Prog) (cs : List Value) (ok : Nat → Prop) (k : Int) (hk : 0 ≤ k) (hk2 : k + mProgt.cnt x ≤ 1000000000000000000) (w : World) (hK : kProg.K w ok (mProgt.one x k) cs) :
    Calls Tryz.prog 86 #[.agg cs.toArray, .int .i64 k] w fun e w' => e = .returned (.int .i64 (k + mProgt.cnt x)) ∧ Below w.heap.size w w' := by
  have hu := Tryz.underlying28
  have hcx : Sec (mProgt.cnt x = _) := ⟨mProgt_cnt x⟩
  rw [mProgt_cnt x] at hk2
  obtain ⟨_, _, rfl, ⟨v0, rfl, h0⟩, ⟨v1, rfl, h1⟩⟩ := hK
  have H0 : Sec (kClause.V w ok v0 (mClause.mks x.clauses (k))) := ⟨h0⟩
  clear h0
  have H1 : Sec (kPlace.V w ok v1 (mPlace.mks x.places (k + ((mClause.cnts x.clauses : Nat) : Int)))) := ⟨h1⟩
  clear h1
  have T0 : Sec True := ⟨trivial⟩
  go_enter Tryz.func86, Tryz.ntmps86
  go_wp2_with (first | (clear T1; go_at_call 165; have T2 : Sec True := ⟨trivial⟩; refine (heldSPlace_c v1 x.places ok (k + ((mClause.cnts x.clauses : Nat) : Int)) (by omega) (by omega) _ (Kd.V_below H1.out B1.out (by decide))).mono ?_; rintro e w2 ⟨rfl, hb1⟩; have B2 := Sec.mk (bel B1.out hb1); have X := box_cells hb1 P1.out; have P2 := Sec.mk X.1; clear X hb1) | (clear T0; go_at_call 164; have T1 : Sec True := ⟨trivial⟩; refine (heldSClause_c v0 x.clauses ok (k) (by omega) (by omega) _ (Kd.V_below H0.out (belA (Below.refl _ _) _) (by decide))).mono ?_; rintro e w1 ⟨rfl, hb1⟩; have B1 := Sec.mk (bel (belA (Below.refl _ _) _) hb1); have X := box_cells hb1 (box1 _ _); have P1 := Sec.mk X.1; have c1_0 := X.2.1 0 _ rfl; have c1_1 := X.2.1 1 _ rfl; clear X hb1))
  go_ret
  exact ⟨ri (by rw [hcx.out]; omega), B2.out⟩
theorem rProg_tle (x : Prog) : mProgt.cnt x ≤ 8 * rProg.wt x := by
  rw [mProgt_cnt, rProg_wt]; have := Mk.cnts_le6 rClause_le6 x.clauses; have := Mk.cnts_le6 rPlace_le6 x.places; omega
end
end Go.Proofs.YtgiobpggonceeaaGreatDoor
