/- Contracts: a variable is bound; two terms are made the same (the program); and what goes with it. -/
import Derived.Test.YteflipoiiddkfaaGreatDoorMb2
import Derived.Test.YteflipoiiddkfaaGreatDoorMb3
import Derived.Test.YteflipoiiddkfaaGreatDoorMb4
import Derived.ArgAppend
import Derived.Deep.QuietTactic
import Derived.BigQuiet
import Derived.OrdersHeld
import Derived.Deep.MidRow
import Derived.Great.BuildSlice
import Derived.Laws.Tables
namespace Go.Proofs.YteflipoiiddkfaaGreatDoor
section
open Go.RowKit
set_option linter.unusedVariables false
set_option maxRecDepth 100000
theorem info_bnd : (Tryz.prog.info? 110).map (fun i => (i.zero, i.size, i.bytes)) = some (some (.agg #[.int .i64 0, .slice none 0 0]), 2, 32) := by kernel_rfl
theorem ints_le : ∀ (n : Nat) (l : List Int), l.Nodup → (∀ x ∈ l, 0 ≤ x ∧ x < n) → l.length ≤ n := by
  intro n
  induction n with
  | zero =>
    intro l _ h
    cases l with
    | nil => exact Nat.le_refl _
    | cons x r => have := h x List.mem_cons_self; omega
  | succ n ih =>
    intro l hl h
    have h1 := ih (l.erase (n : Int)) (hl.erase _) (fun x hx => by
      have h2 := (List.Nodup.mem_erase_iff hl).1 hx
      have h3 := h x h2.2
      have h4 := h2.1
      omega)
    have h2 := List.length_erase (a := (n : Int)) (l := l)
    split at h2 <;> omega
theorem BOk.len {s : List Bind} (h : BOk s) : s.length ≤ 100000 := by
  have h1 : (s.map (·.v)).Nodup := by
    have := h.tri.nd
    unfold Nd at this
    exact List.pairwise_map.2 this
  have h2 := ints_le 100000 (s.map (·.v)) h1 (fun x hx => by
    obtain ⟨b, hb, rfl⟩ := List.mem_map.1 hx
    have := h.v b hb
    omega)
  rwa [List.length_map] at h2
theorem W_BV2 {w : World} {S ok : Nat → Prop} {v : Value} {s : List Bind} (h : kBind.W w S ok v s) : BV2 w S ok v s := by
  obtain ⟨h0, ⟨rfl, rfl⟩ | ⟨b, cap, cur, rfl, hb, hS, h1, h2, h3, h4⟩⟩ := h
  · exact ⟨none, 0, rfl, Nat.le_refl _, by simp [maxLen], by simp, .inl rfl⟩
  · refine ⟨_, cap, rfl, h1, h2, h0, .inr ⟨b, 0, rfl, hS, fun i x hx => ?_⟩⟩
    obtain ⟨c, g1, g2⟩ := Kd.Ks_get h4 i x hx
    refine ⟨c, Kd.K_mono g1 (fun k hk => hk.1), fun j u hu => ?_⟩
    have g3 := g2 j u hu
    rw [List.getElem?_take] at g3
    split at g3
    · show w.cell? ⟨b, 0 + (i * kBind.sz + j), none⟩ = some u
      rw [cell_of_row w b _ cur kBind.ty (0, 0) hb, Nat.zero_add]; simpa using g3
    · cases g3
theorem bv_Ks {w : World} {ok : Nat → Prop} : ∀ {s : List Bind} {b off : Nat}, kBind.E w ok s (fun j => w.cell? ⟨b, off + j, none⟩) → ∃ cs, kBind.Ks w ok s cs ∧ ∀ j u, cs[j]? = some u → w.cell? ⟨b, off + j, none⟩ = some u
  | [], b, off, _ => ⟨[], rfl, fun j u hu => by simp at hu⟩
  | x :: s, b, off, hE => by
    have hd : kBind.E w ok s (fun j => w.cell? ⟨b, off + kBind.sz + j, none⟩) := by
      intro i y hy
      obtain ⟨c, h1, h2⟩ := hE (i + 1) y (by simpa using hy)
      refine ⟨c, h1, fun j u hu => ?_⟩
      have h3 := h2 j u hu
      have e : off + kBind.sz + (i * kBind.sz + j) = off + ((i + 1) * kBind.sz + j) := by rw [Nat.succ_mul]; omega
      show w.cell? ⟨b, off + kBind.sz + (i * kBind.sz + j), none⟩ = some u
      rw [e]; exact h3
    obtain ⟨c1, g1, g2⟩ := bv_Ks hd
    obtain ⟨c0, h1, h2⟩ := hE 0 x rfl
    have hl := kBind.K_len h1
    refine ⟨c0 ++ c1, ⟨c0, c1, rfl, h1, g1⟩, fun j u hu => ?_⟩
    rw [List.getElem?_append] at hu
    split at hu
    · have := h2 j u hu; rwa [Nat.zero_mul, Nat.zero_add] at this
    · have := g2 _ u hu
      rw [show off + kBind.sz + (j - c0.length) = off + j from by omega] at this
      exact this
section
variable {ops : Array Oper} {rest : List Oper} {o : Oper} {a : Act} {Q : Exit → Act → World → Prop}
/-- append(v, x) onto a row whose array is full: a row of one's own. -/
theorem bv_grow {W : World} (hgd : o.guard = none) (s x : Operand) (t : TypeId) (ht : Tryz.prog.underlying t = some (.slice kBind.ty))
    (ho : o.op = .call { callee := .builtin .append, args := #[s, x], argTypes := #[t, t] })
    (A : Option Addr) (xs : List Bind) (p : Bind) (cs : List Value) (okR okE : Nat → Prop) (hs : a.eval s = .slice A xs.length xs.length) {N : Nat} (hx : a.eval x = .slice (some ⟨N, 0, none⟩) 1 1) (hN : N = W.heap.size)
    (HO : BV2 W okR okE (.slice A xs.length xs.length) xs) (hp : kBind.K W okE p cs) (hl : xs.length + 1 ≤ 1073741824)
    (h : ∀ v1 w1, kBind.W w1 (fun k => W.heap.size ≤ k) okE v1 (xs ++ [p]) → W.grownBy w1 none → wpList Tryz.prog ops Q rest (a.put o.dst v1) w1) :
    wpList Tryz.prog ops Q (o :: rest) a (W.alloc (.cells cs.toArray kBind.ty)) := by
  subst hN
  obtain ⟨i0, hi, hzz⟩ := Option.map_eq_some_iff.1 info_bnd
  simp only [Prod.mk.injEq] at hzz
  obtain ⟨hz0, hz1, hz2⟩ := hzz
  obtain ⟨A', c', hv, g1, g2, g3, g4⟩ := HO
  simp only [Value.slice.injEq] at hv
  obtain ⟨rfl, -, rfl⟩ := hv
  have hold : ∃ olds, kBind.Ks W okE xs olds ∧ ∀ b, A = some b → ∀ j u, olds[j]? = some u → W.cell? (b.add j) = some u := by
    rcases g4 with rfl | ⟨b, off, rfl, hb, hE⟩
    · exact ⟨[], rfl, fun b _ j u hu => by simp at hu⟩
    · obtain ⟨es, k1, k2⟩ := bv_Ks hE
      refine ⟨es, k1, fun b' e j u hu => ?_⟩
      cases e
      have : (⟨b, off, none⟩ : Addr).add j = ⟨b, off + j, none⟩ := by unfold Addr.add; split <;> simp_all
      rw [this]; exact k2 j u hu
  obtain ⟨olds, k1, k2⟩ := hold
  have hnone : A = none → xs.length = 0 ∧ xs.length = 0 := by
    rintro rfl
    rcases g4 with rfl | ⟨b, off, e, _⟩
    · exact ⟨rfl, rfl⟩
    · cases e
  refine wpList_append_grows (W.alloc (.cells cs.toArray kBind.ty)) hgd s x t ho kBind.ty i0 (.agg #[.int .i64 0, .slice none 0 0]) kBind.sz 32 ht hi hz0 hz1 hz2 rfl (by decide) A xs.length xs.length olds hs hnone (Kd.Ks_len k1)
    (fun b e j u hu => ((belA (Below.refl W.heap.size W) (.cells cs.toArray kBind.ty)).cell (p := b.add j) (World.block_lt_of_cell? W _ (k2 b e j u hu))).trans (k2 b e j u hu)) ⟨W.heap.size, 0, none⟩ 1 1 cs hx (by rw [kBind.K_len hp]; simp)
    (by simpa using World.news_of_block (cs := cs.toArray) (t := kBind.ty) (fr := (0, 0)) (heap_alloc_new W (.cells cs.toArray kBind.ty))) (kBind.K_one hp) (by omega) (by simp only [maxLen]; omega) (by omega) ?_
  intro v1 w1 hown hg
  have hg1 := World.grownBy.trans (World.grownBy_alloc W _ _) hg
  refine h v1 w1 ?_ hg1
  have hlo : ∀ k, v1.ownBlock = some k → W.heap.size + 1 ≤ k := by
    intro k hk
    rcases hown.2 with ⟨rfl, hn⟩ | ⟨g, cap, cur, rfl, hle, _⟩
    · simp [Value.ownBlock] at hk
    · simp [Value.ownBlock] at hk
      subst hk
      simpa using hle
  have h0 : w1.ownsRow 0 kBind.ty kBind.sz v1 (xs ++ [p]).length (olds ++ cs) := by
    rw [List.length_append, List.length_singleton]
    refine ⟨hown.1, ?_⟩
    rcases hown.2 with h2 | ⟨g, cap, cur, e, hle, h3⟩
    · exact .inl h2
    · exact .inr ⟨g, cap, cur, e, Nat.zero_le _, h3⟩
  have mv : Keeps W w1 okE (fun k => okE k ∧ some k ≠ v1.ownBlock) := fun k hk hlt => ⟨⟨hk, fun e => by have := hlo k e.symm; omega⟩, hg1.block k hlt (by simp)⟩
  refine Kd.W_of_own (inner := olds ++ cs) h0 (Kd.Ks_append (Kd.Ks_move mv k1) (Kd.Ks_move mv ⟨cs, [], by simp, hp, rfl⟩)) (fun k hk => Nat.le_of_succ_le (hlo k hk)) (by rw [List.length_append]; exact hl)
end
/-- Bindings in hand: of a full array that lies below B, or a row of one's own above it. -/
def UOwn (w : World) (B : Nat) (okE : Nat → Prop) (v : Value) (s : List Bind) : Prop :=
  (∃ A, v = .slice A s.length s.length ∧ BV2 w (fun k => k < B) okE v s) ∨ kBind.W w (fun k => B ≤ k ∧ ¬ okE k) okE v s
theorem UOwn.below {w w1 : World} {B : Nat} {okE : Nat → Prop} {v : Value} {s : List Bind} (h : UOwn w B okE v s) (hb : Below w.heap.size w w1) : UOwn w1 B okE v s := by
  rcases h with ⟨A, h1, h2⟩ | h
  · exact .inl ⟨A, h1, h2.below hb⟩
  · exact .inr (Kd.W_move (Keeps.below hb _) (Keeps.below hb _) h)
theorem UOwn.bv {w : World} {B : Nat} {okE : Nat → Prop} {v : Value} {s : List Bind} (h : UOwn w B okE v s) : ∃ okR, BV2 w okR okE v s := by
  rcases h with ⟨A, h1, h2⟩ | h
  · exact ⟨_, h2⟩
  · exact ⟨_, W_BV2 h⟩
theorem UOwn.form {w : World} {B : Nat} {okE : Nat → Prop} {v : Value} {s : List Bind} (h : UOwn w B okE v s) : ∃ A c, v = .slice A s.length c := by
  obtain ⟨_, h⟩ := h.bv
  exact h.form
/-- What a way of unification leaves. -/
def UPost (w w' : World) (B : Nat) (okE : Nat → Prop) (e : Ending) (r : Option (List Bind)) : Prop := ∃ okE' : Nat → Prop, (∀ k, okE k → okE' k) ∧ (∀ k, okE' k → k < w'.heap.size) ∧ (∀ k, okE k → k < w.heap.size → w'.heap[k]? = w.heap[k]?) ∧ Below B w w' ∧
  (match r with
   | none => e = .returned (.tuple #[.slice none 0 0, .bool false])
   | some s1 => ∃ v1, e = .returned (.tuple #[v1, .bool true]) ∧ UOwn w' B okE' v1 s1)
theorem UPost.pre {w0 w w' : World} {B : Nat} {okE : Nat → Prop} {e : Ending} {r : Option (List Bind)} (h : UPost w w' B okE e r) (hb : Below w0.heap.size w0 w) (hB : B ≤ w0.heap.size) : UPost w0 w' B okE e r := by
  obtain ⟨okE', h1, h2, h3, h4, h5⟩ := h
  exact ⟨okE', h1, h2, fun k hk hl => (h3 k hk (Nat.lt_of_lt_of_le hl hb.size)).trans (hb.block k hl), (hb.mono hB).trans h4, h5⟩
theorem rank_top (rk : Int → Nat) (t : Term) : ∃ R, ∀ y, vin y t → rk y < R := by
  induction t with
  | nil => exact ⟨0, fun y hy => by obtain ⟨c, hc, _⟩ := hy; simp at hc⟩
  | cons c r ih =>
    obtain ⟨R, h⟩ := ih
    refine ⟨max R (rk c.n + 1), fun y hy => ?_⟩
    obtain ⟨d, hd, h1, h2⟩ := hy
    rcases List.mem_cons.1 hd with rfl | hd
    · rw [← h2]; omega
    · have := h y ⟨d, hd, h1, h2⟩; omega
theorem bindF_eq {s : List Bind} (hs : BOk s) {n : Nat} {x : Int} {t : Term} (ht : trmOk t = true) {r : Option (List Bind)} (h : bindF s n x t = some r) : r = if vinB x (sub (sig s) t) = true then none else some (s ++ [⟨x, t⟩]) := by
  unfold bindF at h
  cases hf : fullF s n t with
  | none => rw [hf] at h; cases h
  | some u =>
    obtain ⟨m, hm⟩ := full_total hs ht
    have e := fullF_det hf hm
    subst e
    rw [hf] at h
    simp only at h
    split at h <;> rename_i h1 <;> cases h
    · rw [if_pos h1]
    · rw [if_neg h1]
theorem kBind_mkK {w : World} {ok : Nat → Prop} {x : Bind} {v : Value} (h : kCell.V w ok v x.term) : kBind.K w ok x [.int .i64 x.v, v] :=
  ⟨[.int .i64 x.v], [v], rfl, ⟨rfl, trivial⟩, ⟨v, rfl, h⟩⟩
theorem upost_full {w w2 w3 w4 : World} {B : Nat} {okE : Nat → Prop} {v1 : Value} {s1 : List Bind} (hok : ∀ k, okE k → k < w.heap.size) (hB : B ≤ w.heap.size) (b2 : Below w.heap.size w w2) (b3 : Below w2.heap.size w2 w3) (hg : w3.grownBy w4 none)
    (hW : kBind.W w4 (fun k => w3.heap.size ≤ k) (fun k => okE k ∨ (w2.heap.size ≤ k ∧ k < w3.heap.size)) v1 s1) : UPost w w4 B okE (.returned (.tuple #[v1, .bool true])) (some s1) := by
  have hb : Below w.heap.size w w4 := (bel b2 b3).grown hg (bel b2 b3).size (fun j e => by cases e)
  have e2 := b2.size
  have e3 := b3.size
  have e4 := hg.size
  refine ⟨fun k => okE k ∨ (w2.heap.size ≤ k ∧ k < w3.heap.size), fun k h => .inl h, fun k h => ?_, fun k _ hl => hb.block k hl, hb.mono hB, v1, rfl, .inr ?_⟩
  · rcases h with h | h
    · have := hok k h; omega
    · omega
  · refine Kd.W_move (Keeps.mono fun k hk _ => ⟨by omega, ?_⟩) (Keeps.mono fun k hk _ => hk) hW
    rintro (h | h)
    · have := hok k h; omega
    · omega
theorem W_later {w w2 w3 : World} {B : Nat} {okE : Nat → Prop} {v : Value} {s : List Bind} (h : kBind.W w (fun k => B ≤ k ∧ ¬ okE k) okE v s) (b2 : Below w.heap.size w w2) (b3 : Below w2.heap.size w2 w3) :
    kBind.W w3 (fun k => (B ≤ k ∧ ¬ okE k) ∧ k < w2.heap.size) (fun k => okE k ∨ (w2.heap.size ≤ k ∧ k < w3.heap.size)) v s :=
  Kd.W_move (fun k hk hl => ⟨⟨hk, Nat.lt_of_lt_of_le hl b2.size⟩, (bel b2 b3).block k hl⟩) (fun k hk hl => ⟨.inl hk, (bel b2 b3).block k hl⟩) h
theorem K_later {w w2 w3 : World} {B : Nat} {okE : Nat → Prop} {v : Value} {s : List Bind} {p : Bind} {cs : List Value} (h : kBind.W w (fun k => B ≤ k ∧ ¬ okE k) okE v s) (b2 : Below w.heap.size w w2) (hok : ∀ k, okE k → k < w.heap.size)
    (hp : kBind.K w3 (fun k => okE k ∨ (w2.heap.size ≤ k ∧ k < w3.heap.size)) p cs) : kBind.K w3 (fun k => (okE k ∨ (w2.heap.size ≤ k ∧ k < w3.heap.size)) ∧ some k ≠ v.ownBlock) p cs := by
  obtain ⟨_, _, _, hS⟩ := Kd.W_own h
  refine Kd.K_mono hp (fun k hk => ⟨hk, fun e => ?_⟩)
  obtain ⟨⟨h1, h2⟩, h3⟩ := hS k e.symm
  have := b2.size
  rcases hk with hk | hk
  · exact h2 hk
  · omega
theorem upost_own {w w2 w3 w4 : World} {B : Nat} {okE : Nat → Prop} {v v1 : Value} {s s1 : List Bind} (hok : ∀ k, okE k → k < w.heap.size) (hB : B ≤ w.heap.size) (h : kBind.W w (fun k => B ≤ k ∧ ¬ okE k) okE v s) (b2 : Below w.heap.size w w2) (b3 : Below w2.heap.size w2 w3) (hg : w3.grownBy w4 v.ownBlock)
    (hW : kBind.W w4 (fun k => ((B ≤ k ∧ ¬ okE k) ∧ k < w2.heap.size) ∨ w3.heap.size ≤ k) (fun k => okE k ∨ (w2.heap.size ≤ k ∧ k < w3.heap.size)) v1 s1) : UPost w w4 B okE (.returned (.tuple #[v1, .bool true])) (some s1) := by
  obtain ⟨_, _, _, hS⟩ := Kd.W_own h
  have hb : Below B w w4 := ((bel b2 b3).mono hB).grown hg (Nat.le_trans hB (bel b2 b3).size) (fun j e => (hS j e).1.1)
  have e2 := b2.size
  have e3 := b3.size
  have e4 := hg.size
  refine ⟨fun k => okE k ∨ (w2.heap.size ≤ k ∧ k < w3.heap.size), fun k h => .inl h, fun k h => ?_, fun k hk hl => ?_, hb, v1, rfl, .inr ?_⟩
  · rcases h with h | h
    · have := hok k h; omega
    · omega
  · exact (hg.block k (by omega) (fun e => (hS k e.symm).1.2 hk)).trans ((bel b2 b3).block k hl)
  · refine Kd.W_move (Keeps.mono fun k hk _ => ?_) (Keeps.mono fun k hk _ => hk) hW
    rcases hk with hk | hk
    · refine ⟨hk.1.1, ?_⟩
      rintro (h | h)
      · exact hk.1.2 h
      · omega
    · refine ⟨by omega, ?_⟩
      rintro (h | h)
      · have := hok k h; omega
      · omega
set_option maxHeartbeats 2000000 in
theorem bind_i {s : List Bind} (hs : BOk s) (n : Nat) (x : Int) (hx : bget s x = none) (val v : Value) (t : Term) (B : Nat) (okE : Nat → Prop) (w : World) (hU : UOwn w B okE val s) (hT : kCell.V w okE v t) (ht : trmOk t = true) (hok : ∀ k, okE k → k < w.heap.size) (hB : B ≤ w.heap.size) (r : Option (List Bind)) (h : bindF s n x t = some r) :
    Calls Tryz.prog 86 #[val, .int .i64 x, v] w fun e w' => UPost w w' B okE e r := by
  obtain ⟨rk, hrk⟩ := hs.tri.rank
  obtain ⟨R, hR⟩ := rank_top rk t
  have hr := bindF_eq hs ht h
  have hlen := hs.len
  have hmm := @run_makeMap Tryz.prog
  have bA : Below w.heap.size w (w.alloc (.map #[] 0)) := belA (Below.refl _ _) _
  have HT := Sec.mk hT
  have HU := Sec.mk hU
  have HOK := Sec.mk hok
  have HLB := Sec.mk hB
  have HLEN := Sec.mk hlen
  obtain ⟨okR, hV⟩ := hU.bv
  have HC := Sec.mk (holds_i hs x hx rk hrk R val v t w.heap.size (fun _ => false) (fun k => okR k ∧ k < w.heap.size) okE (w.alloc (.map #[] 0)) ((hV.mono (fun k h1 h2 => ⟨h1, h2⟩) (fun k h _ => h)).below bA) (Kd.V_below hT bA (by decide)) ht (fun k h _ => Nat.ne_of_lt h.2) (fun k h _ => Nat.ne_of_lt (hok k h)) hR (seen_made w) (fun y h => by cases h))
  obtain ⟨Ab, cb, rfl⟩ := hV.form
  obtain ⟨At, ct, rfl, -⟩ := hT
  clear hV hok hR hrk h hx hs ht hlen
  cases hc : vinB x (sub (sig s) t) with
  | true =>
    have HE := Sec.mk hc
    have HR := Sec.mk hr
    clear hr hc hU hB bA
    go_enter Tryz.func86, Tryz.ntmps86
    go_wp2_with (go_at_call 96; refine HC.out.mono ?_; rw [HE.out]; rintro e w2 ⟨f1, rfl, hF, -, -⟩; have B2 := Sec.mk (Foot.below (w0 := w) hF (belA (Below.refl _ _) _) (fun k hk => Nat.le_of_eq hk.symm)); clear hF)
    refine bodyPost_ret (v := .tuple #[.slice none 0 0, .bool false]) (by simp [results, Tryz.results86, go_sem]) rfl ?_
    rw [HR.out, if_pos HE.out]
    exact ⟨okE, fun _ h => h, fun k h => Nat.lt_of_lt_of_le (HOK.out k h) B2.out.size, fun k _ hl => B2.out.block k hl, B2.out.mono HLB.out, rfl⟩
  | false =>
    have HE := Sec.mk hc
    have HR : Sec (r = some (s ++ [⟨x, t⟩])) := ⟨by rw [hr, hc]; rfl⟩
    clear hr hc hB bA
    rcases hU with ⟨A, e, hV⟩ | hW
    · have HV := Sec.mk hV
      simp only [Value.slice.injEq] at e
      obtain ⟨rfl, -, rfl⟩ := e
      go_enter Tryz.func86, Tryz.ntmps86
      go_wp2_with (first | (go_at_call 96; refine HC.out.mono ?_; rw [HE.out]; rintro e w2 ⟨f1, rfl, hF, -, -⟩; have B2 := Sec.mk (Foot.below (w0 := w) hF (belA (Below.refl _ _) _) (fun k hk => Nat.le_of_eq hk.symm)); clear hF) | (go_at_call 83; refine (cloneCells_c _ t okE w2 (Kd.V_below HT.out B2.out (by decide))).mono ?_; rintro e w3 ⟨u, rfl, hRc, hbc⟩; obtain ⟨Ac, cc, rfl, -, -⟩ := Kd.R_form hRc; have B3 := Sec.mk (bel B2.out hbc); have D3 := Sec.mk hbc; have K3 : Sec (kBind.K w3 (fun k => okE k ∨ (w2.heap.size ≤ k ∧ k < w3.heap.size)) ⟨x, t⟩ [.int .i64 x, .slice Ac t.length cc]) := ⟨kBind_mkK (Kd.V_move (fun k h1 h2 => ⟨.inr ⟨h1, h2⟩, rfl⟩) (Kd.R_V hRc) (by decide))⟩; have U3 := Sec.mk (HU.out.below (bel B2.out hbc)); clear hRc hbc) | (at_builtin; refine bv_grow rfl (.tmp 13) (.tmp 18) 90 Tryz.underlying90 rfl Ab s ⟨x, t⟩ [.int .i64 x, .slice Ac t.length cc] (fun k => k < B) (fun k => okE k ∨ (w2.heap.size ≤ k ∧ k < w3.heap.size)) rfl rfl rfl (((HV.out.below B3.out).move (Keeps.mono fun k h _ => h) (Keeps.mono fun k h _ => .inl h))) K3.out (by have := HLEN.out; omega) ?_; intro v1 w4 hW4 hg4; have W4 := Sec.mk hW4; have G4 := Sec.mk hg4; clear hW4 hg4))
      refine bodyPost_ret (v := .tuple #[v1, .bool true]) (by simp [results, Tryz.results86, go_sem]) rfl ?_
      rw [HR.out]
      exact upost_full HOK.out HLB.out B2.out D3.out G4.out W4.out
    · have HW := Sec.mk hW
      clear hW
      go_enter Tryz.func86, Tryz.ntmps86
      go_wp2_with (first | (go_at_call 96; refine HC.out.mono ?_; rw [HE.out]; rintro e w2 ⟨f1, rfl, hF, -, -⟩; have B2 := Sec.mk (Foot.below (w0 := w) hF (belA (Below.refl _ _) _) (fun k hk => Nat.le_of_eq hk.symm)); clear hF) | (go_at_call 83; refine (cloneCells_c _ t okE w2 (Kd.V_below HT.out B2.out (by decide))).mono ?_; rintro e w3 ⟨u, rfl, hRc, hbc⟩; obtain ⟨Ac, cc, rfl, -, -⟩ := Kd.R_form hRc; have B3 := Sec.mk (bel B2.out hbc); have D3 := Sec.mk hbc; have K3 : Sec (kBind.K w3 (fun k => okE k ∨ (w2.heap.size ≤ k ∧ k < w3.heap.size)) ⟨x, t⟩ [.int .i64 x, .slice Ac t.length cc]) := ⟨kBind_mkK (Kd.V_move (fun k h1 h2 => ⟨.inr ⟨h1, h2⟩, rfl⟩) (Kd.R_V hRc) (by decide))⟩; have U3 := Sec.mk (HU.out.below (bel B2.out hbc)); clear hRc hbc) | (at_builtin; refine Kd.W_app kBind rfl (.tmp 13) (.tmp 18) 90 (.agg #[.int .i64 0, .slice none 0 0]) 32 rfl Tryz.underlying90 info_bnd rfl (by decide) (by decide) _ s ⟨x, t⟩ [.int .i64 x, .slice Ac t.length cc] (fun k => (B ≤ k ∧ ¬ okE k) ∧ k < w2.heap.size) (fun k => okE k ∨ (w2.heap.size ≤ k ∧ k < w3.heap.size)) rfl rfl rfl (W_later HW.out B2.out D3.out) (K_later HW.out B2.out HOK.out K3.out) (by have := HLEN.out; omega) ?_; intro v1 w4 hW4 hg4; have W4 := Sec.mk hW4; have G4 := Sec.mk hg4; clear hW4 hg4))
      refine bodyPost_ret (v := .tuple #[v1, .bool true]) (by simp [results, Tryz.results86, go_sem]) rfl ?_
      rw [HR.out]
      exact upost_own HOK.out HLB.out HW.out B2.out D3.out G4.out W4.out
end
section
open Go.RowKit
set_option linter.unusedVariables false
set_option maxRecDepth 100000
theorem uniF_open {n : Nat} {s : List Bind} {a b : Term} {r : Option (List Bind)} (h : uniF (n + 1) s a b = some r) : ∃ c x d y, walkF s n a = some (c :: x) ∧ walkF s n b = some (d :: y) ∧
    (if c.kind = 1 then (if d = c then some (some s) else bindF s n c.n (d :: y)) else if d.kind = 1 then bindF s n d.n (c :: x) else if c ≠ d then some none else foldU (uniF n) s (args (c :: x)) (args (d :: y))) = some r := by
  rw [uniF] at h
  cases h1 : walkF s n a with
  | none => rw [h1] at h; cases h
  | some X =>
    cases h2 : walkF s n b with
    | none => rw [h1, h2] at h; cases X <;> cases h
    | some Y =>
      rw [h1, h2] at h
      cases X with
      | nil => cases h
      | cons c x =>
        cases Y with
        | nil => cases h
        | cons d y => exact ⟨c, x, d, y, rfl, rfl, h⟩
theorem walkF_free {s : List Bind} (hs : BOk s) {n : Nat} {t : Term} (ht : trmOk t = true) {c : Cell} {x : Term} (h : walkF s n t = some (c :: x)) (hk : c.kind = 1) : bget s c.n = none := by
  obtain ⟨m, u, h1, _, ⟨c', r', rfl, h3⟩, _⟩ := walk_total hs ht
  have e1 := walkF_mono (Nat.le_max_left n m) h
  have e2 := walkF_mono (Nat.le_max_right n m) h1
  rw [e1] at e2
  simp only [Option.some.injEq, List.cons.injEq] at e2
  rw [← e2.1] at h3
  exact (h3 hk).2.2
theorem foldU_cons {f : List Bind → Term → Term → Option (Option (List Bind))} {s : List Bind} {L M : List Term} {k : Nat} (h1 : k < L.length) (h2 : k < M.length) {r : Option (List Bind)} (h : foldU f s (L.drop k) (M.drop k) = some r) :
    (f s L[k] M[k] = some none ∧ r = none) ∨ ∃ s1, f s L[k] M[k] = some (some s1) ∧ foldU f s1 (L.drop (k + 1)) (M.drop (k + 1)) = some r := by
  rw [List.drop_eq_getElem_cons h1, List.drop_eq_getElem_cons h2, foldU] at h
  cases hf : f s L[k] M[k] with
  | none => rw [hf] at h; cases h
  | some q =>
    rw [hf] at h
    cases q with
    | none => simp only [Option.some.injEq] at h; exact .inl ⟨rfl, h.symm⟩
    | some s1 => exact .inr ⟨s1, rfl, h⟩
theorem foldU_end {f : List Bind → Term → Term → Option (Option (List Bind))} {s : List Bind} {L M : List Term} {k : Nat} (h1 : L.length ≤ k) {r : Option (List Bind)} (h : foldU f s (L.drop k) (M.drop k) = some r) : r = some s := by
  rw [List.drop_eq_nil_of_le h1, foldU] at h
  · cases h; rfl
  · intro _ _ _ _ h; cases h
theorem belDq {n : Nat} {w W : World} {m : Nat} (h : Below n w W) : Below n w (W.drewN m) := ⟨h.os, h.tape, h.output, h.size, h.block⟩
theorem UPost.form {w w' : World} {B : Nat} {okE : Nat → Prop} {e : Ending} {r : Option (List Bind)} (h : UPost w w' B okE e r) : ∃ v q, e = .returned (.tuple #[v, .bool q]) := by
  obtain ⟨_, _, _, _, _, h⟩ := h
  cases r with
  | none => exact ⟨_, _, h⟩
  | some s1 => obtain ⟨v1, h, _⟩ := h; exact ⟨_, _, h⟩
theorem UPost.same {w w' : World} {B : Nat} {okE : Nat → Prop} {v : Value} {s : List Bind} (hU : UOwn w B okE v s) (hok : ∀ k, okE k → k < w.heap.size) (hB : B ≤ w.heap.size) (hb : Below w.heap.size w w') : UPost w w' B okE (.returned (.tuple #[v, .bool true])) (some s) :=
  ⟨okE, fun _ h => h, fun k h => Nat.lt_of_lt_of_le (hok k h) hb.size, fun k _ hl => hb.block k hl, hb.mono hB, v, rfl, hU.below hb⟩
theorem UPost.no {w w' : World} {B : Nat} {okE : Nat → Prop} (hok : ∀ k, okE k → k < w.heap.size) (hB : B ≤ w.heap.size) (hb : Below w.heap.size w w') : UPost w w' B okE (.returned (.tuple #[.slice none 0 0, .bool false])) none :=
  ⟨okE, fun _ h => h, fun k h => Nat.lt_of_lt_of_le (hok k h) hb.size, fun k _ hl => hb.block k hl, hb.mono hB, rfl⟩
/-- An element of a row of terms. -/
theorem termAt {w : World} {ok : Nat → Prop} {A : Option Addr} {xs : List Term} (h : kTerm.C w ok A xs) (i : Nat) (hi : i < xs.length) : ∃ b off v, A = some ⟨b, off, none⟩ ∧ w.cell? ⟨b, off + i, none⟩ = some v ∧ kCell.V w ok v xs[i] := by
  obtain ⟨b, off, cs, hA, hb, hK, hc⟩ := Kd.C_get h (List.getElem?_eq_getElem hi)
  obtain ⟨v, rfl, hv⟩ := hK
  have := hc 0 _ rfl
  rw [show kTerm.sz = 1 from rfl, Nat.mul_one, Nat.add_zero] at this
  exact ⟨b, off, v, hA, this, hv⟩
theorem UOwn.grow {w w6 : World} {B : Nat} {okE okL : Nat → Prop} {v : Value} {s : List Bind} (h : UOwn w B okE v s) (hb : Below w.heap.size w w6) (h1 : ∀ k, okE k → okL k) (h2 : ∀ k, k < w.heap.size → okL k → okE k) : UOwn w6 B okL v s := by
  rcases h with ⟨A, h3, h4⟩ | h
  · exact .inl ⟨A, h3, (h4.below hb).mono (fun k h _ => h) (fun k h _ => h1 k h)⟩
  · exact .inr (Kd.W_move (fun k hk hl => ⟨⟨hk.1, fun e => hk.2 (h2 k hl e)⟩, hb.block k hl⟩) (fun k hk hl => ⟨h1 k hk, hb.block k hl⟩) h)
/-- What holds in the loop over the arguments. -/
def ULoop (n : Nat) (L M : List Term) (r : Option (List Bind)) (w6 wr : World) (B : Nat) (okL : Nat → Prop) (sv : Value) (k : Nat) : Prop := ∃ (s1 : List Bind) (okE1 : Nat → Prop), foldU (uniF n) s1 (L.drop k) (M.drop k) = some r ∧ BOk s1 ∧ UOwn wr B okE1 sv s1 ∧
  (∀ j, okL j → okE1 j) ∧ (∀ j, okE1 j → j < wr.heap.size) ∧ (∀ j, okL j → j < w6.heap.size → wr.heap[j]? = w6.heap[j]?) ∧ Below B w6 wr
theorem uloop_out {w w6 wr w7 : World} {B : Nat} {okE okL okE1 okE2 : Nat → Prop} (hb : Below w.heap.size w w6) (hB : B ≤ w.heap.size) (h1 : ∀ k, okE k → okL k) (h2 : ∀ k, okL k → okE1 k) (h3 : ∀ j, okL j → j < w6.heap.size → wr.heap[j]? = w6.heap[j]?) (h4 : Below B w6 wr)
    (q1 : ∀ k, okE1 k → okE2 k) (q2 : ∀ k, okE2 k → k < w7.heap.size) (q3 : ∀ k, okE1 k → k < wr.heap.size → w7.heap[k]? = wr.heap[k]?) (q4 : Below B wr w7) : (∀ k, okE k → okE2 k) ∧ (∀ k, okE2 k → k < w7.heap.size) ∧ (∀ k, okE k → k < w.heap.size → w7.heap[k]? = w.heap[k]?) ∧ Below B w w7 :=
  ⟨fun k h => q1 k (h2 k (h1 k h)), q2, fun k h hl => (q3 k (h2 k (h1 k h)) (Nat.lt_of_lt_of_le (Nat.lt_of_lt_of_le hl hb.size) h4.size)).trans ((h3 k (h1 k h) (Nat.lt_of_lt_of_le hl hb.size)).trans (hb.block k hl)), ((hb.mono hB).trans h4).trans q4⟩
theorem args_row {w2 W w5 w6 : World} {okE : Nat → Prop} {v : Value} {l : List Term} (h0 : W.heap.size = w2.heap.size) (h : kTerm.W w5 (fun k => W.heap.size ≤ k) (fun k => okE k ∧ k < W.heap.size) v l) (hb : Below w5.heap.size w5 w6) : kTerm.V w6 (fun k => okE k ∨ (w2.heap.size ≤ k ∧ k < w6.heap.size)) v l :=
  Kd.V_move (fun k hk hl => ⟨hk.elim (fun h => .inr ⟨by rw [← h0]; exact h, Nat.lt_of_lt_of_le hl hb.size⟩) (fun h => .inl h.1), hb.block k hl⟩) (Kd.W_V h) (by decide)
set_option maxHeartbeats 8000000 in
theorem unify_i : ∀ (n : Nat) (val va vb : Value) (s : List Bind) (a b : Term) (B : Nat) (okE : Nat → Prop) (w : World) (r : Option (List Bind)), BOk s → UOwn w B okE val s → kCell.V w okE va a → kCell.V w okE vb b → trmOk a = true → trmOk b = true → (∀ k, okE k → k < w.heap.size) → B ≤ w.heap.size → uniF n s a b = some r →
    Calls Tryz.prog 69 #[val, va, vb] w fun e w' => UPost w w' B okE e r := by
  intro n
  induction n with
  | zero => intro val va vb s a b B okE w r _ _ _ _ _ _ _ _ h; cases h
  | succ n IH =>
  intro val va vb s a b B okE w r hs hU hA hB ha hb hok hlb h
  obtain ⟨c, x, d, y, hwa, hwb, hrest⟩ := uniF_open h
  obtain ⟨okR, hV⟩ := hU.bv
  obtain ⟨Ab, cb, rfl⟩ := hU.form
  have HS := Sec.mk hs
  have HU := Sec.mk hU
  have HV := Sec.mk hV
  have HA := Sec.mk hA
  have HB := Sec.mk hB
  have HTA := Sec.mk ha
  have HTB := Sec.mk hb
  have HWA := Sec.mk hwa
  have HWB := Sec.mk hwb
  have HOK := Sec.mk hok
  have HLB := Sec.mk hlb
  have HTX := Sec.mk (walkF_trm hs ha hwa)
  have HTY := Sec.mk (walkF_trm hs hb hwb)
  have HNX := Sec.mk (fun hk : c.kind = 1 => walkF_free hs ha hwa hk)
  have HNY := Sec.mk (fun hk : d.kind = 1 => walkF_free hs hb hwb hk)
  have IHS := Sec.mk IH
  have hu := Tryz.underlying77
  have T0 : Sec True := ⟨trivial⟩
  clear hs hU hV hA hB ha hb hwa hwb hok hlb IH h
  have hr := hrest
  have HR := Sec.mk hr
  clear hr hrest
  go_enter Tryz.func69, Tryz.ntmps69
  go_wp2_with (first | (clear T1; go_at_call 85; have T2 : Sec True := ⟨trivial⟩; refine (walk_i n _ _ s b (d :: y) okR okE _ HS.out (HV.out.below B1.out) (Kd.V_below HB.out B1.out (by decide)) HTB.out HWB.out).mono ?_; rintro e w2 ⟨z, rfl, hz, hb2⟩; have ZB := Sec.mk hz; have ZA2 := Sec.mk (Kd.V_below ZA.out hb2 (by decide)); obtain ⟨b2, off2, cp2, rfl, -⟩ := cV_cons hz; have B2 := Sec.mk (bel B1.out hb2); clear hz hb2) | (clear T0; go_at_call 85; have T1 : Sec True := ⟨trivial⟩; refine (walk_i n _ _ s a (c :: x) okR okE _ HS.out HV.out HA.out HTA.out HWA.out).mono ?_; rintro e w1 ⟨z, rfl, hz, hb1⟩; have ZA := Sec.mk hz; obtain ⟨b1, off1, cp1, rfl, -⟩ := cV_cons hz; have B1 := Sec.mk hb1; clear hz hb1))
  obtain ⟨b1', off1', cp1', e1, p1, x0, x1, x2⟩ := cV_cons ZA2.out
  simp only [Value.slice.injEq, Option.some.injEq, Addr.mk.injEq, and_true, true_and] at e1
  obtain ⟨⟨rfl, rfl⟩, rfl⟩ := e1
  obtain ⟨b2', off2', cp2', e2, p2, y0, y1, y2⟩ := cV_cons ZB.out
  simp only [Value.slice.injEq, Option.some.injEq, Addr.mk.injEq, and_true, true_and] at e2
  obtain ⟨⟨rfl, rfl⟩, rfl⟩ := e2
  have i1 : (0 : Int) < ((x.length + 1 : Nat) : Int) := by omega
  have i2 : (0 : Int) < ((y.length + 1 : Nat) : Int) := by omega
  have HOK2 : Sec (∀ k, okE k → k < w2.heap.size) := ⟨fun k h => Nat.lt_of_lt_of_le (HOK.out k h) B2.out.size⟩
  have HLB2 : Sec (B ≤ w2.heap.size) := ⟨Nat.le_trans HLB.out B2.out.size⟩
  by_cases hk : c.kind = 1
  · have hr := HR.out
    rw [if_pos hk] at hr
    have d1 : (c.kind == 1) = true := beq_iff_eq.2 hk
    have HNC := Sec.mk (HNX.out hk)
    clear hk HR
    rcases cell_cases c d with ⟨hcd, g1, g2, g3⟩ | ⟨hcd, hg⟩
    · rw [if_pos hcd.symm] at hr
      cases hr
      clear hcd
      go_quiet (fail)
      go_wp2
      refine bodyPost_ret (v := .tuple #[.slice Ab s.length cb, .bool true]) (by simp [results, Tryz.results69, go_sem]) rfl ?_
      exact UPost.same HU.out HOK.out HLB.out (belDq B2.out)
    · rw [if_neg (fun e => hcd e.symm)] at hr
      have HR := Sec.mk hr
      clear hr hcd
      rcases hg with g1 | ⟨g1, g2⟩ | ⟨g1, g2, g3⟩
      all_goals
        go_quiet (fail)
        go_wp2_with (go_at_call 86; refine (bind_i HS.out n c.n HNC.out _ _ (d :: y) B okE _ (HU.out.below (belDq B2.out)) (Kd.V_below ZB.out (belDq (Below.refl _ _)) (by decide)) HTY.out HOK2.out HLB2.out r HR.out).mono ?_; rintro e w4 hp; have hp2 := UPost.pre hp (belDq B2.out) HLB.out; obtain ⟨v9, q9, rfl⟩ := hp2.form; have P4 := Sec.mk hp2; clear hp hp2)
        refine bodyPost_ret (v := .tuple #[v9, .bool q9]) (by simp [results, Tryz.results69, go_sem]) rfl ?_
        exact P4.out
  · have hr := HR.out
    rw [if_neg hk] at hr
    have d1 : (c.kind == 1) = false := beq_eq_false_iff_ne.2 hk
    clear hk HR
    by_cases hk2 : d.kind = 1
    · rw [if_pos hk2] at hr
      have HR := Sec.mk hr
      have d2 : (d.kind == 1) = true := beq_iff_eq.2 hk2
      have HND := Sec.mk (HNY.out hk2)
      clear hk2 hr
      go_quiet (fail)
      go_wp2_with (go_at_call 86; refine (bind_i HS.out n d.n HND.out _ _ (c :: x) B okE _ (HU.out.below (belDq B2.out)) (Kd.V_below ZA2.out (belDq (Below.refl _ _)) (by decide)) HTX.out HOK2.out HLB2.out r HR.out).mono ?_; rintro e w4 hp; have hp2 := UPost.pre hp (belDq B2.out) HLB.out; obtain ⟨v9, q9, rfl⟩ := hp2.form; have P4 := Sec.mk hp2; clear hp hp2)
      refine bodyPost_ret (v := .tuple #[v9, .bool q9]) (by simp [results, Tryz.results69, go_sem]) rfl ?_
      exact P4.out
    · rw [if_neg hk2] at hr
      have d2 : (d.kind == 1) = false := beq_eq_false_iff_ne.2 hk2
      clear hk2
      rcases cell_cases c d with ⟨hcd, g1, g2, g3⟩ | ⟨hcd, hg⟩
      · rw [if_neg (fun h => h hcd)] at hr
        have HR := Sec.mk hr
        have HCD := Sec.mk hcd
        clear hr hcd
        go_quiet (fail)
        go_wp2
        go_quiet (fail)
        obtain ⟨L, hL⟩ : ∃ L, args (c :: x) = L := ⟨_, rfl⟩
        obtain ⟨M, hM⟩ : ∃ M, args (d :: y) = M := ⟨_, rfl⟩
        have HL := Sec.mk hL
        have HM := Sec.mk hM
        have hlm : L.length = M.length := by rw [← hL, ← hM, (trmOk_Trm HTX.out).eq.2.1, (trmOk_Trm HTY.out).eq.2.1, HCD.out]
        have HLM := Sec.mk hlm
        have HLO : Sec (∀ a ∈ L, trmOk a = true) := ⟨by rw [← hL]; exact trmOk_args HTX.out⟩
        have HMO : Sec (∀ a ∈ M, trmOk a = true) := ⟨by rw [← hM]; exact trmOk_args HTY.out⟩
        clear hL hM hlm
        go_wp2_with (first | (clear T3; go_at_call 87; have T4 : Sec True := ⟨trivial⟩; refine (args_i _ (c :: x) okE w5 (Kd.V_below ZA2.out B5.out (by decide)) HTX.out).mono ?_; rw [HL.out]; rintro e w6 ⟨u6, rfl, hW6, hb6⟩; obtain ⟨A6, c6, rfl, -, -, -⟩ := Kd.W_form hW6; have B6 := Sec.mk (bel B5.out hb6); have R6 := Sec.mk (args_row (w2 := w5) rfl hW6 (Below.refl _ _)); have R5 := Sec.mk (Kd.V_below R5.out hb6 (by decide)); have Z6 := Sec.mk hb6.size; clear hW6 hb6) | (clear T2; go_at_call 87; have T3 : Sec True := ⟨trivial⟩; refine (args_i _ (d :: y) okE _ (Kd.V_below ZB.out (belDq (Below.refl _ _)) (by decide)) HTY.out).mono ?_; rw [HM.out]; rintro e w5 ⟨u5, rfl, hW5, hb5⟩; obtain ⟨A5, c5, rfl, -, -, -⟩ := Kd.W_form hW5; have B5 := Sec.mk (bel (belDq (Below.refl w2.heap.size w2)) hb5); have R5 := Sec.mk (args_row (w2 := w2) rfl hW5 (Below.refl _ _)); clear hW5 hb5))
        have hll : L.length ≤ 1073741824 := by obtain ⟨_, _, _, _, _, h, _⟩ := R6.out; exact h
        rw [← HLM.out]
        obtain ⟨okL, hokL⟩ : ∃ okL : Nat → Prop, okL = (fun k => okE k ∨ (w2.heap.size ≤ k ∧ k < w6.heap.size)) := ⟨_, rfl⟩
        have HOL := Sec.mk hokL
        have R6L : Sec (kTerm.V w6 okL (.slice A6 L.length c6) L) := ⟨Kd.V_move (Keeps.mono fun k h hl => by rw [hokL]; exact h.elim .inl (fun h => .inr ⟨Nat.le_trans B5.out.size h.1, hl⟩)) R6.out (by decide)⟩
        have R5L : Sec (kTerm.V w6 okL (.slice A5 L.length c5) M) := ⟨by rw [HLM.out]; exact Kd.V_move (Keeps.mono fun k h hl => by rw [hokL]; exact h.elim .inl (fun h => .inr ⟨h.1, hl⟩)) R5.out (by decide)⟩
        have HST : Sec (ULoop n L M r w6 w6 B okL (.slice Ab s.length cb) 0) := ⟨s, okL, by rw [List.drop_zero, List.drop_zero, ← HL.out, ← HM.out]; exact HR.out, HS.out, HU.out.grow (bel B2.out B6.out) (fun k h => by rw [hokL]; exact .inl h) (fun k hl h => by rw [hokL] at h; exact h.elim id (fun h => absurd (Nat.lt_of_lt_of_le hl B2.out.size) (Nat.not_lt_of_le h.1))), fun j h => h, fun j h => by
          rw [hokL] at h
          rcases h with h | h
          · exact Nat.lt_of_lt_of_le (HOK2.out j h) B6.out.size
          · exact h.2, fun j _ _ => rfl, Below.refl _ _⟩
        have HEL : Sec (∀ k, okE k → okL k) := ⟨fun k h => by rw [hokL]; exact .inl h⟩
        clear hokL
        go_loopw [0, 78] (fun sv iv wr => ∃ k : Nat, k ≤ L.length ∧ iv = .int .i64 k ∧ Sec (ULoop n L M r w6 wr B okL sv k)) (fun _ iv _ => L.length - (intOf iv).toNat)
        case atStart => exact ⟨0, Nat.zero_le _, rfl, HST⟩
        case round =>
          obtain ⟨k, hk, rfl, hsm⟩ := hrel
          obtain ⟨s1, okE1, h1, h2, h3, h4, h5, h6, h7⟩ := hsm.out
          obtain ⟨A8, c8, rfl⟩ := h3.form
          have HS1 := Sec.mk h2
          have HU1 := Sec.mk h3
          have HO1 := Sec.mk h5
          have HLE := Sec.mk h4
          have HK6 := Sec.mk h6
          have HB7 := Sec.mk h7
          have HLB3 : Sec (B ≤ wr.heap.size) := ⟨Nat.le_trans HLB2.out (Nat.le_trans B6.out.size h7.size)⟩
          have HFD := Sec.mk h1
          clear h1 h2 h3 h4 h5 h6 h7 hsm
          by_cases hlk : k < L.length
          · have hlk2 : k < M.length := by have := HLM.out; omega
            have KP : Keeps w6 wr okL okE1 := fun j h hl => ⟨HLE.out j h, HK6.out j h hl⟩
            obtain ⟨b6, off6, vA, rfl, a6, hvA⟩ := termAt (Kd.V_C (Kd.V_move KP R6L.out (by decide))) k hlk
            obtain ⟨b5, off5, vB, rfl, a5, hvB⟩ := termAt (Kd.V_C (Kd.V_move KP R5L.out (by decide))) k hlk2
            have hvA := Sec.mk hvA
            have hvB := Sec.mk hvB
            have HL1 := Sec.mk (HLO.out _ (List.getElem_mem hlk))
            have HM1 := Sec.mk (HMO.out _ (List.getElem_mem hlk2))
            have hfd := foldU_cons hlk hlk2 HFD.out
            generalize L[k] = l1 at *
            generalize M[k] = m1 at *
            have j0 : (0 : Int) ≤ (k : Int) := by omega
            have j1 : (k : Int) < (L.length : Int) := by omega
            clear KP hlk2
            rcases hfd with ⟨hf, hr⟩ | ⟨s2, hf, hn⟩
            · have HF := Sec.mk hf
              have HRR := Sec.mk hr
              clear hf hr
              go_wp2_with (go_at_call 69; refine (IHS.out _ vA vB s1 l1 m1 B okE1 wr none HS1.out HU1.out hvA.out hvB.out HL1.out HM1.out HO1.out HLB3.out HF.out).mono ?_; rintro e w7 hp; obtain ⟨okE2, q1, q2, q3, q4, rfl⟩ := hp; have Q1 := Sec.mk q1; have Q2 := Sec.mk q2; have Q3 := Sec.mk q3; have Q4 := Sec.mk q4;  clear q1 q2 q3 q4)
              refine bodyPost_ret (v := .tuple #[.slice none 0 0, .bool false]) (by simp [results, Tryz.results69, go_sem]) rfl ?_
              rw [HRR.out]
              obtain ⟨z1, z2, z3, z4⟩ := uloop_out (bel B2.out B6.out) HLB.out HEL.out HLE.out HK6.out HB7.out Q1.out Q2.out Q3.out Q4.out
              exact ⟨okE2, z1, z2, z3, z4, rfl⟩
            · have HF := Sec.mk hf
              have HN := Sec.mk hn
              clear hf hn
              go_wp2_with (go_at_call 69; refine (IHS.out _ vA vB s1 l1 m1 B okE1 wr (some s2) HS1.out HU1.out hvA.out hvB.out HL1.out HM1.out HO1.out HLB3.out HF.out).mono ?_; rintro e w7 hp; obtain ⟨okE2, q1, q2, q3, q4, v7, rfl, q5⟩ := hp; have Q1 := Sec.mk q1; have Q2 := Sec.mk q2; have Q3 := Sec.mk q3; have Q4 := Sec.mk q4; have Q5 := Sec.mk q5; clear q5; clear q1 q2 q3 q4)
              go_roundw
              case rel => exact ⟨k + 1, by omega, by go_num, ⟨s2, okE2, HN.out, ((uniF_ok HS1.out HL1.out HM1.out HF.out).yes s2 rfl).1, Q5.out, fun j h => Q1.out j (HLE.out j h), Q2.out, fun j h hl => (Q3.out j (HLE.out j h) (Nat.lt_of_lt_of_le hl HB7.out.size)).trans (HK6.out j h hl), HB7.out.trans Q4.out⟩⟩
              case measure => simp [intOf]; omega
          · have hre := foldU_end (by omega) HFD.out
            have HRE := Sec.mk hre
            clear hre
            go_wp2
            refine bodyPost_ret (v := .tuple #[.slice A8 s1.length c8, .bool true]) (by simp [results, Tryz.results69, go_sem]) rfl ?_
            rw [HRE.out]
            obtain ⟨z1, z2, z3, z4⟩ := uloop_out (bel B2.out B6.out) HLB.out HEL.out HLE.out HK6.out HB7.out (fun _ h => h) HO1.out (fun _ _ _ => rfl) (Below.refl _ _)
            exact ⟨okE1, z1, z2, z3, z4, _, rfl, HU1.out⟩
      · rw [if_pos hcd] at hr
        cases hr
        clear hcd
        rcases hg with g1 | ⟨g1, g2⟩ | ⟨g1, g2, g3⟩
        all_goals
          go_quiet (fail)
          go_wp2
          go_quiet (fail)
          go_wp2
          refine bodyPost_ret (v := .tuple #[.slice none 0 0, .bool false]) (by simp [results, Tryz.results69, go_sem]) rfl ?_
          exact UPost.no HOK.out HLB.out (belDq (belDq B2.out))
end
section
open Go.RowKit
set_option linter.unusedVariables false
set_option maxRecDepth 100000
theorem shifted_i (v : Value) (t : Term) (n : Int) (ok : Nat → Prop) (w : World) (hV : kCell.V w ok v t) :
    Calls Tryz.prog 70 #[v, .int .i64 n] w fun e w' => ∃ u, e = .returned u ∧ kCell.R w' (fun k => w.heap.size ≤ k) u (shifted t n) ∧ Below w.heap.size w w' := by
  have HVV := Sec.mk hV
  obtain ⟨A, c, rfl, h1, h2, h3, hC, hz⟩ := hV
  clear hC hz
  have hu := Tryz.underlying77
  go_enter Tryz.func70, Tryz.ntmps70
  go_wp2_with (go_at_call 83; refine (cloneCells_c _ t ok _ HVV.out).mono ?_; rintro e wc ⟨vc, rfl, hRc, hbc⟩; obtain ⟨Ac, cc, rfl, -, -⟩ := Kd.R_form hRc; have HRC := Sec.mk hRc; have BC := Sec.mk hbc; clear hRc hbc)
  go_loopw [11] (fun i wr => ∃ k : Nat, k ≤ t.length ∧ i = .int .i64 k ∧ Sec (kCell.R wr (fun k => w.heap.size ≤ k) (.slice Ac t.length cc) ((t.take k).map (shiftC n) ++ t.drop k)) ∧ Sec (Below w.heap.size w wr)) (fun i _ => t.length - (intOf i).toNat)
  case atStart => exact ⟨0, Nat.zero_le _, rfl, ⟨by simpa using HRC.out⟩, BC⟩
  case round =>
    obtain ⟨k, hk, rfl, hR, hb⟩ := hrel
    by_cases hlt : k < t.length
    · have hlen : ((t.take k).map (shiftC n) ++ t.drop k).length = t.length := by simp; omega
      have hkl : k < ((t.take k).map (shiftC n) ++ t.drop k).length := by omega
      obtain ⟨b, rfl, -, hSb, hbb, hfz⟩ := Kd.R_block hR.out (by omega)
      have f1 := hfz (k * 3 + 1)
      obtain ⟨b', off', hA', _, c0, c1, c2, hnm⟩ := cell_at (Kd.V_C (Kd.R_V hR.out)) k hkl
      simp only [Option.some.injEq, Addr.mk.injEq, and_true] at hA'
      obtain ⟨rfl, rfl⟩ := hA'
      simp only [Nat.zero_add] at c0 c1 c2
      have hel : ((t.take k).map (shiftC n) ++ t.drop k)[k]'hkl = t[k] := by
        rw [List.getElem_append_right (by simp; omega)]
        simp only [List.length_map, List.length_take, List.getElem_drop]
        congr 1; omega
      rw [hel] at c0 c1 c2 hnm
      have hnx : Sec (((t.take k).map (shiftC n) ++ t.drop k).set k (shiftC n t[k]) = (t.take (k + 1)).map (shiftC n) ++ t.drop (k + 1)) := ⟨by
        rw [List.take_succ_eq_append_getElem hlt, List.map_append, List.drop_eq_getElem_cons hlt, List.set_append_right _ _ (by simp; omega), List.length_map, List.length_take, Nat.min_eq_left (by omega), Nat.sub_self, List.set_cons_zero, List.append_assoc]
        rfl⟩
      have hel' := Sec.mk hel
      have HKL := Sec.mk hkl
      clear hel hlen hfz
      generalize t[k] = x at *
      by_cases hx : x.kind = 1
      · have hx' : (x.kind == 1) = true := beq_iff_eq.2 hx
        have hs : Sec (shiftC n x = ⟨x.kind, wrap64 (x.n + n), x.name⟩) := ⟨by unfold shiftC; rw [if_pos hx]⟩
        have M := Sec.mk (kCell_store hR.out k 1 ⟨x.kind, wrap64 (x.n + n), x.name⟩ (.int .i64 (wrap64 (x.n + n))) HKL.out (by decide) (by rw [hel'.out]; rfl) hnm)
        have MB := Sec.mk (hb.out.setCell (p := ⟨b, k * 3 + 1, none⟩) hSb (.int .i64 (wrap64 (x.n + n))))
        clear hx
        go_wp2
        go_roundw
        case rel => exact ⟨k + 1, by omega, by go_num, ⟨by rw [← hnx.out, hs.out]; exact M.out⟩, MB⟩
        case measure => simp [intOf]; omega
      · have hx' : (x.kind == 1) = false := beq_eq_false_iff_ne.2 hx
        have hs : Sec (shiftC n x = x) := ⟨by unfold shiftC; rw [if_neg hx]⟩
        have hnx2 : Sec ((t.take k).map (shiftC n) ++ t.drop k = (t.take (k + 1)).map (shiftC n) ++ t.drop (k + 1)) := ⟨by
          rw [← hnx.out, hs.out]
          conv => rhs; arg 3; rw [← hel'.out]
          rw [List.set_getElem_self]⟩
        clear hx
        go_wp2
        go_roundw
        case rel => exact ⟨k + 1, by omega, by go_num, ⟨by rw [← hnx2.out]; exact hR.out⟩, hb⟩
        case measure => simp [intOf]; omega
    · have hf : Sec ((t.take k).map (shiftC n) ++ t.drop k = shifted t n) := ⟨by rw [List.take_of_length_le (by omega), List.drop_of_length_le (by omega), List.append_nil]; rfl⟩
      have HR2 : Sec (kCell.R wr (fun k => w.heap.size ≤ k) (.slice Ac t.length cc) (shifted t n)) := ⟨by rw [← hf.out]; exact hR.out⟩
      clear hf hR
      go_wp2
      go_ret
      exact ⟨_, rfl, HR2.out, hb.out⟩
end
section
open Go.RowKit
set_option linter.unusedVariables false
/-- What an operation leaves: said of the slots, of the blocks that are its own, and of the world. -/
structure Ass where
  sl : List Nat
  on : (Nat → Value) → (Nat → Prop) → World → Prop
/-- It stands where the named slots, its own blocks and the old blocks stand. -/
def Ass.Stab (A : Ass) (n0 : Nat) (T : Nat → Prop) : Prop := ∀ (val val' : Nat → Value) (S : Nat → Prop) (w w' : World), A.on val S w → (∀ t ∈ A.sl, val' t = val t) →
  (∀ k, S k ∨ (k < n0 ∧ ¬ T k) → k < w.heap.size → w'.heap[k]? = w.heap[k]?) → w.heap.size ≤ w'.heap.size → A.on val' S w'
def slotsOf (a : Act) (t : Nat) : Value := a.eval (.tmp t)
def depsOf (o : Oper) : List Nat := (o.after.toList.filter (Region.binds .any ·)).map (·.on)
/-- The region's own order fits the assertions: closed facts. -/
structure FitB (ops : Array Oper) (sl : Nat → List Nat) (eat : Nat → List Nat) (N m : Nat) : Prop where
  guard : ((true : Bool)) = true
  back : (List.range ops.size).all (fun i => ((ops[i]?).map (fun o => (depsOf o).all (· < i))).getD true) = true
  slot : (List.range (ops.size + N)).all (fun i => (sl i).all (fun t => (List.range ops.size).all (fun j => ((ops[j]?).map (fun o => !(o.dst == some t) || j == i || ((ops[i]?).map (fun p => (depsOf p).contains j)).getD false)).getD true))) = true
  dst : (List.range ops.size).all (fun i => ((ops[i]?).map (fun o => (o.dst.map (fun d => decide (d < m))).getD true)).getD true) = true
  eat : (List.range ops.size).all (fun i => (eat i).all (fun j => (List.range ops.size).all (fun i' => i' == i || !(eat i').contains j))) = true
/-- What op i may look at: what it waits for, and what there was, where nobody else eats it. -/
def usable (ops : Array Oper) (eat : Nat → List Nat) (N : Nat) (i j : Nat) : Bool :=
  (((ops[i]?).map (fun o => (depsOf o).contains j)).getD false || (decide (ops.size ≤ j) && decide (j < ops.size + N))) && (List.range ops.size).all (fun i' => i' == i || !(eat i').contains j || ((ops[i']?).map (fun o => (depsOf o).contains i)).getD false)
def foreign (ops : Array Oper) (t : Nat) : Bool := (List.range ops.size).all (fun j => ((ops[j]?).map (fun o => !(o.dst == some t))).getD true)
/-- No operation that may have come up ahead of op i writes slot t. -/
def keptAt (ops : Array Oper) (i t : Nat) : Bool := (List.range ops.size).all (fun j => ((ops[j]?).map (fun o => !(o.dst == some t) || (depsOf o).contains i)).getD true)
structure St (ops : Array Oper) (A : Nat → Ass) (eat : Nat → List Nat) (N : Nat) (T : Nat → Prop) (w0 : World) (a0 : Act) (L : Nat → Bool) (a : Act) (w : World) (own : Nat → Nat → Prop) : Prop where
  size : a.tmps.size = a0.tmps.size
  keep : ∀ t, (∀ j o, ops[j]? = some o → o.dst = some t → L j = false) → slotsOf a t = slotsOf a0 t
  rest : a.defers = a0.defers
  foot : Foot T w0 w
  apart : ∀ i j k, own i k → own j k → i = j
  mine : ∀ i k, own i k → (w0.heap.size ≤ k ∨ T k) ∧ k < w.heap.size
  holds : ∀ i, i < ops.size + N → L i = true → (∀ j, j < ops.size → i ∈ eat j → L j = false) → (A i).on (slotsOf a) (own i) w
  closed : ∀ i o, ops[i]? = some o → L i = true → ∀ j ∈ depsOf o, L j = true
theorem all_range {n : Nat} {p : Nat → Bool} (h : (List.range n).all p = true) {i : Nat} (hi : i < n) : p i = true := List.all_eq_true.1 h i (List.mem_range.2 hi)
theorem slots_put {a : Act} {d : Option Tmp} {v : Value} (hd : ∀ x, d = some x → x < a.tmps.size) (t : Nat) : slotsOf (a.put d v) t = if d = some t then v else slotsOf a t := by
  cases d with
  | none => simp [Act.put, slotsOf]
  | some x =>
    have hx := hd x rfl
    simp only [Act.put, slotsOf, Act.eval, Option.some.injEq]
    by_cases h : x = t
    · subst h; simp [hx]
    · rw [if_neg h]; simp [Array.getElem?_setIfInBounds_ne h]
theorem countP_lt {α : Type} {p q : α → Bool} : ∀ (l : List α), (∀ x ∈ l, q x = true → p x = true) → ∀ x ∈ l, p x = true → q x = false → l.countP q < l.countP p
  | [], _, x, hx, _, _ => by cases hx
  | y :: l, h, x, hx, h1, h2 => by
    have hle : l.countP q ≤ l.countP p := List.countP_mono_left (fun z hz => h z (List.mem_cons_of_mem _ hz))
    rw [List.countP_cons, List.countP_cons]
    rcases List.mem_cons.1 hx with rfl | hx
    · rw [if_pos h1, if_neg (by simp [h2])]; omega
    · have := countP_lt l (fun z hz => h z (List.mem_cons_of_mem _ hz)) x hx h1 h2
      have h3 := h y List.mem_cons_self
      by_cases hq : q y = true
      · rw [if_pos hq, if_pos (h3 hq)]; omega
      · rw [if_neg hq]; split <;> omega
section
variable {P : Program} {ops : Array Oper} {Q : Exit → Act → World → Prop} {A : Nat → Ass} {eat : Nat → List Nat} {N : Nat} {T : Nat → Prop} {w0 : World} {a0 : Act}
/-- What op i, come up in this state, must leave. -/
def Post (A : Nat → Ass) (eat : Nat → List Nat) (own : Nat → Nat → Prop) (i : Nat) (o : Oper) (a : Act) (w : World) (v : Value) (w' : World) : Prop :=
  ∃ S : Nat → Prop, Foot (fun k => ∃ j ∈ eat i, own j k) w w' ∧ (A i).on (fun t => if o.dst = some t then v else slotsOf a t) S w' ∧ (∀ k, S k → (∃ j ∈ eat i, own j k) ∨ (w.heap.size ≤ k ∧ k < w'.heap.size))
def StepOk (P : Program) (ops : Array Oper) (Q : Exit → Act → World → Prop) (A : Nat → Ass) (eat : Nat → List Nat) (N : Nat) (T : Nat → Prop) (w0 : World) (a0 : Act) (i : Nat) (o : Oper) : Prop :=
  ∀ (a : Act) (w : World) (own : Nat → Nat → Prop), (∀ t, keptAt ops i t = true → slotsOf a t = slotsOf a0 t) → (∀ j, usable ops eat N i j = true → (A j).on (slotsOf a) (own j) w) →
    (∀ i j k, own i k → own j k → i = j) → (∀ i k, own i k → (w0.heap.size ≤ k ∨ T k) ∧ k < w.heap.size) → Foot T w0 w →
    ∀ K : Act → World → Prop, (∀ v w', Post A eat own i o a w v w' → K (a.put o.dst v) w') → if Region.wanted o (yielded ops a.tmps) = true then Oper.wp P o a w K Q else K (a.put o.dst undef) w
theorem all_listed {listed : Array Bool} (hs : listed.size = ops.size) (hb : (List.range ops.size).all (fun i => ((ops[i]?).map (fun o => (depsOf o).all (· < i))).getD true) = true) (h : Region.ready .any ops listed = []) : ∀ i, listed.getD i true = true := by
  intro i
  induction i using Nat.strongRecOn with
  | _ i ih =>
    rcases Nat.lt_or_ge i ops.size with hi | hi
    · by_cases hl : listed.getD i true = true
      · exact hl
      · exfalso
        have hb' := all_range hb hi
        have : i ∈ Region.ready .any ops listed := mem_ready.2 ⟨by simpa using hl, ops[i], Array.getElem?_eq_getElem hi, fun e he hbd => by
          simp only [Array.getElem?_eq_getElem hi, Option.map_some, Option.getD_some] at hb'
          have hlt : e.on < i := by
            have := List.all_eq_true.1 hb' e.on (List.mem_map.2 ⟨e, List.mem_filter.2 ⟨by simpa using he, hbd⟩, rfl⟩)
            simpa using this
          have := ih e.on hlt
          have hsz : e.on < listed.size := by omega
          simpa [hsz] using this⟩
        rw [h] at this; cases this
    · simp [Array.getElem?_eq_none (show listed.size ≤ i by omega)]
theorem inv_any (hc : FitB ops (fun i => (A i).sl) eat N a0.tmps.size) (hst : ∀ i, i < ops.size + N → (A i).Stab w0.heap.size T) (hstep : ∀ i o, ops[i]? = some o → StepOk P ops Q A eat N T w0 a0 i o)
    (hend : ∀ a w own, St ops A eat N T w0 a0 (fun _ => true) a w own → Q .normal a w) :
    ∀ (fuel : Nat) (listed : Array Bool) (a : Act) (w : World) (own : Nat → Nat → Prop), listed.size = ops.size → (List.range ops.size).countP (fun i => !listed.getD i true) ≤ fuel →
      St ops A eat N T w0 a0 (fun i => listed.getD i true) a w own → wpAny P .any ops Q fuel listed a w := by
  intro fuel
  induction fuel with
  | zero =>
    intro listed a w own hs hn hI
    have hall : ∀ i, listed.getD i true = true := fun i => by
      rcases Nat.lt_or_ge i ops.size with hi | hi
      · have h0 : (List.range ops.size).countP (fun i => !listed.getD i true) = 0 := by omega
        have := List.countP_eq_zero.1 h0 i (List.mem_range.2 hi)
        simpa using this
      · simp [Array.getElem?_eq_none (show listed.size ≤ i by omega)]
    refine ⟨?_, hend a w own (by have e : (fun i => listed.getD i true) = fun _ => true := funext hall; rw [← e]; exact hI)⟩
    cases hr : Region.ready .any ops listed with
    | nil => rfl
    | cons x l =>
      have : x ∈ Region.ready .any ops listed := by rw [hr]; exact List.mem_cons_self
      have := (mem_ready.1 this).1
      rw [hall x] at this; cases this
  | succ fuel ih =>
    intro listed a w own hs hn hI
    refine ⟨fun h0 => hend a w own ?_, fun i hi => ?_⟩
    · have e : (fun i => listed.getD i true) = fun _ => true := funext (all_listed hs hc.back h0)
      rw [← e]; exact hI
    · obtain ⟨hun, o, ho, hdep⟩ := mem_ready.1 hi
      have hil : i < ops.size := (Array.getElem?_eq_some_iff.1 ho).1
      have hdep' : ∀ j ∈ depsOf o, listed.getD j true = true := fun j hj => by
        obtain ⟨e, he, rfl⟩ := List.mem_map.1 hj
        obtain ⟨he1, he2⟩ := List.mem_filter.1 he
        have h1 := hdep e (by simpa using he1) he2
        rcases Nat.lt_or_ge e.on listed.size with h' | h'
        · simpa [h'] using h1
        · simp [Array.getElem?_eq_none h'] at h1
      have hdst : ∀ x, o.dst = some x → x < a.tmps.size := fun x hx => by
        have := all_range hc.dst hil
        simp [ho, hx] at this
        rw [hI.size]; exact this
      have heat : ∀ j ∈ eat i, ∀ i', i' < ops.size → j ∈ eat i' → i' = i := fun j hj i' hi' hj' => by
        have := all_range (List.all_eq_true.1 (all_range hc.eat hil) j hj) hi'
        simpa [hj'] using this
      have hrun := hstep i o ho a w own (fun t ht => hI.keep t (fun j p hp hd => by
        cases hL : listed.getD j true with
        | false => rfl
        | true =>
          have h1 := all_range ht (Array.getElem?_eq_some_iff.1 hp).1
          simp [hp, hd] at h1
          have := hI.closed j p hp hL i h1
          rw [hun] at this; cases this)) (fun j hj => by
        unfold usable at hj
        rw [Bool.and_eq_true, Bool.or_eq_true] at hj
        obtain ⟨h1, h2⟩ := hj
        have hLj : listed.getD j true = true ∧ j < ops.size + N := by
          rcases h1 with h1 | h1
          · simp [ho] at h1
            refine ⟨hdep' j h1, ?_⟩
            have hb' := all_range hc.back hil
            simp only [ho, Option.map_some, Option.getD_some] at hb'
            have := List.all_eq_true.1 hb' j h1
            simp at this
            omega
          · rw [Bool.and_eq_true] at h1
            obtain ⟨h1, h3⟩ := h1
            simp at h1 h3
            exact ⟨by simp [Array.getElem?_eq_none (show listed.size ≤ j by omega)], h3⟩
        refine hI.holds j hLj.2 hLj.1 (fun i' hi' hj' => ?_)
        have h5 := all_range h2 hi'
        by_cases e : i' = i
        · subst e; exact hun
        · cases hL : listed.getD i' true with
          | false => rfl
          | true =>
            simp [hj', e] at h5
            cases hp : ops[i']? with
            | none => simp [hp] at h5
            | some p =>
              simp [hp] at h5
              have := hI.closed i' p hp hL i h5
              rw [hun] at this; cases this) hI.apart hI.mine hI.foot
      unfold wpOp
      rw [ho]
      simp only
      have hrun2 := hrun (wpAny P .any ops Q fuel (listed.setIfInBounds i true)) (fun v w' hP => by
        obtain ⟨S, hF, hA, hS⟩ := hP
        have hU : ∀ k, (∃ j ∈ eat i, own j k) → (w0.heap.size ≤ k ∨ T k) := fun k ⟨j, _, hj⟩ => (hI.mine j k hj).1
        have hput : ∀ t, slotsOf (a.put o.dst v) t = if o.dst = some t then v else slotsOf a t := slots_put hdst
        refine ih (listed.setIfInBounds i true) (a.put o.dst v) w' (fun j k => if j = i then S k else own j k ∧ ¬ j ∈ eat i) (by simpa using hs) ?_ ?_
        · have := countP_lt (p := fun i => !listed.getD i true) (q := fun j => !(listed.setIfInBounds i true).getD j true) (List.range ops.size) (fun x hx hq => ?_) i (List.mem_range.2 hil) (by rw [hun]; rfl) (by simp [show i < listed.size by omega])
          · omega
          · by_cases hx' : i = x
            · subst hx'; simp [show i < listed.size by omega] at hq
            · rwa [getD_set_ne true hx'] at hq
        · refine ⟨?_, ?_, ?_, ?_, ?_, ?_, ?_, ?_⟩
          · rw [← hI.size]; cases o.dst <;> simp [Act.put]
          · intro t ht
            have hn : ¬ o.dst = some t := fun hd => by
              have := ht i o ho hd
              simp [show i < listed.size by omega] at this
            rw [hput, if_neg hn]
            refine hI.keep t (fun j p hp hd => ?_)
            have := ht j p hp hd
            by_cases e : i = j
            · subst e; rw [ho] at hp; obtain rfl := Option.some.inj hp; exact (hn hd).elim
            · rwa [getD_set_ne true e] at this
          · rw [← hI.rest]; cases o.dst <;> rfl
          · refine hI.foot.trans hF (fun k hk he => ?_)
            rcases hU k he with h | h
            · omega
            · exact h
          · intro j1 j2 k h1 h2
            have key : ∀ j, j ≠ i → own j k → ¬ j ∈ eat i → S k → False := fun j hj ho1 he hS1 => by
              rcases hS k hS1 with ⟨j', hj', ho2⟩ | ⟨h3, _⟩
              · exact he (hI.apart j j' k ho1 ho2 ▸ hj')
              · have := (hI.mine j k ho1).2; omega
            by_cases e1 : j1 = i
            · by_cases e2 : j2 = i
              · rw [e1, e2]
              · simp only [if_pos e1] at h1
                simp only [if_neg e2] at h2
                exact (key j2 e2 h2.1 h2.2 h1).elim
            · by_cases e2 : j2 = i
              · simp only [if_pos e2] at h2
                simp only [if_neg e1] at h1
                exact (key j1 e1 h1.1 h1.2 h2).elim
              · simp only [if_neg e1] at h1
                simp only [if_neg e2] at h2
                exact hI.apart j1 j2 k h1.1 h2.1
          · intro j k h
            by_cases e : j = i
            · simp only [if_pos e] at h
              rcases hS k h with he | ⟨h1, h2⟩
              · obtain ⟨j', _, hj'⟩ := he
                have := hI.mine j' k hj'
                have := hF.size
                exact ⟨(hI.mine j' k hj').1, by omega⟩
              · have := hI.foot.size
                exact ⟨.inl (by omega), h2⟩
            · simp only [if_neg e] at h
              have h1 := hI.mine j k h.1
              have := hF.size
              exact ⟨h1.1, by omega⟩
          · intro j hjN hj he
            by_cases e : j = i
            · subst e
              have e2 : (fun k => if j = j then S k else own j k ∧ ¬ j ∈ eat j) = S := funext fun k => if_pos rfl
              rw [e2, show slotsOf (a.put o.dst v) = fun t => if o.dst = some t then v else slotsOf a t from funext hput]
              exact hA
            · have hj0 : listed.getD j true = true := by rwa [getD_set_ne true (Ne.symm e)] at hj
              have hne : ¬ j ∈ eat i := fun h => by
                have := he i hil h
                simp [show i < listed.size by omega] at this
              have h0 := hI.holds j hjN hj0 (fun j' hj' hm => by
                by_cases e' : j' = i
                · subst e'; exact (hne hm).elim
                · have := he j' hj' hm
                  rwa [getD_set_ne true (Ne.symm e')] at this)
              have e2 : (fun k => if j = i then S k else own j k ∧ ¬ j ∈ eat i) = own j := funext fun k => by rw [if_neg e]; exact propext ⟨fun h => h.1, fun h => ⟨h, hne⟩⟩
              rw [e2]
              refine hst j hjN _ _ _ _ _ h0 (fun t ht => ?_) (fun k hk hlt => ?_) hF.size
              · rw [hput, if_neg]
                intro hd
                have := all_range (List.all_eq_true.1 (all_range hc.slot hjN) t ht) hil
                simp [ho, hd] at this
                rcases this with h | h
                · exact e h.symm
                · cases hoj : ops[j]? with
                  | none => simp [hoj] at h
                  | some p =>
                    simp [hoj] at h
                    have := hI.closed j p hoj hj0 i h
                    rw [hun] at this; cases this
              · refine hF.block k hlt (fun ⟨j', hj', ho'⟩ => ?_)
                rcases hk with hk | ⟨hk1, hk2⟩
                · exact hne (hI.apart j j' k hk ho' ▸ hj')
                · rcases (hI.mine j' k ho').1 with h | h
                  · omega
                  · exact hk2 h
          · intro j p hp hj j' hj'
            by_cases e : j = i
            · subst e
              rw [ho] at hp
              obtain rfl := Option.some.inj hp
              by_cases e' : j = j'
              · subst e'; simp [show j < listed.size by omega]
              · rw [getD_set_ne true e']; exact hdep' j' hj'
            · have hj0 : listed.getD j true = true := by rwa [getD_set_ne true (Ne.symm e)] at hj
              have := hI.closed j p hp hj0 j' hj'
              by_cases e' : i = j'
              · subst e'; simp [show i < listed.size by omega]
              · rw [getD_set_ne true e']; exact this)
      split
      · rename_i hw; rw [if_pos hw] at hrun2; exact .inl hrun2
      · rename_i hw; rw [if_neg hw] at hrun2; exact hrun2
/-- THE RULE: a region that draws its order: what is said of each operation holds behind it. -/
theorem wp_region_inv {id : Nat} {a : Act} {w : World} (A : Nat → Ass) (eat : Nat → List Nat) (N : Nat) (T : Nat → Prop) (own : Nat → Nat → Prop) (hm : P.follows .mixedOrders = true)
    (hc : FitB ops (fun i => (A i).sl) eat N a.tmps.size) (hst : ∀ i, i < ops.size + N → (A i).Stab w.heap.size T)
    (hap : ∀ i j k, own i k → own j k → i = j) (hmi : ∀ i k, own i k → ops.size ≤ i ∧ T k ∧ k < w.heap.size) (hh : ∀ i, ops.size ≤ i → i < ops.size + N → (A i).on (slotsOf a) (own i) w.drew)
    (hstep : ∀ i o, ops[i]? = some o → StepOk P ops Q A eat N T w.drew a i o)
    (hend : ∀ a' w' own, St ops A eat N T w.drew a (fun _ => true) a' w' own → Q .normal a' w') : (Code.region id ops true).wp P Q a w := by
  refine wp_region_any hm ?_
  have hsz : w.drew.heap.size = w.heap.size := rfl
  refine inv_any (w0 := w.drew) (a0 := a) hc (by rw [hsz]; exact hst) hstep hend ops.size (Array.replicate ops.size false) a w.drew own (by simp) ?_ ?_
  · exact Nat.le_trans List.countP_le_length (by simp)
  · have hL : ∀ i, i < ops.size → (Array.replicate ops.size false).getD i true = false := fun i hi => by simp [hi]
    refine ⟨rfl, fun _ _ => rfl, rfl, Foot.refl _ _, hap, fun i k h => ⟨.inr (hmi i k h).2.1, by rw [hsz]; exact (hmi i k h).2.2⟩, fun i hiN hi _ => ?_, fun i o ho hi => ?_⟩
    · rcases Nat.lt_or_ge i ops.size with h | h
      · rw [hL i h] at hi; cases hi
      · exact hh i h hiN
    · rw [hL i (Array.getElem?_eq_some_iff.1 ho).1] at hi; cases hi
/-! #### the rule in lists -/
abbrev On := (Nat → Value) → (Nat → Prop) → World → Prop
def assOf (sls : List (List Nat)) (ons : List On) (i : Nat) : Ass := ⟨(sls[i]?).getD [], (ons[i]?).getD (fun _ _ _ => True)⟩
def eatOf (eats : List (List Nat)) (i : Nat) : List Nat := (eats[i]?).getD []
inductive AllStab (n0 : Nat) (T : Nat → Prop) : List (List Nat) → List On → Prop
  | nil : AllStab n0 T [] []
  | cons {sl : List Nat} {on : On} {sls : List (List Nat)} {ons : List On} (h : (Ass.mk sl on).Stab n0 T) (t : AllStab n0 T sls ons) : AllStab n0 T (sl :: sls) (on :: ons)
theorem AllStab.at {n0 : Nat} {T : Nat → Prop} {sls : List (List Nat)} {ons : List On} (h : AllStab n0 T sls ons) : ∀ i, (assOf sls ons i).Stab n0 T := by
  induction h with
  | nil => intro i val val' S w w' _ _ _ _; simp [assOf]
  | cons h t ih =>
    intro i
    cases i with
    | zero => exact h
    | succ i => have := ih i; simpa [assOf] using this
inductive AllStep (Z : Nat → Oper → Prop) : Nat → List Oper → Prop
  | nil {k : Nat} : AllStep Z k []
  | cons {k : Nat} {o : Oper} {l : List Oper} (h : Z k o) (t : AllStep Z (k + 1) l) : AllStep Z k (o :: l)
theorem AllStep.at {Z : Nat → Oper → Prop} {k : Nat} {l : List Oper} (h : AllStep Z k l) : ∀ i o, l[i]? = some o → Z (k + i) o := by
  induction h with
  | nil => intro i o h; simp at h
  | cons h t ih =>
    intro i o ho
    cases i with
    | zero => obtain rfl := Option.some.inj ho; exact h
    | succ i =>
      have := ih i o (by simpa using ho)
      rwa [show ∀ k, k + 1 + i = k + (i + 1) from fun k => by omega] at this
theorem St.kept {ops : Array Oper} {A : Nat → Ass} {eat : Nat → List Nat} {N : Nat} {T : Nat → Prop} {w0 : World} {a0 : Act} {L : Nat → Bool} {a : Act} {w : World} {own : Nat → Nat → Prop} (h : St ops A eat N T w0 a0 L a w own) (t : Nat) (ht : foreign ops t = true) : slotsOf a t = slotsOf a0 t :=
  h.keep t (fun j o ho hd => by
    have := all_range ht (Array.getElem?_eq_some_iff.1 ho).1
    simp [ho, hd] at this)
/-- What there is behind the region. -/
structure Fin_ (ops : Array Oper) (sls : List (List Nat)) (ons : List On) (eats : List (List Nat)) (N : Nat) (T : Nat → Prop) (w0 : World) (a0 : Act) (a : Act) (w : World) (own : Nat → Nat → Prop) : Prop where
  st : St ops (assOf sls ons) (eatOf eats) N T w0 a0 (fun _ => true) a w own
theorem Fin_.get {ops : Array Oper} {sls : List (List Nat)} {ons : List On} {eats : List (List Nat)} {N : Nat} {T : Nat → Prop} {w0 : World} {a0 a : Act} {w : World} {own : Nat → Nat → Prop} (h : Fin_ ops sls ons eats N T w0 a0 a w own) (i : Nat)
    (hi : (decide (i < ops.size + N) && (List.range ops.size).all (fun j => !(eatOf eats j).contains i)) = true) : (assOf sls ons i).on (slotsOf a) (own i) w := by
  rw [Bool.and_eq_true] at hi
  exact h.st.holds i (of_decide_eq_true hi.1) rfl (fun j hj he => by
    have := all_range hi.2 hj
    simp [he] at this)
theorem Fin_.at {ops : Array Oper} {sls : List (List Nat)} {ons : List On} {eats : List (List Nat)} {N : Nat} {T : Nat → Prop} {w0 : World} {a0 a : Act} {w : World} {own : Nat → Nat → Prop} (h : Fin_ ops sls ons eats N T w0 a0 a w own) (i : Nat) (on : On) (hon : ons[i]? = some on)
    (hi : (decide (i < ops.size + N) && (List.range ops.size).all (fun j => !(eatOf eats j).contains i)) = true) : on (slotsOf a) (own i) w := by
  have := h.get i hi
  simp only [assOf, hon, Option.getD_some] at this
  exact this
theorem wp_region_lists {l : List Oper} {id : Nat} {a : Act} {w : World} (sls : List (List Nat)) (ons : List On) (eats : List (List Nat)) (N : Nat) (T : Nat → Prop) (own : Nat → Nat → Prop) (hm : P.follows .mixedOrders = true)
    (hc : FitB l.toArray (fun i => (sls[i]?).getD []) (eatOf eats) N a.tmps.size) (hst : AllStab w.heap.size T sls ons)
    (hap : ∀ i j k, own i k → own j k → i = j) (hmi : ∀ i k, own i k → l.length ≤ i ∧ T k ∧ k < w.heap.size) (hh : ∀ i, l.length ≤ i → i < l.length + N → (assOf sls ons i).on (slotsOf a) (own i) w.drew)
    (hstep : AllStep (StepOk P l.toArray Q (assOf sls ons) (eatOf eats) N T w.drew a) 0 l)
    (hend : ∀ a' w' own, Fin_ l.toArray sls ons eats N T w.drew a a' w' own → Q .normal a' w') : (Code.region id l.toArray true).wp P Q a w :=
  wp_region_inv (assOf sls ons) (eatOf eats) N T own hm hc (fun i _ => hst.at i) hap (fun i k h => by simpa using hmi i k h) (fun i h1 h2 => hh i (by simpa using h1) (by simpa using h2))
    (fun i o ho => by have := hstep.at i o (by simpa using ho); rwa [Nat.zero_add] at this) (fun a' w' own h => hend a' w' own ⟨h⟩)
end
/-! #### steps -/
section
variable {P : Program} {o : Oper} {a : Act} {w w' : World} {K : Act → World → Prop} {Q : Exit → Act → World → Prop} {E : Prop} {ops : Array Oper} {v : Value}
theorem op_val (v : Value) (w' : World) (hg : o.guard = none) (h : (execOp a.eval o).run P w = .ok (.value v) w') (hk : K (a.put o.dst v) w') : if Region.wanted o (yielded ops a.tmps) = true then Oper.wp P o a w K Q else E := by
  rw [if_pos (by simp [Region.wanted, hg])]
  unfold Oper.wp
  rw [h]; exact hk
theorem op_call {f : FuncId} {args : Array Value} (R : Value → World → Prop) (hg : o.guard = none) (h : (execOp a.eval o).run P w = .ok (.enter f args) w) (hc : Calls P f args w fun e w' => ∃ v, e = .returned v ∧ R v w') (hk : ∀ v w', R v w' → K (a.put o.dst v) w') : if Region.wanted o (yielded ops a.tmps) = true then Oper.wp P o a w K Q else E := by
  rw [if_pos (by simp [Region.wanted, hg])]
  unfold Oper.wp
  rw [h]
  exact hc.mono (by rintro e w' ⟨v, rfl, h⟩; exact hk v w' h)
/-- A guarded operation: what its guard tells. -/
theorem yield_of {j : Nat} {t : Tmp} {p : Oper} {b : Bool} (hj : ops[j]? = some p) (hd : p.dst = some t) (h : a.eval (.tmp t) = .bool b) : yielded ops a.tmps j = some b := by
  unfold yielded
  rw [hj, Option.bind_some, hd, Option.bind_some]
  have h' : a.tmps.getD t undef = .bool b := h
  rw [Array.getD_eq_getD_getElem?] at h'
  cases hx : a.tmps[t]? with
  | none => rw [hx] at h'; cases h'
  | some v => rw [hx] at h'; obtain rfl : v = .bool b := h'; rfl
theorem want_yes {j : Nat} {b : Bool} (hg : o.guard = some (j, b)) (h : yielded ops a.tmps j = some b) : Region.wanted o (yielded ops a.tmps) = true := by simp [Region.wanted, hg, h]
theorem want_no {j : Nat} {b : Bool} (hg : o.guard = some (j, b)) (h : yielded ops a.tmps j = some (!b)) : Region.wanted o (yielded ops a.tmps) = false := by cases b <;> simp [Region.wanted, hg, h]
theorem gop_val (v : Value) (w' : World) (hg : Region.wanted o (yielded ops a.tmps) = true) (h : (execOp a.eval o).run P w = .ok (.value v) w') (hk : K (a.put o.dst v) w') : if Region.wanted o (yielded ops a.tmps) = true then Oper.wp P o a w K Q else E := by
  rw [if_pos hg]
  unfold Oper.wp
  rw [h]; exact hk
theorem gop_call {f : FuncId} {args : Array Value} (R : Value → World → Prop) (hg : Region.wanted o (yielded ops a.tmps) = true) (h : (execOp a.eval o).run P w = .ok (.enter f args) w) (hc : Calls P f args w fun e w' => ∃ v, e = .returned v ∧ R v w') (hk : ∀ v w', R v w' → K (a.put o.dst v) w') : if Region.wanted o (yielded ops a.tmps) = true then Oper.wp P o a w K Q else E := by
  rw [if_pos hg]
  unfold Oper.wp
  rw [h]
  exact hc.mono (by rintro e w' ⟨v, rfl, h⟩; exact hk v w' h)
theorem gop_not {A : Prop} (hg : Region.wanted o (yielded ops a.tmps) = false) (hk : E) : if Region.wanted o (yielded ops a.tmps) = true then A else E := by
  rw [if_neg (by rw [hg]; decide)]; exact hk
/-- An operation that leaves the world alone. -/
theorem post_pure {A : Nat → Ass} {eat : Nat → List Nat} {own : Nat → Nat → Prop} {i : Nat} {v : Value} (h : (A i).on (fun t => if o.dst = some t then v else slotsOf a t) (fun _ => False) w) : Post A eat own i o a w v w :=
  ⟨fun _ => False, Foot.refl _ _, h, fun _ h => h.elim⟩
/-- An operation that makes memory. -/
theorem post_new {A : Nat → Ass} {eat : Nat → List Nat} {own : Nat → Nat → Prop} {i : Nat} {v : Value} (hB : Below w.heap.size w w') (h : (A i).on (fun t => if o.dst = some t then v else slotsOf a t) (fun k => w.heap.size ≤ k ∧ k < w'.heap.size) w') : Post A eat own i o a w v w' :=
  ⟨fun k => w.heap.size ≤ k ∧ k < w'.heap.size, Foot.of_below hB, h, fun k h => .inr h⟩
end
section
variable {P : Program} {o : Oper} {a : Act} {w w' : World} {K : Act → World → Prop} {Q : Exit → Act → World → Prop} {E : Prop} {ops : Array Oper} {v : Value}
end
section
variable {P : Program} {o : Oper} {a : Act} {w w' : World} {K : Act → World → Prop} {Q : Exit → Act → World → Prop} {E : Prop} {ops : Array Oper} {v : Value}
/-- A struct is stored whole, into a block of its size. -/
theorem step_store {cs : List Value} {old : Array Value} {b : Nat} {ty : TypeId} (hg : o.guard = none) (t : TypeId) (x y : Operand) (ho : o.op = .store t x y) (hx : a.eval x = .pointer (some ⟨b, 0, none⟩)) (hy : a.eval y = .agg cs.toArray)
    (hb : w.heap[b]? = some (.cells old ty (0, 0))) (hi : (P.info? t).map (·.size) = some cs.length) (hs : old.size = cs.length) (h1 : ∀ u ∈ cs, u.oneCell' = true)
    (hk : ∀ w1, w1.heap[b]? = some (.cells cs.toArray ty (0, 0)) → Foot (fun k => k = b) w w1 → K (a.put o.dst undef) w1) : if Region.wanted o (yielded ops a.tmps) = true then Oper.wp P o a w K Q else E := by
  rw [if_pos (by simp [Region.wanted, hg])]
  refine wp_store_row t x y ho b cs.toArray hx hy ty old hb (by simpa using hi) (by simpa using hs) (Array.all_eq_true_iff_forall_mem.2 (fun u hu => h1 u (by simpa using hu))) (hk _ (setRow_heap w b old _ ty _ hb) ?_)
  exact ⟨rfl, rfl, rfl, by simp [World.setRow], fun k hk hn => by simp only [World.setRow, Array.getElem?_modify]; rw [if_neg (fun e => hn e.symm)]⟩
theorem wpList_store {rest : List Oper} {cs : List Value} {old : Array Value} {b : Nat} {ty : TypeId} (hg : o.guard = none) (t : TypeId) (x y : Operand) (ho : o.op = .store t x y) (hx : a.eval x = .pointer (some ⟨b, 0, none⟩)) (hy : a.eval y = .agg cs.toArray)
    (hb : w.heap[b]? = some (.cells old ty (0, 0))) (hi : (P.info? t).map (·.size) = some cs.length) (hs : old.size = cs.length) (h1 : ∀ u ∈ cs, u.oneCell' = true)
    (hk : ∀ w1, w1.heap[b]? = some (.cells cs.toArray ty (0, 0)) → Foot (fun k => k = b) w w1 → wpList P ops Q rest (a.put o.dst undef) w1) : wpList P ops Q (o :: rest) a w :=
  wpList_step (fun K hK => step_store hg t x y ho hx hy hb hi hs h1 (fun w1 h2 h3 => hK _ _ (hk w1 h2 h3)))
theorem wpList_load {rest : List Oper} {cs : List Value} {b : Nat} {e : TypeId} {d : TypeDesc} (hw : Region.wanted o (yielded ops a.tmps) = true) (t : TypeId) (x : Operand) (ho : o.op = .load t x) (hx : a.eval x = .pointer (some ⟨b, 0, none⟩))
    (hb : w.heap[b]? = some (.cells cs.toArray e (0, 0))) (hu : P.underlying t = some d) (hd : d.isRow = true) (hi : (P.info? t).map (·.size) = some cs.length)
    (hk : wpList P ops Q rest (a.put o.dst (.agg cs.toArray)) w) : wpList P ops Q (o :: rest) a w :=
  wpList_step (fun K hK => by
    rw [if_pos hw]
    unfold Oper.wp execOp
    simp only [ho, hx, Sem.run_bind, run_loadAt_mid w b 0 t cs d (fun j v hv => by rw [Nat.zero_add]; rw [cell_of_row w b _ cs.toArray e (0, 0) hb]; simpa using hv) hu hd hi, Result.andThen_ok]
    exact hK _ _ hk)
/-- A struct is loaded whole. -/
theorem step_load {cs : List Value} {b f : Nat} {d : TypeDesc} (hg : o.guard = none) (t : TypeId) (x : Operand) (ho : o.op = .load t x) (hx : a.eval x = .pointer (some ⟨b, f, none⟩))
    (hc : ∀ j u, cs[j]? = some u → w.cell? ⟨b, f + j, none⟩ = some u) (hu : P.underlying t = some d) (hd : d.isRow = true) (hi : (P.info? t).map (·.size) = some cs.length)
    (hk : K (a.put o.dst (.agg cs.toArray)) w) : if Region.wanted o (yielded ops a.tmps) = true then Oper.wp P o a w K Q else E := by
  refine op_val (.agg cs.toArray) w hg ?_ hk
  unfold execOp
  simp only [ho, hx, Sem.run_bind, run_loadAt_mid w b f t cs d hc hu hd hi, Result.andThen_ok]
  rfl
end
/-! #### what is often said -/
section
variable {n0 : Nat} {T : Nat → Prop}
theorem stab_val (t : Nat) (p : Value → Prop) : (Ass.mk [t] (fun val _ _ => p (val t))).Stab n0 T := fun val val' S w w' h hs _ _ => by
  show p (val' t)
  rw [hs t (by simp)]; exact h
def onR {α : Type} (d : Kd α) (t : Nat) (xs : List α) : On := fun val S w => d.R w S (val t) xs
theorem stab_R {α : Type} (d : Kd α) (t : Nat) (xs : List α) : (Ass.mk [t] (onR d t xs)).Stab n0 T := fun val val' S w w' h hs hk _ => by
  show d.R w' S (val' t) xs
  rw [hs t (by simp)]
  exact Kd.R_move (fun k h1 h2 => ⟨h1, hk k (.inl h1) h2⟩) h
def onO {α : Type} (d : Kd α) (t : Nat) (x : α) : On := fun val S w => ∃ cs : List Value, val t = .agg cs.toArray ∧ d.O w S x cs
theorem stab_O {α : Type} (d : Kd α) (t : Nat) (x : α) : (Ass.mk [t] (onO d t x)).Stab n0 T := fun val val' S w w' h hs hk _ => by
  obtain ⟨cs, h1, h2⟩ := h
  exact ⟨cs, by rw [hs t (by simp)]; exact h1, d.O_move (fun k h1 h2 => ⟨h1, hk k (.inl h1) h2⟩) h2⟩
/-- A row that there was. -/
def onRc {α : Type} (d : Kd α) (v : Value) (xs : List α) : On := fun _ S w => d.R w S v xs
/-- A block of one's own, at a known place. -/
def onCells (b : Nat) (cs : Array Value) (ty : TypeId) : On := fun _ S w => w.heap[b]? = some (.cells cs ty (0, 0)) ∧ S b
/-- A block of one's own, behind a pointer. -/
def onBox (t : Nat) (cs : Array Value) (ty : TypeId) : On := fun val S w => ∃ b, val t = .pointer (some ⟨b, 0, none⟩) ∧ w.heap[b]? = some (.cells cs ty (0, 0)) ∧ S b
/-- A struct that lies in a block of one's own, at a known place. -/
def onAt {α : Type} (d : Kd α) (b : Nat) (ty : TypeId) (x : α) : On := fun _ S w => ∃ cs : List Value, w.heap[b]? = some (.cells cs.toArray ty (0, 0)) ∧ S b ∧ d.O w (fun k => S k ∧ k ≠ b) x cs
/-- A struct that lies in a block of one's own, behind a pointer. -/
def onPtr {α : Type} (d : Kd α) (t : Nat) (ty : TypeId) (x : α) : On := fun val S w => ∃ b, ∃ cs : List Value, val t = .pointer (some ⟨b, 0, none⟩) ∧ w.heap[b]? = some (.cells cs.toArray ty (0, 0)) ∧ S b ∧ d.O w (fun k => S k ∧ k ≠ b) x cs
/-- The variadic's box of one element. -/
def onOne {α : Type} (d : Kd α) (t : Nat) (x : α) : On := fun val S w => ∃ b, ∃ cs : List Value, val t = .slice (some ⟨b, 0, none⟩) 1 1 ∧ w.heap[b]? = some (.cells cs.toArray d.ty (0, 0)) ∧ S b ∧ d.O w (fun k => S k ∧ k ≠ b) x cs
end
end
section
open Go.RowKit
set_option linter.unusedVariables false
theorem Foot.of_grown {w w1 : World} {S : Nat → Prop} {row : Option Nat} (hg : w.grownBy w1 row) (hr : ∀ k, row = some k → S k) : Foot S w w1 :=
  ⟨hg.os, hg.tape, hg.output, hg.size, fun k hk hn => hg.block k hk (fun e => hn (hr k e.symm))⟩
theorem lst_cons {α : Type} {l : List α} {n : Nat} (h : l.length = n + 1) : ∃ x l', l = x :: l' ∧ l'.length = n := by
  cases l with
  | nil => simp at h
  | cons x l => exact ⟨x, l, rfl, by simpa using h⟩
theorem foot_cell {T : Nat → Prop} {w W : World} {b o : Nat} {u : Value} (h : Foot T w.drew W) (hT : ¬ T b) (hc : w.cell? ⟨b, o, none⟩ = some u) : W.cell? ⟨b, o, none⟩ = some u := by
  have hl := World.block_lt_of_cell? w _ hc
  exact (World.cell?_of_block (w := w) (w' := W) (h.block b hl hT)).trans hc
theorem foot_V {α : Type} {d : Kd α} {T ok : Nat → Prop} {w W : World} {v : Value} {xs : List α} (h : Foot T w.drew W) (hT : ∀ k, ok k → ¬ T k) (hV : d.V w ok v xs) (hp : 0 < d.sz) : d.V W ok v xs :=
  Kd.V_move (w := w) (fun k h1 h2 => ⟨h1, h.block k h2 (hT k h1)⟩) hV hp
section
variable {o : Oper} {a : Act} {w : World} {K : Act → World → Prop} {Q : Exit → Act → World → Prop} {E : Prop} {ops : Array Oper}
end
end
section
def Lay {α : Type} (P : List α → Prop) : Nat → List α → Prop
  | 0, acc => P acc
  | n + 1, acc => ∀ x, Lay P n (x :: acc)
end
section
open Go.RowKit
/-- From the last place on: what is kept stands as it was, else there is some x. -/
def LayM {α : Type} (P : List α → Prop) : List Bool → List α → List α → Prop
  | [], _, acc => P acc
  | _ :: _, [], acc => P acc
  | true :: m, v :: l, acc => LayM P m l (v :: acc)
  | false :: m, _ :: l, acc => ∀ x, LayM P m l (x :: acc)
theorem layM_of {α : Type} {P : List α → Prop} : ∀ (m : List Bool) (l0 l acc : List α), m.length = l0.length → l.length = l0.length → (∀ t : Nat, m[t]? = some true → l[t]? = l0[t]?) → LayM P m l0 acc → P (l.reverse ++ acc)
  | [], l0, l, acc, hm, hl, hk, h => by
    have : l0 = [] := List.eq_nil_of_length_eq_zero (by simpa using hm.symm)
    subst this
    have : l = [] := List.eq_nil_of_length_eq_zero (by simpa using hl)
    subst this
    exact h
  | b :: m, [], l, acc, hm, hl, hk, h => by simp at hm
  | b :: m, v0 :: l0, [], acc, hm, hl, hk, h => by simp at hl
  | b :: m, v0 :: l0, v :: l, acc, hm, hl, hk, h => by
    rw [List.reverse_cons, List.append_assoc]
    have hk' : ∀ t : Nat, m[t]? = some true → l[t]? = l0[t]? := fun t ht => by have := hk (t + 1) (by simpa using ht); simpa using this
    cases b with
    | true =>
      have h0 := hk 0 (by simp)
      simp at h0
      subst h0
      exact layM_of m l0 l _ (by simpa using hm) (by simpa using hl) hk' h
    | false => exact layM_of m l0 l _ (by simpa using hm) (by simpa using hl) hk' (h v)
theorem layM_rev {α : Type} {P : List α → Prop} (m : List Bool) {l0 l : List α} (hm : m.length = l0.length) (hl : l.length = l0.length) (hk : ∀ t : Nat, t < l0.length → m[t]? = some true → l[t]? = l0[t]?) (h : LayM P m.reverse l0.reverse []) : P l := by
  have := layM_of m.reverse l0.reverse l.reverse [] (by simpa using hm) (by simpa using hl) (fun t ht => by
    have hlt : t < m.length := by have := (List.getElem?_eq_some_iff.1 ht).1; simpa using this
    rw [List.getElem?_reverse (by omega)] at ht
    rw [List.getElem?_reverse (by omega), List.getElem?_reverse (by omega), hl]
    exact hk _ (by omega) (by rw [← hm]; exact ht)) h
  rwa [List.append_nil, List.reverse_reverse] at this
def maskOk (ops : Array Oper) (m : List Bool) : Bool := (List.range m.length).all (fun t => !(m.getD t false) || foreign ops t)
theorem slots_list {l : List Value} {df} (t : Nat) : slotsOf ⟨l.toArray, df⟩ t = (l[t]?).getD undef := by simp [slotsOf, Act.eval]
theorem lay_intro {ops : Array Oper} {a0 : Act} {df} {R : Act → Prop} (m : List Bool) (hm : (decide (m.length = a0.tmps.toList.length) && maskOk ops m) = true) (hdf : a0.defers = df)
    (h : LayM (fun l => R ⟨l.toArray, df⟩) m.reverse a0.tmps.toList.reverse []) : ∀ a : Act, a.tmps.size = a0.tmps.size → a.defers = a0.defers → (∀ t, foreign ops t = true → slotsOf a t = slotsOf a0 t) → R a := by
  intro a hs hd hk
  rw [Bool.and_eq_true] at hm
  have hm0 := of_decide_eq_true hm.1
  subst hdf
  obtain ⟨⟨l0⟩, d0⟩ := a0
  obtain ⟨⟨l⟩, d⟩ := a
  obtain rfl : d = d0 := hd
  have hl : l.length = l0.length := hs
  have hm1 : m.length = l0.length := hm0
  refine layM_rev (P := fun l => R ⟨l.toArray, d⟩) m hm0 hl (fun t hlt ht => ?_) h
  have hlt : t < l0.length := hlt
  have h1 := List.all_eq_true.1 hm.2 t (by simp; omega)
  rw [List.getD_eq_getElem?_getD, ht] at h1
  have h2 := hk t (by simpa using h1)
  rw [slots_list, slots_list, List.getElem?_eq_getElem (by omega), List.getElem?_eq_getElem (by omega)] at h2
  rw [List.getElem?_eq_getElem (by omega), List.getElem?_eq_getElem (by omega)]
  simpa using h2
end
end Go.Proofs.YteflipoiiddkfaaGreatDoor
