/- Words for what Go values say: a kind reads the cells of a value as data (K), or says that they were made and who owns the blocks behind them (O). No program in sight; and what goes with it. -/
import Derived.Test.YteflipoiiddkfaaGreatDoorMr1
import Derived.Below
import Derived.WalkKit
import Derived.OwnWalk
import Derived.Maps.AppendAt
import Derived.Deep.AppendLies
import Derived.Laws.AppendOwnNone
import Derived.Test.YteflipoiiddkfaaGreatDoorProg
import Derived.Laws.MakeOwn
import Derived.ChangeArms
import Derived.ChangeSlices
import Derived.DataReads
import Derived.Lib.AppendStr
import Derived.Laws.BitsAllLaws
import Derived.KernelRfl
import Derived.Orders
import Derived.Tactics
import Derived.Laws.IdiomStrings
import Derived.Deep.RegionHeld3
namespace Go.Proofs.YteflipoiiddkfaaGreatDoor
section
open Go.RowKit

/-- A fact kept from the walk. -/
structure Sec (p : Prop) : Prop where mk :: (out : p)

/-- Nothing that satisfies ok in w has turned, and it satisfies ok1. -/
def Keeps (w w1 : World) (ok ok1 : Nat → Prop) : Prop := ∀ k, ok k → k < w.heap.size → ok1 k ∧ w1.heap[k]? = w.heap[k]?
theorem Keeps.below {w w1 : World} (h : Below w.heap.size w w1) (ok : Nat → Prop) : Keeps w w1 ok ok := fun k hk hl => ⟨hk, h.block k hl⟩
theorem Keeps.mono {w : World} {ok ok1 : Nat → Prop} (h : ∀ k, ok k → k < w.heap.size → ok1 k) : Keeps w w ok ok1 := fun k hk hl => ⟨h k hk hl, rfl⟩

structure Kd (α : Type) where
  ty : TypeId
  sz : Nat
  K : World → (Nat → Prop) → α → List Value → Prop
  O : World → (Nat → Prop) → α → List Value → Prop
  K_len : ∀ {w ok x cs}, K w ok x cs → cs.length = sz
  K_one : ∀ {w ok x cs}, K w ok x cs → ∀ u ∈ cs, u.oneCell' = true
  K_move : ∀ {w w1 : World} {ok ok1 x cs}, Keeps w w1 ok ok1 → K w ok x cs → K w1 ok1 x cs
  O_K : ∀ {w S x cs}, O w S x cs → K w S x cs
  O_move : ∀ {w w1 : World} {S S1 x cs}, Keeps w w1 S S1 → O w S x cs → O w1 S1 x cs

theorem rb {a b : Bool} (h : a = b) : Ending.returned (.bool a) = Ending.returned (.bool b) := by rw [h]
theorem ri {k : IntKind} {a b : Int} (h : a = b) : Ending.returned (.int k a) = Ending.returned (.int k b) := by rw [h]

theorem bel {w w1 w2 : World} (h : Below w.heap.size w w1) (k : Below w1.heap.size w1 w2) : Below w.heap.size w w2 := h.trans (k.mono h.size)
theorem belA {w w1 : World} (h : Below w.heap.size w w1) (o : Obj) : Below w.heap.size w (w1.alloc o) := h.alloc h.size o
theorem belD {w w1 : World} (h : Below w.heap.size w w1) : Below w.heap.size w w1.drew := h.drew

namespace Kd
variable {α : Type}

/-- The elements of a row, read. -/
def E (d : Kd α) (w : World) (ok : Nat → Prop) (xs : List α) (cell : Nat → Option Value) : Prop :=
  ∀ i x, xs[i]? = some x → ∃ cs, d.K w ok x cs ∧ ∀ j u, cs[j]? = some u → cell (i * d.sz + j) = some u

/-- A slice's memory, read: n elements from A on. -/
def C (d : Kd α) (w : World) (ok : Nat → Prop) (A : Option Addr) (xs : List α) : Prop :=
  xs = [] ∨ ∃ b off, A = some ⟨b, off, none⟩ ∧ ok b ∧ d.E w ok xs (fun j => w.cell? ⟨b, off + j, none⟩)

/-- A slice value, read. -/
def V (d : Kd α) (w : World) (ok : Nat → Prop) (v : Value) (xs : List α) : Prop :=
  ∃ A c, v = .slice A xs.length c ∧ xs.length ≤ c ∧ c ≤ maxLen ∧ xs.length ≤ 1073741824 ∧ d.C w ok A xs ∧ (A = none → c = 0)

/-- The elements of a row, owned, each by itself. -/
def Os (d : Kd α) (w : World) : (Nat → Prop) → List α → List Value → Prop
  | _, [], cs => cs = []
  | S, x :: xs, cs => ∃ S1 S2 c0 c1, cs = c0 ++ c1 ∧ (∀ k, S1 k → S k ∧ ¬ S2 k) ∧ (∀ k, S2 k → S k) ∧ d.O w S1 x c0 ∧ Os d w S2 xs c1

/-- A slice value that was made, and who owns what. -/
def R (d : Kd α) (w : World) (S : Nat → Prop) (v : Value) (xs : List α) : Prop :=
  xs.length ≤ 1073741824 ∧ ((v = .slice none 0 0 ∧ xs = []) ∨
  ∃ b cap cur, v = .slice (some ⟨b, 0, none⟩) xs.length cap ∧ w.heap[b]? = some (.cells cur d.ty (0, 0)) ∧ S b ∧ xs.length ≤ cap ∧ cap ≤ maxLen ∧ cur.size = cap * d.sz ∧
    d.Os w (fun k => S k ∧ k ≠ b) xs (cur.toList.take (xs.length * d.sz)))

section
variable {d : Kd α} {w w1 : World} {ok ok1 S S1 : Nat → Prop} {A : Option Addr} {v : Value} {xs : List α} {x : α} {cs : List Value}

theorem K_mono (h : d.K w ok x cs) (hm : ∀ k, ok k → ok1 k) : d.K w ok1 x cs := d.K_move (Keeps.mono fun k hk _ => hm k hk) h
theorem K_below (h : d.K w ok x cs) (hb : Below w.heap.size w w1) : d.K w1 ok x cs := d.K_move (Keeps.below hb ok) h
theorem O_below (h : d.O w S x cs) (hb : Below w.heap.size w w1) : d.O w1 S x cs := d.O_move (Keeps.below hb S) h
theorem O_mono (h : d.O w S x cs) (hm : ∀ k, S k → k < w.heap.size → S1 k) : d.O w S1 x cs := d.O_move (Keeps.mono hm) h

theorem E_move (hk : Keeps w w1 ok ok1) {b off : Nat} (hb : ok b) (h : d.E w ok xs (fun j => w.cell? ⟨b, off + j, none⟩)) : d.E w1 ok1 xs (fun j => w1.cell? ⟨b, off + j, none⟩) := by
  intro i x hx
  obtain ⟨cs, h1, h2⟩ := h i x hx
  refine ⟨cs, d.K_move hk h1, fun j u hu => ?_⟩
  have h3 := h2 j u hu
  have hl := World.block_lt_of_cell? w _ h3
  exact (World.cell?_of_block (w := w) (w' := w1) (hk b hb hl).2).trans h3

theorem C_move (hk : Keeps w w1 ok ok1) (h : d.C w ok A xs) (hsz : 0 < d.sz) : d.C w1 ok1 A xs := by
  rcases h with h | ⟨b, off, hA, hb, hE⟩
  · exact .inl h
  · cases xs with
    | nil => exact .inl rfl
    | cons x r =>
      refine .inr ⟨b, off, hA, ?_, E_move hk hb hE⟩
      obtain ⟨cs, h1, h2⟩ := hE 0 x rfl
      have hlen := d.K_len h1
      have h3 := h2 0 cs[0] (List.getElem?_eq_getElem (by omega))
      exact (hk b hb (World.block_lt_of_cell? w _ h3)).1

theorem V_move (hk : Keeps w w1 ok ok1) (h : d.V w ok v xs) (hsz : 0 < d.sz) : d.V w1 ok1 v xs := by
  obtain ⟨A, c, h1, h2, h3, h4, h5, h6⟩ := h
  exact ⟨A, c, h1, h2, h3, h4, C_move hk h5 hsz, h6⟩

theorem Os_move : ∀ {xs : List α} {S S1 : Nat → Prop} {cs : List Value}, Keeps w w1 S S1 → d.Os w S xs cs → d.Os w1 S1 xs cs
  | [], _, _, _, _, h => h
  | x :: xs, S, S1, cs, hk, h => by
    obtain ⟨T1, T2, c0, c1, rfl, h1, h2, h3, h4⟩ := h
    exact ⟨fun k => T1 k ∧ k < w.heap.size, fun k => T2 k ∧ k < w.heap.size, c0, c1, rfl, fun k hk1 => ⟨(hk k (h1 k hk1.1).1 hk1.2).1, fun hk2 => (h1 k hk1.1).2 hk2.1⟩, fun k hk2 => (hk k (h2 k hk2.1) hk2.2).1,
      d.O_move (fun k hk1 hl => ⟨⟨hk1, hl⟩, (hk k (h1 k hk1).1 hl).2⟩) h3, Os_move (fun k hk1 hl => ⟨⟨hk1, hl⟩, (hk k (h2 k hk1) hl).2⟩) h4⟩

theorem R_move (hk : Keeps w w1 S S1) (h : d.R w S v xs) : d.R w1 S1 v xs := by
  obtain ⟨h0, h⟩ := h
  refine ⟨h0, ?_⟩
  rcases h with h | ⟨b, cap, cur, hv, hb, hS, h1, h2, h3, h4⟩
  · exact .inl h
  · have hl : b < w.heap.size := (Array.getElem?_eq_some_iff.1 hb).1
    obtain ⟨k1, k2⟩ := hk b hS hl
    exact .inr ⟨b, cap, cur, hv, k2.trans hb, k1, h1, h2, h3, Os_move (fun k hk1 hl1 => ⟨⟨(hk k hk1.1 hl1).1, hk1.2⟩, (hk k hk1.1 hl1).2⟩) h4⟩
theorem R_mono (h : d.R w S v xs) (hm : ∀ k, S k → k < w.heap.size → S1 k) : d.R w S1 v xs := R_move (Keeps.mono hm) h
theorem R_below (h : d.R w S v xs) (hb : Below w.heap.size w w1) : d.R w1 S v xs := R_move (Keeps.below hb S) h
theorem V_below (h : d.V w ok v xs) (hb : Below w.heap.size w w1) (hsz : 0 < d.sz) : d.V w1 ok v xs := V_move (Keeps.below hb ok) h hsz
theorem C_below (h : d.C w ok A xs) (hb : Below w.heap.size w w1) (hsz : 0 < d.sz) : d.C w1 ok A xs := C_move (Keeps.below hb ok) h hsz

theorem Os_get : ∀ {xs : List α} {S : Nat → Prop} {cs : List Value}, d.Os w S xs cs → ∀ i x, xs[i]? = some x → ∃ c, d.K w S x c ∧ ∀ j u, c[j]? = some u → cs[i * d.sz + j]? = some u
  | [], _, _, _, i, x, hx => by simp at hx
  | y :: xs, S, cs, h, i, x, hx => by
    obtain ⟨T1, T2, c0, c1, rfl, h1, h2, h3, h4⟩ := h
    have hl := d.K_len (d.O_K h3)
    cases i with
    | zero =>
      obtain rfl : y = x := by simpa using hx
      refine ⟨c0, K_mono (d.O_K h3) (fun k hk => (h1 k hk).1), fun j u hu => ?_⟩
      have : j < c0.length := (List.getElem?_eq_some_iff.1 hu).1
      rw [Nat.zero_mul, Nat.zero_add, List.getElem?_append_left this]; exact hu
    | succ i =>
      obtain ⟨c, g1, g2⟩ := Os_get h4 i x (by simpa using hx)
      refine ⟨c, K_mono g1 h2, fun j u hu => ?_⟩
      rw [List.getElem?_append_right (by rw [hl, Nat.succ_mul]; omega)]
      have : (i + 1) * d.sz + j - c0.length = i * d.sz + j := by rw [hl, Nat.succ_mul]; omega
      rw [this]; exact g2 j u hu

theorem Os_len : ∀ {xs : List α} {S : Nat → Prop} {cs : List Value}, d.Os w S xs cs → cs.length = xs.length * d.sz
  | [], _, _, h => by rw [show _ = [] from h]; simp
  | x :: xs, S, cs, h => by
    obtain ⟨T1, T2, c0, c1, rfl, h1, h2, h3, h4⟩ := h
    rw [List.length_append, Os_len h4, d.K_len (d.O_K h3), List.length_cons, Nat.succ_mul]; omega

/-- What was made reads. -/
theorem R_V (h : d.R w S v xs) : d.V w S v xs := by
  obtain ⟨h0, h⟩ := h
  rcases h with ⟨rfl, rfl⟩ | ⟨b, cap, cur, rfl, hb, hS, h1, h2, h3, h4⟩
  · exact ⟨none, 0, rfl, Nat.le_refl _, by simp [maxLen], h0, .inl rfl, fun _ => rfl⟩
  · refine ⟨_, cap, rfl, h1, h2, h0, .inr ⟨b, 0, rfl, hS, fun i x hx => ?_⟩, fun h => by cases h⟩
    obtain ⟨c, g1, g2⟩ := Os_get h4 i x hx
    refine ⟨c, K_mono g1 (fun k hk => hk.1), fun j u hu => ?_⟩
    have g3 := g2 j u hu
    rw [List.getElem?_take] at g3
    split at g3
    · show w.cell? ⟨b, 0 + (i * d.sz + j), none⟩ = some u
      rw [cell_of_row w b _ cur d.ty (0, 0) hb, Nat.zero_add]; simpa using g3
    · cases g3

theorem R_own (h : d.R w S v xs) : ∃ inner, w.ownsRow 0 d.ty d.sz v xs.length inner ∧ d.Os w (fun k => S k ∧ some k ≠ v.ownBlock) xs inner ∧ ∀ k, v.ownBlock = some k → S k ∧ k < w.heap.size := by
  obtain ⟨h0, h⟩ := h
  rcases h with ⟨rfl, rfl⟩ | ⟨b, cap, cur, rfl, hb, hS, h1, h2, h3, h4⟩
  · exact ⟨[], World.ownsRow_nil _ _ _ _, rfl, by simp [Value.ownBlock]⟩
  · refine ⟨cur.toList.take (xs.length * d.sz), ⟨Os_len h4, .inr ⟨b, cap, cur, rfl, Nat.zero_le _, hb, h1, h2, h3, rfl⟩⟩, ?_, ?_⟩
    · exact Os_move (Keeps.mono fun k hk _ => ⟨hk.1, by simp [Value.ownBlock]; exact hk.2⟩) h4
    · intro k hk
      simp [Value.ownBlock] at hk
      subst hk
      exact ⟨hS, (Array.getElem?_eq_some_iff.1 hb).1⟩

theorem R_of_own {inner : List Value} (ho : w.ownsRow 0 d.ty d.sz v xs.length inner) (hO : d.Os w (fun k => S k ∧ some k ≠ v.ownBlock) xs inner) (hS : ∀ k, v.ownBlock = some k → S k) (hl : xs.length ≤ 1073741824) : d.R w S v xs := by
  refine ⟨hl, ?_⟩
  rcases ho.2 with ⟨rfl, hn⟩ | ⟨g, cap, cur, rfl, _, hg, h1, h2, h3, h4⟩
  · exact .inl ⟨rfl, List.eq_nil_of_length_eq_zero hn⟩
  · refine .inr ⟨g, cap, cur, rfl, hg, hS g rfl, h1, h2, h3, ?_⟩
    rw [h4]
    exact Os_move (Keeps.mono fun k hk _ => ⟨hk.1, fun e => hk.2 (by simp [Value.ownBlock, e])⟩) hO

theorem Os_snoc : ∀ {xs : List α} {S : Nat → Prop} {cs : List Value} {x : α} {c : List Value} {S1 S2 : Nat → Prop}, d.Os w S xs cs → d.O w S1 x c → (∀ k, S1 k → ¬ S k) → (∀ k, S k → S2 k) → (∀ k, S1 k → S2 k) → d.Os w S2 (xs ++ [x]) (cs ++ c)
  | [], S, cs, x, c, S1, S2, h, hx, hd, h2, h3 => by
    rw [show cs = [] from h]
    exact ⟨S1, fun _ => False, c, [], by simp, fun k hk => ⟨h3 k hk, fun e => e⟩, fun k hk => hk.elim, hx, rfl⟩
  | y :: xs, S, cs, x, c, S1, S2, h, hx, hd, h2, h3 => by
    obtain ⟨T1, T2, c0, c1, rfl, g1, g2, g3, g4⟩ := h
    exact ⟨T1, fun k => T2 k ∨ S1 k, c0, c1 ++ c, by simp, fun k hk => ⟨h2 k (g1 k hk).1, fun e => e.elim (g1 k hk).2 (fun e => hd k e (g1 k hk).1)⟩, fun k hk => hk.elim (fun e => h2 k (g2 k e)) (h3 k),
      g3, Os_snoc g4 hx (fun k hk e => hd k hk (g2 k e)) (fun k hk => .inl hk) (fun k hk => .inr hk)⟩

/-- An append of one element: what the law of the kit leaves, said in R. -/
theorem R_appended {c : List Value} {v1 : Value} {inner : List Value} {Sx : Nat → Prop} {W : World}
    (hO : d.Os W (fun k => S k ∧ some k ≠ v.ownBlock) xs inner) (hS : ∀ k, v.ownBlock = some k → S k ∧ k < W.heap.size) (hx : d.O W Sx x c) (hd : ∀ k, Sx k → k < W.heap.size → ¬ S k)
    (hown : w1.ownsRow 0 d.ty d.sz v1 (xs.length + 1) (inner ++ c)) (hg : W.grownBy w1 v.ownBlock) (hat : v1.ownBlock = v.ownBlock ∨ ∃ b, v1.ownBlock = some b ∧ W.heap.size ≤ b) (hl : xs.length + 1 ≤ 1073741824) :
    d.R w1 (fun k => S k ∨ Sx k ∨ W.heap.size ≤ k) v1 (xs ++ [x]) := by
  have hne : ∀ k, k < W.heap.size → some k ≠ v.ownBlock → some k ≠ v1.ownBlock := by
    intro k hk h
    rcases hat with hat | ⟨b, hb, hle⟩
    · rw [hat]; exact h
    · rw [hb]; intro e; injection e with e; omega
  refine R_of_own (inner := inner ++ c) (by rw [List.length_append, List.length_singleton]; exact hown) ?_ ?_ (by rw [List.length_append, List.length_singleton]; exact hl)
  · refine Os_snoc (S := fun k => (S k ∧ some k ≠ v.ownBlock) ∧ k < W.heap.size) (S1 := fun k => Sx k ∧ k < W.heap.size) ?_ ?_ ?_ ?_ ?_
    · exact Os_move (fun k hk hlt => ⟨⟨hk, hlt⟩, hg.block k hlt hk.2⟩) hO
    · refine d.O_move (fun k hk hlt => ⟨⟨hk, hlt⟩, hg.block k hlt (fun e => ?_)⟩) hx
      exact hd k hk hlt (hS k e.symm).1
    · exact fun k hk e => hd k hk.1 hk.2 e.1.1
    · exact fun k hk => ⟨.inl hk.1.1, hne k hk.2 hk.1.2⟩
    · exact fun k hk => ⟨.inr (.inl hk.1), hne k hk.2 (fun e => hd k hk.1 hk.2 (hS k e.symm).1)⟩
  · intro k hk
    rcases hat with hat | ⟨b, hb, hle⟩
    · exact .inl (hS k (hat ▸ hk)).1
    · rw [hb] at hk; injection hk with hk; subst hk; exact .inr (.inr hle)
end

section
variable {P : Program} {ops : Array Oper} {rest : List Oper} {o : Oper} {a : Act} {Q : Exit → Act → World → Prop}
/-- append(v, x), behind 'at_builtin': W.alloc: the variadic's box of x's cells. -/
theorem R_append (d : Kd α) {W : World} (hgd : o.guard = none) (s x : Operand) (t : TypeId) (z : Value) (bytes : Nat)
    (ho : o.op = .call { callee := .builtin .append, args := #[s, x], argTypes := #[t, t] })
    (ht : P.underlying t = some (.slice d.ty)) (hinfo : (P.info? d.ty).map (fun i => (i.zero, i.size, i.bytes)) = some (some z, d.sz, bytes)) (hz : z.cells.size = d.sz) (hs0 : 0 < d.sz) (hb0 : bytes ≤ 256)
    (v : Value) (xs : List α) (p : α) (cs : List Value) (S Sx : Nat → Prop) (hs : a.eval s = v) (hx : a.eval x = .slice (some ⟨W.heap.size, 0, none⟩) 1 1) (HO : d.R W S v xs) (hp : d.O W Sx p cs) (hd : ∀ k, Sx k → k < W.heap.size → ¬ S k)
    (hl : xs.length + 1 ≤ 1073741824)
    (h : ∀ v1 w1, d.R w1 (fun k => S k ∨ Sx k ∨ W.heap.size ≤ k) v1 (xs ++ [p]) → W.grownBy w1 v.ownBlock → wpList P ops Q rest (a.put o.dst v1) w1) :
    wpList P ops Q (o :: rest) a (W.alloc (.cells cs.toArray d.ty)) := by
  obtain ⟨i0, hi, hzz⟩ := Option.map_eq_some_iff.1 hinfo
  simp only [Prod.mk.injEq] at hzz
  obtain ⟨hz0, hz1, hz2⟩ := hzz
  obtain ⟨inner, hown, hO, hS⟩ := R_own HO
  have hK := d.O_K hp
  have hb : (xs.length + 1) * bytes ≤ 140737488355328 := Nat.le_trans (Nat.mul_le_mul hl hb0) (by decide)
  refine wpList_append_own_at (W.alloc (.cells cs.toArray d.ty)) hgd s x t ho 0 d.ty i0 z d.sz bytes ht hi hz0 hz1 hz2 hz hs0 v xs.length inner hs (hown.alloc _) ⟨W.heap.size, 0, none⟩ 1 1 cs hx (by rw [d.K_len hK]; simp)
    (by simpa using World.news_of_block (cs := cs.toArray) (t := d.ty) (fr := (0, 0)) (heap_alloc_new W (.cells cs.toArray d.ty))) (d.K_one hK) (by simp only [maxLen]; omega) hb (Nat.zero_le _) ?_
  intro v1 w1 hown1 hg _ hat
  have hg1 := World.grownBy.trans (World.grownBy_alloc W _ _) hg
  refine h v1 w1 (R_appended hO hS hp hd hown1 hg1 ?_ hl) hg1
  rcases hat with hat | hat
  · exact .inl hat
  · exact .inr ⟨_, hat, by simp⟩
end

/-! #### the kinds -/
def scalar (α : Type) (ty : TypeId) (enc : α → Value) (p : α → Prop) (h1 : ∀ x, (enc x).oneCell' = true) : Kd α where
  ty := ty
  sz := 1
  K := fun _ _ x cs => cs = [enc x] ∧ p x
  O := fun _ _ x cs => cs = [enc x] ∧ p x
  K_len := fun h => by rw [h.1]; rfl
  K_one := fun h u hu => by
    rw [h.1] at hu
    rw [List.mem_singleton.1 hu]
    exact h1 _
  K_move := fun _ h => h
  O_K := fun h => h
  O_move := fun _ h => h
def int (ty : TypeId) : Kd Int := scalar Int ty (Value.int .i64) (fun _ => True) (fun _ => rfl)
def byte (ty : TypeId) : Kd UInt8 := scalar UInt8 ty (fun b => Value.int .u8 b.toNat) (fun _ => True) (fun _ => rfl)
def bool (ty : TypeId) : Kd Bool := scalar Bool ty Value.bool (fun _ => True) (fun _ => rfl)
def str (ty : TypeId) : Kd ByteArray := scalar ByteArray ty Value.string (fun s => s.size ≤ 1073741824) (fun _ => rfl)
theorem V_cells {d : Kd α} {w : World} {ok : Nat → Prop} {v : Value} {xs : List α} (h : d.V w ok v xs) : v.oneCell' = true := by
  obtain ⟨A, c, rfl, _⟩ := h
  rfl
/-- A slice of such elements; ty: the slice type's own number. -/
def slice (ty : TypeId) (d : Kd α) (hsz : 0 < d.sz) : Kd (List α) where
  ty := ty
  sz := 1
  K := fun w ok xs cs => ∃ v, cs = [v] ∧ d.V w ok v xs
  O := fun w S xs cs => ∃ v, cs = [v] ∧ d.R w S v xs
  K_len := by
    rintro w ok x cs ⟨v, rfl, _⟩
    rfl
  K_one := by
    rintro w ok x cs ⟨v, rfl, h⟩ u hu
    rw [List.mem_singleton.1 hu]
    exact V_cells h
  K_move := by
    rintro w w1 ok ok1 x cs hk ⟨v, rfl, h⟩
    exact ⟨v, rfl, V_move hk h hsz⟩
  O_K := by
    rintro w S x cs ⟨v, rfl, h⟩
    exact ⟨v, rfl, R_V h⟩
  O_move := by
    rintro w w1 S S1 x cs hk ⟨v, rfl, h⟩
    exact ⟨v, rfl, R_move hk h⟩
/-- Two in line. -/
def pair {α β : Type} (a : Kd α) (b : Kd β) : Kd (α × β) where
  ty := 0
  sz := a.sz + b.sz
  K := fun w ok x cs => ∃ c0 c1, cs = c0 ++ c1 ∧ a.K w ok x.1 c0 ∧ b.K w ok x.2 c1
  O := fun w S x cs => ∃ S1 S2 c0 c1, cs = c0 ++ c1 ∧ (∀ k, S1 k → S k ∧ ¬ S2 k) ∧ (∀ k, S2 k → S k) ∧ a.O w S1 x.1 c0 ∧ b.O w S2 x.2 c1
  K_len := by
    rintro w ok x cs ⟨c0, c1, rfl, h0, h1⟩
    rw [List.length_append, a.K_len h0, b.K_len h1]
  K_one := by
    rintro w ok x cs ⟨c0, c1, rfl, h0, h1⟩ u hu
    rcases List.mem_append.1 hu with hu | hu
    · exact a.K_one h0 u hu
    · exact b.K_one h1 u hu
  K_move := by
    rintro w w1 ok ok1 x cs hk ⟨c0, c1, rfl, h0, h1⟩
    exact ⟨c0, c1, rfl, a.K_move hk h0, b.K_move hk h1⟩
  O_K := by
    rintro w S x cs ⟨S1, S2, c0, c1, rfl, g1, g2, h0, h1⟩
    exact ⟨c0, c1, rfl, K_mono (a.O_K h0) (fun k hk => (g1 k hk).1), K_mono (b.O_K h1) g2⟩
  O_move := by
    rintro w w1 S S1 x cs hk ⟨T1, T2, c0, c1, rfl, g1, g2, h0, h1⟩
    exact ⟨fun k => T1 k ∧ k < w.heap.size, fun k => T2 k ∧ k < w.heap.size, c0, c1, rfl, fun k h => ⟨(hk k (g1 k h.1).1 h.2).1, fun e => (g1 k h.1).2 e.1⟩, fun k h => (hk k (g2 k h.1) h.2).1,
      a.O_move (fun k h hl => ⟨⟨h, hl⟩, (hk k (g1 k h).1 hl).2⟩) h0, b.O_move (fun k h hl => ⟨⟨h, hl⟩, (hk k (g2 k h) hl).2⟩) h1⟩
/-- A Lean structure by its fields; ty: the struct's own number. -/
def iso {α β : Type} (ty : TypeId) (d : Kd α) (f : β → α) : Kd β where
  ty := ty
  sz := d.sz
  K := fun w ok x cs => d.K w ok (f x) cs
  O := fun w S x cs => d.O w S (f x) cs
  K_len := d.K_len
  K_one := d.K_one
  K_move := d.K_move
  O_K := d.O_K
  O_move := d.O_move

/-! #### what is read of a row -/
section
variable {d : Kd α} {w w1 : World} {ok ok1 S S1 : Nat → Prop} {A : Option Addr} {v : Value} {xs : List α} {x : α} {cs : List Value}
theorem V_nil (d : Kd α) (w : World) (ok : Nat → Prop) : d.V w ok (.slice none 0 0) [] := ⟨none, 0, rfl, Nat.le_refl _, by simp [maxLen], by simp, .inl rfl, fun _ => rfl⟩
theorem R_nil (d : Kd α) (w : World) (S : Nat → Prop) : d.R w S (.slice none 0 0) [] := ⟨by simp, .inl ⟨rfl, rfl⟩⟩
theorem V_mono (h : d.V w ok v xs) (hm : ∀ k, ok k → ok1 k) (hsz : 0 < d.sz) : d.V w ok1 v xs := V_move (Keeps.mono fun k hk _ => hm k hk) h hsz
/-- Element i of a row. -/
theorem C_get (h : d.C w ok A xs) {i : Nat} (hx : xs[i]? = some x) : ∃ b off cs, A = some ⟨b, off, none⟩ ∧ ok b ∧ d.K w ok x cs ∧ ∀ j u, cs[j]? = some u → w.cell? ⟨b, off + (i * d.sz + j), none⟩ = some u := by
  rcases h with rfl | ⟨b, off, hA, hb, hE⟩
  · simp at hx
  · obtain ⟨cs, h1, h2⟩ := hE i x hx
    exact ⟨b, off, cs, hA, hb, h1, h2⟩
/-- A row's part: from m on. -/
theorem C_drop {b off : Nat} (h : d.C w ok (some ⟨b, off, none⟩) xs) (m : Nat) : d.C w ok (some ⟨b, off + m * d.sz, none⟩) (xs.drop m) := by
  rcases h with rfl | ⟨b', off', hA, hb, hE⟩
  · exact .inl (by simp)
  · simp only [Option.some.injEq, Addr.mk.injEq] at hA
    obtain ⟨rfl, rfl, _⟩ := hA
    refine .inr ⟨b, off + m * d.sz, rfl, hb, fun i x hx => ?_⟩
    rw [List.getElem?_drop] at hx
    obtain ⟨cs, h1, h2⟩ := hE _ x hx
    refine ⟨cs, h1, fun j u hu => ?_⟩
    have h3 := h2 j u hu
    have : off + m * d.sz + (i * d.sz + j) = off + ((m + i) * d.sz + j) := by rw [Nat.add_mul]; omega
    show w.cell? ⟨b, off + m * d.sz + (i * d.sz + j), none⟩ = _
    rw [this]; exact h3
theorem C_take (h : d.C w ok A xs) (m : Nat) : d.C w ok A (xs.take m) := by
  rcases h with rfl | ⟨b, off, hA, hb, hE⟩
  · exact .inl (by simp)
  · refine .inr ⟨b, off, hA, hb, fun i x hx => ?_⟩
    rw [List.getElem?_take] at hx
    split at hx
    · exact hE i x hx
    · cases hx
theorem C_addr (h : d.C w ok A xs) (hx : 0 < xs.length) : ∃ b off, A = some ⟨b, off, none⟩ := by
  rcases h with rfl | ⟨b, off, hA, _⟩
  · simp at hx
  · exact ⟨b, off, hA⟩
end

section
variable {P : Program} {ops : Array Oper} {rest : List Oper} {o : Oper} {a : Act} {Q : Exit → Act → World → Prop}
/-- append(v, x) onto a slice of the call's own (from w0 on), x made from wb on. -/
theorem R_app (d : Kd α) {w0 wb W : World} (hgd : o.guard = none) (s x : Operand) (t : TypeId) (z : Value) (bytes : Nat)
    (ho : o.op = .call { callee := .builtin .append, args := #[s, x], argTypes := #[t, t] })
    (ht : P.underlying t = some (.slice d.ty)) (hinfo : (P.info? d.ty).map (fun i => (i.zero, i.size, i.bytes)) = some (some z, d.sz, bytes)) (hz : z.cells.size = d.sz) (hs0 : 0 < d.sz) (hb0 : bytes ≤ 256)
    (v : Value) (xs : List α) (p : α) (cs : List Value) (hs : a.eval s = v) {N : Nat} (hx : a.eval x = .slice (some ⟨N, 0, none⟩) 1 1) (hN : N = W.heap.size) (HO : d.R wb (fun k => w0.heap.size ≤ k) v xs) (HB : Below w0.heap.size w0 wb) (hW : Below wb.heap.size wb W) (hp : d.O W (fun k => wb.heap.size ≤ k) p cs)
    (hl : xs.length + 1 ≤ 1073741824)
    (h : ∀ v1 w1, d.R w1 (fun k => w0.heap.size ≤ k) v1 (xs ++ [p]) → Below w0.heap.size w0 w1 → wpList P ops Q rest (a.put o.dst v1) w1) :
    wpList P ops Q (o :: rest) a (W.alloc (.cells cs.toArray d.ty)) := by
  subst hN
  have hm := R_mono HO (S1 := fun k => w0.heap.size ≤ k ∧ k < wb.heap.size) (fun k h1 h2 => ⟨h1, h2⟩)
  have hR := R_below hm hW
  refine R_append d hgd s x t z bytes ho ht hinfo hz hs0 hb0 v xs p cs _ _ hs hx hR hp (fun k h1 _ h2 => by omega) hl ?_
  intro v1 w1 hR1 hg
  have hsz := HB.size
  have hsW := hW.size
  refine h v1 w1 (R_mono hR1 (fun k hk _ => ?_)) ((HB.trans (hW.mono hsz)).grown hg (by omega) (fun k e => ?_))
  · rcases hk with hk | hk | hk <;> omega
  · obtain ⟨_, _, _, h3⟩ := R_own hR
    exact (h3 k e).1.1
end
section
variable {P : Program} {ops : Array Oper} {rest : List Oper} {o : Oper} {a : Act} {Q : Exit → Act → World → Prop}
end
theorem R_empty (d : Kd α) {w W : World} (h : w.heap.size ≤ W.heap.size) : d.R (W.alloc (.cells #[] d.ty)) (fun k => w.heap.size ≤ k) (.slice (some ⟨W.heap.size, 0, none⟩) 0 0) [] :=
  ⟨by simp, .inr ⟨W.heap.size, 0, #[], rfl, heap_alloc_new W _, h, Nat.le_refl _, by simp [maxLen], by simp, by simp [Os]⟩⟩
theorem V_C {d : Kd α} {w : World} {ok : Nat → Prop} {A : Option Addr} {n c : Nat} {xs : List α} (h : d.V w ok (.slice A n c) xs) : d.C w ok A xs := by
  obtain ⟨A', c', hv, _, _, _, hC, _⟩ := h
  simp only [Value.slice.injEq] at hv
  obtain ⟨rfl, _, _⟩ := hv
  exact hC
theorem R_block {d : Kd α} {w : World} {S : Nat → Prop} {A : Option Addr} {n c : Nat} {xs : List α} (h : d.R w S (.slice A n c) xs) (h0 : 0 < xs.length) : ∃ b, A = some ⟨b, 0, none⟩ ∧ n = xs.length ∧ S b ∧ b < w.heap.size ∧ (∀ j, w.frozen? ⟨b, j, none⟩ = false) := by
  obtain ⟨_, ⟨_, rfl⟩ | ⟨b, cap, cur, hv, hb, hS, _⟩⟩ := h
  · simp at h0
  · simp only [Value.slice.injEq] at hv
    obtain ⟨rfl, rfl, rfl⟩ := hv
    exact ⟨b, rfl, rfl, hS, (Array.getElem?_eq_some_iff.1 hb).1, fun j => by simp [World.frozen?, hb]⟩
theorem R_form {d : Kd α} {w : World} {S : Nat → Prop} {v : Value} {xs : List α} (h : d.R w S v xs) : ∃ A c, v = .slice A xs.length c ∧ xs.length ≤ c ∧ c ≤ maxLen := by
  obtain ⟨A, c, h1, h2, h3, _⟩ := R_V h
  exact ⟨A, c, h1, h2, h3⟩

/-! #### a row of one's own whose elements are read (they may share memory with others) -/
/-- The elements' cells, in line. -/
def Ks (d : Kd α) (w : World) (ok : Nat → Prop) : List α → List Value → Prop
  | [], cs => cs = []
  | x :: xs, cs => ∃ c0 c1, cs = c0 ++ c1 ∧ d.K w ok x c0 ∧ Ks d w ok xs c1
section
variable {d : Kd α} {w w1 : World} {ok ok1 S S1 : Nat → Prop} {A : Option Addr} {v : Value} {xs : List α} {x : α} {cs : List Value}
theorem Ks_move (hk : Keeps w w1 ok ok1) : ∀ {xs : List α} {cs : List Value}, d.Ks w ok xs cs → d.Ks w1 ok1 xs cs
  | [], _, h => h
  | x :: xs, cs, h => by
    obtain ⟨c0, c1, rfl, h1, h2⟩ := h
    exact ⟨c0, c1, rfl, d.K_move hk h1, Ks_move hk h2⟩
theorem Ks_len : ∀ {xs : List α} {cs : List Value}, d.Ks w ok xs cs → cs.length = xs.length * d.sz
  | [], _, h => by rw [show _ = [] from h]; simp
  | x :: xs, cs, h => by
    obtain ⟨c0, c1, rfl, h1, h2⟩ := h
    rw [List.length_append, Ks_len h2, d.K_len h1, List.length_cons, Nat.succ_mul]; omega
theorem Ks_one : ∀ {xs : List α} {cs : List Value}, d.Ks w ok xs cs → ∀ u ∈ cs, u.oneCell' = true
  | [], _, h => by rw [show _ = [] from h]; simp
  | x :: xs, cs, h => by
    obtain ⟨c0, c1, rfl, h1, h2⟩ := h
    intro u hu
    rcases List.mem_append.1 hu with hu | hu
    · exact d.K_one h1 u hu
    · exact Ks_one h2 u hu
theorem Ks_append : ∀ {xs ys : List α} {cs es : List Value}, d.Ks w ok xs cs → d.Ks w ok ys es → d.Ks w ok (xs ++ ys) (cs ++ es)
  | [], ys, cs, es, h, h' => by rw [show cs = [] from h]; exact h'
  | x :: xs, ys, cs, es, h, h' => by
    obtain ⟨c0, c1, rfl, h1, h2⟩ := h
    exact ⟨c0, c1 ++ es, by simp, h1, Ks_append h2 h'⟩
theorem Ks_get : ∀ {xs : List α} {cs : List Value}, d.Ks w ok xs cs → ∀ i x, xs[i]? = some x → ∃ c, d.K w ok x c ∧ ∀ j u, c[j]? = some u → cs[i * d.sz + j]? = some u
  | [], _, _, i, x, hx => by simp at hx
  | y :: xs, cs, h, i, x, hx => by
    obtain ⟨c0, c1, rfl, h3, h4⟩ := h
    have hl := d.K_len h3
    cases i with
    | zero =>
      obtain rfl : y = x := by simpa using hx
      refine ⟨c0, h3, fun j u hu => ?_⟩
      have : j < c0.length := (List.getElem?_eq_some_iff.1 hu).1
      rw [Nat.zero_mul, Nat.zero_add, List.getElem?_append_left this]; exact hu
    | succ i =>
      obtain ⟨c, g1, g2⟩ := Ks_get h4 i x (by simpa using hx)
      refine ⟨c, g1, fun j u hu => ?_⟩
      rw [List.getElem?_append_right (by rw [hl, Nat.succ_mul]; omega)]
      have : (i + 1) * d.sz + j - c0.length = i * d.sz + j := by rw [hl, Nat.succ_mul]; omega
      rw [this]; exact g2 j u hu
theorem Ks_take : ∀ {xs : List α} {cs : List Value} (m : Nat), d.Ks w ok xs cs → d.Ks w ok (xs.take m) (cs.take (m * d.sz))
  | [], cs, m, h => by rw [show cs = [] from h]; simp [Ks]
  | x :: xs, cs, 0, h => by simp [Ks]
  | x :: xs, cs, m + 1, h => by
    obtain ⟨c0, c1, rfl, h1, h2⟩ := h
    have hl := d.K_len h1
    refine ⟨c0, c1.take (m * d.sz), ?_, h1, Ks_take m h2⟩
    rw [Nat.succ_mul, List.take_append, List.take_of_length_le (by omega), hl, Nat.add_sub_cancel]
/-- The cells of a row that is read. -/
theorem C_Ks {b off : Nat} (h : d.C w ok (some ⟨b, off, none⟩) xs) : ∃ cs, d.Ks w ok xs cs ∧ ∀ j u, cs[j]? = some u → w.cell? ⟨b, off + j, none⟩ = some u := by
  induction xs generalizing off with
  | nil => exact ⟨[], rfl, fun j u hu => by simp at hu⟩
  | cons x xs ih =>
    have hd : d.C w ok (some ⟨b, off + 1 * d.sz, none⟩) xs := by simpa using C_drop h 1
    obtain ⟨c1, g1, g2⟩ := ih hd
    rcases h with h | ⟨b', off', hA, hb, hE⟩
    · cases h
    · simp only [Option.some.injEq, Addr.mk.injEq, and_true] at hA
      obtain ⟨rfl, rfl⟩ := hA
      obtain ⟨c0, h1, h2⟩ := hE 0 x rfl
      have hl := d.K_len h1
      refine ⟨c0 ++ c1, ⟨c0, c1, rfl, h1, g1⟩, fun j u hu => ?_⟩
      rw [List.getElem?_append] at hu
      split at hu
      · have := h2 j u hu; rwa [Nat.zero_mul, Nat.zero_add] at this
      · have := g2 _ u hu
        rw [show off + 1 * d.sz + (j - c0.length) = off + j from by omega] at this
        exact this

/-- A row of one's own: its array is one's own; its elements are read, and lie elsewhere. -/
def W (d : Kd α) (w : World) (S ok : Nat → Prop) (v : Value) (xs : List α) : Prop :=
  xs.length ≤ 1073741824 ∧ ((v = .slice none 0 0 ∧ xs = []) ∨
  ∃ b cap cur, v = .slice (some ⟨b, 0, none⟩) xs.length cap ∧ w.heap[b]? = some (.cells cur d.ty (0, 0)) ∧ S b ∧ xs.length ≤ cap ∧ cap ≤ maxLen ∧ cur.size = cap * d.sz ∧
    d.Ks w (fun k => ok k ∧ k ≠ b) xs (cur.toList.take (xs.length * d.sz)))
theorem W_move (hk : Keeps w w1 S S1) (hk2 : Keeps w w1 ok ok1) (h : d.W w S ok v xs) : d.W w1 S1 ok1 v xs := by
  obtain ⟨h0, h⟩ := h
  refine ⟨h0, ?_⟩
  rcases h with h | ⟨b, cap, cur, hv, hb, hS, h1, h2, h3, h4⟩
  · exact .inl h
  · have hl : b < w.heap.size := (Array.getElem?_eq_some_iff.1 hb).1
    obtain ⟨k1, k2⟩ := hk b hS hl
    exact .inr ⟨b, cap, cur, hv, k2.trans hb, k1, h1, h2, h3, Ks_move (fun k hk1 hl1 => ⟨⟨(hk2 k hk1.1 hl1).1, hk1.2⟩, (hk2 k hk1.1 hl1).2⟩) h4⟩
theorem W_nil (d : Kd α) (w : World) (S ok : Nat → Prop) : d.W w S ok (.slice none 0 0) [] := ⟨by simp, .inl ⟨rfl, rfl⟩⟩
theorem W_empty (d : Kd α) (w : World) (S ok : Nat → Prop) (hS : S w.heap.size) : d.W (w.alloc (.cells #[] d.ty)) S ok (.slice (some ⟨w.heap.size, 0, none⟩) 0 0) [] :=
  ⟨by simp, .inr ⟨w.heap.size, 0, #[], rfl, heap_alloc_new w _, hS, Nat.le_refl _, by simp [maxLen], by simp, by simp [Ks]⟩⟩
theorem W_form (h : d.W w S ok v xs) : ∃ A c, v = .slice A xs.length c ∧ xs.length ≤ c ∧ c ≤ maxLen ∧ (A = none → c = 0) := by
  obtain ⟨h0, ⟨rfl, rfl⟩ | ⟨b, cap, cur, rfl, hb, hS, h1, h2, h3, h4⟩⟩ := h
  · exact ⟨none, 0, rfl, Nat.le_refl _, by simp [maxLen], fun _ => rfl⟩
  · exact ⟨_, cap, rfl, h1, h2, fun h => by cases h⟩
theorem W_V (h : d.W w S ok v xs) : d.V w (fun k => S k ∨ ok k) v xs := by
  obtain ⟨h0, ⟨rfl, rfl⟩ | ⟨b, cap, cur, rfl, hb, hS, h1, h2, h3, h4⟩⟩ := h
  · exact ⟨none, 0, rfl, Nat.le_refl _, by simp [maxLen], h0, .inl rfl, fun _ => rfl⟩
  · refine ⟨_, cap, rfl, h1, h2, h0, .inr ⟨b, 0, rfl, .inl hS, fun i x hx => ?_⟩, fun h => by cases h⟩
    obtain ⟨c, g1, g2⟩ := Ks_get h4 i x hx
    refine ⟨c, K_mono g1 (fun k hk => .inr hk.1), fun j u hu => ?_⟩
    have g3 := g2 j u hu
    rw [List.getElem?_take] at g3
    split at g3
    · show w.cell? ⟨b, 0 + (i * d.sz + j), none⟩ = some u
      rw [cell_of_row w b _ cur d.ty (0, 0) hb, Nat.zero_add]; simpa using g3
    · cases g3
theorem W_own (h : d.W w S ok v xs) : ∃ inner, w.ownsRow 0 d.ty d.sz v xs.length inner ∧ d.Ks w (fun k => ok k ∧ some k ≠ v.ownBlock) xs inner ∧ ∀ k, v.ownBlock = some k → S k ∧ k < w.heap.size := by
  obtain ⟨h0, ⟨rfl, rfl⟩ | ⟨b, cap, cur, rfl, hb, hS, h1, h2, h3, h4⟩⟩ := h
  · exact ⟨[], World.ownsRow_nil _ _ _ _, rfl, by simp [Value.ownBlock]⟩
  · refine ⟨cur.toList.take (xs.length * d.sz), ⟨Ks_len h4, .inr ⟨b, cap, cur, rfl, Nat.zero_le _, hb, h1, h2, h3, rfl⟩⟩, Ks_move (Keeps.mono fun k hk _ => ⟨hk.1, by simp [Value.ownBlock]; exact hk.2⟩) h4, ?_⟩
    intro k hk
    simp [Value.ownBlock] at hk
    subst hk
    exact ⟨hS, (Array.getElem?_eq_some_iff.1 hb).1⟩
theorem W_of_own {inner : List Value} (ho : w.ownsRow 0 d.ty d.sz v xs.length inner) (hO : d.Ks w (fun k => ok k ∧ some k ≠ v.ownBlock) xs inner) (hS : ∀ k, v.ownBlock = some k → S k) (hl : xs.length ≤ 1073741824) : d.W w S ok v xs := by
  refine ⟨hl, ?_⟩
  rcases ho.2 with ⟨rfl, hn⟩ | ⟨g, cap, cur, rfl, _, hg, h1, h2, h3, h4⟩
  · exact .inl ⟨rfl, List.eq_nil_of_length_eq_zero hn⟩
  · refine .inr ⟨g, cap, cur, rfl, hg, hS g rfl, h1, h2, h3, ?_⟩
    rw [h4]
    exact Ks_move (Keeps.mono fun k hk _ => ⟨hk.1, fun e => hk.2 (by simp [Value.ownBlock, e])⟩) hO
/-- What an append leaves: 'ys' are read in W behind the row's own block. -/
theorem W_appended {W : World} {v1 : Value} {inner es : List Value} {ys : List α}
    (hO : d.Ks W (fun k => ok k ∧ some k ≠ v.ownBlock) xs inner) (hS : ∀ k, v.ownBlock = some k → S k ∧ k < W.heap.size) (hy : d.Ks W (fun k => ok k ∧ some k ≠ v.ownBlock) ys es)
    (hown : w1.ownsRow 0 d.ty d.sz v1 (xs.length + ys.length) (inner ++ es)) (hg : W.grownBy w1 v.ownBlock) (hat : v1.ownBlock = v.ownBlock ∨ ∃ b, v1.ownBlock = some b ∧ W.heap.size ≤ b) (hl : xs.length + ys.length ≤ 1073741824) :
    d.W w1 (fun k => S k ∨ W.heap.size ≤ k) (fun k => ok k) v1 (xs ++ ys) := by
  have hne : ∀ k, k < W.heap.size → some k ≠ v.ownBlock → some k ≠ v1.ownBlock := by
    intro k hk h
    rcases hat with hat | ⟨b, hb, hle⟩
    · rw [hat]; exact h
    · rw [hb]; intro e; injection e with e; omega
  have mv : Keeps W w1 (fun k => ok k ∧ some k ≠ v.ownBlock) (fun k => ok k ∧ some k ≠ v1.ownBlock) := fun k hk hlt => ⟨⟨hk.1, hne k hlt hk.2⟩, hg.block k hlt hk.2⟩
  refine W_of_own (inner := inner ++ es) (by rw [List.length_append]; exact hown) (Ks_append (Ks_move mv hO) (Ks_move mv hy)) ?_ (by rw [List.length_append]; exact hl)
  intro k hk
  rcases hat with hat | ⟨b, hb, hle⟩
  · exact .inl (hS k (hat ▸ hk)).1
  · rw [hb] at hk; injection hk with hk; subst hk; exact .inr hle
end
section
variable {P : Program} {ops : Array Oper} {rest : List Oper} {o : Oper} {a : Act} {Q : Exit → Act → World → Prop}
/-- append(v, y...) onto a row of one's own. -/
theorem W_cat (d : Kd α) {W : World} (hgd : o.guard = none) (s x : Operand) (t : TypeId) (z : Value) (bytes : Nat)
    (ho : o.op = .call { callee := .builtin .append, args := #[s, x], argTypes := #[t, t] })
    (ht : P.underlying t = some (.slice d.ty)) (hinfo : (P.info? d.ty).map (fun i => (i.zero, i.size, i.bytes)) = some (some z, d.sz, bytes)) (hz : z.cells.size = d.sz) (hs0 : 0 < d.sz) (hb0 : bytes ≤ 256)
    (v u : Value) (xs ys : List α) (S ok : Nat → Prop) (hs : a.eval s = v) (hx : a.eval x = u) (HO : d.W W S ok v xs) (hy : d.V W (fun k => ok k ∧ some k ≠ v.ownBlock) u ys)
    (hl : xs.length + ys.length ≤ 1073741824)
    (h : ∀ v1 w1, d.W w1 (fun k => S k ∨ W.heap.size ≤ k) ok v1 (xs ++ ys) → W.grownBy w1 v.ownBlock → wpList P ops Q rest (a.put o.dst v1) w1) :
    wpList P ops Q (o :: rest) a W := by
  obtain ⟨i0, hi, hzz⟩ := Option.map_eq_some_iff.1 hinfo
  simp only [Prod.mk.injEq] at hzz
  obtain ⟨hz0, hz1, hz2⟩ := hzz
  obtain ⟨inner, hown, hO, hS⟩ := W_own HO
  obtain ⟨A, c, rfl, hc1, hc2, hc3, hC, hc0⟩ := hy
  have hb : (xs.length + ys.length) * bytes ≤ 140737488355328 := Nat.le_trans (Nat.mul_le_mul hl hb0) (by decide)
  cases A with
  | none =>
    have h0 : ys = [] := by
      rcases hC with h0 | ⟨b, off, hA, _⟩
      · exact h0
      · cases hA
    subst h0
    obtain rfl := hc0 rfl
    refine wpList_append_own_none hgd s x t ho 0 d.ty i0 d.sz ht hi v xs.length inner hs hown hx ?_
    refine h v W ?_ ⟨rfl, rfl, rfl, Nat.le_refl _, fun _ _ _ => rfl⟩
    rw [List.append_nil]
    exact W_move (Keeps.mono fun k hk _ => .inl hk) (Keeps.mono fun k hk _ => hk) HO
  | some ad =>
    have hE : ∃ es, d.Ks W (fun k => ok k ∧ some k ≠ v.ownBlock) ys es ∧ ∀ j u, es[j]? = some u → W.cell? (ad.add j) = some u := by
      rcases hC with rfl | ⟨b, off, hA, hb, hE⟩
      · exact ⟨[], rfl, fun j u hu => by simp at hu⟩
      · have hA' := Option.some.inj hA
        subst hA'
        obtain ⟨es, g1, g2⟩ := C_Ks (.inr ⟨b, off, rfl, hb, hE⟩)
        refine ⟨es, g1, fun j u hu => ?_⟩
        have : (⟨b, off, none⟩ : Addr).add j = ⟨b, off + j, none⟩ := by unfold Addr.add; split <;> simp_all
        rw [this]; exact g2 j u hu
    obtain ⟨es, g1, g2⟩ := hE
    refine wpList_append_own_at W hgd s x t ho 0 d.ty i0 z d.sz bytes ht hi hz0 hz1 hz2 hz hs0 v xs.length inner hs hown ad ys.length c es hx (Ks_len g1) g2 (Ks_one g1) (by simp only [maxLen]; omega) hb (Nat.zero_le _) ?_
    intro v1 w1 hown1 hg _ hat
    refine h v1 w1 (W_appended hO hS g1 hown1 hg ?_ hl) hg
    rcases hat with hat | hat
    · exact .inl hat
    · exact .inr ⟨_, hat, Nat.le_refl _⟩
/-- append(v, x) onto a row of one's own. -/
theorem W_app (d : Kd α) {W : World} (hgd : o.guard = none) (s x : Operand) (t : TypeId) (z : Value) (bytes : Nat)
    (ho : o.op = .call { callee := .builtin .append, args := #[s, x], argTypes := #[t, t] })
    (ht : P.underlying t = some (.slice d.ty)) (hinfo : (P.info? d.ty).map (fun i => (i.zero, i.size, i.bytes)) = some (some z, d.sz, bytes)) (hz : z.cells.size = d.sz) (hs0 : 0 < d.sz) (hb0 : bytes ≤ 256)
    (v : Value) (xs : List α) (p : α) (cs : List Value) (S ok : Nat → Prop) (hs : a.eval s = v) {N : Nat} (hx : a.eval x = .slice (some ⟨N, 0, none⟩) 1 1) (hN : N = W.heap.size) (HO : d.W W S ok v xs) (hp : d.K W (fun k => ok k ∧ some k ≠ v.ownBlock) p cs)
    (hl : xs.length + 1 ≤ 1073741824)
    (h : ∀ v1 w1, d.W w1 (fun k => S k ∨ W.heap.size ≤ k) ok v1 (xs ++ [p]) → W.grownBy w1 v.ownBlock → wpList P ops Q rest (a.put o.dst v1) w1) :
    wpList P ops Q (o :: rest) a (W.alloc (.cells cs.toArray d.ty)) := by
  subst hN
  obtain ⟨i0, hi, hzz⟩ := Option.map_eq_some_iff.1 hinfo
  simp only [Prod.mk.injEq] at hzz
  obtain ⟨hz0, hz1, hz2⟩ := hzz
  obtain ⟨inner, hown, hO, hS⟩ := W_own HO
  have hb : (xs.length + 1) * bytes ≤ 140737488355328 := Nat.le_trans (Nat.mul_le_mul hl hb0) (by decide)
  refine wpList_append_own_at (W.alloc (.cells cs.toArray d.ty)) hgd s x t ho 0 d.ty i0 z d.sz bytes ht hi hz0 hz1 hz2 hz hs0 v xs.length inner hs (hown.alloc _) ⟨W.heap.size, 0, none⟩ 1 1 cs hx (by rw [d.K_len hp]; simp)
    (by simpa using World.news_of_block (cs := cs.toArray) (t := d.ty) (fr := (0, 0)) (heap_alloc_new W (.cells cs.toArray d.ty))) (d.K_one hp) (by simp only [maxLen]; omega) hb (Nat.zero_le _) ?_
  intro v1 w1 hown1 hg _ hat
  have hg1 := World.grownBy.trans (World.grownBy_alloc W _ _) hg
  refine h v1 w1 (W_appended (ys := [p]) hO hS ⟨cs, [], by simp, hp, rfl⟩ hown1 hg1 ?_ hl) hg1
  rcases hat with hat | hat
  · exact .inl hat
  · exact .inr ⟨_, hat, by simp⟩
end
end Kd
end
section
open Go.RowKit
def cellC (x : Cell) : List Value := [.int .i64 x.kind, .int .i64 x.n, .string x.name]
abbrev Cell.agg (x : Cell) : Value := .agg #[.int .i64 x.kind, .int .i64 x.n, .string x.name]
def kInt : Kd Int := Kd.int 3
def kByte : Kd UInt8 := Kd.byte 5
def kCell : Kd Cell := Kd.iso 77 (Kd.pair (Kd.int 3) (Kd.pair (Kd.int 3) (Kd.str 9))) (fun x : Cell => (x.kind, x.n, x.name))
theorem kCell_open {w : World} {ok : Nat → Prop} {x : Cell} {cs : List Value} (h : kCell.K w ok x cs) : cs = cellC x ∧ x.name.size ≤ 1073741824 := by
  obtain ⟨_, _, rfl, ⟨rfl, _⟩, ⟨_, _, rfl, ⟨rfl, _⟩, ⟨rfl, h⟩⟩⟩ := h
  exact ⟨rfl, h⟩
theorem kCell_mk (w : World) (S : Nat → Prop) (x : Cell) (h : x.name.size ≤ 1073741824) : kCell.O w S x (cellC x) :=
  ⟨fun _ => False, fun _ => False, [.int .i64 x.kind], [.int .i64 x.n, .string x.name], rfl, fun _ h => h.elim, fun _ h => h.elim, ⟨rfl, trivial⟩,
    fun _ => False, fun _ => False, [.int .i64 x.n], [.string x.name], rfl, fun _ h => h.elim, fun _ h => h.elim, ⟨rfl, trivial⟩, rfl, h⟩
theorem kCell_none (w : World) (x : Cell) (h : x.name.size ≤ 1073741824) : kCell.O w (fun _ => False) x [.int .i64 x.kind, .int .i64 x.n, .string x.name] := kCell_mk w _ x h
/-- Element i of a row of places, in the walk's spelling. -/
theorem cell_at {w : World} {ok : Nat → Prop} {A : Option Addr} {xs : Term} (h : kCell.C w ok A xs) (i : Nat) (hi : i < xs.length) : ∃ b off, A = some ⟨b, off, none⟩ ∧ ok b ∧
    w.cell? ⟨b, off + i * 3, none⟩ = some (.int .i64 xs[i].kind) ∧ w.cell? ⟨b, off + i * 3 + 1, none⟩ = some (.int .i64 xs[i].n) ∧ w.cell? ⟨b, off + i * 3 + 2, none⟩ = some (.string xs[i].name) ∧ xs[i].name.size ≤ 1073741824 := by
  obtain ⟨b, off, cs, hA, hb, hK, hc⟩ := Kd.C_get h (List.getElem?_eq_getElem hi)
  obtain ⟨rfl, hn⟩ := kCell_open hK
  exact ⟨b, off, hA, hb, hc 0 _ rfl, hc 1 _ rfl, hc 2 _ rfl, hn⟩

theorem kCell_Os {w : World} : ∀ {xs : Term} {S : Nat → Prop} {cs : List Value}, kCell.Os w S xs cs ↔ cs = xs.flatMap cellC ∧ ∀ x ∈ xs, x.name.size ≤ 1073741824
  | [], S, cs => by simp [Kd.Os]
  | x :: xs, S, cs => by
    constructor
    · rintro ⟨S1, S2, c0, c1, rfl, _, _, h1, h2⟩
      obtain ⟨rfl, hn⟩ := kCell_open (kCell.O_K h1)
      obtain ⟨rfl, hm⟩ := kCell_Os.1 h2
      exact ⟨rfl, fun y hy => by rcases List.mem_cons.1 hy with rfl | hy; exact hn; exact hm y hy⟩
    · rintro ⟨rfl, hm⟩
      exact ⟨fun _ => False, fun _ => False, cellC x, xs.flatMap cellC, rfl, fun _ h => h.elim, fun _ h => h.elim, kCell_mk w _ x (hm x List.mem_cons_self), kCell_Os.2 ⟨rfl, fun y hy => hm y (List.mem_cons_of_mem _ hy)⟩⟩
theorem flat_set (xs : Term) (i j : Nat) (x' : Cell) (u : Value) (hi : i < xs.length) (hj : j < 3) (h : cellC x' = (cellC xs[i]).set j u) : (xs.flatMap cellC).set (i * 3 + j) u = (xs.set i x').flatMap cellC := by
  induction xs generalizing i with
  | nil => simp at hi
  | cons x r ih =>
    cases i with
    | zero =>
      simp only [List.getElem_cons_zero] at h
      simp only [List.set_cons_zero, List.flatMap_cons, h]
      rw [List.set_append_left _ _ (by simp [cellC]; omega)]
      simp
    | succ i =>
      simp only [List.getElem_cons_succ] at h
      simp only [List.set_cons_succ, List.flatMap_cons]
      rw [List.set_append_right _ _ (by simp [cellC]; omega)]
      have e : (i + 1) * 3 + j - (cellC x).length = i * 3 + j := by simp [cellC]; omega
      rw [e, ih i (by simpa using hi) h]
theorem kCell_Ks {w : World} {ok : Nat → Prop} : ∀ {xs : Term} {cs : List Value}, kCell.Ks w ok xs cs → cs = xs.flatMap cellC ∧ ∀ x ∈ xs, x.name.size ≤ 1073741824
  | [], cs, h => ⟨h, by simp⟩
  | x :: xs, cs, h => by
    obtain ⟨c0, c1, rfl, h1, h2⟩ := h
    obtain ⟨rfl, hn⟩ := kCell_open h1
    obtain ⟨rfl, hm⟩ := kCell_Ks h2
    exact ⟨rfl, fun y hy => by rcases List.mem_cons.1 hy with rfl | hy; exact hn; exact hm y hy⟩
theorem kCell_W_R {w : World} {S ok : Nat → Prop} {v : Value} {xs : Term} (h : kCell.W w S ok v xs) : kCell.R w S v xs := by
  obtain ⟨h0, ⟨rfl, rfl⟩ | ⟨b, cap, cur, rfl, hb, hS, h1, h2, h3, h4⟩⟩ := h
  · exact ⟨h0, .inl ⟨rfl, rfl⟩⟩
  · exact ⟨h0, .inr ⟨b, cap, cur, rfl, hb, hS, h1, h2, h3, kCell_Os.2 (kCell_Ks h4)⟩⟩
/-- A field of an element of a row of one's own is written. -/
theorem kCell_store {w : World} {S : Nat → Prop} {b n cap : Nat} {t : Term} (h : kCell.R w S (.slice (some ⟨b, 0, none⟩) n cap) t) (i j : Nat) (x' : Cell) (u : Value) (hi : i < t.length) (hj : j < 3) (hx : cellC x' = (cellC t[i]).set j u) (hn : x'.name.size ≤ 1073741824) :
    kCell.R (w.setCell ⟨b, i * 3 + j, none⟩ u) S (.slice (some ⟨b, 0, none⟩) n cap) (t.set i x') := by
  obtain ⟨h0, h⟩ := h
  refine ⟨by rw [List.length_set]; exact h0, .inr ?_⟩
  rcases h with ⟨h, _⟩ | ⟨b', cap', cur, hv, hb, hS, h1, h2, h3, h4⟩
  · cases h
  · simp only [Value.slice.injEq, Option.some.injEq, Addr.mk.injEq, and_true] at hv
    obtain ⟨rfl, rfl, rfl⟩ := hv
    have hsz : kCell.sz = 3 := rfl
    rw [hsz] at h3 h4
    obtain ⟨e, hm⟩ := kCell_Os.1 h4
    refine ⟨b, cap, cur.setIfInBounds (i * 3 + j) u, by rw [List.length_set], ?_, hS, by rw [List.length_set]; exact h1, h2, by rw [hsz]; simp [h3], ?_⟩
    · simp only [World.setCell, Array.getElem?_modify, hb]; simp
    · refine kCell_Os.2 ⟨?_, fun y hy => ?_⟩
      · rw [List.length_set, hsz, ← flat_set t i j x' u hi hj hx, ← e, Array.toList_setIfInBounds, List.take_set]
      · rcases List.mem_or_eq_of_mem_set hy with hy | rfl
        · exact hm y hy
        · exact hn
end
section
open Go.RowKit
set_option linter.unusedVariables false
/-- Of what was there no more than the blocks in S has turned. -/
structure Foot (S : Nat → Prop) (w w' : World) : Prop where
  os : w'.os = w.os
  tape : w'.tape = w.tape
  output : w'.output = w.output
  size : w.heap.size ≤ w'.heap.size
  block : ∀ k, k < w.heap.size → ¬ S k → w'.heap[k]? = w.heap[k]?
theorem Foot.refl (S : Nat → Prop) (w : World) : Foot S w w := ⟨rfl, rfl, rfl, Nat.le_refl _, fun _ _ _ => rfl⟩
theorem Foot.of_below {S : Nat → Prop} {w w' : World} (h : Below w.heap.size w w') : Foot S w w' := ⟨h.os, h.tape, h.output, h.size, fun k hk _ => h.block k hk⟩
theorem Foot.trans {S S' : Nat → Prop} {a b c : World} (h : Foot S a b) (k : Foot S' b c) (hS : ∀ x, x < a.heap.size → S' x → S x) : Foot S a c :=
  ⟨k.os.trans h.os, k.tape.trans h.tape, k.output.trans h.output, Nat.le_trans h.size k.size, fun i hi hg => (k.block i (Nat.lt_of_lt_of_le hi h.size) (fun e => hg (hS i hi e))).trans (h.block i hi hg)⟩
theorem Foot.mono {S S' : Nat → Prop} {a b : World} (h : Foot S a b) (hS : ∀ x, S x → S' x) : Foot S' a b := ⟨h.os, h.tape, h.output, h.size, fun i hi hg => h.block i hi (fun e => hg (hS i e))⟩
theorem Foot.alloc {S : Nat → Prop} {a b : World} (h : Foot S a b) (o : Obj) : Foot S a (b.alloc o) := h.trans (Foot.of_below (S := S) (belA (Below.refl _ _) o)) (fun _ _ h => h)
theorem Foot.set {S : Nat → Prop} {a b : World} (h : Foot S a b) {g : Nat} (hg : S g ∨ a.heap.size ≤ g) (i : Nat) (u : Value) : Foot S a (b.setCell ⟨g, i, none⟩ u) :=
  ⟨h.os, h.tape, h.output, by have := h.size; simpa [World.setCell] using this, fun k hk hn => (Below.heap_setCell _ _ _ _ (by show k ≠ g; rintro rfl; rcases hg with hg | hg; exact hn hg; omega)).trans (h.block k hk hn)⟩
theorem Foot.keeps {S ok : Nat → Prop} {w w' : World} (h : Foot S w w') (hk : ∀ k, ok k → ¬ S k) : Keeps w w' ok ok := fun k h1 hl => ⟨h1, h.block k hl (hk k h1)⟩
theorem Foot.below {S : Nat → Prop} {w0 w w' : World} (h : Foot S w w') (hb : Below w0.heap.size w0 w) (hS : ∀ k, S k → w0.heap.size ≤ k) : Below w0.heap.size w0 w' :=
  hb.trans ⟨h.os, h.tape, h.output, h.size, fun k hk => h.block k (Nat.lt_of_lt_of_le hk hb.size) (fun e => by have := hS k e; omega)⟩
namespace Kd
variable {α : Type} {d : Kd α}
theorem Os_made {w : World} {x0 : α} {z : List Value} (h : d.O w (fun _ => False) x0 z) : ∀ n, d.Os w (fun _ => False) (List.replicate n x0) (List.replicate n z).flatten
  | 0 => by simp [Os]
  | n + 1 => by
    rw [List.replicate_succ, List.replicate_succ, List.flatten_cons]
    exact ⟨fun _ => False, fun _ => False, z, _, rfl, fun _ h => h.elim, fun _ h => h.elim, h, Os_made h n⟩
theorem made_toList (z : Array Value) (n : Nat) : (madeCells z (n * z.size)).toList = (List.replicate n z.toList).flatten := by
  induction n with
  | zero => simp [madeCells]
  | succ n ih =>
    rw [List.replicate_succ', List.flatten_append, ← ih]
    apply List.ext_getElem?
    intro i
    simp only [madeCells, Array.toList_map, Array.toList_range, List.getElem?_map, List.flatten_cons, List.flatten_nil, List.append_nil, List.getElem?_append, List.length_map, List.length_range]
    by_cases h1 : i < n * z.size
    · rw [if_pos h1, List.getElem?_range h1, List.getElem?_range (by rw [Nat.succ_mul]; omega)]
    · rw [if_neg h1]
      by_cases h2 : i < (n + 1) * z.size
      · have h3 : i - n * z.size < z.size := by rw [Nat.succ_mul] at h2; omega
        have h4 : i % z.size = i - n * z.size := by
          have : i = i - n * z.size + n * z.size := by omega
          rw [this, Nat.add_mul_mod_self_right, Nat.mod_eq_of_lt h3]
          omega
        rw [List.getElem?_range h2]
        simp only [Option.map_some, h4]
        rw [Array.getElem?_toList, Array.getElem?_eq_getElem h3]
        simp [h3]
      · rw [List.getElem?_eq_none (by simp; omega), List.getElem?_eq_none (by simp; rw [Nat.succ_mul] at h2; omega)]
        rfl
theorem R_made {w : World} {B : Nat} {x0 : α} {z : Array Value} {n : Nat} (h : ∀ w : World, d.O w (fun _ => False) x0 z.toList) (hz : z.size = d.sz) (hB : B ≤ w.heap.size) (hn : n ≤ 1073741824) :
    d.R (w.alloc (.cells (madeCells z (n * d.sz)) d.ty)) (fun k => B ≤ k) (.slice (some ⟨w.heap.size, 0, none⟩) n n) (List.replicate n x0) := by
  have hl : (List.replicate n x0).length = n := List.length_replicate
  refine ⟨by rw [hl]; exact hn, .inr ⟨w.heap.size, n, _, by rw [hl], heap_alloc_new w _, hB, by rw [hl]; exact Nat.le_refl _, by simp only [maxLen]; omega, size_madeCells _ _, ?_⟩⟩
  rw [hl, ← hz, made_toList, List.take_of_length_le (by rw [← made_toList, Array.length_toList, size_madeCells]; exact Nat.le_refl _)]
  exact Os_move (w := w) (fun k hk _ => hk.elim) (Os_made (h w) n)
end Kd
end
section
open Go.RowKit
set_option linter.unusedVariables false
universe u
/-- A kind that is read, of any size; wt: how much it holds. -/
structure Raw (α : Type) where
  ty : TypeId
  sz : Nat
  K : World → α → List Value → Prop
  wt : α → Nat
namespace Raw
variable {α β : Type}
def scalar (ty : TypeId) (enc : α → Value) (p : α → Prop) (wt : α → Nat) : Raw α := ⟨ty, 1, fun _ x cs => cs = [enc x] ∧ p x, wt⟩
def int (ty : TypeId) : Raw Int := scalar ty (Value.int .i64) (fun n => -9223372036854775808 ≤ n ∧ n ≤ 9223372036854775807) (fun _ => 0)
def byte (ty : TypeId) : Raw UInt8 := scalar ty (fun b => Value.int .u8 b.toNat) (fun _ => True) (fun _ => 0)
def bool (ty : TypeId) : Raw Bool := scalar ty Value.bool (fun _ => True) (fun _ => 0)
def str (ty : TypeId) : Raw ByteArray := scalar ty Value.string (fun s => s.size ≤ maxLen) (fun s => s.size)
def wts (r : Raw α) (xs : List α) : Nat := xs.length + (xs.map r.wt).sum
def C (r : Raw α) (w : World) (A : Option Addr) (xs : List α) : Prop := xs = [] ∨ ∃ b off, A = some ⟨b, off, none⟩ ∧ ∀ i x, xs[i]? = some x → ∃ cs, r.K w x cs ∧ ∀ j u, cs[j]? = some u → w.cell? ⟨b, off + (i * r.sz + j), none⟩ = some u
def V (r : Raw α) (w : World) (v : Value) (xs : List α) : Prop := ∃ A c, v = .slice A xs.length c ∧ xs.length ≤ c ∧ c ≤ maxLen ∧ r.C w A xs ∧ (A = none → c = 0)
def slice (ty : TypeId) (r : Raw α) : Raw (List α) := ⟨ty, 1, fun w xs cs => ∃ v, cs = [v] ∧ r.V w v xs, r.wts⟩
def pair (a : Raw α) (b : Raw β) : Raw (α × β) := ⟨0, a.sz + b.sz, fun w x cs => ∃ c0 c1, cs = c0 ++ c1 ∧ a.K w x.1 c0 ∧ b.K w x.2 c1, fun x => a.wt x.1 + b.wt x.2⟩
def iso (ty : TypeId) (d : Raw β) (f : α → β) : Raw α := ⟨ty, d.sz, fun w x cs => d.K w (f x) cs, fun x => d.wt (f x)⟩
/-- Element i of a row. -/
theorem C_get {r : Raw α} {w : World} {A : Option Addr} {xs : List α} (h : r.C w A xs) (i : Nat) (hi : i < xs.length) : ∃ b off cs, A = some ⟨b, off, none⟩ ∧ r.K w xs[i] cs ∧ ∀ j u, cs[j]? = some u → w.cell? ⟨b, off + (i * r.sz + j), none⟩ = some u := by
  rcases h with rfl | ⟨b, off, hA, hE⟩
  · simp at hi
  · obtain ⟨cs, h1, h2⟩ := hE i _ (List.getElem?_eq_getElem hi)
    exact ⟨b, off, cs, hA, h1, h2⟩
theorem cell_below {w w' : World} {a : Addr} {u : Value} (hb : Below w.heap.size w w') (h : w.cell? a = some u) : w'.cell? a = some u := by
  have hlt : a.block < w.heap.size := by
    simp only [World.cell?] at h
    cases hc : w.heap[a.block]? with
    | none => simp [hc] at h
    | some o => exact (Array.getElem?_eq_some_iff.1 hc).1
  exact (World.cell?_of_block (a := a) (hb.block a.block hlt)).trans h
/-- What is read stays as it is when more is made. -/
def Mono (r : Raw α) : Prop := ∀ (w w' : World) (x : α) (cs : List Value), Below w.heap.size w w' → r.K w x cs → r.K w' x cs
/-- What is left of a budget. -/
def spent (wt left : Nat) : Int := if wt ≤ left then (left : Int) - wt else -1
def Fits (r : Raw α) (d : Kd α) : Prop := r.sz = d.sz ∧ ∀ w x cs, r.K w x cs → r.wt x ≤ 1073741824 → d.K w (fun _ => True) x cs
def Opn (P : Program) (r : Raw α) : Prop := ∀ (H : Type) (enc : TypeId × Value → H) (w : World) (fuel : Nat) (cs : List Value) (x : DataW H × List MemPlace), DataW.trod enc P w 0 (fun _ => true) true fuel r.ty cs = some x → ∃ a, r.K w a cs ∧ cs.length = r.sz
def OpnF (P : Program) (r : Raw α) (off : Nat) (fs : List Field) : Prop := ∀ (H : Type) (enc : TypeId × Value → H) (w : World) (fuel : Nat) (cs : List Value), (∀ f ∈ fs, ∃ y, DataW.trod enc P w 0 (fun _ => true) true fuel f.type ((cs.drop f.offset).take (P.cellsOf f.type)) = some y) → ∃ a, r.K w a ((cs.drop off).take r.sz) ∧ off + r.sz ≤ cs.length
end Raw
end
section
open Go.RowKit
set_option linter.unusedVariables false
set_option maxRecDepth 100000
def u8 (n : Int) : UInt8 := UInt8.ofNat (n % 256).toNat
theorem u8_toNat (n : Int) : ((u8 n).toNat : Int) = n % 256 := by
  have h := Int.emod_nonneg n (show (256:Int) ≠ 0 by decide)
  have h2 := Int.emod_lt_of_pos n (show (0:Int) < 256 by decide)
  unfold u8
  rw [UInt8.toNat_ofNat']
  omega
theorem u8_wrap (n : Int) : ((u8 n).toNat : Int) = IntKind.u8.wrap n := by rw [IntKind.wrap_u8', u8_toNat]
theorem u8_of (b : UInt8) : u8 b.toNat = b := by
  apply UInt8.toNat_inj.1
  have := u8_toNat b.toNat
  have h2 := UInt8.toNat_lt b
  omega
theorem kByte_O (w : World) (S : Nat → Prop) (n : Int) : kByte.O w S (u8 n) [.int .u8 (IntKind.u8.wrap n)] := ⟨by show _ = [Value.int .u8 ((u8 n).toNat : Int)]; rw [u8_wrap], trivial⟩
theorem info_byte : (Tryz.prog.info? 5).map (fun i => (i.zero, i.size, i.bytes)) = some (some (.int .u8 0), 1, 1) := by kernel_rfl
def byteC (x : UInt8) : Value := .int .u8 x.toNat
theorem kByte_Ks {w : World} {ok : Nat → Prop} : ∀ {xs : List UInt8} {cs : List Value}, kByte.Ks w ok xs cs ↔ cs = xs.map byteC
  | [], cs => Iff.rfl
  | x :: xs, cs => by
    constructor
    · rintro ⟨c0, c1, rfl, ⟨rfl, _⟩, h2⟩
      rw [kByte_Ks.1 h2]; rfl
    · rintro rfl
      exact ⟨[byteC x], xs.map byteC, rfl, ⟨rfl, trivial⟩, kByte_Ks.2 rfl⟩
theorem kByte_Os {w : World} : ∀ {xs : List UInt8} {S : Nat → Prop} {cs : List Value}, kByte.Os w S xs cs ↔ cs = xs.map byteC
  | [], S, cs => by simp [Kd.Os]
  | x :: xs, S, cs => by
    constructor
    · rintro ⟨S1, S2, c0, c1, rfl, _, _, ⟨rfl, _⟩, h2⟩
      rw [kByte_Os.1 h2]; rfl
    · rintro rfl
      exact ⟨fun _ => False, fun _ => False, [byteC x], xs.map byteC, rfl, fun _ h => h.elim, fun _ h => h.elim, ⟨rfl, trivial⟩, kByte_Os.2 rfl⟩
theorem kByte_W_R {w : World} {S ok : Nat → Prop} {v : Value} {xs : List UInt8} (h : kByte.W w S ok v xs) : kByte.R w S v xs := by
  obtain ⟨h0, ⟨rfl, rfl⟩ | ⟨b, cap, cur, rfl, hb, hS, h1, h2, h3, h4⟩⟩ := h
  · exact ⟨h0, .inl ⟨rfl, rfl⟩⟩
  · exact ⟨h0, .inr ⟨b, cap, cur, rfl, hb, hS, h1, h2, h3, kByte_Os.2 (kByte_Ks.1 h4)⟩⟩
theorem kByte_R_W {w : World} {S : Nat → Prop} (ok : Nat → Prop) {v : Value} {xs : List UInt8} (h : kByte.R w S v xs) : kByte.W w S ok v xs := by
  obtain ⟨h0, ⟨rfl, rfl⟩ | ⟨b, cap, cur, rfl, hb, hS, h1, h2, h3, h4⟩⟩ := h
  · exact ⟨h0, .inl ⟨rfl, rfl⟩⟩
  · exact ⟨h0, .inr ⟨b, cap, cur, rfl, hb, hS, h1, h2, h3, kByte_Ks.2 (kByte_Os.1 h4)⟩⟩
theorem wp_only {P : Program} {o : Oper} {a : Act} {w : World} {K : Act → World → Prop} {Q Q' : Exit → Act → World → Prop} (hf : ∀ e a w, Q' e a w → e = .normal)
    (hh : o.wp P a w K Q') : o.wp P a w K Q := by
  unfold Oper.wp at *
  generalize (execOp a.eval o).run P w = r at *
  cases r with
  | ok n w' =>
    cases n <;> simp only [Oper.upon] at hh ⊢ <;>
      first
        | exact hh
        | exact Calls.mono hh (fun e w'' he => by
            cases e with
            | returned v => exact he
            | panicked c => cases hf _ _ _ he
            | outgrown => obtain ⟨a, w, h⟩ := he; cases hf _ _ _ h)
  | halt x w' =>
    cases x <;> simp only [Oper.upon] at hh ⊢
    all_goals first | exact hh | cases hf _ _ _ hh
/-- A law of the list's, as one step of a region that draws. -/
theorem step_of {P : Program} {ops : Array Oper} {o : Oper} {a : Act} {w : World} {K : Act → World → Prop} {Q : Exit → Act → World → Prop} {E : Prop} (hg : o.guard = none)
    (h : ∀ Q' : Exit → Act → World → Prop, (∀ a w, K a w → Q' .normal a w) → wpList P ops Q' [o] a w) : if Region.wanted o (yielded ops a.tmps) = true then Oper.wp P o a w K Q else E := by
  have hw : Region.wanted o (yielded ops a.tmps) = true := by simp [Region.wanted, hg]
  rw [if_pos hw]
  have h1 := h (fun e a w => e = .normal ∧ K a w) (fun a w hk => ⟨rfl, hk⟩)
  unfold wpList at h1
  rw [if_pos hw] at h1
  rcases h1 with h1 | ⟨_, a', w', h1, _⟩
  · exact wp_only (fun e a w h => h.1) (Oper.wp_mono (fun a w hk => hk.2) h1)
  · cases h1
section
variable {P : Program} {ops : Array Oper} {rest : List Oper} {o : Oper} {a : Act} {Q : Exit → Act → World → Prop}
/-- append(v, s...), s a string. -/
theorem B_str {B : Nat} {W : World} (hgd : o.guard = none) (s x : Operand) (t u : TypeId)
    (ho : o.op = .call { callee := .builtin .append, args := #[s, x], argTypes := #[t, u] })
    (ht : P.underlying t = some (.slice 5)) (hu : P.underlying u = some .string) (hinfo : (P.info? 5).map (fun i => (i.zero, i.size, i.bytes)) = some (some (.int .u8 0), 1, 1))
    (v : Value) (xs : List UInt8) (y : ByteArray) (hs : a.eval s = v) (hx : a.eval x = .string y) (HO : kByte.R W (fun k => B ≤ k) v xs) (hB : B ≤ W.heap.size)
    (hl : xs.length + y.size ≤ 1073741824)
    (h : ∀ v1 w1, kByte.R w1 (fun k => B ≤ k) v1 (xs ++ y.data.toList) → W.grownBy w1 v.ownBlock → (∀ k, v.ownBlock = some k → B ≤ k) → wpList P ops Q rest (a.put o.dst v1) w1) :
    wpList P ops Q (o :: rest) a W := by
  obtain ⟨i0, hi, hzz⟩ := Option.map_eq_some_iff.1 hinfo
  simp only [Prod.mk.injEq] at hzz
  obtain ⟨hz0, hz1, hz2⟩ := hzz
  obtain ⟨inner, hown, hO, h3⟩ := Kd.R_own HO
  obtain rfl := kByte_Os.1 hO
  have hown2 : W.ownsRow B 5 1 v xs.length (xs.map byteC) := by
    refine ⟨hown.1, ?_⟩
    rcases hown.2 with h | ⟨g, cap, cur, h⟩
    · exact .inl h
    · obtain ⟨rfl, _, h⟩ := h
      exact .inr ⟨g, cap, cur, rfl, (h3 g rfl).1, h⟩
  refine Lib.wpList_append_own_string W hgd s x t u ho B 5 i0 ht hu hi hz0 hz1 hz2 v xs.length (xs.map byteC) hs hown2 y hx (by simp only [maxLen]; omega) (by omega) hB ?_
  intro v1 w1 ho1 hg _
  have hl2 : (xs ++ y.data.toList).length = xs.length + y.size := by rw [List.length_append, Array.length_toList]; rfl
  refine h v1 w1 (Kd.R_of_own (inner := xs.map byteC ++ Lib.strCells y) ⟨?_, ?_⟩ ?_ ?_ (by rw [hl2]; exact hl)) hg (fun k e => (h3 k e).1)
  · rw [hl2]; exact ho1.1
  · rw [hl2]
    rcases ho1.2 with h | ⟨g, cap, cur, h⟩
    · exact .inl h
    · obtain ⟨rfl, _, h⟩ := h
      exact .inr ⟨g, cap, cur, rfl, Nat.zero_le _, h⟩
  · exact kByte_Os.2 (by rw [List.map_append]; rfl)
  · intro k e
    rcases ho1.2 with ⟨rfl, _⟩ | ⟨g, cap, cur, rfl, hb, _⟩
    · cases e
    · simp [Value.ownBlock] at e; subst e; exact hb
end
theorem kByte_new (W : World) (B : Nat) (hB : B ≤ W.heap.size) : ∀ ns : List Int, ns.length ≤ 1073741824 → kByte.R (W.alloc (.cells (ns.map (fun n => Value.int .u8 (IntKind.u8.wrap n))).toArray 5)) (fun k => B ≤ k) (.slice (some ⟨W.heap.size, 0, none⟩) ns.length ns.length) (ns.map u8) := fun ns hn => by
  refine ⟨by rw [List.length_map]; exact hn, .inr ⟨W.heap.size, ns.length, _, by rw [List.length_map], heap_alloc_new W _, hB, by rw [List.length_map]; exact Nat.le_refl _, by simp only [maxLen]; omega, by simp [kByte, Kd.byte, Kd.scalar], kByte_Os.2 ?_⟩⟩
  have e : (ns.map u8).length * kByte.sz = ns.length := by simp [kByte, Kd.byte, Kd.scalar]
  rw [e, List.map_map]
  rw [List.take_of_length_le (by simp)]
  simp only [byteC, u8_wrap, Function.comp_def]
/-- What a row that is grown leaves alone. -/
theorem grew {w w1 w2 : World} {r : Option Nat} (h : Below w.heap.size w w1) (hg : w1.grownBy w2 r) (hr : ∀ k, r = some k → w.heap.size ≤ k) : Below w.heap.size w w2 := h.grown hg h.size hr
end
section
open Go.RowKit
set_option linter.unusedVariables false
set_option maxRecDepth 100000
def zeroCell : Cell := ⟨0, 0, ⟨#[]⟩⟩
theorem made {P : Program} (t e : TypeId) (z : Value) (size bytes : Nat) (ht : P.underlying t = some (.slice e)) (hinfo : (P.info? e).map (fun i => (i.zero, i.size, i.bytes)) = some (some z, size, bytes)) (hb : bytes ≤ 1000) (n : Nat) (hn : n ≤ 1073741824) (w : World) :
    (Instr.makeSlice t (.int .i64 (n : Int)) (.int .i64 (n : Int))).run P w = .ok (.slice (some ⟨w.heap.size, 0, none⟩) n n) (w.alloc (.cells (madeCells z.cells (n * size)) e)) := by
  obtain ⟨i0, hi, hzz⟩ := Option.map_eq_some_iff.1 hinfo
  simp only [Prod.mk.injEq] at hzz
  obtain ⟨hz0, rfl, rfl⟩ := hzz
  have hbb : (i0.bytes : Int) * (n : Int) ≤ 281474976710656 := by
    have h1 : i0.bytes * n ≤ 1000 * 1073741824 := Nat.mul_le_mul hb hn
    have h2 : ((i0.bytes * n : Nat) : Int) ≤ 281474976710656 := by omega
    rwa [Int.natCast_mul] at h2
  have hr := run_make (P := P) w t e i0 z ht hi hz0 .i64 .i64 n n (by omega) (by omega) hbb (by omega)
  simp only [Int.toNat_natCast] at hr
  exact hr
theorem put_next {α : Type} (t : List α) (z : α) (k : Nat) (h : k < t.length) : (t.take k ++ List.replicate (t.length - k) z).set k t[k] = t.take (k + 1) ++ List.replicate (t.length - (k + 1)) z := by
  have e : t.length - k = (t.length - (k + 1)) + 1 := by omega
  rw [e, List.replicate_succ, List.set_append_right _ _ (by rw [List.length_take]; omega), List.length_take, Nat.min_eq_left (by omega), Nat.sub_self, List.set_cons_zero, List.take_succ_eq_append_getElem h, List.append_assoc]
  rfl
theorem toList_loop (s : ByteArray) : ∀ n i r, s.size - i = n → ByteArray.toList.loop s i r = r.reverse ++ s.data.toList.drop i
  | 0, i, r, h => by
    unfold ByteArray.toList.loop
    have h0 : ¬ i < s.size := by omega
    have : s.size = s.data.toList.length := by simp
    rw [if_neg h0, List.drop_of_length_le (by omega), List.append_nil]
  | n + 1, i, r, h => by
    unfold ByteArray.toList.loop
    have hi : i < s.size := by omega
    have hi2 : i < s.data.toList.length := by simpa using hi
    rw [if_pos hi, toList_loop s n (i + 1) _ (by omega), List.drop_eq_getElem_cons hi2, List.reverse_cons, List.append_assoc]
    have : s.get! i = s.data.toList[i] := by
      simp only [ByteArray.get!, Array.getElem_toList]
      exact getElem!_pos s.data i (by simpa using hi)
    rw [this]; rfl
theorem toList_data (s : ByteArray) : s.toList = s.data.toList := by
  show ByteArray.toList.loop s 0 [] = _
  rw [toList_loop s _ 0 [] rfl]; simp
theorem toList_inj {s t : ByteArray} : s.toList = t.toList ↔ s = t := by
  rw [toList_data, toList_data, Array.toList_inj]
  constructor
  · intro h; cases s; cases t; simp at h; simp [h]
  · rintro rfl; rfl
theorem eqCell_c (x y : Cell) (w : World) :
    Calls Tryz.prog 55 #[x.agg, y.agg] w fun e w' => e = .returned (.bool (decide (x = y))) ∧ Below w.heap.size w w' := by
  have hu := Tryz.underlying77
  have hxy := Cell.ext_iff x y
  by_cases h1 : x.kind = y.kind
  · have g1 : (x.kind == y.kind) = true := beq_iff_eq.2 h1
    by_cases h2 : x.n = y.n
    · have g2 : (x.n == y.n) = true := beq_iff_eq.2 h2
      by_cases h3 : x.name = y.name
      · have g3 : (x.name.toList == y.name.toList) = true := beq_iff_eq.2 (toList_inj.2 h3)
        have hd : Sec (decide (x = y) = true) := ⟨by rw [decide_eq_true_eq, hxy]; exact ⟨h1, h2, h3⟩⟩
        go_enter Tryz.func55, Tryz.ntmps55
        go_wp2
        go_ret
        exact ⟨rb hd.out.symm, belA (belA (Below.refl _ _) _) _⟩
      · have g3 : (x.name.toList == y.name.toList) = false := beq_eq_false_iff_ne.2 (fun h => h3 (toList_inj.1 h))
        have hd : Sec (decide (x = y) = false) := ⟨by rw [decide_eq_false_iff_not, hxy]; exact fun h => h3 h.2.2⟩
        go_enter Tryz.func55, Tryz.ntmps55
        go_wp2
        go_ret
        exact ⟨rb hd.out.symm, belA (belA (Below.refl _ _) _) _⟩
    · have g2 : (x.n == y.n) = false := beq_eq_false_iff_ne.2 h2
      have hd : Sec (decide (x = y) = false) := ⟨by rw [decide_eq_false_iff_not, hxy]; exact fun h => h2 h.2.1⟩
      go_enter Tryz.func55, Tryz.ntmps55
      go_wp2
      go_ret
      exact ⟨rb hd.out.symm, belA (belA (Below.refl _ _) _) _⟩
  · have g1 : (x.kind == y.kind) = false := beq_eq_false_iff_ne.2 h1
    have hd : Sec (decide (x = y) = false) := ⟨by rw [decide_eq_false_iff_not, hxy]; exact fun h => h1 h.1⟩
    go_enter Tryz.func55, Tryz.ntmps55
    go_wp2
    go_ret
    exact ⟨rb hd.out.symm, belA (belA (Below.refl _ _) _) _⟩
/-- A number's last digit. -/
def dig (n : Nat) : UInt8 := u8 (48 + (n : Int) % 10)
theorem dig_toNat (n : Nat) : ((dig n).toNat : Int) = 48 + (n : Int) % 10 := by unfold dig; rw [u8_toNat]; omega
theorem dig_str (n : Nat) (w : World) : (convert 28 9 (.slice (some ⟨w.heap.size, 0, none⟩) 1 1)).run Tryz.prog (w.alloc (.cells #[.int .u8 (48 + (n : Int) % 10)] 5)) = .ok (.string ⟨#[dig n]⟩) (w.alloc (.cells #[.int .u8 (48 + (n : Int) % 10)] 5)) := by
  refine run_convert_bytes_back _ 28 9 5 ⟨w.heap.size, 0, none⟩ 1 [dig n] Tryz.underlying28 (by kernel_rfl) (by kernel_rfl) (fun j hj => ?_)
  have hj0 : j = 0 := by simp at hj; omega
  subst hj0
  rw [show ([dig n][0]'hj) = dig n from rfl, dig_toNat]
  rw [show Addr.add ⟨w.heap.size, 0, none⟩ 0 = ⟨w.heap.size, 0, none⟩ from rfl, cell_of_row _ _ _ _ _ _ (heap_alloc_new w _)]
  rfl
/-- The letter m and a number's digits. -/
def mtd (n : Nat) (out : ByteArray) : ByteArray := if n = 0 then out else mtd (n / 10) (⟨#[dig n]⟩ ++ out)
termination_by n
decreasing_by omega
def mt (k : Int) : ByteArray := if k ≤ 0 then ⟨#[109, 48]⟩ else ⟨#[109]⟩ ++ mtd k.toNat ⟨#[]⟩
theorem pow10_step {n j : Nat} (h : n < 10 ^ j) (hn : 0 < n) : ∃ i, j = i + 1 ∧ n / 10 < 10 ^ i := by
  cases j with
  | zero => simp at h; omega
  | succ i => exact ⟨i, rfl, Nat.div_lt_of_lt_mul (by rw [Nat.pow_succ] at h; omega)⟩
theorem markText_c (k : Int) (hk : k ≤ 1000000000000000000) (w : World) :
    Calls Tryz.prog 56 #[.int .i64 k] w fun e w' => e = .returned (.string (mt k)) ∧ (mt k).size ≤ 1073741824 ∧ Below w.heap.size w w' := by
  by_cases h0 : k ≤ 0
  · have hm : Sec (mt k = ⟨#[109, 48]⟩) := ⟨if_pos h0⟩
    go_enter Tryz.func56, Tryz.ntmps56
    go_wp2
    go_ret
    exact ⟨by rw [hm.out]; rfl, by rw [hm.out]; decide, Below.refl _ _⟩
  · obtain ⟨n0, rfl⟩ : ∃ n : Nat, k = (n : Int) := ⟨k.toNat, by omega⟩
    have hm : Sec (mt n0 = ⟨#[109]⟩ ++ mtd n0 ⟨#[]⟩) := ⟨by unfold mt; rw [if_neg h0]; rfl⟩
    have hp0 : Sec (n0 < 10 ^ 19) := ⟨by omega⟩
    go_enter Tryz.func56, Tryz.ntmps56
    go_wp2
    go_loopw [0, 3] (fun kv ov wr => ∃ (n : Nat) (o : ByteArray), kv = .int .i64 n ∧ ov = .string o ∧ n ≤ 1000000000000000000 ∧ o.size ≤ 19 ∧ Sec (∃ j, n < 10 ^ j ∧ o.size + j ≤ 19) ∧ Sec (mtd n o = mtd n0 ⟨#[]⟩) ∧ Sec (Below w.heap.size w wr)) (fun kv _ _ => (intOf kv).toNat)
    case atStart => exact ⟨n0, ⟨#[]⟩, rfl, rfl, by omega, by decide, ⟨19, hp0.out, by decide⟩, ⟨rfl⟩, ⟨Below.refl _ _⟩⟩
    case round =>
      obtain ⟨n, o, rfl, rfl, hn, ho, hJ, hM, hb⟩ := hrel
      by_cases hp : n = 0
      · subst hp
        have hM2 : Sec (o = mtd n0 ⟨#[]⟩) := ⟨by rw [← hM.out]; unfold mtd; rfl⟩
        have ho2 : Sec (o.size ≤ 19) := ⟨ho⟩
        go_wp2
        go_ret
        exact ⟨by rw [hm.out, ← hM2.out]; rfl, by rw [hm.out, ← hM2.out, ByteArray.size_append]; have := ho2.out; show 1 + o.size ≤ _; omega, hb.out⟩
      · have hp2 : 0 < n := by omega
        have hM2 : Sec (mtd (n / 10) (⟨#[dig n]⟩ ++ o) = mtd n0 ⟨#[]⟩) := ⟨by rw [← hM.out]; conv => rhs; unfold mtd; rw [if_neg hp]⟩
        have hcv := dig_str n wr
        have hsz : (⟨#[dig n]⟩ : ByteArray).size = 1 := rfl
        have hsz2 : Sec ((⟨#[dig n]⟩ ++ o : ByteArray).size = 1 + o.size) := ⟨by rw [ByteArray.size_append]; rfl⟩
        have hJ2 : Sec ((∃ j, n / 10 < 10 ^ j ∧ (⟨#[dig n]⟩ ++ o : ByteArray).size + j ≤ 19) ∧ (⟨#[dig n]⟩ ++ o : ByteArray).size ≤ 19) := ⟨by
          obtain ⟨j, h1, h2⟩ := hJ.out
          obtain ⟨i, rfl, h3⟩ := pow10_step h1 hp2
          exact ⟨⟨i, h3, by rw [hsz2.out]; omega⟩, by rw [hsz2.out]; omega⟩⟩
        go_wp2
        go_roundw
        case rel => exact ⟨n / 10, ⟨#[dig n]⟩ ++ o, by go_num, rfl, by omega, hJ2.out.2, ⟨hJ2.out.1⟩, hM2, ⟨belA hb.out _⟩⟩
        case measure => simp [intOf]; omega
end
section
open Go.RowKit
set_option linter.unusedVariables false
set_option maxRecDepth 100000
def rCell : Raw Cell := Raw.iso 73 (Raw.pair (Raw.int 3) (Raw.pair (Raw.int 3) (Raw.str 9))) (fun x => (x.kind, x.n, x.name))
end
section
open Go.RowKit
set_option linter.unusedVariables false
set_option maxRecDepth 100000
theorem cells_in {w : World} {ok : Nat → Prop} {b off : Nat} {xs : Term} (h : kCell.C w ok (some ⟨b, off, none⟩) xs) (i : Nat) (hi : i < xs.length) :
    w.cell? ⟨b, off + i * 3, none⟩ = some (.int .i64 xs[i].kind) ∧ w.cell? ⟨b, off + i * 3 + 1, none⟩ = some (.int .i64 xs[i].n) ∧ w.cell? ⟨b, off + i * 3 + 2, none⟩ = some (.string xs[i].name) := by
  obtain ⟨b', off', hA, _, c0, c1, c2, _⟩ := cell_at h i hi
  simp only [Option.some.injEq, Addr.mk.injEq, and_true] at hA
  obtain ⟨rfl, rfl⟩ := hA
  exact ⟨c0, c1, c2⟩
theorem eqCells_c (v u : Value) (t s : Term) (ok ok' : Nat → Prop) (w : World) (hV : kCell.V w ok v t) (hU : kCell.V w ok' u s) :
    Calls Tryz.prog 31 #[v, u] w fun e w' => e = .returned (.bool (decide (t = s))) ∧ Below w.heap.size w w' := by
  obtain ⟨A, c, rfl, h1, h2, h3, hC, _⟩ := hV
  obtain ⟨B, d, rfl, k1, k2, k3, hD, _⟩ := hU
  have HC := Sec.mk hC
  have HD := Sec.mk hD
  clear hC hD
  have hu := Tryz.underlying77
  by_cases hl : t.length = s.length
  · rw [← hl]
    have HL := Sec.mk hl
    clear hl
    go_enter Tryz.func31, Tryz.ntmps31
    go_wp2
    go_loopw [5] (fun i wr => ∃ k : Nat, k ≤ t.length ∧ i = .int .i64 k ∧ Sec (t.take k = s.take k) ∧ Sec (Below w.heap.size w wr)) (fun i _ => t.length - (intOf i).toNat)
    case atStart => exact ⟨0, Nat.zero_le _, rfl, ⟨by simp⟩, ⟨Below.refl _ _⟩⟩
    case round =>
      obtain ⟨k, hk, rfl, hT, hb⟩ := hrel
      by_cases hlt : k < t.length
      · have hlt2 : k < s.length := by have := HL.out; omega
        obtain ⟨b, off, rfl, _, _, _, _, _⟩ := cell_at (Kd.C_below HC.out hb.out (by decide)) k hlt
        obtain ⟨b2, off2, rfl, _, _, _, _, _⟩ := cell_at (Kd.C_below HD.out hb.out (by decide)) k hlt2
        have hat : Sec (∀ W : World, Below w.heap.size w W → W.cell? ⟨b, off + k * 3, none⟩ = some (.int .i64 t[k].kind) ∧ W.cell? ⟨b, off + k * 3 + 1, none⟩ = some (.int .i64 t[k].n) ∧ W.cell? ⟨b, off + k * 3 + 2, none⟩ = some (.string t[k].name) ∧
            W.cell? ⟨b2, off2 + k * 3, none⟩ = some (.int .i64 s[k].kind) ∧ W.cell? ⟨b2, off2 + k * 3 + 1, none⟩ = some (.int .i64 s[k].n) ∧ W.cell? ⟨b2, off2 + k * 3 + 2, none⟩ = some (.string s[k].name)) := ⟨fun W h => by
          obtain ⟨x0, x1, x2⟩ := cells_in (Kd.C_below HC.out h (by decide)) k hlt
          obtain ⟨y0, y1, y2⟩ := cells_in (Kd.C_below HD.out h (by decide)) k hlt2
          exact ⟨x0, x1, x2, y0, y1, y2⟩⟩
        have hT1 : Sec (t[k] = s[k] → t.take (k + 1) = s.take (k + 1)) := ⟨fun e => by rw [List.take_succ_eq_append_getElem hlt, List.take_succ_eq_append_getElem hlt2, hT.out, e]⟩
        have hT2 : Sec (t = s → t[k] = s[k]) := ⟨fun e => by subst e; rfl⟩
        generalize t[k] = x at *
        generalize s[k] = y at *
        obtain ⟨x0, x1, x2, y0, y1, y2⟩ := hat.out _ hb.out
        have i0 : (0 : Int) ≤ (k : Int) := by omega
        have i1 : (k : Int) < (t.length : Int) := by omega
        obtain ⟨bb, hbb⟩ : ∃ bb, decide (x = y) = bb := ⟨_, rfl⟩
        have Hc : Sec (∀ W, Calls Tryz.prog 55 #[x.agg, y.agg] W fun e w' => e = .returned (.bool bb) ∧ Below W.heap.size W w') := ⟨fun W => by rw [← hbb]; exact eqCell_c x y W⟩
        have HBB := Sec.mk hbb
        clear hbb
        go_wp2
        go_region_held3 (fun W => W.cell? ⟨b, off + k * 3, none⟩ = some (.int .i64 x.kind) ∧ W.cell? ⟨b, off + k * 3 + 1, none⟩ = some (.int .i64 x.n) ∧ W.cell? ⟨b, off + k * 3 + 2, none⟩ = some (.string x.name) ∧
            W.cell? ⟨b2, off2 + k * 3, none⟩ = some (.int .i64 y.kind) ∧ W.cell? ⟨b2, off2 + k * 3 + 1, none⟩ = some (.int .i64 y.n) ∧ W.cell? ⟨b2, off2 + k * 3 + 2, none⟩ = some (.string y.name))
          (first | (refine ⟨?_, ?_, ?_, ?_, ?_, ?_⟩ <;> assumption) | go_keep)
          (first | (go_at_call 55; refine (Hc.out _).mono ?_; rintro e w1 ⟨rfl, hb1⟩; have B1 := Sec.mk (bel (belD hb.out) hb1); clear x0 x1 x2 y0 y1 y2; obtain ⟨x0, x1, x2, y0, y1, y2⟩ := hat.out _ B1.out; clear hb1))
        all_goals
          cases bb with
          | true =>
            have HE : Sec (t.take (k + 1) = s.take (k + 1)) := ⟨hT1.out (of_decide_eq_true HBB.out)⟩
            go_wp2
            go_roundw
            case rel => exact ⟨k + 1, by omega, by go_num, HE, B1⟩
            case measure => simp [intOf]; omega
          | false =>
            have HE : Sec (decide (t = s) = false) := ⟨decide_eq_false (fun e => of_decide_eq_false HBB.out (hT2.out e))⟩
            go_wp2
            go_ret
            exact ⟨rb HE.out.symm, B1.out⟩
      · have HE : Sec (decide (t = s) = true) := ⟨decide_eq_true (by have := hT.out; have h2 := HL.out; rwa [List.take_of_length_le (by omega), List.take_of_length_le (by omega)] at this)⟩
        go_wp2
        go_ret
        exact ⟨rb HE.out.symm, hb.out⟩
  · have hl' : ((t.length : Int) == (s.length : Int)) = false := beq_eq_false_iff_ne.2 (by omega)
    have HE : Sec (decide (t = s) = false) := ⟨decide_eq_false (fun e => hl (by rw [e]))⟩
    go_enter Tryz.func31, Tryz.ntmps31
    go_wp2
    go_ret
    exact ⟨rb HE.out.symm, Below.refl _ _⟩
def mkCell (k : Int) : Cell := ⟨k, k + 1, mt (k + 2)⟩
/-- A row of places marked, from a number on. -/
def mkCells : Term → Int → Term
  | [], _ => []
  | _ :: t, k => mkCell k :: mkCells t (k + 3)
end
section
open Go.RowKit
set_option linter.unusedVariables false
namespace Kd
variable {α β γ : Type}
/-- Of the kind d a field of the kind e, j cells in. -/
structure Fld (d : Kd α) (e : Kd β) (j : Nat) (get : α → β) (put : α → β → α) : Prop where
  opn : ∀ {w : World} {S : Nat → Prop} {x : α} {c : List Value}, d.O w S x c → ∃ (S1 S2 : Nat → Prop) (c0 c1 c2 : List Value), c = c0 ++ (c1 ++ c2) ∧ c0.length = j ∧ (∀ k, S1 k → S k ∧ ¬ S2 k) ∧ (∀ k, S2 k → S k) ∧ e.O w S1 (get x) c1 ∧
    ∀ (w' : World) (y : β) (c1' : List Value), Keeps w w' S2 S2 → e.O w' S1 y c1' → d.O w' S (put x y) (c0 ++ (c1' ++ c2))
theorem Fld.self (d : Kd α) : Fld d d 0 (fun x => x) (fun _ y => y) := ⟨fun {w S x c} h => ⟨S, fun _ => False, [], c, [], by simp, rfl, fun k hk => ⟨hk, id⟩, fun k hk => hk.elim, h, fun w' y c1' _ hO => by simpa using hO⟩⟩
theorem Fld.fst {a : Kd α} {b : Kd β} {e : Kd γ} {j : Nat} {get : α → γ} {put : α → γ → α} (F : Fld a e j get put) : Fld (pair a b) e j (fun x => get x.1) (fun x y => (put x.1 y, x.2)) := ⟨fun {w S x c} h => by
  obtain ⟨T1, T2, d0, d1, rfl, g1, g2, h0, h1⟩ := h
  obtain ⟨S1, S2, c0, c1, c2, rfl, hl, k1, k2, hO, hback⟩ := F.opn h0
  refine ⟨fun k => S1 k ∧ k < w.heap.size, fun k => (S2 k ∨ T2 k) ∧ k < w.heap.size, c0, c1, c2 ++ d1, by simp, hl, fun k hk => ⟨(g1 k (k1 k hk.1).1).1, fun e => e.1.elim (k1 k hk.1).2 (g1 k (k1 k hk.1).1).2⟩, fun k hk => hk.1.elim (fun e => (g1 k (k2 k e)).1) (g2 k), e.O_mono hO (fun k hk hl => ⟨hk, hl⟩), fun w' y c1' hk hO' => ?_⟩
  refine ⟨T1, fun k => T2 k ∧ k < w.heap.size, c0 ++ (c1' ++ c2), d1, by simp, fun k hk => ⟨(g1 k hk).1, fun e => (g1 k hk).2 e.1⟩, fun k hk => g2 k hk.1, ?_, ?_⟩
  · exact hback w' y c1' (fun k h1 h2 => ⟨h1, (hk k ⟨.inl h1, h2⟩ h2).2⟩) (e.O_mono hO' (fun k hk _ => hk.1))
  · exact b.O_move (fun k h1 h2 => ⟨⟨h1, h2⟩, (hk k ⟨.inr h1, h2⟩ h2).2⟩) h1⟩
theorem Fld.snd {a : Kd α} {b : Kd β} {e : Kd γ} {j : Nat} {get : β → γ} {put : β → γ → β} (F : Fld b e j get put) : Fld (pair a b) e (a.sz + j) (fun x => get x.2) (fun x y => (x.1, put x.2 y)) := ⟨fun {w S x c} h => by
  obtain ⟨T1, T2, d0, d1, rfl, g1, g2, h0, h1⟩ := h
  obtain ⟨S1, S2, c0, c1, c2, rfl, hl, k1, k2, hO, hback⟩ := F.opn h1
  refine ⟨fun k => S1 k ∧ k < w.heap.size, fun k => (S2 k ∨ T1 k) ∧ k < w.heap.size, d0 ++ c0, c1, c2, by simp, by rw [List.length_append, a.K_len (a.O_K h0), hl], fun k hk => ⟨g2 k (k1 k hk.1).1, fun e => e.1.elim (k1 k hk.1).2 (fun e => (g1 k e).2 (k1 k hk.1).1)⟩, fun k hk => hk.1.elim (fun e => g2 k (k2 k e)) (fun e => (g1 k e).1), e.O_mono hO (fun k hk hl => ⟨hk, hl⟩), fun w' y c1' hk hO' => ?_⟩
  refine ⟨fun k => T1 k ∧ k < w.heap.size, T2, d0, c0 ++ (c1' ++ c2), by simp, fun k hk => g1 k hk.1, g2, ?_, ?_⟩
  · exact a.O_move (fun k h1 h2 => ⟨⟨h1, h2⟩, (hk k ⟨.inr h1, h2⟩ h2).2⟩) h0
  · exact hback w' y c1' (fun k h1 h2 => ⟨h1, (hk k ⟨.inl h1, h2⟩ h2).2⟩) (e.O_mono hO' (fun k hk _ => hk.1))⟩
theorem Fld.iso {d : Kd β} {e : Kd γ} {j : Nat} {get : β → γ} {put : β → γ → β} (t : TypeId) {f : α → β} {put' : α → γ → α} (F : Fld d e j get put) (h : ∀ x y, f (put' x y) = put (f x) y) : Fld (Kd.iso t d f) e j (fun x => get (f x)) put' := ⟨fun {w S x c} hx => by
  obtain ⟨S1, S2, c0, c1, c2, rfl, hl, k1, k2, hO, hback⟩ := F.opn (w := w) (S := S) (x := f x) hx
  refine ⟨S1, S2, c0, c1, c2, rfl, hl, k1, k2, hO, fun w' y c1' hk hO' => ?_⟩
  have := hback w' y c1' hk hO'
  rw [← h] at this
  exact this⟩
variable {d : Kd α} {e : Kd β}
/-- An element of a row of one's own, by itself. -/
theorem Os_focus {w : World} : ∀ {xs : List α} {S : Nat → Prop} {cs : List Value} (i : Nat) (hi : i < xs.length), d.Os w S xs cs → ∃ (S1 S2 : Nat → Prop) (c : List Value), d.O w S1 xs[i] c ∧ (∀ k, S1 k → S k ∧ ¬ S2 k) ∧ (∀ k, S2 k → S k) ∧ (∀ m u, c[m]? = some u → cs[i * d.sz + m]? = some u) ∧
    ∀ (w' : World) (x : α) (c' : List Value), Keeps w w' S2 S2 → d.O w' S1 x c' → d.Os w' S (xs.set i x) (cs.take (i * d.sz) ++ (c' ++ cs.drop (i * d.sz + d.sz)))
  | [], S, cs, i, hi, h => by simp at hi
  | y :: xs, S, cs, 0, hi, h => by
    obtain ⟨T1, T2, c0, c1, rfl, g1, g2, h1, h2⟩ := h
    have hl : c0.length = d.sz := d.K_len (d.O_K h1)
    refine ⟨fun k => T1 k ∧ k < w.heap.size, fun k => T2 k ∧ k < w.heap.size, c0, d.O_mono h1 (fun k hk hl => ⟨hk, hl⟩), fun k hk => ⟨(g1 k hk.1).1, fun e => (g1 k hk.1).2 e.1⟩, fun k hk => g2 k hk.1, fun m u hm => ?_, fun w' x c' hk hO => ?_⟩
    · have : m < c0.length := (List.getElem?_eq_some_iff.1 hm).1
      rw [Nat.zero_mul, Nat.zero_add, List.getElem?_append_left this]; exact hm
    · rw [Nat.zero_mul, List.take_zero, List.nil_append, Nat.zero_add, List.drop_left' hl, List.set_cons_zero]
      exact ⟨T1, fun k => T2 k ∧ k < w.heap.size, c', c1, rfl, fun k hk => ⟨(g1 k hk).1, fun e => (g1 k hk).2 e.1⟩, fun k hk => g2 k hk.1, d.O_mono hO (fun k hk _ => hk.1), Os_move (fun k h1 h2 => ⟨⟨h1, h2⟩, (hk k ⟨h1, h2⟩ h2).2⟩) h2⟩
  | y :: xs, S, cs, i + 1, hi, h => by
    obtain ⟨T1, T2, c0, c1, rfl, g1, g2, h1, h2⟩ := h
    have hl : c0.length = d.sz := d.K_len (d.O_K h1)
    obtain ⟨S1, S2, c, hO, k1, k2, hc, hback⟩ := Os_focus i (by simpa using hi) h2
    refine ⟨fun k => S1 k ∧ k < w.heap.size, fun k => (S2 k ∨ T1 k) ∧ k < w.heap.size, c, by simpa using d.O_mono hO (fun k hk hl => ⟨hk, hl⟩), fun k hk => ⟨g2 k (k1 k hk.1).1, fun e => e.1.elim (k1 k hk.1).2 (fun e => (g1 k e).2 (k1 k hk.1).1)⟩, fun k hk => hk.1.elim (fun e => g2 k (k2 k e)) (fun e => (g1 k e).1), fun m u hm => ?_, fun w' x c' hk hO' => ?_⟩
    · rw [List.getElem?_append_right (by rw [hl, Nat.succ_mul]; omega)]
      have : (i + 1) * d.sz + m - c0.length = i * d.sz + m := by rw [hl, Nat.succ_mul]; omega
      rw [this]; exact hc m u hm
    · have ih := hback w' x c' (fun k h1 h2 => ⟨h1, (hk k ⟨.inl h1, h2⟩ h2).2⟩) (d.O_mono hO' (fun k hk _ => hk.1))
      refine ⟨fun k => T1 k ∧ k < w.heap.size, T2, c0, _, ?_, fun k hk => g1 k hk.1, g2, d.O_move (fun k h1 h2 => ⟨⟨h1, h2⟩, (hk k ⟨.inr h1, h2⟩ h2).2⟩) h1, ih⟩
      have e1 : (i + 1) * d.sz = d.sz + i * d.sz := by rw [Nat.succ_mul, Nat.add_comm]
      rw [e1, List.take_append, List.drop_append, hl]
      have e2 : d.sz + i * d.sz - d.sz = i * d.sz := by omega
      have e3 : d.sz + i * d.sz + d.sz - d.sz = i * d.sz + d.sz := by omega
      rw [e2, e3, List.take_of_length_le (by omega), List.drop_of_length_le (l := c0) (by omega)]
      simp [List.append_assoc]
/-- Of a row L of one's own element i is x by now, and lies in the cells cs. -/
def At (d : Kd α) (w : World) (S : Nat → Prop) (b n cap : Nat) (L : List α) (i : Nat) (x : α) (cs : List Value) : Prop :=
  n = L.length ∧ L.length ≤ 1073741824 ∧ i < L.length ∧ L.length ≤ cap ∧ cap ≤ maxLen ∧ S b ∧ ∃ (cur : Array Value) (S1 S2 : Nat → Prop) (ds : List Value), w.heap[b]? = some (.cells cur d.ty (0, 0)) ∧ cur.size = cap * d.sz ∧ (∀ k, S1 k → (S k ∧ k ≠ b) ∧ ¬ S2 k) ∧ (∀ k, S2 k → S k ∧ k ≠ b) ∧
    d.O w S1 x cs ∧ cur.toList.take (L.length * d.sz) = ds.take (i * d.sz) ++ (cs ++ ds.drop (i * d.sz + d.sz)) ∧ ds.length = L.length * d.sz ∧
    ∀ (w' : World) (y : α) (c' : List Value), Keeps w w' S2 S2 → d.O w' S1 y c' → d.Os w' (fun k => S k ∧ k ≠ b) (L.set i y) (ds.take (i * d.sz) ++ (c' ++ ds.drop (i * d.sz + d.sz)))
theorem At.of_R {w : World} {S : Nat → Prop} {b n cap : Nat} {L : List α} (h : d.R w S (.slice (some ⟨b, 0, none⟩) n cap) L) {i : Nat} (hi : i < L.length) : ∃ cs, At d w S b n cap L i L[i] cs ∧ cs.length = d.sz := by
  obtain ⟨h0, h⟩ := h
  rcases h with ⟨h, _⟩ | ⟨b', cap', cur, hv, hb, hS, h1, h2, h3, h4⟩
  · cases h
  · simp only [Value.slice.injEq, Option.some.injEq, Addr.mk.injEq, and_true] at hv
    obtain ⟨rfl, rfl, rfl⟩ := hv
    obtain ⟨S1, S2, c, hO, k1, k2, hc, hback⟩ := Os_focus i hi h4
    have hcl : c.length = d.sz := d.K_len (d.O_K hO)
    have hlen := Os_len h4
    refine ⟨c, ⟨rfl, h0, hi, h1, h2, hS, cur, S1, S2, cur.toList.take (L.length * d.sz), hb, h3, k1, k2, hO, ?_, hlen, hback⟩, hcl⟩
    have := hback w L[i] c (fun k hk _ => ⟨hk, rfl⟩) hO
    apply List.ext_getElem?
    intro m
    have hle : (i + 1) * d.sz ≤ L.length * d.sz := Nat.mul_le_mul_right _ hi
    rw [Nat.succ_mul] at hle
    rw [List.getElem?_append]
    split
    · next hm =>
      conv => rhs; rw [List.getElem?_take_of_lt (by rw [List.length_take] at hm; omega)]
    · next hm =>
      have hl1 : (List.take (i * d.sz) (List.take (L.length * d.sz) cur.toList)).length = i * d.sz := by rw [List.length_take]; omega
      rw [hl1] at hm ⊢
      rw [List.getElem?_append]
      split
      · next hm2 =>
        rw [List.getElem?_eq_getElem hm2]
        have := hc (m - i * d.sz) _ (List.getElem?_eq_getElem hm2)
        rw [show i * d.sz + (m - i * d.sz) = m by omega] at this
        exact this
      · next hm2 =>
        rw [List.getElem?_drop, hcl, show i * d.sz + d.sz + (m - i * d.sz - d.sz) = m by omega]
theorem At.R {w : World} {S : Nat → Prop} {b n cap : Nat} {L : List α} {i : Nat} {x : α} {cs : List Value} (h : At d w S b n cap L i x cs) : d.R w S (.slice (some ⟨b, 0, none⟩) n cap) (L.set i x) := by
  obtain ⟨rfl, h0, hi, h1, h2, hS, cur, S1, S2, ds, hb, h3, k1, k2, hO, he, hd, hback⟩ := h
  have hl : (L.set i x).length = L.length := List.length_set
  refine ⟨by rw [hl]; exact h0, .inr ⟨b, cap, cur, by rw [hl], hb, hS, by rw [hl]; exact h1, h2, h3, ?_⟩⟩
  rw [hl, he]
  exact hback w x cs (fun k hk _ => ⟨hk, rfl⟩) hO
theorem At.cell {w : World} {S : Nat → Prop} {b n cap : Nat} {L : List α} {i : Nat} {x : α} {cs : List Value} (h : At d w S b n cap L i x cs) (m : Nat) (u : Value) (hm : cs[m]? = some u) : w.cell? ⟨b, i * d.sz + m, none⟩ = some u := by
  obtain ⟨rfl, h0, hi, h1, h2, hS, cur, S1, S2, ds, hb, h3, k1, k2, hO, he, hd, hback⟩ := h
  rw [cell_of_row w b _ cur d.ty (0, 0) hb]
  have hcl : cs.length = d.sz := d.K_len (d.O_K hO)
  have hm1 : m < cs.length := (List.getElem?_eq_some_iff.1 hm).1
  have hle : (i + 1) * d.sz ≤ L.length * d.sz := Nat.mul_le_mul_right _ hi
  rw [Nat.succ_mul] at hle
  have e1 : (cur.toList.take (L.length * d.sz))[i * d.sz + m]? = some u := by
    rw [he, List.getElem?_append_right (by rw [List.length_take]; omega), List.length_take, Nat.min_eq_left (by omega), show i * d.sz + m - i * d.sz = m by omega, List.getElem?_append_left hm1]
    exact hm
  rw [List.getElem?_take_of_lt (by omega)] at e1
  simpa using e1
theorem At.frozen {w : World} {S : Nat → Prop} {b n cap : Nat} {L : List α} {i : Nat} {x : α} {cs : List Value} (h : At d w S b n cap L i x cs) (o : Nat) : w.frozen? ⟨b, o, none⟩ = false := by
  obtain ⟨rfl, h0, hi, h1, h2, hS, cur, S1, S2, ds, hb, _⟩ := h
  simp [World.frozen?, hb]
theorem At.K {w : World} {S : Nat → Prop} {b n cap : Nat} {L : List α} {i : Nat} {x : α} {cs : List Value} (h : At d w S b n cap L i x cs) : d.K w (fun k => S k ∧ k ≠ b) x cs := by
  obtain ⟨rfl, h0, hi, h1, h2, hS, cur, S1, S2, ds, hb, h3, k1, k2, hO, _⟩ := h
  exact K_mono (d.O_K hO) (fun k hk => (k1 k hk).1)
theorem At.mine {w : World} {S : Nat → Prop} {b n cap : Nat} {L : List α} {i : Nat} {x : α} {cs : List Value} (h : At d w S b n cap L i x cs) : S b := h.2.2.2.2.2.1
/-- A field of one cell is stored. -/
theorem At.store {w : World} {S : Nat → Prop} {b n cap : Nat} {L : List α} {i : Nat} {x : α} {cs : List Value} (h : At d w S b n cap L i x cs) {j : Nat} {get : α → β} {put : α → β → α} (F : Fld d e j get put) (he1 : e.sz = 1) (y : β) (u : Value) (hy : ∀ (w : World) (S : Nat → Prop), e.O w S y [u]) :
    At d (w.setCell ⟨b, i * d.sz + j, none⟩ u) S b n cap L i (put x y) (cs.set j u) := by
  obtain ⟨rfl, h0, hi, h1, h2, hS, cur, S1, S2, ds, hb, h3, k1, k2, hO, he, hd, hback⟩ := h
  have hcl : cs.length = d.sz := d.K_len (d.O_K hO)
  obtain ⟨T1, T2, c0, c1, c2, rfl, hl, g1, g2, hO1, hb1⟩ := F.opn hO
  have hl1 : c1.length = 1 := by rw [e.K_len (e.O_K hO1), he1]
  have hle : (i + 1) * d.sz ≤ L.length * d.sz := Nat.mul_le_mul_right _ hi
  rw [Nat.succ_mul] at hle
  have hjl : j < d.sz := by simp at hcl; omega
  have hle2 : L.length * d.sz ≤ cap * d.sz := Nat.mul_le_mul_right _ h1
  have kp : ∀ k, k ≠ b → (w.setCell ⟨b, i * d.sz + j, none⟩ u).heap[k]? = w.heap[k]? := fun k hk => Below.heap_setCell _ _ _ _ hk
  have hsz : (w.setCell ⟨b, i * d.sz + j, none⟩ u).heap.size = w.heap.size := by simp [World.setCell]
  obtain ⟨v, rfl⟩ : ∃ v, c1 = [v] := by
    match c1, hl1 with
    | [v], _ => exact ⟨v, rfl⟩
  have eset : (c0 ++ ([v] ++ c2)).set j u = c0 ++ ([u] ++ c2) := by
    rw [List.set_append_right _ _ (by omega), hl, Nat.sub_self]; rfl
  refine ⟨rfl, h0, hi, h1, h2, hS, cur.setIfInBounds (i * d.sz + j) u, S1, S2, ds, ?_, by simpa using h3, k1, k2, ?_, ?_, hd, ?_⟩
  · simp only [World.setCell, Array.getElem?_modify, hb]; simp
  · rw [eset]
    exact hb1 _ y [u] (fun k hk _ => ⟨hk, kp k (k1 k (g2 k hk)).1.2⟩) (hy _ _)
  · rw [eset, Array.toList_setIfInBounds, List.take_set, he, List.set_append_right _ _ (by rw [List.length_take]; omega), List.length_take, Nat.min_eq_left (by omega), show i * d.sz + j - i * d.sz = j by omega, List.set_append_left _ _ (by omega), eset]
  · intro w' y' c' hk hO'
    exact hback w' y' c' (fun k hk1 hl1 => ⟨hk1, ((hk k hk1 (by rw [hsz]; exact hl1)).2).trans (kp k (k2 k hk1).2)⟩) hO'
/-- A field that is a row of its own is turned. -/
theorem At.sub {w : World} {S : Nat → Prop} {b n cap : Nat} {L : List α} {i : Nat} {x : α} {cs : List Value} (h : At d w S b n cap L i x cs) {t : TypeId} {hp : 0 < e.sz} {j : Nat} {get : α → List β} {put : α → List β → α} (F : Fld d (Kd.slice t e hp) j get put) {v : Value} (hv : cs[j]? = some v) :
    ∃ S1 : Nat → Prop, e.R w S1 v (get x) ∧ (∀ k, S1 k → S k ∧ k ≠ b) ∧ ∀ (w' : World) (y : List β), e.R w' S1 v y → Foot S1 w w' → At d w' S b n cap L i (put x y) cs := by
  obtain ⟨rfl, h0, hi, h1, h2, hS, cur, S1, S2, ds, hb, h3, k1, k2, hO, he, hd, hback⟩ := h
  obtain ⟨T1, T2, c0, c1, c2, rfl, hl, g1, g2, hO1, hb1⟩ := F.opn hO
  obtain ⟨v', rfl, hR⟩ := hO1
  have e1 : (c0 ++ ([v'] ++ c2))[j]? = some v' := by rw [List.getElem?_append_right (by omega), hl, Nat.sub_self]; rfl
  obtain rfl : v' = v := by rw [e1] at hv; exact Option.some.inj hv
  refine ⟨T1, hR, fun k hk => (k1 k (g1 k hk).1).1, fun w' y hR' hF => ?_⟩
  have hbl : b < w.heap.size := (Array.getElem?_eq_some_iff.1 hb).1
  refine ⟨rfl, h0, hi, h1, h2, hS, cur, S1, fun k => S2 k ∧ k < w.heap.size, ds, ?_, h3, fun k hk => ⟨(k1 k hk).1, fun e => (k1 k hk).2 e.1⟩, fun k hk => k2 k hk.1, ?_, he, hd, ?_⟩
  · exact (hF.block b hbl (fun e => (k1 b (g1 b e).1).1.2 rfl)).trans hb
  · exact hb1 w' y [v'] (fun k hk hl => ⟨hk, hF.block k hl (fun e => (g1 k e).2 hk)⟩) ⟨v', rfl, hR'⟩
  · intro w2 y' c' hk hO'
    exact hback w2 y' c' (fun k hk1 hl1 => ⟨hk1, ((hk k ⟨hk1, hl1⟩ (Nat.lt_of_lt_of_le hl1 hF.size)).2).trans (hF.block k hl1 (fun e => (k1 k (g1 k e).1).2 hk1))⟩) hO'
theorem At.below {w w' : World} {S : Nat → Prop} {b n cap : Nat} {L : List α} {i : Nat} {x : α} {cs : List Value} (h : At d w S b n cap L i x cs) (hB : Below w.heap.size w w') : At d w' S b n cap L i x cs := by
  obtain ⟨rfl, h0, hi, h1, h2, hS, cur, S1, S2, ds, hb, h3, k1, k2, hO, he, hd, hback⟩ := h
  have hbl : b < w.heap.size := (Array.getElem?_eq_some_iff.1 hb).1
  exact ⟨rfl, h0, hi, h1, h2, hS, cur, S1, fun k => S2 k ∧ k < w.heap.size, ds, (hB.block b hbl).trans hb, h3, fun k hk => ⟨(k1 k hk).1, fun e => (k1 k hk).2 e.1⟩, fun k hk => k2 k hk.1, d.O_move (Keeps.below hB _) hO, he, hd,
    fun w2 y' c' hk hO' => hback w2 y' c' (fun k hk1 hl1 => ⟨hk1, ((hk k ⟨hk1, hl1⟩ (Nat.lt_of_lt_of_le hl1 hB.size)).2).trans (hB.block k hl1)⟩) hO'⟩
/-- A field that is a row of its own is turned: of a value by itself. -/
theorem O_sub {w : World} {S : Nat → Prop} {x : α} {cs : List Value} (h : d.O w S x cs) {t : TypeId} {hp : 0 < e.sz} {j : Nat} {get : α → List β} {put : α → List β → α} (F : Fld d (Kd.slice t e hp) j get put) {v : Value} (hv : cs[j]? = some v) :
    ∃ S1 : Nat → Prop, e.R w S1 v (get x) ∧ (∀ k, S1 k → S k) ∧ ∀ (w' : World) (y : List β), e.R w' S1 v y → Foot S1 w w' → d.O w' S (put x y) cs := by
  obtain ⟨T1, T2, c0, c1, c2, rfl, hl, g1, g2, hO1, hb1⟩ := F.opn h
  obtain ⟨v', rfl, hR⟩ := hO1
  have e1 : (c0 ++ ([v'] ++ c2))[j]? = some v' := by rw [List.getElem?_append_right (by omega), hl, Nat.sub_self]; rfl
  obtain rfl : v' = v := by rw [e1] at hv; exact Option.some.inj hv
  exact ⟨T1, hR, fun k hk => (g1 k hk).1, fun w' y hR' hF => hb1 w' y [v'] (fun k hk hl => ⟨hk, hF.block k hl (fun e => (g1 k e).2 hk)⟩) ⟨v', rfl, hR'⟩⟩
theorem O_part {w : World} {S : Nat → Prop} {x : α} {cs : List Value} (h : d.O w S x cs) {j : Nat} {get : α → β} {put : α → β → α} (F : Fld d e j get put) (a0 a1 a2 : List Value) (hv : cs = a0 ++ (a1 ++ a2)) (h0 : a0.length = j) (h1 : a1.length = e.sz) :
    ∃ S1 : Nat → Prop, e.O w S1 (get x) a1 ∧ (∀ k, S1 k → S k) ∧ ∀ (w' : World) (y : β), e.O w' S1 y a1 → Foot S1 w w' → d.O w' S (put x y) cs := by
  obtain ⟨T1, T2, c0, c1, c2, rfl, hl, g1, g2, hO1, hb1⟩ := F.opn h
  have hl1 := e.K_len (e.O_K hO1)
  obtain ⟨rfl, h2⟩ := List.append_inj hv (by omega)
  obtain ⟨rfl, rfl⟩ := List.append_inj h2 (by omega)
  exact ⟨T1, hO1, fun k hk => (g1 k hk).1, fun w' y hR' hF => hb1 w' y c1 (fun k hk hl => ⟨hk, hF.block k hl (fun e => (g1 k e).2 hk)⟩) hR'⟩
/-! #### made elements, one behind the other -/
end Kd
/-- How a thing is marked from a number on, and how far. -/
structure Mk (α : Type) where make ::
  cnt : α → Nat
  one : α → Int → α
namespace Mk
variable {α : Type} (m : Mk α)
def cnts (xs : List α) : Nat := (xs.map m.cnt).sum
def mks : List α → Int → List α
  | [], _ => []
  | x :: xs, k => m.one x k :: mks xs (k + m.cnt x)
theorem cnts_snoc (xs : List α) (x : α) : m.cnts (xs ++ [x]) = m.cnts xs + m.cnt x := by simp [cnts]
theorem cnts_take (xs : List α) (i : Nat) (h : i < xs.length) : m.cnts (xs.take (i + 1)) = m.cnts (xs.take i) + m.cnt xs[i] := by rw [List.take_succ_eq_append_getElem h, cnts_snoc]
theorem cnts_le (xs : List α) (i : Nat) : m.cnts (xs.take i) ≤ m.cnts xs := by
  conv => rhs; rw [← List.take_append_drop i xs]
  unfold cnts
  rw [List.map_append, List.sum_append]; omega
theorem mks_len : ∀ (xs : List α) (k : Int), (m.mks xs k).length = xs.length
  | [], _ => rfl
  | _ :: t, k => by rw [mks, List.length_cons, List.length_cons, mks_len]
theorem mks_snoc : ∀ (xs : List α) (x : α) (k : Int), m.mks (xs ++ [x]) k = m.mks xs k ++ [m.one x (k + m.cnts xs)]
  | [], x, k => by simp [mks, cnts]
  | y :: t, x, k => by
    rw [List.cons_append, mks, mks_snoc t x, mks, List.cons_append]
    have : k + ↑(m.cnt y) + ↑(m.cnts t) = k + ↑(m.cnts (y :: t)) := by simp [cnts]; omega
    rw [this]
theorem next (t : List α) (k : Int) (i : Nat) (h : i < t.length) : (m.mks (t.take i) k ++ t.drop i).set i (m.one t[i] (k + m.cnts (t.take i))) = m.mks (t.take (i + 1)) k ++ t.drop (i + 1) := by
  rw [List.take_succ_eq_append_getElem h, mks_snoc, List.drop_eq_getElem_cons h]
  rw [List.set_append_right _ _ (by rw [mks_len, List.length_take]; omega), mks_len, List.length_take, Nat.min_eq_left (by omega), Nat.sub_self, List.set_cons_zero, List.append_assoc]
  rfl
theorem at_ (t : List α) (k : Int) (i : Nat) (h : i < t.length) : (m.mks (t.take i) k ++ t.drop i)[i]'(by rw [List.length_append, mks_len, List.length_take, List.length_drop]; omega) = t[i] := by
  rw [List.getElem_append_right (by rw [mks_len, List.length_take]; omega)]
  simp only [mks_len, List.length_take, List.getElem_drop]
  congr 1; omega
theorem len_ (t : List α) (k : Int) (i : Nat) : (m.mks (t.take i) k ++ t.drop i).length = t.length := by rw [List.length_append, mks_len, List.length_take, List.length_drop]; omega
theorem get (t : List α) (k : Int) (i : Nat) (h : i < t.length) : (m.mks t k)[i]'(by rw [mks_len]; exact h) = m.one t[i] (k + m.cnts (t.take i)) := by
  have e : m.mks t k = m.mks (t.take i) k ++ m.mks (t.drop i) (k + m.cnts (t.take i)) := by
    clear h
    induction t generalizing k i with
    | nil => simp [mks, cnts]
    | cons x t ih =>
      cases i with
      | zero => simp [mks, cnts]
      | succ i =>
        rw [mks, ih (k + m.cnt x) i, List.take_succ_cons, List.drop_succ_cons, mks, List.cons_append]
        have : k + ↑(m.cnt x) + ↑(m.cnts (t.take i)) = k + ↑(m.cnts (x :: t.take i)) := by simp [cnts]; omega
        rw [this]
  have hl : (m.mks (t.take i) k).length = i := by rw [mks_len, List.length_take]; omega
  have e2 : (m.mks t k)[i]? = some (m.one t[i] (k + m.cnts (t.take i))) := by
    rw [e, List.getElem?_append_right (by omega), hl, Nat.sub_self, List.drop_eq_getElem_cons h, mks]
    rfl
  exact (List.getElem?_eq_some_iff.1 e2).2
end Mk
end
section
open Go.RowKit
set_option linter.unusedVariables false
/-- A block's cells. -/
theorem box_cells {w w' : World} {b : Nat} {cs : Array Value} {t : TypeId} (hB : Below w.heap.size w w') (h : w.heap[b]? = some (.cells cs t (0, 0))) : w'.heap[b]? = some (.cells cs t (0, 0)) ∧ (∀ j u, cs[j]? = some u → w'.cell? ⟨b, j, none⟩ = some u) ∧ ∀ j, w'.frozen? ⟨b, j, none⟩ = false := by
  have h' := (hB.block b (Array.getElem?_eq_some_iff.1 h).1).trans h
  refine ⟨h', fun j u hj => ?_, fun j => by simp [World.frozen?, h']⟩
  rw [cell_of_row w' b _ cs t (0, 0) h']; exact hj
theorem box_at {w' : World} {b : Nat} {cs : Array Value} {t : TypeId} (h' : w'.heap[b]? = some (.cells cs t (0, 0))) : w'.heap[b]? = some (.cells cs t (0, 0)) ∧ (∀ j u, cs[j]? = some u → w'.cell? ⟨b, j, none⟩ = some u) ∧ ∀ j, w'.frozen? ⟨b, j, none⟩ = false :=
  ⟨h', fun j u hj => by rw [cell_of_row w' b _ cs t (0, 0) h']; exact hj, fun j => by simp [World.frozen?, h']⟩
theorem box_store {w : World} {b : Nat} {cs : Array Value} {t : TypeId} (j : Nat) (u : Value) (h : w.heap[b]? = some (.cells cs t (0, 0))) : (w.setCell ⟨b, j, none⟩ u).heap[b]? = some (.cells (cs.setIfInBounds j u) t (0, 0)) := by
  simp only [World.setCell, Array.getElem?_modify, h]; simp
/-- The call's own boxes. -/
def Own (w : World) (n : Nat) (k : Nat) : Prop := w.heap.size ≤ k ∧ k < w.heap.size + n
theorem Foot.call {S : Nat → Prop} {w W w1 : World} (h : Foot S w W) (k : Below W.heap.size W w1) : Foot S w w1 := h.trans (Foot.of_below (S := S) k) (fun _ _ h => h)
theorem Foot.own {w w1 : World} {n : Nat} (h : Foot (Own w n) w w1) : Below w.heap.size w w1 := h.below (Below.refl _ _) (fun k hk => hk.1)
theorem Foot.R {α : Type} {d : Kd α} {T S : Nat → Prop} {w w1 : World} {v : Value} {x : List α} (h : Foot T w w1) (hR : d.R w S v x) (hd : ∀ k, S k → ¬ T k) : d.R w1 S v x := Kd.R_move (h.keeps hd) hR
theorem Foot.O {α : Type} {d : Kd α} {T S : Nat → Prop} {w w1 : World} {c : List Value} {x : α} (h : Foot T w w1) (hR : d.O w S x c) (hd : ∀ k, S k → ¬ T k) : d.O w1 S x c := d.O_move (h.keeps hd) hR
theorem box1 (w : World) (a : Obj) : (w.alloc a).heap[w.heap.size]? = some a := heap_alloc_new w a
theorem box2 (w : World) (a b : Obj) : ((w.alloc a).alloc b).heap[w.heap.size]? = some a ∧ ((w.alloc a).alloc b).heap[w.heap.size + 1]? = some b :=
  ⟨(Below.heap_alloc _ _ _ (by simp)).trans (box1 w a), by have := box1 (w.alloc a) b; simpa using this⟩
theorem Kd.O_pair0 {α β : Type} {d : Kd α} {e : Kd β} {w : World} {x : α} {y : β} {c0 c1 : List Value} (h0 : d.O w (fun _ => False) x c0) (h1 : e.O w (fun _ => False) y c1) : (Kd.pair d e).O w (fun _ => False) (x, y) (c0 ++ c1) :=
  ⟨_, _, c0, c1, rfl, fun _ h => h.elim, fun _ h => h.elim, h0, h1⟩
theorem eqSCell_c (v u : Value) (t s : Term) (ok ok' : Nat → Prop) (w : World) (hV : kCell.V w ok v t) (hU : kCell.V w ok' u s) :
    Calls Tryz.prog 31 #[v, u] w fun e w' => e = .returned (.bool (decide (t = s))) ∧ Below w.heap.size w w' := eqCells_c v u t s ok ok' w hV hU
end
end Go.Proofs.YteflipoiiddkfaaGreatDoor
