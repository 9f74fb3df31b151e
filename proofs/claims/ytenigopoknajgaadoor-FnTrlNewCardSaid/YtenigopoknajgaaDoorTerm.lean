/- What a term is, and plain functions on terms. No program in sight. -/
import Derived.Test.YtenigopoknajgaaDoorData
namespace Go.Proofs.YtenigopoknajgaaDoor

def inB (n lo hi : Int) : Bool := decide (lo ≤ n) && decide (n ≤ hi)
def small (b : UInt8) : Bool := decide (97 ≤ (b.toNat : Int)) && decide ((b.toNat : Int) ≤ 122)
def nameOk (s : ByteArray) : Bool := decide (1 ≤ s.size) && decide (s.size ≤ 8) && !(s.toList == [97, 110, 100]) && s.data.toList.all small
def cellOk (c : Cell) : Bool :=
  if c.kind = 1 then inB c.n 0 99999 && c.name.toList.isEmpty
  else if c.kind = 2 then inB c.n (-9999) 9999 && c.name.toList.isEmpty
  else if c.kind = 3 then inB c.n 0 3 && nameOk c.name
  else false
/-- How many arguments stand behind a place. -/
def arity (c : Cell) : Nat := if c.kind = 3 then c.n.toNat else 0
/-- What is left behind so many terms. -/
def skip : Nat → Term → Option Term
  | 0, t => some t
  | _ + 1, [] => none
  | m + 1, c :: r => skip (m + arity c) r
def trmOk (t : Term) : Bool := decide (1 ≤ t.length) && decide (t.length ≤ 40) && t.all cellOk && decide (skip 1 t = some [])

theorem take_all {α : Type} (p : α → Bool) (l : List α) (k : Nat) (h : k < l.length) : (l.take (k + 1)).all p = ((l.take k).all p && p l[k]) := by
  rw [List.take_succ_eq_append_getElem h, List.all_append, List.all_cons, List.all_nil, Bool.and_true]

theorem cellOk_arity {c : Cell} (h : cellOk c = true) : arity c ≤ 3 ∧ (c.kind = 3 → 0 ≤ c.n ∧ c.n ≤ 3) := by
  unfold cellOk at h
  unfold arity
  by_cases h3 : c.kind = 3
  · rw [if_neg (by omega), if_neg (by omega), if_pos h3] at h
    simp [inB] at h
    rw [if_pos h3]
    omega
  · rw [if_neg h3]
    exact ⟨by omega, fun e => absurd e h3⟩
/-- Where the term that begins at a place ends; -1, if it does not. -/
def endAt (t : Term) (at_ : Nat) : Int := match skip 1 (t.drop at_) with
  | some r => (t.length : Int) - r.length
  | none => -1
theorem skip_step {t : Term} {m j : Nat} (h : j < t.length) : skip (m + 1) (t.drop j) = skip (m + arity t[j]) (t.drop (j + 1)) := by
  rw [List.drop_eq_getElem_cons h]; rfl
theorem skip_out {t : Term} {m j : Nat} (h : t.length ≤ j) : skip (m + 1) (t.drop j) = none := by
  rw [List.drop_of_length_le h]; rfl
theorem skip_le : ∀ {m : Nat} {t r : Term}, skip m t = some r → r.length ≤ t.length
  | 0, t, r, h => by simp [skip] at h; simp [h]
  | m + 1, [], r, h => by simp [skip] at h
  | m + 1, c :: t, r, h => by
    have := skip_le (m := m + arity c) (t := t) (r := r) h
    simp; omega
termination_by _ t => t.length
theorem endAt_whole (t : Term) : decide (endAt t 0 = t.length) = decide (skip 1 t = some []) := by
  unfold endAt
  rw [List.drop_zero]
  cases h : skip 1 t with
  | none => simp
  | some r =>
    have := skip_le h
    cases r with
    | nil => simp
    | cons c r => simp at this; simp; omega

theorem take_foldl {α β : Type} (f : β → α → β) (b : β) (l : List α) (k : Nat) (h : k < l.length) : (l.take (k + 1)).foldl f b = f ((l.take k).foldl f b) l[k] := by
  rw [List.take_succ_eq_append_getElem h, List.foldl_append]; rfl
theorem take_map {α β : Type} (f : α → β) (l : List α) (k : Nat) (h : k < l.length) : (l.take (k + 1)).map f = (l.take k).map f ++ [f l[k]] := by
  rw [List.take_succ_eq_append_getElem h, List.map_append]; rfl
def freeStep (out : List Int) (c : Cell) : List Int := if c.kind = 1 ∧ ¬ c.n ∈ out then out ++ [c.n] else out
/-- The variables, each once, as they come first. -/
def free (t : Term) : List Int := t.foldl freeStep []
theorem foldl_free_len (t : Term) (out : List Int) : (t.foldl freeStep out).length ≤ out.length + t.length := by
  induction t generalizing out with
  | nil => simp
  | cons c r ih =>
    have := ih (freeStep out c)
    simp only [List.foldl_cons, List.length_cons]
    have : (freeStep out c).length ≤ out.length + 1 := by unfold freeStep; split <;> simp
    omega
theorem free_len (t : Term) : (free t).length ≤ t.length := by have := foldl_free_len t []; simpa [free] using this
/-- Where a number stands among some; -1, if it does not. -/
def place (l : List Int) (n : Int) : Int := if n ∈ l then (l.idxOf n : Int) else -1
def shiftC (n : Int) (c : Cell) : Cell := if c.kind = 1 then { c with n := Go.RowKit.wrap64 (c.n + n) } else c
def shifted (t : Term) (n : Int) : Term := t.map (shiftC n)
def canonC (fr : List Int) (c : Cell) : Cell := if c.kind = 1 then { c with n := place fr c.n } else c
def canon (t : Term) : Term := t.map (canonC (free t))
end Go.Proofs.YtenigopoknajgaaDoor
