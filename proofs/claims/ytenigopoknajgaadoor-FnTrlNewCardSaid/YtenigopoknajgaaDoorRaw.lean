/- What a law's arguments are, whatever their sizes; when they are small they are of the kinds. -/
import Derived.Test.YtenigopoknajgaaDoorBase
import Derived.ChangeArms
import Derived.ChangeSlices
import Derived.DataReads
namespace Go.Proofs.YtenigopoknajgaaDoor
open Go.RowKit
set_option linter.unusedVariables false
universe u
/-- A kind that is read, of any size; wt: how much it holds. -/
structure Raw (α : Type) where
  ty : TypeId
  sz : Nat
  K : World → α → List Value → Prop
  wt : α → Nat
namespace Raw
variable {α β : Type}
def scalar (ty : TypeId) (enc : α → Value) (p : α → Prop) (wt : α → Nat) : Raw α := ⟨ty, 1, fun _ x cs => cs = [enc x] ∧ p x, wt⟩
def int (ty : TypeId) : Raw Int := scalar ty (Value.int .i64) (fun n => -9223372036854775808 ≤ n ∧ n ≤ 9223372036854775807) (fun _ => 0)
def byte (ty : TypeId) : Raw UInt8 := scalar ty (fun b => Value.int .u8 b.toNat) (fun _ => True) (fun _ => 0)
def bool (ty : TypeId) : Raw Bool := scalar ty Value.bool (fun _ => True) (fun _ => 0)
def str (ty : TypeId) : Raw ByteArray := scalar ty Value.string (fun s => s.size ≤ maxLen) (fun s => s.size)
def wts (r : Raw α) (xs : List α) : Nat := xs.length + (xs.map r.wt).sum
def C (r : Raw α) (w : World) (A : Option Addr) (xs : List α) : Prop := xs = [] ∨ ∃ b off, A = some ⟨b, off, none⟩ ∧ ∀ i x, xs[i]? = some x → ∃ cs, r.K w x cs ∧ ∀ j u, cs[j]? = some u → w.cell? ⟨b, off + (i * r.sz + j), none⟩ = some u
def V (r : Raw α) (w : World) (v : Value) (xs : List α) : Prop := ∃ A c, v = .slice A xs.length c ∧ xs.length ≤ c ∧ c ≤ maxLen ∧ r.C w A xs ∧ (A = none → c = 0)
def slice (ty : TypeId) (r : Raw α) : Raw (List α) := ⟨ty, 1, fun w xs cs => ∃ v, cs = [v] ∧ r.V w v xs, r.wts⟩
def pair (a : Raw α) (b : Raw β) : Raw (α × β) := ⟨0, a.sz + b.sz, fun w x cs => ∃ c0 c1, cs = c0 ++ c1 ∧ a.K w x.1 c0 ∧ b.K w x.2 c1, fun x => a.wt x.1 + b.wt x.2⟩
def iso (ty : TypeId) (d : Raw β) (f : α → β) : Raw α := ⟨ty, d.sz, fun w x cs => d.K w (f x) cs, fun x => d.wt (f x)⟩
/-- Element i of a row. -/
theorem C_get {r : Raw α} {w : World} {A : Option Addr} {xs : List α} (h : r.C w A xs) (i : Nat) (hi : i < xs.length) : ∃ b off cs, A = some ⟨b, off, none⟩ ∧ r.K w xs[i] cs ∧ ∀ j u, cs[j]? = some u → w.cell? ⟨b, off + (i * r.sz + j), none⟩ = some u := by
  rcases h with rfl | ⟨b, off, hA, hE⟩
  · simp at hi
  · obtain ⟨cs, h1, h2⟩ := hE i _ (List.getElem?_eq_getElem hi)
    exact ⟨b, off, cs, hA, h1, h2⟩
theorem cell_below {w w' : World} {a : Addr} {u : Value} (hb : Below w.heap.size w w') (h : w.cell? a = some u) : w'.cell? a = some u := by
  have hlt : a.block < w.heap.size := by
    simp only [World.cell?] at h
    cases hc : w.heap[a.block]? with
    | none => simp [hc] at h
    | some o => exact (Array.getElem?_eq_some_iff.1 hc).1
  exact (World.cell?_of_block (a := a) (hb.block a.block hlt)).trans h
/-- What is read stays as it is when more is made. -/
def Mono (r : Raw α) : Prop := ∀ (w w' : World) (x : α) (cs : List Value), Below w.heap.size w w' → r.K w x cs → r.K w' x cs
theorem mono_scalar {ty : TypeId} {enc : α → Value} {p : α → Prop} {wt : α → Nat} : Mono (scalar ty enc p wt) := fun _ _ _ _ _ h => h
theorem mono_V {r : Raw α} (hr : Mono r) {w w' : World} {v : Value} {xs : List α} (hb : Below w.heap.size w w') (h : r.V w v xs) : r.V w' v xs := by
  obtain ⟨A, c, rfl, h1, h2, h3, h4⟩ := h
  refine ⟨A, c, rfl, h1, h2, ?_, h4⟩
  rcases h3 with h3 | ⟨b, off, hA, hE⟩
  · exact .inl h3
  · exact .inr ⟨b, off, hA, fun i x hx => by
      obtain ⟨cs, g1, g2⟩ := hE i x hx
      exact ⟨cs, hr w w' x cs hb g1, fun j u hu => cell_below hb (g2 j u hu)⟩⟩
theorem mono_slice {ty : TypeId} {r : Raw α} (hr : Mono r) : Mono (slice ty r) := fun w w' xs cs hb ⟨v, hv, h⟩ => ⟨v, hv, mono_V hr hb h⟩
theorem mono_pair {a : Raw α} {b : Raw β} (ha : Mono a) (hb : Mono b) : Mono (pair a b) := fun w w' x cs h ⟨c0, c1, e, h0, h1⟩ => ⟨c0, c1, e, ha w w' _ _ h h0, hb w w' _ _ h h1⟩
theorem mono_iso {ty : TypeId} {d : Raw β} {f : α → β} (hd : Mono d) : Mono (iso ty d f) := fun w w' x cs h hk => hd w w' _ _ h hk
/-- What is left of a budget. -/
def spent (wt left : Nat) : Int := if wt ≤ left then (left : Int) - wt else -1
theorem spent_le {wt left : Nat} (h : wt ≤ left) : spent wt left = ((left - wt : Nat) : Int) := by unfold spent; rw [if_pos h]; omega
theorem spent_gt {wt left : Nat} (h : ¬ wt ≤ left) : spent wt left = -1 := if_neg h
theorem wts_take (r : Raw α) (xs : List α) (k : Nat) (h : k < xs.length) : ((xs.take (k + 1)).map r.wt).sum = ((xs.take k).map r.wt).sum + r.wt xs[k] := by
  rw [List.take_succ_eq_append_getElem h, List.map_append, List.sum_append]; simp
theorem wts_take_le (r : Raw α) (xs : List α) (k : Nat) : ((xs.take k).map r.wt).sum ≤ (xs.map r.wt).sum := by
  conv => rhs; rw [← List.take_append_drop k xs, List.map_append, List.sum_append]
  omega
/-! #### small ones are of the kinds -/
def Fits (r : Raw α) (d : Kd α) : Prop := r.sz = d.sz ∧ ∀ w x cs, r.K w x cs → r.wt x ≤ 1073741824 → d.K w (fun _ => True) x cs
theorem fits_scalar {ty ty' : TypeId} {enc : α → Value} {p p' : α → Prop} {wt : α → Nat} {h1} (h : ∀ x, p x → wt x ≤ 1073741824 → p' x) : Fits (scalar ty enc p wt) (Kd.scalar α ty' enc p' h1) := ⟨rfl, fun _ x _ h2 h3 => ⟨h2.1, h x h2.2 h3⟩⟩
theorem fits_int (t t' : TypeId) : Fits (int t) (Kd.int t') := fits_scalar fun _ _ _ => trivial
theorem fits_byte (t t' : TypeId) : Fits (byte t) (Kd.byte t') := fits_scalar fun _ _ _ => trivial
theorem fits_bool (t t' : TypeId) : Fits (bool t) (Kd.bool t') := fits_scalar fun _ _ _ => trivial
theorem fits_str (t t' : TypeId) : Fits (str t) (Kd.str t') := fits_scalar fun _ _ h => h
theorem wt_of_mem {r : Raw α} {xs : List α} {x : α} (h : x ∈ xs) : r.wt x ≤ (xs.map r.wt).sum := by
  induction xs with
  | nil => cases h
  | cons y ys ih =>
    rw [List.map_cons, List.sum_cons]
    rcases List.mem_cons.1 h with rfl | h
    · omega
    · have := ih h; omega
theorem V_fits {r : Raw α} {d : Kd α} (hf : Fits r d) {w : World} {v : Value} {xs : List α} (h : r.V w v xs) (hw : r.wts xs ≤ 1073741824) : d.V w (fun _ => True) v xs := by
  obtain ⟨A, c, rfl, h1, h2, h3, h4⟩ := h
  unfold wts at hw
  refine ⟨A, c, rfl, h1, h2, by omega, ?_, h4⟩
  rcases h3 with rfl | ⟨b, off, rfl, hE⟩
  · exact .inl rfl
  · refine .inr ⟨b, off, rfl, trivial, fun i x hx => ?_⟩
    obtain ⟨cs, g1, g2⟩ := hE i x hx
    have := wt_of_mem (r := r) (List.mem_of_getElem? hx)
    exact ⟨cs, hf.2 w x cs g1 (by omega), fun j u hu => by rw [← hf.1]; exact g2 j u hu⟩
theorem fits_slice {r : Raw α} {d : Kd α} (hf : Fits r d) (t t' : TypeId) (hp : 0 < d.sz) : Fits (slice t r) (Kd.slice t' d hp) :=
  ⟨rfl, fun w xs cs ⟨v, hv, h⟩ hw => ⟨v, hv, V_fits hf h hw⟩⟩
theorem fits_pair {a : Raw α} {b : Raw β} {a' : Kd α} {b' : Kd β} (ha : Fits a a') (hb : Fits b b') : Fits (pair a b) (Kd.pair a' b') :=
  ⟨by show a.sz + b.sz = a'.sz + b'.sz; rw [ha.1, hb.1], fun w x cs ⟨c0, c1, e, h0, h1⟩ hw => ⟨c0, c1, e, ha.2 w _ _ h0 (by have : a.wt x.1 + b.wt x.2 ≤ _ := hw; omega), hb.2 w _ _ h1 (by have : a.wt x.1 + b.wt x.2 ≤ _ := hw; omega)⟩⟩
theorem fits_iso {d : Raw β} {d' : Kd β} (h : Fits d d') (t t' : TypeId) (f : α → β) : Fits (iso t d f) (Kd.iso t' d' f) := ⟨h.1, fun w x cs => h.2 w (f x) cs⟩
/-! #### what a law is given is of these -/
def Opn (P : Program) (r : Raw α) : Prop := ∀ (H : Type) (enc : TypeId × Value → H) (w : World) (fuel : Nat) (cs : List Value) (x : DataW H × List MemPlace), DataW.trod enc P w 0 (fun _ => true) true fuel r.ty cs = some x → ∃ a, r.K w a cs ∧ cs.length = r.sz
theorem opn_int {P : Program} {t : TypeId} (hu : P.underlying t = some (.int .i64)) : Opn P (int t) := fun H enc w fuel cs x h => by
  obtain ⟨m, rfl, _, hw⟩ := DataW.trod_int (t := t) hu h
  refine ⟨m, ⟨rfl, ?_⟩, rfl⟩
  simp [Lit.wf, IntKind.min, IntKind.max, IntKind.bits, IntKind.signed] at hw
  omega
theorem opn_byte {P : Program} {t : TypeId} (hu : P.underlying t = some (.int .u8)) : Opn P (byte t) := fun H enc w fuel cs x h => by
  obtain ⟨m, rfl, _, hw⟩ := DataW.trod_int (t := t) hu h
  simp [Lit.wf, IntKind.min, IntKind.max, IntKind.bits, IntKind.signed] at hw
  refine ⟨UInt8.ofNat m.toNat, ⟨?_, trivial⟩, rfl⟩
  have : ((UInt8.ofNat m.toNat).toNat : Int) = m := by rw [UInt8.toNat_ofNat']; omega
  show _ = [Value.int .u8 ((UInt8.ofNat m.toNat).toNat : Int)]
  rw [this]
theorem opn_bool {P : Program} {t : TypeId} (hu : P.underlying t = some .bool) : Opn P (bool t) := fun H enc w fuel cs x h => by
  obtain ⟨b, rfl, _⟩ := DataW.trod_bool (t := t) hu h
  exact ⟨b, ⟨rfl, trivial⟩, rfl⟩
theorem opn_str {P : Program} {t : TypeId} (hu : P.underlying t = some .string) : Opn P (str t) := fun H enc w fuel cs x h => by
  obtain ⟨s, rfl, _, hs⟩ := DataW.trod_string (t := t) hu h
  exact ⟨s, ⟨rfl, hs⟩, rfl⟩
theorem opn_slice {P : Program} {t : TypeId} {r : Raw α} (hu : P.underlying t = some (.slice r.ty)) (hc : P.cellsOf r.ty = r.sz) (hp : 0 < r.sz) (ho : Opn P r) : Opn P (slice t r) := fun H enc w fuel cs x h => by
  rcases DataW.trod_slice hu h with ⟨rfl, _⟩ | ⟨a, len, cap, elems, rest, n, rfl, rfl, _, _, hl, hm, hlen, hel, _, _⟩
  · exact ⟨[], ⟨_, rfl, none, 0, rfl, Nat.le_refl _, by simp [maxLen], .inl rfl, fun _ => rfl⟩, rfl⟩
  · rw [hc] at hel
    have hex : ∀ i : Fin len, ∃ y, ∃ cs, w.cells? 0 (a.add (i.1 * r.sz)) r.sz = some cs ∧ r.K w y cs := fun i => by
      have h1 := hel i.1 i.2
      rw [List.getElem?_eq_getElem (by omega)] at h1
      obtain ⟨c, g1, g2⟩ := Option.bind_eq_some_iff.1 h1
      obtain ⟨y, g3, _⟩ := ho H enc w _ c _ g2
      exact ⟨y, c, g1, g3⟩
    refine ⟨List.ofFn fun i => (hex i).choose, ⟨_, rfl, some a, cap, by rw [List.length_ofFn], by rw [List.length_ofFn]; exact hl, hm, ?_, fun e => by cases e⟩, rfl⟩
    by_cases h0 : len = 0
    · left; subst h0; simp
    · right
      have hs : a.spot = none := by
        obtain ⟨cs, g1, _⟩ := (hex ⟨0, by omega⟩).choose_spec
        obtain ⟨_, g2, g3⟩ := World.cells?_some g1
        have g4 := g3 0 hp
        simp only [Nat.zero_mul] at g4
        have e0 : (a.add 0).add 0 = a := by simp [Addr.add]
        rw [e0, List.getElem?_eq_getElem (by omega)] at g4
        exact World.cell?_spot g4
      obtain ⟨b, off, spot⟩ := a
      simp only at hs
      subst hs
      refine ⟨b, off, rfl, fun i y hy => ?_⟩
      rw [List.getElem?_ofFn] at hy
      split at hy
      · next hi =>
        obtain rfl := Option.some.inj hy
        obtain ⟨cs, g1, g2⟩ := (hex ⟨i, hi⟩).choose_spec
        refine ⟨cs, g2, fun j u hu => ?_⟩
        obtain ⟨_, g3, g4⟩ := World.cells?_some g1
        have hj : j < r.sz := by have := (List.getElem?_eq_some_iff.1 hu).1; omega
        have g5 := g4 j hj
        rw [hu] at g5
        rw [← g5]
        congr 1
        unfold Addr.add
        split <;> split <;> simp_all <;> omega
      · cases hy
def OpnF (P : Program) (r : Raw α) (off : Nat) (fs : List Field) : Prop := ∀ (H : Type) (enc : TypeId × Value → H) (w : World) (fuel : Nat) (cs : List Value), (∀ f ∈ fs, ∃ y, DataW.trod enc P w 0 (fun _ => true) true fuel f.type ((cs.drop f.offset).take (P.cellsOf f.type)) = some y) → ∃ a, r.K w a ((cs.drop off).take r.sz) ∧ off + r.sz ≤ cs.length
theorem opnF_last {P : Program} {r : Raw α} {off : Nat} {f : Field} (ho : Opn P r) (ht : f.type = r.ty) (hoff : f.offset = off) (hc : P.cellsOf r.ty = r.sz) (hp : 0 < r.sz) : OpnF P r off [f] := fun H enc w fuel cs h => by
  obtain ⟨y, hy⟩ := h f (by simp)
  rw [ht, hoff, hc] at hy
  obtain ⟨a, h1, h2⟩ := ho H enc w fuel _ y hy
  refine ⟨a, h1, ?_⟩
  rw [List.length_take, List.length_drop] at h2
  omega
theorem opnF_cons {P : Program} {a : Raw α} {b : Raw β} {off : Nat} {f : Field} {fs : List Field} (ho : Opn P a) (ht : f.type = a.ty) (hoff : f.offset = off) (hc : P.cellsOf a.ty = a.sz) (hp : 0 < a.sz) (hF : OpnF P b (off + a.sz) fs) : OpnF P (pair a b) off (f :: fs) := fun H enc w fuel cs h => by
  obtain ⟨x, h1, _⟩ := opnF_last ho ht hoff hc hp H enc w fuel cs (fun g hg => h g (by simp at hg; simp [hg]))
  obtain ⟨y, h3, h4⟩ := hF H enc w fuel cs (fun g hg => h g (List.mem_cons_of_mem _ hg))
  refine ⟨(x, y), ⟨_, _, ?_, h1, h3⟩, by show off + (a.sz + b.sz) ≤ _; omega⟩
  show (cs.drop off).take (a.sz + b.sz) = _
  rw [List.take_add, List.drop_drop]
theorem opn_struct {P : Program} {t : TypeId} {d : Raw β} {f : α → β} {fs : Array Field} (hu : P.underlying t = some (.struct fs)) (hc : P.cellsOf t = d.sz) (hs : ∀ b, ∃ a, f a = b) (hF : OpnF P d 0 fs.toList) : Opn P (iso t d f) := fun H enc w fuel cs x h => by
  obtain ⟨xs, n, _, _, hl, hlen, hf⟩ := DataW.trod_struct hu h
  obtain ⟨b, h1, h2⟩ := hF H enc w n cs (fun g hg => by
    obtain ⟨i, hi, rfl⟩ := List.getElem_of_mem hg
    have hi' : i < fs.size := by simpa using hi
    have := hf i fs.toList[i] (by simp [hi'])
    rw [List.getElem?_eq_getElem (by omega)] at this
    exact ⟨_, this⟩)
  obtain ⟨a, rfl⟩ := hs b
  rw [hc] at hl
  refine ⟨a, ?_, hl⟩
  rw [List.drop_zero, List.take_of_length_le (by omega)] at h1
  exact h1
end Raw
end Go.Proofs.YtenigopoknajgaaDoor
