/- FnExactNodNew: both NodNew return a node that is up and has no works; marks find nothing to write on. Conditions: none. -/
import Derived.WalkKit
import Derived.Below
import Derived.OwnWalk
import Derived.KernelRfl
import Derived.WalkLawsBesides
import Derived.Test.YtlilbhjcdicnkaaBase
import Derived.Test.YtlilbhjcdicnkaaRows
namespace Go.Proofs.Ytlilbhjcdicnkaa
open Go.RowKit
set_option maxRecDepth 100000
theorem eqWorks_nil (w : World) : Calls Try.prog 17 #[.slice none 0 0, .slice none 0 0] w fun e w' => e = .returned (.bool true) ∧ w = w' := by
  go_enter Try.func17, Try.ntmps17
  go_wp2
  go_loop [5] (fun i => i = .int .i64 0) (fun _ => 0)
  case atStart => rfl
  case round =>
    subst hrel
    go_wp2
    go_ret
    exact ⟨rfl, rfl⟩
theorem markWorks_nil (k : Int) (w : World) : Calls Try.prog 18 #[.slice none 0 0, .int .i64 k] w fun e w' => e = .returned (.int .i64 k) ∧ w = w' := by
  go_enter Try.func18, Try.ntmps18
  go_wp2
  go_loop [1, 5] (fun q i => q = .int .i64 k ∧ i = .int .i64 0) (fun _ _ => 0)
  case atStart => exact ⟨rfl, rfl⟩
  case round =>
    obtain ⟨rfl, rfl⟩ := hrel
    go_wp2
    go_ret
    exact ⟨rfl, rfl⟩
theorem heldWorks_nil (k : Int) (w : World) : Calls Try.prog 19 #[.slice none 0 0, .int .i64 k] w fun e w' => e = .returned (.int .i64 k) ∧ w = w' := by
  go_enter Try.func19, Try.ntmps19
  go_wp2
  go_loop [1, 5] (fun q i => q = .int .i64 k ∧ i = .int .i64 0) (fun _ _ => 0)
  case atStart => exact ⟨rfl, rfl⟩
  case round =>
    obtain ⟨rfl, rfl⟩ := hrel
    go_wp2
    go_ret
    exact ⟨rfl, rfl⟩
theorem eqNode_nil (w : World) : Calls Try.prog 13 #[.agg #[.bool true, .slice none 0 0], .agg #[.bool true, .slice none 0 0]] w fun e w' => e = .returned (.bool true) ∧ Below w.heap.size w w' := by
  have hu := Try.underlying29
  go_enter Try.func13, Try.ntmps13
  go_wp2_with (go_at_call 17; refine (eqWorks_nil _).mono ?_; rintro e w' ⟨rfl, rfl⟩)
  go_ret
  exact ⟨rfl, ((Below.refl _ _).alloc (Nat.le_refl _) _).alloc (by simp) _⟩
theorem markNode_nil (k : Int) (w : World) : Calls Try.prog 14 #[.agg #[.bool true, .slice none 0 0], .int .i64 k] w fun e w' => e = .returned (.int .i64 k) ∧ Below w.heap.size w w' := by
  have hu := Try.underlying29
  go_enter Try.func14, Try.ntmps14
  go_wp2_with (go_at_call 18; refine (markWorks_nil _ _).mono ?_; rintro e w' ⟨rfl, rfl⟩)
  go_ret
  exact ⟨rfl, (Below.refl _ _).alloc (Nat.le_refl _) _⟩
theorem heldNode_nil (k : Int) (hk : 0 ≤ k) (w : World) : Calls Try.prog 15 #[.agg #[.bool true, .slice none 0 0], .int .i64 k] w fun e w' => e = .returned (.int .i64 k) ∧ Below w.heap.size w w' := by
  have hu := Try.underlying29
  go_enter Try.func15, Try.ntmps15
  go_wp2_with (go_at_call 19; refine (heldWorks_nil _ _).mono ?_; rintro e w' ⟨rfl, rfl⟩)
  go_ret
  exact ⟨rfl, (Below.refl _ _).alloc (Nat.le_refl _) _⟩
theorem specNew (w : World) : Calls Try.prog 11 #[] w fun e w' => e = .returned (.agg #[.bool true, .slice none 0 0]) ∧ Below w.heap.size w w' := by
  have hu := Try.underlying29
  go_enter Try.func11, Try.ntmps11
  go_wp2
  exact bodyPost_ret (v := .agg #[.bool true, .slice none 0 0]) (by simp [results, Try.results11, go_sem]) rfl ⟨rfl, (Below.refl _ _).alloc (Nat.le_refl _) _⟩
theorem implNew (w : World) : Calls Try.prog 12 #[] w fun e w' => e = .returned (.agg #[.bool true, .slice none 0 0]) ∧ Below w.heap.size w w' := by
  have hu := Try.underlying29
  go_enter Try.func12, Try.ntmps12
  go_wp2
  exact bodyPost_ret (v := .agg #[.bool true, .slice none 0 0]) (by simp [results, Try.results12, go_sem]) rfl ⟨rfl, (Below.refl _ _).alloc (Nat.le_refl _) _⟩
theorem bcell {W w1 : World} (hb : Below W.heap.size W w1) : (∀ b o, b < W.heap.size → w1.cell? ⟨b, o, none⟩ = W.cell? ⟨b, o, none⟩) ∧ (∀ b o, b < W.heap.size → w1.frozen? ⟨b, o, none⟩ = W.frozen? ⟨b, o, none⟩) :=
  ⟨fun b o h => hb.cell (p := ⟨b, o, none⟩) h, fun b o h => hb.frozen (p := ⟨b, o, none⟩) h⟩
/-- A block of one's own that holds an empty node. -/
def Box (b : Nat) (w : World) : Prop := b < w.heap.size ∧ w.cell? ⟨b, 0, none⟩ = some (.bool true) ∧ w.cell? ⟨b, 1, none⟩ = some (.slice none 0 0)
theorem stays {w1 w2 : World} {b : Nat} (hb : Below w1.heap.size w1 w2) (h : Box b w1) : Box b w2 :=
  ⟨Nat.lt_of_lt_of_le h.1 hb.size, (hb.cell (p := ⟨b, 0, none⟩) h.1).trans h.2.1, (hb.cell (p := ⟨b, 1, none⟩) h.1).trans h.2.2⟩
theorem born (w : World) : Box w.heap.size (w.alloc (.cells #[.bool true, .slice none 0 0] 29)) := by
  have h := heap_alloc_new w (.cells #[.bool true, .slice none 0 0] 29)
  exact ⟨by simp, by rw [cell_of_row _ _ 0 _ _ _ h]; rfl, by rw [cell_of_row _ _ 1 _ _ _ h]; rfl⟩
theorem law (w : World) : Calls Try.prog 5 #[] w fun e w' => e = .returned (.bool true) ∧ Below w.heap.size w w' := by
  have hu := Try.underlying29
  go_enter Try.func5, Try.ntmps5
  go_wp2_with fail
  refine (specNew _).mono ?_
  rintro e w1 ⟨rfl, hb1⟩
  have HB := Sec.mk hb1
  clear hb1
  go_wp2_with fail
  have s1 := Sec.mk (born w1)
  have HB := Sec.mk (belA HB.out (.cells #[.bool true, .slice none 0 0] 29))
  generalize w1.alloc (.cells #[.bool true, .slice none 0 0] 29) = W1 at *
  generalize w1.heap.size = b1 at *
  refine (implNew _).mono ?_
  rintro e w2 ⟨rfl, hb⟩
  have s1 := Sec.mk (stays hb s1.out)
  have HB := Sec.mk (bel HB.out hb)
  clear hb
  obtain ⟨l1, c10, c11⟩ := s1.out
  go_wp2_with fail
  have s2 := Sec.mk (born w2)
  have s1 := Sec.mk (stays (belA (Below.refl _ _) (.cells #[.bool true, .slice none 0 0] 29)) s1.out)
  have HB := Sec.mk (belA HB.out (.cells #[.bool true, .slice none 0 0] 29))
  clear c10 c11 l1
  generalize w2.alloc (.cells #[.bool true, .slice none 0 0] 29) = W2 at *
  generalize w2.heap.size = b2 at *
  refine (eqNode_nil _).mono ?_
  rintro e w3 ⟨rfl, hb⟩
  have s1 := Sec.mk (stays hb s1.out)
  have s2 := Sec.mk (stays hb s2.out)
  have HB := Sec.mk (bel HB.out hb)
  clear hb
  obtain ⟨l1, c10, c11⟩ := s1.out
  obtain ⟨l2, c20, c21⟩ := s2.out
  go_wp2_with fail
  clear c10 c11 l1 c20 c21 l2
  refine (markNode_nil _ _).mono ?_
  rintro e w4 ⟨rfl, hb⟩
  have s1 := Sec.mk (stays hb s1.out)
  have s2 := Sec.mk (stays hb s2.out)
  have HB := Sec.mk (bel HB.out hb)
  clear hb
  obtain ⟨l1, c10, c11⟩ := s1.out
  obtain ⟨l2, c20, c21⟩ := s2.out
  go_wp2_with fail
  clear c10 c11 l1 c20 c21 l2
  refine (heldNode_nil _ (by decide) _).mono ?_
  rintro e w5 ⟨rfl, hb⟩
  have s1 := Sec.mk (stays hb s1.out)
  have s2 := Sec.mk (stays hb s2.out)
  have HB := Sec.mk (bel HB.out hb)
  clear hb
  obtain ⟨l1, c10, c11⟩ := s1.out
  obtain ⟨l2, c20, c21⟩ := s2.out
  go_wp2_with fail
  clear c10 c11 l1 c20 c21 l2
  refine (implNew _).mono ?_
  rintro e w6 ⟨rfl, hb⟩
  have s1 := Sec.mk (stays hb s1.out)
  have s2 := Sec.mk (stays hb s2.out)
  have HB := Sec.mk (bel HB.out hb)
  clear hb
  obtain ⟨l1, c10, c11⟩ := s1.out
  go_wp2_with fail
  have s1 := Sec.mk (stays (belA (Below.refl _ _) (.cells #[.bool true, .slice none 0 0] 29)) s1.out)
  have s2 := Sec.mk (stays (belA (Below.refl _ _) (.cells #[.bool true, .slice none 0 0] 29)) s2.out)
  have HB := Sec.mk (belA HB.out (.cells #[.bool true, .slice none 0 0] 29))
  clear c10 c11 l1
  generalize w6.alloc (.cells #[.bool true, .slice none 0 0] 29) = W6 at *
  refine (eqNode_nil _).mono ?_
  rintro e w7 ⟨rfl, hb⟩
  have s2 := Sec.mk (stays hb s2.out)
  have HB := Sec.mk (bel HB.out hb)
  clear hb
  obtain ⟨l2, c20, c21⟩ := s2.out
  go_wp2_with fail
  clear c20 c21 l2
  refine (heldNode_nil _ (by decide) _).mono ?_
  rintro e w8 ⟨rfl, hb⟩
  have HB := Sec.mk (bel HB.out hb)
  clear hb
  go_wp2_with fail
  go_ret
  exact ⟨rfl, HB.out⟩
end Go.Proofs.Ytlilbhjcdicnkaa
