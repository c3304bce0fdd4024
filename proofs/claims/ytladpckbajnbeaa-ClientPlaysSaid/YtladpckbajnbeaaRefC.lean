/- ref1.Cat; ref6.PutRequest. -/
import Derived.Test.YtladpckbajnbeaaOperB
import Derived.Test.YtladpckbajnbeaaOpen
set_option linter.unusedVariables false
set_option linter.unusedSimpArgs false
namespace Go.Proofs.Ytladpckbajnbeaa
open Go.RowKit

theorem flat_take {α : Type} {ls : List (List α)} {k : Nat} {x : List α} (h : ls[k]? = some x) : (ls.take (k + 1)).flatten = (ls.take k).flatten ++ x := by
  rw [take_snoc' h, List.flatten_append]
  simp
theorem flat_take_le {α : Type} (ls : List (List α)) (k : Nat) : ((ls.take k).flatten).length ≤ ls.flatten.length := by
  conv => rhs; rw [← List.take_append_drop k ls, List.flatten_append, List.length_append]
  omega
theorem r6Put_nil (w : World) (A : Option Addr) (cp : Nat) : Calls Try.prog 44 #[.slice A 0 cp] w (OwnPost w []) := by
  go_enter Try.func44, Try.ntmps44
  go_wp2_with fail
  refine bodyPost_ret (results_tmp rfl _ _ _) rfl ?_
  exact ⟨none, 0, 0, rfl, own_none w w _, Below.refl _ _⟩
theorem r6PutF_any (w : World) (c : Col) (A : Option Addr) (n cp : Nat) (l : List Fld) (hm : mayTB l = true ∨ l = []) (hw : Wf c w) (hx : Rd kFld w c A n cp l) :
    Calls Try.prog 44 #[.slice A n cp] w (OwnPost w (fB l)) := by
  unfold fB
  rcases hm with hm | rfl
  · rw [if_pos hm]
    exact r6Put_any w c A n cp l hm hw hx
  · have h0 : n = 0 := by have := hx.1; simpa using this.symm
    subst h0
    exact r6Put_nil w A cp
theorem may_tmpl {t : List Fld} (h : mayB t = true) : mayTB t = true := (OpenL.refl t).mayT h
theorem mayR_p {x : Req} (h : mayR x = true) : mayTB x.p = true ∨ x.p = [] := by
  unfold mayR at h
  simp only [Bool.and_eq_true] at h
  have h1 := h.2.2
  unfold pPart at h1
  split at h1
  · exact .inl h1
  · exact .inr (by simpa using h1)
theorem mayR_t {x : Req} (h : mayR x = true) : mayTB x.t = true ∨ x.t = [] := by
  unfold mayR at h
  simp only [Bool.and_eq_true] at h
  have h1 := h.2.1
  unfold tPart at h1
  split at h1
  · simp only [Bool.and_eq_true] at h1
    exact .inl (may_tmpl h1.1)
  · simp only [Bool.and_eq_true] at h1
    exact .inr (by simpa using h1.1)
theorem box6_keep {w w' : World} {b : Nat} {v0 v1 v2 v3 v4 v5 : Value} (hb : Below w.heap.size w w')
    (h : w.cell? ⟨b, 0, none⟩ = some v0 ∧ w.cell? ⟨b, 1, none⟩ = some v1 ∧ w.cell? ⟨b, 2, none⟩ = some v2 ∧ w.cell? ⟨b, 3, none⟩ = some v3 ∧ w.cell? ⟨b, 4, none⟩ = some v4 ∧ w.cell? ⟨b, 5, none⟩ = some v5) :
    w'.cell? ⟨b, 0, none⟩ = some v0 ∧ w'.cell? ⟨b, 1, none⟩ = some v1 ∧ w'.cell? ⟨b, 2, none⟩ = some v2 ∧ w'.cell? ⟨b, 3, none⟩ = some v3 ∧ w'.cell? ⟨b, 4, none⟩ = some v4 ∧ w'.cell? ⟨b, 5, none⟩ = some v5 := by
  have hlt := World.block_lt_of_cell? w _ h.1
  have g : ∀ i, w'.cell? ⟨b, i, none⟩ = w.cell? ⟨b, i, none⟩ := fun i => hb.cell (p := ⟨b, i, none⟩) hlt
  simp only [g]
  exact h
/-- A literal of slices reads. -/
theorem Rd.lits {α : Type} {K : Kd α} {w : World} {c : Col} (hc : Wf c w) (t : TypeId) (cells : Array Value) (xs : List (List α)) (hm : xs.length ≤ 1000000)
    (h : ∀ (j : Nat) (x : List α), xs[j]? = some x → ∃ (A : Option Addr) (n cp : Nat), cells[j]? = some (Value.slice A n cp) ∧ Rd K w c A n cp x) : Rd (kSl K) (w.alloc (.cells cells t)) c (some ⟨w.heap.size, 0, none⟩) xs.length xs.length xs := by
  refine ⟨rfl, Nat.le_refl _, by simp only [maxLen]; omega, fun hp => ⟨_, 0, rfl, by simp, hc.fresh (Nat.le_refl _), fun j x hj => ?_⟩⟩
  obtain ⟨A, n, cp, hcell, hr⟩ := h j x hj
  refine ⟨_, ⟨A, n, cp, rfl, hr.below (below_alloc _ _)⟩, fun i u hi => ?_⟩
  have hi0 : i = 0 := by
    have := (List.getElem?_eq_some_iff.1 hi).1
    simp at this
    exact this
  subst hi0
  have : 0 + (j * (kSl K).sz + 0) = j := by simp [kSl]
  rw [this, cell_of_row _ _ _ cells t (0, 0) (heap_alloc_new w _), hcell]
  exact hi
theorem Rd.six {α : Type} {K : Kd α} {w : World} {c : Col} (hc : Wf c w) (t : TypeId) {A1 A2 A3 A4 A5 A6 : Option Addr} {n1 n2 n3 n4 n5 n6 p1 p2 p3 p4 p5 p6 : Nat} {x1 x2 x3 x4 x5 x6 : List α} (h1 : Rd K w c A1 n1 p1 x1) (h2 : Rd K w c A2 n2 p2 x2) (h3 : Rd K w c A3 n3 p3 x3) (h4 : Rd K w c A4 n4 p4 x4) (h5 : Rd K w c A5 n5 p5 x5) (h6 : Rd K w c A6 n6 p6 x6) :
    Rd (kSl K) (w.alloc (.cells #[.slice A1 n1 p1, .slice A2 n2 p2, .slice A3 n3 p3, .slice A4 n4 p4, .slice A5 n5 p5, .slice A6 n6 p6] t)) c (some ⟨w.heap.size, 0, none⟩) 6 6 [x1, x2, x3, x4, x5, x6] := by
  refine Rd.lits hc t _ [x1, x2, x3, x4, x5, x6] (by simp) fun j x hj => ?_
  match j, hj with
  | 0, hj => simp at hj; subst hj; exact ⟨_, _, _, rfl, h1⟩
  | 1, hj => simp at hj; subst hj; exact ⟨_, _, _, rfl, h2⟩
  | 2, hj => simp at hj; subst hj; exact ⟨_, _, _, rfl, h3⟩
  | 3, hj => simp at hj; subst hj; exact ⟨_, _, _, rfl, h4⟩
  | 4, hj => simp at hj; subst hj; exact ⟨_, _, _, rfl, h5⟩
  | 5, hj => simp at hj; subst hj; exact ⟨_, _, _, rfl, h6⟩
  | j + 6, hj => simp at hj
theorem u64_id {x : Int} (h0 : 0 ≤ x) (h1 : x ≤ 9223372036854775807) : IntKind.u64.wrap x = x := by
  rw [u64_mod]
  exact Int.emod_eq_of_lt h0 (by omega)
end Go.Proofs.Ytladpckbajnbeaa
