/- TupleMatch: the plain law. -/
import Derived.Test.YtladpckbajnbeaaLaw6
import Derived.Test.YtladpckbajnbeaaLib3
set_option linter.unusedVariables false
set_option linter.unusedSimpArgs false
namespace Go.Proofs.Ytladpckbajnbeaa
open Go.RowKit

theorem plain_asked' (F : Fld) (h : plainB F = true) : askedB F = true := by
  unfold askedB
  split
  · rename_i hk
    unfold plainB at h
    rw [if_neg (by omega), if_neg (by omega)] at h
    cases h
  · exact h
theorem plain_kind {F : Fld} (h : plainB F = true) : (F.kind = 1 ∧ F.s = []) ∨ F.kind = 2 := by
  unfold plainB at h
  split at h
  · rename_i hk
    exact .inl ⟨hk, by simpa using h⟩
  · split at h
    · exact .inr (by assumption)
    · cases h
/-- What a field has become. -/
def OpenOf (x y : Fld) : Prop := y = x ∨ y = ⟨5, 0, []⟩ ∨ y = ⟨x.kind + 2, 0, []⟩
theorem open_fits {x y : Fld} (h : plainB x = true) (ho : OpenOf x y) : fitsB y x = true ∧ askedB y = true := by
  rcases ho with rfl | rfl | rfl
  · refine ⟨?_, plain_asked' _ h⟩
    unfold fitsB
    rcases plain_kind h with ⟨hk, _⟩ | hk <;> rw [if_neg (by omega), if_neg (by omega), if_neg (by omega)] <;> exact fdEq_refl _
  · exact ⟨rfl, rfl⟩
  · rcases plain_kind h with ⟨hk, _⟩ | hk <;> (rw [hk]; constructor) <;> simp [fitsB, askedB, hk]
theorem mayB_all {t : List Fld} (h : mayB t = true) : 1 ≤ t.length ∧ t.length ≤ 6 ∧ ∀ (j : Nat) (x : Fld), t[j]? = some x → plainB x = true := by
  unfold mayB at h
  simp only [Bool.and_eq_true, decide_eq_true_eq, List.all_eq_true] at h
  exact ⟨h.1, h.2.1, fun j x hj => h.2.2 x (List.mem_of_getElem? hj)⟩
theorem mayB_of {t : List Fld} (h1 : 1 ≤ t.length) (h6 : t.length ≤ 6) (h : ∀ (j : Nat) (x : Fld), t[j]? = some x → plainB x = true) : mayB t = true := by
  unfold mayB
  simp only [Bool.and_eq_true, decide_eq_true_eq, List.all_eq_true]
  refine ⟨h1, h6, fun x hx => ?_⟩
  obtain ⟨j, hj⟩ := List.mem_iff_getElem?.1 hx
  exact h j x hj
theorem mayTB_of {t : List Fld} (h1 : 1 ≤ t.length) (h6 : t.length ≤ 6) (h : ∀ (j : Nat) (x : Fld), t[j]? = some x → askedB x = true) : mayTB t = true := by
  unfold mayTB
  simp only [Bool.and_eq_true, decide_eq_true_eq, List.all_eq_true]
  refine ⟨h1, h6, fun x hx => ?_⟩
  obtain ⟨j, hj⟩ := List.mem_iff_getElem?.1 hx
  exact h j x hj
/-- p is t with some fields open. -/
def OpenL (t p : List Fld) : Prop := p.length = t.length ∧ ∀ (j : Nat) (x y : Fld), t[j]? = some x → p[j]? = some y → OpenOf x y
theorem OpenL.refl (t : List Fld) : OpenL t t := ⟨rfl, fun j x y hx hy => by rw [hx] at hy; cases hy; exact .inl rfl⟩
theorem OpenL.set {t p : List Fld} (h : OpenL t p) {k : Nat} {x y : Fld} (hx : t[k]? = some x) (hy : OpenOf x y) : OpenL t (p.set k y) := by
  refine ⟨by rw [List.length_set]; exact h.1, fun j a b ha hb => ?_⟩
  rw [List.getElem?_set] at hb
  split at hb
  · rename_i e
    subst e
    split at hb
    · cases hb
      rw [hx] at ha
      cases ha
      exact hy
    · cases hb
  · exact h.2 j a b ha hb
theorem OpenL.mayT {t p : List Fld} (ht : mayB t = true) (h : OpenL t p) : mayTB p = true := by
  obtain ⟨h1, h6, hp⟩ := mayB_all ht
  refine mayTB_of (by rw [h.1]; exact h1) (by rw [h.1]; exact h6) fun j y hy => ?_
  have hj : j < t.length := by rw [← h.1]; exact (List.getElem?_eq_some_iff.1 hy).1
  exact (open_fits (hp j _ (List.getElem?_eq_getElem hj)) (h.2 j _ y (List.getElem?_eq_getElem hj) hy)).2
theorem OpenL.match_ {t p : List Fld} (ht : mayB t = true) (h : OpenL t p) : matchB p t = true := by
  unfold matchB
  rw [h.mayT ht, ht, Bool.true_and, Bool.true_and]
  obtain ⟨_, _, hp⟩ := mayB_all ht
  exact (all2_iff _ _ _).2 ⟨h.1, fun k y x hy hx => (open_fits (hp k x hx) (h.2 k x y hx hy)).1⟩
theorem may_set {t : List Fld} (ht : mayB t = true) (k : Nat) {f : Fld} (hf : plainB f = true) : mayB (t.set k f) = true := by
  obtain ⟨h1, h6, hp⟩ := mayB_all ht
  refine mayB_of (by rw [List.length_set]; exact h1) (by rw [List.length_set]; exact h6) fun j x hx => ?_
  rw [List.getElem?_set] at hx
  split at hx
  · split at hx
    · cases hx; exact hf
    · cases hx
  · exact hp j x hx
theorem OpenL.match_set {t p : List Fld} (ht : mayB t = true) (h : OpenL t p) {k : Nat} {x y f : Fld} (hx : t[k]? = some x) (hy : p[k]? = some y) (hf : plainB f = true) (h1 : f.kind = 1) (hne : x ≠ f) :
    matchB p (t.set k f) = (y.kind == 5 || (y.kind == 3 && x.kind == 1)) := by
  obtain ⟨_, _, hp⟩ := mayB_all ht
  have hk : k < t.length := (List.getElem?_eq_some_iff.1 hx).1
  have hg : (t.set k f)[k]? = some f := by rw [List.getElem?_set]; simp [hk]
  have hfit : fitsB y f = (y.kind == 5 || (y.kind == 3 && x.kind == 1)) := by
    have hpx := hp k x hx
    rcases h.2 k x y hx hy with rfl | rfl | rfl
    · unfold fitsB
      rcases plain_kind hpx with ⟨hkk, _⟩ | hkk <;> rw [if_neg (by omega), if_neg (by omega), if_neg (by omega), fdEq_false hne] <;> simp [hkk]
    · rfl
    · rcases plain_kind hpx with ⟨hkk, _⟩ | hkk <;> simp [fitsB, hkk, h1]
  rw [← hfit]
  unfold matchB
  rw [h.mayT ht, may_set ht k hf, Bool.true_and, Bool.true_and]
  cases hq : fitsB y f with
  | false => exact all2_false hy hg hq
  | true =>
    refine (all2_iff _ _ _).2 ⟨by rw [List.length_set]; exact h.1, fun j b a hb ha => ?_⟩
    rw [List.getElem?_set] at ha
    split at ha
    · rename_i e
      subst e
      cases ha
      rw [hy] at hb
      cases hb
      exact hq
    · exact (open_fits (hp j a ha) (h.2 j a b ha hb)).1
theorem match_set_no {t : List Fld} (ht : mayB t = true) {k : Nat} {x f : Fld} (hx : t[k]? = some x) (hne : x ≠ f) : matchB t (t.set k f) = false := by
  obtain ⟨_, _, hp⟩ := mayB_all ht
  have hk : k < t.length := (List.getElem?_eq_some_iff.1 hx).1
  have hg : (t.set k f)[k]? = some f := by rw [List.getElem?_set]; simp [hk]
  have hfit : fitsB x f = false := by
    unfold fitsB
    rcases plain_kind (hp k x hx) with ⟨hkk, _⟩ | hkk <;> rw [if_neg (by omega), if_neg (by omega), if_neg (by omega), fdEq_false hne]
  unfold matchB
  rw [show fitsL t (t.set k f) = false from all2_false hx hg hfit]
  simp
theorem match_more (t : List Fld) (f : Fld) : matchB t (t ++ [f]) = false := by
  unfold matchB
  rw [show fitsL t (t ++ [f]) = false from all2_len_ne (by simp)]
  simp
theorem xor1 (n : Int) : bits .xor .i64 n 1 ≠ n ∧ -9223372036854775808 ≤ bits .xor .i64 n 1 ∧ bits .xor .i64 n 1 ≤ 9223372036854775807 := by
  have hw : ∀ z : BitVec 64, IntKind.i64.wrap (z.toNat : Int) = z.toInt := by
    intro z
    rw [IntKind.wrap_i64]
    have h := z.isLt
    rw [BitVec.toInt_eq_toNat_cond]
    split <;> omega
  have hb : bits .xor .i64 n 1 = (BitVec.ofInt 64 n ^^^ BitVec.ofInt 64 1).toInt := hw _
  rw [hb]
  generalize hz : (BitVec.ofInt 64 n ^^^ BitVec.ofInt 64 1) = z
  refine ⟨fun e => ?_, ?_, ?_⟩
  · have h1 : BitVec.ofInt 64 z.toInt = z := BitVec.ofInt_toInt
    rw [e] at h1
    rw [h1] at hz
    have h2 : z ^^^ (z ^^^ BitVec.ofInt 64 1) = z ^^^ z := by rw [hz]
    rw [← BitVec.xor_assoc, BitVec.xor_self, BitVec.zero_xor] at h2
    exact absurd h2 (by decide)
  · have := BitVec.le_toInt z
    simpa using this
  · have := BitVec.toInt_lt (x := z)
    simp at this
    omega
/-- The cells of fields determine them, and they are these. -/
theorem reps_fld {w : World} {c : Col} : ∀ {xs : List Fld} {cells : List Value}, Reps kFld w c xs cells → cells = xs.flatMap fCells ∧ ∀ x ∈ xs, x.ok
  | [], cells, h => by
    have := h.1
    simp at this
    exact ⟨by simp [this], by simp⟩
  | x :: xs, cells, h => by
    have h0 := h.2 0 x rfl
    rw [Nat.zero_mul, List.drop_zero] at h0
    have h3 : Reps kFld w c xs (cells.drop 3) := by
      refine ⟨by rw [List.length_drop, h.1, List.length_cons]; simp only [kFld]; omega, fun j y hj => ?_⟩
      have := h.2 (j + 1) y (by simpa using hj)
      rw [List.drop_drop]
      simp only [kFld] at this ⊢
      rw [show 3 + j * 3 = (j + 1) * 3 by omega]
      exact this
    obtain ⟨ih, ihok⟩ := reps_fld h3
    refine ⟨?_, fun y hy => ?_⟩
    · rw [List.flatMap_cons, ← ih, ← h0.1]
      exact (List.take_append_drop 3 cells).symm
    · rcases List.mem_cons.1 hy with rfl | hy
      · exact h0.2
      · exact ihok y hy
theorem fcells_set : ∀ (xs : List Fld) (k : Nat) (f : Fld), k < xs.length → (((xs.flatMap fCells).set (k * 3) (.int .i64 f.kind)).set (k * 3 + 1) (.int .i64 f.n)).set (k * 3 + 2) (.string ⟨f.s.toArray⟩) = (xs.set k f).flatMap fCells
  | [], k, f, h => by simp at h
  | x :: xs, 0, f, h => by simp [fCells]
  | x :: xs, k + 1, f, h => by
    have ih := fcells_set xs k f (by simpa using h)
    have e : (k + 1) * 3 = k * 3 + 3 := by omega
    rw [e]
    simp only [List.flatMap_cons, List.set_cons_succ, fCells, List.cons_append, List.nil_append]
    rw [← ih]
theorem fcells_at {xs : List Fld} {k : Nat} {x : Fld} (h : xs[k]? = some x) : (xs.flatMap fCells)[k * 3]? = some (.int .i64 x.kind) ∧ (xs.flatMap fCells)[k * 3 + 1]? = some (.int .i64 x.n) ∧ (xs.flatMap fCells)[k * 3 + 2]? = some (.string ⟨x.s.toArray⟩) := by
  have h1 := drop_take_flat fCells 3 (fun _ => rfl) xs k x h
  have g : ∀ i, i < 3 → (xs.flatMap fCells)[k * 3 + i]? = (fCells x)[i]? := by
    intro i hi
    rw [← h1, List.getElem?_take, if_pos hi, List.getElem?_drop]
  exact ⟨g 0 (by omega), g 1 (by omega), g 2 (by omega)⟩
theorem fcells_set1 : ∀ (xs : List Fld) (k : Nat) (x : Fld) (z : Int), xs[k]? = some x → (xs.flatMap fCells).set (k * 3 + 1) (.int .i64 z) = (xs.set k ⟨x.kind, z, x.s⟩).flatMap fCells
  | [], k, x, z, h => by simp at h
  | y :: xs, 0, x, z, h => by
    simp at h
    subst h
    simp [fCells]
  | y :: xs, k + 1, x, z, h => by
    have ih := fcells_set1 xs k x z (by simpa using h)
    have e : (k + 1) * 3 = k * 3 + 3 := by omega
    rw [e]
    simp only [List.flatMap_cons, List.set_cons_succ, fCells, List.cons_append, List.nil_append]
    rw [← ih]
theorem own_empty3 (w0 W : World) (e : TypeId) (sz : Nat) (h : w0.heap.size ≤ W.heap.size) : (W.alloc (.cells #[] e)).ownsRow w0.heap.size e sz (.slice (some ⟨W.heap.size, 0, none⟩) 0 0) 0 [] :=
  World.ownsRow_lit (base := w0.heap.size) (e := e) (size := sz) W #[] 0 h (by simp [maxLen]) (by simp)
theorem own_fresh {w W : World} {b : Nat} {c : Col} {A : Option Addr} {n cp : Nat} {e : TypeId} {t : List Fld} {cells2 : List Value} (h : W.ownsRow b e 3 (.slice A (0 + n) cp) (0 + n) ([] ++ cells2)) (hr : Reps kFld w c t cells2) (hn : 0 < n) :
    ∃ g, A = some ⟨g, 0, none⟩ ∧ W.ownsRow b e 3 (.slice (some ⟨g, 0, none⟩) n cp) n (t.flatMap fCells) := by
  rw [Nat.zero_add, List.nil_append, (reps_fld hr).1] at h
  rcases h.2 with h0 | ⟨g, cap, cur, hv, _⟩
  · omega
  · cases hv
    exact ⟨g, rfl, h⟩
end Go.Proofs.Ytladpckbajnbeaa
