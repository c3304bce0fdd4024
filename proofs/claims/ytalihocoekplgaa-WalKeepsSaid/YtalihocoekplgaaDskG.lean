/- disk: many cells of a row at once; a map is cleared. -/
import Derived.Test.YtalihocoekplgaaDskF
set_option linter.unusedVariables false
set_option linter.unusedSimpArgs false
namespace Go.Proofs.Ytalihocoekplgaa
open Go.RowKit Go.ChangeMaps

theorem Tr.setCells {M : Nat → Prop} {c c1 : Col} {w : World} {b g : Nat} (hp : c1 b = some g) : ∀ (vs : List Value) (o : Nat) {w1 : World}, Tr M c c1 w w1 → (M g ∨ w.heap.size ≤ g) → Tr M c c1 w (w1.setCells b o vs)
  | [], _, _, h, _ => h
  | v :: r, o, w1, h, hg => Tr.setCells hp r (o + 1) (h.setCell (p := ⟨b, o, none⟩) hp hg v) hg
theorem heap_of_setCells {b j : Nat} (hj : j ≠ b) : ∀ (vs : List Value) (o : Nat) (w : World), (w.setCells b o vs).heap[j]? = w.heap[j]?
  | [], _, _ => rfl
  | v :: r, o, w => by
    show ((w.setCell ⟨b, o, none⟩ v).setCells b (o + 1) r).heap[j]? = _
    rw [heap_of_setCells hj r (o + 1), heap_of_setCell _ _ _ _ hj]
def setL {α : Type} : List α → Nat → List α → List α
  | xs, _, [] => xs
  | xs, o, v :: r => setL (xs.set o v) (o + 1) r
theorem setL_len {α : Type} : ∀ (vs : List α) (xs : List α) (o : Nat), (setL xs o vs).length = xs.length
  | [], _, _ => rfl
  | v :: r, xs, o => by
    show (setL (xs.set o v) (o + 1) r).length = _
    rw [setL_len r, List.length_set]
theorem setL_get {α : Type} : ∀ (vs : List α) (xs : List α) (o i : Nat), (setL xs o vs)[i]? = if o ≤ i ∧ i < o + vs.length then (if i < xs.length then vs[i - o]? else none) else xs[i]?
  | [], xs, o, i => by
    rw [if_neg (by rintro ⟨h1, h2⟩; simp only [List.length_nil] at h2; omega)]
    rfl
  | v :: r, xs, o, i => by
    show (setL (xs.set o v) (o + 1) r)[i]? = _
    rw [setL_get r, List.length_set, List.length_cons]
    by_cases h : o = i
    · subst h
      rw [if_neg (by omega), if_pos (by omega), List.getElem?_set, if_pos rfl]
      simp
    · by_cases h2 : o + 1 ≤ i ∧ i < o + 1 + r.length
      · have e1 : i - o = (i - (o + 1)) + 1 := by omega
        rw [if_pos h2, if_pos (show o ≤ i ∧ i < o + (r.length + 1) by omega), e1, List.getElem?_cons_succ]
      · rw [if_neg h2, List.getElem?_set_ne h, if_neg (by omega)]
theorem own_setCells {e : TypeId} {sz n cp b base : Nat} : ∀ (vs : List Value) (o : Nat) {w : World} {xs : List Value}, w.ownsRow base e sz (.slice (some ⟨b, 0, none⟩) n cp) n xs → (w.setCells b o vs).ownsRow base e sz (.slice (some ⟨b, 0, none⟩) n cp) n (setL xs o vs)
  | [], _, _, _, h => h
  | v :: r, o, w, xs, h => own_setCells r (o + 1) (h.stored o v).1
theorem flat_len : ∀ (Y : List (List UInt8)), (∀ s ∈ Y, s.length = 64) → (Y.flatMap bcells).length = Y.length * 64
  | [], _ => rfl
  | z :: Y, h => by
    rw [List.flatMap_cons, List.length_append, bcells_length, h z (by simp), flat_len Y (fun s hs => h s (by simp [hs])), List.length_cons]
    omega
theorem flat_set {Y : List (List UInt8)} {k : Nat} {s : List UInt8} (hl : ∀ s ∈ Y, s.length = 64) (hk : k < Y.length) (hs : s.length = 64) : setL (Y.flatMap bcells) (k * 64) (bcells s) = (Y.set k s).flatMap bcells := by
  have hl2 : ∀ t ∈ Y.set k s, t.length = 64 := by
    intro t ht
    rcases List.mem_or_eq_of_mem_set ht with h | rfl
    · exact hl t h
    · exact hs
  apply List.ext_getElem?
  intro i
  rw [setL_get, bcells_length, hs, flat_len Y hl]
  have hi : i = i / 64 * 64 + i % 64 := by omega
  have hm : i % 64 < 64 := by omega
  by_cases hn : i / 64 < Y.length
  · have hy := List.getElem?_eq_getElem hn
    by_cases hik : i / 64 = k
    · have h2 := flat64 (Y.set k s) k s hl2 (List.getElem?_set_self hk) (i % 64) hm
      rw [← hik, ← hi] at h2
      rw [hik] at h2
      rw [if_pos (by omega), if_pos (by omega), h2]
      congr 1
      omega
    · have h1 := flat64 Y (i / 64) _ hl hy (i % 64) hm
      have h2 := flat64 (Y.set k s) (i / 64) _ hl2 (by rw [List.getElem?_set_ne (fun e => hik e.symm)]; exact hy) (i % 64) hm
      rw [← hi] at h1 h2
      rw [if_neg (by omega), h1, h2]
  · rw [if_neg (by omega), List.getElem?_eq_none (by rw [flat_len Y hl]; omega), List.getElem?_eq_none (by rw [flat_len _ hl2, List.length_set]; omega)]
theorem MapS.clear {w : World} {m N : Nat} {D : Dt} (h : MapS w m N D) :
    ∃ w', (Builtin.clear_ #[65] 0 #[.map (some m)]).run Try.prog w = .ok (.tuple #[]) w' ∧ MapS w' m 0 (fun _ => none) ∧ w.grownBy w' (some m) := by
  obtain ⟨dat, ⟨es, clock, hb, F⟩, h2, h3⟩ := h
  refine ⟨setBlock w m (.map #[] clock), ?_, ⟨.map [], ⟨#[], clock, (Go.MapKept.heap_set hb).1, ⟨by simp, Go.MapKept.stamped_empty clock, by simp⟩, by simp, rfl⟩, fun k z => rfl, fun k s hk => by cases hk⟩, ⟨rfl, rfl, rfl, by simp [setBlock], fun i _ hi => (Go.MapKept.heap_set hb).2 i (fun e => hi (by rw [e]))⟩⟩
  simp [Builtin.clear_, run_underlying Try.underlying65, Go.MapKept.run_getObj_map hb, Go.MapKept.run_setObj_map _ hb, Result.andThen]
  rfl
end Go.Proofs.Ytalihocoekplgaa
