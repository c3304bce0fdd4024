/- disk: the document's disk: its ground. -/
import Derived.Test.YtalihocoekplgaaDskL
set_option linter.unusedVariables false
set_option linter.unusedSimpArgs false
namespace Go.Proofs.Ytalihocoekplgaa
open Go.RowKit

structure RSec where
  is : List UInt8
  was : List UInt8
  dirty : Bool
def rcells (x : RSec) : List Value := bcells x.is ++ bcells x.was ++ [.bool x.dirty]
def ROk (R : List RSec) : Prop := ∀ x ∈ R, x.is.length = 64 ∧ x.was.length = 64
theorem rcells_len {x : RSec} (h : x.is.length = 64 ∧ x.was.length = 64) : (rcells x).length = 129 := by
  simp [rcells, bcells_length, h.1, h.2]
theorem rcells_one {x : RSec} {v : Value} (h : v ∈ rcells x) : v.oneCell' = true := by
  unfold rcells at h
  rw [List.mem_append, List.mem_append] at h
  rcases h with (h | h) | h
  · exact bcells_one h
  · exact bcells_one h
  · simp at h
    subst h
    rfl
theorem flat129 : ∀ (R : List RSec) (k : Nat) (x : RSec), ROk R → R[k]? = some x → ∀ j, j < 129 → (R.flatMap rcells)[k * 129 + j]? = (rcells x)[j]?
  | [], k, x, _, h, _, _ => by simp at h
  | z :: R, 0, x, hl, h, j, hj => by
    simp at h
    subst h
    rw [List.flatMap_cons, Nat.zero_mul, Nat.zero_add, List.getElem?_append_left (by rw [rcells_len (hl z (by simp))]; exact hj)]
  | z :: R, k + 1, x, hl, h, j, hj => by
    have ih := flat129 R k x (fun s hs => hl s (by simp [hs])) (by simpa using h) j hj
    have hz := rcells_len (hl z (by simp))
    rw [List.flatMap_cons, List.getElem?_append_right (by rw [hz]; omega), hz]
    have : (k + 1) * 129 + j - 129 = k * 129 + j := by omega
    rw [this]
    exact ih
theorem flat129_len : ∀ (R : List RSec), ROk R → (R.flatMap rcells).length = R.length * 129
  | [], _ => rfl
  | z :: R, h => by
    rw [List.flatMap_cons, List.length_append, rcells_len (h z (by simp)), flat129_len R (fun s hs => h s (by simp [hs])), List.length_cons]
    omega
theorem ROk.set {R : List RSec} (h : ROk R) {k : Nat} {x : RSec} (hx : x.is.length = 64 ∧ x.was.length = 64) : ROk (R.set k x) := by
  intro t ht
  rcases List.mem_or_eq_of_mem_set ht with h1 | rfl
  · exact h t h1
  · exact hx
theorem setL_mid {α : Type} (a b c b' : List α) (h : b'.length = b.length) : setL (a ++ b ++ c) a.length b' = a ++ b' ++ c := by
  apply List.ext_getElem?
  intro i
  rw [setL_get]
  by_cases h1 : i < a.length
  · rw [if_neg (by omega), List.append_assoc, List.getElem?_append_left h1, List.append_assoc, List.getElem?_append_left h1]
  · by_cases h2 : i < a.length + b.length
    · rw [if_pos (by omega), if_pos (by simp; omega), List.append_assoc, List.getElem?_append_right (by omega), List.getElem?_append_left (by omega)]
    · rw [if_neg (by omega), List.getElem?_append_right (by simp; omega), List.getElem?_append_right (by simp; omega)]
      simp [h]
theorem set_is {x : RSec} (h : x.is.length = 64) {s : List UInt8} (hs : s.length = 64) : setL (rcells x) 0 (bcells s) = rcells { x with is := s } := by
  have := setL_mid ([] : List Value) (bcells x.is) (bcells x.was ++ [.bool x.dirty]) (bcells s) (by rw [bcells_length, bcells_length]; omega)
  simpa [rcells] using this
theorem set_was {x : RSec} (h : x.is.length = 64 ∧ x.was.length = 64) {s : List UInt8} (hs : s.length = 64) : setL (rcells x) 64 (bcells s) = rcells { x with was := s } := by
  have := setL_mid (bcells x.is) (bcells x.was) [.bool x.dirty] (bcells s) (by rw [bcells_length, bcells_length]; omega)
  rw [bcells_length, h.1] at this
  exact this
theorem set_dirty {x : RSec} (h : x.is.length = 64 ∧ x.was.length = 64) (b : Bool) : setL (rcells x) 128 [.bool b] = rcells { x with dirty := b } := by
  have := setL_mid (bcells x.is ++ bcells x.was) [Value.bool x.dirty] [] [.bool b] rfl
  rw [List.length_append, bcells_length, bcells_length, h.1, h.2] at this
  simpa [rcells] using this
theorem flat129_set {R : List RSec} {k o : Nat} {x x' : RSec} {vs : List Value} (hl : ROk R) (hx : R[k]? = some x) (hx' : x'.is.length = 64 ∧ x'.was.length = 64) (ho : o + vs.length ≤ 129) (hs : setL (rcells x) o vs = rcells x') : setL (R.flatMap rcells) (k * 129 + o) vs = (R.set k x').flatMap rcells := by
  have hk := (List.getElem?_eq_some_iff.1 hx).1
  have hl2 : ROk (R.set k x') := hl.set hx'
  have hxl := rcells_len (hl x (List.mem_of_getElem? hx))
  apply List.ext_getElem?
  intro i
  rw [setL_get, flat129_len R hl]
  have hi : i = i / 129 * 129 + i % 129 := by omega
  have hm : i % 129 < 129 := by omega
  by_cases hn : i / 129 < R.length
  · have hy2 := List.getElem?_eq_getElem hn
    have h1 := flat129 R (i / 129) _ hl hy2 (i % 129) hm
    rw [← hi] at h1
    by_cases hik : i / 129 = k
    · have h2 := flat129 (R.set k x') k x' hl2 (List.getElem?_set_self hk) (i % 129) hm
      rw [← hik, ← hi, hik, ← hs, setL_get, hxl] at h2
      rw [h2]
      by_cases hf : o ≤ i % 129 ∧ i % 129 < o + vs.length
      · rw [if_pos (by omega), if_pos (by omega), if_pos hf, if_pos hm]
        congr 1
        omega
      · rw [if_neg (by omega), if_neg hf, h1]
        have hz : R[i / 129] = x := by
          subst hik
          rw [hx] at hy2
          exact (Option.some.inj hy2).symm
        rw [hz]
    · have h2 := flat129 (R.set k x') (i / 129) _ hl2 (by rw [List.getElem?_set_ne (fun e => hik e.symm)]; exact hy2) (i % 129) hm
      rw [← hi] at h2
      rw [if_neg (by omega), h1, h2]
  · rw [if_neg (by omega), List.getElem?_eq_none (by rw [flat129_len R hl]; omega), List.getElem?_eq_none (by rw [flat129_len _ hl2, List.length_set]; omega)]

/-- The document's disk. -/
def RDk (w : World) (c : Col) (g n : Nat) (R : List RSec) : Prop :=
  c g = some g ∧ ∃ A cp, w.heap[g]? = some (.cells #[.slice A n cp] 79 (0, 0)) ∧ OwnB w c g 81 129 (.slice A n cp) n (R.flatMap rcells) ∧ R.length = n ∧ ROk R ∧ n ≤ 4096
theorem RDk.tr {M : Nat → Prop} {w w' : World} {c c' : Col} {g n : Nat} {R : List RSec} (h : RDk w c g n R) (k : Tr M c c' w w') (hM : ¬ M g) : RDk w' c' g n R := by
  obtain ⟨hg, A, cp, h1, h4, h5⟩ := h
  obtain ⟨a1, a2⟩ := k.at_ hg hM
  exact ⟨a1, A, cp, by rw [a2]; exact h1, h4.tr k hM, h5⟩
theorem RDk.lt {w : World} {c : Col} {g n : Nat} {R : List RSec} (h : RDk w c g n R) : g < w.heap.size := by
  obtain ⟨hg, A, cp, h1, _⟩ := h
  exact blk_lt h1
/-- Cells of a sector of the document's disk. -/
theorem rsec_range {w : World} {b n cp k o : Nat} {R : List RSec} {x : RSec} {cs : List Value} (ho : w.ownsRow 0 81 129 (.slice (some ⟨b, 0, none⟩) n cp) n (R.flatMap rcells)) (hl : ROk R) (hx : R[k]? = some x) (hc : ∀ j v, cs[j]? = some v → (rcells x)[o + j]? = some v ∧ o + j < 129) : w.rangeAt b (k * 129 + o) cs := by
  intro j v hv
  obtain ⟨h1, h2⟩ := hc j v hv
  have h := ho.cells (g := b) rfl (k * 129 + (o + j)) v (by rw [flat129 R k x hl hx _ h2]; exact h1)
  rw [addr_add] at h
  have e : 0 + (k * 129 + (o + j)) = k * 129 + o + j := by omega
  rw [e] at h
  exact h
theorem rsec_is {w : World} {b n cp k : Nat} {R : List RSec} {x : RSec} (ho : w.ownsRow 0 81 129 (.slice (some ⟨b, 0, none⟩) n cp) n (R.flatMap rcells)) (hl : ROk R) (hx : R[k]? = some x) : w.rangeAt b (k * 129) (bcells x.is) := by
  have hxl := hl x (List.mem_of_getElem? hx)
  have h := rsec_range (o := 0) (cs := bcells x.is) ho hl hx (fun j v hv => by
    have hj := (List.getElem?_eq_some_iff.1 hv).1
    rw [bcells_length] at hj
    refine ⟨?_, by omega⟩
    rw [Nat.zero_add]
    unfold rcells
    rw [List.append_assoc, List.getElem?_append_left (by rw [bcells_length]; exact hj)]
    exact hv)
  rw [Nat.add_zero] at h
  exact h
theorem rsec_was {w : World} {b n cp k : Nat} {R : List RSec} {x : RSec} (ho : w.ownsRow 0 81 129 (.slice (some ⟨b, 0, none⟩) n cp) n (R.flatMap rcells)) (hl : ROk R) (hx : R[k]? = some x) : w.rangeAt b (k * 129 + 64) (bcells x.was) := by
  have hxl := hl x (List.mem_of_getElem? hx)
  refine rsec_range (o := 64) ho hl hx fun j v hv => ?_
  have hj := (List.getElem?_eq_some_iff.1 hv).1
  rw [bcells_length] at hj
  refine ⟨?_, by omega⟩
  unfold rcells
  rw [List.append_assoc, List.getElem?_append_right (by rw [bcells_length]; omega), bcells_length, List.getElem?_append_left (by rw [bcells_length]; omega)]
  rw [show 64 + j - x.is.length = j by omega]
  exact hv
theorem rsec_dirty {w : World} {b n cp k : Nat} {R : List RSec} {x : RSec} (ho : w.ownsRow 0 81 129 (.slice (some ⟨b, 0, none⟩) n cp) n (R.flatMap rcells)) (hl : ROk R) (hx : R[k]? = some x) : w.cell? ⟨b, k * 129 + 128, none⟩ = some (.bool x.dirty) := by
  have hxl := hl x (List.mem_of_getElem? hx)
  refine rsec_range (o := 128) (cs := [.bool x.dirty]) ho hl hx (fun j v hv => ?_) 0 _ rfl
  have hj := (List.getElem?_eq_some_iff.1 hv).1
  simp at hj
  subst hj
  refine ⟨?_, by omega⟩
  unfold rcells
  rw [List.getElem?_append_right (by simp [bcells_length]; omega)]
  simp [bcells_length, hxl.1, hxl.2] at hv ⊢
  exact hv
theorem rsec_there {w : World} {b n cp k o m : Nat} {xs : List Value} (ho : w.ownsRow 0 81 129 (.slice (some ⟨b, 0, none⟩) n cp) n xs) (hk : k < n) (hm : o + m ≤ 129) : w.there b (k * 129 + o) m := by
  intro j hj
  have hl := ho.1
  refine ⟨?_, ho.frozenAt _⟩
  rw [ho.cellAt _ (by omega), List.getElem?_eq_getElem (by omega)]
  rfl
end Go.Proofs.Ytalihocoekplgaa
