/- client: plain laws. -/
import Derived.Test.YtladpckbajnbeaaCliH
set_option linter.unusedVariables false
set_option linter.unusedSimpArgs false
namespace Go.Proofs.Ytladpckbajnbeaa
open Go.RowKit

theorem take_app_inj {α : Type} {a b c d : List α} (h : a ++ b = c ++ d) (hl : a.length = c.length) : a = c ∧ b = d := List.append_inj h hl
theorem numB1_eq {a b : Nat} (ha : a < 256) (hb : b < 256) (h : numB a 1 = numB b 1) : a = b := by
  have h1 := num_wrote1 a [] ha
  have h2 := num_wrote1 b [] hb
  rw [h, h2] at h1
  have h3 := congrArg Prod.fst h1
  exact h3.symm
theorem numB4_eq {a b : Nat} (ha : a < 4294967296) (hb : b < 4294967296) (h : numB a 4 = numB b 4) : a = b := by
  have h1 := num_wrote4 a [] ha
  have h2 := num_wrote4 b [] hb
  rw [h, h2] at h1
  have h3 := congrArg Prod.fst h1
  exact h3.symm
theorem textB_head (a : List UInt8) (ha : a.length < 16777216) : ∃ r, textB a = 0 :: r := by
  have h : a.length / 256 ^ 3 = 0 := by omega
  refine ⟨numB a.length 3 ++ a, ?_⟩
  show UInt8.ofNat (a.length / 256 ^ 3) :: numB a.length 3 ++ a = _
  rw [h]
  rfl
def Rep.ok (x : Rep) : Prop := ∀ f ∈ x.t, f.ok
theorem mayP_t' {x : Rep} (h : mayP x = true) : mayTB x.t = true ∨ x.t = [] := by
  unfold mayP at h
  simp only [Bool.and_eq_true] at h
  have h5 := h.2
  split at h5
  · exact .inl (may_tmpl h5)
  · simp only [Bool.and_eq_true, List.isEmpty_iff] at h5
    exact .inr h5.2.2.1
theorem fB_inj {p q : List Fld} (hp : mayTB p = true ∨ p = []) (hop : ∀ f ∈ p, f.ok) (hq : mayTB q = true ∨ q = []) (hoq : ∀ f ∈ q, f.ok) (h : fB p = fB q) : p = q := by
  rw [← get_fB hp hop, ← get_fB hq hoq, h]
theorem textB_inj {a b : List UInt8} (ha : a.length < 4294967296) (hb : b.length < 4294967296) (h : textB a = textB b) : a = b := by
  unfold textB at h
  exact (take_app_inj h (by rw [numB_length, numB_length])).2
theorem word_inj {x y : Rep} (hx : mayP x = true) (hox : x.ok) (hy : mayP y = true) (hoy : y.ok) (h : wordB x = wordB y) : x = y := by
  obtain ⟨a1, a2, a3, a4, a5, a6⟩ := mayP_nums hx
  obtain ⟨b1, b2, b3, b4, b5, b6⟩ := mayP_nums hy
  unfold wordB at h
  obtain ⟨h1, h⟩ := take_app_inj h (by rw [numB_length, numB_length])
  obtain ⟨h2, h⟩ := take_app_inj h (by rw [numB_length, numB_length])
  obtain ⟨h3, h⟩ := take_app_inj h (by rw [numB_length, numB_length])
  have e1 := numB1_eq (by omega) (by omega) h1
  have e2 := numB4_eq (by omega) (by omega) h2
  have e3 := numB1_eq (by omega) (by omega) h3
  have lx := fB_len x.t
  have ly := fB_len y.t
  obtain ⟨rx, hrx⟩ := textB_head (fB x.t) (by omega)
  obtain ⟨ry, hry⟩ := textB_head (fB y.t) (by omega)
  have e4 : x.late = y.late ∧ textB (fB x.t) = textB (fB y.t) := by
    cases hlx : x.late <;> cases hly : y.late
    · exact ⟨rfl, by simpa [hlx, hly] using h⟩
    · rw [hlx, hly, hrx] at h
      simp [numB] at h
    · rw [hlx, hly, hry] at h
      simp [numB] at h
    · exact ⟨rfl, by simpa [hlx, hly] using h⟩
  have e5 := fB_inj (mayP_t' hx) hox (mayP_t' hy) hoy (textB_inj (by omega) (by omega) e4.2)
  exact Rep.ext' (by omega) (by omega) (by omega) e5 e4.1
theorem Rd.oks {w : World} {c : Col} {A : Option Addr} {n cp : Nat} {l : List Fld} (h : Rd kFld w c A n cp l) : ∀ f ∈ l, f.ok := by
  intro f hf
  obtain ⟨j, hj⟩ := List.getElem?_of_mem hf
  have hlt := (List.getElem?_eq_some_iff.1 hj).1
  rw [h.len] at hlt
  obtain ⟨b, off, rfl⟩ := h.addr (by omega)
  obtain ⟨_, _, cs, hr, _⟩ := h.elem hj
  exact hr.2
theorem Sd.put_self (S : Sd) (k : List UInt8) (i : Nat) : S.put k i k = (S k).set i true := by simp [Sd.put]
theorem Sd.put_other (S : Sd) {k k' : List UInt8} (i : Nat) (h : k' ≠ k) : S.put k i k' = S k' := by simp [Sd.put, h]
theorem hear_set {f : Int} {i : Nat} {S : Sd} {T : List Rep} {x : Rep} (hm : mayP x = true) (h : (S (wordB x))[i]? = some true) : hearL f i ⟨S, T, []⟩ [x] = ⟨S, T, []⟩ := by
  rw [hear1 hm, Sd.put_same h, if_neg]
  simp [sayR, h]
theorem hear_new {k i : Nat} {S : Sd} {T : List Rep} {x : Rep} (hm : mayP x = true) (h : (S (wordB x))[i]? = some false) :
    hearL (k : Int) i ⟨S, T, []⟩ [x] = if (S (wordB x)).count true = k then ⟨S.put (wordB x) i, T ++ [x], [x]⟩ else ⟨S.put (wordB x) i, T, []⟩ := by
  rw [hear1 hm]
  have e : sayR (k : Int) (S (wordB x)) i = decide ((S (wordB x)).count true = k) := by
    unfold sayR
    rw [h, count_set h]
    simp
    omega
  rw [e]
  by_cases hc : (S (wordB x)).count true = k
  · simp [hc]
  · simp [hc]
theorem hear_two {k i : Nat} {S : Sd} {T : List Rep} {x : Rep} (hm : mayP x = true) (hl : i < (S (wordB x)).length) : hearL (k : Int) i ⟨S, T, []⟩ [x, x] = hearL (k : Int) i ⟨S, T, []⟩ [x] := by
  have e : ∀ s : HS, i < (s.S (wordB x)).length → hearOne (k : Int) i (hearOne (k : Int) i s x) x = hearOne (k : Int) i s x := by
    intro s hs
    obtain ⟨S, T, out⟩ := s
    have h1 : ((S.put (wordB x) i) (wordB x))[i]? = some true := by rw [Sd.put_self]; exact List.getElem?_set_self hs
    have h2 : sayR (k : Int) ((S.put (wordB x) i) (wordB x)) i = false := by unfold sayR; rw [h1]; rfl
    unfold hearOne
    simp only [hm, if_true]
    split
    · simp only [h2, Sd.put_same h1]
      simp
    · simp only [h2, Sd.put_same h1]
      simp
  show hearOne _ _ (hearOne _ _ _ x) x = hearOne _ _ _ x
  exact e _ hl
theorem hear_no {f : Int} {i : Nat} {S : Sd} {T : List Rep} {x : Rep} (hm : mayP x = false) : hearL f i ⟨S, T, []⟩ [x] = ⟨S, T, []⟩ := by
  simp [hearL, hearOne, hm]
/-- The first so many of seven. -/
def firstT (j : Nat) : List Bool := (List.range 7).map (fun i => decide (i < j))
theorem firstT_zero : firstT 0 = allF := by decide
theorem firstT_at {i : Nat} (h : i < 7) : (firstT i)[i]? = some false := by
  have : i = 0 ∨ i = 1 ∨ i = 2 ∨ i = 3 ∨ i = 4 ∨ i = 5 ∨ i = 6 := by omega
  rcases this with rfl | rfl | rfl | rfl | rfl | rfl | rfl <;> decide
theorem firstT_set {i : Nat} (h : i < 7) : (firstT i).set i true = firstT (i + 1) := by
  have : i = 0 ∨ i = 1 ∨ i = 2 ∨ i = 3 ∨ i = 4 ∨ i = 5 ∨ i = 6 := by omega
  rcases this with rfl | rfl | rfl | rfl | rfl | rfl | rfl <;> decide
theorem firstT_count {i : Nat} (h : i ≤ 7) : (firstT i).count true = i := by
  have : i = 0 ∨ i = 1 ∨ i = 2 ∨ i = 3 ∨ i = 4 ∨ i = 5 ∨ i = 6 ∨ i = 7 := by omega
  rcases this with rfl | rfl | rfl | rfl | rfl | rfl | rfl | rfl <;> decide
theorem hear_first {k i : Nat} {S : Sd} {T : List Rep} {x : Rep} (hm : mayP x = true) (hi : i < 7) (h : S (wordB x) = firstT i) :
    ∃ S', hearL (k : Int) i ⟨S, T, []⟩ [x] = (if i = k then ⟨S', T ++ [x], [x]⟩ else ⟨S', T, []⟩) ∧ S' (wordB x) = firstT (i + 1) ∧ ∀ k', k' ≠ wordB x → S' k' = S k' := by
  refine ⟨S.put (wordB x) i, ?_, by rw [Sd.put_self, h, firstT_set hi], fun k' hk => Sd.put_other S i hk⟩
  rw [hear_new hm (by rw [h]; exact firstT_at hi), h, firstT_count (by omega)]
theorem news_round {k j : Nat} {S : Sd} {T0 : List Rep} {x : Rep} (hm : mayP x = true) (hk : k < 3) (hj : j ≤ 3 * k) (h : S (wordB x) = firstT (min j (3 * k + 1))) :
    ∃ S' out, hearL (k : Int) j ⟨S, T0 ++ (if k < min j (3 * k + 1) then [x] else []), []⟩ [x] = ⟨S', T0 ++ (if k < min (j + 1) (3 * k + 1) then [x] else []), out⟩ ∧ S' (wordB x) = firstT (min (j + 1) (3 * k + 1)) ∧
      (∀ k', k' ≠ wordB x → S' k' = S k') ∧ (if k < min (j + 1) (3 * k + 1) then [x] else []).length = (if k < min j (3 * k + 1) then [x] else []).length + out.length := by
  have e1 : min j (3 * k + 1) = j := by omega
  have e2 : min (j + 1) (3 * k + 1) = j + 1 := by omega
  rw [e1] at h
  rw [e1, e2]
  obtain ⟨S', h1, h2, h3⟩ := hear_first (k := k) (T := T0 ++ (if k < j then [x] else [])) hm (by omega) h
  by_cases hjk : j = k
  · subst hjk
    rw [if_pos rfl] at h1
    refine ⟨S', [x], ?_, h2, h3, by simp⟩
    rw [h1]
    simp
  · rw [if_neg hjk] at h1
    refine ⟨S', [], ?_, h2, h3, ?_⟩
    · rw [h1]
      by_cases h : k < j
      · rw [if_pos h, if_pos (by omega)]
      · rw [if_neg h, if_neg (by omega)]
    · by_cases h : k < j
      · rw [if_pos h, if_pos (by omega)]; simp
      · rw [if_neg h, if_neg (by omega)]; simp
end Go.Proofs.Ytladpckbajnbeaa
