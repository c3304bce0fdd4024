/- disk: Crash: the plain part. -/
import Derived.Test.YtalihocoekplgaaDskI
set_option linter.unusedVariables false
set_option linter.unusedSimpArgs false
namespace Go.Proofs.Ytalihocoekplgaa
open Go.RowKit

/-- What a crash leaves of one sector that was written. -/
def crash1 (keep : List Int) (torn : Int) (mm : Nat) (i : Int) (s y : List UInt8) : List UInt8 :=
  if keep.contains i = true then s else if i = torn then s.take mm ++ y.drop mm else y
def crashV (D : Dt) (keep : List Int) (torn : Int) (mm : Nat) (i : Int) (y : List UInt8) : List UInt8 := (D i).elim y (fun s => crash1 keep torn mm i s y)
def crashY (Y : List (List UInt8)) (D : Dt) (keep : List Int) (torn : Int) (mm : Nat) : List (List UInt8) := Y.mapIdx (fun i y => crashV D keep torn mm (i : Int) y)
def mcut (nn : Int) : Nat := (min (max nn 0) 64).toNat
theorem mcut_le (nn : Int) : mcut nn ≤ 64 := by unfold mcut; omega
theorem crashY_get (Y : List (List UInt8)) (D : Dt) (keep : List Int) (torn : Int) (mm i : Nat) : (crashY Y D keep torn mm)[i]? = (Y[i]?).map (fun y => crashV D keep torn mm (i : Int) y) := by
  unfold crashY
  rw [List.getElem?_mapIdx]
theorem crashY_len (Y : List (List UInt8)) (D : Dt) (keep : List Int) (torn : Int) (mm : Nat) : (crashY Y D keep torn mm).length = Y.length := by simp [crashY]
theorem crash1_len {keep : List Int} {torn : Int} {mm : Nat} {i : Int} {s y : List UInt8} (hs : s.length = 64) (hy : y.length = 64) (hm : mm ≤ 64) : (crash1 keep torn mm i s y).length = 64 := by
  unfold crash1
  split
  · exact hs
  · split
    · simp; omega
    · exact hy
def CrashP (Y Y' : List (List UInt8)) (D : Dt) (keep : List Int) (torn : Int) (mm : Nat) (L : List Int) : Prop :=
  Y'.length = Y.length ∧ (∀ s ∈ Y', s.length = 64) ∧ ∀ (i : Nat) (y : List UInt8), Y[i]? = some y → Y'[i]? = some (if (i : Int) ∈ L then crashV D keep torn mm (i : Int) y else y)
theorem CrashP.start {Y : List (List UInt8)} {D : Dt} {keep : List Int} {torn : Int} {mm : Nat} (hl : ∀ s ∈ Y, s.length = 64) : CrashP Y Y D keep torn mm [] :=
  ⟨rfl, hl, fun i y hy => by simpa using hy⟩
theorem CrashP.step {Y Y' : List (List UInt8)} {D : Dt} {keep : List Int} {torn : Int} {mm : Nat} {L : List Int} (h : CrashP Y Y' D keep torn mm L) (hm : mm ≤ 64) {k : Nat} {s y : List UInt8} (hk : ¬ (k : Int) ∈ L) (hD : D (k : Int) = some s) (hs : s.length = 64) (hy : Y'[k]? = some y) :
    CrashP Y (Y'.set k (crash1 keep torn mm (k : Int) s y)) D keep torn mm (L ++ [(k : Int)]) := by
  obtain ⟨h1, h2, h3⟩ := h
  refine ⟨by rw [List.length_set]; exact h1, fun t ht => ?_, fun i z hz => ?_⟩
  · rcases List.mem_or_eq_of_mem_set ht with h | rfl
    · exact h2 t h
    · exact crash1_len hs (h2 y (List.mem_of_getElem? hy)) hm
  · have hi := h3 i z hz
    by_cases e : k = i
    · subst e
      rw [List.getElem?_set_self (List.getElem?_eq_some_iff.1 hi).1]
      rw [hy, if_neg hk] at hi
      cases hi
      rw [if_pos (by simp)]
      unfold crashV
      rw [hD]
      rfl
    · rw [List.getElem?_set_ne e, hi]
      have : ¬ (i : Int) = (k : Int) := by omega
      simp [this]
theorem CrashP.done {Y Y' : List (List UInt8)} {D : Dt} {keep : List Int} {torn : Int} {mm n : Nat} (h : CrashP Y Y' D keep torn mm (dirtyL D n)) (hD : DIn D n) : Y' = crashY Y D keep torn mm := by
  obtain ⟨h1, h2, h3⟩ := h
  apply List.ext_getElem?
  intro i
  rw [crashY_get]
  cases hy : Y[i]? with
  | none =>
    rw [List.getElem?_eq_none_iff] at hy
    rw [List.getElem?_eq_none (by omega)]
    rfl
  | some y =>
    rw [h3 i y hy]
    simp only [dirtyL_mem hD]
    unfold crashV
    cases hd : D (i : Int) with
    | none => simp
    | some s => simp
theorem crashY_all {Y : List (List UInt8)} {D : Dt} {keep : List Int} {torn : Int} {mm : Nat} (hm : mm ≤ 64) (hl : ∀ s ∈ Y, s.length = 64) (hD : DOk D) : ∀ s ∈ crashY Y D keep torn mm, s.length = 64 := by
  intro s hs
  obtain ⟨i, hi⟩ := List.getElem?_of_mem hs
  rw [crashY_get] at hi
  cases hy : Y[i]? with
  | none => rw [hy] at hi; cases hi
  | some y =>
    rw [hy] at hi
    cases hi
    have hy64 := hl y (List.mem_of_getElem? hy)
    unfold crashV
    cases hd : D (i : Int) with
    | none => exact hy64
    | some t => exact crash1_len (hD _ _ hd).1 hy64 hm
theorem set_same {α : Type} {l : List α} {k : Nat} {y : α} (h : l[k]? = some y) : l.set k y = l := by
  apply List.ext_getElem?
  intro i
  by_cases e : k = i
  · subst e
    rw [List.getElem?_set_self (List.getElem?_eq_some_iff.1 h).1, h]
  · rw [List.getElem?_set_ne e]
theorem nodup_not_take {α : Type} {l : List α} (h : l.Nodup) {k : Nat} {x : α} (hx : l[k]? = some x) : ¬ x ∈ l.take k := by
  intro hm
  obtain ⟨i, hi⟩ := List.getElem?_of_mem hm
  rw [List.getElem?_take] at hi
  split at hi
  · rename_i hlt
    have := (List.getElem?_inj (List.getElem?_eq_some_iff.1 hi).1 h).1 (hi.trans hx.symm)
    omega
  · cases hi
/-- A front of a sector turns. -/
theorem flat_part {Y : List (List UInt8)} {k : Nat} {r y : List UInt8} (hl : ∀ s ∈ Y, s.length = 64) (hy : Y[k]? = some y) (hr : r.length ≤ 64) : setL (Y.flatMap bcells) (k * 64) (bcells r) = (Y.set k (r ++ y.drop r.length)).flatMap bcells := by
  have hy64 := hl y (List.mem_of_getElem? hy)
  have hk := (List.getElem?_eq_some_iff.1 hy).1
  have hs : (r ++ y.drop r.length).length = 64 := by simp; omega
  have hl2 : ∀ t ∈ Y.set k (r ++ y.drop r.length), t.length = 64 := by
    intro t ht
    rcases List.mem_or_eq_of_mem_set ht with h | rfl
    · exact hl t h
    · exact hs
  apply List.ext_getElem?
  intro i
  rw [setL_get, bcells_length, flat_len Y hl]
  have hi : i = i / 64 * 64 + i % 64 := by omega
  have hm : i % 64 < 64 := by omega
  by_cases hn : i / 64 < Y.length
  · have hy2 := List.getElem?_eq_getElem hn
    have h1 := flat64 Y (i / 64) _ hl hy2 (i % 64) hm
    rw [← hi] at h1
    by_cases hik : i / 64 = k
    · have h2 := flat64 (Y.set k (r ++ y.drop r.length)) k _ hl2 (List.getElem?_set_self hk) (i % 64) hm
      rw [← hik, ← hi, hik, bcells_append] at h2
      rw [h2]
      by_cases hf : i % 64 < r.length
      · rw [if_pos (by omega), if_pos (by omega), List.getElem?_append_left (by rw [bcells_length]; exact hf)]
        congr 1
        omega
      · rw [if_neg (by omega), h1, List.getElem?_append_right (by rw [bcells_length]; omega), bcells_length]
        have hz : Y[i / 64] = y := by
          subst hik
          rw [hy] at hy2
          exact (Option.some.inj hy2).symm
        rw [hz]
        unfold bcells
        rw [List.map_drop, List.getElem?_drop]
        congr 1
        omega
    · have h2 := flat64 (Y.set k (r ++ y.drop r.length)) (i / 64) _ hl2 (by rw [List.getElem?_set_ne (fun e => hik e.symm)]; exact hy2) (i % 64) hm
      rw [← hi] at h2
      rw [if_neg (by omega), h1, h2]
  · rw [if_neg (by omega), List.getElem?_eq_none (by rw [flat_len Y hl]; omega), List.getElem?_eq_none (by rw [flat_len _ hl2, List.length_set]; omega)]
end Go.Proofs.Ytalihocoekplgaa
