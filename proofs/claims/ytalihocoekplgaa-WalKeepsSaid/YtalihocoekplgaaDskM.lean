/- disk: rows of bytes that a law fills. -/
import Derived.Test.YtalihocoekplgaaDskL
import Derived.Deep.OwnRows
set_option linter.unusedVariables false
set_option linter.unusedSimpArgs false
namespace Go.Proofs.Ytalihocoekplgaa
open Go.RowKit

theorem remS (x : Int) (n : Nat) (h0 : 1 ≤ n) (hm : n ≤ 1000000000000) : ∃ m : Nat, wrap64 ((IntKind.u64.wrap x).tmod n) = (m : Int) ∧ m < n := by
  obtain ⟨h1, h2⟩ := small_mod x n (by omega) (by omega)
  exact ⟨(wrap64 ((IntKind.u64.wrap x).tmod n)).toNat, by omega, by omega⟩
theorem u8_of (a : Int) (h : 0 ≤ a ∧ a ≤ 255) : ∃ x : UInt8, a = (x.toNat : Int) := ⟨UInt8.ofNat a.toNat, by rw [UInt8.toNat_ofNat']; omega⟩
/-- A row that is filled from its head on. -/
def fillL (i : Nat) (a : UInt8) : List UInt8 := List.replicate i a ++ List.replicate (64 - i) 0
def fillA (i : Nat) (a : UInt8) : Array Value := (bcells (fillL i a)).toArray
theorem fillL_len {i : Nat} (h : i ≤ 64) (a : UInt8) : (fillL i a).length = 64 := by simp [fillL]; omega
theorem fillL_zero (a : UInt8) : fillL 0 a = zsec := rfl
theorem fillL_full (a : UInt8) : fillL 64 a = List.replicate 64 a := by simp [fillL]
theorem fillA_set {i : Nat} (h : i < 64) (a : UInt8) : (fillA i a).setIfInBounds i (.int .u8 (a.toNat : Int)) = fillA (i + 1) a := by
  unfold fillA
  rw [List.setIfInBounds_toArray]
  congr 1
  unfold bcells
  rw [← List.map_set]
  congr 1
  unfold fillL
  have e : 64 - i = (64 - (i + 1)) + 1 := by omega
  rw [List.set_append, if_neg (by simp), List.length_replicate, Nat.sub_self, e, List.replicate_succ, List.set_cons_zero, List.replicate_succ', List.append_assoc]
  rfl
theorem Tr.newset {M : Nat → Prop} {c c1 : Col} {w w1 : World} (h : Tr M c c1 w w1) {b : Nat} (hb : w.heap.size ≤ b) (i : Nat) (u : Value) : Tr M c c1 w (w1.setCell ⟨b, i, none⟩ u) := by
  have hs : (w1.setCell ⟨b, i, none⟩ u).heap.size = w1.heap.size := by simp [World.setCell]
  refine ⟨h.os, h.tape, h.output, by rw [hs]; exact h.size, h.wf0, fun i r hr => by rw [hs]; exact h.wf i r hr, h.col, h.own, fun k hk hn => ?_⟩
  rw [heap_of_setCell _ _ _ _ (show k ≠ b by omega)]
  exact h.cold k hk hn
theorem Rd.blk {w : World} {c : Col} {b : Nat} {e : TypeId} {xs : List UInt8} {fr : Nat × Nat} (h : w.heap[b]? = some (.cells (bcells xs).toArray e fr)) (hc : c b = none) (hl : xs.length ≤ 9223372036854775807) : Rd kU8 w c (some ⟨b, 0, none⟩) xs.length xs.length xs := by
  refine ⟨rfl, Nat.le_refl _, by simpa [maxLen] using hl, fun hp => ⟨_, 0, rfl, blk_lt h, hc, fun j x hj => ⟨_, rfl, fun i u hi => ?_⟩⟩⟩
  have hi0 : i = 0 := by
    have := (List.getElem?_eq_some_iff.1 hi).1
    simp at this
    exact this
  subst hi0
  have h1 := bcells_at xs j x hj
  have h2 : w.cell? ⟨b, j, none⟩ = (bcells xs).toArray[j]? := cell_of_row _ _ _ _ _ fr h
  have : (0 + (j * kU8.sz + 0)) = j := by simp [kU8]
  rw [this, h2]
  simp at hi
  subst hi
  simpa using h1
theorem fillA_cell {w : World} {b i k : Nat} {a : UInt8} {e : TypeId} (h : w.heap[b]? = some (.cells (fillA i a) e (0, 0))) (hi : i ≤ 64) (hk : k < 64) : ∃ u, w.cell? ⟨b, k, none⟩ = some u := by
  rw [blk_cell h]
  have hs : (fillA i a).size = 64 := by unfold fillA; rw [List.size_toArray, bcells_length, fillL_len hi]
  exact ⟨_, Array.getElem?_eq_getElem (by omega)⟩
theorem make64 (W : World) (kl kc : IntKind) : (Instr.makeSlice 23 (.int kl 64) (.int kc 64)).run Try.prog W = .ok (.slice (some ⟨W.heap.size, 0, none⟩) 64 64) (W.alloc (.cells (fillA 0 0) 5)) := by
  have h := run_make_row' (P := Try.prog) 23 5 (.int .u8 0) 1 Try.underlying23 u8_infoD rfl kl kc 64 (by omega) (by omega) W
  have e : madeCells #[Value.int .u8 0] 64 = fillA 0 0 := by
    apply Array.toList_inj.1
    have h1 : (fillA 0 0).toList = List.replicate 64 (.int .u8 0) := rfl
    rw [h1, List.eq_replicate_iff]
    refine ⟨by rw [Array.length_toList, size_madeCells], fun b hb => ?_⟩
    unfold madeCells at hb
    rw [Array.toList_map, List.mem_map] at hb
    obtain ⟨i, _, rfl⟩ := hb
    simp [Nat.mod_one]
  rw [e] at h
  exact h
theorem fillA_zero (a b : UInt8) : fillA 0 a = fillA 0 b := rfl
theorem Tr.at0 {c c' : Col} {w w' : World} (k : Tr (fun _ => False) c c' w w') {i : Nat} (h : i < w.heap.size) : w'.heap[i]? = w.heap[i]? := k.cold i h fun _ _ h => h
theorem pad_full {x : List UInt8} (h : x.length = 64) : pad x = x := by simp [pad, h]
theorem dirtyL_one {n k : Nat} {s : List UInt8} (hk : k < n) : dirtyL (Dt.put (fun _ => none) (k : Int) s) n = [(k : Int)] := by
  unfold dirtyL
  have h : ∀ m, (List.range m).filter (fun (i : Nat) => (Dt.put (fun _ => none) (k : Int) s (i : Int)).isSome) = if k < m then [k] else [] := by
    intro m
    induction m with
    | zero => rfl
    | succ m ih =>
      rw [List.range_succ, List.filter_append, ih]
      by_cases h1 : k < m
      · have h2 : ¬ (m : Int) = (k : Int) := by omega
        simp [h1, Dt.put, h2, show k < m + 1 by omega]
      · by_cases h2 : m = k
        · subst h2
          simp [Dt.put]
        · have h3 : ¬ (m : Int) = (k : Int) := by omega
          simp [h1, Dt.put, h3, show ¬ k < m + 1 by omega]
  rw [h n, if_pos hk]
  rfl
theorem Rd.of_alloc2 {α : Type} {K : Kd α} {w : World} {c : Col} {l : List α} {cells : List Value} (hc : Wf c w) (t : TypeId) (hr : Reps K w c l cells) (hl : l.length ≤ 1000000000) :
    Rd K (w.alloc (.cells cells.toArray t)) c (some ⟨w.heap.size, 0, none⟩) l.length l.length l := by
  refine ⟨rfl, Nat.le_refl _, by simp only [maxLen]; omega, fun _ => ⟨w.heap.size, 0, rfl, by simp, hc.fresh (Nat.le_refl _), fun j x hx => ⟨_, K.keep (hr.2 j x hx) (Kp.of_below (below_alloc w _)), fun i u hi => ?_⟩⟩⟩
  rw [cell_of_row _ _ _ cells.toArray t (0, 0) (heap_alloc_new w _)]
  rw [List.getElem?_take] at hi
  split at hi
  · rw [List.getElem?_drop] at hi
    simpa using hi
  · cases hi
theorem dirtyL_none (n : Nat) : dirtyL (fun _ => none) n = [] := by simp [dirtyL]
end Go.Proofs.Ytalihocoekplgaa
