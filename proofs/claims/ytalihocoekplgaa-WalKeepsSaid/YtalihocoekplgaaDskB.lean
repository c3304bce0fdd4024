/- disk: a disk, New, is, Len, Dirty. -/
import Derived.Test.YtalihocoekplgaaDskD
set_option linter.unusedVariables false
set_option linter.unusedSimpArgs false
namespace Go.Proofs.Ytalihocoekplgaa
open Go.RowKit

/-- The dirty sectors, in order. -/
def dirtyL (D : Dt) (n : Nat) : List Int := ((List.range n).filter (fun (i : Nat) => (D (i : Int)).isSome)).map (fun (i : Nat) => (i : Int))
def DIn (D : Dt) (n : Nat) : Prop := ∀ (k : Int) (s : List UInt8), D k = some s → 0 ≤ k ∧ k < (n : Int)
theorem dirtyL_mem {D : Dt} {n : Nat} (h : DIn D n) (x : Int) : x ∈ dirtyL D n ↔ (D x).isSome = true := by
  unfold dirtyL
  simp only [List.mem_map, List.mem_filter, List.mem_range]
  constructor
  · rintro ⟨i, ⟨_, h2⟩, rfl⟩
    exact h2
  · intro hs
    obtain ⟨s, hs'⟩ := Option.isSome_iff_exists.1 hs
    obtain ⟨h1, h2⟩ := h x s hs'
    refine ⟨x.toNat, ⟨by omega, ?_⟩, by omega⟩
    have : ((x.toNat : Nat) : Int) = x := by omega
    rw [this]
    exact hs
theorem dirtyL_sorted (D : Dt) (n : Nat) : (dirtyL D n).Pairwise (fun x y => x < y) := by
  unfold dirtyL
  rw [List.pairwise_map]
  refine (List.pairwise_lt_range.filter _).imp ?_
  intro a b h
  omega
theorem dirtyL_nodup (D : Dt) (n : Nat) : (dirtyL D n).Nodup := (dirtyL_sorted D n).imp (fun h => Int.ne_of_lt h)
theorem sorted_perm_eq {l l' : List Int} (h : l.Perm l') (hs : l'.Pairwise (fun x y => x < y)) : l.mergeSort (fun x y => decide (x ≤ y)) = l' := by
  have h1 : (l.mergeSort (fun x y => decide (x ≤ y))).Pairwise (fun x y => decide (x ≤ y) = true) := List.pairwise_mergeSort (fun a b c h1 h2 => by simp at h1 h2 ⊢; omega) (fun a b => by simp; omega) l
  have h2 : l'.Pairwise (fun x y => decide (x ≤ y) = true) := hs.imp (fun h => by simp; omega)
  refine List.Perm.eq_of_pairwise (fun a b _ _ h3 h4 => ?_) h1 h2 ((List.mergeSort_perm l _).trans h)
  simp at h3 h4
  omega
theorem MapS.keys {w : World} {m N n : Nat} {D : Dt} (h : MapS w m N D) (hD : DIn D n) : ∃ dat, w.ownsMap Try.prog 3 secR m N dat ∧ Maps.size dat ≤ N ∧ ∀ ss : List Int, ss.Perm (Go.intKeys dat) → ss.mergeSort (fun x y => decide (x ≤ y)) = dirtyL D n ∧ ss.length = (dirtyL D n).length := by
  obtain ⟨dat, ho, h2, h3⟩ := h
  refine ⟨dat, ho, ho.size_le, fun ss hs => ?_⟩
  obtain ⟨es, rfl, hp, hk⟩ := ho.entries int_keyed64
  have hks : ∀ p ∈ es, ∃ x, p.1 = .int .i64 x := by
    obtain ⟨es', he, hk'⟩ := ho.keysOf
    cases he
    intro p hp
    obtain ⟨v, hv⟩ := hk' p hp
    obtain ⟨x, _, hx, _⟩ := Maps.keyOf_int_inv Try.underlying3 hv
    exact ⟨x, hx⟩
  have hperm := perm_intKeys hp hks (dirtyL_nodup D n) (fun x => by
    rw [dirtyL_mem hD, dval_has (fun z => h2 x z)])
  have hpp := hs.trans hperm.symm
  exact ⟨sorted_perm_eq hpp (dirtyL_sorted D n), hpp.length_eq⟩

/-- A disk: as it was synced, and what was written since. -/
def Dk (w : World) (c : Col) (g n : Nat) (Y : List (List UInt8)) (D : Dt) (N : Nat) : Prop :=
  c g = some g ∧ ∃ A cp m, w.heap[g]? = some (.cells #[.slice A n cp, .map (some m)] 67 (0, 0)) ∧ c m = some g ∧ MapS w m N D ∧ OwnB w c g 70 64 (.slice A n cp) n (Y.flatMap bcells) ∧ Y.length = n ∧ (∀ s ∈ Y, s.length = 64) ∧ DIn D n ∧ n ≤ 4096
theorem Tr.at_ {M : Nat → Prop} {c c' : Col} {w w' : World} (k : Tr M c c' w w') {i g : Nat} (hi : c i = some g) (hM : ¬ M g) : c' i = some g ∧ w'.heap[i]? = w.heap[i]? := by
  have hl := (k.wf0 i g hi).1
  refine ⟨by rw [k.col i hl]; exact hi, k.cold i hl fun g' h => ?_⟩
  rw [hi] at h
  cases h
  exact hM
theorem Dk.tr {M : Nat → Prop} {w w' : World} {c c' : Col} {g n : Nat} {Y : List (List UInt8)} {D : Dt} {N : Nat} (h : Dk w c g n Y D N) (k : Tr M c c' w w') (hM : ¬ M g) : Dk w' c' g n Y D N := by
  obtain ⟨hg, A, cp, m, h1, h2, h3, h4, h5, h6, h7, h8⟩ := h
  obtain ⟨a1, a2⟩ := k.at_ hg hM
  obtain ⟨b1, b2⟩ := k.at_ h2 hM
  exact ⟨a1, A, cp, m, by rw [a2]; exact h1, b1, h3.same b2, h4.tr k hM, h5, h6, h7, h8⟩
theorem Dk.lt {w : World} {c : Col} {g n : Nat} {Y : List (List UInt8)} {D : Dt} {N : Nat} (h : Dk w c g n Y D N) : g < w.heap.size := by
  obtain ⟨hg, A, cp, m, h1, _⟩ := h
  exact blk_lt h1
theorem Dk.mono {w : World} {c : Col} {g n : Nat} {Y : List (List UInt8)} {D : Dt} {N N' : Nat} (h : Dk w c g n Y D N) (hN : N ≤ N') : Dk w c g n Y D N' := by
  obtain ⟨hg, A, cp, m, h1, h2, h3, h4⟩ := h
  exact ⟨hg, A, cp, m, h1, h2, h3.mono hN, h4⟩
theorem retB {a b : Bool} (h : a = b) : Ending.returned (.bool a) = .returned (.bool b) := by rw [h]
def isB (n : Nat) (k : Int) : Bool := decide (0 ≤ k) && decide (k < (n : Int))
theorem KIs_any (w : World) (c : Col) (g n : Nat) (Y : List (List UInt8)) (D : Dt) (N : Nat) (k : Int) (h : Dk w c g n Y D N) :
    Calls Try.prog 33 #[.pointer (some ⟨g, 0, none⟩), .int .i64 k] w fun e w' => e = .returned (.bool (isB n k)) ∧ w = w' := by
  obtain ⟨hg, A, cp, m, h1, _⟩ := h
  have d0 := blk_cell0 h1
  clear h1
  generalize hr : isB n k = r
  have HR := Lib.hid hr
  clear hr
  go_enter Try.func33, Try.ntmps33
  go_wp2_with fail
  all_goals
    refine bodyPost_ret (results_tmp rfl _ _ _) rfl ?_
    refine ⟨retB ?_, rfl⟩
    rw [← HR.out, Bool.eq_iff_iff]
    unfold isB
    simp
    try omega
theorem KIs_nil (w : World) (k : Int) : Calls Try.prog 33 #[.pointer none, .int .i64 k] w fun e w' => e = .returned (.bool false) ∧ w = w' := by
  go_enter Try.func33, Try.ntmps33
  go_wp2_with fail
  refine bodyPost_ret (results_tmp rfl _ _ _) rfl ?_
  exact ⟨rfl, rfl⟩
theorem KLen_any (w : World) (c : Col) (g n : Nat) (Y : List (List UInt8)) (D : Dt) (N : Nat) (h : Dk w c g n Y D N) :
    Calls Try.prog 23 #[.pointer (some ⟨g, 0, none⟩)] w fun e w' => e = .returned (.int .i64 (n : Int)) ∧ w = w' := by
  obtain ⟨hg, A, cp, m, h1, _⟩ := h
  have d0 := blk_cell0 h1
  clear h1
  go_enter Try.func23, Try.ntmps23
  go_wp2_with fail
  refine bodyPost_ret (results_tmp rfl _ _ _) rfl ?_
  exact ⟨rfl, rfl⟩
theorem KLen_nil (w : World) : Calls Try.prog 23 #[.pointer none] w fun e w' => e = .returned (.int .i64 0) ∧ w = w' := by
  go_enter Try.func23, Try.ntmps23
  go_wp2_with fail
  refine bodyPost_ret (results_tmp rfl _ _ _) rfl ?_
  exact ⟨rfl, rfl⟩
theorem KDirty_nil (w : World) : Calls Try.prog 16 #[.pointer none] w fun e w' => e = .returned (.slice none 0 0) ∧ w = w' := by
  go_enter Try.func16, Try.ntmps16
  go_wp2_with fail
  refine bodyPost_ret (results_tmp rfl _ _ _) rfl ?_
  exact ⟨rfl, rfl⟩
def kInt : Kd Int where
  sz := 1
  pos := by decide
  rep := fun _ _ x cs => cs = [.int .i64 x]
  len := by intro w c x cs h; subst h; rfl
  one := by intro w c x cs h u hu; subst h; simp at hu; subst hu; rfl
  keep := fun h _ => h
theorem Rd.int {w : World} {c : Col} {b off n cp : Nat} {l : List Int} (h : Rd kInt w c (some ⟨b, off, none⟩) n cp l) {k : Nat} {x : Int} (hx : l[k]? = some x) : w.cell? ⟨b, off + k, none⟩ = some (.int .i64 x) := by
  obtain ⟨_, _, cs, hr, hc⟩ := h.elem hx
  have hr' : cs = [.int .i64 x] := hr
  subst hr'
  simpa [kInt] using hc 0 _ rfl
theorem reps_int (w : World) (c : Col) (l : List Int) : Reps kInt w c l (l.map Go.encZ) := by
  refine ⟨by simp [kInt], fun j x hx => ?_⟩
  have e1 : kInt.sz = 1 := rfl
  rw [e1]
  show _ = _
  apply List.ext_getElem?
  intro i
  rw [List.getElem?_take, List.getElem?_drop, List.getElem?_map]
  cases i with
  | zero => simp [hx, Go.encZ]
  | succ i => simp
set_option maxHeartbeats 1000000 in
theorem KDirty_any (w : World) (c : Col) (g n : Nat) (Y : List (List UInt8)) (D : Dt) (N : Nat) (hN : N ≤ 1000000) (hw : Wf c w) (h : Dk w c g n Y D N) :
    Calls Try.prog 16 #[.pointer (some ⟨g, 0, none⟩)] w fun e w' => ∃ A m cp, e = .returned (.slice A m cp) ∧ Rd kInt w' c A m cp (dirtyL D n) ∧ Below w.heap.size w w' := by
  obtain ⟨hg, A, cp, m, h1, h2, h3, h4, h5, h6, h7, h8⟩ := h
  obtain ⟨dat, hown, hsz, hss⟩ := h3.keys h7
  have HS := Lib.hid (sorted_any m N dat secR w hown (by simp only [maxLen]; omega) (by omega))
  have HSS := Lib.hid hss
  have HW := Lib.hid hw
  have d1 := blk_cell1 h1
  clear h1 hss hw
  go_enter Try.func16, Try.ntmps16
  go_wp2_with fail
  refine (keys_any (some m) w).mono ?_
  rintro e w1 ⟨rfl, rfl⟩
  go_wp2_with fail
  refine (HS.out).mono ?_
  rintro e w2 ⟨v, ss, rfl, q_HP, q_HO, q_HNIL, q_HB2⟩
  have HP := Lib.hid q_HP
  have HO := Lib.hid q_HO
  have HNIL := Lib.hid q_HNIL
  have HB2 := Lib.hid q_HB2
  clear q_HP q_HO q_HNIL q_HB2
  go_wp2_with fail
  refine bodyPost_ret (results_tmp rfl _ _ _) rfl ?_
  obtain ⟨e1, e2⟩ := HSS.out ss HP.out
  have ho := HO.out
  rw [e1, e2] at ho
  have hb := below_then (below_alloc w _) HB2.out
  obtain ⟨A', cp', rfl, hR⟩ := (reps_int w2 c (dirtyL D n)).rd (K := kInt) ho rfl (fun k hk => HW.out.fresh (Nat.le_trans (below_alloc w _).size (ho.lt k hk).1))
  exact ⟨A', _, cp', rfl, hR, hb⟩
end Go.Proofs.Ytalihocoekplgaa
