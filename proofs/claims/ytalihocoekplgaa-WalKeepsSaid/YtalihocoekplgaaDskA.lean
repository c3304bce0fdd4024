/- disk: sectors, a map from numbers to sectors, a disk. -/
import Derived.Test.YtalihocoekplgaaPackB
import Derived.Test.YtalihocoekplgaaLib3
import Derived.Maps.Own
import Derived.Maps.OwnSet
import Derived.Maps.Views
import Derived.Maps.RangeWalk
import Derived.Deep.MidRow
set_option linter.unusedVariables false
set_option linter.unusedSimpArgs false
namespace Go.Proofs.Ytalihocoekplgaa
open Go.RowKit

/-- A sector as a value. -/
def sec (s : List UInt8) : Value := .agg (bcells s).toArray
def zsec : List UInt8 := List.replicate 64 0
theorem zsec_len : zsec.length = 64 := rfl
theorem bcells_inj {s t : List UInt8} (h : bcells s = bcells t) : s = t := by
  induction s generalizing t with
  | nil => cases t with
    | nil => rfl
    | cons y t => simp [bcells] at h
  | cons x s ih =>
    cases t with
    | nil => simp [bcells] at h
    | cons y t =>
      simp only [bcells, List.map_cons, List.cons.injEq, Value.int.injEq, true_and] at h
      have h1 : x = y := by
        apply UInt8.toNat_inj.1
        exact_mod_cast h.1
      rw [h1, ih (t := t) h.2]
theorem sec_inj {s t : List UInt8} (h : sec s = sec t) : s = t := by
  unfold sec at h
  injection h with h
  exact bcells_inj (by simpa using congrArg Array.toList h)
open Classical in
/-- How a sector reads in a map: as itself. -/
noncomputable def secR (v : Value) : Option (DataW Value × List MemPlace) := if ∃ s : List UInt8, s.length = 64 ∧ v = sec s then some (.held v, []) else none
theorem secR_mk {s : List UInt8} (h : s.length = 64) : secR (sec s) = some (.held (sec s), []) := if_pos ⟨s, h, rfl⟩
theorem secR_inv {v : Value} {y : DataW Value × List MemPlace} (h : secR v = some y) : ∃ s : List UInt8, s.length = 64 ∧ v = sec s ∧ y = (.held (sec s), []) := by
  unfold secR at h
  split at h
  · rename_i hs
    obtain ⟨s, h1, rfl⟩ := hs
    cases h
    exact ⟨s, h1, rfl, rfl⟩
  · cases h
theorem held_inj {a b : Value} (h : (DataW.held a : DataW Value) = .held b) : a = b := by injection h
abbrev Dt := Int → Option (List UInt8)
def dval (D : Dt) (k : Int) (z : DataW Value) : DataW Value := match D k with | some s => .held (sec s) | none => z
def DOk (D : Dt) : Prop := ∀ (k : Int) (s : List UInt8), D k = some s → s.length = 64 ∧ 0 ≤ k ∧ k ≤ 4611686018427387904
def MapS (w : World) (m N : Nat) (D : Dt) : Prop :=
  ∃ dat, w.ownsMap Try.prog 3 secR m N dat ∧ (∀ (k : Int) (z : DataW Value), dat.atKey (.int .i64 k) z = dval D k z) ∧ DOk D
theorem int_keyed64 : Maps.Keyed Try.prog 3 := Maps.int_keyed Try.underlying3
theorem wf64 {k : Int} (h0 : 0 ≤ k) (h1 : k ≤ 9223372036854775807) : (Lit.int .i64 k).wf = true := by
  simp [Lit.wf, IntKind.min, IntKind.max, IntKind.signed, IntKind.bits]
  omega
theorem int_key {k : Int} (h0 : 0 ≤ k) (h1 : k ≤ 9223372036854775807) : keyOf Try.prog 3 (.int .i64 k) = some (.int .i64 k) := Maps.keyOf_int_mk Try.underlying3 (wf64 h0 h1)
theorem zero_sec (w : World) : (zeroValue 70).run Try.prog w = .ok (sec zsec) w := by kernel_rfl
theorem dval_has {D : Dt} {k : Int} {dat : DataW Value} (h : ∀ z, dat.atKey (.int .i64 k) z = dval D k z) : Maps.has dat (.int .i64 k) = (D k).isSome := by
  unfold dval at h
  cases hk : D k with
  | none =>
    simp only [hk] at h
    exact Maps.has_false_of_atKey h
  | some s =>
    simp only [hk] at h
    exact Maps.has_true_of_atKey h
theorem MapS.made (w : World) : MapS (w.alloc (.map #[] 0)) w.heap.size 0 (fun _ => none) :=
  ⟨_, World.ownsMap_made _ _ _ _, fun k z => rfl, fun k s h => by cases h⟩
theorem MapS.lt {w : World} {m N : Nat} {D : Dt} (h : MapS w m N D) : m < w.heap.size := by
  obtain ⟨dat, h1, _⟩ := h
  exact h1.lt
theorem MapS.same {w w' : World} {m N : Nat} {D : Dt} (h : MapS w m N D) (hw : w'.heap[m]? = w.heap[m]?) : MapS w' m N D := by
  obtain ⟨dat, ⟨es, clock, hb, F⟩, h2⟩ := h
  exact ⟨dat, ⟨es, clock, by rw [hw]; exact hb, F⟩, h2⟩
theorem MapS.isMap {w : World} {m N : Nat} {D : Dt} (h : MapS w m N D) : ∃ es clock, w.heap[m]? = some (.map es clock) := by
  obtain ⟨dat, ⟨es, clock, hb, F⟩, h2⟩ := h
  exact ⟨es, clock, hb⟩
theorem MapS.mono {w : World} {m N N' : Nat} {D : Dt} (h : MapS w m N D) (hN : N ≤ N') : MapS w m N' D := by
  obtain ⟨dat, h1, h2⟩ := h
  exact ⟨dat, h1.mono hN, h2⟩
theorem MapS.look {w : World} {m N : Nat} {D : Dt} (h : MapS w m N D) {k : Int} (h0 : 0 ≤ k) (h1 : k ≤ 9223372036854775807) :
    (Instr.lookup 65 (.map (some m)) (.int .i64 k) false).run Try.prog w = .ok (sec ((D k).getD zsec)) w := by
  obtain ⟨dat, ho, h2, h3⟩ := h
  obtain ⟨v, ps, hr, hv⟩ := ho.lookup (t := 65) (e := 70) int_keyed64 Try.underlying65 (zero_sec w) (secR_mk zsec_len) (int_key h0 h1)
  obtain ⟨s, _, hs, hy⟩ := secR_inv hv
  rw [h2] at hy
  rw [hr, hs]
  have hy1 := congrArg Prod.fst hy
  simp only [dval] at hy1
  cases hk : D k with
  | none =>
    simp only [hk] at hy1
    have hy1 := held_inj hy1
    rw [← hy1, Option.getD_none]
  | some t =>
    simp only [hk] at hy1
    have hy1 := held_inj hy1
    rw [← hy1, Option.getD_some]
theorem MapS.look_ok {w : World} {m N : Nat} {D : Dt} (h : MapS w m N D) {k : Int} (h0 : 0 ≤ k) (h1 : k ≤ 9223372036854775807) :
    (Instr.lookup 65 (.map (some m)) (.int .i64 k) true).run Try.prog w = .ok (.tuple #[sec ((D k).getD zsec), .bool (D k).isSome]) w := by
  obtain ⟨dat, ho, h2, h3⟩ := h
  obtain ⟨v, ps, hr, hv⟩ := ho.look_ok (t := 65) (e := 70) int_keyed64 Try.underlying65 (zero_sec w) (secR_mk zsec_len) (int_key h0 h1)
  obtain ⟨s, _, hs, hy⟩ := secR_inv hv
  rw [h2] at hy
  rw [hr, hs, dval_has (fun z => h2 k z)]
  have hy1 := congrArg Prod.fst hy
  simp only [dval] at hy1
  cases hk : D k with
  | none =>
    simp only [hk] at hy1
    have hy1 := held_inj hy1
    rw [← hy1, Option.getD_none, Option.isSome_none]
  | some t =>
    simp only [hk] at hy1
    have hy1 := held_inj hy1
    rw [← hy1, Option.getD_some, Option.isSome_some]
def Dt.put (D : Dt) (k : Int) (s : List UInt8) : Dt := fun k' => if k' = k then some s else D k'
theorem MapS.put {w : World} {m N : Nat} {D : Dt} (h : MapS w m N D) (hN : N < 9223372036854775807) {k : Int} (h0 : 0 ≤ k) (h1 : k ≤ 4611686018427387904) {s : List UInt8} (hs : s.length = 64) :
    ∃ w', (Instr.mapUpdate 65 (.map (some m)) (.int .i64 k) (sec s)).run Try.prog w = .ok () w' ∧ MapS w' m (N + 1) (D.put k s) ∧ w.grownBy w' (some m) := by
  obtain ⟨dat, ho, h2, h3⟩ := h
  obtain ⟨w', hr, ho', hg⟩ := ho.update (t := 65) (e := 70) int_keyed64 Try.underlying65 (by simpa [maxLen] using hN) (int_key h0 (by omega)) (secR_mk hs)
  refine ⟨w', hr, ⟨_, ho', fun k' z => ?_, fun k' s' hk' => ?_⟩, hg⟩
  · by_cases he : k' = k
    · subst he
      rw [Maps.atKey_put_same ho.isMap (by simp [WideAt.IsKeyLit])]
      simp [dval, Dt.put]
    · rw [Maps.atKey_put_other (by simpa using he), h2]
      simp [dval, Dt.put, he]
  · unfold Dt.put at hk'
    split at hk'
    · rename_i he
      cases hk'
      exact ⟨hs, by omega, by omega⟩
    · exact h3 k' s' hk'
end Go.Proofs.Ytalihocoekplgaa
