/- oper: which requests may be. -/
import Derived.Test.YtladpckbajnbeaaTupM
import Derived.Test.YtladpckbajnbeaaRef6A
import Derived.Deep.DeepCutAuto
import Derived.Outline
set_option linter.unusedVariables false
set_option linter.unusedSimpArgs false
namespace Go.Proofs.Ytladpckbajnbeaa
open Go.RowKit

structure Req where
  client : Int
  seq : Int
  kind : Int
  p : List Fld
  t : List Fld
  lease : Int
abbrev rV (x : Req) (A : Option Addr) (n cp : Nat) (B : Option Addr) (m cq : Nat) : Value := .agg #[.int .i64 x.client, .int .i64 x.seq, .int .i64 x.kind, .slice A n cp, .slice B m cq, .int .i64 x.lease]
def numsB (x : Req) : Bool := decide (0 ≤ x.client) && (decide (x.client < 4) && (decide (1 ≤ x.seq) && (decide (x.seq ≤ 1073741824) && (decide (1 ≤ x.kind) && decide (x.kind ≤ 8)))))
def outsB (k : Int) : Bool := k == 1 || (k == 6 || k == 7)
def readsB (k : Int) : Bool := decide (2 ≤ k) && decide (k ≤ 7)
def writesB (k : Int) : Bool := k == 1 || (k == 3 || (k == 5 || (k == 6 || k == 7)))
def tPart (x : Req) : Bool := if outsB x.kind = true then mayB x.t && (decide (0 ≤ x.lease) && decide (x.lease ≤ 1099511627776)) else x.t.isEmpty && x.lease == 0
def pPart (x : Req) : Bool := if readsB x.kind = true then mayTB x.p else x.p.isEmpty
def mayR (x : Req) : Bool := numsB x && (tPart x && pPart x)
theorem numsB_iff {x : Req} : numsB x = true ↔ (0 ≤ x.client ∧ x.client < 4 ∧ 1 ≤ x.seq ∧ x.seq ≤ 1073741824 ∧ 1 ≤ x.kind ∧ x.kind ≤ 8) := by
  unfold numsB
  simp only [Bool.and_eq_true, decide_eq_true_eq]
def inB (k mask : Int) : Bool := decide (1 ≤ k) && (decide (k ≤ 8) && (bits .and .i64 (mask / 2 ^ k.toNat) 1 == 1))
theorem ret_bool {a b : Bool} (h : a = b) : Ending.returned (.bool a) = .returned (.bool b) := by rw [h]
theorem val_bool {a b : Bool} (h : a = b) : Value.bool a = .bool b := by rw [h]
theorem emp_len {α : Type} {l : List α} {n : Nat} (h : l.length = n) : l.isEmpty = (n == 0) := by subst h; cases l <;> rfl
theorem in_outs (k : Int) : inB k 194 = outsB k := by
  by_cases h : 1 ≤ k ∧ k ≤ 8
  · have hk : k = 1 ∨ k = 2 ∨ k = 3 ∨ k = 4 ∨ k = 5 ∨ k = 6 ∨ k = 7 ∨ k = 8 := by omega
    rcases hk with rfl | rfl | rfl | rfl | rfl | rfl | rfl | rfl <;> decide
  · rw [Bool.eq_iff_iff]; unfold inB outsB; simp; omega
theorem in_reads (k : Int) : inB k 252 = readsB k := by
  by_cases h : 1 ≤ k ∧ k ≤ 8
  · have hk : k = 1 ∨ k = 2 ∨ k = 3 ∨ k = 4 ∨ k = 5 ∨ k = 6 ∨ k = 7 ∨ k = 8 := by omega
    rcases hk with rfl | rfl | rfl | rfl | rfl | rfl | rfl | rfl <;> decide
  · rw [Bool.eq_iff_iff]; unfold inB readsB; simp; omega
theorem in_writes (k : Int) : inB k 234 = writesB k := by
  by_cases h : 1 ≤ k ∧ k ≤ 8
  · have hk : k = 1 ∨ k = 2 ∨ k = 3 ∨ k = 4 ∨ k = 5 ∨ k = 6 ∨ k = 7 ∨ k = 8 := by omega
    rcases hk with rfl | rfl | rfl | rfl | rfl | rfl | rfl | rfl <;> decide
  · rw [Bool.eq_iff_iff]; unfold inB writesB; simp; omega
end Go.Proofs.Ytladpckbajnbeaa
