/- oper: requests as bytes. -/
import Derived.Test.YtladpckbajnbeaaOperA
import Derived.Test.YtladpckbajnbeaaRefP
import Derived.Test.YtladpckbajnbeaaRef1
import Derived.Deep.RegionHeld3
set_option linter.unusedVariables false
set_option linter.unusedSimpArgs false
namespace Go.Proofs.Ytladpckbajnbeaa
open Go.RowKit

def fB (l : List Fld) : List UInt8 := if mayTB l = true then tupB l else []
theorem fB_len (l : List Fld) : (fB l).length ≤ 301 := by
  unfold fB
  split
  · exact (tupB_len (by assumption)).2
  · simp
def reqB (x : Req) : List UInt8 := numB x.client.toNat 1 ++ (numB x.seq.toNat 4 ++ (numB x.kind.toNat 1 ++ (numB x.lease.toNat 8 ++ (textB (fB x.p) ++ textB (fB x.t)))))
theorem reqB_len (x : Req) : (reqB x).length ≤ 700 := by
  unfold reqB textB
  have := fB_len x.p
  have := fB_len x.t
  simp only [List.length_append, numB_length]
  omega
theorem mayR_lease {x : Req} (h : mayR x = true) : 0 ≤ x.lease ∧ x.lease ≤ 1099511627776 := by
  unfold mayR at h
  simp only [Bool.and_eq_true] at h
  have h1 := h.2.1
  unfold tPart at h1
  split at h1
  · simp only [Bool.and_eq_true, decide_eq_true_eq] at h1
    exact h1.2
  · simp only [Bool.and_eq_true, beq_iff_eq] at h1
    omega
theorem mayR_nums {x : Req} (h : mayR x = true) : 0 ≤ x.client ∧ x.client < 4 ∧ 1 ≤ x.seq ∧ x.seq ≤ 1073741824 ∧ 1 ≤ x.kind ∧ x.kind ≤ 8 := by
  unfold mayR at h
  simp only [Bool.and_eq_true] at h
  exact numsB_iff.1 h.1
end Go.Proofs.Ytladpckbajnbeaa
