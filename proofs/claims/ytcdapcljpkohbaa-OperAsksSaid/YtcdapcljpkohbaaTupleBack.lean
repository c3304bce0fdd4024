/- TupleBack: the walk. -/
import Derived.Test.YtcdapcljpkohbaaLaw6
import Derived.Test.YtcdapcljpkohbaaRef1
set_option linter.unusedVariables false
set_option linter.unusedSimpArgs false
namespace Go.Proofs.Ytcdapcljpkohbaa
open Go.RowKit

theorem Rd.all_ok {w : World} {c : Col} {A : Option Addr} {n cp : Nat} {l : List Fld} (h : Rd kFld w c A n cp l) : ∀ x ∈ l, x.ok := by
  intro x hx
  obtain ⟨j, hj⟩ := List.mem_iff_getElem?.1 hx
  have hn : 0 < n := by
    have := (List.getElem?_eq_some_iff.1 hj).1
    have := h.1
    omega
  obtain ⟨b, off, rfl⟩ := h.addr hn
  exact (h.fld hj).1
theorem Same_eq {w : World} {c : Col} {A B : Option Addr} {n cp m cq : Nat} {xs ys : List UInt8} {b : Bool} (he : (xs == ys) = b) (hx : Rd kU8 w c A n cp xs) (hy : Rd kU8 w c B m cq ys) :
    Calls Try.prog 12 #[.slice A n cp, .slice B m cq] w fun e w' => e = .returned (.bool b) ∧ w = w' := he ▸ Same_any w c A B n cp m cq xs ys hx hy
theorem own_snoc {W : World} {b n : Nat} {e : TypeId} {v : Value} {ys : List UInt8} {ch : Int} (hc : 0 ≤ ch ∧ ch ≤ 255) (h : W.ownsRow b e 1 v n (bcells ys ++ #[Value.int .u8 ch].toList)) : W.ownsRow b e 1 v n (bcells (ys ++ [UInt8.ofNat ch.toNat])) := by
  have : bcells (ys ++ [UInt8.ofNat ch.toNat]) = bcells ys ++ #[Value.int .u8 ch].toList := by
    rw [bcells_append]
    congr 1
    show [Value.int .u8 ((UInt8.ofNat ch.toNat).toNat : Int)] = [Value.int .u8 ch]
    rw [UInt8.toNat_ofNat']
    congr 2
    omega
  rw [this]
  exact h
theorem rem_small (x : Int) (n : Nat) (h0 : 1 ≤ n) (hm : n ≤ 1000000000000) : ∃ m : Nat, wrap64 ((IntKind.u64.wrap x).tmod n) = (m : Int) ∧ m < n := by
  obtain ⟨h1, h2⟩ := small_mod x n (by omega) (by omega)
  exact ⟨(wrap64 ((IntKind.u64.wrap x).tmod n)).toNat, by omega, by omega⟩

end Go.Proofs.Ytcdapcljpkohbaa
