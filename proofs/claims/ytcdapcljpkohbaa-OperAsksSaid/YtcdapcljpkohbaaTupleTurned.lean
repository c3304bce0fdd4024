/- TupleTurned: the walk. -/
import Derived.Test.YtcdapcljpkohbaaTupleBack
set_option linter.unusedVariables false
set_option linter.unusedSimpArgs false
namespace Go.Proofs.Ytcdapcljpkohbaa
open Go.RowKit

theorem xor_u8 (a : UInt8) (ch : Int) (hc : 0 ≤ ch ∧ ch ≤ 255) : bits .xor .u8 (a.toNat : Int) ch = ((a ^^^ UInt8.ofNat ch.toNat).toNat : Int) := by
  obtain ⟨n, rfl⟩ := Int.eq_ofNat_of_zero_le hc.1
  rw [UInt8.toNat_xor, UInt8.toNat_ofNat', Int.toNat_natCast, Nat.mod_eq_of_lt (show n < 2 ^ 8 by omega)]
  exact u8_xor_nat _ _ a.toNat_lt (by omega)
/-- What Get tells of bytes with one turned. -/
theorem turned_law {p : List Fld} (hm : mayTB p = true) (hok : ∀ x ∈ p, x.ok) {k : Nat} (hk : k < (tupB p).length) {y x : UInt8} (hy : (tupB p)[k]? = some y) :
    (tupGet ((tupB p).set k (y ^^^ x)) = ([], false) ∧ x ≠ 0) ∨ ∃ q, tupGet ((tupB p).set k (y ^^^ x)) = (q, true) ∧ mayTB q = true ∧ tupB q = (tupB p).set k (y ^^^ x) ∧ sameL p q = (x == 0) := by
  have h0 : (tupB p).set k y = tupB p := by
    apply List.ext_getElem?
    intro j
    rw [List.getElem?_set]
    split
    · rename_i h
      subst h
      rw [hy]
    · rfl
  have hxe : y ^^^ x = y → x = 0 := by
    intro h
    have h1 : y ^^^ (y ^^^ x) = y ^^^ y := by rw [h]
    rw [← UInt8.xor_assoc, UInt8.xor_self, UInt8.zero_xor] at h1
    exact h1
  cases h : (tupGet ((tupB p).set k (y ^^^ x))).2 with
  | false =>
    refine .inl ⟨tupGet_false h, ?_⟩
    rintro rfl
    rw [UInt8.xor_zero, h0, tupGet_put hm hok] at h
    cases h
  | true =>
    have h2 : tupGet ((tupB p).set k (y ^^^ x)) = ((tupGet ((tupB p).set k (y ^^^ x))).1, true) := Prod.ext rfl h
    have hlen := (tupB_len hm).2
    have hok2 := tupGet_ok ((tupB p).set k (y ^^^ x)) (by rw [List.length_set]; omega)
    obtain ⟨hm2, hb2⟩ := tupGet_good h2
    generalize (tupGet ((tupB p).set k (y ^^^ x))).1 = q at *
    refine .inr ⟨q, h2, hm2, hb2, ?_⟩
    by_cases hx : x = 0
    · subst hx
      rw [UInt8.xor_zero, h0] at hb2
      rw [sameL_iff.2 (tupB_inj hm hok hm2 hok2 hb2.symm)]
      rfl
    · have hne : p ≠ q := by
        rintro rfl
        have h3 := congrArg (·[k]?) hb2
        simp only [List.getElem?_set, hk, if_true, hy] at h3
        exact hx (hxe (Option.some.inj h3).symm)
      have : sameL p q = false := by
        rw [← Bool.not_eq_true]
        exact fun e => hne (sameL_iff.1 e)
      rw [this]
      symm
      simpa using hx
theorem bcells_set (xs : List UInt8) (k : Nat) (x : UInt8) : (bcells xs).set k (.int .u8 (x.toNat : Int)) = bcells (xs.set k x) := by
  unfold bcells
  rw [List.map_set]

end Go.Proofs.Ytcdapcljpkohbaa
