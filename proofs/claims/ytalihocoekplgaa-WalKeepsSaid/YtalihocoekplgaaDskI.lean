/- disk: slices.Contains of numbers. -/
import Derived.Test.YtalihocoekplgaaDskH
set_option linter.unusedVariables false
set_option linter.unusedSimpArgs false
namespace Go.Proofs.Ytalihocoekplgaa
open Go.RowKit

theorem SIndex_any (w : World) (c : Col) (A : Option Addr) (n cp : Nat) (l : List Int) (v : Int) (hx : Rd kInt w c A n cp l) :
    Calls Try.prog 51 #[.slice A n cp, .int .i64 v] w fun e w' => ∃ i : Int, e = .returned (.int .i64 i) ∧ Hid (decide (0 ≤ i) = l.contains v) ∧ w = w' := by
  have hln := hx.1
  have hmx := hx.max
  have HX := Lib.hid hx
  have HL := Lib.hid hln
  clear hx hln
  go_enter Try.func51, Try.ntmps51
  go_wp2_with fail
  go_loopw [8] (fun i wr => ∃ k : Nat, i = .int .i64 (k : Int) ∧ k ≤ n ∧ Hid (¬ v ∈ l.take k) ∧ w = wr) (fun i _ => n - (intOf i).toNat)
  case atStart => exact ⟨0, rfl, by omega, by show ¬ _; simp, rfl⟩
  case round =>
    obtain ⟨k, rfl, hk, hall, rfl⟩ := hrel
    by_cases hlt : k < n
    · obtain ⟨bb, off, rfl⟩ := HX.out.addr (by omega)
      obtain ⟨x, hel⟩ : ∃ x, l[k]? = some x := ⟨_, List.getElem?_eq_getElem (by rw [HL.out]; omega)⟩
      have hc := HX.out.int hel
      have HTK := Lib.hid (take_snoc' hel)
      have HEL := Lib.hid hel
      clear hel
      by_cases hp : v = x
      · subst hp
        go_wp2_with fail
        refine bodyPost_ret (results_tmp rfl _ _ _) rfl ?_
        refine ⟨k, rfl, ?_, rfl⟩
        show _ = _
        rw [List.contains_iff_mem.2 (List.mem_of_getElem? HEL.out)]
        simp
      · go_wp2_with fail
        refine ⟨⟨k + 1, by go_num, by omega, ?_, trivial⟩, by simp [intOf]; omega⟩
        show ¬ _
        rw [HTK.out, List.mem_append]
        rintro (h | h)
        · exact hall.out h
        · simp at h
          exact hp h
    · obtain rfl : k = n := by omega
      have HK : Hid (l.take k = l) := List.take_of_length_le (by have := HL.out; omega)
      go_wp2_with fail
      go_ret
      refine ⟨-1, rfl, ?_, rfl⟩
      show _ = _
      have h := hall.out
      rw [HK.out] at h
      have : l.contains v = false := by
        rw [Bool.eq_false_iff]
        intro h2
        exact h (List.contains_iff_mem.1 h2)
      rw [this]
      rfl
theorem SContains_any (w : World) (c : Col) (A : Option Addr) (n cp : Nat) (l : List Int) (v : Int) (hx : Rd kInt w c A n cp l) :
    Calls Try.prog 34 #[.slice A n cp, .int .i64 v] w fun e w' => e = .returned (.bool (l.contains v)) ∧ w = w' := by
  have HX := Lib.hid hx
  clear hx
  go_enter Try.func34, Try.ntmps34
  go_wp2_with fail
  refine (SIndex_any w c A n cp l v HX.out).mono ?_
  rintro e w1 ⟨i, rfl, q_HI, rfl⟩
  have HI := Lib.hid q_HI
  clear q_HI
  go_wp2_with fail
  refine bodyPost_ret (results_tmp rfl _ _ _) rfl ?_
  exact ⟨retB HI.out, rfl⟩
end Go.Proofs.Ytalihocoekplgaa
