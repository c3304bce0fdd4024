/- wal: is a sector all noughts? -/
import Derived.Test.YtalihocoekplgaaWalP
set_option linter.unusedVariables false
set_option linter.unusedSimpArgs false
namespace Go.Proofs.Ytalihocoekplgaa
open Go.RowKit

def nz (x : UInt8) : Bool := x != 0
theorem WOpen2_any (w : World) (x : UInt8) : Calls Try.prog 42 #[.int .u8 (x.toNat : Int)] w fun e w' => e = .returned (.bool (nz x)) ∧ w = w' := by
  have hx : ((x.toNat : Int) != 0) = nz x := by
    unfold nz
    rw [Bool.eq_iff_iff]
    simp only [bne_iff_ne, ne_eq]
    constructor
    · intro h e
      subst e
      exact h rfl
    · intro h e
      exact h (UInt8.toNat_inj.1 (by simpa using e))
  generalize nz x = q at hx
  generalize (x.toNat : Int) = v at hx
  go_enter Try.func42, Try.ntmps42
  go_wp2_with fail
  refine bodyPost_ret (results_tmp rfl _ _ _) rfl ?_
  refine ⟨?_, rfl⟩
  rw [← hx]
  first
  | done
  | congr 2
set_option maxHeartbeats 2000000 in
theorem IndexNz_any (w : World) (c : Col) (A : Option Addr) (n cp : Nat) (l : List UInt8) (hx : Rd kU8 w c A n cp l) :
    Calls Try.prog 59 #[.slice A n cp, .func (.func 42) #[] #[]] w fun e w' => ∃ i : Int, e = .returned (.int .i64 i) ∧ Hid (decide (0 ≤ i) = l.any nz) ∧ Below w.heap.size w w' := by
  have hln := hx.1
  have hmx := hx.max
  have HX := Lib.hid hx
  have HL := Lib.hid hln
  clear hx hln
  go_enter Try.func59, Try.ntmps59
  go_wp2_with fail
  go_loopw [8] (fun i wr => ∃ k : Nat, i = .int .i64 (k : Int) ∧ k ≤ n ∧ Hid ((l.take k).any nz = false) ∧ Hid (Below w.heap.size w wr)) (fun i _ => n - (intOf i).toNat)
  case atStart => exact ⟨0, rfl, by omega, by show _ = _; simp, Below.refl _ _⟩
  case round =>
    obtain ⟨k, rfl, hk, hall, hbl⟩ := hrel
    by_cases hlt : k < n
    · obtain ⟨bb, off, rfl⟩ := HX.out.addr (by omega)
      have hel := getD_at' l 0 (k := k) (by have := HL.out; omega)
      have h0 := (HX.out.below hbl.out).byte hlt
      generalize l[k]?.getD 0 = x at hel h0
      have HTK := Lib.hid (take_snoc' hel)
      have HEL := Lib.hid hel
      have hbs := hbl.out.size
      have hk0 : (0 : Int) ≤ (k : Int) := Int.natCast_nonneg _
      have hk1 : (k : Int) < (n : Int) := by omega
      clear hel
      go_wp2_with fail
      refine (WOpen2_any wr x).mono ?_
      rintro e w1 ⟨rfl, rfl⟩
      cases hp : nz x with
      | false =>
        go_wp2_with fail
        exact ⟨⟨k + 1, by go_num, by omega, by show _ = _; rw [HTK.out, List.any_append, hall.out]; simp [hp], hbl.out⟩, by simp [intOf]; omega⟩
      | true =>
        go_wp2_with fail
        refine bodyPost_ret (results_tmp rfl _ _ _) rfl ?_
        refine ⟨k, rfl, ?_, hbl.out⟩
        show _ = _
        have : l.any nz = true := by
          rw [List.any_eq_true]
          exact ⟨x, List.mem_of_getElem? HEL.out, hp⟩
        rw [this]
        simp
    · obtain rfl : k = n := by omega
      have HK : Hid (l.take k = l) := List.take_of_length_le (by have := HL.out; omega)
      go_wp2_with fail
      go_ret
      refine ⟨-1, rfl, ?_, hbl.out⟩
      show _ = _
      rw [← HK.out, hall.out]
      rfl
set_option maxHeartbeats 1000000 in
theorem ContainsNz_any (w : World) (c : Col) (A : Option Addr) (n cp : Nat) (l : List UInt8) (hx : Rd kU8 w c A n cp l) :
    Calls Try.prog 41 #[.slice A n cp, .func (.func 42) #[] #[]] w (BoolPost w (l.any nz)) := by
  have HX := Lib.hid hx
  clear hx
  go_enter Try.func41, Try.ntmps41
  go_wp2_with fail
  refine (IndexNz_any w c A n cp l HX.out).mono ?_
  rintro e w1 ⟨i, rfl, q_HI, q_HB1⟩
  have HI := Lib.hid q_HI
  have HB1 := Lib.hid q_HB1
  clear q_HI q_HB1
  go_wp2_with fail
  go_ret
  rw [← HI.out]
  exact ⟨rfl, HB1.out⟩
theorem nz_zsec {s : List UInt8} (hl : s.length = 64) (h : s.any nz = false) : s = zsec := by
  apply List.ext_getElem?
  intro i
  unfold zsec
  rw [List.getElem?_replicate]
  by_cases hi : i < 64
  · rw [if_pos hi, List.getElem?_eq_getElem (by omega)]
    have h1 := List.any_eq_false.1 h (s[i]'(by omega)) (List.getElem_mem _)
    unfold nz at h1
    simp at h1
    rw [h1]
  · rw [if_neg hi, List.getElem?_eq_none (by omega)]
end Go.Proofs.Ytalihocoekplgaa
