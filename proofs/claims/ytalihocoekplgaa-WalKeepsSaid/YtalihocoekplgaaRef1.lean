/- chirographref1's Num, Text and Same: what each call does. -/
import Derived.Test.YtalihocoekplgaaPackB
set_option linter.unusedVariables false
set_option linter.unusedSimpArgs false
namespace Go.Proofs.Ytalihocoekplgaa
open Go.RowKit

set_option maxHeartbeats 1000000 in
theorem Same_any (w : World) (c : Col) (A B : Option Addr) (n cp m cq : Nat) (xs ys : List UInt8) (hx : Rd kU8 w c A n cp xs) (hy : Rd kU8 w c B m cq ys) :
    Calls Try.prog 14 #[.slice A n cp, .slice B m cq] w fun e w' => e = .returned (.bool (xs == ys)) ∧ w = w' := by
  have h1 := conv_str 23 9 5 Try.underlying23 Try.underlying5 Try.underlying9 hx
  have h2 := conv_str 23 9 5 Try.underlying23 Try.underlying5 Try.underlying9 hy
  clear hx hy
  go_enter Try.func14, Try.ntmps14
  go_wp2
  go_ret
  exact ⟨rfl, rfl⟩

set_option maxHeartbeats 1000000 in
theorem R1Num_good (w : World) (v n : Int) (hv0 : 0 ≤ v) (hn : 1 ≤ n) (hn8 : n ≤ 8) :
    Calls Try.prog 62 #[.int .u64 v, .int .i64 n] w (OwnPost w (numB v.toNat n.toNat)) := by
  go_enter Try.func62, Try.ntmps62
  go_wp2
  go_loopw [5, 6] (fun o i wr => ∃ (k : Nat) (p : List UInt8) (A : Option Addr) (m cp : Nat), i = .int .i64 ((k : Int) - 1) ∧ o = .slice A m cp ∧ k ≤ 8 ∧ m + k = n.toNat ∧ Hid (p.length = m) ∧ Hid (p ++ numB v.toNat k = numB v.toNat n.toNat) ∧ Hid (Below w.heap.size w wr) ∧ Hid (wr.ownsRow w.heap.size 5 1 (.slice A m cp) m (bcells p))) (fun _ i _ => (intOf i + 1).toNat)
  case atStart => exact ⟨n.toNat, [], none, 0, 0, by congr 1; omega, rfl, by omega, by omega, rfl, rfl, Below.refl _ _, own_none w w _⟩
  case round =>
    obtain ⟨k, p, A, m, cp, rfl, rfl, hk, hmk, hpm, hp, hb, ho⟩ := hrel
    rcases Nat.eq_zero_or_pos k with h0 | h0
    · obtain rfl : k = 0 := h0
      go_wp2
      go_ret
      refine ⟨A, m, cp, rfl, ?_, hb.out⟩
      have : p = numB v.toNat n.toNat := by simpa [numB] using hp.out
      rw [← this]
      exact ho.out
    · obtain ⟨j, rfl⟩ : ∃ j, k = j + 1 := ⟨k - 1, by omega⟩
      have hgw := hb.out.size
      have hm8 : m ≤ 8 := by omega
      go_wp2_with (at_builtin; go_must (refine app_one_own (base := w.heap.size) (.tmp 20) (.tmp 27) 23 5 (.int .u8 0) 1 1 rfl rfl Try.underlying23 u8_info rfl (by decide) (by decide) (bcells p) _ rfl rfl rfl (one_cell rfl) hgw hb.out ho.out (by omega) ?_); intro A1 cp1 w1 hb1 hown1 hs1)
      refine ⟨⟨j, p ++ [UInt8.ofNat (v.toNat / 256 ^ j)], A1, m + 1, cp1, rfl, rfl, by omega, by omega, by show _ = _; rw [List.length_append, hpm.out]; rfl, by show _ = _; rw [List.append_assoc]; exact hp.out, hb1, ?_⟩, by simp [intOf]⟩
      rw [byte_of v j hv0] at hown1
      show World.ownsRow _ _ _ _ _ _ _
      rw [bcells_append]
      exact hown1

set_option maxHeartbeats 1000000 in
theorem R1Num_off (w : World) (v n : Int) (hn : n < 1 ∨ 8 < n) :
    Calls Try.prog 62 #[.int .u64 v, .int .i64 n] w (OwnPost w []) := by
  rcases hn with hn | hn
  all_goals
    go_enter Try.func62, Try.ntmps62
    go_wp2
    go_ret
    exact ⟨none, 0, 0, rfl, own_none w w _, Below.refl _ _⟩
theorem R1Num_any (w : World) (v n : Int) (hv0 : 0 ≤ v) :
    Calls Try.prog 62 #[.int .u64 v, .int .i64 n] w (OwnPost w (numW v n)) := by
  by_cases h : 1 ≤ n ∧ n ≤ 8
  · rw [numW, if_pos h]
    exact R1Num_good w v n hv0 h.1 h.2
  · rw [numW, if_neg h]
    exact R1Num_off w v n (by omega)

end Go.Proofs.Ytalihocoekplgaa
