/- pack.Writer: what each of its calls does. -/
import Derived.Test.YtalihocoekplgaaLib
import Derived.Test.YtalihocoekplgaaRows
set_option linter.unusedVariables false
set_option linter.unusedSimpArgs false
namespace Go.Proofs.Ytalihocoekplgaa
open Go.RowKit

/-- The lowest n bytes of v, the greatest first. -/
def numB (v : Nat) : Nat → List UInt8
  | 0 => []
  | n + 1 => UInt8.ofNat (v / 256 ^ n) :: numB v n
theorem numB_length (v n : Nat) : (numB v n).length = n := by
  induction n with
  | zero => rfl
  | succ n ih => simp [numB, ih]

/-- Block g is a Writer that has written xs. -/
def Wr (w : World) (c : Col) (g : Nat) (xs : List UInt8) : Prop :=
  c g = some g ∧ ∃ A cp, w.heap[g]? = some (.cells #[.slice A xs.length cp] 92 (0, 0)) ∧ OwnB w c g 5 1 (.slice A xs.length cp) xs.length (bcells xs)
theorem Wr.tr {M : Nat → Prop} {w w' : World} {c c' : Col} {g : Nat} {xs : List UInt8} (h : Wr w c g xs) (k : Tr M c c' w w') (hM : ¬ M g) : Wr w' c' g xs := by
  obtain ⟨hc, A, cp, hb, ho⟩ := h
  have := Loc.tr ⟨hc, hb⟩ k hM
  exact ⟨this.1, A, cp, this.2, ho.tr k hM⟩
theorem Wr.lt {w : World} {c : Col} {g : Nat} {xs : List UInt8} (h : Wr w c g xs) : g < w.heap.size := by
  obtain ⟨hc, A, cp, hb, ho⟩ := h
  exact (Array.getElem?_eq_some_iff.1 hb).1
def WrPost (w : World) (c : Col) (g : Nat) (ys : List UInt8) (e : Ending) (w' : World) : Prop :=
  e = .returned (.tuple #[]) ∧ ∃ c', Tr (· = g) c c' w w' ∧ Wr w' c' g ys

theorem u8_info : (Try.prog.info? 5).map (fun i => (i.zero, i.size, i.bytes)) = some (some (.int .u8 0), 1, 1) := by kernel_rfl

theorem byte_of (v : Int) (m : Nat) (hv0 : 0 ≤ v) : v / 2 ^ (8 * m) % 256 = ((UInt8.ofNat (v.toNat / 256 ^ m)).toNat : Int) := by
  obtain ⟨n, rfl⟩ := Int.eq_ofNat_of_zero_le hv0
  rw [Int.toNat_natCast, UInt8.toNat_ofNat', show (2 : Int) ^ (8 * m) = ((256 ^ m : Nat) : Int) by
    rw [show (256 : Nat) = 2 ^ 8 from rfl, ← Nat.pow_mul]; norm_cast]
  rw [Int.natCast_emod, Int.natCast_ediv]
  rfl
/-- Behind the store of the grown row. -/
theorem Wr_put {w : World} {c : Col} {g n cp cp' : Nat} {A A' : Option Addr} {ys : List UInt8} (hb : w.heap[g]? = some (.cells #[.slice A n cp] 92 (0, 0))) (hc : c g = some g)
    {m : Nat} (hl : ys.length = m) (ho : OwnB w c g 5 1 (.slice A' m cp') m (bcells ys)) : Wr (w.setCell ⟨g, 0, none⟩ (.slice A' m cp')) c g ys := by
  subst hl
  exact ⟨hc, A', cp', by simpa using blk_set hb 0 (.slice A' ys.length cp'), ho.far hb (by decide) 0 _⟩
set_option maxHeartbeats 1000000 in
theorem Num_good (w : World) (c : Col) (g : Nat) (xs : List UInt8) (v n : Int) (hv0 : 0 ≤ v) (hn : 1 ≤ n) (hn8 : n ≤ 8) (hl : xs.length + 8 ≤ 1000000000000) (hw : Wf c w) (hW : Wr w c g xs) :
    Calls Try.prog 46 #[.pointer (some ⟨g, 0, none⟩), .int .u64 v, .int .i64 n] w (WrPost w c g (xs ++ numB v.toNat n.toNat)) := by
  have HW := Lib.hid hW
  have HF := Lib.hid hw
  clear hW hw
  go_enter Try.func46, Try.ntmps46
  go_wp2
  go_loopw [6] (fun i wr => ∃ (k : Nat) (p : List UInt8) (c1 : Col), i = .int .i64 ((k : Int) - 1) ∧ k ≤ 8 ∧ p.length + k = n.toNat ∧ Hid (p ++ numB v.toNat k = numB v.toNat n.toNat) ∧ Hid (Tr (· = g) c c1 w wr) ∧ Hid (Wr wr c1 g (xs ++ p))) (fun i _ => (intOf i + 1).toNat)
  case atStart => exact ⟨n.toNat, [], c, by congr 1; omega, by omega, by simp, rfl, Tr.refl _ HF.out, by simpa using HW⟩
  case round =>
    obtain ⟨k, p, c1, rfl, hk, hpk, hp, ht, hx⟩ := hrel
    rcases Nat.eq_zero_or_pos k with h0 | h0
    · obtain rfl : k = 0 := h0
      have hfin : p = numB v.toNat n.toNat := by simpa [numB] using hp.out
      have HQ := Lib.hid hfin
      clear hfin
      go_wp2
      go_end0
      exact ⟨rfl, c1, ht.out, by rw [← HQ.out]; exact hx.out⟩
    · obtain ⟨m, rfl⟩ : ∃ m, k = m + 1 := ⟨k - 1, by omega⟩
      have hx1 := hx.out
      generalize hq : xs ++ p = q at hx1
      have hql : q.length ≤ 1000000000008 := by rw [← hq, List.length_append]; omega
      have HQ := Lib.hid hq
      clear hq hx
      obtain ⟨hcg, A, cp, hb, hown⟩ := hx1
      generalize hqn : q.length = qn at hb hown hql
      have HQn := Lib.hid hqn
      clear hqn
      clear HW HF
      have hc0 := blk_cell0 hb
      have hgw := ht.out.size
      go_wp2_with (at_builtin; go_must (refine app_one_st (.tmp 27) (.tmp 34) 23 5 (.int .u8 0) 1 1 rfl rfl Try.underlying23 u8_info rfl (by decide) (by decide) (bcells q) _ rfl rfl rfl (one_cell rfl) ht.out hown (.inl rfl) (blk_lt hb) (by omega) ?_); intro A1 cp1 w1 c2 ht1 hown1 hkeep hcol; have hb1 := hkeep _ _ _ _ (by decide) hb; have hc1 := blk_cell0 hb1; have hf1 := blk_free hb1 0; have hcg2 := (hcol g (blk_lt hb)).trans hcg; clear hkeep hcol)
      refine ⟨⟨m, p ++ [UInt8.ofNat (v.toNat / 256 ^ m)], c2, rfl, by omega, by simp; omega, by rw [List.append_assoc]; exact hp.out, ht1.setCell hcg2 (.inl rfl) _, ?_⟩, by simp [intOf]⟩
      rw [← List.append_assoc, HQ.out]
      rw [byte_of v m hv0] at hown1
      exact Wr_put hb1 hcg2 (by simp [HQn.out]) (by rw [bcells_append]; exact hown1)

set_option maxHeartbeats 1000000 in
theorem Num_off (w : World) (c : Col) (g : Nat) (xs : List UInt8) (v n : Int) (hn : n < 1 ∨ 8 < n) (hw : Wf c w) (hW : Wr w c g xs) :
    Calls Try.prog 46 #[.pointer (some ⟨g, 0, none⟩), .int .u64 v, .int .i64 n] w (WrPost w c g xs) := by
  have HW := Lib.hid hW
  have HF := Lib.hid hw
  clear hW hw
  go_enter Try.func46, Try.ntmps46
  rcases hn with hn | hn
  all_goals
    go_wp2
    refine bodyPost_ret (results_none rfl _ _ _) rfl ?_
    exact ⟨rfl, c, Tr.refl _ HF.out, HW.out⟩

/-- What Num writes, whatever the width. -/
def numW (v n : Int) : List UInt8 := if 1 ≤ n ∧ n ≤ 8 then numB v.toNat n.toNat else []
theorem Num_any (w : World) (c : Col) (g : Nat) (xs : List UInt8) (v n : Int) (hv0 : 0 ≤ v) (hl : xs.length + 8 ≤ 1000000000000) (hw : Wf c w) (hW : Wr w c g xs) :
    Calls Try.prog 46 #[.pointer (some ⟨g, 0, none⟩), .int .u64 v, .int .i64 n] w (WrPost w c g (xs ++ numW v n)) := by
  by_cases h : 1 ≤ n ∧ n ≤ 8
  · rw [numW, if_pos h]
    exact Num_good w c g xs v n hv0 h.1 h.2 hl hw hW
  · rw [numW, if_neg h, List.append_nil]
    exact Num_off w c g xs v n (by omega) hw hW

set_option maxHeartbeats 1000000 in
theorem Num_nil (w : World) (v n : Int) : Calls Try.prog 46 #[.pointer none, .int .u64 v, .int .i64 n] w fun e w' => e = .returned (.tuple #[]) ∧ w = w' := by
  go_enter Try.func46, Try.ntmps46
  go_wp2
  refine bodyPost_ret (results_none rfl _ _ _) rfl ?_
  exact ⟨rfl, rfl⟩

set_option maxHeartbeats 1000000 in
theorem Raw_any (w : World) (c : Col) (g : Nat) (xs ys : List UInt8) (B : Option Addr) (m cq : Nat) (hl : xs.length + ys.length ≤ 1000000000000) (hw : Wf c w) (hW : Wr w c g xs) (hR : Rd kU8 w c B m cq ys) :
    Calls Try.prog 47 #[.pointer (some ⟨g, 0, none⟩), .slice B m cq] w (WrPost w c g (xs ++ ys)) := by
  obtain ⟨hcg, A, cp, hb, hown⟩ := hW
  have hc0 := blk_cell0 hb
  have HF := Lib.hid hw
  have HR := Lib.hid hR
  have hm := hR.1
  generalize hqn : xs.length = qn at *
  have HQn := Lib.hid hqn
  clear hqn hw hR
  have hbd : qn + m ≤ 1000000000000 := by omega
  have HM := Lib.hid hm
  clear hm
  go_enter Try.func47, Try.ntmps47
  go_wp2_with (at_builtin; go_must (refine app_bytes_st (.tmp 10) (.tmp 11) 23 5 rfl rfl Try.underlying23 u8_info xs ys rfl rfl (Tr.refl (· = g) HF.out) hown (.inl rfl) (blk_lt hb) HR.out (by omega) ?_); intro A1 cp1 w1 c2 ht1 hown1 hkeep hcol; have hb1 := hkeep _ _ _ _ (by decide) hb; have hc1 := blk_cell0 hb1; have hf1 := blk_free hb1 0; have hcg2 := (hcol g (blk_lt hb)).trans hcg; clear hkeep hcol)
  go_end0
  exact ⟨rfl, c2, ht1.setCell hcg2 (.inl rfl) _, Wr_put hb1 hcg2 (by rw [List.length_append, HQn.out, HM.out]) hown1⟩

set_option maxHeartbeats 1000000 in
theorem Raw_nil (w : World) (B : Option Addr) (m cq : Nat) : Calls Try.prog 47 #[.pointer none, .slice B m cq] w fun e w' => e = .returned (.tuple #[]) ∧ w = w' := by
  go_enter Try.func47, Try.ntmps47
  go_wp2
  go_end0
  exact ⟨rfl, rfl⟩

/-- A Text: the length in four bytes, and the bytes. -/
def textB (ys : List UInt8) : List UInt8 := numB ys.length 4 ++ ys

end Go.Proofs.Ytalihocoekplgaa
