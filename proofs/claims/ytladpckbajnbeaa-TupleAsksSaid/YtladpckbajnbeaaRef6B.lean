/- ref6: Match. -/
import Derived.Test.YtladpckbajnbeaaRef6A
set_option linter.unusedVariables false
set_option linter.unusedSimpArgs false
namespace Go.Proofs.Ytladpckbajnbeaa
open Go.RowKit

set_option maxHeartbeats 4000000 in
theorem r6Match_any (w : World) (c : Col) (A B : Option Addr) (n cp m cq : Nat) (p t : List Fld) (hx : Rd kFld w c A n cp p) (hy : Rd kFld w c B m cq t) :
    Calls Try.prog 50 #[.slice A n cp, .slice B m cq] w (BoolPost w (matchB p t)) := by
  have hln := hx.1
  have hmx := hx.max
  have hln2 := hy.1
  have hmx2 := hy.max
  have HX := Lib.hid hx
  have HL := Lib.hid hln
  have HY := Lib.hid hy
  have HL2 := Lib.hid hln2
  clear hx hln hy hln2
  generalize hr : matchB p t = r
  unfold matchB at hr
  have HC := Lib.hid (r6MayP_any w c A n cp p HX.out)
  cases h1 : mayTB p with
  | false =>
    have HP : Hid (r = false) := by show _ = _; rw [← hr, h1]; rfl
    rw [h1] at HC
    clear hr h1
    go_enter Try.func50, Try.ntmps50
    go_wp2_with fail
    refine (HC.out).mono ?_
    rintro e w1 ⟨rfl, q_HB1⟩
    have HB1 := Lib.hid q_HB1
    clear q_HB1
    go_wp2_with fail
    refine bodyPost_ret (results_tmp rfl _ _ _) rfl ?_
    rw [HP.out]
    exact ⟨rfl, HB1.out⟩
  | true =>
  rw [h1] at HC
  cases h2 : mayB t with
  | false =>
    have HP : Hid (r = false) := by show _ = _; rw [← hr, h1, h2]; rfl
    have HD : Hid (∀ W, Rd kFld W c B m cq t → Calls Try.prog 48 #[.slice B m cq] W (BoolPost W false)) := by intro W h; have := r6MayT_any W c B m cq t h; rw [h2] at this; exact this
    clear hr h1 h2
    go_enter Try.func50, Try.ntmps50
    go_wp2_with fail
    refine (HC.out).mono ?_
    rintro e w1 ⟨rfl, q_HB1⟩
    have HB1 := Lib.hid q_HB1
    clear q_HB1
    go_wp2_with fail
    refine (HD.out w1 (HY.out.below HB1.out)).mono ?_
    rintro e w2 ⟨rfl, q_HB2⟩
    have HB2 := Lib.hid q_HB2
    clear q_HB2
    go_wp2_with fail
    refine bodyPost_ret (results_tmp rfl _ _ _) rfl ?_
    rw [HP.out]
    exact ⟨rfl, below_then HB1.out HB2.out⟩
  | true =>
  have HD : Hid (∀ W, Rd kFld W c B m cq t → Calls Try.prog 48 #[.slice B m cq] W (BoolPost W true)) := by intro W h; have := r6MayT_any W c B m cq t h; rw [h2] at this; exact this
  have HR : Hid (r = fitsL p t) := by show _ = _; rw [← hr, h1, h2]; rfl
  clear hr h1 h2
  by_cases hnm : n = m
  case neg =>
    have HP : Hid (r = false) := by show _ = _; rw [HR.out]; exact all2_len_ne (by rw [HL.out, HL2.out]; exact hnm)
    have hne : ((n : Int) == (m : Int)) = false := by simp; omega
    have hne2 : ((n : Int) != (m : Int)) = true := by simp; omega
    go_enter Try.func50, Try.ntmps50
    go_wp2_with fail
    refine (HC.out).mono ?_
    rintro e w1 ⟨rfl, q_HB1⟩
    have HB1 := Lib.hid q_HB1
    clear q_HB1
    go_wp2_with fail
    refine (HD.out w1 (HY.out.below HB1.out)).mono ?_
    rintro e w2 ⟨rfl, q_HB2⟩
    have HB2 := Lib.hid q_HB2
    clear q_HB2
    go_wp2_with fail
    refine bodyPost_ret (results_tmp rfl _ _ _) rfl ?_
    rw [HP.out]
    exact ⟨rfl, below_then HB1.out HB2.out⟩
  subst hnm
  go_enter Try.func50, Try.ntmps50
  go_wp2_with fail
  refine (HC.out).mono ?_
  rintro e w1 ⟨rfl, q_HB1⟩
  have HB1 := Lib.hid q_HB1
  clear q_HB1
  go_wp2_with fail
  refine (HD.out w1 (HY.out.below HB1.out)).mono ?_
  rintro e w2 ⟨rfl, q_HB2⟩
  have HB2 := Lib.hid q_HB2
  clear q_HB2
  go_wp2_with fail
  go_loopw [5] (fun i wr => ∃ k : Nat, i = .int .i64 (k : Int) ∧ k ≤ n ∧ Hid (∀ j x y, j < k → p[j]? = some x → t[j]? = some y → fitsB x y = true) ∧ Hid (Below w.heap.size w wr)) (fun i _ => n - (intOf i).toNat)
  case atStart => exact ⟨0, rfl, by omega, fun j x y h => absurd h (by omega), below_then HB1.out HB2.out⟩
  case round =>
    obtain ⟨k, rfl, hk, hall, hbl⟩ := hrel
    by_cases hlt : k < n
    · obtain ⟨bb, off, rfl⟩ := HX.out.addr (by omega)
      obtain ⟨b2, off2, rfl⟩ := HY.out.addr (by omega)
      have hel := getD_at' p ⟨0, 0, []⟩ (k := k) (by have := HL.out; omega)
      generalize p[k]?.getD ⟨0, 0, []⟩ = x at hel
      have hel2 := getD_at' t ⟨0, 0, []⟩ (k := k) (by have := HL2.out; omega)
      generalize t[k]?.getD ⟨0, 0, []⟩ = y at hel2
      obtain ⟨_, h0, h1, h2⟩ := (HX.out.below hbl.out).fld hel
      obtain ⟨_, g0, g1, g2⟩ := (HY.out.below hbl.out).fld hel2
      have HEL := Lib.hid hel
      have HEL2 := Lib.hid hel2
      clear hel hel2
      have HNEXT : Hid (fitsB x y = true → ∀ j a b, j < k + 1 → p[j]? = some a → t[j]? = some b → fitsB a b = true) := by
        intro hp j a b hj ha hb
        rcases Nat.lt_or_ge j k with h | h
        · exact hall.out j a b h ha hb
        · obtain rfl : j = k := by omega
          rw [HEL.out] at ha
          rw [HEL2.out] at hb
          cases ha
          cases hb
          exact hp
      have HSTOP : Hid (fitsB x y = false → r = false) := fun hp => by rw [HR.out]; exact all2_false HEL.out HEL2.out hp
      have heq := fun W => run_eq_fld W x y
      have hk0 : (0 : Int) ≤ (k : Int) := Int.natCast_nonneg _
      have hk1 : (k : Int) < (n : Int) := by omega
      have hc : x.kind = 3 ∨ (x.kind ≠ 3 ∧ x.kind = 4) ∨ (x.kind ≠ 3 ∧ x.kind ≠ 4 ∧ x.kind = 5) ∨ (x.kind ≠ 3 ∧ x.kind ≠ 4 ∧ x.kind ≠ 5) := by omega
      rcases hc with h | ⟨h1', h⟩ | ⟨h1', h2', h⟩ | ⟨h1', h2', h3'⟩
      · have HE : Hid (fitsB x y = (y.kind == 1)) := by show _ = _; unfold fitsB; rw [if_pos h]
        have hb3 : (x.kind == 3) = true := by simp [h]
        clear h
        by_cases hy : y.kind = 1
        · have HP : Hid (fitsB x y = true) := by show _ = _; rw [HE.out, hy]; rfl
          have hyb : (y.kind == 1) = true := by rw [hy]; rfl
          go_wp2_with fail
          exact ⟨⟨k + 1, by go_num, by omega, HNEXT.out HP.out, hbl.out⟩, by simp [intOf]; omega⟩
        · have hyb : (y.kind == 1) = false := by simp [hy]
          have HP : Hid (fitsB x y = false) := by show _ = _; rw [HE.out, hyb]
          go_wp2_with fail
          refine bodyPost_ret (results_tmp rfl _ _ _) rfl ?_
          rw [HSTOP.out HP.out]
          exact ⟨rfl, hbl.out⟩
      · have HE : Hid (fitsB x y = (y.kind == 2)) := by show _ = _; unfold fitsB; rw [if_neg h1', if_pos h]
        have hb3 : (x.kind == 3) = false := by simp [h1']
        have hb4 : (x.kind == 4) = true := by simp [h]
        clear h h1'
        by_cases hy : y.kind = 2
        · have HP : Hid (fitsB x y = true) := by show _ = _; rw [HE.out, hy]; rfl
          have hyb : (y.kind == 2) = true := by rw [hy]; rfl
          go_wp2_with fail
          exact ⟨⟨k + 1, by go_num, by omega, HNEXT.out HP.out, hbl.out⟩, by simp [intOf]; omega⟩
        · have hyb : (y.kind == 2) = false := by simp [hy]
          have HP : Hid (fitsB x y = false) := by show _ = _; rw [HE.out, hyb]
          go_wp2_with fail
          refine bodyPost_ret (results_tmp rfl _ _ _) rfl ?_
          rw [HSTOP.out HP.out]
          exact ⟨rfl, hbl.out⟩
      · have HP : Hid (fitsB x y = true) := by show _ = _; unfold fitsB; rw [if_neg h1', if_neg h2', if_pos h]
        have hb3 : (x.kind == 3) = false := by simp [h1']
        have hb4 : (x.kind == 4) = false := by simp [h2']
        have hb5 : (x.kind == 5) = true := by simp [h]
        clear h h1' h2'
        go_wp2_with fail
        exact ⟨⟨k + 1, by go_num, by omega, HNEXT.out HP.out, hbl.out⟩, by simp [intOf]; omega⟩
      · have HE : Hid (fitsB x y = fdEq x y) := by show _ = _; unfold fitsB; rw [if_neg h1', if_neg h2', if_neg h3']
        have hb3 : (x.kind == 3) = false := by simp [h1']
        have hb4 : (x.kind == 4) = false := by simp [h2']
        have hb5 : (x.kind == 5) = false := by simp [h3']
        clear h1' h2' h3'
        go_wp2_with fail
        go_quiet (fail)
        have HB := Lib.hid (Drew.below hbl.out nq)
        by_cases hp : fdEq x y = true
        · have HP : Hid (fitsB x y = true) := by show _ = _; rw [HE.out, hp]
          rw [hp]
          go_wp2_with fail
          exact ⟨⟨k + 1, by go_num, by omega, HNEXT.out HP.out, HB.out⟩, by simp [intOf]; omega⟩
        · have hp2 : fdEq x y = false := by simpa using hp
          have HP : Hid (fitsB x y = false) := by show _ = _; rw [HE.out, hp2]
          rw [hp2]
          clear hp
          go_wp2_with fail
          refine bodyPost_ret (results_tmp rfl _ _ _) rfl ?_
          rw [HSTOP.out HP.out]
          exact ⟨rfl, HB.out⟩
    · obtain rfl : k = n := by omega
      have HP : Hid (r = true) := by
        show _ = _
        rw [HR.out]
        refine (all2_iff _ _ _).2 ⟨by rw [HL.out, HL2.out], fun j x y hx hy => hall.out j x y ?_ hx hy⟩
        have := (List.getElem?_eq_some_iff.1 hx).1
        have := HL.out
        omega
      go_wp2_with fail
      go_ret
      rw [HP.out]
      exact ⟨rfl, hbl.out⟩
end Go.Proofs.Ytladpckbajnbeaa
