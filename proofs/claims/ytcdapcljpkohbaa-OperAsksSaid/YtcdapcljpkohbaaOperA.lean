/- oper: which requests may be. -/
import Derived.Test.YtcdapcljpkohbaaTupM
import Derived.Test.YtcdapcljpkohbaaRef6A
import Derived.Deep.DeepCutAuto
import Derived.Outline
set_option linter.unusedVariables false
set_option linter.unusedSimpArgs false
namespace Go.Proofs.Ytcdapcljpkohbaa
open Go.RowKit

structure Req where
  client : Int
  seq : Int
  kind : Int
  p : List Fld
  t : List Fld
  lease : Int
abbrev rV (x : Req) (A : Option Addr) (n cp : Nat) (B : Option Addr) (m cq : Nat) : Value := .agg #[.int .i64 x.client, .int .i64 x.seq, .int .i64 x.kind, .slice A n cp, .slice B m cq, .int .i64 x.lease]
def numsB (x : Req) : Bool := decide (0 ≤ x.client) && (decide (x.client < 4) && (decide (1 ≤ x.seq) && (decide (x.seq ≤ 1073741824) && (decide (1 ≤ x.kind) && decide (x.kind ≤ 8)))))
def outsB (k : Int) : Bool := k == 1 || (k == 6 || k == 7)
def readsB (k : Int) : Bool := decide (2 ≤ k) && decide (k ≤ 7)
def writesB (k : Int) : Bool := k == 1 || (k == 3 || (k == 5 || (k == 6 || k == 7)))
def tPart (x : Req) : Bool := if outsB x.kind = true then mayB x.t && (decide (0 ≤ x.lease) && decide (x.lease ≤ 1099511627776)) else x.t.isEmpty && x.lease == 0
def pPart (x : Req) : Bool := if readsB x.kind = true then mayTB x.p else x.p.isEmpty
def mayR (x : Req) : Bool := numsB x && (tPart x && pPart x)
theorem numsB_iff {x : Req} : numsB x = true ↔ (0 ≤ x.client ∧ x.client < 4 ∧ 1 ≤ x.seq ∧ x.seq ≤ 1073741824 ∧ 1 ≤ x.kind ∧ x.kind ≤ 8) := by
  unfold numsB
  simp only [Bool.and_eq_true, decide_eq_true_eq]
def inB (k mask : Int) : Bool := decide (1 ≤ k) && (decide (k ≤ 8) && (bits .and .i64 (mask / 2 ^ k.toNat) 1 == 1))
theorem ret_bool {a b : Bool} (h : a = b) : Ending.returned (.bool a) = .returned (.bool b) := by rw [h]
theorem val_bool {a b : Bool} (h : a = b) : Value.bool a = .bool b := by rw [h]
theorem emp_len {α : Type} {l : List α} {n : Nat} (h : l.length = n) : l.isEmpty = (n == 0) := by subst h; cases l <;> rfl
theorem in_any (w : World) (k mask : Int) : Calls Try.prog 29 #[.int .i64 k, .int .i64 mask] w fun e w' => e = .returned (.bool (inB k mask)) ∧ w = w' := by
  generalize hr : inB k mask = r
  have HR := Lib.hid hr
  clear hr
  go_enter Try.func29, Try.ntmps29
  go_wp2
  all_goals
    go_ret
    exact ⟨ret_bool (by rw [← HR.out, Bool.eq_iff_iff]; unfold inB; simp; try omega), rfl⟩
theorem in_outs (k : Int) : inB k 194 = outsB k := by
  by_cases h : 1 ≤ k ∧ k ≤ 8
  · have hk : k = 1 ∨ k = 2 ∨ k = 3 ∨ k = 4 ∨ k = 5 ∨ k = 6 ∨ k = 7 ∨ k = 8 := by omega
    rcases hk with rfl | rfl | rfl | rfl | rfl | rfl | rfl | rfl <;> decide
  · rw [Bool.eq_iff_iff]; unfold inB outsB; simp; omega
theorem in_reads (k : Int) : inB k 252 = readsB k := by
  by_cases h : 1 ≤ k ∧ k ≤ 8
  · have hk : k = 1 ∨ k = 2 ∨ k = 3 ∨ k = 4 ∨ k = 5 ∨ k = 6 ∨ k = 7 ∨ k = 8 := by omega
    rcases hk with rfl | rfl | rfl | rfl | rfl | rfl | rfl | rfl <;> decide
  · rw [Bool.eq_iff_iff]; unfold inB readsB; simp; omega
theorem in_writes (k : Int) : inB k 234 = writesB k := by
  by_cases h : 1 ≤ k ∧ k ≤ 8
  · have hk : k = 1 ∨ k = 2 ∨ k = 3 ∨ k = 4 ∨ k = 5 ∨ k = 6 ∨ k = 7 ∨ k = 8 := by omega
    rcases hk with rfl | rfl | rfl | rfl | rfl | rfl | rfl | rfl <;> decide
  · rw [Bool.eq_iff_iff]; unfold inB writesB; simp; omega
theorem OReads_any (w : World) (k : Int) : Calls Try.prog 18 #[.int .i64 k] w fun e w' => e = .returned (.bool (readsB k)) ∧ w = w' := by
  rw [← in_reads]
  go_enter Try.func18, Try.ntmps18
  go_wp2_with fail
  refine (in_any _ _ _).mono ?_
  rintro e w' ⟨rfl, rfl⟩
  go_wp2_with fail
  go_ret
  exact ⟨rfl, rfl⟩
theorem OWrites_any (w : World) (k : Int) : Calls Try.prog 20 #[.int .i64 k] w fun e w' => e = .returned (.bool (writesB k)) ∧ w = w' := by
  rw [← in_writes]
  go_enter Try.func20, Try.ntmps20
  go_wp2_with fail
  refine (in_any _ _ _).mono ?_
  rintro e w' ⟨rfl, rfl⟩
  go_wp2_with fail
  go_ret
  exact ⟨rfl, rfl⟩
theorem r6Reads_any (w : World) (k : Int) : Calls Try.prog 19 #[.int .i64 k] w fun e w' => e = .returned (.bool (readsB k)) ∧ w = w' := by
  generalize hr : readsB k = r
  have HR := Lib.hid hr
  clear hr
  have hc : k = 2 ∨ k = 3 ∨ k = 4 ∨ k = 5 ∨ k = 6 ∨ k = 7 ∨ (k < 2 ∨ 7 < k) := by omega
  rcases hc with rfl | rfl | rfl | rfl | rfl | rfl | h
  all_goals
    first
      | (have hb : Hid ((k < 2 ∨ 7 < k)) := h; clear h
         have b2 : (k == 2) = false := by simp; have := hb.out; omega
         have b3 : (k == 3) = false := by simp; have := hb.out; omega
         have b4 : (k == 4) = false := by simp; have := hb.out; omega
         have b5 : (k == 5) = false := by simp; have := hb.out; omega
         have b6 : (k == 6) = false := by simp; have := hb.out; omega
         have b7 : (k == 7) = false := by simp; have := hb.out; omega
         go_enter Try.func19, Try.ntmps19
         go_wp2_with fail
         go_ret
         exact ⟨ret_bool (by rw [← HR.out]; unfold readsB; have := hb.out; simp; omega), rfl⟩)
      | (go_enter Try.func19, Try.ntmps19
         go_wp2_with fail
         go_ret
         exact ⟨ret_bool (by rw [← HR.out]; decide), rfl⟩)
theorem r6Writes_any (w : World) (k : Int) : Calls Try.prog 21 #[.int .i64 k] w fun e w' => e = .returned (.bool (writesB k)) ∧ w = w' := by
  generalize hr : writesB k = r
  have HR := Lib.hid hr
  clear hr
  have hc : k = 1 ∨ k = 3 ∨ k = 5 ∨ k = 6 ∨ k = 7 ∨ (k ≠ 1 ∧ k ≠ 3 ∧ k ≠ 5 ∧ k ≠ 6 ∧ k ≠ 7) := by omega
  rcases hc with rfl | rfl | rfl | rfl | rfl | h
  all_goals
    first
      | (have hb : Hid (k ≠ 1 ∧ k ≠ 3 ∧ k ≠ 5 ∧ k ≠ 6 ∧ k ≠ 7) := h; clear h
         have b2 : (k == 1) = false := by simp; have := hb.out; omega
         have b3 : (k == 3) = false := by simp; have := hb.out; omega
         have b5 : (k == 5) = false := by simp; have := hb.out; omega
         have b6 : (k == 6) = false := by simp; have := hb.out; omega
         have b7 : (k == 7) = false := by simp; have := hb.out; omega
         go_enter Try.func21, Try.ntmps21
         go_wp2_with fail
         go_ret
         exact ⟨ret_bool (by rw [← HR.out]; unfold writesB; have := hb.out; simp; omega), rfl⟩)
      | (go_enter Try.func21, Try.ntmps21
         go_wp2_with fail
         go_ret
         exact ⟨ret_bool (by rw [← HR.out]; decide), rfl⟩)

set_option maxRecDepth 100000 in
set_option maxHeartbeats 4000000 in
theorem OMay_any (w : World) (c : Col) (x : Req) (A : Option Addr) (n cp : Nat) (B : Option Addr) (m cq : Nat) (hx : Rd kFld w c A n cp x.p) (hy : Rd kFld w c B m cq x.t) :
    Calls Try.prog 11 #[rV x A n cp B m cq] w (BoolPost w (mayR x)) := by
  have hln := hx.1
  have hlm := hy.1
  have hmn := hx.max
  have hmm := hy.max
  have HX := Lib.hid hx
  have HY := Lib.hid hy
  have HLN := Lib.hid hln
  have HLM := Lib.hid hlm
  clear hx hy hln hlm
  obtain ⟨cl, sq, kd, p, t, ls⟩ := x
  dsimp only [rV] at *
  generalize hr : mayR ⟨cl, sq, kd, p, t, ls⟩ = r
  unfold mayR at hr
  cases hN : numsB ⟨cl, sq, kd, p, t, ls⟩ with
  | false =>
    rw [hN, Bool.false_and] at hr
    have HN : Hid (¬ (0 ≤ cl ∧ cl < 4 ∧ 1 ≤ sq ∧ sq ≤ 1073741824 ∧ 1 ≤ kd ∧ kd ≤ 8)) := by
      show ¬ _
      rw [← numsB_iff (x := ⟨cl, sq, kd, p, t, ls⟩), hN]
      simp
    subst hr
    clear hN
    go_enter Try.func11, Try.ntmps11
    go_wp2_with fail
    all_goals
      first
        | (exfalso; have := HN.out; omega)
        | (refine bodyPost_ret (results_tmp rfl _ _ _) rfl ?_; exact ⟨rfl, below_alloc _ _⟩)
  | true =>
    rw [hN, Bool.true_and] at hr
    obtain ⟨n1, n2, n3, n4, n5, n6⟩ := numsB_iff.1 hN
    dsimp only at n1 n2 n3 n4 n5 n6
    clear hN
    go_enter Try.func11, Try.ntmps11
    go_upto_region 3 with fail
    go_cut [3] (fun a wx => a = .bool (t.isEmpty && ls == 0) ∧ wx = (w.alloc (.cells #[.int .i64 cl, .int .i64 sq, .int .i64 kd, .slice A n cp, .slice B m cq, .int .i64 ls] 24)))
    case first =>
      have HE := Lib.hid (emp_len HLM.out)
      by_cases hm0 : m = 0
      · have hb : ((m : Int) == 0) = true := by simp [hm0]
        have HV : Hid ((ls == 0) = (t.isEmpty && ls == 0)) := by show _ = _; rw [HE.out, hm0]; rfl
        clear hm0
        go_wp2_with fail
        go_meet
        exact ⟨val_bool HV.out, rfl⟩
      · have hb : ((m : Int) == 0) = false := by simp [hm0]
        have HV : Hid (false = (t.isEmpty && ls == 0)) := by show _ = _; rw [HE.out, beq_eq_false_iff_ne.2 hm0]; rfl
        clear hm0
        go_wp2_with fail
        go_meet
        exact ⟨val_bool HV.out, rfl⟩
    case rest =>
    obtain ⟨rfl, rfl⟩ := hcut
    go_wp2_with fail
    refine (in_any _ _ _).mono ?_
    rintro e w' ⟨rfl, rfl⟩
    go_upto_if 44 with fail
    go_cut [3] (fun a wx => a = .bool (tPart ⟨cl, sq, kd, p, t, ls⟩) ∧ Hid (Below (w.alloc (.cells #[.int .i64 cl, .int .i64 sq, .int .i64 kd, .slice A n cp, .slice B m cq, .int .i64 ls] 24)).heap.size (w.alloc (.cells #[.int .i64 cl, .int .i64 sq, .int .i64 kd, .slice A n cp, .slice B m cq, .int .i64 ls] 24)) wx))
    case first =>
      have htp : tPart ⟨cl, sq, kd, p, t, ls⟩ = if outsB kd = true then mayB t && (decide (0 ≤ ls) && decide (ls ≤ 1099511627776)) else t.isEmpty && ls == 0 := rfl
      rw [in_outs]
      cases ho : outsB kd with
      | false =>
        rw [ho, if_neg (by simp)] at htp
        have HT := Lib.hid htp
        clear htp ho hr
        go_wp2_with fail
        go_meet
        exact ⟨val_bool HT.out.symm, Below.refl _ _⟩
      | true =>
        rw [ho, if_pos rfl] at htp
        have HT := Lib.hid htp
        clear htp ho hr
        go_wp2_with fail
        refine (May_any _ c B m cq t (HY.out.below (below_alloc _ _))).mono ?_
        rintro e w1 ⟨rfl, q_HB1⟩
        have HB1 := Lib.hid q_HB1
        clear q_HB1
        have e5 := below_newcell HB1.out 5 _ rfl
        generalize hmt : mayB t = mt at HT
        clear hmt
        go_wp2_with fail
        all_goals
          go_meet
          exact ⟨val_bool (by rw [HT.out, Bool.eq_iff_iff]; simp [*]; try omega), HB1.out⟩
    case rest =>
    obtain ⟨rfl, HB1⟩ := hcut
    have hpp : pPart ⟨cl, sq, kd, p, t, ls⟩ = if readsB kd = true then mayTB p else p.isEmpty := rfl
    have e0 := below_newcell HB1.out 2 _ rfl
    have e3 := below_newcell HB1.out 3 _ rfl
    have HEP := Lib.hid (emp_len HLN.out)
    generalize tPart ⟨cl, sq, kd, p, t, ls⟩ = tp at hr
    generalize pPart ⟨cl, sq, kd, p, t, ls⟩ = pp at hr hpp
    have HR := Lib.hid hr
    clear hr
    go_wp2_with fail
    refine (OReads_any _ _).mono ?_
    rintro e w' ⟨rfl, rfl⟩
    cases ho : readsB kd with
    | false =>
      rw [ho, if_neg (by simp)] at hpp
      have HPP := Lib.hid hpp
      clear hpp
      clear ho
      cases tp
      all_goals
        go_wp2_with fail
        go_ret
        exact ⟨ret_bool (by rw [← HR.out, HPP.out, HEP.out]; first | rfl | (rw [Bool.true_and, Bool.eq_iff_iff]; simp)), below_then (below_alloc _ _) HB1.out⟩
    | true =>
      rw [ho, if_pos rfl] at hpp
      have HPP := Lib.hid hpp
      clear hpp
      clear ho
      go_wp2_with fail
      refine (MayT_any _ c A n cp p (HX.out.below (below_then (below_alloc _ _) HB1.out))).mono ?_
      rintro e w2 ⟨rfl, q_HB2⟩
      have HB2 := Lib.hid q_HB2
      clear q_HB2
      cases tp
      all_goals
        go_wp2_with fail
        go_ret
        exact ⟨ret_bool (by rw [← HR.out, HPP.out]; rfl), below_then (below_then (below_alloc _ _) HB1.out) HB2.out⟩
set_option maxRecDepth 100000 in
set_option maxHeartbeats 4000000 in
theorem r6MayR_any (w : World) (c : Col) (x : Req) (A : Option Addr) (n cp : Nat) (B : Option Addr) (m cq : Nat) (hx : Rd kFld w c A n cp x.p) (hy : Rd kFld w c B m cq x.t) :
    Calls Try.prog 9 #[rV x A n cp B m cq] w (BoolPost w (mayR x)) := by
  have hln := hx.1
  have hlm := hy.1
  have hmn := hx.max
  have hmm := hy.max
  have HX := Lib.hid hx
  have HY := Lib.hid hy
  have HLN := Lib.hid hln
  have HLM := Lib.hid hlm
  clear hx hy hln hlm
  obtain ⟨cl, sq, kd, p, t, ls⟩ := x
  dsimp only [rV] at *
  generalize hr : mayR ⟨cl, sq, kd, p, t, ls⟩ = r
  unfold mayR at hr
  cases hN : numsB ⟨cl, sq, kd, p, t, ls⟩ with
  | false =>
    rw [hN, Bool.false_and] at hr
    have HN : Hid (¬ (0 ≤ cl ∧ cl < 4 ∧ 1 ≤ sq ∧ sq ≤ 1073741824 ∧ 1 ≤ kd ∧ kd ≤ 8)) := by
      show ¬ _
      rw [← numsB_iff (x := ⟨cl, sq, kd, p, t, ls⟩), hN]
      simp
    subst hr
    clear hN
    go_enter Try.func9, Try.ntmps9
    go_wp2_with fail
    all_goals
      first
        | (exfalso; have := HN.out; omega)
        | (refine bodyPost_ret (results_tmp rfl _ _ _) rfl ?_; exact ⟨rfl, below_alloc _ _⟩)
  | true =>
    rw [hN, Bool.true_and] at hr
    obtain ⟨n1, n2, n3, n4, n5, n6⟩ := numsB_iff.1 hN
    dsimp only at n1 n2 n3 n4 n5 n6
    clear hN
    go_enter Try.func9, Try.ntmps9
    obtain ⟨o, hoo⟩ : ∃ o, outsB kd = o := ⟨_, rfl⟩
    have HOO := Lib.hid hoo
    clear hoo
    go_upto_region 3 with fail
    go_cut [3] (fun a wx => a = .bool o ∧ wx = (w.alloc (.cells #[.int .i64 cl, .int .i64 sq, .int .i64 kd, .slice A n cp, .slice B m cq, .int .i64 ls] 24)))
    case first =>
      by_cases k1 : kd = 1
      · have b1 : (kd == 1) = true := by simp [k1]
        have hv : Hid (o = true) := by show _ = _; rw [← HOO.out, k1]; rfl
        clear k1
        go_wp2_with fail
        go_meet
        exact ⟨val_bool hv.out.symm, rfl⟩
      · have b1 : (kd == 1) = false := by simp [k1]
        by_cases k6 : kd = 6
        · have b6 : (kd == 6) = true := by simp [k6]
          have hv : Hid (o = true) := by show _ = _; rw [← HOO.out, k6]; rfl
          clear k1 k6
          go_wp2_with fail
          go_meet
          exact ⟨val_bool hv.out.symm, rfl⟩
        · have b6 : (kd == 6) = false := by simp [k6]
          have hv : Hid ((kd == 7) = o) := by show _ = _; rw [← HOO.out]; unfold outsB; rw [b1, b6]; rfl
          clear k1 k6
          go_wp2_with fail
          go_meet
          exact ⟨val_bool hv.out, rfl⟩
    case rest =>
    obtain ⟨rfl, rfl⟩ := hcut
    go_upto_region 4 with fail
    go_cut [76] (fun a wx => a = .bool (!tPart ⟨cl, sq, kd, p, t, ls⟩) ∧ Hid (Below (w.alloc (.cells #[.int .i64 cl, .int .i64 sq, .int .i64 kd, .slice A n cp, .slice B m cq, .int .i64 ls] 24)).heap.size (w.alloc (.cells #[.int .i64 cl, .int .i64 sq, .int .i64 kd, .slice A n cp, .slice B m cq, .int .i64 ls] 24)) wx))
    case first =>
      have htp : tPart ⟨cl, sq, kd, p, t, ls⟩ = if outsB kd = true then mayB t && (decide (0 ≤ ls) && decide (ls ≤ 1099511627776)) else t.isEmpty && ls == 0 := rfl
      rw [HOO.out] at htp
      cases o with
      | false =>
        rw [if_neg (by simp), emp_len HLM.out] at htp
        have HT := Lib.hid htp
        clear htp hr
        by_cases hm0 : m = 0
        · have hb : decide (0 < m) = false := by simp [hm0]
          have HV : Hid ((ls != 0) = !tPart ⟨cl, sq, kd, p, t, ls⟩) := by show _ = _; rw [HT.out, hm0]; rfl
          clear hm0
          go_wp2_with fail
          go_meet
          exact ⟨val_bool HV.out, Below.refl _ _⟩
        · have hb : decide (0 < m) = true := by simp; omega
          have HV : Hid (true = !tPart ⟨cl, sq, kd, p, t, ls⟩) := by show _ = _; rw [HT.out, beq_eq_false_iff_ne.2 hm0]; rfl
          clear hm0
          go_wp2_with fail
          go_meet
          exact ⟨val_bool HV.out, Below.refl _ _⟩
      | true =>
        rw [if_pos rfl] at htp
        have HT := Lib.hid htp
        clear htp hr
        go_wp2_with fail
        refine (r6MayT_any _ c B m cq t (HY.out.below (below_alloc _ _))).mono ?_
        rintro e w1 ⟨rfl, q_HB1⟩
        have HB1 := Lib.hid q_HB1
        clear q_HB1
        have e5 := below_newcell HB1.out 5 _ rfl
        generalize hmt : mayB t = mt at HT
        clear hmt
        go_wp2_with fail
        all_goals
          go_meet
          exact ⟨val_bool (by rw [HT.out, Bool.eq_iff_iff]; simp [*]; try omega), HB1.out⟩
    case rest =>
    obtain ⟨rfl, HB1⟩ := hcut
    have hpp : pPart ⟨cl, sq, kd, p, t, ls⟩ = if readsB kd = true then mayTB p else p.isEmpty := rfl
    have e0 := below_newcell HB1.out 2 _ rfl
    have e3 := below_newcell HB1.out 3 _ rfl
    have HEP := Lib.hid (emp_len HLN.out)
    generalize tPart ⟨cl, sq, kd, p, t, ls⟩ = tp at hr
    generalize pPart ⟨cl, sq, kd, p, t, ls⟩ = pp at hr hpp
    have HR := Lib.hid hr
    clear hr
    cases tp with
    | false =>
      go_wp2_with fail
      refine bodyPost_ret (results_tmp rfl _ _ _) rfl ?_
      exact ⟨ret_bool (by rw [← HR.out]; rfl), below_then (below_alloc _ _) HB1.out⟩
    | true =>
    go_wp2_with fail
    refine (r6Reads_any _ _).mono ?_
    rintro e w' ⟨rfl, rfl⟩
    cases ho : readsB kd with
    | false =>
      rw [ho, if_neg (by simp)] at hpp
      have HPP := Lib.hid hpp
      clear hpp
      clear ho
      go_wp2_with fail
      go_ret
      exact ⟨ret_bool (by rw [← HR.out, HPP.out, HEP.out]; first | rfl | (rw [Bool.true_and, Bool.eq_iff_iff]; simp)), below_then (below_alloc _ _) HB1.out⟩
    | true =>
      rw [ho, if_pos rfl] at hpp
      have HPP := Lib.hid hpp
      clear hpp
      clear ho
      go_wp2_with fail
      refine (r6MayP_any _ c A n cp p (HX.out.below (below_then (below_alloc _ _) HB1.out))).mono ?_
      rintro e w2 ⟨rfl, q_HB2⟩
      have HB2 := Lib.hid q_HB2
      clear q_HB2
      go_wp2_with fail
      refine bodyPost_ret (results_tmp rfl _ _ _) rfl ?_
      exact ⟨ret_bool (by rw [← HR.out, HPP.out]; rfl), below_then (below_then (below_alloc _ _) HB1.out) HB2.out⟩
end Go.Proofs.Ytcdapcljpkohbaa
