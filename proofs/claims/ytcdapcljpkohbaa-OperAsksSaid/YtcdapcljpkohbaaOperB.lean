/- oper: requests as bytes. -/
import Derived.Test.YtcdapcljpkohbaaOperA
import Derived.Test.YtcdapcljpkohbaaRefP
import Derived.Test.YtcdapcljpkohbaaRef1
import Derived.Deep.RegionHeld3
set_option linter.unusedVariables false
set_option linter.unusedSimpArgs false
namespace Go.Proofs.Ytcdapcljpkohbaa
open Go.RowKit

def fB (l : List Fld) : List UInt8 := if mayTB l = true then tupB l else []
theorem fB_len (l : List Fld) : (fB l).length ≤ 301 := by
  unfold fB
  split
  · exact (tupB_len (by assumption)).2
  · simp
set_option maxHeartbeats 1000000 in
theorem OFields_any (w : World) (c : Col) (A : Option Addr) (n cp : Nat) (l : List Fld) (hw : Wf c w) (hx : Rd kFld w c A n cp l) :
    Calls Try.prog 27 #[.slice A n cp] w (BytesPost w c (fB l)) := by
  have HX := Lib.hid hx
  have HW := Lib.hid hw
  clear hx hw
  cases hm : mayTB l with
  | false =>
    have HF : Hid (fB l = []) := by show _ = _; unfold fB; rw [if_neg (by simp [hm])]
    have HM := Lib.hid hm
    clear hm
    go_enter Try.func27, Try.ntmps27
    go_wp2_with fail
    refine (TPut_no w c A n cp l HM.out HW.out HX.out).mono ?_
    rintro e w1 ⟨rfl, q_HB1⟩
    have HB1 := Lib.hid q_HB1
    clear q_HB1
    go_wp2_with fail
    go_ret
    rw [HF.out]
    exact ⟨none, 0, 0, rfl, Rd.nil _ _ _, HB1.out⟩
  | true =>
    have HF : Hid (fB l = tupB l) := by show _ = _; unfold fB; rw [if_pos hm]
    have HM := Lib.hid hm
    clear hm
    go_enter Try.func27, Try.ntmps27
    go_wp2_with fail
    refine (TPut_yes w c A n cp l HM.out HW.out HX.out).mono ?_
    rintro e w1 ⟨A1, n1, cp1, rfl, q_HO1, q_HB1⟩
    have HO1 := Lib.hid q_HO1
    have HB1 := Lib.hid q_HB1
    clear q_HO1 q_HB1
    go_wp2_with fail
    go_ret
    rw [HF.out]
    exact ⟨A1, n1, cp1, rfl, own_rd HO1.out HW.out, HB1.out⟩
def reqB (x : Req) : List UInt8 := numB x.client.toNat 1 ++ (numB x.seq.toNat 4 ++ (numB x.kind.toNat 1 ++ (numB x.lease.toNat 8 ++ (textB (fB x.p) ++ textB (fB x.t)))))
theorem reqB_len (x : Req) : (reqB x).length ≤ 700 := by
  unfold reqB textB
  have := fB_len x.p
  have := fB_len x.t
  simp only [List.length_append, numB_length]
  omega
theorem mayR_lease {x : Req} (h : mayR x = true) : 0 ≤ x.lease ∧ x.lease ≤ 1099511627776 := by
  unfold mayR at h
  simp only [Bool.and_eq_true] at h
  have h1 := h.2.1
  unfold tPart at h1
  split at h1
  · simp only [Bool.and_eq_true, decide_eq_true_eq] at h1
    exact h1.2
  · simp only [Bool.and_eq_true, beq_iff_eq] at h1
    omega
theorem mayR_nums {x : Req} (h : mayR x = true) : 0 ≤ x.client ∧ x.client < 4 ∧ 1 ≤ x.seq ∧ x.seq ≤ 1073741824 ∧ 1 ≤ x.kind ∧ x.kind ≤ 8 := by
  unfold mayR at h
  simp only [Bool.and_eq_true] at h
  exact numsB_iff.1 h.1
set_option maxRecDepth 100000 in
set_option maxHeartbeats 4000000 in
theorem OPut_any (w : World) (c : Col) (x : Req) (A : Option Addr) (n cp : Nat) (B : Option Addr) (m cq : Nat) (hw : Wf c w) (hx : Rd kFld w c A n cp x.p) (hy : Rd kFld w c B m cq x.t) :
    Calls Try.prog 10 #[rV x A n cp B m cq] w (PutPost w (mayR x) (reqB x)) := by
  have HX := Lib.hid hx
  have HY := Lib.hid hy
  clear hx hy
  obtain ⟨cl, sq, kd, p, t, ls⟩ := x
  have HWF := Lib.hid hw
  clear hw
  cases hm : mayR ⟨cl, sq, kd, p, t, ls⟩ with
  | false =>
    have HM := Lib.hid hm
    clear hm
    go_enter Try.func10, Try.ntmps10
    go_wp2_with fail
    refine (bool_eq HM.out (OMay_any _ c ⟨cl, sq, kd, p, t, ls⟩ A n cp B m cq (HX.out.below (below_alloc _ _)) (HY.out.below (below_alloc _ _)))).mono ?_
    rintro e w1 ⟨rfl, q_HB1⟩
    have HB1 := Lib.hid q_HB1
    clear q_HB1
    go_wp2_with fail
    refine bodyPost_ret (results_tmp2 rfl _ _ _) rfl ?_
    exact ⟨below_then (below_alloc _ _) HB1.out, rfl⟩
  | true =>
    have HM := Lib.hid hm
    obtain ⟨n1, n2, n3, n4, n5, n6⟩ := mayR_nums hm
    obtain ⟨n7, n8⟩ := mayR_lease hm
    dsimp only at n1 n2 n3 n4 n5 n6 n7 n8
    clear hm
    go_enter Try.func10, Try.ntmps10
    go_wp2_with fail
    refine (bool_eq HM.out (OMay_any _ c ⟨cl, sq, kd, p, t, ls⟩ A n cp B m cq (HX.out.below (below_alloc _ _)) (HY.out.below (below_alloc _ _)))).mono ?_
    rintro e w1 ⟨rfl, q_HB1⟩
    have HB1 := Lib.hid q_HB1
    clear q_HB1
    have HB10 := Lib.hid (below_then (below_alloc _ _) HB1.out)
    obtain ⟨ht0, hW0⟩ := Wr_new w1 c (HWF.out.below HB10.out)
    generalize hc0 : Col.set c w1.heap.size w1.heap.size = c0 at ht0 hW0
    have HT0 := Lib.hid ((Tr.of_below (M := fun _ => False) (HWF.out.below (below_alloc _ _)) HB1.out).then ht0)
    have HTW := Lib.hid ((Tr.new HWF.out _).then HT0.out)
    have HW0 := Lib.hid hW0
    clear hW0
    clear hc0 ht0
    have hw1 := HB1.out.size
    have hw10 := HB10.out.size
    have e0 := HT0.out.newcell HWF.out 0 _ rfl
    have e1 := HT0.out.newcell HWF.out 1 _ rfl
    have e2 := HT0.out.newcell HWF.out 2 _ rfl
    have e3 := HT0.out.newcell HWF.out 3 _ rfl
    have e4 := HT0.out.newcell HWF.out 4 _ rfl
    have e5 := HT0.out.newcell HWF.out 5 _ rfl
    go_wp2_with fail
    refine (Num_good _ c0 w1.heap.size [] cl 1 (by omega) (by omega) (by omega) (by simp) HT0.out.wf HW0.out).mono ?_
    rintro e w2 ⟨rfl, c2, q_HA2, q_HW2⟩
    have HA2 := Lib.hid q_HA2
    have HW2 := Lib.hid q_HW2
    clear q_HA2 q_HW2
    have HT2 := Lib.hid (HT0.out.low HA2.out hw1)
    have g1 := HT2.out.newcell HWF.out 1 _ rfl
    go_wp2_with fail
    refine (Num_good _ c2 w1.heap.size _ sq 4 (by omega) (by omega) (by omega) (by simp [numB_length]) HT2.out.wf HW2.out).mono ?_
    rintro e w3 ⟨rfl, c3, q_HA3, q_HW3⟩
    have HA3 := Lib.hid q_HA3
    have HW3 := Lib.hid q_HW3
    clear q_HA3 q_HW3
    have HT3 := Lib.hid (HT2.out.low HA3.out hw1)
    have g2 := HT3.out.newcell HWF.out 2 _ rfl
    go_wp2_with fail
    refine (Num_good _ c3 w1.heap.size _ kd 1 (by omega) (by omega) (by omega) (by simp [numB_length]) HT3.out.wf HW3.out).mono ?_
    rintro e w4 ⟨rfl, c4, q_HA4, q_HW4⟩
    have HA4 := Lib.hid q_HA4
    have HW4 := Lib.hid q_HW4
    clear q_HA4 q_HW4
    have HT4 := Lib.hid (HT3.out.low HA4.out hw1)
    have g5 := HT4.out.newcell HWF.out 5 _ rfl
    go_wp2_with fail
    refine (Num_good _ c4 w1.heap.size _ ls 8 (by omega) (by omega) (by omega) (by simp [numB_length]) HT4.out.wf HW4.out).mono ?_
    rintro e w5 ⟨rfl, c5, q_HA5, q_HW5⟩
    have HA5 := Lib.hid q_HA5
    have HW5 := Lib.hid q_HW5
    clear q_HA5 q_HW5
    have HT5 := Lib.hid (HT4.out.low HA5.out hw1)
    have g3 := HT5.out.newcell HWF.out 3 _ rfl
    have g4 := HT5.out.newcell HWF.out 4 _ rfl
    have HPRE : Hid (([] ++ numB cl.toNat (1 : Int).toNat ++ numB sq.toNat (4 : Int).toNat ++ numB kd.toNat (1 : Int).toNat ++ numB ls.toNat (8 : Int).toNat : List UInt8) = numB cl.toNat 1 ++ (numB sq.toNat 4 ++ (numB kd.toNat 1 ++ numB ls.toNat 8))) := by show _ = _; simp
    have HLP : Hid ((numB cl.toNat 1 ++ (numB sq.toNat 4 ++ (numB kd.toNat 1 ++ numB ls.toNat 8))).length = 14) := by show _ = _; simp [numB_length]
    generalize numB cl.toNat 1 ++ (numB sq.toNat 4 ++ (numB kd.toNat 1 ++ numB ls.toNat 8)) = pre at HPRE HLP
    rw [HPRE.out] at HW5
    go_wp2_with fail
    go_loopw [31] (fun i wr => (i = .int .i64 0 ∧ wr = w5) ∨ (i = .int .i64 1 ∧ ∃ c6, Hid (Tr (fun _ => False) c c6 (w.alloc (.cells #[.int .i64 cl, .int .i64 sq, .int .i64 kd, .slice A n cp, .slice B m cq, .int .i64 ls] 24)) wr) ∧ Hid (Wr wr c6 w1.heap.size (pre ++ textB (fB p)))) ∨ (i = .int .i64 2 ∧ ∃ c6, Hid (Tr (fun _ => False) c c6 (w.alloc (.cells #[.int .i64 cl, .int .i64 sq, .int .i64 kd, .slice A n cp, .slice B m cq, .int .i64 ls] 24)) wr) ∧ Hid (Wr wr c6 w1.heap.size (pre ++ textB (fB p) ++ textB (fB t))))) (fun i _ => 2 - (intOf i).toNat)
    case atStart => exact .inl ⟨rfl, rfl⟩
    case round =>
      have i0 : ∀ w, (Instr.index 48 (.agg #[.slice A n cp, .slice B m cq]) (.int .i64 0)).run Try.prog w = .ok (.slice A n cp) w := fun _ => by kernel_rfl
      have i1 : ∀ w, (Instr.index 48 (.agg #[.slice A n cp, .slice B m cq]) (.int .i64 1)).run Try.prog w = .ok (.slice B m cq) w := fun _ => by kernel_rfl
      rcases hrel with ⟨rfl, rfl⟩ | ⟨rfl, c6, HT6, HW6⟩ | ⟨rfl, c6, HT6, HW6⟩
      · go_wp2_with fail
        refine (OFields_any _ c5 A n cp p HT5.out.wf ((HX.out.tr (Tr.new HWF.out _)).tr HT5.out)).mono ?_
        rintro e w6 ⟨A6, n6', cp6, rfl, q_HR6, q_HB6⟩
        have HR6 := Lib.hid q_HR6
        have HB6 := Lib.hid q_HB6
        clear q_HR6 q_HB6
        have HT6 := Lib.hid (HT5.out.then (Tr.of_below HT5.out.wf HB6.out))
        go_wp2_with fail
        refine (Text_any _ c5 w1.heap.size _ (fB p) A6 n6' cp6 (by rw [HLP.out]; have := fB_len p; omega) HT6.out.wf (HW5.out.tr (Tr.of_below (M := fun _ => False) HT5.out.wf HB6.out) (fun h => h)) HR6.out).mono ?_
        rintro e w7 ⟨rfl, c7, q_HA7, q_HW7⟩
        have HA7 := Lib.hid q_HA7
        have HW7 := Lib.hid q_HW7
        clear q_HA7 q_HW7
        have HT7 := Lib.hid (HT6.out.low HA7.out hw1)
        go_wp2_with fail
        exact ⟨.inr (.inl ⟨rfl, c7, HT7.out, HW7.out⟩), by simp [intOf]⟩
      · go_wp2_with fail
        refine (OFields_any _ c6 B m cq t HT6.out.wf ((HY.out.tr (Tr.new HWF.out _)).tr HT6.out)).mono ?_
        rintro e w7 ⟨A7, n7', cp7, rfl, q_HR7, q_HB7⟩
        have HR7 := Lib.hid q_HR7
        have HB7 := Lib.hid q_HB7
        clear q_HR7 q_HB7
        have HT7 := Lib.hid (HT6.out.then (Tr.of_below HT6.out.wf HB7.out))
        go_wp2_with fail
        refine (Text_any _ c6 w1.heap.size _ (fB t) A7 n7' cp7 (by rw [List.length_append, HLP.out, textB, List.length_append, numB_length]; have := fB_len p; have := fB_len t; omega) HT7.out.wf (HW6.out.tr (Tr.of_below (M := fun _ => False) HT6.out.wf HB7.out) (fun h => h)) HR7.out).mono ?_
        rintro e w8 ⟨rfl, c8, q_HA8, q_HW8⟩
        have HA8 := Lib.hid q_HA8
        have HW8 := Lib.hid q_HW8
        clear q_HA8 q_HW8
        have HT8 := Lib.hid (HT7.out.low HA8.out hw1)
        go_wp2_with fail
        exact ⟨.inr (.inr ⟨rfl, c8, HT8.out, HW8.out⟩), by simp [intOf]⟩
      · have HQ : Hid (pre ++ textB (fB p) ++ textB (fB t) = reqB ⟨cl, sq, kd, p, t, ls⟩) := by
          show _ = _
          rw [← HPRE.out]
          unfold reqB
          simp
        have HLQ := Lib.hid (reqB_len ⟨cl, sq, kd, p, t, ls⟩)
        rw [HQ.out] at HW6
        go_wp2_with fail
        refine (Bytes_own _ c6 w1.heap.size _ (by have := HLQ.out; omega) HT6.out.wf HW6.out).mono ?_
        rintro e w9 ⟨A9, n9, cp9, rfl, q_HO9, q_HB9⟩
        have HO9 := Lib.hid q_HO9
        have HB9 := Lib.hid q_HB9
        clear q_HO9 q_HB9
        go_wp2_with fail
        go_ret2
        have hbl := below_then (below_alloc w _) (HT6.out.below fun _ _ h => h)
        exact ⟨below_then hbl HB9.out, by rw [if_pos rfl]; exact ⟨A9, n9, cp9, rfl, own_weak HO9.out (by have := hbl.size; omega)⟩⟩
end Go.Proofs.Ytcdapcljpkohbaa
