/- TupleBack: the walk. -/
import Derived.Test.YtladpckbajnbeaaLaw6
import Derived.Test.YtladpckbajnbeaaRef1
set_option linter.unusedVariables false
set_option linter.unusedSimpArgs false
namespace Go.Proofs.Ytladpckbajnbeaa
open Go.RowKit

theorem Rd.all_ok {w : World} {c : Col} {A : Option Addr} {n cp : Nat} {l : List Fld} (h : Rd kFld w c A n cp l) : ∀ x ∈ l, x.ok := by
  intro x hx
  obtain ⟨j, hj⟩ := List.mem_iff_getElem?.1 hx
  have hn : 0 < n := by
    have := (List.getElem?_eq_some_iff.1 hj).1
    have := h.1
    omega
  obtain ⟨b, off, rfl⟩ := h.addr hn
  exact (h.fld hj).1
theorem Same_eq {w : World} {c : Col} {A B : Option Addr} {n cp m cq : Nat} {xs ys : List UInt8} {b : Bool} (he : (xs == ys) = b) (hx : Rd kU8 w c A n cp xs) (hy : Rd kU8 w c B m cq ys) :
    Calls Try.prog 20 #[.slice A n cp, .slice B m cq] w fun e w' => e = .returned (.bool b) ∧ w = w' := he ▸ Same_any w c A B n cp m cq xs ys hx hy
theorem own_snoc {W : World} {b n : Nat} {e : TypeId} {v : Value} {ys : List UInt8} {ch : Int} (hc : 0 ≤ ch ∧ ch ≤ 255) (h : W.ownsRow b e 1 v n (bcells ys ++ #[Value.int .u8 ch].toList)) : W.ownsRow b e 1 v n (bcells (ys ++ [UInt8.ofNat ch.toNat])) := by
  have : bcells (ys ++ [UInt8.ofNat ch.toNat]) = bcells ys ++ #[Value.int .u8 ch].toList := by
    rw [bcells_append]
    congr 1
    show [Value.int .u8 ((UInt8.ofNat ch.toNat).toNat : Int)] = [Value.int .u8 ch]
    rw [UInt8.toNat_ofNat']
    congr 2
    omega
  rw [this]
  exact h
theorem rem_small (x : Int) (n : Nat) (h0 : 1 ≤ n) (hm : n ≤ 1000000000000) : ∃ m : Nat, wrap64 ((IntKind.u64.wrap x).tmod n) = (m : Int) ∧ m < n := by
  obtain ⟨h1, h2⟩ := small_mod x n (by omega) (by omega)
  exact ⟨(wrap64 ((IntKind.u64.wrap x).tmod n)).toNat, by omega, by omega⟩

set_option maxRecDepth 100000 in
set_option maxHeartbeats 4000000 in
theorem TupleBack_any (w : World) (A : Option Addr) (n cp : Nat) (p : List Fld) (B : Option Addr) (m cq : Nat) (q : List Fld) (at_ ch : Int) (hch : 0 ≤ ch ∧ ch ≤ 255)
    (hx : Rd kFld w (fun _ => none) A n cp p) (hy : Rd kFld w (fun _ => none) B m cq q) :
    Calls Try.prog 12 #[.slice A n cp, .slice B m cq, .int .i64 at_, .int .u8 ch] w (BoolPost w true) := by
  have HOK := Lib.hid hx.all_ok
  have HOKQ := Lib.hid hy.all_ok
  have HX := Lib.hid hx
  have HY := Lib.hid hy
  clear hx hy
  have HF1 := Lib.hid (l6Few_any w _ A n cp p HX.out)
  cases hf1 : fewB p with
  | false =>
    rw [hf1] at HF1
    clear hf1
    go_enter Try.func12, Try.ntmps12
    go_wp2_with fail
    refine (HF1.out).mono ?_
    rintro e w1 ⟨rfl, q_HB1⟩
    have HB1 := Lib.hid q_HB1
    clear q_HB1
    go_wp2_with fail
    refine (told6 w1).mono ?_
    rintro e w2 ⟨rfl, q_HB2⟩
    have HB2 := Lib.hid q_HB2
    clear q_HB2
    go_wp2_with fail
    refine bodyPost_ret (results_tmp rfl _ _ _) rfl ?_
    exact ⟨rfl, below_then HB1.out HB2.out⟩
  | true =>
  rw [hf1] at HF1
  clear hf1
  cases hf2 : fewB q with
  | false =>
    have HQ := Lib.hid hf2
    clear hf2
    go_enter Try.func12, Try.ntmps12
    go_wp2_with fail
    refine (HF1.out).mono ?_
    rintro e w1 ⟨rfl, q_HB1⟩
    have HB1 := Lib.hid q_HB1
    clear q_HB1
    go_wp2_with fail
    refine (bool_eq HQ.out (l6Few_any w1 _ B m cq q (HY.out.below HB1.out))).mono ?_
    rintro e w2 ⟨rfl, q_HB2⟩
    have HB2 := Lib.hid q_HB2
    clear q_HB2
    go_wp2_with fail
    refine (told6 w2).mono ?_
    rintro e w3 ⟨rfl, q_HB3⟩
    have HB3 := Lib.hid q_HB3
    clear q_HB3
    go_wp2_with fail
    refine bodyPost_ret (results_tmp rfl _ _ _) rfl ?_
    exact ⟨rfl, below_then (below_then HB1.out HB2.out) HB3.out⟩
  | true =>
  have HQ := Lib.hid hf2
  clear hf2
  cases hm1 : mayTB p with
  | false =>
    have HM1 := Lib.hid hm1
    clear hm1
    go_enter Try.func12, Try.ntmps12
    go_wp2_with fail
    refine (HF1.out).mono ?_
    rintro e w1 ⟨rfl, q_HB1⟩
    have HB1 := Lib.hid q_HB1
    clear q_HB1
    go_wp2_with fail
    refine (bool_eq HQ.out (l6Few_any w1 _ B m cq q (HY.out.below HB1.out))).mono ?_
    rintro e w2 ⟨rfl, q_HB2⟩
    have HB2 := Lib.hid q_HB2
    clear q_HB2
    have HBB2 := Lib.hid (below_then HB1.out HB2.out)
    go_wp2_with fail
    refine (TPut_no w2 (fun _ => none) A n cp p HM1.out (Wf_none _) (HX.out.below HBB2.out)).mono ?_
    rintro e w3 ⟨rfl, q_HB3⟩
    have HB3 := Lib.hid q_HB3
    clear q_HB3
    have HBB3 := Lib.hid (below_then HBB2.out HB3.out)
    go_wp2_with fail
    refine (told6 w3).mono ?_
    rintro e w4 ⟨rfl, q_HB4⟩
    have HB4 := Lib.hid q_HB4
    clear q_HB4
    have HBB4 := Lib.hid (below_then HBB3.out HB4.out)
    go_wp2_with fail
    refine (bool_eq HM1.out (MayT_any w4 _ A n cp p (HX.out.below HBB4.out))).mono ?_
    rintro e w5 ⟨rfl, q_HB5⟩
    have HB5 := Lib.hid q_HB5
    clear q_HB5
    go_wp2_with fail
    refine bodyPost_ret (results_tmp rfl _ _ _) rfl ?_
    exact ⟨rfl, below_then HBB4.out HB5.out⟩
  | true =>
  have HM1 := Lib.hid hm1
  clear hm1
  obtain ⟨hal1, hal2⟩ := tupB_len HM1.out
  go_enter Try.func12, Try.ntmps12
  go_wp2_with fail
  refine (HF1.out).mono ?_
  rintro e w1 ⟨rfl, q_HB1⟩
  have HB1 := Lib.hid q_HB1
  clear q_HB1
  go_wp2_with fail
  refine (bool_eq HQ.out (l6Few_any w1 _ B m cq q (HY.out.below HB1.out))).mono ?_
  rintro e w2 ⟨rfl, q_HB2⟩
  have HB2 := Lib.hid q_HB2
  clear q_HB2
  have HBB2 := Lib.hid (below_then HB1.out HB2.out)
  go_wp2_with fail
  refine (TPut_yes w2 (fun _ => none) A n cp p HM1.out (Wf_none _) (HX.out.below HBB2.out)).mono ?_
  rintro e w3 ⟨A3, n3, cp3, rfl, q_HO3, q_HB3⟩
  have HO3 := Lib.hid q_HO3
  have HB3 := Lib.hid q_HB3
  clear q_HO3 q_HB3
  have HBB3 := Lib.hid (below_then HBB2.out HB3.out)
  have HA3 := Lib.hid (own_rd (c := fun _ => none) HO3.out (Wf_none _))
  have HLA : Hid ((tupB p).length = n3) := own_len HO3.out
  have hn31 : 1 ≤ n3 := by have := HLA.out; omega
  have hn32 : n3 ≤ 301 := by have := HLA.out; omega
  go_wp2_with fail
  refine (TGet_yes w3 (fun _ => none) A3 n3 cp3 _ p (tupGet_put HM1.out HOK.out) (Wf_none _) (by omega) HA3.out).mono ?_
  rintro e w4 ⟨A4, n4, cp4, rfl, q_HX4, q_HB4⟩
  have HX4 := Lib.hid q_HX4
  have HB4 := Lib.hid q_HB4
  clear q_HX4 q_HB4
  have HBB4 := Lib.hid (below_then HBB3.out HB4.out)
  go_wp2_with fail
  refine (bool_eq (sameL_iff.2 rfl) (TSame_any w4 (fun _ => none) A4 A n4 cp4 n cp p p HX4.out (HX.out.below HBB4.out))).mono ?_
  rintro e w5 ⟨rfl, q_HB5⟩
  have HB5 := Lib.hid q_HB5
  clear q_HB5
  have HBB5 := Lib.hid (below_then HBB4.out HB5.out)
  have HA5 := Lib.hid (HA3.out.below (below_then HB4.out HB5.out))
  obtain ⟨k, hk, hkn⟩ := rem_small at_ n3 hn31 (by omega)
  obtain ⟨A6, hcut, hrd6⟩ := cut_high kU8 24 5 .i64 Try.underlying24 u8_info A3 n3 cp3 k (by omega) HA5.out.2.1 (P := Try.prog)
  have HR6 := Lib.hid (hrd6 w5 (fun _ => none) (tupB p) HA5.out)
  clear hrd6
  go_wp2_with fail
  refine (TGet_no w5 (fun _ => none) A6 k cp3 _ (tupGet_cut HM1.out HOK.out (by have := HLA.out; omega) (by omega)) (Wf_none _) (by omega) HR6.out).mono ?_
  rintro e w6 ⟨A7, n7, cp7, rfl, q_HX7, q_HB6⟩
  have HX7 := Lib.hid q_HX7
  have HB6 := Lib.hid q_HB6
  clear q_HX7 q_HB6
  clear hcut
  have HBB6 := Lib.hid (below_then HBB5.out HB6.out)
  have HA6 := Lib.hid (HA5.out.below HB6.out)
  have hsz6 := HBB6.out.size
  have tok1 : True := trivial
  go_wp2_with (first
    | (at_builtin; have _t := tok1; go_must (refine app_bytes_new (w0 := w6) (c := fun _ => none) (.tmp 73) (.tmp 74) 24 5 rfl rfl Try.underlying24 u8_info [] (tupB p) rfl rfl (below_alloc _ _) (own_empty w6 w6 _ (Nat.le_refl _)) (HA6.out.below (below_alloc _ _)) (by omega) ?_; intro A8 cp8 w8 q_hb8 q_hr8 q_hown8 hs8; have HB8 := Lib.hid q_hb8; rw [Nat.zero_add, List.nil_append] at q_hown8; have HO8 := Lib.hid q_hown8; clear q_hb8 q_hr8 q_hown8 tok1))
    | (at_builtin; go_must (refine app_one_own (base := w6.heap.size) (.tmp 75) (.tmp 77) 24 5 (.int .u8 0) 1 1 rfl rfl Try.underlying24 u8_info rfl (by decide) (by decide) (bcells (tupB p)) _ rfl rfl rfl (one_cell rfl) HB8.out.size HB8.out HO8.out (by omega) ?_; intro A9 cp9 w9 q_hb9 q_hown9 hs9; have HB9 := Lib.hid q_hb9; have HO9 := Lib.hid (own_snoc hch q_hown9); clear q_hb9 q_hown9)))
  have HBB9 := Lib.hid (below_then HBB6.out HB9.out)
  have HA9 := Lib.hid (own_rd (c := fun _ => none) HO9.out (Wf_none _))
  refine (TGet_no w9 (fun _ => none) A9 _ cp9 _ (tupGet_more HM1.out HOK.out _) (Wf_none _) (by omega) HA9.out).mono ?_
  rintro e w10 ⟨A10, n10, cp10, rfl, q_HX10, q_HB10⟩
  have HX10 := Lib.hid q_HX10
  have HB10 := Lib.hid q_HB10
  clear q_HX10 q_HB10
  have HBB10 := Lib.hid (below_then HBB9.out HB10.out)
  have HA10 := Lib.hid (HA6.out.below (below_then HB9.out HB10.out))
  cases hm2 : mayTB q with
  | false =>
    have HM2 := Lib.hid hm2
    clear hm2
    go_wp2_with fail
    refine (TPut_no w10 (fun _ => none) B m cq q HM2.out (Wf_none _) (HY.out.below HBB10.out)).mono ?_
    rintro e w11 ⟨rfl, q_HB11⟩
    have HB11 := Lib.hid q_HB11
    clear q_HB11
    have HBB11 := Lib.hid (below_then HBB10.out HB11.out)
    go_wp2_with fail
    refine (told6 w11).mono ?_
    rintro e w12 ⟨rfl, q_HB12⟩
    have HB12 := Lib.hid q_HB12
    clear q_HB12
    go_wp2_with fail
    go_ret
    exact ⟨rfl, below_then HBB11.out HB12.out⟩
  | true =>
    have HM2 := Lib.hid hm2
    clear hm2
    have HEQ : Hid ((tupB p == tupB q) = sameL p q) := by
      show _ = _
      cases hs : sameL p q with
      | true =>
        rw [sameL_iff.1 hs]
        simp
      | false =>
        rw [beq_eq_false_iff_ne]
        intro e
        rw [sameL_iff.2 (tupB_inj HM1.out HOK.out HM2.out HOKQ.out e)] at hs
        cases hs
    generalize hs : sameL p q = s at HEQ
    have HS := Lib.hid hs
    clear hs
    go_wp2_with fail
    refine (TPut_yes w10 (fun _ => none) B m cq q HM2.out (Wf_none _) (HY.out.below HBB10.out)).mono ?_
    rintro e w11 ⟨A11, n11, cp11, rfl, q_HO11, q_HB11⟩
    have HO11 := Lib.hid q_HO11
    have HB11 := Lib.hid q_HB11
    clear q_HO11 q_HB11
    have HBB11 := Lib.hid (below_then HBB10.out HB11.out)
    have HA11 := Lib.hid (own_rd (c := fun _ => none) HO11.out (Wf_none _))
    go_wp2_with fail
    refine (told6 w11).mono ?_
    rintro e w12 ⟨rfl, q_HB12⟩
    have HB12 := Lib.hid q_HB12
    clear q_HB12
    have HBB12 := Lib.hid (below_then HBB11.out HB12.out)
    go_wp2_with fail
    refine (Same_eq HEQ.out (HA10.out.below (below_then HB11.out HB12.out)) (HA11.out.below HB12.out)).mono ?_
    rintro e w13 ⟨rfl, q_HE13⟩
    have HE13 := Lib.hid q_HE13
    clear q_HE13
    obtain rfl := HE13.out
    go_wp2_with fail
    refine (bool_eq HS.out (TSame_any w12 (fun _ => none) A B n cp m cq p q (HX.out.below HBB12.out) (HY.out.below HBB12.out))).mono ?_
    rintro e w14 ⟨rfl, q_HB14⟩
    have HB14 := Lib.hid q_HB14
    clear q_HB14
    cases s
    all_goals
      go_wp2_with fail
      go_ret
      exact ⟨rfl, below_then HBB12.out HB14.out⟩
end Go.Proofs.Ytladpckbajnbeaa
