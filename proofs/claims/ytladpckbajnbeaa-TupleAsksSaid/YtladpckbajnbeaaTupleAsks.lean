/- TupleAsks: the walk. -/
import Derived.Test.YtladpckbajnbeaaTupleBack
import Derived.Test.YtladpckbajnbeaaRef6B
import Derived.Test.YtladpckbajnbeaaRefP
set_option linter.unusedVariables false
set_option linter.unusedSimpArgs false
namespace Go.Proofs.Ytladpckbajnbeaa
open Go.RowKit

theorem GetPost.both {w : World} {c : Col} {r : List Fld × Bool} {l : List Fld} {v : Int} (hl : r.1 = l) (hv : (if r.2 = true then (0 : Int) else 2) = v) {e : Ending} {w' : World} (h : GetPost w c r e w') : GetP w c l v e w' := by
  subst hl
  subst hv
  obtain ⟨hb, A, n, cp, he, hx⟩ := h
  exact ⟨A, n, cp, he, hx, hb⟩
theorem sameL_refl (l : List Fld) : sameL l l = true := sameL_iff.2 rfl

set_option maxRecDepth 100000 in
set_option maxHeartbeats 4000000 in
theorem TupleAsks_any (w : World) (A : Option Addr) (n cp : Nat) (p : List Fld) (B : Option Addr) (m cq : Nat) (t : List Fld) (C : Option Addr) (k ck : Nat) (b : List UInt8)
    (hx : Rd kFld w (fun _ => none) A n cp p) (hy : Rd kFld w (fun _ => none) B m cq t) (hz : Rd kU8 w (fun _ => none) C k ck b) :
    Calls Try.prog 11 #[.slice A n cp, .slice B m cq, .slice C k ck] w (BoolPost w true) := by
  have hmx := hz.max
  have HX := Lib.hid hx
  have HY := Lib.hid hy
  have HZ := Lib.hid hz
  clear hx hy hz
  have HF1 := Lib.hid (l6Few_any w _ A n cp p HX.out)
  cases hf1 : fewB p with
  | false =>
    rw [hf1] at HF1
    clear hf1
    go_enter Try.func11, Try.ntmps11
    go_wp2_with fail
    refine (HF1.out).mono ?_
    rintro e w1 ⟨rfl, q_HB1⟩
    have HB1 := Lib.hid q_HB1
    clear q_HB1
    go_wp2_with fail
    refine (told6 w1).mono ?_
    rintro e w2 ⟨rfl, q_HB2⟩
    have HB2 := Lib.hid q_HB2
    clear q_HB2
    go_wp2_with fail
    refine bodyPost_ret (results_tmp rfl _ _ _) rfl ?_
    exact ⟨rfl, below_then HB1.out HB2.out⟩
  | true =>
  rw [hf1] at HF1
  clear hf1
  cases hf2 : fewB t with
  | false =>
    have HQ := Lib.hid hf2
    clear hf2
    go_enter Try.func11, Try.ntmps11
    go_wp2_with fail
    refine (HF1.out).mono ?_
    rintro e w1 ⟨rfl, q_HB1⟩
    have HB1 := Lib.hid q_HB1
    clear q_HB1
    go_wp2_with fail
    refine (bool_eq HQ.out (l6Few_any w1 _ B m cq t (HY.out.below HB1.out))).mono ?_
    rintro e w2 ⟨rfl, q_HB2⟩
    have HB2 := Lib.hid q_HB2
    clear q_HB2
    go_wp2_with fail
    refine (told6 w2).mono ?_
    rintro e w3 ⟨rfl, q_HB3⟩
    have HB3 := Lib.hid q_HB3
    clear q_HB3
    go_wp2_with fail
    refine bodyPost_ret (results_tmp rfl _ _ _) rfl ?_
    exact ⟨rfl, below_then (below_then HB1.out HB2.out) HB3.out⟩
  | true =>
  have HQ := Lib.hid hf2
  clear hf2
  by_cases hk : 300 < k
  · go_enter Try.func11, Try.ntmps11
    go_wp2_with fail
    refine (HF1.out).mono ?_
    rintro e w1 ⟨rfl, q_HB1⟩
    have HB1 := Lib.hid q_HB1
    clear q_HB1
    go_wp2_with fail
    refine (bool_eq HQ.out (l6Few_any w1 _ B m cq t (HY.out.below HB1.out))).mono ?_
    rintro e w2 ⟨rfl, q_HB2⟩
    have HB2 := Lib.hid q_HB2
    clear q_HB2
    go_wp2_with fail
    refine (told6 w2).mono ?_
    rintro e w3 ⟨rfl, q_HB3⟩
    have HB3 := Lib.hid q_HB3
    clear q_HB3
    go_wp2_with fail
    refine bodyPost_ret (results_tmp rfl _ _ _) rfl ?_
    exact ⟨rfl, below_then (below_then HB1.out HB2.out) HB3.out⟩
  generalize hgl : (tupGet b).1 = l
  generalize hgv : (if (tupGet b).2 = true then (0 : Int) else 2) = v
  have HG1 := Lib.hid (fun (W : World) (hc : Rd kU8 W (fun _ => none) C k ck b) => (TGet_any W (fun _ => none) C k ck b (Wf_none _) (by omega) hc).mono fun e w' h => h.both hgl hgv)
  have HG2 := Lib.hid (fun (W : World) (hc : Rd kU8 W (fun _ => none) C k ck b) => (r6Get_any W (fun _ => none) C k ck b (Wf_none _) (by omega) hc).mono fun e w' h => h.both hgl hgv)
  clear hgl hgv
  cases hm1 : mayTB p with
  | false =>
    have HM1 := Lib.hid hm1
    clear hm1
    go_enter Try.func11, Try.ntmps11
    go_wp2_with fail
    refine (HF1.out).mono ?_
    rintro e w1 ⟨rfl, q_HB1⟩
    have HB1 := Lib.hid q_HB1
    clear q_HB1
    go_wp2_with fail
    refine (bool_eq HQ.out (l6Few_any w1 _ B m cq t (HY.out.below HB1.out))).mono ?_
    rintro e w2 ⟨rfl, q_HB2⟩
    have HB2 := Lib.hid q_HB2
    clear q_HB2
    have HBB2 := Lib.hid (below_then HB1.out HB2.out)
    go_wp2_with fail
    refine (TPut_no w2 (fun _ => none) A n cp p HM1.out (Wf_none _) (HX.out.below HBB2.out)).mono ?_
    rintro e w3 ⟨rfl, q_HB3⟩
    have HB3 := Lib.hid q_HB3
    clear q_HB3
    have HBB3 := Lib.hid (below_then HBB2.out HB3.out)
    go_wp2_with fail
    refine (bool_eq HM1.out (r6MayP_any w3 (fun _ => none) A n cp p (HX.out.below HBB3.out))).mono ?_
    rintro e w4 ⟨rfl, q_HB4⟩
    have HB4 := Lib.hid q_HB4
    clear q_HB4
    have HBB4 := Lib.hid (below_then HBB3.out HB4.out)
    go_wp2_with fail
    refine (HG1.out w4 (HZ.out.below HBB4.out)).mono ?_
    rintro e w7 ⟨A7, n7, cp7, rfl, q_HX7, q_HB7⟩
    have HX7 := Lib.hid q_HX7
    have HB7 := Lib.hid q_HB7
    clear q_HX7 q_HB7
    have HBB7 := Lib.hid (below_then HBB4.out HB7.out)
    go_wp2_with fail
    refine (HG2.out w7 (HZ.out.below HBB7.out)).mono ?_
    rintro e w8 ⟨A8, n8, cp8, rfl, q_HX8, q_HB8⟩
    have HX8 := Lib.hid q_HX8
    have HB8 := Lib.hid q_HB8
    clear q_HX8 q_HB8
    have HBB8 := Lib.hid (below_then HBB7.out HB8.out)
    go_wp2_with fail
    refine (told6 w8).mono ?_
    rintro e w9 ⟨rfl, q_HB9⟩
    have HB9 := Lib.hid q_HB9
    clear q_HB9
    have HBB9 := Lib.hid (below_then HBB8.out HB9.out)
    go_wp2_with fail
    refine (bool_eq (sameL_refl l) (r6Same_any w9 (fun _ => none) A7 A8 n7 cp7 n8 cp8 l l (HX7.out.below (below_then HB8.out HB9.out)) (HX8.out.below HB9.out))).mono ?_
    rintro e w10 ⟨rfl, q_HB10⟩
    have HB10 := Lib.hid q_HB10
    clear q_HB10
    have HBB10 := Lib.hid (below_then HBB9.out HB10.out)
    go_wp2_with fail
    refine (May_any w10 (fun _ => none) B m cq t (HY.out.below HBB10.out)).mono ?_
    rintro e w11 ⟨rfl, q_HB11⟩
    have HB11 := Lib.hid q_HB11
    clear q_HB11
    have HBB11 := Lib.hid (below_then HBB10.out HB11.out)
    go_wp2_with fail
    refine (r6MayT_any w11 (fun _ => none) B m cq t (HY.out.below HBB11.out)).mono ?_
    rintro e w12 ⟨rfl, q_HB12⟩
    have HB12 := Lib.hid q_HB12
    clear q_HB12
    have HBB12 := Lib.hid (below_then HBB11.out HB12.out)
    go_wp2_with fail
    refine (bool_eq HM1.out (MayT_any w12 (fun _ => none) A n cp p (HX.out.below HBB12.out))).mono ?_
    rintro e w13 ⟨rfl, q_HB13⟩
    have HB13 := Lib.hid q_HB13
    clear q_HB13
    have HBB13 := Lib.hid (below_then HBB12.out HB13.out)
    go_wp2_with fail
    refine (Match_any w13 (fun _ => none) A B n cp m cq p t (HX.out.below HBB13.out) (HY.out.below HBB13.out)).mono ?_
    rintro e w14 ⟨rfl, q_HB14⟩
    have HB14 := Lib.hid q_HB14
    clear q_HB14
    have HBB14 := Lib.hid (below_then HBB13.out HB14.out)
    go_wp2_with fail
    refine (r6Match_any w14 (fun _ => none) A B n cp m cq p t (HX.out.below HBB14.out) (HY.out.below HBB14.out)).mono ?_
    rintro e w15 ⟨rfl, q_HB15⟩
    have HB15 := Lib.hid q_HB15
    clear q_HB15
    have HBB15 := Lib.hid (below_then HBB14.out HB15.out)
    go_wp2_with fail
    refine (TSame_any w15 (fun _ => none) A B n cp m cq p t (HX.out.below HBB15.out) (HY.out.below HBB15.out)).mono ?_
    rintro e w16 ⟨rfl, q_HB16⟩
    have HB16 := Lib.hid q_HB16
    clear q_HB16
    have HBB16 := Lib.hid (below_then HBB15.out HB16.out)
    go_wp2_with fail
    refine (r6Same_any w16 (fun _ => none) A B n cp m cq p t (HX.out.below HBB16.out) (HY.out.below HBB16.out)).mono ?_
    rintro e w17 ⟨rfl, q_HB17⟩
    have HB17 := Lib.hid q_HB17
    clear q_HB17
    have HBB17 := Lib.hid (below_then HBB16.out HB17.out)
    go_wp2_with fail
    refine (bool_eq (sameL_refl t) (TSame_any w17 (fun _ => none) B B m cq m cq t t (HY.out.below HBB17.out) (HY.out.below HBB17.out))).mono ?_
    rintro e w18 ⟨rfl, q_HB18⟩
    have HB18 := Lib.hid q_HB18
    clear q_HB18
    go_wp2_with fail
    go_ret
    exact ⟨rfl, below_then HBB17.out HB18.out⟩
  | true =>
    have HM1 := Lib.hid hm1
    clear hm1
    go_enter Try.func11, Try.ntmps11
    go_wp2_with fail
    refine (HF1.out).mono ?_
    rintro e w1 ⟨rfl, q_HB1⟩
    have HB1 := Lib.hid q_HB1
    clear q_HB1
    go_wp2_with fail
    refine (bool_eq HQ.out (l6Few_any w1 _ B m cq t (HY.out.below HB1.out))).mono ?_
    rintro e w2 ⟨rfl, q_HB2⟩
    have HB2 := Lib.hid q_HB2
    clear q_HB2
    have HBB2 := Lib.hid (below_then HB1.out HB2.out)
    go_wp2_with fail
    refine (TPut_yes w2 (fun _ => none) A n cp p HM1.out (Wf_none _) (HX.out.below HBB2.out)).mono ?_
    rintro e w3 ⟨A3, n3, cp3, rfl, q_HO3, q_HB3⟩
    have HO3 := Lib.hid q_HO3
    have HB3 := Lib.hid q_HB3
    clear q_HO3 q_HB3
    have HBB3 := Lib.hid (below_then HBB2.out HB3.out)
    have HA3 := Lib.hid (own_rd (c := fun _ => none) HO3.out (Wf_none _))
    go_wp2_with fail
    refine (bool_eq HM1.out (r6MayP_any w3 (fun _ => none) A n cp p (HX.out.below HBB3.out))).mono ?_
    rintro e w4 ⟨rfl, q_HB4⟩
    have HB4 := Lib.hid q_HB4
    clear q_HB4
    have HBB4 := Lib.hid (below_then HBB3.out HB4.out)
    go_wp2_with fail
    refine (r6Put_any w4 (fun _ => none) A n cp p HM1.out (Wf_none _) (HX.out.below HBB4.out)).mono ?_
    rintro e w5 ⟨A5, n5, cp5, rfl, q_HO5, q_HB5⟩
    have HO5 := Lib.hid q_HO5
    have HB5 := Lib.hid q_HB5
    clear q_HO5 q_HB5
    have HBB5 := Lib.hid (below_then HBB4.out HB5.out)
    have HA5 := Lib.hid (own_rd (c := fun _ => none) HO5.out (Wf_none _))
    go_wp2_with fail
    refine (Same_eq (b := true) (by simp) (HA3.out.below (below_then HB4.out HB5.out)) HA5.out).mono ?_
    rintro e w6 ⟨rfl, q_HE6⟩
    have HE6 := Lib.hid q_HE6
    clear q_HE6
    obtain rfl := HE6.out
    go_wp2_with fail
    refine (HG1.out w5 (HZ.out.below HBB5.out)).mono ?_
    rintro e w7 ⟨A7, n7, cp7, rfl, q_HX7, q_HB7⟩
    have HX7 := Lib.hid q_HX7
    have HB7 := Lib.hid q_HB7
    clear q_HX7 q_HB7
    have HBB7 := Lib.hid (below_then HBB5.out HB7.out)
    go_wp2_with fail
    refine (HG2.out w7 (HZ.out.below HBB7.out)).mono ?_
    rintro e w8 ⟨A8, n8, cp8, rfl, q_HX8, q_HB8⟩
    have HX8 := Lib.hid q_HX8
    have HB8 := Lib.hid q_HB8
    clear q_HX8 q_HB8
    have HBB8 := Lib.hid (below_then HBB7.out HB8.out)
    go_wp2_with fail
    refine (told6 w8).mono ?_
    rintro e w9 ⟨rfl, q_HB9⟩
    have HB9 := Lib.hid q_HB9
    clear q_HB9
    have HBB9 := Lib.hid (below_then HBB8.out HB9.out)
    go_wp2_with fail
    refine (bool_eq (sameL_refl l) (r6Same_any w9 (fun _ => none) A7 A8 n7 cp7 n8 cp8 l l (HX7.out.below (below_then HB8.out HB9.out)) (HX8.out.below HB9.out))).mono ?_
    rintro e w10 ⟨rfl, q_HB10⟩
    have HB10 := Lib.hid q_HB10
    clear q_HB10
    have HBB10 := Lib.hid (below_then HBB9.out HB10.out)
    go_wp2_with fail
    refine (May_any w10 (fun _ => none) B m cq t (HY.out.below HBB10.out)).mono ?_
    rintro e w11 ⟨rfl, q_HB11⟩
    have HB11 := Lib.hid q_HB11
    clear q_HB11
    have HBB11 := Lib.hid (below_then HBB10.out HB11.out)
    go_wp2_with fail
    refine (r6MayT_any w11 (fun _ => none) B m cq t (HY.out.below HBB11.out)).mono ?_
    rintro e w12 ⟨rfl, q_HB12⟩
    have HB12 := Lib.hid q_HB12
    clear q_HB12
    have HBB12 := Lib.hid (below_then HBB11.out HB12.out)
    go_wp2_with fail
    refine (bool_eq HM1.out (MayT_any w12 (fun _ => none) A n cp p (HX.out.below HBB12.out))).mono ?_
    rintro e w13 ⟨rfl, q_HB13⟩
    have HB13 := Lib.hid q_HB13
    clear q_HB13
    have HBB13 := Lib.hid (below_then HBB12.out HB13.out)
    go_wp2_with fail
    refine (Match_any w13 (fun _ => none) A B n cp m cq p t (HX.out.below HBB13.out) (HY.out.below HBB13.out)).mono ?_
    rintro e w14 ⟨rfl, q_HB14⟩
    have HB14 := Lib.hid q_HB14
    clear q_HB14
    have HBB14 := Lib.hid (below_then HBB13.out HB14.out)
    go_wp2_with fail
    refine (r6Match_any w14 (fun _ => none) A B n cp m cq p t (HX.out.below HBB14.out) (HY.out.below HBB14.out)).mono ?_
    rintro e w15 ⟨rfl, q_HB15⟩
    have HB15 := Lib.hid q_HB15
    clear q_HB15
    have HBB15 := Lib.hid (below_then HBB14.out HB15.out)
    go_wp2_with fail
    refine (TSame_any w15 (fun _ => none) A B n cp m cq p t (HX.out.below HBB15.out) (HY.out.below HBB15.out)).mono ?_
    rintro e w16 ⟨rfl, q_HB16⟩
    have HB16 := Lib.hid q_HB16
    clear q_HB16
    have HBB16 := Lib.hid (below_then HBB15.out HB16.out)
    go_wp2_with fail
    refine (r6Same_any w16 (fun _ => none) A B n cp m cq p t (HX.out.below HBB16.out) (HY.out.below HBB16.out)).mono ?_
    rintro e w17 ⟨rfl, q_HB17⟩
    have HB17 := Lib.hid q_HB17
    clear q_HB17
    have HBB17 := Lib.hid (below_then HBB16.out HB17.out)
    go_wp2_with fail
    refine (bool_eq (sameL_refl t) (TSame_any w17 (fun _ => none) B B m cq m cq t t (HY.out.below HBB17.out) (HY.out.below HBB17.out))).mono ?_
    rintro e w18 ⟨rfl, q_HB18⟩
    have HB18 := Lib.hid q_HB18
    clear q_HB18
    go_wp2_with fail
    go_ret
    exact ⟨rfl, below_then HBB17.out HB18.out⟩
end Go.Proofs.Ytladpckbajnbeaa
