/- OperTurned: the walk. -/
import Derived.Test.YtcdapcljpkohbaaLaw7
import Derived.Test.YtcdapcljpkohbaaTupleTurned
set_option linter.unusedVariables false
set_option linter.unusedSimpArgs false
namespace Go.Proofs.Ytcdapcljpkohbaa
open Go.RowKit

theorem turnedR_law {x : Req} (hm : mayR x = true) (hok : x.ok) {k : Nat} (hk : k < (reqB x).length) {y z : UInt8} (hy : (reqB x)[k]? = some y) :
    (reqGet ((reqB x).set k (y ^^^ z)) = (Req.zero, false) ∧ z ≠ 0) ∨ ∃ q, reqGet ((reqB x).set k (y ^^^ z)) = (q, true) ∧ mayR q = true ∧ reqB q = (reqB x).set k (y ^^^ z) ∧ sameR x q = (z == 0) := by
  have h0 : (reqB x).set k y = reqB x := by
    apply List.ext_getElem?
    intro j
    rw [List.getElem?_set]
    split
    · rename_i h
      subst h
      rw [hy]
    · rfl
  have hxe : y ^^^ z = y → z = 0 := by
    intro h
    have h1 : y ^^^ (y ^^^ z) = y ^^^ y := by rw [h]
    rw [← UInt8.xor_assoc, UInt8.xor_self, UInt8.zero_xor] at h1
    exact h1
  cases h : (reqGet ((reqB x).set k (y ^^^ z))).2 with
  | false =>
    refine .inl ⟨reqGet_false h, ?_⟩
    rintro rfl
    rw [UInt8.xor_zero, h0, reqGet_put hm hok] at h
    cases h
  | true =>
    have h2 : reqGet ((reqB x).set k (y ^^^ z)) = ((reqGet ((reqB x).set k (y ^^^ z))).1, true) := Prod.ext rfl h
    have hlen := reqB_len x
    obtain ⟨hm2, hb2, hok2⟩ := reqGet_true (by rw [List.length_set]; omega) h2
    generalize (reqGet ((reqB x).set k (y ^^^ z))).1 = q at *
    refine .inr ⟨q, h2, hm2, hb2, ?_⟩
    by_cases hx : z = 0
    · subst hx
      rw [UInt8.xor_zero, h0] at hb2
      rw [sameR_iff.2 (reqB_inj hm hok hm2 hok2 hb2.symm)]
      rfl
    · have hne : x ≠ q := by
        rintro rfl
        have h3 := congrArg (·[k]?) hb2
        simp only [List.getElem?_set, hk, if_true, hy] at h3
        exact hx (hxe (Option.some.inj h3).symm)
      have : sameR x q = false := by
        rw [← Bool.not_eq_true]
        exact fun e => hne (sameR_iff.1 e)
      rw [this]
      symm
      simpa using hx
set_option maxRecDepth 100000 in
set_option maxHeartbeats 4000000 in
theorem OperTurned_any (w : World) (x : Req) (A : Option Addr) (n cp : Nat) (B : Option Addr) (m cq : Nat) (at_ ch : Int) (hch : 0 ≤ ch ∧ ch ≤ 255)
    (hx : Rd kFld w (fun _ => none) A n cp x.p) (hy : Rd kFld w (fun _ => none) B m cq x.t) :
    Calls Try.prog 6 #[rV x A n cp B m cq, .int .i64 at_, .int .u8 ch] w (BoolPost w true) := by
  have hok : x.ok := ⟨hx.all_ok, hy.all_ok⟩
  obtain ⟨cl, sq, kd, p, t, ls⟩ := x
  dsimp only at hx hy
  have HOK := Lib.hid hok
  have HX := Lib.hid hx
  have HY := Lib.hid hy
  clear hok hx hy
  cases hf1 : fewR ⟨cl, sq, kd, p, t, ls⟩ with
  | false =>
    have HF := Lib.hid hf1
    clear hf1
    go_enter Try.func6, Try.ntmps6
    go_wp2_with fail
    refine (bool_eq HF.out (l7Few_any _ _ ⟨cl, sq, kd, p, t, ls⟩ A n cp B m cq (HX.out.below (below_alloc _ _)) (HY.out.below (below_alloc _ _)))).mono ?_
    rintro e w1 ⟨rfl, q_HB1⟩
    have HB1 := Lib.hid q_HB1
    clear q_HB1
    go_wp2_with fail
    refine (told7 w1).mono ?_
    rintro e w2 ⟨rfl, q_HB2⟩
    have HB2 := Lib.hid q_HB2
    clear q_HB2
    go_wp2_with fail
    refine bodyPost_ret (results_tmp rfl _ _ _) rfl ?_
    exact ⟨rfl, below_then (below_alloc _ _) (below_then HB1.out HB2.out)⟩
  | true =>
  have HF := Lib.hid hf1
  clear hf1
  cases hm1 : mayR ⟨cl, sq, kd, p, t, ls⟩ with
  | false =>
    have HM1 := Lib.hid hm1
    clear hm1
    go_enter Try.func6, Try.ntmps6
    go_wp2_with fail
    refine (bool_eq HF.out (l7Few_any _ _ ⟨cl, sq, kd, p, t, ls⟩ A n cp B m cq (HX.out.below (below_alloc _ _)) (HY.out.below (below_alloc _ _)))).mono ?_
    rintro e w1 ⟨rfl, q_HB1⟩
    have HB1 := Lib.hid q_HB1
    clear q_HB1
    have y0 := below_newcell HB1.out 0 _ rfl
    have y1 := below_newcell HB1.out 1 _ rfl
    have y2 := below_newcell HB1.out 2 _ rfl
    have y3 := below_newcell HB1.out 3 _ rfl
    have y4 := below_newcell HB1.out 4 _ rfl
    have y5 := below_newcell HB1.out 5 _ rfl
    go_wp2_with fail
    refine (bool_eq HM1.out (OMay_any w1 _ ⟨cl, sq, kd, p, t, ls⟩ A n cp B m cq (HX.out.below (below_then (below_alloc _ _) HB1.out)) (HY.out.below (below_then (below_alloc _ _) HB1.out)))).mono ?_
    rintro e w2 ⟨rfl, q_HB2⟩
    have HB2 := Lib.hid q_HB2
    clear q_HB2
    go_wp2_with fail
    refine (told7 w2).mono ?_
    rintro e w3 ⟨rfl, q_HB3⟩
    have HB3 := Lib.hid q_HB3
    clear q_HB3
    go_wp2_with fail
    refine bodyPost_ret (results_tmp rfl _ _ _) rfl ?_
    exact ⟨rfl, below_then (below_alloc _ _) (below_then (below_then HB1.out HB2.out) HB3.out)⟩
  | true =>
  have HM1 := Lib.hid hm1
  clear hm1
  have hal1 := reqB_len ⟨cl, sq, kd, p, t, ls⟩
  have hal0 : 1 ≤ (reqB ⟨cl, sq, kd, p, t, ls⟩).length := by unfold reqB; rw [List.length_append, numB_length]; omega
  go_enter Try.func6, Try.ntmps6
  go_wp2_with fail
  refine (bool_eq HF.out (l7Few_any _ _ ⟨cl, sq, kd, p, t, ls⟩ A n cp B m cq (HX.out.below (below_alloc _ _)) (HY.out.below (below_alloc _ _)))).mono ?_
  rintro e w1 ⟨rfl, q_HB1⟩
  have HB1 := Lib.hid q_HB1
  clear q_HB1
  have y0 := below_newcell HB1.out 0 _ rfl
  have y1 := below_newcell HB1.out 1 _ rfl
  have y2 := below_newcell HB1.out 2 _ rfl
  have y3 := below_newcell HB1.out 3 _ rfl
  have y4 := below_newcell HB1.out 4 _ rfl
  have y5 := below_newcell HB1.out 5 _ rfl
  go_wp2_with fail
  refine (bool_eq HM1.out (OMay_any w1 _ ⟨cl, sq, kd, p, t, ls⟩ A n cp B m cq (HX.out.below (below_then (below_alloc _ _) HB1.out)) (HY.out.below (below_then (below_alloc _ _) HB1.out)))).mono ?_
  rintro e w2 ⟨rfl, q_HB2⟩
  have HB2 := Lib.hid q_HB2
  clear q_HB2
  clear y0 y1 y2 y3 y4 y5
  have HBB2 := Lib.hid (below_then HB1.out HB2.out)
  have HBW2 := Lib.hid (below_then (below_alloc _ _) HBB2.out)
  have y0 := below_newcell HBB2.out 0 _ rfl
  have y1 := below_newcell HBB2.out 1 _ rfl
  have y2 := below_newcell HBB2.out 2 _ rfl
  have y3 := below_newcell HBB2.out 3 _ rfl
  have y4 := below_newcell HBB2.out 4 _ rfl
  have y5 := below_newcell HBB2.out 5 _ rfl
  go_wp2_with fail
  refine (OPut_yes w2 (fun _ => none) ⟨cl, sq, kd, p, t, ls⟩ A n cp B m cq HM1.out (Wf_none _) (HX.out.below HBW2.out) (HY.out.below HBW2.out)).mono ?_
  rintro e w3 ⟨A3, n3, cp3, rfl, q_HO3, q_HB3⟩
  have HO3 := Lib.hid q_HO3
  have HB3 := Lib.hid q_HB3
  clear q_HO3 q_HB3
  clear y0 y1 y2 y3 y4 y5
  have HBB3 := Lib.hid (below_then HBB2.out HB3.out)
  have HLA : Hid ((reqB ⟨cl, sq, kd, p, t, ls⟩).length = n3) := own_len HO3.out
  have hn31 : 1 ≤ n3 := by have := HLA.out; omega
  have hn32 : n3 ≤ 700 := by have := HLA.out; omega
  obtain ⟨k, hk, hkn⟩ := rem_small at_ n3 hn31 (by omega)
  obtain ⟨b3, rfl⟩ : ∃ b, A3 = some ⟨b, 0, none⟩ := by
    rcases HO3.out.2 with hn | ⟨b, cap, cur, hv, _⟩
    · exact absurd hn.2 (by omega)
    · cases hv
      exact ⟨b, rfl⟩
  have hcell := HO3.out.cellAt k (by omega)
  have hgy := getD_at' (reqB ⟨cl, sq, kd, p, t, ls⟩) 0 (k := k) (by have := HLA.out; omega)
  rw [bcells_at (reqB ⟨cl, sq, kd, p, t, ls⟩) k _ hgy] at hcell
  have hfr := HO3.out.frozenAt k
  generalize (reqB ⟨cl, sq, kd, p, t, ls⟩)[k]?.getD 0 = y at hcell hgy
  have HGY := Lib.hid hgy
  clear hgy hal0
  have hxor := xor_u8 y ch hch
  have hlaw := turnedR_law HM1.out HOK.out (k := k) (by have := HLA.out; omega) HGY.out (z := UInt8.ofNat ch.toNat)
  have hx0 : (UInt8.ofNat ch.toNat == 0) = (ch == 0) := by
    obtain ⟨c, rfl⟩ := Int.eq_ofNat_of_zero_le hch.1
    rw [Int.toNat_natCast]
    have h1 : (UInt8.ofNat c = 0) ↔ ((c : Int) = 0) := by
      rw [← UInt8.toNat_inj, UInt8.toNat_ofNat', Nat.mod_eq_of_lt (show c < 2 ^ 8 by omega)]
      simp
    by_cases h : (c : Int) = 0
    · rw [h1.2 h, h]; rfl
    · rw [beq_eq_false_iff_ne.2 h, beq_eq_false_iff_ne]
      exact fun e => h (h1.1 e)
  have hst := HO3.out.stored k (.int .u8 ((y ^^^ UInt8.ofNat ch.toNat).toNat : Int))
  rw [bcells_set] at hst
  have HOS := Lib.hid hst.1
  have HBS := Lib.hid (HBB3.out.grown hst.2 HBB3.out.size (fun j hj => by cases hj; have := (HO3.out.lt b3 rfl).1; have := HBB2.out.size; omega))
  generalize hbs : (reqB ⟨cl, sq, kd, p, t, ls⟩).set k (y ^^^ UInt8.ofNat ch.toNat) = bs at hlaw HOS
  have HAS := Lib.hid (own_rd (c := fun _ => none) HOS.out (Wf_none _))
  clear hst hbs
  have HBX := Lib.hid (below_alloc w (.cells #[.int .i64 cl, .int .i64 sq, .int .i64 kd, .slice A n cp, .slice B m cq, .int .i64 ls] 24))
  rcases hlaw with ⟨hg, hxn⟩ | ⟨q, hg, hmq, hbq, hsq⟩
  · have hne : (ch == 0) = false := by rw [← hx0, beq_eq_false_iff_ne]; exact hxn
    have hne2 : ch ≠ 0 := by simpa using hne
    have HG := Lib.hid hg
    clear hx0 hxn hg
    go_wp2_with fail
    refine (OGet_no _ (fun _ => none) (some ⟨b3, 0, none⟩) n3 cp3 bs HG.out (Wf_none _) (by omega) HAS.out).mono ?_
    rintro e w4 ⟨A4, n4, cp4, A4', n4', cp4', rfl, q_HX4, q_HXT4, q_HB4⟩
    have HX4 := Lib.hid q_HX4
    have HXT4 := Lib.hid q_HXT4
    have HB4 := Lib.hid q_HB4
    clear q_HX4 q_HXT4 q_HB4
    have HBB4 := Lib.hid (below_then HBS.out HB4.out)
    go_wp2_with fail
    refine (told7 _).mono ?_
    rintro e w5 ⟨rfl, q_HB5⟩
    have HB5 := Lib.hid q_HB5
    clear q_HB5
    go_wp2_with fail
    refine bodyPost_ret (results_tmp rfl _ _ _) rfl ?_
    exact ⟨by first | rfl | (simp [hne]; exact hne2) | simp [hne], below_then HBX.out (below_then HBB4.out (below_then (below_alloc _ _) HB5.out))⟩
  · rw [hx0] at hsq
    have HG := Lib.hid hg
    have HMQ := Lib.hid hmq
    have HBQ := Lib.hid hbq
    have HSQ := Lib.hid hsq
    clear hg hmq hbq hsq
    clear hx0
    go_wp2_with fail
    refine (OGet_yes _ (fun _ => none) (some ⟨b3, 0, none⟩) n3 cp3 bs q HG.out (Wf_none _) (by omega) HAS.out).mono ?_
    rintro e w4 ⟨A4, n4, cp4, A4', n4', cp4', rfl, q_HX4, q_HXT4, q_HB4⟩
    have HX4 := Lib.hid q_HX4
    have HXT4 := Lib.hid q_HXT4
    have HB4 := Lib.hid q_HB4
    clear q_HX4 q_HXT4 q_HB4
    have HBB4 := Lib.hid (below_then HBS.out HB4.out)
    go_wp2_with fail
    refine (OPut_yes _ (fun _ => none) q A4 n4 cp4 A4' n4' cp4' HMQ.out (Wf_none _) (HX4.out.below (below_alloc _ _)) (HXT4.out.below (below_alloc _ _))).mono ?_
    rintro e w5 ⟨A5, n5, cp5, rfl, q_HO5, q_HB5⟩
    have HO5 := Lib.hid q_HO5
    have HB5 := Lib.hid q_HB5
    clear q_HO5 q_HB5
    have HD5 := Lib.hid (below_then (below_alloc _ _) HB5.out)
    have HBB5 := Lib.hid (below_then HBB4.out HD5.out)
    have HA5 := Lib.hid (own_rd (c := fun _ => none) HO5.out (Wf_none _))
    go_wp2_with fail
    refine (told7 w5).mono ?_
    rintro e w6 ⟨rfl, q_HB6⟩
    have HB6 := Lib.hid q_HB6
    clear q_HB6
    have HBB6 := Lib.hid (below_then HBB5.out HB6.out)
    go_wp2_with fail
    refine (Same_eq (b := true) (by rw [HBQ.out]; simp) (HAS.out.below (below_then (below_then HB4.out HD5.out) HB6.out)) (HA5.out.below HB6.out)).mono ?_
    rintro e w7 ⟨rfl, q_HE7⟩
    have HE7 := Lib.hid q_HE7
    clear q_HE7
    obtain rfl := HE7.out
    have HBW6 := Lib.hid (below_then HBX.out HBB6.out)
    have HZ6 := Lib.hid (below_then HB5.out HB6.out)
    have y0 := below_newcell HBB6.out 0 _ rfl
    have y1 := below_newcell HBB6.out 1 _ rfl
    have y2 := below_newcell HBB6.out 2 _ rfl
    have y3 := below_newcell HBB6.out 3 _ rfl
    have y4 := below_newcell HBB6.out 4 _ rfl
    have y5 := below_newcell HBB6.out 5 _ rfl
    have z0 := below_newcell HZ6.out 0 _ rfl
    have z1 := below_newcell HZ6.out 1 _ rfl
    have z2 := below_newcell HZ6.out 2 _ rfl
    have z3 := below_newcell HZ6.out 3 _ rfl
    have z4 := below_newcell HZ6.out 4 _ rfl
    have z5 := below_newcell HZ6.out 5 _ rfl
    have hc2 : ch = 0 ∨ ch ≠ 0 := by omega
    rcases hc2 with hc2 | hc2
    · have HS1 : Hid (sameR ⟨cl, sq, kd, p, t, ls⟩ q = true) := by show _ = _; rw [HSQ.out, hc2]; rfl
      go_wp2_with fail
      refine (bool_eq HS1.out (OSame_any w6 (fun _ => none) ⟨cl, sq, kd, p, t, ls⟩ q A n cp B m cq A4 n4 cp4 A4' n4' cp4' (HX.out.below HBW6.out) (HY.out.below HBW6.out) (HX4.out.below (below_then HD5.out HB6.out)) (HXT4.out.below (below_then HD5.out HB6.out)))).mono ?_
      rintro e w8 ⟨rfl, q_HB8⟩
      have HB8 := Lib.hid q_HB8
      clear q_HB8
      subst hc2
      go_wp2_with fail
      go_ret
      exact ⟨rfl, below_then HBW6.out HB8.out⟩
    · have HS1 : Hid (sameR ⟨cl, sq, kd, p, t, ls⟩ q = false) := by show _ = _; rw [HSQ.out]; simpa using hc2
      have hce : (ch == 0) = false := by simpa using hc2
      go_wp2_with fail
      refine (bool_eq HS1.out (OSame_any w6 (fun _ => none) ⟨cl, sq, kd, p, t, ls⟩ q A n cp B m cq A4 n4 cp4 A4' n4' cp4' (HX.out.below HBW6.out) (HY.out.below HBW6.out) (HX4.out.below (below_then HD5.out HB6.out)) (HXT4.out.below (below_then HD5.out HB6.out)))).mono ?_
      rintro e w8 ⟨rfl, q_HB8⟩
      have HB8 := Lib.hid q_HB8
      clear q_HB8
      go_wp2_with fail
      go_ret
      exact ⟨by first | rfl | (simp [hce]; exact hc2) | simp [hce], below_then HBW6.out HB8.out⟩
end Go.Proofs.Ytcdapcljpkohbaa
