/- TupleTurned: the walk. -/
import Derived.Test.YtladpckbajnbeaaTupleBack
set_option linter.unusedVariables false
set_option linter.unusedSimpArgs false
namespace Go.Proofs.Ytladpckbajnbeaa
open Go.RowKit

theorem xor_u8 (a : UInt8) (ch : Int) (hc : 0 ≤ ch ∧ ch ≤ 255) : bits .xor .u8 (a.toNat : Int) ch = ((a ^^^ UInt8.ofNat ch.toNat).toNat : Int) := by
  obtain ⟨n, rfl⟩ := Int.eq_ofNat_of_zero_le hc.1
  rw [UInt8.toNat_xor, UInt8.toNat_ofNat', Int.toNat_natCast, Nat.mod_eq_of_lt (show n < 2 ^ 8 by omega)]
  exact u8_xor_nat _ _ a.toNat_lt (by omega)
/-- What Get tells of bytes with one turned. -/
theorem turned_law {p : List Fld} (hm : mayTB p = true) (hok : ∀ x ∈ p, x.ok) {k : Nat} (hk : k < (tupB p).length) {y x : UInt8} (hy : (tupB p)[k]? = some y) :
    (tupGet ((tupB p).set k (y ^^^ x)) = ([], false) ∧ x ≠ 0) ∨ ∃ q, tupGet ((tupB p).set k (y ^^^ x)) = (q, true) ∧ mayTB q = true ∧ tupB q = (tupB p).set k (y ^^^ x) ∧ sameL p q = (x == 0) := by
  have h0 : (tupB p).set k y = tupB p := by
    apply List.ext_getElem?
    intro j
    rw [List.getElem?_set]
    split
    · rename_i h
      subst h
      rw [hy]
    · rfl
  have hxe : y ^^^ x = y → x = 0 := by
    intro h
    have h1 : y ^^^ (y ^^^ x) = y ^^^ y := by rw [h]
    rw [← UInt8.xor_assoc, UInt8.xor_self, UInt8.zero_xor] at h1
    exact h1
  cases h : (tupGet ((tupB p).set k (y ^^^ x))).2 with
  | false =>
    refine .inl ⟨tupGet_false h, ?_⟩
    rintro rfl
    rw [UInt8.xor_zero, h0, tupGet_put hm hok] at h
    cases h
  | true =>
    have h2 : tupGet ((tupB p).set k (y ^^^ x)) = ((tupGet ((tupB p).set k (y ^^^ x))).1, true) := Prod.ext rfl h
    have hlen := (tupB_len hm).2
    have hok2 := tupGet_ok ((tupB p).set k (y ^^^ x)) (by rw [List.length_set]; omega)
    obtain ⟨hm2, hb2⟩ := tupGet_good h2
    generalize (tupGet ((tupB p).set k (y ^^^ x))).1 = q at *
    refine .inr ⟨q, h2, hm2, hb2, ?_⟩
    by_cases hx : x = 0
    · subst hx
      rw [UInt8.xor_zero, h0] at hb2
      rw [sameL_iff.2 (tupB_inj hm hok hm2 hok2 hb2.symm)]
      rfl
    · have hne : p ≠ q := by
        rintro rfl
        have h3 := congrArg (·[k]?) hb2
        simp only [List.getElem?_set, hk, if_true, hy] at h3
        exact hx (hxe (Option.some.inj h3).symm)
      have : sameL p q = false := by
        rw [← Bool.not_eq_true]
        exact fun e => hne (sameL_iff.1 e)
      rw [this]
      symm
      simpa using hx
theorem bcells_set (xs : List UInt8) (k : Nat) (x : UInt8) : (bcells xs).set k (.int .u8 (x.toNat : Int)) = bcells (xs.set k x) := by
  unfold bcells
  rw [List.map_set]

set_option maxRecDepth 100000 in
set_option maxHeartbeats 4000000 in
theorem TupleTurned_any (w : World) (A : Option Addr) (n cp : Nat) (p : List Fld) (at_ ch : Int) (hch : 0 ≤ ch ∧ ch ≤ 255)
    (hx : Rd kFld w (fun _ => none) A n cp p) :
    Calls Try.prog 10 #[.slice A n cp, .int .i64 at_, .int .u8 ch] w (BoolPost w true) := by
  have HOK := Lib.hid hx.all_ok
  have HX := Lib.hid hx
  clear hx
  have HF1 := Lib.hid (l6Few_any w _ A n cp p HX.out)
  cases hf1 : fewB p with
  | false =>
    rw [hf1] at HF1
    clear hf1
    go_enter Try.func10, Try.ntmps10
    go_wp2_with fail
    refine (HF1.out).mono ?_
    rintro e w1 ⟨rfl, q_HB1⟩
    have HB1 := Lib.hid q_HB1
    clear q_HB1
    go_wp2_with fail
    refine (told6 w1).mono ?_
    rintro e w2 ⟨rfl, q_HB2⟩
    have HB2 := Lib.hid q_HB2
    clear q_HB2
    go_wp2_with fail
    refine bodyPost_ret (results_tmp rfl _ _ _) rfl ?_
    exact ⟨rfl, below_then HB1.out HB2.out⟩
  | true =>
  rw [hf1] at HF1
  clear hf1
  cases hm1 : mayTB p with
  | false =>
    have HM1 := Lib.hid hm1
    clear hm1
    go_enter Try.func10, Try.ntmps10
    go_wp2_with fail
    refine (HF1.out).mono ?_
    rintro e w1 ⟨rfl, q_HB1⟩
    have HB1 := Lib.hid q_HB1
    clear q_HB1
    go_wp2_with fail
    refine (bool_eq HM1.out (MayT_any w1 _ A n cp p (HX.out.below HB1.out))).mono ?_
    rintro e w2 ⟨rfl, q_HB2⟩
    have HB2 := Lib.hid q_HB2
    clear q_HB2
    go_wp2_with fail
    refine (told6 w2).mono ?_
    rintro e w3 ⟨rfl, q_HB3⟩
    have HB3 := Lib.hid q_HB3
    clear q_HB3
    go_wp2_with fail
    refine bodyPost_ret (results_tmp rfl _ _ _) rfl ?_
    exact ⟨rfl, below_then (below_then HB1.out HB2.out) HB3.out⟩
  | true =>
  have HM1 := Lib.hid hm1
  clear hm1
  obtain ⟨hal1, hal2⟩ := tupB_len HM1.out
  go_enter Try.func10, Try.ntmps10
  go_wp2_with fail
  refine (HF1.out).mono ?_
  rintro e w1 ⟨rfl, q_HB1⟩
  have HB1 := Lib.hid q_HB1
  clear q_HB1
  go_wp2_with fail
  refine (bool_eq HM1.out (MayT_any w1 _ A n cp p (HX.out.below HB1.out))).mono ?_
  rintro e w2 ⟨rfl, q_HB2⟩
  have HB2 := Lib.hid q_HB2
  clear q_HB2
  have HBB2 := Lib.hid (below_then HB1.out HB2.out)
  go_wp2_with fail
  refine (TPut_yes w2 (fun _ => none) A n cp p HM1.out (Wf_none _) (HX.out.below HBB2.out)).mono ?_
  rintro e w3 ⟨A3, n3, cp3, rfl, q_HO3, q_HB3⟩
  have HO3 := Lib.hid q_HO3
  have HB3 := Lib.hid q_HB3
  clear q_HO3 q_HB3
  have HBB3 := Lib.hid (below_then HBB2.out HB3.out)
  have HLA : Hid ((tupB p).length = n3) := own_len HO3.out
  have hn31 : 1 ≤ n3 := by have := HLA.out; omega
  have hn32 : n3 ≤ 301 := by have := HLA.out; omega
  obtain ⟨k, hk, hkn⟩ := rem_small at_ n3 hn31 (by omega)
  obtain ⟨b3, rfl⟩ : ∃ b, A3 = some ⟨b, 0, none⟩ := by
    rcases HO3.out.2 with hn | ⟨b, cap, cur, hv, _⟩
    · exact absurd hn.2 (by omega)
    · cases hv
      exact ⟨b, rfl⟩
  have hcell := HO3.out.cellAt k (by omega)
  have hgy := getD_at' (tupB p) 0 (k := k) (by have := HLA.out; omega)
  rw [bcells_at (tupB p) k _ hgy] at hcell
  have hfr := HO3.out.frozenAt k
  generalize (tupB p)[k]?.getD 0 = y at hcell hgy
  have HGY := Lib.hid hgy
  clear hgy
  have hxor := xor_u8 y ch hch
  have hlaw := turned_law HM1.out HOK.out (k := k) (by have := HLA.out; omega) HGY.out (x := UInt8.ofNat ch.toNat)
  have hx0 : (UInt8.ofNat ch.toNat == 0) = (ch == 0) := by
    obtain ⟨c, rfl⟩ := Int.eq_ofNat_of_zero_le hch.1
    rw [Int.toNat_natCast]
    have h1 : (UInt8.ofNat c = 0) ↔ ((c : Int) = 0) := by
      rw [← UInt8.toNat_inj, UInt8.toNat_ofNat', Nat.mod_eq_of_lt (show c < 2 ^ 8 by omega)]
      simp
    by_cases h : (c : Int) = 0
    · rw [h1.2 h, h]; rfl
    · rw [beq_eq_false_iff_ne.2 h, beq_eq_false_iff_ne]
      exact fun e => h (h1.1 e)
  have hst := HO3.out.stored k (.int .u8 ((y ^^^ UInt8.ofNat ch.toNat).toNat : Int))
  rw [bcells_set] at hst
  have HOS := Lib.hid hst.1
  have HBS := Lib.hid (HBB3.out.grown hst.2 HBB3.out.size (fun j hj => by cases hj; have := (HO3.out.lt b3 rfl).1; have := HBB2.out.size; omega))
  generalize hbs : (tupB p).set k (y ^^^ UInt8.ofNat ch.toNat) = bs at hlaw HOS
  have HAS := Lib.hid (own_rd (c := fun _ => none) HOS.out (Wf_none _))
  clear hst hbs
  rcases hlaw with ⟨hg, hxn⟩ | ⟨q, hg, hmq, hbq, hsq⟩
  · have hne : (ch == 0) = false := by rw [← hx0, beq_eq_false_iff_ne]; exact hxn
    have hne2 : ch ≠ 0 := by simpa using hne
    have HG := Lib.hid hg
    clear hx0 hxn hg
    go_wp2_with fail
    refine (TGet_no _ (fun _ => none) (some ⟨b3, 0, none⟩) n3 cp3 bs HG.out (Wf_none _) (by omega) HAS.out).mono ?_
    rintro e w4 ⟨A4, n4, cp4, rfl, q_HX4, q_HB4⟩
    have HX4 := Lib.hid q_HX4
    have HB4 := Lib.hid q_HB4
    clear q_HX4 q_HB4
    have HBB4 := Lib.hid (below_then HBS.out HB4.out)
    go_wp2_with fail
    refine (told6 w4).mono ?_
    rintro e w5 ⟨rfl, q_HB5⟩
    have HB5 := Lib.hid q_HB5
    clear q_HB5
    go_wp2_with fail
    refine bodyPost_ret (results_tmp rfl _ _ _) rfl ?_
    exact ⟨by first | rfl | (simp [hne]; exact hne2) | simp [hne], below_then HBB4.out HB5.out⟩
  · rw [hx0] at hsq
    have HG := Lib.hid hg
    have HMQ := Lib.hid hmq
    have HBQ := Lib.hid hbq
    have HSQ := Lib.hid hsq
    clear hg hmq hbq hsq
    clear hx0
    go_wp2_with fail
    refine (TGet_yes _ (fun _ => none) (some ⟨b3, 0, none⟩) n3 cp3 bs q HG.out (Wf_none _) (by omega) HAS.out).mono ?_
    rintro e w4 ⟨A4, n4, cp4, rfl, q_HX4, q_HB4⟩
    have HX4 := Lib.hid q_HX4
    have HB4 := Lib.hid q_HB4
    clear q_HX4 q_HB4
    have HBB4 := Lib.hid (below_then HBS.out HB4.out)
    go_wp2_with fail
    refine (TPut_yes w4 (fun _ => none) A4 n4 cp4 q HMQ.out (Wf_none _) HX4.out).mono ?_
    rintro e w5 ⟨A5, n5, cp5, rfl, q_HO5, q_HB5⟩
    have HO5 := Lib.hid q_HO5
    have HB5 := Lib.hid q_HB5
    clear q_HO5 q_HB5
    have HBB5 := Lib.hid (below_then HBB4.out HB5.out)
    have HA5 := Lib.hid (own_rd (c := fun _ => none) HO5.out (Wf_none _))
    go_wp2_with fail
    refine (told6 w5).mono ?_
    rintro e w6 ⟨rfl, q_HB6⟩
    have HB6 := Lib.hid q_HB6
    clear q_HB6
    have HBB6 := Lib.hid (below_then HBB5.out HB6.out)
    go_wp2_with fail
    refine (Same_eq (b := true) (by rw [HBQ.out]; simp) (HAS.out.below (below_then (below_then HB4.out HB5.out) HB6.out)) (HA5.out.below HB6.out)).mono ?_
    rintro e w7 ⟨rfl, q_HE7⟩
    have HE7 := Lib.hid q_HE7
    clear q_HE7
    obtain rfl := HE7.out
    have hc2 : ch = 0 ∨ ch ≠ 0 := by omega
    rcases hc2 with hc2 | hc2
    · have HS1 : Hid (sameL p q = true) := by show _ = _; rw [HSQ.out, hc2]; rfl
      go_wp2_with fail
      refine (bool_eq HS1.out (TSame_any w6 (fun _ => none) A A4 n cp n4 cp4 p q (HX.out.below HBB6.out) (HX4.out.below (below_then HB5.out HB6.out)))).mono ?_
      rintro e w8 ⟨rfl, q_HB8⟩
      have HB8 := Lib.hid q_HB8
      clear q_HB8
      subst hc2
      go_wp2_with fail
      go_ret
      exact ⟨rfl, below_then HBB6.out HB8.out⟩
    · have HS1 : Hid (sameL p q = false) := by show _ = _; rw [HSQ.out]; simpa using hc2
      have hce : (ch == 0) = false := by simpa using hc2
      go_wp2_with fail
      refine (bool_eq HS1.out (TSame_any w6 (fun _ => none) A A4 n cp n4 cp4 p q (HX.out.below HBB6.out) (HX4.out.below (below_then HB5.out HB6.out)))).mono ?_
      rintro e w8 ⟨rfl, q_HB8⟩
      have HB8 := Lib.hid q_HB8
      clear q_HB8
      go_wp2_with fail
      go_ret
      exact ⟨by first | rfl | (simp [hce]; exact hc2) | simp [hce], below_then HBB6.out HB8.out⟩
end Go.Proofs.Ytladpckbajnbeaa
