/- The law PackShort. -/
import Derived.Test.YtladpckbajnbeaaLaw2
import Derived.Test.YtladpckbajnbeaaLib2
import Derived.Deep.RegionWith
import Derived.Deep.DeepCutAuto
set_option linter.unusedVariables false
set_option linter.unusedSimpArgs false
namespace Go.Proofs.Ytladpckbajnbeaa
open Go.RowKit

theorem RS.raw_le (r : RS) (n : Int) : (r.raw n).2.xs.length ≤ r.xs.length := by
  unfold RS.raw; split
  · simp
  · simp
theorem RS.text_le (r : RS) (most : Int) : (r.text most).2.xs.length ≤ r.xs.length := Nat.le_trans (RS.raw_le _ _) (RS.num_le r 4)
theorem num_at (V N : Nat) (n : Int) (ys : List UInt8) (hn : n = N) (h1 : 1 ≤ N) (h8 : N ≤ 8) : RS.num ⟨numB V N ++ ys, false⟩ n = (V % 256 ^ N, ⟨ys, false⟩) := by
  subst hn
  exact RS.num_wrote V N ys h1 h8
theorem text_all (b : List UInt8) (h : b.length ≤ 60) : RS.text ⟨textB b, false⟩ 60 = (b, ⟨[], false⟩) := by
  have := RS.text_wrote b [] 60 (by omega)
  rw [List.append_nil, if_pos (by omega)] at this
  exact this
theorem text_cut (b : List UInt8) (h : b.length ≤ 60) (t : Nat) (ht : t < 4 + b.length) : ∃ xs, RS.text ⟨(textB b).take t, false⟩ 60 = ([], ⟨xs, true⟩) := by
  by_cases h4 : t < 4
  · have hl : ((textB b).take t).length = t := by rw [List.length_take]; simp [textB, numB_length]; omega
    have hnum : RS.num ⟨(textB b).take t, false⟩ 4 = (0, ⟨(textB b).take t, true⟩) := by
      unfold RS.num
      rw [if_neg]
      rintro ⟨_, _, _, h5⟩
      simp only [hl] at h5
      omega
    refine ⟨(textB b).take t, ?_⟩
    unfold RS.text
    rw [hnum]
    unfold RS.raw
    rw [if_neg (by rintro ⟨h, _⟩; cases h)]
  · have htk : (textB b).take t = numB b.length 4 ++ b.take (t - 4) := by
      unfold textB
      rw [List.take_append, numB_length, List.take_of_length_le (by rw [numB_length]; omega)]
    have hnum := num_at b.length 4 4 (b.take (t - 4)) rfl (by omega) (by omega)
    refine ⟨b.take (t - 4), ?_⟩
    unfold RS.text
    rw [htk, hnum, Nat.mod_eq_of_lt (by omega)]
    dsimp only
    rw [if_neg (by omega)]
    unfold RS.raw
    rw [if_neg]
    rintro ⟨_, _, h5⟩
    simp only [List.length_take] at h5
    omega
theorem RS_len_cut {zs ys : List UInt8} {most : Int} {out : List UInt8} (h : RS.text ⟨zs, false⟩ most = (out, ⟨ys, true⟩)) {k : Nat} (hz : zs.length ≤ k) : ys.length ≤ k := by
  have h1 := RS.text_le ⟨zs, false⟩ most
  rw [h] at h1
  exact Nat.le_trans h1 hz
theorem text_less (b : List UInt8) (h : b.length ≤ 60) (h0 : 0 < b.length) : ∃ xs, RS.text ⟨textB b, false⟩ ((b.length : Int) - 1) = ([], ⟨xs, true⟩) := by
  have := RS.text_wrote b [] ((b.length : Int) - 1) (by omega)
  rw [List.append_nil, if_neg (by omega)] at this
  exact ⟨_, this⟩
theorem text_none : RS.text ⟨textB [], false⟩ (((0 : Nat) : Int) - 1) = ([], ⟨[], false⟩) := by
  have := RS.text_wrote [] [] (((0 : Nat) : Int) - 1) (by simp)
  rw [List.append_nil, if_pos (by simp; omega)] at this
  exact this
theorem low_at (v K : Int) (hv0 : 0 ≤ v) (hK0 : 0 ≤ K) (hK1 : K < 8) :
    IntKind.u64.wrap (v * 2 ^ (64 - 8 * (1 + K)).toNat) / 2 ^ (64 - 8 * (1 + K)).toNat = ((v.toNat % 256 ^ (1 + K).toNat : Nat) : Int) := by
  obtain ⟨V, rfl⟩ := Int.eq_ofNat_of_zero_le hv0
  obtain ⟨k, rfl⟩ := Int.eq_ofNat_of_zero_le hK0
  have hk : k < 8 := by omega
  have h1 : (64 - 8 * (1 + (k : Int))).toNat = 56 - 8 * k := by omega
  have h2 : (1 + (k : Int)).toNat = k + 1 := by omega
  rw [h1, h2, Int.toNat_natCast]
  have h3 : ((V : Int) * 2 ^ (56 - 8 * k)) = ((V * 2 ^ (56 - 8 * k) : Nat) : Int) := by push_cast; rfl
  have h4 : ((2 : Int) ^ (56 - 8 * k)) = ((2 ^ (56 - 8 * k) : Nat) : Int) := by push_cast; rfl
  have hw : IntKind.u64.wrap ((V * 2 ^ (56 - 8 * k) : Nat) : Int) = ((V * 2 ^ (56 - 8 * k) % 18446744073709551616 : Nat) : Int) := by
    show _ % (18446744073709551616 : Int) = _
    rw [Int.natCast_emod]
    rfl
  have h5 : (18446744073709551616 : Nat) = 256 ^ (k + 1) * 2 ^ (56 - 8 * k) := by
    rw [show (256 : Nat) = 2 ^ 8 from rfl, ← Nat.pow_mul, ← Nat.pow_add, show 8 * (k + 1) + (56 - 8 * k) = 64 by omega]
  rw [h3, hw, h4, h5, Nat.mul_mod_mul_right, ← Int.natCast_ediv, Nat.mul_div_cancel _ (Nat.pow_pos (by omega))]

set_option maxRecDepth 100000 in
set_option maxHeartbeats 4000000 in
theorem packShort_any (w : World) (v wide missing : Int) (A : Option Addr) (n cp : Nat) (b : List UInt8) (hv0 : 0 ≤ v) (hv1 : v ≤ 18446744073709551615) (hx : Rd kU8 w (fun _ => none) A n cp b) :
    Calls Try.prog 5 #[.int .u64 v, .int .i64 wide, .slice A n cp, .int .i64 missing] w (TruePost w) := by
  have hln := hx.1
  have hmx := hx.max
  have HX := Lib.hid hx
  have HL := Lib.hid hln
  clear hx hln
  by_cases h60 : n ≤ 60
  case neg =>
    go_enter Try.func5, Try.ntmps5
    go_wp2_with fail
    refine (told2 w).mono ?_
    rintro e w1 ⟨rfl, q_HB1⟩
    have HB1 := Lib.hid q_HB1
    clear q_HB1
    go_wp2_with fail
    go_ret
    exact ⟨rfl, HB1.out⟩
  obtain ⟨ht0, hW0⟩ := Wr_new w (fun _ => none) (Wf.none w)
  generalize hc0 : Col.set (fun _ => none) w.heap.size w.heap.size = c0 at ht0 hW0
  have HT0 := Lib.hid ht0
  have HW0 := Lib.hid hW0
  clear ht0 hW0
  clear hc0 hv1
  have HV0 := Lib.hid hv0
  obtain ⟨hK0, hK1⟩ := small_mod wide 8 (by omega) (by omega)
  go_enter Try.func5, Try.ntmps5
  go_wp2_with fail
  generalize wrap64 ((IntKind.u64.wrap wide).tmod 8) = K at hK0 hK1
  have hN1 : 1 ≤ 1 + K := by omega
  have hN8 : 1 + K ≤ 8 := by omega
  refine (Num_good _ c0 w.heap.size [] v (1 + K) HV0.out hN1 hN8 (by simp) HT0.out.wf HW0.out).mono ?_
  rintro e w1 ⟨rfl, c1, q_HA1, q_HW1⟩
  have HA1 := Lib.hid q_HA1
  have HW1 := Lib.hid q_HW1
  clear q_HA1 q_HW1
  have HT1 := Lib.hid (HT0.out.low HA1.out (Nat.le_refl _))
  have HLN : Hid (([] ++ numB v.toNat (1 + K).toNat).length = (1 + K).toNat) := by show _ = _; rw [List.nil_append, numB_length]
  go_wp2_with fail
  refine (Text_any _ c1 w.heap.size _ b A n cp (by have := HL.out; have := HLN.out; omega) HT1.out.wf HW1.out (HX.out.tr HT1.out)).mono ?_
  rintro e w2 ⟨rfl, c2, q_HA2, q_HW2⟩
  have HA2 := Lib.hid q_HA2
  have HW2 := Lib.hid q_HW2
  clear q_HA2 q_HW2
  have HT2 := Lib.hid (HT1.out.low HA2.out (Nat.le_refl _))
  have HAL : Hid (([] ++ numB v.toNat (1 + K).toNat ++ textB b).length = (1 + K).toNat + 4 + n) := by show _ = _; rw [List.length_append, HLN.out]; unfold textB; rw [List.length_append, numB_length, HL.out]; omega
  go_wp2_with fail
  refine (Bytes_any _ c2 w.heap.size _ (by have := HAL.out; omega) HT2.out.wf HW2.out).mono ?_
  rintro e w3 ⟨A3, n3, cp3, rfl, q_HR3, q_HB3⟩
  have HR3 := Lib.hid q_HR3
  have HB3 := Lib.hid q_HB3
  clear q_HR3 q_HB3
  have HT3 := Lib.hid (HT2.out.then (Tr.of_below HT2.out.wf HB3.out))
  have hn3 : (n3 : Int) ≤ 1 + K + 4 + n := by have := HR3.out.1; have := HAL.out; omega
  have hn3' : 1 + K + 4 + n ≤ (n3 : Int) := by have := HR3.out.1; have := HAL.out; omega
  go_wp2_with fail
  have hlow := low_at v K HV0.out hK0 hK1
  simp only [hlow]
  clear hlow
  generalize hLOW : v.toNat % 256 ^ (1 + K).toNat = low
  have HA1' := num_at v.toNat (1 + K).toNat (1 + K) (textB b) (by omega) (by omega) (by omega)
  rw [hLOW] at HA1'
  have HNUM := Lib.hid HA1'
  have HLOW := Lib.hid hLOW
  clear HA1' hLOW
  refine (New_any _ c2 _ A3 n3 cp3 (by omega) HT3.out.wf HR3.out).mono ?_
  rintro e w4 ⟨g, rfl, hg, q_HA4, q_HW4⟩
  have HA4 := Lib.hid q_HA4
  have HW4 := Lib.hid q_HW4
  clear q_HA4 q_HW4
  have HT4 := Lib.hid (HT3.out.trans HA4.out fun r _ h => h)
  have HR4 := Lib.hid (HR3.out.tr HA4.out)
  have hw3 := HT3.out.size
  go_wp2_with fail
  have e4 := conv_str 24 9 5 Try.underlying24 Try.underlying5 Try.underlying9 (HX.out.tr HT4.out.drew)
  go_cut [74] (fun s wx => s = .bool false ∧ Hid (Tr (fun _ => False) (fun _ => none) (c2.set g g) w wx) ∧ Hid (Tr (fun _ => False) c2 (c2.set g g) w3 wx))
  case first =>
   go_region_with ((first
    | (go_at_call 26; go_must (refine (RNum_eq _ _ g ⟨[] ++ numB v.toNat (1 + K).toNat ++ textB b, false⟩ (1 + K) low ⟨textB b, false⟩ (by rw [List.nil_append]; exact HNUM.out) HT4.out.drew.wf HW4.out).mono ?_); rintro e w5 ⟨rfl, q_HA5, q_HW5⟩; have HW5 := Lib.hid q_HW5; have HT5 := Lib.hid (HT4.out.drew.low q_HA5 (by omega)); have HTC5 := Lib.hid ((HA4.out.trans (Tr.refl (fun _ => False) HT4.out.wf).drew fun r _ h => h).low q_HA5 hg); have e5 := conv_str 24 9 5 Try.underlying24 Try.underlying5 Try.underlying9 (HX.out.tr HT5.out); clear q_HA5 q_HW5 e4)
    | (go_at_call 19; go_must (refine (RText_eq _ _ g ⟨textB b, false⟩ 60 b ⟨[], false⟩ (text_all b (by have := HL.out; omega)) (by omega) (by show (textB b).length ≤ _; unfold textB; rw [List.length_append, numB_length, HL.out]; omega) HT5.out.wf HW5.out).mono ?_); rintro e w6 ⟨A6, n6, cp6, rfl, q_HA6, q_HW6, q_HR6⟩; have HW6 := Lib.hid q_HW6; have HT6 := Lib.hid (HT5.out.low q_HA6 (by omega)); have HTC6 := Lib.hid (HTC5.out.low q_HA6 hg); have e6 := conv_str 24 9 5 Try.underlying24 Try.underlying5 Try.underlying9 (HX.out.tr HT6.out); have f6 := conv_str 24 9 5 Try.underlying24 Try.underlying5 Try.underlying9 q_HR6; clear q_HA6 q_HW6 q_HR6 e5)
    | (go_at_call 21; go_must (refine (REnd_eq _ _ g ⟨[], false⟩ 0 rfl HT6.out.wf HW6.out).mono ?_); rintro e w7 ⟨rfl, q_HA7, q_HW7⟩; have HT7 := Lib.hid (HT6.out.low q_HA7 (by omega)); have HTC7 := Lib.hid (HTC6.out.low q_HA7 hg); clear q_HA7 q_HW7 e6 f6)))
   all_goals (go_wp2_with fail; go_meet; exact ⟨rfl, HT7.out, HTC7.out⟩)
  case rest =>
    obtain ⟨rfl, HT7, HTC⟩ := hcut
    clear e4
    obtain ⟨hM0, hM1⟩ := small_mod missing (4 + n) (by omega) (by omega)
    have hnc := HR3.out.2.1
    have hM2 : wrap64 ((IntKind.u64.wrap missing).tmod (4 + ↑n)) ≤ (n3 : Int) - 1 := by omega
    have hM3 : (n3 : Int) - 1 - wrap64 ((IntKind.u64.wrap missing).tmod (4 + ↑n)) ≤ (cp3 : Int) := by omega
    generalize hM : wrap64 ((IntKind.u64.wrap missing).tmod (4 + ↑n)) = M at hM0 hM1 hM2 hM3
    have HM := Lib.hid hM
    go_wp2_with fail
    clear hM
    generalize hm : ((n3 : Int) - 1 - M).toNat = m
    have hm1 : m ≤ n3 := by omega
    have hm2 : (1 + K).toNat ≤ m := by omega
    have hm3 : m < (1 + K).toNat + 4 + n := by omega
    have HCUT : Hid (([] ++ numB v.toNat (1 + K).toNat ++ textB b).take m = numB v.toNat (1 + K).toNat ++ (textB b).take (m - (1 + K).toNat)) := by
      show _ = _
      rw [List.nil_append, List.take_append, numB_length, List.take_of_length_le (by rw [numB_length]; omega)]
    have hRm := HR3.out.take hm1
    rw [HCUT.out] at hRm
    obtain ⟨ys, hys⟩ := text_cut b (by have := HL.out; omega) (m - (1 + K).toNat) (by have := HL.out; omega)
    have hnum2 := num_at v.toNat (1 + K).toNat (1 + K) ((textB b).take (m - (1 + K).toNat)) (by omega) (by omega) (by omega)
    rw [HLOW.out] at hnum2
    have hcl : ((textB b).take (m - (1 + K).toNat)).length ≤ 100 := by rw [List.length_take]; simp [textB, numB_length]; have := HL.out; omega
    have HRM := Lib.hid hRm
    have HYS := Lib.hid hys
    have HNUM2 := Lib.hid hnum2
    have Hm := Lib.hid hm
    have HCL := Lib.hid hcl
    clear hRm hys hnum2 hm hcl
    have HT3c := Lib.hid HT3.out
    have HT74 : Hid (Tr (fun _ => False) c2 (c2.set g g) w3 wc) := HTC.out
    have hmB : m ≤ 100 := by omega
    clear hM0 hM1 hM2 hM3 hm3
    refine (New_any _ _ _ A3 m cp3 (by omega) HT7.out.wf (HRM.out.tr HT74.out)).mono ?_
    rintro e w8 ⟨g8, rfl, hg8, q_HA8, q_HW8⟩
    have HA8 := Lib.hid q_HA8
    have HW8 := Lib.hid q_HW8
    clear q_HA8 q_HW8
    have HT8 := Lib.hid (HT7.out.trans HA8.out fun r _ h => h)
    have HT38 := Lib.hid (HT74.out.trans HA8.out fun r _ h => h)
    have hwc := HT7.out.size
    go_wp2_with fail
    refine (RNum_eq _ _ g8 ⟨numB v.toNat (1 + K).toNat ++ (textB b).take (m - (1 + K).toNat), false⟩ (1 + K) low ⟨(textB b).take (m - (1 + K).toNat), false⟩ HNUM2.out HT8.out.wf HW8.out).mono ?_
    rintro e w9 ⟨rfl, q_HA9, q_HW9⟩
    have HA9 := Lib.hid q_HA9
    have HW9 := Lib.hid q_HW9
    clear q_HA9 q_HW9
    have HT9 := Lib.hid (HT8.out.low HA9.out (by omega))
    have HT39 := Lib.hid (HT38.out.low HA9.out (by have := HT74.out.size; omega))
    go_wp2_with fail
    refine (RText_eq _ _ g8 ⟨(textB b).take (m - (1 + K).toNat), false⟩ 60 [] ⟨ys, true⟩ HYS.out (by omega) (by show ((textB b).take _).length ≤ _; have := HCL.out; omega) HT9.out.wf HW9.out).mono ?_
    rintro e w10 ⟨A10, n10, cp10, rfl, q_HA10, q_HW10, q_HR10⟩
    have HA10 := Lib.hid q_HA10
    have HW10 := Lib.hid q_HW10
    have HR10 := Lib.hid q_HR10
    clear q_HA10 q_HW10 q_HR10
    have HT10 := Lib.hid (HT9.out.low HA10.out (by omega))
    have HT310 := Lib.hid (HT39.out.low HA10.out (by have := HT74.out.size; omega))
    obtain rfl : n10 = 0 := by have := HR10.out.1; simpa using this.symm
    go_wp2_with fail
    refine (RRaw_eq _ _ g8 ⟨ys, true⟩ 0 [] ⟨ys, true⟩ (by simp [RS.raw]) (by have := RS_len_cut HYS.out HCL.out; show ys.length ≤ _; omega) HT10.out.wf HW10.out).mono ?_
    rintro e w11 ⟨A11, n11, cp11, rfl, q_HA11, q_HW11, q_HR11⟩
    have HA11 := Lib.hid q_HA11
    have HW11 := Lib.hid q_HW11
    have HR11 := Lib.hid q_HR11
    clear q_HA11 q_HW11 q_HR11
    have HT11 := Lib.hid (HT10.out.low HA11.out (by omega))
    have HT311 := Lib.hid (HT310.out.low HA11.out (by have := HT74.out.size; omega))
    obtain rfl : n11 = 0 := by have := HR11.out.1; simpa using this.symm
    go_wp2_with fail
    refine (New_any _ _ _ A3 n3 cp3 (by omega) HT11.out.wf (HR3.out.tr HT311.out)).mono ?_
    rintro e w12 ⟨g12, rfl, hg12, q_HA12, q_HW12⟩
    have HA12 := Lib.hid q_HA12
    have HW12 := Lib.hid q_HW12
    clear q_HA12 q_HW12
    have HT12 := Lib.hid (HT11.out.trans HA12.out fun r _ h => h)
    have hw11 := HT11.out.size
    have hlt8 : g8 < w11.heap.size := HW11.out.lt
    have HW12b := Lib.hid (HW11.out.tr HA12.out (fun h => h))
    go_wp2_with fail
    refine (RNum_eq _ _ g12 ⟨[] ++ numB v.toNat (1 + K).toNat ++ textB b, false⟩ (1 + K) low ⟨textB b, false⟩ (by rw [List.nil_append]; exact HNUM.out) HT12.out.wf HW12.out).mono ?_
    rintro e w13 ⟨rfl, q_HA13, q_HW13⟩
    have HA13 := Lib.hid q_HA13
    have HW13 := Lib.hid q_HW13
    clear q_HA13 q_HW13
    have HT13 := Lib.hid (HT12.out.low HA13.out (by omega))
    have hne : ¬ g8 = g12 := by omega
    have HW13b := Lib.hid (HW12b.out.tr HA13.out hne)
    have hbl : (textB b).length ≤ 64 := by unfold textB; rw [List.length_append, numB_length, HL.out]; omega
    have HBL := Lib.hid hbl
    clear hbl
    have hcase : n = 0 ∨ 0 < n := by omega
    rcases hcase with h0 | h0
    · have hb0 : b = [] := List.eq_nil_of_length_eq_zero (HL.out.trans h0)
      subst h0
      subst hb0
      go_wp2_with fail
      refine (RText_eq _ _ g12 ⟨textB [], false⟩ (((0 : Nat) : Int) - 1) [] ⟨[], false⟩ text_none (by omega) (by show (textB []).length ≤ _; have := HBL.out; omega) HT13.out.wf HW13.out).mono ?_
      rintro e w14 ⟨A14, n14, cp14, rfl, q_HA14, q_HW14, q_HR14⟩
      have HA14 := Lib.hid q_HA14
      have HW14 := Lib.hid q_HW14
      have HR14 := Lib.hid q_HR14
      clear q_HA14 q_HW14 q_HR14
      have HT14 := Lib.hid (HT13.out.low HA14.out (by omega))
      have HW14b := Lib.hid (HW13b.out.tr HA14.out hne)
      obtain rfl : n14 = 0 := by have := HR14.out.1; simpa using this.symm
      go_wp2_with fail
      refine (REnd_eq _ _ g12 ⟨[], false⟩ 0 rfl HT14.out.wf HW14.out).mono ?_
      rintro e w15 ⟨rfl, q_HA15, q_HW15⟩
      have HA15 := Lib.hid q_HA15
      have HW15 := Lib.hid q_HW15
      clear q_HA15 q_HW15
      have HT15 := Lib.hid (HT14.out.low HA15.out (by omega))
      have HW15b := Lib.hid (HW14b.out.tr HA15.out hne)
      go_wp2_with fail
      refine (told2 _).mono ?_
      rintro e w16 ⟨rfl, q_HB16⟩
      have HB16 := Lib.hid q_HB16
      clear q_HB16
      have HT16 := Lib.hid (HT15.out.then (Tr.of_below HT15.out.wf HB16.out))
      have HW16b := Lib.hid (HW15b.out.tr (Tr.of_below (M := fun _ => False) HT15.out.wf HB16.out) (fun h => h))
      go_wp2_with fail
      refine (RLeft_eq _ _ g8 ⟨ys, true⟩ 0 rfl HT16.out.wf HW16b.out).mono ?_
      rintro e w17 ⟨rfl, q_HA17, q_HW17⟩
      have HA17 := Lib.hid q_HA17
      have HW17 := Lib.hid q_HW17
      clear q_HA17 q_HW17
      have HT17 := Lib.hid (HT16.out.low HA17.out (by omega))
      go_wp2_with fail
      refine (REnd_eq _ _ g8 ⟨ys, true⟩ 2 rfl HT17.out.wf HW17.out).mono ?_
      rintro e w18 ⟨rfl, q_HA18, q_HW18⟩
      have HA18 := Lib.hid q_HA18
      have HW18 := Lib.hid q_HW18
      clear q_HA18 q_HW18
      have HT18 := Lib.hid (HT17.out.low HA18.out (by omega))
      go_wp2_with fail
      go_ret
      exact ⟨rfl, HT18.out.below fun r _ h => h⟩
    · obtain ⟨zs, hzs⟩ := text_less b (by have := HL.out; omega) (by have := HL.out; omega)
      rw [HL.out] at hzs
      have HZS := Lib.hid hzs
      clear hzs
      go_wp2_with fail
      refine (RText_eq _ _ g12 ⟨textB b, false⟩ ((n : Int) - 1) [] ⟨zs, true⟩ HZS.out (by omega) (by show (textB b).length ≤ _; have := HBL.out; omega) HT13.out.wf HW13.out).mono ?_
      rintro e w14 ⟨A14, n14, cp14, rfl, q_HA14, q_HW14, q_HR14⟩
      have HA14 := Lib.hid q_HA14
      have HW14 := Lib.hid q_HW14
      have HR14 := Lib.hid q_HR14
      clear q_HA14 q_HW14 q_HR14
      have HT14 := Lib.hid (HT13.out.low HA14.out (by omega))
      have HW14b := Lib.hid (HW13b.out.tr HA14.out hne)
      obtain rfl : n14 = 0 := by have := HR14.out.1; simpa using this.symm
      go_wp2_with fail
      refine (REnd_eq _ _ g12 ⟨zs, true⟩ 2 rfl HT14.out.wf HW14.out).mono ?_
      rintro e w15 ⟨rfl, q_HA15, q_HW15⟩
      have HA15 := Lib.hid q_HA15
      have HW15 := Lib.hid q_HW15
      clear q_HA15 q_HW15
      have HT15 := Lib.hid (HT14.out.low HA15.out (by omega))
      have HW15b := Lib.hid (HW14b.out.tr HA15.out hne)
      go_wp2_with fail
      refine (told2 _).mono ?_
      rintro e w16 ⟨rfl, q_HB16⟩
      have HB16 := Lib.hid q_HB16
      clear q_HB16
      have HT16 := Lib.hid (HT15.out.then (Tr.of_below HT15.out.wf HB16.out))
      have HW16b := Lib.hid (HW15b.out.tr (Tr.of_below (M := fun _ => False) HT15.out.wf HB16.out) (fun h => h))
      go_wp2_with fail
      refine (RLeft_eq _ _ g8 ⟨ys, true⟩ 0 rfl HT16.out.wf HW16b.out).mono ?_
      rintro e w17 ⟨rfl, q_HA17, q_HW17⟩
      have HA17 := Lib.hid q_HA17
      have HW17 := Lib.hid q_HW17
      clear q_HA17 q_HW17
      have HT17 := Lib.hid (HT16.out.low HA17.out (by omega))
      go_wp2_with fail
      refine (REnd_eq _ _ g8 ⟨ys, true⟩ 2 rfl HT17.out.wf HW17.out).mono ?_
      rintro e w18 ⟨rfl, q_HA18, q_HW18⟩
      have HA18 := Lib.hid q_HA18
      have HW18 := Lib.hid q_HW18
      clear q_HA18 q_HW18
      have HT18 := Lib.hid (HT17.out.low HA18.out (by omega))
      go_wp2_with fail
      go_ret
      exact ⟨rfl, HT18.out.below fun r _ h => h⟩
end Go.Proofs.Ytladpckbajnbeaa
