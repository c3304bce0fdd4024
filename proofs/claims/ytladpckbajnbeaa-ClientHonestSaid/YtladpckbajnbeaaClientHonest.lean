/- The law ClientHonest: its walk. -/
import Derived.Test.YtladpckbajnbeaaClientCounts
set_option linter.unusedVariables false
set_option linter.unusedSimpArgs false
namespace Go.Proofs.Ytladpckbajnbeaa
open Go.RowKit

def lowB (k : Nat) (s : List Bool) : Prop := s.length = 7 ∧ ∀ i, k ≤ i → s[i]? ≠ some true
theorem lowB_all (k : Nat) : lowB k allF := by
  refine ⟨rfl, fun i _ h => ?_⟩
  match i with
  | 0 | 1 | 2 | 3 | 4 | 5 | 6 => simp [allF] at h
  | i + 7 => simp [allF] at h
theorem lowB_set {k i : Nat} {s : List Bool} (h : lowB k s) (hi : i < k) : lowB k (s.set i true) := by
  refine ⟨by rw [List.length_set]; exact h.1, fun j hj => ?_⟩
  rw [List.getElem?_set_ne (by omega)]
  exact h.2 j hj
theorem lowB_count {k i : Nat} {s : List Bool} (h : lowB k s) (hk : k < 3) (hi : i < k) (hs : s[i]? = some false) : s.count true ≠ k := by
  obtain ⟨hl, hb⟩ := h
  match s, hl with
  | [a0, a1, a2, a3, a4, a5, a6], _ =>
    have b2 := hb 2
    have b3 := hb 3 (by omega)
    have b4 := hb 4 (by omega)
    have b5 := hb 5 (by omega)
    have b6 := hb 6 (by omega)
    have b1 := hb 1
    simp at b1 b2 b3 b4 b5 b6
    subst b3 b4 b5 b6
    have hkk : k = 1 ∨ k = 2 := by omega
    rcases hkk with rfl | rfl
    · have e1 := b1 (by omega)
      have e2 := b2 (by omega)
      have hi0 : i = 0 := by omega
      subst hi0
      simp at hs
      subst hs e1 e2
      decide
    · have e2 := b2 (by omega)
      subst e2
      have hi0 : i = 0 ∨ i = 1 := by omega
      rcases hi0 with rfl | rfl
      · simp at hs
        subst hs
        cases a1 <;> decide
      · simp at hs
        subst hs
        cases a0 <;> decide
theorem lie_round {k i : Nat} {S : Sd} {T : List Rep} {r lie : Rep} (hk : k < 3) (hi : i < k) (hne : mayP lie = true → wordB r ≠ wordB lie) (h : mayP lie = true → lowB k (S (wordB lie))) :
    ∃ S', hearL (k : Int) i ⟨S, T, []⟩ [lie] = ⟨S', T, []⟩ ∧ S' (wordB r) = S (wordB r) ∧ (mayP lie = true → lowB k (S' (wordB lie))) := by
  cases hm : mayP lie with
  | false => exact ⟨S, hear_no hm, rfl, fun h => by cases h⟩
  | true =>
    have hb := h hm
    obtain ⟨v, hv⟩ : ∃ v, (S (wordB lie))[i]? = some v := ⟨_, List.getElem?_eq_getElem (by rw [hb.1]; omega)⟩
    cases v with
    | true => exact ⟨S, hear_set hm hv, rfl, fun _ => hb⟩
    | false =>
      refine ⟨S.put (wordB lie) i, ?_, Sd.put_other S i (hne hm), fun _ => by rw [Sd.put_self]; exact lowB_set hb hi⟩
      rw [hear_new hm hv, if_neg (lowB_count hb hk hi hv)]
set_option maxRecDepth 100000 in
set_option maxHeartbeats 8000000 in
theorem ClientHonest_any (w : World) (f : Int) (r lie : Rep) (A : Option Addr) (n cp : Nat) (C : Option Addr) (h ch : Nat) (B : Option Addr) (m cq : Nat) (l : List Int) (hx : Rd kFld w (fun _ => none) A n cp r.t) (hu : Rd kFld w (fun _ => none) C h ch lie.t) (hy : Rd kInt w (fun _ => none) B m cq l) :
    Calls Try.prog 8 #[.int .i64 f, pV r A n cp, pV lie C h ch, .slice B m cq] w (BoolPost w true) := by
  obtain ⟨k, hk, hk3⟩ := rem_small f 3 (by omega) (by omega)
  simp at hk
  have hln := hx.1
  have hlm := hy.1
  have hmm := hy.max
  have hok : r.ok := hx.oks
  have hok2 : lie.ok := hu.oks
  generalize hkr : wordB r = kr
  generalize hkl : wordB lie = kl
  obtain ⟨cl, sq, kd, t, lt⟩ := r
  obtain ⟨cl2, sq2, kd2, t2, lt2⟩ := lie
  dsimp only [pV] at *
  have HKR := Lib.hid hkr
  have HKL := Lib.hid hkl
  have HX := Lib.hid hx
  have HU := Lib.hid hu
  have HY := Lib.hid hy
  have HLN := Lib.hid hln
  have HLM := Lib.hid hlm
  have HOK := Lib.hid hok
  have HOK2 := Lib.hid hok2
  clear hx hu hy hln hlm hok hok2
  clear hkr hkl
  have ht0 := (Tr.new (c := fun _ => none) (Wf.none w) (.cells #[.int .i64 cl, .int .i64 sq, .int .i64 kd, .slice A n cp, .bool lt] 52)).hot (k := w.heap.size) (g := w.heap.size) (Nat.le_refl _) (by simp) (by simp) (.inr (Nat.le_refl _))
  have HL0 := Lib.hid (Loc.new (fun _ => none) w 52 #[.int .i64 cl, .int .i64 sq, .int .i64 kd, .slice A n cp, .bool lt])
  generalize hc0 : Col.set (fun _ => none) w.heap.size w.heap.size = c0 at ht0 HL0
  have HM0 := Lib.hid (Loc.new c0 (w.alloc (.cells #[.int .i64 cl, .int .i64 sq, .int .i64 kd, .slice A n cp, .bool lt] 52)) 52 #[.int .i64 cl2, .int .i64 sq2, .int .i64 kd2, .slice C h ch, .bool lt2])
  have ht1 := (Tr.new ht0.wf (.cells #[.int .i64 cl2, .int .i64 sq2, .int .i64 kd2, .slice C h ch, .bool lt2] 52)).hot (k := (w.alloc (.cells #[.int .i64 cl, .int .i64 sq, .int .i64 kd, .slice A n cp, .bool lt] 52)).heap.size) (g := (w.alloc (.cells #[.int .i64 cl, .int .i64 sq, .int .i64 kd, .slice A n cp, .bool lt] 52)).heap.size) (Nat.le_refl _) (by simp) (by simp) (.inr (Nat.le_refl _))
  have HL1 := Lib.hid (HL0.out.tr ht1 (fun h => h))
  have HT1 := Lib.hid (ht0.then ht1)
  have hs1 : (w.alloc (.cells #[.int .i64 cl, .int .i64 sq, .int .i64 kd, .slice A n cp, .bool lt] 52)).heap.size = w.heap.size + 1 := by simp
  rw [hs1] at HM0 HL1 HT1 ht1
  generalize hc1 : c0.set (w.heap.size + 1) (w.heap.size + 1) = c1 at ht1 HM0 HL1 HT1
  clear ht0 ht1 hc0 hc1 HL0 hs1
  have HX1 := Lib.hid (HX.out.tr HT1.out)
  have HU1 := Lib.hid (HU.out.tr HT1.out)
  have HY1 := Lib.hid (HY.out.tr HT1.out)
  go_enter Try.func8, Try.ntmps8
  go_wp2_with fail
  refine (CNew_ok _ c1 (k : Int) (by omega) (by omega) HT1.out.wf).mono ?_
  rintro e w1 ⟨g, c2, rfl, q_HT2, hg, q_HD2⟩
  have HT2 := Lib.hid q_HT2
  have HD2 := Lib.hid q_HD2
  clear q_HT2 q_HD2
  have HL2 := Lib.hid (HL1.out.tr HT2.out (fun h => h))
  have HM2 := Lib.hid (HM0.out.tr HT2.out (fun h => h))
  have HX2 := Lib.hid (HX1.out.tr HT2.out)
  have HU2 := Lib.hid (HU1.out.tr HT2.out)
  have HY2 := Lib.hid (HY1.out.tr HT2.out)
  have HT3 := Lib.hid (HT1.out.then HT2.out)
  have hgw : w.heap.size + 1 < g := by simp at hg; omega
  have x0 := HL2.out.cell 0
  have x1 := HL2.out.cell 1
  have x2 := HL2.out.cell 2
  have x3 := HL2.out.cell 3
  have x4 := HL2.out.cell 4
  simp at x0 x1 x2 x3 x4
  cases hmp : mayP (⟨cl, sq, kd, t, lt⟩ : Rep) with
  | false =>
    have HM := Lib.hid hmp
    clear hmp
    go_wp2_with fail
    refine (bool_eq HM.out (r18May_any w1 c2 (⟨cl, sq, kd, t, lt⟩ : Rep) A n cp HX2.out)).mono ?_
    rintro e w2 ⟨rfl, q_HB2⟩
    have HB2 := Lib.hid q_HB2
    clear q_HB2
    go_wp2_with fail
    refine (told19 _).mono ?_
    rintro e w3 ⟨rfl, q_HB3⟩
    have HB3 := Lib.hid q_HB3
    clear q_HB3
    go_wp2_with fail
    refine bodyPost_ret (results_tmp rfl _ _ _) rfl ?_
    exact ⟨rfl, ((HT3.out.then (Tr.of_below HT3.out.wf HB2.out)).then (Tr.of_below (HT3.out.wf.below HB2.out) HB3.out)).below (fun _ _ h => h)⟩
  | true =>
    have HM := Lib.hid hmp
    clear hmp
    go_wp2_with fail
    refine (bool_eq HM.out (r18May_any w1 c2 (⟨cl, sq, kd, t, lt⟩ : Rep) A n cp HX2.out)).mono ?_
    rintro e w2 ⟨rfl, q_HB2⟩
    have HB2 := Lib.hid q_HB2
    clear q_HB2
    have htb := Tr.of_below (M := fun _ => False) HT3.out.wf HB2.out
    have HL3 := Lib.hid (HL2.out.tr htb (fun h => h))
    have HM3 := Lib.hid (HM2.out.tr htb (fun h => h))
    have HX3 := Lib.hid (HX2.out.tr htb)
    have HU3 := Lib.hid (HU2.out.tr htb)
    have HY3 := Lib.hid (HY2.out.tr htb)
    have HT4 := Lib.hid (HT3.out.then htb)
    have HD3 := Lib.hid (HD2.out.tr htb (fun h => h))
    clear htb
    have y0 := HL3.out.cell 0
    have y1 := HL3.out.cell 1
    have y2 := HL3.out.cell 2
    have y3 := HL3.out.cell 3
    have y4 := HL3.out.cell 4
    have z0 := HM3.out.cell 0
    have z1 := HM3.out.cell 1
    have z2 := HM3.out.cell 2
    have z3 := HM3.out.cell 3
    have z4 := HM3.out.cell 4
    simp at y0 y1 y2 y3 y4 z0 z1 z2 z3 z4
    cases hsm : sameP (⟨cl, sq, kd, t, lt⟩ : Rep) (⟨cl2, sq2, kd2, t2, lt2⟩ : Rep) with
    | true =>
      have HSM := Lib.hid hsm
      clear hsm
      go_wp2_with fail
      refine (bool_eq HSM.out (r6SameP_any w2 c2 (⟨cl, sq, kd, t, lt⟩ : Rep) (⟨cl2, sq2, kd2, t2, lt2⟩ : Rep) A n cp C h ch HX3.out HU3.out)).mono ?_
      rintro e w3 ⟨rfl, q_HB3⟩
      have HB3 := Lib.hid q_HB3
      clear q_HB3
      go_wp2_with fail
      refine (told19 _).mono ?_
      rintro e w4 ⟨rfl, q_HB4⟩
      have HB4 := Lib.hid q_HB4
      clear q_HB4
      go_wp2_with fail
      refine bodyPost_ret (results_tmp rfl _ _ _) rfl ?_
      exact ⟨rfl, ((HT4.out.then (Tr.of_below HT4.out.wf HB3.out)).then (Tr.of_below (HT4.out.wf.below HB3.out) HB4.out)).below (fun _ _ h => h)⟩
    | false =>
      have HSM := Lib.hid hsm
      clear hsm
      go_wp2_with fail
      refine (bool_eq HSM.out (r6SameP_any w2 c2 (⟨cl, sq, kd, t, lt⟩ : Rep) (⟨cl2, sq2, kd2, t2, lt2⟩ : Rep) A n cp C h ch HX3.out HU3.out)).mono ?_
      rintro e w3 ⟨rfl, q_HB3⟩
      have HB3 := Lib.hid q_HB3
      clear q_HB3
      have htb := Tr.of_below (M := fun _ => False) HT4.out.wf HB3.out
      have HL4 := Lib.hid (HL3.out.tr htb (fun h => h))
      have HM4 := Lib.hid (HM3.out.tr htb (fun h => h))
      have HX4 := Lib.hid (HX3.out.tr htb)
      have HU4 := Lib.hid (HU3.out.tr htb)
      have HY4 := Lib.hid (HY3.out.tr htb)
      have HT5 := Lib.hid (HT4.out.then htb)
      have HD4 := Lib.hid (HD3.out.tr htb (fun h => h))
      clear htb
      have y0 := HL4.out.cell 0
      have y1 := HL4.out.cell 1
      have y2 := HL4.out.cell 2
      have y3 := HL4.out.cell 3
      have y4 := HL4.out.cell 4
      have z0 := HM4.out.cell 0
      have z1 := HM4.out.cell 1
      have z2 := HM4.out.cell 2
      have z3 := HM4.out.cell 3
      have z4 := HM4.out.cell 4
      simp at y0 y1 y2 y3 y4 z0 z1 z2 z3 z4
      have HLR := Lib.hid (Rd.of_alloc (K := kRep) (l := [(⟨cl2, sq2, kd2, t2, lt2⟩ : Rep), (⟨cl, sq, kd, t, lt⟩ : Rep)]) (cells := [.int .i64 cl2, .int .i64 sq2, .int .i64 kd2, .slice C h ch, .bool lt2, .int .i64 cl, .int .i64 sq, .int .i64 kd, .slice A n cp, .bool lt]) HT5.out.wf 52 ((Reps.one (K := kRep) (x := (⟨cl2, sq2, kd2, t2, lt2⟩ : Rep)) (cs := [.int .i64 cl2, .int .i64 sq2, .int .i64 kd2, .slice C h ch, .bool lt2]) ⟨C, h, ch, rfl, HU4.out⟩).append (Reps.one (K := kRep) (x := (⟨cl, sq, kd, t, lt⟩ : Rep)) (cs := [.int .i64 cl, .int .i64 sq, .int .i64 kd, .slice A n cp, .bool lt]) ⟨A, n, cp, rfl, HX4.out⟩)) (by simp))
      have htn := Tr.new HT5.out.wf (.cells #[.int .i64 cl2, .int .i64 sq2, .int .i64 kd2, .slice C h ch, .bool lt2, .int .i64 cl, .int .i64 sq, .int .i64 kd, .slice A n cp, .bool lt] 52)
      have HTN := Lib.hid htn
      have HT6 := Lib.hid (HT5.out.then htn)
      have HL5 := Lib.hid (HL4.out.tr htn (fun h => h))
      have HM5 := Lib.hid (HM4.out.tr htn (fun h => h))
      have HX5 := Lib.hid (HX4.out.tr htn)
      have HU5 := Lib.hid (HU4.out.tr htn)
      have HY5 := Lib.hid (HY4.out.tr htn)
      have HD5 := Lib.hid (HD4.out.tr htn (fun h => h))
      clear htn
      cases hfw : fewS [(⟨cl2, sq2, kd2, t2, lt2⟩ : Rep), (⟨cl, sq, kd, t, lt⟩ : Rep)] with
      | false =>
        have HFW := Lib.hid hfw
        clear hfw
        go_wp2_with fail
        refine (bool_eq HFW.out (l19few_any _ c2 0 (some ⟨w3.heap.size, 0, none⟩) 2 2 [(⟨cl2, sq2, kd2, t2, lt2⟩ : Rep), (⟨cl, sq, kd, t, lt⟩ : Rep)] HLR.out)).mono ?_
        rintro e w4 ⟨rfl, q_HB4⟩
        have HB4 := Lib.hid q_HB4
        clear q_HB4
        go_wp2_with fail
        refine (told19 _).mono ?_
        rintro e w5 ⟨rfl, q_HB5⟩
        have HB5 := Lib.hid q_HB5
        clear q_HB5
        go_wp2_with fail
        refine bodyPost_ret (results_tmp rfl _ _ _) rfl ?_
        exact ⟨rfl, ((HT6.out.then (Tr.of_below HT6.out.wf HB4.out)).then (Tr.of_below (HT6.out.wf.below HB4.out) HB5.out)).below (fun _ _ h => h)⟩
      | true =>
        have HFW := Lib.hid hfw
        clear hfw
        go_wp2_with fail
        refine (bool_eq HFW.out (l19few_any _ c2 0 (some ⟨w3.heap.size, 0, none⟩) 2 2 [(⟨cl2, sq2, kd2, t2, lt2⟩ : Rep), (⟨cl, sq, kd, t, lt⟩ : Rep)] HLR.out)).mono ?_
        rintro e w4 ⟨rfl, q_HB4⟩
        have HB4 := Lib.hid q_HB4
        clear q_HB4
        have htb := Tr.of_below (M := fun _ => False) HT6.out.wf HB4.out
        have ht7 := (Tr.new htb.wf (.cells #[.bool false, .bool false, .bool false, .bool false, .bool false, .bool false, .bool false] 72)).hot (k := w4.heap.size) (g := w4.heap.size) (Nat.le_refl _) (by simp) (by simp) (.inr (Nat.le_refl _))
        have HS7 : Hid (Loc (w4.alloc (.cells #[.bool false, .bool false, .bool false, .bool false, .bool false, .bool false, .bool false] 72)) (c2.set w4.heap.size w4.heap.size) w4.heap.size 72 (bCells allF)) := Loc.new c2 w4 72 #[.bool false, .bool false, .bool false, .bool false, .bool false, .bool false, .bool false]
        have HL7 := Lib.hid ((HL5.out.tr htb (fun h => h)).tr ht7 (fun h => h))
        have HM7 := Lib.hid ((HM5.out.tr htb (fun h => h)).tr ht7 (fun h => h))
        have HX7 := Lib.hid ((HX5.out.tr htb).tr ht7)
        have HU7 := Lib.hid ((HU5.out.tr htb).tr ht7)
        have HY7 := Lib.hid ((HY5.out.tr htb).tr ht7)
        have HD7 := Lib.hid ((HD5.out.tr htb (fun h => h)).tr ht7 (fun h => h))
        have HT7 := Lib.hid ((HT6.out.then htb).then ht7)
        have hgs : g < w4.heap.size := Nat.lt_of_lt_of_le HD5.out.lt HB4.out.size
        have HNE : Hid (mayP (⟨cl2, sq2, kd2, t2, lt2⟩ : Rep) = true → wordB (⟨cl, sq, kd, t, lt⟩ : Rep) ≠ wordB (⟨cl2, sq2, kd2, t2, lt2⟩ : Rep)) := by
          intro hm e
          have hc := word_inj HM.out HOK.out hm HOK2.out e
          have hs := HSM.out
          rw [sameP_iff.2 hc] at hs
          cases hs
        clear htb ht7 HT2 HT3 HT4 HT5 HT6 HTN HL1 HL2 HL3 HL4 HL5 HM0 HM2 HM3 HM4 HM5 HX1 HX2 HX3 HX4 HX5 HU1 HU2 HU3 HU4 HU5 HY1 HY2 HY3 HY4 HY5 HD2 HD3 HD4 HD5 HLR HSM HFW x0 x1 x2 x3 x4 y0 y1 y2 y3 y4 z0 z1 z2 z3 z4
        go_wp2_with fail
        generalize (w4.alloc (.cells #[.bool false, .bool false, .bool false, .bool false, .bool false, .bool false, .bool false] 72)) = w5 at *
        generalize c2.set w4.heap.size w4.heap.size = c5 at *
        generalize w4.heap.size = bs at *
        have hb1 : w.heap.size + 1 ≠ g := by omega
        have hb0 : w.heap.size ≠ g := by omega
        have hgs2 : g ≠ bs := by omega
        have hwk : IntKind.u64.wrap (3 * (k : Int) + 1) = 3 * (k : Int) + 1 := u64_id (by omega) (by omega)
        have hge : w.heap.size ≤ g := by omega
        generalize hbz : w.heap.size = b0 at *
        go_loopw [13, 14] (fun o v wr => ∃ (j nn : Nat) (c' : Col) (S : Sd) (T : List Rep) (s : List Bool), v = .int .i64 (j : Int) ∧ o = .int .i64 (nn : Int) ∧ j ≤ m ∧ j ≤ 30 ∧ nn ≤ 7 ∧ Hid (S kr = s) ∧ Hid (s.length = 7) ∧ Hid (s.count true = nn) ∧ Hid (T = if k < nn then [(⟨cl, sq, kd, t, lt⟩ : Rep)] else []) ∧ Hid (mayP (⟨cl2, sq2, kd2, t2, lt2⟩ : Rep) = true → lowB k (S kl)) ∧
          Hid (Tr (fun _ => False) (fun _ => none) c' w wr) ∧ Hid (Dsk wr c' g (k : Int) S T (j + j)) ∧ Hid (Loc wr c' b0 52 #[.int .i64 cl, .int .i64 sq, .int .i64 kd, .slice A n cp, .bool lt]) ∧ Hid (Loc wr c' (b0 + 1) 52 #[.int .i64 cl2, .int .i64 sq2, .int .i64 kd2, .slice C h ch, .bool lt2]) ∧ Hid (Loc wr c' bs 72 (bCells s)) ∧ Hid (Rd kFld wr c' A n cp t) ∧ Hid (Rd kFld wr c' C h ch t2) ∧ Hid (Rd kInt wr c' B m cq l)) (fun _ v _ => 30 - (intOf v).toNat)
        case atStart => exact ⟨0, 0, c5, fun _ => allF, [], allF, rfl, rfl, by omega, by omega, by omega, rfl, rfl, rfl, by show _ = _; rw [if_neg (by omega)], fun _ => lowB_all k, HT7.out, HD7.out, HL7.out, HM7.out, HS7.out, HX7.out, HU7.out, HY7.out⟩
        case round =>
          obtain ⟨j, nn, c', S, T, s, rfl, rfl, hj, hj30, hn7, HSK, HSL, HSC, HTE, HLOW, HT, HD, HLb, HMb, HS, HXr, HUr, HYr⟩ := hrel
          have x0 := HLb.out.cell 0
          have x1 := HLb.out.cell 1
          have x2 := HLb.out.cell 2
          have x3 := HLb.out.cell 3
          have x4 := HLb.out.cell 4
          have z0 := HMb.out.cell 0
          have z1 := HMb.out.cell 1
          have z2 := HMb.out.cell 2
          have z3 := HMb.out.cell 3
          have z4 := HMb.out.cell 4
          simp at x0 x1 x2 x3 x4 z0 z1 z2 z3 z4
          by_cases hlt : j < m ∧ j < 30
          · obtain ⟨hlt, hl30⟩ := hlt
            have hj1 : (j : Int) < (m : Int) := by omega
            have hj2 : (j : Int) < 30 := by omega
            have hj0 : (0 : Int) ≤ (j : Int) := by omega
            obtain ⟨bb, off, rfl⟩ := HYr.out.addr (by omega)
            obtain ⟨z, hz⟩ : ∃ z, l[j]? = some z := ⟨_, List.getElem?_eq_getElem (by rw [HLM.out]; exact hlt)⟩
            have hcz := HYr.out.int hz
            obtain ⟨i, hiz, hik⟩ := rem_small z (3 * k + 1) (by omega) (by omega)
            have hi3 : (i : Int) ≤ 3 * (k : Int) := by omega
            have hi7 : i < 7 := by omega
            have hi0 : (0 : Int) ≤ (i : Int) := by omega
            have hi77 : (i : Int) < 7 := by omega
            simp at hiz
            clear hz
            by_cases hil : i < k
            · have hil1 : (i : Int) < (k : Int) := by omega
              have HR := Lib.hid (rep1 HT.out.wf (⟨cl2, sq2, kd2, t2, lt2⟩ : Rep) HUr.out)
              have htn := Tr.new HT.out.wf (.cells #[.int .i64 cl2, .int .i64 sq2, .int .i64 kd2, .slice C h ch, .bool lt2] 52)
              have HTN := Lib.hid htn
              have HTA := Lib.hid (HT.out.then htn)
              have HDA := Lib.hid (HD.out.tr htn (fun h => h))
              clear htn
              obtain ⟨S', hq, hq2, hq3⟩ := lie_round (S := S) (T := T) (r := (⟨cl, sq, kd, t, lt⟩ : Rep)) (lie := (⟨cl2, sq2, kd2, t2, lt2⟩ : Rep)) hk3 hil HNE.out (by rw [HKL.out]; exact HLOW.out)
              rw [HKR.out] at hq2
              rw [HKL.out] at hq3
              have HQ2 := Lib.hid hq2
              have HQ3 := Lib.hid hq3
              clear hq2 hq3
              go_wp2_with fail
              refine (CHear_eq _ c' g k S T (j + j) i i (some ⟨wr.heap.size, 0, none⟩) 1 1 [(⟨cl2, sq2, kd2, t2, lt2⟩ : Rep)] _ _ _ hq rfl (by omega) (by omega) (by omega) (by omega) HTA.out.wf HDA.out HR.out).mono ?_
              rintro e w5 ⟨B5, cp5, rfl, c5, q_HR5, q_HT5, q_HD5⟩
              have HR5 := Lib.hid q_HR5
              have HT5 := Lib.hid q_HT5
              have HD5 := Lib.hid q_HD5
              clear q_HR5 q_HT5 q_HD5
              have hgl : w.heap.size ≤ g := by omega
              go_wp2_with fail
              exact ⟨⟨j + 1, nn, c5, S', T, s, by simp, rfl, by omega, by omega, hn7, HQ2.out.trans HSK.out, HSL.out, HSC.out, HTE.out, HQ3.out, HTA.out.low HT5.out hgl, HD5.out.mono (by omega), (HLb.out.tr HTN.out (fun h => h)).tr HT5.out hb0, (HMb.out.tr HTN.out (fun h => h)).tr HT5.out hb1, (HS.out.tr HTN.out (fun h => h)).tr HT5.out (fun h => hgs2 h.symm), (HXr.out.tr HTN.out).tr HT5.out, (HUr.out.tr HTN.out).tr HT5.out, (HYr.out.tr HTN.out).tr HT5.out⟩, by simp [intOf]; omega⟩
            · have hil1 : ¬ ((i : Int) < (k : Int)) := by omega
              have HR := Lib.hid (Rd.of_alloc (K := kRep) (l := [(⟨cl, sq, kd, t, lt⟩ : Rep), (⟨cl, sq, kd, t, lt⟩ : Rep)]) (cells := [.int .i64 cl, .int .i64 sq, .int .i64 kd, .slice A n cp, .bool lt, .int .i64 cl, .int .i64 sq, .int .i64 kd, .slice A n cp, .bool lt]) HT.out.wf 52 ((Reps.one (K := kRep) (x := (⟨cl, sq, kd, t, lt⟩ : Rep)) (cs := [.int .i64 cl, .int .i64 sq, .int .i64 kd, .slice A n cp, .bool lt]) ⟨A, n, cp, rfl, HXr.out⟩).append (Reps.one (K := kRep) (x := (⟨cl, sq, kd, t, lt⟩ : Rep)) (cs := [.int .i64 cl, .int .i64 sq, .int .i64 kd, .slice A n cp, .bool lt]) ⟨A, n, cp, rfl, HXr.out⟩)) (by simp))
              have htn := Tr.new HT.out.wf (.cells #[.int .i64 cl, .int .i64 sq, .int .i64 kd, .slice A n cp, .bool lt, .int .i64 cl, .int .i64 sq, .int .i64 kd, .slice A n cp, .bool lt] 52)
              have HTN := Lib.hid htn
              have HTA := Lib.hid (HT.out.then htn)
              have HDA := Lib.hid (HD.out.tr htn (fun h => h))
              have HLA := Lib.hid (HLb.out.tr htn (fun h => h))
              have HMA := Lib.hid (HMb.out.tr htn (fun h => h))
              have HSA := Lib.hid (HS.out.tr htn (fun h => h))
              have HXA := Lib.hid (HXr.out.tr htn)
              have HUA := Lib.hid (HUr.out.tr htn)
              have HYA := Lib.hid (HYr.out.tr htn)
              clear htn
              have hsl : i < (S (wordB (⟨cl, sq, kd, t, lt⟩ : Rep))).length := by rw [HKR.out, HSK.out, HSL.out]; exact hi7
              have htwo := hear_two (k := k) (T := T) HM.out hsl
              have hgl : w.heap.size ≤ g := by omega
              obtain ⟨v, hv⟩ : ∃ v, s[i]? = some v := ⟨_, List.getElem?_eq_getElem (by rw [HSL.out]; exact hi7)⟩
              cases v with
              | true =>
                have hq := hear_set (f := (k : Int)) (T := T) HM.out (show (S (wordB (⟨cl, sq, kd, t, lt⟩ : Rep)))[i]? = some true by rw [HKR.out, HSK.out]; exact hv)
                have HV := Lib.hid hv
                have HQ2 := Lib.hid (htwo.trans hq)
                clear hv hsl htwo hq
                go_wp2_with fail
                refine (CHear_eq _ c' g k S T (j + j) i i (some ⟨wr.heap.size, 0, none⟩) 2 2 [(⟨cl, sq, kd, t, lt⟩ : Rep), (⟨cl, sq, kd, t, lt⟩ : Rep)] _ _ _ HQ2.out rfl (by omega) (by omega) (by omega) (by omega) HTA.out.wf HDA.out HR.out).mono ?_
                rintro e w5 ⟨B5, cp5, rfl, c5, q_HR5, q_HT5, q_HD5⟩
                have HR5 := Lib.hid q_HR5
                have HT5 := Lib.hid q_HT5
                have HD5 := Lib.hid q_HD5
                clear q_HR5 q_HT5 q_HD5
                have HS5 := Lib.hid (HSA.out.tr HT5.out (fun h => hgs2 h.symm))
                have s5 := HS5.out.cell i
                rw [bCells_at HV.out] at s5
                go_wp2_with fail
                exact ⟨⟨j + 1, nn, c5, S, T, s, by simp, rfl, by omega, by omega, hn7, HSK.out, HSL.out, HSC.out, HTE.out, HLOW.out, HTA.out.low HT5.out hgl, HD5.out.mono (by omega), HLA.out.tr HT5.out hb0, HMA.out.tr HT5.out hb1, HS5.out, HXA.out.tr HT5.out, HUA.out.tr HT5.out, HYA.out.tr HT5.out⟩, by simp [intOf]; omega⟩
              | false =>
                have hq := hear_new (k := k) (T := T) HM.out (show (S (wordB (⟨cl, sq, kd, t, lt⟩ : Rep)))[i]? = some false by rw [HKR.out, HSK.out]; exact hv)
                rw [HKR.out, HSK.out, HSC.out] at hq
                have HV := Lib.hid hv
                have hc1 : (s.set i true).count true = nn + 1 := by rw [count_set hv, HSC.out]
                have hc7 : nn + 1 ≤ 7 := by rw [← hc1]; exact count_le7 (by rw [List.length_set]; exact HSL.out)
                have HC1 := Lib.hid hc1
                have HSK' : Hid ((S.put kr i) kr = s.set i true) := by show _ = _; rw [Sd.put_self, HSK.out]
                have HSL' : Hid ((s.set i true).length = 7) := by show _ = _; rw [List.length_set]; exact HSL.out
                have HLOW' : Hid (mayP (⟨cl2, sq2, kd2, t2, lt2⟩ : Rep) = true → lowB k ((S.put kr i) kl)) := by
                  intro hm
                  have hne := HNE.out hm
                  rw [HKR.out, HKL.out] at hne
                  rw [Sd.put_other S i (fun e => hne e.symm)]
                  exact HLOW.out hm
                clear hv hc1
                by_cases hnk : nn = k
                · rw [if_pos hnk] at hq
                  have hT0 : T = [] := by rw [HTE.out, if_neg (by omega)]
                  subst hT0
                  have HQ2 := Lib.hid (htwo.trans hq)
                  clear hsl htwo hq
                  have hnk1 : ((nn : Int) + 1 == (k : Int) + 1) = true := by simp; omega
                  go_wp2_with fail
                  refine (CHear_eq _ c' g k S [] (j + j) i i (some ⟨wr.heap.size, 0, none⟩) 2 2 [(⟨cl, sq, kd, t, lt⟩ : Rep), (⟨cl, sq, kd, t, lt⟩ : Rep)] _ _ _ HQ2.out rfl (by omega) (by omega) (by omega) (by omega) HTA.out.wf HDA.out HR.out).mono ?_
                  rintro e w5 ⟨B5, cp5, rfl, c5, q_HR5, q_HT5, q_HD5⟩
                  have HR5 := Lib.hid q_HR5
                  have HT5 := Lib.hid q_HT5
                  have HD5 := Lib.hid q_HD5
                  clear q_HR5 q_HT5 q_HD5
                  have HS5 := Lib.hid (HSA.out.tr HT5.out (fun h => hgs2 h.symm))
                  have s5 := HS5.out.cell i
                  rw [bCells_at HV.out] at s5
                  have sf5 := HS5.out.frozen i
                  have HS6 : Hid (Loc (w5.setCell ⟨bs, i, none⟩ (.bool true)) c5 bs 72 (bCells (s.set i true))) := by
                    have h := HS5.out.set_ i (.bool true)
                    rw [bCells_set] at h
                    exact h
                  have HTs := Lib.hid ((Tr.refl (· = bs) HT5.out.wf).setCell (p := ⟨bs, i, none⟩) HS5.out.1 (.inl rfl) (.bool true))
                  have HL5 := Lib.hid ((HLA.out.tr HT5.out hb0).tr HTs.out (by omega))
                  have HM5 := Lib.hid ((HMA.out.tr HT5.out hb1).tr HTs.out (by omega))
                  have HX5 := Lib.hid ((HXA.out.tr HT5.out).tr HTs.out)
                  have HU5 := Lib.hid ((HUA.out.tr HT5.out).tr HTs.out)
                  have HY5 := Lib.hid ((HYA.out.tr HT5.out).tr HTs.out)
                  have HT6 := Lib.hid ((HTA.out.low HT5.out hgl).setCell (p := ⟨bs, i, none⟩) HS5.out.1 (.inr (by omega)) (.bool true))
                  have HD6 := Lib.hid ((HD5.out.tr HTs.out (fun h => hgs2 h)).mono (N' := j + 1 + (j + 1)) (by omega))
                  have HR6 := Lib.hid (HR5.out.tr HTs.out)
                  go_wp2_with fail
                  generalize w5.setCell ⟨bs, i, none⟩ (.bool true) = W6 at *
                  obtain ⟨bq, oq, rfl⟩ := HR6.out.addr (by simp)
                  obtain ⟨A9, n9, cp9, hR9, e0, e1, e2, e3, e4⟩ := HR6.out.rep (k := 0) (x := (⟨cl, sq, kd, t, lt⟩ : Rep)) rfl
                  simp at e0 e1 e2 e3 e4
                  have C0 := Lib.hid (fun d os => bool_eq (show sameP (⟨cl, sq, kd, t, lt⟩ : Rep) (⟨cl, sq, kd, t, lt⟩ : Rep) = true from sameP_iff.2 rfl) (r6SameP_any (Sort.grow (redrawn W6 d) os) c5 (⟨cl, sq, kd, t, lt⟩ : Rep) (⟨cl, sq, kd, t, lt⟩ : Rep) A9 n9 cp9 A n cp (hR9.below (below_regrown W6 d os)) (HX5.out.below (below_regrown W6 d os))))
                  have z0 := HL5.out.cell 0
                  have z1 := HL5.out.cell 1
                  have z2 := HL5.out.cell 2
                  have z3 := HL5.out.cell 3
                  have z4 := HL5.out.cell 4
                  simp at z0 z1 z2 z3 z4
                  have i0 := cell_regrown e0
                  have i1 := cell_regrown e1
                  have i2 := cell_regrown e2
                  have i3 := cell_regrown e3
                  have i4 := cell_regrown e4
                  have j0 := cell_regrown z0
                  have j1 := cell_regrown z1
                  have j2 := cell_regrown z2
                  have j3 := cell_regrown z3
                  have j4 := cell_regrown z4
                  clear e0 e1 e2 e3 e4 z0 z1 z2 z3 z4 hR9
                  refine wp_region_quiet_below (by kernel_rfl) (by kernel_rfl) ?_
                  repeat ((with_reducible refine wpQuiet_step (fun K hK => ?_)); go_simp; first | (with_reducible refine hK _ ?_; clear hK K) | (rw [if_neg (by decide)]; with_reducible refine hK _ ?_; clear hK K) | (apply Exists.intro; refine ⟨fun _ => ?_, hK _ ?_⟩; (first | with_reducible exact regrown_bool (C0.out _ _)); clear hK K))
                  with_reducible refine wpQuiet_nil ?_
                  intro _ hw'
                  obtain ⟨⟨dq, osq⟩, hw''⟩ := hw'
                  subst hw''
                  go_wp2_with fail
                  have hb9 := below_regrown W6 dq osq
                  have hT9 := Tr.of_below (M := fun _ => False) HTs.out.wf hb9
                  refine ⟨⟨j + 1, nn + 1, c5, S.put kr i, [(⟨cl, sq, kd, t, lt⟩ : Rep)], s.set i true, by simp, by simp; omega, by omega, by omega, hc7, HSK'.out, HSL'.out, HC1.out, ?_, HLOW'.out, HT6.out.then hT9, HD6.out.tr hT9 (fun h => h), HL5.out.tr hT9 (fun h => h), HM5.out.tr hT9 (fun h => h), HS6.out.tr hT9 (fun h => h), HX5.out.tr hT9, HU5.out.tr hT9, HY5.out.tr hT9⟩, by simp [intOf]; omega⟩
                  show _ = _
                  rw [if_pos (by omega)]
                · rw [if_neg hnk] at hq
                  have HQ2 := Lib.hid (htwo.trans hq)
                  clear hsl htwo hq
                  have hnk1 : ((nn : Int) + 1 == (k : Int) + 1) = false := by simp; omega
                  go_wp2_with fail
                  refine (CHear_eq _ c' g k S T (j + j) i i (some ⟨wr.heap.size, 0, none⟩) 2 2 [(⟨cl, sq, kd, t, lt⟩ : Rep), (⟨cl, sq, kd, t, lt⟩ : Rep)] _ _ _ HQ2.out rfl (by omega) (by omega) (by omega) (by omega) HTA.out.wf HDA.out HR.out).mono ?_
                  rintro e w5 ⟨B5, cp5, rfl, c5, q_HR5, q_HT5, q_HD5⟩
                  have HR5 := Lib.hid q_HR5
                  have HT5 := Lib.hid q_HT5
                  have HD5 := Lib.hid q_HD5
                  clear q_HR5 q_HT5 q_HD5
                  have HS5 := Lib.hid (HSA.out.tr HT5.out (fun h => hgs2 h.symm))
                  have s5 := HS5.out.cell i
                  rw [bCells_at HV.out] at s5
                  have sf5 := HS5.out.frozen i
                  have HS6 : Hid (Loc (w5.setCell ⟨bs, i, none⟩ (.bool true)) c5 bs 72 (bCells (s.set i true))) := by
                    have h := HS5.out.set_ i (.bool true)
                    rw [bCells_set] at h
                    exact h
                  have HTs := Lib.hid ((Tr.refl (· = bs) HT5.out.wf).setCell (p := ⟨bs, i, none⟩) HS5.out.1 (.inl rfl) (.bool true))
                  have HL5 := Lib.hid ((HLA.out.tr HT5.out hb0).tr HTs.out (by omega))
                  have HM5 := Lib.hid ((HMA.out.tr HT5.out hb1).tr HTs.out (by omega))
                  have HX5 := Lib.hid ((HXA.out.tr HT5.out).tr HTs.out)
                  have HU5 := Lib.hid ((HUA.out.tr HT5.out).tr HTs.out)
                  have HY5 := Lib.hid ((HYA.out.tr HT5.out).tr HTs.out)
                  have HT6 := Lib.hid ((HTA.out.low HT5.out hgl).setCell (p := ⟨bs, i, none⟩) HS5.out.1 (.inr (by omega)) (.bool true))
                  have HD6 := Lib.hid ((HD5.out.tr HTs.out (fun h => hgs2 h)).mono (N' := j + 1 + (j + 1)) (by omega))
                  go_wp2_with fail
                  exact ⟨⟨j + 1, nn + 1, c5, S.put kr i, T, s.set i true, by simp, by simp, by omega, by omega, hc7, HSK'.out, HSL'.out, HC1.out, by show _ = _; rw [HTE.out]; by_cases h : k < nn; (rw [if_pos h, if_pos (by omega)]); (rw [if_neg h, if_neg (by omega)]), HLOW'.out, HT6.out, HD6.out, HL5.out, HM5.out, HS6.out, HX5.out, HU5.out, HY5.out⟩, by simp [intOf]; omega⟩
          · have HEND : Hid (¬ ((j : Int) < (m : Int)) ∨ ((j : Int) < (m : Int) ∧ ¬ ((j : Int) < 30))) := by
              show _ ∨ _
              omega
            have HMAY : Hid (∀ x ∈ T, mayP x = true) := by
              intro x hx
              rw [HTE.out] at hx
              split at hx
              · rw [List.mem_singleton.1 hx]; exact HM.out
              · cases hx
            have hTl : T.length = if k < nn then 1 else 0 := by rw [HTE.out]; split <;> rfl
            have hquo : (nn : Int).tdiv ((k : Int) + 1) = ((nn / (k + 1) : Nat) : Int) := by
              have : (k : Int) + 1 = ((k + 1 : Nat) : Int) := by omega
              rw [this]
              exact (Int.ofNat_tdiv nn (k + 1)).symm
            obtain ⟨d, hd⟩ : ∃ d, nn / (k + 1) = d := ⟨_, rfl⟩
            have hd1 : T.length = min d 1 := by
              rw [hTl, ← hd]
              split
              · rename_i h
                have : 1 ≤ nn / (k + 1) := (Nat.le_div_iff_mul_le (by omega)).2 (by omega)
                omega
              · rename_i h
                have : nn / (k + 1) = 0 := Nat.div_eq_of_lt (by omega)
                omega
            rw [hd] at hquo
            have HTK : Hid (∀ W, Below wr.heap.size wr W → Calls Try.prog 31 #[.pointer (some ⟨g, 0, none⟩)] W fun e w' => ∃ A cp, e = .returned (.slice A T.length cp) ∧ ∃ c2, Rd kRep w' c2 A T.length cp T ∧ Tr (fun _ => False) c' c2 W w') := by
              intro W hW
              exact CTaken_eq W c' g k S T (j + j) (by omega) HMAY.out (HT.out.wf.below hW) (HD.out.tr (Tr.of_below (M := fun _ => False) HT.out.wf hW) (fun h => h))
            have hk10 : (k : Int) + 1 ≠ 0 := by omega
            have hdn : d ≤ 7 := by rw [← hd]; exact Nat.le_trans (Nat.div_le_self _ _) hn7
            have hwk1 : IntKind.i64.wrap ((k : Int) + 1) = (k : Int) + 1 := i64_in _ (by omega)
            have hwd : IntKind.i64.wrap ((nn : Int).tdiv ((k : Int) + 1)) = (d : Int) := by rw [hquo]; exact i64_in _ (by omega)
            have hwd2 : IntKind.i64.wrap ((nn : Int) / ((k : Int) + 1)) = (d : Int) := by
              have e : (nn : Int) / ((k : Int) + 1) = (nn : Int).tdiv ((k : Int) + 1) := (Int.tdiv_eq_ediv_of_nonneg (by omega)).symm
              rw [e]
              exact hwd
            clear hTl hlt hquo
            obtain ⟨tl, htl⟩ : ∃ tl, T.length = tl := ⟨_, rfl⟩
            rw [htl] at HTK hd1
            have hdd : (d = 0 ∧ tl = 0) ∨ (d = 1 ∧ tl = 1) ∨ (1 < d ∧ tl = 1) := by omega
            clear hd hd1 htl
            rcases HEND.out with he | ⟨he, he2⟩ <;> rcases hdd with ⟨rfl, rfl⟩ | ⟨rfl, rfl⟩ | ⟨hd2, rfl⟩
            all_goals
              clear HEND
              try have hd3 : (1 : Int) < (d : Int) := by omega
              try have hd4 : ¬ ((d : Int) < 1) := by omega
              go_wp2_with fail
              go_region_held3 (fun _ => True) (trivial)
                (first
                | (go_at_call 30; refine (told19 _).mono ?_; rintro e w6 ⟨rfl, hb6⟩; have HBZ := Lib.hid (below_then (below_drew (Below.refl _ wr)) hb6))
                | (go_at_call 31; refine (HTK.out w6 HBZ.out).mono ?_; rintro e w7 ⟨A7, cp7, rfl, c7, hR7, hT7⟩; have HT7 := Lib.hid hT7))
              all_goals
                go_wp2_with fail
                refine bodyPost_ret (results_tmp rfl _ _ _) rfl ?_
                exact ⟨rfl, ((HT.out.then (Tr.of_below HT.out.wf HBZ.out)).then HT7.out).below (fun _ _ h => h)⟩
end Go.Proofs.Ytladpckbajnbeaa
