/- wal: the document's side: Put; pieces. -/
import Derived.Test.YtalihocoekplgaaWalN
set_option linter.unusedVariables false
set_option linter.unusedSimpArgs false
namespace Go.Proofs.Ytalihocoekplgaa
open Go.RowKit

theorem RDk.cell0 {w : World} {c : Col} {g n : Nat} {R : List RSec} (h : RDk w c g n R) : ∃ A cp, w.cell? ⟨g, 0, none⟩ = some (.slice A n cp) := by
  obtain ⟨_, A, cp, h1, _⟩ := h
  exact ⟨A, cp, blk_cell0 h1⟩
theorem RLPut_bad (w : World) (gq : Nat) (A : Option Addr) (n cp : Nat) (hn : n < 1 ∨ 20000 < n) (hm : n ≤ 9223372036854775807) : Calls Try.prog 28 #[.pointer (some ⟨gq, 0, none⟩), .slice A n cp] w fun e w' => e = .returned (.int .i64 1) ∧ w = w' := by
  rcases hn with h | h
  · obtain rfl : n = 0 := by omega
    go_enter Try.func28, Try.ntmps28
    go_wp2_with fail
    refine bodyPost_ret (results_tmp rfl _ _ _) rfl ?_
    exact ⟨rfl, rfl⟩
  · have h1 : ¬ (n : Int) < 1 := by omega
    have h2 : (20000 : Int) < (n : Int) := by omega
    clear h
    go_enter Try.func28, Try.ntmps28
    go_wp2_with fail
    refine bodyPost_ret (results_tmp rfl _ _ _) rfl ?_
    exact ⟨rfl, rfl⟩
theorem RLPut_full (w : World) (c : Col) (gq gx n num used : Nat) (R : List RSec) (A : Option Addr) (m cp : Nat) (h1 : 1 ≤ m) (h2 : m ≤ 20000) (hu : used ≤ n) (hf : n - used < secN m) (hd : RDk w c gx n R) (hL : Lr w c gq gx num used) :
    Calls Try.prog 28 #[.pointer (some ⟨gq, 0, none⟩), .slice A m cp] w fun e w' => e = .returned (.int .i64 5) ∧ Below w.heap.size w w' := by
  obtain ⟨_, _, hn8⟩ := hd.facts
  obtain ⟨Ax, cpx, dx⟩ := hd.cell0
  have d0 := blk_cell0 hL.2
  have d2 := blk_cell2 hL.2
  obtain ⟨room, hroom⟩ : ∃ room : Nat, room = n - used := ⟨_, rfl⟩
  have hwr : IntKind.i64.wrap ((n : Int) - (used : Int)) = (room : Int) := i64_id (by omega) (by omega)
  have SC := fun W => R16Sectors_any W m (by omega)
  obtain ⟨sn, hsn⟩ : ∃ sn, secN m = sn := ⟨_, rfl⟩
  rw [hsn] at hf SC
  have hlt : (room : Int) < (sn : Int) := by omega
  have h1' : ¬ (m : Int) < 1 := by omega
  have h2' : ¬ (20000 : Int) < (m : Int) := by omega
  have HD := Lib.hid hd
  have HL := Lib.hid hL
  have HSN := Lib.hid hsn
  have HROOM := Lib.hid hroom
  have HSC := Lib.hid SC
  clear hd hL hsn hroom SC
  clear hf
  go_enter Try.func28, Try.ntmps28
  go_wp2_with fail
  refine (HSC.out _).mono ?_
  rintro e w1 ⟨rfl, rfl⟩
  go_wp2_with fail
  go_quiet (fail)
  go_wp2_with fail
  refine bodyPost_ret (results_tmp rfl _ _ _) rfl ?_
  exact ⟨rfl, Drew.below (Below.refl _ _) nq⟩
theorem two_tr {w w' : World} {c : Col} {gq gx num used : Nat} (h : Lr w c gq gx num used) (t : Tr (· = gx) c c w.drew w') (hgg : gq ≠ gx) : w'.cell? ⟨gq, 0, none⟩ = some (.pointer (some ⟨gx, 0, none⟩)) ∧ w'.cell? ⟨gq, 2, none⟩ = some (.int .i64 (used : Int)) := by
  have h0 : Lr w.drew c gq gx num used := h
  have h1 := h0.tr t hgg
  exact ⟨blk_cell0 h1.2, blk_cell2 h1.2⟩
set_option maxRecDepth 100000 in
set_option maxHeartbeats 8000000 in
theorem RLPut_ok (w : World) (c : Col) (gq gx n num used : Nat) (Y : List (List UInt8)) (D : Dt) (A : Option Addr) (m cp : Nat) (b : List UInt8) (h1 : 1 ≤ m) (h2 : m ≤ 20000) (hnum : num ≤ 100000) (hf : used + secN m ≤ n) (hgg : gq ≠ gx) (hw : Wf c w) (hd : RDk w c gx n (relR Y D)) (hL : Lr w c gq gx num used) (hx : Rd kU8 w c A m cp b) :
    Calls Try.prog 28 #[.pointer (some ⟨gq, 0, none⟩), .slice A m cp] w fun e w' => e = .returned (.int .i64 0) ∧ Tr (fun r => r = gq ∨ r = gx) c c w w' ∧ RDk w' c gx n (relR Y (putD D used (recB b num) (secN m))) ∧ Lr w' c gq gx (num + 1) (used + secN m) := by
  obtain ⟨_, _, hn8⟩ := hd.facts
  have hbl := hx.len
  obtain ⟨Ax, cpx, dx⟩ := hd.cell0
  have d0 := blk_cell0 hL.2
  have d2 := blk_cell2 hL.2
  obtain ⟨room, hroom⟩ : ∃ room : Nat, room = n - used := ⟨_, rfl⟩
  have hwr : IntKind.i64.wrap ((n : Int) - (used : Int)) = (room : Int) := i64_id (by omega) (by omega)
  have SC := fun W => R16Sectors_any W m (by omega)
  obtain ⟨sn, hsn⟩ : ∃ sn, secN m = sn := ⟨_, rfl⟩
  have hs1 : 12 + m ≤ 64 * sn ∧ 64 * sn < 12 + m + 64 := by rw [← hsn]; unfold secN; omega
  rw [hsn] at hf SC ⊢
  have hlt : ¬ (room : Int) < (sn : Int) := by omega
  have h1' : ¬ (m : Int) < 1 := by omega
  have h2' : ¬ (20000 : Int) < (m : Int) := by omega
  have HD := Lib.hid hd
  have HL := Lib.hid hL
  have HSN := Lib.hid hsn
  have HROOM := Lib.hid hroom
  have HSC := Lib.hid SC
  have HW := Lib.hid hw
  have HX := Lib.hid hx
  have HBL := Lib.hid hbl
  have HS1 := Lib.hid hs1
  clear hd hL hsn hroom SC hw hx hbl hs1
  go_enter Try.func28, Try.ntmps28
  go_wp2_with fail
  refine (HSC.out _).mono ?_
  rintro e w1 ⟨rfl, rfl⟩
  go_wp2_with fail
  go_quiet (fail)
  have hb2 := Drew.below (Below.refl w.heap.size w) nq
  generalize w.drewN nq = w2 at *
  have hT2 := Tr.of_below (M := fun _ => False) HW.out hb2
  have HT2 := Lib.hid hT2
  have HD2 := Lib.hid (HD.out.tr hT2 (fun h => h))
  have HL2 := Lib.hid (HL.out.tr hT2 (fun h => h))
  have HX2 := Lib.hid (HX.out.tr hT2)
  have HB2 := Lib.hid hb2
  clear dx d0 d2 hT2 hb2
  have g1 := blk_cell1 HL2.out.2
  go_wp2_with fail
  refine (RFront_any w2 c A m cp b num (by omega) (by omega) HT2.out.wf HX2.out).mono ?_
  rintro e w3 ⟨A3, n3, cp3, rfl, q_HO3, q_HB3⟩
  have HO3 := Lib.hid q_HO3
  have HB3 := Lib.hid q_HB3
  clear q_HO3 q_HB3
  have hn3 : 12 = n3 := by rw [← own_len HO3.out, frontB_len]
  subst hn3
  have HB23 := Lib.hid (below_then HB2.out HB3.out)
  have HO3w := Lib.hid (own_weak HO3.out HB2.out.size)
  have HX3 := Lib.hid (HX2.out.below HB3.out)
  go_wp2_with (at_builtin; go_must (refine app_bytes_new (w0 := w) (c := c) (.tmp 39) (.tmp 40) 23 5 rfl rfl Try.underlying23 u8_info (frontB b num) b rfl rfl HB23.out HO3w.out HX3.out (by omega) ?_); intro A4 cp4 w4 q_hb q_hr q_ho q_hs; have HB4 := Lib.hid q_hb; have HR4 := Lib.hid (q_hr c HW.out); clear q_hb q_hr q_ho q_hs)
  obtain ⟨bs, hbs⟩ : ∃ bs, recB b num = bs := ⟨_, rfl⟩
  have hr4 := HR4.out
  rw [← recB_front, hbs] at hr4
  have hT4 := Tr.of_below (M := fun _ => False) HW.out HB4.out
  have HT4 := Lib.hid hT4
  have HD4 := Lib.hid (HD.out.tr hT4 (fun h => h))
  have HL4 := Lib.hid (HL.out.tr hT4 (fun h => h))
  have hsz : m + 12 ≤ 100000 := by omega
  obtain ⟨ln, hln⟩ : ∃ ln, 12 + m = ln := ⟨_, rfl⟩
  have hs2 := HS1.out
  rw [hln] at hr4 hs2 ⊢
  have hlc : ln ≤ cp4 := hr4.2.1
  obtain ⟨b4, o4, rfl⟩ := hr4.addr (by omega)
  have hsn0 : sn ≤ 4096 := by omega
  have HR4b := Lib.hid hr4
  have HBS := Lib.hid hbs
  have HS2 := Lib.hid hs2
  have HLN := Lib.hid hln
  clear hr4 hbs hs2 hln
  clear hT4 HR4 HX3 HO3w HB23 HO3 HB3 HX2 HL2 HD2 HT2 g1 HB2
  go_loopw [7] (fun i wr => ∃ j : Nat, i = .int .i64 (j : Int) ∧ j ≤ sn ∧ Hid (Tr (· = gx) c c w4 wr) ∧ Hid (RDk wr c gx n (relR Y (putD D used bs j)))) (fun i _ => sn - (intOf i).toNat)
  case atStart => exact ⟨0, rfl, Nat.zero_le _, Tr.refl _ HT4.out.wf, HD4.out⟩
  case round =>
    obtain ⟨j, rfl, hj, HTJ, HDJ⟩ := hrel
    by_cases hlt : j < sn
    · have hlt1 : (j : Int) < (sn : Int) := by omega
      have e1 := HS2.out
      obtain ⟨uj, huj⟩ : ∃ uj : Nat, uj = used + j := ⟨_, rfl⟩
      obtain ⟨lo, hlo⟩ : ∃ lo : Nat, lo = j * 64 := ⟨_, rfl⟩
      obtain ⟨j1, hj1⟩ : ∃ j1 : Nat, j1 = j + 1 := ⟨_, rfl⟩
      obtain ⟨h0, hh0⟩ : ∃ h0 : Nat, h0 = j1 * 64 := ⟨_, rfl⟩
      obtain ⟨hi, hhi⟩ : ∃ hi : Nat, hi = min ln h0 := ⟨_, rfl⟩
      have w1 : IntKind.i64.wrap ((used : Int) + (j : Int)) = (uj : Int) := by rw [huj]; exact wrap_add used j (by omega) (by omega)
      have w2 : IntKind.i64.wrap ((j : Int) * 64) = (lo : Int) := i64_id (by omega) (by omega)
      have w3' : IntKind.i64.wrap ((j : Int) + 1) = (j1 : Int) := by rw [hj1]; exact wrap_succ j (by omega)
      have w4' : IntKind.i64.wrap ((j1 : Int) * 64) = (h0 : Int) := i64_id (by omega) (by omega)
      have w5 : min (ln : Int) (h0 : Int) = (hi : Int) := by omega
      have i1 : (0 : Int) ≤ (lo : Int) := by omega
      have i2 : (lo : Int) ≤ (hi : Int) := by omega
      have i3 : (hi : Int) ≤ (cp4 : Int) := by omega
      have i4 : ¬ cp4 = lo := by omega
      have hrp : Rd kU8 wr c (some ⟨b4, o4 + lo, none⟩) (hi - lo) (cp4 - lo) (chunk64 bs j) := by
        have h1 := (HR4b.out.tr HTJ.out).drop (m := lo) (by omega)
        rw [if_neg i4] at h1
        have h2 := h1.take (m := hi - lo) (by omega)
        have hl := HR4b.out.len
        have e : (bs.drop lo).take (hi - lo) = chunk64 bs j := by
          unfold chunk64
          rw [show 64 * j = lo by omega]
          by_cases hc : hi - lo = 64
          · rw [hc]
          · rw [List.take_of_length_le (by rw [List.length_drop]; omega), List.take_of_length_le (by rw [List.length_drop]; omega)]
        rw [e] at h2
        simpa [addr_add, kU8] using h2
      have td := (Tr.refl (fun _ => False) HTJ.out.wf).drew
      have hkw := RWrite_ok wr.drew c gx n _ uj _ _ _ (chunk64 bs j) (by omega) (by omega) td.wf (HDJ.out.tr td (fun h => h)) (hrp.tr td)
      have hlj := HL4.out.tr HTJ.out hgg
      have g0 : wr.drew.cell? ⟨gq, 0, none⟩ = some (.pointer (some ⟨gx, 0, none⟩)) := blk_cell0 hlj.2
      have g2 : wr.drew.cell? ⟨gq, 2, none⟩ = some (.int .i64 (used : Int)) := blk_cell2 hlj.2
      have hput := HBS
      have HRP := Lib.hid hrp
      have HKW := Lib.hid hkw
      have HLJ := Lib.hid hlj
      have HUJ := Lib.hid huj
      have HLO := Lib.hid hlo
      have HJ1 := Lib.hid hj1
      have HH0 := Lib.hid hh0
      have HHI := Lib.hid hhi
      clear hrp hkw hlj huj hlo hj1 hh0 hhi
      clear e1 td hput
      go_wp2_with fail
      go_region_held3 (fun w' => w'.cell? ⟨gq, 0, none⟩ = some (.pointer (some ⟨gx, 0, none⟩)) ∧ w'.cell? ⟨gq, 2, none⟩ = some (.int .i64 (used : Int)))
        (first | exact ⟨g0, g2⟩ | exact two_tr (HL4.out.tr HTJ.out hgg) HT5.out hgg)
        (first | (go_at_call 19; refine (HKW.out).mono ?_; rintro e w5 ⟨rfl, q_ht, R', q_hd, q_hr⟩; have HT5 := Lib.hid q_ht; have HD5 := Lib.hid q_hd; have HR5 := Lib.hid q_hr; clear q_ht q_hd q_hr))
      have e1 := HJ1.out
      go_wp2_with fail
      have hd5 := HD5.out
      rw [HR5.out, relR_put, HUJ.out] at hd5
      refine ⟨⟨j1, by simp [e1], by omega, HTJ.out.drew.then HT5.out, ?_⟩, by simp [intOf]; omega⟩
      show RDk _ _ _ _ _
      rw [e1]
      exact hd5
    · obtain rfl : j = sn := by omega
      have hl5 := HL4.out.tr HTJ.out hgg
      have g1 := blk_cell1 hl5.2
      have g2 := blk_cell2 hl5.2
      have f1 := blk_free hl5.2 1
      have f2 := blk_free hl5.2 2
      have hlt1 : ¬ (j : Int) < (j : Int) := by omega
      obtain ⟨n1, hn1⟩ : ∃ n1 : Nat, n1 = num + 1 := ⟨_, rfl⟩
      obtain ⟨u1, hu1⟩ : ∃ u1 : Nat, u1 = used + j := ⟨_, rfl⟩
      have e1 : IntKind.i64.wrap ((num : Int) + 1) = (n1 : Int) := by rw [hn1]; exact wrap_succ num (by omega)
      have e2 : IntKind.i64.wrap ((used : Int) + (j : Int)) = (u1 : Int) := by rw [hu1]; exact wrap_add used j (by omega) (by omega)
      have HL5 := Lib.hid hl5
      have HN1 := Lib.hid hn1
      have HU1 := Lib.hid hu1
      clear hl5 hn1 hu1
      go_wp2_with fail
      refine bodyPost_ret (results_tmp rfl _ _ _) rfl ?_
      have hcg := HL5.out.1
      have ht1 := (HT4.out.mono (M' := fun r => r = gq ∨ r = gx) (fun r _ h => h.elim)).then (HTJ.out.mono (M' := fun r => r = gq ∨ r = gx) (fun r _ h => .inr h))
      have ht2 := (ht1.setCell (p := ⟨gq, 1, none⟩) hcg (.inl (.inl rfl)) (.int .i64 (n1 : Int))).setCell (p := ⟨gq, 2, none⟩) hcg (.inl (.inl rfl)) (.int .i64 (u1 : Int))
      have tq := ((Tr.refl (· = gq) HTJ.out.wf).setCell (p := ⟨gq, 1, none⟩) hcg (.inl rfl) (.int .i64 (n1 : Int))).setCell (p := ⟨gq, 2, none⟩) hcg (.inl rfl) (.int .i64 (u1 : Int))
      have hb := blk_set (blk_set HL5.out.2 1 (.int .i64 (n1 : Int))) 2 (.int .i64 (u1 : Int))
      have hn1' := HN1.out
      have hu1' := HU1.out
      refine ⟨rfl, ht2, ?_, hcg, ?_⟩
      · rw [HBS.out]
        exact HDJ.out.tr tq (fun e => hgg e.symm)
      · rw [← hn1', ← hu1']
        exact hb

set_option maxRecDepth 100000 in
set_option maxHeartbeats 4000000 in
theorem Pieces_any (w : World) (c : Col) (A B : Option Addr) (n cp m cq : Nat) (xs ys : List (List UInt8)) (hx : Rd (kSl kU8) w c A n cp xs) (hy : Rd (kSl kU8) w c B m cq ys) :
    Calls Try.prog 30 #[.slice A n cp, .slice B m cq] w (BoolPost w (decide (xs = ys))) := by
  have hln := hx.1
  have hmx := hx.max
  have hln2 := hy.1
  have hmx2 := hy.max
  obtain ⟨r, hr⟩ : ∃ r, decide (xs = ys) = r := ⟨_, rfl⟩
  rw [hr]
  have HX := Lib.hid hx
  have HL := Lib.hid hln
  have HY := Lib.hid hy
  have HL2 := Lib.hid hln2
  clear hx hln hy hln2
  by_cases hnm : n = m
  case neg =>
    have HP : Hid (r = false) := by
      show _ = _
      rw [← hr, decide_eq_false_iff_not]
      intro e
      have := congrArg List.length e
      rw [HL.out, HL2.out] at this
      exact hnm this
    have hne : ((n : Int) == (m : Int)) = false := by simp; omega
    have hne2 : ((n : Int) != (m : Int)) = true := by simp; omega
    clear hr
    go_enter Try.func30, Try.ntmps30
    go_wp2_with fail
    refine bodyPost_ret (results_tmp rfl _ _ _) rfl ?_
    rw [HP.out]
    exact ⟨rfl, Below.refl _ _⟩
  subst hnm
  have HR := Lib.hid hr
  clear hr
  go_enter Try.func30, Try.ntmps30
  go_wp2_with fail
  go_loopw [5] (fun i wr => ∃ k : Nat, i = .int .i64 (k : Int) ∧ k ≤ n ∧ Hid (∀ j, j < k → xs[j]? = ys[j]?) ∧ Hid (Below w.heap.size w wr)) (fun i _ => n - (intOf i).toNat)
  case atStart => exact ⟨0, rfl, by omega, fun j h => absurd h (by omega), Below.refl _ _⟩
  case round =>
    obtain ⟨k, rfl, hk, HALL, HB⟩ := hrel
    by_cases hlt : k < n
    · obtain ⟨b1, o1, rfl⟩ := HX.out.addr (by omega)
      obtain ⟨b2, o2, rfl⟩ := HY.out.addr (by omega)
      obtain ⟨x, hxk⟩ : ∃ x, xs[k]? = some x := ⟨_, List.getElem?_eq_getElem (by rw [HL.out]; exact hlt)⟩
      obtain ⟨y, hyk⟩ : ∃ y, ys[k]? = some y := ⟨_, List.getElem?_eq_getElem (by rw [HL2.out]; exact hlt)⟩
      obtain ⟨A1, n1, p1, hc1, hr1⟩ := (HX.out.below HB.out).row hxk
      obtain ⟨A2, n2, p2, hc2, hr2⟩ := (HY.out.below HB.out).row hyk
      have q1 := cell_regrown hc1
      have q2 := cell_regrown hc2
      have hk0 : (0 : Int) ≤ (k : Int) := by omega
      have hk1 : (k : Int) < (n : Int) := by omega
      obtain ⟨q, hq⟩ : ∃ q, (x == y) = q := ⟨_, rfl⟩
      have C0 := fun d os => Calls.regrown_of ((Same_any (Sort.grow (redrawn wr d) os) c A1 A2 n1 p1 n2 p2 x y (hr1.below (below_regrown wr d os)) (hr2.below (below_regrown wr d os))).mono fun e w' ⟨h1, h2⟩ => ⟨h1, h2 ▸ Below.refl _ _⟩)
      rw [hq] at C0
      have HC0 := Lib.hid C0
      have HQ := Lib.hid hq
      have HXK := Lib.hid hxk
      have HYK := Lib.hid hyk
      clear C0 hq hxk hyk
      clear hr1 hr2 hc1 hc2
      go_wp2_with fail
      refine wp_region_quiet_below (by kernel_rfl) (by kernel_rfl) ?_
      repeat ((with_reducible refine wpQuiet_step (fun K hK => ?_)); go_simp; first | (with_reducible refine hK _ ?_; clear hK K) | (rw [if_neg (by decide)]; with_reducible refine hK _ ?_; clear hK K) | (apply Exists.intro; refine ⟨fun _ => ?_, hK _ ?_⟩; (first | with_reducible exact (HC0.out _ _)); clear hK K))
      with_reducible refine wpQuiet_nil ?_
      intro _ hw'
      obtain ⟨⟨dq, osq⟩, hw''⟩ := hw'
      subst hw''
      have HB2 := Lib.hid (below_then HB.out (below_regrown wr dq osq))
      clear q1 q2 HC0
      generalize Sort.grow (redrawn wr dq) osq = w2 at *
      cases q with
      | true =>
        have hxy : x = y := by simpa using HQ.out
        have hall : ∀ j, j < k + 1 → xs[j]? = ys[j]? := fun j hj => by
          rcases Nat.lt_or_ge j k with h | h
          · exact HALL.out j h
          · obtain rfl : j = k := by omega
            rw [HXK.out, HYK.out, hxy]
        have HALL2 := Lib.hid hall
        clear hall
        go_wp2_with fail
        exact ⟨⟨k + 1, by go_num, by omega, HALL2.out, HB2.out⟩, by simp [intOf]; omega⟩
      | false =>
        have HP : Hid (r = false) := by
          show _ = _
          rw [← HR.out, decide_eq_false_iff_not]
          intro e
          have h1 := HXK.out
          rw [e, HYK.out] at h1
          have h2 := HQ.out
          rw [Option.some.inj h1] at h2
          simp at h2
        go_wp2_with fail
        refine bodyPost_ret (results_tmp rfl _ _ _) rfl ?_
        rw [HP.out]
        exact ⟨rfl, HB2.out⟩
    · obtain rfl : k = n := by omega
      have HP : Hid (r = true) := by
        show _ = _
        rw [← HR.out, decide_eq_true_iff]
        apply List.ext_getElem?
        intro j
        rcases Nat.lt_or_ge j k with h | h
        · exact HALL.out j h
        · rw [List.getElem?_eq_none (by rw [HL.out]; exact h), List.getElem?_eq_none (by rw [HL2.out]; exact h)]
      go_wp2_with fail
      refine bodyPost_ret (results_tmp rfl _ _ _) rfl ?_
      rw [HP.out]
      exact ⟨rfl, HB.out⟩
/-- The document's Put, whatever is put. -/
theorem RLPut_all (w : World) (c : Col) (gq gx n num used : Nat) (Y : List (List UInt8)) (D : Dt) (A : Option Addr) (m cp : Nat) (b : List UInt8) (hu : used ≤ n) (hnum : num ≤ 100000) (hgg : gq ≠ gx) (hw : Wf c w) (hd : RDk w c gx n (relR Y D)) (hL : Lr w c gq gx num used) (hx : Rd kU8 w c A m cp b) :
    Calls Try.prog 28 #[.pointer (some ⟨gq, 0, none⟩), .slice A m cp] w fun e w' => e = .returned (.int .i64 (putE n used m)) ∧ Tr (fun r => r = gq ∨ r = gx) c c w w' ∧ RDk w' c gx n (relR Y (putDt n used num b D)) ∧ Lr w' c gq gx (putNum n used num m) (putUsed n used m) := by
  have hbl := hx.len
  by_cases h1 : m < 1 ∨ 20000 < m
  · have hk : putOk n used m = false := by unfold putOk; simp; omega
    have he : putE n used m = 1 := by unfold putE; rw [if_pos h1]
    unfold putDt putNum putUsed
    rw [hbl, hk, he]
    refine (RLPut_bad w gq A m cp h1 hx.max).mono ?_
    rintro e w' ⟨rfl, rfl⟩
    exact ⟨rfl, Tr.refl _ hw, hd, hL⟩
  · by_cases h2 : n - used < secN m
    · have hk : putOk n used m = false := by unfold putOk; simp; omega
      have he : putE n used m = 5 := by unfold putE; rw [if_neg h1, if_pos h2]
      unfold putDt putNum putUsed
      rw [hbl, hk, he]
      refine (RLPut_full w c gq gx n num used (relR Y D) A m cp (by omega) (by omega) hu h2 hd hL).mono ?_
      rintro e w' ⟨rfl, hb⟩
      have t := Tr.of_below (M := fun r => r = gq ∨ r = gx) hw hb
      have t0 := Tr.of_below (M := fun _ => False) hw hb
      exact ⟨rfl, t, hd.tr t0 (fun h => h), hL.tr t0 (fun h => h)⟩
    · have hk : putOk n used m = true := by unfold putOk; simp; omega
      have he : putE n used m = 0 := putE_ok hk
      unfold putDt putNum putUsed
      rw [hbl, hk, he]
      exact RLPut_ok w c gq gx n num used Y D A m cp b (by omega) (by omega) hnum (by omega) hgg hw hd hL hx
/-- The document's Open, on the disk that both have. -/
theorem RLOpen_any (w : World) (c : Col) (gx n : Nat) (Y : List (List UInt8)) (D : Dt) (hY : Y.length = n) (hw : Wf c w) (h : RDk w c gx n (relR Y D)) :
    Calls Try.prog 25 #[.pointer (some ⟨gx, 0, none⟩)] w fun e w' => ∃ gq A m cp, e = .returned (.tuple #[.pointer (some ⟨gq, 0, none⟩), .slice A m cp]) ∧ ∃ recs used c', Finds (syncY Y D) recs used ∧ w.heap.size ≤ gq ∧ Tr (· = gx) c c' w w' ∧
      RDk w' c' gx n (relR (cleanZ (syncY Y D) used) (fun _ => none)) ∧ Lr w' c' gq gx recs.length used ∧ Rd (kSl kU8) w' c' A m cp recs := by
  refine (ROpen_any w c gx n (relR Y D) hw h).mono ?_
  rintro e w' ⟨gq, A, m, cp, rfl, recs, used, c', hf, hu, hg, ht, hd, hl, hr⟩
  rw [isZ_rel] at hf
  rw [wipeR_done hY hu] at hd
  exact ⟨gq, A, m, cp, rfl, recs, used, c', hf, hg, ht, hd, hl, hr⟩
end Go.Proofs.Ytalihocoekplgaa
