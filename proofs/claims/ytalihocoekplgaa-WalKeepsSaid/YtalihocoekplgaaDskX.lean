/- disk: both disks beside each other; Same. -/
import Derived.Test.YtalihocoekplgaaDskW
set_option linter.unusedVariables false
set_option linter.unusedSimpArgs false
namespace Go.Proofs.Ytalihocoekplgaa
open Go.RowKit

/-- The document's disk, as this one has it. -/
def relS (D : Dt) (i : Nat) (y : List UInt8) : RSec := ⟨(D (i : Int)).getD y, y, (D (i : Int)).isSome⟩
def relR (Y : List (List UInt8)) (D : Dt) : List RSec := Y.mapIdx (relS D)
theorem relR_get (Y : List (List UInt8)) (D : Dt) (i : Nat) : (relR Y D)[i]? = (Y[i]?).map (relS D i) := by
  unfold relR
  rw [List.getElem?_mapIdx]
theorem relR_len (Y : List (List UInt8)) (D : Dt) : (relR Y D).length = Y.length := by simp [relR]
theorem relR_new (n : Nat) : relR (List.replicate n zsec) (fun _ => none) = List.replicate n rz := by
  apply List.ext_getElem?
  intro i
  rw [relR_get, List.getElem?_replicate, List.getElem?_replicate]
  split <;> rfl
theorem relR_put {Y : List (List UInt8)} {D : Dt} {k : Nat} {b : List UInt8} : (relR Y D).modify k (wrS b) = relR Y (D.put (k : Int) (pad b)) := by
  apply List.ext_getElem?
  intro i
  rw [List.getElem?_modify, relR_get, relR_get]
  cases hy : Y[i]? with
  | none => rfl
  | some y =>
    by_cases e : k = i
    · subst e
      simp [relS, wrS, Dt.put]
    · have : ¬ (i : Int) = (k : Int) := by omega
      simp [relS, Dt.put, e, this]
theorem relR_sync {Y : List (List UInt8)} {D : Dt} : (relR Y D).map syncS = relR (syncY Y D) (fun _ => none) := by
  apply List.ext_getElem?
  intro i
  rw [List.getElem?_map, relR_get, relR_get, syncY_get]
  cases hy : Y[i]? with
  | none => rfl
  | some y => rfl
theorem relR_crash {Y : List (List UInt8)} {D : Dt} {keep : List Int} {torn : Int} {mc : Nat} : ((relR Y D).mapIdx (crashS keep torn mc)).map syncS = relR (crashY Y D keep torn mc) (fun _ => none) := by
  apply List.ext_getElem?
  intro i
  rw [List.getElem?_map, List.getElem?_mapIdx, relR_get, relR_get, crashY_get]
  cases hy : Y[i]? with
  | none => rfl
  | some y =>
    simp only [Option.map_some, relS, Option.getD_none, Option.isSome_none]
    congr 1
    cases hd : D (i : Int) with
    | none => simp [crashS, keptS, crashV, syncS, hd]
    | some s =>
      by_cases hk : (i : Int) ∈ keep
      · simp [crashS, keptS, crashV, syncS, hd, crash1, hk]
      · by_cases ht : (i : Int) = torn
        · subst ht
          simp [crashS, keptS, crashV, syncS, hd, crash1, hk, crashIs]
        · simp [crashS, keptS, crashV, syncS, hd, crash1, hk, crashIs, ht]
theorem relR_dirty {Y : List (List UInt8)} {D : Dt} {n : Nat} (h : Y.length = n) : rdirL (relR Y D) n = dirtyL D n := by
  unfold rdirL dirtyL
  congr 1
  apply List.filter_congr
  intro i hi
  rw [List.mem_range] at hi
  unfold rdirB
  rw [relR_get, List.getElem?_eq_getElem (by omega)]
  rfl
theorem Rd.ofRange {w : World} {b o n cp : Nat} {xs : List UInt8} (h : w.rangeAt b o (bcells xs)) (hb : b < w.heap.size) (hl : xs.length = n) (hn : n ≤ cp) (hc : cp ≤ maxLen) : Rd kU8 w (fun _ => none) (some ⟨b, o, none⟩) n cp xs := by
  refine ⟨hl, hn, hc, fun _ => ⟨b, o, rfl, hb, rfl, fun j x hj => ⟨[.int .u8 (x.toNat : Int)], rfl, fun i u hu => ?_⟩⟩⟩
  cases i with
  | succ i => simp at hu
  | zero =>
    simp at hu
    subst hu
    have := h j _ (bcells_at xs j x hj)
    simpa [kU8] using this
set_option maxRecDepth 100000 in
set_option maxHeartbeats 8000000 in
theorem Same16_any (w : World) (c : Col) (g g2 n : Nat) (Y : List (List UInt8)) (D : Dt) (N : Nat) (hN : N ≤ 1000000) (hw : Wf c w) (h : Dk w c g n Y D N) (h2 : RDk w c g2 n (relR Y D)) :
    Calls Try.prog 22 #[.pointer (some ⟨g, 0, none⟩), .pointer (some ⟨g2, 0, none⟩)] w (BoolPost w true) := by
  have hY : Y.length = n := by
    obtain ⟨_, _, _, _, _, _, _, _, hl, _⟩ := h
    exact hl
  have hgl2 := h2.lt
  obtain ⟨hg2, A2, cp2, hr1, hr4, hr5, hr6, hn8⟩ := h2
  have h2 : RDk w c g2 n (relR Y D) := ⟨hg2, A2, cp2, hr1, hr4, hr5, hr6, hn8⟩
  have hcell := blk_cell0 hr1
  clear hr4 hr5 hr6 hr1 hg2
  obtain ⟨L, hL⟩ : ∃ L, dirtyL D n = L := ⟨_, rfl⟩
  have HRL := Lib.hid (relR_dirty (D := D) hY)
  obtain ⟨R, hR⟩ : ∃ R, relR Y D = R := ⟨_, rfl⟩
  rw [hR] at h2 HRL
  rw [hL] at HRL
  have HW := Lib.hid hw
  have HD := Lib.hid h
  have HR2 := Lib.hid h2
  have HL := Lib.hid hL
  have HRR := Lib.hid hR
  have HY := Lib.hid hY
  clear hw h h2 hL hR hY
  go_enter Try.func22, Try.ntmps22
  go_wp2_with fail
  refine (KDirty_any w c g n Y D N hN HW.out HD.out).mono ?_
  rintro e w1 ⟨A3, m3, cp3, rfl, q_HL3, q_HB1⟩
  have HL3 := Lib.hid q_HL3
  have HB1 := Lib.hid q_HB1
  clear q_HL3 q_HB1
  have HT1 := Lib.hid (Tr.of_below (M := fun _ => False) HW.out HB1.out)
  have HD1 := Lib.hid (HD.out.tr HT1.out (fun h => h))
  have HQ1 := Lib.hid (HR2.out.tr HT1.out (fun h => h))
  go_wp2_with fail
  refine (RDirty_any w1 c g2 n R HT1.out.wf HQ1.out).mono ?_
  rintro e w2 ⟨A4, m4, cp4, rfl, q_HL4, q_HB2⟩
  have HL4 := Lib.hid q_HL4
  have HB2 := Lib.hid q_HB2
  clear q_HL4 q_HB2
  have HBB := Lib.hid (below_then HB1.out HB2.out)
  have HT2 := Lib.hid (HT1.out.then (Tr.of_below HT1.out.wf HB2.out))
  have HD2 := Lib.hid (HD.out.tr HT2.out (fun h => h))
  have HQ2 := Lib.hid (HR2.out.tr HT2.out (fun h => h))
  have hl3 := (HL3.out.below HB2.out)
  have hl4 := HL4.out
  rw [HL.out] at hl3
  rw [HRL.out] at hl4
  have hlm : m3 = m4 := by rw [← hl3.len, ← hl4.len]
  subst hlm
  have hm3 : m3 ≤ 4096 := by
    rw [← hl4.len, ← HRL.out]
    exact Nat.le_trans (rdirL_len R n) hn8
  have HA3 := Lib.hid hl3
  have HA4 := Lib.hid hl4
  clear hl3 hl4
  clear HL3 HL4
  have hc2 : w2.cell? ⟨g2, 0, none⟩ = some (.slice A2 n cp2) := (HBB.out.cell (p := ⟨g2, 0, none⟩) hgl2).trans hcell
  have hc2r := cell_regrown hc2
  have C0 := Lib.hid (fun d os => Calls.regrown_of ((KLen_any (Sort.grow (redrawn w2 d) os) c g n Y D N (HD2.out.tr (Tr.of_below (M := fun _ => False) HT2.out.wf (below_regrown w2 d os)) (fun h => h))).mono fun e w' ⟨h1, h2⟩ => ⟨h1, h2 ▸ Below.refl _ _⟩))
  go_wp2_with fail
  refine wp_region_quiet_below (by kernel_rfl) (by kernel_rfl) ?_
  repeat ((with_reducible refine wpQuiet_step (fun K hK => ?_)); go_simp; first | (with_reducible refine hK _ ?_; clear hK K) | (rw [if_neg (by decide)]; with_reducible refine hK _ ?_; clear hK K) | (apply Exists.intro; refine ⟨fun _ => ?_, hK _ ?_⟩; (first | with_reducible exact (C0.out _ _)); clear hK K))
  with_reducible refine wpQuiet_nil ?_
  intro _ hw'
  obtain ⟨⟨dq, osq⟩, hw''⟩ := hw'
  subst hw''
  have hb3 := below_regrown w2 dq osq
  clear C0 hc2r
  generalize Sort.grow (redrawn w2 dq) osq = w3 at *
  have HB3 := Lib.hid hb3
  have HBW := Lib.hid (below_then HBB.out HB3.out)
  have HA3' := Lib.hid (HA3.out.below HB3.out)
  have HA4' := Lib.hid (HA4.out.below HB3.out)
  clear hb3
  go_wp2_with fail
  go_loopw [7] (fun i wr => ∃ k : Nat, i = .int .i64 (k : Int) ∧ k ≤ m3 ∧ Hid (Below w3.heap.size w3 wr)) (fun i _ => m3 - (intOf i).toNat)
  case atStart => exact ⟨0, rfl, Nat.zero_le _, Below.refl _ _⟩
  case round =>
    obtain ⟨k, rfl, hk, HBR⟩ := hrel
    rcases Nat.lt_or_ge k m3 with hlt | hge
    · obtain ⟨b3, o3, rfl⟩ := HA3'.out.addr (by omega)
      obtain ⟨b4, o4, rfl⟩ := HA4'.out.addr (by omega)
      obtain ⟨v, hel⟩ : ∃ v, L[k]? = some v := ⟨_, List.getElem?_eq_getElem (by rw [HA3'.out.len]; omega)⟩
      have q3 := cell_regrown ((HA3'.out.below HBR.out).int hel)
      have q4 := cell_regrown ((HA4'.out.below HBR.out).int hel)
      have hk0 : (0 : Int) ≤ (k : Int) := by omega
      have hk1 : (k : Int) < (m3 : Int) := by omega
      clear hel
      go_wp2_with fail
      refine wp_region_quiet_below (by kernel_rfl) (by kernel_rfl) ?_
      repeat ((with_reducible refine wpQuiet_step (fun K hK => ?_)); go_simp; first | (with_reducible refine hK _ ?_; clear hK K) | (rw [if_neg (by decide)]; with_reducible refine hK _ ?_; clear hK K))
      with_reducible refine wpQuiet_nil ?_
      intro _ hw'
      obtain ⟨⟨dq, osq⟩, hw''⟩ := hw'
      subst hw''
      go_wp2_with fail
      exact ⟨⟨k + 1, by go_num, by omega, below_then HBR.out (below_regrown wr dq osq)⟩, by simp [intOf]; omega⟩
    · obtain rfl : k = m3 := by omega
      have HB4 := Lib.hid (below_then HBW.out HBR.out)
      go_wp2_with fail
      go_loopw [8] (fun i wq => ∃ t : Nat, i = .int .i64 (t : Int) ∧ t ≤ n ∧ Hid (Below w.heap.size w wq)) (fun i _ => n - (intOf i).toNat)
      case atStart => exact ⟨0, rfl, Nat.zero_le _, HB4⟩
      case round =>
        obtain ⟨t, rfl, ht, HBQ⟩ := hrel
        have HTQ := Lib.hid (Tr.of_below (M := fun _ => False) HW.out HBQ.out)
        have HDQ := Lib.hid (HD.out.tr HTQ.out (fun h => h))
        have hcq : wr.cell? ⟨g2, 0, none⟩ = some (.slice A2 n cp2) := (HBQ.out.cell (p := ⟨g2, 0, none⟩) hgl2).trans hcell
        rcases Nat.lt_or_ge t n with hlt2 | hge2
        · obtain ⟨y, hy⟩ : ∃ y, Y[t]? = some y := ⟨_, List.getElem?_eq_getElem (by rw [HY.out]; omega)⟩
          have HYT := Lib.hid hy
          clear hy
          go_wp2_with fail
          refine (KRead_ok wr c g n Y D N t hlt2 HTQ.out.wf HDQ.out y HYT.out).mono ?_
          rintro e w5 ⟨A5, cp5, rfl, q_HR5, q_HB5⟩
          have HR5 := Lib.hid q_HR5
          have HB5 := Lib.hid q_HB5
          clear q_HR5 q_HB5
          have HBQ5 := Lib.hid (below_then HBQ.out HB5.out)
          have HT5 := Lib.hid (Tr.of_below (M := fun _ => False) HW.out HBQ5.out)
          have hq5 := HR2.out.tr HT5.out (fun h => h)
          obtain ⟨bl, cpl, x, hb1, hx, hx64, hris, _, _, hbl, hbc, hgbl⟩ := hq5.cells hlt2
          have hcq5 : w5.cell? ⟨g2, 0, none⟩ = some (.slice A2 n cp2) := (HBQ5.out.cell (p := ⟨g2, 0, none⟩) hgl2).trans hcell
          have e0 := (blk_cell0 hb1).symm.trans hcq5
          obtain ⟨rfl, rfl⟩ : some ⟨bl, 0, none⟩ = A2 ∧ cpl = cp2 := by
            have e0 := Option.some.inj e0
            injection e0 with e1 e2 e3
            exact ⟨e1, e3⟩
          clear e0 hb1
          have hxi : x.is = (D (t : Int)).getD y := by
            rw [← HRR.out, relR_get, HYT.out] at hx
            cases hx
            rfl
          rw [hxi] at hris
          have hRs : Rd kU8 w5 (fun _ => none) (some ⟨bl, t * 129, none⟩) 64 64 ((D (t : Int)).getD y) := Rd.ofRange hris hbl (by rw [← hxi]; exact hx64.1) (Nat.le_refl _) (by simp [maxLen])
          have HRS := Lib.hid hRs
          have HR5' := Lib.hid (HR5.out.cool (c' := fun _ => none) (fun _ _ _ => rfl))
          have ht0 : (0 : Int) ≤ (t : Int) := by omega
          have ht1 : (t : Int) < (n : Int) := by omega
          clear hris hRs hx hq5 hx64 hxi
          obtain ⟨z, hz⟩ : ∃ z, (D (t : Int)).getD y = z := ⟨_, rfl⟩
          rw [hz] at HRS HR5'
          have C1 := Same_any w5 (fun _ => none) _ _ 64 cp5 64 64 z z HR5'.out HRS.out
          have hzz : (z == z) = true := by simp
          rw [hzz] at C1
          have HC1 := Lib.hid C1
          clear C1 hz hzz
          go_wp2_with fail
          refine (HC1.out).mono ?_
          rintro e w6 ⟨rfl, rfl⟩
          go_wp2_with fail
          exact ⟨⟨t + 1, by go_num, by omega, HBQ5.out⟩, by simp [intOf]; omega⟩
        · obtain rfl : t = n := by omega
          go_wp2_with fail
          refine (KRead_bad wr c g t Y D N (t : Int) (by unfold isB; simp) HDQ.out).mono ?_
          rintro e w5 ⟨rfl, rfl⟩
          go_wp2_with fail
          refine (KRead_bad wr c g t Y D N (-1) (by unfold isB; simp) HDQ.out).mono ?_
          rintro e w5 ⟨rfl, rfl⟩
          go_wp2_with fail
          refine bodyPost_ret (results_tmp rfl _ _ _) rfl ?_
          exact ⟨rfl, HBQ.out⟩
end Go.Proofs.Ytalihocoekplgaa
