/- The law DiskStays: its walk. -/
import Derived.Test.YtalihocoekplgaaDskN
set_option linter.unusedVariables false
set_option linter.unusedSimpArgs false
namespace Go.Proofs.Ytalihocoekplgaa
open Go.RowKit

set_option maxRecDepth 100000 in
set_option maxHeartbeats 4000000 in
theorem DiskStays_few (w : World) (A0 : Option Addr) (n0 cp0 : Nat) (la : List UInt8) (A1 : Option Addr) (n1 cp1 : Nat) (lb : List UInt8) (at_ : Int) (A2 : Option Addr) (n2 cp2 : Nat) (keep : List Int) (torn nn : Int)
    (h0 : Rd kU8 w (fun _ => none) A0 n0 cp0 la) (h1 : Rd kU8 w (fun _ => none) A1 n1 cp1 lb) (h2 : Rd kInt w (fun _ => none) A2 n2 cp2 keep) (hbad : ¬ (n0 ≤ 64 ∧ n1 ≤ 64 ∧ n2 ≤ 20)) :
    Calls Try.prog 6 #[.slice A0 n0 cp0, .slice A1 n1 cp1, .int .i64 at_, .slice A2 n2 cp2, .int .i64 torn, .int .i64 nn] w (BoolPost w true) := by
  have HB := Lib.hid hbad
  clear hbad h0 h1 h2
  go_enter Try.func6, Try.ntmps6
  go_wp2_with fail
  refine (KNew_ok w (fun _ => none) 3 (by omega) (Wf.none w)).mono ?_
  rintro e w1 ⟨g, c1, rfl, q_HT1, hg, q_HD1⟩
  have HT1 := Lib.hid q_HT1
  have HD1 := Lib.hid q_HD1
  clear q_HT1 q_HD1
  by_cases e0 : n0 ≤ 64
  · by_cases e1 : n1 ≤ 64
    · have e2 : ¬ n2 ≤ 20 := by have := HB.out; omega
      have f0 : ¬ (64 : Int) < (n0 : Int) := by omega
      have f1 : ¬ (64 : Int) < (n1 : Int) := by omega
      have f2 : (20 : Int) < (n2 : Int) := by omega
      go_wp2_with fail
      refine (told16 w1).mono ?_
      rintro e w2 ⟨rfl, q_HB2⟩
      have HB2 := Lib.hid q_HB2
      clear q_HB2
      go_wp2_with fail
      refine bodyPost_ret (results_tmp rfl _ _ _) rfl ?_
      exact ⟨rfl, below_then (HT1.out.below (by intro r hr e; exact e)) HB2.out⟩
    · have f0 : ¬ (64 : Int) < (n0 : Int) := by omega
      have f1 : (64 : Int) < (n1 : Int) := by omega
      go_wp2_with fail
      refine (told16 w1).mono ?_
      rintro e w2 ⟨rfl, q_HB2⟩
      have HB2 := Lib.hid q_HB2
      clear q_HB2
      go_wp2_with fail
      refine bodyPost_ret (results_tmp rfl _ _ _) rfl ?_
      exact ⟨rfl, below_then (HT1.out.below (by intro r hr e; exact e)) HB2.out⟩
  · have f0 : (64 : Int) < (n0 : Int) := by omega
    go_wp2_with fail
    refine (told16 w1).mono ?_
    rintro e w2 ⟨rfl, q_HB2⟩
    have HB2 := Lib.hid q_HB2
    clear q_HB2
    go_wp2_with fail
    refine bodyPost_ret (results_tmp rfl _ _ _) rfl ?_
    exact ⟨rfl, below_then (HT1.out.below (by intro r hr e; exact e)) HB2.out⟩
set_option maxRecDepth 100000 in
set_option maxHeartbeats 4000000 in
theorem DiskStays_any (w : World) (A0 : Option Addr) (n0 cp0 : Nat) (la : List UInt8) (A1 : Option Addr) (n1 cp1 : Nat) (lb : List UInt8) (at_ : Int) (A2 : Option Addr) (n2 cp2 : Nat) (keep : List Int) (torn nn : Int)
    (h0 : Rd kU8 w (fun _ => none) A0 n0 cp0 la) (h1 : Rd kU8 w (fun _ => none) A1 n1 cp1 lb) (h2 : Rd kInt w (fun _ => none) A2 n2 cp2 keep) :
    Calls Try.prog 6 #[.slice A0 n0 cp0, .slice A1 n1 cp1, .int .i64 at_, .slice A2 n2 cp2, .int .i64 torn, .int .i64 nn] w (BoolPost w true) := by
  by_cases hgood : n0 ≤ 64 ∧ n1 ≤ 64 ∧ n2 ≤ 20
  · obtain ⟨e0, e1, e2⟩ := hgood
    have hmk := fun W => make64 W .i64 .i64
    have hl0 := h0.len
    have hl1 := h1.len
    have hl2 := h2.len
    have f0 : ¬ (64 : Int) < (n0 : Int) := by omega
    have f1 : ¬ (64 : Int) < (n1 : Int) := by omega
    have f2 : ¬ (20 : Int) < (n2 : Int) := by omega
    obtain ⟨k, hk, hk3⟩ := remS at_ 3 (by omega) (by omega)
    simp at hk
    obtain ⟨X, hX⟩ : ∃ X, pad la = X := ⟨_, rfl⟩
    obtain ⟨Z, hZ⟩ : ∃ Z, pad lb = Z := ⟨_, rfl⟩
    have hX64 : X.length = 64 := by rw [← hX]; exact pad_len (by omega)
    have hZ64 : Z.length = 64 := by rw [← hZ]; exact pad_len (by omega)
    have H0 := Lib.hid h0
    have H1 := Lib.hid h1
    have H2 := Lib.hid h2
    have HL0 := Lib.hid hl0
    have HL1 := Lib.hid hl1
    have HL2 := Lib.hid hl2
    have HX := Lib.hid hX
    have HZ := Lib.hid hZ
    clear h0 h1 h2 hl0 hl1 hl2 hX hZ
    go_enter Try.func6, Try.ntmps6
    go_wp2_with fail
    refine (KNew_ok w (fun _ => none) 3 (by omega) (Wf.none w)).mono ?_
    rintro e w1 ⟨g, c1, rfl, q_HT1, hg, q_HD1⟩
    have HT1 := Lib.hid q_HT1
    have HD1 := Lib.hid q_HD1
    clear q_HT1 q_HD1
    go_wp2_with fail
    go_loopw [15] (fun i wr => ∃ (j : Nat) (c' : Col), i = .int .i64 (j : Int) ∧ j ≤ 3 ∧ Hid (Tr (fun _ => False) (fun _ => none) c' w wr) ∧ Hid (Dk wr c' g 3 (List.replicate 3 zsec) (frontD j X) j)) (fun i _ => 3 - (intOf i).toNat)
    case atStart =>
      refine ⟨0, c1, rfl, by omega, HT1, ?_⟩
      rw [frontD_zero]
      exact HD1
    case round =>
      obtain ⟨j, c', rfl, hj, HT, HD⟩ := hrel
      rcases Nat.lt_or_ge j 3 with hlt | hge
      · go_wp2_with fail
        refine (KWrite_ok wr c' g 3 _ _ j j _ _ _ la hlt e0 (by omega) HT.out.wf HD.out (H0.out.tr HT.out)).mono ?_
        rintro e w4 ⟨rfl, c4, q_HT4, q_HD4⟩
        have HT4 := Lib.hid q_HT4
        have HD4 := Lib.hid q_HD4
        clear q_HT4 q_HD4
        go_wp2_with fail
        have hd4 := HD4.out
        rw [HX.out, frontD_put] at hd4
        exact ⟨⟨j + 1, c4, by go_num, by omega, HT.out.low HT4.out (by omega), hd4⟩, by simp [intOf]; omega⟩
      · obtain rfl : j = 3 := by omega
        go_wp2_with fail
        refine (KSync_any wr c' g 3 _ _ _ HT.out.wf HD.out).mono ?_
        rintro e w2 ⟨rfl, c2, q_HT2, q_HD2⟩
        have HT2 := Lib.hid q_HT2
        have HD2 := Lib.hid q_HD2
        clear q_HT2 q_HD2
        have hd2 := HD2.out
        rw [syncY_front] at hd2
        have HDS := Lib.hid hd2
        clear hd2
        have HTw2 := Lib.hid (HT.out.low HT2.out (by omega))
        go_wp2_with fail
        refine (KWrite_ok w2 c2 g 3 _ _ 0 k _ _ _ lb hk3 e1 (by omega) HTw2.out.wf HDS.out (H1.out.tr HTw2.out)).mono ?_
        rintro e w3 ⟨rfl, c3, q_HT3, q_HD3⟩
        have HT3 := Lib.hid q_HT3
        have HD3 := Lib.hid q_HD3
        clear q_HT3 q_HD3
        have hd3 := HD3.out
        rw [HZ.out] at hd3
        have HDW := Lib.hid hd3
        clear hd3
        have HTw3 := Lib.hid (HTw2.out.low HT3.out (by omega))
        go_wp2_with fail
        refine (KCrash_any w3 c3 g 3 _ _ _ _ n2 cp2 keep torn nn (by omega) HTw3.out.wf HDW.out (H2.out.tr HTw3.out)).mono ?_
        rintro e w4 ⟨rfl, c4, q_HT4, q_HD4⟩
        have HT4 := Lib.hid q_HT4
        have HD4 := Lib.hid q_HD4
        clear q_HT4 q_HD4
        have HTw4 := Lib.hid (HTw3.out.low HT4.out (by omega))
        obtain ⟨mc, hmc⟩ : ∃ mc, mcut nn = mc := ⟨_, rfl⟩
        have hmc64 : mc ≤ 64 := by rw [← hmc]; exact mcut_le nn
        have hmx : max 0 (min nn 64) = (mc : Int) := by
          rw [← hmc]
          unfold mcut
          omega
        obtain ⟨Y3, hY3⟩ : ∃ Y3, crashY (List.replicate 3 X) (Dt.put (fun _ => none) (k : Int) Z) keep torn mc = Y3 := ⟨_, rfl⟩
        have hd4 := HD4.out
        rw [hmc, hY3] at hd4
        have HD5 := Lib.hid hd4
        have HY3 := Lib.hid hY3
        have HMC := Lib.hid hmc
        clear hd4 hY3 hmc
        have hTm := ((Tr.refl (fun _ => False) HTw4.out.wf).alloc (.cells (fillA 0 0) 5)).alloc (.cells (fillA 0 0) 5)
        have hh2 := heap_alloc_new (w4.alloc (.cells (fillA 0 0) 5)) (.cells (fillA 0 0) 5)
        have hh1 := (below_alloc (w4.alloc (.cells (fillA 0 0) 5)) (.cells (fillA 0 0) 5)).block w4.heap.size (by simp)
        rw [heap_alloc_new] at hh1
        have e1' : (w4.alloc (.cells (fillA 0 0) 5)).heap.size = w4.heap.size + 1 := by simp
        rw [e1'] at hh2
        obtain ⟨v9, W9, hcp9, hx9, hg9⟩ := copy_z hh1 ((H0.out.tr HTw4.out).tr hTm) e0
        have hT9 : Tr (fun _ => False) c4 c4 w4 W9 := by
          refine ⟨hg9.os.trans hTm.os, hg9.tape.trans hTm.tape, hg9.output.trans hTm.output, Nat.le_trans hTm.size hg9.size, hTm.wf0, ?_, fun _ _ => rfl, hTm.own, fun i hi hn => ?_⟩
          · exact fun i r hr => by
              obtain ⟨a, b⟩ := hTm.wf i r hr
              have := hg9.size
              exact ⟨by omega, by omega⟩
          · rw [hg9.block i (Nat.lt_of_lt_of_le hi hTm.size) (by intro e; cases e; omega)]
            exact hTm.cold i hi hn
        have hz9 : W9.heap[w4.heap.size + 1]? = some (.cells (fillA 0 0) 5) := by
          rw [hg9.block (w4.heap.size + 1) (blk_lt hh2) (by simp)]
          exact hh2
        obtain ⟨v10, W10, hcp10, hz10, hg10⟩ := copy_z hz9 ((H1.out.tr HTw4.out).tr hT9) e1
        have hT10 : Tr (fun _ => False) c4 c4 w4 W10 := by
          refine ⟨hg10.os.trans hT9.os, hg10.tape.trans hT9.tape, hg10.output.trans hT9.output, Nat.le_trans hT9.size hg10.size, hT9.wf0, ?_, fun _ _ => rfl, hT9.own, fun i hi hn => ?_⟩
          · exact fun i r hr => by
              obtain ⟨a, b⟩ := hT9.wf i r hr
              have := hg10.size
              exact ⟨by omega, by omega⟩
          · rw [hg10.block i (Nat.lt_of_lt_of_le hi hT9.size) (by intro e; cases e; omega)]
            exact hT9.cold i hi hn
        have hx10 : W10.heap[w4.heap.size]? = some (.cells (bcells X).toArray 5) := by
          rw [hg10.block w4.heap.size (blk_lt hx9) (by simp), hx9, HX.out]
        rw [HZ.out] at hz10
        have hz10' := hz10
        have HRX : Hid (Rd kU8 W10 c4 (some ⟨w4.heap.size, 0, none⟩) 64 64 X) := by
          have h := Rd.blk (c := c4) hx10 (HTw4.out.wf.fresh (Nat.le_refl _)) (by omega)
          rw [hX64] at h
          exact h
        have HRZ : Hid (Rd kU8 W10 c4 (some ⟨w4.heap.size + 1, 0, none⟩) 64 64 Z) := by
          have h := Rd.blk (c := c4) hz10 (HTw4.out.wf.fresh (by omega)) (by omega)
          rw [hZ64] at h
          exact h
        have HT10 := Lib.hid hT10
        have HD10 := Lib.hid (HD5.out.tr hT10 (fun h => h))
        have HTw10 := Lib.hid (HTw4.out.then hT10)
        clear hx10 hz10 hz9 hx9 hh1 hh2 hTm hT9 hT10 hg9 hg10
        have hszW : w4.heap.size + 2 ≤ W10.heap.size := by
          have := blk_lt hz10'
          omega
        go_wp2_with fail
        go_loopw [20] (fun i wz => ∃ t : Nat, i = .int .i64 (t : Int) ∧ t ≤ 3 ∧ Hid (Tr (fun _ => False) c4 c4 W10 wz)) (fun i _ => 3 - (intOf i).toNat)
        case atStart => exact ⟨0, rfl, by omega, Tr.refl _ HT10.out.wf⟩
        case round =>
          obtain ⟨t, rfl, ht, HTz⟩ := hrel
          have HTwz := Lib.hid (HTw10.out.then HTz.out)
          have HDz := Lib.hid (HD10.out.tr HTz.out (fun h => h))
          have HRXz := Lib.hid (HRX.out.tr HTz.out)
          have HRZz := Lib.hid (HRZ.out.tr HTz.out)
          rcases Nat.lt_or_ge t 3 with htl | htg
          · have hy := stays_get X Z keep torn mc (k := k) htl
            rw [HY3.out] at hy
            obtain ⟨V, hV⟩ : ∃ V, (if t = k then (if keep.contains (t : Int) = true then Z else if (t : Int) = torn then Z.take mc ++ X.drop mc else X) else X) = V := ⟨_, rfl⟩
            rw [hV] at hy
            have HY := Lib.hid hy
            have HV := Lib.hid hV
            clear hy hV
            go_wp2_with fail
            refine (KRead_ok wr c4 g 3 _ _ _ t htl HTwz.out.wf HDz.out _ HY.out).mono ?_
            rintro e w2 ⟨A, cp, rfl, q_HR, q_HB⟩
            have HR := Lib.hid q_HR
            have HB := Lib.hid q_HB
            clear q_HR q_HB
            have HRV : Hid (Rd kU8 w2 c4 A 64 cp V) := HR.out
            have HTz2 := Lib.hid (HTz.out.then (Tr.of_below HTz.out.wf HB.out))
            have HRX2 := Lib.hid (HRXz.out.below HB.out)
            have HRZ2 := Lib.hid (HRZz.out.below HB.out)
            by_cases htk : t = k
            · have hvk : (if keep.contains (t : Int) = true then Z else if (t : Int) = torn then Z.take mc ++ X.drop mc else X) = V := by rw [← HV.out, if_pos htk]
              subst htk
              have HVK := Lib.hid hvk
              clear hvk HV
              go_wp2_with fail
              go_loopw [24, 25] (fun o i wy => ∃ (s : Nat) (b : Bool), i = .int .i64 (s : Int) ∧ o = .bool b ∧ s ≤ n2 ∧ Hid ((keep.take s).contains (t : Int) = b) ∧ wy = w2) (fun o i _ => n2 - (intOf i).toNat)
              case atStart => exact ⟨0, false, rfl, rfl, by omega, by show _ = _; simp, rfl⟩
              case round =>
                obtain ⟨s, b, rfl, rfl, hs, HBB, rfl⟩ := hrel
                rcases Nat.lt_or_ge s n2 with hsl | hsg
                · obtain ⟨x, hx⟩ : ∃ x, keep[s]? = some x := ⟨_, List.getElem?_eq_getElem (by rw [HL2.out]; exact hsl)⟩
                  obtain ⟨b2, o2, rfl⟩ := H2.out.addr (by omega)
                  have hcx := (((H2.out.tr HTwz.out).below HB.out)).int hx
                  have HTK := Lib.hid (take_snoc' hx)
                  clear hx
                  cases b with
                  | true =>
                    go_wp2_with fail
                    refine ⟨⟨s + 1, true, by go_num, rfl, by omega, ?_, trivial⟩, by simp [intOf]; omega⟩
                    show _ = _
                    have := HBB.out
                    rw [HTK.out]
                    simp only [List.contains_eq_mem, List.mem_append, decide_eq_true_eq] at this ⊢
                    exact .inl this
                  | false =>
                    by_cases hxe : x = (t : Int)
                    · subst hxe
                      go_wp2_with fail
                      refine ⟨⟨s + 1, true, by go_num, rfl, by omega, ?_, trivial⟩, by simp [intOf]; omega⟩
                      show _ = _
                      rw [HTK.out]
                      simp
                    · go_wp2_with fail
                      refine ⟨⟨s + 1, false, by go_num, ?_, by omega, ?_, trivial⟩, by simp [intOf]; omega⟩
                      · simpa using hxe
                      · show _ = _
                        have := HBB.out
                        rw [HTK.out]
                        have hxe' : ¬ (t : Int) = x := fun e => hxe e.symm
                        simp only [List.contains_eq_mem, List.mem_append, decide_eq_false_iff_not, List.mem_singleton] at this ⊢
                        rintro (h | h)
                        · exact this h
                        · exact hxe' h
                · obtain rfl : s = n2 := by omega
                  have HKC : Hid (keep.contains (t : Int) = b) := by
                    show _ = _
                    have := HBB.out
                    rw [List.take_of_length_le (by rw [HL2.out]; exact Nat.le_refl _)] at this
                    exact this
                  cases b with
                  | true =>
                    have hvz : V = Z := by rw [← HVK.out, if_pos HKC.out]
                    subst hvz
                    go_wp2_with fail
                    refine (Same_any _ c4 A _ 64 cp 64 64 _ _ HRV.out HRZ2.out).mono ?_
                    rintro e w3 ⟨rfl, rfl⟩
                    go_wp2_with fail
                    exact ⟨⟨t + 1, by go_num, by omega, HTz2⟩, by simp [intOf]; omega⟩
                  | false =>
                    by_cases hto : (t : Int) = torn
                    · have hvz : V = Z.take mc ++ X.drop mc := by rw [← HVK.out, HKC.out, if_neg (by decide), if_pos hto]
                      subst hto
                      have HVZ := Lib.hid hvz
                      clear HVK hvz
                      have hmc0' : (0 : Int) ≤ (mc : Int) := by omega
                      have hmc64' : (mc : Int) ≤ 64 := by omega
                      go_upto_region 37 with fail
                      go_cut [23] (fun o wx => ∃ A9 cp9, o = .slice A9 64 cp9 ∧ Hid (Rd kU8 wx c4 A9 64 cp9 (Z.take mc ++ X.drop mc)) ∧ Hid (Below wr.heap.size wr wx))
                      case first =>
                        have hsum : mc + (64 - mc) = 64 := by omega
                        rcases Nat.lt_or_ge mc 64 with hm1 | hm1
                        · have hne64 : ¬ 64 = mc := by omega
                          have hRd : Rd kU8 wr c4 (some ⟨w4.heap.size, mc, none⟩) (64 - mc) (64 - mc) (X.drop mc) := by
                            have h := HRX2.out.drop (m := mc) hmc64
                            rw [if_neg hne64] at h
                            simpa [addr_add, kU8] using h
                          have HRD := Lib.hid hRd
                          clear hRd
                          have tok1 : True := trivial
                          go_region_law (first
                            | (have _t := tok1; refine step_bytes (c := c4) (.tmp 125) (.tmp 128) 23 5 rfl rfl Try.underlying23 u8_infoD [] (Z.take mc) (by simp [Act.eval, Act.put]) (by simp [Act.eval, Act.put]) (b0 := wr.heap.size) (below_alloc_drew wr _).size (own_empty wr wr 5 (Nat.le_refl _)).drew ((HRZ2.out.take hmc64).below (below_alloc_drew wr _)) (by omega) ?_; intro A1 cp1 w1 q_own q_gr; simp only [Nat.zero_add, List.nil_append] at q_own q_gr ⊢; have HO1 := Lib.hid q_own; have HB1 : Hid (Below wr.heap.size wr w1) := (below_alloc_drew wr _).grown q_gr (below_alloc_drew wr _).size (fun k hk => by cases hk; exact Nat.le_refl _); clear q_own q_gr tok1)
                            | (refine step_bytes (c := c4) (.tmp 129) (.tmp 132) 23 5 rfl rfl Try.underlying23 u8_infoD (Z.take mc) (X.drop mc) (by simp [Act.eval, Act.put]) (by simp [Act.eval, Act.put, hne64]) (b0 := wr.heap.size) HB1.out.size HO1.out (HRD.out.below HB1.out) (by omega) ?_; intro A2 cp2' w5 q_own q_gr; rw [hsum] at q_own ⊢; have HO2 := Lib.hid q_own; have HB2 : Hid (Below wr.heap.size wr w5) := HB1.out.grown q_gr HB1.out.size (fun k hk => (HO1.out.lt k hk).1); clear q_own q_gr))
                          go_wp2_with fail
                          go_meet
                          obtain ⟨A3, cp3, he3, hR3⟩ := Rd.of_own_bytes (c := c4) HO2.out (fun k hk => HTz2.out.wf.fresh (HO2.out.lt k hk).1)
                          cases he3
                          exact ⟨_, _, rfl, hR3, HB2.out⟩
                        · obtain rfl : mc = 64 := by omega
                          have hRd : Rd kU8 wr c4 (some ⟨w4.heap.size, 0, none⟩) (64 - 64) (64 - 64) (X.drop 64) := by
                            have h := HRX2.out.drop (m := 64) (Nat.le_refl _)
                            rw [if_pos rfl] at h
                            exact h
                          have HRD := Lib.hid hRd
                          clear hRd
                          have tok1 : True := trivial
                          go_region_law (first
                            | (have _t := tok1; refine step_bytes (c := c4) (.tmp 125) (.tmp 128) 23 5 rfl rfl Try.underlying23 u8_infoD [] (Z.take 64) (by simp [Act.eval, Act.put]) (by simp [Act.eval, Act.put]) (b0 := wr.heap.size) (below_alloc_drew wr _).size (own_empty wr wr 5 (Nat.le_refl _)).drew ((HRZ2.out.take hmc64).below (below_alloc_drew wr _)) (by omega) ?_; intro A1 cp1 w1 q_own q_gr; simp only [Nat.zero_add, List.nil_append] at q_own q_gr ⊢; have HO1 := Lib.hid q_own; have HB1 : Hid (Below wr.heap.size wr w1) := (below_alloc_drew wr _).grown q_gr (below_alloc_drew wr _).size (fun k hk => by cases hk; exact Nat.le_refl _); clear q_own q_gr tok1)
                            | (refine step_bytes (c := c4) (.tmp 129) (.tmp 132) 23 5 rfl rfl Try.underlying23 u8_infoD (Z.take 64) (X.drop 64) (by simp [Act.eval, Act.put]) (by simp [Act.eval, Act.put]) (b0 := wr.heap.size) HB1.out.size HO1.out (HRD.out.below HB1.out) (by omega) ?_; intro A2 cp2' w5 q_own q_gr; rw [hsum] at q_own ⊢; have HO2 := Lib.hid q_own; have HB2 : Hid (Below wr.heap.size wr w5) := HB1.out.grown q_gr HB1.out.size (fun k hk => (HO1.out.lt k hk).1); clear q_own q_gr))
                          go_wp2_with fail
                          go_meet
                          obtain ⟨A3, cp3, he3, hR3⟩ := Rd.of_own_bytes (c := c4) HO2.out (fun k hk => HTz2.out.wf.fresh (HO2.out.lt k hk).1)
                          cases he3
                          exact ⟨_, _, rfl, hR3, HB2.out⟩
                      case rest =>
                        obtain ⟨A9, cp9, rfl, HR9, HB9⟩ := hcut
                        have HT9 := Lib.hid (HTz2.out.then (Tr.of_below HTz2.out.wf HB9.out))
                        rw [← HVZ.out] at HR9
                        go_wp2_with fail
                        refine (Same_any _ c4 A _ 64 cp 64 _ _ _ (HRV.out.below HB9.out) HR9.out).mono ?_
                        rintro e w3 ⟨rfl, rfl⟩
                        go_wp2_with fail
                        exact ⟨⟨t + 1, by go_num, by omega, HT9⟩, by simp [intOf]; omega⟩
                    · have hto' : ¬ torn = (t : Int) := fun e => hto e.symm
                      have hvx : V = X := by rw [← HVK.out, HKC.out, if_neg (by decide), if_neg hto]
                      subst hvx
                      go_wp2_with fail
                      refine (Same_any _ c4 A _ 64 cp 64 64 _ _ HRV.out HRX2.out).mono ?_
                      rintro e w3 ⟨rfl, rfl⟩
                      go_wp2_with fail
                      exact ⟨⟨t + 1, by go_num, by omega, HTz2⟩, by simp [intOf]; omega⟩
            · have hvx : V = X := by rw [← HV.out, if_neg htk]
              subst hvx
              have htk' : ¬ (t : Int) = (k : Int) := by omega
              go_wp2_with fail
              refine (Same_any _ c4 A _ 64 cp 64 64 _ _ HRV.out HRX2.out).mono ?_
              rintro e w3 ⟨rfl, rfl⟩
              go_wp2_with fail
              exact ⟨⟨t + 1, by go_num, by omega, HTz2⟩, by simp [intOf]; omega⟩
          · obtain rfl : t = 3 := by omega
            go_wp2_with fail
            refine (KSync_nil _).mono ?_
            rintro e w5 ⟨rfl, rfl⟩
            go_wp2_with fail
            refine (KCrash_nil _ _ _ _ _ _).mono ?_
            rintro e w5 ⟨rfl, rfl⟩
            go_wp2_with fail
            refine (KRead_nil _ _).mono ?_
            rintro e w5 ⟨rfl, rfl⟩
            go_wp2_with fail
            refine (told16 _).mono ?_
            rintro e w6 ⟨rfl, q_HB6⟩
            have HB6 := Lib.hid q_HB6
            clear q_HB6
            have HT6 := Lib.hid (HTwz.out.then (Tr.of_below HTwz.out.wf HB6.out))
            have HD6 := Lib.hid (HDz.out.tr (Tr.of_below (M := fun _ => False) HTwz.out.wf HB6.out) (fun h => h))
            go_wp2_with fail
            refine (KDirty_any w6 c4 g 3 _ _ _ (by omega) HT6.out.wf HD6.out).mono ?_
            rintro e w7 ⟨A7, m7, cp7, rfl, q_HR7, q_HB7⟩
            have HR7 := Lib.hid q_HR7
            have HB7 := Lib.hid q_HB7
            clear q_HR7 q_HB7
            have hm7 : 0 = m7 := by
              have h := HR7.out.len
              rw [dirtyL_none] at h
              exact h
            subst hm7
            have HT7 := Lib.hid (HT6.out.then (Tr.of_below HT6.out.wf HB7.out))
            go_wp2_with fail
            refine (KWrite_nil _ _ _ _ _).mono ?_
            rintro e w8 ⟨rfl, rfl⟩
            go_wp2_with fail
            refine (KDirty_nil _).mono ?_
            rintro e w8 ⟨rfl, rfl⟩
            go_wp2_with fail
            refine (KLen_nil _).mono ?_
            rintro e w8 ⟨rfl, rfl⟩
            go_wp2_with fail
            refine bodyPost_ret (results_tmp rfl _ _ _) rfl ?_
            exact ⟨rfl, HT7.out.below (by intro r hr e; exact e)⟩
  · exact DiskStays_few w A0 n0 cp0 la A1 n1 cp1 lb at_ A2 n2 cp2 keep torn nn h0 h1 h2 hgood
end Go.Proofs.Ytalihocoekplgaa
