/- The law DiskTorn: its walk. -/
import Derived.Test.YtalihocoekplgaaDskM
import Derived.Deep.DeepCutAuto
set_option linter.unusedVariables false
set_option linter.unusedSimpArgs false
namespace Go.Proofs.Ytalihocoekplgaa
open Go.RowKit

theorem wrap_id {x : Int} (h0 : 0 ≤ x) (h1 : x ≤ 9223372036854775807) : IntKind.i64.wrap x = x := by
  simp [IntKind.wrap, IntKind.signed, IntKind.bits]
  omega
set_option maxRecDepth 100000 in
set_option maxHeartbeats 4000000 in
theorem DiskTorn_any (w : World) (a b n sectors at_ : Int) (ha : 0 ≤ a ∧ a ≤ 255) (hb : 0 ≤ b ∧ b ≤ 255) : Calls Try.prog 4 #[.int .u8 a, .int .u8 b, .int .i64 n, .int .i64 sectors, .int .i64 at_] w (BoolPost w true) := by
  obtain ⟨a', rfl⟩ := u8_of a ha
  obtain ⟨b', rfl⟩ := u8_of b hb
  clear ha hb
  obtain ⟨k0, hk0, hk20⟩ := remS sectors 20 (by omega) (by omega)
  obtain ⟨k, hk⟩ : ∃ k, k0 + 1 = k := ⟨_, rfl⟩
  have hk1 : IntKind.i64.wrap (1 + (k0 : Int)) = (k : Int) := by
    rw [← hk, wrap_id] <;> omega
  obtain ⟨q, hq, hqk⟩ := remS at_ k (by omega) (by omega)
  have hmk := fun W => make64 W .i64 .i64
  simp at hk0 hq
  go_enter Try.func4, Try.ntmps4
  go_wp2_with fail
  refine (KNew_ok w (fun _ => none) k (by omega) (Wf.none w)).mono ?_
  rintro e w1 ⟨g, c1, rfl, q_HT1, hg, q_HD1⟩
  have HT1 := Lib.hid q_HT1
  have HD1 := Lib.hid q_HD1
  clear q_HT1 q_HD1
  go_upto_region 5 with fail
  go_cut [14, 15] (fun x y wx => ∃ bx bz : Nat, x = .slice (some ⟨bx, 0, none⟩) 64 64 ∧ y = .slice (some ⟨bz, 0, none⟩) 64 64 ∧ bx ≠ bz ∧ w1.heap.size ≤ bx ∧ w1.heap.size ≤ bz ∧ Hid (Tr (fun _ => False) c1 c1 w1 wx) ∧ Hid (wx.heap[bx]? = some (.cells (fillA 0 a') 5)) ∧ Hid (wx.heap[bz]? = some (.cells (fillA 0 b') 5)))
  case first =>
    go_region_held3 (fun _ => True) (first | trivial) (fail)
    all_goals
      go_wp2_with fail
      go_meet
      have hT := (((Tr.refl (fun _ => False) HT1.out.wf).alloc (.cells (fillA 0 0) 5)).alloc (.cells (fillA 0 0) 5)).drew
      have hh2 := heap_alloc_new (w1.alloc (.cells (fillA 0 0) 5)) (.cells (fillA 0 0) 5)
      have hh1 := (below_alloc (w1.alloc (.cells (fillA 0 0) 5)) (.cells (fillA 0 0) 5)).block w1.heap.size (by simp)
      rw [heap_alloc_new] at hh1
      have e1 : (w1.alloc (.cells (fillA 0 0) 5)).heap.size = w1.heap.size + 1 := by simp
      rw [e1] at hh2
      first
        | exact ⟨w1.heap.size, w1.heap.size + 1, rfl, rfl, by omega, by omega, by omega, hT, hh1, hh2⟩
        | exact ⟨w1.heap.size + 1, w1.heap.size, rfl, rfl, by omega, by omega, by omega, hT, hh2, hh1⟩
  case rest =>
    obtain ⟨bx, bz, rfl, rfl, hxz, hbx, hbz, HT2, HX2, HZ2⟩ := hcut
    go_wp2_with fail
    go_loopw [16] (fun i wr => ∃ j : Nat, i = .int .i64 (j : Int) ∧ j ≤ 64 ∧ Hid (Tr (fun _ => False) c1 c1 w1 wr) ∧ Hid (wr.heap[bx]? = some (.cells (fillA j a') 5)) ∧ Hid (wr.heap[bz]? = some (.cells (fillA j b') 5))) (fun i _ => 64 - (intOf i).toNat)
    case atStart => exact ⟨0, rfl, by omega, HT2, HX2, HZ2⟩
    case round =>
      obtain ⟨j, rfl, hj, HT3, HX3, HZ3⟩ := hrel
      rcases Nat.lt_or_ge j 64 with hlt | hge
      · obtain ⟨ux, hux⟩ := fillA_cell HX3.out hj hlt
        obtain ⟨uz, huz⟩ := fillA_cell HZ3.out hj hlt
        have hfx := blk_free HX3.out j
        have hfz := blk_free HZ3.out j
        have hzx : bz ≠ bx := Ne.symm hxz
        go_wp2_with fail
        refine ⟨⟨j + 1, by go_num, by omega, ?_, ?_, ?_⟩, by simp [intOf]; omega⟩
        · exact (HT3.out.newset hbx j _).newset hbz j _
        · show _ = _
          rw [heap_of_setCell _ _ _ _ (show bx ≠ bz from hxz), blk_set HX3.out, fillA_set hlt]
        · show _ = _
          rw [blk_set (by rw [heap_of_setCell _ _ _ _ (show bz ≠ bx from hzx)]; exact HZ3.out), fillA_set hlt]
      · obtain rfl : j = 64 := by omega
        have hx3 := HX3.out
        have hz3 := HZ3.out
        unfold fillA at hx3 hz3
        rw [fillL_full] at hx3 hz3
        have HRX := Lib.hid (Rd.blk (c := c1) hx3 (HT1.out.wf.fresh hbx) (by simp))
        have HRZ := Lib.hid (Rd.blk (c := c1) hz3 (HT1.out.wf.fresh hbz) (by simp))
        simp only [List.length_replicate] at HRX HRZ
        have hx64 : (List.replicate 64 a').length = 64 := by simp
        have hz64 : (List.replicate 64 b').length = 64 := by simp
        obtain ⟨X, hX⟩ : ∃ X, List.replicate 64 a' = X := ⟨_, rfl⟩
        obtain ⟨Z, hZ⟩ : ∃ Z, List.replicate 64 b' = Z := ⟨_, rfl⟩
        rw [hX] at HRX hx64
        rw [hZ] at HRZ hz64
        have HX := Lib.hid hX
        have HZ := Lib.hid hZ
        have HD3 := Lib.hid (HD1.out.tr HT3.out (fun h => h))
        have HT3' := Lib.hid (HT1.out.then HT3.out)
        clear hx3 hz3 hX hZ
        go_wp2_with fail
        refine (KWrite_ok wr c1 g k _ _ 0 q _ 64 64 X hqk (by omega) (by omega) HT3'.out.wf HD3.out HRX.out).mono ?_
        rintro e w4 ⟨rfl, c4, q_HT4, q_HD4⟩
        have HT4 := Lib.hid q_HT4
        have HD4 := Lib.hid q_HD4
        clear q_HT4 q_HD4
        have HTg4 := Lib.hid ((HT3'.out.mono (M' := (· = g)) (fun _ _ h => h.elim)).then HT4.out)
        go_wp2_with fail
        refine (KSync_any w4 c4 g k _ _ _ HTg4.out.wf HD4.out).mono ?_
        rintro e w5 ⟨rfl, c5, q_HT5, q_HD5⟩
        have HT5 := Lib.hid q_HT5
        have HD5 := Lib.hid q_HD5
        clear q_HT5 q_HD5
        have HTg5 := Lib.hid (HTg4.out.then HT5.out)
        have HRZ5 := Lib.hid ((HRZ.out.tr HT4.out).tr HT5.out)
        go_wp2_with fail
        refine (KWrite_ok w5 c5 g k _ _ 0 q _ 64 64 Z hqk (by omega) (by omega) HTg5.out.wf HD5.out HRZ5.out).mono ?_
        rintro e w6 ⟨rfl, c6, q_HT6, q_HD6⟩
        have HT6 := Lib.hid q_HT6
        have HD6 := Lib.hid q_HD6
        clear q_HT6 q_HD6
        have HTg6 := Lib.hid (HTg5.out.then HT6.out)
        go_wp2_with fail
        refine (KDirty_any w6 c6 g k _ _ _ (by omega) HTg6.out.wf HD6.out).mono ?_
        rintro e w7 ⟨A7, m7, cp7, rfl, q_HR7, q_HB7⟩
        have HR7 := Lib.hid q_HR7
        have HB7 := Lib.hid q_HB7
        clear q_HR7 q_HB7
        have hm7 : 1 = m7 := by
          have h := HR7.out.len
          rw [dirtyL_one hqk] at h
          exact h
        subst hm7
        have HTg7 := Lib.hid (HTg6.out.then (Tr.of_below HTg6.out.wf HB7.out))
        have HD7 := Lib.hid (HD6.out.tr (Tr.of_below (M := fun _ => False) HTg6.out.wf HB7.out) (fun h => h))
        have hmem : ([(k : Int), -1] : List Int).contains (q : Int) = false := by
          simp
          omega
        have HK8 : Hid (Rd kInt (w7.alloc (.cells #[.int .i64 (k : Int), .int .i64 (-1)] 3)) c6 (some ⟨w7.heap.size, 0, none⟩) 2 2 [(k : Int), -1]) := Rd.of_alloc2 (K := kInt) (l := [(k : Int), -1]) HTg7.out.wf 3 (reps_int w7 c6 [(k : Int), -1]) (by simp)
        have HTg8 := Lib.hid (HTg7.out.alloc (.cells #[.int .i64 (k : Int), .int .i64 (-1)] 3))
        have HD8 := Lib.hid (HD7.out.tr (Tr.new (c := c6) HTg7.out.wf (.cells #[.int .i64 (k : Int), .int .i64 (-1)] 3)) (fun h => h))
        obtain ⟨Y1, hY1⟩ : ∃ Y1, crashY (syncY (List.replicate k zsec) (Dt.put (fun _ => none) (q : Int) (pad X))) (Dt.put (fun _ => none) (q : Int) (pad Z)) [(k : Int), -1] (q : Int) (mcut n) = Y1 := ⟨_, rfl⟩
        obtain ⟨mc, hmc⟩ : ∃ mc, mcut n = mc := ⟨_, rfl⟩
        have hmc64 : mc ≤ 64 := by rw [← hmc]; exact mcut_le n
        have hmx : max 0 (min n 64) = (mc : Int) := by
          rw [← hmc]
          unfold mcut
          omega
        have hy1 : Y1[q]? = some (Z.take mc ++ X.drop mc) := by
          rw [← hY1, crashY_get, syncY_get, List.getElem?_replicate, if_pos hqk, ← hmc]
          simp only [Option.map_some, crashV, Dt.put, if_pos, Option.elim_some, Option.getD_some, crash1, hmem, pad_full hx64, pad_full hz64]
          rfl
        have HMEM := Lib.hid hmem
        have HY1 := Lib.hid hY1
        have HYQ := Lib.hid hy1
        have HMC := Lib.hid hmc
        clear hmem hY1 hy1 hmc
        go_wp2_with fail
        refine (KCrash_any _ c6 g k _ _ _ _ 2 2 [(k : Int), -1] (q : Int) n (by omega) HTg8.out.wf HD8.out HK8.out).mono ?_
        rintro e w9 ⟨rfl, c9, q_HT9, q_HD9⟩
        have HT9 := Lib.hid q_HT9
        have HD9 := Lib.hid q_HD9
        clear q_HT9 q_HD9
        have HTg9 := Lib.hid (HTg8.out.then HT9.out)
        have hd9 := HD9.out
        rw [HY1.out] at hd9
        have HDE9 := Lib.hid hd9
        clear hd9
        go_wp2_with fail
        refine (KRead_ok w9 c9 g k _ _ _ q hqk HTg9.out.wf HDE9.out _ HYQ.out).mono ?_
        rintro e w10 ⟨A10, cp10, rfl, q_HR10, q_HB10⟩
        have HR10 := Lib.hid q_HR10
        have HB10 := Lib.hid q_HB10
        clear q_HR10 q_HB10
        have HTg10 := Lib.hid (HTg9.out.then (Tr.of_below HTg9.out.wf HB10.out))
        have HD10 := Lib.hid (HDE9.out.tr (Tr.of_below (M := fun _ => False) HTg9.out.wf HB10.out) (fun h => h))
        have hbyte : ∀ j z, (Z.take mc ++ X.drop mc)[j]? = some z → z = if j < mc then b' else a' := by
          rw [← HX.out, ← HZ.out]
          intro j z h
          rw [List.getElem?_append] at h
          simp only [List.length_take, List.length_replicate, List.getElem?_take, List.getElem?_drop, List.getElem?_replicate] at h
          split at h
          · rename_i h1
            rw [if_pos (by omega)] at h
            rw [if_pos (by omega)] at h
            rw [if_pos (by omega)]
            exact (Option.some.inj h).symm
          · rename_i h1
            rw [if_neg (by omega)]
            split at h
            · exact (Option.some.inj h).symm
            · cases h
        have HBY := Lib.hid hbyte
        clear hbyte
        obtain ⟨b10, o10, rfl⟩ := HR10.out.addr (by omega)
        have hmc1 : (mc : Int) ≤ 64 := by omega
        go_wp2_with fail
        go_loopw [21] (fun i wr => ∃ j : Nat, i = .int .i64 (j : Int) ∧ j ≤ 64 ∧ wr = w10) (fun i _ => 64 - (intOf i).toNat)
        case atStart => exact ⟨0, rfl, by omega, rfl⟩
        case round =>
          obtain ⟨j, rfl, hj, rfl⟩ := hrel
          rcases Nat.lt_or_ge j 64 with hlt | hge
          · have hlen : (Z.take mc ++ X.drop mc).length = 64 := by simp; omega
            have hjz := List.getElem?_eq_getElem (l := Z.take mc ++ X.drop mc) (i := j) (by omega)
            have hcell := HR10.out.byte (k := j) (by omega)
            have hbz : ((Z.take mc ++ X.drop mc)[j]?.getD 0) = if j < mc then b' else a' := by rw [hjz]; exact HBY.out j _ hjz
            have hg0 : (Option.none.getD (Z.take mc ++ X.drop mc)) = Z.take mc ++ X.drop mc := rfl
            rw [hg0, hbz] at hcell
            clear hjz hbz hg0
            rcases Nat.lt_or_ge j mc with h1 | h1
            · rw [if_pos h1] at hcell
              go_wp2_with fail
              exact ⟨⟨j + 1, by go_num, by omega, trivial⟩, by simp [intOf]; omega⟩
            · rw [if_neg (by omega)] at hcell
              go_wp2_with fail
              exact ⟨⟨j + 1, by go_num, by omega, trivial⟩, by simp [intOf]; omega⟩
          · obtain rfl : j = 64 := by omega
            go_wp2_with fail
            refine (told16 _).mono ?_
            rintro e w11 ⟨rfl, q_HB11⟩
            have HB11 := Lib.hid q_HB11
            clear q_HB11
            have HTg11 := Lib.hid (HTg10.out.then (Tr.of_below HTg10.out.wf HB11.out))
            have HD11 := Lib.hid (HD10.out.tr (Tr.of_below (M := fun _ => False) HTg10.out.wf HB11.out) (fun h => h))
            go_wp2_with fail
            refine (KDirty_any w11 c9 g k _ _ _ (by omega) HTg11.out.wf HD11.out).mono ?_
            rintro e w12 ⟨A12, m12, cp12, rfl, q_HR12, q_HB12⟩
            have HR12 := Lib.hid q_HR12
            have HB12 := Lib.hid q_HB12
            clear q_HR12 q_HB12
            have hm12 : 0 = m12 := by
              have h := HR12.out.len
              rw [dirtyL_none] at h
              exact h
            subst hm12
            have HTg12 := Lib.hid (HTg11.out.then (Tr.of_below HTg11.out.wf HB12.out))
            go_wp2_with fail
            refine bodyPost_ret (results_tmp rfl _ _ _) rfl ?_
            exact ⟨rfl, HTg12.out.below (by intro r hr e; omega)⟩
end Go.Proofs.Ytalihocoekplgaa
