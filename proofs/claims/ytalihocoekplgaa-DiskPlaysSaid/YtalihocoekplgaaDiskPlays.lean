/- The law DiskPlays: its walk. -/
import Derived.Test.YtalihocoekplgaaOpenK
set_option linter.unusedVariables false
set_option linter.unusedSimpArgs false
namespace Go.Proofs.Ytalihocoekplgaa
open Go.RowKit

set_option maxRecDepth 100000 in
set_option maxHeartbeats 8000000 in
theorem DiskPlays_any (w : World) (nn : Int) (B : Option Addr) (m cq : Nat) (l : List Stp) (hx : Rd kOp w (fun _ => none) B m cq l) : Calls Try.prog 5 #[.int .i64 nn, .slice B m cq] w (BoolPost w true) := by
  have hln := hx.1
  have hmm := hx.max
  obtain ⟨n, hn, hn41⟩ := remS nn 41 (by omega) (by omega)
  simp at hn
  have HX := Lib.hid hx
  have HLN := Lib.hid hln
  clear hx hln
  go_enter Try.func5, Try.ntmps5
  go_wp2_with fail
  refine (KNew_ok w (fun _ => none) n (by omega) (Wf.none w)).mono ?_
  rintro e w1 ⟨g, c1, rfl, q_HT1, hg, q_HD1⟩
  have HT1 := Lib.hid q_HT1
  have HD1 := Lib.hid q_HD1
  clear q_HT1 q_HD1
  go_wp2_with fail
  refine (RNew_any w1 c1 n (by omega) HT1.out.wf).mono ?_
  rintro e w2 ⟨gx, c2, rfl, q_HT2, hgx, q_HR2⟩
  have HT2 := Lib.hid q_HT2
  have HR2 := Lib.hid q_HR2
  clear q_HT2 q_HR2
  have HTW2 := Lib.hid (HT1.out.then HT2.out)
  have HD2 := Lib.hid (HD1.out.tr HT2.out (fun h => h))
  have hgg : ¬ (g = gx) := by
    intro e
    have := HD1.out.lt
    omega
  have hgx' : w.heap.size ≤ gx := by have := HT1.out.size; omega
  go_wp2_with fail
  go_loopw [9] (fun i wr => ∃ (k : Nat) (c' : Col) (Y : List (List UInt8)) (D : Dt), i = .int .i64 (k : Int) ∧ k ≤ m ∧ k ≤ 60 ∧ Hid (Tr (fun _ => False) (fun _ => none) c' w wr) ∧ Hid (Dk wr c' g n Y D k) ∧ Hid (RDk wr c' gx n (relR Y D)) ∧ Hid (Rd kOp wr c' B m cq l)) (fun i _ => m - (intOf i).toNat)
  case atStart =>
    have hr := HR2.out
    rw [← relR_new] at hr
    exact ⟨0, c2, _, _, rfl, Nat.zero_le _, Nat.zero_le _, HTW2, HD2, hr, HX.out.tr HTW2.out⟩
  case round =>
    obtain ⟨k, c', Y, D, rfl, hk, hk60, HT, HD, HR, HXR⟩ := hrel
    by_cases hlt : k < m ∧ k < 60
    · obtain ⟨hlt, hl60⟩ := hlt
      have hk1 : (k : Int) < (m : Int) := by omega
      have hk2 : (k : Int) < 60 := by omega
      have hk0 : (0 : Int) ≤ (k : Int) := by omega
      obtain ⟨bb, off, rfl⟩ := HXR.out.addr (by omega)
      obtain ⟨x, hxk⟩ : ∃ x, l[k]? = some x := ⟨_, List.getElem?_eq_getElem (by rw [HLN.out]; exact hlt)⟩
      obtain ⟨A3, n3, cp3, B4, m4, cq4, hR3, hR4, e0, e1, e2, e3, e4⟩ := HXR.out.op hxk
      have hm3 := hR3.max
      have hm4 := hR4.max
      obtain ⟨kind, at_, nx, bs, keep⟩ := x
      dsimp only at *
      clear hxk
      have HR3 := Lib.hid hR3
      have HR4 := Lib.hid hR4
      clear hR3 hR4
      have hbn : c' wr.heap.size = none := HT.out.wf.fresh (Nat.le_refl _)
      have hT1 : Tr (fun _ => False) c' c' wr (wr.alloc (.cells #[.int .i64 kind, .int .i64 at_, .int .i64 nx, .slice A3 n3 cp3, .slice B4 m4 cq4] 43)) := Tr.new HT.out.wf _
      have hbx := heap_alloc_new wr (.cells #[.int .i64 kind, .int .i64 at_, .int .i64 nx, .slice A3 n3 cp3, .slice B4 m4 cq4] 43)
      have HT1' := Lib.hid hT1
      have HTW := Lib.hid (HT.out.then hT1)
      have HDW := Lib.hid (HD.out.tr hT1 (fun h => h))
      have HRW := Lib.hid (HR.out.tr hT1 (fun h => h))
      have HXW := Lib.hid (HXR.out.tr hT1)
      have HR3W := Lib.hid (HR3.out.tr hT1)
      have HR4W := Lib.hid (HR4.out.tr hT1)
      have HBX := Lib.hid hbx
      clear hT1 hbx
      by_cases hgood : n3 ≤ 100 ∧ m4 ≤ 50
      · obtain ⟨f1, f2⟩ := hgood
        have f1' : ¬ (100 : Int) < (n3 : Int) := by omega
        have f2' : ¬ (50 : Int) < (m4 : Int) := by omega
        by_cases hk0' : kind = 0
        · subst hk0'
          have hS : (wr.alloc (.cells #[.int .i64 0, .int .i64 at_, .int .i64 nx, .slice A3 n3 cp3, .slice B4 m4 cq4] 43)).drew.cell? ⟨wr.heap.size, 0, none⟩ = some (.int .i64 0) ∧ (wr.alloc (.cells #[.int .i64 0, .int .i64 at_, .int .i64 nx, .slice A3 n3 cp3, .slice B4 m4 cq4] 43)).drew.cell? ⟨wr.heap.size, 1, none⟩ = some (.int .i64 at_) ∧ (wr.alloc (.cells #[.int .i64 0, .int .i64 at_, .int .i64 nx, .slice A3 n3 cp3, .slice B4 m4 cq4] 43)).drew.cell? ⟨wr.heap.size, 2, none⟩ = some (.int .i64 nx) ∧ (wr.alloc (.cells #[.int .i64 0, .int .i64 at_, .int .i64 nx, .slice A3 n3 cp3, .slice B4 m4 cq4] 43)).drew.cell? ⟨wr.heap.size, 3, none⟩ = some (.slice A3 n3 cp3) ∧ (wr.alloc (.cells #[.int .i64 0, .int .i64 at_, .int .i64 nx, .slice A3 n3 cp3, .slice B4 m4 cq4] 43)).drew.cell? ⟨wr.heap.size, 4, none⟩ = some (.slice B4 m4 cq4) :=
            ⟨blk_cell HBX.out 0, blk_cell HBX.out 1, blk_cell HBX.out 2, blk_cell HBX.out 3, blk_cell HBX.out 4⟩
          have hbl : wr.heap.size < (wr.alloc (.cells #[.int .i64 0, .int .i64 at_, .int .i64 nx, .slice A3 n3 cp3, .slice B4 m4 cq4] 43)).drew.heap.size := blk_lt HBX.out
          have hT0 := (Tr.refl (fun _ => False) HTW.out.wf).drew
          have HTD := Lib.hid (HTW.out.drew)
          have HDD := Lib.hid (HDW.out.tr hT0 (fun h => h))
          have HRD := Lib.hid (HRW.out.tr hT0 (fun h => h))
          have HXD := Lib.hid (HXW.out.tr hT0)
          have HR3D := Lib.hid (HR3W.out.tr hT0)
          clear hT0
          generalize hrr : wrE n at_ n3 = rr
          have HRR := Lib.hid hrr
          clear hrr
          go_wp2_with fail
          generalize wr.alloc (.cells #[.int .i64 0, .int .i64 at_, .int .i64 nx, .slice A3 n3 cp3, .slice B4 m4 cq4] 43) = W0 at *
          go_region_held3 (fun w' => w'.cell? ⟨wr.heap.size, 0, none⟩ = some (.int .i64 0) ∧ w'.cell? ⟨wr.heap.size, 1, none⟩ = some (.int .i64 at_) ∧ w'.cell? ⟨wr.heap.size, 2, none⟩ = some (.int .i64 nx) ∧ w'.cell? ⟨wr.heap.size, 3, none⟩ = some (.slice A3 n3 cp3) ∧ w'.cell? ⟨wr.heap.size, 4, none⟩ = some (.slice B4 m4 cq4))
            (first | assumption | exact box5_kp kk8 hbl hbn hS | exact box5_kp kk6 hbl hbn hS | exact box5_kp kk7 hbl hbn hS | exact box5_kp kk5 hbl hbn hS)
            (first
            | (go_at_call 19; refine (RWrite_all w5 c5 gx n Y (D) at_ A3 n3 cp3 bs HT5.out.wf (HRD.out.tr HT5.out (fun e => hgg e.symm)) (HR3D.out.tr HT5.out)).mono ?_; rintro e w6 ⟨hv6, ht6, hd6⟩; rw [HRR.out] at hv6; subst hv6; have HT6 := Lib.hid ht6; have HR6 := Lib.hid hd6; have kk6 := kk5.trans ht6.kp; clear ht6 hd6)
            | (go_at_call 11; refine (KWrite_all w7 c' g n Y D k at_ A3 n3 cp3 bs (by omega) HT7.out.wf (HDD.out.tr HT7.out hgg) (HR3D.out.tr HT7.out)).mono ?_; rintro e w8 ⟨hv8, c8, ht8, hd8⟩; rw [HRR.out] at hv8; subst hv8; have HT8 := Lib.hid ht8; have HD8 := Lib.hid hd8; have kk8 := kk7.trans ht8.kp; clear ht8 hd8)
            | (go_at_call 11; refine (KWrite_all W0.drew c' g n Y D k at_ A3 n3 cp3 bs (by omega) HTD.out.wf HDD.out HR3D.out).mono ?_; rintro e w5 ⟨hv5, c5, ht5, hd5⟩; rw [HRR.out] at hv5; subst hv5; have HT5 := Lib.hid ht5; have HD5 := Lib.hid hd5; have kk5 := ht5.kp; clear ht5 hd5)
            | (go_at_call 19; refine (RWrite_all W0.drew c' gx n Y D at_ A3 n3 cp3 bs HTD.out.wf HRD.out HR3D.out).mono ?_; rintro e w7 ⟨hv7, ht7, hd7⟩; rw [HRR.out] at hv7; subst hv7; have HT7 := Lib.hid ht7; have HR7 := Lib.hid hd7; have kk7 := ht7.kp; clear ht7 hd7))
          have HT06 := Lib.hid ((HTD.out.low HT5.out hg).low HT6.out hgx')
          have HD6 := Lib.hid (HD5.out.tr HT6.out hgg)
          have HX6 := Lib.hid ((HXD.out.tr HT5.out).tr HT6.out)
          go_wp2_with fail
          refine (Same16_any w6 c5 g gx n Y _ (k + 1) (by omega) HT06.out.wf HD6.out HR6.out).mono ?_
          rintro e w9 ⟨rfl, q_HB9⟩
          have HB9 := Lib.hid q_HB9
          clear q_HB9
          have hb := Tr.of_below (M := fun _ => False) HT06.out.wf HB9.out
          have HT9 := Lib.hid (HT06.out.then hb)
          have HD9 := Lib.hid (HD6.out.tr hb (fun h => h))
          have HR9 := Lib.hid (HR6.out.tr hb (fun h => h))
          have HX9 := Lib.hid (HX6.out.tr hb)
          clear hb
          go_wp2_with fail
          exact ⟨⟨k + 1, c5, Y, _, by go_num, by omega, by omega, HT9.out, HD9.out, HR9.out, HX9.out⟩, by simp [intOf]; omega⟩
        · by_cases hk1' : kind = 1
          · subst hk1'
            clear hk0'
            go_wp2_with fail
            refine (KSync_any _ c' g n Y D k HTW.out.wf HDW.out).mono ?_
            rintro e w5 ⟨rfl, c5, q_HT5, q_HD5⟩
            have HT5 := Lib.hid q_HT5
            have HD5 := Lib.hid q_HD5
            clear q_HT5 q_HD5
            have HTa := Lib.hid (HTW.out.low HT5.out hg)
            have HRa := Lib.hid (HRW.out.tr HT5.out (fun e => hgg e.symm))
            go_wp2_with fail
            refine (RSync_any w5 c5 gx n _ HTa.out.wf HRa.out).mono ?_
            rintro e w6 ⟨rfl, q_HT6, q_HR6⟩
            have HT6 := Lib.hid q_HT6
            have HR6 := Lib.hid q_HR6
            clear q_HT6 q_HR6
            have HT06 := Lib.hid (HTa.out.low HT6.out hgx')
            have HD6 := Lib.hid (HD5.out.tr HT6.out hgg)
            have HX6 := Lib.hid ((HXW.out.tr HT5.out).tr HT6.out)
            have hr6 := HR6.out
            rw [relR_sync] at hr6
            have HR66 := Lib.hid hr6
            clear hr6
            go_wp2_with fail
            refine (Same16_any w6 c5 g gx n _ _ _ (by omega) HT06.out.wf HD6.out HR66.out).mono ?_
            rintro e w9 ⟨rfl, q_HB9⟩
            have HB9 := Lib.hid q_HB9
            clear q_HB9
            have hb := Tr.of_below (M := fun _ => False) HT06.out.wf HB9.out
            have HT9 := Lib.hid (HT06.out.then hb)
            have HD9 := Lib.hid (HD6.out.tr hb (fun h => h))
            have HR9 := Lib.hid (HR66.out.tr hb (fun h => h))
            have HX9 := Lib.hid (HX6.out.tr hb)
            clear hb
            go_wp2_with fail
            exact ⟨⟨k + 1, c5, _, _, by go_num, by omega, by omega, HT9.out, HD9.out.mono (by omega), HR9.out, HX9.out⟩, by simp [intOf]; omega⟩
          · go_wp2_with fail
            refine (KCrash_any _ c' g n Y D k B4 m4 cq4 keep at_ nx (by omega) HTW.out.wf HDW.out HR4W.out).mono ?_
            rintro e w5 ⟨rfl, c5, q_HT5, q_HD5⟩
            have HT5 := Lib.hid q_HT5
            have HD5 := Lib.hid q_HD5
            clear q_HT5 q_HD5
            have HTa := Lib.hid (HTW.out.low HT5.out hg)
            have HRa := Lib.hid (HRW.out.tr HT5.out (fun e => hgg e.symm))
            have hS : (wr.alloc (.cells #[.int .i64 kind, .int .i64 at_, .int .i64 nx, .slice A3 n3 cp3, .slice B4 m4 cq4] 43)).cell? ⟨wr.heap.size, 0, none⟩ = some (.int .i64 kind) ∧ (wr.alloc (.cells #[.int .i64 kind, .int .i64 at_, .int .i64 nx, .slice A3 n3 cp3, .slice B4 m4 cq4] 43)).cell? ⟨wr.heap.size, 1, none⟩ = some (.int .i64 at_) ∧ (wr.alloc (.cells #[.int .i64 kind, .int .i64 at_, .int .i64 nx, .slice A3 n3 cp3, .slice B4 m4 cq4] 43)).cell? ⟨wr.heap.size, 2, none⟩ = some (.int .i64 nx) ∧ (wr.alloc (.cells #[.int .i64 kind, .int .i64 at_, .int .i64 nx, .slice A3 n3 cp3, .slice B4 m4 cq4] 43)).cell? ⟨wr.heap.size, 3, none⟩ = some (.slice A3 n3 cp3) ∧ (wr.alloc (.cells #[.int .i64 kind, .int .i64 at_, .int .i64 nx, .slice A3 n3 cp3, .slice B4 m4 cq4] 43)).cell? ⟨wr.heap.size, 4, none⟩ = some (.slice B4 m4 cq4) :=
              ⟨blk_cell HBX.out 0, blk_cell HBX.out 1, blk_cell HBX.out 2, blk_cell HBX.out 3, blk_cell HBX.out 4⟩
            obtain ⟨x0, x1, x2, x3, x4⟩ := box5_kp HT5.out.kp (blk_lt HBX.out) hbn hS
            clear hS x0
            go_wp2_with fail
            refine (RCrash_any w5 c5 gx n _ B4 m4 cq4 keep at_ nx HTa.out.wf HRa.out (HR4W.out.tr HT5.out)).mono ?_
            rintro e w6 ⟨rfl, q_HT6, q_HR6⟩
            have HT6 := Lib.hid q_HT6
            have HR6 := Lib.hid q_HR6
            clear q_HT6 q_HR6
            have HT06 := Lib.hid (HTa.out.low HT6.out hgx')
            have HD6 := Lib.hid (HD5.out.tr HT6.out hgg)
            have HX6 := Lib.hid ((HXW.out.tr HT5.out).tr HT6.out)
            have hr6 := HR6.out
            rw [relR_crash] at hr6
            have HR66 := Lib.hid hr6
            clear hr6
            go_wp2_with fail
            refine (Same16_any w6 c5 g gx n _ _ _ (by omega) HT06.out.wf HD6.out HR66.out).mono ?_
            rintro e w9 ⟨rfl, q_HB9⟩
            have HB9 := Lib.hid q_HB9
            clear q_HB9
            have hb := Tr.of_below (M := fun _ => False) HT06.out.wf HB9.out
            have HT9 := Lib.hid (HT06.out.then hb)
            have HD9 := Lib.hid (HD6.out.tr hb (fun h => h))
            have HR9 := Lib.hid (HR66.out.tr hb (fun h => h))
            have HX9 := Lib.hid (HX6.out.tr hb)
            clear hb
            go_wp2_with fail
            exact ⟨⟨k + 1, c5, _, _, by go_num, by omega, by omega, HT9.out, HD9.out.mono (by omega), HR9.out, HX9.out⟩, by simp [intOf]; omega⟩
      · have hb2 : Hid (100 < n3 ∨ (n3 ≤ 100 ∧ 50 < m4)) := by
          show _ ∨ _
          omega
        clear hgood
        rcases hb2.out with f1 | ⟨f1, f2⟩
        · have f1' : (100 : Int) < (n3 : Int) := by omega
          clear hb2
          go_wp2_with fail
          refine (told16 _).mono ?_
          rintro e w6 ⟨rfl, q_HB6⟩
          have HB6 := Lib.hid q_HB6
          clear q_HB6
          go_wp2_with fail
          refine bodyPost_ret (results_tmp rfl _ _ _) rfl ?_
          exact ⟨rfl, (HTW.out.then (Tr.of_below HTW.out.wf HB6.out)).below (fun _ _ h => h)⟩
        · have f1' : ¬ (100 : Int) < (n3 : Int) := by omega
          have f2' : (50 : Int) < (m4 : Int) := by omega
          clear hb2
          go_wp2_with fail
          refine (told16 _).mono ?_
          rintro e w6 ⟨rfl, q_HB6⟩
          have HB6 := Lib.hid q_HB6
          clear q_HB6
          go_wp2_with fail
          refine bodyPost_ret (results_tmp rfl _ _ _) rfl ?_
          exact ⟨rfl, (HTW.out.then (Tr.of_below HTW.out.wf HB6.out)).below (fun _ _ h => h)⟩
    · have HEND : Hid (¬ ((k : Int) < (m : Int)) ∨ ((k : Int) < (m : Int) ∧ ¬ ((k : Int) < 60))) := by
        show _ ∨ _
        omega
      clear hlt
      rcases HEND.out with he | ⟨he, he2⟩
      all_goals
        clear HEND
        go_wp2_with fail
        refine (told16 _).mono ?_
        rintro e w6 ⟨rfl, q_HB6⟩
        have HB6 := Lib.hid q_HB6
        clear q_HB6
        go_wp2_with fail
        refine bodyPost_ret (results_tmp rfl _ _ _) rfl ?_
        exact ⟨rfl, (HT.out.then (Tr.of_below HT.out.wf HB6.out)).below (fun _ _ h => h)⟩
end Go.Proofs.Ytalihocoekplgaa
