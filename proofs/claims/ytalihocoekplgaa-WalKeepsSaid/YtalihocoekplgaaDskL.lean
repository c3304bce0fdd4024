/- disk: told. -/
import Derived.Test.YtalihocoekplgaaDskK
import Derived.Test.YtalihocoekplgaaRef1
set_option linter.unusedVariables false
set_option linter.unusedSimpArgs false
namespace Go.Proofs.Ytalihocoekplgaa
open Go.RowKit

theorem u8_infoD : (Try.prog.info? 5).map (fun i => (i.zero, i.size, i.bytes)) = some (some (.int .u8 0), 1, 1) := by kernel_rfl
def BoolPost (w : World) (b : Bool) (e : Ending) (w' : World) : Prop := e = .returned (.bool b) ∧ Below w.heap.size w w'
set_option maxRecDepth 100000 in
set_option maxHeartbeats 4000000 in
theorem told16 (w : World) : Calls Try.prog 15 #[] w (BoolPost w true) := by
  obtain ⟨D1, hD1⟩ : ∃ D1, Dt.put (fun _ => none) ((1 : Nat) : Int) (pad [97, 98]) = D1 := ⟨_, rfl⟩
  have hdl : dirtyL D1 3 = [1] := by rw [← hD1]; rfl
  have hdl0 : dirtyL (fun _ => none) 3 = [] := rfl
  obtain ⟨Y1, hY1⟩ : ∃ Y1, crashY (List.replicate 3 zsec) D1 [] 1 (mcut 1) = Y1 := ⟨_, rfl⟩
  have hy1 : Y1[1]? = some (97 :: List.replicate 63 0) := by rw [← hY1, ← hD1]; rfl
  have HPUT := Lib.hid hD1
  have HDL := Lib.hid hdl
  have HDL0 := Lib.hid hdl0
  have HCR := Lib.hid hY1
  have HY1 := Lib.hid hy1
  clear hD1 hdl hdl0 hY1 hy1
  have kc := fun (w : World) (C : Array Value) (n c : Nat) => Lib.run_convert_bytes_const (P := Try.prog) w 23 5 C n c Try.underlying23 Try.underlying5
  obtain ⟨i0, hi, hzz⟩ := Option.map_eq_some_iff.1 u8_infoD
  simp only [Prod.mk.injEq] at hzz
  obtain ⟨hz0, hz1, hz2⟩ := hzz
  have hzb : i0.bytes * 65 ≤ 281474976710656 := by rw [hz2]; omega
  have HI := Lib.hid hi
  have HZ0 := Lib.hid hz0
  have HZ1 := Lib.hid hz1
  have HZB := Lib.hid hzb
  clear hi hz0 hz1 hzb
  clear hz2
  go_enter Try.func15, Try.ntmps15
  go_wp2_with fail
  refine (KNew_ok w (fun _ => none) 3 (by omega) (Wf.none w)).mono ?_
  rintro e w1 ⟨g, c1, rfl, q_HT1, hg, q_HD1⟩
  have HT1 := Lib.hid q_HT1
  have HD1 := Lib.hid q_HD1
  clear q_HT1 q_HD1
  have hra : Hid (Rd kU8 (w1.alloc (.cells #[.int .u8 97, .int .u8 98] 5 (2, 3))) c1 (some ⟨w1.heap.size, 0, none⟩) 2 2 [97, 98]) := Rd.lit w1 c1 HT1.out.wf 5 [97, 98] (2, 3) (by simp)
  have HT2 := Lib.hid (HT1.out.alloc (.cells #[.int .u8 97, .int .u8 98] 5 (2, 3)))
  have HD2 := Lib.hid (HD1.out.tr (Tr.new (c := c1) HT1.out.wf (.cells #[.int .u8 97, .int .u8 98] 5 (2, 3))) (fun h => h))
  go_wp2_with fail
  refine (KWrite_ok _ c1 g 3 _ _ 0 1 _ 2 2 [97, 98] (by omega) (by omega) (by omega) HT2.out.wf HD2.out hra.out).mono ?_
  rintro e w3 ⟨rfl, c3, q_HT3, q_HD3⟩
  have HT3 := Lib.hid q_HT3
  have HD3 := Lib.hid q_HD3
  clear q_HT3 q_HD3
  have HT4 := Lib.hid ((HT2.out.mono (M' := (· = g)) (fun _ _ h => h.elim)).then HT3.out)
  have hd3 := HD3.out
  rw [HPUT.out] at hd3
  have HD4 := Lib.hid hd3
  clear hd3
  go_wp2_with fail
  refine (KWrite_bad w3 c3 g 3 _ _ _ 3 none 0 0 rfl HD4.out).mono ?_
  rintro e w4 ⟨rfl, rfl⟩
  go_wp2_with (at_make; go_must (refine wpList_make_full w3 rfl (.const (.int .i64 65)) (.const (.int .i64 65)) 23 rfl 0 5 i0 (.int .u8 0) 1 Try.underlying23 HI.out HZ0.out HZ1.out .i64 .i64 65 65 65 rfl rfl rfl rfl HZB.out (by simp only [maxLen]; omega) (Nat.zero_le _) ?_); intro w5 q_ho q_hg; have HG5 := Lib.hid q_hg; clear q_ho q_hg)
  have HT5 := Lib.hid (HT4.out.grown HG5.out (fun k hk => by cases hk))
  have HD5 := Lib.hid (HD4.out.tr ((Tr.refl (fun _ => False) HT4.out.wf).grown HG5.out (fun k hk => by cases hk)) (fun h => h))
  go_wp2_with fail
  refine (KWrite_long w5 c3 g 3 _ _ _ 0 _ 65 65 rfl (by omega) (by omega) HD5.out).mono ?_
  rintro e w6 ⟨rfl, rfl⟩
  go_wp2_with fail
  refine (KDirty_any w5 c3 g 3 _ _ _ (by omega) HT5.out.wf HD5.out).mono ?_
  rintro e w7 ⟨A7, m7, cp7, rfl, q_HR7, q_HB7⟩
  have HR7 := Lib.hid q_HR7
  have HB7 := Lib.hid q_HB7
  clear q_HR7 q_HB7
  have hm7 : 1 = m7 := by
    have h := HR7.out.len
    rw [HDL.out] at h
    exact h
  subst hm7
  have HT7 := Lib.hid (HT5.out.then (Tr.of_below HT5.out.wf HB7.out))
  have HD7 := Lib.hid (HD5.out.tr (Tr.of_below (M := fun _ => False) HT5.out.wf HB7.out) (fun h => h))
  go_wp2_with fail
  refine (KCrash_any w7 c3 g 3 _ _ _ none 0 0 [] 1 1 (by omega) HT7.out.wf HD7.out (Rd.nil _ _ _)).mono ?_
  rintro e w8 ⟨rfl, c8, q_HT8, q_HD8⟩
  have HT8 := Lib.hid q_HT8
  have HD8 := Lib.hid q_HD8
  clear q_HT8 q_HD8
  have HT9 := Lib.hid (HT7.out.then HT8.out)
  have hd8 := HD8.out
  have hr8 := HR7.out.tr HT8.out
  rw [HCR.out] at hd8
  rw [HDL.out] at hr8
  have HD9 := Lib.hid hd8
  have HR8 := Lib.hid hr8
  clear hd8 hr8
  go_wp2_with fail
  refine (KRead_ok w8 c8 g 3 _ _ _ 1 (by omega) HT9.out.wf HD9.out _ HY1.out).mono ?_
  rintro e w9 ⟨A9, cp9, rfl, q_HR9, q_HB9⟩
  have HR9 := Lib.hid q_HR9
  have HB9 := Lib.hid q_HB9
  clear q_HR9 q_HB9
  go_wp2_with fail
  refine (KNew_bad w9 (-1) (.inl (by omega))).mono ?_
  rintro e w10 ⟨rfl, rfl⟩
  have HT10 := Lib.hid (HT9.out.then (Tr.of_below HT9.out.wf HB9.out))
  have HD10 := Lib.hid (HD9.out.tr (Tr.of_below (M := fun _ => False) HT9.out.wf HB9.out) (fun h => h))
  obtain ⟨b7, o7, rfl⟩ := HR8.out.addr (by omega)
  have hl0 : w9.cell? ⟨b7, o7, none⟩ = some (.int .i64 1) := (HR8.out.below HB9.out).int (k := 0) rfl
  obtain ⟨b9, o9, rfl⟩ := HR9.out.addr (by omega)
  have hx0 : w9.cell? ⟨b9, o9, none⟩ = some (.int .u8 97) := HR9.out.byte (k := 0) (by omega)
  have hx1 : w9.cell? ⟨b9, o9 + 1, none⟩ = some (.int .u8 0) := HR9.out.byte (k := 1) (by omega)
  go_wp2_with fail
  refine (KDirty_any w9 c8 g 3 _ _ _ (by omega) HT10.out.wf HD10.out).mono ?_
  rintro e w11 ⟨A11, m11, cp11, rfl, q_HR11, q_HB11⟩
  have HR11 := Lib.hid q_HR11
  have HB11 := Lib.hid q_HB11
  clear q_HR11 q_HB11
  have hm11 : 0 = m11 := by
    have h := HR11.out.len
    rw [HDL0.out] at h
    exact h
  subst hm11
  have HT11 := Lib.hid (HT10.out.then (Tr.of_below HT10.out.wf HB11.out))
  have HD11 := Lib.hid (HD10.out.tr (Tr.of_below (M := fun _ => False) HT10.out.wf HB11.out) (fun h => h))
  go_wp2_with fail
  refine (KLen_any w11 c8 g 3 _ _ _ HD11.out).mono ?_
  rintro e w12 ⟨rfl, rfl⟩
  go_wp2_with fail
  refine bodyPost_ret (results_tmp rfl _ _ _) rfl ?_
  exact ⟨rfl, HT11.out.below (by intro r hr e; omega)⟩
end Go.Proofs.Ytalihocoekplgaa
