/- The law WalRoom: its walk. -/
import Derived.Test.YtalihocoekplgaaWalK
import Derived.Test.YtalihocoekplgaaOpenD
set_option linter.unusedVariables false
set_option linter.unusedSimpArgs false
namespace Go.Proofs.Ytalihocoekplgaa
open Go.RowKit

theorem LD.mono {w : World} {c : Col} {gl g n : Nat} {Y : List (List UInt8)} {D : Dt} {N N' : Nat} {recs : List (List UInt8)} {used : Nat} (h : LD w c gl g n Y D N recs used) (hN : N ≤ N') : LD w c gl g n Y D N' recs used := ⟨h.1.mono hN, h.2⟩
theorem low1 {a n : Nat} (ha : n ≤ a) : ∀ r, r < n → r = a → False := fun r hr h => by omega
set_option maxRecDepth 100000 in
set_option maxHeartbeats 8000000 in
theorem WalRoom_any (w : World) (nn : Int) (B : Option Addr) (m cq : Nat) (l : List Int) (hx : Rd kInt w (fun _ => none) B m cq l) : Calls Try.prog 9 #[.int .i64 nn, .slice B m cq] w (BoolPost w true) := by
  have hln := hx.1
  have hmm := hx.max
  obtain ⟨n, hn, hn31⟩ := remS nn 31 (by omega) (by omega)
  simp at hn
  have HX := Lib.hid hx
  have HLN := Lib.hid hln
  clear hx hln
  go_enter Try.func9, Try.ntmps9
  go_wp2_with fail
  refine (KNew_ok w (fun _ => none) n (by omega) (Wf.none w)).mono ?_
  rintro e w1 ⟨g, c1, rfl, q_HT1, hg, q_HD1⟩
  have HT1 := Lib.hid q_HT1
  have HD1 := Lib.hid q_HD1
  clear q_HT1 q_HD1
  go_wp2_with fail
  refine (LOpen_any w1 c1 g n _ _ 0 (by omega) HT1.out.wf HD1.out).mono ?_
  rintro e w2 ⟨gl, A2, m2, cp2, rfl, recs2, used2, c2, q_HF2, hgl, q_HT2, q_HL2, q_HR2⟩
  have HF2 := Lib.hid q_HF2
  have HT2 := Lib.hid q_HT2
  have HL2 := Lib.hid q_HL2
  have HR2 := Lib.hid q_HR2
  clear q_HF2 q_HT2 q_HL2 q_HR2
  obtain ⟨rfl, rfl⟩ : [] = recs2 ∧ 0 = used2 := by
    have h := HF2.out
    rw [syncY_none] at h
    exact (clean_new n).finds.uniq h
  obtain rfl : 0 = m2 := HR2.out.len
  have hgl' : w.heap.size ≤ gl := by have := HT1.out.size; omega
  have HTa := Lib.hid (HT1.out.low HT2.out hg)
  obtain ⟨Y1, hY1⟩ : ∃ Y1, cleanZ (syncY (List.replicate n zsec) fun _ => none) 0 = Y1 := ⟨_, rfl⟩
  rw [hY1] at HL2
  clear hY1
  go_wp2_with fail
  go_loopw [11, 12, 13] (fun u cc i wr => ∃ (j used cnt : Nat) (recs : List (List UInt8)) (c' : Col) (D : Dt), u = .int .i64 (used : Int) ∧ cc = .int .i64 (cnt : Int) ∧ i = .int .i64 (j : Int) ∧ j ≤ m ∧ j ≤ 30 ∧ Hid (Tr (fun _ => False) (fun _ => none) c' w wr) ∧ Hid (LD wr c' gl g n Y1 D (400 * j) recs used) ∧ Hid (recs.length = cnt)) (fun _ _ i _ => m - (intOf i).toNat)
  case atStart => exact ⟨0, 0, 0, [], c2, _, rfl, rfl, rfl, Nat.zero_le _, Nat.zero_le _, HTa, HL2, rfl⟩
  case round =>
    obtain ⟨j, used, cnt, recs, c', D, rfl, rfl, rfl, hj, hj30, HT, HL, HC⟩ := hrel
    by_cases hlt : j < m ∧ j < 30
    · obtain ⟨hlt, hl30⟩ := hlt
      have hk1 : (j : Int) < (m : Int) := by omega
      have hk2 : (j : Int) < 30 := by omega
      have hk0 : (0 : Int) ≤ (j : Int) := by omega
      have hxw := HX.out.tr HT.out
      obtain ⟨bb, off, rfl⟩ := HX.out.addr (by omega)
      obtain ⟨x, hxk⟩ : ∃ x, l[j]? = some x := ⟨_, List.getElem?_eq_getElem (by rw [HLN.out]; exact hlt)⟩
      have hcell := hxw.int hxk
      obtain ⟨r, hr, hr400⟩ := remS x 400 (by omega) (by omega)
      simp at hr
      obtain ⟨u1, u2, u3⟩ := HL.out.used
      obtain ⟨mm, hmm2⟩ : ∃ mm : Nat, mm = 1 + r := ⟨_, rfl⟩
      have hw1 : IntKind.i64.wrap (1 + (r : Int)) = (mm : Int) := i64_id (by omega) (by omega)
      obtain ⟨sn, hsn⟩ : ∃ sn, sn = secN mm := ⟨_, rfl⟩
      have hsn2 : ((mm : Int) + 12 + 63) / 64 = (sn : Int) := by rw [hsn]; unfold secN; omega
      obtain ⟨z, hz, hrz⟩ := mk_noughts mm (by omega)
      obtain ⟨room, hroom⟩ : ∃ room : Nat, room = n - used := ⟨_, rfl⟩
      have hw2 : IntKind.i64.wrap ((n : Int) - (used : Int)) = (room : Int) := i64_id (by omega) (by omega)
      have hmm3 : mm ≤ 400 := by omega
      have hmm1 : 1 ≤ mm := by omega
      have ha := below_alloc wr (.cells z 5)
      have HTw := Lib.hid (HT.out.then (Tr.of_below (M := fun _ => False) HT.out.wf ha))
      have HLw := Lib.hid (HL.out.below HT.out.wf ha)
      have HZ := Lib.hid (hrz wr c' HT.out.wf)
      have HXW := Lib.hid hxw
      have HMM := Lib.hid hmm2
      have HSN := Lib.hid hsn
      have HROOM := Lib.hid hroom
      clear hxw hmm2 hsn hroom
      clear hxk hrz ha
      go_wp2_with fail
      rw [hsn2]
      clear hsn2
      by_cases hfit : sn ≤ room
      · have hc1 : (sn : Int) ≤ (room : Int) := by omega
        have hfn : used + secN mm ≤ n := by
          have h1 := HSN.out
          have h2 := HROOM.out
          omega
        refine (LPut_ok _ c' gl g n Y1 D (400 * j) recs used _ mm mm _ hmm1 (by omega) hfn (by omega) HTw.out.wf HLw.out HZ.out).mono ?_
        rintro e w3 ⟨rfl, c3, D3, q_HT3, q_HL3⟩
        have HT3 := Lib.hid q_HT3
        have HL3 := Lib.hid q_HL3
        clear q_HT3 q_HL3
        obtain ⟨ua, hua⟩ : ∃ ua : Nat, ua = used + sn := ⟨_, rfl⟩
        obtain ⟨ca, hca⟩ : ∃ ca : Nat, ca = cnt + 1 := ⟨_, rfl⟩
        have hcu : cnt ≤ 4096 := by have := HC.out; omega
        have hsb : sn ≤ 4096 := by have h1 := HSN.out; omega
        have hw3 : IntKind.i64.wrap ((used : Int) + (sn : Int)) = (ua : Int) := by rw [hua]; exact wrap_add used sn (by omega) (by omega)
        have hw4 : IntKind.i64.wrap ((cnt : Int) + 1) = (ca : Int) := by rw [hca]; exact wrap_succ cnt (by omega)
        have hl3 := HL3.out
        rw [← HSN.out, ← hua] at hl3
        have hlen3 : (recs ++ [List.replicate mm (0 : UInt8)]).length = ca := by rw [List.length_append, HC.out, hca]; rfl
        have hlg := hl3.2.1
        rw [hlen3] at hlg
        have HUA := Lib.hid hua
        have HCA := Lib.hid hca
        have HLL3 := Lib.hid hl3
        have HLEN3 := Lib.hid hlen3
        have HLG := Lib.hid hlg
        clear hua hca hl3 hlen3 hlg
        have HT3w := Lib.hid (HTw.out.trans (M := fun _ => False) HT3.out (two_low hgl' hg))
        go_wp2_with fail
        refine (WUsed_any w3 c3 gl g _ _ HLG.out).mono ?_
        rintro e w4 ⟨rfl, rfl⟩
        go_wp2_with fail
        refine (WLen_any w3 c3 gl g _ _ HLG.out).mono ?_
        rintro e w4 ⟨rfl, rfl⟩
        go_wp2_with fail
        exact ⟨⟨j + 1, ua, ca, _, c3, D3, rfl, rfl, by go_num, by omega, by omega, HT3w.out, HLL3.out.mono (by omega), HLEN3.out⟩, by simp [intOf]; omega⟩
      · have hc1 : ¬ (sn : Int) ≤ (room : Int) := by omega
        have hfn : n - used < secN mm := by
          have h1 := HSN.out
          have h2 := HROOM.out
          omega
        refine (WPut_full _ c' gl g n recs.length used Y1 D (400 * j) _ mm mm hmm1 (by omega) u1 hfn HTw.out.wf HLw.out.1 HLw.out.2.1).mono ?_
        rintro e w3 ⟨rfl, q_HB3⟩
        have HB3 := Lib.hid q_HB3
        clear q_HB3
        have HL3 := Lib.hid (HLw.out.below HTw.out.wf HB3.out)
        have HT3w := Lib.hid (HTw.out.then (Tr.of_below (M := fun _ => False) HTw.out.wf HB3.out))
        have hlg := HL3.out.2.1
        rw [HC.out] at hlg
        have HLG := Lib.hid hlg
        clear hlg
        go_wp2_with fail
        refine (WUsed_any w3 c' gl g _ _ HLG.out).mono ?_
        rintro e w4 ⟨rfl, rfl⟩
        go_wp2_with fail
        refine (WLen_any w3 c' gl g _ _ HLG.out).mono ?_
        rintro e w4 ⟨rfl, rfl⟩
        go_wp2_with fail
        exact ⟨⟨j + 1, used, cnt, recs, c', D, rfl, rfl, by go_num, by omega, by omega, HT3w.out, HL3.out.mono (by omega), HC.out⟩, by simp [intOf]; omega⟩
    · have HEND : Hid (¬ ((j : Int) < (m : Int)) ∨ ((j : Int) < (m : Int) ∧ ¬ ((j : Int) < 30))) := by
        show _ ∨ _
        omega
      clear hlt
      obtain ⟨z, hz, hrz⟩ := mk_noughts 20001 (by omega)
      have hm : ∀ W : World, (Instr.makeSlice 23 (.int .i64 20001) (.int .i64 20001)).run Try.prog W = .ok (.slice (some ⟨W.heap.size, 0, none⟩) 20001 20001) (W.alloc (.cells z 5)) := hz
      have kc := fun (w : World) (C : Array Value) (n c : Nat) => Lib.run_convert_bytes_const (P := Try.prog) w 23 5 C n c Try.underlying23 Try.underlying5
      clear hz hrz
      rcases HEND.out with he | ⟨he, he2⟩
      all_goals
        clear HEND
        go_wp2_with fail
        refine (LOpen_any wr c' g n Y1 D (400 * j) (by omega) HT.out.wf HL.out.1).mono ?_
        rintro e w3 ⟨gl3, A3, m3, cp3, rfl, recs3, used3, c3, q_HF3, hgl3, q_HT3, q_HL3, q_HR3⟩
        have HF3 := Lib.hid q_HF3
        have HT3 := Lib.hid q_HT3
        have HL3 := Lib.hid q_HL3
        have HR3 := Lib.hid q_HR3
        clear q_HF3 q_HT3 q_HL3 q_HR3
        obtain ⟨rfl, rfl⟩ := HL.out.2.2.1.finds.uniq HF3.out
        obtain rfl : cnt = m3 := by rw [← HC.out, HR3.out.len]
        have HT3w := Lib.hid (HT.out.low HT3.out hg)
        go_wp2_with fail
        refine (WSync_nil w3).mono ?_
        rintro e w4 ⟨rfl, rfl⟩
        go_wp2_with fail
        refine (told17 w3).mono ?_
        rintro e w4 ⟨rfl, q_HB4⟩
        have HB4 := Lib.hid q_HB4
        clear q_HB4
        go_wp2_with fail
        refine (WPut_bad _ gl _ 20001 20001 (by omega) (by omega)).mono ?_
        rintro e w5 ⟨rfl, q_HB5⟩
        have HB5 := Lib.hid q_HB5
        clear q_HB5
        go_wp2_with fail
        refine (WPut_nil _ _ 1 1 (by omega)).mono ?_
        rintro e w6 ⟨rfl, q_HB6⟩
        have HB6 := Lib.hid q_HB6
        clear q_HB6
        go_wp2_with fail
        refine (WLen_nil w6).mono ?_
        rintro e w7 ⟨rfl, rfl⟩
        go_wp2_with fail
        refine (WUsed_nil w6).mono ?_
        rintro e w7 ⟨rfl, rfl⟩
        go_wp2_with fail
        refine bodyPost_ret (results_tmp rfl _ _ _) rfl ?_
        exact ⟨rfl, below_then (HT3w.out.below (fun _ _ h => h)) (below_then HB4.out (below_then (below_then (below_alloc _ _) HB5.out) (below_then (below_alloc _ _) HB6.out)))⟩
end Go.Proofs.Ytalihocoekplgaa
