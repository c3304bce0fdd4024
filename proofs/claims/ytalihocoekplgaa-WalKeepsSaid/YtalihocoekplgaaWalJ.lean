/- wal: Put on a log whose records are told; told. -/
import Derived.Test.YtalihocoekplgaaWalI
import Derived.Test.YtalihocoekplgaaDskM
import Derived.Test.YtalihocoekplgaaDskL
set_option linter.unusedVariables false
set_option linter.unusedSimpArgs false
namespace Go.Proofs.Ytalihocoekplgaa
open Go.RowKit

theorem mk_noughts (n : Nat) (hn : n ≤ 1000000) : ∃ z : Array Value, (∀ W : World, (Instr.makeSlice 23 (.int .i64 (n : Int)) (.int .i64 (n : Int))).run Try.prog W = .ok (.slice (some ⟨W.heap.size, 0, none⟩) n n) (W.alloc (.cells z 5))) ∧
    ∀ (W : World) (c : Col), Wf c W → Rd kU8 (W.alloc (.cells z 5)) c (some ⟨W.heap.size, 0, none⟩) n n (List.replicate n 0) := by
  refine ⟨(bcells (List.replicate n 0)).toArray, fun W => ?_, fun W c hc => ?_⟩
  · have h := run_make_row' (P := Try.prog) 23 5 (.int .u8 0) 1 Try.underlying23 u8_infoD rfl .i64 .i64 n (by omega) (by omega) W
    have e : madeCells #[Value.int .u8 0] n = (bcells (List.replicate n 0)).toArray := by
      apply Array.toList_inj.1
      have h1 : bcells (List.replicate n 0) = List.replicate n (.int .u8 0) := by
        unfold bcells
        rw [List.map_replicate]
        rfl
      rw [h1, List.eq_replicate_iff]
      refine ⟨by rw [Array.length_toList, size_madeCells], fun b hb => ?_⟩
      unfold madeCells at hb
      rw [Array.toList_map, List.mem_map] at hb
      obtain ⟨i, _, rfl⟩ := hb
      simp [Nat.mod_one]
    rw [e] at h
    exact h
  · have h := Rd.lit W c hc 5 (List.replicate n 0) (0, 0) (by rw [List.length_replicate]; omega)
    rw [List.length_replicate] at h
    exact h
/-- What Put tells. -/
def putE (n used m : Nat) : Int := if m < 1 ∨ 20000 < m then 1 else if n - used < secN m then 5 else 0
def putOk (n used m : Nat) : Bool := decide (1 ≤ m ∧ m ≤ 20000 ∧ secN m ≤ n - used)
theorem putE_ok {n used m : Nat} (h : putOk n used m = true) : putE n used m = 0 := by
  unfold putOk at h
  simp only [decide_eq_true_eq] at h
  unfold putE
  rw [if_neg (by omega), if_neg (by omega)]
theorem putOk_of {n used m : Nat} (h : putE n used m = 0) : putOk n used m = true := by
  unfold putE at h
  unfold putOk
  simp only [decide_eq_true_eq]
  split at h
  · cases h
  · split at h
    · cases h
    · omega
def putDt (n used num : Nat) (b : List UInt8) (D : Dt) : Dt := if putOk n used b.length then putD D used (recB b num) (secN b.length) else D
def putNum (n used num m : Nat) : Nat := if putOk n used m then num + 1 else num
def putUsed (n used m : Nat) : Nat := if putOk n used m then used + secN m else used
theorem WPut_all (w : World) (c : Col) (gl g n num used : Nat) (Y : List (List UInt8)) (D : Dt) (N : Nat) (A : Option Addr) (m cp : Nat) (b : List UInt8) (hu : used ≤ n) (hnum : num ≤ 100000) (hN : N ≤ 900000) (hgg : gl ≠ g) (hw : Wf c w) (hD : Dk w c g n Y D N) (hL : Lg w c gl g num used) (hx : Rd kU8 w c A m cp b) :
    Calls Try.prog 27 #[.pointer (some ⟨gl, 0, none⟩), .slice A m cp] w fun e w' => e = .returned (.int .i64 (putE n used m)) ∧ ∃ c', Tr (fun r => r = gl ∨ r = g) c c' w w' ∧ Dk w' c' g n Y (putDt n used num b D) (N + 400) ∧ Lg w' c' gl g (putNum n used num m) (putUsed n used m) := by
  have hbl := hx.len
  by_cases h1 : m < 1 ∨ 20000 < m
  · have hk : putOk n used m = false := by unfold putOk; simp; omega
    have he : putE n used m = 1 := by unfold putE; rw [if_pos h1]
    unfold putDt putNum putUsed
    rw [hbl, hk, he]
    refine (WPut_bad w gl A m cp h1 hx.max).mono ?_
    rintro e w' ⟨rfl, hb⟩
    have t := Tr.of_below (M := fun r => r = gl ∨ r = g) hw hb
    have t0 := Tr.of_below (M := fun _ => False) hw hb
    exact ⟨rfl, c, t, (hD.tr t0 (fun h => h)).mono (by omega), hL.tr t0 (fun h => h)⟩
  · by_cases h2 : n - used < secN m
    · have hk : putOk n used m = false := by unfold putOk; simp; omega
      have he : putE n used m = 5 := by unfold putE; rw [if_neg h1, if_pos h2]
      unfold putDt putNum putUsed
      rw [hbl, hk, he]
      refine (WPut_full w c gl g n num used Y D N A m cp (by omega) (by omega) hu h2 hw hD hL).mono ?_
      rintro e w' ⟨rfl, hb⟩
      have t := Tr.of_below (M := fun r => r = gl ∨ r = g) hw hb
      have t0 := Tr.of_below (M := fun _ => False) hw hb
      exact ⟨rfl, c, t, (hD.tr t0 (fun h => h)).mono (by omega), hL.tr t0 (fun h => h)⟩
    · have hk : putOk n used m = true := by unfold putOk; simp; omega
      have he : putE n used m = 0 := putE_ok hk
      unfold putDt putNum putUsed
      rw [hbl, hk, he]
      refine (WPut_ok w c gl g n num used Y D N A m cp b (by omega) (by omega) hnum hN (by omega) hgg hw hD hL hx).mono ?_
      rintro e w' ⟨rfl, c', ht, hd, hl⟩
      exact ⟨rfl, c', ht, hd.mono (by unfold secN; omega), hl⟩
/-- A log on a disk: its records are these, and nothing behind them. -/
def LD (w : World) (c : Col) (gl g n : Nat) (Y : List (List UInt8)) (D : Dt) (N : Nat) (recs : List (List UInt8)) (used : Nat) : Prop := Dk w c g n Y D N ∧ Lg w c gl g recs.length used ∧ Clean (syncY Y D) recs used ∧ gl ≠ g
theorem LD.tr {M : Nat → Prop} {w w' : World} {c c' : Col} {gl g n : Nat} {Y : List (List UInt8)} {D : Dt} {N : Nat} {recs : List (List UInt8)} {used : Nat} (h : LD w c gl g n Y D N recs used) (k : Tr M c c' w w') (h1 : ¬ M gl) (h2 : ¬ M g) : LD w' c' gl g n Y D N recs used :=
  ⟨h.1.tr k h2, h.2.1.tr k h1, h.2.2⟩
theorem LD.below {w w' : World} {c : Col} {gl g n : Nat} {Y : List (List UInt8)} {D : Dt} {N : Nat} {recs : List (List UInt8)} {used : Nat} (h : LD w c gl g n Y D N recs used) (hw : Wf c w) (k : Below w.heap.size w w') : LD w' c gl g n Y D N recs used :=
  h.tr (Tr.of_below (M := fun _ => False) hw k) (fun h => h) (fun h => h)
theorem Dk.facts {w : World} {c : Col} {g n : Nat} {Y : List (List UInt8)} {D : Dt} {N : Nat} (hD : Dk w c g n Y D N) : Y.length = n ∧ (∀ s ∈ Y, s.length = 64) ∧ DOk D ∧ n ≤ 4096 := by
  obtain ⟨_, _, _, _, _, _, h1, _, h2, h3, _, h4⟩ := hD
  exact ⟨h2, h3, h1.ok, h4⟩
theorem LD.used {w : World} {c : Col} {gl g n : Nat} {Y : List (List UInt8)} {D : Dt} {N : Nat} {recs : List (List UInt8)} {used : Nat} (h : LD w c gl g n Y D N recs used) : used ≤ n ∧ recs.length ≤ used ∧ n ≤ 4096 := by
  obtain ⟨f1, f2, f3, f4⟩ := h.1.facts
  have hl := (Chain.le (syncY_all f2 f3) h.2.2.1.1 (Nat.zero_le _)).1
  have hc := h.2.2.1.2.1
  rw [syncY_len, f1] at hc
  exact ⟨hc, by omega, f4⟩
/-- Put, where it fits. -/
theorem LPut_ok (w : World) (c : Col) (gl g n : Nat) (Y : List (List UInt8)) (D : Dt) (N : Nat) (recs : List (List UInt8)) (used : Nat) (A : Option Addr) (m cp : Nat) (b : List UInt8) (h1 : 1 ≤ m) (h2 : m ≤ 20000) (hf : used + secN m ≤ n) (hN : N ≤ 900000) (hw : Wf c w) (hL : LD w c gl g n Y D N recs used) (hx : Rd kU8 w c A m cp b) :
    Calls Try.prog 27 #[.pointer (some ⟨gl, 0, none⟩), .slice A m cp] w fun e w' => e = .returned (.int .i64 0) ∧ ∃ c' D', Tr (fun r => r = gl ∨ r = g) c c' w w' ∧ LD w' c' gl g n Y D' (N + 400) (recs ++ [b]) (used + secN m) := by
  have hbl := hx.len
  obtain ⟨u1, u2, u3⟩ := hL.used
  obtain ⟨f1, f2, f3, f4⟩ := hL.1.facts
  refine (WPut_ok w c gl g n recs.length used Y D N A m cp b h1 h2 (by omega) hN hf hL.2.2.2 hw hL.1 hL.2.1 hx).mono ?_
  rintro e w' ⟨rfl, c', ht, hd, hl⟩
  have hc := hL.2.2.1.put (b := b) f2 f3 (by omega) (by omega) (by rw [hbl, f1]; exact hf) (by omega)
  rw [hbl] at hc
  exact ⟨rfl, c', _, ht, hd.mono (by unfold secN; omega), by rw [List.length_append]; exact hl, hc, hL.2.2.2⟩
theorem LSync_any (w : World) (c : Col) (gl g n : Nat) (Y : List (List UInt8)) (D : Dt) (N : Nat) (recs : List (List UInt8)) (used : Nat) (hw : Wf c w) (hL : LD w c gl g n Y D N recs used) :
    Calls Try.prog 29 #[.pointer (some ⟨gl, 0, none⟩)] w fun e w' => e = .returned (.tuple #[]) ∧ ∃ c', Tr (· = g) c c' w w' ∧ LD w' c' gl g n (syncY Y D) (fun _ => none) 0 recs used := by
  refine (WSync_any w c gl g n recs.length used Y D N hw hL.1 hL.2.1).mono ?_
  rintro e w' ⟨rfl, c', ht, hd⟩
  exact ⟨rfl, c', ht, hd, hL.2.1.tr ht hL.2.2.2, by rw [syncY_none]; exact hL.2.2.1, hL.2.2.2⟩
/-- Open finds what is there. -/
theorem LOpen_any (w : World) (c : Col) (g n : Nat) (Y : List (List UInt8)) (D : Dt) (N : Nat) (hN : N ≤ 100000) (hw : Wf c w) (hD : Dk w c g n Y D N) :
    Calls Try.prog 24 #[.pointer (some ⟨g, 0, none⟩)] w fun e w' => ∃ gl A m cp, e = .returned (.tuple #[.pointer (some ⟨gl, 0, none⟩), .slice A m cp, .int .i64 0]) ∧ ∃ recs used c', Finds (syncY Y D) recs used ∧ w.heap.size ≤ gl ∧ Tr (· = g) c c' w w' ∧
      LD w' c' gl g n (cleanZ (syncY Y D) used) (fun _ => none) 0 recs used ∧ Rd (kSl kU8) w' c' A m cp recs := by
  obtain ⟨f1, f2, f3, f4⟩ := hD.facts
  have hgl := hD.lt
  refine (WOpen_any w c g n Y D N hN hw hD).mono ?_
  rintro e w' ⟨gl, A, m, cp, rfl, recs, used, c', hf, hg, ht, hd, hl, hr⟩
  exact ⟨gl, A, m, cp, rfl, recs, used, c', hf, hg, ht, ⟨hd, hl, by rw [syncY_none]; exact hf.clean (syncY_all f2 f3), by omega⟩, hr⟩
theorem WOpen_nil (w : World) : Calls Try.prog 24 #[.pointer none] w fun e w' => e = .returned (.tuple #[.pointer none, .slice none 0 0, .int .i64 1]) ∧ w = w' := by
  go_enter Try.func24, Try.ntmps24
  go_wp2_with fail
  refine bodyPost_ret (results_tmp3 rfl _ _ _) rfl ?_
  exact ⟨rfl, rfl⟩

theorem mcut0 : mcut 0 = 0 := rfl
theorem two_low {a b n : Nat} (ha : n ≤ a) (hb : n ≤ b) : ∀ r, r < n → (r = a ∨ r = b) → False := fun r hr h => by rcases h with rfl | rfl <;> omega
set_option maxRecDepth 100000 in
set_option maxHeartbeats 4000000 in
theorem told17 (w : World) : Calls Try.prog 26 #[] w (BoolPost w true) := by
  obtain ⟨z1, hz1, hr1⟩ := mk_noughts 52 (by omega)
  obtain ⟨z2, hz2, hr2⟩ := mk_noughts 53 (by omega)
  obtain ⟨z3, hz3, hr3⟩ := mk_noughts 60 (by omega)
  have hm1 : ∀ W : World, (Instr.makeSlice 23 (.int .i64 52) (.int .i64 52)).run Try.prog W = .ok (.slice (some ⟨W.heap.size, 0, none⟩) 52 52) (W.alloc (.cells z1 5)) := hz1
  have hm2 : ∀ W : World, (Instr.makeSlice 23 (.int .i64 53) (.int .i64 53)).run Try.prog W = .ok (.slice (some ⟨W.heap.size, 0, none⟩) 53 53) (W.alloc (.cells z2 5)) := hz2
  have hm3 : ∀ W : World, (Instr.makeSlice 23 (.int .i64 60) (.int .i64 60)).run Try.prog W = .ok (.slice (some ⟨W.heap.size, 0, none⟩) 60 60) (W.alloc (.cells z3 5)) := hz3
  obtain ⟨x1, hx1⟩ : ∃ x : List UInt8, List.replicate 52 0 = x := ⟨_, rfl⟩
  obtain ⟨x2, hx2⟩ : ∃ x : List UInt8, List.replicate 53 0 = x := ⟨_, rfl⟩
  obtain ⟨x3, hx3⟩ : ∃ x : List UInt8, List.replicate 60 0 = x := ⟨_, rfl⟩
  have hl2 : x2.length = 53 := by rw [← hx2, List.length_replicate]
  rw [hx1] at hr1
  rw [hx2] at hr2
  rw [hx3] at hr3
  have kc := fun (w : World) (C : Array Value) (n c : Nat) => Lib.run_convert_bytes_const (P := Try.prog) w 23 5 C n c Try.underlying23 Try.underlying5
  have HZ1 := Lib.hid hr1
  have HZ2 := Lib.hid hr2
  have HZ3 := Lib.hid hr3
  have HLX2 := Lib.hid hl2
  clear hr1 hr2 hr3 hl2
  clear hz1 hz2 hz3 hx1 hx2 hx3
  go_enter Try.func26, Try.ntmps26
  go_wp2_with fail
  refine (KNew_ok w (fun _ => none) 4 (by omega) (Wf.none w)).mono ?_
  rintro e w1 ⟨g, c1, rfl, q_HT1, hg, q_HD1⟩
  have HT1 := Lib.hid q_HT1
  have HD1 := Lib.hid q_HD1
  clear q_HT1 q_HD1
  go_wp2_with fail
  refine (LOpen_any w1 c1 g 4 _ _ 0 (by omega) HT1.out.wf HD1.out).mono ?_
  rintro e w2 ⟨gl, A2, m2, cp2, rfl, recs2, used2, c2, q_HF2, hgl, q_HT2, q_HL2, q_HR2⟩
  have HF2 := Lib.hid q_HF2
  have HT2 := Lib.hid q_HT2
  have HL2 := Lib.hid q_HL2
  have HR2 := Lib.hid q_HR2
  clear q_HF2 q_HT2 q_HL2 q_HR2
  obtain ⟨rfl, rfl⟩ : [] = recs2 ∧ 0 = used2 := by
    have h := HF2.out
    rw [syncY_none] at h
    exact (clean_new 4).finds.uniq h
  obtain rfl : 0 = m2 := HR2.out.len
  have hgl' : w.heap.size ≤ gl := by have := HT1.out.size; omega
  have HTa := Lib.hid (HT1.out.low HT2.out hg)
  obtain ⟨Y1, hY1⟩ : ∃ Y1, cleanZ (syncY (List.replicate 4 zsec) fun _ => none) 0 = Y1 := ⟨_, rfl⟩
  rw [hY1] at HL2
  have ha1 := below_alloc w2 (.cells z1 5)
  have HTb := Lib.hid (HTa.out.then (Tr.of_below (M := fun _ => False) HTa.out.wf ha1))
  have HLb := Lib.hid (HL2.out.below HTa.out.wf ha1)
  have HXb := Lib.hid (HZ1.out w2 c2 HTa.out.wf)
  clear hY1 ha1
  go_wp2_with fail
  refine (LPut_ok _ c2 gl g 4 Y1 _ 0 [] 0 _ 52 52 x1 (by omega) (by omega) (by decide) (by omega) HTb.out.wf HLb.out HXb.out).mono ?_
  rintro e w3 ⟨rfl, c3, D3, q_HT3, q_HL3⟩
  have HT3 := Lib.hid q_HT3
  have HL3 := Lib.hid q_HL3
  clear q_HT3 q_HL3
  have HTc := Lib.hid (HTb.out.trans (M := fun _ => False) HT3.out (two_low hgl' hg))
  have ha2 := below_alloc w3 (.cells z2 5)
  have HTd := Lib.hid (HTc.out.then (Tr.of_below (M := fun _ => False) HTc.out.wf ha2))
  have HLd := Lib.hid (HL3.out.below HTc.out.wf ha2)
  have HXd := Lib.hid (HZ2.out w3 c3 HTc.out.wf)
  clear ha2
  go_wp2_with fail
  refine (LPut_ok _ c3 gl g 4 Y1 _ _ _ _ _ 53 53 x2 (by omega) (by omega) (by decide) (by omega) HTd.out.wf HLd.out HXd.out).mono ?_
  rintro e w4 ⟨rfl, c4, D4, q_HT4, q_HL4⟩
  have HT4 := Lib.hid q_HT4
  have HL4 := Lib.hid q_HL4
  clear q_HT4 q_HL4
  have HTe := Lib.hid (HTd.out.trans (M := fun _ => False) HT4.out (two_low hgl' hg))
  go_wp2_with fail
  refine (LSync_any w4 c4 gl g 4 Y1 _ _ _ _ HTe.out.wf HL4.out).mono ?_
  rintro e w5 ⟨rfl, c5, q_HT5, q_HL5⟩
  have HT5 := Lib.hid q_HT5
  have HL5 := Lib.hid q_HL5
  clear q_HT5 q_HL5
  have HTf := Lib.hid (HTe.out.low HT5.out hg)
  obtain ⟨Y5, hY5⟩ : ∃ Y5, syncY Y1 D4 = Y5 := ⟨_, rfl⟩
  rw [hY5] at HL5
  have ha3 := below_alloc w5 (.cells z3 5)
  have HTg := Lib.hid (HTf.out.then (Tr.of_below (M := fun _ => False) HTf.out.wf ha3))
  have HLg := Lib.hid (HL5.out.below HTf.out.wf ha3)
  clear ha3 hY5
  go_wp2_with fail
  refine (WPut_full _ c5 gl g 4 _ _ Y5 _ 0 _ 60 60 (by omega) (by omega) (by decide) (by decide) HTg.out.wf HLg.out.1 HLg.out.2.1).mono ?_
  rintro e w6 ⟨rfl, q_HB6⟩
  have HB6 := Lib.hid q_HB6
  clear q_HB6
  have HTh := Lib.hid (HTg.out.then (Tr.of_below (M := fun _ => False) HTg.out.wf HB6.out))
  have HLh := Lib.hid (HLg.out.below HTg.out.wf HB6.out)
  have hx9 : Hid (Rd kU8 (w6.alloc (.cells #[.int .u8 120] 5 (1, 2))) c5 (some ⟨w6.heap.size, 0, none⟩) 1 1 [120]) := Rd.lit w6 c5 HTh.out.wf 5 [120] (1, 2) (by decide)
  have ha4 := below_alloc w6 (.cells #[.int .u8 120] 5 (1, 2))
  have HTi := Lib.hid (HTh.out.then (Tr.of_below (M := fun _ => False) HTh.out.wf ha4))
  have HLi := Lib.hid (HLh.out.below HTh.out.wf ha4)
  clear ha4
  go_wp2_with fail
  refine (LPut_ok _ c5 gl g 4 Y5 _ _ _ _ _ 1 1 [120] (by omega) (by omega) (by decide) (by omega) HTi.out.wf HLi.out hx9.out).mono ?_
  rintro e w7 ⟨rfl, c7, D7, q_HT7, q_HL7⟩
  have HT7 := Lib.hid q_HT7
  have HL7 := Lib.hid q_HL7
  clear q_HT7 q_HL7
  have HTj := Lib.hid (HTi.out.trans (M := fun _ => False) HT7.out (two_low hgl' hg))
  go_wp2_with fail
  refine (KCrash_any w7 c7 g 4 Y5 D7 _ none 0 0 [] (-1) 0 (by omega) HTj.out.wf HL7.out.1 (Rd.nil _ _ _)).mono ?_
  rintro e w8 ⟨rfl, c8, q_HT8, q_HD8⟩
  have HT8 := Lib.hid q_HT8
  have HD8 := Lib.hid q_HD8
  clear q_HT8 q_HD8
  have HTk := Lib.hid (HTj.out.low HT8.out hg)
  have hd8 := HD8.out
  rw [mcut0, crash_none _ _ HL7.out.1.facts.2.2.1] at hd8
  have hl8 := HL7.out.2.1.tr HT8.out HL7.out.2.2.2
  have HDD8 := Lib.hid hd8
  have HLL8 := Lib.hid hl8
  clear hd8 hl8
  go_wp2_with fail
  refine (LOpen_any w8 c8 g 4 Y5 _ 0 (by omega) HTk.out.wf HDD8.out).mono ?_
  rintro e w9 ⟨gl9, A9, m9, cp9, rfl, recs9, used9, c9, q_HF9, hgl9, q_HT9, q_HL9, q_HR9⟩
  have HF9 := Lib.hid q_HF9
  have HT9 := Lib.hid q_HT9
  have HL9 := Lib.hid q_HL9
  have HR9 := Lib.hid q_HR9
  clear q_HF9 q_HT9 q_HL9 q_HR9
  have hrec : recs9 = [x1, x2] := by
    have h := HF9.out
    rw [syncY_none] at h
    have h5 := HLh.out.2.2.1
    rw [syncY_none] at h5
    exact (h.uniq h5.finds).1
  subst hrec
  obtain rfl : 2 = m9 := HR9.out.len
  have HTl := Lib.hid (HTk.out.low HT9.out hg)
  have HLL9 := Lib.hid (HLL8.out.tr HT9.out HL7.out.2.2.2)
  go_wp2_with fail
  refine (WOpen_nil w9).mono ?_
  rintro e w10 ⟨rfl, rfl⟩
  obtain ⟨b9, o9, rfl⟩ := HR9.out.addr (by omega)
  obtain ⟨A10, m10, cp10, hc10, hr10⟩ := HR9.out.row (k := 1) rfl
  have hm10 : 53 = m10 := by rw [← hr10.len, HLX2.out]
  subst hm10
  clear hr10
  go_wp2_with fail
  refine (WLen_any _ c9 gl g _ _ HLL9.out).mono ?_
  rintro e w11 ⟨rfl, rfl⟩
  go_wp2_with fail
  refine (WUsed_any _ c9 gl g _ _ HLL9.out).mono ?_
  rintro e w11 ⟨rfl, rfl⟩
  go_wp2_with fail
  refine (WPut_bad _ gl none 0 0 (by omega) (by omega)).mono ?_
  rintro e w11 ⟨rfl, q_HB11⟩
  have HB11 := Lib.hid q_HB11
  clear q_HB11
  go_wp2_with fail
  refine bodyPost_ret (results_tmp rfl _ _ _) rfl ?_
  exact ⟨rfl, (HTl.out.then (Tr.of_below HTl.out.wf HB11.out)).below (fun _ _ h => h)⟩
end Go.Proofs.Ytalihocoekplgaa
