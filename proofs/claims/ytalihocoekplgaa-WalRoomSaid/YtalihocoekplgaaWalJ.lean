/- wal: Put on a log whose records are told; told. -/
import Derived.Test.YtalihocoekplgaaWalI
import Derived.Test.YtalihocoekplgaaDskM
set_option linter.unusedVariables false
set_option linter.unusedSimpArgs false
namespace Go.Proofs.Ytalihocoekplgaa
open Go.RowKit

theorem mk_noughts (n : Nat) (hn : n ≤ 1000000) : ∃ z : Array Value, (∀ W : World, (Instr.makeSlice 23 (.int .i64 (n : Int)) (.int .i64 (n : Int))).run Try.prog W = .ok (.slice (some ⟨W.heap.size, 0, none⟩) n n) (W.alloc (.cells z 5))) ∧
    ∀ (W : World) (c : Col), Wf c W → Rd kU8 (W.alloc (.cells z 5)) c (some ⟨W.heap.size, 0, none⟩) n n (List.replicate n 0) := by
  refine ⟨(bcells (List.replicate n 0)).toArray, fun W => ?_, fun W c hc => ?_⟩
  · have h := run_make_row' (P := Try.prog) 23 5 (.int .u8 0) 1 Try.underlying23 u8_infoD rfl .i64 .i64 n (by omega) (by omega) W
    have e : madeCells #[Value.int .u8 0] n = (bcells (List.replicate n 0)).toArray := by
      apply Array.toList_inj.1
      have h1 : bcells (List.replicate n 0) = List.replicate n (.int .u8 0) := by
        unfold bcells
        rw [List.map_replicate]
        rfl
      rw [h1, List.eq_replicate_iff]
      refine ⟨by rw [Array.length_toList, size_madeCells], fun b hb => ?_⟩
      unfold madeCells at hb
      rw [Array.toList_map, List.mem_map] at hb
      obtain ⟨i, _, rfl⟩ := hb
      simp [Nat.mod_one]
    rw [e] at h
    exact h
  · have h := Rd.lit W c hc 5 (List.replicate n 0) (0, 0) (by rw [List.length_replicate]; omega)
    rw [List.length_replicate] at h
    exact h
/-- What Put tells. -/
def putE (n used m : Nat) : Int := if m < 1 ∨ 20000 < m then 1 else if n - used < secN m then 5 else 0
def putOk (n used m : Nat) : Bool := decide (1 ≤ m ∧ m ≤ 20000 ∧ secN m ≤ n - used)
theorem putE_ok {n used m : Nat} (h : putOk n used m = true) : putE n used m = 0 := by
  unfold putOk at h
  simp only [decide_eq_true_eq] at h
  unfold putE
  rw [if_neg (by omega), if_neg (by omega)]
theorem putOk_of {n used m : Nat} (h : putE n used m = 0) : putOk n used m = true := by
  unfold putE at h
  unfold putOk
  simp only [decide_eq_true_eq]
  split at h
  · cases h
  · split at h
    · cases h
    · omega
def putDt (n used num : Nat) (b : List UInt8) (D : Dt) : Dt := if putOk n used b.length then putD D used (recB b num) (secN b.length) else D
def putNum (n used num m : Nat) : Nat := if putOk n used m then num + 1 else num
def putUsed (n used m : Nat) : Nat := if putOk n used m then used + secN m else used
theorem WPut_all (w : World) (c : Col) (gl g n num used : Nat) (Y : List (List UInt8)) (D : Dt) (N : Nat) (A : Option Addr) (m cp : Nat) (b : List UInt8) (hu : used ≤ n) (hnum : num ≤ 100000) (hN : N ≤ 900000) (hgg : gl ≠ g) (hw : Wf c w) (hD : Dk w c g n Y D N) (hL : Lg w c gl g num used) (hx : Rd kU8 w c A m cp b) :
    Calls Try.prog 27 #[.pointer (some ⟨gl, 0, none⟩), .slice A m cp] w fun e w' => e = .returned (.int .i64 (putE n used m)) ∧ ∃ c', Tr (fun r => r = gl ∨ r = g) c c' w w' ∧ Dk w' c' g n Y (putDt n used num b D) (N + 400) ∧ Lg w' c' gl g (putNum n used num m) (putUsed n used m) := by
  have hbl := hx.len
  by_cases h1 : m < 1 ∨ 20000 < m
  · have hk : putOk n used m = false := by unfold putOk; simp; omega
    have he : putE n used m = 1 := by unfold putE; rw [if_pos h1]
    unfold putDt putNum putUsed
    rw [hbl, hk, he]
    refine (WPut_bad w gl A m cp h1 hx.max).mono ?_
    rintro e w' ⟨rfl, hb⟩
    have t := Tr.of_below (M := fun r => r = gl ∨ r = g) hw hb
    have t0 := Tr.of_below (M := fun _ => False) hw hb
    exact ⟨rfl, c, t, (hD.tr t0 (fun h => h)).mono (by omega), hL.tr t0 (fun h => h)⟩
  · by_cases h2 : n - used < secN m
    · have hk : putOk n used m = false := by unfold putOk; simp; omega
      have he : putE n used m = 5 := by unfold putE; rw [if_neg h1, if_pos h2]
      unfold putDt putNum putUsed
      rw [hbl, hk, he]
      refine (WPut_full w c gl g n num used Y D N A m cp (by omega) (by omega) hu h2 hw hD hL).mono ?_
      rintro e w' ⟨rfl, hb⟩
      have t := Tr.of_below (M := fun r => r = gl ∨ r = g) hw hb
      have t0 := Tr.of_below (M := fun _ => False) hw hb
      exact ⟨rfl, c, t, (hD.tr t0 (fun h => h)).mono (by omega), hL.tr t0 (fun h => h)⟩
    · have hk : putOk n used m = true := by unfold putOk; simp; omega
      have he : putE n used m = 0 := putE_ok hk
      unfold putDt putNum putUsed
      rw [hbl, hk, he]
      refine (WPut_ok w c gl g n num used Y D N A m cp b (by omega) (by omega) hnum hN (by omega) hgg hw hD hL hx).mono ?_
      rintro e w' ⟨rfl, c', ht, hd, hl⟩
      exact ⟨rfl, c', ht, hd.mono (by unfold secN; omega), hl⟩
/-- A log on a disk: its records are these, and nothing behind them. -/
def LD (w : World) (c : Col) (gl g n : Nat) (Y : List (List UInt8)) (D : Dt) (N : Nat) (recs : List (List UInt8)) (used : Nat) : Prop := Dk w c g n Y D N ∧ Lg w c gl g recs.length used ∧ Clean (syncY Y D) recs used ∧ gl ≠ g
theorem LD.tr {M : Nat → Prop} {w w' : World} {c c' : Col} {gl g n : Nat} {Y : List (List UInt8)} {D : Dt} {N : Nat} {recs : List (List UInt8)} {used : Nat} (h : LD w c gl g n Y D N recs used) (k : Tr M c c' w w') (h1 : ¬ M gl) (h2 : ¬ M g) : LD w' c' gl g n Y D N recs used :=
  ⟨h.1.tr k h2, h.2.1.tr k h1, h.2.2⟩
theorem LD.below {w w' : World} {c : Col} {gl g n : Nat} {Y : List (List UInt8)} {D : Dt} {N : Nat} {recs : List (List UInt8)} {used : Nat} (h : LD w c gl g n Y D N recs used) (hw : Wf c w) (k : Below w.heap.size w w') : LD w' c gl g n Y D N recs used :=
  h.tr (Tr.of_below (M := fun _ => False) hw k) (fun h => h) (fun h => h)
theorem Dk.facts {w : World} {c : Col} {g n : Nat} {Y : List (List UInt8)} {D : Dt} {N : Nat} (hD : Dk w c g n Y D N) : Y.length = n ∧ (∀ s ∈ Y, s.length = 64) ∧ DOk D ∧ n ≤ 4096 := by
  obtain ⟨_, _, _, _, _, _, h1, _, h2, h3, _, h4⟩ := hD
  exact ⟨h2, h3, h1.ok, h4⟩
theorem LD.used {w : World} {c : Col} {gl g n : Nat} {Y : List (List UInt8)} {D : Dt} {N : Nat} {recs : List (List UInt8)} {used : Nat} (h : LD w c gl g n Y D N recs used) : used ≤ n ∧ recs.length ≤ used ∧ n ≤ 4096 := by
  obtain ⟨f1, f2, f3, f4⟩ := h.1.facts
  have hl := (Chain.le (syncY_all f2 f3) h.2.2.1.1 (Nat.zero_le _)).1
  have hc := h.2.2.1.2.1
  rw [syncY_len, f1] at hc
  exact ⟨hc, by omega, f4⟩
/-- Put, where it fits. -/
theorem LPut_ok (w : World) (c : Col) (gl g n : Nat) (Y : List (List UInt8)) (D : Dt) (N : Nat) (recs : List (List UInt8)) (used : Nat) (A : Option Addr) (m cp : Nat) (b : List UInt8) (h1 : 1 ≤ m) (h2 : m ≤ 20000) (hf : used + secN m ≤ n) (hN : N ≤ 900000) (hw : Wf c w) (hL : LD w c gl g n Y D N recs used) (hx : Rd kU8 w c A m cp b) :
    Calls Try.prog 27 #[.pointer (some ⟨gl, 0, none⟩), .slice A m cp] w fun e w' => e = .returned (.int .i64 0) ∧ ∃ c' D', Tr (fun r => r = gl ∨ r = g) c c' w w' ∧ LD w' c' gl g n Y D' (N + 400) (recs ++ [b]) (used + secN m) := by
  have hbl := hx.len
  obtain ⟨u1, u2, u3⟩ := hL.used
  obtain ⟨f1, f2, f3, f4⟩ := hL.1.facts
  refine (WPut_ok w c gl g n recs.length used Y D N A m cp b h1 h2 (by omega) hN hf hL.2.2.2 hw hL.1 hL.2.1 hx).mono ?_
  rintro e w' ⟨rfl, c', ht, hd, hl⟩
  have hc := hL.2.2.1.put (b := b) f2 f3 (by omega) (by omega) (by rw [hbl, f1]; exact hf) (by omega)
  rw [hbl] at hc
  exact ⟨rfl, c', _, ht, hd.mono (by unfold secN; omega), by rw [List.length_append]; exact hl, hc, hL.2.2.2⟩
theorem LSync_any (w : World) (c : Col) (gl g n : Nat) (Y : List (List UInt8)) (D : Dt) (N : Nat) (recs : List (List UInt8)) (used : Nat) (hw : Wf c w) (hL : LD w c gl g n Y D N recs used) :
    Calls Try.prog 29 #[.pointer (some ⟨gl, 0, none⟩)] w fun e w' => e = .returned (.tuple #[]) ∧ ∃ c', Tr (· = g) c c' w w' ∧ LD w' c' gl g n (syncY Y D) (fun _ => none) 0 recs used := by
  refine (WSync_any w c gl g n recs.length used Y D N hw hL.1 hL.2.1).mono ?_
  rintro e w' ⟨rfl, c', ht, hd⟩
  exact ⟨rfl, c', ht, hd, hL.2.1.tr ht hL.2.2.2, by rw [syncY_none]; exact hL.2.2.1, hL.2.2.2⟩
/-- Open finds what is there. -/
theorem LOpen_any (w : World) (c : Col) (g n : Nat) (Y : List (List UInt8)) (D : Dt) (N : Nat) (hN : N ≤ 100000) (hw : Wf c w) (hD : Dk w c g n Y D N) :
    Calls Try.prog 24 #[.pointer (some ⟨g, 0, none⟩)] w fun e w' => ∃ gl A m cp, e = .returned (.tuple #[.pointer (some ⟨gl, 0, none⟩), .slice A m cp, .int .i64 0]) ∧ ∃ recs used c', Finds (syncY Y D) recs used ∧ w.heap.size ≤ gl ∧ Tr (· = g) c c' w w' ∧
      LD w' c' gl g n (cleanZ (syncY Y D) used) (fun _ => none) 0 recs used ∧ Rd (kSl kU8) w' c' A m cp recs := by
  obtain ⟨f1, f2, f3, f4⟩ := hD.facts
  have hgl := hD.lt
  refine (WOpen_any w c g n Y D N hN hw hD).mono ?_
  rintro e w' ⟨gl, A, m, cp, rfl, recs, used, c', hf, hg, ht, hd, hl, hr⟩
  exact ⟨gl, A, m, cp, rfl, recs, used, c', hf, hg, ht, ⟨hd, hl, by rw [syncY_none]; exact hf.clean (syncY_all f2 f3), by omega⟩, hr⟩
theorem WOpen_nil (w : World) : Calls Try.prog 24 #[.pointer none] w fun e w' => e = .returned (.tuple #[.pointer none, .slice none 0 0, .int .i64 1]) ∧ w = w' := by
  go_enter Try.func24, Try.ntmps24
  go_wp2_with fail
  refine bodyPost_ret (results_tmp3 rfl _ _ _) rfl ?_
  exact ⟨rfl, rfl⟩
end Go.Proofs.Ytalihocoekplgaa
