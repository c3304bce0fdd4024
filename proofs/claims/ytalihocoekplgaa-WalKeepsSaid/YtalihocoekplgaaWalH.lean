/- wal: Open. -/
import Derived.Test.YtalihocoekplgaaWalD
import Derived.Test.YtalihocoekplgaaWalP
set_option linter.unusedVariables false
set_option linter.unusedSimpArgs false
namespace Go.Proofs.Ytalihocoekplgaa
open Go.RowKit

def Col.drop (c : Col) (a : Nat) : Col := fun k => if c k = some a then none else c k
theorem Col.drop_keep {c : Col} {a k g : Nat} (h : c k = some g) (hg : g ≠ a) : c.drop a k = some g := by
  unfold Col.drop
  rw [h, if_neg (by intro e; exact hg (Option.some.inj e))]
theorem Col.drop_some {c : Col} {a k g : Nat} (h : c.drop a k = some g) : c k = some g := by
  unfold Col.drop at h
  split at h
  · cases h
  · exact h
theorem Col.drop_none {c : Col} {a k : Nat} (h : c k = none) : c.drop a k = none := by
  unfold Col.drop
  rw [h]
  exact if_neg (by intro e; cases e)
theorem Tr.dropc {M : Nat → Prop} {c c1 : Col} {w w1 : World} (h : Tr M c c1 w w1) {a : Nat} (ha : w.heap.size ≤ a) : Tr M c (c1.drop a) w w1 := by
  refine ⟨h.os, h.tape, h.output, h.size, h.wf0, fun k g hk => h.wf k g (Col.drop_some hk), fun k hk => ?_, fun k g hk hg => h.own k g hk (Col.drop_some hg), h.cold⟩
  unfold Col.drop
  rw [h.col k hk]
  split
  · rename_i e
    have := (h.wf0 k a e).2
    omega
  · rfl
theorem Dk.dropc {w : World} {c : Col} {g n : Nat} {Y : List (List UInt8)} {D : Dt} {N a : Nat} (h : Dk w c g n Y D N) (ha : g ≠ a) : Dk w (c.drop a) g n Y D N := by
  obtain ⟨hg, A, cp, m, h1, h2, h3, h4, h5⟩ := h
  exact ⟨Col.drop_keep hg ha, A, cp, m, h1, Col.drop_keep h2 ha, h3, ⟨h4.1, fun k hk => Col.drop_keep (h4.2 k hk) ha⟩, h5⟩
theorem Lg.dropc {w : World} {c : Col} {gl g num used a : Nat} (h : Lg w c gl g num used) (ha : gl ≠ a) : Lg w (c.drop a) gl g num used := ⟨Col.drop_keep h.1 ha, h.2⟩
theorem Outs.rd {w : World} {c : Col} {vo : Nat} {recs : List (List UInt8)} (h : Outs w c vo recs) : ∃ A m cp, w.heap[vo]? = some (.cells #[.slice A m cp] 50 (0, 0)) ∧ Rd (kSl kU8) w (c.drop vo) A m cp recs := by
  obtain ⟨h1, A, m, cp, cells, h2, h3, h4, h5⟩ := h
  have h4' : Reps (kSl kU8) w (c.drop vo) recs cells := h4.keep (Kp.of_col w fun k _ hk => by
    unfold Col.drop
    rw [hk]
    rfl)
  obtain ⟨A', cp', he, hr⟩ := h4'.rd h3.1 h5 (fun k hk => by
    unfold Col.drop
    rw [h3.2 k hk]
    exact if_pos rfl)
  cases he
  exact ⟨A, m, cp, h2, hr⟩
/-- The three blocks that Open lays. -/
theorem open_start (w : World) (c : Col) (g : Nat) (hw : Wf c w) (hg : g < w.heap.size) :
    ∃ c1, Tr (fun _ => False) c c1 w (((w.alloc (.cells #[.pointer (some ⟨g, 0, none⟩), .int .i64 0, .int .i64 0] 83)).alloc (.cells #[.pointer (some ⟨w.heap.size, 0, none⟩)] 49)).alloc (.cells #[.slice none 0 0] 50)) ∧
      Lg (((w.alloc (.cells #[.pointer (some ⟨g, 0, none⟩), .int .i64 0, .int .i64 0] 83)).alloc (.cells #[.pointer (some ⟨w.heap.size, 0, none⟩)] 49)).alloc (.cells #[.slice none 0 0] 50)) c1 w.heap.size g 0 0 ∧
      (c1 (w.heap.size + 1) = some (w.heap.size + 1) ∧ (((w.alloc (.cells #[.pointer (some ⟨g, 0, none⟩), .int .i64 0, .int .i64 0] 83)).alloc (.cells #[.pointer (some ⟨w.heap.size, 0, none⟩)] 49)).alloc (.cells #[.slice none 0 0] 50)).heap[w.heap.size + 1]? = some (.cells #[.pointer (some ⟨w.heap.size, 0, none⟩)] 49 (0, 0))) ∧
      Outs (((w.alloc (.cells #[.pointer (some ⟨g, 0, none⟩), .int .i64 0, .int .i64 0] 83)).alloc (.cells #[.pointer (some ⟨w.heap.size, 0, none⟩)] 49)).alloc (.cells #[.slice none 0 0] 50)) c1 (w.heap.size + 2) [] := by
  have t1 := (Tr.new hw (.cells #[.pointer (some ⟨g, 0, none⟩), .int .i64 0, .int .i64 0] 83)).hot (k := w.heap.size) (g := w.heap.size) (Nat.le_refl _) (by simp) (by simp) (.inr (Nat.le_refl _))
  have b1 := heap_alloc_new w (.cells #[.pointer (some ⟨g, 0, none⟩), .int .i64 0, .int .i64 0] 83)
  have s1 : (w.alloc (.cells #[.pointer (some ⟨g, 0, none⟩), .int .i64 0, .int .i64 0] 83)).heap.size = w.heap.size + 1 := by simp
  generalize w.alloc (.cells #[.pointer (some ⟨g, 0, none⟩), .int .i64 0, .int .i64 0] 83) = W1 at *
  have t3 := (t1.alloc (.cells #[.pointer (some ⟨w.heap.size, 0, none⟩)] 49)).hot (k := W1.heap.size) (g := W1.heap.size) t1.size (by simp) (by simp) (.inr t1.size)
  have b3 := heap_alloc_new W1 (.cells #[.pointer (some ⟨w.heap.size, 0, none⟩)] 49)
  have b13 := (Below.heap_alloc W1 (.cells #[.pointer (some ⟨w.heap.size, 0, none⟩)] 49) w.heap.size (by omega)).trans b1
  have s3 : (W1.alloc (.cells #[.pointer (some ⟨w.heap.size, 0, none⟩)] 49)).heap.size = w.heap.size + 2 := by simp [s1]
  rw [s1] at b3 t3
  generalize W1.alloc (.cells #[.pointer (some ⟨w.heap.size, 0, none⟩)] 49) = W3 at *
  have t4 := (t3.alloc (.cells #[.slice none 0 0] 50)).hot (k := W3.heap.size) (g := W3.heap.size) t3.size (by simp) (by simp) (.inr t3.size)
  have b4 := heap_alloc_new W3 (.cells #[.slice none 0 0] 50)
  have b14 := (Below.heap_alloc W3 (.cells #[.slice none 0 0] 50) w.heap.size (by omega)).trans b13
  have b34 := (Below.heap_alloc W3 (.cells #[.slice none 0 0] 50) (w.heap.size + 1) (by omega)).trans b3
  rw [s3] at t4 b4
  have hc0 : (((c.set w.heap.size w.heap.size).set (w.heap.size + 1) (w.heap.size + 1)).set (w.heap.size + 2) (w.heap.size + 2)) w.heap.size = some w.heap.size := by
    rw [Col.set_ne _ (by omega), Col.set_ne _ (by omega), Col.set_same]
  have hc1 : (((c.set w.heap.size w.heap.size).set (w.heap.size + 1) (w.heap.size + 1)).set (w.heap.size + 2) (w.heap.size + 2)) (w.heap.size + 1) = some (w.heap.size + 1) := by
    rw [Col.set_ne _ (by omega), Col.set_same]
  exact ⟨_, t4, ⟨hc0, b14⟩, ⟨hc1, b34⟩, ⟨Col.set_same _ _ _, none, 0, 0, [], b4, ⟨World.ownsRow_nil _ 0 _ 1, fun k hk => by cases hk⟩, Reps.nil _ _ _, rfl⟩⟩
/-- How many sectors are used, as the log says. -/
def cellN (w : World) (a : Addr) : Nat := match w.cell? a with
  | some (.int _ k) => k.toNat
  | _ => 0
theorem cellN_of {w : World} {a : Addr} {k : Nat} (h : w.cell? a = some (.int .i64 (k : Int))) : cellN w a = k := by
  unfold cellN
  rw [h]
  simp
/-- Up to a sector all behind the records is noughts. -/
def Wiped (Z : List (List UInt8)) (used j : Nat) (Z' : List (List UInt8)) : Prop := ∀ i, Z'[i]? = if used ≤ i ∧ i < j then (Z[i]?).map (fun _ => zsec) else Z[i]?
theorem Wiped.done {Z Z' : List (List UInt8)} {used n : Nat} (h : Wiped Z used n Z') (hn : Z.length = n) (hu : used ≤ n) : Z' = cleanZ Z used := by
  apply List.ext_getElem?
  intro i
  rw [h i, cleanZ_get Z used i (by omega)]
  by_cases h1 : i < used
  · rw [if_neg (by omega), if_pos h1]
  · rw [if_neg h1]
    by_cases h2 : i < n
    · rw [if_pos (by omega), if_pos (by omega), List.getElem?_eq_getElem (by omega)]
      rfl
    · rw [if_neg (by omega), if_neg (by omega), List.getElem?_eq_none (by omega)]
theorem Wiped.put {Y : List (List UInt8)} {D D' : Dt} {Z : List (List UInt8)} {used j : Nat} (h : Wiped Z used j (syncY Y D)) (hu : used ≤ j) (hl : Z.length = Y.length) (hD : ∀ i : Nat, D' (i : Int) = if i = j then some zsec else D (i : Int)) : Wiped Z used (j + 1) (syncY Y D') := by
  intro i
  have hi := h i
  rw [syncY_get] at hi ⊢
  by_cases e : i = j
  · subst e
    rw [if_pos (by omega), hD, if_pos rfl]
    by_cases h2 : i < Z.length
    · rw [List.getElem?_eq_getElem h2, List.getElem?_eq_getElem (by omega)]
      rfl
    · rw [List.getElem?_eq_none (by omega), List.getElem?_eq_none (by omega)]
      rfl
  · rw [hD, if_neg e, hi]
    by_cases h2 : used ≤ i ∧ i < j
    · rw [if_pos h2, if_pos (by omega)]
    · rw [if_neg h2, if_neg (by omega)]
theorem Wiped.skip {Z Z' : List (List UInt8)} {used j : Nat} (h : Wiped Z used j Z') (hz : Z'[j]? = some zsec) : Wiped Z used (j + 1) Z' := by
  intro i
  by_cases e : i = j
  · subst e
    have hi := h i
    rw [if_neg (by omega)] at hi
    rw [hz] at hi ⊢
    rw [← hi]
    split <;> rfl
  · rw [h i]
    by_cases h2 : used ≤ i ∧ i < j
    · rw [if_pos h2, if_pos (by omega)]
    · rw [if_neg h2, if_neg (by omega)]
set_option maxRecDepth 100000 in
set_option maxHeartbeats 8000000 in
theorem WOpen_any (w : World) (c : Col) (g n : Nat) (Y : List (List UInt8)) (D : Dt) (N : Nat) (hN : N ≤ 100000) (hw : Wf c w) (hD : Dk w c g n Y D N) :
    Calls Try.prog 24 #[.pointer (some ⟨g, 0, none⟩)] w fun e w' => ∃ gl A m cp, e = .returned (.tuple #[.pointer (some ⟨gl, 0, none⟩), .slice A m cp, .int .i64 0]) ∧ ∃ recs used c', Finds (syncY Y D) recs used ∧ w.heap.size ≤ gl ∧ Tr (· = g) c c' w w' ∧
      Dk w' c' g n (cleanZ (syncY Y D) used) (fun _ => none) 0 ∧ Lg w' c' gl g recs.length used ∧ Rd (kSl kU8) w' c' A m cp recs := by
  have hgl := hD.lt
  have hYl : Y.length = n := by obtain ⟨_, _, _, _, _, _, _, _, h, _⟩ := hD; exact h
  have hn8 : n ≤ 4096 := by obtain ⟨_, _, _, _, _, _, _, _, _, _, _, h⟩ := hD; exact h
  have hY64 : ∀ s ∈ Y, s.length = 64 := by obtain ⟨_, _, _, _, _, _, _, _, _, h, _⟩ := hD; exact h
  have hDok : DOk D := by obtain ⟨_, _, _, _, _, _, h, _⟩ := hD; exact h.ok
  obtain ⟨Z, hZ⟩ : ∃ Z, syncY Y D = Z := ⟨_, rfl⟩
  have hZ64 : ∀ s ∈ Z, s.length = 64 := by rw [← hZ]; exact syncY_all hY64 hDok
  have hZl : Z.length = n := by rw [← hZ, syncY_len, hYl]
  rw [hZ]
  have hst := open_start w c g hw hgl
  have HST := Lib.hid hst
  have HYL := Lib.hid hYl
  have HY64 := Lib.hid hY64
  have HZ := Lib.hid hZ
  have HZ64 := Lib.hid hZ64
  have HZL := Lib.hid hZl
  have HW := Lib.hid hw
  have HD := Lib.hid hD
  have HDOK := Lib.hid hDok
  clear hst hYl hY64 hZ hZ64 hZl hw hD hDok
  go_enter Try.func24, Try.ntmps24
  go_wp2_with fail
  obtain ⟨c1, ht1, hl1, hv1, ho1⟩ := HST.out
  generalize ((w.alloc (.cells #[.pointer (some ⟨g, 0, none⟩), .int .i64 0, .int .i64 0] 83)).alloc (.cells #[.pointer (some ⟨w.heap.size, 0, none⟩)] 49)).alloc (.cells #[.slice none 0 0] 50) = W1 at *
  have hgla : w.heap.size ≠ w.heap.size + 1 := by omega
  have hglb : w.heap.size ≠ w.heap.size + 2 := by omega
  have hvlo : w.heap.size + 1 ≠ w.heap.size + 2 := by omega
  have hggl : g ≠ w.heap.size := by omega
  have hgvl : g ≠ w.heap.size + 1 := by omega
  have hgvo : g ≠ w.heap.size + 2 := by omega
  obtain ⟨gl, hgle⟩ : ∃ gl, w.heap.size = gl := ⟨_, rfl⟩
  obtain ⟨vl, hvle⟩ : ∃ vl, w.heap.size + 1 = vl := ⟨_, rfl⟩
  obtain ⟨vo, hvoe⟩ : ∃ vo, w.heap.size + 2 = vo := ⟨_, rfl⟩
  have hgl0 : w.heap.size ≤ gl := by omega
  have hvl0 : w.heap.size ≤ vl := by omega
  have hvo0 : w.heap.size ≤ vo := by omega
  rw [hvle] at hv1 hgla hvlo hgvl
  rw [hvoe] at ho1 hglb hvlo hgvo
  rw [hgle] at hl1 hv1 hgla hglb hggl
  rw [hvle, show vl + 1 = vo by omega]
  have HT1 := Lib.hid ht1
  have HL1 := Lib.hid hl1
  have HV1 := Lib.hid hv1
  have HO1 := Lib.hid ho1
  have HD1 := Lib.hid (HD.out.tr ht1 (fun h => h))
  clear ht1 hl1 hv1 ho1 HST
  have HGLE := Lib.hid hgle
  have HVLE := Lib.hid hvle
  have HVOE := Lib.hid hvoe
  clear hgle hvle hvoe
  go_loopw [18] (fun _ wr => ∃ (recs : List (List UInt8)) (used : Nat) (c' : Col), used ≤ n ∧ recs.length ≤ used ∧ Hid (Chain Z 0 0 recs used) ∧ Hid (Tr (fun _ => False) c c' w wr) ∧ Hid (Dk wr c' g n Y D N) ∧ Hid (Lg wr c' gl g recs.length used) ∧ Hid (c' vl = some vl ∧ wr.heap[vl]? = some (.cells #[.pointer (some ⟨gl, 0, none⟩)] 49 (0, 0))) ∧ Hid (Outs wr c' vo recs)) (fun _ wr => n - cellN wr ⟨gl, 2, none⟩)
  case atStart => exact ⟨[], 0, c1, Nat.zero_le _, Nat.zero_le _, rfl, HT1.out, HD1.out, HL1.out, HV1.out, HO1.out⟩
  case round =>
    obtain ⟨recs, used, c2, hu, hru, HCH, HT2, HD2, HL2, HV2, HO2⟩ := hrel
    have hN := WNext_any wr c2 vl vo gl g n recs.length used Y D N recs (by omega) (by omega) (by omega) HT2.out.wf HD2.out HL2.out HO2.out HV2.out hgla hglb hvlo hggl hgvo
    obtain ⟨rc, hrc⟩ : ∃ rc, recAt Z used recs.length = rc := ⟨_, rfl⟩
    unfold nextUsed at hN
    rw [HZ.out, hrc] at hN
    have HN := Lib.hid hN
    have HRC := Lib.hid hrc
    clear hN hrc
    go_wp2_with fail
    refine (HN.out).mono ?_
    rintro e w3 ⟨rfl, c3, q_HT3, q_HL3, q_HO3⟩
    have HT3 := Lib.hid q_HT3
    have HL3 := Lib.hid q_HL3
    have HO3 := Lib.hid q_HO3
    clear q_HT3 q_HL3 q_HO3
    have ht3g : Tr (fun r => r = gl ∨ r = vo) c2 c3 wr w3 := HT3.out
    have hd3 := HD2.out.tr ht3g (fun h => by rcases h with h | h; exact hggl h; exact hgvo h)
    have hv3 := ht3g.at_ HV2.out.1 (fun h => by rcases h with h | h; exact hgla h.symm; exact hvlo h)
    have htw := HT2.out.trans ht3g (M := fun _ => False) (fun r hr h => by rcases h with h | h <;> omega)
    have HD3 := Lib.hid hd3
    have HV3 := Lib.hid (show c3 vl = some vl ∧ w3.heap[vl]? = _ from ⟨hv3.1, hv3.2.trans HV2.out.2⟩)
    have HTW3 := Lib.hid htw
    have hme := cellN_of (blk_cell2 HL2.out.2)
    clear ht3g hd3 hv3 htw
    cases rc with
    | some x =>
      obtain ⟨f1, f2, f3⟩ := recAt_facts HZ64.out HRC.out
      have hsp := secN_pos x.length
      rw [HZL.out] at f3
      have hme3 := cellN_of (blk_cell2 HL3.out.2)
      have hch := Chain.snoc HCH.out (by rw [Nat.zero_add]; exact HRC.out)
      have HCH3 := Lib.hid hch
      have HME := Lib.hid hme
      have HME3 := Lib.hid hme3
      clear hch hme hme3
      go_wp2_with fail
      have e1 := HME.out
      have e2 := HME3.out
      exact ⟨⟨recs ++ [x], used + secN x.length, c3, f3, by rw [List.length_append]; simp; omega, HCH3.out, HTW3.out, HD3.out, by rw [List.length_append]; exact HL3.out, HV3.out, HO3.out⟩, by rw [e1, e2]; omega⟩
    | none =>
      have e0 := blk_cell0 HV3.out.2
      have e2 := blk_cell2 HL3.out.2
      clear hme
      go_wp2_with fail
      go_loopw [8] (fun i wr => ∃ (j : Nat) (c' : Col) (D' : Dt) (N' : Nat), i = .int .i64 (j : Int) ∧ used ≤ j ∧ j ≤ n ∧ N' ≤ N + j ∧ Hid (Wiped Z used j (syncY Y D')) ∧ Hid (Tr (· = g) c3 c' w3 wr) ∧ Hid (Dk wr c' g n Y D' N')) (fun i _ => n - (intOf i).toNat)
      case atStart => exact ⟨used, c3, D, N, rfl, Nat.le_refl _, hu, by omega, fun i => by rw [HZ.out, if_neg (by omega)], Tr.refl _ HT3.out.wf, HD3.out⟩
      case round =>
        obtain ⟨j, c', D', N', rfl, huj, hjn, hN', HWI, HTJ, HDJ⟩ := hrel
        clear e0 e2
        by_cases hlt : j < n
        · have hlt' : (j : Int) < (n : Int) := by omega
          have hj0 : (0 : Int) ≤ (j : Int) := by omega
          obtain ⟨y, hy⟩ : ∃ y, Y[j]? = some y := ⟨_, List.getElem?_eq_getElem (by rw [HYL.out]; exact hlt)⟩
          obtain ⟨z, hz⟩ : ∃ z, (D' (j : Int)).getD y = z := ⟨_, rfl⟩
          have hzz : (syncY Y D')[j]? = some z := by rw [syncY_get, hy, ← hz]; rfl
          have hdk := HDJ.out
          have hok : DOk D' := by obtain ⟨_, _, _, _, _, _, h, _⟩ := hdk; exact h.ok
          have hz64 : z.length = 64 := syncY_all HY64.out hok z (List.mem_of_getElem? hzz)
          have hK := KRead_full wr c' g n Y D' N' j hlt HTJ.out.wf HDJ.out y hy
          rw [hz] at hK
          clear hdk hok
          have HY := Lib.hid hy
          have HZ1 := Lib.hid hz
          have HZZ := Lib.hid hzz
          have HZ641 := Lib.hid hz64
          have HK := Lib.hid hK
          clear hy hz hzz hz64 hK
          go_wp2_with fail
          refine (KLen_any wr c' g n Y D' N' HDJ.out).mono ?_
          rintro e w4 ⟨rfl, rfl⟩
          go_wp2_with fail
          refine (HK.out).mono ?_
          rintro e w5 ⟨A5, rfl, q_HR5, q_HB5⟩
          have HR5 := Lib.hid q_HR5
          have HB5 := Lib.hid q_HB5
          clear q_HR5 q_HB5
          go_wp2_with fail
          refine (ContainsNz_any w5 c' A5 64 64 z HR5.out).mono ?_
          rintro e w6 ⟨rfl, q_HB6⟩
          have HB6 := Lib.hid q_HB6
          clear q_HB6
          have HBB := Lib.hid (below_then HB5.out HB6.out)
          have HT6 := Lib.hid (HTJ.out.then (Tr.of_below HTJ.out.wf HBB.out))
          have HD6 := Lib.hid (HDJ.out.tr (Tr.of_below (M := fun _ => False) HTJ.out.wf HBB.out) (fun h => h))
          cases hnz : z.any nz with
          | true =>
            go_wp2_with fail
            refine (KWrite_ok w6 c' g n Y D' N' j none 0 0 [] hlt (by omega) (by omega) HT6.out.wf HD6.out (Rd.nil _ _ _)).mono ?_
            rintro e w7 ⟨rfl, c7, q_HT7, q_HD7⟩
            have HT7 := Lib.hid q_HT7
            have HD7 := Lib.hid q_HD7
            clear q_HT7 q_HD7
            go_wp2_with fail
            exact ⟨⟨j + 1, c7, _, N' + 1, by go_num, by omega, by omega, by omega, HWI.out.put huj (by rw [HZL.out, HYL.out]) (fun i => by
              unfold Dt.put
              by_cases e : i = j
              · rw [if_pos (by omega), if_pos e]; rfl
              · rw [if_neg (by omega), if_neg e]), HT6.out.then HT7.out, HD7.out⟩, by simp [intOf]; omega⟩
          | false =>
            have hzs := nz_zsec HZ641.out hnz
            have hsk := HZZ.out
            rw [hzs] at hsk
            have HSK := Lib.hid hsk
            have HZS := Lib.hid hzs
            clear hsk hzs
            go_wp2_with fail
            exact ⟨⟨j + 1, c', D', N', by go_num, by omega, by omega, by omega, HWI.out.skip HSK.out, HT6.out, HD6.out⟩, by simp [intOf]; omega⟩
        · obtain rfl : j = n := by omega
          go_wp2_with fail
          refine (KLen_any wr c' g j Y D' N' HDJ.out).mono ?_
          rintro e w4 ⟨rfl, rfl⟩
          go_wp2_with fail
          refine (KSync_any wr c' g j Y D' N' HTJ.out.wf HDJ.out).mono ?_
          rintro e w5 ⟨rfl, c5, q_HT5, q_HD5⟩
          have HT5 := Lib.hid q_HT5
          have HD5 := Lib.hid q_HD5
          clear q_HT5 q_HD5
          have HT35 := Lib.hid (HTJ.out.then HT5.out)
          have hl5 := HL3.out.tr HT35.out (fun h => hggl h.symm)
          have ho5 := HO3.out.tr HT35.out (fun h => hgvo h.symm)
          have hv5 := HT35.out.at_ HV3.out.1 (fun h => hgvl h.symm)
          have hv5' := blk_cell0 (hv5.2.trans HV3.out.2)
          have ho5' := ho5
          rw [show recs ++ [] = recs from List.append_nil recs] at ho5'
          obtain ⟨A9, m9, cp9, hb9, hr9⟩ := ho5'.rd
          have ho9 := blk_cell0 hb9
          have hd5 := HD5.out
          rw [HWI.out.done HZL.out hu] at hd5
          have HL5 := Lib.hid hl5
          have HR9 := Lib.hid hr9
          have HDD5 := Lib.hid hd5
          clear hl5 hr9 hd5
          clear hv5 hb9 ho5 ho5'
          go_wp2_with fail
          go_quiet (fail)
          go_wp2_with fail
          refine bodyPost_ret (results_tmp3 rfl _ _ _) rfl ?_
          have htot := (((HTW3.out.mono (M' := (· = g)) (fun r _ h => h.elim)).then HT35.out).dropc hvo0).dropc hvl0
          have td := (Tr.refl (fun _ => False) htot.wf).drewN nq
          exact ⟨gl, A9, m9, cp9, rfl, recs, used, (c5.drop vo).drop vl, ⟨HCH.out, HRC.out⟩, hgl0, htot.drewN nq, ((HDD5.out.dropc hgvo).dropc hgvl).tr td (fun h => h), ((HL5.out.dropc hglb).dropc hgla).tr td (fun h => h), (HR9.out.cool (fun k _ hk => Col.drop_none hk)).tr td⟩
end Go.Proofs.Ytalihocoekplgaa
