/- disk: Crash. -/
import Derived.Test.YtalihocoekplgaaDskJ
set_option linter.unusedVariables false
set_option linter.unusedSimpArgs false
namespace Go.Proofs.Ytalihocoekplgaa
open Go.RowKit

theorem KCrash_nil (w : World) (B : Option Addr) (kn kc : Nat) (torn nn : Int) : Calls Try.prog 12 #[.pointer none, .slice B kn kc, .int .i64 torn, .int .i64 nn] w fun e w' => e = .returned (.tuple #[]) ∧ w = w' := by
  go_enter Try.func12, Try.ntmps12
  go_wp2_with fail
  refine (KDirty_nil w).mono ?_
  rintro e w1 ⟨rfl, rfl⟩
  go_wp2_with fail
  go_loopw [14] (fun i wr => i = .int .i64 0 ∧ w = wr) (fun i _ => 0)
  case atStart => exact ⟨rfl, rfl⟩
  case round =>
    obtain ⟨rfl, rfl⟩ := hrel
    go_wp2_with fail
    go_end0
    exact ⟨rfl, rfl⟩
set_option maxRecDepth 100000 in
set_option maxHeartbeats 4000000 in
theorem KCrash_any (w : World) (c : Col) (g n : Nat) (Y : List (List UInt8)) (D : Dt) (N : Nat) (B : Option Addr) (kn kc : Nat) (keep : List Int) (torn nn : Int) (hN : N ≤ 1000000) (hw : Wf c w) (h : Dk w c g n Y D N) (hkp : Rd kInt w c B kn kc keep) :
    Calls Try.prog 12 #[.pointer (some ⟨g, 0, none⟩), .slice B kn kc, .int .i64 torn, .int .i64 nn] w fun e w' => e = .returned (.tuple #[]) ∧ ∃ c', Tr (· = g) c c' w w' ∧ Dk w' c' g n (crashY Y D keep torn (mcut nn)) (fun _ => none) 0 := by
  have HDY := Lib.hid (KDirty_any w c g n Y D N hN hw h)
  have HDK := Lib.hid h
  obtain ⟨hg, A, cp, m, h1, h2, h3, h4, h5, h6, h7, h8⟩ := h
  have hok := h3.ok
  have hgl := blk_lt h1
  have hml := h3.lt
  have hn1 : (dirtyL D n).length ≤ 4096 := by
    unfold dirtyL
    rw [List.length_map]
    exact Nat.le_trans (List.length_filter_le _ _) (by simpa using h8)
  have hnd := dirtyL_nodup D n
  have hmem := fun x => dirtyL_mem h7 x
  generalize hL : dirtyL D n = L at HDY hn1 hnd hmem
  have HW := Lib.hid hw
  have H1 := Lib.hid h1
  have H3 := Lib.hid h3
  have H4 := Lib.hid h4
  have H6 := Lib.hid h6
  have H7 := Lib.hid h7
  have H5 := Lib.hid h5
  have HOK := Lib.hid hok
  have HKP := Lib.hid hkp
  have HL := Lib.hid hL
  have HND := Lib.hid hnd
  have HMEM := Lib.hid hmem
  clear h1 h3 h4 h6 h7 h5 hok hkp hL hnd hmem
  clear hw
  go_enter Try.func12, Try.ntmps12
  go_wp2_with fail
  refine (HDY.out).mono ?_
  rintro e w1 ⟨AL, mm, cpl, rfl, q_HRL, q_HB1⟩
  have HRL := Lib.hid q_HRL
  have HB1 := Lib.hid q_HB1
  clear q_HRL q_HB1
  go_wp2_with fail
  have hmm : L.length = mm := HRL.out.len
  have hmm1 : mm ≤ 4096 := by omega
  go_loopw [14] (fun i wr => ∃ (k : Nat) (Y' : List (List UInt8)), i = .int .i64 (k : Int) ∧ k ≤ mm ∧ Hid (CrashP Y Y' D keep torn (mcut nn) (L.take k)) ∧ Hid (Tr (· = g) c c w wr) ∧ Hid (wr.heap[g]? = w.heap[g]?) ∧ Hid (wr.heap[m]? = w.heap[m]?) ∧ Hid (wr.ownsRow 0 70 64 (.slice A n cp) n (Y'.flatMap bcells)) ∧ Hid (Rd kInt wr c AL mm cpl L))
    (fun i _ => mm - (intOf i).toNat)
  case atStart =>
    have hT := Tr.of_below (M := (· = g)) HW.out HB1.out
    exact ⟨0, Y, rfl, Nat.zero_le _, CrashP.start H6.out, hT, HB1.out.block g hgl, HB1.out.block m hml, own_below H4.out.1 HB1.out, HRL.out⟩
  case round =>
    obtain ⟨k, Y', rfl, hk, HCP, HT, HGB, HMB, HROW, HRL2⟩ := hrel
    have hd1 : wr.cell? ⟨g, 1, none⟩ = some (.map (some m)) := blk_cell1 (HGB.out.trans H1.out)
    have hd0 : wr.cell? ⟨g, 0, none⟩ = some (.slice A n cp) := blk_cell0 (HGB.out.trans H1.out)
    rcases Nat.lt_or_ge k mm with hlt | hge
    · obtain ⟨ab, ao, rfl⟩ := HRL2.out.addr (by omega)
      obtain ⟨x, hx⟩ : ∃ x, L[k]? = some x := ⟨_, List.getElem?_eq_getElem (by omega)⟩
      have hcx := HRL2.out.int hx
      obtain ⟨s, hD⟩ := Option.isSome_iff_exists.1 ((HMEM.out x).1 (List.mem_of_getElem? hx))
      obtain ⟨hx0, hx1⟩ := H7.out x s hD
      obtain ⟨i, rfl⟩ : ∃ i : Nat, x = (i : Int) := ⟨x.toNat, by omega⟩
      have hs64 := (HOK.out _ _ hD).1
      obtain ⟨bl, capl, he, _, _⟩ := HROW.out.form (by omega)
      obtain ⟨rfl, rfl⟩ : A = some ⟨bl, 0, none⟩ ∧ cp = capl := by injection he with e1 e2 e3; exact ⟨e1, e3⟩
      obtain ⟨C, hC⟩ : ∃ C, bcells s = C := ⟨_, rfl⟩
      have hCl : C.length = 64 := by rw [← hC, bcells_length, hs64]
      have hC1 : ∀ v ∈ C, v.oneCell' = true := fun v hv => bcells_one (hC ▸ hv)
      have hlk := (H3.out.same HMB.out).look (k := (i : Int)) (by omega) (by omega)
      have hlk2 : (Instr.lookup 65 (.map (some m)) (.int .i64 (i : Int)) false).run Try.prog wr = .ok (.agg C.toArray) wr := by
        rw [hlk, hD, ← hC]
        rfl
      have hst := run_storeCells_new (P := Try.prog) wr 70 #[.int .u8 0, .int .u8 0, .int .u8 0, .int .u8 0, .int .u8 0, .int .u8 0, .int .u8 0, .int .u8 0, .int .u8 0, .int .u8 0, .int .u8 0, .int .u8 0, .int .u8 0, .int .u8 0, .int .u8 0, .int .u8 0, .int .u8 0, .int .u8 0, .int .u8 0, .int .u8 0, .int .u8 0, .int .u8 0, .int .u8 0, .int .u8 0, .int .u8 0, .int .u8 0, .int .u8 0, .int .u8 0, .int .u8 0, .int .u8 0, .int .u8 0, .int .u8 0, .int .u8 0, .int .u8 0, .int .u8 0, .int .u8 0, .int .u8 0, .int .u8 0, .int .u8 0, .int .u8 0, .int .u8 0, .int .u8 0, .int .u8 0, .int .u8 0, .int .u8 0, .int .u8 0, .int .u8 0, .int .u8 0, .int .u8 0, .int .u8 0, .int .u8 0, .int .u8 0, .int .u8 0, .int .u8 0, .int .u8 0, .int .u8 0, .int .u8 0, .int .u8 0, .int .u8 0, .int .u8 0, .int .u8 0, .int .u8 0, .int .u8 0, .int .u8 0] C.toArray (by simp only [List.size_toArray, hCl]; exact sec_size) (by simp only [List.size_toArray, hCl]; rfl) (all_oneCell_toArray hC1)
      have HX := Lib.hid hx
      have HD := Lib.hid hD
      have HC := Lib.hid hC
      have hbw := below_alloc wr (.cells C.toArray 70)
      have HKP2 := Lib.hid ((HKP.out.tr HT.out).below hbw)
      have HBW := Lib.hid hbw
      clear hlk hx hD hC he hbw
      have hsc := SContains_any _ c B kn kc keep (i : Int) HKP2.out
      have hgbl : g ≠ bl := by
        intro e
        rcases HROW.out.2 with ⟨he, _⟩ | ⟨b', cap, cur, he, _, hh2, _⟩
        · cases he
        · have e1 : bl = b' := by injection he with e1 _ _; injection e1 with e1; injection e1
          rw [← e1, ← e, HGB.out, H1.out] at hh2
          cases hh2
      have hbm : bl ≠ m := by
        intro e
        obtain ⟨es, clock, hb⟩ := (H3.out.same HMB.out).isMap
        rcases HROW.out.2 with ⟨he, _⟩ | ⟨b', cap, cur, he, _, hh2, _⟩
        · cases he
        · have e1 : bl = b' := by injection he with e1 _ _; injection e1 with e1; injection e1
          rw [← e1, e, hb] at hh2
          cases hh2
      have hblw := (H4.out.1.lt bl rfl).2
      have hbcol := H4.out.2 bl rfl
      have hwsz := HT.out.size
      have hth : (wr.alloc (.cells C.toArray 70)).there bl (i * 64) 64 := World.there_alloc (there_own HROW.out (by omega)) _
      have hra : (wr.alloc (.cells C.toArray 70)).rangeAt wr.heap.size 0 C := by
        intro j v hv
        rw [Nat.zero_add, blk_cell (heap_alloc_new wr _)]
        simpa using hv
      have hd0' : (wr.alloc (.cells C.toArray 70)).cell? ⟨g, 0, none⟩ = some (.slice (some ⟨bl, 0, none⟩) n cp) := (HBW.out.cell (p := ⟨g, 0, none⟩) (blk_lt (HGB.out.trans H1.out))).trans hd0
      have hbbl : wr.heap.size ≠ bl := by omega
      -- what each way leaves
      have HEND : Hid (∀ (r : List UInt8) (y : List UInt8), Y'[i]? = some y → r.length ≤ 64 → crash1 keep torn (mcut nn) (i : Int) s y = r ++ y.drop r.length → ∀ V W', (V = wr.alloc (.cells C.toArray 70) ∨ V = (wr.alloc (.cells C.toArray 70)).drew) → W' = V.setCells bl (i * 64) (bcells r) →
          (∃ (k' : Nat) (Y2 : List (List UInt8)), Value.int .i64 ((k : Int) + 1) = .int .i64 (k' : Int) ∧ k' ≤ mm ∧ Hid (CrashP Y Y2 D keep torn (mcut nn) (L.take k')) ∧ Hid (Tr (· = g) c c w W') ∧ Hid (W'.heap[g]? = w.heap[g]?) ∧ Hid (W'.heap[m]? = w.heap[m]?) ∧ Hid (W'.ownsRow 0 70 64 (.slice (some ⟨bl, 0, none⟩) n cp) n (Y2.flatMap bcells)) ∧ Hid (Rd kInt W' c (some ⟨ab, ao, none⟩) mm cpl L))) := by
        intro r y hy hr hcr V W' hV hW
        subst hW
        have hTV : ∀ c0 w0, Tr (· = g) c0 c w0 wr → Tr (· = g) c0 c w0 V := by
          intro c0 w0 h
          rcases hV with rfl | rfl
          · exact h.alloc _
          · exact (h.alloc _).drew
        have hBV : ∀ b, b < wr.heap.size → V.heap[b]? = wr.heap[b]? := by
          intro b hb
          rcases hV with rfl | rfl
          · exact HBW.out.block b hb
          · exact HBW.out.block b hb
        have hRV : V.ownsRow 0 70 64 (.slice (some ⟨bl, 0, none⟩) n cp) n (Y'.flatMap bcells) := by
          rcases hV with rfl | rfl
          · exact HROW.out.alloc _
          · exact (HROW.out.alloc _).drew
        have hlen := HCP.out.1
        have hnm : ¬ (i : Int) ∈ L.take k := nodup_not_take HND.out HX.out
        have hcp := HCP.out.step (mcut_le nn) hnm HD.out hs64 hy
        rw [hcr] at hcp
        have hkk : k + 1 ≤ mm := hlt
        refine ⟨k + 1, Y'.set i (r ++ y.drop r.length), by simp, hkk, ?_, ?_, ?_, ?_, ?_, ?_⟩
        · show CrashP _ _ _ _ _ _ _
          rw [take_snoc' HX.out]
          exact hcp
        · exact Tr.setCells (g := g) hbcol _ _ (hTV _ _ HT.out) (.inl rfl)
        · show _ = _
          rw [heap_of_setCells hgbl, ← HGB.out]
          exact hBV g (blk_lt (HGB.out.trans H1.out))
        · show _ = _
          rw [heap_of_setCells (Ne.symm hbm), ← HMB.out]
          exact hBV m (by omega)
        · show World.ownsRow _ _ _ _ _ _ _
          rw [← flat_part HCP.out.2.1 hy hr]
          exact own_setCells _ _ hRV
        · have hT2 : Tr (· = g) c c wr (V.setCells bl (i * 64) (bcells r)) := Tr.setCells (g := g) hbcol _ _ (hTV _ _ (Tr.refl _ HT.out.wf)) (.inl rfl)
          exact HRL2.out.tr hT2
      obtain ⟨y, hy⟩ : ∃ y, Y'[i]? = some y := ⟨_, List.getElem?_eq_getElem (by rw [HCP.out.1, H5.out]; omega)⟩
      have hy64 := HCP.out.2.1 y (List.mem_of_getElem? hy)
      have HY := Lib.hid hy
      clear hy
      cases hkc : keep.contains (i : Int) with
      | true =>
        rw [hkc] at hsc
        have HSC := Lib.hid hsc
        have HKC := Lib.hid hkc
        clear hsc hkc
        go_wp2_with fail
        refine (HSC.out).mono ?_
        rintro e w2 ⟨rfl, rfl⟩
        go_wp2_with fail
        have hu70 := Try.underlying70
        have hsz70 : (Try.prog.info? 70).map (·.size) = some C.length := by rw [hCl]; exact sec_size
        have hSS : (wr.alloc (.cells C.toArray 70)).drew.cell? ⟨g, 0, none⟩ = some (.slice (some ⟨bl, 0, none⟩) n cp) ∧ (wr.alloc (.cells C.toArray 70)).drew.rangeAt wr.heap.size 0 C := ⟨hd0', hra⟩
        go_region_held3 (fun w' => w'.cell? ⟨g, 0, none⟩ = some (.slice (some ⟨bl, 0, none⟩) n cp) ∧ w'.rangeAt wr.heap.size 0 C) (first | assumption | exact sync_keep hgbl hbbl (by assumption)) (fail)
        go_wp2_with fail
        refine ⟨HEND.out s y HY.out (by omega) ?_ _ _ (.inr rfl) (by rw [HC.out]), by simp [intOf]; omega⟩
        unfold crash1
        rw [if_pos HKC.out, List.drop_of_length_le (by omega), List.append_nil]
      | false =>
        rw [hkc] at hsc
        have HSC := Lib.hid hsc
        have HKC := Lib.hid hkc
        clear hsc hkc
        go_wp2_with fail
        refine (HSC.out).mono ?_
        rintro e w2 ⟨rfl, rfl⟩
        by_cases ht : (i : Int) = torn
        · subst ht
          go_wp2_with fail
          have hd0'' : (wr.alloc (.cells C.toArray 70)).drew.cell? ⟨g, 0, none⟩ = some (.slice (some ⟨bl, 0, none⟩) n cp) := hd0'
          obtain ⟨mc, hmc⟩ : ∃ mc, mcut nn = mc := ⟨_, rfl⟩
          have hmc64 : mc ≤ 64 := by rw [← hmc]; exact mcut_le nn
          have hmc64' : (mc : Int) ≤ 64 := by omega
          have hmc0' : (0 : Int) ≤ (mc : Int) := by omega
          have hqm : min (max nn 0) 64 = (mc : Int) := by
            rw [← hmc]
            unfold mcut
            omega
          have HMC := Lib.hid hmc
          clear hmc
          have hCt : (C.take mc).length = mc := by rw [List.length_take]; omega
          have hcp := run_copy_cells (P := Try.prog) (wr.alloc (.cells C.toArray 70)).drew 23 23 3 5 bl (i * 64) 64 64 ⟨wr.heap.size, 0, none⟩ mc 64 (C.take mc) Try.underlying23 (by kernel_rfl) (by rw [hCt]; exact (Nat.min_eq_left hmc64).symm)
            (fun j v hv => by
              rw [addr_add]
              rw [List.getElem?_take] at hv
              split at hv
              · exact hra j v hv
              · cases hv) (fun j hj => (hth j (by omega)).1) (fun j hj => (hth j (by omega)).2) (fun v hv => hC1 v (List.mem_of_mem_take hv))
          go_region_held3 (fun w' => w'.cell? ⟨g, 0, none⟩ = some (.slice (some ⟨bl, 0, none⟩) n cp)) (first | assumption | exact (sync_keep (b := wr.heap.size) (cs := []) hgbl hbbl ⟨by assumption, fun j v hv => by cases hv⟩).1) (fail)
          go_wp2_with fail
          refine ⟨HEND.out (s.take mc) y HY.out (by rw [List.length_take]; omega) ?_ _ _ (.inr rfl) (by rw [← HC.out]; simp [bcells, List.map_take]), by simp [intOf]; omega⟩
          unfold crash1
          have hl : (s.take mc).length = mc := by rw [List.length_take]; omega
          rw [HKC.out, if_neg (by decide), if_pos rfl, HMC.out, hl]
        · go_wp2_with fail
          refine ⟨HEND.out [] y HY.out (by simp) ?_ _ _ (.inl rfl) rfl, by simp [intOf]; omega⟩
          unfold crash1
          rw [HKC.out, if_neg (by decide), if_neg (by assumption)]
          rfl
    · obtain rfl : k = mm := by omega
      obtain ⟨w2, hcl, hM2, hg2⟩ := (H3.out.same HMB.out).clear
      have HM2 := Lib.hid hM2
      have HG2 := Lib.hid hg2
      clear hM2 hg2
      go_wp2_with fail
      go_end0
      have hbcl : ∀ j, (Value.slice A n cp).ownBlock = some j → j ≠ m := by
        intro j hj e
        subst e
        obtain ⟨es, clock, hb⟩ := (H3.out.same HMB.out).isMap
        rcases HROW.out.2 with ⟨he, _⟩ | ⟨b', cap, cur, he, _, hh2, _⟩
        · rw [he] at hj; cases hj
        · rw [he] at hj
          cases hj
          rw [hh2] at hb
          cases hb
      have hgm : g ≠ m := by
        intro e
        obtain ⟨es, clock, hb⟩ := (H3.out.same HMB.out).isMap
        rw [← e, HGB.out, H1.out] at hb
        cases hb
      have hcp := HCP.out
      rw [List.take_of_length_le (by omega), ← HL.out] at hcp
      have hY := hcp.done H7.out
      refine ⟨rfl, c, HT.out.grown HG2.out (fun j hj => by cases hj; exact ⟨g, h2, .inl rfl⟩), hg, A, cp, m, ?_, h2, HM2.out, ⟨?_, H4.out.2⟩, by rw [crashY_len]; exact H5.out, crashY_all (mcut_le nn) H6.out HOK.out, fun k s hk => (by cases hk), h8⟩
      · rw [HG2.out.block g (by have := HT.out.size; omega) (by simpa using hgm), HGB.out]
        exact H1.out
      · rw [← hY]
        refine HROW.out.kept HG2.out (.inr ?_)
        intro e
        exact hbcl m e rfl
end Go.Proofs.Ytalihocoekplgaa
