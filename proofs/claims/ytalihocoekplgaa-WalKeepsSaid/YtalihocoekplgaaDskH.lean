/- disk: Sync. -/
import Derived.Test.YtalihocoekplgaaDskG
set_option linter.unusedVariables false
set_option linter.unusedSimpArgs false
namespace Go.Proofs.Ytalihocoekplgaa
open Go.RowKit

/-- As it is synced. -/
def syncY (Y : List (List UInt8)) (D : Dt) : List (List UInt8) := Y.mapIdx (fun i y => (D (i : Int)).getD y)
theorem syncY_get (Y : List (List UInt8)) (D : Dt) (i : Nat) : (syncY Y D)[i]? = (Y[i]?).map (fun y => (D (i : Int)).getD y) := by
  unfold syncY
  rw [List.getElem?_mapIdx]
theorem syncY_len (Y : List (List UInt8)) (D : Dt) : (syncY Y D).length = Y.length := by simp [syncY]
def SyncP (Y Y' : List (List UInt8)) (D : Dt) (left : Lit → Bool) : Prop := Y'.length = Y.length ∧ (∀ s ∈ Y', s.length = 64) ∧ ∀ (i : Nat) (y : List UInt8), Y[i]? = some y → Y'[i]? = some (if left (.int .i64 (i : Int)) = true then y else (D (i : Int)).getD y)
theorem SyncP.start {Y : List (List UInt8)} {D : Dt} {dat : DataW Value} (hl : ∀ s ∈ Y, s.length = 64) (h : ∀ (k : Int) (z : DataW Value), dat.atKey (.int .i64 k) z = dval D k z) : SyncP Y Y D (Maps.has dat) := by
  refine ⟨rfl, hl, fun i y hy => ?_⟩
  rw [dval_has (fun z => h (i : Int) z), hy]
  cases hD : D (i : Int) with
  | none => simp
  | some s => simp
theorem SyncP.step {Y Y' : List (List UInt8)} {D : Dt} {left : Lit → Bool} (h : SyncP Y Y' D left) {k : Nat} {s : List UInt8} (hD : D (k : Int) = some s) (hs : s.length = 64) : SyncP Y (Y'.set k s) D (fun z => left z && !z.sameKey (.int .i64 (k : Int))) := by
  obtain ⟨h1, h2, h3⟩ := h
  refine ⟨by rw [List.length_set]; exact h1, fun t ht => ?_, fun i y hy => ?_⟩
  · rcases List.mem_or_eq_of_mem_set ht with h | rfl
    · exact h2 t h
    · exact hs
  · have hi := h3 i y hy
    by_cases e : k = i
    · subst e
      rw [List.getElem?_set_self (List.getElem?_eq_some_iff.1 hi).1]
      have : (Lit.int .i64 (k : Int)).sameKey (.int .i64 (k : Int)) = true := by simp [Lit.sameKey]
      simp [this, hD]
    · rw [List.getElem?_set_ne e, hi]
      have : (Lit.int .i64 (i : Int)).sameKey (.int .i64 (k : Int)) = false := by simp [Lit.sameKey]; omega
      simp [this]
theorem SyncP.done {Y Y' : List (List UInt8)} {D : Dt} {left : Lit → Bool} (h : SyncP Y Y' D left) (hl : ∀ kl, left kl = false) : Y' = syncY Y D := by
  obtain ⟨h1, h2, h3⟩ := h
  apply List.ext_getElem?
  intro i
  rw [syncY_get]
  cases hy : Y[i]? with
  | none =>
    rw [List.getElem?_eq_none_iff] at hy
    rw [List.getElem?_eq_none (by omega)]
    rfl
  | some y =>
    rw [h3 i y hy, hl]
    rfl
theorem syncY_all {Y : List (List UInt8)} {D : Dt} (hl : ∀ s ∈ Y, s.length = 64) (hD : DOk D) : ∀ s ∈ syncY Y D, s.length = 64 := by
  intro s hs
  obtain ⟨i, hi⟩ := List.getElem?_of_mem hs
  rw [syncY_get] at hi
  cases hy : Y[i]? with
  | none => rw [hy] at hi; cases hi
  | some y =>
    rw [hy] at hi
    cases hi
    cases hd : D (i : Int) with
    | none => exact hl y (List.mem_of_getElem? hy)
    | some t => exact (hD _ _ hd).1
theorem dval_some {D : Dt} {k : Int} {v : Value} (h : ∀ z, dval D k z = .held v) : ∃ s, D k = some s ∧ v = sec s := by
  unfold dval at h
  cases hk : D k with
  | none =>
    simp only [hk] at h
    have h1 := h (.lit (.bool true))
    cases h1
  | some s =>
    simp only [hk] at h
    exact ⟨s, rfl, (held_inj (h (.lit (.bool true)))).symm⟩
theorem KSync_nil (w : World) : Calls Try.prog 17 #[.pointer none] w fun e w' => e = .returned (.tuple #[]) ∧ w = w' := by
  go_enter Try.func17, Try.ntmps17
  go_wp2_with fail
  refine bodyPost_ret (results_none rfl _ _ _) rfl ?_
  exact ⟨rfl, rfl⟩
theorem there_own {w : World} {b n cp k : Nat} {xs : List Value} (ho : w.ownsRow 0 70 64 (.slice (some ⟨b, 0, none⟩) n cp) n xs) (hk : k < n) : w.there b (k * 64) 64 := by
  intro j hj
  have hl := ho.1
  refine ⟨?_, ho.frozenAt _⟩
  rw [ho.cellAt _ (by omega), List.getElem?_eq_getElem (by omega)]
  rfl
theorem sync_keep {W : World} {g b bl o : Nat} {u : Value} {cs vs : List Value} (hg : g ≠ bl) (hb : b ≠ bl) (h : W.cell? ⟨g, 0, none⟩ = some u ∧ W.rangeAt b 0 cs) : (W.setCells bl o vs).cell? ⟨g, 0, none⟩ = some u ∧ (W.setCells bl o vs).rangeAt b 0 cs :=
  ⟨(World.cell?_of_block (a := ⟨g, 0, none⟩) (heap_of_setCells hg vs o W)).trans h.1, World.rangeAt_setCells_apart h.2 bl o vs (.inl hb)⟩
theorem grown_setCell (w : World) (b o : Nat) (v : Value) : w.grownBy (w.setCell ⟨b, o, none⟩ v) (some b) :=
  ⟨rfl, rfl, rfl, by simp [World.setCell], fun i _ hi => heap_of_setCell w ⟨b, o, none⟩ v i (fun e => hi (by rw [e]))⟩
theorem grown_setCells (b : Nat) : ∀ (vs : List Value) (o : Nat) (w : World), w.grownBy (w.setCells b o vs) (some b)
  | [], _, w => (World.grownBy_alloc w (.cells #[] 0) none |> fun _ => ⟨rfl, rfl, rfl, Nat.le_refl _, fun _ _ _ => rfl⟩)
  | v :: r, o, w => grownBy_trans (grown_setCell w b o v) (grown_setCells b r (o + 1) _)
theorem grown_drew (w : World) (row : Option Nat) : w.grownBy w.drew row := ⟨rfl, rfl, rfl, Nat.le_refl _, fun _ _ _ => rfl⟩
set_option maxRecDepth 100000 in
set_option maxHeartbeats 4000000 in
theorem KSync_any (w : World) (c : Col) (g n : Nat) (Y : List (List UInt8)) (D : Dt) (N : Nat) (hw : Wf c w) (h : Dk w c g n Y D N) :
    Calls Try.prog 17 #[.pointer (some ⟨g, 0, none⟩)] w fun e w' => e = .returned (.tuple #[]) ∧ ∃ c', Tr (· = g) c c' w w' ∧ Dk w' c' g n (syncY Y D) (fun _ => none) 0 := by
  obtain ⟨hg, A, cp, m, h1, h2, h3, h4, h5, h6, h7, h8⟩ := h
  have hok := h3.ok
  obtain ⟨dat, hown, hat0, _⟩ := h3
  have d0 := blk_cell0 h1
  have d1 := blk_cell1 h1
  have hgl := blk_lt h1
  have hml := hown.lt
  have hst0 := SyncP.start h6 hat0
  have HW := Lib.hid hw
  have H1 := Lib.hid h1
  have H4 := Lib.hid h4
  have H6 := Lib.hid h6
  have H7 := Lib.hid h7
  have H5 := Lib.hid h5
  have HOK := Lib.hid hok
  have HAT := Lib.hid hat0
  have HST := Lib.hid hst0
  clear h1 h4 h6 h7 h5 hok hat0 hst0
  clear hw
  go_enter Try.func17, Try.ntmps17
  go_wp2_with (first
    | (at_range; refine wpList_range_own _ rfl _ 65 rfl 3 70 int_keyed64 Try.underlying65 secR m N dat rfl hown ?_; intro w0 hrg0 hg0 hs0)
    | go_in)
  go_frame
  go_loopw [2] (fun _ wr => ∃ (left : Lit → Bool) (cnt : Nat) (Y' : List (List UInt8)), wr.ranges Try.prog 3 secR m w.heap.size N dat left cnt ∧ SyncP Y Y' D left ∧ Tr (· = g) c (c.set w.heap.size w.heap.size) w wr ∧ wr.heap[g]? = w.heap[g]? ∧ wr.ownsRow 0 70 64 (.slice A n cp) n (Y'.flatMap bcells))
    (fun _ wr => wr.rangeLeft m w.heap.size)
  case atStart =>
    refine ⟨_, _, Y, hrg0, HST.out, ?_, hg0.block g hgl (by simp), H4.out.1.kept hg0 (Classical.em _)⟩
    exact ((Tr.refl _ HW.out).grown hg0 (fun k hk => by cases hk)).hot (Nat.le_refl _) (by omega) (by omega) (.inr (Nat.le_refl _))
  case round =>
    obtain ⟨left, cnt, Y', hrg, hSP, hT, hgb, hrow⟩ := hrel
    have HSP := Lib.hid hSP
    have HT := Lib.hid hT
    have HROW := Lib.hid hrow
    have HRG := Lib.hid hrg
    have HGB := Lib.hid hgb
    clear hSP hT hrow hrg hgb
    go_wp2_with (first
      | (at_next; refine wpList_next_ranges _ rfl _ rfl 3 int_keyed64 secR (Value.int .i64) (fun L : List Value => .agg L.toArray) (fun key kl hk => by obtain ⟨x, hx, _⟩ := Maps.keyOf_int_inv Try.underlying3 hk; exact ⟨x, hx⟩) (fun v y hv => by obtain ⟨s, _, hs, _⟩ := secR_inv hv; exact ⟨bcells s, hs⟩) m w.heap.size N _ _ _ rfl HRG.out ?_ ?_)
      | go_in)
    · intro hc0 hl0
      have hd1 : wr.cell? ⟨g, 1, none⟩ = some (.map (some m)) := blk_cell1 (HGB.out.trans H1.out)
      obtain ⟨w2, hcl, hM2, hg2⟩ := MapS.clear (w := wr) ⟨dat, HRG.out.owns, HAT.out, HOK.out⟩
      have HM2 := Lib.hid hM2
      have HG2 := Lib.hid hg2
      have HL0 := Lib.hid hl0
      clear hM2 hg2 hl0
      go_wp2_with fail
      go_end0
      refine ⟨rfl, c.set w.heap.size w.heap.size, HT.out.grown HG2.out (fun j hj => ?_), ?_⟩
      · cases hj
        exact ⟨g, by rw [Col.set_ne _ (by omega)]; exact h2, .inl rfl⟩
      · have hne : (Value.slice A n cp).ownBlock ≠ some m := by
          intro e
          obtain ⟨es, clock, hb, _⟩ := HRG.out.owns
          rcases HROW.out.2 with ⟨he, _⟩ | ⟨b', cap, cur, he, _, hh2, _⟩
          · rw [he] at e; cases e
          · rw [he] at e
            cases e
            rw [hh2] at hb
            cases hb
        have hgm : g ≠ m := by
          intro e
          obtain ⟨es, clock, hb, _⟩ := HRG.out.owns
          rw [← e, HGB.out, H1.out] at hb
          cases hb
        have hY := SyncP.done HSP.out HL0.out
        refine ⟨by rw [Col.set_ne _ (by omega)]; exact hg, A, cp, m, ?_, by rw [Col.set_ne _ (by omega)]; exact h2, HM2.out, ⟨?_, fun j hj => ?_⟩, by rw [syncY_len]; exact H5.out, syncY_all H6.out HOK.out, fun k s hk => (by cases hk), h8⟩
        · rw [HG2.out.block g (by have := HT.out.size; omega) (by simpa using hgm), HGB.out]
          exact H1.out
        · rw [← hY]
          exact HROW.out.kept HG2.out (.inr hne)
        · have := (H4.out.1.lt j hj).2
          rw [Col.set_ne _ (by omega)]
          exact H4.out.2 j hj
    · intro x C kl yy yp w1 cnt1 hkey hlk hR hat hrg1 hlt hg1 hs1 hen
      obtain ⟨x', ex, rfl, _⟩ := Maps.keyOf_int_inv Try.underlying3 hkey
      cases ex
      obtain ⟨s, hs64, hs, hyy⟩ := secR_inv hR
      obtain ⟨s', hD, hss⟩ := dval_some (D := D) (k := x) (v := sec s) (fun z => by rw [← HAT.out x z, hat z]; exact congrArg Prod.fst hyy)
      cases sec_inj hss
      have hC : C = bcells s := by
        unfold sec at hs
        injection hs with hs
        simpa using congrArg Array.toList hs
      obtain ⟨hx0, hx1⟩ := H7.out x s hD
      obtain ⟨k, rfl⟩ : ∃ k : Nat, x = (k : Int) := ⟨x.toNat, by omega⟩
      obtain ⟨bl, capl, he, _, _⟩ := HROW.out.form (by omega)
      obtain ⟨rfl, rfl⟩ : A = some ⟨bl, 0, none⟩ ∧ cp = capl := by injection he with e1 e2 e3; exact ⟨e1, e3⟩
      have hCl : C.length = 64 := by rw [hC, bcells_length, hs64]
      have hC1 : ∀ v ∈ C, v.oneCell' = true := fun v hv => bcells_one (hC ▸ hv)
      have hst := run_storeCells_new (P := Try.prog) w1 70 #[.int .u8 0, .int .u8 0, .int .u8 0, .int .u8 0, .int .u8 0, .int .u8 0, .int .u8 0, .int .u8 0, .int .u8 0, .int .u8 0, .int .u8 0, .int .u8 0, .int .u8 0, .int .u8 0, .int .u8 0, .int .u8 0, .int .u8 0, .int .u8 0, .int .u8 0, .int .u8 0, .int .u8 0, .int .u8 0, .int .u8 0, .int .u8 0, .int .u8 0, .int .u8 0, .int .u8 0, .int .u8 0, .int .u8 0, .int .u8 0, .int .u8 0, .int .u8 0, .int .u8 0, .int .u8 0, .int .u8 0, .int .u8 0, .int .u8 0, .int .u8 0, .int .u8 0, .int .u8 0, .int .u8 0, .int .u8 0, .int .u8 0, .int .u8 0, .int .u8 0, .int .u8 0, .int .u8 0, .int .u8 0, .int .u8 0, .int .u8 0, .int .u8 0, .int .u8 0, .int .u8 0, .int .u8 0, .int .u8 0, .int .u8 0, .int .u8 0, .int .u8 0, .int .u8 0, .int .u8 0, .int .u8 0, .int .u8 0, .int .u8 0, .int .u8 0] C.toArray (by simp only [List.size_toArray, hCl]; exact sec_size) (by simp only [List.size_toArray, hCl]; rfl) (all_oneCell_toArray hC1)
      have hgb1 : w1.heap[g]? = w.heap[g]? := (hg1.block g (by have := HT.out.size; omega) (by simp; omega)).trans HGB.out
      have hne1 : (Value.slice (some ⟨bl, 0, none⟩) n cp).ownBlock ≠ some w.heap.size := by
        intro e
        have e1 : bl = w.heap.size := by injection e
        have := (H4.out.1.lt bl rfl).2
        omega
      have hrow1 := HROW.out.kept hg1 (.inr hne1)
      have hbl1 := (hrow1.lt bl rfl).2
      have hth : (w1.alloc (.cells C.toArray 70)).there bl (k * 64) 64 := World.there_alloc (there_own hrow1 (by omega)) _
      have hra : (w1.alloc (.cells C.toArray 70)).rangeAt w1.heap.size 0 C := by
        intro j v hv
        rw [Nat.zero_add, blk_cell (heap_alloc_new w1 _)]
        simpa using hv
      have hbw := below_alloc w1 (.cells C.toArray 70)
      have hd0 : (w1.alloc (.cells C.toArray 70)).cell? ⟨g, 0, none⟩ = some (.slice (some ⟨bl, 0, none⟩) n cp) := (hbw.cell (p := ⟨g, 0, none⟩) (blk_lt (hgb1.trans H1.out))).trans (blk_cell0 (hgb1.trans H1.out))
      have HS1 := Lib.hid hs1
      clear hs1
      have HD := Lib.hid hD
      have HC := Lib.hid hC
      have HRG1 := Lib.hid hrg1
      have HLT := Lib.hid hlt
      have HROW1 := Lib.hid hrow1
      have HBW := Lib.hid hbw
      have HGB1 := Lib.hid hgb1
      have HG1 := Lib.hid hg1
      have hgbl : g ≠ bl := by
        intro e
        rcases HROW1.out.2 with ⟨he, _⟩ | ⟨b', cap, cur, he, _, hh2, _⟩
        · cases he
        · have e1 : bl = b' := by injection he with e1 _ _; injection e1 with e1; injection e1
          rw [← e1, ← e, HGB1.out, H1.out] at hh2
          cases hh2
      have hbbl : w1.heap.size ≠ bl := by omega
      clear hD hC hrg1 hlt hrow1 hbw hgb1 hg1 hyy hat hR hkey hlk hss hs hne1
      go_wp2_with fail
      have hu70 := Try.underlying70
      have hsz70 : (Try.prog.info? 70).map (·.size) = some C.length := by rw [hCl]; exact sec_size
      have hSS : (w1.alloc (.cells C.toArray 70)).drew.cell? ⟨g, 0, none⟩ = some (.slice (some ⟨bl, 0, none⟩) n cp) ∧ (w1.alloc (.cells C.toArray 70)).drew.rangeAt w1.heap.size 0 C := ⟨hd0, hra⟩
      go_region_held3 (fun w' => w'.cell? ⟨g, 0, none⟩ = some (.slice (some ⟨bl, 0, none⟩) n cp) ∧ w'.rangeAt w1.heap.size 0 C) (first | assumption | exact sync_keep hgbl hbbl (by assumption)) (fail)
      go_wp2_with fail
      have hgr := ((World.grownBy_alloc w1 (.cells C.toArray 70) (some bl)).andThen (grown_drew _ (some bl)) (fun j hj => .inr hj)).andThen (grown_setCells bl C (k * 64) _) (fun j hj => .inr hj)
      have hbm : bl ≠ m := by
        intro e
        obtain ⟨es, clock, hb, _⟩ := HRG1.out.owns
        rcases HROW1.out.2 with ⟨he, _⟩ | ⟨b', cap, cur, he, _, hh2, _⟩
        · cases he
        · have e1 : bl = b' := by injection he with e1 _ _; injection e1 with e1; injection e1
          rw [← e1, e, hb] at hh2
          cases hh2
      have hbw := (H4.out.1.lt bl rfl).2
      have hsz := HT.out.size
      have hrg2 := HRG1.out.kept hgr (by simpa using Ne.symm hbm) (by simp; omega)
      have hTr : Tr (· = g) c (c.set w.heap.size w.heap.size) w ((w1.alloc (.cells C.toArray 70)).drew.setCells bl (k * 64) C) :=
        Tr.setCells (g := g) (by rw [Col.set_ne _ (by omega)]; exact H4.out.2 bl rfl) C (k * 64) (((HT.out.grown HG1.out (fun j hj => by cases hj; exact ⟨w.heap.size, Col.set_same _ _ _, .inr (Nat.le_refl _)⟩)).alloc _).drew) (.inl rfl)
      have hrow2 : ((w1.alloc (.cells C.toArray 70)).drew.setCells bl (k * 64) C).ownsRow 0 70 64 (.slice (some ⟨bl, 0, none⟩) n cp) n ((Y'.set k s).flatMap bcells) := by
        rw [← flat_set HSP.out.2.1 (by rw [HSP.out.1, H5.out]; omega) hs64, ← HC.out]
        exact own_setCells C (k * 64) ((HROW1.out.alloc _).drew)
      have hgw1 := blk_lt (HGB1.out.trans H1.out)
      refine ⟨⟨_, cnt1, _, hrg2, HSP.out.step HD.out hs64, hTr, ?_, hrow2⟩, ?_⟩
      · rw [heap_of_setCells hgbl, ← HGB1.out]
        exact HBW.out.block g hgw1
      · rw [hrg2.left_eq, HRG.out.left_eq]
        exact HLT.out
end Go.Proofs.Ytalihocoekplgaa
