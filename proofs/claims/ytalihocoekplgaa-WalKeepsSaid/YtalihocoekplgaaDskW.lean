/- disk: the document's disk: Crash. -/
import Derived.Test.YtalihocoekplgaaDskV
import Derived.Test.YtalihocoekplgaaDskM
set_option linter.unusedVariables false
set_option linter.unusedSimpArgs false
namespace Go.Proofs.Ytalihocoekplgaa
open Go.RowKit

theorem Tr.newCells {M : Nat → Prop} {c c1 : Col} {w : World} {b : Nat} (hb : w.heap.size ≤ b) : ∀ (vs : List Value) (o : Nat) {w1 : World}, Tr M c c1 w w1 → Tr M c c1 w (w1.setCells b o vs)
  | [], _, _, h => h
  | v :: r, o, w1, h => Tr.newCells hb r (o + 1) (h.newset hb o v)
def keptS (keep : List Int) (i : Nat) (x : RSec) : Bool := !x.dirty || keep.contains (i : Int)
def crashIs (torn : Int) (mc i : Nat) (x : RSec) : List UInt8 := if (i : Int) = torn then x.is.take mc ++ x.was.drop mc else x.was
def crashS (keep : List Int) (torn : Int) (mc i : Nat) (x : RSec) : RSec := if keptS keep i x = true then x else ⟨crashIs torn mc i x, x.was, x.dirty⟩
theorem crashIs_len {torn : Int} {mc i : Nat} {x : RSec} (hm : mc ≤ 64) (h : x.is.length = 64 ∧ x.was.length = 64) : (crashIs torn mc i x).length = 64 := by
  unfold crashIs
  split
  · simp; omega
  · exact h.2
theorem crashS_ok {keep : List Int} {torn : Int} {mc i : Nat} {x : RSec} (hm : mc ≤ 64) (h : x.is.length = 64 ∧ x.was.length = 64) : (crashS keep torn mc i x).is.length = 64 ∧ (crashS keep torn mc i x).was.length = 64 := by
  unfold crashS
  split
  · exact h
  · exact ⟨crashIs_len hm h, h.2⟩
def mapFI {α : Type} (f : Nat → α → α) (k : Nat) (R : List α) : List α := R.mapIdx (fun i x => if i < k then f i x else x)
theorem mapFI_get {α : Type} (f : Nat → α → α) (k : Nat) (R : List α) (i : Nat) : (mapFI f k R)[i]? = (R[i]?).map (fun x => if i < k then f i x else x) := by
  unfold mapFI
  rw [List.getElem?_mapIdx]
theorem mapFI_len {α : Type} (f : Nat → α → α) (k : Nat) (R : List α) : (mapFI f k R).length = R.length := by simp [mapFI]
theorem mapFI_zero {α : Type} (f : Nat → α → α) (R : List α) : mapFI f 0 R = R := by
  apply List.ext_getElem?
  intro i
  rw [mapFI_get]
  cases R[i]? <;> simp
theorem mapFI_full {α : Type} (f : Nat → α → α) {k : Nat} {R : List α} (h : R.length ≤ k) : mapFI f k R = R.mapIdx f := by
  apply List.ext_getElem?
  intro i
  rw [mapFI_get, List.getElem?_mapIdx]
  by_cases hi : i < R.length
  · rw [List.getElem?_eq_getElem hi]
    simp
    omega
  · rw [List.getElem?_eq_none (by omega)]
    rfl
theorem mapFI_at {α : Type} (f : Nat → α → α) {k : Nat} {R : List α} {x : α} (h : R[k]? = some x) : (mapFI f k R)[k]? = some x := by
  rw [mapFI_get, h]
  simp
theorem mapFI_step {α : Type} (f : Nat → α → α) {k : Nat} {R : List α} {x : α} (h : R[k]? = some x) : (mapFI f k R).set k (f k x) = mapFI f (k + 1) R := by
  have hk := (List.getElem?_eq_some_iff.1 h).1
  apply List.ext_getElem?
  intro i
  rw [mapFI_get]
  by_cases e : k = i
  · subst e
    rw [List.getElem?_set_self (by rw [mapFI_len]; exact hk), h]
    simp
  · rw [List.getElem?_set_ne e, mapFI_get]
    have : i < k ↔ i < k + 1 := by omega
    simp only [this]
theorem mapFI_same {α : Type} (f : Nat → α → α) {k : Nat} {R : List α} {x : α} (h : R[k]? = some x) (hf : f k x = x) : mapFI f (k + 1) R = mapFI f k R := by
  rw [← mapFI_step f h, hf]
  exact set_same (mapFI_at f h)
theorem ROk.mapFI {f : Nat → RSec → RSec} (hf : ∀ i x, x.is.length = 64 ∧ x.was.length = 64 → (f i x).is.length = 64 ∧ (f i x).was.length = 64) {R : List RSec} (h : ROk R) (k : Nat) : ROk (mapFI f k R) := by
  intro x hx
  obtain ⟨i, hi⟩ := List.getElem?_of_mem hx
  rw [mapFI_get] at hi
  cases hy : R[i]? with
  | none => rw [hy] at hi; cases hi
  | some y =>
    rw [hy] at hi
    cases hi
    have h1 := h y (List.mem_of_getElem? hy)
    show (if i < k then f i y else y).is.length = 64 ∧ (if i < k then f i y else y).was.length = 64
    split
    · exact hf i y h1
    · exact h1
theorem contains_snoc (l : List Int) (v x : Int) : (l ++ [v]).contains x = (l.contains x || decide (v = x)) := by
  rw [Bool.eq_iff_iff]
  simp only [List.contains_iff_mem, List.mem_append, List.mem_singleton, Bool.or_eq_true, decide_eq_true_eq]
  constructor
  · rintro (h | h)
    · exact .inl h
    · exact .inr h.symm
  · rintro (h | h)
    · exact .inl h
    · exact .inr h.symm
theorem range_append {w : World} {b o : Nat} {xs ys : List Value} (h : w.rangeAt b o xs) (k : w.rangeAt b (o + xs.length) ys) : w.rangeAt b o (xs ++ ys) := by
  intro j v hv
  by_cases hj : j < xs.length
  · rw [List.getElem?_append_left hj] at hv
    exact h j v hv
  · rw [List.getElem?_append_right (by omega)] at hv
    have := k _ v hv
    rw [show o + xs.length + (j - xs.length) = o + j by omega] at this
    exact this
theorem range_drop {w : World} {b o : Nat} {xs : List Value} (h : w.rangeAt b o xs) (m : Nat) : w.rangeAt b (o + m) (xs.drop m) := by
  intro j v hv
  rw [List.getElem?_drop] at hv
  have := h _ v hv
  rw [show o + (m + j) = o + m + j by omega] at this
  exact this
theorem range_take {w : World} {b o : Nat} {xs : List Value} (h : w.rangeAt b o xs) (m : Nat) : w.rangeAt b o (xs.take m) := by
  intro j v hv
  rw [List.getElem?_take] at hv
  split at hv
  · exact h j v hv
  · cases hv
theorem range_below {w w' : World} {b o : Nat} {xs : List Value} (h : w.rangeAt b o xs) (hb : w'.heap[b]? = w.heap[b]?) : w'.rangeAt b o xs := fun j v hv => (World.cell?_of_block (a := ⟨b, o + j, none⟩) hb).trans (h j v hv)
set_option maxRecDepth 100000 in
set_option maxHeartbeats 8000000 in
theorem RCrash_any (w : World) (c : Col) (g n : Nat) (R : List RSec) (B : Option Addr) (kn kc : Nat) (keep : List Int) (torn nn : Int) (hw : Wf c w) (h : RDk w c g n R) (hkp : Rd kInt w c B kn kc keep) :
    Calls Try.prog 21 #[.pointer (some ⟨g, 0, none⟩), .slice B kn kc, .int .i64 torn, .int .i64 nn] w fun e w' => e = .returned (.tuple #[]) ∧ Tr (· = g) c c w w' ∧ RDk w' c g n ((R.mapIdx (crashS keep torn (mcut nn))).map syncS) := by
  have hgl := h.lt
  obtain ⟨mc, hmc⟩ : ∃ mc, mcut nn = mc := ⟨_, rfl⟩
  rw [hmc]
  have hmc64 : mc ≤ 64 := by rw [← hmc]; exact mcut_le nn
  have hmc64' : (mc : Int) ≤ 64 := by omega
  have hmc0' : (0 : Int) ≤ (mc : Int) := by omega
  have hmx : max 0 (min nn 64) = (mc : Int) := by
    rw [← hmc]
    unfold mcut
    omega
  clear hmc
  have hkl := hkp.len
  have hkm := hkp.max
  have HW := Lib.hid hw
  have HRD := Lib.hid h
  obtain ⟨hg, A, cp, h1, h4, h5, h6, h8⟩ := h
  have H1 := Lib.hid h1
  have H4 := Lib.hid h4
  have H6 := Lib.hid h6
  have H5 := Lib.hid h5
  have HKP := Lib.hid hkp
  have HKL := Lib.hid hkl
  have HKM := Lib.hid hkm
  clear h1 h4 h6 h5 hkp hkl hkm
  clear hw
  have hn1 : (n : Int) ≤ 4096 := by omega
  go_enter Try.func21, Try.ntmps21
  go_wp2_with fail
  go_loopw [9] (fun i wr => ∃ (k : Nat), i = .int .i64 (k : Int) ∧ k ≤ n ∧ Hid (Tr (· = g) c c w wr) ∧ Hid (wr.heap[g]? = w.heap[g]?) ∧ Hid (RDk wr c g n (mapFI (crashS keep torn mc) k R))) (fun i _ => n - (intOf i).toNat)
  case atStart =>
    refine ⟨0, rfl, Nat.zero_le _, Tr.refl _ HW.out, rfl, ?_⟩
    rw [mapFI_zero]
    exact HRD.out
  case round =>
    obtain ⟨k, rfl, hk, HT, HGB, HRK⟩ := hrel
    have hd0 : wr.cell? ⟨g, 0, none⟩ = some (.slice A n cp) := blk_cell0 (HGB.out.trans H1.out)
    rcases Nat.lt_or_ge k n with hlt | hge
    · obtain ⟨bl, cpl, x', hb1, hx', hx64, hris, hrwas, hdy, hbl, hbc, hgbl⟩ := HRK.out.cells hlt
      rw [HGB.out, H1.out] at hb1
      obtain ⟨rfl, rfl⟩ : A = some ⟨bl, 0, none⟩ ∧ cp = cpl := by
        have e0 := Option.some.inj hb1
        injection e0 with e0
        injection e0 with e0
        injection e0 with e0
        injection e0 with e1 e2 e3
        exact ⟨e1, e3⟩
      clear hb1
      obtain ⟨x, hx⟩ : ∃ x, R[k]? = some x := ⟨_, List.getElem?_eq_getElem (by rw [H5.out]; exact hlt)⟩
      obtain rfl : x' = x := by
        rw [mapFI_at _ hx] at hx'
        exact (Option.some.inj hx').symm
      have hk0 : (0 : Int) ≤ (k : Int) := by omega
      have hk1 : (k : Int) < (n : Int) := by omega
      have hwr := HT.out.size
      have HKP2 := Lib.hid (HKP.out.tr HT.out)
      have HX := Lib.hid hx
      have HX' := Lib.hid hx'
      have HRI := Lib.hid hris
      have HRW := Lib.hid hrwas
      clear hx hx' hris hrwas
      obtain ⟨b0, hb0⟩ : ∃ b0, (!x'.dirty) = b0 := ⟨_, rfl⟩
      have HB0 := Lib.hid hb0
      have hb0' : x'.dirty = !b0 := by rw [← hb0]; simp
      rw [hb0'] at hdy
      clear hb0 hb0'
      go_wp2_with fail
      go_loopw [10, 11] (fun kp j wq => ∃ (t : Nat) (b : Bool), j = .int .i64 (t : Int) ∧ kp = .bool b ∧ t ≤ kn ∧ Hid (b = (b0 || (keep.take t).contains (k : Int))) ∧ wr = wq) (fun _ j _ => kn - (intOf j).toNat)
      case atStart => exact ⟨0, b0, rfl, by simp, Nat.zero_le _, by show _ = _; simp, rfl⟩
      case round =>
        obtain ⟨t, b, rfl, rfl, ht, HB, rfl⟩ := hrel
        rcases Nat.lt_or_ge t kn with hlt2 | hge2
        · obtain ⟨bb, off, rfl⟩ := HKP2.out.addr (by omega)
          obtain ⟨v, hel⟩ : ∃ v, keep[t]? = some v := ⟨_, List.getElem?_eq_getElem (by rw [HKL.out]; omega)⟩
          have hc := HKP2.out.int hel
          have HTK := Lib.hid (take_snoc' hel)
          clear hel
          have hkm2 : kn ≤ 9223372036854775807 := HKM.out
          cases b with
          | true =>
            go_wp2_with fail
            refine ⟨⟨t + 1, true, by go_num, rfl, by omega, ?_, trivial⟩, by simp [intOf]; omega⟩
            show _ = _
            rw [HTK.out, contains_snoc, ← Bool.or_assoc, ← HB.out, Bool.true_or]
          | false =>
            go_wp2_with fail
            refine ⟨⟨t + 1, decide (v = (k : Int)), by go_num, rfl, by omega, ?_, trivial⟩, by simp [intOf]; omega⟩
            show _ = _
            rw [HTK.out, contains_snoc, ← Bool.or_assoc, ← HB.out, Bool.false_or]
        · obtain rfl : t = kn := by omega
          have hbk : b = keptS keep k x' := by
            have h := HB.out
            rw [List.take_of_length_le (by rw [HKL.out]; exact Nat.le_refl _), ← HB0.out] at h
            exact h
          have HBK := Lib.hid hbk
          clear HB hbk
          cases b with
          | true =>
            go_wp2_with fail
            refine ⟨⟨k + 1, by go_num, by omega, HT.out, HGB.out, ?_⟩, by simp [intOf]; omega⟩
            show RDk _ _ _ _ _
            rw [mapFI_same _ HX.out (by unfold crashS; rw [if_pos HBK.out.symm])]
            exact HRK.out
          | false =>
            obtain ⟨CI, hCI⟩ : ∃ CI, bcells x'.is = CI := ⟨_, rfl⟩
            obtain ⟨CW, hCW⟩ : ∃ CW, bcells x'.was = CW := ⟨_, rfl⟩
            have hCIl : CI.length = 64 := by rw [← hCI, bcells_length, hx64.1]
            have hCWl : CW.length = 64 := by rw [← hCW, bcells_length, hx64.2]
            have hCI1 : ∀ v ∈ CI, v.oneCell' = true := fun v hv => bcells_one (hCI ▸ hv)
            have hCW1 : ∀ v ∈ CW, v.oneCell' = true := fun v hv => bcells_one (hCW ▸ hv)
            have hri := HRI.out
            have hrw' := HRW.out
            rw [hCI] at hri
            rw [hCW] at hrw'
            have hst := run_storeCells_new (P := Try.prog) wr 69 #[.int .u8 0, .int .u8 0, .int .u8 0, .int .u8 0, .int .u8 0, .int .u8 0, .int .u8 0, .int .u8 0, .int .u8 0, .int .u8 0, .int .u8 0, .int .u8 0, .int .u8 0, .int .u8 0, .int .u8 0, .int .u8 0, .int .u8 0, .int .u8 0, .int .u8 0, .int .u8 0, .int .u8 0, .int .u8 0, .int .u8 0, .int .u8 0, .int .u8 0, .int .u8 0, .int .u8 0, .int .u8 0, .int .u8 0, .int .u8 0, .int .u8 0, .int .u8 0, .int .u8 0, .int .u8 0, .int .u8 0, .int .u8 0, .int .u8 0, .int .u8 0, .int .u8 0, .int .u8 0, .int .u8 0, .int .u8 0, .int .u8 0, .int .u8 0, .int .u8 0, .int .u8 0, .int .u8 0, .int .u8 0, .int .u8 0, .int .u8 0, .int .u8 0, .int .u8 0, .int .u8 0, .int .u8 0, .int .u8 0, .int .u8 0, .int .u8 0, .int .u8 0, .int .u8 0, .int .u8 0, .int .u8 0, .int .u8 0, .int .u8 0, .int .u8 0] CW.toArray (by simp only [List.size_toArray, hCWl]; kernel_rfl) (by simp only [List.size_toArray, hCWl]; rfl) (all_oneCell_toArray hCW1)
            have hbw := below_alloc wr (.cells CW.toArray 69)
            have hnb : wr.heap.size ≠ bl := by omega
            have hgw := HRK.out.lt
            obtain ⟨hrg, A9, cp9, hr1, ⟨hr2, hr2'⟩, hr3, hr4, hr5⟩ := HRK.out
            rw [HGB.out, H1.out] at hr1
            obtain ⟨rfl, rfl⟩ : some ⟨bl, 0, none⟩ = A9 ∧ cp = cp9 := by
              have e0 := Option.some.inj hr1
              injection e0 with e0
              injection e0 with e0
              injection e0 with e0
              injection e0 with e1 e2 e3
              exact ⟨e1, e3⟩
            have HROW := Lib.hid hr2
            have HRC := Lib.hid hr2'
            clear hr1 hr2 hr2' hr3 hr4 hr5 hrg
            have HEND : Hid (∀ (V W' : World), Tr (· = g) c c wr V → V.heap[g]? = wr.heap[g]? → V.ownsRow 0 81 129 (.slice (some ⟨bl, 0, none⟩) n cp) n ((mapFI (crashS keep torn mc) k R).flatMap rcells) → W' = V.setCells bl (k * 129) (bcells (crashIs torn mc k x')) →
                (∃ (k' : Nat), Value.int .i64 ((k : Int) + 1) = .int .i64 (k' : Int) ∧ k' ≤ n ∧ Hid (Tr (· = g) c c w W') ∧ Hid (W'.heap[g]? = w.heap[g]?) ∧ Hid (RDk W' c g n (mapFI (crashS keep torn mc) k' R)))) := by
              intro V W' hT hB hO hW
              subst hW
              have hcl := crashIs_len (torn := torn) (i := k) hmc64 hx64
              have hokm : ROk (mapFI (crashS keep torn mc) k R) := ROk.mapFI (fun i y hy => crashS_ok hmc64 hy) H6.out k
              have hcs : crashS keep torn mc k x' = ⟨crashIs torn mc k x', x'.was, x'.dirty⟩ := by
                unfold crashS
                rw [← HBK.out, if_neg (by decide)]
              have hgB : (V.setCells bl (k * 129) (bcells (crashIs torn mc k x'))).heap[g]? = w.heap[g]? := by
                rw [heap_of_setCells hgbl, hB]
                exact HGB.out
              have hkk : k + 1 ≤ n := hlt
              refine ⟨k + 1, by simp, hkk, ?_, hgB, ?_⟩
              · exact Tr.setCells (g := g) hbc _ _ (HT.out.then hT) (.inl rfl)
              · have h1 := own_setCells (bcells (crashIs torn mc k x')) (k * 129) hO
                have e1 := flat129_set (o := 0) (x' := ⟨crashIs torn mc k x', x'.was, x'.dirty⟩) hokm HX'.out ⟨hcl, hx64.2⟩ (by rw [bcells_length, hcl]; omega) (set_is hx64.1 hcl)
                rw [Nat.add_zero] at e1
                rw [e1, ← hcs, mapFI_step _ HX.out] at h1
                exact ⟨hg, some ⟨bl, 0, none⟩, cp, hgB.trans H1.out, ⟨h1, HRC.out⟩, by rw [mapFI_len]; exact H5.out, ROk.mapFI (fun i y hy => crashS_ok hmc64 hy) H6.out (k + 1), h8⟩
            have HCI := Lib.hid hCI
            have HCW := Lib.hid hCW
            have HBW := Lib.hid hbw
            have hd0' : (wr.alloc (.cells CW.toArray 69)).drew.cell? ⟨g, 0, none⟩ = some (.slice (some ⟨bl, 0, none⟩) n cp) := (HBW.out.cell (p := ⟨g, 0, none⟩) hgw).trans hd0
            have hraN : (wr.alloc (.cells CW.toArray 69)).drew.rangeAt wr.heap.size 0 CW := by
              intro j v hv
              rw [Nat.zero_add]
              show (wr.alloc (.cells CW.toArray 69)).cell? ⟨wr.heap.size, j, none⟩ = some v
              rw [blk_cell (heap_alloc_new wr _)]
              simpa using hv
            have hriN : (wr.alloc (.cells CW.toArray 69)).drew.rangeAt bl (k * 129) CI := range_below hri (HBW.out.block bl hbl)
            have hthN : (wr.alloc (.cells CW.toArray 69)).drew.there bl (k * 129) 64 := by
              have h := rsec_there (o := 0) (m := 64) ((HROW.out.alloc (.cells CW.toArray 69)).drew) hlt (by omega)
              rw [Nat.add_zero] at h
              exact h
            have hTN : Tr (· = g) c c wr (wr.alloc (.cells CW.toArray 69)).drew := ((Tr.refl _ HT.out.wf).alloc _).drew
            have hu69 := Try.underlying69
            have HTN := Lib.hid hTN
            have HHN := Lib.hid (HROW.out.alloc (.cells CW.toArray 69)).drew
            have HRW2 := Lib.hid hrw'
            have HSZ : Hid ((Try.prog.info? 69).map (·.size) = some CW.length) := by
              show _ = _
              rw [hCWl]
              kernel_rfl
            clear hCI hCW hbw hri hrw' hTN
            by_cases ht : (k : Int) = torn
            · subst ht
              have hCt : (CI.take mc).length = mc := by rw [List.length_take]; omega
              have hCt1 : ∀ v ∈ CI.take mc, v.oneCell' = true := fun v hv => hCI1 v (List.mem_of_mem_take hv)
              have hthZ : (wr.alloc (.cells CW.toArray 69)).drew.there wr.heap.size 0 64 := by
                intro j hj
                rw [Nat.zero_add]
                refine ⟨?_, ?_⟩
                · show ((wr.alloc (.cells CW.toArray 69)).cell? ⟨wr.heap.size, j, none⟩).isSome = true
                  rw [blk_cell (heap_alloc_new wr _), List.getElem?_toArray, List.getElem?_eq_getElem (by omega)]
                  rfl
                · show (wr.alloc (.cells CW.toArray 69)).frozen? ⟨wr.heap.size, j, none⟩ = false
                  exact blk_free (heap_alloc_new wr _) j
              have hcp := run_copy_cells (P := Try.prog) (wr.alloc (.cells CW.toArray 69)).drew 23 23 3 5 wr.heap.size 0 mc 64 ⟨bl, k * 129, none⟩ mc 64 (CI.take mc) Try.underlying23 (by kernel_rfl) (by rw [hCt]; exact (Nat.min_self mc).symm)
                (fun j v hv => by rw [addr_add]; exact range_take hriN mc j v hv) (fun j hj => (hthZ j (by omega)).1) (fun j hj => (hthZ j (by omega)).2) hCt1
              go_wp2_with (first | (refine wpList_load_mid rfl 69 (.tmp 57) rfl bl (k * 129 + 64) rfl CW _ HRW2.out Try.underlying69 rfl HSZ.out ?_))
              go_region_held3 (fun w' => w'.cell? ⟨g, 0, none⟩ = some (.slice (some ⟨bl, 0, none⟩) n cp)) (first | assumption | exact (keepB (b := bl) (cs := []) (by omega) (by omega) ⟨by assumption, fun j v hv => by cases hv⟩).1) (fail)
              obtain ⟨V, hV⟩ : ∃ V, (wr.alloc (.cells CW.toArray 69)).drew.setCells wr.heap.size 0 (CI.take mc) = V := ⟨_, rfl⟩
              rw [hV]
              have hblk : ∀ b, b ≠ wr.heap.size → V.heap[b]? = (wr.alloc (.cells CW.toArray 69)).heap[b]? := by
                intro b hb
                rw [← hV, heap_of_setCells hb]
                rfl
              obtain ⟨E, hE⟩ : ∃ E, CI.take mc ++ CW.drop mc = E := ⟨_, rfl⟩
              have hEl : E.length = 64 := by rw [← hE, List.length_append, List.length_take, List.length_drop]; omega
              have hE1 : ∀ v ∈ E, v.oneCell' = true := by
                intro v hv
                rw [← hE, List.mem_append] at hv
                rcases hv with hv | hv
                · exact hCt1 v hv
                · exact hCW1 v (List.mem_of_mem_drop hv)
              have hraE : V.drew.rangeAt wr.heap.size 0 E := by
                rw [← hE, ← hV]
                refine range_append ?_ ?_
                · exact World.rangeAt_setCells_same _ _ _ _ (fun j hj => hthZ j (by omega))
                · rw [hCt]
                  exact World.rangeAt_setCells_apart (range_drop hraN mc) _ _ _ (.inr (.inr (by rw [hCt]; exact Nat.le_refl _)))
              have hd0V : V.drew.cell? ⟨g, 0, none⟩ = some (.slice (some ⟨bl, 0, none⟩) n cp) := (World.cell?_of_block (a := ⟨g, 0, none⟩) (hblk g (by omega))).trans hd0'
              have hthV : V.drew.there bl (k * 129) 64 := by
                rw [← hV]
                exact World.there_setCells hthN _ _ _
              have hsz69 : (Try.prog.info? 69).map (·.size) = some E.length := by rw [hEl]; kernel_rfl
              have hSS : V.drew.cell? ⟨g, 0, none⟩ = some (.slice (some ⟨bl, 0, none⟩) n cp) ∧ V.drew.rangeAt wr.heap.size 0 E := ⟨hd0V, hraE⟩
              have HE := Lib.hid hE
              have HTV : Hid (Tr (· = g) c c wr V.drew) := by
                rw [← hV]
                exact (Tr.newCells (Nat.le_refl _) (CI.take mc) 0 HTN.out).drew
              have HOV : Hid (V.drew.ownsRow 0 81 129 (.slice (some ⟨bl, 0, none⟩) n cp) n ((mapFI (crashS keep (k : Int) mc) k R).flatMap rcells)) := own_same HHN.out (fun j hj => by cases hj; exact hblk bl (by omega))
              have hVg : Hid (V.drew.heap[g]? = wr.heap[g]?) := (hblk g (by omega)).trans (HBW.out.block g hgw)
              clear hE hV hblk
              go_wp2_with fail
              go_region_held3 (fun w' => w'.cell? ⟨g, 0, none⟩ = some (.slice (some ⟨bl, 0, none⟩) n cp) ∧ w'.rangeAt wr.heap.size 0 E) (first | assumption | exact keepB hgbl hnb (by assumption)) (fail)
              go_wp2_with fail
              refine ⟨HEND.out _ _ HTV.out hVg.out HOV.out ?_, by simp [intOf]; omega⟩
              unfold crashIs
              rw [if_pos rfl, bcells_append, ← HE.out, ← HCI.out, ← HCW.out]
              simp only [bcells, List.map_take, List.map_drop]
            · have hsz69 : (Try.prog.info? 69).map (·.size) = some CW.length := by rw [hCWl]; kernel_rfl
              have hSS : (wr.alloc (.cells CW.toArray 69)).drew.cell? ⟨g, 0, none⟩ = some (.slice (some ⟨bl, 0, none⟩) n cp) ∧ (wr.alloc (.cells CW.toArray 69)).drew.rangeAt wr.heap.size 0 CW := ⟨hd0', hraN⟩
              go_wp2_with (first | (refine wpList_load_mid rfl 69 (.tmp 57) rfl bl (k * 129 + 64) rfl CW _ HRW2.out Try.underlying69 rfl HSZ.out ?_))
              go_region_held3 (fun w' => w'.cell? ⟨g, 0, none⟩ = some (.slice (some ⟨bl, 0, none⟩) n cp) ∧ w'.rangeAt wr.heap.size 0 CW) (first | assumption | exact keepB hgbl hnb (by assumption)) (fail)
              go_wp2_with fail
              refine ⟨HEND.out _ _ HTN.out (HBW.out.block g hgw) HHN.out ?_, by simp [intOf]; omega⟩
              rw [← HCW.out]
              unfold crashIs
              rw [if_neg ht]
    · obtain rfl : k = n := by omega
      go_wp2_with fail
      refine (RSync_any wr c g k _ HT.out.wf HRK.out).mono ?_
      rintro e w2 ⟨rfl, q_HT2, q_HD2⟩
      have HT2 := Lib.hid q_HT2
      have HD2 := Lib.hid q_HD2
      clear q_HT2 q_HD2
      go_wp2_with fail
      go_end0
      refine ⟨rfl, HT.out.then HT2.out, ?_⟩
      have h := HD2.out
      rw [mapFI_full _ (by rw [H5.out]; exact Nat.le_refl _)] at h
      exact h
end Go.Proofs.Ytalihocoekplgaa
