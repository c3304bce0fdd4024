/- disk: the document's disk: Write. -/
import Derived.Test.YtalihocoekplgaaDskU
set_option linter.unusedVariables false
set_option linter.unusedSimpArgs false
namespace Go.Proofs.Ytalihocoekplgaa
open Go.RowKit

theorem copy_padT (T : TypeId) {w : World} {c : Col} {B : Option Addr} {mb cq : Nat} {b : List UInt8} (hx : Rd kU8 w c B mb cq b) (hl : b.length = mb) (hm : mb ≤ 64) :
    ∃ v w2, (Builtin.copy_ #[23, 23] 3 #[.slice (some ⟨w.heap.size, 0, none⟩) 64 64, .slice B mb cq]).run Try.prog (w.alloc (.cells (bcells zsec).toArray T)) = .ok v w2 ∧
      w2.heap[w.heap.size]? = some (.cells (bcells (pad b)).toArray T (0, 0)) ∧ Below w.heap.size w w2 := by
  have hu8 : (Try.prog.info? 5).map (·.size) = some 1 := by kernel_rfl
  have hh := heap_alloc_new w (.cells (bcells zsec).toArray T)
  by_cases h0 : mb = 0
  · subst h0
    have hb0 := List.eq_nil_of_length_eq_zero hl
    subst hb0
    exact ⟨_, _, run_copy_none (P := Try.prog) _ 23 23 3 5 _ _ _ _ _ _ Try.underlying23 hu8 (by simp), hh, below_alloc _ _⟩
  · obtain ⟨bb, off, rfl⟩ := hx.addr (by omega)
    have hz64 : (bcells zsec).length = 64 := by rw [bcells_length, zsec_len]
    have hr := run_copy_row (P := Try.prog) (w.alloc (.cells (bcells zsec).toArray T)) 23 23 3 5 w.heap.size 0 64 64 ⟨bb, off, none⟩ mb cq (bcells zsec).toArray T (bcells b) Try.underlying23 hu8 hh
      (by rw [bcells_length, hl]; exact (Nat.min_eq_left hm).symm) (hx.below (below_alloc w _)).news (by simp only [List.size_toArray, bcells_length, zsec_len]; omega) (fun v hv => bcells_one hv)
    refine ⟨_, _, hr, ?_, below_setRow (below_alloc w _) (Nat.le_refl _) _⟩
    rw [setRow_heap _ _ _ _ _ _ hh]
    have hs := pad_splice (b := b) (by omega)
    unfold splice at hs
    rw [← hs, List.append_assoc]
theorem isB_not {n : Nat} {k : Int} (h : isB n k = false) : k < 0 ∨ (n : Int) ≤ k := by
  unfold isB at h
  simp at h
  omega
theorem RWrite_bad (w : World) (c : Col) (g n : Nat) (R : List RSec) (k : Int) (B : Option Addr) (m cq : Nat) (hk : isB n k = false) (h : RDk w c g n R) :
    Calls Try.prog 19 #[.pointer (some ⟨g, 0, none⟩), .int .i64 k, .slice B m cq] w fun e w' => e = .returned (.int .i64 6) ∧ w = w' := by
  obtain ⟨hg, A, cp, h1, h4, h5, h6, h8⟩ := h
  have d0 := blk_cell0 h1
  have hb := isB_not hk
  clear h1 h4 h5 h6 hk
  by_cases h0 : k < 0
  · clear hb
    go_enter Try.func19, Try.ntmps19
    go_wp2_with fail
    refine bodyPost_ret (results_tmp rfl _ _ _) rfl ?_
    exact ⟨rfl, rfl⟩
  · have h2 : (n : Int) ≤ k := by omega
    clear hb
    go_enter Try.func19, Try.ntmps19
    go_wp2_with fail
    refine bodyPost_ret (results_tmp rfl _ _ _) rfl ?_
    exact ⟨rfl, rfl⟩
theorem RWrite_long (w : World) (c : Col) (g n : Nat) (R : List RSec) (k : Int) (B : Option Addr) (m cq : Nat) (hk : isB n k = true) (hm : 64 < m) (h : RDk w c g n R) :
    Calls Try.prog 19 #[.pointer (some ⟨g, 0, none⟩), .int .i64 k, .slice B m cq] w fun e w' => e = .returned (.int .i64 1) ∧ w = w' := by
  obtain ⟨hg, A, cp, h1, h4, h5, h6, h8⟩ := h
  have d0 := blk_cell0 h1
  unfold isB at hk
  simp at hk
  have h0 : ¬ k < 0 := by omega
  have h2 : ¬ (n : Int) ≤ k := by omega
  have h3 : (64 : Int) < (m : Int) := by omega
  clear h1 h4 h5 h6 hk
  go_enter Try.func19, Try.ntmps19
  go_wp2_with fail
  refine bodyPost_ret (results_tmp rfl _ _ _) rfl ?_
  exact ⟨rfl, rfl⟩
def wrS (b : List UInt8) (x : RSec) : RSec := ⟨pad b, x.was, true⟩
theorem keepB {W : World} {g b bl o : Nat} {u : Value} {cs vs : List Value} (hg : g ≠ bl) (hb : b ≠ bl) (h : W.cell? ⟨g, 0, none⟩ = some u ∧ W.rangeAt b 0 cs) : (W.setCells bl o vs).cell? ⟨g, 0, none⟩ = some u ∧ (W.setCells bl o vs).rangeAt b 0 cs := sync_keep hg hb h
theorem keepB1 {W : World} {g b bl o : Nat} {u v : Value} {cs : List Value} (hg : g ≠ bl) (hb : b ≠ bl) (h : W.cell? ⟨g, 0, none⟩ = some u ∧ W.rangeAt b 0 cs) : (W.setCell ⟨bl, o, none⟩ v).cell? ⟨g, 0, none⟩ = some u ∧ (W.setCell ⟨bl, o, none⟩ v).rangeAt b 0 cs := sync_keep (vs := [v]) hg hb h
set_option maxRecDepth 100000 in
set_option maxHeartbeats 4000000 in
theorem RWrite_ok (w : World) (c : Col) (g n : Nat) (R : List RSec) (k : Nat) (B : Option Addr) (mb cq : Nat) (b : List UInt8) (hk : k < n) (hm : mb ≤ 64) (hw : Wf c w) (h : RDk w c g n R) (hx : Rd kU8 w c B mb cq b) :
    Calls Try.prog 19 #[.pointer (some ⟨g, 0, none⟩), .int .i64 (k : Int), .slice B mb cq] w fun e w' => e = .returned (.int .i64 0) ∧ Tr (· = g) c c w w' ∧ ∃ R', RDk w' c g n R' ∧ R' = R.modify k (wrS b) := by
  have HDD := Lib.hid h
  obtain ⟨bl, cpl, x, hb1, hxk, hx64, _, _, hdy, hbl, hbc, hgbl⟩ := h.cells hk
  obtain ⟨hg, A, cp, h1, h4, h5, h6, h8⟩ := h
  rw [h1] at hb1
  obtain ⟨rfl, rfl⟩ : A = some ⟨bl, 0, none⟩ ∧ cp = cpl := by
    have e0 := Option.some.inj hb1
    injection e0 with e0
    injection e0 with e0
    injection e0 with e0
    injection e0 with e1 e2 e3
    exact ⟨e1, e3⟩
  have hbl0 : b.length = mb := hx.len
  have d0 := blk_cell0 h1
  have hgl := blk_lt h1
  have hm1 : ¬ ((64 : Int) < (mb : Int)) := by omega
  have hm64 : (mb : Int) ≤ 64 := by omega
  have hp64 := pad_len (b := b) (by omega)
  obtain ⟨C, hC⟩ : ∃ C, bcells (pad b) = C := ⟨_, rfl⟩
  have hCl : C.length = 64 := by rw [← hC, bcells_length, hp64]
  have hC1 : ∀ v ∈ C, v.oneCell' = true := fun v hv => bcells_one (hC ▸ hv)
  have HCB := Lib.hid hC
  have HW := Lib.hid hw
  have H1 := Lib.hid h1
  have H4 := Lib.hid h4
  have H6 := Lib.hid h6
  have H5 := Lib.hid h5
  have HXK := Lib.hid hxk
  have HX := Lib.hid hx
  have HBL := Lib.hid hbl0
  clear h1 h4 h6 h5 hxk hx hbl0
  clear hw hC hb1
  obtain ⟨vc, w2, hcp, hcb, hbw⟩ := copy_padT 69 HX.out HBL.out hm
  rw [HCB.out] at hcb
  have hcp2 : (Builtin.copy_ #[23, 23] 3 #[.slice (some ⟨w.heap.size, 0, none⟩) 64 64, .slice B mb cq]).run Try.prog (w.alloc (.cells (#[.int .u8 0, .int .u8 0, .int .u8 0, .int .u8 0, .int .u8 0, .int .u8 0, .int .u8 0, .int .u8 0, .int .u8 0, .int .u8 0, .int .u8 0, .int .u8 0, .int .u8 0, .int .u8 0, .int .u8 0, .int .u8 0, .int .u8 0, .int .u8 0, .int .u8 0, .int .u8 0, .int .u8 0, .int .u8 0, .int .u8 0, .int .u8 0, .int .u8 0, .int .u8 0, .int .u8 0, .int .u8 0, .int .u8 0, .int .u8 0, .int .u8 0, .int .u8 0, .int .u8 0, .int .u8 0, .int .u8 0, .int .u8 0, .int .u8 0, .int .u8 0, .int .u8 0, .int .u8 0, .int .u8 0, .int .u8 0, .int .u8 0, .int .u8 0, .int .u8 0, .int .u8 0, .int .u8 0, .int .u8 0, .int .u8 0, .int .u8 0, .int .u8 0, .int .u8 0, .int .u8 0, .int .u8 0, .int .u8 0, .int .u8 0, .int .u8 0, .int .u8 0, .int .u8 0, .int .u8 0, .int .u8 0, .int .u8 0, .int .u8 0, .int .u8 0] : Array Value) 69)) = .ok vc w2 := hcp
  have HB2 := Lib.hid hcb
  have HBW := Lib.hid hbw
  clear hcp hcb hbw
  have hk0 : (0 : Int) ≤ (k : Int) := by omega
  have hk1 : (k : Int) < (n : Int) := by omega
  have hra : w2.drew.rangeAt w.heap.size 0 C := by
    intro j v hv
    rw [Nat.zero_add]
    show w2.cell? ⟨w.heap.size, j, none⟩ = some v
    rw [blk_cell HB2.out]
    simpa using hv
  have hg0 : w2.drew.cell? ⟨g, 0, none⟩ = some (.slice (some ⟨bl, 0, none⟩) n cp) := (HBW.out.cell (p := ⟨g, 0, none⟩) hgl).trans d0
  have hSS : w2.drew.cell? ⟨g, 0, none⟩ = some (.slice (some ⟨bl, 0, none⟩) n cp) ∧ w2.drew.rangeAt w.heap.size 0 C := ⟨hg0, hra⟩
  have hbbl : w.heap.size ≠ bl := by omega
  have hrow2 := own_below H4.out.1 HBW.out
  have hth : w2.drew.there bl (k * 129) 64 := by
    have h := rsec_there (o := 0) (m := 64) hrow2.drew hk (by omega)
    rw [Nat.add_zero] at h
    exact h
  have hdy2 : (w2.drew.setCells bl (k * 129) C).cell? ⟨bl, k * 129 + 128, none⟩ = some (.bool x.dirty) := by
    rw [World.cell?_setCells_out bl C (k * 129) w2.drew ⟨bl, k * 129 + 128, none⟩ (fun _ _ => .inr (by rw [hCl]; show k * 129 + 64 ≤ k * 129 + 128; omega))]
    exact (HBW.out.cell (p := ⟨bl, k * 129 + 128, none⟩) hbl).trans hdy
  have hfr2 : (w2.drew.setCells bl (k * 129) C).frozen? ⟨bl, k * 129 + 128, none⟩ = false := by
    rw [World.frozen?_setCells]
    exact hrow2.drew.frozenAt _
  have HROW2 := Lib.hid hrow2
  clear hdy hrow2
  have hu69 := Try.underlying69
  have hsz69 : (Try.prog.info? 69).map (·.size) = some C.length := by rw [hCl]; kernel_rfl
  go_enter Try.func19, Try.ntmps19
  go_wp2_with fail
  go_region_held3 (fun w' => w'.cell? ⟨g, 0, none⟩ = some (.slice (some ⟨bl, 0, none⟩) n cp) ∧ w'.rangeAt w.heap.size 0 C) (first | assumption | exact keepB hgbl hbbl (by assumption) | exact keepB1 hgbl hbbl (by assumption)) (fail)
  go_wp2_with fail
  refine bodyPost_ret (results_tmp rfl _ _ _) rfl ?_
  have hT := (Tr.of_below (M := (· = g)) HW.out HBW.out).drew
  refine ⟨rfl, (Tr.setCells (g := g) hbc C (k * 129) hT (.inl rfl)).setCell (p := ⟨bl, k * 129 + 128, none⟩) hbc (.inl rfl) _, R.set k (wrS b x), ⟨hg, some ⟨bl, 0, none⟩, cp, ?_, ⟨?_, H4.out.2⟩, by rw [List.length_set]; exact H5.out, H6.out.set ⟨hp64, hx64.2⟩, h8⟩, ?_⟩
  · rw [heap_of_setCell _ _ _ _ hgbl, heap_of_setCells hgbl]
    exact (HBW.out.block g hgl).trans H1.out
  · have h1 := own_setCells C (k * 129) HROW2.out.drew
    have h2 := own_setCells [.bool true] (k * 129 + 128) h1
    have e1 := flat129_set (o := 0) (x' := ⟨pad b, x.was, x.dirty⟩) H6.out HXK.out ⟨hp64, hx64.2⟩ (by rw [bcells_length, hp64]; omega) (set_is hx64.1 hp64)
    rw [Nat.add_zero, HCB.out] at e1
    rw [e1, flat129_set (x := ⟨pad b, x.was, x.dirty⟩) (x' := wrS b x) (ROk.set (x := ⟨pad b, x.was, x.dirty⟩) H6.out ⟨hp64, hx64.2⟩) (List.getElem?_set_self (List.getElem?_eq_some_iff.1 HXK.out).1) ⟨hp64, hx64.2⟩ (by simp only [List.length_cons, List.length_nil]; omega) (set_dirty (x := ⟨pad b, x.was, x.dirty⟩) ⟨hp64, hx64.2⟩ true), List.set_set] at h2
    exact h2
  · apply List.ext_getElem?
    intro i
    rw [List.getElem?_modify]
    by_cases e : k = i
    · subst e
      rw [List.getElem?_set_self (List.getElem?_eq_some_iff.1 HXK.out).1, HXK.out]
      simp
    · rw [List.getElem?_set_ne e]
      simp [e]
end Go.Proofs.Ytalihocoekplgaa
