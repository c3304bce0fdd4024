/- disk: Write. -/
import Derived.Test.YtalihocoekplgaaDskE
import Derived.Deep.RegionHeld3
set_option linter.unusedVariables false
set_option linter.unusedSimpArgs false
namespace Go.Proofs.Ytalihocoekplgaa
open Go.RowKit

def pad (b : List UInt8) : List UInt8 := b ++ List.replicate (64 - b.length) 0
theorem pad_len {b : List UInt8} (h : b.length ≤ 64) : (pad b).length = 64 := by simp [pad]; omega
theorem KWrite_nil (w : World) (k : Int) (B : Option Addr) (m cq : Nat) : Calls Try.prog 11 #[.pointer none, .int .i64 k, .slice B m cq] w fun e w' => e = .returned (.int .i64 6) ∧ w = w' := by
  go_enter Try.func11, Try.ntmps11
  go_wp2_with fail
  refine (KIs_nil w k).mono ?_
  rintro e w1 ⟨rfl, rfl⟩
  go_wp2_with fail
  refine bodyPost_ret (results_tmp rfl _ _ _) rfl ?_
  exact ⟨rfl, rfl⟩
theorem KWrite_bad (w : World) (c : Col) (g n : Nat) (Y : List (List UInt8)) (D : Dt) (N : Nat) (k : Int) (B : Option Addr) (m cq : Nat) (hk : isB n k = false) (h : Dk w c g n Y D N) :
    Calls Try.prog 11 #[.pointer (some ⟨g, 0, none⟩), .int .i64 k, .slice B m cq] w fun e w' => e = .returned (.int .i64 6) ∧ w = w' := by
  have HI := Lib.hid (KIs_any w c g n Y D N k h)
  rw [hk] at HI
  go_enter Try.func11, Try.ntmps11
  go_wp2_with fail
  refine (HI.out).mono ?_
  rintro e w1 ⟨rfl, rfl⟩
  go_wp2_with fail
  refine bodyPost_ret (results_tmp rfl _ _ _) rfl ?_
  exact ⟨rfl, rfl⟩
theorem KWrite_long (w : World) (c : Col) (g n : Nat) (Y : List (List UInt8)) (D : Dt) (N : Nat) (k : Int) (B : Option Addr) (m cq : Nat) (hk : isB n k = true) (hm : 64 < m) (hm2 : m ≤ 9223372036854775807) (h : Dk w c g n Y D N) :
    Calls Try.prog 11 #[.pointer (some ⟨g, 0, none⟩), .int .i64 k, .slice B m cq] w fun e w' => e = .returned (.int .i64 1) ∧ w = w' := by
  have HI := Lib.hid (KIs_any w c g n Y D N k h)
  rw [hk] at HI
  have hm1 : (64 : Int) < (m : Int) := by omega
  go_enter Try.func11, Try.ntmps11
  go_wp2_with fail
  refine (HI.out).mono ?_
  rintro e w1 ⟨rfl, rfl⟩
  go_wp2_with fail
  refine bodyPost_ret (results_tmp rfl _ _ _) rfl ?_
  exact ⟨rfl, rfl⟩
theorem pad_splice {b : List UInt8} (h : b.length ≤ 64) : splice (bcells zsec) 0 (bcells b) = bcells (pad b) := by
  unfold splice pad
  rw [bcells_append, bcells_length, List.take_zero, List.nil_append, Nat.zero_add]
  congr 1
  have hz : bcells zsec = List.replicate 64 (.int .u8 0) := rfl
  rw [hz, List.drop_replicate]
  simp [bcells]
theorem write_keep {w w' : World} {g b m : Nat} {u : Value} {cs : List Value} (hg : w.grownBy w' (some m)) (hgm : g ≠ m) (hbm : b ≠ m) (hb : b < w.heap.size) (h : w.cell? ⟨g, 1, none⟩ = some u ∧ w.rangeAt b 0 cs) : w'.cell? ⟨g, 1, none⟩ = some u ∧ w'.rangeAt b 0 cs := by
  refine ⟨(World.cell?_of_block (a := ⟨g, 1, none⟩) (hg.block g (block_lt_of_cell h.1) (by simpa using hgm))).trans h.1, fun j v hv => ?_⟩
  exact (World.cell?_of_block (a := ⟨b, 0 + j, none⟩) (hg.block b hb (by simpa using hbm))).trans (h.2 j v hv)
theorem own_same {w w' : World} {b0 : Nat} {e : TypeId} {sz n : Nat} {v : Value} {xs : List Value} (h : w.ownsRow b0 e sz v n xs) (hs : ∀ k, v.ownBlock = some k → w'.heap[k]? = w.heap[k]?) : w'.ownsRow b0 e sz v n xs := by
  refine ⟨h.1, ?_⟩
  rcases h.2 with h | ⟨g, cap, cur, rfl, h1, h2, h3⟩
  · exact .inl h
  · exact .inr ⟨g, cap, cur, rfl, h1, by rw [hs g rfl]; exact h2, h3⟩
theorem copy_pad {w : World} {c : Col} {B : Option Addr} {mb cq : Nat} {b : List UInt8} (hx : Rd kU8 w c B mb cq b) (hl : b.length = mb) (hm : mb ≤ 64) :
    ∃ v w2, (Builtin.copy_ #[23, 23] 3 #[.slice (some ⟨w.heap.size, 0, none⟩) 64 64, .slice B mb cq]).run Try.prog (w.alloc (.cells (bcells zsec).toArray 70)) = .ok v w2 ∧
      w2.heap[w.heap.size]? = some (.cells (bcells (pad b)).toArray 70 (0, 0)) ∧ Below w.heap.size w w2 := by
  have hu8 : (Try.prog.info? 5).map (·.size) = some 1 := by kernel_rfl
  have hh := heap_alloc_new w (.cells (bcells zsec).toArray 70)
  by_cases h0 : mb = 0
  · subst h0
    have hb0 := List.eq_nil_of_length_eq_zero hl
    subst hb0
    exact ⟨_, _, run_copy_none (P := Try.prog) _ 23 23 3 5 _ _ _ _ _ _ Try.underlying23 hu8 (by simp), hh, below_alloc _ _⟩
  · obtain ⟨bb, off, rfl⟩ := hx.addr (by omega)
    have hz64 : (bcells zsec).length = 64 := by rw [bcells_length, zsec_len]
    have hr := run_copy_row (P := Try.prog) (w.alloc (.cells (bcells zsec).toArray 70)) 23 23 3 5 w.heap.size 0 64 64 ⟨bb, off, none⟩ mb cq (bcells zsec).toArray 70 (bcells b) Try.underlying23 hu8 hh
      (by rw [bcells_length, hl]; exact (Nat.min_eq_left hm).symm) (hx.below (below_alloc w _)).news (by simp only [List.size_toArray, bcells_length, zsec_len]; omega) (fun v hv => bcells_one hv)
    refine ⟨_, _, hr, ?_, below_setRow (below_alloc w _) (Nat.le_refl _) _⟩
    rw [setRow_heap _ _ _ _ _ _ hh]
    have hs := pad_splice (b := b) (by omega)
    unfold splice at hs
    rw [← hs, List.append_assoc]
set_option maxRecDepth 100000 in
set_option maxHeartbeats 4000000 in
theorem KWrite_ok (w : World) (c : Col) (g n : Nat) (Y : List (List UInt8)) (D : Dt) (N k : Nat) (B : Option Addr) (mb cq : Nat) (b : List UInt8) (hk : k < n) (hm : mb ≤ 64) (hN : N < 1000000) (hw : Wf c w) (h : Dk w c g n Y D N) (hx : Rd kU8 w c B mb cq b) :
    Calls Try.prog 11 #[.pointer (some ⟨g, 0, none⟩), .int .i64 (k : Int), .slice B mb cq] w fun e w' => e = .returned (.int .i64 0) ∧ ∃ c', Tr (· = g) c c' w w' ∧ Dk w' c' g n Y (D.put (k : Int) (pad b)) (N + 1) := by
  have HI := Lib.hid (KIs_any w c g n Y D N k h)
  have hb : isB n (k : Int) = true := by unfold isB; simp; omega
  rw [hb] at HI
  have HD := Lib.hid h
  obtain ⟨hg, A, cp, m, h1, h2, h3, h4, h5, h6, h7, h8⟩ := h
  have hbl : b.length = mb := hx.len
  have d1 := blk_cell1 h1
  have hgl := blk_lt h1
  have hml := h3.lt
  have hgm : g ≠ m := by
    intro e
    subst e
    obtain ⟨es, cl, hh⟩ := h3.isMap
    rw [h1] at hh
    cases hh
  have hm1 : ¬ ((64 : Int) < (mb : Int)) := by omega
  have hm64 : (mb : Int) ≤ 64 := by omega
  have hp64 := pad_len (b := b) (by omega)
  obtain ⟨C, hC⟩ : ∃ C, bcells (pad b) = C := ⟨_, rfl⟩
  have hCl : C.length = 64 := by rw [← hC, bcells_length, hp64]
  have HZ : Hid ((#[.int .u8 0, .int .u8 0, .int .u8 0, .int .u8 0, .int .u8 0, .int .u8 0, .int .u8 0, .int .u8 0, .int .u8 0, .int .u8 0, .int .u8 0, .int .u8 0, .int .u8 0, .int .u8 0, .int .u8 0, .int .u8 0, .int .u8 0, .int .u8 0, .int .u8 0, .int .u8 0, .int .u8 0, .int .u8 0, .int .u8 0, .int .u8 0, .int .u8 0, .int .u8 0, .int .u8 0, .int .u8 0, .int .u8 0, .int .u8 0, .int .u8 0, .int .u8 0, .int .u8 0, .int .u8 0, .int .u8 0, .int .u8 0, .int .u8 0, .int .u8 0, .int .u8 0, .int .u8 0, .int .u8 0, .int .u8 0, .int .u8 0, .int .u8 0, .int .u8 0, .int .u8 0, .int .u8 0, .int .u8 0, .int .u8 0, .int .u8 0, .int .u8 0, .int .u8 0, .int .u8 0, .int .u8 0, .int .u8 0, .int .u8 0, .int .u8 0, .int .u8 0, .int .u8 0, .int .u8 0, .int .u8 0, .int .u8 0, .int .u8 0, .int .u8 0] : Array Value) = (bcells zsec).toArray) := rfl
  have HCB := Lib.hid hC
  have HW := Lib.hid hw
  have HBL := Lib.hid hbl
  have H1 := Lib.hid h1
  have H3 := Lib.hid h3
  have H4 := Lib.hid h4
  have HX := Lib.hid hx
  clear h1 h3 h4 hx
  clear hw hb hC hbl
  obtain ⟨vc, w2, hcp, hcb, hbw⟩ := copy_pad HX.out HBL.out hm
  rw [HCB.out] at hcb
  have hcp2 : (Builtin.copy_ #[23, 23] 3 #[.slice (some ⟨w.heap.size, 0, none⟩) 64 64, .slice B mb cq]).run Try.prog (w.alloc (.cells (#[.int .u8 0, .int .u8 0, .int .u8 0, .int .u8 0, .int .u8 0, .int .u8 0, .int .u8 0, .int .u8 0, .int .u8 0, .int .u8 0, .int .u8 0, .int .u8 0, .int .u8 0, .int .u8 0, .int .u8 0, .int .u8 0, .int .u8 0, .int .u8 0, .int .u8 0, .int .u8 0, .int .u8 0, .int .u8 0, .int .u8 0, .int .u8 0, .int .u8 0, .int .u8 0, .int .u8 0, .int .u8 0, .int .u8 0, .int .u8 0, .int .u8 0, .int .u8 0, .int .u8 0, .int .u8 0, .int .u8 0, .int .u8 0, .int .u8 0, .int .u8 0, .int .u8 0, .int .u8 0, .int .u8 0, .int .u8 0, .int .u8 0, .int .u8 0, .int .u8 0, .int .u8 0, .int .u8 0, .int .u8 0, .int .u8 0, .int .u8 0, .int .u8 0, .int .u8 0, .int .u8 0, .int .u8 0, .int .u8 0, .int .u8 0, .int .u8 0, .int .u8 0, .int .u8 0, .int .u8 0, .int .u8 0, .int .u8 0, .int .u8 0, .int .u8 0] : Array Value) 70)) = .ok vc w2 := hcp
  have HB2 := Lib.hid hcb
  have HBW := Lib.hid hbw
  clear hcp hcb hbw
  go_enter Try.func11, Try.ntmps11
  go_wp2_with fail
  refine (HI.out).mono ?_
  rintro e w1 ⟨rfl, rfl⟩
  go_wp2_with fail
  have hMd : MapS w2.drew m N D := H3.out.same (HBW.out.block m hml)
  obtain ⟨w5, hup0, hmp, hgr⟩ := hMd.put (by omega) (k := (k : Int)) (by omega) (by omega) hp64
  have hup : (Instr.mapUpdate 65 (.map (some m)) (.int .i64 (k : Int)) (.agg C.toArray)).run Try.prog w2.drew = .ok () w5 := by
    rw [← HCB.out]
    exact hup0
  have hra : w2.drew.rangeAt w.heap.size 0 C := by
    intro j v hv
    rw [Nat.zero_add]
    show w2.cell? ⟨w.heap.size, j, none⟩ = some v
    rw [blk_cell HB2.out]
    simpa using hv
  have hg1 : w2.drew.cell? ⟨g, 1, none⟩ = some (.map (some m)) := (HBW.out.cell (p := ⟨g, 1, none⟩) hgl).trans d1
  have hSS : w2.drew.cell? ⟨g, 1, none⟩ = some (.map (some m)) ∧ w2.drew.rangeAt w.heap.size 0 C := ⟨hg1, hra⟩
  have hwm : w.heap.size ≠ m := by omega
  have hw2s : w.heap.size < w2.drew.heap.size := blk_lt HB2.out
  have hu70 := Try.underlying70
  have hsz70 : (Try.prog.info? 70).map (·.size) = some C.length := by rw [hCl]; exact sec_size
  have HMP := Lib.hid hmp
  clear hup0 hmp
  go_region_held3 (fun w' => w'.cell? ⟨g, 1, none⟩ = some (.map (some m)) ∧ w'.rangeAt w.heap.size 0 C) (first | assumption | exact write_keep hgr hgm hwm hw2s (by assumption)) (fail)
  go_wp2_with fail
  refine bodyPost_ret (results_tmp rfl _ _ _) rfl ?_
  have hT := ((Tr.of_below (M := (· = g)) HW.out HBW.out).drew).grown hgr (fun j hj => by cases hj; exact ⟨g, h2, .inl rfl⟩)
  have hblk : ∀ j, j < w.heap.size → j ≠ m → w5.heap[j]? = w.heap[j]? := by
    intro j hj hjm
    rw [hgr.block j (Nat.lt_of_lt_of_le hj HBW.out.size) (by simpa using hjm)]
    exact HBW.out.block j hj
  have hrow : ∀ j, (Value.slice A n cp).ownBlock = some j → w5.heap[j]? = w.heap[j]? := by
    intro j hj
    refine hblk j (H4.out.1.lt j hj).2 ?_
    intro e
    subst e
    obtain ⟨es, cl, hh⟩ := H3.out.isMap
    rcases H4.out.1.2 with ⟨he, _⟩ | ⟨b', cap, cur, he, _, hh2, _⟩
    · rw [he] at hj; cases hj
    · rw [he] at hj
      cases hj
      rw [hh2] at hh
      cases hh
  refine ⟨rfl, c, hT, hg, A, cp, m, by rw [hblk g hgl hgm]; exact H1.out, h2, HMP.out, ⟨own_same H4.out.1 hrow, H4.out.2⟩, h5, h6, fun k' s' hk' => ?_, h8⟩
  unfold Dt.put at hk'
  split at hk'
  · rename_i he
    subst he
    omega
  · exact h7 k' s' hk'
end Go.Proofs.Ytalihocoekplgaa
