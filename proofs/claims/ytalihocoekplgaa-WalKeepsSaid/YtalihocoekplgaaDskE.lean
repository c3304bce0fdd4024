/- disk: Read. -/
import Derived.Test.YtalihocoekplgaaDskC
import Derived.Deep.WholeRow
set_option linter.unusedVariables false
set_option linter.unusedSimpArgs false
namespace Go.Proofs.Ytalihocoekplgaa
open Go.RowKit

theorem bcells_one {l : List UInt8} {v : Value} (h : v ∈ bcells l) : v.oneCell' = true := by
  unfold bcells at h
  rw [List.mem_map] at h
  obtain ⟨x, _, rfl⟩ := h
  rfl
theorem MapS.ok {w : World} {m N : Nat} {D : Dt} (h : MapS w m N D) : DOk D := by
  obtain ⟨dat, _, _, h3⟩ := h
  exact h3
theorem flat64 : ∀ (Y : List (List UInt8)) (k : Nat) (y : List UInt8), (∀ s ∈ Y, s.length = 64) → Y[k]? = some y → ∀ j, j < 64 → (Y.flatMap bcells)[k * 64 + j]? = (bcells y)[j]?
  | [], k, y, _, h, _, _ => by simp at h
  | z :: Y, 0, y, hl, h, j, hj => by
    simp at h
    subst h
    rw [List.flatMap_cons, Nat.zero_mul, Nat.zero_add, List.getElem?_append_left (by rw [bcells_length, hl z (by simp)]; exact hj)]
  | z :: Y, k + 1, y, hl, h, j, hj => by
    have ih := flat64 Y k y (fun s hs => hl s (by simp [hs])) (by simpa using h) j hj
    have hz := hl z (by simp)
    rw [List.flatMap_cons, List.getElem?_append_right (by rw [bcells_length, hz]; omega), bcells_length, hz]
    have : (k + 1) * 64 + j - 64 = k * 64 + j := by omega
    rw [this]
    exact ih
theorem load_from {w : World} {b o : Nat} {cs : List Value} (h : w.rangeAt b o cs) {n : Nat} (hn : cs.length = n) : (loadCellsFrom ⟨b, o, none⟩ 0 n #[]).run Try.prog w = .ok cs.toArray w := by
  subst hn
  have := run_loadCells_list (P := Try.prog) w ⟨b, o, none⟩ cs (fun j v hv => by rw [Addr.add_mid]; exact h j v hv)
  simpa [loadCells] using this
/-- A sector as it was synced lies in its row. -/
theorem Dk.at_ {w : World} {b n cp k : Nat} {Y : List (List UInt8)} {y : List UInt8} (ho : w.ownsRow 0 70 64 (.slice (some ⟨b, 0, none⟩) n cp) n (Y.flatMap bcells)) (hl : ∀ s ∈ Y, s.length = 64) (hy : Y[k]? = some y) : w.rangeAt b (k * 64) (bcells y) := by
  intro j v hv
  have hj : j < 64 := by
    have := (List.getElem?_eq_some_iff.1 hv).1
    rw [bcells_length, hl y (List.mem_of_getElem? hy)] at this
    exact this
  have h := ho.cells (g := b) rfl (k * 64 + j) v (by rw [flat64 Y k y hl hy j hj]; exact hv)
  rw [addr_add] at h
  simpa using h
theorem KRead_nil (w : World) (k : Int) : Calls Try.prog 13 #[.pointer none, .int .i64 k] w fun e w' => e = .returned (.tuple #[.slice none 0 0, .int .i64 6]) ∧ w = w' := by
  go_enter Try.func13, Try.ntmps13
  go_wp2_with fail
  refine (KIs_nil w k).mono ?_
  rintro e w1 ⟨rfl, rfl⟩
  go_wp2_with fail
  refine bodyPost_ret (results_tmp2 rfl _ _ _) rfl ?_
  exact ⟨rfl, rfl⟩
theorem KRead_bad (w : World) (c : Col) (g n : Nat) (Y : List (List UInt8)) (D : Dt) (N : Nat) (k : Int) (hk : isB n k = false) (h : Dk w c g n Y D N) :
    Calls Try.prog 13 #[.pointer (some ⟨g, 0, none⟩), .int .i64 k] w fun e w' => e = .returned (.tuple #[.slice none 0 0, .int .i64 6]) ∧ w = w' := by
  have HI := Lib.hid (KIs_any w c g n Y D N k h)
  rw [hk] at HI
  go_enter Try.func13, Try.ntmps13
  go_wp2_with fail
  refine (HI.out).mono ?_
  rintro e w1 ⟨rfl, rfl⟩
  go_wp2_with fail
  refine bodyPost_ret (results_tmp2 rfl _ _ _) rfl ?_
  exact ⟨rfl, rfl⟩
set_option maxRecDepth 100000 in
set_option maxHeartbeats 2000000 in
theorem KRead_ok (w : World) (c : Col) (g n : Nat) (Y : List (List UInt8)) (D : Dt) (N k : Nat) (hk : k < n) (hw : Wf c w) (h : Dk w c g n Y D N) (y : List UInt8) (hy : Y[k]? = some y) :
    Calls Try.prog 13 #[.pointer (some ⟨g, 0, none⟩), .int .i64 (k : Int)] w fun e w' => ∃ A cp, e = .returned (.tuple #[.slice A 64 cp, .int .i64 0]) ∧ Rd kU8 w' c A 64 cp ((D (k : Int)).getD y) ∧ Below w.heap.size w w' := by
  have HI := Lib.hid (KIs_any w c g n Y D N k h)
  have hb : isB n (k : Int) = true := by unfold isB; simp; omega
  rw [hb] at HI
  obtain ⟨hg, A, cp, m, h1, h2, h3, h4, h5, h6, h7, h8⟩ := h
  have d0 := blk_cell0 h1
  have d1 := blk_cell1 h1
  have hlk := h3.look_ok (k := (k : Int)) (by omega) (by omega)
  have HW := Lib.hid hw
  have hk0 : (0 : Int) ≤ (k : Int) := by omega
  have hk1 : (k : Int) < (n : Int) := by omega
  have H1 := Lib.hid h1
  have H3 := Lib.hid h3
  have H4 := Lib.hid h4
  have H7 := Lib.hid h7
  have H6 := Lib.hid h6
  clear h1 h3 h4 h7 h6
  clear hw hb
  obtain ⟨s0, hs0⟩ : ∃ s0, (D (k : Int)).getD zsec = s0 := ⟨_, rfl⟩
  have hs64 : s0.length = 64 := by
    rw [← hs0]
    cases hD : D (k : Int) with
    | none => rfl
    | some s => exact (H3.out.ok _ _ hD).1
  rw [hs0] at hlk
  obtain ⟨C, hC⟩ : ∃ C, (bcells s0).toArray = C := ⟨_, rfl⟩
  have hCs : C.size = 64 := by rw [← hC]; simp [bcells, hs64]
  have hC1 : C.all (·.oneCell') = true := by rw [← hC]; exact all_oneCell_toArray (fun v hv => bcells_one hv)
  have hlk2 : (Instr.lookup 65 (.map (some m)) (.int .i64 (k : Int)) true).run Try.prog w = .ok (.tuple #[.agg C, .bool (D (k : Int)).isSome]) w := by rw [hlk, ← hC]; rfl
  have hst := run_storeCells_new (P := Try.prog) w 70 #[.int .u8 0, .int .u8 0, .int .u8 0, .int .u8 0, .int .u8 0, .int .u8 0, .int .u8 0, .int .u8 0, .int .u8 0, .int .u8 0, .int .u8 0, .int .u8 0, .int .u8 0, .int .u8 0, .int .u8 0, .int .u8 0, .int .u8 0, .int .u8 0, .int .u8 0, .int .u8 0, .int .u8 0, .int .u8 0, .int .u8 0, .int .u8 0, .int .u8 0, .int .u8 0, .int .u8 0, .int .u8 0, .int .u8 0, .int .u8 0, .int .u8 0, .int .u8 0, .int .u8 0, .int .u8 0, .int .u8 0, .int .u8 0, .int .u8 0, .int .u8 0, .int .u8 0, .int .u8 0, .int .u8 0, .int .u8 0, .int .u8 0, .int .u8 0, .int .u8 0, .int .u8 0, .int .u8 0, .int .u8 0, .int .u8 0, .int .u8 0, .int .u8 0, .int .u8 0, .int .u8 0, .int .u8 0, .int .u8 0, .int .u8 0, .int .u8 0, .int .u8 0, .int .u8 0, .int .u8 0, .int .u8 0, .int .u8 0, .int .u8 0, .int .u8 0] C (by rw [hCs]; exact sec_size) (by rw [hCs]; rfl) hC1
  have HC := Lib.hid hC
  have HS0 := Lib.hid hs0
  clear hlk hC hs0
  cases hD : D (k : Int) with
  | none =>
    rw [hD] at hlk2
    have hlk3 : (Instr.lookup 65 (.map (some m)) (.int .i64 (k : Int)) true).run Try.prog w = .ok (.tuple #[.agg C, .bool false]) w := hlk2
    clear hlk2 hD
    obtain ⟨bl, capl, he, _, _⟩ := H4.out.1.form (by omega)
    cases he
    have hyl := H6.out y (List.mem_of_getElem? hy)
    obtain ⟨C2, hC2⟩ : ∃ C2, (bcells y).toArray = C2 := ⟨_, rfl⟩
    have hC2s : C2.size = 64 := by rw [← hC2]; simp [bcells, hyl]
    have hC21 : C2.all (·.oneCell') = true := by rw [← hC2]; exact all_oneCell_toArray (fun v hv => bcells_one hv)
    have hba := below_alloc w (.cells C 70)
    have e0 := (hba.cell (p := ⟨g, 0, none⟩) (blk_lt H1.out)).trans d0
    have hra : (w.alloc (.cells C 70)).rangeAt bl (k * 64) (bcells y) := World.rangeAt_alloc (Dk.at_ H4.out.1 H6.out hy) _
    have HSZ : Hid ((Try.prog.info? 70).map (·.size) = some (bcells y).length) := by
      show _ = _
      rw [bcells_length, hyl]
      exact sec_size
    have HRA := Lib.hid hra
    have hst2 := run_storeCells_new (P := Try.prog) w 70 C C2 (by rw [hC2s]; exact sec_size) (by rw [hCs, hC2s]) hC21
    have HC2 := Lib.hid hC2
    clear hC2 hra hba
    go_enter Try.func13, Try.ntmps13
    go_wp2_with fail
    refine (HI.out).mono ?_
    rintro e w1 ⟨rfl, rfl⟩
    go_wp2_with (first | (refine wpList_load_mid rfl 70 (.tmp 28) rfl bl (k * 64) rfl (bcells y) _ HRA.out Try.underlying70 rfl HSZ.out ?_; rw [HC2.out]))
    refine bodyPost_ret (results_tmp2 rfl _ _ _) rfl ?_
    have hR := Rd.lit w c HW.out 70 y (0, 0) (by omega)
    rw [HC2.out, hyl] at hR
    exact ⟨_, 64, rfl, hR, below_alloc _ _⟩
  | some s =>
    have hss : s = s0 := by
      have h := HS0.out
      rw [hD] at h
      exact h
    subst hss
    rw [hD] at hlk2
    have hlk3 : (Instr.lookup 65 (.map (some m)) (.int .i64 (k : Int)) true).run Try.prog w = .ok (.tuple #[.agg C, .bool true]) w := hlk2
    clear hlk2 hD
    go_enter Try.func13, Try.ntmps13
    go_wp2_with fail
    refine (HI.out).mono ?_
    rintro e w1 ⟨rfl, rfl⟩
    go_wp2_with fail
    refine bodyPost_ret (results_tmp2 rfl _ _ _) rfl ?_
    have hR := Rd.lit w c HW.out 70 s (0, 0) (by omega)
    rw [HC.out, hs64] at hR
    exact ⟨_, 64, rfl, hR, below_alloc _ _⟩
end Go.Proofs.Ytalihocoekplgaa
