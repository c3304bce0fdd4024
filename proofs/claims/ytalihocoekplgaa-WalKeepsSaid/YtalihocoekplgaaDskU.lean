/- disk: the document's disk: Dirty, Write. -/
import Derived.Test.YtalihocoekplgaaDskT
set_option linter.unusedVariables false
set_option linter.unusedSimpArgs false
namespace Go.Proofs.Ytalihocoekplgaa
open Go.RowKit

def rdirB (R : List RSec) (i : Nat) : Bool := (R[i]?.map (·.dirty)).getD false
/-- The dirty ones of the first k. -/
def rdirL (R : List RSec) (k : Nat) : List Int := ((List.range k).filter (fun (i : Nat) => rdirB R i)).map (fun (i : Nat) => (i : Int))
theorem rdirL_yes {R : List RSec} {k : Nat} {x : RSec} (hx : R[k]? = some x) (hd : x.dirty = true) : rdirL R (k + 1) = rdirL R k ++ [(k : Int)] := by
  have h : rdirB R k = true := by simp [rdirB, hx, hd]
  simp [rdirL, List.range_succ, List.filter_append, h]
theorem rdirL_no {R : List RSec} {k : Nat} {x : RSec} (hx : R[k]? = some x) (hd : x.dirty = false) : rdirL R (k + 1) = rdirL R k := by
  have h : rdirB R k = false := by simp [rdirB, hx, hd]
  simp [rdirL, List.range_succ, List.filter_append, h]
theorem rdirL_len (R : List RSec) (k : Nat) : (rdirL R k).length ≤ k := by
  unfold rdirL
  rw [List.length_map]
  exact Nat.le_trans (List.length_filter_le _ _) (by simp)
theorem int_info : (Try.prog.info? 3).map (fun i => (i.zero, i.size, i.bytes)) = some (some (.int .i64 0), 1, 8) := by kernel_rfl
theorem RDk.cells {w : World} {c : Col} {g n : Nat} {R : List RSec} (h : RDk w c g n R) {k : Nat} (hk : k < n) : ∃ bl cp x, w.heap[g]? = some (.cells #[.slice (some ⟨bl, 0, none⟩) n cp] 79 (0, 0)) ∧ R[k]? = some x ∧ (x.is.length = 64 ∧ x.was.length = 64) ∧ w.rangeAt bl (k * 129) (bcells x.is) ∧ w.rangeAt bl (k * 129 + 64) (bcells x.was) ∧ w.cell? ⟨bl, k * 129 + 128, none⟩ = some (.bool x.dirty) ∧ bl < w.heap.size ∧ c bl = some g ∧ g ≠ bl := by
  obtain ⟨hg, A, cp, h1, ⟨h4, h4'⟩, h5, h6, h8⟩ := h
  obtain ⟨bl, capl, he, _, _⟩ := h4.form (by omega)
  obtain ⟨rfl, rfl⟩ : A = some ⟨bl, 0, none⟩ ∧ cp = capl := by injection he with e1 e2 e3; exact ⟨e1, e3⟩
  obtain ⟨x, hx⟩ : ∃ x, R[k]? = some x := ⟨_, List.getElem?_eq_getElem (by rw [h5]; exact hk)⟩
  refine ⟨bl, cp, x, h1, hx, h6 x (List.mem_of_getElem? hx), rsec_is h4 h6 hx, rsec_was h4 h6 hx, rsec_dirty h4 h6 hx, (h4.lt bl rfl).2, h4' bl rfl, ?_⟩
  intro e
  rcases h4.2 with ⟨he, _⟩ | ⟨b', cap, cur, he, _, hh2, _⟩
  · cases he
  · have e1 : bl = b' := by injection he with e1 _ _; injection e1 with e1; injection e1
    rw [← e1, ← e, h1] at hh2
    cases hh2
set_option maxHeartbeats 1000000 in
theorem RDirty_any (w : World) (c : Col) (g n : Nat) (R : List RSec) (hw : Wf c w) (h : RDk w c g n R) :
    Calls Try.prog 37 #[.pointer (some ⟨g, 0, none⟩)] w fun e w' => ∃ A m cp, e = .returned (.slice A m cp) ∧ Rd kInt w' c A m cp (rdirL R n) ∧ Below w.heap.size w w' := by
  have HK := fun (k : Nat) (hk : k < n) => h.cells hk
  have hgl := h.lt
  have HD := Lib.hid h
  obtain ⟨hg, A, cp, h1, h4, h5, h6, h8⟩ := h
  have HKK := Lib.hid HK
  have HW := Lib.hid hw
  have H1 := Lib.hid h1
  clear hw h1
  clear HK h4 h5 h6
  have hn1 : (n : Int) ≤ 4096 := by omega
  go_enter Try.func37, Try.ntmps37
  go_wp2_with fail
  go_loopw [3, 4] (fun o i wr => ∃ (k : Nat) (A2 : Option Addr) (m cp2 : Nat), i = .int .i64 (k : Int) ∧ o = .slice A2 m cp2 ∧ k ≤ n ∧ m ≤ 4096 ∧ Hid ((rdirL R k).length = m) ∧ Hid (Below w.heap.size w wr) ∧ Hid (wr.ownsRow w.heap.size 3 1 (.slice A2 m cp2) m ((rdirL R k).map Go.encZ))) (fun _ i _ => n - (intOf i).toNat)
  case atStart => exact ⟨0, none, 0, 0, rfl, rfl, Nat.zero_le _, Nat.zero_le _, rfl, Below.refl _ _, World.ownsRow_nil w _ 3 1⟩
  case round =>
    obtain ⟨k, A2, m, cp2, rfl, rfl, hk, hm, HLEN, HB, HO⟩ := hrel
    have hd0 : wr.cell? ⟨g, 0, none⟩ = some (.slice A n cp) := (HB.out.cell (p := ⟨g, 0, none⟩) hgl).trans (blk_cell0 H1.out)
    rcases Nat.lt_or_ge k n with hlt | hge
    · obtain ⟨bl, cpl, x, hb1, hx, _, _, _, hdy, hbl, _, _⟩ := HKK.out k hlt
      have hb1' := hb1
      rw [H1.out] at hb1'
      obtain ⟨rfl, rfl⟩ : A = some ⟨bl, 0, none⟩ ∧ cp = cpl := by
        have e0 := Option.some.inj hb1'
        injection e0 with e0
        injection e0 with e0
        injection e0 with e0
        injection e0 with e1 e2 e3
        exact ⟨e1, e3⟩
      have hdy2 : wr.cell? ⟨bl, k * 129 + 128, none⟩ = some (.bool x.dirty) := (HB.out.cell (p := ⟨bl, k * 129 + 128, none⟩) hbl).trans hdy
      have HX := Lib.hid hx
      clear hb1 hb1' hdy hx
      have hgw := HB.out.size
      cases hxd : x.dirty with
      | true =>
        rw [hxd] at hdy2
        have hmk : m ≤ k := by rw [← HLEN.out]; exact rdirL_len R k
        have HXD := Lib.hid hxd
        clear hxd
        go_wp2_with (at_builtin; go_must (refine app_one_own (base := w.heap.size) (.tmp 22) (.tmp 24) 22 3 (.int .i64 0) 1 8 rfl rfl Try.underlying22 int_info rfl (by decide) (by decide) ((rdirL R k).map Go.encZ) _ rfl rfl rfl (one_cell rfl) hgw HB.out HO.out (by omega) ?_); intro A1 cp1 w1 hb1 hown1 hs1)
        have HB1 := Lib.hid hb1
        have HO1 := Lib.hid hown1
        clear hb1 hown1
        go_wp2_with fail
        refine ⟨⟨k + 1, A1, m + 1, cp1, by go_num, rfl, by omega, by omega, ?_, HB1.out, ?_⟩, by simp [intOf]; omega⟩
        · show _ = _
          rw [rdirL_yes HX.out HXD.out, List.length_append, HLEN.out]
          rfl
        · show World.ownsRow _ _ _ _ _ _ _
          rw [rdirL_yes HX.out HXD.out, List.map_append]
          exact HO1.out
      | false =>
        rw [hxd] at hdy2
        have HXD := Lib.hid hxd
        clear hxd
        go_wp2_with fail
        refine ⟨⟨k + 1, A2, m, cp2, by go_num, rfl, by omega, by omega, ?_, HB.out, ?_⟩, by simp [intOf]; omega⟩
        · show _ = _
          rw [rdirL_no HX.out HXD.out]
          exact HLEN.out
        · show World.ownsRow _ _ _ _ _ _ _
          rw [rdirL_no HX.out HXD.out]
          exact HO.out
    · obtain rfl : k = n := by omega
      go_wp2_with fail
      refine bodyPost_ret (results_tmp rfl _ _ _) rfl ?_
      obtain ⟨A', cp', he, hR⟩ := (reps_int wr c (rdirL R k)).rd (K := kInt) HO.out HLEN.out (fun j hj => HW.out.fresh (HO.out.lt j hj).1)
      cases he
      exact ⟨_, _, _, rfl, hR, HB.out⟩
end Go.Proofs.Ytalihocoekplgaa
