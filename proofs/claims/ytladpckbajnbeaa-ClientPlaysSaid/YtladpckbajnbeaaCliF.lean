/- client: Taken; what a desk that hears keeps. -/
import Derived.Test.YtladpckbajnbeaaCliE
set_option linter.unusedVariables false
set_option linter.unusedSimpArgs false
namespace Go.Proofs.Ytladpckbajnbeaa
open Go.RowKit

theorem part_in {α : Type} (xs : List α) (d i n : Nat) (v : α) (h : d ≤ i) : ((xs.set i v).drop d).take n = ((xs.drop d).take n).set (i - d) v := by
  rw [List.drop_set, if_neg (by omega), List.take_set]
theorem part_out {α : Type} (xs : List α) (d i n : Nat) (v : α) (h : i < d ∨ d + n ≤ i) : ((xs.set i v).drop d).take n = (xs.drop d).take n := by
  rcases h with h | h
  · rw [List.drop_set_of_lt h]
  · rw [part_in _ _ _ _ _ (by omega), List.set_eq_of_length_le (by rw [List.length_take]; omega)]
theorem reps_set {w : World} {c : Col} {T : List Rep} {cells : List Value} (h : Reps kRep w c T cells) {k : Nat} {x : Rep} (hx : T[k]? = some x) {A : Option Addr} {n cp : Nat} (hR : Rd kFld w c A n cp x.t) :
    Reps kRep w c T (cells.set (k * 5 + 3) (.slice A n cp)) := by
  refine ⟨by simpa using h.1, fun j y hy => ?_⟩
  have e : kRep.sz = 5 := rfl
  rw [e]
  by_cases hjk : j = k
  · subst hjk
    rw [hx] at hy
    cases hy
    obtain ⟨A', n', cp', hc, _⟩ := h.2 j x hx
    rw [e] at hc
    rw [part_in _ _ _ _ _ (by omega), hc]
    exact ⟨A, n, cp, by simp [pCells], hR⟩
  · have hh := h.2 j y hy
    rw [e] at hh
    rw [part_out _ _ _ _ _ (by omega)]
    exact hh
theorem reps_at {w : World} {c : Col} {T : List Rep} {cells : List Value} (h : Reps kRep w c T cells) {k : Nat} {x : Rep} (hx : T[k]? = some x) : ∃ A n cp, cells[k * 5 + 3]? = some (.slice A n cp) ∧ Rd kFld w c A n cp x.t := by
  obtain ⟨A, n, cp, hc, hR⟩ := h.2 k x hx
  refine ⟨A, n, cp, ?_, hR⟩
  have e : kRep.sz = 5 := rfl
  rw [e] at hc
  have := congrArg (fun l => l[3]?) hc
  simpa [pCells, List.getElem?_take, List.getElem?_drop] using this
theorem CTaken_nil (w : World) : Calls Try.prog 31 #[.pointer none] w fun e w' => e = .returned (.slice none 0 0) ∧ w = w' := by
  go_enter Try.func31, Try.ntmps31
  go_wp2_with fail
  refine bodyPost_ret (results_tmp rfl _ _ _) rfl ?_
  exact ⟨rfl, rfl⟩
theorem own_free {w : World} {b0 : Nat} {e : TypeId} {sz n m cp g : Nat} {xs : List Value} (h : w.ownsRow b0 e sz (.slice (some ⟨g, 0, none⟩) m cp) n xs) (i : Nat) : w.frozen? ⟨g, i, none⟩ = false := by
  rcases h.2 with ⟨he, _⟩ | ⟨g', cap, cur, he, _, hh, _⟩
  · cases he
  · cases he
    exact blk_free hh i
def kRaw5 : Kd (List Value) where
  sz := 5
  pos := by decide
  rep := fun w c x cs => cs = x ∧ x.length = 5 ∧ ∀ u ∈ x, u.oneCell' = true
  len := by rintro w c x cs ⟨rfl, h, _⟩; exact h
  one := by rintro w c x cs ⟨rfl, _, h⟩; exact h
  keep := by rintro w w' c c' x cs h k; exact h
/-- A clone of a row that a state owns. -/
theorem CloneR_own (w : World) (c : Col) (e0 : Nat) (A : Option Addr) (n cp : Nat) (T : List Rep) (cells : List Value) (hn : n ≤ 1000000000) (hw : Wf c w) (ho : w.ownsRow e0 52 5 (.slice A n cp) n cells) (hr : Reps kRep w c T cells) (hl : T.length = n) :
    Calls Try.prog 57 #[.slice A n cp] w fun e w' => ∃ A' n' cp' cells', e = .returned (.slice A' n' cp') ∧ w'.ownsRow w.heap.size 52 5 (.slice A' n' cp') n' cells' ∧ (∀ W C, Kp c C w W → Reps kRep W C T cells') ∧ T.length = n' ∧ Below w.heap.size w w' := by
  have e5 : kRep.sz = 5 := rfl
  have hch : ∀ j x, ((List.range n).map (fun j => (cells.drop (j * 5)).take 5))[j]? = some x → kRaw5.rep w (fun _ => none) x ((cells.drop (j * kRaw5.sz)).take kRaw5.sz) := by
    intro j x hj
    rw [List.getElem?_map, Option.map_eq_some_iff] at hj
    obtain ⟨i, hi, hx⟩ := hj
    obtain ⟨hi1, hi2⟩ := List.getElem?_eq_some_iff.1 hi
    rw [List.getElem_range] at hi2
    subst hi2
    have hjn : j < n := by simpa using hi1
    obtain ⟨y, hy⟩ : ∃ y, T[j]? = some y := ⟨_, List.getElem?_eq_getElem (by omega)⟩
    have h1 := hr.2 j y hy
    rw [e5, hx] at h1
    exact ⟨hx, kRep.len h1, kRep.one h1⟩
  obtain ⟨A', cp', he, hR⟩ := Rd.of_own (K := kRaw5) (c := fun _ => none) ho (xs := (List.range n).map (fun j => (cells.drop (j * 5)).take 5)) (by simp) (fun _ _ => rfl) hch
  cases he
  refine (CloneR_gen kRaw5 rfl w _ A n cp _ hn (Wf.none w) hR).mono ?_
  rintro e w' ⟨A', n', cp', cells', rfl, ho', hr', hl', hb⟩
  have hnn : n = n' := by simpa using hl'
  subst hnn
  refine ⟨A', n, cp', cells', rfl, ho', fun W C hK => ⟨?_, fun j x hx => ?_⟩, hl, hb⟩
  · rw [ho'.1, hl]; rfl
  · have hjn : j < n := by rw [← hl]; exact (List.getElem?_eq_some_iff.1 hx).1
    have h1 := (hr'.2 j ((cells.drop (j * 5)).take 5) (by rw [List.getElem?_map, List.getElem?_range hjn]; rfl)).1
    have h2 := kRep.keep (hr.2 j x hx) hK
    rw [e5] at h2 ⊢
    have e6 : kRaw5.sz = 5 := rfl
    rw [e6] at h1
    rw [h1]
    exact h2
set_option maxRecDepth 100000 in
set_option maxHeartbeats 4000000 in
theorem CTaken_any (w : World) (c : Col) (g : Nat) (f : Int) (S : Sd) (T : List Rep) (N : Nat) (hN : N ≤ 1000000) (hT : ∀ x ∈ T, x.t.length ≤ 1000000) (hw : Wf c w) (hD : Dsk w c g f S T N) :
    Calls Try.prog 31 #[.pointer (some ⟨g, 0, none⟩)] w fun e w' => ∃ A n cp, e = .returned (.slice A n cp) ∧ ∃ c', Rd kRep w' c' A n cp T ∧ Tr (fun _ => False) c c' w w' := by
  have hd := hD
  obtain ⟨hg, m', A1, n1, cp1, φ, cells, h1, _, _, _, h5, h6, h7, h8⟩ := hd
  have d2 := blk_cell2 h1
  have hgl := blk_lt h1
  clear h1
  have H5 := Lib.hid h5
  have H6 := Lib.hid h6
  have H7 := Lib.hid h7
  have HD := Lib.hid hD
  have HT := Lib.hid hT
  have HW := Lib.hid hw
  clear h5 h6 h7 hD hT hw
  go_enter Try.func31, Try.ntmps31
  go_wp2_with fail
  refine (CloneR_own w c 0 A1 n1 cp1 T cells (by omega) HW.out H5.out.1 H6.out H7.out).mono ?_
  rintro e w1 ⟨A, n, cp, cells1, rfl, q_HO1, q_HR1, q_HL1, q_HB1⟩
  have HO1 := Lib.hid q_HO1
  have HR1 := Lib.hid q_HR1
  have HL1 := Lib.hid q_HL1
  have HB1 := Lib.hid q_HB1
  clear q_HO1 q_HR1 q_HL1 q_HB1
  have hnn : n = n1 := by rw [← HL1.out, ← H7.out]
  subst hnn
  -- the clone's block gets a colour of its own
  obtain ⟨c1, HT1, HO, HR⟩ : ∃ c1, Hid (Tr (fun _ => False) c c1 w w1) ∧ Hid (OwnR w1 c1 w.heap.size 52 5 A n cp cells1) ∧ Hid (Reps kRep w1 c1 T cells1) := by
    have t0 := Tr.of_below (M := fun _ => False) HW.out HB1.out
    cases A with
    | none => exact ⟨c, t0, ⟨HO1.out, fun k hk => by cases hk⟩, HR1.out _ _ t0.kp⟩
    | some ad =>
      have hl := HO1.out.lt ad.block rfl
      have t1 := t0.hot hl.1 hl.2 hl.2 (.inr hl.1)
      exact ⟨c.set ad.block ad.block, t1, ⟨HO1.out, fun k hk => by cases hk; exact Col.set_same _ _ _⟩, HR1.out _ _ t1.kp⟩
  go_wp2_with fail
  go_loopw [14] (fun v wr => ∃ (k : Nat) (c2 : Col) (cells2 : List Value), v = .int .i64 (k : Int) ∧ k ≤ n ∧ Hid (Tr (fun _ => False) c c2 w wr) ∧ Hid (OwnR wr c2 w.heap.size 52 5 A n cp cells2) ∧ Hid (Reps kRep wr c2 T cells2)) (fun v _ => n - (intOf v).toNat)
  case atStart => exact ⟨0, c1, cells1, rfl, by omega, HT1.out, HO.out, HR.out⟩
  case round =>
    obtain ⟨k, c2, cells2, rfl, hk, HT2, HO2, HR2⟩ := hrel
    by_cases hlt : k < n
    · obtain ⟨x, hxk⟩ : ∃ x, T[k]? = some x := ⟨_, List.getElem?_eq_getElem (by rw [HL1.out]; exact hlt)⟩
      obtain ⟨gg, cap, he, hgg, hgg2⟩ := HO2.out.1.form (by omega)
      cases he
      obtain ⟨A3, n3, cp3, hc3, hR3⟩ := reps_at HR2.out hxk
      have hcell := HO2.out.1.cells rfl _ _ hc3
      rw [addr_add] at hcell
      simp only [Nat.zero_add] at hcell
      have hk0 : (0 : Int) ≤ (k : Int) := Int.natCast_nonneg _
      have hk1 : (k : Int) < (n : Int) := by omega
      have hx6 := HT.out x (List.mem_of_getElem? hxk)
      have hn3 : n3 ≤ 1000000 := by rw [← hR3.len]; exact hx6
      have HXK := Lib.hid hxk
      have HR3 := Lib.hid hR3
      have HC3 := Lib.hid hc3
      clear hxk hR3 hc3
      go_wp2_with fail
      refine (CloneF_rd wr c2 A3 n3 cp3 x.t (by omega) HT2.out.wf HR3.out).mono ?_
      rintro e w3 ⟨A4, n4, cp4, rfl, q_HR4, q_HB3⟩
      have HR4 := Lib.hid q_HR4
      have HB3 := Lib.hid q_HB3
      clear q_HR4 q_HB3
      have HT3 := Lib.hid (HT2.out.then (Tr.of_below HT2.out.wf HB3.out))
      have HO3 := Lib.hid (HO2.out.keep (Tr.of_below (M := fun _ => False) HT2.out.wf HB3.out) (fun _ _ h => h))
      have s3 := (HO3.out.1.cells rfl _ _ HC3.out)
      rw [addr_add] at s3
      simp only [Nat.zero_add] at s3
      have sf3 := own_free HO3.out.1 (k * 5 + 3)
      have hcg := HO2.out.2 gg rfl
      have HT4 := Lib.hid (HT3.out.setCell (p := ⟨gg, k * 5 + 3, none⟩) hcg (.inr hgg) (.slice A4 n4 cp4))
      have HTg := Lib.hid ((Tr.refl (· = gg) HT3.out.wf).setCell (p := ⟨gg, k * 5 + 3, none⟩) hcg (.inl rfl) (.slice A4 n4 cp4))
      have hst := HO3.out.1.stored (k * 5 + 3) (.slice A4 n4 cp4)
      have HO4 : Hid (OwnR (w3.setCell ⟨gg, k * 5 + 3, none⟩ (.slice A4 n4 cp4)) c2 w.heap.size 52 5 (some ⟨gg, 0, none⟩) n cp (cells2.set (k * 5 + 3) (.slice A4 n4 cp4))) := ⟨hst.1, HO3.out.2⟩
      clear hst
      have HR5 := Lib.hid (reps_set ((HR2.out.keep (Kp.of_below HB3.out)).keep HTg.out.kp) HXK.out (HR4.out.tr HTg.out))
      go_wp2_with fail
      exact ⟨⟨k + 1, c2, _, by simp, by omega, HT4.out, HO4.out, HR5.out⟩, by simp [intOf]; omega⟩
    · have hkn : k = n := by omega
      subst hkn
      have hge : ¬ ((k : Int) < (k : Int)) := by omega
      go_wp2_with fail
      refine bodyPost_ret (results_tmp rfl _ _ _) rfl ?_
      cases A with
      | none =>
        obtain ⟨A', cp', he, hR⟩ := HR2.out.rd HO2.out.1 HL1.out (fun j hj => by cases hj)
        cases he
        exact ⟨none, k, cp, rfl, c2, hR, HT2.out⟩
      | some ad =>
        have hob : (Value.slice (some ad) k cp).ownBlock = some ad.block := rfl
        have hlo := (HO2.out.1.lt _ hob).1
        obtain ⟨A', cp', he, hR⟩ := (HR2.out.keep (c' := fun j => if j = ad.block then none else c2 j) (Kp.of_col wr fun j hj hn => by split <;> simp_all)).rd HO2.out.1 HL1.out (fun j hj => by cases hj; simp)
        cases he
        exact ⟨some ad, k, cp, rfl, _, hR, HT2.out.cool ad.block hlo⟩
theorem hearL_may (f : Int) (i : Nat) (l : List Rep) : ∀ (s : HS), (∀ x ∈ s.T, mayP x = true) → ∀ x ∈ (hearL f i s l).T, mayP x = true := by
  induction l with
  | nil => exact fun s h => h
  | cons y l ih =>
    intro s h
    show ∀ x ∈ (hearL f i (hearOne f i s y) l).T, mayP x = true
    refine ih _ ?_
    unfold hearOne
    split
    · rename_i hm
      split
      · intro x hx
        rcases List.mem_append.1 hx with h1 | h1
        · exact h x h1
        · rw [List.mem_singleton.1 h1]; exact hm
      · exact h
    · exact h
theorem mayP_t {x : Rep} (h : mayP x = true) : x.t.length ≤ 6 := by
  unfold mayP at h
  simp only [Bool.and_eq_true] at h
  have h5 := h.2
  split at h5
  · exact (mayB_all h5).2.1
  · simp only [Bool.and_eq_true, List.isEmpty_iff] at h5
    simp [h5.2.2.1]
end Go.Proofs.Ytladpckbajnbeaa
