/- client: told. -/
import Derived.Test.YtladpckbajnbeaaCliG
set_option linter.unusedVariables false
set_option linter.unusedSimpArgs false
namespace Go.Proofs.Ytladpckbajnbeaa
open Go.RowKit

theorem Rd.of_alloc {α : Type} {K : Kd α} {w : World} {c : Col} {l : List α} {cells : List Value} (hc : Wf c w) (t : TypeId) (hr : Reps K w c l cells) (hl : l.length ≤ 1000000000) :
    Rd K (w.alloc (.cells cells.toArray t)) c (some ⟨w.heap.size, 0, none⟩) l.length l.length l := by
  refine ⟨rfl, Nat.le_refl _, by simp only [maxLen]; omega, fun _ => ⟨w.heap.size, 0, rfl, by simp, hc.fresh (Nat.le_refl _), fun j x hx => ⟨_, K.keep (hr.2 j x hx) (Kp.of_below (below_alloc w _)), fun i u hi => ?_⟩⟩⟩
  rw [cell_of_row _ _ _ cells.toArray t (0, 0) (heap_alloc_new w _)]
  rw [List.getElem?_take] at hi
  split at hi
  · rw [List.getElem?_drop] at hi
    simpa using hi
  · cases hi
theorem rep1 {w : World} {c : Col} (hc : Wf c w) (x : Rep) {A : Option Addr} {n cp : Nat} (hR : Rd kFld w c A n cp x.t) :
    Rd kRep (w.alloc (.cells #[.int .i64 x.client, .int .i64 x.seq, .int .i64 x.kind, .slice A n cp, .bool x.late] 52)) c (some ⟨w.heap.size, 0, none⟩) 1 1 [x] :=
  Rd.of_alloc (cells := pCells x A n cp) hc _ (Reps.one ⟨A, n, cp, rfl, hR⟩) (by simp)
theorem hear1 {f : Int} {i : Nat} {S : Sd} {T : List Rep} {x : Rep} (hm : mayP x = true) : hearL f i ⟨S, T, []⟩ [x] = if sayR f (S (wordB x)) i = true then ⟨S.put (wordB x) i, T ++ [x], [x]⟩ else ⟨S.put (wordB x) i, T, []⟩ := by
  simp [hearL, hearOne, hm]
theorem CHear_eq (w : World) (c : Col) (g : Nat) (f : Int) (S : Sd) (T : List Rep) (N : Nat) (i : Nat) (v : Int) (B : Option Addr) (m cq : Nat) (l : List Rep) (S' : Sd) (T' out : List Rep) (hq : hearL f i ⟨S, T, []⟩ l = ⟨S', T', out⟩) (hv : v = (i : Int)) (hi : (i : Int) ≤ 3 * f) (hf0 : 0 ≤ f) (hf2 : f ≤ 2) (hN : N + m < 1000000) (hw : Wf c w)
    (hD : Dsk w c g f S T N) (hx : Rd kRep w c B m cq l) :
    Calls Try.prog 29 #[.pointer (some ⟨g, 0, none⟩), .int .i64 v, .slice B m cq] w fun e w' => ∃ A cp, e = .returned (.slice A out.length cp) ∧ ∃ c', Rd kRep w' c' A out.length cp out ∧ Tr (· = g) c c' w w' ∧ Dsk w' c' g f S' T' (N + m) := by
  subst hv
  refine (CHear_any w c g f S T N i B m cq l hi hf0 hf2 hN hw hD hx).mono ?_
  rintro e w' ⟨A, n, cp, rfl, c', hR, hT, hD'⟩
  rw [hq] at hR hD'
  have hn : n = out.length := hR.len.symm
  subst hn
  exact ⟨A, cp, rfl, c', hR, hT, hD'⟩
theorem CTaken_eq (w : World) (c : Col) (g : Nat) (f : Int) (S : Sd) (T : List Rep) (N : Nat) (hN : N ≤ 1000000) (hT : ∀ x ∈ T, mayP x = true) (hw : Wf c w) (hD : Dsk w c g f S T N) :
    Calls Try.prog 31 #[.pointer (some ⟨g, 0, none⟩)] w fun e w' => ∃ A cp, e = .returned (.slice A T.length cp) ∧ ∃ c', Rd kRep w' c' A T.length cp T ∧ Tr (fun _ => False) c c' w w' := by
  refine (CTaken_any w c g f S T N hN (fun x hx => Nat.le_trans (mayP_t (hT x hx)) (by omega)) hw hD).mono ?_
  rintro e w' ⟨A, n, cp, rfl, c', hR, hT'⟩
  have hn : n = T.length := hR.len.symm
  subst hn
  exact ⟨A, cp, rfl, c', hR, hT'⟩
def toldRep : Rep := ⟨1, 2, 1, [], false⟩
theorem toldRep_may : mayP toldRep = true := by decide
set_option maxRecDepth 100000 in
set_option maxHeartbeats 4000000 in
theorem told19 (w : World) : Calls Try.prog 30 #[] w (BoolPost w true) := by
  generalize hk : wordB toldRep = kk
  have HM : Hid (mayP ⟨1, 2, 1, [], false⟩ = true) := toldRep_may
  have a1 : hearL 1 0 ⟨fun _ => allF, [], []⟩ [toldRep] = ⟨Sd.put (fun _ => allF) kk 0, [], []⟩ := by rw [hear1 toldRep_may, hk]; rfl
  have a2 : hearL 1 0 ⟨Sd.put (fun _ => allF) kk 0, [], []⟩ [toldRep] = ⟨(Sd.put (fun _ => allF) kk 0).put kk 0, [], []⟩ := by
    rw [hear1 toldRep_may, hk, if_neg]
    simp [Sd.put, sayR, allF]
  have a3 : hearL 1 3 ⟨(Sd.put (fun _ => allF) kk 0).put kk 0, [], []⟩ [toldRep] = ⟨((Sd.put (fun _ => allF) kk 0).put kk 0).put kk 3, [toldRep], [toldRep]⟩ := by
    rw [hear1 toldRep_may, hk, if_pos]
    · rfl
    · simp [Sd.put, sayR, allF]
  have a4 : hearL 1 2 ⟨((Sd.put (fun _ => allF) kk 0).put kk 0).put kk 3, [toldRep], []⟩ [toldRep] = ⟨(((Sd.put (fun _ => allF) kk 0).put kk 0).put kk 3).put kk 2, [toldRep], []⟩ := by
    rw [hear1 toldRep_may, hk, if_neg]
    simp [Sd.put, sayR, allF]
  have A1 := Lib.hid a1
  have A2 := Lib.hid a2
  have A3 := Lib.hid a3
  have A4 := Lib.hid a4
  clear a1 a2 a3 a4
  clear hk
  go_enter Try.func30, Try.ntmps30
  go_wp2_with fail
  refine (CNew_ok w (fun _ => none) 1 (by omega) (by omega) (Wf.none w)).mono ?_
  rintro e w1 ⟨g, c1, rfl, q_HT1, hg, q_HD1⟩
  have HT1 := Lib.hid q_HT1
  have HD1 := Lib.hid q_HD1
  clear q_HT1 q_HD1
  have hw1 := HT1.out.wf
  have HR1 := Lib.hid (rep1 hw1 toldRep (Rd.nil kFld w1 c1))
  have HT2 := Lib.hid (HT1.out.alloc (.cells #[.int .i64 1, .int .i64 2, .int .i64 1, .slice none 0 0, .bool false] 52))
  have HD2 := Lib.hid (HD1.out.tr (Tr.new (c := c1) hw1 (.cells #[.int .i64 1, .int .i64 2, .int .i64 1, .slice none 0 0, .bool false] 52)) (fun h => h))
  clear hw1
  go_wp2_with fail
  refine (CHear_eq _ c1 g 1 _ _ 0 0 0 _ 1 1 [toldRep] _ _ _ A1.out (by simp) (by omega) (by omega) (by omega) (by omega) HT2.out.wf HD2.out HR1.out).mono ?_
  rintro e w3 ⟨B3, cp3, rfl, c3, q_HR3, q_HT3, q_HD3⟩
  have HR3 := Lib.hid q_HR3
  have HT3 := Lib.hid q_HT3
  have HD3 := Lib.hid q_HD3
  clear q_HR3 q_HT3 q_HD3
  have hg4 : ¬ (w1.heap.size = g) := by have := HD1.out.lt; omega
  have HT4 := Lib.hid ((HT2.out.mono (M' := (· = g)) (fun _ _ h => h.elim)).then HT3.out)
  have HR4 := Lib.hid (HR1.out.tr HT3.out)
  go_wp2_with fail
  refine (CHear_eq w3 c3 g 1 _ _ _ 0 0 _ 1 1 [toldRep] _ _ _ A2.out (by simp) (by omega) (by omega) (by omega) (by omega) HT4.out.wf HD3.out HR4.out).mono ?_
  rintro e w5 ⟨B5, cp5, rfl, c5, q_HR5, q_HT5, q_HD5⟩
  have HR5 := Lib.hid q_HR5
  have HT5 := Lib.hid q_HT5
  have HD5 := Lib.hid q_HD5
  clear q_HR5 q_HT5 q_HD5
  have HT6 := Lib.hid (HT4.out.then HT5.out)
  have HR6 := Lib.hid (HR4.out.tr HT5.out)
  go_wp2_with fail
  refine (CHear_eq w5 c5 g 1 _ _ _ 3 3 _ 1 1 [toldRep] _ _ _ A3.out (by simp) (by omega) (by omega) (by omega) (by omega) HT6.out.wf HD5.out HR6.out).mono ?_
  rintro e w7 ⟨B7, cp7, rfl, c7, q_HR7, q_HT7, q_HD7⟩
  have HR7 := Lib.hid q_HR7
  have HT7 := Lib.hid q_HT7
  have HD7 := Lib.hid q_HD7
  clear q_HR7 q_HT7 q_HD7
  have HT8 := Lib.hid (HT6.out.then HT7.out)
  have HR8 := Lib.hid (HR6.out.tr HT7.out)
  go_wp2_with fail
  refine (CHear_eq w7 c7 g 1 _ _ _ 2 2 _ 1 1 [toldRep] _ _ _ A4.out (by simp) (by omega) (by omega) (by omega) (by omega) HT8.out.wf HD7.out HR8.out).mono ?_
  rintro e w9 ⟨B9, cp9, rfl, c9, q_HR9, q_HT9, q_HD9⟩
  have HR9 := Lib.hid q_HR9
  have HT9 := Lib.hid q_HT9
  have HD9 := Lib.hid q_HD9
  clear q_HR9 q_HT9 q_HD9
  have HT10 := Lib.hid (HT8.out.then HT9.out)
  go_wp2_with fail
  refine (CNew_bad w9 3 (by omega)).mono ?_
  rintro e w10 ⟨rfl, rfl⟩
  go_wp2_with fail
  refine (CTaken_eq w9 c9 g 1 _ _ _ (by omega) (fun x hx => by rw [List.mem_singleton.1 hx]; exact toldRep_may) HT10.out.wf HD9.out).mono ?_
  rintro e w11 ⟨B11, cp11, rfl, c11, q_HR11, q_HT11⟩
  have HR11 := Lib.hid q_HR11
  have HT11 := Lib.hid q_HT11
  clear q_HR11 q_HT11
  go_wp2_with fail
  refine (CHear_nil w11 0 _ 1 1).mono ?_
  rintro e w12 ⟨rfl, rfl⟩
  go_wp2_with fail
  refine (CTaken_nil w11).mono ?_
  rintro e w12 ⟨rfl, rfl⟩
  go_wp2_with fail
  refine bodyPost_ret (results_tmp rfl _ _ _) rfl ?_
  refine ⟨rfl, ?_⟩
  exact (HT10.out.then (HT11.out.mono (M' := (· = g)) (fun _ _ h => h.elim))).below (by intro r hr e; omega)
end Go.Proofs.Ytladpckbajnbeaa
