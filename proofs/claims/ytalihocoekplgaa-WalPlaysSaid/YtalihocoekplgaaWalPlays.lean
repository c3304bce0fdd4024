/- The law WalPlays: its walk. -/
import Derived.Test.YtalihocoekplgaaWalO
import Derived.Test.YtalihocoekplgaaOpenK
set_option linter.unusedVariables false
set_option linter.unusedSimpArgs false
namespace Go.Proofs.Ytalihocoekplgaa
open Go.ChangeShapes Go.WideShapes Go.ChangeAt Go.RowKit Go.Deep

theorem opens_op17 : Opens Try.prog kOp 56 := by
  intro H enc w base spare held fuel cs y h
  obtain ⟨hl, n, hf⟩ := trod_cells Try.underlying56 (by kernel_rfl) (by kernel_rfl) h
  obtain ⟨v0, z0, hv0, h0⟩ := hf 0 _ rfl
  obtain ⟨v1, z1, hv1, h1⟩ := hf 1 _ rfl
  obtain ⟨v2, z2, hv2, h2⟩ := hf 2 _ rfl
  obtain ⟨v3, z3, hv3, h3⟩ := hf 3 _ rfl
  obtain ⟨v4, z4, hv4, h4⟩ := hf 4 _ rfl
  obtain ⟨a0, e0, _, w0⟩ := DataW.trod_int Try.underlying3 h0
  obtain ⟨a1, e1, _, w1⟩ := DataW.trod_int Try.underlying3 h1
  obtain ⟨a2, e2, _, w2⟩ := DataW.trod_int Try.underlying3 h2
  obtain ⟨A, k, cp, xs, e3, R3, _⟩ := open_rd (K := kU8) Try.underlying23 (by kernel_rfl) (opens_u8 Try.underlying5) h3
  obtain ⟨B, m, cq, ys, e4, R4, _⟩ := open_rd (K := kInt) Try.underlying22 (by kernel_rfl) opens_int h4
  cases e0; cases e1; cases e2; cases e3; cases e4
  exact ⟨⟨a0, a1, a2, xs, ys⟩, A, k, cp, B, m, cq, lst_eq5 hl hv0 hv1 hv2 hv3 hv4, R3, R4⟩
/-- Both disks, both logs. -/
def St (w : World) (c : Col) (g gx gl gq n : Nat) (Y : List (List UInt8)) (D : Dt) (N num used : Nat) : Prop :=
  Dk w c g n Y D N ∧ RDk w c gx n (relR Y D) ∧ Lg w c gl g num used ∧ Lr w c gq gx num used ∧ used ≤ n ∧ num ≤ used
theorem St.tr {M : Nat → Prop} {w w' : World} {c c' : Col} {g gx gl gq n : Nat} {Y : List (List UInt8)} {D : Dt} {N num used : Nat} (h : St w c g gx gl gq n Y D N num used) (k : Tr M c c' w w') (h1 : ¬ M g) (h2 : ¬ M gx) (h3 : ¬ M gl) (h4 : ¬ M gq) : St w' c' g gx gl gq n Y D N num used :=
  ⟨h.1.tr k h1, h.2.1.tr k h2, h.2.2.1.tr k h3, h.2.2.2.1.tr k h4, h.2.2.2.2⟩
theorem St.cool {w w' : World} {c c' : Col} {g gx gl gq n : Nat} {Y : List (List UInt8)} {D : Dt} {N num used : Nat} (h : St w c g gx gl gq n Y D N num used) (k : Tr (fun _ => False) c c' w w') : St w' c' g gx gl gq n Y D N num used := h.tr k (fun h => h) (fun h => h) (fun h => h) (fun h => h)
theorem blk_ne {w : World} {a b : Nat} {cs cs' : Array Value} {t t' : TypeId} {fr fr' : Nat × Nat} (h : w.heap[a]? = some (.cells cs t fr)) (k : w.heap[b]? = some (.cells cs' t' fr')) (hn : t ≠ t') : a ≠ b := by
  rintro rfl
  rw [h] at k
  injection k with k
  injection k with _ k
  exact hn k
theorem St.ne {w : World} {c : Col} {g gx gl gq n : Nat} {Y : List (List UInt8)} {D : Dt} {N num used : Nat} (h : St w c g gx gl gq n Y D N num used) : g ≠ gx ∧ gl ≠ g ∧ gl ≠ gx ∧ gq ≠ g ∧ gq ≠ gx ∧ gl ≠ gq := by
  obtain ⟨h1, h2, h3, h4, _⟩ := h
  obtain ⟨_, _, _, _, k1, _⟩ := h1
  obtain ⟨_, _, _, k2, _⟩ := h2
  exact ⟨blk_ne k1 k2 (by decide), blk_ne h3.2 k1 (by decide), blk_ne h3.2 k2 (by decide), blk_ne h4.2 k1 (by decide), blk_ne h4.2 k2 (by decide), blk_ne h3.2 h4.2 (by decide)⟩
theorem St.put {n used num m : Nat} (hu : used ≤ n) (hn : num ≤ used) : putUsed n used m ≤ n ∧ putNum n used num m ≤ putUsed n used m := by
  unfold putUsed putNum
  cases h : putOk n used m with
  | false => exact ⟨hu, hn⟩
  | true =>
    unfold putOk at h
    simp only [decide_eq_true_eq] at h
    have := secN_pos m
    simp only [if_true]
    omega
set_option maxRecDepth 100000 in
set_option maxHeartbeats 8000000 in
theorem WalPlays_any (w : World) (nn : Int) (B : Option Addr) (m cq : Nat) (l : List Stp) (hx : Rd kOp w (fun _ => none) B m cq l) : Calls Try.prog 7 #[.int .i64 nn, .slice B m cq] w (BoolPost w true) := by
  have hln := hx.1
  have hmm := hx.max
  obtain ⟨n, hn, hn61⟩ := remS nn 61 (by omega) (by omega)
  simp at hn
  have HX := Lib.hid hx
  have HLN := Lib.hid hln
  clear hx hln
  go_enter Try.func7, Try.ntmps7
  go_wp2_with fail
  refine (KNew_ok w (fun _ => none) n (by omega) (Wf.none w)).mono ?_
  rintro e w1 ⟨g, c1, rfl, q_HT1, hg, q_HD1⟩
  have HT1 := Lib.hid q_HT1
  have HD1 := Lib.hid q_HD1
  clear q_HT1 q_HD1
  go_wp2_with fail
  refine (RNew_any w1 c1 n (by omega) HT1.out.wf).mono ?_
  rintro e w2 ⟨gx, c2, rfl, q_HT2, hgx, q_HR2⟩
  have HT2 := Lib.hid q_HT2
  have HR2 := Lib.hid q_HR2
  clear q_HT2 q_HR2
  have HTW2 := Lib.hid (HT1.out.then HT2.out)
  have HD2 := Lib.hid (HD1.out.tr HT2.out (fun h => h))
  have hgg : g ≠ gx := by
    intro e
    have := HD1.out.lt
    omega
  have hgx' : w.heap.size ≤ gx := by have := HT1.out.size; omega
  have hr2 := HR2.out
  rw [← relR_new] at hr2
  have HRR2 := Lib.hid hr2
  clear hr2
  go_wp2_with fail
  refine (LOpen_any w2 c2 g n _ _ 0 (by omega) HT2.out.wf HD2.out).mono ?_
  rintro e w3 ⟨gl, A3, m3, cp3, rfl, recs3, used3, c3, q_HF3, hgl, q_HT3, q_HL3, q_HRD3⟩
  have HF3 := Lib.hid q_HF3
  have HT3 := Lib.hid q_HT3
  have HL3 := Lib.hid q_HL3
  have HRD3 := Lib.hid q_HRD3
  clear q_HF3 q_HT3 q_HL3 q_HRD3
  obtain ⟨rfl, rfl⟩ : [] = recs3 ∧ 0 = used3 := by
    have h := HF3.out
    rw [syncY_none] at h
    exact (clean_new n).finds.uniq h
  have HRR3 := Lib.hid (HRR2.out.tr HT3.out (fun e => hgg e.symm))
  go_wp2_with fail
  refine (RLOpen_any w3 c3 gx n _ _ (by simp) HT3.out.wf HRR3.out).mono ?_
  rintro e w4 ⟨gq, A4, m4, cp4, rfl, recs4, used4, c4, q_HF4, hgq, q_HT4, q_HRR4, q_HLR4, q_HRD4⟩
  have HF4 := Lib.hid q_HF4
  have HT4 := Lib.hid q_HT4
  have HRR4 := Lib.hid q_HRR4
  have HLR4 := Lib.hid q_HLR4
  have HRD4 := Lib.hid q_HRD4
  clear q_HF4 q_HT4 q_HRR4 q_HLR4 q_HRD4
  obtain ⟨rfl, rfl⟩ := HF3.out.uniq HF4.out
  have hgl' : w.heap.size ≤ gl := by have := HTW2.out.size; omega
  have HTW3 := Lib.hid (HTW2.out.low HT3.out hg)
  have hgq' : w.heap.size ≤ gq := by have := HTW3.out.size; omega
  have HTW4 := Lib.hid (HTW3.out.low HT4.out hgx')
  have hglx : gl ≠ gx := by
    obtain ⟨_, _, _, hb, _⟩ := HRR3.out
    exact blk_ne HL3.out.2.1.2 hb (by decide)
  have hst4 : St w4 c4 g gx gl gq n (cleanZ (syncY (List.replicate n zsec) fun _ => none) 0) (fun _ => none) 0 0 0 := ⟨HL3.out.1.tr HT4.out hgg, HRR4.out, HL3.out.2.1.tr HT4.out hglx, HLR4.out, Nat.zero_le _, Nat.zero_le _⟩
  obtain ⟨Y0, hY0⟩ : ∃ Y0, cleanZ (syncY (List.replicate n zsec) fun _ => none) 0 = Y0 := ⟨_, rfl⟩
  rw [hY0] at hst4
  have HST4 := Lib.hid hst4
  clear hst4
  clear hY0 HF3 HF4 HRD3 HRD4 HRR4 HLR4 HL3 HRR3 HTW3 hglx hgg
  go_wp2_with fail
  go_loopw [9, 12, 14] (fun p q i wr => ∃ (j gl gq num used : Nat) (c' : Col) (Y : List (List UInt8)) (D : Dt), p = .pointer (some ⟨gl, 0, none⟩) ∧ q = .pointer (some ⟨gq, 0, none⟩) ∧ i = .int .i64 (j : Int) ∧ j ≤ m ∧ j ≤ 40 ∧ w.heap.size ≤ gl ∧ w.heap.size ≤ gq ∧ Hid (Tr (fun _ => False) (fun _ => none) c' w wr) ∧ Hid (St wr c' g gx gl gq n Y D (400 * j) num used) ∧ Hid (Rd kOp wr c' B m cq l)) (fun _ _ i _ => m - (intOf i).toNat)
  case atStart => exact ⟨0, gl, gq, 0, 0, c4, Y0, _, rfl, rfl, rfl, Nat.zero_le _, Nat.zero_le _, hgl', hgq', HTW4, HST4, HX.out.tr HTW4.out⟩
  case round =>
    clear hgl' hgq' HTW4 HST4 hgl hgq
    obtain ⟨j, gl, gq, num, used, c', Y, D, rfl, rfl, rfl, hj, hj40, hgl, hgq, HT, HS, HXR⟩ := hrel
    by_cases hlt : j < m ∧ j < 40
    · obtain ⟨hlt, hl40⟩ := hlt
      have hk1 : (j : Int) < (m : Int) := by omega
      have hk2 : (j : Int) < 40 := by omega
      have hk0 : (0 : Int) ≤ (j : Int) := by omega
      obtain ⟨bb, off, rfl⟩ := HXR.out.addr (by omega)
      obtain ⟨x, hxk⟩ : ∃ x, l[j]? = some x := ⟨_, List.getElem?_eq_getElem (by rw [HLN.out]; exact hlt)⟩
      obtain ⟨A3, n3, cp3, B4, m4, cq4, hR3, hR4, e0, e1, e2, e3, e4⟩ := HXR.out.op hxk
      have hm3 := hR3.max
      have hm4 := hR4.max
      obtain ⟨kind, at_, nx, bs, keep⟩ := x
      dsimp only at *
      clear hxk
      obtain ⟨u1, u2⟩ := HS.out.2.2.2.2
      obtain ⟨n1, n2, n3', n4, n5, n6⟩ := HS.out.ne
      have hn8 := HS.out.1.facts.2.2.2
      have HR3 := Lib.hid hR3
      have HR4 := Lib.hid hR4
      clear hR3 hR4
      have hbn : c' wr.heap.size = none := HT.out.wf.fresh (Nat.le_refl _)
      have hT1 : Tr (fun _ => False) c' c' wr (wr.alloc (.cells #[.int .i64 kind, .int .i64 at_, .int .i64 nx, .slice A3 n3 cp3, .slice B4 m4 cq4] 56)) := Tr.new HT.out.wf _
      have hbx := heap_alloc_new wr (.cells #[.int .i64 kind, .int .i64 at_, .int .i64 nx, .slice A3 n3 cp3, .slice B4 m4 cq4] 56)
      have HTW := Lib.hid (HT.out.then hT1)
      have HSW := Lib.hid (HS.out.cool hT1)
      have HXW := Lib.hid (HXR.out.tr hT1)
      have HR3W := Lib.hid (HR3.out.tr hT1)
      have HR4W := Lib.hid (HR4.out.tr hT1)
      have HBX := Lib.hid hbx
      clear hT1 hbx
      by_cases hgood : n3 ≤ 300 ∧ m4 ≤ 60
      · obtain ⟨f1, f2⟩ := hgood
        have f1' : ¬ (300 : Int) < (n3 : Int) := by omega
        have f2' : ¬ (60 : Int) < (m4 : Int) := by omega
        by_cases hk0' : kind = 0
        · subst hk0'
          have hS3 : (wr.alloc (.cells #[.int .i64 0, .int .i64 at_, .int .i64 nx, .slice A3 n3 cp3, .slice B4 m4 cq4] 56)).drew.cell? ⟨wr.heap.size, 3, none⟩ = some (.slice A3 n3 cp3) := blk_cell HBX.out 3
          have hbl : wr.heap.size < (wr.alloc (.cells #[.int .i64 0, .int .i64 at_, .int .i64 nx, .slice A3 n3 cp3, .slice B4 m4 cq4] 56)).drew.heap.size := blk_lt HBX.out
          have hT0 := (Tr.refl (fun _ => False) HTW.out.wf).drew
          have HTD := Lib.hid (HTW.out.drew)
          have HSD := Lib.hid (HSW.out.cool hT0)
          have HXD := Lib.hid (HXW.out.tr hT0)
          have HR3D := Lib.hid (HR3W.out.tr hT0)
          clear hT0
          obtain ⟨rr, hrr⟩ : ∃ rr, putE n used n3 = rr := ⟨_, rfl⟩
          have HWP := Lib.hid (WPut_all _ c' gl g n num used Y D (400 * j) A3 n3 cp3 bs u1 (by omega) (by omega) n2 HTD.out.wf HSD.out.1 HSD.out.2.2.1 HR3D.out)
          rw [hrr] at HWP
          have HRP := Lib.hid (fun (w5 : World) (c5 : Col) (h : Wf c5 w5) (h2 : RDk w5 c5 gx n (relR Y D)) (h3 : Lr w5 c5 gq gx num used) (h4 : Rd kU8 w5 c5 A3 n3 cp3 bs) => RLPut_all w5 c5 gq gx n num used Y D A3 n3 cp3 bs u1 (by omega) n5 h h2 h3 h4)
          rw [hrr] at HRP
          have HRR := Lib.hid hrr
          clear hrr
          go_wp2_with fail
          generalize wr.alloc (.cells #[.int .i64 0, .int .i64 at_, .int .i64 nx, .slice A3 n3 cp3, .slice B4 m4 cq4] 56) = W0 at *
          go_region_held3 (fun w' => w'.cell? ⟨wr.heap.size, 3, none⟩ = some (.slice A3 n3 cp3))
            (first | exact hS3 | exact (kk5.cell hbl hbn).trans hS3 | exact (kk6.cell hbl hbn).trans hS3)
            (first
            | (go_at_call 28; refine (HRP.out w5 c5 HT5.out.wf (HSD.out.2.1.tr HT5.out (fun h => by rcases h with h | h; exact n3' h.symm; exact n1 h.symm)) (HSD.out.2.2.2.1.tr HT5.out (fun h => by rcases h with h | h; exact n6 h.symm; exact n4 h)) (HR3D.out.tr HT5.out)).mono ?_; rintro e w6 ⟨rfl, q_t6, q_d6, q_l6⟩; have HT6 := Lib.hid q_t6; have HD6 := Lib.hid q_d6; have HL6 := Lib.hid q_l6; have kk6 := kk5.trans q_t6.kp; clear q_t6 q_d6 q_l6)
            | (go_at_call 27; refine (HWP.out).mono ?_; rintro e w5 ⟨rfl, c5, q_t5, q_d5, q_l5⟩; have HT5 := Lib.hid q_t5; have HD5 := Lib.hid q_d5; have HL5 := Lib.hid q_l5; have kk5 := q_t5.kp; clear q_t5 q_d5 q_l5))
          have hst6 : St w6 c5 g gx gl gq n Y (putDt n used num bs D) (400 * j + 400) (putNum n used num n3) (putUsed n used n3) :=
            ⟨HD5.out.tr HT6.out (fun h => by rcases h with h | h; exact n4 h.symm; exact n1 h), HD6.out, HL5.out.tr HT6.out (fun h => by rcases h with h | h; exact n6 h; exact n3' h), HL6.out, St.put u1 u2⟩
          have HX6 := Lib.hid ((HXD.out.tr HT5.out).tr HT6.out)
          have HT06 := Lib.hid ((HTD.out.trans (M := fun _ => False) HT5.out (two_low hgl hg)).trans (M := fun _ => False) HT6.out (two_low hgq hgx'))
          obtain ⟨nu, hnu⟩ : ∃ nu, putNum n used num n3 = nu := ⟨_, rfl⟩
          obtain ⟨us, hus⟩ : ∃ us, putUsed n used n3 = us := ⟨_, rfl⟩
          obtain ⟨D6, hD6⟩ : ∃ D6, putDt n used num bs D = D6 := ⟨_, rfl⟩
          rw [hnu, hus, hD6] at hst6
          have HST6 := Lib.hid hst6
          clear hst6
          clear hnu hus hD6 HD5 HT5 HL5 HT6 HD6 HL6 HWP HRP HSD HXD HR3D HTD
          have q1 := cell_regrown (blk_cell1 HST6.out.2.2.2.1.2)
          have q2 := cell_regrown (blk_cell2 HST6.out.2.2.2.1.2)
          have C0 := Lib.hid (fun d os => Calls.regrown_of ((WLen_any (Sort.grow (redrawn w6 d) os) c5 gl g nu us (HST6.out.2.2.1.tr (Tr.of_below (M := fun _ => False) HT06.out.wf (below_regrown w6 d os)) (fun h => h))).mono fun e w' ⟨h1, h2⟩ => ⟨h1, h2 ▸ Below.refl _ _⟩))
          have C1 := Lib.hid (fun d os => Calls.regrown_of ((WUsed_any (Sort.grow (redrawn w6 d) os) c5 gl g nu us (HST6.out.2.2.1.tr (Tr.of_below (M := fun _ => False) HT06.out.wf (below_regrown w6 d os)) (fun h => h))).mono fun e w' ⟨h1, h2⟩ => ⟨h1, h2 ▸ Below.refl _ _⟩))
          have C2 := Lib.hid (fun d os => Calls.regrown_of (Same16_any (Sort.grow (redrawn w6 d) os) c5 g gx n Y D6 (400 * j + 400) (by omega) (HT06.out.wf.below (below_regrown w6 d os)) (HST6.out.1.tr (Tr.of_below (M := fun _ => False) HT06.out.wf (below_regrown w6 d os)) (fun h => h)) (HST6.out.2.1.tr (Tr.of_below (M := fun _ => False) HT06.out.wf (below_regrown w6 d os)) (fun h => h))))
          go_wp2_with fail
          refine wp_region_quiet_below (by kernel_rfl) (by kernel_rfl) ?_
          repeat ((with_reducible refine wpQuiet_step (fun K hK => ?_)); go_simp; first | (with_reducible refine hK _ ?_; clear hK K) | (rw [if_neg (by decide)]; with_reducible refine hK _ ?_; clear hK K) | (apply Exists.intro; refine ⟨fun _ => ?_, hK _ ?_⟩; (first | with_reducible exact (C0.out _ _) | with_reducible exact (C1.out _ _) | with_reducible exact (C2.out _ _)); clear hK K))
          with_reducible refine wpQuiet_nil ?_
          intro _ hw'
          obtain ⟨⟨dq, osq⟩, hw''⟩ := hw'
          subst hw''
          have tz := Tr.of_below (M := fun _ => False) HT06.out.wf (below_regrown w6 dq osq)
          have HSZ := Lib.hid (HST6.out.cool tz)
          have HTZ := Lib.hid (HT06.out.then tz)
          have HXZ := Lib.hid (HX6.out.tr tz)
          clear q1 q2 C0 C1 C2 tz
          generalize Sort.grow (redrawn w6 dq) osq = w99 at *
          go_wp2_with fail
          exact ⟨⟨j + 1, gl, gq, nu, us, c5, Y, D6, rfl, rfl, by go_num, by omega, by omega, hgl, hgq, HTZ.out, ⟨HSZ.out.1.mono (by omega), HSZ.out.2⟩, HXZ.out⟩, by simp [intOf]; omega⟩
        · by_cases hk1' : kind = 1
          · subst hk1'
            clear hk0'
            go_wp2_with fail
            refine (WSync_any _ c' gl g n num used Y D (400 * j) HTW.out.wf HSW.out.1 HSW.out.2.2.1).mono ?_
            rintro e w5 ⟨rfl, c5, q_HT5, q_HD5⟩
            have HT5 := Lib.hid q_HT5
            have HD5 := Lib.hid q_HD5
            clear q_HT5 q_HD5
            have HTa := Lib.hid (HTW.out.low HT5.out hg)
            go_wp2_with fail
            refine (RSync_any w5 c5 gx n _ HTa.out.wf (HSW.out.2.1.tr HT5.out (fun e => n1 e.symm))).mono ?_
            rintro e w6 ⟨rfl, q_HT6, q_HR6⟩
            have HT6 := Lib.hid q_HT6
            have HR6 := Lib.hid q_HR6
            clear q_HT6 q_HR6
            have hr6 := HR6.out
            rw [relR_sync] at hr6
            have hst6 : St w6 c5 g gx gl gq n (syncY Y D) (fun _ => none) 0 num used :=
              ⟨HD5.out.tr HT6.out n1, hr6, (HSW.out.2.2.1.tr HT5.out n2).tr HT6.out n3', (HSW.out.2.2.2.1.tr HT5.out n4).tr HT6.out n5, u1, u2⟩
            have HX6 := Lib.hid ((HXW.out.tr HT5.out).tr HT6.out)
            have HT06 := Lib.hid (HTa.out.low HT6.out hgx')
            obtain ⟨Y6, hY6⟩ : ∃ Y6, syncY Y D = Y6 := ⟨_, rfl⟩
            rw [hY6] at hst6
            have HST6 := Lib.hid hst6
            clear hst6
            clear hr6 hY6 HR6 HD5 HT5 HT6 HTa
            have q1 := cell_regrown (blk_cell1 HST6.out.2.2.2.1.2)
            have q2 := cell_regrown (blk_cell2 HST6.out.2.2.2.1.2)
            have C0 := Lib.hid (fun d os => Calls.regrown_of ((WLen_any (Sort.grow (redrawn w6 d) os) c5 gl g num used (HST6.out.2.2.1.tr (Tr.of_below (M := fun _ => False) HT06.out.wf (below_regrown w6 d os)) (fun h => h))).mono fun e w' ⟨h1, h2⟩ => ⟨h1, h2 ▸ Below.refl _ _⟩))
            have C1 := Lib.hid (fun d os => Calls.regrown_of ((WUsed_any (Sort.grow (redrawn w6 d) os) c5 gl g num used (HST6.out.2.2.1.tr (Tr.of_below (M := fun _ => False) HT06.out.wf (below_regrown w6 d os)) (fun h => h))).mono fun e w' ⟨h1, h2⟩ => ⟨h1, h2 ▸ Below.refl _ _⟩))
            have C2 := Lib.hid (fun d os => Calls.regrown_of (Same16_any (Sort.grow (redrawn w6 d) os) c5 g gx n Y6 (fun _ => none) 0 (by omega) (HT06.out.wf.below (below_regrown w6 d os)) (HST6.out.1.tr (Tr.of_below (M := fun _ => False) HT06.out.wf (below_regrown w6 d os)) (fun h => h)) (HST6.out.2.1.tr (Tr.of_below (M := fun _ => False) HT06.out.wf (below_regrown w6 d os)) (fun h => h))))
            go_wp2_with fail
            refine wp_region_quiet_below (by kernel_rfl) (by kernel_rfl) ?_
            repeat ((with_reducible refine wpQuiet_step (fun K hK => ?_)); go_simp; first | (with_reducible refine hK _ ?_; clear hK K) | (rw [if_neg (by decide)]; with_reducible refine hK _ ?_; clear hK K) | (apply Exists.intro; refine ⟨fun _ => ?_, hK _ ?_⟩; (first | with_reducible exact (C0.out _ _) | with_reducible exact (C1.out _ _) | with_reducible exact (C2.out _ _)); clear hK K))
            with_reducible refine wpQuiet_nil ?_
            intro _ hw'
            obtain ⟨⟨dq, osq⟩, hw''⟩ := hw'
            subst hw''
            have tz := Tr.of_below (M := fun _ => False) HT06.out.wf (below_regrown w6 dq osq)
            have HSZ := Lib.hid (HST6.out.cool tz)
            have HTZ := Lib.hid (HT06.out.then tz)
            have HXZ := Lib.hid (HX6.out.tr tz)
            clear q1 q2 C0 C1 C2 tz
            generalize Sort.grow (redrawn w6 dq) osq = w99 at *
            go_wp2_with fail
            exact ⟨⟨j + 1, gl, gq, num, used, c5, Y6, (fun _ => none), rfl, rfl, by go_num, by omega, by omega, hgl, hgq, HTZ.out, ⟨HSZ.out.1.mono (by omega), HSZ.out.2⟩, HXZ.out⟩, by simp [intOf]; omega⟩
          · go_wp2_with fail
            refine (KCrash_any _ c' g n Y D (400 * j) B4 m4 cq4 keep at_ nx (by omega) HTW.out.wf HSW.out.1 HR4W.out).mono ?_
            rintro e w5 ⟨rfl, c5, q_HT5, q_HD5⟩
            have HT5 := Lib.hid q_HT5
            have HD5 := Lib.hid q_HD5
            clear q_HT5 q_HD5
            have HTa := Lib.hid (HTW.out.low HT5.out hg)
            have hS : (wr.alloc (.cells #[.int .i64 kind, .int .i64 at_, .int .i64 nx, .slice A3 n3 cp3, .slice B4 m4 cq4] 56)).cell? ⟨wr.heap.size, 0, none⟩ = some (.int .i64 kind) ∧ (wr.alloc (.cells #[.int .i64 kind, .int .i64 at_, .int .i64 nx, .slice A3 n3 cp3, .slice B4 m4 cq4] 56)).cell? ⟨wr.heap.size, 1, none⟩ = some (.int .i64 at_) ∧ (wr.alloc (.cells #[.int .i64 kind, .int .i64 at_, .int .i64 nx, .slice A3 n3 cp3, .slice B4 m4 cq4] 56)).cell? ⟨wr.heap.size, 2, none⟩ = some (.int .i64 nx) ∧ (wr.alloc (.cells #[.int .i64 kind, .int .i64 at_, .int .i64 nx, .slice A3 n3 cp3, .slice B4 m4 cq4] 56)).cell? ⟨wr.heap.size, 3, none⟩ = some (.slice A3 n3 cp3) ∧ (wr.alloc (.cells #[.int .i64 kind, .int .i64 at_, .int .i64 nx, .slice A3 n3 cp3, .slice B4 m4 cq4] 56)).cell? ⟨wr.heap.size, 4, none⟩ = some (.slice B4 m4 cq4) :=
              ⟨blk_cell HBX.out 0, blk_cell HBX.out 1, blk_cell HBX.out 2, blk_cell HBX.out 3, blk_cell HBX.out 4⟩
            obtain ⟨x0, x1, x2, x3, x4⟩ := box5_kp HT5.out.kp (blk_lt HBX.out) hbn hS
            clear hS x0
            go_wp2_with fail
            refine (RCrash_any w5 c5 gx n _ B4 m4 cq4 keep at_ nx HTa.out.wf (HSW.out.2.1.tr HT5.out (fun e => n1 e.symm)) (HR4W.out.tr HT5.out)).mono ?_
            rintro e w6 ⟨rfl, q_HT6, q_HR6⟩
            have HT6 := Lib.hid q_HT6
            have HR6 := Lib.hid q_HR6
            clear q_HT6 q_HR6
            clear x1 x2 x3 x4
            have HT06 := Lib.hid (HTa.out.low HT6.out hgx')
            have hr6 := HR6.out
            rw [relR_crash] at hr6
            have hd6 := HD5.out.tr HT6.out n1
            obtain ⟨Yc, hYc⟩ : ∃ Yc, crashY Y D keep at_ (mcut nx) = Yc := ⟨_, rfl⟩
            rw [hYc] at hr6 hd6
            have HX6 := Lib.hid ((HXW.out.tr HT5.out).tr HT6.out)
            have HRR6 := Lib.hid hr6
            have HDD6 := Lib.hid hd6
            clear hr6 hd6
            clear hYc HR6 HD5 HT5 HT6 HTa
            go_wp2_with fail
            refine (LOpen_any w6 c5 g n Yc _ 0 (by omega) HT06.out.wf HDD6.out).mono ?_
            rintro e w7 ⟨gl7, A7, m7, cp7, rfl, recs7, us7, c7, q_HF7, hgl7, q_HT7, q_HL7, q_HRD7⟩
            have HF7 := Lib.hid q_HF7
            have HT7 := Lib.hid q_HT7
            have HL7 := Lib.hid q_HL7
            have HRD7 := Lib.hid q_HRD7
            clear q_HF7 q_HT7 q_HL7 q_HRD7
            have hgl7' : w.heap.size ≤ gl7 := by have := HT06.out.size; omega
            have HT07 := Lib.hid (HT06.out.low HT7.out hg)
            have HRR7 := Lib.hid (HRR6.out.tr HT7.out (fun e => n1 e.symm))
            go_wp2_with fail
            refine (RLOpen_any w7 c7 gx n Yc _ HDD6.out.facts.1 HT07.out.wf HRR7.out).mono ?_
            rintro e w8 ⟨gq8, A8, m8, cp8, rfl, recs8, us8, c8, q_HF8, hgq8, q_HT8, q_HRR8, q_HL8, q_HRD8⟩
            have HF8 := Lib.hid q_HF8
            have HT8 := Lib.hid q_HT8
            have HRR8 := Lib.hid q_HRR8
            have HL8 := Lib.hid q_HL8
            have HRD8 := Lib.hid q_HRD8
            clear q_HF8 q_HT8 q_HRR8 q_HL8 q_HRD8
            obtain ⟨rfl, rfl⟩ := HF7.out.uniq HF8.out
            have hgq8' : w.heap.size ≤ gq8 := by have := HT07.out.size; omega
            have HT08 := Lib.hid (HT07.out.low HT8.out hgx')
            have hgl7x : gl7 ≠ gx := by
              obtain ⟨_, _, _, hb, _⟩ := HRR7.out
              exact blk_ne HL7.out.2.1.2 hb (by decide)
            obtain ⟨v1, v2, _⟩ := HL7.out.used
            have hst8 : St w8 c8 g gx gl7 gq8 n (cleanZ (syncY Yc fun _ => none) us7) (fun _ => none) 0 recs7.length us7 :=
              ⟨HL7.out.1.tr HT8.out n1, HRR8.out, HL7.out.2.1.tr HT8.out hgl7x, HL8.out, v1, v2⟩
            have HX8 := Lib.hid ((HX6.out.tr HT7.out).tr HT8.out)
            have hpp := Pieces_any w8 c8 A7 A8 m7 cp7 m8 cp8 recs7 recs7 (HRD7.out.tr HT8.out) HRD8.out
            rw [decide_eq_true (rfl : recs7 = recs7)] at hpp
            have HPP := Lib.hid hpp
            clear hpp
            go_wp2_with fail
            refine (HPP.out).mono ?_
            rintro e w9 ⟨rfl, q_HB9⟩
            have HB9 := Lib.hid q_HB9
            clear q_HB9
            have t9 := Tr.of_below (M := fun _ => False) HT08.out.wf HB9.out
            have HT09 := Lib.hid (HT08.out.then t9)
            have HX9 := Lib.hid (HX8.out.tr t9)
            have hst9 := hst8.cool t9
            obtain ⟨Y9, hY9⟩ : ∃ Y9, cleanZ (syncY Yc fun _ => none) us7 = Y9 := ⟨_, rfl⟩
            obtain ⟨nu, hnu⟩ : ∃ nu, recs7.length = nu := ⟨_, rfl⟩
            rw [hY9, hnu] at hst9
            have HST9 := Lib.hid hst9
            clear hst9
            clear t9 hst8 hY9 hnu HF7 HF8 HRD7 HRD8 HL7 HL8 HRR8 HRR7 HRR6 HDD6 HT7 HT8 HX6 HX8 HT06 HT07 hgl7x v1 v2 HPP HB9
            have q1 := cell_regrown (blk_cell1 HST9.out.2.2.2.1.2)
            have q2 := cell_regrown (blk_cell2 HST9.out.2.2.2.1.2)
            have C0 := Lib.hid (fun d os => Calls.regrown_of ((WLen_any (Sort.grow (redrawn w9 d) os) c8 gl7 g nu us7 (HST9.out.2.2.1.tr (Tr.of_below (M := fun _ => False) HT09.out.wf (below_regrown w9 d os)) (fun h => h))).mono fun e w' ⟨h1, h2⟩ => ⟨h1, h2 ▸ Below.refl _ _⟩))
            have C1 := Lib.hid (fun d os => Calls.regrown_of ((WUsed_any (Sort.grow (redrawn w9 d) os) c8 gl7 g nu us7 (HST9.out.2.2.1.tr (Tr.of_below (M := fun _ => False) HT09.out.wf (below_regrown w9 d os)) (fun h => h))).mono fun e w' ⟨h1, h2⟩ => ⟨h1, h2 ▸ Below.refl _ _⟩))
            have C2 := Lib.hid (fun d os => Calls.regrown_of (Same16_any (Sort.grow (redrawn w9 d) os) c8 g gx n Y9 (fun _ => none) 0 (by omega) (HT09.out.wf.below (below_regrown w9 d os)) (HST9.out.1.tr (Tr.of_below (M := fun _ => False) HT09.out.wf (below_regrown w9 d os)) (fun h => h)) (HST9.out.2.1.tr (Tr.of_below (M := fun _ => False) HT09.out.wf (below_regrown w9 d os)) (fun h => h))))
            go_wp2_with fail
            refine wp_region_quiet_below (by kernel_rfl) (by kernel_rfl) ?_
            repeat ((with_reducible refine wpQuiet_step (fun K hK => ?_)); go_simp; first | (with_reducible refine hK _ ?_; clear hK K) | (rw [if_neg (by decide)]; with_reducible refine hK _ ?_; clear hK K) | (apply Exists.intro; refine ⟨fun _ => ?_, hK _ ?_⟩; (first | with_reducible exact (C0.out _ _) | with_reducible exact (C1.out _ _) | with_reducible exact (C2.out _ _)); clear hK K))
            with_reducible refine wpQuiet_nil ?_
            intro _ hw'
            obtain ⟨⟨dq, osq⟩, hw''⟩ := hw'
            subst hw''
            have tz := Tr.of_below (M := fun _ => False) HT09.out.wf (below_regrown w9 dq osq)
            have HSZ := Lib.hid (HST9.out.cool tz)
            have HTZ := Lib.hid (HT09.out.then tz)
            have HXZ := Lib.hid (HX9.out.tr tz)
            clear q1 q2 C0 C1 C2 tz
            generalize Sort.grow (redrawn w9 dq) osq = w99 at *
            go_wp2_with fail
            exact ⟨⟨j + 1, gl7, gq8, nu, us7, c8, Y9, (fun _ => none), rfl, rfl, by go_num, by omega, by omega, hgl7', hgq8', HTZ.out, ⟨HSZ.out.1.mono (by omega), HSZ.out.2⟩, HXZ.out⟩, by simp [intOf]; omega⟩
      · have hb2 : Hid (300 < n3 ∨ (n3 ≤ 300 ∧ 60 < m4)) := by
          show _ ∨ _
          omega
        clear hgood
        rcases hb2.out with f1 | ⟨f1, f2⟩
        · have f1' : (300 : Int) < (n3 : Int) := by omega
          clear hb2
          go_wp2_with fail
          refine (told17 _).mono ?_
          rintro e w6 ⟨rfl, q_HB6⟩
          have HB6 := Lib.hid q_HB6
          clear q_HB6
          go_wp2_with fail
          refine bodyPost_ret (results_tmp rfl _ _ _) rfl ?_
          exact ⟨rfl, (HTW.out.then (Tr.of_below HTW.out.wf HB6.out)).below (fun _ _ h => h)⟩
        · have f1' : ¬ (300 : Int) < (n3 : Int) := by omega
          have f2' : (60 : Int) < (m4 : Int) := by omega
          clear hb2
          go_wp2_with fail
          refine (told17 _).mono ?_
          rintro e w6 ⟨rfl, q_HB6⟩
          have HB6 := Lib.hid q_HB6
          clear q_HB6
          go_wp2_with fail
          refine bodyPost_ret (results_tmp rfl _ _ _) rfl ?_
          exact ⟨rfl, (HTW.out.then (Tr.of_below HTW.out.wf HB6.out)).below (fun _ _ h => h)⟩
    · have HEND : Hid (¬ ((j : Int) < (m : Int)) ∨ ((j : Int) < (m : Int) ∧ ¬ ((j : Int) < 40))) := by
        show _ ∨ _
        omega
      clear hlt
      rcases HEND.out with he | ⟨he, he2⟩
      all_goals
        clear HEND
        go_wp2_with fail
        refine (told17 _).mono ?_
        rintro e w6 ⟨rfl, q_HB6⟩
        have HB6 := Lib.hid q_HB6
        clear q_HB6
        go_wp2_with fail
        refine bodyPost_ret (results_tmp rfl _ _ _) rfl ?_
        exact ⟨rfl, (HT.out.then (Tr.of_below HT.out.wf HB6.out)).below (fun _ _ h => h)⟩
end Go.Proofs.Ytalihocoekplgaa
