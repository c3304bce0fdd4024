/- The law ClientPlays: its walk. -/
import Derived.Test.YtladpckbajnbeaaCliL
set_option linter.unusedVariables false
set_option linter.unusedSimpArgs false
namespace Go.Proofs.Ytladpckbajnbeaa
open Go.RowKit

theorem RHear_eq (w : World) (c : Col) (g : Nat) (f : Int) (L : List Ent) (T : List Rep) (N : Nat) (i : Nat) (v : Int) (B : Option Addr) (m cq : Nat) (l : List Rep) (L' : List Ent) (T' out : List Rep) (hq : refL f i ⟨L, T, []⟩ l = ⟨L', T', out⟩) (hv : v = (i : Int)) (hi : (i : Int) ≤ 3 * f) (hf0 : 0 ≤ f) (hf2 : f ≤ 2) (hN : N + m < 1000000) (hw : Wf c w)
    (hD : Rst w c g f L T N) (hx : Rd kRep w c B m cq l) :
    Calls Try.prog 34 #[.pointer (some ⟨g, 0, none⟩), .int .i64 v, .slice B m cq] w fun e w' => ∃ A cp, e = .returned (.slice A out.length cp) ∧ ∃ c', Rd kRep w' c' A out.length cp out ∧ Tr (· = g) c c' w w' ∧ Rst w' c' g f L' T' (N + m) := by
  subst hv
  refine (RHear_any w c g f L T N i B m cq l hi hf0 hf2 hN hw hD hx).mono ?_
  rintro e w' ⟨A, n, cp, rfl, c', hR, hT, hD'⟩
  rw [hq] at hR hD'
  have hn : n = out.length := hR.len.symm
  subst hn
  exact ⟨A, cp, rfl, c', hR, hT, hD'⟩
theorem Rst.start (w : World) (c : Col) (f : Int) : Rst (w.alloc (.cells #[.int .i64 f, .slice none 0 0, .slice none 0 0] 63)) (c.set w.heap.size w.heap.size) w.heap.size f [] [] 0 :=
  ⟨Col.set_same _ _ _, none, 0, 0, [], none, 0, 0, [], heap_alloc_new _ _, ⟨own_none5 _ _ _, fun k hk => by cases hk⟩, Reps.nil _ _ _, rfl, ⟨own_none5 _ _ _, fun k hk => by cases hk⟩, Reps.nil _ _ _, rfl, Nat.le_refl _, Nat.le_refl _⟩
theorem Rst.takenRd {w : World} {c : Col} {g : Nat} {f : Int} {L : List Ent} {T : List Rep} {N : Nat} (h : Rst w c g f L T N) : ∃ A n cp, w.cell? ⟨g, 2, none⟩ = some (.slice A n cp) ∧ ∃ cc : Col, (∀ k, c k = none → cc k = none) ∧ Rd kRep w cc A n cp T := by
  obtain ⟨hg, A, n, cp, cells, A', n', cp', cells', h1, h2, h3, h4, h5, h6, h7, h8, h9⟩ := h
  refine ⟨A', n', cp', blk_cell2 h1, ?_⟩
  cases A' with
  | none =>
    obtain ⟨A2, cp2, he, hR⟩ := h6.rd h5.1 h7 (fun j hj => by cases hj)
    cases he
    exact ⟨c, fun _ h => h, hR⟩
  | some ad =>
    obtain ⟨A2, cp2, he, hR⟩ := (h6.keep (c' := fun j => if j = ad.block then none else c j) (Kp.of_col w fun j hj hn => by split <;> simp_all)).rd h5.1 h7 (fun j hj => by cases hj; simp)
    cases he
    exact ⟨_, fun k hk => by split <;> simp_all, hR⟩
theorem sd_keep {c c' : Col} {w w' : World} {b i j : Nat} {u v : Value} (k : Kp c c' w w') (hb : b < w.heap.size) (hc : c b = none) (h : w.cell? ⟨b, i, none⟩ = some u ∧ w.cell? ⟨b, j, none⟩ = some v) : w'.cell? ⟨b, i, none⟩ = some u ∧ w'.cell? ⟨b, j, none⟩ = some v :=
  ⟨(k.cell hb hc).trans h.1, (k.cell hb hc).trans h.2⟩
theorem same_refl (l : List Rep) : all2 sameP l l = true := all2_refl (fun x => sameP_iff.2 rfl) l
theorem reps_ok {w : World} {c : Col} {A : Option Addr} {n cp : Nat} {l : List Rep} (h : Rd kRep w c A n cp l) : ∀ x ∈ l, x.ok := by
  intro x hx
  obtain ⟨j, hj⟩ := List.getElem?_of_mem hx
  have hlt := (List.getElem?_eq_some_iff.1 hj).1
  rw [h.len] at hlt
  obtain ⟨b, off, rfl⟩ := h.addr (by omega)
  obtain ⟨_, _, cs, ⟨A', n', cp', _, hR⟩, _⟩ := h.elem hj
  exact hR.oks
theorem same_taken {w : World} {c : Col} {g : Nat} {f : Int} {L : List Ent} {T : List Rep} {N : Nat} {A B : Option Addr} {m cq n cp : Nat} (h : Rst w c g f L T N) (hq : w.cell? ⟨g, 2, none⟩ = some (.slice B m cq)) (hr : Rd kRep w c A n cp T) :
    Calls Try.prog 33 #[.slice A n cp, .slice B m cq] w (BoolPost w true) := by
  obtain ⟨A', n', cp', h1, cc, h2, h3⟩ := h.takenRd
  rw [hq] at h1
  cases h1
  exact bool_eq (same_refl T) (r6SameReplies_any w cc A B n cp m cq T T (hr.kp (Kp.of_col w fun k _ hk => h2 k hk)) h3)
set_option maxRecDepth 100000 in
set_option maxHeartbeats 8000000 in
theorem ClientPlays_any (w : World) (f : Int) (B : Option Addr) (m cq : Nat) (l : List Sdr) (hx : Rd kSd w (fun _ => none) B m cq l) : Calls Try.prog 7 #[.int .i64 f, .slice B m cq] w (BoolPost w true) := by
  have hln := hx.1
  have hmm := hx.max
  have HX := Lib.hid hx
  have HLN := Lib.hid hln
  clear hx hln
  by_cases hf : 0 ≤ f ∧ f ≤ 2
  case neg =>
    have hf1 : f < 0 ∨ 2 < f := by omega
    have HN := Lib.hid (CNew_bad w f hf1)
    rcases hf1 with hf1 | hf1
    · clear hf
      go_enter Try.func7, Try.ntmps7
      go_wp2_with fail
      refine (HN.out).mono ?_
      rintro e w1 ⟨rfl, rfl⟩
      go_wp2_with fail
      refine (told19 w).mono ?_
      rintro e w2 ⟨rfl, q_HB2⟩
      have HB2 := Lib.hid q_HB2
      clear q_HB2
      go_wp2_with fail
      refine bodyPost_ret (results_tmp rfl _ _ _) rfl ?_
      exact ⟨rfl, HB2.out⟩
    · have hf3 : ¬ (f < 0) := by omega
      clear hf
      go_enter Try.func7, Try.ntmps7
      go_wp2_with fail
      refine (HN.out).mono ?_
      rintro e w1 ⟨rfl, rfl⟩
      go_wp2_with fail
      refine (told19 w).mono ?_
      rintro e w2 ⟨rfl, q_HB2⟩
      have HB2 := Lib.hid q_HB2
      clear q_HB2
      go_wp2_with fail
      refine bodyPost_ret (results_tmp rfl _ _ _) rfl ?_
      exact ⟨rfl, HB2.out⟩
  obtain ⟨hf0, hf2⟩ := hf
  obtain ⟨ff, rfl⟩ : ∃ ff : Nat, f = (ff : Int) := ⟨f.toNat, by omega⟩
  have hf3 : ¬ ((ff : Int) < 0) := by omega
  have hf4 : ¬ ((2 : Int) < (ff : Int)) := by omega
  go_enter Try.func7, Try.ntmps7
  go_wp2_with fail
  refine (CNew_ok w (fun _ => none) (ff : Int) (by omega) (by omega) (Wf.none w)).mono ?_
  rintro e w1 ⟨g, c1, rfl, q_HT1, hg, q_HD1⟩
  have HT1 := Lib.hid q_HT1
  have HD1 := Lib.hid q_HD1
  clear q_HT1 q_HD1
  have ht2 := (Tr.new HT1.out.wf (.cells #[.int .i64 (ff : Int), .slice none 0 0, .slice none 0 0] 63)).hot (k := w1.heap.size) (g := w1.heap.size) (Nat.le_refl _) (by simp) (by simp) (.inr (Nat.le_refl _))
  have HX2 := Lib.hid (Rst.start w1 c1 (ff : Int))
  have HT2 := Lib.hid (HT1.out.then ht2)
  have HD2 := Lib.hid (HD1.out.tr ht2 (fun h => h))
  have HR2 := Lib.hid (HX.out.tr HT2.out)
  have hgl := HD1.out.lt
  have hsz := HT1.out.size
  clear ht2
  go_wp2_with fail
  generalize w1.alloc (.cells #[.int .i64 (ff : Int), .slice none 0 0, .slice none 0 0] 63) = w2 at *
  generalize c1.set w1.heap.size w1.heap.size = c2 at *
  generalize hgx : w1.heap.size = gx at *
  have hgg : g ≠ gx := by omega
  have hgx0 : w.heap.size ≤ gx := by omega
  clear hgx
  go_loopw [8] (fun v wr => ∃ (k : Nat) (c' : Col) (S : Sd) (L : List Ent) (T : List Rep), v = .int .i64 (k : Int) ∧ k ≤ m ∧ k ≤ 60 ∧ Hid (Sim ff S L) ∧ Hid (∀ x ∈ T, mayP x = true) ∧ Hid (Tr (fun _ => False) (fun _ => none) c' w wr) ∧ Hid (Dsk wr c' g (ff : Int) S T (k * 10)) ∧ Hid (Rst wr c' gx (ff : Int) L T (k * 10)) ∧ Hid (Rd kSd wr c' B m cq l)) (fun v _ => 60 - (intOf v).toNat)
  case atStart => exact ⟨0, c2, fun _ => allF, [], [], rfl, by omega, by omega, Sim.start ff, (fun x hx => absurd hx (by simp)), HT2.out, HD2.out, HX2.out, HR2.out⟩
  case round =>
    obtain ⟨k, c', S, L, T, rfl, hk, hk60, HSIM, HMAY, HT, HD, HXS, HR⟩ := hrel
    by_cases hlt : k < m ∧ k < 60
    · obtain ⟨hlt, hl60⟩ := hlt
      have hk1 : (k : Int) < (m : Int) := by omega
      have hk2 : (k : Int) < 60 := by omega
      have hk0 : (0 : Int) ≤ (k : Int) := by omega
      obtain ⟨bb, off, rfl⟩ := HR.out.addr (by omega)
      obtain ⟨x, hxk⟩ : ∃ x, l[k]? = some x := ⟨_, List.getElem?_eq_getElem (by rw [HLN.out]; exact hlt)⟩
      obtain ⟨A3, m3, cq3, hR3, e0, e1⟩ := HR.out.sd hxk
      obtain ⟨hbb, hbn, _⟩ := HR.out.elem hxk
      obtain ⟨v, l3⟩ := x
      dsimp only at *
      have HR3 := Lib.hid hR3
      clear hR3
      clear hxk
      cases hfw : fewS l3 with
      | false =>
        have HFW := Lib.hid hfw
        clear hfw
        go_wp2_with fail
        refine (bool_eq HFW.out (l19few_any _ c' v A3 m3 cq3 l3 HR3.out)).mono ?_
        rintro e w3 ⟨rfl, q_HB3⟩
        have HB3 := Lib.hid q_HB3
        clear q_HB3
        go_wp2_with fail
        refine (told19 _).mono ?_
        rintro e w4 ⟨rfl, q_HB4⟩
        have HB4 := Lib.hid q_HB4
        clear q_HB4
        go_wp2_with fail
        refine bodyPost_ret (results_tmp rfl _ _ _) rfl ?_
        exact ⟨rfl, ((HT.out.then (Tr.of_below HT.out.wf HB3.out)).then (Tr.of_below (HT.out.wf.below HB3.out) HB4.out)).below (fun _ _ h => h)⟩
      | true =>
        have HFW := Lib.hid hfw
        have hm10 : m3 ≤ 10 := by
          rw [← HR3.out.len]
          unfold fewS at hfw
          simp only [Bool.and_eq_true, decide_eq_true_eq] at hfw
          exact hfw.1
        clear hfw
        go_wp2_with fail
        refine (bool_eq HFW.out (l19few_any _ c' v A3 m3 cq3 l3 HR3.out)).mono ?_
        rintro e w3 ⟨rfl, q_HB3⟩
        have HB3 := Lib.hid q_HB3
        clear q_HB3
        have ht3 := (Tr.of_below (M := fun _ => False) HT.out.wf HB3.out).drew
        have HT3 := Lib.hid ht3
        have HTW := Lib.hid (HT.out.then ht3)
        have HDW := Lib.hid (HD.out.tr ht3 (fun h => h))
        have HXW := Lib.hid (HXS.out.tr ht3 (fun h => h))
        have HRW := Lib.hid (HR.out.tr ht3)
        have HRR := Lib.hid (HR3.out.tr ht3)
        have hbb3 : bb < w3.drew.heap.size := Nat.lt_of_lt_of_le hbb ht3.size
        have hS3 := sd_keep ht3.kp hbb hbn ⟨e0, e1⟩
        clear ht3
        by_cases hvr : 0 ≤ v ∧ v ≤ 3 * (ff : Int)
        · obtain ⟨i, rfl⟩ : ∃ i : Nat, v = (i : Int) := ⟨v.toNat, by omega⟩
          have hi7 : i < 7 := by omega
          obtain ⟨S', L', T', out, hq1, hq2, hsim⟩ := HSIM.out.all (i := i) (T := T) (out := []) hi7 l3 (reps_ok HR3.out)
          have hmay2 := hearL_may (ff : Int) i l3 ⟨S, T, []⟩ HMAY.out
          rw [hq1] at hmay2
          have HQ1 := Lib.hid hq1
          have HQ2 := Lib.hid hq2
          have HSIM2 := Lib.hid hsim
          have HMAY2 := Lib.hid hmay2
          clear hq1 hq2 hsim hmay2
          have hxg : ¬ (gx = g) := fun e => hgg e.symm
          have hgw : w.heap.size ≤ g := hg
          go_wp2_with fail
          go_region_held3 (fun w' => w'.cell? ⟨bb, off + k * 2, none⟩ = some (.int .i64 (i : Int)) ∧ w'.cell? ⟨bb, off + k * 2 + 1, none⟩ = some (.slice A3 m3 cq3))
            (first | assumption | exact sd_keep kk10 hbb3 hbn hS3 | exact sd_keep kk9 hbb3 hbn hS3 | exact sd_keep kk8 hbb3 hbn hS3 | exact sd_keep kk7 hbb3 hbn hS3 | exact sd_keep kk6 hbb3 hbn hS3 | exact sd_keep kk5 hbb3 hbn hS3)
            (first
            | (go_at_call 34; refine (RHear_eq w5 c5 gx ff L T (k * 10) i i A3 m3 cq3 l3 _ _ _ HQ2.out rfl (by omega) (by omega) (by omega) (by omega) HT5.out.wf (HXW.out.tr HT5.out hxg) (HRR.out.tr HT5.out)).mono ?_; rintro e w6 ⟨B6, cp6, rfl, c6, hr6, ht6, hd6⟩; have HR6 := Lib.hid hr6; have HT6 := Lib.hid ht6; have HX6 := Lib.hid hd6; have kk6 := kk5.trans ht6.kp; clear hr6 ht6 hd6)
            | (go_at_call 29; refine (CHear_eq w7 c7 g ff S T (k * 10) i i A3 m3 cq3 l3 _ _ _ HQ1.out rfl (by omega) (by omega) (by omega) (by omega) HT7.out.wf (HDW.out.tr HT7.out hgg) (HRR.out.tr HT7.out)).mono ?_; rintro e w8 ⟨B8, cp8, rfl, c8, hr8, ht8, hd8⟩; have HR8 := Lib.hid hr8; have HT8 := Lib.hid ht8; have HD8 := Lib.hid hd8; have kk8 := kk7.trans ht8.kp; clear hr8 ht8 hd8)
            | (go_at_call 29; refine (CHear_eq w3.drew c' g ff S T (k * 10) i i A3 m3 cq3 l3 _ _ _ HQ1.out rfl (by omega) (by omega) (by omega) (by omega) HTW.out.wf HDW.out HRR.out).mono ?_; rintro e w5 ⟨B5, cp5, rfl, c5, hr5, ht5, hd5⟩; have HR5 := Lib.hid hr5; have HT5 := Lib.hid ht5; have HD5 := Lib.hid hd5; have kk5 := ht5.kp; clear hr5 ht5 hd5)
            | (go_at_call 34; refine (RHear_eq w3.drew c' gx ff L T (k * 10) i i A3 m3 cq3 l3 _ _ _ HQ2.out rfl (by omega) (by omega) (by omega) (by omega) HTW.out.wf HXW.out HRR.out).mono ?_; rintro e w7 ⟨B7, cp7, rfl, c7, hr7, ht7, hd7⟩; have HR7 := Lib.hid hr7; have HT7 := Lib.hid ht7; have HX7 := Lib.hid hd7; have kk7 := ht7.kp; clear hr7 ht7 hd7)
            | (go_at_call 33; refine (bool_eq (same_refl out) (r6SameReplies_any w6 c6 B5 B6 out.length cp5 out.length cp6 out out (HR5.out.tr HT6.out) HR6.out)).mono ?_; rintro e w9 ⟨rfl, hb9⟩; have HB9 := Lib.hid hb9; have kk9 := kk6.trans (Kp.of_below (c := c6) hb9); clear hb9)
            | (go_at_call 33; refine (bool_eq (same_refl out) (r6SameReplies_any w8 c8 B8 B7 out.length cp8 out.length cp7 out out HR8.out (HR7.out.tr HT8.out))).mono ?_; rintro e w10 ⟨rfl, hb10⟩; have HB10 := Lib.hid hb10; have kk10 := kk8.trans (Kp.of_below (c := c8) hb10); clear hb10))
          all_goals go_wp2_with fail
          · have hb := Tr.of_below (M := fun _ => False) HT6.out.wf HB9.out
            exact ⟨⟨k + 1, c6, S', L', T', by simp, by omega, by omega, HSIM2.out, HMAY2.out, ((HTW.out.low HT5.out hgw).low HT6.out hgx0).then hb, ((HD5.out.tr HT6.out hgg).tr hb (fun h => h)).mono (by omega), (HX6.out.tr hb (fun h => h)).mono (by omega), (((HRW.out.tr HT5.out).tr HT6.out).tr hb)⟩, by simp [intOf]; omega⟩
        · have hvo : v < 0 ∨ 3 * (ff : Int) < v := by omega
          have HVO := Lib.hid hvo
          clear hvo hvr
          go_wp2_with fail
          go_region_held3 (fun w' => w'.cell? ⟨bb, off + k * 2, none⟩ = some (.int .i64 v) ∧ w'.cell? ⟨bb, off + k * 2 + 1, none⟩ = some (.slice A3 m3 cq3))
            (first | assumption | exact sd_keep kk9 hbb3 hbn hS3)
            (first
            | (go_at_call 29; refine (CHear_off w3.drew c' g ff S T (k * 10) v A3 m3 cq3 (by omega) (by omega) HVO.out HDW.out).mono ?_; rintro e w5 ⟨rfl, rfl⟩)
            | (go_at_call 34; refine (RHear_off w3.drew c' gx ff L T (k * 10) v A3 m3 cq3 (by omega) (by omega) HVO.out HXW.out).mono ?_; rintro e w5 ⟨rfl, rfl⟩)
            | (go_at_call 33; refine (bool_eq (same_refl []) (r6SameReplies_any w3.drew c' none none 0 0 0 0 [] [] (Rd.nil _ _ _) (Rd.nil _ _ _))).mono ?_; rintro e w9 ⟨rfl, hb9⟩; have HB9 := Lib.hid hb9; have kk9 := Kp.of_below (c := c') hb9; clear hb9))
          all_goals go_wp2_with fail
          all_goals
            have hb := Tr.of_below (M := fun _ => False) HTW.out.wf HB9.out
            exact ⟨⟨k + 1, c', S, L, T, by simp, by omega, by omega, HSIM.out, HMAY.out, HTW.out.then hb, (HDW.out.tr hb (fun h => h)).mono (by omega), (HXW.out.tr hb (fun h => h)).mono (by omega), HRW.out.tr hb⟩, by simp [intOf]; omega⟩
    · have HEND : Hid (¬ ((k : Int) < (m : Int)) ∨ ((k : Int) < (m : Int) ∧ ¬ ((k : Int) < 60))) := by
        show _ ∨ _
        omega
      obtain ⟨A5, n5, cp5, q2, _⟩ := HXS.out.takenRd
      have hgxl := HXS.out.lt
      have hq2 := ((below_drew (Below.refl wr.heap.size wr)).cell (p := ⟨gx, 2, none⟩) hgxl).trans q2
      clear hlt
      rcases HEND.out with he | ⟨he, he2⟩
      all_goals
        clear HEND
        go_wp2_with fail
        go_region_held3 (fun w' => w'.cell? ⟨gx, 2, none⟩ = some (.slice A5 n5 cp5)) (first | assumption | exact kq8 | exact kq7 | exact kq6)
          (first
          | (go_at_call 30; refine (told19 _).mono ?_; rintro e w6 ⟨rfl, hb6⟩; have hbz := below_then (below_drew (Below.refl _ wr)) hb6; have HBZ := Lib.hid hbz; have kq6 := (hbz.cell (p := ⟨gx, 2, none⟩) hgxl).trans q2; have HTZ := Lib.hid (Tr.of_below (M := fun _ => False) HT.out.wf hbz); clear hb6 hbz)
          | (go_at_call 31; refine (CTaken_eq w6 c' g ff S T (k * 10) (by omega) HMAY.out HTZ.out.wf (HD.out.tr HTZ.out (fun h => h))).mono ?_; rintro e w7 ⟨A7, cp7, rfl, c7, hr7, ht7⟩; have HR7 := Lib.hid hr7; have HT7 := Lib.hid ht7; have HX7 := Lib.hid ((HXS.out.tr HTZ.out (fun h => h)).tr ht7 (fun h => h)); have kq7 : w7.cell? ⟨gx, 2, none⟩ = some (.slice A5 n5 cp5) := (World.cell?_of_block (a := ⟨gx, 2, none⟩) ((HTZ.out.then ht7).at_ HXS.out.1 (fun h => h)).2).trans q2; clear hr7 ht7)
          | (go_at_call 33; refine (same_taken HX7.out kq7 HR7.out).mono ?_; rintro e w8 ⟨rfl, hb8⟩; have HB8 := Lib.hid hb8; have kq8 := (hb8.cell (p := ⟨gx, 2, none⟩) (block_lt_of_cell kq7)).trans kq7; clear hb8))
        all_goals
          go_wp2_with fail
          refine bodyPost_ret (results_tmp rfl _ _ _) rfl ?_
          exact ⟨rfl, (((HT.out.then HTZ.out).then HT7.out).then (Tr.of_below HT7.out.wf HB8.out)).below (fun _ _ h => h)⟩
end Go.Proofs.Ytladpckbajnbeaa
