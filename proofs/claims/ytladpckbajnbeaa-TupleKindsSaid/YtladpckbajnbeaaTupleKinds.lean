/- TupleKinds: the walk. -/
import Derived.Test.YtladpckbajnbeaaTupleBack
import Derived.Deep.DeepCutAuto
set_option linter.unusedVariables false
set_option linter.unusedSimpArgs false
namespace Go.Proofs.Ytladpckbajnbeaa
open Go.RowKit

theorem rem_lit (x : Int) (n : Nat) (h0 : 1 ≤ n) (hm : n ≤ 1000) : ∃ m : Nat, wrap64 ((IntKind.u64.wrap x).tmod n) = (m : Int) ∧ m < n := rem_small x n h0 (by omega)
theorem rep_snoc {α : Type} (k : Nat) (x : α) : List.replicate (k + 1) x = List.replicate k x ++ [x] := by
  rw [List.replicate_succ', ]
theorem all_rep {α : Type} (f : α → Bool) (x : α) : ∀ n : Nat, 1 ≤ n → (List.replicate n x).all f = f x
  | 1, _ => by simp
  | n + 2, _ => by rw [List.replicate_succ, List.all_cons, all_rep f x (n + 1) (by omega), Bool.and_self]
theorem mayB_rep {n : Nat} {F : Fld} (h1 : 1 ≤ n) (h6 : n ≤ 6) : mayB (List.replicate n F) = plainB F := by
  unfold mayB
  rw [List.length_replicate, decide_eq_true h1, decide_eq_true h6, all_rep _ _ _ h1]
  rfl
theorem mayTB_rep {n : Nat} {F : Fld} (h1 : 1 ≤ n) (h6 : n ≤ 6) : mayTB (List.replicate n F) = askedB F := by
  unfold mayTB
  rw [List.length_replicate, decide_eq_true h1, decide_eq_true h6, all_rep _ _ _ h1]
  rfl
theorem mayB_rep0 {n : Nat} {F : Fld} (h : n = 0 ∨ 6 < n) : mayB (List.replicate n F) = false := by
  unfold mayB
  rw [List.length_replicate]
  rcases h with h | h
  · rw [decide_eq_false (p := 1 ≤ n) (by omega)]; rfl
  · rw [decide_eq_false (p := n ≤ 6) (by omega)]; simp
theorem mayTB_rep0 {n : Nat} {F : Fld} (h : n = 0 ∨ 6 < n) : mayTB (List.replicate n F) = false := by
  unfold mayTB
  rw [List.length_replicate]
  rcases h with h | h
  · rw [decide_eq_false (p := 1 ≤ n) (by omega)]; rfl
  · rw [decide_eq_false (p := n ≤ 6) (by omega)]; simp
theorem str_x (j : Nat) : (({ data := Array.replicate j (120 : UInt8) } : ByteArray) ++ { data := #[120] }) = ⟨(List.replicate (j + 1) (120 : UInt8)).toArray⟩ := by
  apply ByteArray.ext
  rw [ByteArray.data_append]
  simp [← Array.replicate_succ]
theorem cast_beq0 (j : Nat) : ((j : Int) == 0) = (j == 0) := by rw [Bool.eq_iff_iff]; simp
theorem plain_asked (F : Fld) (h : plainB F = true) : askedB F = true := by
  unfold askedB
  split
  · rename_i hk
    unfold plainB at h
    rw [if_neg (by omega), if_neg (by omega)] at h
    cases h
  · exact h
set_option maxRecDepth 100000 in
set_option maxHeartbeats 4000000 in
theorem TupleKinds_any (w : World) (kind n size many : Int) (hn : -9223372036854775808 ≤ n ∧ n ≤ 9223372036854775807) :
    Calls Try.prog 14 #[.int .i64 kind, .int .i64 n, .int .i64 size, .int .i64 many] w (BoolPost w true) := by
  obtain ⟨q0, hkl⟩ := small_mod kind 8 (by decide) (by decide)
  obtain ⟨k1, hk1⟩ := Int.eq_ofNat_of_zero_le q0
  obtain ⟨q1, hll⟩ := small_mod size 60 (by decide) (by decide)
  obtain ⟨l, hl⟩ := Int.eq_ofNat_of_zero_le q1
  obtain ⟨q2, hml⟩ := small_mod many 9 (by decide) (by decide)
  obtain ⟨m, hm⟩ := Int.eq_ofNat_of_zero_le q2
  rw [hk1] at hkl
  rw [hl] at hll
  rw [hm] at hml
  clear q0 q1 q2
  have hN1 := Int.tmod_lt_of_pos n (b := 3) (by decide)
  have hN2 := Int.lt_tmod_of_pos n (b := 3) (by decide)
  have hl60 : l < 60 := by omega
  have hm9 : m < 9 := by omega
  have hk8 : k1 < 8 := by omega
  clear hll hml hkl
  go_enter Try.func14, Try.ntmps14
  go_wp2_with fail
  rw [hl]
  have hT0 : Tr (fun _ => False) (fun _ => none) (Col.set (fun _ => none) w.heap.size w.heap.size) w (w.alloc (.cells #[.int .i64 ((k1 : Int) - 1), .int .i64 (n.tmod 3), .string ⟨#[]⟩] 54)) := (Tr.new (Wf_none w) _).hot (Nat.le_refl _) (by simp) (by simp) (.inr (Nat.le_refl _))
  have hL0 := Loc.new (fun _ => none) w 54 #[.int .i64 ((k1 : Int) - 1), .int .i64 (n.tmod 3), .string ⟨#[]⟩]
  generalize Col.set (fun _ => none) w.heap.size w.heap.size = c0 at hT0 hL0
  obtain ⟨kk, hkk⟩ : ∃ kk : Int, (k1 : Int) - 1 = kk := ⟨_, rfl⟩
  obtain ⟨nn, hnn⟩ : ∃ nn : Int, n.tmod 3 = nn := ⟨_, rfl⟩
  have hkk1 : -1 ≤ kk := by omega
  have hkk2 : kk ≤ 6 := by omega
  have hnn1 : -3 < nn := by omega
  have hnn2 : nn < 3 := by omega
  rw [hkk, hnn] at hT0 hL0 ⊢
  clear hkk hnn hk1 hk8 hN1 hN2 hl
  have HM := Lib.hid hm
  clear hm
  have HT0 := Lib.hid hT0
  have HL0 := Lib.hid hL0
  clear hT0 hL0
  go_loopw [12] (fun i wr => ∃ j : Nat, i = .int .i64 (j : Int) ∧ j ≤ l ∧ Hid (Tr (fun _ => False) (fun _ => none) c0 w wr) ∧ Hid (Loc wr c0 w.heap.size 54 #[.int .i64 kk, .int .i64 nn, .string ⟨(List.replicate j (120 : UInt8)).toArray⟩])) (fun i _ => l - (intOf i).toNat)
  case atStart => exact ⟨0, rfl, by omega, HT0.out, HL0.out⟩
  case round =>
    obtain ⟨j, rfl, hj, ht, hL⟩ := hrel
    by_cases hlt : j < l
    · have e2 := hL.out.cell 2
      have ef := hL.out.frozen 2
      have hst := (ht.out).setCell (p := ⟨w.heap.size, 2, none⟩) hL.out.1 (.inr (Nat.le_refl _)) (.string ⟨(List.replicate (j + 1) (120 : UInt8)).toArray⟩)
      have hL1 := hL.out.set_ 2 (.string ⟨(List.replicate (j + 1) (120 : UInt8)).toArray⟩)
      have hs := str_x j
      have HST := Lib.hid hst
      have HL1 := Lib.hid hL1
      clear hst hL1
      go_wp2_with fail
      exact ⟨⟨j + 1, by go_num, by omega, HST.out, HL1.out⟩, by simp [intOf]; omega⟩
    · obtain rfl : j = l := by omega
      go_wp2_with fail
      rw [HM.out]
      have hgl := hL.out.lt
      have hws := ht.out.size
      have HBW := Lib.hid (ht.out.below fun _ _ h => h)
      obtain ⟨w1, rfl⟩ : ∃ w1, w1 = wr := ⟨_, rfl⟩
      generalize hF : (⟨kk, nn, List.replicate j (120 : UInt8)⟩ : Fld) = F
      have hFok : F.ok := by rw [← hF]; exact ⟨by constructor <;> (dsimp only; omega), by constructor <;> (dsimp only; omega), by dsimp only; rw [List.length_replicate]; omega⟩
      go_loopw [14, 15] (fun o i w2 => ∃ (i' : Nat) (A : Option Addr) (cp : Nat), i = .int .i64 (i' : Int) ∧ o = .slice A i' cp ∧ i' ≤ m ∧ Hid (Below w1.heap.size w1 w2) ∧ Hid (w2.ownsRow w1.heap.size 54 3 (.slice A i' cp) i' ((List.replicate i' F).flatMap fCells))) (fun _ i _ => m - (intOf i).toNat)
      case atStart => exact ⟨0, none, 0, rfl, rfl, by omega, Below.refl _ _, World.ownsRow_nil _ _ _ _⟩
      case round =>
        obtain ⟨i', A, cp, rfl, rfl, hi', hbl, ho⟩ := hrel
        have e0 := (hbl.out.cell (p := ⟨w.heap.size, 0, none⟩) hgl).trans (hL.out.cell 0)
        have e1 := (hbl.out.cell (p := ⟨w.heap.size, 1, none⟩) hgl).trans (hL.out.cell 1)
        have e2 := (hbl.out.cell (p := ⟨w.heap.size, 2, none⟩) hgl).trans (hL.out.cell 2)
        have hbs := hbl.out.size
        by_cases hlt2 : i' < m
        · go_wp2_with (at_builtin; go_must (refine app_one_own (base := w1.heap.size) (.tmp 52) (.tmp 54) 50 54 (.agg #[.int .i64 0, .int .i64 0, .string ⟨#[]⟩]) 3 32 rfl rfl Try.underlying50 fld_info rfl (by decide) (by decide) ((List.replicate i' F).flatMap fCells) _ rfl rfl rfl (by intro u hu; simp at hu; rcases hu with rfl | rfl | rfl <;> rfl) hbs hbl.out ho.out (by omega) ?_; intro A2 cp2 w6 q_hb6 q_hown6 hs6; have HB6 := Lib.hid q_hb6; have HO6 := Lib.hid q_hown6; clear q_hb6 q_hown6))
          refine ⟨⟨i' + 1, A2, cp2, by go_num, rfl, by omega, HB6.out, ?_⟩, by simp [intOf]; omega⟩
          show World.ownsRow _ _ _ _ _ _ _
          have := HO6.out
          rw [List.replicate_succ', List.flatMap_append, List.flatMap_singleton, ← hF]
          rw [← hF] at this
          simpa [fCells] using this
        · obtain rfl : i' = m := by omega
          have hT : (List.replicate i' F).length = i' := List.length_replicate
          have HRD : Hid (∀ W, Below wr.heap.size wr W → Rd kFld W (fun _ => none) A i' cp (List.replicate i' F)) := by
            intro W hW
            obtain ⟨A', cp', he, hr⟩ := Rd.of_own (K := kFld) (c := fun _ => none) ho.out hT (fun _ _ => rfl) (fun j x hj => flds_rep (fun y hy => by rw [List.eq_of_mem_replicate hy]; exact hFok) j x hj)
            cases he
            exact hr.below hW
          have HBB := Lib.hid (HBW.out.trans (hbl.out.mono hws))
          have hok : ∀ x ∈ List.replicate i' F, x.ok := fun y hy => by rw [List.eq_of_mem_replicate hy]; exact hFok
          have hFk : F.kind = kk := by rw [← hF]
          have hFn : F.n = nn := by rw [← hF]
          have hFl : F.s.length = j := by rw [← hF]; exact List.length_replicate
          have hFe : F.s.isEmpty = (j == 0) := by rw [← hF]; cases j <;> rfl
          have HF := Lib.hid hF
          have HFK := Lib.hid hFk
          have HFN := Lib.hid hFn
          have HFL := Lib.hid hFl
          have HFE := Lib.hid hFe
          have HTT := Lib.hid hT
          clear hF hFk hFn hFl hFe hT
          obtain ⟨sm, hsm⟩ : ∃ sm : Bool, sm = (decide (1 ≤ i') && decide (i' ≤ 6)) := ⟨_, rfl⟩
          obtain ⟨pl, hpl⟩ : ∃ pl : Bool, pl = (sm && plainB F) := ⟨_, rfl⟩
          obtain ⟨op, hop⟩ : ∃ op : Bool, op = (sm && (askedB F && !plainB F)) := ⟨_, rfl⟩
          have hM1 : mayB (List.replicate i' F) = pl := by
            rw [hpl, hsm]
            by_cases h : i' = 0 ∨ 6 < i'
            · rw [mayB_rep0 h]; rcases h with h | h <;> simp [h]; omega
            · rw [mayB_rep (by omega) (by omega), decide_eq_true (by omega), decide_eq_true (by omega)]; rfl
          have hM2 : mayTB (List.replicate i' F) = (sm && askedB F) := by
            rw [hsm]
            by_cases h : i' = 0 ∨ 6 < i'
            · rw [mayTB_rep0 h]; rcases h with h | h <;> simp [h]; omega
            · rw [mayTB_rep (by omega) (by omega), decide_eq_true (by omega), decide_eq_true (by omega)]; rfl
          have hpa : plainB F = true → askedB F = true := plain_asked F
          have HSM := Lib.hid hsm
          have HPL := Lib.hid hpl
          have HOP := Lib.hid hop
          have HM1 := Lib.hid hM1
          have HM2 := Lib.hid hM2
          have HPA := Lib.hid hpa
          clear hsm hpl hop hM1 hM2 hpa
          go_upto_region 13 with fail
          go_cut [16] (fun a wx => a = .bool sm ∧ wx = wr)
          case first =>
            have hc : i' < 1 ∨ (1 ≤ i' ∧ 6 < i') ∨ (1 ≤ i' ∧ i' ≤ 6) := by omega
            rcases hc with h | ⟨h1, h⟩ | ⟨h1, h⟩
            · have hs : Hid (sm = false) := by show _ = _; rw [HSM.out, decide_eq_false (by omega)]; rfl
              go_wp2_with fail
              go_meet
              exact ⟨by first | (rw [hs.out]; done) | (rw [hs.out]; congr 1; simp; omega), rfl⟩
            · have hs : Hid (sm = false) := by show _ = _; rw [HSM.out, decide_eq_true h1, decide_eq_false (by omega)]; rfl
              go_wp2_with fail
              go_meet
              exact ⟨by first | (rw [hs.out]; done) | (rw [hs.out]; congr 1; simp; omega), rfl⟩
            · have hs : Hid (sm = true) := by show _ = _; rw [HSM.out, decide_eq_true h1, decide_eq_true h]; rfl
              go_wp2_with fail
              go_meet
              exact ⟨by first | (rw [hs.out]; done) | (rw [hs.out]; congr 1; simp; omega), rfl⟩
          case rest =>
          obtain ⟨rfl, rfl⟩ := hcut
          go_upto_region 14 with fail
          go_cut [17] (fun a wx => a = .bool pl ∧ wx = wc)
          case first =>
            cases sm with
            | false =>
              have hs : Hid (pl = false) := by show _ = _; rw [HPL.out]; rfl
              go_wp2_with fail
              go_meet
              exact ⟨by rw [hs.out], rfl⟩
            | true =>
              have hP : Hid (pl = plainB F) := by show _ = _; rw [HPL.out]; rfl
              by_cases c1 : kk = 1
              · have hb1 : (kk == 1) = true := by simp [c1]
                have hb2 : (kk == 2) = false := by simp [c1]
                by_cases cj : j = 0
                · have hv : Hid (pl = true) := by show _ = _; rw [hP.out]; unfold plainB; rw [HFK.out, HFE.out, if_pos c1, cj]; rfl
                  have hj0 : ((j : Int) == 0) = true := by simp [cj]
                  clear c1 cj
                  go_wp2_with fail
                  go_meet
                  exact ⟨by rw [hv.out], rfl⟩
                · have hv : Hid (pl = false) := by show _ = _; rw [hP.out]; unfold plainB; rw [HFK.out, HFE.out, if_pos c1]; simpa using cj
                  have hj0 : ((j : Int) == 0) = false := by simp [cj]
                  clear c1 cj
                  go_wp2_with fail
                  go_meet
                  exact ⟨by rw [hv.out], rfl⟩
              · have hb1 : (kk == 1) = false := by simp [c1]
                by_cases c2 : kk = 2
                · have hb2 : (kk == 2) = true := by simp [c2]
                  by_cases cn : nn = 0
                  · have hv : Hid (pl = decide (j ≤ 40)) := by show _ = _; rw [hP.out]; unfold plainB; rw [HFK.out, HFN.out, HFL.out, if_neg c1, if_pos c2, cn]; rfl
                    have hn0 : (nn == 0) = true := by simp [cn]
                    clear c1 c2 cn
                    go_wp2_with fail
                    go_meet
                    exact ⟨by rw [hv.out]; congr 1; simp; omega, rfl⟩
                  · have hv : Hid (pl = false) := by show _ = _; rw [hP.out]; unfold plainB; rw [HFK.out, HFN.out, if_neg c1, if_pos c2]; simp [cn]
                    have hn0 : (nn == 0) = false := by simp [cn]
                    clear c1 c2 cn
                    go_wp2_with fail
                    go_meet
                    exact ⟨by rw [hv.out], rfl⟩
                · have hb2 : (kk == 2) = false := by simp [c2]
                  have hv : Hid (pl = false) := by show _ = _; rw [hP.out]; unfold plainB; rw [HFK.out, if_neg c1, if_neg c2]
                  clear c1 c2
                  go_wp2_with fail
                  go_meet
                  exact ⟨by rw [hv.out], rfl⟩
          case rest =>
          obtain ⟨rfl, rfl⟩ := hcut
          go_upto_region 15 with fail
          go_cut [18] (fun a wx => a = .bool op ∧ wx = wc)
          case first =>
            cases sm with
            | false =>
              have hs : Hid (op = false) := by show _ = _; rw [HOP.out]; rfl
              go_wp2_with fail
              go_meet
              exact ⟨by rw [hs.out], rfl⟩
            | true =>
              have hP : Hid (op = (askedB F && !plainB F)) := by show _ = _; rw [HOP.out]; rfl
              have hcs : kk = 3 ∨ (kk ≠ 3 ∧ kk = 4) ∨ (kk ≠ 3 ∧ kk ≠ 4 ∧ kk = 5) ∨ (kk ≠ 3 ∧ kk ≠ 4 ∧ kk ≠ 5) := by omega
              rcases hcs with c | ⟨c3, c⟩ | ⟨c3, c4, c⟩ | ⟨c3, c4, c5⟩
              · have hpf : Hid (plainB F = false) := by show _ = _; unfold plainB; rw [HFK.out, if_neg (by omega), if_neg (by omega)]
                have hb3 : (kk == 3) = true := by simp; omega
                have hq : Hid (op = (nn == 0 && j == 0)) := by show _ = _; rw [hP.out, hpf.out]; unfold askedB; rw [HFK.out, HFN.out, HFE.out, if_pos (by omega)]; simp
                clear c
                by_cases cn : nn = 0
                · have hn0 : (nn == 0) = true := by simp [cn]
                  have hv : Hid (op = (j == 0)) := by show _ = _; rw [hq.out, hn0]; rfl
                  clear cn
                  go_wp2_with fail
                  go_meet
                  exact ⟨by rw [hv.out, cast_beq0], rfl⟩
                · have hn0 : (nn == 0) = false := by simp [cn]
                  have hv : Hid (op = false) := by show _ = _; rw [hq.out, hn0]; rfl
                  clear cn
                  go_wp2_with fail
                  go_meet
                  exact ⟨by rw [hv.out], rfl⟩
              · have hpf : Hid (plainB F = false) := by show _ = _; unfold plainB; rw [HFK.out, if_neg (by omega), if_neg (by omega)]
                have hb3 : (kk == 3) = false := by simp; omega
                have hb4 : (kk == 4) = true := by simp; omega
                have hq : Hid (op = (nn == 0 && j == 0)) := by show _ = _; rw [hP.out, hpf.out]; unfold askedB; rw [HFK.out, HFN.out, HFE.out, if_pos (by omega)]; simp
                clear c c3
                by_cases cn : nn = 0
                · have hn0 : (nn == 0) = true := by simp [cn]
                  have hv : Hid (op = (j == 0)) := by show _ = _; rw [hq.out, hn0]; rfl
                  clear cn
                  go_wp2_with fail
                  go_meet
                  exact ⟨by rw [hv.out, cast_beq0], rfl⟩
                · have hn0 : (nn == 0) = false := by simp [cn]
                  have hv : Hid (op = false) := by show _ = _; rw [hq.out, hn0]; rfl
                  clear cn
                  go_wp2_with fail
                  go_meet
                  exact ⟨by rw [hv.out], rfl⟩
              · have hpf : Hid (plainB F = false) := by show _ = _; unfold plainB; rw [HFK.out, if_neg (by omega), if_neg (by omega)]
                have hb3 : (kk == 3) = false := by simp; omega
                have hb4 : (kk == 4) = false := by simp; omega
                have hb5 : (kk == 5) = true := by simp; omega
                have hq : Hid (op = (nn == 0 && j == 0)) := by show _ = _; rw [hP.out, hpf.out]; unfold askedB; rw [HFK.out, HFN.out, HFE.out, if_pos (by omega)]; simp
                clear c c3 c4
                by_cases cn : nn = 0
                · have hn0 : (nn == 0) = true := by simp [cn]
                  have hv : Hid (op = (j == 0)) := by show _ = _; rw [hq.out, hn0]; rfl
                  clear cn
                  go_wp2_with fail
                  go_meet
                  exact ⟨by rw [hv.out, cast_beq0], rfl⟩
                · have hn0 : (nn == 0) = false := by simp [cn]
                  have hv : Hid (op = false) := by show _ = _; rw [hq.out, hn0]; rfl
                  clear cn
                  go_wp2_with fail
                  go_meet
                  exact ⟨by rw [hv.out], rfl⟩
              · have hb3 : (kk == 3) = false := by simp; omega
                have hb4 : (kk == 4) = false := by simp; omega
                have hb5 : (kk == 5) = false := by simp; omega
                have hv : Hid (op = false) := by show _ = _; rw [hP.out]; unfold askedB; rw [HFK.out, if_neg (by omega)]; cases plainB F <;> rfl
                clear c3 c4 c5
                go_wp2_with fail
                go_meet
                exact ⟨by rw [hv.out], rfl⟩
          case rest =>
          obtain ⟨rfl, rfl⟩ := hcut
          have HT : Hid (mayTB (List.replicate i' F) = (pl || op)) := by
            show _ = _
            rw [HM2.out, HPL.out, HOP.out]
            have := HPA.out
            cases sm <;> cases h1 : plainB F <;> cases h2 : askedB F <;> simp_all
          cases hr : (pl || op) with
          | false =>
            rw [hr] at HT
            obtain ⟨rfl, rfl⟩ : pl = false ∧ op = false := by simpa using hr
            clear hr
            go_wp2_with fail
            refine (TPut_no wc (fun _ => none) A i' cp _ HT.out (Wf_none _) (HRD.out wc (Below.refl _ _))).mono ?_
            rintro e w3 ⟨rfl, q_HB3⟩
            have HB3 := Lib.hid q_HB3
            clear q_HB3
            go_wp2_with fail
            refine (told6 w3).mono ?_
            rintro e w4 ⟨rfl, q_HB4⟩
            have HB4 := Lib.hid q_HB4
            clear q_HB4
            have HBB4 := Lib.hid (below_then HB3.out HB4.out)
            go_wp2_with fail
            refine (bool_eq HM1.out (May_any w4 (fun _ => none) A i' cp _ (HRD.out w4 HBB4.out))).mono ?_
            rintro e w5 ⟨rfl, q_HB5⟩
            have HB5 := Lib.hid q_HB5
            clear q_HB5
            have HBB5 := Lib.hid (below_then HBB4.out HB5.out)
            go_wp2_with fail
            refine (bool_eq HT.out (MayT_any w5 (fun _ => none) A i' cp _ (HRD.out w5 HBB5.out))).mono ?_
            rintro e w6 ⟨rfl, q_HB6⟩
            have HB6 := Lib.hid q_HB6
            clear q_HB6
            go_wp2_with fail
            go_ret
            exact ⟨rfl, HBB.out.trans ((below_then HBB5.out HB6.out).mono (by have := HBB.out.size; omega))⟩
          | true =>
            rw [hr] at HT
            have hor := hr
            clear hr
            go_wp2_with fail
            refine (TPut_yes wc (fun _ => none) A i' cp _ HT.out (Wf_none _) (HRD.out wc (Below.refl _ _))).mono ?_
            rintro e w3 ⟨A3, n3, cp3, rfl, q_HO3, q_HB3⟩
            have HO3 := Lib.hid q_HO3
            have HB3 := Lib.hid q_HB3
            clear q_HO3 q_HB3
            have hn31 : 1 ≤ n3 := by have := own_len HO3.out; have := (tupB_len HT.out).1; omega
            have hd3 : decide (0 < n3) = true := by simp; omega
            go_wp2_with fail
            refine (told6 w3).mono ?_
            rintro e w4 ⟨rfl, q_HB4⟩
            have HB4 := Lib.hid q_HB4
            clear q_HB4
            have HBB4 := Lib.hid (below_then HB3.out HB4.out)
            cases pl with
            | true =>
              go_wp2_with fail
              refine (bool_eq HM1.out (May_any w4 (fun _ => none) A i' cp _ (HRD.out w4 HBB4.out))).mono ?_
              rintro e w5 ⟨rfl, q_HB5⟩
              have HB5 := Lib.hid q_HB5
              clear q_HB5
              have HBB5 := Lib.hid (below_then HBB4.out HB5.out)
              go_wp2_with fail
              refine (bool_eq HT.out (MayT_any w5 (fun _ => none) A i' cp _ (HRD.out w5 HBB5.out))).mono ?_
              rintro e w6 ⟨rfl, q_HB6⟩
              have HB6 := Lib.hid q_HB6
              clear q_HB6
              go_wp2_with fail
              go_ret
              exact ⟨rfl, HBB.out.trans ((below_then HBB5.out HB6.out).mono (by have := HBB.out.size; omega))⟩
            | false =>
              obtain rfl : op = true := by simpa using hor
              clear hor
              go_wp2_with fail
              refine (bool_eq HM1.out (May_any w4 (fun _ => none) A i' cp _ (HRD.out w4 HBB4.out))).mono ?_
              rintro e w5 ⟨rfl, q_HB5⟩
              have HB5 := Lib.hid q_HB5
              clear q_HB5
              have HBB5 := Lib.hid (below_then HBB4.out HB5.out)
              go_wp2_with fail
              refine (bool_eq HT.out (MayT_any w5 (fun _ => none) A i' cp _ (HRD.out w5 HBB5.out))).mono ?_
              rintro e w6 ⟨rfl, q_HB6⟩
              have HB6 := Lib.hid q_HB6
              clear q_HB6
              go_wp2_with fail
              go_ret
              exact ⟨rfl, HBB.out.trans ((below_then HBB5.out HB6.out).mono (by have := HBB.out.size; omega))⟩
end Go.Proofs.Ytladpckbajnbeaa
