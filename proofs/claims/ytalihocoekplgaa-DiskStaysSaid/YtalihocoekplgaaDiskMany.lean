/- The law DiskMany: its walk. -/
import Derived.Test.YtalihocoekplgaaDiskTorn
import Derived.Test.YtalihocoekplgaaOpenD
import Derived.Deep.DeepCutAuto
set_option linter.unusedVariables false
set_option linter.unusedSimpArgs false
namespace Go.Proofs.Ytalihocoekplgaa
open Go.RowKit

def rep64 (v : UInt8) : List UInt8 := List.replicate 64 v
theorem rep64_len (v : UInt8) : (rep64 v).length = 64 := by simp [rep64]
theorem Dk.setOther {w : World} {c : Col} {g n : Nat} {Y : List (List UInt8)} {D : Dt} {N : Nat} (h : Dk w c g n Y D N) {b : Nat} (hb : c b ≠ some g) (i : Nat) (u : Value) : Dk (w.setCell ⟨b, i, none⟩ u) c g n Y D N := by
  obtain ⟨hg, A, cp, m, h1, h2, h3, h4, h5⟩ := h
  have ho : ∀ k, c k = some g → (w.setCell ⟨b, i, none⟩ u).heap[k]? = w.heap[k]? := fun k hk => heap_of_setCell _ _ _ _ (by intro e; rw [show k = b from e] at hk; exact hb hk)
  exact ⟨hg, A, cp, m, by rw [ho g hg]; exact h1, h2, h3.same (ho m h2), ⟨own_same h4.1 (fun k hk => ho k (h4.2 k hk)), h4.2⟩, h5⟩
theorem mcut_zero : mcut 0 = 0 := rfl
/-- A crash that keeps the one sector that was written. -/
theorem crash_keep {Y : List (List UInt8)} {k : Nat} {s : List UInt8} (hk : k < Y.length) : crashY Y (Dt.put (fun _ => none) (k : Int) s) [(k : Int)] (-1) 0 = Y.set k s := by
  apply List.ext_getElem?
  intro i
  rw [crashY_get]
  by_cases e : k = i
  · subst e
    rw [List.getElem?_set_self hk, List.getElem?_eq_getElem hk]
    simp [crashV, Dt.put, crash1]
  · rw [List.getElem?_set_ne e]
    have : ¬ (i : Int) = (k : Int) := by omega
    simp [crashV, Dt.put, this]
theorem crash_lose {Y : List (List UInt8)} {k : Nat} {s : List UInt8} : crashY Y (Dt.put (fun _ => none) (k : Int) s) [] (-1) 0 = Y := by
  apply List.ext_getElem?
  intro i
  rw [crashY_get]
  cases hy : Y[i]? with
  | none => rfl
  | some y =>
    by_cases e : k = i
    · subst e
      have : ¬ (k : Int) = -1 := by omega
      simp [crashV, Dt.put, crash1, this]
    · have : ¬ (i : Int) = (k : Int) := by omega
      simp [crashV, Dt.put, this]
theorem bcells_set (l : List UInt8) (k : Nat) (v : UInt8) : (bcells l).toArray.setIfInBounds k (.int .u8 (v.toNat : Int)) = (bcells (l.set k v)).toArray := by
  rw [List.setIfInBounds_toArray]
  congr 1
  unfold bcells
  rw [List.map_set]
set_option maxRecDepth 100000 in
set_option maxHeartbeats 4000000 in
theorem DiskMany_any (w : World) (A0 : Option Addr) (n0 cp0 : Nat) (at_ : List Int) (A1 : Option Addr) (n1 cp1 : Nat) (ch : List UInt8) (A2 : Option Addr) (n2 cp2 : Nat) (keep : List Bool)
    (h0 : Rd kInt w (fun _ => none) A0 n0 cp0 at_) (h1 : Rd kU8 w (fun _ => none) A1 n1 cp1 ch) (h2 : Rd kBool w (fun _ => none) A2 n2 cp2 keep) :
    Calls Try.prog 3 #[.slice A0 n0 cp0, .slice A1 n1 cp1, .slice A2 n2 cp2] w (BoolPost w true) := by
  have hmk := fun W => make64 W .i64 .i64
  have hl0 := h0.len
  have hl1 := h1.len
  have hl2 := h2.len
  have hm0 := h0.max
  have hm1 := h1.max
  have hm2 := h2.max
  have H0 := Lib.hid h0
  have H1 := Lib.hid h1
  have H2 := Lib.hid h2
  have HL0 := Lib.hid hl0
  have HL1 := Lib.hid hl1
  have HL2 := Lib.hid hl2
  clear h0 h1 h2 hl0 hl1 hl2
  go_enter Try.func3, Try.ntmps3
  go_wp2_with fail
  refine (KNew_ok w (fun _ => none) 8 (by omega) (Wf.none w)).mono ?_
  rintro e w1 ⟨g, c1, rfl, q_HT1, hg, q_HD1⟩
  have HT1 := Lib.hid q_HT1
  have HD1 := Lib.hid q_HD1
  clear q_HT1 q_HD1
  have hs1 : w.heap.size ≤ w1.heap.size := HT1.out.size
  have hlo := Loc.new c1 w1 28 #[.int .u8 0, .int .u8 0, .int .u8 0, .int .u8 0, .int .u8 0, .int .u8 0, .int .u8 0, .int .u8 0]
  have ht2 := (Tr.new HT1.out.wf (.cells #[.int .u8 0, .int .u8 0, .int .u8 0, .int .u8 0, .int .u8 0, .int .u8 0, .int .u8 0, .int .u8 0] 28)).hot (k := w1.heap.size) (g := w1.heap.size) (Nat.le_refl _) (by simp) (by simp) (.inr (Nat.le_refl _))
  have HLO := Lib.hid hlo
  have HD2 := Lib.hid (HD1.out.tr ht2 (fun h => h))
  have HT2 := Lib.hid (HT1.out.then ht2)
  have hgl := HD1.out.lt
  clear hlo ht2
  go_wp2_with fail
  generalize w1.alloc (.cells #[.int .u8 0, .int .u8 0, .int .u8 0, .int .u8 0, .int .u8 0, .int .u8 0, .int .u8 0, .int .u8 0] 28) = W2 at *
  generalize hc2 : c1.set w1.heap.size w1.heap.size = c2 at *
  generalize hbb : w1.heap.size = bi at *
  have hgb : ¬ (g = bi) := by omega
  have hbg : ¬ (bi = g) := by omega
  clear hc2 hbb HT1 HD1
  go_loopw [10] (fun i wr => ∃ (j : Nat) (c' : Col) (is : List UInt8), i = .int .i64 (j : Int) ∧ j ≤ 20 ∧ Hid (Tr (fun _ => False) (fun _ => none) c' w wr) ∧ Hid (Dk wr c' g 8 (is.map rep64) (fun _ => none) 0) ∧ Hid (Loc wr c' bi 28 (bcells is).toArray) ∧ Hid (is.length = 8)) (fun i _ => 20 - (intOf i).toNat)
  case atStart => exact ⟨0, c2, List.replicate 8 0, rfl, by omega, HT2, HD2, HLO, rfl⟩
  case round =>
    obtain ⟨j, c', is, rfl, hj, HT, HD, HI, HL⟩ := hrel
    obtain ⟨lt, hlt⟩ : ∃ lt : Bool, (decide (j < n0) && decide (j < n1) && decide (j < n2) && decide (j < 20)) = lt := ⟨_, rfl⟩
    have HLT := Lib.hid hlt
    clear hlt
    go_upto_region 6 with fail
    go_cut [49] (fun a wx => a = .bool lt ∧ wx = wr)
    case first =>
      by_cases e0 : j < n0
      · by_cases e1 : j < n1
        · by_cases e2 : j < n2
          · by_cases e3 : j < 20
            · have hs : Hid (lt = true) := by show _ = _; rw [← HLT.out]; simp [e0, e1, e2, e3]
              go_wp2_with fail
              go_meet
              exact ⟨by first | (rw [hs.out]; done) | (rw [hs.out]; congr 1; simp; omega), rfl⟩
            · have hs : Hid (lt = false) := by show _ = _; rw [← HLT.out]; simp [e0, e1, e2, e3]
              go_wp2_with fail
              go_meet
              exact ⟨by first | (rw [hs.out]; done) | (rw [hs.out]; congr 1; simp; omega), rfl⟩
          · have hs : Hid (lt = false) := by show _ = _; rw [← HLT.out]; simp [e0, e1, e2]
            go_wp2_with fail
            go_meet
            exact ⟨by first | (rw [hs.out]; done) | (rw [hs.out]; congr 1; simp; omega), rfl⟩
        · have hs : Hid (lt = false) := by show _ = _; rw [← HLT.out]; simp [e0, e1]
          go_wp2_with fail
          go_meet
          exact ⟨by first | (rw [hs.out]; done) | (rw [hs.out]; congr 1; simp; omega), rfl⟩
      · have hs : Hid (lt = false) := by show _ = _; rw [← HLT.out]; simp [e0]
        go_wp2_with fail
        go_meet
        exact ⟨by first | (rw [hs.out]; done) | (rw [hs.out]; congr 1; simp; omega), rfl⟩
    case rest =>
      obtain ⟨rfl, rfl⟩ := hcut
      cases lt with
      | true =>
        have hall : j < n0 ∧ j < n1 ∧ j < n2 ∧ j < 20 := by have := HLT.out; simpa [and_assoc] using this
        obtain ⟨hj0, hj1, hj2, hj20⟩ := hall
        obtain ⟨x, hx⟩ : ∃ x, at_[j]? = some x := ⟨_, List.getElem?_eq_getElem (by have := HL0.out; omega)⟩
        obtain ⟨v, hv⟩ : ∃ v, ch[j]? = some v := ⟨_, List.getElem?_eq_getElem (by have := HL1.out; omega)⟩
        obtain ⟨kb, hkb⟩ : ∃ kb, keep[j]? = some kb := ⟨_, List.getElem?_eq_getElem (by have := HL2.out; omega)⟩
        obtain ⟨b0, o0, rfl⟩ := H0.out.addr (by omega)
        obtain ⟨b1, o1, rfl⟩ := H1.out.addr (by omega)
        obtain ⟨b2, o2, rfl⟩ := H2.out.addr (by omega)
        have hc0 := (H0.out.tr HT.out).int hx
        obtain ⟨k, hk, hk8⟩ := remS x 8 (by omega) (by omega)
        simp at hk
        have HX := Lib.hid hx
        have HV := Lib.hid hv
        have HKB := Lib.hid hkb
        clear hx hv hkb
        go_wp2_with fail
        have hTm := (Tr.refl (fun _ => False) HT.out.wf).alloc (.cells (fillA 0 v) 5)
        have hhm := heap_alloc_new wc (.cells (fillA 0 v) 5)
        have hzz : fillA 0 v = fillA 0 0 := rfl
        rw [hzz] at hTm hhm
        generalize wc.alloc (.cells (fillA 0 0) 5) = W3 at *
        rw [← hzz] at hhm
        generalize hbx : wc.heap.size = bx at *
        have HBX := Lib.hid hbx
        have HTM := Lib.hid hTm
        have HHM := Lib.hid hhm
        clear hbx hTm hhm hzz
        go_loopw [13] (fun i wx => ∃ t : Nat, i = .int .i64 (t : Int) ∧ t ≤ 64 ∧ Hid (Tr (fun _ => False) c' c' wc wx) ∧ Hid (wx.heap[bx]? = some (.cells (fillA t v) 5))) (fun i _ => 64 - (intOf i).toNat)
        case atStart => exact ⟨0, rfl, by omega, HTM, HHM⟩
        case round =>
          obtain ⟨t, rfl, ht, HTx, HXx⟩ := hrel
          rcases Nat.lt_or_ge t 64 with htl | htg
          · obtain ⟨ux, hux⟩ := fillA_cell HXx.out ht htl
            have hfx := blk_free HXx.out t
            have hc1 := ((H1.out.tr HT.out).tr HTx.out).byte (k := j) (by omega)
            rw [HV.out] at hc1
            have hc1' : wr.cell? ⟨b1, o1 + j, none⟩ = some (.int .u8 (v.toNat : Int)) := hc1
            clear hc1
            go_wp2_with fail
            refine ⟨⟨t + 1, by go_num, by omega, HTx.out.newset (by have := HBX.out; omega) t _, ?_⟩, by simp [intOf]; omega⟩
            show _ = _
            rw [blk_set HXx.out, fillA_set htl]
          · obtain rfl : t = 64 := by omega
            have hx3 := HXx.out
            unfold fillA at hx3
            rw [fillL_full] at hx3
            have hbx0 : c' bx = none := HT.out.wf.fresh (by have := HBX.out; omega)
            have HRX : Hid (Rd kU8 wr c' (some ⟨bx, 0, none⟩) 64 64 (rep64 v)) := by
              have h := Rd.blk (c := c') hx3 hbx0 (by simp)
              rw [List.length_replicate] at h
              exact h
            have HDx := Lib.hid (HD.out.tr HTx.out (fun h => h))
            have HIx := Lib.hid (HI.out.tr HTx.out (fun h => h))
            have HTw := Lib.hid (HT.out.then HTx.out)
            clear hx3 hbx0
            go_wp2_with fail
            refine (KWrite_ok wr c' g 8 _ _ 0 k _ 64 64 (rep64 v) hk8 (by omega) (by omega) HTw.out.wf HDx.out HRX.out).mono ?_
            rintro e w4 ⟨rfl, c4, q_HT4, q_HD4⟩
            have HT4 := Lib.hid q_HT4
            have HD4 := Lib.hid q_HD4
            clear q_HT4 q_HD4
            have HTw4 := Lib.hid (HTw.out.low HT4.out (by omega))
            have HI4 := Lib.hid (HIx.out.tr HT4.out hbg)
            have hc2 := (((H2.out.tr HT.out).tr HTx.out).tr HT4.out).boolAt HKB.out
            cases kb with
            | true =>
              have hcv := (((H1.out.tr HT.out).tr HTx.out).tr HT4.out).byte (k := j) (by omega)
              rw [HV.out] at hcv
              have hcv' : w4.cell? ⟨b1, o1 + j, none⟩ = some (.int .u8 (v.toNat : Int)) := hcv
              have hTn := Tr.new HTw4.out.wf (.cells #[.int .i64 (k : Int)] 3)
              have hcv5 : (w4.alloc (.cells #[.int .i64 (k : Int)] 3)).cell? ⟨b1, o1 + j, none⟩ = some (.int .u8 (v.toNat : Int)) := ((below_alloc w4 _).cell (p := ⟨b1, o1 + j, none⟩) (block_lt_of_cell hcv')).trans hcv'
              have HI5 := Lib.hid (HI4.out.tr hTn (fun h => h))
              obtain ⟨ui, hui⟩ : ∃ ui, (w4.alloc (.cells #[.int .i64 (k : Int)] 3)).cell? ⟨bi, k, none⟩ = some ui := by
                rw [HI5.out.cell]
                exact ⟨_, Array.getElem?_eq_getElem (by simp [bcells_length, HL.out]; exact hk8)⟩
              have hfi := HI5.out.frozen k
              have hT5 : Tr (· = bi) c4 c4 w4 ((w4.alloc (.cells #[.int .i64 (k : Int)] 3)).setCell ⟨bi, k, none⟩ (.int .u8 (v.toNat : Int))) := (hTn.mono (M' := (· = bi)) (fun _ _ h => h.elim)).setCell (p := ⟨bi, k, none⟩) HI5.out.1 (.inl rfl) _
              have HT5 := Lib.hid hT5
              have HT6 := Lib.hid (HTw4.out.low hT5 (by omega))
              have HD6 := Lib.hid (HD4.out.tr hT5 hgb)
              have HK6 : Hid (Rd kInt ((w4.alloc (.cells #[.int .i64 (k : Int)] 3)).setCell ⟨bi, k, none⟩ (.int .u8 (v.toNat : Int))) c4 (some ⟨w4.heap.size, 0, none⟩) 1 1 [(k : Int)]) := by
                have h := Rd.of_alloc2 (K := kInt) (l := [(k : Int)]) HTw4.out.wf 3 (reps_int w4 c4 [(k : Int)]) (by simp)
                exact h.tr ((Tr.refl (· = bi) hTn.wf).setCell (p := ⟨bi, k, none⟩) HI5.out.1 (.inl rfl) _)
              have HI6 := Lib.hid (HI5.out.set_ k (.int .u8 (v.toNat : Int)))
              clear hcv hcv' hTn hT5
              go_wp2_with fail
              refine (KCrash_any _ c4 g 8 _ _ _ _ 1 1 [(k : Int)] (-1) 0 (by omega) HT6.out.wf HD6.out HK6.out).mono ?_
              rintro e w7 ⟨rfl, c7, q_HT7, q_HD7⟩
              have HT7 := Lib.hid q_HT7
              have HD7 := Lib.hid q_HD7
              clear q_HT7 q_HD7
              go_wp2_with fail
              have hd7 := HD7.out
              rw [mcut_zero, crash_keep (by rw [List.length_map, HL.out]; exact hk8), pad_full (rep64_len v), ← List.map_set] at hd7
              have hi7 := HI6.out.tr HT7.out hbg
              rw [bcells_set] at hi7
              refine ⟨⟨j + 1, c7, is.set k v, by go_num, by omega, HT6.out.low HT7.out (by omega), hd7, hi7, ?_⟩, by simp [intOf]; omega⟩
              show _ = _
              rw [List.length_set]
              exact HL.out
            | false =>
              go_wp2_with fail
              refine (KCrash_any w4 c4 g 8 _ _ _ none 0 0 [] (-1) 0 (by omega) HTw4.out.wf HD4.out (Rd.nil _ _ _)).mono ?_
              rintro e w7 ⟨rfl, c7, q_HT7, q_HD7⟩
              have HT7 := Lib.hid q_HT7
              have HD7 := Lib.hid q_HD7
              clear q_HT7 q_HD7
              go_wp2_with fail
              have hd7 := HD7.out
              rw [mcut_zero, crash_lose] at hd7
              exact ⟨⟨j + 1, c7, is, by go_num, by omega, HTw4.out.low HT7.out (by omega), hd7, HI4.out.tr HT7.out hbg, HL.out⟩, by simp [intOf]; omega⟩
      | false =>
        go_wp2_with fail
        go_loopw [15] (fun i wz => ∃ t : Nat, i = .int .i64 (t : Int) ∧ t ≤ 8 ∧ Hid (Tr (fun _ => False) c' c' wc wz)) (fun i _ => 8 - (intOf i).toNat)
        case atStart => exact ⟨0, rfl, by omega, Tr.refl _ HT.out.wf⟩
        case round =>
          obtain ⟨t, rfl, ht, HTz⟩ := hrel
          have HTwz := Lib.hid (HT.out.then HTz.out)
          have HDz := Lib.hid (HD.out.tr HTz.out (fun h => h))
          have HIz := Lib.hid (HI.out.tr HTz.out (fun h => h))
          rcases Nat.lt_or_ge t 8 with htl | htg
          · obtain ⟨v, hv⟩ : ∃ v, is[t]? = some v := ⟨_, List.getElem?_eq_getElem (by rw [HL.out]; exact htl)⟩
            have hy : (is.map rep64)[t]? = some (rep64 v) := by rw [List.getElem?_map, hv]; rfl
            have HV := Lib.hid hv
            have HY := Lib.hid hy
            clear hv hy
            go_wp2_with fail
            refine (KRead_ok wr c' g 8 _ _ _ t htl HTwz.out.wf HDz.out _ HY.out).mono ?_
            rintro e w2 ⟨A, cp, rfl, q_HR, q_HB⟩
            have HR := Lib.hid q_HR
            have HB := Lib.hid q_HB
            clear q_HR q_HB
            have hTm := (Tr.refl (fun _ => False) (HTwz.out.wf.below HB.out)).alloc (.cells (fillA 0 v) 5)
            have hhm := heap_alloc_new w2 (.cells (fillA 0 v) 5)
            have hzz : fillA 0 v = fillA 0 0 := rfl
            go_wp2_with fail
            rw [hzz] at hTm hhm
            generalize w2.alloc (.cells (fillA 0 0) 5) = W3 at *
            rw [← hzz] at hhm
            generalize hbx : w2.heap.size = bx at *
            have HBX := Lib.hid hbx
            have HTM := Lib.hid hTm
            have HHM := Lib.hid hhm
            clear hbx hTm hhm hzz
            go_loopw [19] (fun i wy => ∃ s : Nat, i = .int .i64 (s : Int) ∧ s ≤ 64 ∧ Hid (Tr (fun _ => False) c' c' w2 wy) ∧ Hid (wy.heap[bx]? = some (.cells (fillA s v) 5))) (fun i _ => 64 - (intOf i).toNat)
            case atStart => exact ⟨0, rfl, by omega, HTM, HHM⟩
            case round =>
              obtain ⟨s, rfl, hs, HTy, HXy⟩ := hrel
              have HT2y := Lib.hid ((Tr.of_below (M := fun _ => False) HTwz.out.wf HB.out).then HTy.out)
              rcases Nat.lt_or_ge s 64 with hsl | hsg
              · obtain ⟨ux, hux⟩ := fillA_cell HXy.out hs hsl
                have hfx := blk_free HXy.out s
                have hci : wr.cell? ⟨bi, t, none⟩ = some (.int .u8 (v.toNat : Int)) := by
                  rw [(HIz.out.tr HT2y.out (fun h => h)).cell]
                  have h1 := bcells_at is t v HV.out
                  simpa using h1
                go_wp2_with fail
                refine ⟨⟨s + 1, by go_num, by omega, HTy.out.newset (by have := HBX.out; omega) s _, ?_⟩, by simp [intOf]; omega⟩
                show _ = _
                rw [blk_set HXy.out, fillA_set hsl]
              · obtain rfl : s = 64 := by omega
                have hx3 := HXy.out
                unfold fillA at hx3
                rw [fillL_full] at hx3
                have hbx0 : c' bx = none := (HTwz.out.wf.below HB.out).fresh (by have := HBX.out; omega)
                have HRX : Hid (Rd kU8 wr c' (some ⟨bx, 0, none⟩) 64 64 (rep64 v)) := by
                  have h := Rd.blk (c := c') hx3 hbx0 (by simp)
                  rw [List.length_replicate] at h
                  exact h
                have HRY : Hid (Rd kU8 wr c' A 64 cp (rep64 v)) := HR.out.tr HTy.out
                have HT3y := Lib.hid (HTz.out.then HT2y.out)
                clear hx3 hbx0
                go_wp2_with fail
                refine (Same_any wr c' A _ 64 cp 64 64 (rep64 v) (rep64 v) HRY.out HRX.out).mono ?_
                rintro e w3 ⟨rfl, rfl⟩
                go_wp2_with fail
                exact ⟨⟨t + 1, by go_num, by omega, HT3y⟩, by simp [intOf]; omega⟩
          · obtain rfl : t = 8 := by omega
            go_wp2_with fail
            refine (told16 _).mono ?_
            rintro e w11 ⟨rfl, q_HB11⟩
            have HB11 := Lib.hid q_HB11
            clear q_HB11
            have HT11 := Lib.hid (HTwz.out.then (Tr.of_below HTwz.out.wf HB11.out))
            have HD11 := Lib.hid (HDz.out.tr (Tr.of_below (M := fun _ => False) HTwz.out.wf HB11.out) (fun h => h))
            go_wp2_with fail
            refine (KDirty_any w11 c' g 8 _ _ _ (by omega) HT11.out.wf HD11.out).mono ?_
            rintro e w12 ⟨A12, m12, cp12, rfl, q_HR12, q_HB12⟩
            have HR12 := Lib.hid q_HR12
            have HB12 := Lib.hid q_HB12
            clear q_HR12 q_HB12
            have hm12 : 0 = m12 := by
              have h := HR12.out.len
              rw [dirtyL_none] at h
              exact h
            subst hm12
            have HT12 := Lib.hid (HT11.out.then (Tr.of_below HT11.out.wf HB12.out))
            go_wp2_with fail
            refine bodyPost_ret (results_tmp rfl _ _ _) rfl ?_
            exact ⟨rfl, HT12.out.below (by intro r hr e; exact e)⟩
end Go.Proofs.Ytalihocoekplgaa
