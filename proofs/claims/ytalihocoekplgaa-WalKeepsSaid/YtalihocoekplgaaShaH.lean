/- sha: the digest's end. -/
import Derived.Test.YtalihocoekplgaaShaG
set_option linter.unusedVariables false
set_option linter.unusedSimpArgs false
namespace Go.Proofs.Ytalihocoekplgaa
open Go.RowKit

def padK (n : Nat) : Nat := (119 - n % 64) % 64
theorem padK_eq (n : Nat) : (n + 1 + padK n) % 64 = 56 := by unfold padK; omega
theorem padK_lt (n j : Nat) (h : j < padK n) : (n + 1 + j) % 64 ≠ 56 := by unfold padK at h; omega
theorem padK_le (n : Nat) : padK n ≤ 63 := by unfold padK; omega
def endB (n : Nat) : List UInt8 := (128 :: List.replicate (padK n) 0) ++ numB (n * 8) 8
theorem endB_len (n : Nat) : (endB n).length = padK n + 9 := by simp [endB, numB_length]
def ofI (y : Int) : UInt8 := UInt8.ofNat y.toNat
theorem ofI_cell (y : Int) : ((ofI (y % 256)).toNat : Int) = y % 256 := by
  unfold ofI
  rw [UInt8.toNat_ofNat']
  omega
def out4 (x : Int) : List UInt8 := [ofI (x / 16777216 % 256), ofI (x / 65536 % 256), ofI (x / 256 % 256), ofI (x % 256)]
/-- A digest's bytes. -/
def outB (hs : List Int) : List UInt8 := hs.flatMap out4
theorem outB_len (hs : List Int) : (outB hs).length = hs.length * 4 := by
  induction hs with
  | nil => rfl
  | cons x hs ih =>
    unfold outB at ih ⊢
    rw [List.flatMap_cons, List.length_append, ih, List.length_cons]
    simp [out4]
    omega
theorem outB_snoc (hs : List Int) (x : Int) : outB (hs ++ [x]) = outB hs ++ out4 x := by simp [outB]
/-- What a digest comes to. -/
def finH (hs : List Int) (rest : List UInt8) (n : Nat) : List Int :=
  if n % 64 = 0 then foldB hs (endB n) else foldB (foldB hs (rest.take (n % 64) ++ (endB n).take (64 - n % 64))) ((endB n).drop (64 - n % 64))
theorem finH_len (hs : List Int) (rest : List UInt8) (n : Nat) (h : hs.length = 8) : (finH hs rest n).length = 8 := by
  unfold finH
  split
  · exact foldB_len _ _ h
  · exact foldB_len _ _ (foldB_len _ _ h)
theorem own_one (w : World) (b0 : Nat) (e : TypeId) (v : Value) (hb : b0 ≤ w.heap.size) : (w.alloc (.cells #[v] e)).ownsRow b0 e 1 (.slice (some ⟨w.heap.size, 0, none⟩) 1 1) 1 [v] :=
  ⟨rfl, .inr ⟨w.heap.size, 1, #[v], rfl, hb, heap_alloc_new w _, Nat.le_refl _, by simp [maxLen], rfl, rfl⟩⟩
theorem idx_u32 (w : World) (C : Array Value) (t : Nat) (x : Int) (ht : t < 8) (h : C[t]? = some (.int .u32 x)) : (Instr.index 120 (.agg C) (.int .i64 (t : Int))).run Try.prog w = .ok (.int .u32 x) w := by
  have hs : (Try.prog.info? 119).map (·.size) = some 1 := by kernel_rfl
  obtain ⟨i, hi, hi1⟩ := Option.map_eq_some_iff.1 hs
  have hb : (0 : Int) ≤ (t : Int) ∧ (t : Int) < 8 := by omega
  simp [Instr.index, run_underlying Try.underlying120, asIntOf, sizeOf, typeInfo, hi, hi1, hb, go_sem]
  rw [if_pos ht, h]
  rfl
theorem HWrite_any (w : World) (c : Col) (g : Nat) (A : Option Addr) (n cp : Nat) (hs : List Int) (rest : List UInt8) (nn : Nat) (hnn : nn ≤ 1000000000) (hw : Wf c w) (hcg : c g = some g) (hd : Dg w g hs rest nn) (hx : Rd kU8 w c A n cp (endB nn)) :
    Calls Try.prog 71 #[.pointer (some ⟨g, 0, none⟩), .slice A n cp] w fun e w' => e = .returned (.tuple #[]) ∧ w.grownBy w' (some g) ∧ ∃ rest' n', Dg w' g (finH hs rest nn) rest' n' := by
  have hl := hx.1
  have hK := padK_le nn
  have hk2 := padK_eq nn
  rw [endB_len] at hl
  by_cases h0 : nn % 64 = 0
  · refine (HWrite_zero w c g A n cp (endB nn) hs rest nn (nn / 64) (by omega) (by omega) (by omega) hw hcg hd hx).mono ?_
    rintro e w' ⟨h1, h2, h3⟩
    unfold finH
    rw [if_pos h0]
    exact ⟨h1, h2, _, _, h3⟩
  · refine (HWrite_pos w c g A n cp (endB nn) hs rest nn (nn / 64) (nn % 64) (by omega) (by omega) (by omega) (by omega) (by omega) (by omega) hw hcg hd hx).mono ?_
    rintro e w' ⟨h1, h2, r', h3⟩
    unfold finH
    rw [if_neg h0]
    exact ⟨h1, h2, r', _, h3⟩
set_option maxRecDepth 100000 in
set_option maxHeartbeats 8000000 in
theorem HSum_any (w : World) (g : Nat) (hs : List Int) (rest : List UInt8) (nn : Nat) (hn : nn ≤ 1000000000) (h : Dg w g hs rest nn) : Calls Try.prog 72 #[.pointer (some ⟨g, 0, none⟩)] w fun e w' => e = .returned (.agg (bcells (outB (finH hs rest nn))).toArray) ∧ Below w.heap.size w w' := by
  obtain ⟨F, hF⟩ : ∃ F, finH hs rest nn = F := ⟨_, rfl⟩
  obtain ⟨OO, hOO⟩ : ∃ OO, bcells (outB F) = OO := ⟨_, rfl⟩
  have hFl : F.length = 8 := by rw [← hF]; exact finH_len _ _ _ h.2.1
  rw [hF, hOO]
  have HOO := Lib.hid hOO
  clear hOO
  have HH := Lib.hid h
  have HFF := Lib.hid hF
  clear h hF
  go_enter Try.func72, Try.ntmps72
  go_wp2_with fail
  have hob := heap_alloc_new w (.cells #[.int .u8 0, .int .u8 0, .int .u8 0, .int .u8 0, .int .u8 0, .int .u8 0, .int .u8 0, .int .u8 0, .int .u8 0, .int .u8 0, .int .u8 0, .int .u8 0, .int .u8 0, .int .u8 0, .int .u8 0, .int .u8 0, .int .u8 0, .int .u8 0, .int .u8 0, .int .u8 0, .int .u8 0, .int .u8 0, .int .u8 0, .int .u8 0, .int .u8 0, .int .u8 0, .int .u8 0, .int .u8 0, .int .u8 0, .int .u8 0, .int .u8 0, .int .u8 0] 108)
  have hb0 := below_alloc w (.cells #[.int .u8 0, .int .u8 0, .int .u8 0, .int .u8 0, .int .u8 0, .int .u8 0, .int .u8 0, .int .u8 0, .int .u8 0, .int .u8 0, .int .u8 0, .int .u8 0, .int .u8 0, .int .u8 0, .int .u8 0, .int .u8 0, .int .u8 0, .int .u8 0, .int .u8 0, .int .u8 0, .int .u8 0, .int .u8 0, .int .u8 0, .int .u8 0, .int .u8 0, .int .u8 0, .int .u8 0, .int .u8 0, .int .u8 0, .int .u8 0, .int .u8 0, .int .u8 0] 108)
  have hs0 : (w.alloc (.cells #[.int .u8 0, .int .u8 0, .int .u8 0, .int .u8 0, .int .u8 0, .int .u8 0, .int .u8 0, .int .u8 0, .int .u8 0, .int .u8 0, .int .u8 0, .int .u8 0, .int .u8 0, .int .u8 0, .int .u8 0, .int .u8 0, .int .u8 0, .int .u8 0, .int .u8 0, .int .u8 0, .int .u8 0, .int .u8 0, .int .u8 0, .int .u8 0, .int .u8 0, .int .u8 0, .int .u8 0, .int .u8 0, .int .u8 0, .int .u8 0, .int .u8 0, .int .u8 0] 108)).heap.size = w.heap.size + 1 := by simp
  have hd0 : Dg (w.alloc (.cells #[.int .u8 0, .int .u8 0, .int .u8 0, .int .u8 0, .int .u8 0, .int .u8 0, .int .u8 0, .int .u8 0, .int .u8 0, .int .u8 0, .int .u8 0, .int .u8 0, .int .u8 0, .int .u8 0, .int .u8 0, .int .u8 0, .int .u8 0, .int .u8 0, .int .u8 0, .int .u8 0, .int .u8 0, .int .u8 0, .int .u8 0, .int .u8 0, .int .u8 0, .int .u8 0, .int .u8 0, .int .u8 0, .int .u8 0, .int .u8 0, .int .u8 0, .int .u8 0] 108)) g hs rest nn := ⟨(hb0.block g (blk_lt HH.out.1)).trans HH.out.1, HH.out.2⟩
  generalize w.alloc (.cells #[.int .u8 0, .int .u8 0, .int .u8 0, .int .u8 0, .int .u8 0, .int .u8 0, .int .u8 0, .int .u8 0, .int .u8 0, .int .u8 0, .int .u8 0, .int .u8 0, .int .u8 0, .int .u8 0, .int .u8 0, .int .u8 0, .int .u8 0, .int .u8 0, .int .u8 0, .int .u8 0, .int .u8 0, .int .u8 0, .int .u8 0, .int .u8 0, .int .u8 0, .int .u8 0, .int .u8 0, .int .u8 0, .int .u8 0, .int .u8 0, .int .u8 0, .int .u8 0] 108) = w0 at *
  have HOB := Lib.hid hob
  have HB0 := Lib.hid hb0
  have HD0 := Lib.hid hd0
  clear hob hb0 hd0
  obtain ⟨gc, hgc⟩ : ∃ gc, w0.heap.size = gc := ⟨_, rfl⟩
  have HCP := HCopy_any w0 g hs rest nn HD0.out
  rw [hgc] at HCP
  have HCP := Lib.hid HCP
  have HGC := Lib.hid hgc
  have HS0 := Lib.hid hs0
  clear hgc hs0
  go_wp2_with fail
  refine (HCP.out).mono ?_
  rintro e w1 ⟨rfl, q_HD1, q_HB1⟩
  have HD1 := Lib.hid q_HD1
  have HB1 := Lib.hid q_HB1
  clear q_HD1 q_HB1
  have c72 := HD1.out.n
  have hK := padK_le nn
  have hlow : ∀ j, j < padK nn → (nn + 1 + j) % 64 ≠ 56 := fun j hj => padK_lt nn j hj
  have hhi := padK_eq nn
  obtain ⟨K, hKK⟩ : ∃ K, padK nn = K := ⟨_, rfl⟩
  rw [hKK] at hK hlow hhi
  have HKK := Lib.hid hKK
  have HLOW := Lib.hid hlow
  have HHI := Lib.hid hhi
  clear hlow hKK hhi
  go_wp2_with fail
  have ho1 := own_one w1 w1.heap.size 5 (.int .u8 128) (Nat.le_refl _)
  have hb1 := below_alloc w1 (.cells #[.int .u8 128] 5)
  generalize w1.alloc (.cells #[.int .u8 128] 5) = w2 at *
  have HO1 := Lib.hid ho1
  have HB2 := Lib.hid hb1
  clear ho1 hb1
  go_loopw [5] (fun o wr => ∃ (j : Nat) (A : Option Addr) (cp : Nat), o = .slice A (j + 1) cp ∧ j ≤ K ∧ Hid (Below w1.heap.size w1 wr) ∧ Hid (wr.ownsRow w1.heap.size 5 1 (.slice A (j + 1) cp) (j + 1) (bcells (128 :: List.replicate j 0)))) (fun o _ => 100 - lenV o)
  case atStart => exact ⟨0, _, 1, rfl, Nat.zero_le _, HB2, HO1.out⟩
  case round =>
    obtain ⟨j, A, cp, rfl, hj, HBJ, HOJ⟩ := hrel
    have hsj := HBJ.out.size
    rcases Nat.lt_or_ge j K with hlt | hge
    · have hne : ¬ (((nn : Int) + ((j : Int) + 1)) % 18446744073709551616 % 64 = 56) := by
        have := HLOW.out j hlt
        omega
      go_wp2_with (at_builtin; go_must (refine app_one_own (base := w1.heap.size) (.tmp 27) (.tmp 28) 23 5 (.int .u8 0) 1 1 rfl rfl Try.underlying23 u8_info rfl (by decide) (by decide) (bcells (128 :: List.replicate j 0)) _ rfl rfl rfl (one_cell rfl) hsj HBJ.out HOJ.out (by omega) ?_); intro A1 cp1 w3 hb3 hown3 hs3)
      have HB3 := Lib.hid hb3
      have HO3 := Lib.hid hown3
      clear hb3 hown3
      refine ⟨⟨j + 1, A1, cp1, rfl, hlt, HB3.out, ?_⟩, by rw [lenV_slice, lenV_slice]; omega⟩
      have h := HO3.out
      rw [show (128 :: List.replicate (j + 1) (0 : UInt8)) = (128 :: List.replicate j 0) ++ [0] by rw [List.replicate_succ', List.cons_append], bcells_append]
      exact h
    · have hjK : j = K := by omega
      have heq : ((nn : Int) + ((j : Int) + 1)) % 18446744073709551616 % 64 = 56 := by
        have := HHI.out
        omega
      have hjb : j ≤ 63 := by omega
      obtain ⟨P0, hP0⟩ : ∃ P0, (128 :: List.replicate j (0 : UInt8)) = P0 := ⟨_, rfl⟩
      have hP0l : P0.length = j + 1 := by rw [← hP0]; simp
      rw [hP0] at HOJ
      have HP0 := Lib.hid hP0
      have HJK := Lib.hid hjK
      clear hP0 hjK hge hj hK
      go_wp2_with fail
      go_loopw [5, 6] (fun o i wq => ∃ (k m : Nat) (q : List UInt8) (A : Option Addr) (cp : Nat), i = .int .i64 (8 * (k : Int) - 8) ∧ k ≤ 8 ∧ o = .slice A m cp ∧ m + k = j + 9 ∧ Hid (q.length = m) ∧ Hid (q ++ numB (nn * 8) k = P0 ++ numB (nn * 8) 8) ∧ Hid (Below w1.heap.size w1 wq) ∧ Hid (wq.ownsRow w1.heap.size 5 1 (.slice A m cp) m (bcells q))) (fun _ i _ => (intOf i + 8).toNat)
      case atStart => exact ⟨8, j + 1, P0, A, cp, rfl, by omega, rfl, by omega, hP0l, rfl, HBJ, HOJ⟩
      case round =>
        obtain ⟨k, m, q, A, cp, rfl, hk8, rfl, hmk, HQL, HQN, HBQ, HOQ⟩ := hrel
        have hsq := HBQ.out.size
        rcases Nat.eq_zero_or_pos k with h0 | h0
        · have hkn : ¬ ((8 : Int) ≤ 8 * (k : Int)) := by omega
          have hmj : m = j + 9 := by omega
          have hqe : q = endB nn := by
            have h := HQN.out
            rw [h0] at h
            simp only [numB, List.append_nil] at h
            rw [h, ← HP0.out, HJK.out, ← HKK.out]
            rfl
          obtain ⟨cc, hcc⟩ : ∃ cc : Col, cc = fun i => if i = gc then some gc else none := ⟨_, rfl⟩
          have hccg : cc gc = some gc := by rw [hcc]; simp
          have hgc1 : gc < w1.heap.size := blk_lt HD1.out.1
          have hwf : Wf cc wr := by
            intro k r h
            rw [hcc] at h
            simp only at h
            split at h
            · cases h
              rename_i e
              subst e
              exact ⟨by omega, by omega⟩
            · cases h
          have hdq : Dg wr gc hs rest nn := ⟨(HBQ.out.block gc hgc1).trans HD1.out.1, HD1.out.2⟩
          obtain ⟨A2, cp2, he, hrd⟩ := Rd.of_own_bytes (c := cc) HOQ.out (fun b hb => by
            have := (HOQ.out.lt b hb).1
            rw [hcc]
            simp only
            rw [if_neg (by omega)])
          cases he
          rw [hqe] at hrd
          have HWR := Lib.hid (HWrite_any wr cc gc A m cp hs rest nn hn hwf hccg hdq hrd)
          rw [HFF.out] at HWR
          have HRW := Lib.hid HBQ.out
          clear hcc hccg hwf hdq hrd hmj hqe HQL HQN HOQ h0 hk8 hmk
          go_wp2_with fail
          refine (HWR.out).mono ?_
          rintro e w4 ⟨rfl, hg4, rest', n', hd4⟩
          have hgcw : gc < wr.heap.size := by have := HRW.out.size; omega
          have hob4 : w4.heap[w.heap.size]? = some (.cells #[.int .u8 0, .int .u8 0, .int .u8 0, .int .u8 0, .int .u8 0, .int .u8 0, .int .u8 0, .int .u8 0, .int .u8 0, .int .u8 0, .int .u8 0, .int .u8 0, .int .u8 0, .int .u8 0, .int .u8 0, .int .u8 0, .int .u8 0, .int .u8 0, .int .u8 0, .int .u8 0, .int .u8 0, .int .u8 0, .int .u8 0, .int .u8 0, .int .u8 0, .int .u8 0, .int .u8 0, .int .u8 0, .int .u8 0, .int .u8 0, .int .u8 0, .int .u8 0] 108 (0, 0)) := by
            have e1 := HGC.out
            have e2 := HS0.out
            have hbx := HB1.out.size
            have hby := HRW.out.size
            rw [hg4.block w.heap.size (by omega) (by simp; omega), HRW.out.block w.heap.size (by omega), HB1.out.block w.heap.size (by omega)]
            exact HOB.out
          have hbel4 : Below w.heap.size w w4 := by
            have e1 := HGC.out
            have e2 := HS0.out
            have h1 := below_then HB0.out (by rw [HGC.out]; exact HB1.out)
            exact (below_then h1 HRW.out).grown hg4 (by have := HRW.out.size; have := HB1.out.size; omega) (fun i hi => by cases hi; omega)
          obtain ⟨FV, hFV⟩ : ∃ FV, ucells F = FV := ⟨_, rfl⟩
          have hFVl : FV.length = 8 := by rw [← hFV, ucells_len, hFl]
          have hdh := hd4.1
          rw [hFV] at hdh
          have hw5 := heap_alloc_new w4 (.cells #[.int .u8 0, .int .u8 0, .int .u8 0, .int .u8 0, .int .u8 0, .int .u8 0, .int .u8 0, .int .u8 0, .int .u8 0, .int .u8 0, .int .u8 0, .int .u8 0, .int .u8 0, .int .u8 0, .int .u8 0, .int .u8 0, .int .u8 0, .int .u8 0, .int .u8 0, .int .u8 0, .int .u8 0, .int .u8 0, .int .u8 0, .int .u8 0, .int .u8 0, .int .u8 0, .int .u8 0, .int .u8 0, .int .u8 0, .int .u8 0, .int .u8 0, .int .u8 0] 108)
          have hb5 := below_alloc w4 (.cells #[.int .u8 0, .int .u8 0, .int .u8 0, .int .u8 0, .int .u8 0, .int .u8 0, .int .u8 0, .int .u8 0, .int .u8 0, .int .u8 0, .int .u8 0, .int .u8 0, .int .u8 0, .int .u8 0, .int .u8 0, .int .u8 0, .int .u8 0, .int .u8 0, .int .u8 0, .int .u8 0, .int .u8 0, .int .u8 0, .int .u8 0, .int .u8 0, .int .u8 0, .int .u8 0, .int .u8 0, .int .u8 0, .int .u8 0, .int .u8 0, .int .u8 0, .int .u8 0] 108)
          have hra : (w4.alloc (.cells #[.int .u8 0, .int .u8 0, .int .u8 0, .int .u8 0, .int .u8 0, .int .u8 0, .int .u8 0, .int .u8 0, .int .u8 0, .int .u8 0, .int .u8 0, .int .u8 0, .int .u8 0, .int .u8 0, .int .u8 0, .int .u8 0, .int .u8 0, .int .u8 0, .int .u8 0, .int .u8 0, .int .u8 0, .int .u8 0, .int .u8 0, .int .u8 0, .int .u8 0, .int .u8 0, .int .u8 0, .int .u8 0, .int .u8 0, .int .u8 0, .int .u8 0, .int .u8 0] 108)).rangeAt gc 0 FV := by
            refine range_below ?_ (hb5.block gc (blk_lt hdh))
            intro j v hv
            rw [Nat.zero_add, blk_cell hdh, List.getElem?_toArray, List.getElem?_append_left (List.getElem?_eq_some_iff.1 hv).1]
            exact hv
          have HRA := Lib.hid hra
          have HSZ8 : Hid ((Try.prog.info? 120).map (·.size) = some FV.length) := by
            show _ = _
            rw [hFVl]
            kernel_rfl
          have HOB4 := Lib.hid hob4
          have HBEL4 := Lib.hid hbel4
          have HFV := Lib.hid hFV
          have HG4 := Lib.hid hg4
          have HD4 := Lib.hid hd4
          have HDH := Lib.hid hdh
          have HW5 := Lib.hid hw5
          have HB5 := Lib.hid hb5
          clear hob4 hbel4 hFV hg4 hd4 hdh hw5 hb5
          clear hra hgcw
          go_wp2_with (first | (refine wpList_load_mid rfl 120 (.tmp 48) rfl gc 0 rfl FV _ HRA.out Try.underlying120 rfl HSZ8.out ?_))
          obtain ⟨ob, hob⟩ : ∃ ob, w4.heap.size = ob := ⟨_, rfl⟩
          have HOC : Hid ((w4.alloc (.cells #[.int .u8 0, .int .u8 0, .int .u8 0, .int .u8 0, .int .u8 0, .int .u8 0, .int .u8 0, .int .u8 0, .int .u8 0, .int .u8 0, .int .u8 0, .int .u8 0, .int .u8 0, .int .u8 0, .int .u8 0, .int .u8 0, .int .u8 0, .int .u8 0, .int .u8 0, .int .u8 0, .int .u8 0, .int .u8 0, .int .u8 0, .int .u8 0, .int .u8 0, .int .u8 0, .int .u8 0, .int .u8 0, .int .u8 0, .int .u8 0, .int .u8 0, .int .u8 0] 108)).heap[ob]? = some (.cells (bcells (outB (F.take 0) ++ List.replicate (32 - 4 * 0) 0)).toArray 108 (0, 0))) := by
            show _ = _
            rw [← hob]
            exact HW5.out
          rw [hob]
          have HOBB := Lib.hid hob
          clear hob
          generalize w4.alloc (.cells #[.int .u8 0, .int .u8 0, .int .u8 0, .int .u8 0, .int .u8 0, .int .u8 0, .int .u8 0, .int .u8 0, .int .u8 0, .int .u8 0, .int .u8 0, .int .u8 0, .int .u8 0, .int .u8 0, .int .u8 0, .int .u8 0, .int .u8 0, .int .u8 0, .int .u8 0, .int .u8 0, .int .u8 0, .int .u8 0, .int .u8 0, .int .u8 0, .int .u8 0, .int .u8 0, .int .u8 0, .int .u8 0, .int .u8 0, .int .u8 0, .int .u8 0, .int .u8 0] 108) = w5 at *
          have HGG : Hid (w5.grownBy w5 (some ob)) := World.grownBy.refl w5 _
          go_loopw [50] (fun i wq => ∃ (t : Nat), i = .int .i64 (t : Int) ∧ t ≤ 8 ∧ Hid (w5.grownBy wq (some ob)) ∧ Hid (wq.heap[ob]? = some (.cells (bcells (outB (F.take t) ++ List.replicate (32 - 4 * t) 0)).toArray 108 (0, 0)))) (fun i _ => 8 - (intOf i).toNat)
          case atStart => exact ⟨0, rfl, by omega, HGG, HOC⟩
          case round =>
            obtain ⟨t, rfl, ht, HGT, HCT⟩ := hrel
            rcases Nat.lt_or_ge t 8 with hlt | hge
            · obtain ⟨x, hx⟩ : ∃ x, F[t]? = some x := ⟨_, List.getElem?_eq_getElem (by omega)⟩
              have hix := idx_u32 wr FV.toArray t x hlt (by rw [List.getElem?_toArray, ← HFV.out]; exact ucells_at hx)
              have hol : (outB (F.take t)).length = 4 * t := by rw [outB_len, List.length_take]; omega
              have hcl : ∀ q, q < 32 → ∃ u, wr.cell? ⟨ob, q, none⟩ = some u := by
                intro q hq
                rw [blk_cell HCT.out, List.getElem?_toArray]
                exact ⟨_, List.getElem?_eq_getElem (by rw [bcells_length, List.length_append, hol, List.length_replicate]; omega)⟩
              obtain ⟨u0, c0⟩ := hcl (4 * t) (by omega)
              obtain ⟨u1, c1⟩ := hcl (4 * t + 1) (by omega)
              obtain ⟨u2, c2⟩ := hcl (4 * t + 2) (by omega)
              obtain ⟨u3, c3⟩ := hcl (4 * t + 3) (by omega)
              have f0 := blk_free HCT.out (4 * t)
              have f1 := blk_free HCT.out (4 * t + 1)
              have f2 := blk_free HCT.out (4 * t + 2)
              have f3 := blk_free HCT.out (4 * t + 3)
              have it : (t : Int) < 8 := by omega
              have HX := Lib.hid hx
              clear hcl hx
              go_wp2_with fail
              have hch : (((wr.setCell ⟨ob, 4 * t, none⟩ (.int .u8 (x / 16777216 % 256))).setCell ⟨ob, 4 * t + 1, none⟩ (.int .u8 (x / 65536 % 256))).setCell ⟨ob, 4 * t + 2, none⟩ (.int .u8 (x / 256 % 256))).setCell ⟨ob, 4 * t + 3, none⟩ (.int .u8 (x % 256)) = wr.setCells ob (4 * t) (bcells (out4 x)) := by
                unfold out4
                simp only [bcells, List.map_cons, List.map_nil, ofI_cell]
                rfl
              rw [hch]
              have hsb := setCells_blk (bcells (out4 x)) (4 * t) HCT.out
              have hrep : List.replicate (32 - 4 * t) (0 : UInt8) = List.replicate 4 0 ++ List.replicate (32 - 4 * (t + 1)) 0 := by
                rw [List.replicate_append_replicate]
                congr 1
                omega
              have hsl : setL (bcells (outB (F.take t) ++ List.replicate (32 - 4 * t) 0)) (4 * t) (bcells (out4 x)) = bcells (outB (F.take (t + 1)) ++ List.replicate (32 - 4 * (t + 1)) 0) := by
                rw [hrep, bcells_append, bcells_append, ← List.append_assoc, ← hol, ← bcells_length, setL_mid _ _ _ _ (by rw [bcells_length, bcells_length]; rfl), take_snoc' HX.out, outB_snoc, bcells_append, bcells_append]
              rw [hsl] at hsb
              exact ⟨⟨t + 1, by go_num, by omega, grownBy_trans HGT.out (grown_setCells ob _ (4 * t) wr), hsb⟩, by simp [intOf]; omega⟩
            · have hke : ¬ ((t : Int) < 8) := by omega
              have ht8 : t = 8 := by omega
              obtain ⟨OV, hOV⟩ : ∃ OV, bcells (outB F) = OV := ⟨_, rfl⟩
              have hOVl : OV.length = 32 := by rw [← hOV, bcells_length, outB_len, hFl]
              have hcv : wr.heap[ob]? = some (.cells OV.toArray 108 (0, 0)) := by
                have h := HCT.out
                rw [ht8, List.take_of_length_le (by omega), List.replicate_zero, List.append_nil, hOV] at h
                exact h
              have hrv : wr.rangeAt ob 0 OV := by
                intro j v hv
                rw [Nat.zero_add, blk_cell hcv, List.getElem?_toArray]
                exact hv
              have hob5 : wr.heap[w.heap.size]? = some (.cells #[.int .u8 0, .int .u8 0, .int .u8 0, .int .u8 0, .int .u8 0, .int .u8 0, .int .u8 0, .int .u8 0, .int .u8 0, .int .u8 0, .int .u8 0, .int .u8 0, .int .u8 0, .int .u8 0, .int .u8 0, .int .u8 0, .int .u8 0, .int .u8 0, .int .u8 0, .int .u8 0, .int .u8 0, .int .u8 0, .int .u8 0, .int .u8 0, .int .u8 0, .int .u8 0, .int .u8 0, .int .u8 0, .int .u8 0, .int .u8 0, .int .u8 0, .int .u8 0] 108 (0, 0)) := by
                have e1 := blk_lt HOB4.out
                have e2 := HOBB.out
                have e3 := HB5.out.size
                rw [HGT.out.block w.heap.size (by omega) (by simp; omega), HB5.out.block w.heap.size e1]
                exact HOB4.out
              have hth : wr.there w.heap.size 0 OV.toArray.size := by
                intro j hj
                rw [Nat.zero_add]
                refine ⟨?_, blk_free hob5 j⟩
                rw [List.size_toArray, hOVl] at hj
                rw [blk_cell hob5, Array.getElem?_eq_getElem hj]
                rfl
              have HSZ : Hid ((Try.prog.info? 108).map (·.size) = some OV.length) := by
                show _ = _
                rw [hOVl]
                kernel_rfl
              have HSZ2 : Hid ((Try.prog.info? 108).map (·.size) = some OV.toArray.size) := by
                show _ = _
                rw [List.size_toArray, hOVl]
                kernel_rfl
              have hOV1 : OV.toArray.all (·.oneCell') = true := all_oneCell_toArray (fun v hv => bcells_one (hOV ▸ hv))
              have hbw : Below w.heap.size w wr := by
                have e1 := blk_lt HOB4.out
                have e2 := HOBB.out
                exact (below_then HBEL4.out HB5.out).grown HGT.out (by have := HB5.out.size; omega) (fun i hi => by cases hi; omega)
              have hOO2 : OO = OV := HOO.out.symm.trans hOV
              subst hOO2
              have HRV := Lib.hid hrv
              have HTH := Lib.hid hth
              have HOV1 := Lib.hid hOV1
              have HOV := Lib.hid hOV
              have HBW := Lib.hid hbw
              have HOB5 := Lib.hid hob5
              have HCV := Lib.hid hcv
              clear hrv hth hOV1 hOV hbw hob5 hcv
              clear ht8 hge ht
              go_wp2_with (first | (refine wpList_load_mid rfl 108 (.tmp 7) rfl ob 0 rfl OO _ HRV.out Try.underlying108 rfl HSZ.out ?_) | (refine wpList_store_mid rfl 108 (.tmp 2) (.tmp 81) rfl w.heap.size 0 OO.toArray rfl rfl HTH.out HSZ2.out HOV1.out ?_))
              have hra := World.rangeAt_setCells_same wr w.heap.size 0 OO (by have := HTH.out; rwa [List.size_toArray] at this)
              refine bodyPost_ret (results_cellT rfl _ w.heap.size rfl _ OO _ hra Try.underlying108 rfl HSZ.out) rfl ?_
              exact ⟨rfl, HBW.out.grown (grown_setCells w.heap.size OO 0 wr) HBW.out.size (fun i hi => by cases hi; exact Nat.le_refl _)⟩
        · obtain ⟨t, rfl⟩ : ∃ t, k = t + 1 := ⟨k - 1, by omega⟩
          have hm9 : m ≤ 100 := by omega
          have hi0 : (0 : Int) ≤ 8 * ((t : Int) + 1) - 8 := by omega
          have hi1 : 8 * ((t : Int) + 1) - 8 = 8 * (t : Int) := by omega
          go_wp2_with (at_builtin; go_must (refine app_one_own (base := w1.heap.size) (.tmp 34) (.tmp 41) 23 5 (.int .u8 0) 1 1 rfl rfl Try.underlying23 u8_info rfl (by decide) (by decide) (bcells q) _ rfl rfl rfl (one_cell rfl) hsq HBQ.out HOQ.out (by omega) ?_); intro A1 cp1 w3 hb3 hown3 hs3)
          have e8 : (nn : Int) * 8 = ((nn * 8 : Nat) : Int) := by omega
          rw [e8, byte_of _ t (by omega), Int.toNat_natCast] at hown3
          refine ⟨⟨t, by omega, by omega, m + 1, q ++ [UInt8.ofNat (nn * 8 / 256 ^ t)], A1, cp1, ⟨rfl, rfl, rfl⟩, by omega, ?_, ?_, True.intro, ?_⟩, by simp [intOf]; omega⟩
          · show _ = _
            rw [List.length_append, HQL.out]
            rfl
          · show _ = _
            rw [List.append_assoc]
            exact HQN.out
          · show World.ownsRow _ _ _ _ _ _ _
            rw [bcells_append]
            exact hown3
end Go.Proofs.Ytalihocoekplgaa
