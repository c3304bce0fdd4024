/- The law PackRows. -/
import Derived.Test.YtladpckbajnbeaaLaw2
import Derived.Test.YtladpckbajnbeaaOpen
import Derived.StillTailTactics
import Derived.Deep.RegionHeld3
set_option linter.unusedVariables false
set_option linter.unusedSimpArgs false
namespace Go.Proofs.Ytladpckbajnbeaa
open Go.RowKit

theorem opens_part : Opens Try.prog kPart 41 := by
  intro H enc w base spare held fuel cs y h
  obtain ⟨hl, n, hf⟩ := trod_cells Try.underlying41 (by kernel_rfl) (by kernel_rfl) h
  obtain ⟨v0, z0, hv0, h0⟩ := hf 0 _ rfl
  obtain ⟨v1, z1, hv1, h1⟩ := hf 1 _ rfl
  obtain ⟨v2, z2, hv2, h2⟩ := hf 2 _ rfl
  obtain ⟨v3, z3, hv3, h3⟩ := hf 3 _ rfl
  obtain ⟨a, e0, _, _⟩ := DataW.trod_int Try.underlying3 h0
  obtain ⟨b, e1, _, _⟩ := DataW.trod_int Try.underlying3 h1
  obtain ⟨v, e2, _, w2⟩ := DataW.trod_int Try.underlying39 h2
  obtain ⟨A, m, cp, xs, e3, hr, _⟩ := open_rd (K := kU8) Try.underlying24 (by kernel_rfl) (opens_u8 Try.underlying5) h3
  cases e0; cases e1; cases e2; cases e3
  exact ⟨⟨a, b, v, xs⟩, (wf_u64 w2).1, A, m, cp, list_eq4 hl hv0 hv1 hv2 hv3, hr⟩
theorem rowB_len {l : List Part} (h : fewP l) : (rowB l).length ≤ l.length * 104 := by
  induction l with
  | nil => simp [rowB]
  | cons p l ih =>
    have h1 := ih fun q hq => h q (List.mem_cons_of_mem _ hq)
    have h2 := h p (by simp)
    have h3 : (partB p).length ≤ 104 := by
      unfold partB
      split
      · have := numW_le p.v p.wide; omega
      · split
        · simp [textB, numB_length]; omega
        · omega
    have h4 : rowB (p :: l) = partB p ++ rowB l := by simp [rowB]
    rw [h4, List.length_append, List.length_cons]
    omega

/-- A slice of bytes that is written in place: its block, if it has one, is a root of its own. -/
def Mine (w : World) (c : Col) (A : Option Addr) (n cp : Nat) : Prop :=
  n = 0 ∨ ∃ (b : Nat) (zs : List Int), A = some ⟨b, 0, none⟩ ∧ c b = some b ∧ w.ownsRow 0 5 1 (.slice (some ⟨b, 0, none⟩) n cp) n (zs.map (Value.int .u8)) ∧ zs.length = n
theorem Mine_set {w : World} {c : Col} {b n cp : Nat} {zs : List Int} (hc : c b = some b) (ho : w.ownsRow 0 5 1 (.slice (some ⟨b, 0, none⟩) n cp) n (zs.map (Value.int .u8))) (hz : zs.length = n) (j : Nat) (z : Int) :
    Mine (w.setCell ⟨b, j, none⟩ (.int .u8 z)) c (some ⟨b, 0, none⟩) n cp := by
  refine .inr ⟨b, zs.set j z, rfl, hc, ?_, by simpa using hz⟩
  rw [List.map_set]
  exact (ho.stored j _).1
theorem first_owned {w1 wr w w3 : World} {c1 : Col} {g n3 cp3 : Nat} {A3 : Option Addr} {ys xs : List UInt8} (ho : w3.ownsRow wr.heap.size 5 1 (.slice A3 n3 cp3) n3 (bcells ys)) (ht : Tr (fun _ => False) (fun _ => none) c1 w w3)
    (hk : Tr (fun _ => False) (fun _ => none) c1 w1 w3) (hW : Wr w3 c1 g xs) (hwf : Wf c1 wr) (hs : w.heap.size ≤ wr.heap.size) (hs1 : w1.heap.size ≤ wr.heap.size) (hgr : g < wr.heap.size) :
    ∃ c4, Tr (fun _ => False) (fun _ => none) c4 w w3 ∧ Tr (fun _ => False) (fun _ => none) c4 w1 w3 ∧ Wr w3 c4 g xs ∧ Mine w3 c4 A3 n3 cp3 := by
  rcases Nat.eq_zero_or_pos n3 with h0 | h0
  · exact ⟨c1, ht, hk, hW, .inl h0⟩
  · obtain ⟨b, cap, hv, hb, hlt⟩ := ho.form h0
    cases hv
    have hcb : c1 b = none := hwf.fresh hb
    refine ⟨c1.set b b, ht.hot (by omega) hlt hlt (.inr (by omega)), hk.hot (by omega) hlt hlt (.inr (by omega)), ?_, .inr ⟨b, ys.map fun x => (x.toNat : Int), rfl, Col.set_same _ _ _, ?_, ?_⟩⟩
    · obtain ⟨hcg, A, cp, hblk, hown⟩ := hW
      refine ⟨by rw [Col.set_ne _ (by omega)]; exact hcg, A, cp, hblk, hown.1, fun k hk => ?_⟩
      have := hown.2 k hk
      rw [Col.set_ne _ (by rintro rfl; rw [hcb] at this; cases this)]
      exact this
    · have : (ys.map fun x => (x.toNat : Int)).map (Value.int .u8) = bcells ys := by simp [bcells]
      rw [this]
      exact own_weak ho (Nat.zero_le _)
    · rw [List.length_map]
      exact own_len ho
set_option maxRecDepth 100000 in
set_option maxHeartbeats 4000000 in
theorem packRows_any (w : World) (A : Option Addr) (n cp : Nat) (l : List Part) (hx : Rd kPart w (fun _ => none) A n cp l) (hn : n ≤ 1048576) :
    Calls Try.prog 4 #[.slice A n cp] w (TruePost w) := by
  have hln := hx.1
  have hmx := hx.max
  have HX := Lib.hid hx
  have HL := Lib.hid hln
  clear hx hln
  go_enter Try.func4, Try.ntmps4
  go_wp2_with fail
  refine (row_any w _ A n cp l (Wf.none w) HX.out (by omega)).mono ?_
  rintro e w1 ⟨q_HB1, q_HR1⟩
  have HB1 := Lib.hid q_HB1
  have HR1 := Lib.hid q_HR1
  clear q_HB1 q_HR1
  have hcase : (fewP l ∧ n ≤ 40 ∧ ∃ B m cq, e = .returned (.tuple #[.slice B m cq, .bool true]) ∧ w1.ownsRow w.heap.size 5 1 (.slice B m cq) m (bcells (rowB l))) ∨ (∃ B m cq, e = .returned (.tuple #[.slice B m cq, .bool false])) := by
    rcases HR1.out with ⟨h1, B, m, cq, h2, h3⟩ | ⟨h1, h2⟩
    · by_cases h40 : n ≤ 40
      · rw [show decide ((n : Int) ≤ 40) = true by simp; omega] at h2
        exact .inl ⟨h1, h40, B, m, cq, h2, h3⟩
      · rw [show decide ((n : Int) ≤ 40) = false by simp; omega] at h2
        exact .inr ⟨B, m, cq, h2⟩
    · exact .inr ⟨_, _, _, h2⟩
  clear HR1
  rcases hcase with ⟨hfew, h40, B, m, cq, rfl, hown⟩ | ⟨B, m, cq, rfl⟩
  case inr =>
    go_wp2_with fail
    refine (told2 w1).mono ?_
    rintro e w2 ⟨rfl, q_HB2⟩
    have HB2 := Lib.hid q_HB2
    clear q_HB2
    go_wp2_with fail
    go_ret
    exact ⟨rfl, below_then HB1.out HB2.out⟩
  have hln := rowB_len hfew
  have HR := Lib.hid (own_rd (c := fun _ => none) hown (Wf.none w))
  have HFEW := Lib.hid hfew
  have HLN := Lib.hid hln
  clear hfew hln
  clear hown
  obtain ⟨ht0, hW0⟩ := Wr_new w1 (fun _ => none) (Wf.none w1)
  generalize hc0 : Col.set (fun _ => none) w1.heap.size w1.heap.size = c0 at ht0 hW0
  have HT0 := Lib.hid ((Tr.of_below (M := fun _ => False) (Wf.none w) HB1.out).then ht0)
  have HK0 := Lib.hid ht0
  have HW0 := Lib.hid hW0
  clear hW0
  clear hc0 ht0
  have hw1 := HB1.out.size
  go_wp2_with fail
  go_loopw [6] (fun i wr => ∃ (k : Nat) (c1 : Col), i = .int .i64 (k : Int) ∧ k ≤ n ∧ Hid (fewP (l.take k)) ∧ Hid (Tr (fun _ => False) (fun _ => none) c1 w wr) ∧ Hid (Tr (fun _ => False) (fun _ => none) c1 w1 wr) ∧ Hid (Wr wr c1 w1.heap.size (rowB (l.take k)))) (fun i _ => n - (intOf i).toNat)
  case atStart => exact ⟨0, c0, rfl, by omega, by intro x hx; simp at hx, HT0.out, HK0.out, HW0.out⟩
  case round =>
    obtain ⟨k, c1, rfl, hk, hfk, ht, hkt, hW⟩ := hrel
    by_cases hlt : k < n
    · obtain ⟨b, off, rfl⟩ := HX.out.addr (by omega)
      have hel := getD_at' l ⟨0, 0, 0, []⟩ (k := k) (by have := HL.out; omega)
      generalize l[k]?.getD ⟨0, 0, 0, []⟩ = p at hel
      obtain ⟨hbl, hcb, cs, ⟨hv0, A1, n1, cp1, rfl, hr1⟩, hcs⟩ := (HX.out.tr ht.out).elem hel
      have hc0 := hcs 0 _ rfl
      have hc1 := hcs 1 _ rfl
      have hc2 := hcs 2 _ rfl
      have hc3 := hcs 3 _ rfl
      simp only [kPart, Nat.add_zero, ← Nat.add_assoc] at hc0 hc1 hc2 hc3
      have HTK := Lib.hid (take_snoc' hel)
      have hfp := HFEW.out p (List.mem_of_getElem? hel)
      have hrl := rowB_len hfk.out
      have HN1 := Lib.hid hr1.1
      have HRL : Hid ((rowB (l.take k)).length ≤ 5000) := by show _ ≤ _; rw [List.length_take] at hrl; omega
      have HR1 := Lib.hid hr1
      have HFP := Lib.hid hfp
      have HCB := Lib.hid hcb
      clear hcs hr1 hel hcb hfp hrl

      have hcase : p.how = 0 ∨ (p.how ≠ 0 ∧ p.how = 1) ∨ (p.how ≠ 0 ∧ p.how ≠ 1) := by omega
      rcases hcase with h0 | ⟨h0, h1⟩ | ⟨h0, h1⟩
      · have hb0 : (p.how == 0) = true := by simp [h0]
        have HP : Hid (partB p = numW p.v p.wide) := by show _ = _; simp [partB, h0]
        clear h0
        go_wp2_with fail
        have hk0 : (0 : Int) ≤ (k : Int) := Int.natCast_nonneg _
        have hk1 : (k : Int) < (n : Int) := by omega
        clear hmx
        go_region_held3 (fun W => W.cell? ⟨b, off + k * 4 + 1, none⟩ = some (.int .i64 p.wide) ∧ W.cell? ⟨b, off + k * 4 + 2, none⟩ = some (.int .u64 p.v)) (first | go_keep) ((go_at_call 24; go_must (refine (Num_any _ c1 w1.heap.size (rowB (l.take k)) p.v p.wide hv0 (by have := HRL.out; omega) (ht.out.drew.wf) (hW.out.tr (Tr.refl (fun _ => False) ht.out.wf).drew (fun h => h))).mono ?_); rintro e w2 ⟨rfl, c2, q_HA2, q_HW2⟩; have HA2 := Lib.hid q_HA2; have HW2 := Lib.hid q_HW2; have e1 := (q_HA2.kp.cell (i := off + k * 4 + 1) hbl HCB.out).trans hc1; have e2 := (q_HA2.kp.cell (i := off + k * 4 + 2) hbl HCB.out).trans hc2; clear q_HA2 q_HW2))
        clear e1 e2
        go_wp2_with fail
        refine ⟨⟨k + 1, c2, by go_num, by omega, ?_, ht.out.drew.low HA2.out hw1, hkt.out.drew.low HA2.out (Nat.le_refl _), ?_⟩, by simp [intOf]; omega⟩
        · exact fewP_snoc hfk.out HTK.out HFP.out
        · show Wr _ _ _ _
          rw [HTK.out, rowB_snoc, HP.out]
          exact HW2.out
      · have hb0 : (p.how == 0) = false := by simp [h0]
        have hb1 : (p.how == 1) = true := by simp [h1]
        have HP : Hid (partB p = textB p.b) := by show _ = _; simp [partB, h0, h1]
        clear h0 h1
        go_wp2_with fail
        refine (Text_any wr c1 w1.heap.size (rowB (l.take k)) p.b A1 n1 cp1 (by have := HRL.out; have := HFP.out; omega) ht.out.wf hW.out HR1.out).mono ?_
        rintro e w2 ⟨rfl, c2, q_HA2, q_HW2⟩
        have HA2 := Lib.hid q_HA2
        have HW2 := Lib.hid q_HW2
        clear q_HA2 q_HW2
        go_wp2_with fail
        refine ⟨⟨k + 1, c2, by go_num, by omega, ?_, ht.out.low HA2.out hw1, hkt.out.low HA2.out (Nat.le_refl _), ?_⟩, by simp [intOf]; omega⟩
        · exact fewP_snoc hfk.out HTK.out HFP.out
        · show Wr _ _ _ _
          rw [HTK.out, rowB_snoc, HP.out]
          exact HW2.out
      · have hb0 : (p.how == 0) = false := by simp [h0]
        have hb1 : (p.how == 1) = false := by simp [h1]
        have HP : Hid (partB p = p.b) := by show _ = _; simp [partB, h0, h1]
        clear h0 h1
        go_wp2_with fail
        refine (Raw_any wr c1 w1.heap.size (rowB (l.take k)) p.b A1 n1 cp1 (by have := HRL.out; have := HFP.out; omega) ht.out.wf hW.out HR1.out).mono ?_
        rintro e w2 ⟨rfl, c2, q_HA2, q_HW2⟩
        have HA2 := Lib.hid q_HA2
        have HW2 := Lib.hid q_HW2
        clear q_HA2 q_HW2
        go_wp2_with fail
        refine ⟨⟨k + 1, c2, by go_num, by omega, ?_, ht.out.low HA2.out hw1, hkt.out.low HA2.out (Nat.le_refl _), ?_⟩, by simp [intOf]; omega⟩
        · exact fewP_snoc hfk.out HTK.out HFP.out
        · show Wr _ _ _ _
          rw [HTK.out, rowB_snoc, HP.out]
          exact HW2.out
    · obtain rfl : k = n := by omega
      have HK : Hid (l.take k = l) := List.take_of_length_le (by have := HL.out; omega)
      rw [HK.out] at hW hfk
      have HLT : Hid ((rowB l).length ≤ 5000) := by show _ ≤ _; have := HLN.out; have := HL.out; omega
      go_wp2_with fail
      refine (Bytes_own wr c1 w1.heap.size _ (by have := HLT.out; omega) ht.out.wf hW.out).mono ?_
      rintro e w3 ⟨A3, n3, cp3, rfl, q_HO3, q_HB3⟩
      have HO3 := Lib.hid q_HO3
      have HB3 := Lib.hid q_HB3
      clear q_HO3 q_HB3
      have HT3 := Lib.hid (ht.out.then (Tr.of_below ht.out.wf HB3.out))
      have HKT3 := Lib.hid (hkt.out.then (Tr.of_below ht.out.wf HB3.out))
      have HW3 := Lib.hid (hW.out.tr (Tr.of_below (M := fun _ => False) ht.out.wf HB3.out) (fun h => h))
      go_wp2_with fail
      have hgw1 := hkt.out.size
      obtain ⟨c4, q1, q2, q3, q4⟩ := first_owned HO3.out HT3.out HKT3.out HW3.out ht.out.wf ht.out.size hgw1 hW.out.lt
      have HT4 := Lib.hid q1
      have HKT4 := Lib.hid q2
      have HW4 := Lib.hid q3
      have HM4 := Lib.hid q4
      clear q1 q2 q3 q4
      have hmx3 : n3 ≤ 5000 := by have := own_len HO3.out; have := HLT.out; omega
      go_loopw [8] (fun i wr => ∃ (j : Nat), i = .int .i64 (j : Int) ∧ j ≤ n3 ∧ Hid (Tr (fun _ => False) (fun _ => none) c4 w wr) ∧ Hid (Tr (fun _ => False) (fun _ => none) c4 w1 wr) ∧ Hid (Wr wr c4 w1.heap.size (rowB l)) ∧ Hid (Mine wr c4 A3 n3 cp3)) (fun i _ => n3 - (intOf i).toNat)
      case atStart => exact ⟨0, rfl, by omega, HT4.out, HKT4.out, HW4.out, HM4.out⟩
      case round =>
        obtain ⟨j, rfl, hj, htj, hkj, hWj, hMj⟩ := hrel
        by_cases hlt2 : j < n3
        · rcases hMj.out with h0 | ⟨b, zs, rfl, hcb, ho, hzl⟩
          · omega
          have hcell := ho.cellAt j (by omega)
          rw [List.getElem?_map, getD_at' zs 0 (by omega)] at hcell
          have hfr := ho.frozenAt j
          have hbs := (ho.lt b rfl).2
          have hgb : w1.heap.size ≤ b := by
            rcases Nat.lt_or_ge b w1.heap.size with h | h
            · have := hkj.out.col b h
              rw [hcb] at this
              cases this
            · exact h
          have hne : b ≠ w1.heap.size := by
            rintro rfl
            obtain ⟨_, Aw, cpw, hblk, _⟩ := hWj.out
            exact own_block_ne ho hblk (by decide) rfl
          have HO := Lib.hid ho
          have HZ := Lib.hid hzl
          have HCB := Lib.hid hcb
          clear ho hzl hcb
          clear hMj
          simp only [Option.map_some] at hcell
          go_wp2_with fail
          refine ⟨⟨j + 1, by go_num, by omega, htj.out.setCell (p := ⟨b, j, none⟩) HCB.out (.inr (by have := HT4.out.size; omega)) _, hkj.out.setCell (p := ⟨b, j, none⟩) HCB.out (.inr hgb) _, hWj.out.tr ((Tr.refl (· = b) htj.out.wf).setCell (p := ⟨b, j, none⟩) HCB.out (.inl rfl) _) (fun h => hne h.symm), ?_⟩, by simp [intOf]; omega⟩
          exact Mine_set HCB.out HO.out HZ.out j _
        · obtain rfl : j = n3 := by omega
          clear hn hmx h40 hk hmx3 hj hw1 hgw1
          have kc := fun (w : World) (C : Array Value) (n c : Nat) => Lib.run_convert_bytes_const (P := Try.prog) w 24 5 C n c Try.underlying24 Try.underlying5
          go_wp2_with fail
          refine (Num_nil wr 1 1).mono ?_
          rintro e w5 ⟨rfl, rfl⟩
          go_wp2_with fail
          refine (Text_nil _ (some ⟨wr.heap.size, 0, none⟩) 1 1 (by omega)).mono ?_
          rintro e w6 ⟨rfl, q_HE6⟩
          have HE6 := Lib.hid q_HE6
          clear q_HE6
          go_wp2_with fail
          refine (Raw_nil _ _ 1 1).mono ?_
          rintro e w7 ⟨rfl, q_HE7⟩
          have HE7 := Lib.hid q_HE7
          clear q_HE7
          have HB7 : Hid (Below wr.heap.size wr w7) := by
            show Below _ _ _
            rw [← HE7.out, ← HE6.out]
            exact below_then (below_alloc _ _) (below_alloc _ _)
          have HT7 := Lib.hid (htj.out.then (Tr.of_below htj.out.wf HB7.out))
          have HKT7 := Lib.hid (hkj.out.then (Tr.of_below htj.out.wf HB7.out))
          have HW7 := Lib.hid (hWj.out.tr (Tr.of_below (M := fun _ => False) htj.out.wf HB7.out) (fun h => h))
          clear HE6 HE7
          go_wp2_with fail
          have e7 := conv_str 24 9 5 Try.underlying24 Try.underlying5 Try.underlying9 (HR.out.tr HKT7.out.drew)
          have tok1 : True := trivial
          go_region_with ((first
            | (go_at_call 15; go_must (refine (told2 _).mono ?_); rintro e w8 ⟨rfl, q_HB8⟩; have HB8 := Lib.hid q_HB8; have HT8 := Lib.hid (HT7.out.drew.then (Tr.of_below HT7.out.drew.wf q_HB8)); have HKT8 := Lib.hid (HKT7.out.drew.then (Tr.of_below HT7.out.drew.wf q_HB8)); have e8 := conv_str 24 9 5 Try.underlying24 Try.underlying5 Try.underlying9 (HR.out.tr HKT8.out); clear q_HB8)
            | (go_at_call 18; have _t := tok1; go_must (refine (Bytes_any _ c4 w1.heap.size (rowB l) (by have := HLT.out; omega) HT8.out.wf (HW7.out.tr ((Tr.refl (fun _ => False) HT7.out.wf).drew.then (Tr.of_below HT7.out.drew.wf HB8.out)) (fun h => h))).mono ?_); rintro e w9 ⟨A9, n9, cp9, rfl, q_HR9, q_HB9⟩; have HR9 := Lib.hid q_HR9; have HB9 := Lib.hid q_HB9; have HT9 := Lib.hid (HT8.out.then (Tr.of_below HT8.out.wf q_HB9)); have HKT9 := Lib.hid (HKT8.out.then (Tr.of_below HT8.out.wf q_HB9)); have e9 := conv_str 24 9 5 Try.underlying24 Try.underlying5 Try.underlying9 (HR.out.tr HKT9.out); have f9 := conv_str 24 9 5 Try.underlying24 Try.underlying5 Try.underlying9 q_HR9; clear q_HR9 q_HB9 e8 tok1)
            | (go_at_call 18; go_must (refine (Bytes_nil _ c4).mono ?_); rintro e w10 ⟨A10, n10, cp10, rfl, q_HR10, q_HB10⟩; obtain rfl : n10 = 0 := (by have := q_HR10.1; simpa using this.symm); have HT10 := Lib.hid (HT9.out.then (Tr.of_below HT9.out.wf q_HB10)); have e10 := conv_str 24 9 5 Try.underlying24 Try.underlying5 Try.underlying9 (HR.out.tr (HKT9.out.then (Tr.of_below HT9.out.wf q_HB10))); clear q_HR10 q_HB10 e9 f9)))
          all_goals
            go_wp2_with fail
            go_ret
            exact ⟨rfl, HT10.out.below fun r _ h => h⟩
end Go.Proofs.Ytladpckbajnbeaa
