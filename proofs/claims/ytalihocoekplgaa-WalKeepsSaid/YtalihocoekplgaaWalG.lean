/- wal: Write once more, the owners named; the pieces of a row (slices.Chunk). -/
import Derived.Test.YtalihocoekplgaaWalH
import Derived.RangeFuncNested
import Derived.RangeFuncBound
import Derived.RangeFuncCalls
import Derived.RangeFuncLeaves
import Derived.Shelf.Abstract
import Derived.Shelf.RegionOpen
import Derived.OwnWalkIn
import Derived.TacticsInMore
import Derived.LoopNIn
import Derived.LoopIn
import Derived.BigRegionIn
set_option linter.unusedVariables false
set_option linter.unusedSimpArgs false
namespace Go.Proofs.Ytalihocoekplgaa
open Go.RowKit
attribute [local go_sem] Oper.semAt_some

set_option maxRecDepth 100000 in
set_option maxHeartbeats 4000000 in
theorem KWrite_okc (w : World) (c : Col) (g n : Nat) (Y : List (List UInt8)) (D : Dt) (N k : Nat) (B : Option Addr) (mb cq : Nat) (b : List UInt8) (hk : k < n) (hm : mb ≤ 64) (hN : N < 1000000) (hw : Wf c w) (h : Dk w c g n Y D N) (hx : Rd kU8 w c B mb cq b) :
    Calls Try.prog 11 #[.pointer (some ⟨g, 0, none⟩), .int .i64 (k : Int), .slice B mb cq] w fun e w' => e = .returned (.int .i64 0) ∧ Tr (· = g) c c w w' ∧ Dk w' c g n Y (D.put (k : Int) (pad b)) (N + 1) := by
  have HI := Lib.hid (KIs_any w c g n Y D N k h)
  have hb : isB n (k : Int) = true := by unfold isB; simp; omega
  rw [hb] at HI
  have HD := Lib.hid h
  obtain ⟨hg, A, cp, m, h1, h2, h3, h4, h5, h6, h7, h8⟩ := h
  have hbl : b.length = mb := hx.len
  have d1 := blk_cell1 h1
  have hgl := blk_lt h1
  have hml := h3.lt
  have hgm : g ≠ m := by
    intro e
    subst e
    obtain ⟨es, cl, hh⟩ := h3.isMap
    rw [h1] at hh
    cases hh
  have hm1 : ¬ ((64 : Int) < (mb : Int)) := by omega
  have hm64 : (mb : Int) ≤ 64 := by omega
  have hp64 := pad_len (b := b) (by omega)
  obtain ⟨C, hC⟩ : ∃ C, bcells (pad b) = C := ⟨_, rfl⟩
  have hCl : C.length = 64 := by rw [← hC, bcells_length, hp64]
  have HZ : Hid ((#[.int .u8 0, .int .u8 0, .int .u8 0, .int .u8 0, .int .u8 0, .int .u8 0, .int .u8 0, .int .u8 0, .int .u8 0, .int .u8 0, .int .u8 0, .int .u8 0, .int .u8 0, .int .u8 0, .int .u8 0, .int .u8 0, .int .u8 0, .int .u8 0, .int .u8 0, .int .u8 0, .int .u8 0, .int .u8 0, .int .u8 0, .int .u8 0, .int .u8 0, .int .u8 0, .int .u8 0, .int .u8 0, .int .u8 0, .int .u8 0, .int .u8 0, .int .u8 0, .int .u8 0, .int .u8 0, .int .u8 0, .int .u8 0, .int .u8 0, .int .u8 0, .int .u8 0, .int .u8 0, .int .u8 0, .int .u8 0, .int .u8 0, .int .u8 0, .int .u8 0, .int .u8 0, .int .u8 0, .int .u8 0, .int .u8 0, .int .u8 0, .int .u8 0, .int .u8 0, .int .u8 0, .int .u8 0, .int .u8 0, .int .u8 0, .int .u8 0, .int .u8 0, .int .u8 0, .int .u8 0, .int .u8 0, .int .u8 0, .int .u8 0, .int .u8 0] : Array Value) = (bcells zsec).toArray) := rfl
  have HCB := Lib.hid hC
  have HW := Lib.hid hw
  have HBL := Lib.hid hbl
  have H1 := Lib.hid h1
  have H3 := Lib.hid h3
  have H4 := Lib.hid h4
  have HX := Lib.hid hx
  clear h1 h3 h4 hx
  clear hw hb hC hbl
  obtain ⟨vc, w2, hcp, hcb, hbw⟩ := copy_pad HX.out HBL.out hm
  rw [HCB.out] at hcb
  have hcp2 : (Builtin.copy_ #[23, 23] 3 #[.slice (some ⟨w.heap.size, 0, none⟩) 64 64, .slice B mb cq]).run Try.prog (w.alloc (.cells (#[.int .u8 0, .int .u8 0, .int .u8 0, .int .u8 0, .int .u8 0, .int .u8 0, .int .u8 0, .int .u8 0, .int .u8 0, .int .u8 0, .int .u8 0, .int .u8 0, .int .u8 0, .int .u8 0, .int .u8 0, .int .u8 0, .int .u8 0, .int .u8 0, .int .u8 0, .int .u8 0, .int .u8 0, .int .u8 0, .int .u8 0, .int .u8 0, .int .u8 0, .int .u8 0, .int .u8 0, .int .u8 0, .int .u8 0, .int .u8 0, .int .u8 0, .int .u8 0, .int .u8 0, .int .u8 0, .int .u8 0, .int .u8 0, .int .u8 0, .int .u8 0, .int .u8 0, .int .u8 0, .int .u8 0, .int .u8 0, .int .u8 0, .int .u8 0, .int .u8 0, .int .u8 0, .int .u8 0, .int .u8 0, .int .u8 0, .int .u8 0, .int .u8 0, .int .u8 0, .int .u8 0, .int .u8 0, .int .u8 0, .int .u8 0, .int .u8 0, .int .u8 0, .int .u8 0, .int .u8 0, .int .u8 0, .int .u8 0, .int .u8 0, .int .u8 0] : Array Value) 70)) = .ok vc w2 := hcp
  have HB2 := Lib.hid hcb
  have HBW := Lib.hid hbw
  clear hcp hcb hbw
  go_enter Try.func11, Try.ntmps11
  go_wp2_with fail
  refine (HI.out).mono ?_
  rintro e w1 ⟨rfl, rfl⟩
  go_wp2_with fail
  have hMd : MapS w2.drew m N D := H3.out.same (HBW.out.block m hml)
  obtain ⟨w5, hup0, hmp, hgr⟩ := hMd.put (by omega) (k := (k : Int)) (by omega) (by omega) hp64
  have hup : (Instr.mapUpdate 65 (.map (some m)) (.int .i64 (k : Int)) (.agg C.toArray)).run Try.prog w2.drew = .ok () w5 := by
    rw [← HCB.out]
    exact hup0
  have hra : w2.drew.rangeAt w.heap.size 0 C := by
    intro j v hv
    rw [Nat.zero_add]
    show w2.cell? ⟨w.heap.size, j, none⟩ = some v
    rw [blk_cell HB2.out]
    simpa using hv
  have hg1 : w2.drew.cell? ⟨g, 1, none⟩ = some (.map (some m)) := (HBW.out.cell (p := ⟨g, 1, none⟩) hgl).trans d1
  have hSS : w2.drew.cell? ⟨g, 1, none⟩ = some (.map (some m)) ∧ w2.drew.rangeAt w.heap.size 0 C := ⟨hg1, hra⟩
  have hwm : w.heap.size ≠ m := by omega
  have hw2s : w.heap.size < w2.drew.heap.size := blk_lt HB2.out
  have hu70 := Try.underlying70
  have hsz70 : (Try.prog.info? 70).map (·.size) = some C.length := by rw [hCl]; exact sec_size
  have HMP := Lib.hid hmp
  clear hup0 hmp
  go_region_held3 (fun w' => w'.cell? ⟨g, 1, none⟩ = some (.map (some m)) ∧ w'.rangeAt w.heap.size 0 C) (first | assumption | exact write_keep hgr hgm hwm hw2s (by assumption)) (fail)
  go_wp2_with fail
  refine bodyPost_ret (results_tmp rfl _ _ _) rfl ?_
  have hT := ((Tr.of_below (M := (· = g)) HW.out HBW.out).drew).grown hgr (fun j hj => by cases hj; exact ⟨g, h2, .inl rfl⟩)
  have hblk : ∀ j, j < w.heap.size → j ≠ m → w5.heap[j]? = w.heap[j]? := by
    intro j hj hjm
    rw [hgr.block j (Nat.lt_of_lt_of_le hj HBW.out.size) (by simpa using hjm)]
    exact HBW.out.block j hj
  have hrow : ∀ j, (Value.slice A n cp).ownBlock = some j → w5.heap[j]? = w.heap[j]? := by
    intro j hj
    refine hblk j (H4.out.1.lt j hj).2 ?_
    intro e
    subst e
    obtain ⟨es, cl, hh⟩ := H3.out.isMap
    rcases H4.out.1.2 with ⟨he, _⟩ | ⟨b', cap, cur, he, _, hh2, _⟩
    · rw [he] at hj; cases hj
    · rw [he] at hj
      cases hj
      rw [hh2] at hh
      cases hh
  refine ⟨rfl, hT, hg, A, cp, m, by rw [hblk g hgl hgm]; exact H1.out, h2, HMP.out, ⟨own_same H4.out.1 hrow, H4.out.2⟩, h5, h6, fun k' s' hk' => ?_, h8⟩
  unfold Dt.put at hk'
  split at hk'
  · rename_i he
    subst he
    omega
  · exact h7 k' s' hk'

theorem Chunk_any (w : World) (A : Option Addr) (n cp : Nat) : Calls Try.prog 49 #[.slice A n cp, .int .i64 64] w fun e w' => e = .returned (.func (.func 64) #[] #[.pointer (some ⟨w.heap.size, 0, none⟩), .pointer (some ⟨w.heap.size + 1, 0, none⟩)]) ∧
    w' = (w.alloc (.cells #[.slice A n cp] 23)).alloc (.cells #[.int .i64 64] 3) := by
  go_enter Try.func49, Try.ntmps49
  go_wp2_with fail
  refine bodyPost_ret (results_tmp rfl _ _ _) rfl ?_
  exact ⟨rfl, rfl⟩
/-- A piece, as it comes. -/
def pieceV (b off len k : Nat) : Value := .slice (some ⟨b, off + 64 * k, none⟩) (min 64 (len - 64 * k)) (min 64 (len - 64 * k))
def KpC (bs bn : Nat) (W W' : World) : Prop := W'.cell? ⟨bs, 0, none⟩ = W.cell? ⟨bs, 0, none⟩ ∧ W'.cell? ⟨bn, 0, none⟩ = W.cell? ⟨bn, 0, none⟩
set_option maxRecDepth 100000 in
set_option maxHeartbeats 2000000 in
theorem Chunk1_in (F : Fence) (n : Nat) (hF : F.fn 64) (hro : F.round = none) (hn : 1 ≤ n) (l bs bn b off len cap q : Nat) (hq : len ≤ 64 * q) (hq2 : 64 * q < len + 64) (hlen : len ≤ 1000000) (hcap : len ≤ cap) (hcm : cap ≤ maxLen) (B0 : Nat) (J Jx : List Nat → World → Prop)
    (hJ : AbidesFrom B0 J)
    (hY : ∀ pre x W, J pre W → pre.length < q → YieldAt F (n - 1) Try.prog l #[pieceV b off len x] W fun e W' =>
      (e = .returned (.bool true) ∧ J (pre ++ [x]) W' ∧ KpC bs bn W W') ∨ (e = .returned (.bool false) ∧ Jx (pre ++ [x]) W'))
    (W : World) (hbs : W.cell? ⟨bs, 0, none⟩ = some (.slice (some ⟨b, off, none⟩) len cap)) (hbn : W.cell? ⟨bn, 0, none⟩ = some (.int .i64 64)) (h0 : J [] W) :
    CallsIn F n Try.prog 64 #[.func (.yield l) #[] #[], .pointer (some ⟨bs, 0, none⟩), .pointer (some ⟨bn, 0, none⟩)] W fun e W' => (∃ v, e = .returned v) ∧
      ((∃ xs, xs = List.range q ∧ J xs W') ∨ (∃ pre, True ∧ Jx pre W')) := by
  refine callsIn_of_wp Try.func64 rfl hF ?_ hro
  simp only [Try.ntmps64, List.size_toArray, List.length_cons, List.length_nil, Nat.reduceAdd, Nat.reduceSub, Array.replicate_succ, Array.replicate_zero, List.push_toArray, List.append_toArray, List.nil_append, List.cons_append]
  gi_wp2
  gi_loopw [4] (fun i wr => ∃ k j : Nat, i = .int .i64 (j : Int) ∧ Hid (j = 64 * k) ∧ k ≤ q ∧ Hid (J (List.range k) wr) ∧ Hid (KpC bs bn W wr)) (fun i _ => len + 64 - (intOf i).toNat)
  case atStart => exact ⟨0, 0, rfl, rfl, Nat.zero_le _, h0, rfl, rfl⟩
  case round =>
    obtain ⟨k, j, rfl, HJK, hk, HJ, HKP⟩ := hrel
    have cs := HKP.out.1.trans hbs
    have cn := HKP.out.2.trans hbn
    have hjk := HJK.out
    by_cases hlt : k < q
    · have h1 : (j : Int) < (len : Int) := by omega
      have h2 : (0 : Int) ≤ (j : Int) := by omega
      have h3 : (j : Int) ≤ (len : Int) := by omega
      have h4 : (len : Int) ≤ (cap : Int) := by omega
      obtain ⟨A', hsl, _⟩ := cut_low (P := Try.prog) kU8 23 5 .i64 Try.underlying23 u8_info (some ⟨b, off, none⟩) len cap j (by omega)
      have hJd : J (List.range k) wr.drew := hJ _ _ _ none HJ.out (grown_drew wr none) (fun r e => by cases e)
      obtain ⟨m, hm⟩ : ∃ m : Nat, m = min 64 (len - j) := ⟨_, rfl⟩
      obtain ⟨en, hen⟩ : ∃ en : Nat, en = j + m := ⟨_, rfl⟩
      have hmn : min (64 : Int) ((len - j : Nat) : Int) = (m : Int) := by omega
      have hw : IntKind.i64.wrap ((j : Int) + (m : Int)) = (en : Int) := i64_id (by omega) (by omega)
      have h5 : (j : Int) ≤ (en : Int) := by omega
      have h6 : (en : Int) ≤ (cap : Int) := by omega
      have hne1 : ¬ en = j := by omega
      have hne2 : ¬ j = en := by omega
      have hpv : pieceV b off len k = .slice (some ⟨b, off + j, none⟩) (en - j) (en - j) := by
        unfold pieceV
        rw [show min 64 (len - 64 * k) = en - j by omega, show off + 64 * k = off + j by omega]
      obtain ⟨fn, tmps, assign, body, hy, hR⟩ := hY (List.range k) k wr.drew hJd (by rw [List.length_range]; exact hlt)
      rw [hpv] at hy
      have HM := Lib.hid hm
      have HR := Lib.hid hR
      clear hpv hR
      have HEN := Lib.hid hen
      have hm1 : 1 ≤ m := by omega
      clear hjk hm hen
      gi_wp2
      gi_region
      all_goals gi_wp2
      all_goals
        refine HR.out.mono ?_
        rintro e W3 (⟨rfl, hJ3, hk3⟩ | ⟨rfl, hJx3⟩)
        · have cn3 : W3.cell? ⟨bn, 0, none⟩ = some (.int .i64 64) := hk3.2.trans cn
          have HJ3 := Lib.hid hJ3
          have HK3 := Lib.hid hk3
          obtain ⟨j2, hj2⟩ : ∃ j2 : Nat, j2 = j + 64 := ⟨_, rfl⟩
          have hw2 : IntKind.i64.wrap ((j : Int) + 64) = (j2 : Int) := i64_id (by omega) (by omega)
          have HJ2 := Lib.hid hj2
          clear hJ3 hk3 hj2
          gi_wp2
          have e1 := HJ2.out
          have e2 := HJK.out
          exact ⟨⟨k + 1, j2, rfl, by show _ = _; omega, by omega, by rw [List.range_succ]; exact HJ3.out, ⟨HK3.out.1.trans HKP.out.1, HK3.out.2.trans HKP.out.2⟩⟩, by simp [intOf]; omega⟩
        · gi_wp2
          refine bodyPost_ret (results_none rfl _ _ _) rfl ?_
          exact ⟨⟨_, rfl⟩, .inr ⟨_, trivial, hJx3⟩⟩
    · have h1 : ¬ (j : Int) < (len : Int) := by omega
      obtain rfl : k = q := by omega
      clear hjk
      gi_wp2
      go_end0
      exact ⟨⟨_, rfl⟩, .inl HJ.out⟩
theorem KpC.trans {bs bn : Nat} {A B C : World} (h : KpC bs bn A B) (k : KpC bs bn B C) : KpC bs bn A C := ⟨k.1.trans h.1, k.2.trans h.2⟩
theorem KpC.put {bs bn : Nat} {w : World} (h1 : bs < w.heap.size) (h2 : bn < w.heap.size) (W : World) (l : Nat) (o o' : Obj) (hl : w.heap.size ≤ l) (h : W.heap[l]? = some o) : KpC bs bn W (W.putObj l o') := by
  have hx : ∀ k, k < w.heap.size → (W.putObj l o').heap[k]? = W.heap[k]? := fun k hk => World.putObj_heap_other (by omega)
  exact ⟨World.cell?_of_block (a := ⟨bs, 0, none⟩) (hx bs h1), World.cell?_of_block (a := ⟨bn, 0, none⟩) (hx bn h2)⟩
theorem Chunk1_stops (F : Fence) (n : Nat) (hF : F.fn 64) (hro : F.round = none) (hn : 1 ≤ n) (bs bn b off len cap q : Nat) (hq : len ≤ 64 * q) (hq2 : 64 * q < len + 64) (hlen : len ≤ 1000000) (hcap : len ≤ cap) (hcm : cap ≤ maxLen) (w : World) (hb1 : bs < w.heap.size) (hb2 : bn < w.heap.size)
    (hbs : w.cell? ⟨bs, 0, none⟩ = some (.slice (some ⟨b, off, none⟩) len cap)) (hbn : w.cell? ⟨bn, 0, none⟩ = some (.int .i64 64)) :
    SeqStopsK F n Try.prog 64 #[.pointer (some ⟨bs, 0, none⟩), .pointer (some ⟨bn, 0, none⟩)] (fun k : Nat => #[pieceV b off len k]) (KpC bs bn) (fun xs => xs = List.range q) (fun _ => True) q w := by
  intro l J Jx W hW hJ hJx hY h0
  exact Chunk1_in F n hF hro hn l bs bn b off len cap q hq hq2 hlen hcap hcm W.heap.size J Jx hJ hY W ((hW.cell (p := ⟨bs, 0, none⟩) hb1).trans hbs) ((hW.cell (p := ⟨bn, 0, none⟩) hb2).trans hbn) h0
/-! ### an operation in a round -/
section
variable {P : Program} {ops : Array Oper} {Q : Exit → Act → World → Prop} {md : Region.Mode}
theorem Oper.wp_round {o : Oper} {a : Act} {w : World} {K : Act → World → Prop} (l n : Nat) (hd : ∀ c, o.op ≠ .defer c) (h : Oper.wp P o a w K Q) : o.wpIn (Fence.wide.inRound l) n P a w K Q := by
  refine ⟨fun _ _ => trivial, ?_⟩
  rw [show (Fence.wide.inRound l).round = some l from rfl, Oper.semAt_some l _ _ hd]
  unfold Oper.wp at h
  generalize (execOp a.eval o).run P w = r at *
  cases r with
  | ok x w' =>
    cases x with
    | value v => exact h
    | skip => exact h
    | defer d => exact h
    | enter f args => exact ⟨fun h => (nomatch h), CallsIn.inRound l (callsIn_wide.2 h)⟩
    | row row args =>
      refine ⟨fun h => (nomatch h), fun c cs _ => ?_⟩
      obtain ⟨v, w2, r1, s⟩ := h c cs
      exact ⟨v, w2, r1, stepsIn_wide.2 s⟩
    | _ => exact h.elim
  | halt x w' =>
    cases x with
    | panic v => exact h
    | _ => exact h.elim
theorem wpOp_round {i : Nat} {K : Act → World → Prop} {a : Act} {w : World} (l n : Nat) (hd : ∀ (j : Nat) (o : Oper) c, ops[j]? = some o → o.op ≠ .defer c) (hQ : ¬ LetsOut Q) (h : wpOp P ops Q i K a w) : wpOpIn (Fence.wide.inRound l) n P ops Q i K a w := by
  unfold wpOp at h
  unfold wpOpIn
  cases ho : ops[i]? with
  | none => rw [ho] at h; exact h
  | some o =>
    rw [ho] at h
    simp only at h ⊢
    split
    · rename_i hw
      rw [if_pos hw] at h
      rcases h with h | h
      · exact Oper.wp_round l n (fun c => hd i o c ho) h
      · exact absurd h.2 hQ
    · rename_i hw
      rw [if_neg hw] at h
      exact ⟨fun _ _ => trivial, h⟩
theorem wpAny_round (l n : Nat) (hd : ∀ (j : Nat) (o : Oper) c, ops[j]? = some o → o.op ≠ .defer c) (hQ : ¬ LetsOut Q) : ∀ (fuel : Nat) (listed : Array Bool) (a : Act) (w : World), wpAny P md ops Q fuel listed a w → wpAnyIn (Fence.wide.inRound l) n P md ops Q fuel listed a w
  | 0, _, _, _, h => h
  | fuel + 1, listed, a, w, h => ⟨h.1, fun i hi => wpOp_round l n hd hQ (wpOp_mono (fun a w h => wpAny_round l n hd hQ fuel _ a w h) (h.2 i hi))⟩
/-- A region that draws, in a round of a loop over a function: the loads are taken under S. -/
theorem wpIn_region_held_round {S : World → Prop} {id : Nat} {a : Act} {w : World} (l n : Nat) (hm : P.follows .mixedOrders = true) (hd : ∀ (j : Nat) (o : Oper) c, ops[j]? = some o → o.op ≠ .defer c) (hQ : ¬ LetsOut Q) (hS : S w.drew)
    (h : S w.drew → wpAnyH P .any ops Q S ops.size (Array.replicate ops.size false) a w.drew) : (Code.region id ops true).wpIn (Fence.wide.inRound l) n P Q a w :=
  wpIn_region_any hm (wpAny_round l n hd hQ _ _ _ _ (wpAny_of_held _ _ _ _ (h hS)))
end
end Go.Proofs.Ytalihocoekplgaa
