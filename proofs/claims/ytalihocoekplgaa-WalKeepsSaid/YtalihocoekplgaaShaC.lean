/- sha: one block and more. -/
import Derived.Test.YtalihocoekplgaaShaB
import Derived.BigRegion
import Derived.BigQuiet
import Derived.Deep.RegionHeld3
set_option linter.unusedVariables false
set_option linter.unusedSimpArgs false
namespace Go.Proofs.Ytalihocoekplgaa
open Go.RowKit

def lenV : Value → Nat
  | .slice _ n _ => n
  | _ => 0
theorem i64_id {a : Int} {b : Int} (h0 : a = b) (h : -9223372036854775808 ≤ b ∧ b ≤ 9223372036854775807) : IntKind.i64.wrap a = b := by
  subst h0
  have e1 : (2 : Int) ^ 64 = 18446744073709551616 := by decide
  have e2 : (2 : Int) ^ (64 - 1) = 9223372036854775808 := by decide
  simp only [IntKind.wrap, IntKind.bits, IntKind.signed, Bool.true_and, decide_eq_true_eq, e1, e2]
  split <;> omega
theorem lenV_slice (A : Option Addr) (n cp : Nat) : lenV (.slice A n cp) = n := rfl
/-- Bytes that lie below S, and not in the first eight cells of g. -/
def Src (w : World) (g S : Nat) (A : Option Addr) (n cp : Nat) (xs : List UInt8) : Prop :=
  xs.length = n ∧ n ≤ cp ∧ cp ≤ maxLen ∧ (0 < n → ∃ bb off, A = some ⟨bb, off, none⟩ ∧ bb < S ∧ (bb = g → 8 ≤ off) ∧ w.rangeAt bb off (bcells xs))
theorem Src.keep {w w' : World} {g S : Nat} {A : Option Addr} {n cp : Nat} {xs : List UInt8} (h : Src w g S A n cp xs) (hw : ∀ b, b < S → b ≠ g → w'.heap[b]? = w.heap[b]?) (hg : ∀ i, 8 ≤ i → w'.cell? ⟨g, i, none⟩ = w.cell? ⟨g, i, none⟩) : Src w' g S A n cp xs := by
  obtain ⟨h1, h2, h3, h4⟩ := h
  refine ⟨h1, h2, h3, fun hn => ?_⟩
  obtain ⟨bb, off, e, hb, ho, hr⟩ := h4 hn
  refine ⟨bb, off, e, hb, ho, fun j v hv => ?_⟩
  by_cases hbg : bb = g
  · have := ho hbg
    subst hbg
    rw [hg _ (by omega)]
    exact hr j v hv
  · exact (World.cell?_of_block (a := ⟨bb, off + j, none⟩) (hw bb hb hbg)).trans (hr j v hv)
theorem Src.byte {w : World} {g S bb off n cp : Nat} {xs : List UInt8} (h : Src w g S (some ⟨bb, off, none⟩) n cp xs) {k : Nat} {x : UInt8} (hx : xs[k]? = some x) : w.cell? ⟨bb, off + k, none⟩ = some (.int .u8 (x.toNat : Int)) := by
  obtain ⟨h1, h2, h3, h4⟩ := h
  have hk := (List.getElem?_eq_some_iff.1 hx).1
  obtain ⟨bb', off', e, hb, ho, hr⟩ := h4 (by omega)
  cases e
  exact hr k _ (bcells_at xs k x hx)
theorem Src.drop {w : World} {g S : Nat} {A : Option Addr} {n cp : Nat} {xs : List UInt8} (h : Src w g S A n cp xs) {m : Nat} (hm : m ≤ n) : Src w g S (if cp = m then A else A.map (·.add m)) (n - m) (cp - m) (xs.drop m) := by
  obtain ⟨h1, h2, h3, h4⟩ := h
  refine ⟨by rw [List.length_drop, h1], by omega, by omega, fun hn => ?_⟩
  have hn' : 0 < n := by omega
  have hne : ¬ cp = m := by omega
  obtain ⟨bb, off, rfl, hb, ho, hr⟩ := h4 hn'
  rw [if_neg hne]
  refine ⟨bb, off + m, by simp [addr_add], hb, fun e => Nat.le_trans (ho e) (Nat.le_add_right _ _), ?_⟩
  have h := range_drop hr m
  simpa [bcells, List.map_drop] using h
theorem cell2_keep {w : World} {b i : Nat} {u : Value} {o0 o1 : Nat} {v0 v1 : Value} (h0 : o0 ≠ i) (h1 : o1 ≠ i) (h : w.cell? ⟨b, o0, none⟩ = some v0 ∧ w.cell? ⟨b, o1, none⟩ = some v1) :
    (w.setCell ⟨b, i, none⟩ u).cell? ⟨b, o0, none⟩ = some v0 ∧ (w.setCell ⟨b, i, none⟩ u).cell? ⟨b, o1, none⟩ = some v1 :=
  ⟨(World.cell?_setCell_other w ⟨b, i, none⟩ ⟨b, o0, none⟩ u (by intro e; cases e; exact h0 rfl)).trans h.1, (World.cell?_setCell_other w ⟨b, i, none⟩ ⟨b, o1, none⟩ u (by intro e; cases e; exact h1 rfl)).trans h.2⟩
theorem cell4_keep {w : World} {b b' i : Nat} {u : Value} {o0 o1 o2 o3 : Nat} {v0 v1 v2 v3 : Value} (hb : b ≠ b') (h : w.cell? ⟨b, o0, none⟩ = some v0 ∧ w.cell? ⟨b, o1, none⟩ = some v1 ∧ w.cell? ⟨b, o2, none⟩ = some v2 ∧ w.cell? ⟨b, o3, none⟩ = some v3) :
    (w.setCell ⟨b', i, none⟩ u).cell? ⟨b, o0, none⟩ = some v0 ∧ (w.setCell ⟨b', i, none⟩ u).cell? ⟨b, o1, none⟩ = some v1 ∧ (w.setCell ⟨b', i, none⟩ u).cell? ⟨b, o2, none⟩ = some v2 ∧ (w.setCell ⟨b', i, none⟩ u).cell? ⟨b, o3, none⟩ = some v3 := by
  have e := heap_of_setCell w ⟨b', i, none⟩ u b hb
  exact ⟨(World.cell?_of_block (a := ⟨b, o0, none⟩) e).trans h.1, (World.cell?_of_block (a := ⟨b, o1, none⟩) e).trans h.2.1, (World.cell?_of_block (a := ⟨b, o2, none⟩) e).trans h.2.2.1, (World.cell?_of_block (a := ⟨b, o3, none⟩) e).trans h.2.2.2⟩
def be4 (b0 b1 b2 b3 : Int) : Int := bits .or .u32 (bits .or .u32 (bits .or .u32 (b0 % 4294967296 * 16777216 % 4294967296) (b1 % 4294967296 * 65536 % 4294967296)) (b2 % 4294967296 * 256 % 4294967296)) (b3 % 4294967296)
def bAt (xs : List UInt8) (i : Nat) : Int := ((xs[i]?.getD 0).toNat : Int)
theorem bAt_eq {xs : List UInt8} {i : Nat} {x : UInt8} (h : xs[i]? = some x) : bAt xs i = (x.toNat : Int) := by
  unfold bAt
  rw [h]
  rfl
def wordOf (xs : List UInt8) (i : Nat) : Int := be4 (bAt xs (4 * i)) (bAt xs (4 * i + 1)) (bAt xs (4 * i + 2)) (bAt xs (4 * i + 3))
def x3 (a b c : Int) : Int := bits .xor .u32 (bits .xor .u32 a b) c
def sg0 (x : Int) : Int := x3 (rr 7 x) (rr 18 x) (x / 8)
def sg1 (x : Int) : Int := x3 (rr 17 x) (rr 19 x) (x / 1024)
def iAt (L : List Int) (i : Nat) : Int := L[i]?.getD 0
theorem iAt_eq {L : List Int} {i : Nat} {x : Int} (h : L[i]? = some x) : iAt L i = x := by
  unfold iAt
  rw [h]
  rfl
def wNext (a x b y : Int) : Int := (((a + sg0 x) % 4294967296 + b) % 4294967296 + sg1 y) % 4294967296
def schedF (xs : List UInt8) (i : Nat) (L : List Int) : Int := if i < 16 then wordOf xs i else wNext (iAt L (i - 16)) (iAt L (i - 15)) (iAt L (i - 7)) (iAt L (i - 2))
theorem ucells_set (l : List Int) (j : Nat) (x : Int) : (ucells l).set j (.int .u32 x) = ucells (l.set j x) := by
  unfold ucells
  rw [List.map_set]
theorem cut_src (A : Option Addr) (n cp : Nat) (hm : 64 ≤ n) :
    ∃ A' : Option Addr, (∀ W : World, (Instr.slice 23 (.slice A n cp) (some (.int .i64 64)) none none).run Try.prog W = .ok (.slice A' (n - 64) (cp - 64)) W) ∧
      ∀ (w : World) (g S : Nat) (xs : List UInt8), Src w g S A n cp xs → Src w g S A' (n - 64) (cp - 64) (xs.drop 64) := by
  obtain ⟨i, hi, hzz⟩ := Option.map_eq_some_iff.1 u8_info
  simp only [Prod.mk.injEq] at hzz
  refine ⟨if cp = 64 then A else A.map (·.add 64), fun W => ?_, fun w g S xs h => h.drop hm⟩
  have hel : Try.prog.elem 23 = 5 := by simp [Program.elem, Try.underlying23]
  have hu : Try.prog.underlying 23 = some (.slice (Try.prog.elem 23)) := by rw [hel]; exact Try.underlying23
  have h := run_slice_l (P := Try.prog) W 23 A n cp hu .i64 ((64 : Nat) : Int) (Int.natCast_nonneg _) (by omega)
  rw [hel] at h
  have e : ((64 : Nat) : Int) = (64 : Int) := rfl
  rw [e] at h
  rw [h]
  simp [sizeOf, typeInfo, hi, hzz.2.1, sliced, Result.andThen]
def stepL (f : Nat → List Int → Int) : Nat → List Int
  | 0 => []
  | i + 1 => stepL f i ++ [f i (stepL f i)]
theorem stepL_succ (f : Nat → List Int → Int) (i : Nat) : stepL f (i + 1) = stepL f i ++ [f i (stepL f i)] := rfl
theorem stepL_len (f : Nat → List Int → Int) : ∀ i, (stepL f i).length = i
  | 0 => rfl
  | i + 1 => by rw [stepL, List.length_append, stepL_len f i]; rfl
/-- A row that is filled from the front. -/
def filled (L : List Int) (Wc : List Value) : List Value := ucells L ++ Wc.drop L.length
theorem filled_len {L : List Int} {Wc : List Value} (h : L.length ≤ Wc.length) : (filled L Wc).length = Wc.length := by
  simp [filled, ucells_len]; omega
theorem filled_nil (Wc : List Value) : filled [] Wc = Wc := by simp [filled, ucells]
theorem filled_set {L : List Int} {Wc : List Value} (h : L.length < Wc.length) (x : Int) : (filled L Wc).set L.length (.int .u32 x) = filled (L ++ [x]) Wc := by
  unfold filled
  rw [List.set_append_right _ _ (by rw [ucells_len]; exact Nat.le_refl _), ucells_len, Nat.sub_self]
  obtain ⟨y, ys, hd⟩ : ∃ y ys, Wc.drop L.length = y :: ys := by
    cases hd : Wc.drop L.length with
    | nil => rw [List.drop_eq_nil_iff] at hd; omega
    | cons y ys => exact ⟨y, ys, rfl⟩
  have h2 : Wc.drop (L ++ [x]).length = ys := by
    rw [List.length_append, ← List.drop_drop, hd]
    rfl
  rw [h2, hd]
  simp [ucells]
theorem filled_step {xs : List UInt8} {k : Nat} {Wc : List Value} (h : k < Wc.length) {x : Int} (hx : schedF xs k (stepL (schedF xs) k) = x) : (filled (stepL (schedF xs) k) Wc).set k (.int .u32 x) = filled (stepL (schedF xs) (k + 1)) Wc := by
  have hl := stepL_len (schedF xs) k
  rw [stepL_succ, hx, ← filled_set (by rw [hl]; exact h), hl]
theorem filled_at {L : List Int} {Wc : List Value} {i : Nat} {x : Int} (h : L[i]? = some x) : (filled L Wc)[i]? = some (.int .u32 x) := by
  unfold filled
  rw [List.getElem?_append_left (by rw [ucells_len]; exact (List.getElem?_eq_some_iff.1 h).1)]
  exact ucells_at h
theorem setIf_list (l : List Value) (i : Nat) (v : Value) : l.toArray.setIfInBounds i v = (l.set i v).toArray := by rw [List.setIfInBounds_toArray]
def chF (e f g : Int) : Int := bits .xor .u32 (bits .and .u32 e f) (bits .and .u32 (bits .xor .u32 (if IntKind.u32.signed = true then -1 else IntKind.u32.max) e) g)
def oneF (e f g h k w : Int) : Int := IntKind.u32.wrap (IntKind.u32.wrap (IntKind.u32.wrap (IntKind.u32.wrap (h + x3 (rr 6 e) (rr 11 e) (rr 25 e)) + chF e f g) + k) + w)
def twoF (a b c : Int) : Int := x3 (rr 2 a) (rr 13 a) (rr 22 a) + x3 (bits .and .u32 a b) (bits .and .u32 a c) (bits .and .u32 b c)
theorem set8 {w : World} {b : Nat} {T : TypeId} {a0 a1 a2 a3 a4 a5 a6 a7 : Value} (h : w.heap[b]? = some (.cells #[a0, a1, a2, a3, a4, a5, a6, a7] T (0, 0))) (v0 v1 v2 v3 v4 v5 v6 v7 : Value) :
    ((((((((w.setCell ⟨b, 7, none⟩ v7).setCell ⟨b, 6, none⟩ v6).setCell ⟨b, 5, none⟩ v5).setCell ⟨b, 4, none⟩ v4).setCell ⟨b, 3, none⟩ v3).setCell ⟨b, 2, none⟩ v2).setCell ⟨b, 1, none⟩ v1).setCell ⟨b, 0, none⟩ v0).heap[b]? = some (.cells #[v0, v1, v2, v3, v4, v5, v6, v7] T (0, 0)) ∧
    w.grownBy ((((((((w.setCell ⟨b, 7, none⟩ v7).setCell ⟨b, 6, none⟩ v6).setCell ⟨b, 5, none⟩ v5).setCell ⟨b, 4, none⟩ v4).setCell ⟨b, 3, none⟩ v3).setCell ⟨b, 2, none⟩ v2).setCell ⟨b, 1, none⟩ v1).setCell ⟨b, 0, none⟩ v0) (some b) := by
  have t : ∀ {w1 : World} (i : Nat) (v : Value), w.grownBy w1 (some b) → w.grownBy (w1.setCell ⟨b, i, none⟩ v) (some b) := fun i v h => grownBy_trans h (grown_setCell _ b i v)
  have s7 := blk_set h 7 v7
  have s6 := blk_set s7 6 v6
  have s5 := blk_set s6 5 v5
  have s4 := blk_set s5 4 v4
  have s3 := blk_set s4 3 v3
  have s2 := blk_set s3 2 v2
  have s1 := blk_set s2 1 v1
  have s0 := blk_set s1 0 v0
  refine ⟨?_, ?_⟩
  · simp only [List.setIfInBounds_toArray, List.set_cons_succ, List.set_cons_zero] at s0
    exact s0
  · exact t 0 v0 (t 1 v1 (t 2 v2 (t 3 v3 (t 4 v4 (t 5 v5 (t 6 v6 (t 7 v7 (World.grownBy.refl w _))))))))
def rnd (k w : Int) : List Int → List Int
  | [a, b, c, d, e, f, g, h] => [(oneF e f g h k w + twoF a b c) % 4294967296, a, b, c, (d + oneF e f g h k w) % 4294967296, e, f, g]
  | l => l
def roundL (WL : List Int) (hs : List Int) : Nat → List Int
  | 0 => hs
  | t + 1 => rnd (iAt kTab t) (iAt WL t) (roundL WL hs t)
theorem list8 {l : List Int} (h : l.length = 8) : ∃ a b c d e f g h, l = [a, b, c, d, e, f, g, h] := by
  match l, h with
  | [a, b, c, d, e, f, g, h], _ => exact ⟨a, b, c, d, e, f, g, h, rfl⟩
theorem roundL_len (WL hs : List Int) (h : hs.length = 8) : ∀ t, (roundL WL hs t).length = 8
  | 0 => h
  | t + 1 => by
    obtain ⟨a, b, c, d, e, f, g, h', e'⟩ := list8 (roundL_len WL hs h t)
    show (rnd _ _ _).length = 8
    rw [e']
    rfl
def addM (x y : Int) : Int := (x + y) % 4294967296
/-- The first j are added. -/
def addL (hs vs : List Int) (j : Nat) : List Int := hs.mapIdx (fun i x => if i < j then addM x (iAt vs i) else x)
theorem addL_len (hs vs : List Int) (j : Nat) : (addL hs vs j).length = hs.length := by simp [addL]
theorem addL_get (hs vs : List Int) (j i : Nat) : (addL hs vs j)[i]? = (hs[i]?).map (fun x => if i < j then addM x (iAt vs i) else x) := by
  unfold addL
  rw [List.getElem?_mapIdx]
theorem addL_zero (hs vs : List Int) : addL hs vs 0 = hs := by
  apply List.ext_getElem?
  intro i
  rw [addL_get]
  cases hs[i]? <;> simp
theorem addL_at {hs vs : List Int} {j : Nat} {x : Int} (h : hs[j]? = some x) : (addL hs vs j)[j]? = some x := by
  rw [addL_get, h]
  simp
theorem addL_step {hs vs : List Int} {j : Nat} {x v : Int} (h : hs[j]? = some x) (hv : vs[j]? = some v) : (addL hs vs j).set j (addM x v) = addL hs vs (j + 1) := by
  apply List.ext_getElem?
  intro i
  by_cases e : j = i
  · subst e
    rw [List.getElem?_set_self (by rw [addL_len]; exact (List.getElem?_eq_some_iff.1 h).1), addL_get, h]
    simp [iAt_eq hv]
  · rw [List.getElem?_set_ne e, addL_get, addL_get]
    have : i < j ↔ i < j + 1 := by omega
    simp only [this]
/-- One block. -/
def blk (hs : List Int) (ys : List UInt8) : List Int := addL hs (roundL (stepL (schedF ys) 64) hs 64) 8
def foldN : Nat → List Int → List UInt8 → List Int
  | 0, hs, _ => hs
  | n + 1, hs, ys => foldN n (blk hs ys) (ys.drop 64)
/-- All whole blocks. -/
def foldB (hs : List Int) (ys : List UInt8) : List Int := foldN (ys.length / 64) hs ys
theorem foldB_end (hs : List Int) (ys : List UInt8) (h : ys.length < 64) : foldB hs ys = hs := by
  unfold foldB
  rw [Nat.div_eq_of_lt h]
  rfl
theorem foldB_step (hs : List Int) (ys : List UInt8) (h : 64 ≤ ys.length) : foldB hs ys = foldB (blk hs ys) (ys.drop 64) := by
  unfold foldB
  have e : ys.length / 64 = (ys.drop 64).length / 64 + 1 := by rw [List.length_drop]; omega
  rw [e]
  rfl
theorem hgq_drew {wr wq : World} {r : Option Nat} (h : wr.grownBy wq r) : wr.grownBy wq.drew r := ⟨h.os, h.tape, h.output, h.size, h.block⟩
theorem grown_trans {w w1 w2 : World} {r r1 r2 : Option Nat} (h : w.grownBy w1 r1) (k : w1.grownBy w2 r2) (h1 : ∀ i, i < w.heap.size → some i ≠ r → some i ≠ r1) (h2 : ∀ i, i < w.heap.size → some i ≠ r → some i ≠ r2) : w.grownBy w2 r :=
  ⟨k.os.trans h.os, k.tape.trans h.tape, k.output.trans h.output, Nat.le_trans h.size k.size, fun i hi hr => (k.block i (Nat.lt_of_lt_of_le hi h.size) (h2 i hi hr)).trans (h.block i hi (h1 i hi hr))⟩
theorem hgq_step {wr wq : World} {b : Nat} (h : wr.grownBy wq (some b)) (i : Nat) (u : Value) : wr.grownBy (wq.setCell ⟨b, i, none⟩ u).drew (some b) :=
  grown_trans h (grown_trans (grown_setCell wq b i u) (grown_drew _ (some b)) (fun _ _ h => h) (fun _ _ h => h)) (fun _ _ h => h) (fun _ _ h => h)
set_option maxRecDepth 100000 in
set_option maxHeartbeats 8000000 in
theorem HBlock_any (w : World) (g : Nat) (A : Option Addr) (n cp : Nat) (xs : List UInt8) (hs : List Int) (tl : List Value) (hl : hs.length = 8) (hg : w.heap[g]? = some (.cells (ucells hs ++ tl).toArray 139 (0, 0))) (hx : Src w g w.heap.size A n cp xs) :
    Calls Try.prog 86 #[.pointer (some ⟨g, 0, none⟩), .slice A n cp] w fun e w' => e = .returned (.tuple #[]) ∧ w.grownBy w' (some g) ∧ w'.heap[g]? = some (.cells (ucells (foldB hs xs) ++ tl).toArray 139 (0, 0)) := by
  obtain ⟨C, hC⟩ : ∃ C, ucells kTab = C := ⟨_, rfl⟩
  have hCl : C.length = 64 := by rw [← hC]; rfl
  have hCa : ∀ (i : Nat) (k : Int), kTab[i]? = some k → C.toArray[i]? = some (Value.int .u32 k) := by
    intro i k h
    rw [← hC, List.getElem?_toArray]
    exact ucells_at h
  have hC1 : ∀ v ∈ C, v.oneCell' = true := fun v hv => ucells_one (hC ▸ hv)
  have HR := Lib.hid (HRounds_any w)
  rw [hC] at HR
  have HCA := Lib.hid hCa
  have HG := Lib.hid hg
  have HX := Lib.hid hx
  clear hg hx
  clear hC hCa
  go_enter Try.func86, Try.ntmps86
  go_wp2_with fail
  refine (HR.out).mono ?_
  rintro e w1 ⟨rfl, q_HB1⟩
  have HB1 := Lib.hid q_HB1
  clear q_HB1
  have hst := run_storeCells_new (P := Try.prog) w1 135 #[.int .u32 0, .int .u32 0, .int .u32 0, .int .u32 0, .int .u32 0, .int .u32 0, .int .u32 0, .int .u32 0, .int .u32 0, .int .u32 0, .int .u32 0, .int .u32 0, .int .u32 0, .int .u32 0, .int .u32 0, .int .u32 0, .int .u32 0, .int .u32 0, .int .u32 0, .int .u32 0, .int .u32 0, .int .u32 0, .int .u32 0, .int .u32 0, .int .u32 0, .int .u32 0, .int .u32 0, .int .u32 0, .int .u32 0, .int .u32 0, .int .u32 0, .int .u32 0, .int .u32 0, .int .u32 0, .int .u32 0, .int .u32 0, .int .u32 0, .int .u32 0, .int .u32 0, .int .u32 0, .int .u32 0, .int .u32 0, .int .u32 0, .int .u32 0, .int .u32 0, .int .u32 0, .int .u32 0, .int .u32 0, .int .u32 0, .int .u32 0, .int .u32 0, .int .u32 0, .int .u32 0, .int .u32 0, .int .u32 0, .int .u32 0, .int .u32 0, .int .u32 0, .int .u32 0, .int .u32 0, .int .u32 0, .int .u32 0, .int .u32 0, .int .u32 0] C.toArray (by simp only [List.size_toArray, hCl]; kernel_rfl) (by simp only [List.size_toArray, hCl]; rfl) (all_oneCell_toArray hC1)
  go_wp2_with fail
  have hZ : ∃ Z : List Value, Z.length = 64 ∧ (#[.int .u32 0, .int .u32 0, .int .u32 0, .int .u32 0, .int .u32 0, .int .u32 0, .int .u32 0, .int .u32 0, .int .u32 0, .int .u32 0, .int .u32 0, .int .u32 0, .int .u32 0, .int .u32 0, .int .u32 0, .int .u32 0, .int .u32 0, .int .u32 0, .int .u32 0, .int .u32 0, .int .u32 0, .int .u32 0, .int .u32 0, .int .u32 0, .int .u32 0, .int .u32 0, .int .u32 0, .int .u32 0, .int .u32 0, .int .u32 0, .int .u32 0, .int .u32 0, .int .u32 0, .int .u32 0, .int .u32 0, .int .u32 0, .int .u32 0, .int .u32 0, .int .u32 0, .int .u32 0, .int .u32 0, .int .u32 0, .int .u32 0, .int .u32 0, .int .u32 0, .int .u32 0, .int .u32 0, .int .u32 0, .int .u32 0, .int .u32 0, .int .u32 0, .int .u32 0, .int .u32 0, .int .u32 0, .int .u32 0, .int .u32 0, .int .u32 0, .int .u32 0, .int .u32 0, .int .u32 0, .int .u32 0, .int .u32 0, .int .u32 0, .int .u32 0] : Array Value) = Z.toArray := ⟨List.replicate 64 (.int .u32 0), by rw [List.length_replicate], rfl⟩
  obtain ⟨Z, hZl, hZ⟩ := hZ
  rw [hZ]
  clear hst hZ
  obtain ⟨kb, hkb⟩ : ∃ kb, w1.heap.size = kb := ⟨_, rfl⟩
  have hgl := blk_lt HG.out
  have hw1s := HB1.out.size
  have hK0 := heap_alloc_new w1 (.cells C.toArray 135)
  have hW0 := heap_alloc_new (w1.alloc (.cells C.toArray 135)) (.cells Z.toArray 135)
  have hK1 := (below_alloc (w1.alloc (.cells C.toArray 135)) (.cells Z.toArray 135)).block w1.heap.size (blk_lt hK0)
  rw [hK0] at hK1
  have hB2 := below_then HB1.out (below_then (below_alloc w1 (.cells C.toArray 135)) (below_alloc (w1.alloc (.cells C.toArray 135)) (.cells Z.toArray 135)))
  have e1 : (w1.alloc (.cells C.toArray 135)).heap.size = kb + 1 := by simp [hkb]
  rw [e1] at hW0
  rw [hkb] at hK1 ⊢
  generalize (w1.alloc (.cells C.toArray 135)).alloc (.cells Z.toArray 135) = w2 at *
  have hwkb : w.heap.size ≤ kb := by omega
  have hgr2 : w.grownBy w2 (some g) := ⟨hB2.os, hB2.tape, hB2.output, hB2.size, fun i hi _ => hB2.block i hi⟩
  have hg2 := (hB2.block g hgl).trans HG.out
  have hx2 : Src w2 g w.heap.size A n cp xs := HX.out.keep (fun b hb _ => hB2.block b hb) (fun i _ => hB2.cell (p := ⟨g, i, none⟩) hgl)
  have HK := Lib.hid hK1
  have HW0 := Lib.hid hW0
  have HGR2 := Lib.hid hgr2
  have HG2 := Lib.hid hg2
  have HX2 := Lib.hid hx2
  clear hK1 hW0 hgr2 hg2 hx2
  clear hB2 e1 hK0 hw1s HB1 hkb HG HX HR
  have hnx := HX2.out.1
  have hn62 : n ≤ maxLen := Nat.le_trans HX2.out.2.1 HX2.out.2.2.1
  simp only [maxLen] at hn62
  go_loopw [1] (fun b wr => ∃ (A : Option Addr) (m cp : Nat) (ys : List UInt8) (hs' : List Int) (Wc : List Value), b = .slice A m cp ∧ m ≤ 9223372036854775807 ∧ Hid (hs'.length = 8) ∧ Hid (Wc.length = 64) ∧ Hid (Src wr g w.heap.size A m cp ys) ∧ Hid (foldB hs xs = foldB hs' ys) ∧ Hid (w.grownBy wr (some g)) ∧ Hid (wr.heap[g]? = some (.cells (ucells hs' ++ tl).toArray 139 (0, 0))) ∧ Hid (wr.heap[kb]? = some (.cells C.toArray 135 (0, 0))) ∧ Hid (wr.heap[kb + 1]? = some (.cells Wc.toArray 135 (0, 0)))) (fun b _ => lenV b)
  case atStart => exact ⟨A, n, cp, xs, hs, Z, rfl, hn62, hl, hZl, HX2, rfl, HGR2, HG2, HK, HW0⟩
  case round =>
    obtain ⟨A, m, cp, ys, hs', Wc, rfl, hm62, HL, HWL, HS, HFB, HGR, HGB, HKB, HWB⟩ := hrel
    by_cases hm : 64 ≤ m
    · have hmi : (64 : Int) ≤ (m : Int) := by omega
      have hkbr := blk_lt HWB.out
      obtain ⟨X, hX⟩ : ∃ X, wr = X := ⟨_, rfl⟩
      have HGB0 := HGB
      rw [hX] at HS HGR HGB HKB HWB hkbr
      have HXX : Hid (X.grownBy wr (some (kb + 1))) := by
        show X.grownBy wr _
        rw [hX]
        exact World.grownBy.refl X _
      have HWB' : Hid (wr.heap[kb + 1]? = some (.cells Wc.toArray 135 (0, 0))) := by
        show _ = _
        rw [hX]
        exact HWB.out
      clear hX HGB0
      go_wp2_with fail
      go_loopw [26] (fun i wq => ∃ (k : Nat), i = .int .i64 (k : Int) ∧ k ≤ 16 ∧ Hid (X.grownBy wq (some (kb + 1))) ∧ Hid (wq.heap[kb + 1]? = some (.cells (filled (stepL (schedF ys) k) Wc).toArray 135 (0, 0)))) (fun i _ => 16 - (intOf i).toNat)
      case atStart =>
        refine ⟨0, rfl, by omega, HXX, ?_⟩
        rw [stepL, filled_nil]
        exact HWB'
      case round =>
        obtain ⟨k, rfl, hk, HGQ, HWQ⟩ := hrel
        have hLk := stepL_len (schedF ys) k
        rcases Nat.lt_or_ge k 16 with hlt | hge
        · obtain ⟨bb, off, rfl, hbb, hbo, hra⟩ := HS.out.2.2.2 (by omega)
          have hsl := HS.out.1
          have hk0 : (0 : Int) ≤ (k : Int) := by omega
          have hk1 : (k : Int) < 16 := by omega
          have hk2 : (k : Int) < 64 := by omega
          have hbk : bb ≠ kb + 1 := by omega
          have hsq : Src wr g w.heap.size (some ⟨bb, off, none⟩) m cp ys := HS.out.keep (fun b hb _ => HGQ.out.block b (by have := HGR.out.size; omega) (by simp; omega)) (fun i _ => World.cell?_of_block (a := ⟨g, i, none⟩) (HGQ.out.block g (by have := HGR.out.size; omega) (by simp; omega)))
          obtain ⟨q0, hq0⟩ : ∃ q0, q0 = 4 * k := ⟨_, rfl⟩
          obtain ⟨q1, hq1⟩ : ∃ q1, q1 = 4 * k + 1 := ⟨_, rfl⟩
          obtain ⟨q2, hq2⟩ : ∃ q2, q2 = 4 * k + 2 := ⟨_, rfl⟩
          obtain ⟨q3, hq3⟩ : ∃ q3, q3 = 4 * k + 3 := ⟨_, rfl⟩
          obtain ⟨x0, hx0⟩ : ∃ x0, ys[q0]? = some x0 := ⟨_, List.getElem?_eq_getElem (by omega)⟩
          obtain ⟨x1, hx1⟩ : ∃ x1, ys[q1]? = some x1 := ⟨_, List.getElem?_eq_getElem (by omega)⟩
          obtain ⟨x2, hx2⟩ : ∃ x2, ys[q2]? = some x2 := ⟨_, List.getElem?_eq_getElem (by omega)⟩
          obtain ⟨x3, hx3⟩ : ∃ x3, ys[q3]? = some x3 := ⟨_, List.getElem?_eq_getElem (by omega)⟩
          have c0 := hsq.byte hx0
          have c1 := hsq.byte hx1
          have c2 := hsq.byte hx2
          have c3 := hsq.byte hx3
          have w0 : IntKind.i64.wrap (4 * (k : Int)) = (q0 : Int) := by rw [hq0]; exact i64_id (by omega) (by omega)
          have w1 : IntKind.i64.wrap ((q0 : Int) + 1) = (q1 : Int) := by rw [hq1, hq0]; exact i64_id (by omega) (by omega)
          have w2 : IntKind.i64.wrap ((q0 : Int) + 2) = (q2 : Int) := by rw [hq2, hq0]; exact i64_id (by omega) (by omega)
          have w3 : IntKind.i64.wrap ((q0 : Int) + 3) = (q3 : Int) := by rw [hq3, hq0]; exact i64_id (by omega) (by omega)
          have i0 : (q0 : Int) < (m : Int) := by omega
          have i1 : (q1 : Int) < (m : Int) := by omega
          have i2 : (q2 : Int) < (m : Int) := by omega
          have i3 : (q3 : Int) < (m : Int) := by omega
          have HQ0 := Lib.hid hq0
          have HQ1 := Lib.hid hq1
          have HQ2 := Lib.hid hq2
          have HQ3 := Lib.hid hq3
          obtain ⟨b0, hb0⟩ : ∃ b0 : Int, (x0.toNat : Int) = b0 := ⟨_, rfl⟩
          obtain ⟨b1, hb1⟩ : ∃ b1 : Int, (x1.toNat : Int) = b1 := ⟨_, rfl⟩
          obtain ⟨b2, hb2⟩ : ∃ b2 : Int, (x2.toNat : Int) = b2 := ⟨_, rfl⟩
          obtain ⟨b3, hb3⟩ : ∃ b3 : Int, (x3.toNat : Int) = b3 := ⟨_, rfl⟩
          rw [hb0] at c0
          rw [hb1] at c1
          rw [hb2] at c2
          rw [hb3] at c3
          have hwl := HWL.out
          have hcw : ∃ u, wr.cell? ⟨kb + 1, k, none⟩ = some u := by
            rw [blk_cell HWQ.out, List.getElem?_toArray]
            exact ⟨_, List.getElem?_eq_getElem (by rw [filled_len (by omega)]; omega)⟩
          obtain ⟨u, hcw⟩ := hcw
          have hfr := blk_free HWQ.out k
          have hsS : wr.drew.cell? ⟨bb, off + q0, none⟩ = some (.int .u8 b0) ∧ wr.drew.cell? ⟨bb, off + q1, none⟩ = some (.int .u8 b1) ∧ wr.drew.cell? ⟨bb, off + q2, none⟩ = some (.int .u8 b2) ∧ wr.drew.cell? ⟨bb, off + q3, none⟩ = some (.int .u8 b3) := ⟨c0, c1, c2, c3⟩
          clear hq0 hq1 hq2 hq3
          go_wp2_with fail
          go_region_held3 (fun w' => w'.cell? ⟨bb, off + q0, none⟩ = some (.int .u8 b0) ∧ w'.cell? ⟨bb, off + q1, none⟩ = some (.int .u8 b1) ∧ w'.cell? ⟨bb, off + q2, none⟩ = some (.int .u8 b2) ∧ w'.cell? ⟨bb, off + q3, none⟩ = some (.int .u8 b3)) (first | assumption | exact cell4_keep hbk (by assumption)) (fail)
          go_wp2_with fail
          have hgs := hgq_step HGQ.out k (.int .u32 (be4 b0 b1 b2 b3))
          refine ⟨⟨k + 1, by go_num, by omega, hgs, ?_⟩, by simp [intOf]; omega⟩
          have h := blk_set HWQ.out k (.int .u32 (be4 b0 b1 b2 b3))
          rw [setIf_list, filled_step (by omega) (x := be4 b0 b1 b2 b3) ?_] at h
          · exact h
          · unfold schedF wordOf
            rw [if_pos hlt, ← HQ3.out, ← HQ2.out, ← HQ1.out, ← HQ0.out, bAt_eq hx0, bAt_eq hx1, bAt_eq hx2, bAt_eq hx3, hb0, hb1, hb2, hb3]
        · have hke : ¬ ((k : Int) < 16) := by omega
          have hk16 : k = 16 := by omega
          have HWQ16 : Hid (wr.heap[kb + 1]? = some (.cells (filled (stepL (schedF ys) 16) Wc).toArray 135 (0, 0))) := by
            show _ = _
            rw [← hk16]
            exact HWQ.out
          clear hk16 hge hk hLk HWQ
          go_wp2_with fail
          go_loopw [7] (fun i wq => ∃ (k : Nat), i = .int .i64 (k : Int) ∧ 16 ≤ k ∧ k ≤ 64 ∧ Hid (X.grownBy wq (some (kb + 1))) ∧ Hid (wq.heap[kb + 1]? = some (.cells (filled (stepL (schedF ys) k) Wc).toArray 135 (0, 0)))) (fun i _ => 64 - (intOf i).toNat)
          case atStart => exact ⟨16, rfl, Nat.le_refl _, by omega, HGQ, HWQ16⟩
          case round =>
            obtain ⟨k, rfl, hk16, hk64, HGQ, HWQ⟩ := hrel
            have hLk := stepL_len (schedF ys) k
            rcases Nat.lt_or_ge k 64 with hlt | hge
            · obtain ⟨L, hL⟩ : ∃ L, stepL (schedF ys) k = L := ⟨_, rfl⟩
              rw [hL] at HWQ hLk
              obtain ⟨j16, hj16⟩ : ∃ j, j = k - 16 := ⟨_, rfl⟩
              obtain ⟨j15, hj15⟩ : ∃ j, j = k - 15 := ⟨_, rfl⟩
              obtain ⟨j7, hj7⟩ : ∃ j, j = k - 7 := ⟨_, rfl⟩
              obtain ⟨j2, hj2⟩ : ∃ j, j = k - 2 := ⟨_, rfl⟩
              obtain ⟨va, hva⟩ : ∃ x, L[j16]? = some x := ⟨_, List.getElem?_eq_getElem (by omega)⟩
              obtain ⟨vx, hvx⟩ : ∃ x, L[j15]? = some x := ⟨_, List.getElem?_eq_getElem (by omega)⟩
              obtain ⟨vb, hvb⟩ : ∃ x, L[j7]? = some x := ⟨_, List.getElem?_eq_getElem (by omega)⟩
              obtain ⟨vy, hvy⟩ : ∃ x, L[j2]? = some x := ⟨_, List.getElem?_eq_getElem (by omega)⟩
              have ca : wr.cell? ⟨kb + 1, j16, none⟩ = some (.int .u32 va) := by rw [blk_cell HWQ.out, List.getElem?_toArray]; exact filled_at hva
              have cx : wr.cell? ⟨kb + 1, j15, none⟩ = some (.int .u32 vx) := by rw [blk_cell HWQ.out, List.getElem?_toArray]; exact filled_at hvx
              have cb : wr.cell? ⟨kb + 1, j7, none⟩ = some (.int .u32 vb) := by rw [blk_cell HWQ.out, List.getElem?_toArray]; exact filled_at hvb
              have cy : wr.cell? ⟨kb + 1, j2, none⟩ = some (.int .u32 vy) := by rw [blk_cell HWQ.out, List.getElem?_toArray]; exact filled_at hvy
              have w16 : IntKind.i64.wrap ((k : Int) - 16) = (j16 : Int) := i64_id (by omega) (by omega)
              have w15 : IntKind.i64.wrap ((k : Int) - 15) = (j15 : Int) := i64_id (by omega) (by omega)
              have w7 : IntKind.i64.wrap ((k : Int) - 7) = (j7 : Int) := i64_id (by omega) (by omega)
              have w2 : IntKind.i64.wrap ((k : Int) - 2) = (j2 : Int) := i64_id (by omega) (by omega)
              have i16 : (j16 : Int) < 64 := by omega
              have i15 : (j15 : Int) < 64 := by omega
              have i7 : (j7 : Int) < 64 := by omega
              have i2 : (j2 : Int) < 64 := by omega
              have ik : (k : Int) < 64 := by omega
              have n16 : j16 ≠ k := by omega
              have n7 : j7 ≠ k := by omega
              have hcw : ∃ u, wr.cell? ⟨kb + 1, k, none⟩ = some u := by
                rw [blk_cell HWQ.out, List.getElem?_toArray]
                exact ⟨_, List.getElem?_eq_getElem (by rw [filled_len (by have := HWL.out; omega)]; have := HWL.out; omega)⟩
              obtain ⟨u, hcw⟩ := hcw
              have hfr := blk_free HWQ.out k
              have HJ16 := Lib.hid hj16
              have HJ15 := Lib.hid hj15
              have HJ7 := Lib.hid hj7
              have HJ2 := Lib.hid hj2
              clear hj16 hj15 hj7 hj2
              go_wp2_with fail
              go_region_held3 (fun w' => w'.cell? ⟨kb + 1, j15, none⟩ = some (.int .u32 vx) ∧ w'.cell? ⟨kb + 1, j2, none⟩ = some (.int .u32 vy)) (first | assumption | exact ⟨cx, cy⟩) (fail)
              go_wp2_with fail
              refine (HRot7 _ vx).mono ?_
              rintro e w3 ⟨rfl, rfl⟩
              go_wp2_with fail
              refine (HRot18 _ vx).mono ?_
              rintro e w3 ⟨rfl, rfl⟩
              go_wp2_with fail
              refine (HRot17 _ vy).mono ?_
              rintro e w3 ⟨rfl, rfl⟩
              go_wp2_with fail
              refine (HRot19 _ vy).mono ?_
              rintro e w3 ⟨rfl, rfl⟩
              go_wp2_with fail
              generalize hr7 : rr 7 vx = r7
              generalize hr18 : rr 18 vx = r18
              generalize hr17 : rr 17 vy = r17
              generalize hr19 : rr 19 vy = r19
              go_region_held3 (fun w' => w'.cell? ⟨kb + 1, j16, none⟩ = some (.int .u32 va) ∧ w'.cell? ⟨kb + 1, j7, none⟩ = some (.int .u32 vb)) (first | assumption | exact ⟨ca, cb⟩ | exact cell2_keep n16 n7 (by assumption)) (fail)
              go_wp2_with fail
              have hval : (((va + bits BinOp.xor IntKind.u32 (bits BinOp.xor IntKind.u32 r7 r18) (vx / 8)) % 4294967296 + vb) % 4294967296 + bits BinOp.xor IntKind.u32 (bits BinOp.xor IntKind.u32 r17 r19) (vy / 1024)) % 4294967296 = wNext va vx vb vy := by
                rw [← hr7, ← hr18, ← hr17, ← hr19]
                rfl
              rw [hval]
              have hgs := hgq_step HGQ.out k (.int .u32 (wNext va vx vb vy))
              refine ⟨⟨k + 1, by go_num, by omega, by omega, hgq_drew hgs, ?_⟩, by simp [intOf]; omega⟩
              have h := blk_set HWQ.out k (.int .u32 (wNext va vx vb vy))
              rw [setIf_list, ← hL, filled_step (by have := HWL.out; omega) (x := wNext va vx vb vy) ?_] at h
              · exact h
              · unfold schedF
                rw [if_neg (by omega)]
                rw [← HJ16.out, ← HJ15.out, ← HJ7.out, ← HJ2.out]
                have hL2 : stepL (fun i L => if i < 16 then wordOf ys i else wNext (iAt L (i - 16)) (iAt L (i - 15)) (iAt L (i - 7)) (iAt L (i - 2))) k = L := hL
                rw [hL2, iAt_eq hva, iAt_eq hvx, iAt_eq hvb, iAt_eq hvy]
            · have hke2 : ¬ ((k : Int) < 64) := by omega
              have hk64' : k = 64 := by omega
              rw [hk64'] at HWQ
              clear hk64 hge hk16 hk64' hLk
              obtain ⟨WL, hWL⟩ : ∃ WL, stepL (schedF ys) 64 = WL := ⟨_, rfl⟩
              rw [hWL] at HWQ
              have hWLl : WL.length = 64 := by rw [← hWL]; exact stepL_len _ _
              obtain ⟨y0, y1, y2, y3, y4, y5, y6, y7, rfl⟩ := list8 HL.out
              have hgq : wr.heap[g]? = some (.cells (ucells [y0, y1, y2, y3, y4, y5, y6, y7] ++ tl).toArray 139 (0, 0)) := (HGQ.out.block g (by have := HGR.out.size; omega) (by simp; omega)).trans HGB.out
              obtain ⟨V, hV⟩ : ∃ V, ucells [y0, y1, y2, y3, y4, y5, y6, y7] = V := ⟨_, rfl⟩
              have hVl : V.length = 8 := by rw [← hV]; rfl
              have hV1 : ∀ v ∈ V, v.oneCell' = true := fun v hv => ucells_one (hV ▸ hv)
              rw [hV] at hgq
              have hrv : wr.rangeAt g 0 V := by
                intro j v hv
                rw [Nat.zero_add, blk_cell hgq, List.getElem?_toArray, List.getElem?_append_left (List.getElem?_eq_some_iff.1 hv).1]
                exact hv
              have HRV := Lib.hid hrv
              have HSZ8 : Hid ((Try.prog.info? 120).map (·.size) = some V.length) := by
                show _ = _
                rw [hVl]
                kernel_rfl
              have hst := run_storeCells_new (P := Try.prog) wr 120 #[.int .u32 0, .int .u32 0, .int .u32 0, .int .u32 0, .int .u32 0, .int .u32 0, .int .u32 0, .int .u32 0] V.toArray (by simp only [List.size_toArray, hVl]; kernel_rfl) (by simp only [List.size_toArray, hVl]; rfl) (all_oneCell_toArray hV1)
              have HV := Lib.hid hV
              clear hV hrv hgq
              go_wp2_with (first | (refine wpList_load_mid rfl 120 (.tmp 110) rfl g 0 rfl V _ HRV.out Try.underlying120 rfl HSZ8.out ?_))
              obtain ⟨vb, hvb⟩ : ∃ vb, wr.heap.size = vb := ⟨_, rfl⟩
              have hsz1 := HGQ.out.size
              have hVB := heap_alloc_new wr (.cells V.toArray 120)
              have hBA := below_alloc wr (.cells V.toArray 120)
              have hkb1 : kb + 1 < vb := by omega
              rw [hvb] at hVB ⊢
              have HWQ2 : Hid ((wr.alloc (.cells V.toArray 120)).heap[kb + 1]? = some (.cells (filled WL Wc).toArray 135 (0, 0))) := (hBA.block (kb + 1) (by omega)).trans HWQ.out
              have HKQ2 : Hid ((wr.alloc (.cells V.toArray 120)).heap[kb]? = some (.cells C.toArray 135 (0, 0))) := (hBA.block kb (by omega)).trans ((HGQ.out.block kb (by omega) (by simp)).trans HKB.out)
              have HGQ2 : Hid (X.grownBy (wr.alloc (.cells V.toArray 120)) (some (kb + 1))) := grown_trans HGQ.out ⟨hBA.os, hBA.tape, hBA.output, hBA.size, fun i hi _ => hBA.block i hi⟩ (fun _ _ h => h) (r2 := none) (fun _ _ _ => by simp)
              have HVB : Hid ((wr.alloc (.cells V.toArray 120)).heap[vb]? = some (.cells (ucells [y0, y1, y2, y3, y4, y5, y6, y7]).toArray 120 (0, 0))) := by
                show _ = _
                rw [HV.out]
                exact hVB
              clear hVB hBA
              generalize wr.alloc (.cells V.toArray 120) = Q at *
              go_loopw [112] (fun i wq => ∃ (t : Nat), i = .int .i64 (t : Int) ∧ t ≤ 64 ∧ Hid (X.grownBy wq (some (kb + 1))) ∧ Hid (wq.heap[kb + 1]? = some (.cells (filled WL Wc).toArray 135 (0, 0))) ∧ Hid (wq.heap[kb]? = some (.cells C.toArray 135 (0, 0))) ∧ Hid (vb < wq.heap.size) ∧ Hid (wq.heap[vb]? = some (.cells (ucells (roundL WL [y0, y1, y2, y3, y4, y5, y6, y7] t)).toArray 120 (0, 0)))) (fun i _ => 64 - (intOf i).toNat)
              case atStart => exact ⟨0, rfl, by omega, HGQ2, HWQ2, HKQ2, blk_lt HVB.out, HVB⟩
              case round =>
                obtain ⟨t, rfl, ht, HGT, HWT, HKT, HVT, HVC⟩ := hrel
                rcases Nat.lt_or_ge t 64 with hlt | hge
                · obtain ⟨R, hR⟩ : ∃ R, roundL WL [y0, y1, y2, y3, y4, y5, y6, y7] t = R := ⟨_, rfl⟩
                  have hRl : R.length = 8 := by rw [← hR]; exact roundL_len _ _ rfl t
                  obtain ⟨a, b, c, d, e, f, gg, h, rfl⟩ := list8 hRl
                  rw [hR] at HVC
                  obtain ⟨kk, hkk⟩ : ∃ x, kTab[t]? = some x := ⟨_, List.getElem?_eq_getElem (by rw [kTab_len]; omega)⟩
                  obtain ⟨ww, hww⟩ : ∃ x, WL[t]? = some x := ⟨_, List.getElem?_eq_getElem (by omega)⟩
                  have ck : wr.cell? ⟨kb, t, none⟩ = some (.int .u32 kk) := by rw [blk_cell HKT.out]; exact HCA.out t kk hkk
                  have cw : wr.cell? ⟨kb + 1, t, none⟩ = some (.int .u32 ww) := by rw [blk_cell HWT.out, List.getElem?_toArray]; exact filled_at hww
                  have ca : wr.cell? ⟨vb, 0, none⟩ = some (.int .u32 a) := blk_cell HVC.out 0
                  have cb : wr.cell? ⟨vb, 1, none⟩ = some (.int .u32 b) := blk_cell HVC.out 1
                  have cc : wr.cell? ⟨vb, 2, none⟩ = some (.int .u32 c) := blk_cell HVC.out 2
                  have cd : wr.cell? ⟨vb, 3, none⟩ = some (.int .u32 d) := blk_cell HVC.out 3
                  have ce : wr.cell? ⟨vb, 4, none⟩ = some (.int .u32 e) := blk_cell HVC.out 4
                  have cf : wr.cell? ⟨vb, 5, none⟩ = some (.int .u32 f) := blk_cell HVC.out 5
                  have cg : wr.cell? ⟨vb, 6, none⟩ = some (.int .u32 gg) := blk_cell HVC.out 6
                  have ch : wr.cell? ⟨vb, 7, none⟩ = some (.int .u32 h) := blk_cell HVC.out 7
                  have it : (t : Int) < 64 := by omega
                  have HR := Lib.hid hR
                  have HKK := Lib.hid hkk
                  have HWW := Lib.hid hww
                  clear hR hkk hww
                  go_wp2_with fail
                  go_region_held3 (fun w' => w'.cell? ⟨vb, 0, none⟩ = some (.int .u32 a) ∧ w'.cell? ⟨vb, 4, none⟩ = some (.int .u32 e)) (first | assumption | exact ⟨ca, ce⟩) (fail)
                  go_wp2_with fail
                  refine (HRot6 _ e).mono ?_
                  rintro _ w3 ⟨rfl, rfl⟩
                  go_wp2_with fail
                  refine (HRot11 _ e).mono ?_
                  rintro _ w3 ⟨rfl, rfl⟩
                  go_wp2_with fail
                  refine (HRot25 _ e).mono ?_
                  rintro _ w3 ⟨rfl, rfl⟩
                  go_wp2_with fail
                  generalize hr6 : rr 6 e = r6
                  generalize hr11 : rr 11 e = r11
                  generalize hr25 : rr 25 e = r25
                  have q7 := cell_regrown (w := wr.drew) ch
                  have q5 := cell_regrown (w := wr.drew) cf
                  have q6 := cell_regrown (w := wr.drew) cg
                  have qk := cell_regrown (w := wr.drew) ck
                  have qw := cell_regrown (w := wr.drew) cw
                  refine wp_region_quiet_below (by kernel_rfl) (by kernel_rfl) ?_
                  repeat ((with_reducible refine wpQuiet_step (fun K hK => ?_)); go_simp; first | (with_reducible refine hK _ ?_; clear hK K) | (rw [if_neg (by decide)]; with_reducible refine hK _ ?_; clear hK K))
                  with_reducible refine wpQuiet_nil ?_
                  intro _ hw'
                  obtain ⟨⟨dq, osq⟩, hw''⟩ := hw'
                  subst hw''
                  have hb3 := below_regrown wr.drew dq osq
                  generalize Sort.grow (redrawn wr.drew dq) osq = w4 at *
                  generalize hsE : bits .xor .u32 (bits .xor .u32 r6 r11) r25 = sE
                  generalize hnE : bits .xor .u32 (if IntKind.u32.signed = true then -1 else IntKind.u32.max) e = nE
                  generalize hef : bits .and .u32 e f = ef
                  generalize hng : bits .and .u32 nE gg = ng
                  generalize hch : bits .xor .u32 ef ng = chh
                  generalize ht1 : IntKind.u32.wrap (h + sE) = t1
                  generalize ht2 : IntKind.u32.wrap (t1 + chh) = t2
                  generalize ht3 : IntKind.u32.wrap (t2 + kk) = t3
                  generalize ht4 : IntKind.u32.wrap (t3 + ww) = t4
                  have HSE := Lib.hid hsE
                  have HNE := Lib.hid hnE
                  have HEF := Lib.hid hef
                  have HNG := Lib.hid hng
                  have HCH := Lib.hid hch
                  have HT1 := Lib.hid ht1
                  have HT2 := Lib.hid ht2
                  have HT3 := Lib.hid ht3
                  have HT4 := Lib.hid ht4
                  have HR6 := Lib.hid hr6
                  have HR11 := Lib.hid hr11
                  have HR25 := Lib.hid hr25
                  clear hsE hnE hef hng hch ht1 ht2 ht3 ht4 hr6 hr11 hr25
                  have hvt := blk_lt HVC.out
                  have HB4 := Lib.hid hb3
                  have hV4 := (hb3.block vb hvt).trans HVC.out
                  clear hb3 q7 q5 q6 qk qw ck cw ca cb cc cd ce cf cg ch
                  have ca : w4.cell? ⟨vb, 0, none⟩ = some (.int .u32 a) := blk_cell hV4 0
                  have cb : w4.cell? ⟨vb, 1, none⟩ = some (.int .u32 b) := blk_cell hV4 1
                  have cc : w4.cell? ⟨vb, 2, none⟩ = some (.int .u32 c) := blk_cell hV4 2
                  have cd : w4.cell? ⟨vb, 3, none⟩ = some (.int .u32 d) := blk_cell hV4 3
                  have ce : w4.cell? ⟨vb, 4, none⟩ = some (.int .u32 e) := blk_cell hV4 4
                  have cf : w4.cell? ⟨vb, 5, none⟩ = some (.int .u32 f) := blk_cell hV4 5
                  have cg : w4.cell? ⟨vb, 6, none⟩ = some (.int .u32 gg) := blk_cell hV4 6
                  have ch : w4.cell? ⟨vb, 7, none⟩ = some (.int .u32 h) := blk_cell hV4 7
                  have f0 := blk_free hV4 0
                  have f1 := blk_free hV4 1
                  have f2 := blk_free hV4 2
                  have f3 := blk_free hV4 3
                  have f4 := blk_free hV4 4
                  have f5 := blk_free hV4 5
                  have f6 := blk_free hV4 6
                  have f7 := blk_free hV4 7
                  have HV4 := Lib.hid hV4
                  clear hV4
                  go_wp2_with fail
                  refine (HRot2 _ a).mono ?_
                  rintro _ w3 ⟨rfl, rfl⟩
                  go_wp2_with fail
                  refine (HRot13 _ a).mono ?_
                  rintro _ w3 ⟨rfl, rfl⟩
                  go_wp2_with fail
                  refine (HRot22 _ a).mono ?_
                  rintro _ w3 ⟨rfl, rfl⟩
                  go_wp2_with fail
                  obtain ⟨hs1, hs2⟩ := set8 HV4.out (.int .u32 ((t4 + (bits .xor .u32 (bits .xor .u32 (rr 2 a) (rr 13 a)) (rr 22 a) + bits .xor .u32 (bits .xor .u32 (bits .and .u32 a b) (bits .and .u32 a c)) (bits .and .u32 b c))) % 4294967296)) (.int .u32 a) (.int .u32 b) (.int .u32 c) (.int .u32 ((d + t4) % 4294967296)) (.int .u32 e) (.int .u32 f) (.int .u32 gg)
                  have hone : oneF e f gg h kk ww = t4 := by
                    rw [← HT4.out, ← HT3.out, ← HT2.out, ← HT1.out, ← HCH.out, ← HNG.out, ← HEF.out, ← HNE.out, ← HSE.out, ← HR6.out, ← HR11.out, ← HR25.out]
                    rfl
                  have hrow : roundL WL [y0, y1, y2, y3, y4, y5, y6, y7] (t + 1) = [(t4 + (bits .xor .u32 (bits .xor .u32 (rr 2 a) (rr 13 a)) (rr 22 a) + bits .xor .u32 (bits .xor .u32 (bits .and .u32 a b) (bits .and .u32 a c)) (bits .and .u32 b c))) % 4294967296, a, b, c, (d + t4) % 4294967296, e, f, gg] := by
                    show rnd (iAt kTab t) (iAt WL t) (roundL WL _ t) = _
                    rw [HR.out, iAt_eq HKK.out, iAt_eq HWW.out, ← hone]
                    rfl
                  have hsz4 : wr.drew.heap.size ≤ w4.heap.size := HB4.out.size
                  have hwr4 : wr.drew.heap.size = wr.heap.size := rfl
                  have hother : ∀ i, i < wr.heap.size → i ≠ vb → _ = wr.heap[i]? := fun i hi hn => (hs2.block i (by omega) (by simpa using hn)).trans (HB4.out.block i hi)
                  refine ⟨⟨t + 1, by go_num, by omega, ?_, ?_, ?_, ?_, ?_⟩, by simp [intOf]; omega⟩
                  · refine ⟨hs2.os.trans (HB4.out.os.trans HGT.out.os), hs2.tape.trans (HB4.out.tape.trans HGT.out.tape), hs2.output.trans (HB4.out.output.trans HGT.out.output), ?_, fun i hi hn => ?_⟩
                    · have := HGT.out.size
                      have := hs2.size
                      omega
                    · have := HGT.out.size
                      have hX := hkbr
                      exact (hother i (by omega) (by omega)).trans (HGT.out.block i hi hn)
                  · exact (hother (kb + 1) (blk_lt HWT.out) (by omega)).trans HWT.out
                  · exact (hother kb (blk_lt HKT.out) (by omega)).trans HKT.out
                  · have := hs2.size
                    have := blk_lt hs1
                    exact this
                  · show _ = _
                    rw [hrow]
                    exact hs1
                · have hke3 : ¬ ((t : Int) < 64) := by omega
                  have ht64 : t = 64 := by omega
                  rw [ht64] at HVC
                  obtain ⟨VL, hVL⟩ : ∃ VL, roundL WL [y0, y1, y2, y3, y4, y5, y6, y7] 64 = VL := ⟨_, rfl⟩
                  have hVLl : VL.length = 8 := by rw [← hVL]; exact roundL_len _ _ rfl 64
                  rw [hVL] at HVC
                  clear ht64 hge ht
                  go_wp2_with fail
                  have hgT : Hid (wr.heap[g]? = some (.cells (ucells [y0, y1, y2, y3, y4, y5, y6, y7] ++ tl).toArray 139 (0, 0))) := (HGT.out.block g (by omega) (by simp; omega)).trans HGB.out
                  obtain ⟨Y, hY⟩ : ∃ Y, wr = Y := ⟨_, rfl⟩
                  obtain ⟨H0, hH0⟩ : ∃ H0, [y0, y1, y2, y3, y4, y5, y6, y7] = H0 := ⟨_, rfl⟩
                  have hH0l : H0.length = 8 := by rw [← hH0]; rfl
                  have HYY : Hid (Y.grownBy wr (some g)) := by
                    show Y.grownBy wr _
                    rw [hY]
                    exact World.grownBy.refl Y _
                  have HG4 : Hid (wr.heap[g]? = some (.cells (ucells (addL H0 VL 0) ++ tl).toArray 139 (0, 0))) := by
                    show _ = _
                    rw [addL_zero, ← hH0]
                    exact hgT.out
                  rw [hY] at HGT HWT HKT HVT HVC
                  clear hgT hY
                  go_loopw [203] (fun i wq => ∃ (j : Nat), i = .int .i64 (j : Int) ∧ j ≤ 8 ∧ Hid (Y.grownBy wq (some g)) ∧ Hid (wq.heap[g]? = some (.cells (ucells (addL H0 VL j) ++ tl).toArray 139 (0, 0)))) (fun i _ => 8 - (intOf i).toNat)
                  case atStart => exact ⟨0, rfl, by omega, HYY, HG4⟩
                  case round =>
                    obtain ⟨j, rfl, hj, HGJ, HGC⟩ := hrel
                    rcases Nat.lt_or_ge j 8 with hlt | hge
                    · obtain ⟨vx, hvx⟩ : ∃ x, VL[j]? = some x := ⟨_, List.getElem?_eq_getElem (by omega)⟩
                      obtain ⟨hx, hhx⟩ : ∃ x, H0[j]? = some x := ⟨_, List.getElem?_eq_getElem (by omega)⟩
                      have hal := addL_len H0 VL j
                      have cv : wr.cell? ⟨vb, j, none⟩ = some (.int .u32 vx) := by
                        rw [World.cell?_of_block (a := ⟨vb, j, none⟩) (HGJ.out.block vb HVT.out (by simp; omega)), blk_cell HVC.out, List.getElem?_toArray]
                        exact ucells_at hvx
                      have cg : wr.cell? ⟨g, j, none⟩ = some (.int .u32 hx) := by
                        rw [blk_cell HGC.out, List.getElem?_toArray, List.getElem?_append_left (by rw [ucells_len]; omega)]
                        exact ucells_at (addL_at hhx)
                      have fg := blk_free HGC.out j
                      have ij : (j : Int) < 8 := by omega
                      go_wp2_with fail
                      go_region_law (fail)
                      all_goals go_wp2_with fail
                      all_goals
                        have hh := blk_set HGC.out j (.int .u32 (addM hx vx))
                        rw [setIf_list, List.set_append_left _ _ (by rw [ucells_len]; omega), ucells_set, addL_step hhx hvx] at hh
                        exact ⟨⟨j + 1, by go_num, by omega, hgq_step HGJ.out j _, hh⟩, by simp [intOf]; omega⟩
                    · have hke4 : ¬ ((j : Int) < 8) := by omega
                      have hj8 : j = 8 := by omega
                      rw [hj8] at HGC
                      clear hj8 hge hj
                      obtain ⟨A', hcut, hsrc⟩ := cut_src A m cp hm
                      go_wp2_with fail
                      have HBLK : Hid (addL H0 VL 8 = blk H0 ys) := by
                        show _ = _
                        rw [← hVL, hH0, ← hWL]
                        rfl
                      have hal := addL_len H0 VL 8
                      have hXs := HGR.out.size
                      have hYs := HGT.out.size
                      have hWs := HGJ.out.size
                      have hbl : ∀ b, b < X.heap.size → b ≠ g → b ≠ kb + 1 → wr.heap[b]? = X.heap[b]? := fun b h1 h2 h3 => (HGJ.out.block b (by omega) (by simpa using h2)).trans (HGT.out.block b h1 (by simpa using h3))
                      have hcg : ∀ i, 8 ≤ i → wr.cell? ⟨g, i, none⟩ = X.cell? ⟨g, i, none⟩ := by
                        intro i hi
                        rw [blk_cell HGC.out, blk_cell HGB.out, List.getElem?_toArray, List.getElem?_toArray, List.getElem?_append_right (by rw [ucells_len]; omega), List.getElem?_append_right (by rw [ucells_len]; exact hi), ucells_len, ucells_len, hal, hH0l]
                        rfl
                      have hsr := hsrc wr g w.heap.size ys (HS.out.keep (fun b h1 h2 => hbl b (by omega) h2 (by omega)) hcg)
                      have hgl2 : g < X.heap.size := by omega
                      refine ⟨⟨A', m - 64, cp - 64, ys.drop 64, addL H0 VL 8, filled WL Wc, rfl, by omega, by show _ = _; rw [hal, hH0l], ?_, hsr, ?_, ?_, HGC.out, ?_, ?_⟩, by rw [lenV_slice, lenV_slice]; omega⟩
                      · show _ = _
                        rw [filled_len (by have := HWL.out; omega)]
                        exact HWL.out
                      · show _ = _
                        rw [HFB.out, hH0, HBLK.out]
                        exact foldB_step _ _ (by have := HS.out.1; omega)
                      · exact grown_trans (grown_trans HGR.out HGT.out (fun _ _ h => h) (fun i h1 h2 => by simp; omega)) HGJ.out (fun _ _ h => h) (fun _ _ h => h)
                      · exact (HGJ.out.block kb (blk_lt HKT.out) (by simp; omega)).trans HKT.out
                      · exact (HGJ.out.block (kb + 1) (blk_lt HWT.out) (by simp; omega)).trans HWT.out
    · have hmi : ¬ ((64 : Int) ≤ (m : Int)) := by omega
      go_wp2_with fail
      go_end0
      refine ⟨rfl, HGR.out, ?_⟩
      rw [HFB.out, foldB_end _ _ (by have := HS.out.1; omega)]
      exact HGB.out
end Go.Proofs.Ytalihocoekplgaa
