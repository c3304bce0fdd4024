/- oper: the plain law of requests as bytes. -/
import Derived.Test.YtladpckbajnbeaaRefC
import Derived.Test.YtladpckbajnbeaaTupP
set_option linter.unusedVariables false
set_option linter.unusedSimpArgs false
namespace Go.Proofs.Ytladpckbajnbeaa
open Go.RowKit

def Req.zero : Req := ⟨0, 0, 0, [], [], 0⟩
/-- What is read, the program's way. -/
def reqNums (b : List UInt8) : (Nat × Nat × Nat × Nat) × RS :=
  let q1 := RS.num ⟨b, false⟩ 1
  let q2 := q1.2.num 4
  let q3 := q2.2.num 1
  let q4 := q3.2.num 8
  ((q1.1, q2.1, q3.1, q4.1), q4.2)
def reqParse (b : List UInt8) : Req × RS :=
  let q := reqNums b
  let t1 := q.2.text 1000
  let t2 := t1.2.text 1000
  (⟨q.1.1, q.1.2.1, q.1.2.2.1, (tupGet t1.1).1, (tupGet t2.1).1, wrap64 q.1.2.2.2⟩, t2.2)
def reqGet (b : List UInt8) : Req × Bool :=
  let q := reqParse b
  if q.2.fin = 0 ∧ mayR q.1 = true ∧ reqB q.1 = b then (q.1, true) else (Req.zero, false)
/-- The document's way. -/
def numberS (r : RS) : Int × RS := if 4611686018427387904 ≤ (r.num 8).1 then (0, ⟨(r.num 8).2.xs, true⟩) else (((r.num 8).1 : Nat), (r.num 8).2)
def someS (r : RS) : List Fld × RS :=
  let q := r.text 1000
  if q.1 = [] then ([], q.2) else ((tupGet q.1).1, if (tupGet q.1).2 = true then q.2 else ⟨q.2.xs, true⟩)
def reqParse6 (b : List UInt8) : Req × RS :=
  let q1 := RS.num ⟨b, false⟩ 1
  let q2 := q1.2.num 4
  let q3 := q2.2.num 1
  let q4 := numberS q3.2
  let q5 := someS q4.2
  let q6 := someS q5.2
  (⟨q1.1, q2.1, q3.1, q5.1, q6.1, q4.1⟩, q6.2)
def reqGet6 (b : List UInt8) : Req × Bool :=
  let q := reqParse6 b
  if q.2.fin = 0 ∧ mayR q.1 = true then (q.1, true) else (Req.zero, false)
def Req.ok (x : Req) : Prop := (∀ f ∈ x.p, f.ok) ∧ ∀ f ∈ x.t, f.ok
theorem num_wrote1 (v : Nat) (rest : List UInt8) (h : v < 256) : RS.num ⟨numB v 1 ++ rest, false⟩ 1 = (v, ⟨rest, false⟩) := by
  have h1 := RS.num_wrote v 1 rest (by omega) (by omega)
  rw [Nat.mod_eq_of_lt (show v < 256 ^ 1 from h)] at h1
  exact h1
theorem num_wrote4 (v : Nat) (rest : List UInt8) (h : v < 4294967296) : RS.num ⟨numB v 4 ++ rest, false⟩ 4 = (v, ⟨rest, false⟩) := by
  have h1 := RS.num_wrote v 4 rest (by omega) (by omega)
  rw [Nat.mod_eq_of_lt (show v < 256 ^ 4 from h)] at h1
  exact h1
theorem num_wrote8 (v : Nat) (rest : List UInt8) (h : v < 18446744073709551616) : RS.num ⟨numB v 8 ++ rest, false⟩ 8 = (v, ⟨rest, false⟩) := by
  have h1 := RS.num_wrote v 8 rest (by omega) (by omega)
  rw [Nat.mod_eq_of_lt (show v < 256 ^ 8 from h)] at h1
  exact h1
theorem text_fB (l : List Fld) (rest : List UInt8) : RS.text ⟨textB (fB l) ++ rest, false⟩ 1000 = (fB l, ⟨rest, false⟩) := by
  have := fB_len l
  rw [RS.text_wrote (fB l) rest 1000 (by omega), if_pos (by omega)]
theorem get_fB {l : List Fld} (h : mayTB l = true ∨ l = []) (hok : ∀ f ∈ l, f.ok) : (tupGet (fB l)).1 = l := by
  unfold fB
  rcases h with h | rfl
  · rw [if_pos h, tupGet_put h hok]
  · rfl
theorem some_fB {l : List Fld} (h : mayTB l = true ∨ l = []) (hok : ∀ f ∈ l, f.ok) (rest : List UInt8) : someS ⟨textB (fB l) ++ rest, false⟩ = (l, ⟨rest, false⟩) := by
  unfold someS
  rw [text_fB]
  dsimp only
  rcases h with h | rfl
  · have hl := (tupB_len h).1
    have : fB l = tupB l := by unfold fB; rw [if_pos h]
    rw [this, if_neg (by intro e; rw [e] at hl; simp at hl), tupGet_put h hok]
    rfl
  · rfl
theorem reqNums_wrote {x : Req} (hm : mayR x = true) (tail : List UInt8) :
    reqNums (numB x.client.toNat 1 ++ (numB x.seq.toNat 4 ++ (numB x.kind.toNat 1 ++ (numB x.lease.toNat 8 ++ tail)))) = ((x.client.toNat, x.seq.toNat, x.kind.toNat, x.lease.toNat), ⟨tail, false⟩) := by
  obtain ⟨n1, n2, n3, n4, n5, n6⟩ := mayR_nums hm
  obtain ⟨n7, n8⟩ := mayR_lease hm
  unfold reqNums
  dsimp only
  rw [num_wrote1 _ _ (by omega)]
  dsimp only
  rw [num_wrote4 _ _ (by omega)]
  dsimp only
  rw [num_wrote1 _ _ (by omega)]
  dsimp only
  rw [num_wrote8 _ _ (by omega)]
theorem reqB_app (x : Req) (rest : List UInt8) : reqB x ++ rest = numB x.client.toNat 1 ++ (numB x.seq.toNat 4 ++ (numB x.kind.toNat 1 ++ (numB x.lease.toNat 8 ++ (textB (fB x.p) ++ (textB (fB x.t) ++ rest))))) := by
  unfold reqB
  simp only [List.append_assoc]
theorem reqParse_wrote {x : Req} (hm : mayR x = true) (hok : x.ok) (rest : List UInt8) : reqParse (reqB x ++ rest) = (x, ⟨rest, false⟩) := by
  obtain ⟨n1, n2, n3, n4, n5, n6⟩ := mayR_nums hm
  obtain ⟨n7, n8⟩ := mayR_lease hm
  unfold reqParse
  rw [reqB_app, reqNums_wrote hm]
  dsimp only
  rw [text_fB]
  dsimp only
  rw [text_fB]
  dsimp only
  rw [get_fB (mayR_p hm) hok.1, get_fB (mayR_t hm) hok.2]
  obtain ⟨cl, sq, kd, p, t, ls⟩ := x
  dsimp only at n1 n2 n3 n4 n5 n6 n7 n8 ⊢
  rw [Int.toNat_of_nonneg n1, Int.toNat_of_nonneg (by omega), Int.toNat_of_nonneg (by omega), Int.toNat_of_nonneg n7]
  have : wrap64 ls = ls := by unfold wrap64; omega
  rw [this]
theorem reqParse6_wrote {x : Req} (hm : mayR x = true) (hok : x.ok) (rest : List UInt8) : reqParse6 (reqB x ++ rest) = (x, ⟨rest, false⟩) := by
  obtain ⟨n1, n2, n3, n4, n5, n6⟩ := mayR_nums hm
  obtain ⟨n7, n8⟩ := mayR_lease hm
  unfold reqParse6
  rw [reqB_app]
  dsimp only
  rw [num_wrote1 _ _ (by omega)]
  dsimp only
  rw [num_wrote4 _ _ (by omega)]
  dsimp only
  rw [num_wrote1 _ _ (by omega)]
  dsimp only
  unfold numberS
  rw [num_wrote8 _ _ (by omega)]
  dsimp only
  rw [if_neg (by omega)]
  dsimp only
  rw [some_fB (mayR_p hm) hok.1]
  dsimp only
  rw [some_fB (mayR_t hm) hok.2]
  dsimp only
  obtain ⟨cl, sq, kd, p, t, ls⟩ := x
  dsimp only at n1 n2 n3 n4 n5 n6 n7 n8 ⊢
  rw [Int.toNat_of_nonneg n1, Int.toNat_of_nonneg (by omega), Int.toNat_of_nonneg (by omega), Int.toNat_of_nonneg n7]
theorem fin_zero {r : RS} (h : r.fin = 0) : r.wrong = false ∧ r.xs = [] := by
  unfold RS.fin at h
  split at h
  · assumption
  · cases h
theorem num_good' {r r' : RS} {n : Int} {m v : Nat} (h : r.num n = (v, r')) (hn : n = (m : Int)) (hw : r'.wrong = false) : r.wrong = false ∧ r.xs = numB v m ++ r'.xs := by
  subst hn
  obtain ⟨h1, _, _, h2⟩ := RS.num_good h hw
  exact ⟨h1, h2⟩
theorem someS_good {r r' : RS} {l : List Fld} (h : someS r = (l, r')) (hw : r'.wrong = false) (hb : r.xs.length ≤ 1000000000000) : r.wrong = false ∧ r.xs = textB (fB l) ++ r'.xs ∧ ∀ f ∈ l, f.ok := by
  unfold someS at h
  cases hq : r.text 1000 with
  | mk out r1 =>
    rw [hq] at h
    dsimp only at h
    split at h
    · rename_i he
      subst he
      cases h
      obtain ⟨h1, h2⟩ := RS.text_good hq hw
      exact ⟨h1, by rw [h2]; rfl, by simp⟩
    · rename_i he
      simp only [Prod.mk.injEq] at h
      obtain ⟨h1, h2⟩ := h
      cases hg : (tupGet out).2 with
      | false =>
        rw [hg, if_neg (by simp)] at h2
        rw [← h2] at hw
        cases hw
      | true =>
        rw [hg, if_pos rfl] at h2
        subst h2
        have h3 : tupGet out = (l, true) := Prod.ext h1 hg
        obtain ⟨hm, hb2⟩ := tupGet_good h3
        obtain ⟨h4, h5⟩ := RS.text_good hq hw
        have hl : out.length ≤ 1000000000000 := by
          have := RS.text_out r 1000
          rw [hq] at this
          dsimp only at this
          omega
        have hok := tupGet_ok out hl
        rw [h3] at hok
        refine ⟨h4, ?_, hok⟩
        have : fB l = tupB l := by unfold fB; rw [if_pos hm]
        rw [this, hb2]
        exact h5
theorem reqParse6_good {b : List UInt8} {x : Req} {r : RS} (hb : b.length ≤ 1000000000000) (h : reqParse6 b = (x, r)) (hf : r.fin = 0) : reqB x = b ∧ x.ok := by
  obtain ⟨hw6, hx6⟩ := fin_zero hf
  unfold reqParse6 at h
  cases h1 : RS.num ⟨b, false⟩ 1 with
  | mk v1 r1 =>
  cases h2 : r1.num 4 with
  | mk v2 r2 =>
  cases h3 : r2.num 1 with
  | mk v3 r3 =>
  cases h4 : numberS r3 with
  | mk v4 r4 =>
  cases h5 : someS r4 with
  | mk l5 r5 =>
  cases h6 : someS r5 with
  | mk l6 r6 =>
  simp only [h1, h2, h3, h4, h5, h6, Prod.mk.injEq] at h
  obtain ⟨rfl, rfl⟩ := h
  have q1 := RS.num_le ⟨b, false⟩ 1
  rw [h1] at q1
  have q2 := RS.num_le r1 4
  rw [h2] at q2
  have q3 := RS.num_le r2 1
  rw [h3] at q3
  dsimp only at q1 q2 q3
  have q4 : r4.xs.length ≤ r3.xs.length := by
    have := RS.num_le r3 8
    unfold numberS at h4
    split at h4 <;> (cases h4; exact this)
  have q5 : r5.xs.length ≤ r4.xs.length := by
    have := RS.text_le' r4 1000
    unfold someS at h5
    dsimp only at h5
    split at h5
    · cases h5; exact this
    · simp only [Prod.mk.injEq] at h5
      rw [← h5.2]
      split <;> exact this
  obtain ⟨w5, x5, ok6⟩ := someS_good h6 hw6 (by omega)
  obtain ⟨w4, x4, ok5⟩ := someS_good h5 w5 (by omega)
  have h4' : ∃ n : Nat, v4 = (n : Int) ∧ r3.num 8 = (n, r4) := by
    unfold numberS at h4
    split at h4
    · cases h4
      cases w4
    · cases h4
      exact ⟨_, rfl, rfl⟩
  obtain ⟨n4, rfl, h4n⟩ := h4'
  obtain ⟨w3, x3⟩ := num_good' h4n (m := 8) rfl w4
  obtain ⟨w2, x2⟩ := num_good' h3 (m := 1) rfl w3
  obtain ⟨w1, x1⟩ := num_good' h2 (m := 4) rfl w2
  obtain ⟨_, x0⟩ := num_good' h1 (m := 1) rfl w1
  refine ⟨?_, ok5, ok6⟩
  dsimp only at x0
  unfold reqB
  simp only [Int.toNat_natCast]
  rw [x0, x1, x2, x3, x4, x5, hx6, List.append_nil]
theorem reqParse_ok (b : List UInt8) (hb : b.length ≤ 1000000000000) : (reqParse b).1.ok := by
  unfold reqParse
  dsimp only
  have h0 : (reqNums b).2.xs.length ≤ b.length := by
    unfold reqNums
    dsimp only
    have h1 := RS.num_le ⟨b, false⟩ 1
    have h2 := RS.num_le (RS.num ⟨b, false⟩ 1).2 4
    have h3 := RS.num_le ((RS.num ⟨b, false⟩ 1).2.num 4).2 1
    have h4 := RS.num_le (((RS.num ⟨b, false⟩ 1).2.num 4).2.num 1).2 8
    dsimp only at h1
    omega
  have h1 := RS.text_out (reqNums b).2 1000
  have h2 := RS.text_le' (reqNums b).2 1000
  have h3 := RS.text_out ((reqNums b).2.text 1000).2 1000
  exact ⟨tupGet_ok _ (by omega), tupGet_ok _ (by omega)⟩
theorem reqGet_true {b : List UInt8} {x : Req} (hb : b.length ≤ 1000000000000) (h : reqGet b = (x, true)) : mayR x = true ∧ reqB x = b ∧ x.ok := by
  unfold reqGet at h
  dsimp only at h
  split at h
  · rename_i hc
    cases h
    exact ⟨hc.2.1, hc.2.2, reqParse_ok b hb⟩
  · cases h
theorem reqGet_false {b : List UInt8} (h : (reqGet b).2 = false) : reqGet b = (Req.zero, false) := by
  unfold reqGet at h ⊢
  dsimp only at h ⊢
  split at h
  · cases h
  · rename_i hc
    rw [if_neg hc]
theorem reqGet_put {x : Req} (hm : mayR x = true) (hok : x.ok) : reqGet (reqB x) = (x, true) := by
  have := reqParse_wrote hm hok []
  rw [List.append_nil] at this
  unfold reqGet
  rw [this]
  dsimp only
  rw [if_pos ⟨rfl, hm, rfl⟩]
theorem reqGet_eq (b : List UInt8) (hb : b.length ≤ 1000000000000) : reqGet6 b = reqGet b := by
  cases h : (reqGet b).2 with
  | true =>
    have h1 : reqGet b = ((reqGet b).1, true) := Prod.ext rfl h
    obtain ⟨hm, hB, hok⟩ := reqGet_true hb h1
    rw [h1]
    have h2 := reqParse6_wrote hm hok []
    rw [List.append_nil, hB] at h2
    unfold reqGet6
    rw [h2]
    dsimp only
    rw [if_pos ⟨rfl, hm⟩]
  | false =>
    rw [reqGet_false h]
    unfold reqGet6
    dsimp only
    split
    · rename_i hc
      exfalso
      obtain ⟨hB, hok⟩ := reqParse6_good hb (x := (reqParse6 b).1) (r := (reqParse6 b).2) rfl hc.1
      have h2 := reqGet_put hc.2 hok
      rw [hB] at h2
      rw [h2] at h
      cases h
    · rfl
theorem reqB_pre {x y : Req} (hx : mayR x = true) (hox : x.ok) (hy : mayR y = true) (hoy : y.ok) {rest : List UInt8} (h : reqB x = reqB y ++ rest) : x = y ∧ rest = [] := by
  have h1 := reqParse_wrote hx hox []
  have h2 := reqParse_wrote hy hoy rest
  rw [List.append_nil, h, h2] at h1
  simp only [Prod.mk.injEq, RS.mk.injEq] at h1
  exact ⟨h1.1.symm, h1.2.1⟩
theorem reqB_inj {x y : Req} (hx : mayR x = true) (hox : x.ok) (hy : mayR y = true) (hoy : y.ok) (h : reqB x = reqB y) : x = y := (reqB_pre hx hox hy hoy (rest := []) (by rw [List.append_nil]; exact h)).1
theorem reqGet_cut {x : Req} (hm : mayR x = true) (hok : x.ok) {k : Nat} (hk : k < (reqB x).length) : reqGet ((reqB x).take k) = (Req.zero, false) := by
  cases h : (reqGet ((reqB x).take k)).2 with
  | false => exact reqGet_false h
  | true =>
    have hl := reqB_len x
    have h1 : reqGet ((reqB x).take k) = ((reqGet ((reqB x).take k)).1, true) := Prod.ext rfl h
    obtain ⟨hm2, hB, hok2⟩ := reqGet_true (by rw [List.length_take]; omega) h1
    have h2 := reqB_pre hm hok hm2 hok2 (rest := (reqB x).drop k) (by rw [hB, List.take_append_drop])
    have h3 := congrArg List.length h2.2
    rw [List.length_drop] at h3
    simp at h3
    omega
theorem reqGet_more {x : Req} (hm : mayR x = true) (hok : x.ok) (ch : UInt8) : reqGet (reqB x ++ [ch]) = (Req.zero, false) := by
  cases h : (reqGet (reqB x ++ [ch])).2 with
  | false => exact reqGet_false h
  | true =>
    have hl := reqB_len x
    have h1 : reqGet (reqB x ++ [ch]) = ((reqGet (reqB x ++ [ch])).1, true) := Prod.ext rfl h
    obtain ⟨hm2, hB, hok2⟩ := reqGet_true (by rw [List.length_append]; simp; omega) h1
    have h2 := reqB_pre hm2 hok2 hm hok (rest := [ch]) hB
    cases h2.2
end Go.Proofs.Ytladpckbajnbeaa
