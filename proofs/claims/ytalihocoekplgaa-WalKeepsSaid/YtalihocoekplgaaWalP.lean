/- wal: the plain law: records on sectors, no program in sight. -/
import Derived.Test.YtalihocoekplgaaWalE
set_option linter.unusedVariables false
set_option linter.unusedSimpArgs false
namespace Go.Proofs.Ytalihocoekplgaa
open Go.RowKit

/-- Records stand one behind the other, from a sector on, up to another. -/
def Chain (Z : List (List UInt8)) : Nat → Nat → List (List UInt8) → Nat → Prop
  | used, _, [], u' => used = u'
  | used, num, x :: xs, u' => recAt Z used num = some x ∧ Chain Z (used + secN x.length) (num + 1) xs u'
/-- What Open finds. -/
def Finds (Z : List (List UInt8)) (recs : List (List UInt8)) (used : Nat) : Prop := Chain Z 0 0 recs used ∧ recAt Z used recs.length = none
/-- The records are these, and behind them there is nothing. -/
def Clean (Z : List (List UInt8)) (recs : List (List UInt8)) (used : Nat) : Prop := Chain Z 0 0 recs used ∧ used ≤ Z.length ∧ ∀ i, used ≤ i → i < Z.length → Z[i]? = some zsec
def cleanZ (Z : List (List UInt8)) (used : Nat) : List (List UInt8) := Z.take used ++ List.replicate (Z.length - used) zsec
theorem cleanZ_get (Z : List (List UInt8)) (used i : Nat) (h : used ≤ Z.length) : (cleanZ Z used)[i]? = if i < used then Z[i]? else if i < Z.length then some zsec else none := by
  unfold cleanZ
  by_cases h1 : i < used
  · rw [if_pos h1, List.getElem?_append_left (by rw [List.length_take]; omega), List.getElem?_take, if_pos h1]
  · rw [if_neg h1, List.getElem?_append_right (by rw [List.length_take]; omega), List.length_take, List.getElem?_replicate, Nat.min_eq_left h]
    by_cases h2 : i < Z.length
    · rw [if_pos h2, if_pos (by omega)]
    · rw [if_neg h2, if_neg (by omega)]
theorem cleanZ_len (Z : List (List UInt8)) (used : Nat) (h : used ≤ Z.length) : (cleanZ Z used).length = Z.length := by
  unfold cleanZ
  rw [List.length_append, List.length_take, List.length_replicate]
  omega
theorem recAt_facts {Z : List (List UInt8)} (hz : ∀ s ∈ Z, s.length = 64) {at_ num : Nat} {x : List UInt8} (h : recAt Z at_ num = some x) : 1 ≤ x.length ∧ x.length ≤ 20000 ∧ at_ + secN x.length ≤ Z.length := by
  unfold recAt at h
  cases hs : Z[at_]? with
  | none => rw [hs] at h; cases h
  | some s =>
    rw [hs] at h
    have hlt := (List.getElem?_eq_some_iff.1 hs).1
    simp only at h
    generalize beNat (s.take 4) = nn at h
    by_cases hc : 1 ≤ nn ∧ nn ≤ 20000 ∧ secN nn ≤ Z.length - at_ ∧ sumF (((Z.drop at_).flatten.drop 12).take nn) num = (s.drop 4).take 8
    · rw [if_pos hc] at h
      obtain ⟨h1, h2, h3, _⟩ := hc
      have hl : x.length = nn := by
        have hx := Option.some.inj h
        have h12 : 12 + nn ≤ 64 * secN nn := by unfold secN; omega
        rw [← flN_take hz at_ (secN nn) nn (by omega) h12] at hx
        rw [← hx, List.length_take, List.length_drop, flN_len hz at_ (secN nn) (by omega)]
        omega
      rw [hl]
      exact ⟨h1, h2, by omega⟩
    · rw [if_neg hc] at h
      cases h
theorem secN_pos (n : Nat) : 1 ≤ secN n := by unfold secN; omega
theorem Chain.le {Z : List (List UInt8)} (hz : ∀ s ∈ Z, s.length = 64) : ∀ {recs : List (List UInt8)} {used num u' : Nat}, Chain Z used num recs u' → used ≤ Z.length → used + recs.length ≤ u' ∧ u' ≤ Z.length
  | [], used, num, u', h, hl => by
    have : used = u' := h
    simp
    omega
  | x :: xs, used, num, u', h, hl => by
    obtain ⟨h1, h2⟩ := h
    obtain ⟨_, _, h3⟩ := recAt_facts hz h1
    have h4 := Chain.le hz h2 h3
    have h5 := secN_pos x.length
    simp only [List.length_cons]
    omega
theorem Chain.uniq {Z : List (List UInt8)} : ∀ {recs recs' : List (List UInt8)} {used num u1 u2 : Nat}, Chain Z used num recs u1 → Chain Z used num recs' u2 → recAt Z u1 (num + recs.length) = none → recAt Z u2 (num + recs'.length) = none → recs = recs' ∧ u1 = u2
  | [], [], used, num, u1, u2, h1, h2, _, _ => ⟨rfl, (show used = u1 from h1).symm.trans h2⟩
  | [], y :: ys, used, num, u1, u2, h1, h2, h3, _ => by
    have e : used = u1 := h1
    subst e
    rw [show num + ([] : List (List UInt8)).length = num from rfl, h2.1] at h3
    cases h3
  | x :: xs, [], used, num, u1, u2, h1, h2, _, h4 => by
    have e : used = u2 := h2
    subst e
    rw [show num + ([] : List (List UInt8)).length = num from rfl, h1.1] at h4
    cases h4
  | x :: xs, y :: ys, used, num, u1, u2, h1, h2, h3, h4 => by
    obtain ⟨a1, a2⟩ := h1
    obtain ⟨b1, b2⟩ := h2
    rw [a1] at b1
    cases b1
    have e1 : num + (x :: xs).length = num + 1 + xs.length := by simp only [List.length_cons]; omega
    have e2 : num + (x :: ys).length = num + 1 + ys.length := by simp only [List.length_cons]; omega
    rw [e1] at h3
    rw [e2] at h4
    obtain ⟨r1, r2⟩ := Chain.uniq a2 b2 h3 h4
    exact ⟨by rw [r1], r2⟩
theorem Finds.uniq {Z : List (List UInt8)} {recs recs' : List (List UInt8)} {u1 u2 : Nat} (h : Finds Z recs u1) (k : Finds Z recs' u2) : recs = recs' ∧ u1 = u2 :=
  Chain.uniq h.1 k.1 (by rw [Nat.zero_add]; exact h.2) (by rw [Nat.zero_add]; exact k.2)
theorem Chain.snoc {Z : List (List UInt8)} : ∀ {recs : List (List UInt8)} {used num u' : Nat} {x : List UInt8}, Chain Z used num recs u' → recAt Z u' (num + recs.length) = some x → Chain Z used num (recs ++ [x]) (u' + secN x.length)
  | [], used, num, u', x, h, hx => by
    have e : used = u' := h
    subst e
    exact ⟨hx, rfl⟩
  | y :: ys, used, num, u', x, h, hx => by
    obtain ⟨h1, h2⟩ := h
    refine ⟨h1, Chain.snoc h2 ?_⟩
    rw [show num + 1 + ys.length = num + (y :: ys).length by simp only [List.length_cons]; omega]
    exact hx
/-- What is read there depends on its own sectors alone. -/
theorem flN_congr {Z Z' : List (List UInt8)} {at_ j : Nat} (h : ∀ i, at_ ≤ i → i < at_ + j → Z'[i]? = Z[i]?) : flN Z' at_ j = flN Z at_ j := by
  unfold flN
  congr 1
  apply List.ext_getElem?
  intro i
  rw [List.getElem?_take, List.getElem?_take]
  split
  · rename_i hi
    rw [List.getElem?_drop, List.getElem?_drop]
    exact h _ (by omega) (by omega)
  · rfl
theorem recAt_same {Z Z' : List (List UInt8)} (hz : ∀ s ∈ Z, s.length = 64) (hz' : ∀ s ∈ Z', s.length = 64) (hl : Z'.length = Z.length) {at_ num : Nat} {x : List UInt8} (h : recAt Z at_ num = some x)
    (he : ∀ i, i < at_ + secN x.length → Z'[i]? = Z[i]?) : recAt Z' at_ num = some x := by
  obtain ⟨f1, f2, f3⟩ := recAt_facts hz h
  have hp := secN_pos x.length
  unfold recAt at h ⊢
  rw [he at_ (by omega)]
  cases hs : Z[at_]? with
  | none => rw [hs] at h; cases h
  | some s =>
    rw [hs] at h
    simp only at h ⊢
    rw [hl]
    generalize hnn : beNat (s.take 4) = nn at h
    by_cases hc : 1 ≤ nn ∧ nn ≤ 20000 ∧ secN nn ≤ Z.length - at_ ∧ sumF (((Z.drop at_).flatten.drop 12).take nn) num = (s.drop 4).take 8
    · rw [if_pos hc] at h
      obtain ⟨h1, h2, h3, h4⟩ := hc
      have hlt := (List.getElem?_eq_some_iff.1 hs).1
      have h12 : 12 + nn ≤ 64 * secN nn := by unfold secN; omega
      have ht := flN_take hz at_ (secN nn) nn (by omega) h12
      have hxl : x.length = nn := by
        have hx := Option.some.inj h
        rw [← ht] at hx
        rw [← hx, List.length_take, List.length_drop, flN_len hz at_ (secN nn) (by omega)]
        omega
      have ht' := flN_take hz' at_ (secN nn) nn (by omega) h12
      rw [flN_congr (Z := Z) (fun i _ hi => he i (by rw [hxl]; exact hi)), ht] at ht'
      rw [← ht', if_pos ⟨h1, h2, h3, h4⟩]
      exact h
    · rw [if_neg hc] at h
      cases h
theorem Chain.same {Z Z' : List (List UInt8)} (hz : ∀ s ∈ Z, s.length = 64) (hz' : ∀ s ∈ Z', s.length = 64) (hl : Z'.length = Z.length) : ∀ {recs : List (List UInt8)} {used num u' : Nat}, Chain Z used num recs u' →
    used ≤ Z.length → (∀ i, i < u' → Z'[i]? = Z[i]?) → Chain Z' used num recs u'
  | [], used, num, u', h, _, _ => h
  | x :: xs, used, num, u', h, hu, he => by
    obtain ⟨h1, h2⟩ := h
    obtain ⟨_, _, h3⟩ := recAt_facts hz h1
    have h4 := (Chain.le hz h2 h3).1
    exact ⟨recAt_same hz hz' hl h1 (fun i hi => he i (by omega)), Chain.same hz hz' hl h2 h3 he⟩
theorem recAt_zsec {Z : List (List UInt8)} {at_ num : Nat} (h : Z[at_]? = some zsec ∨ Z[at_]? = none) : recAt Z at_ num = none := by
  unfold recAt
  rcases h with h | h
  · rw [h]
    have : beNat (zsec.take 4) = 0 := by decide
    simp only [this]
    rw [if_neg (by omega)]
  · rw [h]
theorem Clean.finds {Z : List (List UInt8)} {recs : List (List UInt8)} {used : Nat} (h : Clean Z recs used) : Finds Z recs used := by
  refine ⟨h.1, recAt_zsec ?_⟩
  rcases Nat.lt_or_ge used Z.length with hl | hl
  · exact .inl (h.2.2 used (Nat.le_refl _) hl)
  · exact .inr (List.getElem?_eq_none hl)
theorem zsec_mem {Z : List (List UInt8)} (hz : ∀ s ∈ Z, s.length = 64) (used : Nat) : ∀ s ∈ cleanZ Z used, s.length = 64 := by
  intro s hs
  unfold cleanZ at hs
  rcases List.mem_append.1 hs with h | h
  · exact hz s (List.mem_of_mem_take h)
  · rw [List.eq_of_mem_replicate h]
    exact zsec_len
theorem Finds.clean {Z : List (List UInt8)} (hz : ∀ s ∈ Z, s.length = 64) {recs : List (List UInt8)} {used : Nat} (h : Finds Z recs used) : Clean (cleanZ Z used) recs used := by
  have hl := (Chain.le hz h.1 (Nat.zero_le _)).2
  refine ⟨Chain.same hz (zsec_mem hz used) (cleanZ_len Z used hl) h.1 (Nat.zero_le _) (fun i hi => ?_), by rw [cleanZ_len Z used hl]; exact hl, fun i h1 h2 => ?_⟩
  · rw [cleanZ_get Z used i hl, if_pos hi]
  · rw [cleanZ_len Z used hl] at h2
    rw [cleanZ_get Z used i hl, if_neg (by omega), if_pos h2]
theorem clean_new (n : Nat) : Clean (List.replicate n zsec) [] 0 :=
  ⟨rfl, Nat.zero_le _, fun i _ h => by rw [List.getElem?_replicate, if_pos (by simpa using h)]⟩
/-! ### what is put -/
def recB (b : List UInt8) (num : Nat) : List UInt8 := numB b.length 4 ++ sumF b num ++ b
theorem recB_len (b : List UInt8) (num : Nat) : (recB b num).length = 12 + b.length := by
  unfold recB
  rw [List.length_append, List.length_append, numB_length, sumF_len]
def chunk64 (bs : List UInt8) (i : Nat) : List UInt8 := (bs.drop (64 * i)).take 64
theorem chunk64_len (bs : List UInt8) (i : Nat) : (chunk64 bs i).length ≤ 64 := by
  unfold chunk64
  rw [List.length_take]
  omega
/-- The first k pieces written. -/
def putD (D : Dt) (used : Nat) (bs : List UInt8) : Nat → Dt
  | 0 => D
  | k + 1 => (putD D used bs k).put ((used + k : Nat) : Int) (pad (chunk64 bs k))
theorem putD_at (D : Dt) (used : Nat) (bs : List UInt8) (k i : Nat) : putD D used bs k (i : Int) = if used ≤ i ∧ i < used + k then some (pad (chunk64 bs (i - used))) else D (i : Int) := by
  induction k with
  | zero => rw [if_neg (by omega)]; rfl
  | succ k ih =>
    show (if (i : Int) = ((used + k : Nat) : Int) then some (pad (chunk64 bs k)) else putD D used bs k (i : Int)) = _
    by_cases h : i = used + k
    · subst h
      rw [if_pos rfl, if_pos (by omega)]
      rw [show used + k - used = k by omega]
    · rw [if_neg (by omega), ih]
      by_cases h2 : used ≤ i ∧ i < used + k
      · rw [if_pos h2, if_pos (by omega)]
      · rw [if_neg h2, if_neg (by omega)]
theorem put_view (Y : List (List UInt8)) (D : Dt) (used : Nat) (bs : List UInt8) (k i : Nat) : (syncY Y (putD D used bs k))[i]? = if used ≤ i ∧ i < used + k then (Y[i]?).map (fun _ => pad (chunk64 bs (i - used))) else (syncY Y D)[i]? := by
  rw [syncY_get, syncY_get, putD_at]
  split <;> rfl
theorem chunks_flat : ∀ (k : Nat) (bs : List UInt8), bs.length ≤ 64 * k → 64 * k < bs.length + 64 → ((List.range k).map (fun i => pad (chunk64 bs i))).flatten = bs ++ List.replicate (64 * k - bs.length) 0
  | 0, bs, h, _ => by
    have : bs = [] := List.eq_nil_of_length_eq_zero (by omega)
    subst this
    rfl
  | k + 1, bs, h, h2 => by
    rw [List.range_succ_eq_map, List.map_cons, List.map_map, List.flatten_cons]
    have he : (fun i => pad (chunk64 bs i)) ∘ Nat.succ = fun i => pad (chunk64 (bs.drop 64) i) := by
      funext i
      simp only [Function.comp, chunk64, List.drop_drop]
      rw [show 64 * i.succ = 64 + 64 * i by simp only [Nat.succ_eq_add_one]; omega]
    rw [he]
    by_cases hk : 64 ≤ bs.length
    · rw [chunks_flat k (bs.drop 64) (by rw [List.length_drop]; omega) (by rw [List.length_drop]; omega)]
      have h0 : pad (chunk64 bs 0) = bs.take 64 := by
        unfold chunk64
        rw [Nat.mul_zero, List.drop_zero]
        exact pad_full' (by rw [List.length_take]; omega)
      rw [h0, ← List.append_assoc, List.take_append_drop, List.length_drop]
      congr 2
      omega
    · have hk0 : k = 0 := by omega
      subst hk0
      have h0 : chunk64 bs 0 = bs := by
        unfold chunk64
        rw [Nat.mul_zero, List.drop_zero, List.take_of_length_le (by omega)]
      rw [h0]
      simp only [List.range_zero, List.map_nil, List.flatten_nil, List.append_nil, pad]
where
  pad_full' {x : List UInt8} (h : x.length = 64) : pad x = x := by simp [pad, h]
theorem put_flat {Y : List (List UInt8)} {D : Dt} {used k : Nat} {bs : List UInt8} (hk : used + k ≤ Y.length) (h1 : bs.length ≤ 64 * k) (h2 : 64 * k < bs.length + 64) : flN (syncY Y (putD D used bs k)) used k = bs ++ List.replicate (64 * k - bs.length) 0 := by
  rw [← chunks_flat k bs h1 h2]
  unfold flN
  congr 1
  apply List.ext_getElem?
  intro i
  rw [List.getElem?_take, List.getElem?_map]
  split
  · rename_i hi
    rw [List.getElem?_drop, put_view, if_pos (by omega), List.getElem?_eq_getElem (by omega), List.getElem?_range hi, show used + i - used = i by omega]
    rfl
  · rename_i hi
    rw [List.getElem?_eq_none (by rw [List.length_range]; omega)]
    rfl
theorem put_rec {Y : List (List UInt8)} {D : Dt} {used num : Nat} {b : List UInt8} (hY : ∀ s ∈ Y, s.length = 64) (hZ' : ∀ s ∈ syncY Y (putD D used (recB b num) (secN b.length)), s.length = 64) (h1 : 1 ≤ b.length) (h2 : b.length ≤ 20000) (hk : used + secN b.length ≤ Y.length) :
    recAt (syncY Y (putD D used (recB b num) (secN b.length))) used num = some b := by
  have hrl := recB_len b num
  have hf := put_flat (Y := Y) (D := D) (used := used) (k := secN b.length) (bs := recB b num) hk (by rw [hrl]; unfold secN; omega) (by rw [hrl]; unfold secN; omega)
  have hp := secN_pos b.length
  have hlen : (syncY Y (putD D used (recB b num) (secN b.length))).length = Y.length := syncY_len _ _
  generalize syncY Y (putD D used (recB b num) (secN b.length)) = Z' at hf hZ' hlen
  obtain ⟨s, hs⟩ : ∃ s, Z'[used]? = some s := ⟨_, List.getElem?_eq_getElem (by omega)⟩
  have hs64 := hZ' s (List.mem_of_getElem? hs)
  have h12 : 12 + b.length ≤ 64 * secN b.length := by unfold secN; omega
  have hsf : ∀ m, m ≤ 64 → s.take m = (flN Z' used (secN b.length)).take m := by
    intro m hm
    obtain ⟨q, hq⟩ : ∃ q, secN b.length = 1 + q := ⟨secN b.length - 1, by omega⟩
    have e : flN Z' used (secN b.length) = s ++ ((Z'.drop (used + 1)).take q).flatten := by
      rw [hq]
      unfold flN
      rw [List.drop_eq_getElem_cons (by omega : used < Z'.length), Nat.add_comm 1 q, List.take_succ_cons, List.flatten_cons]
      rw [(List.getElem?_eq_some_iff.1 hs).2]
    rw [e, List.take_append_of_le_length (by omega)]
  have t4 : s.take 4 = numB b.length 4 := by
    rw [hsf 4 (by omega), hf]
    unfold recB
    rw [List.append_assoc, List.append_assoc, List.take_append_of_le_length (by rw [numB_length]; omega), List.take_of_length_le (by rw [numB_length]; omega)]
  have t8 : (s.drop 4).take 8 = sumF b num := by
    have e1 : (s.drop 4).take 8 = (s.take 12).drop 4 := by rw [List.drop_take]
    rw [e1, hsf 12 (by omega), hf]
    unfold recB
    rw [List.append_assoc (numB b.length 4 ++ sumF b num), List.take_append_of_le_length (by rw [List.length_append, numB_length, sumF_len]; omega), List.take_of_length_le (by rw [List.length_append, numB_length, sumF_len]; omega), List.drop_append_of_le_length (by rw [numB_length]; omega), List.drop_of_length_le (by rw [numB_length]; omega), List.nil_append]
  have tb : beNat (s.take 4) = b.length := by
    rw [t4, beNat_numB]
    exact Nat.mod_eq_of_lt (by omega)
  have tx : ((Z'.drop used).flatten.drop 12).take b.length = b := by
    rw [← flN_take hZ' used (secN b.length) b.length (by omega) h12, hf]
    unfold recB
    rw [List.append_assoc (numB b.length 4 ++ sumF b num), List.drop_append_of_le_length (by rw [List.length_append, numB_length, sumF_len]; omega), List.drop_of_length_le (by rw [List.length_append, numB_length, sumF_len]; omega), List.nil_append, List.take_append_of_le_length (by omega), List.take_of_length_le (by omega)]
  unfold recAt
  rw [hs]
  simp only [tb, tx, t8]
  rw [if_pos ⟨h1, h2, by omega, trivial⟩]
theorem put_DOk {D : Dt} (h : DOk D) (used : Nat) (bs : List UInt8) (k : Nat) (hb : used + k ≤ 1000000) : DOk (putD D used bs k) := by
  induction k with
  | zero => exact h
  | succ k ih =>
    intro i s hi
    have hi : (if i = ((used + k : Nat) : Int) then some (pad (chunk64 bs k)) else putD D used bs k i) = some s := hi
    split at hi
    · rename_i e
      cases hi
      exact ⟨pad_len (chunk64_len bs k), by omega, by omega⟩
    · exact ih (by omega) i s hi
/-- A record that was put stands there. -/
theorem Clean.put {Y : List (List UInt8)} {D : Dt} {recs : List (List UInt8)} {used : Nat} {b : List UInt8} (hY : ∀ s ∈ Y, s.length = 64) (hD : DOk D) (h : Clean (syncY Y D) recs used) (h1 : 1 ≤ b.length) (h2 : b.length ≤ 20000) (hk : used + secN b.length ≤ Y.length) (hn : Y.length ≤ 1000000) :
    Clean (syncY Y (putD D used (recB b recs.length) (secN b.length))) (recs ++ [b]) (used + secN b.length) := by
  have hZ := syncY_all hY hD
  have hZ' := syncY_all hY (put_DOk hD used (recB b recs.length) (secN b.length) (by omega))
  have hl : (syncY Y (putD D used (recB b recs.length) (secN b.length))).length = (syncY Y D).length := by rw [syncY_len, syncY_len]
  refine ⟨Chain.snoc (x := b) (Chain.same hZ hZ' hl h.1 (Nat.zero_le _) (fun i hi => ?_)) ?_, by rw [syncY_len]; exact hk, fun i hi1 hi2 => ?_⟩
  · rw [put_view, if_neg (by omega)]
  · rw [Nat.zero_add]
    exact put_rec hY hZ' h1 h2 hk
  · rw [put_view, if_neg (by omega)]
    exact h.2.2 i (by omega) (by rw [← hl]; exact hi2)
theorem syncY_none (Y : List (List UInt8)) : syncY Y (fun _ => none) = Y := by
  apply List.ext_getElem?
  intro i
  rw [syncY_get]
  cases Y[i]? <;> rfl
/-- A crash that keeps nothing leaves what was synced. -/
theorem crash_none (Y : List (List UInt8)) (D : Dt) (hD : DOk D) : crashY Y D [] (-1) 0 = Y := by
  apply List.ext_getElem?
  intro i
  rw [crashY_get]
  cases hy : Y[i]? with
  | none => rfl
  | some y =>
    rw [Option.map_some]
    unfold crashV
    cases hd : D (i : Int) with
    | none => rfl
    | some s =>
      have : ¬ (i : Int) = -1 := by omega
      simp [crash1, this]

def nz (x : UInt8) : Bool := x != 0
theorem WOpen2_any (w : World) (x : UInt8) : Calls Try.prog 42 #[.int .u8 (x.toNat : Int)] w fun e w' => e = .returned (.bool (nz x)) ∧ w = w' := by
  have hx : ((x.toNat : Int) != 0) = nz x := by
    unfold nz
    rw [Bool.eq_iff_iff]
    simp only [bne_iff_ne, ne_eq]
    constructor
    · intro h e
      subst e
      exact h rfl
    · intro h e
      exact h (UInt8.toNat_inj.1 (by simpa using e))
  generalize nz x = q at hx
  generalize (x.toNat : Int) = v at hx
  go_enter Try.func42, Try.ntmps42
  go_wp2_with fail
  refine bodyPost_ret (results_tmp rfl _ _ _) rfl ?_
  refine ⟨?_, rfl⟩
  rw [← hx]
  first
  | done
  | congr 2
set_option maxHeartbeats 2000000 in
theorem IndexNz_any (w : World) (c : Col) (A : Option Addr) (n cp : Nat) (l : List UInt8) (hx : Rd kU8 w c A n cp l) :
    Calls Try.prog 59 #[.slice A n cp, .func (.func 42) #[] #[]] w fun e w' => ∃ i : Int, e = .returned (.int .i64 i) ∧ Hid (decide (0 ≤ i) = l.any nz) ∧ Below w.heap.size w w' := by
  have hln := hx.1
  have hmx := hx.max
  have HX := Lib.hid hx
  have HL := Lib.hid hln
  clear hx hln
  go_enter Try.func59, Try.ntmps59
  go_wp2_with fail
  go_loopw [8] (fun i wr => ∃ k : Nat, i = .int .i64 (k : Int) ∧ k ≤ n ∧ Hid ((l.take k).any nz = false) ∧ Hid (Below w.heap.size w wr)) (fun i _ => n - (intOf i).toNat)
  case atStart => exact ⟨0, rfl, by omega, by show _ = _; simp, Below.refl _ _⟩
  case round =>
    obtain ⟨k, rfl, hk, hall, hbl⟩ := hrel
    by_cases hlt : k < n
    · obtain ⟨bb, off, rfl⟩ := HX.out.addr (by omega)
      have hel := getD_at' l 0 (k := k) (by have := HL.out; omega)
      have h0 := (HX.out.below hbl.out).byte hlt
      generalize l[k]?.getD 0 = x at hel h0
      have HTK := Lib.hid (take_snoc' hel)
      have HEL := Lib.hid hel
      have hbs := hbl.out.size
      have hk0 : (0 : Int) ≤ (k : Int) := Int.natCast_nonneg _
      have hk1 : (k : Int) < (n : Int) := by omega
      clear hel
      go_wp2_with fail
      refine (WOpen2_any wr x).mono ?_
      rintro e w1 ⟨rfl, rfl⟩
      cases hp : nz x with
      | false =>
        go_wp2_with fail
        exact ⟨⟨k + 1, by go_num, by omega, by show _ = _; rw [HTK.out, List.any_append, hall.out]; simp [hp], hbl.out⟩, by simp [intOf]; omega⟩
      | true =>
        go_wp2_with fail
        refine bodyPost_ret (results_tmp rfl _ _ _) rfl ?_
        refine ⟨k, rfl, ?_, hbl.out⟩
        show _ = _
        have : l.any nz = true := by
          rw [List.any_eq_true]
          exact ⟨x, List.mem_of_getElem? HEL.out, hp⟩
        rw [this]
        simp
    · obtain rfl : k = n := by omega
      have HK : Hid (l.take k = l) := List.take_of_length_le (by have := HL.out; omega)
      go_wp2_with fail
      go_ret
      refine ⟨-1, rfl, ?_, hbl.out⟩
      show _ = _
      rw [← HK.out, hall.out]
      rfl
set_option maxHeartbeats 1000000 in
theorem ContainsNz_any (w : World) (c : Col) (A : Option Addr) (n cp : Nat) (l : List UInt8) (hx : Rd kU8 w c A n cp l) :
    Calls Try.prog 41 #[.slice A n cp, .func (.func 42) #[] #[]] w (BoolPost w (l.any nz)) := by
  have HX := Lib.hid hx
  clear hx
  go_enter Try.func41, Try.ntmps41
  go_wp2_with fail
  refine (IndexNz_any w c A n cp l HX.out).mono ?_
  rintro e w1 ⟨i, rfl, q_HI, q_HB1⟩
  have HI := Lib.hid q_HI
  have HB1 := Lib.hid q_HB1
  clear q_HI q_HB1
  go_wp2_with fail
  go_ret
  rw [← HI.out]
  exact ⟨rfl, HB1.out⟩
theorem nz_zsec {s : List UInt8} (hl : s.length = 64) (h : s.any nz = false) : s = zsec := by
  apply List.ext_getElem?
  intro i
  unfold zsec
  rw [List.getElem?_replicate]
  by_cases hi : i < 64
  · rw [if_pos hi, List.getElem?_eq_getElem (by omega)]
    have h1 := List.any_eq_false.1 h (s[i]'(by omega)) (List.getElem_mem _)
    unfold nz at h1
    simp at h1
    rw [h1]
  · rw [if_neg hi, List.getElem?_eq_none (by omega)]
end Go.Proofs.Ytalihocoekplgaa
