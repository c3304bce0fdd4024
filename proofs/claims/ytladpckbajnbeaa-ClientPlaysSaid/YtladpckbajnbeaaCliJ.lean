/- client: the document's desk: what it holds, and what it tells. -/
import Derived.Test.YtladpckbajnbeaaOpenP
import Derived.Test.YtladpckbajnbeaaCliI
set_option linter.unusedVariables false
set_option linter.unusedSimpArgs false
namespace Go.Proofs.Ytladpckbajnbeaa
open Go.RowKit

structure Ent where
  r : Rep
  by_ : List Bool
  tk : Bool
def eCells (e : Ent) (A : Option Addr) (n cp : Nat) : List Value := pCells e.r A n cp ++ (e.by_.map Value.bool ++ [.bool e.tk])
def kEnt : Kd Ent where
  sz := 13
  pos := by decide
  rep := fun w c e cs => ∃ A n cp, cs = eCells e A n cp ∧ e.by_.length = 7 ∧ Rd kFld w c A n cp e.r.t
  len := by rintro w c e cs ⟨A, n, cp, rfl, hl, _⟩; simp [eCells, pCells, hl]
  one := by
    rintro w c e cs ⟨A, n, cp, rfl, hl, _⟩ u hu
    simp [eCells, pCells] at hu
    rcases hu with rfl | rfl | rfl | rfl | rfl | (⟨h, rfl⟩ | ⟨h, rfl⟩) | rfl <;> rfl
  keep := by
    rintro w w' c c' e cs ⟨A, n, cp, rfl, hl, hr⟩ k
    exact ⟨A, n, cp, rfl, hl, hr.kp k⟩
theorem ent_info : (Try.prog.info? 102).map (fun i => (i.zero, i.size, i.bytes)) = some (some (.agg #[.int .i64 0, .int .i64 0, .int .i64 0, .slice none 0 0, .bool false, .bool false, .bool false, .bool false, .bool false, .bool false, .bool false, .bool false, .bool false]), 13, 64) := by kernel_rfl
/-- The cells of an entry of the row. -/
theorem ent_at {w : World} {c : Col} {L : List Ent} {cells : List Value} (h : Reps kEnt w c L cells) {k : Nat} {e : Ent} (hk : L[k]? = some e) :
    e.by_.length = 7 ∧ (∃ A n cp, Rd kFld w c A n cp e.r.t ∧ cells[k * 13]? = some (.int .i64 e.r.client) ∧ cells[k * 13 + 1]? = some (.int .i64 e.r.seq) ∧ cells[k * 13 + 2]? = some (.int .i64 e.r.kind) ∧ cells[k * 13 + 3]? = some (.slice A n cp) ∧ cells[k * 13 + 4]? = some (.bool e.r.late)) ∧
      (∀ (i : Nat) (v : Bool), e.by_[i]? = some v → cells[k * 13 + (5 + i)]? = some (.bool v)) ∧ cells[k * 13 + 12]? = some (.bool e.tk) := by
  obtain ⟨A, n, cp, hc, hl, hR⟩ := h.2 k e hk
  have e13 : kEnt.sz = 13 := rfl
  rw [e13] at hc
  have hat : ∀ j, j < 13 → cells[k * 13 + j]? = (eCells e A n cp)[j]? := by
    intro j hj
    rw [← hc, List.getElem?_take_of_lt hj, List.getElem?_drop]
  refine ⟨hl, ⟨A, n, cp, hR, by simpa [eCells, pCells] using hat 0 (by omega), by simpa [eCells, pCells] using hat 1 (by omega), by simpa [eCells, pCells] using hat 2 (by omega), by simpa [eCells, pCells] using hat 3 (by omega), by simpa [eCells, pCells] using hat 4 (by omega)⟩, fun i v hv => ?_, ?_⟩
  · have hi := (List.getElem?_eq_some_iff.1 hv).1
    rw [hat (5 + i) (by omega), eCells, List.getElem?_append_right (by simp [pCells]), List.getElem?_append_left (by simp [pCells]; omega), List.getElem?_map]
    have : 5 + i - (pCells e.r A n cp).length = i := by simp [pCells]
    rw [this, hv]
    rfl
  · rw [hat 12 (by omega), eCells, List.getElem?_append_right (by simp [pCells]), List.getElem?_append_right (by simp [pCells, hl])]
    simp [pCells, hl]
theorem ent_other {w : World} {c : Col} {L : List Ent} {cells : List Value} (h : Reps kEnt w c L cells) {k j : Nat} {e : Ent} (hj : j < 13) (v : Value) (hk : L[k]? = some e) (e' : Ent)
    (hn : ∀ A n cp, Rd kFld w c A n cp e.r.t → e.by_.length = 7 → ∃ A' n' cp', (eCells e A n cp).set j v = eCells e' A' n' cp' ∧ e'.by_.length = 7 ∧ Rd kFld w c A' n' cp' e'.r.t) : Reps kEnt w c (L.set k e') (cells.set (k * 13 + j) v) := by
  have e13 : kEnt.sz = 13 := rfl
  refine ⟨by simpa using h.1, fun i y hy => ?_⟩
  rw [e13]
  by_cases hik : i = k
  · subst hik
    have hlt := (List.getElem?_eq_some_iff.1 hk).1
    rw [List.getElem?_set_self hlt] at hy
    cases hy
    obtain ⟨A, n, cp, hc, hl, hR⟩ := h.2 i e hk
    rw [e13] at hc
    rw [part_in _ _ _ _ _ (by omega), hc]
    have : i * 13 + j - i * 13 = j := by omega
    rw [this]
    exact hn A n cp hR hl
  · rw [List.getElem?_set_ne (fun e => hik e.symm)] at hy
    rw [part_out _ _ _ _ _ (by omega)]
    exact h.2 i y hy
theorem ent_by {w : World} {c : Col} {L : List Ent} {cells : List Value} (h : Reps kEnt w c L cells) {k i : Nat} {e : Ent} (hi : i < 7) (hk : L[k]? = some e) :
    Reps kEnt w c (L.set k ⟨e.r, e.by_.set i true, e.tk⟩) (cells.set (k * 13 + (5 + i)) (.bool true)) := by
  refine ent_other h (by omega) _ hk _ fun A n cp hR hl => ⟨A, n, cp, ?_, by rw [List.length_set]; exact hl, hR⟩
  simp only [eCells]
  rw [List.set_append_right _ _ (by simp [pCells]), List.set_append_left _ _ (by simp [pCells]; omega)]
  have : 5 + i - (pCells e.r A n cp).length = i := by simp [pCells]
  rw [this, List.map_set]
theorem ent_tk {w : World} {c : Col} {L : List Ent} {cells : List Value} (h : Reps kEnt w c L cells) {k : Nat} {e : Ent} (hk : L[k]? = some e) :
    Reps kEnt w c (L.set k ⟨e.r, e.by_, true⟩) (cells.set (k * 13 + 12) (.bool true)) := by
  refine ent_other h (by omega) _ hk _ fun A n cp hR hl => ⟨A, n, cp, ?_, hl, hR⟩
  simp only [eCells]
  rw [List.set_append_right _ _ (by simp [pCells]), List.set_append_right _ _ (by simp [pCells, hl])]
  simp [pCells, hl]

def Rst (w : World) (c : Col) (g : Nat) (f : Int) (L : List Ent) (T : List Rep) (N : Nat) : Prop :=
  c g = some g ∧ ∃ A n cp cells A' n' cp' cells', w.heap[g]? = some (.cells #[.int .i64 f, .slice A n cp, .slice A' n' cp'] 63 (0, 0)) ∧ OwnB w c g 102 13 (.slice A n cp) n cells ∧ Reps kEnt w c L cells ∧ L.length = n ∧
    OwnB w c g 52 5 (.slice A' n' cp') n' cells' ∧ Reps kRep w c T cells' ∧ T.length = n' ∧ n ≤ N ∧ n' ≤ N
theorem Rst.tr {M : Nat → Prop} {w w' : World} {c c' : Col} {g : Nat} {f : Int} {L : List Ent} {T : List Rep} {N : Nat} (h : Rst w c g f L T N) (k : Tr M c c' w w') (hM : ¬ M g) : Rst w' c' g f L T N := by
  obtain ⟨hg, A, n, cp, cells, A', n', cp', cells', h1, h2, h3, h4, h5, h6, h7, h8, h9⟩ := h
  obtain ⟨a1, a2⟩ := k.at_ hg hM
  exact ⟨a1, A, n, cp, cells, A', n', cp', cells', by rw [a2]; exact h1, h2.tr k hM, h3.keep k.kp, h4, h5.tr k hM, h6.keep k.kp, h7, h8, h9⟩
theorem Rst.mono {w : World} {c : Col} {g : Nat} {f : Int} {L : List Ent} {T : List Rep} {N N' : Nat} (h : Rst w c g f L T N) (hN : N ≤ N') : Rst w c g f L T N' := by
  obtain ⟨hg, A, n, cp, cells, A', n', cp', cells', h1, h2, h3, h4, h5, h6, h7, h8, h9⟩ := h
  exact ⟨hg, A, n, cp, cells, A', n', cp', cells', h1, h2, h3, h4, h5, h6, h7, by omega, by omega⟩
theorem Rst.lt {w : World} {c : Col} {g : Nat} {f : Int} {L : List Ent} {T : List Rep} {N : Nat} (h : Rst w c g f L T N) : g < w.heap.size := by
  obtain ⟨hg, A, n, cp, cells, A', n', cp', cells', h1, _⟩ := h
  exact blk_lt h1
theorem Rst.cool {w : World} {c : Col} {g : Nat} {f : Int} {L : List Ent} {T : List Rep} {N : Nat} (h : Rst w c g f L T N) (b : Nat) (hb : c b ≠ some g) : Rst w (fun k => if k = b then none else c k) g f L T N := by
  have hc : ∀ j, c j = some g → (fun k => if k = b then none else c k) j = some g := by
    intro j hj
    have : j ≠ b := fun e => by subst e; exact hb hj
    simp only [if_neg this]
    exact hj
  have hk : Kp c (fun k => if k = b then none else c k) w w := Kp.of_col w fun k hk hn => by split <;> simp_all
  obtain ⟨hg, A, n, cp, cells, A', n', cp', cells', h1, h2, h3, h4, h5, h6, h7, h8, h9⟩ := h
  exact ⟨hc g hg, A, n, cp, cells, A', n', cp', cells', h1, ⟨h2.1, fun k hk => hc k (h2.2 k hk)⟩, h3.keep hk, h4, ⟨h5.1, fun k hk => hc k (h5.2 k hk)⟩, h6.keep hk, h7, h8, h9⟩

/-! ### What it tells -/
structure RS2 where
  L : List Ent
  T : List Rep
  out : List Rep
def place (L : List Ent) (x : Rep) : Nat := L.findIdx (fun e => sameP e.r x)
def withNew (L : List Ent) (x : Rep) : List Ent := if place L x = L.length then L ++ [⟨x, allF, false⟩] else L
def refOne (f : Int) (i : Nat) (s : RS2) (x : Rep) : RS2 :=
  if mayP x = true then
    match (withNew s.L x)[place s.L x]? with
    | some e =>
      if f < (((e.by_.set i true).count true : Nat) : Int) ∧ e.tk = false then ⟨(withNew s.L x).set (place s.L x) ⟨e.r, e.by_.set i true, true⟩, s.T ++ [x], s.out ++ [x]⟩
      else ⟨(withNew s.L x).set (place s.L x) ⟨e.r, e.by_.set i true, e.tk⟩, s.T, s.out⟩
    | none => s
  else s
def refL (f : Int) (i : Nat) (s : RS2) (l : List Rep) : RS2 := l.foldl (refOne f i) s
theorem refL_snoc (f : Int) (i : Nat) (s : RS2) (l : List Rep) (x : Rep) : refL f i s (l ++ [x]) = refOne f i (refL f i s l) x := by simp [refL, List.foldl_append]
/-- What the program's desk and the document's have in common. -/
structure Sim (f : Nat) (S : Sd) (L : List Ent) : Prop where
  may : ∀ e ∈ L, mayP e.r = true ∧ e.r.ok
  apart : ∀ (j k : Nat) (a b : Ent), L[j]? = some a → L[k]? = some b → a.r = b.r → j = k
  by_ : ∀ e ∈ L, S (wordB e.r) = e.by_
  len : ∀ e ∈ L, e.by_.length = 7
  tk : ∀ e ∈ L, e.tk = decide (f < e.by_.count true)
  rest : ∀ x, mayP x = true → x.ok → (∀ e ∈ L, e.r ≠ x) → S (wordB x) = allF
theorem Sim.start (f : Nat) : Sim f (fun _ => allF) [] := by
  refine ⟨by simp, by simp, by simp, by simp, by simp, fun _ _ _ _ => rfl⟩
theorem place_le (L : List Ent) (x : Rep) : place L x ≤ L.length := List.findIdx_le_length
theorem place_hit {L : List Ent} {x : Rep} (h : place L x < L.length) : ∃ e, L[place L x]? = some e ∧ e.r = x := by
  have h1 := List.findIdx_getElem (xs := L) (p := fun (e : Ent) => sameP e.r x) (w := h)
  exact ⟨L[place L x], List.getElem?_eq_getElem h, sameP_iff.1 h1⟩
theorem place_miss {L : List Ent} {x : Rep} (h : place L x = L.length) : ∀ e ∈ L, e.r ≠ x := by
  intro e he hx
  have h1 := List.findIdx_lt_length_of_exists (xs := L) (p := fun (e : Ent) => sameP e.r x) ⟨e, he, sameP_iff.2 hx⟩
  unfold place at h
  omega
theorem place_new {L : List Ent} {x : Rep} : ∃ e, (withNew L x)[place L x]? = some e ∧ e.r = x ∧ (place L x = L.length → e = ⟨x, allF, false⟩) := by
  unfold withNew
  split
  · rename_i h
    refine ⟨⟨x, allF, false⟩, ?_, rfl, fun _ => rfl⟩
    rw [h]
    simp
  · rename_i h
    have := place_le L x
    obtain ⟨e, h1, h2⟩ := place_hit (L := L) (x := x) (by omega)
    exact ⟨e, h1, h2, fun h' => absurd h' h⟩
theorem Sim.new {f : Nat} {S : Sd} {L : List Ent} (h : Sim f S L) {x : Rep} (hm : mayP x = true) (hok : x.ok) : Sim f S (withNew L x) := by
  unfold withNew
  split
  · rename_i hp
    have hms := place_miss hp
    have hmem : ∀ e ∈ L ++ [⟨x, allF, false⟩], e ∈ L ∨ e = ⟨x, allF, false⟩ := by
      intro e he
      rcases List.mem_append.1 he with h1 | h1
      · exact .inl h1
      · exact .inr (List.mem_singleton.1 h1)
    refine ⟨fun e he => ?_, fun j k a b ha hb hab => ?_, fun e he => ?_, fun e he => ?_, fun e he => ?_, fun y hy hyo hn => h.rest y hy hyo fun e he => hn e (List.mem_append_left _ he)⟩
    · rcases hmem e he with h1 | rfl
      · exact h.may e h1
      · exact ⟨hm, hok⟩
    · rw [List.getElem?_append] at ha hb
      split at ha <;> split at hb
      · exact h.apart j k a b ha hb hab
      · rename_i h1 h2
        have hb0 := List.mem_of_getElem? hb
        rw [List.mem_singleton.1 hb0] at hab
        exact absurd hab (hms a (List.mem_of_getElem? ha))
      · rename_i h1 h2
        have ha0 := List.mem_of_getElem? ha
        rw [List.mem_singleton.1 ha0] at hab
        exact absurd hab.symm (hms b (List.mem_of_getElem? hb))
      · have h3 := (List.getElem?_eq_some_iff.1 ha).1
        have h4 := (List.getElem?_eq_some_iff.1 hb).1
        simp at h3 h4
        omega
    · rcases hmem e he with h1 | rfl
      · exact h.by_ e h1
      · exact h.rest x hm hok hms
    · rcases hmem e he with h1 | rfl
      · exact h.len e h1
      · rfl
    · rcases hmem e he with h1 | rfl
      · exact h.tk e h1
      · simp [allF]
  · exact h
theorem Sim.step {f i : Nat} {S : Sd} {T out : List Rep} {L : List Ent} (h : Sim f S L) (x : Rep) (hok : x.ok) (hi : i < 7) :
    ∃ S' L' T' out', hearOne (f : Int) i ⟨S, T, out⟩ x = ⟨S', T', out'⟩ ∧ refOne (f : Int) i ⟨L, T, out⟩ x = ⟨L', T', out'⟩ ∧ Sim f S' L' := by
  cases hm : mayP x with
  | false => exact ⟨S, L, T, out, by simp [hearOne, hm], by simp [refOne, hm], h⟩
  | true =>
    obtain ⟨e, he, hex, _⟩ := place_new (L := L) (x := x)
    have hs := h.new hm hok
    have hmem := List.mem_of_getElem? he
    have hby := hs.by_ e hmem
    rw [hex] at hby
    have hl := hs.len e hmem
    have htk := hs.tk e hmem
    obtain ⟨v, hv⟩ : ∃ v, e.by_[i]? = some v := ⟨_, List.getElem?_eq_getElem (by rw [hl]; exact hi)⟩
    have hplt := (List.getElem?_eq_some_iff.1 he).1
    -- what is told
    have hsay : sayR (f : Int) (S (wordB x)) i = true ↔ ((f : Int) < (((e.by_.set i true).count true : Nat) : Int) ∧ e.tk = false) := by
      rw [hby, htk]
      unfold sayR
      cases v with
      | true =>
        rw [hv, set_same hv]
        simp
        try omega
      | false =>
        rw [hv, count_set hv]
        simp
        try omega
    -- what is left behind
    have hsim : ∀ b, b = decide (f < (e.by_.set i true).count true) → Sim f (S.put (wordB x) i) ((withNew L x).set (place L x) ⟨e.r, e.by_.set i true, b⟩) := by
      intro b hb
      have hmem2 : ∀ a ∈ (withNew L x).set (place L x) ⟨e.r, e.by_.set i true, b⟩, a = ⟨e.r, e.by_.set i true, b⟩ ∨ (a ∈ withNew L x ∧ a.r ≠ x) := by
        intro a ha
        obtain ⟨j, hj⟩ := List.getElem?_of_mem ha
        by_cases hjp : j = place L x
        · rw [hjp, List.getElem?_set_self hplt] at hj
          cases hj
          exact .inl rfl
        · rw [List.getElem?_set_ne (fun e => hjp e.symm)] at hj
          exact .inr ⟨List.mem_of_getElem? hj, fun e' => hjp (hs.apart j _ a e hj he (e'.trans hex.symm))⟩
      have hput : ∀ y, mayP y = true → y.ok → y ≠ x → (S.put (wordB x) i) (wordB y) = S (wordB y) := by
        intro y hy hyo hyx
        exact Sd.put_other S i (fun e => hyx (word_inj hy hyo hm hok e))
      refine ⟨fun a ha => ?_, fun j k a b' ha hb' hab => ?_, fun a ha => ?_, fun a ha => ?_, fun a ha => ?_, fun y hy hyo hn => ?_⟩
      · rcases hmem2 a ha with rfl | ⟨h1, _⟩
        · exact hs.may e hmem
        · exact hs.may a h1
      · have hr : ∀ (j : Nat) (a : Ent), ((withNew L x).set (place L x) ⟨e.r, e.by_.set i true, b⟩)[j]? = some a → ∃ a', (withNew L x)[j]? = some a' ∧ a'.r = a.r := by
          intro j a ha
          by_cases hjp : j = place L x
          · rw [hjp, List.getElem?_set_self hplt] at ha
            cases ha
            exact ⟨e, by rw [hjp]; exact he, rfl⟩
          · rw [List.getElem?_set_ne (fun e => hjp e.symm)] at ha
            exact ⟨a, ha, rfl⟩
        obtain ⟨a1, h1, h2⟩ := hr j a ha
        obtain ⟨b1, h3, h4⟩ := hr k b' hb'
        exact hs.apart j k a1 b1 h1 h3 (by rw [h2, h4, hab])
      · rcases hmem2 a ha with rfl | ⟨h1, h2⟩
        · show (S.put (wordB x) i) (wordB e.r) = e.by_.set i true
          rw [hex, Sd.put_self, hby]
        · obtain ⟨m1, m2⟩ := hs.may a h1
          rw [hput a.r m1 m2 h2]
          exact hs.by_ a h1
      · rcases hmem2 a ha with rfl | ⟨h1, _⟩
        · show (e.by_.set i true).length = 7
          rw [List.length_set]; exact hl
        · exact hs.len a h1
      · rcases hmem2 a ha with rfl | ⟨h1, _⟩
        · exact hb
        · exact hs.tk a h1
      · have hyx : y ≠ x := by
          intro e'
          refine hn ⟨e.r, e.by_.set i true, b⟩ ?_ (hex.trans e'.symm)
          exact List.mem_of_getElem? (List.getElem?_set_self hplt)
        rw [hput y hy hyo hyx]
        refine hs.rest y hy hyo fun a ha e' => ?_
        obtain ⟨j, hj⟩ := List.getElem?_of_mem ha
        have hjp : j ≠ place L x := by
          intro ej
          rw [ej, he] at hj
          cases hj
          exact hyx (e'.symm.trans hex)
        refine hn a ?_ e'
        have : ((withNew L x).set (place L x) ⟨e.r, e.by_.set i true, b⟩)[j]? = some a := by rw [List.getElem?_set_ne (fun e => hjp e.symm)]; exact hj
        exact List.mem_of_getElem? this
    by_cases hc : (f : Int) < (((e.by_.set i true).count true : Nat) : Int) ∧ e.tk = false
    · refine ⟨_, _, T ++ [x], out ++ [x], by simp [hearOne, hm, hsay.2 hc], ?_, hsim true (by simp; omega)⟩
      simp only [refOne, hm, if_true, he]
      rw [if_pos hc]
    · have hno : sayR (f : Int) (S (wordB x)) i = false := by
        rw [← Bool.not_eq_true]
        exact fun h => hc (hsay.1 h)
      refine ⟨_, _, T, out, by simp [hearOne, hm, hno], ?_, hsim e.tk ?_⟩
      · simp only [refOne, hm, if_true, he]
        rw [if_neg hc]
      · rw [htk]
        cases v with
        | true => rw [set_same hv]
        | false =>
          rw [htk] at hc
          rw [count_set hv] at hc ⊢
          simp at hc ⊢
          omega
theorem Sim.all {f i : Nat} (hi : i < 7) (l : List Rep) (hok : ∀ x ∈ l, x.ok) : ∀ {S : Sd} {T out : List Rep} {L : List Ent}, Sim f S L →
    ∃ S' L' T' out', hearL (f : Int) i ⟨S, T, out⟩ l = ⟨S', T', out'⟩ ∧ refL (f : Int) i ⟨L, T, out⟩ l = ⟨L', T', out'⟩ ∧ Sim f S' L' := by
  induction l with
  | nil => exact fun h => ⟨_, _, _, _, rfl, rfl, h⟩
  | cons x l ih =>
    intro S T out L h
    obtain ⟨S1, L1, T1, out1, h1, h2, h3⟩ := h.step (T := T) (out := out) x (hok x (by simp)) hi
    obtain ⟨S2, L2, T2, out2, h4, h5, h6⟩ := ih (fun y hy => hok y (by simp [hy])) (T := T1) (out := out1) h3
    refine ⟨S2, L2, T2, out2, ?_, ?_, h6⟩
    · show hearL (f : Int) i (hearOne (f : Int) i ⟨S, T, out⟩ x) l = _
      rw [h1, h4]
    · show refL (f : Int) i (refOne (f : Int) i ⟨L, T, out⟩ x) l = _
      rw [h2, h5]
end Go.Proofs.Ytladpckbajnbeaa
