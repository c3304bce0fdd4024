/- Steps of a disk that came in. -/
import Derived.Test.YtalihocoekplgaaOpenD
import Derived.Test.YtalihocoekplgaaDskX
set_option linter.unusedVariables false
namespace Go.Proofs.Ytalihocoekplgaa
open Go.ChangeShapes Go.WideShapes Go.ChangeAt Go.RowKit Go.Deep
structure Stp where
  kind : Int
  at_ : Int
  n : Int
  b : List UInt8
  keep : List Int
def kOp : Kd Stp where
  sz := 5
  pos := by decide
  rep := fun w c x cs => ∃ A n cp B m cq, cs = [.int .i64 x.kind, .int .i64 x.at_, .int .i64 x.n, .slice A n cp, .slice B m cq] ∧ Rd kU8 w c A n cp x.b ∧ Rd kInt w c B m cq x.keep
  len := by rintro w c x cs ⟨A, n, cp, B, m, cq, rfl, _⟩; rfl
  one := by
    rintro w c x cs ⟨A, n, cp, B, m, cq, rfl, _⟩ u hu
    simp at hu
    rcases hu with rfl | rfl | rfl | rfl | rfl <;> rfl
  keep := by
    rintro w w' c c' x cs ⟨A, n, cp, B, m, cq, rfl, hr, hs⟩ k
    exact ⟨A, n, cp, B, m, cq, rfl, hr.kp k, hs.kp k⟩
theorem lst_eq5 {α : Type} {l : List α} {a0 a1 a2 a3 a4 : α} (hl : l.length = 5) (h0 : l[0]? = some a0) (h1 : l[1]? = some a1) (h2 : l[2]? = some a2) (h3 : l[3]? = some a3) (h4 : l[4]? = some a4) : l = [a0, a1, a2, a3, a4] := by
  match l, hl with
  | [x0, x1, x2, x3, x4], _ =>
    simp at h0 h1 h2 h3 h4
    subst h0 h1 h2 h3 h4
    rfl
theorem opens_op : Opens Try.prog kOp 43 := by
  intro H enc w base spare held fuel cs y h
  obtain ⟨hl, n, hf⟩ := trod_cells Try.underlying43 (by kernel_rfl) (by kernel_rfl) h
  obtain ⟨v0, z0, hv0, h0⟩ := hf 0 _ rfl
  obtain ⟨v1, z1, hv1, h1⟩ := hf 1 _ rfl
  obtain ⟨v2, z2, hv2, h2⟩ := hf 2 _ rfl
  obtain ⟨v3, z3, hv3, h3⟩ := hf 3 _ rfl
  obtain ⟨v4, z4, hv4, h4⟩ := hf 4 _ rfl
  obtain ⟨a0, e0, _, w0⟩ := DataW.trod_int Try.underlying3 h0
  obtain ⟨a1, e1, _, w1⟩ := DataW.trod_int Try.underlying3 h1
  obtain ⟨a2, e2, _, w2⟩ := DataW.trod_int Try.underlying3 h2
  obtain ⟨A, k, cp, xs, e3, R3, _⟩ := open_rd (K := kU8) Try.underlying23 (by kernel_rfl) (opens_u8 Try.underlying5) h3
  obtain ⟨B, m, cq, ys, e4, R4, _⟩ := open_rd (K := kInt) Try.underlying22 (by kernel_rfl) opens_int h4
  cases e0; cases e1; cases e2; cases e3; cases e4
  exact ⟨⟨a0, a1, a2, xs, ys⟩, A, k, cp, B, m, cq, lst_eq5 hl hv0 hv1 hv2 hv3 hv4, R3, R4⟩
theorem Rd.op {w : World} {c : Col} {b off n cp : Nat} {l : List Stp} (h : Rd kOp w c (some ⟨b, off, none⟩) n cp l) {k : Nat} {x : Stp} (hx : l[k]? = some x) :
    ∃ A n1 cp1 B m cq, Rd kU8 w c A n1 cp1 x.b ∧ Rd kInt w c B m cq x.keep ∧ w.cell? ⟨b, off + k * 5, none⟩ = some (.int .i64 x.kind) ∧ w.cell? ⟨b, off + k * 5 + 1, none⟩ = some (.int .i64 x.at_) ∧ w.cell? ⟨b, off + k * 5 + 2, none⟩ = some (.int .i64 x.n) ∧ w.cell? ⟨b, off + k * 5 + 3, none⟩ = some (.slice A n1 cp1) ∧ w.cell? ⟨b, off + k * 5 + 4, none⟩ = some (.slice B m cq) := by
  obtain ⟨_, _, cs, ⟨A, n1, cp1, B, m, cq, rfl, hR, hS⟩, hc⟩ := h.elem hx
  refine ⟨A, n1, cp1, B, m, cq, hR, hS, ?_, ?_, ?_, ?_, ?_⟩
  · simpa [kOp] using hc 0 _ rfl
  · simpa [kOp, Nat.add_assoc] using hc 1 _ rfl
  · simpa [kOp, Nat.add_assoc] using hc 2 _ rfl
  · simpa [kOp, Nat.add_assoc] using hc 3 _ rfl
  · simpa [kOp, Nat.add_assoc] using hc 4 _ rfl
/-- What Write tells, and what it leaves. -/
def wrE (n : Nat) (k : Int) (m : Nat) : Int := if isB n k = true then (if 64 < m then 1 else 0) else 6
def wrD (n : Nat) (k : Int) (b : List UInt8) (D : Dt) : Dt := if isB n k = true ∧ b.length ≤ 64 then D.put k (pad b) else D
theorem KWrite_all (w : World) (c : Col) (g n : Nat) (Y : List (List UInt8)) (D : Dt) (N : Nat) (k : Int) (B : Option Addr) (mb cq : Nat) (b : List UInt8) (hN : N < 1000000) (hw : Wf c w) (h : Dk w c g n Y D N) (hx : Rd kU8 w c B mb cq b) :
    Calls Try.prog 11 #[.pointer (some ⟨g, 0, none⟩), .int .i64 k, .slice B mb cq] w fun e w' => e = .returned (.int .i64 (wrE n k mb)) ∧ ∃ c', Tr (· = g) c c' w w' ∧ Dk w' c' g n Y (wrD n k b D) (N + 1) := by
  have hl := hx.len
  cases hb : isB n k with
  | false =>
    unfold wrE wrD
    rw [hb, if_neg (by decide), if_neg (fun h => by cases h.1)]
    exact (KWrite_bad w c g n Y D N k B mb cq hb h).mono fun e w' ⟨h1, h2⟩ => ⟨h1, c, h2 ▸ Tr.refl _ hw, h2 ▸ h.mono (by omega)⟩
  | true =>
    unfold wrE wrD
    rw [hb, if_pos rfl]
    by_cases hm : 64 < mb
    · rw [if_pos hm, if_neg (fun h => by omega)]
      exact (KWrite_long w c g n Y D N k B mb cq hb hm hx.max h).mono fun e w' ⟨h1, h2⟩ => ⟨h1, c, h2 ▸ Tr.refl _ hw, h2 ▸ h.mono (by omega)⟩
    · rw [if_neg hm, if_pos ⟨rfl, by omega⟩]
      unfold isB at hb
      simp at hb
      obtain ⟨k', rfl⟩ : ∃ k' : Nat, k = (k' : Int) := ⟨k.toNat, by omega⟩
      exact KWrite_ok w c g n Y D N k' B mb cq b (by omega) (by omega) hN hw h hx
theorem RWrite_all (w : World) (c : Col) (g n : Nat) (Y : List (List UInt8)) (D : Dt) (k : Int) (B : Option Addr) (mb cq : Nat) (b : List UInt8) (hw : Wf c w) (h : RDk w c g n (relR Y D)) (hx : Rd kU8 w c B mb cq b) :
    Calls Try.prog 19 #[.pointer (some ⟨g, 0, none⟩), .int .i64 k, .slice B mb cq] w fun e w' => e = .returned (.int .i64 (wrE n k mb)) ∧ Tr (· = g) c c w w' ∧ RDk w' c g n (relR Y (wrD n k b D)) := by
  have hl := hx.len
  cases hb : isB n k with
  | false =>
    unfold wrE wrD
    rw [hb, if_neg (by decide), if_neg (fun h => by cases h.1)]
    exact (RWrite_bad w c g n _ k B mb cq hb h).mono fun e w' ⟨h1, h2⟩ => ⟨h1, h2 ▸ Tr.refl _ hw, h2 ▸ h⟩
  | true =>
    unfold wrE wrD
    rw [hb, if_pos rfl]
    by_cases hm : 64 < mb
    · rw [if_pos hm, if_neg (fun h => by omega)]
      exact (RWrite_long w c g n _ k B mb cq hb hm h).mono fun e w' ⟨h1, h2⟩ => ⟨h1, h2 ▸ Tr.refl _ hw, h2 ▸ h⟩
    · rw [if_neg hm, if_pos ⟨rfl, by omega⟩]
      unfold isB at hb
      simp at hb
      obtain ⟨k', rfl⟩ : ∃ k' : Nat, k = (k' : Int) := ⟨k.toNat, by omega⟩
      refine (RWrite_ok w c g n _ k' B mb cq b (by omega) (by omega) hw h hx).mono ?_
      rintro e w' ⟨h1, h2, R', h3, rfl⟩
      rw [relR_put] at h3
      exact ⟨h1, h2, h3⟩
theorem box5_kp {c c' : Col} {w w' : World} {b : Nat} {v0 v1 v2 v3 v4 : Value} (k : Kp c c' w w') (hb : b < w.heap.size) (hc : c b = none)
    (h : w.cell? ⟨b, 0, none⟩ = some v0 ∧ w.cell? ⟨b, 1, none⟩ = some v1 ∧ w.cell? ⟨b, 2, none⟩ = some v2 ∧ w.cell? ⟨b, 3, none⟩ = some v3 ∧ w.cell? ⟨b, 4, none⟩ = some v4) :
    w'.cell? ⟨b, 0, none⟩ = some v0 ∧ w'.cell? ⟨b, 1, none⟩ = some v1 ∧ w'.cell? ⟨b, 2, none⟩ = some v2 ∧ w'.cell? ⟨b, 3, none⟩ = some v3 ∧ w'.cell? ⟨b, 4, none⟩ = some v4 :=
  ⟨(k.cell hb hc).trans h.1, (k.cell hb hc).trans h.2.1, (k.cell hb hc).trans h.2.2.1, (k.cell hb hc).trans h.2.2.2.1, (k.cell hb hc).trans h.2.2.2.2⟩
end Go.Proofs.Ytalihocoekplgaa
