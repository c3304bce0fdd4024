/-
  No cell of these rows narrows 'for every input' (looked for: loops, veiled, ifaces, maps, wideKeys, modest, calm, conditions, laid).
  DERIVED. THE GIVEN ROWS OF THIS SEAT. 4 by the template 'for every input the law returns true; each argument reads behind the call as it read before'; 0 by the template 'total and deterministic' (their statements: YtcdapcljpkohbaaTotals.lean).
  GIVEN WITH THE SEED: the statements are not yours to turn. If you find one false, say at which input.
  Laid BY PROGRAM, IN A SANDBOX (cutbox-rows.mjs): the forced cells as the released guide's own fill.sh prints them over the translation 36fc42610ad656b0… (all of the seat's roots in one cut). By AI agents, Wed Nov 11 2026. No macro, syntax, notation, axiom, sorry.
-/
import Derived.Test.YtcdapcljpkohbaaChecked
import GoSem.Claim
import GoSem.ClaimJoined
import GoSem.ClaimMapViews
import Derived.JoinedTies
import Derived.KernelRfl
namespace Go.Proofs.Ytcdapcljpkohbaa
/- THE CELL 'sum', in the pinned program and in every row, IS THE sha256 OF THE DUMP (.gsa) THAT YtcdapcljpkohbaaProg.lean LOADS. Nothing in Lean hashes anything: it is a label: what it is worth is what the hold of that sum in a sandbox is worth. -/
noncomputable def Try.pinned : Pinned := { name := "ytcdapcljpkohbaa", sum := "36fc42610ad656b0dc326e725346334181977203b3041d375389401e341ad276", checked := Try.checked }
namespace Rows
def none {H : Type} : Left H := { results := [], args := [] }

/-- 'chirographlaw7.OperAsks': WHATEVER THE INPUT: true; the input reads as it did. -/
def operAsksSpec : ChangeSpec := { name := "operAsks", fn := fun _ => fun
  | [d1, d2, d3, d4] => { results := [.lit (.bool true)], args := [d1, d2, d3, d4] }
  | _ => none }
def operAsksRow : OpenClaim := { program := "ytcdapcljpkohbaa", sum := "36fc42610ad656b0dc326e725346334181977203b3041d375389401e341ad276", func := "chirograph/chirographlaw7.OperAsks", spec := "operAsks", unfollowed := true, recurses := true, apart := false }
def OperAsksSaid : Prop := operAsksRow.holds Try.pinned (OpenSpec.ofChange operAsksSpec)

/-- ITS FALSE NEIGHBOUR: 'it returns false'. Refute it at one input. -/
def operAsksWrong : ChangeSpec := { name := "operAsks", fn := fun _ => fun
  | [d1, d2, d3, d4] => { results := [.lit (.bool false)], args := [d1, d2, d3, d4] }
  | _ => none }
def OperAsksWrongFalsely : Prop := operAsksRow.holds Try.pinned (OpenSpec.ofChange operAsksWrong)

/-- 'chirographlaw7.OperBack': WHATEVER THE INPUT: true; the input reads as it did. -/
def operBackSpec : ChangeSpec := { name := "operBack", fn := fun _ => fun
  | [d1, d2, d3, d4] => { results := [.lit (.bool true)], args := [d1, d2, d3, d4] }
  | _ => none }
def operBackRow : OpenClaim := { program := "ytcdapcljpkohbaa", sum := "36fc42610ad656b0dc326e725346334181977203b3041d375389401e341ad276", func := "chirograph/chirographlaw7.OperBack", spec := "operBack", unfollowed := true, recurses := true, apart := false }
def OperBackSaid : Prop := operBackRow.holds Try.pinned (OpenSpec.ofChange operBackSpec)

/-- ITS FALSE NEIGHBOUR: 'it returns false'. Refute it at one input. -/
def operBackWrong : ChangeSpec := { name := "operBack", fn := fun _ => fun
  | [d1, d2, d3, d4] => { results := [.lit (.bool false)], args := [d1, d2, d3, d4] }
  | _ => none }
def OperBackWrongFalsely : Prop := operBackRow.holds Try.pinned (OpenSpec.ofChange operBackWrong)

/-- 'chirographlaw7.OperKinds': WHATEVER THE INPUT: true; the input reads as it did. -/
def operKindsSpec : ChangeSpec := { name := "operKinds", fn := fun _ => fun
  | [d1, d2, d3, d4] => { results := [.lit (.bool true)], args := [d1, d2, d3, d4] }
  | _ => none }
def operKindsRow : OpenClaim := { program := "ytcdapcljpkohbaa", sum := "36fc42610ad656b0dc326e725346334181977203b3041d375389401e341ad276", func := "chirograph/chirographlaw7.OperKinds", spec := "operKinds", unfollowed := true, recurses := true, apart := false }
def OperKindsSaid : Prop := operKindsRow.holds Try.pinned (OpenSpec.ofChange operKindsSpec)

/-- ITS FALSE NEIGHBOUR: 'it returns false'. Refute it at one input. -/
def operKindsWrong : ChangeSpec := { name := "operKinds", fn := fun _ => fun
  | [d1, d2, d3, d4] => { results := [.lit (.bool false)], args := [d1, d2, d3, d4] }
  | _ => none }
def OperKindsWrongFalsely : Prop := operKindsRow.holds Try.pinned (OpenSpec.ofChange operKindsWrong)

/-- 'chirographlaw7.OperTurned': WHATEVER THE INPUT: true; the input reads as it did. -/
def operTurnedSpec : ChangeSpec := { name := "operTurned", fn := fun _ => fun
  | [d1, d2, d3] => { results := [.lit (.bool true)], args := [d1, d2, d3] }
  | _ => none }
def operTurnedRow : OpenClaim := { program := "ytcdapcljpkohbaa", sum := "36fc42610ad656b0dc326e725346334181977203b3041d375389401e341ad276", func := "chirograph/chirographlaw7.OperTurned", spec := "operTurned", unfollowed := true, recurses := true, apart := false }
def OperTurnedSaid : Prop := operTurnedRow.holds Try.pinned (OpenSpec.ofChange operTurnedSpec)

/-- ITS FALSE NEIGHBOUR: 'it returns false'. Refute it at one input. -/
def operTurnedWrong : ChangeSpec := { name := "operTurned", fn := fun _ => fun
  | [d1, d2, d3] => { results := [.lit (.bool false)], args := [d1, d2, d3] }
  | _ => none }
def OperTurnedWrongFalsely : Prop := operTurnedRow.holds Try.pinned (OpenSpec.ofChange operTurnedWrong)

/- THE SECOND FORM. 'bulk': how many values and letters a reading holds, each counted each time it is reached (what is shared counts as often as it is met; a slice's spare places count too). A statement '..UptoSaid' is the law's where the arguments, and the package variables that the reading takes, are together of bulk at most 1048576: NARROWER than '..Said'. Prove '..Said' where nothing that the law and all that it calls make is longer than what came in: it says more and counts as full. Else prove '..UptoSaid'. A law counts once. -/
mutual
def uptoBulk {H : Type} : DataW H → Nat
  | .lit (.string bytes) => bytes.length + 1
  | .lit _ => 1
  | .nil => 1
  | .ptr d => uptoBulk d + 1
  | .slice elems spare => uptoBulkAll elems + uptoBulkAll spare + 1
  | .agg parts => uptoBulkAll parts + 1
  | .iface _ d => uptoBulk d + 1
  | .map entries => uptoBulkEntries entries + 1
  | .held _ => 1
def uptoBulkAll {H : Type} : List (DataW H) → Nat
  | [] => 0
  | d :: r => uptoBulk d + uptoBulkAll r
def uptoBulkEntries {H : Type} : List (Lit × DataW H) → Nat
  | [] => 0
  | x :: r => uptoBulkEntry x + uptoBulkEntries r
def uptoBulkEntry {H : Type} : Lit × DataW H → Nat
  | (.string bytes, d) => bytes.length + uptoBulk d + 1
  | (_, d) => uptoBulk d + 1
 end
def uptoSmall : (H : Type) → List (DataW H) → Bool := fun _ ds => decide (uptoBulkAll ds ≤ 1048576)
def OpenSpec.upto (s : _root_.Go.ChangeSpec) : _root_.Go.OpenSpec := { _root_.Go.OpenSpec.ofChange s with cond := some uptoSmall }

/-- 'chirographlaw7.OperAsks', WHERE WHAT IT READS IS OF BULK AT MOST 1048576: true; the input reads as it did. -/
def operAsksUptoRow : OpenClaim := { program := "ytcdapcljpkohbaa", sum := "36fc42610ad656b0dc326e725346334181977203b3041d375389401e341ad276", func := "chirograph/chirographlaw7.OperAsks", spec := "operAsks", unfollowed := true, recurses := true, apart := false, narrowed := true }
def OperAsksUptoSaid : Prop := operAsksUptoRow.holds Try.pinned (OpenSpec.upto operAsksSpec)

/-- 'chirographlaw7.OperBack', WHERE WHAT IT READS IS OF BULK AT MOST 1048576: true; the input reads as it did. -/
def operBackUptoRow : OpenClaim := { program := "ytcdapcljpkohbaa", sum := "36fc42610ad656b0dc326e725346334181977203b3041d375389401e341ad276", func := "chirograph/chirographlaw7.OperBack", spec := "operBack", unfollowed := true, recurses := true, apart := false, narrowed := true }
def OperBackUptoSaid : Prop := operBackUptoRow.holds Try.pinned (OpenSpec.upto operBackSpec)

/-- 'chirographlaw7.OperKinds', WHERE WHAT IT READS IS OF BULK AT MOST 1048576: true; the input reads as it did. -/
def operKindsUptoRow : OpenClaim := { program := "ytcdapcljpkohbaa", sum := "36fc42610ad656b0dc326e725346334181977203b3041d375389401e341ad276", func := "chirograph/chirographlaw7.OperKinds", spec := "operKinds", unfollowed := true, recurses := true, apart := false, narrowed := true }
def OperKindsUptoSaid : Prop := operKindsUptoRow.holds Try.pinned (OpenSpec.upto operKindsSpec)

/-- 'chirographlaw7.OperTurned', WHERE WHAT IT READS IS OF BULK AT MOST 1048576: true; the input reads as it did. -/
def operTurnedUptoRow : OpenClaim := { program := "ytcdapcljpkohbaa", sum := "36fc42610ad656b0dc326e725346334181977203b3041d375389401e341ad276", func := "chirograph/chirographlaw7.OperTurned", spec := "operTurned", unfollowed := true, recurses := true, apart := false, narrowed := true }
def OperTurnedUptoSaid : Prop := operTurnedUptoRow.holds Try.pinned (OpenSpec.upto operTurnedSpec)

end Rows
end Go.Proofs.Ytcdapcljpkohbaa
