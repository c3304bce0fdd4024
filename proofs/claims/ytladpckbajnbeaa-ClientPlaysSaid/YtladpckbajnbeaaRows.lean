/-
  No cell of these rows narrows 'for every input' (looked for: loops, veiled, ifaces, maps, wideKeys, modest, calm, conditions, laid).
  DERIVED. THE GIVEN ROWS OF THIS SEAT. 12 by the template 'for every input the law returns true; each argument reads behind the call as it read before'; 0 by the template 'total and deterministic' (their statements: YtladpckbajnbeaaTotals.lean).
  GIVEN WITH THE SEED: the statements are not yours to turn. If you find one false, say at which input.
  Laid BY PROGRAM, IN A SANDBOX (cutbox-rows.mjs): the forced cells as the released guide's own fill.sh prints them over the translation ed7e6c585c511fba… (all of the seat's roots in one cut). By AI agents, Wed Nov 11 2026. No macro, syntax, notation, axiom, sorry.
-/
import Derived.Test.YtladpckbajnbeaaChecked
import GoSem.Claim
import GoSem.ClaimJoined
import GoSem.ClaimMapViews
import Derived.JoinedTies
import Derived.KernelRfl
namespace Go.Proofs.Ytladpckbajnbeaa
/- THE CELL 'sum', in the pinned program and in every row, IS THE sha256 OF THE DUMP (.gsa) THAT YtladpckbajnbeaaProg.lean LOADS. Nothing in Lean hashes anything: it is a label: what it is worth is what the hold of that sum in a sandbox is worth. -/
noncomputable def Try.pinned : Pinned := { name := "ytladpckbajnbeaa", sum := "ed7e6c585c511fba1918ba799bfd4539653d0a3f120a9d98fa1a361787856245", checked := Try.checked }
namespace Rows
def none {H : Type} : Left H := { results := [], args := [] }

/-- 'chirographlaw2.PackTexts': WHATEVER THE INPUT: true; the input reads as it did. -/
def packTextsSpec : ChangeSpec := { name := "packTexts", fn := fun _ => fun
  | [d1, d2] => { results := [.lit (.bool true)], args := [d1, d2] }
  | _ => none }
def packTextsRow : OpenClaim := { program := "ytladpckbajnbeaa", sum := "ed7e6c585c511fba1918ba799bfd4539653d0a3f120a9d98fa1a361787856245", func := "chirograph/chirographlaw2.PackTexts", spec := "packTexts", apart := false }
def PackTextsSaid : Prop := packTextsRow.holds Try.pinned (OpenSpec.ofChange packTextsSpec)

/-- ITS FALSE NEIGHBOUR: 'it returns false'. Refute it at one input. -/
def packTextsWrong : ChangeSpec := { name := "packTexts", fn := fun _ => fun
  | [d1, d2] => { results := [.lit (.bool false)], args := [d1, d2] }
  | _ => none }
def PackTextsWrongFalsely : Prop := packTextsRow.holds Try.pinned (OpenSpec.ofChange packTextsWrong)

/-- 'chirographlaw2.PackRows': WHATEVER THE INPUT: true; the input reads as it did. -/
def packRowsSpec : ChangeSpec := { name := "packRows", fn := fun _ => fun
  | [d] => { results := [.lit (.bool true)], args := [d] }
  | _ => none }
def packRowsRow : OpenClaim := { program := "ytladpckbajnbeaa", sum := "ed7e6c585c511fba1918ba799bfd4539653d0a3f120a9d98fa1a361787856245", func := "chirograph/chirographlaw2.PackRows", spec := "packRows", apart := false }
def PackRowsSaid : Prop := packRowsRow.holds Try.pinned (OpenSpec.ofChange packRowsSpec)

/-- ITS FALSE NEIGHBOUR: 'it returns false'. Refute it at one input. -/
def packRowsWrong : ChangeSpec := { name := "packRows", fn := fun _ => fun
  | [d] => { results := [.lit (.bool false)], args := [d] }
  | _ => none }
def PackRowsWrongFalsely : Prop := packRowsRow.holds Try.pinned (OpenSpec.ofChange packRowsWrong)

/-- 'chirographlaw2.PackShort': WHATEVER THE INPUT: true; the input reads as it did. -/
def packShortSpec : ChangeSpec := { name := "packShort", fn := fun _ => fun
  | [d1, d2, d3, d4] => { results := [.lit (.bool true)], args := [d1, d2, d3, d4] }
  | _ => none }
def packShortRow : OpenClaim := { program := "ytladpckbajnbeaa", sum := "ed7e6c585c511fba1918ba799bfd4539653d0a3f120a9d98fa1a361787856245", func := "chirograph/chirographlaw2.PackShort", spec := "packShort", apart := false }
def PackShortSaid : Prop := packShortRow.holds Try.pinned (OpenSpec.ofChange packShortSpec)

/-- ITS FALSE NEIGHBOUR: 'it returns false'. Refute it at one input. -/
def packShortWrong : ChangeSpec := { name := "packShort", fn := fun _ => fun
  | [d1, d2, d3, d4] => { results := [.lit (.bool false)], args := [d1, d2, d3, d4] }
  | _ => none }
def PackShortWrongFalsely : Prop := packShortRow.holds Try.pinned (OpenSpec.ofChange packShortWrong)

/-- 'chirographlaw19.ClientNews': WHATEVER THE INPUT: true; the input reads as it did. -/
def clientNewsSpec : ChangeSpec := { name := "clientNews", fn := fun _ => fun
  | [d1, d2, d3] => { results := [.lit (.bool true)], args := [d1, d2, d3] }
  | _ => none }
def clientNewsRow : OpenClaim := { program := "ytladpckbajnbeaa", sum := "ed7e6c585c511fba1918ba799bfd4539653d0a3f120a9d98fa1a361787856245", func := "chirograph/chirographlaw19.ClientNews", spec := "clientNews", unfollowed := true, recurses := true, apart := false }
def ClientNewsSaid : Prop := clientNewsRow.holds Try.pinned (OpenSpec.ofChange clientNewsSpec)

/-- ITS FALSE NEIGHBOUR: 'it returns false'. Refute it at one input. -/
def clientNewsWrong : ChangeSpec := { name := "clientNews", fn := fun _ => fun
  | [d1, d2, d3] => { results := [.lit (.bool false)], args := [d1, d2, d3] }
  | _ => none }
def ClientNewsWrongFalsely : Prop := clientNewsRow.holds Try.pinned (OpenSpec.ofChange clientNewsWrong)

/-- 'chirographlaw19.ClientPlays': WHATEVER THE INPUT: true; the input reads as it did. -/
def clientPlaysSpec : ChangeSpec := { name := "clientPlays", fn := fun _ => fun
  | [d1, d2] => { results := [.lit (.bool true)], args := [d1, d2] }
  | _ => none }
def clientPlaysRow : OpenClaim := { program := "ytladpckbajnbeaa", sum := "ed7e6c585c511fba1918ba799bfd4539653d0a3f120a9d98fa1a361787856245", func := "chirograph/chirographlaw19.ClientPlays", spec := "clientPlays", unfollowed := true, recurses := true, apart := false }
def ClientPlaysSaid : Prop := clientPlaysRow.holds Try.pinned (OpenSpec.ofChange clientPlaysSpec)

/-- ITS FALSE NEIGHBOUR: 'it returns false'. Refute it at one input. -/
def clientPlaysWrong : ChangeSpec := { name := "clientPlays", fn := fun _ => fun
  | [d1, d2] => { results := [.lit (.bool false)], args := [d1, d2] }
  | _ => none }
def ClientPlaysWrongFalsely : Prop := clientPlaysRow.holds Try.pinned (OpenSpec.ofChange clientPlaysWrong)

/-- 'chirographlaw19.ClientHonest': WHATEVER THE INPUT: true; the input reads as it did. -/
def clientHonestSpec : ChangeSpec := { name := "clientHonest", fn := fun _ => fun
  | [d1, d2, d3, d4] => { results := [.lit (.bool true)], args := [d1, d2, d3, d4] }
  | _ => none }
def clientHonestRow : OpenClaim := { program := "ytladpckbajnbeaa", sum := "ed7e6c585c511fba1918ba799bfd4539653d0a3f120a9d98fa1a361787856245", func := "chirograph/chirographlaw19.ClientHonest", spec := "clientHonest", unfollowed := true, recurses := true, apart := false }
def ClientHonestSaid : Prop := clientHonestRow.holds Try.pinned (OpenSpec.ofChange clientHonestSpec)

/-- ITS FALSE NEIGHBOUR: 'it returns false'. Refute it at one input. -/
def clientHonestWrong : ChangeSpec := { name := "clientHonest", fn := fun _ => fun
  | [d1, d2, d3, d4] => { results := [.lit (.bool false)], args := [d1, d2, d3, d4] }
  | _ => none }
def ClientHonestWrongFalsely : Prop := clientHonestRow.holds Try.pinned (OpenSpec.ofChange clientHonestWrong)

/-- 'chirographlaw19.ClientCounts': WHATEVER THE INPUT: true; the input reads as it did. -/
def clientCountsSpec : ChangeSpec := { name := "clientCounts", fn := fun _ => fun
  | [d1, d2, d3] => { results := [.lit (.bool true)], args := [d1, d2, d3] }
  | _ => none }
def clientCountsRow : OpenClaim := { program := "ytladpckbajnbeaa", sum := "ed7e6c585c511fba1918ba799bfd4539653d0a3f120a9d98fa1a361787856245", func := "chirograph/chirographlaw19.ClientCounts", spec := "clientCounts", unfollowed := true, recurses := true, apart := false }
def ClientCountsSaid : Prop := clientCountsRow.holds Try.pinned (OpenSpec.ofChange clientCountsSpec)

/-- ITS FALSE NEIGHBOUR: 'it returns false'. Refute it at one input. -/
def clientCountsWrong : ChangeSpec := { name := "clientCounts", fn := fun _ => fun
  | [d1, d2, d3] => { results := [.lit (.bool false)], args := [d1, d2, d3] }
  | _ => none }
def ClientCountsWrongFalsely : Prop := clientCountsRow.holds Try.pinned (OpenSpec.ofChange clientCountsWrong)

/-- 'chirographlaw6.TupleTurned': WHATEVER THE INPUT: true; the input reads as it did. -/
def tupleTurnedSpec : ChangeSpec := { name := "tupleTurned", fn := fun _ => fun
  | [d1, d2, d3] => { results := [.lit (.bool true)], args := [d1, d2, d3] }
  | _ => none }
def tupleTurnedRow : OpenClaim := { program := "ytladpckbajnbeaa", sum := "ed7e6c585c511fba1918ba799bfd4539653d0a3f120a9d98fa1a361787856245", func := "chirograph/chirographlaw6.TupleTurned", spec := "tupleTurned", unfollowed := true, recurses := true, apart := false }
def TupleTurnedSaid : Prop := tupleTurnedRow.holds Try.pinned (OpenSpec.ofChange tupleTurnedSpec)

/-- ITS FALSE NEIGHBOUR: 'it returns false'. Refute it at one input. -/
def tupleTurnedWrong : ChangeSpec := { name := "tupleTurned", fn := fun _ => fun
  | [d1, d2, d3] => { results := [.lit (.bool false)], args := [d1, d2, d3] }
  | _ => none }
def TupleTurnedWrongFalsely : Prop := tupleTurnedRow.holds Try.pinned (OpenSpec.ofChange tupleTurnedWrong)

/-- 'chirographlaw6.TupleAsks': WHATEVER THE INPUT: true; the input reads as it did. -/
def tupleAsksSpec : ChangeSpec := { name := "tupleAsks", fn := fun _ => fun
  | [d1, d2, d3] => { results := [.lit (.bool true)], args := [d1, d2, d3] }
  | _ => none }
def tupleAsksRow : OpenClaim := { program := "ytladpckbajnbeaa", sum := "ed7e6c585c511fba1918ba799bfd4539653d0a3f120a9d98fa1a361787856245", func := "chirograph/chirographlaw6.TupleAsks", spec := "tupleAsks", unfollowed := true, recurses := true, apart := false }
def TupleAsksSaid : Prop := tupleAsksRow.holds Try.pinned (OpenSpec.ofChange tupleAsksSpec)

/-- ITS FALSE NEIGHBOUR: 'it returns false'. Refute it at one input. -/
def tupleAsksWrong : ChangeSpec := { name := "tupleAsks", fn := fun _ => fun
  | [d1, d2, d3] => { results := [.lit (.bool false)], args := [d1, d2, d3] }
  | _ => none }
def TupleAsksWrongFalsely : Prop := tupleAsksRow.holds Try.pinned (OpenSpec.ofChange tupleAsksWrong)

/-- 'chirographlaw6.TupleBack': WHATEVER THE INPUT: true; the input reads as it did. -/
def tupleBackSpec : ChangeSpec := { name := "tupleBack", fn := fun _ => fun
  | [d1, d2, d3, d4] => { results := [.lit (.bool true)], args := [d1, d2, d3, d4] }
  | _ => none }
def tupleBackRow : OpenClaim := { program := "ytladpckbajnbeaa", sum := "ed7e6c585c511fba1918ba799bfd4539653d0a3f120a9d98fa1a361787856245", func := "chirograph/chirographlaw6.TupleBack", spec := "tupleBack", unfollowed := true, recurses := true, apart := false }
def TupleBackSaid : Prop := tupleBackRow.holds Try.pinned (OpenSpec.ofChange tupleBackSpec)

/-- ITS FALSE NEIGHBOUR: 'it returns false'. Refute it at one input. -/
def tupleBackWrong : ChangeSpec := { name := "tupleBack", fn := fun _ => fun
  | [d1, d2, d3, d4] => { results := [.lit (.bool false)], args := [d1, d2, d3, d4] }
  | _ => none }
def TupleBackWrongFalsely : Prop := tupleBackRow.holds Try.pinned (OpenSpec.ofChange tupleBackWrong)

/-- 'chirographlaw6.TupleMatch': WHATEVER THE INPUT: true; the input reads as it did. -/
def tupleMatchSpec : ChangeSpec := { name := "tupleMatch", fn := fun _ => fun
  | [d1, d2, d3] => { results := [.lit (.bool true)], args := [d1, d2, d3] }
  | _ => none }
def tupleMatchRow : OpenClaim := { program := "ytladpckbajnbeaa", sum := "ed7e6c585c511fba1918ba799bfd4539653d0a3f120a9d98fa1a361787856245", func := "chirograph/chirographlaw6.TupleMatch", spec := "tupleMatch", unfollowed := true, recurses := true, apart := false }
def TupleMatchSaid : Prop := tupleMatchRow.holds Try.pinned (OpenSpec.ofChange tupleMatchSpec)

/-- ITS FALSE NEIGHBOUR: 'it returns false'. Refute it at one input. -/
def tupleMatchWrong : ChangeSpec := { name := "tupleMatch", fn := fun _ => fun
  | [d1, d2, d3] => { results := [.lit (.bool false)], args := [d1, d2, d3] }
  | _ => none }
def TupleMatchWrongFalsely : Prop := tupleMatchRow.holds Try.pinned (OpenSpec.ofChange tupleMatchWrong)

/-- 'chirographlaw6.TupleKinds': WHATEVER THE INPUT: true; the input reads as it did. -/
def tupleKindsSpec : ChangeSpec := { name := "tupleKinds", fn := fun _ => fun
  | [d1, d2, d3, d4] => { results := [.lit (.bool true)], args := [d1, d2, d3, d4] }
  | _ => none }
def tupleKindsRow : OpenClaim := { program := "ytladpckbajnbeaa", sum := "ed7e6c585c511fba1918ba799bfd4539653d0a3f120a9d98fa1a361787856245", func := "chirograph/chirographlaw6.TupleKinds", spec := "tupleKinds", unfollowed := true, recurses := true, apart := false }
def TupleKindsSaid : Prop := tupleKindsRow.holds Try.pinned (OpenSpec.ofChange tupleKindsSpec)

/-- ITS FALSE NEIGHBOUR: 'it returns false'. Refute it at one input. -/
def tupleKindsWrong : ChangeSpec := { name := "tupleKinds", fn := fun _ => fun
  | [d1, d2, d3, d4] => { results := [.lit (.bool false)], args := [d1, d2, d3, d4] }
  | _ => none }
def TupleKindsWrongFalsely : Prop := tupleKindsRow.holds Try.pinned (OpenSpec.ofChange tupleKindsWrong)

/- THE SECOND FORM. 'bulk': how many values and letters a reading holds, each counted each time it is reached (what is shared counts as often as it is met; a slice's spare places count too). A statement '..UptoSaid' is the law's where the arguments, and the package variables that the reading takes, are together of bulk at most 1048576: NARROWER than '..Said'. Prove '..Said' where nothing that the law and all that it calls make is longer than what came in: it says more and counts as full. Else prove '..UptoSaid'. A law counts once. -/
mutual
def uptoBulk {H : Type} : DataW H → Nat
  | .lit (.string bytes) => bytes.length + 1
  | .lit _ => 1
  | .nil => 1
  | .ptr d => uptoBulk d + 1
  | .slice elems spare => uptoBulkAll elems + uptoBulkAll spare + 1
  | .agg parts => uptoBulkAll parts + 1
  | .iface _ d => uptoBulk d + 1
  | .map entries => uptoBulkEntries entries + 1
  | .held _ => 1
def uptoBulkAll {H : Type} : List (DataW H) → Nat
  | [] => 0
  | d :: r => uptoBulk d + uptoBulkAll r
def uptoBulkEntries {H : Type} : List (Lit × DataW H) → Nat
  | [] => 0
  | x :: r => uptoBulkEntry x + uptoBulkEntries r
def uptoBulkEntry {H : Type} : Lit × DataW H → Nat
  | (.string bytes, d) => bytes.length + uptoBulk d + 1
  | (_, d) => uptoBulk d + 1
 end
def uptoSmall : (H : Type) → List (DataW H) → Bool := fun _ ds => decide (uptoBulkAll ds ≤ 1048576)
def OpenSpec.upto (s : _root_.Go.ChangeSpec) : _root_.Go.OpenSpec := { _root_.Go.OpenSpec.ofChange s with cond := some uptoSmall }

/-- 'chirographlaw2.PackTexts', WHERE WHAT IT READS IS OF BULK AT MOST 1048576: true; the input reads as it did. -/
def packTextsUptoRow : OpenClaim := { program := "ytladpckbajnbeaa", sum := "ed7e6c585c511fba1918ba799bfd4539653d0a3f120a9d98fa1a361787856245", func := "chirograph/chirographlaw2.PackTexts", spec := "packTexts", apart := false, narrowed := true }
def PackTextsUptoSaid : Prop := packTextsUptoRow.holds Try.pinned (OpenSpec.upto packTextsSpec)

/-- 'chirographlaw2.PackRows', WHERE WHAT IT READS IS OF BULK AT MOST 1048576: true; the input reads as it did. -/
def packRowsUptoRow : OpenClaim := { program := "ytladpckbajnbeaa", sum := "ed7e6c585c511fba1918ba799bfd4539653d0a3f120a9d98fa1a361787856245", func := "chirograph/chirographlaw2.PackRows", spec := "packRows", apart := false, narrowed := true }
def PackRowsUptoSaid : Prop := packRowsUptoRow.holds Try.pinned (OpenSpec.upto packRowsSpec)

/-- 'chirographlaw2.PackShort', WHERE WHAT IT READS IS OF BULK AT MOST 1048576: true; the input reads as it did. -/
def packShortUptoRow : OpenClaim := { program := "ytladpckbajnbeaa", sum := "ed7e6c585c511fba1918ba799bfd4539653d0a3f120a9d98fa1a361787856245", func := "chirograph/chirographlaw2.PackShort", spec := "packShort", apart := false, narrowed := true }
def PackShortUptoSaid : Prop := packShortUptoRow.holds Try.pinned (OpenSpec.upto packShortSpec)

/-- 'chirographlaw19.ClientNews', WHERE WHAT IT READS IS OF BULK AT MOST 1048576: true; the input reads as it did. -/
def clientNewsUptoRow : OpenClaim := { program := "ytladpckbajnbeaa", sum := "ed7e6c585c511fba1918ba799bfd4539653d0a3f120a9d98fa1a361787856245", func := "chirograph/chirographlaw19.ClientNews", spec := "clientNews", unfollowed := true, recurses := true, apart := false, narrowed := true }
def ClientNewsUptoSaid : Prop := clientNewsUptoRow.holds Try.pinned (OpenSpec.upto clientNewsSpec)

/-- 'chirographlaw19.ClientPlays', WHERE WHAT IT READS IS OF BULK AT MOST 1048576: true; the input reads as it did. -/
def clientPlaysUptoRow : OpenClaim := { program := "ytladpckbajnbeaa", sum := "ed7e6c585c511fba1918ba799bfd4539653d0a3f120a9d98fa1a361787856245", func := "chirograph/chirographlaw19.ClientPlays", spec := "clientPlays", unfollowed := true, recurses := true, apart := false, narrowed := true }
def ClientPlaysUptoSaid : Prop := clientPlaysUptoRow.holds Try.pinned (OpenSpec.upto clientPlaysSpec)

/-- 'chirographlaw19.ClientHonest', WHERE WHAT IT READS IS OF BULK AT MOST 1048576: true; the input reads as it did. -/
def clientHonestUptoRow : OpenClaim := { program := "ytladpckbajnbeaa", sum := "ed7e6c585c511fba1918ba799bfd4539653d0a3f120a9d98fa1a361787856245", func := "chirograph/chirographlaw19.ClientHonest", spec := "clientHonest", unfollowed := true, recurses := true, apart := false, narrowed := true }
def ClientHonestUptoSaid : Prop := clientHonestUptoRow.holds Try.pinned (OpenSpec.upto clientHonestSpec)

/-- 'chirographlaw19.ClientCounts', WHERE WHAT IT READS IS OF BULK AT MOST 1048576: true; the input reads as it did. -/
def clientCountsUptoRow : OpenClaim := { program := "ytladpckbajnbeaa", sum := "ed7e6c585c511fba1918ba799bfd4539653d0a3f120a9d98fa1a361787856245", func := "chirograph/chirographlaw19.ClientCounts", spec := "clientCounts", unfollowed := true, recurses := true, apart := false, narrowed := true }
def ClientCountsUptoSaid : Prop := clientCountsUptoRow.holds Try.pinned (OpenSpec.upto clientCountsSpec)

/-- 'chirographlaw6.TupleTurned', WHERE WHAT IT READS IS OF BULK AT MOST 1048576: true; the input reads as it did. -/
def tupleTurnedUptoRow : OpenClaim := { program := "ytladpckbajnbeaa", sum := "ed7e6c585c511fba1918ba799bfd4539653d0a3f120a9d98fa1a361787856245", func := "chirograph/chirographlaw6.TupleTurned", spec := "tupleTurned", unfollowed := true, recurses := true, apart := false, narrowed := true }
def TupleTurnedUptoSaid : Prop := tupleTurnedUptoRow.holds Try.pinned (OpenSpec.upto tupleTurnedSpec)

/-- 'chirographlaw6.TupleAsks', WHERE WHAT IT READS IS OF BULK AT MOST 1048576: true; the input reads as it did. -/
def tupleAsksUptoRow : OpenClaim := { program := "ytladpckbajnbeaa", sum := "ed7e6c585c511fba1918ba799bfd4539653d0a3f120a9d98fa1a361787856245", func := "chirograph/chirographlaw6.TupleAsks", spec := "tupleAsks", unfollowed := true, recurses := true, apart := false, narrowed := true }
def TupleAsksUptoSaid : Prop := tupleAsksUptoRow.holds Try.pinned (OpenSpec.upto tupleAsksSpec)

/-- 'chirographlaw6.TupleBack', WHERE WHAT IT READS IS OF BULK AT MOST 1048576: true; the input reads as it did. -/
def tupleBackUptoRow : OpenClaim := { program := "ytladpckbajnbeaa", sum := "ed7e6c585c511fba1918ba799bfd4539653d0a3f120a9d98fa1a361787856245", func := "chirograph/chirographlaw6.TupleBack", spec := "tupleBack", unfollowed := true, recurses := true, apart := false, narrowed := true }
def TupleBackUptoSaid : Prop := tupleBackUptoRow.holds Try.pinned (OpenSpec.upto tupleBackSpec)

/-- 'chirographlaw6.TupleMatch', WHERE WHAT IT READS IS OF BULK AT MOST 1048576: true; the input reads as it did. -/
def tupleMatchUptoRow : OpenClaim := { program := "ytladpckbajnbeaa", sum := "ed7e6c585c511fba1918ba799bfd4539653d0a3f120a9d98fa1a361787856245", func := "chirograph/chirographlaw6.TupleMatch", spec := "tupleMatch", unfollowed := true, recurses := true, apart := false, narrowed := true }
def TupleMatchUptoSaid : Prop := tupleMatchUptoRow.holds Try.pinned (OpenSpec.upto tupleMatchSpec)

/-- 'chirographlaw6.TupleKinds', WHERE WHAT IT READS IS OF BULK AT MOST 1048576: true; the input reads as it did. -/
def tupleKindsUptoRow : OpenClaim := { program := "ytladpckbajnbeaa", sum := "ed7e6c585c511fba1918ba799bfd4539653d0a3f120a9d98fa1a361787856245", func := "chirograph/chirographlaw6.TupleKinds", spec := "tupleKinds", unfollowed := true, recurses := true, apart := false, narrowed := true }
def TupleKindsUptoSaid : Prop := tupleKindsUptoRow.holds Try.pinned (OpenSpec.upto tupleKindsSpec)

end Rows
end Go.Proofs.Ytladpckbajnbeaa
