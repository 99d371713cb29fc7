/-
  NARROWER THAN 'FOR EVERY INPUT', by the rows' own cells (each row's printed sentence says how): ProgExprs: loops.
  DERIVED. THE GIVEN ROWS OF THIS SEAT. 5 by the template 'for every input the law returns true; each argument reads behind the call as it read before'; 0 by the template 'total and deterministic' (their statements: YtacefdkfbpgedaaTotals.lean).
  GIVEN WITH THE SEED: the statements are not yours to turn. If you find one false, say at which input.
  Laid BY PROGRAM, IN A SANDBOX (cutbox-rows.mjs): the forced cells as the released guide's own fill.sh prints them over the translation 0dde423611b08279… (all of the seat's roots in one cut). By AI agents, Wed Nov 11 2026. No macro, syntax, notation, axiom, sorry.
-/
import Derived.Test.YtacefdkfbpgedaaChecked
import GoSem.Claim
import GoSem.ClaimJoined
import GoSem.ClaimMapViews
import Derived.JoinedTies
import Derived.KernelRfl
namespace Go.Proofs.Ytacefdkfbpgedaa
/- THE CELL 'sum', in the pinned program and in every row, IS THE sha256 OF THE DUMP (.gsa) THAT YtacefdkfbpgedaaProg.lean LOADS. Nothing in Lean hashes anything: it is a label: what it is worth is what the hold of that sum in a sandbox is worth. -/
noncomputable def Try.pinned : Pinned := { name := "ytacefdkfbpgedaa", sum := "0dde423611b08279084052d0a9f6197706fb376b90d78a3eda6a72999d6ee0ca", checked := Try.checked }
namespace Rows
def none {H : Type} : Left H := { results := [], args := [] }

/-- 'roundelaylaw07.ProgExprs': WHATEVER THE INPUT: true; the input reads as it did. -/
def progExprsSpec : ChangeSpec := { name := "progExprs", fn := fun _ => fun
  | [d1, d2, d3] => { results := [.lit (.bool true)], args := [d1, d2, d3] }
  | _ => none }
def progExprsRow : OpenClaim := { program := "ytacefdkfbpgedaa", sum := "0dde423611b08279084052d0a9f6197706fb376b90d78a3eda6a72999d6ee0ca", func := "roundelay/roundelaylaw07.ProgExprs", spec := "progExprs", unfollowed := true, recurses := true, loops := true, plainKeys := false, apart := false }
def ProgExprsSaid : Prop := progExprsRow.holds Try.pinned (OpenSpec.ofChange progExprsSpec)

/-- ITS FALSE NEIGHBOUR: 'it returns false'. Refute it at one input. -/
def progExprsWrong : ChangeSpec := { name := "progExprs", fn := fun _ => fun
  | [d1, d2, d3] => { results := [.lit (.bool false)], args := [d1, d2, d3] }
  | _ => none }
def ProgExprsWrongFalsely : Prop := progExprsRow.holds Try.pinned (OpenSpec.ofChange progExprsWrong)

/-- 'roundelaylaw07.ProgPut': WHATEVER THE INPUT: true; the input reads as it did. -/
def progPutSpec : ChangeSpec := { name := "progPut", fn := fun _ => fun
  | [d1, d2] => { results := [.lit (.bool true)], args := [d1, d2] }
  | _ => none }
def progPutRow : OpenClaim := { program := "ytacefdkfbpgedaa", sum := "0dde423611b08279084052d0a9f6197706fb376b90d78a3eda6a72999d6ee0ca", func := "roundelay/roundelaylaw07.ProgPut", spec := "progPut", unfollowed := true, recurses := true, plainKeys := false, apart := false }
def ProgPutSaid : Prop := progPutRow.holds Try.pinned (OpenSpec.ofChange progPutSpec)

/-- ITS FALSE NEIGHBOUR: 'it returns false'. Refute it at one input. -/
def progPutWrong : ChangeSpec := { name := "progPut", fn := fun _ => fun
  | [d1, d2] => { results := [.lit (.bool false)], args := [d1, d2] }
  | _ => none }
def ProgPutWrongFalsely : Prop := progPutRow.holds Try.pinned (OpenSpec.ofChange progPutWrong)

/-- 'roundelaylaw07.ProgMade': WHATEVER THE INPUT: true; the input reads as it did. -/
def progMadeSpec : ChangeSpec := { name := "progMade", fn := fun _ => fun
  | [d1, d2] => { results := [.lit (.bool true)], args := [d1, d2] }
  | _ => none }
def progMadeRow : OpenClaim := { program := "ytacefdkfbpgedaa", sum := "0dde423611b08279084052d0a9f6197706fb376b90d78a3eda6a72999d6ee0ca", func := "roundelay/roundelaylaw07.ProgMade", spec := "progMade", unfollowed := true, recurses := true, plainKeys := false, apart := false }
def ProgMadeSaid : Prop := progMadeRow.holds Try.pinned (OpenSpec.ofChange progMadeSpec)

/-- ITS FALSE NEIGHBOUR: 'it returns false'. Refute it at one input. -/
def progMadeWrong : ChangeSpec := { name := "progMade", fn := fun _ => fun
  | [d1, d2] => { results := [.lit (.bool false)], args := [d1, d2] }
  | _ => none }
def ProgMadeWrongFalsely : Prop := progMadeRow.holds Try.pinned (OpenSpec.ofChange progMadeWrong)

/-- 'roundelaylaw07.ProgMore': WHATEVER THE INPUT: true; the input reads as it did. -/
def progMoreSpec : ChangeSpec := { name := "progMore", fn := fun _ => fun
  | [d1, d2] => { results := [.lit (.bool true)], args := [d1, d2] }
  | _ => none }
def progMoreRow : OpenClaim := { program := "ytacefdkfbpgedaa", sum := "0dde423611b08279084052d0a9f6197706fb376b90d78a3eda6a72999d6ee0ca", func := "roundelay/roundelaylaw07.ProgMore", spec := "progMore", unfollowed := true, recurses := true, plainKeys := false, apart := false }
def ProgMoreSaid : Prop := progMoreRow.holds Try.pinned (OpenSpec.ofChange progMoreSpec)

/-- ITS FALSE NEIGHBOUR: 'it returns false'. Refute it at one input. -/
def progMoreWrong : ChangeSpec := { name := "progMore", fn := fun _ => fun
  | [d1, d2] => { results := [.lit (.bool false)], args := [d1, d2] }
  | _ => none }
def ProgMoreWrongFalsely : Prop := progMoreRow.holds Try.pinned (OpenSpec.ofChange progMoreWrong)

/-- 'roundelaylaw07.ProgRenamed': WHATEVER THE INPUT: true; the input reads as it did. -/
def progRenamedSpec : ChangeSpec := { name := "progRenamed", fn := fun _ => fun
  | [d1, d2] => { results := [.lit (.bool true)], args := [d1, d2] }
  | _ => none }
def progRenamedRow : OpenClaim := { program := "ytacefdkfbpgedaa", sum := "0dde423611b08279084052d0a9f6197706fb376b90d78a3eda6a72999d6ee0ca", func := "roundelay/roundelaylaw07.ProgRenamed", spec := "progRenamed", unfollowed := true, recurses := true, plainKeys := false, apart := false }
def ProgRenamedSaid : Prop := progRenamedRow.holds Try.pinned (OpenSpec.ofChange progRenamedSpec)

/-- ITS FALSE NEIGHBOUR: 'it returns false'. Refute it at one input. -/
def progRenamedWrong : ChangeSpec := { name := "progRenamed", fn := fun _ => fun
  | [d1, d2] => { results := [.lit (.bool false)], args := [d1, d2] }
  | _ => none }
def ProgRenamedWrongFalsely : Prop := progRenamedRow.holds Try.pinned (OpenSpec.ofChange progRenamedWrong)

/- THE SECOND FORM. 'bulk': how many values and letters a reading holds, each counted each time it is reached (what is shared counts as often as it is met; a slice's spare places count too). A statement '..UptoSaid' is the law's where the arguments, and the package variables that the reading takes, are together of bulk at most 1048576: NARROWER than '..Said'. Prove '..Said' where nothing that the law and all that it calls make is longer than what came in: it says more and counts as full. Else prove '..UptoSaid'. A law counts once. -/
mutual
def uptoBulk {H : Type} : DataW H → Nat
  | .lit (.string bytes) => bytes.length + 1
  | .lit _ => 1
  | .nil => 1
  | .ptr d => uptoBulk d + 1
  | .slice elems spare => uptoBulkAll elems + uptoBulkAll spare + 1
  | .agg parts => uptoBulkAll parts + 1
  | .iface _ d => uptoBulk d + 1
  | .map entries => uptoBulkEntries entries + 1
  | .held _ => 1
def uptoBulkAll {H : Type} : List (DataW H) → Nat
  | [] => 0
  | d :: r => uptoBulk d + uptoBulkAll r
def uptoBulkEntries {H : Type} : List (Lit × DataW H) → Nat
  | [] => 0
  | x :: r => uptoBulkEntry x + uptoBulkEntries r
def uptoBulkEntry {H : Type} : Lit × DataW H → Nat
  | (.string bytes, d) => bytes.length + uptoBulk d + 1
  | (_, d) => uptoBulk d + 1
 end
def uptoSmall : (H : Type) → List (DataW H) → Bool := fun _ ds => decide (uptoBulkAll ds ≤ 1048576)
def OpenSpec.upto (s : _root_.Go.ChangeSpec) : _root_.Go.OpenSpec := { _root_.Go.OpenSpec.ofChange s with cond := some uptoSmall }

/-- 'roundelaylaw07.ProgExprs', WHERE WHAT IT READS IS OF BULK AT MOST 1048576: true; the input reads as it did. -/
def progExprsUptoRow : OpenClaim := { program := "ytacefdkfbpgedaa", sum := "0dde423611b08279084052d0a9f6197706fb376b90d78a3eda6a72999d6ee0ca", func := "roundelay/roundelaylaw07.ProgExprs", spec := "progExprs", unfollowed := true, recurses := true, loops := true, plainKeys := false, apart := false, narrowed := true }
def ProgExprsUptoSaid : Prop := progExprsUptoRow.holds Try.pinned (OpenSpec.upto progExprsSpec)

/-- 'roundelaylaw07.ProgPut', WHERE WHAT IT READS IS OF BULK AT MOST 1048576: true; the input reads as it did. -/
def progPutUptoRow : OpenClaim := { program := "ytacefdkfbpgedaa", sum := "0dde423611b08279084052d0a9f6197706fb376b90d78a3eda6a72999d6ee0ca", func := "roundelay/roundelaylaw07.ProgPut", spec := "progPut", unfollowed := true, recurses := true, plainKeys := false, apart := false, narrowed := true }
def ProgPutUptoSaid : Prop := progPutUptoRow.holds Try.pinned (OpenSpec.upto progPutSpec)

/-- 'roundelaylaw07.ProgMade', WHERE WHAT IT READS IS OF BULK AT MOST 1048576: true; the input reads as it did. -/
def progMadeUptoRow : OpenClaim := { program := "ytacefdkfbpgedaa", sum := "0dde423611b08279084052d0a9f6197706fb376b90d78a3eda6a72999d6ee0ca", func := "roundelay/roundelaylaw07.ProgMade", spec := "progMade", unfollowed := true, recurses := true, plainKeys := false, apart := false, narrowed := true }
def ProgMadeUptoSaid : Prop := progMadeUptoRow.holds Try.pinned (OpenSpec.upto progMadeSpec)

/-- 'roundelaylaw07.ProgMore', WHERE WHAT IT READS IS OF BULK AT MOST 1048576: true; the input reads as it did. -/
def progMoreUptoRow : OpenClaim := { program := "ytacefdkfbpgedaa", sum := "0dde423611b08279084052d0a9f6197706fb376b90d78a3eda6a72999d6ee0ca", func := "roundelay/roundelaylaw07.ProgMore", spec := "progMore", unfollowed := true, recurses := true, plainKeys := false, apart := false, narrowed := true }
def ProgMoreUptoSaid : Prop := progMoreUptoRow.holds Try.pinned (OpenSpec.upto progMoreSpec)

/-- 'roundelaylaw07.ProgRenamed', WHERE WHAT IT READS IS OF BULK AT MOST 1048576: true; the input reads as it did. -/
def progRenamedUptoRow : OpenClaim := { program := "ytacefdkfbpgedaa", sum := "0dde423611b08279084052d0a9f6197706fb376b90d78a3eda6a72999d6ee0ca", func := "roundelay/roundelaylaw07.ProgRenamed", spec := "progRenamed", unfollowed := true, recurses := true, plainKeys := false, apart := false, narrowed := true }
def ProgRenamedUptoSaid : Prop := progRenamedUptoRow.holds Try.pinned (OpenSpec.upto progRenamedSpec)

end Rows
end Go.Proofs.Ytacefdkfbpgedaa
