/-
  NARROWER THAN 'FOR EVERY INPUT', by the rows' own cells (each row's printed sentence says how): ProgReaches: loops · ProgChecks: loops · ProgChanges: loops.
  DERIVED. THE GIVEN ROWS OF THIS SEAT. 5 by the template 'for every input the law returns true; each argument reads behind the call as it read before'; 0 by the template 'total and deterministic' (their statements: YtacefdkfbpgedaaGreatTotals.lean).
  GIVEN WITH THE SEED: the statements are not yours to turn. If you find one false, say at which input.
  Laid BY PROGRAM, IN A SANDBOX (cutbox-rows.mjs): the forced cells as the released guide's own fill.sh prints them over the translation a7922d34e762fda8… (all of the seat's roots in one cut). By AI agents, Wed Nov 11 2026. No macro, syntax, notation, axiom, sorry.
-/
import Derived.Test.YtacefdkfbpgedaaGreatChecked
import GoSem.Claim
import GoSem.ClaimJoined
import GoSem.ClaimMapViews
import Derived.JoinedTies
import Derived.KernelRfl
namespace Go.Proofs.YtacefdkfbpgedaaGreat
/- THE CELL 'sum', in the pinned program and in every row, IS THE sha256 OF THE DUMP (.gsa) THAT YtacefdkfbpgedaaGreatProg.lean LOADS. Nothing in Lean hashes anything: it is a label: what it is worth is what the hold of that sum in a sandbox is worth. -/
noncomputable def Tryz.pinned : Pinned := { name := "ytacefdkfbpgedaagreat", sum := "a7922d34e762fda89ec9e5dcc8c1c3205a81d7cfaa06064ad6042482a6ad04c2", checked := Tryz.checked }
namespace Rows
def none {H : Type} : Left H := { results := [], args := [] }

/-- 'roundelaylaw07.ProgReaches': WHATEVER THE INPUT: true; the input reads as it did. -/
def progReachesSpec : ChangeSpec := { name := "progReaches", fn := fun _ => fun
  | [d1, d2] => { results := [.lit (.bool true)], args := [d1, d2] }
  | _ => none }
def progReachesRow : OpenClaim := { program := "ytacefdkfbpgedaagreat", sum := "a7922d34e762fda89ec9e5dcc8c1c3205a81d7cfaa06064ad6042482a6ad04c2", func := "roundelay/roundelaylaw07.ProgReaches", spec := "progReaches", unfollowed := true, recurses := true, loops := true, plainKeys := false, apart := false }
def ProgReachesSaid : Prop := progReachesRow.holds Tryz.pinned (OpenSpec.ofChange progReachesSpec)

/-- ITS FALSE NEIGHBOUR: 'it returns false'. Refute it at one input. -/
def progReachesWrong : ChangeSpec := { name := "progReaches", fn := fun _ => fun
  | [d1, d2] => { results := [.lit (.bool false)], args := [d1, d2] }
  | _ => none }
def ProgReachesWrongFalsely : Prop := progReachesRow.holds Tryz.pinned (OpenSpec.ofChange progReachesWrong)

/-- 'roundelaylaw07.ProgHeads': WHATEVER THE INPUT: true; the input reads as it did. -/
def progHeadsSpec : ChangeSpec := { name := "progHeads", fn := fun _ => fun
  | [d1, d2] => { results := [.lit (.bool true)], args := [d1, d2] }
  | _ => none }
def progHeadsRow : OpenClaim := { program := "ytacefdkfbpgedaagreat", sum := "a7922d34e762fda89ec9e5dcc8c1c3205a81d7cfaa06064ad6042482a6ad04c2", func := "roundelay/roundelaylaw07.ProgHeads", spec := "progHeads", unfollowed := true, recurses := true, plainKeys := false, apart := false }
def ProgHeadsSaid : Prop := progHeadsRow.holds Tryz.pinned (OpenSpec.ofChange progHeadsSpec)

/-- ITS FALSE NEIGHBOUR: 'it returns false'. Refute it at one input. -/
def progHeadsWrong : ChangeSpec := { name := "progHeads", fn := fun _ => fun
  | [d1, d2] => { results := [.lit (.bool false)], args := [d1, d2] }
  | _ => none }
def ProgHeadsWrongFalsely : Prop := progHeadsRow.holds Tryz.pinned (OpenSpec.ofChange progHeadsWrong)

/-- 'roundelaylaw07.ProgChecks': WHATEVER THE INPUT: true; the input reads as it did. -/
def progChecksSpec : ChangeSpec := { name := "progChecks", fn := fun _ => fun
  | [d1, d2] => { results := [.lit (.bool true)], args := [d1, d2] }
  | _ => none }
def progChecksRow : OpenClaim := { program := "ytacefdkfbpgedaagreat", sum := "a7922d34e762fda89ec9e5dcc8c1c3205a81d7cfaa06064ad6042482a6ad04c2", func := "roundelay/roundelaylaw07.ProgChecks", spec := "progChecks", unfollowed := true, recurses := true, loops := true, plainKeys := false, apart := false }
def ProgChecksSaid : Prop := progChecksRow.holds Tryz.pinned (OpenSpec.ofChange progChecksSpec)

/-- ITS FALSE NEIGHBOUR: 'it returns false'. Refute it at one input. -/
def progChecksWrong : ChangeSpec := { name := "progChecks", fn := fun _ => fun
  | [d1, d2] => { results := [.lit (.bool false)], args := [d1, d2] }
  | _ => none }
def ProgChecksWrongFalsely : Prop := progChecksRow.holds Tryz.pinned (OpenSpec.ofChange progChecksWrong)

/-- 'roundelaylaw07.ProgChanges': WHATEVER THE INPUT: true; the input reads as it did. -/
def progChangesSpec : ChangeSpec := { name := "progChanges", fn := fun _ => fun
  | [d1, d2, d3, d4, d5] => { results := [.lit (.bool true)], args := [d1, d2, d3, d4, d5] }
  | _ => none }
def progChangesRow : OpenClaim := { program := "ytacefdkfbpgedaagreat", sum := "a7922d34e762fda89ec9e5dcc8c1c3205a81d7cfaa06064ad6042482a6ad04c2", func := "roundelay/roundelaylaw07.ProgChanges", spec := "progChanges", unfollowed := true, recurses := true, loops := true, plainKeys := false, apart := false }
def ProgChangesSaid : Prop := progChangesRow.holds Tryz.pinned (OpenSpec.ofChange progChangesSpec)

/-- ITS FALSE NEIGHBOUR: 'it returns false'. Refute it at one input. -/
def progChangesWrong : ChangeSpec := { name := "progChanges", fn := fun _ => fun
  | [d1, d2, d3, d4, d5] => { results := [.lit (.bool false)], args := [d1, d2, d3, d4, d5] }
  | _ => none }
def ProgChangesWrongFalsely : Prop := progChangesRow.holds Tryz.pinned (OpenSpec.ofChange progChangesWrong)

/-- 'roundelaylaw07.ProgSmall': WHATEVER THE INPUT: true; the input reads as it did. -/
def progSmallSpec : ChangeSpec := { name := "progSmall", fn := fun _ => fun
  | [] => { results := [.lit (.bool true)], args := [] }
  | _ => none }
def progSmallRow : OpenClaim := { program := "ytacefdkfbpgedaagreat", sum := "a7922d34e762fda89ec9e5dcc8c1c3205a81d7cfaa06064ad6042482a6ad04c2", func := "roundelay/roundelaylaw07.ProgSmall", spec := "progSmall", unfollowed := true, recurses := true, plainKeys := false, apart := false }
def ProgSmallSaid : Prop := progSmallRow.holds Tryz.pinned (OpenSpec.ofChange progSmallSpec)

/-- ITS FALSE NEIGHBOUR: 'it returns false'. Refute it at one input. -/
def progSmallWrong : ChangeSpec := { name := "progSmall", fn := fun _ => fun
  | [] => { results := [.lit (.bool false)], args := [] }
  | _ => none }
def ProgSmallWrongFalsely : Prop := progSmallRow.holds Tryz.pinned (OpenSpec.ofChange progSmallWrong)

/- THE SECOND FORM. 'bulk': how many values and letters a reading holds, each counted each time it is reached (what is shared counts as often as it is met; a slice's spare places count too). A statement '..UptoSaid' is the law's where the arguments, and the package variables that the reading takes, are together of bulk at most 1048576: NARROWER than '..Said'. Prove '..Said' where nothing that the law and all that it calls make is longer than what came in: it says more and counts as full. Else prove '..UptoSaid'. A law counts once. -/
mutual
def uptoBulk {H : Type} : DataW H → Nat
  | .lit (.string bytes) => bytes.length + 1
  | .lit _ => 1
  | .nil => 1
  | .ptr d => uptoBulk d + 1
  | .slice elems spare => uptoBulkAll elems + uptoBulkAll spare + 1
  | .agg parts => uptoBulkAll parts + 1
  | .iface _ d => uptoBulk d + 1
  | .map entries => uptoBulkEntries entries + 1
  | .held _ => 1
def uptoBulkAll {H : Type} : List (DataW H) → Nat
  | [] => 0
  | d :: r => uptoBulk d + uptoBulkAll r
def uptoBulkEntries {H : Type} : List (Lit × DataW H) → Nat
  | [] => 0
  | x :: r => uptoBulkEntry x + uptoBulkEntries r
def uptoBulkEntry {H : Type} : Lit × DataW H → Nat
  | (.string bytes, d) => bytes.length + uptoBulk d + 1
  | (_, d) => uptoBulk d + 1
 end
def uptoSmall : (H : Type) → List (DataW H) → Bool := fun _ ds => decide (uptoBulkAll ds ≤ 1048576)
def OpenSpec.upto (s : _root_.Go.ChangeSpec) : _root_.Go.OpenSpec := { _root_.Go.OpenSpec.ofChange s with cond := some uptoSmall }

/-- 'roundelaylaw07.ProgReaches', WHERE WHAT IT READS IS OF BULK AT MOST 1048576: true; the input reads as it did. -/
def progReachesUptoRow : OpenClaim := { program := "ytacefdkfbpgedaagreat", sum := "a7922d34e762fda89ec9e5dcc8c1c3205a81d7cfaa06064ad6042482a6ad04c2", func := "roundelay/roundelaylaw07.ProgReaches", spec := "progReaches", unfollowed := true, recurses := true, loops := true, plainKeys := false, apart := false, narrowed := true }
def ProgReachesUptoSaid : Prop := progReachesUptoRow.holds Tryz.pinned (OpenSpec.upto progReachesSpec)

/-- 'roundelaylaw07.ProgHeads', WHERE WHAT IT READS IS OF BULK AT MOST 1048576: true; the input reads as it did. -/
def progHeadsUptoRow : OpenClaim := { program := "ytacefdkfbpgedaagreat", sum := "a7922d34e762fda89ec9e5dcc8c1c3205a81d7cfaa06064ad6042482a6ad04c2", func := "roundelay/roundelaylaw07.ProgHeads", spec := "progHeads", unfollowed := true, recurses := true, plainKeys := false, apart := false, narrowed := true }
def ProgHeadsUptoSaid : Prop := progHeadsUptoRow.holds Tryz.pinned (OpenSpec.upto progHeadsSpec)

/-- 'roundelaylaw07.ProgChecks', WHERE WHAT IT READS IS OF BULK AT MOST 1048576: true; the input reads as it did. -/
def progChecksUptoRow : OpenClaim := { program := "ytacefdkfbpgedaagreat", sum := "a7922d34e762fda89ec9e5dcc8c1c3205a81d7cfaa06064ad6042482a6ad04c2", func := "roundelay/roundelaylaw07.ProgChecks", spec := "progChecks", unfollowed := true, recurses := true, loops := true, plainKeys := false, apart := false, narrowed := true }
def ProgChecksUptoSaid : Prop := progChecksUptoRow.holds Tryz.pinned (OpenSpec.upto progChecksSpec)

/-- 'roundelaylaw07.ProgChanges', WHERE WHAT IT READS IS OF BULK AT MOST 1048576: true; the input reads as it did. -/
def progChangesUptoRow : OpenClaim := { program := "ytacefdkfbpgedaagreat", sum := "a7922d34e762fda89ec9e5dcc8c1c3205a81d7cfaa06064ad6042482a6ad04c2", func := "roundelay/roundelaylaw07.ProgChanges", spec := "progChanges", unfollowed := true, recurses := true, loops := true, plainKeys := false, apart := false, narrowed := true }
def ProgChangesUptoSaid : Prop := progChangesUptoRow.holds Tryz.pinned (OpenSpec.upto progChangesSpec)

/-- 'roundelaylaw07.ProgSmall', WHERE WHAT IT READS IS OF BULK AT MOST 1048576: true; the input reads as it did. -/
def progSmallUptoRow : OpenClaim := { program := "ytacefdkfbpgedaagreat", sum := "a7922d34e762fda89ec9e5dcc8c1c3205a81d7cfaa06064ad6042482a6ad04c2", func := "roundelay/roundelaylaw07.ProgSmall", spec := "progSmall", unfollowed := true, recurses := true, plainKeys := false, apart := false, narrowed := true }
def ProgSmallUptoSaid : Prop := progSmallUptoRow.holds Tryz.pinned (OpenSpec.upto progSmallSpec)

end Rows
end Go.Proofs.YtacefdkfbpgedaaGreat
