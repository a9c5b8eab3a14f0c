/-
  No cell of these rows narrows 'for every input' (looked for: loops, veiled, ifaces, maps, wideKeys, modest, calm, conditions, laid).
  DERIVED. THE GIVEN ROWS OF THIS SEAT. 3 by the template 'for every input the law returns true; each argument reads behind the call as it read before'; 0 by the template 'total and deterministic' (their statements: YthfddndmhjkeiaaTotals.lean).
  GIVEN WITH THE SEED: the statements are not yours to turn. If you find one false, say at which input.
  Laid BY PROGRAM, IN A SANDBOX (cutbox-rows.mjs): the forced cells as the released guide's own fill.sh prints them over the translation c6b108581f9180c8… (all of the seat's roots in one cut). By AI agents, Wed Nov 11 2026. No macro, syntax, notation, axiom, sorry.
-/
import Derived.Test.YthfddndmhjkeiaaChecked
import GoSem.Claim
import GoSem.ClaimJoined
import GoSem.ClaimMapViews
import Derived.JoinedTies
import Derived.KernelRfl
namespace Go.Proofs.Ythfddndmhjkeiaa
/- THE CELL 'sum', in the pinned program and in every row, IS THE sha256 OF THE DUMP (.gsa) THAT YthfddndmhjkeiaaProg.lean LOADS. Nothing in Lean hashes anything: it is a label: what it is worth is what the hold of that sum in a sandbox is worth. -/
noncomputable def Try.pinned : Pinned := { name := "ythfddndmhjkeiaa", sum := "c6b108581f9180c8b309ecb330955ca9dbbbd21504ab95ff654a90ffb4e65046", checked := Try.checked }
namespace Rows
def none {H : Type} : Left H := { results := [], args := [] }

/-- 'storagebarterlaw13.StripeReads': WHATEVER THE INPUT: true; the input reads as it did. -/
def stripeReadsSpec : ChangeSpec := { name := "stripeReads", fn := fun _ => fun
  | [d1, d2, d3, d4, d5] => { results := [.lit (.bool true)], args := [d1, d2, d3, d4, d5] }
  | _ => none }
def stripeReadsRow : OpenClaim := { program := "ythfddndmhjkeiaa", sum := "c6b108581f9180c8b309ecb330955ca9dbbbd21504ab95ff654a90ffb4e65046", func := "storagebarter/storagebarterlaw13.StripeReads", spec := "stripeReads", inPlace := ["internal/abi.NoEscape", "internal/bytealg.MakeNoZero"], unfollowed := true, recurses := true, plainKeys := false, apart := false }
def StripeReadsSaid : Prop := stripeReadsRow.holds Try.pinned (OpenSpec.ofChange stripeReadsSpec)

/-- ITS FALSE NEIGHBOUR: 'it returns false'. Refute it at one input. -/
def stripeReadsWrong : ChangeSpec := { name := "stripeReads", fn := fun _ => fun
  | [d1, d2, d3, d4, d5] => { results := [.lit (.bool false)], args := [d1, d2, d3, d4, d5] }
  | _ => none }
def StripeReadsWrongFalsely : Prop := stripeReadsRow.holds Try.pinned (OpenSpec.ofChange stripeReadsWrong)

/-- 'storagebarterlaw13.StripeRepairs': WHATEVER THE INPUT: true; the input reads as it did. -/
def stripeRepairsSpec : ChangeSpec := { name := "stripeRepairs", fn := fun _ => fun
  | [d1, d2, d3] => { results := [.lit (.bool true)], args := [d1, d2, d3] }
  | _ => none }
def stripeRepairsRow : OpenClaim := { program := "ythfddndmhjkeiaa", sum := "c6b108581f9180c8b309ecb330955ca9dbbbd21504ab95ff654a90ffb4e65046", func := "storagebarter/storagebarterlaw13.StripeRepairs", spec := "stripeRepairs", inPlace := ["internal/abi.NoEscape", "internal/bytealg.MakeNoZero"], unfollowed := true, recurses := true, plainKeys := false, apart := false }
def StripeRepairsSaid : Prop := stripeRepairsRow.holds Try.pinned (OpenSpec.ofChange stripeRepairsSpec)

/-- ITS FALSE NEIGHBOUR: 'it returns false'. Refute it at one input. -/
def stripeRepairsWrong : ChangeSpec := { name := "stripeRepairs", fn := fun _ => fun
  | [d1, d2, d3] => { results := [.lit (.bool false)], args := [d1, d2, d3] }
  | _ => none }
def StripeRepairsWrongFalsely : Prop := stripeRepairsRow.holds Try.pinned (OpenSpec.ofChange stripeRepairsWrong)

/-- 'storagebarterlaw13.StripeForged': WHATEVER THE INPUT: true; the input reads as it did. -/
def stripeForgedSpec : ChangeSpec := { name := "stripeForged", fn := fun _ => fun
  | [d1, d2, d3] => { results := [.lit (.bool true)], args := [d1, d2, d3] }
  | _ => none }
def stripeForgedRow : OpenClaim := { program := "ythfddndmhjkeiaa", sum := "c6b108581f9180c8b309ecb330955ca9dbbbd21504ab95ff654a90ffb4e65046", func := "storagebarter/storagebarterlaw13.StripeForged", spec := "stripeForged", inPlace := ["internal/abi.NoEscape", "internal/bytealg.MakeNoZero"], unfollowed := true, recurses := true, plainKeys := false, apart := false }
def StripeForgedSaid : Prop := stripeForgedRow.holds Try.pinned (OpenSpec.ofChange stripeForgedSpec)

/-- ITS FALSE NEIGHBOUR: 'it returns false'. Refute it at one input. -/
def stripeForgedWrong : ChangeSpec := { name := "stripeForged", fn := fun _ => fun
  | [d1, d2, d3] => { results := [.lit (.bool false)], args := [d1, d2, d3] }
  | _ => none }
def StripeForgedWrongFalsely : Prop := stripeForgedRow.holds Try.pinned (OpenSpec.ofChange stripeForgedWrong)

/- THE SECOND FORM. 'bulk': how many values and letters a reading holds, each counted each time it is reached (what is shared counts as often as it is met; a slice's spare places count too). A statement '..UptoSaid' is the law's where the arguments, and the package variables that the reading takes, are together of bulk at most 1048576: NARROWER than '..Said'. Prove '..Said' where nothing that the law and all that it calls make is longer than what came in: it says more and counts as full. Else prove '..UptoSaid'. A law counts once. -/
mutual
def uptoBulk {H : Type} : DataW H → Nat
  | .lit (.string bytes) => bytes.length + 1
  | .lit _ => 1
  | .nil => 1
  | .ptr d => uptoBulk d + 1
  | .slice elems spare => uptoBulkAll elems + uptoBulkAll spare + 1
  | .agg parts => uptoBulkAll parts + 1
  | .iface _ d => uptoBulk d + 1
  | .map entries => uptoBulkEntries entries + 1
  | .held _ => 1
def uptoBulkAll {H : Type} : List (DataW H) → Nat
  | [] => 0
  | d :: r => uptoBulk d + uptoBulkAll r
def uptoBulkEntries {H : Type} : List (Lit × DataW H) → Nat
  | [] => 0
  | x :: r => uptoBulkEntry x + uptoBulkEntries r
def uptoBulkEntry {H : Type} : Lit × DataW H → Nat
  | (.string bytes, d) => bytes.length + uptoBulk d + 1
  | (_, d) => uptoBulk d + 1
 end
def uptoSmall : (H : Type) → List (DataW H) → Bool := fun _ ds => decide (uptoBulkAll ds ≤ 1048576)
def OpenSpec.upto (s : _root_.Go.ChangeSpec) : _root_.Go.OpenSpec := { _root_.Go.OpenSpec.ofChange s with cond := some uptoSmall }

/-- 'storagebarterlaw13.StripeReads', WHERE WHAT IT READS IS OF BULK AT MOST 1048576: true; the input reads as it did. -/
def stripeReadsUptoRow : OpenClaim := { program := "ythfddndmhjkeiaa", sum := "c6b108581f9180c8b309ecb330955ca9dbbbd21504ab95ff654a90ffb4e65046", func := "storagebarter/storagebarterlaw13.StripeReads", spec := "stripeReads", inPlace := ["internal/abi.NoEscape", "internal/bytealg.MakeNoZero"], unfollowed := true, recurses := true, plainKeys := false, apart := false, narrowed := true }
def StripeReadsUptoSaid : Prop := stripeReadsUptoRow.holds Try.pinned (OpenSpec.upto stripeReadsSpec)

/-- 'storagebarterlaw13.StripeRepairs', WHERE WHAT IT READS IS OF BULK AT MOST 1048576: true; the input reads as it did. -/
def stripeRepairsUptoRow : OpenClaim := { program := "ythfddndmhjkeiaa", sum := "c6b108581f9180c8b309ecb330955ca9dbbbd21504ab95ff654a90ffb4e65046", func := "storagebarter/storagebarterlaw13.StripeRepairs", spec := "stripeRepairs", inPlace := ["internal/abi.NoEscape", "internal/bytealg.MakeNoZero"], unfollowed := true, recurses := true, plainKeys := false, apart := false, narrowed := true }
def StripeRepairsUptoSaid : Prop := stripeRepairsUptoRow.holds Try.pinned (OpenSpec.upto stripeRepairsSpec)

/-- 'storagebarterlaw13.StripeForged', WHERE WHAT IT READS IS OF BULK AT MOST 1048576: true; the input reads as it did. -/
def stripeForgedUptoRow : OpenClaim := { program := "ythfddndmhjkeiaa", sum := "c6b108581f9180c8b309ecb330955ca9dbbbd21504ab95ff654a90ffb4e65046", func := "storagebarter/storagebarterlaw13.StripeForged", spec := "stripeForged", inPlace := ["internal/abi.NoEscape", "internal/bytealg.MakeNoZero"], unfollowed := true, recurses := true, plainKeys := false, apart := false, narrowed := true }
def StripeForgedUptoSaid : Prop := stripeForgedUptoRow.holds Try.pinned (OpenSpec.upto stripeForgedSpec)

end Rows
end Go.Proofs.Ythfddndmhjkeiaa
