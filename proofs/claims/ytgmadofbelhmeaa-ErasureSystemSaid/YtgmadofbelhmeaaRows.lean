/-
  No cell of these rows narrows 'for every input' (looked for: loops, veiled, ifaces, maps, wideKeys, modest, calm, conditions, laid).
  DERIVED. THE GIVEN ROWS OF THIS SEAT. 7 by the template 'for every input the law returns true; each argument reads behind the call as it read before'; 0 by the template 'total and deterministic' (their statements: YtgmadofbelhmeaaTotals.lean).
  GIVEN WITH THE SEED: the statements are not yours to turn. If you find one false, say at which input.
  Laid BY PROGRAM, IN A SANDBOX (cutbox-rows.mjs): the forced cells as the released guide's own fill.sh prints them over the translation f885d751a9e80d16… (all of the seat's roots in one cut). By AI agents, Wed Nov 11 2026. No macro, syntax, notation, axiom, sorry.
-/
import Derived.Test.YtgmadofbelhmeaaChecked
import GoSem.Claim
import GoSem.ClaimJoined
import GoSem.ClaimMapViews
import Derived.JoinedTies
import Derived.KernelRfl
namespace Go.Proofs.Ytgmadofbelhmeaa
/- THE CELL 'sum', in the pinned program and in every row, IS THE sha256 OF THE DUMP (.gsa) THAT YtgmadofbelhmeaaProg.lean LOADS. Nothing in Lean hashes anything: it is a label: what it is worth is what the hold of that sum in a sandbox is worth. -/
noncomputable def Try.pinned : Pinned := { name := "ytgmadofbelhmeaa", sum := "f885d751a9e80d16593119ed0c5f4741138e70aee1df5277463ba5631948f597", checked := Try.checked }
namespace Rows
def none {H : Type} : Left H := { results := [], args := [] }

/-- 'storagebarterlaw07.ErasureAny': WHATEVER THE INPUT: true; the input reads as it did. -/
def erasureAnySpec : ChangeSpec := { name := "erasureAny", fn := fun _ => fun
  | [d1, d2] => { results := [.lit (.bool true)], args := [d1, d2] }
  | _ => none }
def erasureAnyRow : OpenClaim := { program := "ytgmadofbelhmeaa", sum := "f885d751a9e80d16593119ed0c5f4741138e70aee1df5277463ba5631948f597", func := "storagebarter/storagebarterlaw07.ErasureAny", spec := "erasureAny", inPlace := ["internal/abi.NoEscape", "internal/bytealg.MakeNoZero"], unfollowed := true, recurses := true, apart := false }
def ErasureAnySaid : Prop := erasureAnyRow.holds Try.pinned (OpenSpec.ofChange erasureAnySpec)

/-- ITS FALSE NEIGHBOUR: 'it returns false'. Refute it at one input. -/
def erasureAnyWrong : ChangeSpec := { name := "erasureAny", fn := fun _ => fun
  | [d1, d2] => { results := [.lit (.bool false)], args := [d1, d2] }
  | _ => none }
def ErasureAnyWrongFalsely : Prop := erasureAnyRow.holds Try.pinned (OpenSpec.ofChange erasureAnyWrong)

/-- 'storagebarterlaw07.ErasureSystem': WHATEVER THE INPUT: true; the input reads as it did. -/
def erasureSystemSpec : ChangeSpec := { name := "erasureSystem", fn := fun _ => fun
  | [d1, d2, d3] => { results := [.lit (.bool true)], args := [d1, d2, d3] }
  | _ => none }
def erasureSystemRow : OpenClaim := { program := "ytgmadofbelhmeaa", sum := "f885d751a9e80d16593119ed0c5f4741138e70aee1df5277463ba5631948f597", func := "storagebarter/storagebarterlaw07.ErasureSystem", spec := "erasureSystem", inPlace := ["internal/abi.NoEscape", "internal/bytealg.MakeNoZero"], unfollowed := true, recurses := true, apart := false }
def ErasureSystemSaid : Prop := erasureSystemRow.holds Try.pinned (OpenSpec.ofChange erasureSystemSpec)

/-- ITS FALSE NEIGHBOUR: 'it returns false'. Refute it at one input. -/
def erasureSystemWrong : ChangeSpec := { name := "erasureSystem", fn := fun _ => fun
  | [d1, d2, d3] => { results := [.lit (.bool false)], args := [d1, d2, d3] }
  | _ => none }
def ErasureSystemWrongFalsely : Prop := erasureSystemRow.holds Try.pinned (OpenSpec.ofChange erasureSystemWrong)

/-- 'storagebarterlaw07.ErasureOrder': WHATEVER THE INPUT: true; the input reads as it did. -/
def erasureOrderSpec : ChangeSpec := { name := "erasureOrder", fn := fun _ => fun
  | [d1, d2, d3] => { results := [.lit (.bool true)], args := [d1, d2, d3] }
  | _ => none }
def erasureOrderRow : OpenClaim := { program := "ytgmadofbelhmeaa", sum := "f885d751a9e80d16593119ed0c5f4741138e70aee1df5277463ba5631948f597", func := "storagebarter/storagebarterlaw07.ErasureOrder", spec := "erasureOrder", inPlace := ["internal/abi.NoEscape", "internal/bytealg.MakeNoZero"], unfollowed := true, recurses := true, apart := false }
def ErasureOrderSaid : Prop := erasureOrderRow.holds Try.pinned (OpenSpec.ofChange erasureOrderSpec)

/-- ITS FALSE NEIGHBOUR: 'it returns false'. Refute it at one input. -/
def erasureOrderWrong : ChangeSpec := { name := "erasureOrder", fn := fun _ => fun
  | [d1, d2, d3] => { results := [.lit (.bool false)], args := [d1, d2, d3] }
  | _ => none }
def ErasureOrderWrongFalsely : Prop := erasureOrderRow.holds Try.pinned (OpenSpec.ofChange erasureOrderWrong)

/-- 'storagebarterlaw07.ErasureDistance': WHATEVER THE INPUT: true; the input reads as it did. -/
def erasureDistanceSpec : ChangeSpec := { name := "erasureDistance", fn := fun _ => fun
  | [d1, d2, d3, d4] => { results := [.lit (.bool true)], args := [d1, d2, d3, d4] }
  | _ => none }
def erasureDistanceRow : OpenClaim := { program := "ytgmadofbelhmeaa", sum := "f885d751a9e80d16593119ed0c5f4741138e70aee1df5277463ba5631948f597", func := "storagebarter/storagebarterlaw07.ErasureDistance", spec := "erasureDistance", inPlace := ["internal/abi.NoEscape", "internal/bytealg.MakeNoZero"], unfollowed := true, recurses := true, apart := false }
def ErasureDistanceSaid : Prop := erasureDistanceRow.holds Try.pinned (OpenSpec.ofChange erasureDistanceSpec)

/-- ITS FALSE NEIGHBOUR: 'it returns false'. Refute it at one input. -/
def erasureDistanceWrong : ChangeSpec := { name := "erasureDistance", fn := fun _ => fun
  | [d1, d2, d3, d4] => { results := [.lit (.bool false)], args := [d1, d2, d3, d4] }
  | _ => none }
def ErasureDistanceWrongFalsely : Prop := erasureDistanceRow.holds Try.pinned (OpenSpec.ofChange erasureDistanceWrong)

/-- 'storagebarterlaw07.ErasureNotices': WHATEVER THE INPUT: true; the input reads as it did. -/
def erasureNoticesSpec : ChangeSpec := { name := "erasureNotices", fn := fun _ => fun
  | [d1, d2, d3, d4] => { results := [.lit (.bool true)], args := [d1, d2, d3, d4] }
  | _ => none }
def erasureNoticesRow : OpenClaim := { program := "ytgmadofbelhmeaa", sum := "f885d751a9e80d16593119ed0c5f4741138e70aee1df5277463ba5631948f597", func := "storagebarter/storagebarterlaw07.ErasureNotices", spec := "erasureNotices", inPlace := ["internal/abi.NoEscape", "internal/bytealg.MakeNoZero"], unfollowed := true, recurses := true, apart := false }
def ErasureNoticesSaid : Prop := erasureNoticesRow.holds Try.pinned (OpenSpec.ofChange erasureNoticesSpec)

/-- ITS FALSE NEIGHBOUR: 'it returns false'. Refute it at one input. -/
def erasureNoticesWrong : ChangeSpec := { name := "erasureNotices", fn := fun _ => fun
  | [d1, d2, d3, d4] => { results := [.lit (.bool false)], args := [d1, d2, d3, d4] }
  | _ => none }
def ErasureNoticesWrongFalsely : Prop := erasureNoticesRow.holds Try.pinned (OpenSpec.ofChange erasureNoticesWrong)

/-- 'storagebarterlaw07.ErasureDoes': WHATEVER THE INPUT: true; the input reads as it did. -/
def erasureDoesSpec : ChangeSpec := { name := "erasureDoes", fn := fun _ => fun
  | [d1, d2, d3, d4, d5, d6] => { results := [.lit (.bool true)], args := [d1, d2, d3, d4, d5, d6] }
  | _ => none }
def erasureDoesRow : OpenClaim := { program := "ytgmadofbelhmeaa", sum := "f885d751a9e80d16593119ed0c5f4741138e70aee1df5277463ba5631948f597", func := "storagebarter/storagebarterlaw07.ErasureDoes", spec := "erasureDoes", inPlace := ["internal/abi.NoEscape", "internal/bytealg.MakeNoZero"], unfollowed := true, recurses := true, apart := false }
def ErasureDoesSaid : Prop := erasureDoesRow.holds Try.pinned (OpenSpec.ofChange erasureDoesSpec)

/-- ITS FALSE NEIGHBOUR: 'it returns false'. Refute it at one input. -/
def erasureDoesWrong : ChangeSpec := { name := "erasureDoes", fn := fun _ => fun
  | [d1, d2, d3, d4, d5, d6] => { results := [.lit (.bool false)], args := [d1, d2, d3, d4, d5, d6] }
  | _ => none }
def ErasureDoesWrongFalsely : Prop := erasureDoesRow.holds Try.pinned (OpenSpec.ofChange erasureDoesWrong)

/-- 'storagebarterlaw07.ErasureRepairs': WHATEVER THE INPUT: true; the input reads as it did. -/
def erasureRepairsSpec : ChangeSpec := { name := "erasureRepairs", fn := fun _ => fun
  | [d1, d2, d3] => { results := [.lit (.bool true)], args := [d1, d2, d3] }
  | _ => none }
def erasureRepairsRow : OpenClaim := { program := "ytgmadofbelhmeaa", sum := "f885d751a9e80d16593119ed0c5f4741138e70aee1df5277463ba5631948f597", func := "storagebarter/storagebarterlaw07.ErasureRepairs", spec := "erasureRepairs", inPlace := ["internal/abi.NoEscape", "internal/bytealg.MakeNoZero"], unfollowed := true, recurses := true, apart := false }
def ErasureRepairsSaid : Prop := erasureRepairsRow.holds Try.pinned (OpenSpec.ofChange erasureRepairsSpec)

/-- ITS FALSE NEIGHBOUR: 'it returns false'. Refute it at one input. -/
def erasureRepairsWrong : ChangeSpec := { name := "erasureRepairs", fn := fun _ => fun
  | [d1, d2, d3] => { results := [.lit (.bool false)], args := [d1, d2, d3] }
  | _ => none }
def ErasureRepairsWrongFalsely : Prop := erasureRepairsRow.holds Try.pinned (OpenSpec.ofChange erasureRepairsWrong)

/- THE SECOND FORM. 'bulk': how many values and letters a reading holds, each counted each time it is reached (what is shared counts as often as it is met; a slice's spare places count too). A statement '..UptoSaid' is the law's where the arguments, and the package variables that the reading takes, are together of bulk at most 1048576: NARROWER than '..Said'. Prove '..Said' where nothing that the law and all that it calls make is longer than what came in: it says more and counts as full. Else prove '..UptoSaid'. A law counts once. -/
mutual
def uptoBulk {H : Type} : DataW H → Nat
  | .lit (.string bytes) => bytes.length + 1
  | .lit _ => 1
  | .nil => 1
  | .ptr d => uptoBulk d + 1
  | .slice elems spare => uptoBulkAll elems + uptoBulkAll spare + 1
  | .agg parts => uptoBulkAll parts + 1
  | .iface _ d => uptoBulk d + 1
  | .map entries => uptoBulkEntries entries + 1
  | .held _ => 1
def uptoBulkAll {H : Type} : List (DataW H) → Nat
  | [] => 0
  | d :: r => uptoBulk d + uptoBulkAll r
def uptoBulkEntries {H : Type} : List (Lit × DataW H) → Nat
  | [] => 0
  | x :: r => uptoBulkEntry x + uptoBulkEntries r
def uptoBulkEntry {H : Type} : Lit × DataW H → Nat
  | (.string bytes, d) => bytes.length + uptoBulk d + 1
  | (_, d) => uptoBulk d + 1
 end
def uptoSmall : (H : Type) → List (DataW H) → Bool := fun _ ds => decide (uptoBulkAll ds ≤ 1048576)
def OpenSpec.upto (s : _root_.Go.ChangeSpec) : _root_.Go.OpenSpec := { _root_.Go.OpenSpec.ofChange s with cond := some uptoSmall }

/-- 'storagebarterlaw07.ErasureAny', WHERE WHAT IT READS IS OF BULK AT MOST 1048576: true; the input reads as it did. -/
def erasureAnyUptoRow : OpenClaim := { program := "ytgmadofbelhmeaa", sum := "f885d751a9e80d16593119ed0c5f4741138e70aee1df5277463ba5631948f597", func := "storagebarter/storagebarterlaw07.ErasureAny", spec := "erasureAny", inPlace := ["internal/abi.NoEscape", "internal/bytealg.MakeNoZero"], unfollowed := true, recurses := true, apart := false, narrowed := true }
def ErasureAnyUptoSaid : Prop := erasureAnyUptoRow.holds Try.pinned (OpenSpec.upto erasureAnySpec)

/-- 'storagebarterlaw07.ErasureSystem', WHERE WHAT IT READS IS OF BULK AT MOST 1048576: true; the input reads as it did. -/
def erasureSystemUptoRow : OpenClaim := { program := "ytgmadofbelhmeaa", sum := "f885d751a9e80d16593119ed0c5f4741138e70aee1df5277463ba5631948f597", func := "storagebarter/storagebarterlaw07.ErasureSystem", spec := "erasureSystem", inPlace := ["internal/abi.NoEscape", "internal/bytealg.MakeNoZero"], unfollowed := true, recurses := true, apart := false, narrowed := true }
def ErasureSystemUptoSaid : Prop := erasureSystemUptoRow.holds Try.pinned (OpenSpec.upto erasureSystemSpec)

/-- 'storagebarterlaw07.ErasureOrder', WHERE WHAT IT READS IS OF BULK AT MOST 1048576: true; the input reads as it did. -/
def erasureOrderUptoRow : OpenClaim := { program := "ytgmadofbelhmeaa", sum := "f885d751a9e80d16593119ed0c5f4741138e70aee1df5277463ba5631948f597", func := "storagebarter/storagebarterlaw07.ErasureOrder", spec := "erasureOrder", inPlace := ["internal/abi.NoEscape", "internal/bytealg.MakeNoZero"], unfollowed := true, recurses := true, apart := false, narrowed := true }
def ErasureOrderUptoSaid : Prop := erasureOrderUptoRow.holds Try.pinned (OpenSpec.upto erasureOrderSpec)

/-- 'storagebarterlaw07.ErasureDistance', WHERE WHAT IT READS IS OF BULK AT MOST 1048576: true; the input reads as it did. -/
def erasureDistanceUptoRow : OpenClaim := { program := "ytgmadofbelhmeaa", sum := "f885d751a9e80d16593119ed0c5f4741138e70aee1df5277463ba5631948f597", func := "storagebarter/storagebarterlaw07.ErasureDistance", spec := "erasureDistance", inPlace := ["internal/abi.NoEscape", "internal/bytealg.MakeNoZero"], unfollowed := true, recurses := true, apart := false, narrowed := true }
def ErasureDistanceUptoSaid : Prop := erasureDistanceUptoRow.holds Try.pinned (OpenSpec.upto erasureDistanceSpec)

/-- 'storagebarterlaw07.ErasureNotices', WHERE WHAT IT READS IS OF BULK AT MOST 1048576: true; the input reads as it did. -/
def erasureNoticesUptoRow : OpenClaim := { program := "ytgmadofbelhmeaa", sum := "f885d751a9e80d16593119ed0c5f4741138e70aee1df5277463ba5631948f597", func := "storagebarter/storagebarterlaw07.ErasureNotices", spec := "erasureNotices", inPlace := ["internal/abi.NoEscape", "internal/bytealg.MakeNoZero"], unfollowed := true, recurses := true, apart := false, narrowed := true }
def ErasureNoticesUptoSaid : Prop := erasureNoticesUptoRow.holds Try.pinned (OpenSpec.upto erasureNoticesSpec)

/-- 'storagebarterlaw07.ErasureDoes', WHERE WHAT IT READS IS OF BULK AT MOST 1048576: true; the input reads as it did. -/
def erasureDoesUptoRow : OpenClaim := { program := "ytgmadofbelhmeaa", sum := "f885d751a9e80d16593119ed0c5f4741138e70aee1df5277463ba5631948f597", func := "storagebarter/storagebarterlaw07.ErasureDoes", spec := "erasureDoes", inPlace := ["internal/abi.NoEscape", "internal/bytealg.MakeNoZero"], unfollowed := true, recurses := true, apart := false, narrowed := true }
def ErasureDoesUptoSaid : Prop := erasureDoesUptoRow.holds Try.pinned (OpenSpec.upto erasureDoesSpec)

/-- 'storagebarterlaw07.ErasureRepairs', WHERE WHAT IT READS IS OF BULK AT MOST 1048576: true; the input reads as it did. -/
def erasureRepairsUptoRow : OpenClaim := { program := "ytgmadofbelhmeaa", sum := "f885d751a9e80d16593119ed0c5f4741138e70aee1df5277463ba5631948f597", func := "storagebarter/storagebarterlaw07.ErasureRepairs", spec := "erasureRepairs", inPlace := ["internal/abi.NoEscape", "internal/bytealg.MakeNoZero"], unfollowed := true, recurses := true, apart := false, narrowed := true }
def ErasureRepairsUptoSaid : Prop := erasureRepairsUptoRow.holds Try.pinned (OpenSpec.upto erasureRepairsSpec)

end Rows
end Go.Proofs.Ytgmadofbelhmeaa
