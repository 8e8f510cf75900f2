/-
  NARROWER THAN 'FOR EVERY INPUT', by the rows' own cells (each row's printed sentence says how): FnExactGenBlock: loops.
  DERIVED. THE GIVEN ROWS OF THIS SEAT. 3 by the template 'for every input the law returns true; each argument reads behind the call as it read before'; 0 by the template 'total and deterministic' (their statements: YtomgmhbmchidnaaGreatTotals.lean).
  GIVEN WITH THE SEED: the statements are not yours to turn. If you find one false, say at which input.
  Laid BY PROGRAM, IN A SANDBOX (cutbox-rows.mjs): the forced cells as the released guide's own fill.sh prints them over the translation 260a0ec24a05089b… (all of the seat's roots in one cut). By AI agents, Wed Nov 11 2026. No macro, syntax, notation, axiom, sorry.
-/
import Derived.Test.YtomgmhbmchidnaaGreatChecked
import GoSem.Claim
import GoSem.ClaimJoined
import GoSem.ClaimMapViews
import Derived.JoinedTies
import Derived.KernelRfl
namespace Go.Proofs.YtomgmhbmchidnaaGreat
/- THE CELL 'sum', in the pinned program and in every row, IS THE sha256 OF THE DUMP (.gsa) THAT YtomgmhbmchidnaaGreatProg.lean LOADS. Nothing in Lean hashes anything: it is a label: what it is worth is what the hold of that sum in a sandbox is worth. -/
noncomputable def Tryz.pinned : Pinned := { name := "ytomgmhbmchidnaagreat", sum := "260a0ec24a05089bbf45bd7bd2ddb5314a68120bc9393a3bc9642719184b23ea", checked := Tryz.checked }
namespace Rows
def none {H : Type} : Left H := { results := [], args := [] }

/-- 'laws.FnExactGenBlock': WHATEVER THE INPUT: true; the input reads as it did. -/
def fnExactGenBlockSpec : ChangeSpec := { name := "fnExactGenBlock", fn := fun _ => fun
  | [d1, d2, d3] => { results := [.lit (.bool true)], args := [d1, d2, d3] }
  | _ => none }
def fnExactGenBlockRow : OpenClaim := { program := "ytomgmhbmchidnaagreat", sum := "260a0ec24a05089bbf45bd7bd2ddb5314a68120bc9393a3bc9642719184b23ea", func := "loop.example/g00288/laws.FnExactGenBlock", spec := "fnExactGenBlock", inPlace := ["internal/bytealg.IndexByteString", "internal/abi.NoEscape", "internal/bytealg.MakeNoZero"], unfollowed := true, recurses := true, loops := true, apart := false }
def FnExactGenBlockSaid : Prop := fnExactGenBlockRow.holds Tryz.pinned (OpenSpec.ofChange fnExactGenBlockSpec)

/-- ITS FALSE NEIGHBOUR: 'it returns false'. Refute it at one input. -/
def fnExactGenBlockWrong : ChangeSpec := { name := "fnExactGenBlock", fn := fun _ => fun
  | [d1, d2, d3] => { results := [.lit (.bool false)], args := [d1, d2, d3] }
  | _ => none }
def FnExactGenBlockWrongFalsely : Prop := fnExactGenBlockRow.holds Tryz.pinned (OpenSpec.ofChange fnExactGenBlockWrong)

/-- 'laws.FnJoined': WHATEVER THE INPUT: true; the input reads as it did. -/
def fnJoinedSpec : ChangeSpec := { name := "fnJoined", fn := fun _ => fun
  | [d] => { results := [.lit (.bool true)], args := [d] }
  | _ => none }
def fnJoinedRow : OpenClaim := { program := "ytomgmhbmchidnaagreat", sum := "260a0ec24a05089bbf45bd7bd2ddb5314a68120bc9393a3bc9642719184b23ea", func := "loop.example/g00288/laws.FnJoined", spec := "fnJoined", inPlace := ["internal/bytealg.IndexByteString", "internal/abi.NoEscape", "internal/bytealg.MakeNoZero"], unfollowed := true, recurses := true, apart := false }
def FnJoinedSaid : Prop := fnJoinedRow.holds Tryz.pinned (OpenSpec.ofChange fnJoinedSpec)

/-- ITS FALSE NEIGHBOUR: 'it returns false'. Refute it at one input. -/
def fnJoinedWrong : ChangeSpec := { name := "fnJoined", fn := fun _ => fun
  | [d] => { results := [.lit (.bool false)], args := [d] }
  | _ => none }
def FnJoinedWrongFalsely : Prop := fnJoinedRow.holds Tryz.pinned (OpenSpec.ofChange fnJoinedWrong)

/-- 'laws.FnGens': WHATEVER THE INPUT: true; the input reads as it did. -/
def fnGensSpec : ChangeSpec := { name := "fnGens", fn := fun _ => fun
  | [d] => { results := [.lit (.bool true)], args := [d] }
  | _ => none }
def fnGensRow : OpenClaim := { program := "ytomgmhbmchidnaagreat", sum := "260a0ec24a05089bbf45bd7bd2ddb5314a68120bc9393a3bc9642719184b23ea", func := "loop.example/g00288/laws.FnGens", spec := "fnGens", inPlace := ["internal/bytealg.IndexByteString", "internal/abi.NoEscape", "internal/bytealg.MakeNoZero"], unfollowed := true, recurses := true, apart := false }
def FnGensSaid : Prop := fnGensRow.holds Tryz.pinned (OpenSpec.ofChange fnGensSpec)

/-- ITS FALSE NEIGHBOUR: 'it returns false'. Refute it at one input. -/
def fnGensWrong : ChangeSpec := { name := "fnGens", fn := fun _ => fun
  | [d] => { results := [.lit (.bool false)], args := [d] }
  | _ => none }
def FnGensWrongFalsely : Prop := fnGensRow.holds Tryz.pinned (OpenSpec.ofChange fnGensWrong)

/- THE SECOND FORM. 'bulk': how many values and letters a reading holds, each counted each time it is reached (what is shared counts as often as it is met; a slice's spare places count too). A statement '..UptoSaid' is the law's where the arguments, and the package variables that the reading takes, are together of bulk at most 1048576: NARROWER than '..Said'. Prove '..Said' where nothing that the law and all that it calls make is longer than what came in: it says more and counts as full. Else prove '..UptoSaid'. A law counts once. -/
mutual
def uptoBulk {H : Type} : DataW H → Nat
  | .lit (.string bytes) => bytes.length + 1
  | .lit _ => 1
  | .nil => 1
  | .ptr d => uptoBulk d + 1
  | .slice elems spare => uptoBulkAll elems + uptoBulkAll spare + 1
  | .agg parts => uptoBulkAll parts + 1
  | .iface _ d => uptoBulk d + 1
  | .map entries => uptoBulkEntries entries + 1
  | .held _ => 1
def uptoBulkAll {H : Type} : List (DataW H) → Nat
  | [] => 0
  | d :: r => uptoBulk d + uptoBulkAll r
def uptoBulkEntries {H : Type} : List (Lit × DataW H) → Nat
  | [] => 0
  | x :: r => uptoBulkEntry x + uptoBulkEntries r
def uptoBulkEntry {H : Type} : Lit × DataW H → Nat
  | (.string bytes, d) => bytes.length + uptoBulk d + 1
  | (_, d) => uptoBulk d + 1
 end
def uptoSmall : (H : Type) → List (DataW H) → Bool := fun _ ds => decide (uptoBulkAll ds ≤ 1048576)
def OpenSpec.upto (s : _root_.Go.ChangeSpec) : _root_.Go.OpenSpec := { _root_.Go.OpenSpec.ofChange s with cond := some uptoSmall }

/-- 'laws.FnExactGenBlock', WHERE WHAT IT READS IS OF BULK AT MOST 1048576: true; the input reads as it did. -/
def fnExactGenBlockUptoRow : OpenClaim := { program := "ytomgmhbmchidnaagreat", sum := "260a0ec24a05089bbf45bd7bd2ddb5314a68120bc9393a3bc9642719184b23ea", func := "loop.example/g00288/laws.FnExactGenBlock", spec := "fnExactGenBlock", inPlace := ["internal/bytealg.IndexByteString", "internal/abi.NoEscape", "internal/bytealg.MakeNoZero"], unfollowed := true, recurses := true, loops := true, apart := false, narrowed := true }
def FnExactGenBlockUptoSaid : Prop := fnExactGenBlockUptoRow.holds Tryz.pinned (OpenSpec.upto fnExactGenBlockSpec)

/-- 'laws.FnJoined', WHERE WHAT IT READS IS OF BULK AT MOST 1048576: true; the input reads as it did. -/
def fnJoinedUptoRow : OpenClaim := { program := "ytomgmhbmchidnaagreat", sum := "260a0ec24a05089bbf45bd7bd2ddb5314a68120bc9393a3bc9642719184b23ea", func := "loop.example/g00288/laws.FnJoined", spec := "fnJoined", inPlace := ["internal/bytealg.IndexByteString", "internal/abi.NoEscape", "internal/bytealg.MakeNoZero"], unfollowed := true, recurses := true, apart := false, narrowed := true }
def FnJoinedUptoSaid : Prop := fnJoinedUptoRow.holds Tryz.pinned (OpenSpec.upto fnJoinedSpec)

/-- 'laws.FnGens', WHERE WHAT IT READS IS OF BULK AT MOST 1048576: true; the input reads as it did. -/
def fnGensUptoRow : OpenClaim := { program := "ytomgmhbmchidnaagreat", sum := "260a0ec24a05089bbf45bd7bd2ddb5314a68120bc9393a3bc9642719184b23ea", func := "loop.example/g00288/laws.FnGens", spec := "fnGens", inPlace := ["internal/bytealg.IndexByteString", "internal/abi.NoEscape", "internal/bytealg.MakeNoZero"], unfollowed := true, recurses := true, apart := false, narrowed := true }
def FnGensUptoSaid : Prop := fnGensUptoRow.holds Tryz.pinned (OpenSpec.upto fnGensSpec)

end Rows
end Go.Proofs.YtomgmhbmchidnaaGreat
