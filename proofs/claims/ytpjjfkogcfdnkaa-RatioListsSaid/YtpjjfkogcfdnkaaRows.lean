/-
  No cell of these rows narrows 'for every input' (looked for: loops, veiled, ifaces, maps, wideKeys, modest, calm, conditions, laid).
  DERIVED. THE GIVEN ROWS OF THIS SEAT. 4 by the template 'for every input the law returns true; each argument reads behind the call as it read before'; 0 by the template 'total and deterministic' (their statements: YtpjjfkogcfdnkaaTotals.lean).
  GIVEN WITH THE SEED: the statements are not yours to turn. If you find one false, say at which input.
  Laid BY PROGRAM, IN A SANDBOX (cutbox-rows.mjs): the forced cells as the released guide's own fill.sh prints them over the translation 6bd654cb9e72ccba… (all of the seat's roots in one cut). By AI agents, Wed Nov 11 2026. No macro, syntax, notation, axiom, sorry.
-/
import Derived.Test.YtpjjfkogcfdnkaaChecked
import GoSem.Claim
import GoSem.ClaimJoined
import GoSem.ClaimMapViews
import Derived.JoinedTies
import Derived.KernelRfl
namespace Go.Proofs.Ytpjjfkogcfdnkaa
/- THE CELL 'sum', in the pinned program and in every row, IS THE sha256 OF THE DUMP (.gsa) THAT YtpjjfkogcfdnkaaProg.lean LOADS. Nothing in Lean hashes anything: it is a label: what it is worth is what the hold of that sum in a sandbox is worth. -/
noncomputable def Try.pinned : Pinned := { name := "ytpjjfkogcfdnkaa", sum := "6bd654cb9e72ccba00d72d8a87253a9cdc69212a41bf7b3f8c11838ca7fd004e", checked := Try.checked }
namespace Rows
def none {H : Type} : Left H := { results := [], args := [] }

/-- 'punnetlaw44.RatioShares': WHATEVER THE INPUT: true; the input reads as it did. -/
def ratioSharesSpec : ChangeSpec := { name := "ratioShares", fn := fun _ => fun
  | [d1, d2] => { results := [.lit (.bool true)], args := [d1, d2] }
  | _ => none }
def ratioSharesRow : OpenClaim := { program := "ytpjjfkogcfdnkaa", sum := "6bd654cb9e72ccba00d72d8a87253a9cdc69212a41bf7b3f8c11838ca7fd004e", func := "punnet/punnetlaw44.RatioShares", spec := "ratioShares", inPlace := ["math.Float64bits", "math.Float64frombits", "math.archFloor", "math.archTrunc"], apart := false }
def RatioSharesSaid : Prop := ratioSharesRow.holds Try.pinned (OpenSpec.ofChange ratioSharesSpec)

/-- ITS FALSE NEIGHBOUR: 'it returns false'. Refute it at one input. -/
def ratioSharesWrong : ChangeSpec := { name := "ratioShares", fn := fun _ => fun
  | [d1, d2] => { results := [.lit (.bool false)], args := [d1, d2] }
  | _ => none }
def RatioSharesWrongFalsely : Prop := ratioSharesRow.holds Try.pinned (OpenSpec.ofChange ratioSharesWrong)

/-- 'punnetlaw44.RatioOrder': WHATEVER THE INPUT: true; the input reads as it did. -/
def ratioOrderSpec : ChangeSpec := { name := "ratioOrder", fn := fun _ => fun
  | [d1, d2, d3] => { results := [.lit (.bool true)], args := [d1, d2, d3] }
  | _ => none }
def ratioOrderRow : OpenClaim := { program := "ytpjjfkogcfdnkaa", sum := "6bd654cb9e72ccba00d72d8a87253a9cdc69212a41bf7b3f8c11838ca7fd004e", func := "punnet/punnetlaw44.RatioOrder", spec := "ratioOrder", inPlace := ["math.Float64bits", "math.Float64frombits", "math.archFloor", "math.archTrunc"], apart := false }
def RatioOrderSaid : Prop := ratioOrderRow.holds Try.pinned (OpenSpec.ofChange ratioOrderSpec)

/-- ITS FALSE NEIGHBOUR: 'it returns false'. Refute it at one input. -/
def ratioOrderWrong : ChangeSpec := { name := "ratioOrder", fn := fun _ => fun
  | [d1, d2, d3] => { results := [.lit (.bool false)], args := [d1, d2, d3] }
  | _ => none }
def RatioOrderWrongFalsely : Prop := ratioOrderRow.holds Try.pinned (OpenSpec.ofChange ratioOrderWrong)

/-- 'punnetlaw44.RatioTurned': WHATEVER THE INPUT: true; the input reads as it did. -/
def ratioTurnedSpec : ChangeSpec := { name := "ratioTurned", fn := fun _ => fun
  | [d] => { results := [.lit (.bool true)], args := [d] }
  | _ => none }
def ratioTurnedRow : OpenClaim := { program := "ytpjjfkogcfdnkaa", sum := "6bd654cb9e72ccba00d72d8a87253a9cdc69212a41bf7b3f8c11838ca7fd004e", func := "punnet/punnetlaw44.RatioTurned", spec := "ratioTurned", inPlace := ["math.Float64bits", "math.Float64frombits", "math.archFloor", "math.archTrunc"], unfollowed := true, recurses := true, apart := false }
def RatioTurnedSaid : Prop := ratioTurnedRow.holds Try.pinned (OpenSpec.ofChange ratioTurnedSpec)

/-- ITS FALSE NEIGHBOUR: 'it returns false'. Refute it at one input. -/
def ratioTurnedWrong : ChangeSpec := { name := "ratioTurned", fn := fun _ => fun
  | [d] => { results := [.lit (.bool false)], args := [d] }
  | _ => none }
def RatioTurnedWrongFalsely : Prop := ratioTurnedRow.holds Try.pinned (OpenSpec.ofChange ratioTurnedWrong)

/-- 'punnetlaw44.RatioLists': WHATEVER THE INPUT: true; the input reads as it did. -/
def ratioListsSpec : ChangeSpec := { name := "ratioLists", fn := fun _ => fun
  | [d] => { results := [.lit (.bool true)], args := [d] }
  | _ => none }
def ratioListsRow : OpenClaim := { program := "ytpjjfkogcfdnkaa", sum := "6bd654cb9e72ccba00d72d8a87253a9cdc69212a41bf7b3f8c11838ca7fd004e", func := "punnet/punnetlaw44.RatioLists", spec := "ratioLists", inPlace := ["math.Float64bits", "math.Float64frombits", "math.archFloor", "math.archTrunc"], unfollowed := true, recurses := true, apart := false }
def RatioListsSaid : Prop := ratioListsRow.holds Try.pinned (OpenSpec.ofChange ratioListsSpec)

/-- ITS FALSE NEIGHBOUR: 'it returns false'. Refute it at one input. -/
def ratioListsWrong : ChangeSpec := { name := "ratioLists", fn := fun _ => fun
  | [d] => { results := [.lit (.bool false)], args := [d] }
  | _ => none }
def RatioListsWrongFalsely : Prop := ratioListsRow.holds Try.pinned (OpenSpec.ofChange ratioListsWrong)

/- THE SECOND FORM. 'bulk': how many values and letters a reading holds, each counted each time it is reached (what is shared counts as often as it is met; a slice's spare places count too). A statement '..UptoSaid' is the law's where the arguments, and the package variables that the reading takes, are together of bulk at most 1048576: NARROWER than '..Said'. Prove '..Said' where nothing that the law and all that it calls make is longer than what came in: it says more and counts as full. Else prove '..UptoSaid'. A law counts once. -/
mutual
def uptoBulk {H : Type} : DataW H → Nat
  | .lit (.string bytes) => bytes.length + 1
  | .lit _ => 1
  | .nil => 1
  | .ptr d => uptoBulk d + 1
  | .slice elems spare => uptoBulkAll elems + uptoBulkAll spare + 1
  | .agg parts => uptoBulkAll parts + 1
  | .iface _ d => uptoBulk d + 1
  | .map entries => uptoBulkEntries entries + 1
  | .held _ => 1
def uptoBulkAll {H : Type} : List (DataW H) → Nat
  | [] => 0
  | d :: r => uptoBulk d + uptoBulkAll r
def uptoBulkEntries {H : Type} : List (Lit × DataW H) → Nat
  | [] => 0
  | x :: r => uptoBulkEntry x + uptoBulkEntries r
def uptoBulkEntry {H : Type} : Lit × DataW H → Nat
  | (.string bytes, d) => bytes.length + uptoBulk d + 1
  | (_, d) => uptoBulk d + 1
 end
def uptoSmall : (H : Type) → List (DataW H) → Bool := fun _ ds => decide (uptoBulkAll ds ≤ 1048576)
def OpenSpec.upto (s : _root_.Go.ChangeSpec) : _root_.Go.OpenSpec := { _root_.Go.OpenSpec.ofChange s with cond := some uptoSmall }

/-- 'punnetlaw44.RatioShares', WHERE WHAT IT READS IS OF BULK AT MOST 1048576: true; the input reads as it did. -/
def ratioSharesUptoRow : OpenClaim := { program := "ytpjjfkogcfdnkaa", sum := "6bd654cb9e72ccba00d72d8a87253a9cdc69212a41bf7b3f8c11838ca7fd004e", func := "punnet/punnetlaw44.RatioShares", spec := "ratioShares", inPlace := ["math.Float64bits", "math.Float64frombits", "math.archFloor", "math.archTrunc"], apart := false, narrowed := true }
def RatioSharesUptoSaid : Prop := ratioSharesUptoRow.holds Try.pinned (OpenSpec.upto ratioSharesSpec)

/-- 'punnetlaw44.RatioOrder', WHERE WHAT IT READS IS OF BULK AT MOST 1048576: true; the input reads as it did. -/
def ratioOrderUptoRow : OpenClaim := { program := "ytpjjfkogcfdnkaa", sum := "6bd654cb9e72ccba00d72d8a87253a9cdc69212a41bf7b3f8c11838ca7fd004e", func := "punnet/punnetlaw44.RatioOrder", spec := "ratioOrder", inPlace := ["math.Float64bits", "math.Float64frombits", "math.archFloor", "math.archTrunc"], apart := false, narrowed := true }
def RatioOrderUptoSaid : Prop := ratioOrderUptoRow.holds Try.pinned (OpenSpec.upto ratioOrderSpec)

/-- 'punnetlaw44.RatioTurned', WHERE WHAT IT READS IS OF BULK AT MOST 1048576: true; the input reads as it did. -/
def ratioTurnedUptoRow : OpenClaim := { program := "ytpjjfkogcfdnkaa", sum := "6bd654cb9e72ccba00d72d8a87253a9cdc69212a41bf7b3f8c11838ca7fd004e", func := "punnet/punnetlaw44.RatioTurned", spec := "ratioTurned", inPlace := ["math.Float64bits", "math.Float64frombits", "math.archFloor", "math.archTrunc"], unfollowed := true, recurses := true, apart := false, narrowed := true }
def RatioTurnedUptoSaid : Prop := ratioTurnedUptoRow.holds Try.pinned (OpenSpec.upto ratioTurnedSpec)

/-- 'punnetlaw44.RatioLists', WHERE WHAT IT READS IS OF BULK AT MOST 1048576: true; the input reads as it did. -/
def ratioListsUptoRow : OpenClaim := { program := "ytpjjfkogcfdnkaa", sum := "6bd654cb9e72ccba00d72d8a87253a9cdc69212a41bf7b3f8c11838ca7fd004e", func := "punnet/punnetlaw44.RatioLists", spec := "ratioLists", inPlace := ["math.Float64bits", "math.Float64frombits", "math.archFloor", "math.archTrunc"], unfollowed := true, recurses := true, apart := false, narrowed := true }
def RatioListsUptoSaid : Prop := ratioListsUptoRow.holds Try.pinned (OpenSpec.upto ratioListsSpec)

end Rows
end Go.Proofs.Ytpjjfkogcfdnkaa
