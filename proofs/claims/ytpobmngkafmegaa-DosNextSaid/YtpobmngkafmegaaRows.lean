/-
  No cell of these rows narrows 'for every input' (looked for: loops, veiled, ifaces, maps, wideKeys, modest, calm, conditions, laid).
  DERIVED. THE GIVEN ROWS OF THIS SEAT. 3 by the template 'for every input the law returns true; each argument reads behind the call as it read before'; 0 by the template 'total and deterministic' (their statements: YtpobmngkafmegaaTotals.lean).
  GIVEN WITH THE SEED: the statements are not yours to turn. If you find one false, say at which input.
  Laid BY PROGRAM, IN A SANDBOX (cutbox-rows.mjs): the forced cells as the released guide's own fill.sh prints them over the translation db0521fa95bdd583… (all of the seat's roots in one cut). By AI agents, Wed Nov 11 2026. No macro, syntax, notation, axiom, sorry.
-/
import Derived.Test.YtpobmngkafmegaaChecked
import GoSem.Claim
import GoSem.ClaimJoined
import GoSem.ClaimMapViews
import Derived.JoinedTies
import Derived.KernelRfl
namespace Go.Proofs.Ytpobmngkafmegaa
/- THE CELL 'sum', in the pinned program and in every row, IS THE sha256 OF THE DUMP (.gsa) THAT YtpobmngkafmegaaProg.lean LOADS. Nothing in Lean hashes anything: it is a label: what it is worth is what the hold of that sum in a sandbox is worth. -/
noncomputable def Try.pinned : Pinned := { name := "ytpobmngkafmegaa", sum := "db0521fa95bdd583daad59f30c5ca9b3ba7e61f99184eb3e9af2565740ea0b7b", checked := Try.checked }
namespace Rows
def none {H : Type} : Left H := { results := [], args := [] }

/-- 'punnetlaw25.DosCodes': WHATEVER THE INPUT: true; the input reads as it did. -/
def dosCodesSpec : ChangeSpec := { name := "dosCodes", fn := fun _ => fun
  | [d1, d2, d3] => { results := [.lit (.bool true)], args := [d1, d2, d3] }
  | _ => none }
def dosCodesRow : OpenClaim := { program := "ytpobmngkafmegaa", sum := "db0521fa95bdd583daad59f30c5ca9b3ba7e61f99184eb3e9af2565740ea0b7b", func := "punnet/punnetlaw25.DosCodes", spec := "dosCodes", apart := false }
def DosCodesSaid : Prop := dosCodesRow.holds Try.pinned (OpenSpec.ofChange dosCodesSpec)

/-- ITS FALSE NEIGHBOUR: 'it returns false'. Refute it at one input. -/
def dosCodesWrong : ChangeSpec := { name := "dosCodes", fn := fun _ => fun
  | [d1, d2, d3] => { results := [.lit (.bool false)], args := [d1, d2, d3] }
  | _ => none }
def DosCodesWrongFalsely : Prop := dosCodesRow.holds Try.pinned (OpenSpec.ofChange dosCodesWrong)

/-- 'punnetlaw25.DosOrder': WHATEVER THE INPUT: true; the input reads as it did. -/
def dosOrderSpec : ChangeSpec := { name := "dosOrder", fn := fun _ => fun
  | [d1, d2, d3] => { results := [.lit (.bool true)], args := [d1, d2, d3] }
  | _ => none }
def dosOrderRow : OpenClaim := { program := "ytpobmngkafmegaa", sum := "db0521fa95bdd583daad59f30c5ca9b3ba7e61f99184eb3e9af2565740ea0b7b", func := "punnet/punnetlaw25.DosOrder", spec := "dosOrder", apart := false }
def DosOrderSaid : Prop := dosOrderRow.holds Try.pinned (OpenSpec.ofChange dosOrderSpec)

/-- ITS FALSE NEIGHBOUR: 'it returns false'. Refute it at one input. -/
def dosOrderWrong : ChangeSpec := { name := "dosOrder", fn := fun _ => fun
  | [d1, d2, d3] => { results := [.lit (.bool false)], args := [d1, d2, d3] }
  | _ => none }
def DosOrderWrongFalsely : Prop := dosOrderRow.holds Try.pinned (OpenSpec.ofChange dosOrderWrong)

/-- 'punnetlaw25.DosNext': WHATEVER THE INPUT: true; the input reads as it did. -/
def dosNextSpec : ChangeSpec := { name := "dosNext", fn := fun _ => fun
  | [d] => { results := [.lit (.bool true)], args := [d] }
  | _ => none }
def dosNextRow : OpenClaim := { program := "ytpobmngkafmegaa", sum := "db0521fa95bdd583daad59f30c5ca9b3ba7e61f99184eb3e9af2565740ea0b7b", func := "punnet/punnetlaw25.DosNext", spec := "dosNext", apart := false }
def DosNextSaid : Prop := dosNextRow.holds Try.pinned (OpenSpec.ofChange dosNextSpec)

/-- ITS FALSE NEIGHBOUR: 'it returns false'. Refute it at one input. -/
def dosNextWrong : ChangeSpec := { name := "dosNext", fn := fun _ => fun
  | [d] => { results := [.lit (.bool false)], args := [d] }
  | _ => none }
def DosNextWrongFalsely : Prop := dosNextRow.holds Try.pinned (OpenSpec.ofChange dosNextWrong)

/- THE SECOND FORM. 'bulk': how many values and letters a reading holds, each counted each time it is reached (what is shared counts as often as it is met; a slice's spare places count too). A statement '..UptoSaid' is the law's where the arguments, and the package variables that the reading takes, are together of bulk at most 1048576: NARROWER than '..Said'. Prove '..Said' where nothing that the law and all that it calls make is longer than what came in: it says more and counts as full. Else prove '..UptoSaid'. A law counts once. -/
mutual
def uptoBulk {H : Type} : DataW H → Nat
  | .lit (.string bytes) => bytes.length + 1
  | .lit _ => 1
  | .nil => 1
  | .ptr d => uptoBulk d + 1
  | .slice elems spare => uptoBulkAll elems + uptoBulkAll spare + 1
  | .agg parts => uptoBulkAll parts + 1
  | .iface _ d => uptoBulk d + 1
  | .map entries => uptoBulkEntries entries + 1
  | .held _ => 1
def uptoBulkAll {H : Type} : List (DataW H) → Nat
  | [] => 0
  | d :: r => uptoBulk d + uptoBulkAll r
def uptoBulkEntries {H : Type} : List (Lit × DataW H) → Nat
  | [] => 0
  | x :: r => uptoBulkEntry x + uptoBulkEntries r
def uptoBulkEntry {H : Type} : Lit × DataW H → Nat
  | (.string bytes, d) => bytes.length + uptoBulk d + 1
  | (_, d) => uptoBulk d + 1
 end
def uptoSmall : (H : Type) → List (DataW H) → Bool := fun _ ds => decide (uptoBulkAll ds ≤ 1048576)
def OpenSpec.upto (s : _root_.Go.ChangeSpec) : _root_.Go.OpenSpec := { _root_.Go.OpenSpec.ofChange s with cond := some uptoSmall }

/-- 'punnetlaw25.DosCodes', WHERE WHAT IT READS IS OF BULK AT MOST 1048576: true; the input reads as it did. -/
def dosCodesUptoRow : OpenClaim := { program := "ytpobmngkafmegaa", sum := "db0521fa95bdd583daad59f30c5ca9b3ba7e61f99184eb3e9af2565740ea0b7b", func := "punnet/punnetlaw25.DosCodes", spec := "dosCodes", apart := false, narrowed := true }
def DosCodesUptoSaid : Prop := dosCodesUptoRow.holds Try.pinned (OpenSpec.upto dosCodesSpec)

/-- 'punnetlaw25.DosOrder', WHERE WHAT IT READS IS OF BULK AT MOST 1048576: true; the input reads as it did. -/
def dosOrderUptoRow : OpenClaim := { program := "ytpobmngkafmegaa", sum := "db0521fa95bdd583daad59f30c5ca9b3ba7e61f99184eb3e9af2565740ea0b7b", func := "punnet/punnetlaw25.DosOrder", spec := "dosOrder", apart := false, narrowed := true }
def DosOrderUptoSaid : Prop := dosOrderUptoRow.holds Try.pinned (OpenSpec.upto dosOrderSpec)

/-- 'punnetlaw25.DosNext', WHERE WHAT IT READS IS OF BULK AT MOST 1048576: true; the input reads as it did. -/
def dosNextUptoRow : OpenClaim := { program := "ytpobmngkafmegaa", sum := "db0521fa95bdd583daad59f30c5ca9b3ba7e61f99184eb3e9af2565740ea0b7b", func := "punnet/punnetlaw25.DosNext", spec := "dosNext", apart := false, narrowed := true }
def DosNextUptoSaid : Prop := dosNextUptoRow.holds Try.pinned (OpenSpec.upto dosNextSpec)

end Rows
end Go.Proofs.Ytpobmngkafmegaa
