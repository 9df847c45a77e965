/-
  No cell of these rows narrows 'for every input' (looked for: loops, veiled, ifaces, maps, wideKeys, modest, calm, conditions, laid).
  DERIVED. THE GIVEN ROWS OF THIS SEAT. 3 by the template 'for every input the law returns true; each argument reads behind the call as it read before'; 0 by the template 'total and deterministic' (their statements: YtfnaoekkdgndkaaTotals.lean).
  GIVEN WITH THE SEED: the statements are not yours to turn. If you find one false, say at which input.
  Laid BY PROGRAM, IN A SANDBOX (cutbox-rows.mjs): the forced cells as the released guide's own fill.sh prints them over the translation 40dbd259748b6a03… (all of the seat's roots in one cut). By AI agents, Wed Nov 11 2026. No macro, syntax, notation, axiom, sorry.
-/
import Derived.Test.YtfnaoekkdgndkaaChecked
import GoSem.Claim
import GoSem.ClaimJoined
import GoSem.ClaimMapViews
import Derived.JoinedTies
import Derived.KernelRfl
namespace Go.Proofs.Ytfnaoekkdgndkaa
/- THE CELL 'sum', in the pinned program and in every row, IS THE sha256 OF THE DUMP (.gsa) THAT YtfnaoekkdgndkaaProg.lean LOADS. Nothing in Lean hashes anything: it is a label: what it is worth is what the hold of that sum in a sandbox is worth. -/
noncomputable def Try.pinned : Pinned := { name := "ytfnaoekkdgndkaa", sum := "40dbd259748b6a031df7c0ff08357fb9a364d1890add63e861ca54aabb6f6122", checked := Try.checked }
namespace Rows
def none {H : Type} : Left H := { results := [], args := [] }

/-- 'punnetlaw23.CompactPlans': WHATEVER THE INPUT: true; the input reads as it did. -/
def compactPlansSpec : ChangeSpec := { name := "compactPlans", fn := fun _ => fun
  | [d1, d2] => { results := [.lit (.bool true)], args := [d1, d2] }
  | _ => none }
def compactPlansRow : OpenClaim := { program := "ytfnaoekkdgndkaa", sum := "40dbd259748b6a031df7c0ff08357fb9a364d1890add63e861ca54aabb6f6122", func := "punnet/punnetlaw23.CompactPlans", spec := "compactPlans", unfollowed := true, recurses := true, apart := false }
def CompactPlansSaid : Prop := compactPlansRow.holds Try.pinned (OpenSpec.ofChange compactPlansSpec)

/-- ITS FALSE NEIGHBOUR: 'it returns false'. Refute it at one input. -/
def compactPlansWrong : ChangeSpec := { name := "compactPlans", fn := fun _ => fun
  | [d1, d2] => { results := [.lit (.bool false)], args := [d1, d2] }
  | _ => none }
def CompactPlansWrongFalsely : Prop := compactPlansRow.holds Try.pinned (OpenSpec.ofChange compactPlansWrong)

/-- 'punnetlaw23.CompactKeeps': WHATEVER THE INPUT: true; the input reads as it did. -/
def compactKeepsSpec : ChangeSpec := { name := "compactKeeps", fn := fun _ => fun
  | [d1, d2] => { results := [.lit (.bool true)], args := [d1, d2] }
  | _ => none }
def compactKeepsRow : OpenClaim := { program := "ytfnaoekkdgndkaa", sum := "40dbd259748b6a031df7c0ff08357fb9a364d1890add63e861ca54aabb6f6122", func := "punnet/punnetlaw23.CompactKeeps", spec := "compactKeeps", unfollowed := true, recurses := true, apart := false }
def CompactKeepsSaid : Prop := compactKeepsRow.holds Try.pinned (OpenSpec.ofChange compactKeepsSpec)

/-- ITS FALSE NEIGHBOUR: 'it returns false'. Refute it at one input. -/
def compactKeepsWrong : ChangeSpec := { name := "compactKeeps", fn := fun _ => fun
  | [d1, d2] => { results := [.lit (.bool false)], args := [d1, d2] }
  | _ => none }
def CompactKeepsWrongFalsely : Prop := compactKeepsRow.holds Try.pinned (OpenSpec.ofChange compactKeepsWrong)

/-- 'punnetlaw23.CompactHoles': WHATEVER THE INPUT: true; the input reads as it did. -/
def compactHolesSpec : ChangeSpec := { name := "compactHoles", fn := fun _ => fun
  | [d1, d2, d3] => { results := [.lit (.bool true)], args := [d1, d2, d3] }
  | _ => none }
def compactHolesRow : OpenClaim := { program := "ytfnaoekkdgndkaa", sum := "40dbd259748b6a031df7c0ff08357fb9a364d1890add63e861ca54aabb6f6122", func := "punnet/punnetlaw23.CompactHoles", spec := "compactHoles", unfollowed := true, recurses := true, apart := false }
def CompactHolesSaid : Prop := compactHolesRow.holds Try.pinned (OpenSpec.ofChange compactHolesSpec)

/-- ITS FALSE NEIGHBOUR: 'it returns false'. Refute it at one input. -/
def compactHolesWrong : ChangeSpec := { name := "compactHoles", fn := fun _ => fun
  | [d1, d2, d3] => { results := [.lit (.bool false)], args := [d1, d2, d3] }
  | _ => none }
def CompactHolesWrongFalsely : Prop := compactHolesRow.holds Try.pinned (OpenSpec.ofChange compactHolesWrong)

/- THE SECOND FORM. 'bulk': how many values and letters a reading holds, each counted each time it is reached (what is shared counts as often as it is met; a slice's spare places count too). A statement '..UptoSaid' is the law's where the arguments, and the package variables that the reading takes, are together of bulk at most 1048576: NARROWER than '..Said'. Prove '..Said' where nothing that the law and all that it calls make is longer than what came in: it says more and counts as full. Else prove '..UptoSaid'. A law counts once. -/
mutual
def uptoBulk {H : Type} : DataW H → Nat
  | .lit (.string bytes) => bytes.length + 1
  | .lit _ => 1
  | .nil => 1
  | .ptr d => uptoBulk d + 1
  | .slice elems spare => uptoBulkAll elems + uptoBulkAll spare + 1
  | .agg parts => uptoBulkAll parts + 1
  | .iface _ d => uptoBulk d + 1
  | .map entries => uptoBulkEntries entries + 1
  | .held _ => 1
def uptoBulkAll {H : Type} : List (DataW H) → Nat
  | [] => 0
  | d :: r => uptoBulk d + uptoBulkAll r
def uptoBulkEntries {H : Type} : List (Lit × DataW H) → Nat
  | [] => 0
  | x :: r => uptoBulkEntry x + uptoBulkEntries r
def uptoBulkEntry {H : Type} : Lit × DataW H → Nat
  | (.string bytes, d) => bytes.length + uptoBulk d + 1
  | (_, d) => uptoBulk d + 1
 end
def uptoSmall : (H : Type) → List (DataW H) → Bool := fun _ ds => decide (uptoBulkAll ds ≤ 1048576)
def OpenSpec.upto (s : _root_.Go.ChangeSpec) : _root_.Go.OpenSpec := { _root_.Go.OpenSpec.ofChange s with cond := some uptoSmall }

/-- 'punnetlaw23.CompactPlans', WHERE WHAT IT READS IS OF BULK AT MOST 1048576: true; the input reads as it did. -/
def compactPlansUptoRow : OpenClaim := { program := "ytfnaoekkdgndkaa", sum := "40dbd259748b6a031df7c0ff08357fb9a364d1890add63e861ca54aabb6f6122", func := "punnet/punnetlaw23.CompactPlans", spec := "compactPlans", unfollowed := true, recurses := true, apart := false, narrowed := true }
def CompactPlansUptoSaid : Prop := compactPlansUptoRow.holds Try.pinned (OpenSpec.upto compactPlansSpec)

/-- 'punnetlaw23.CompactKeeps', WHERE WHAT IT READS IS OF BULK AT MOST 1048576: true; the input reads as it did. -/
def compactKeepsUptoRow : OpenClaim := { program := "ytfnaoekkdgndkaa", sum := "40dbd259748b6a031df7c0ff08357fb9a364d1890add63e861ca54aabb6f6122", func := "punnet/punnetlaw23.CompactKeeps", spec := "compactKeeps", unfollowed := true, recurses := true, apart := false, narrowed := true }
def CompactKeepsUptoSaid : Prop := compactKeepsUptoRow.holds Try.pinned (OpenSpec.upto compactKeepsSpec)

/-- 'punnetlaw23.CompactHoles', WHERE WHAT IT READS IS OF BULK AT MOST 1048576: true; the input reads as it did. -/
def compactHolesUptoRow : OpenClaim := { program := "ytfnaoekkdgndkaa", sum := "40dbd259748b6a031df7c0ff08357fb9a364d1890add63e861ca54aabb6f6122", func := "punnet/punnetlaw23.CompactHoles", spec := "compactHoles", unfollowed := true, recurses := true, apart := false, narrowed := true }
def CompactHolesUptoSaid : Prop := compactHolesUptoRow.holds Try.pinned (OpenSpec.upto compactHolesSpec)

end Rows
end Go.Proofs.Ytfnaoekkdgndkaa
