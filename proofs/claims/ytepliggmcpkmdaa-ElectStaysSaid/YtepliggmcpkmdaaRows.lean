/-
  No cell of these rows narrows 'for every input' (looked for: loops, veiled, ifaces, maps, wideKeys, modest, calm, conditions, laid).
  DERIVED. THE GIVEN ROWS OF THIS SEAT. 5 by the template 'for every input the law returns true; each argument reads behind the call as it read before'; 0 by the template 'total and deterministic' (their statements: YtepliggmcpkmdaaTotals.lean).
  GIVEN WITH THE SEED: the statements are not yours to turn. If you find one false, say at which input.
  Laid BY PROGRAM, IN A SANDBOX (cutbox-rows.mjs): the forced cells as the released guide's own fill.sh prints them over the translation 11c1dc612f83beb1… (all of the seat's roots in one cut). By AI agents, Wed Nov 11 2026. No macro, syntax, notation, axiom, sorry.
-/
import Derived.Test.YtepliggmcpkmdaaChecked
import GoSem.Claim
import GoSem.ClaimJoined
import GoSem.ClaimMapViews
import Derived.JoinedTies
import Derived.KernelRfl
namespace Go.Proofs.Ytepliggmcpkmdaa
/- THE CELL 'sum', in the pinned program and in every row, IS THE sha256 OF THE DUMP (.gsa) THAT YtepliggmcpkmdaaProg.lean LOADS. Nothing in Lean hashes anything: it is a label: what it is worth is what the hold of that sum in a sandbox is worth. -/
noncomputable def Try.pinned : Pinned := { name := "ytepliggmcpkmdaa", sum := "11c1dc612f83beb15ee12d718c570d08f4c992090b84ca7dcc3fac53f90aea84", checked := Try.checked }
namespace Rows
def none {H : Type} : Left H := { results := [], args := [] }

/-- 'lodestarlaw12.ElectOnce': WHATEVER THE INPUT: true; the input reads as it did. -/
def electOnceSpec : ChangeSpec := { name := "electOnce", fn := fun _ => fun
  | [d] => { results := [.lit (.bool true)], args := [d] }
  | _ => none }
def electOnceRow : OpenClaim := { program := "ytepliggmcpkmdaa", sum := "11c1dc612f83beb15ee12d718c570d08f4c992090b84ca7dcc3fac53f90aea84", func := "lodestar/lodestarlaw12.ElectOnce", spec := "electOnce", unfollowed := true, recurses := true, apart := false }
def ElectOnceSaid : Prop := electOnceRow.holds Try.pinned (OpenSpec.ofChange electOnceSpec)

/-- ITS FALSE NEIGHBOUR: 'it returns false'. Refute it at one input. -/
def electOnceWrong : ChangeSpec := { name := "electOnce", fn := fun _ => fun
  | [d] => { results := [.lit (.bool false)], args := [d] }
  | _ => none }
def ElectOnceWrongFalsely : Prop := electOnceRow.holds Try.pinned (OpenSpec.ofChange electOnceWrong)

/-- 'lodestarlaw12.ElectElect': WHATEVER THE INPUT: true; the input reads as it did. -/
def electElectSpec : ChangeSpec := { name := "electElect", fn := fun _ => fun
  | [d1, d2] => { results := [.lit (.bool true)], args := [d1, d2] }
  | _ => none }
def electElectRow : OpenClaim := { program := "ytepliggmcpkmdaa", sum := "11c1dc612f83beb15ee12d718c570d08f4c992090b84ca7dcc3fac53f90aea84", func := "lodestar/lodestarlaw12.ElectElect", spec := "electElect", unfollowed := true, recurses := true, apart := false }
def ElectElectSaid : Prop := electElectRow.holds Try.pinned (OpenSpec.ofChange electElectSpec)

/-- ITS FALSE NEIGHBOUR: 'it returns false'. Refute it at one input. -/
def electElectWrong : ChangeSpec := { name := "electElect", fn := fun _ => fun
  | [d1, d2] => { results := [.lit (.bool false)], args := [d1, d2] }
  | _ => none }
def ElectElectWrongFalsely : Prop := electElectRow.holds Try.pinned (OpenSpec.ofChange electElectWrong)

/-- 'lodestarlaw12.ElectSome': WHATEVER THE INPUT: true; the input reads as it did. -/
def electSomeSpec : ChangeSpec := { name := "electSome", fn := fun _ => fun
  | [d1, d2] => { results := [.lit (.bool true)], args := [d1, d2] }
  | _ => none }
def electSomeRow : OpenClaim := { program := "ytepliggmcpkmdaa", sum := "11c1dc612f83beb15ee12d718c570d08f4c992090b84ca7dcc3fac53f90aea84", func := "lodestar/lodestarlaw12.ElectSome", spec := "electSome", unfollowed := true, recurses := true, apart := false }
def ElectSomeSaid : Prop := electSomeRow.holds Try.pinned (OpenSpec.ofChange electSomeSpec)

/-- ITS FALSE NEIGHBOUR: 'it returns false'. Refute it at one input. -/
def electSomeWrong : ChangeSpec := { name := "electSome", fn := fun _ => fun
  | [d1, d2] => { results := [.lit (.bool false)], args := [d1, d2] }
  | _ => none }
def ElectSomeWrongFalsely : Prop := electSomeRow.holds Try.pinned (OpenSpec.ofChange electSomeWrong)

/-- 'lodestarlaw12.ElectStays': WHATEVER THE INPUT: true; the input reads as it did. -/
def electStaysSpec : ChangeSpec := { name := "electStays", fn := fun _ => fun
  | [d1, d2] => { results := [.lit (.bool true)], args := [d1, d2] }
  | _ => none }
def electStaysRow : OpenClaim := { program := "ytepliggmcpkmdaa", sum := "11c1dc612f83beb15ee12d718c570d08f4c992090b84ca7dcc3fac53f90aea84", func := "lodestar/lodestarlaw12.ElectStays", spec := "electStays", unfollowed := true, recurses := true, apart := false }
def ElectStaysSaid : Prop := electStaysRow.holds Try.pinned (OpenSpec.ofChange electStaysSpec)

/-- ITS FALSE NEIGHBOUR: 'it returns false'. Refute it at one input. -/
def electStaysWrong : ChangeSpec := { name := "electStays", fn := fun _ => fun
  | [d1, d2] => { results := [.lit (.bool false)], args := [d1, d2] }
  | _ => none }
def ElectStaysWrongFalsely : Prop := electStaysRow.holds Try.pinned (OpenSpec.ofChange electStaysWrong)

/-- 'lodestarlaw12.ElectOrder': WHATEVER THE INPUT: true; the input reads as it did. -/
def electOrderSpec : ChangeSpec := { name := "electOrder", fn := fun _ => fun
  | [d1, d2, d3] => { results := [.lit (.bool true)], args := [d1, d2, d3] }
  | _ => none }
def electOrderRow : OpenClaim := { program := "ytepliggmcpkmdaa", sum := "11c1dc612f83beb15ee12d718c570d08f4c992090b84ca7dcc3fac53f90aea84", func := "lodestar/lodestarlaw12.ElectOrder", spec := "electOrder", unfollowed := true, recurses := true, apart := false }
def ElectOrderSaid : Prop := electOrderRow.holds Try.pinned (OpenSpec.ofChange electOrderSpec)

/-- ITS FALSE NEIGHBOUR: 'it returns false'. Refute it at one input. -/
def electOrderWrong : ChangeSpec := { name := "electOrder", fn := fun _ => fun
  | [d1, d2, d3] => { results := [.lit (.bool false)], args := [d1, d2, d3] }
  | _ => none }
def ElectOrderWrongFalsely : Prop := electOrderRow.holds Try.pinned (OpenSpec.ofChange electOrderWrong)

/- THE SECOND FORM. 'bulk': how many values and letters a reading holds, each counted each time it is reached (what is shared counts as often as it is met; a slice's spare places count too). A statement '..UptoSaid' is the law's where the arguments, and the package variables that the reading takes, are together of bulk at most 1048576: NARROWER than '..Said'. Prove '..Said' where nothing that the law and all that it calls make is longer than what came in: it says more and counts as full. Else prove '..UptoSaid'. A law counts once. -/
mutual
def uptoBulk {H : Type} : DataW H → Nat
  | .lit (.string bytes) => bytes.length + 1
  | .lit _ => 1
  | .nil => 1
  | .ptr d => uptoBulk d + 1
  | .slice elems spare => uptoBulkAll elems + uptoBulkAll spare + 1
  | .agg parts => uptoBulkAll parts + 1
  | .iface _ d => uptoBulk d + 1
  | .map entries => uptoBulkEntries entries + 1
  | .held _ => 1
def uptoBulkAll {H : Type} : List (DataW H) → Nat
  | [] => 0
  | d :: r => uptoBulk d + uptoBulkAll r
def uptoBulkEntries {H : Type} : List (Lit × DataW H) → Nat
  | [] => 0
  | x :: r => uptoBulkEntry x + uptoBulkEntries r
def uptoBulkEntry {H : Type} : Lit × DataW H → Nat
  | (.string bytes, d) => bytes.length + uptoBulk d + 1
  | (_, d) => uptoBulk d + 1
 end
def uptoSmall : (H : Type) → List (DataW H) → Bool := fun _ ds => decide (uptoBulkAll ds ≤ 1048576)
def OpenSpec.upto (s : _root_.Go.ChangeSpec) : _root_.Go.OpenSpec := { _root_.Go.OpenSpec.ofChange s with cond := some uptoSmall }

/-- 'lodestarlaw12.ElectOnce', WHERE WHAT IT READS IS OF BULK AT MOST 1048576: true; the input reads as it did. -/
def electOnceUptoRow : OpenClaim := { program := "ytepliggmcpkmdaa", sum := "11c1dc612f83beb15ee12d718c570d08f4c992090b84ca7dcc3fac53f90aea84", func := "lodestar/lodestarlaw12.ElectOnce", spec := "electOnce", unfollowed := true, recurses := true, apart := false, narrowed := true }
def ElectOnceUptoSaid : Prop := electOnceUptoRow.holds Try.pinned (OpenSpec.upto electOnceSpec)

/-- 'lodestarlaw12.ElectElect', WHERE WHAT IT READS IS OF BULK AT MOST 1048576: true; the input reads as it did. -/
def electElectUptoRow : OpenClaim := { program := "ytepliggmcpkmdaa", sum := "11c1dc612f83beb15ee12d718c570d08f4c992090b84ca7dcc3fac53f90aea84", func := "lodestar/lodestarlaw12.ElectElect", spec := "electElect", unfollowed := true, recurses := true, apart := false, narrowed := true }
def ElectElectUptoSaid : Prop := electElectUptoRow.holds Try.pinned (OpenSpec.upto electElectSpec)

/-- 'lodestarlaw12.ElectSome', WHERE WHAT IT READS IS OF BULK AT MOST 1048576: true; the input reads as it did. -/
def electSomeUptoRow : OpenClaim := { program := "ytepliggmcpkmdaa", sum := "11c1dc612f83beb15ee12d718c570d08f4c992090b84ca7dcc3fac53f90aea84", func := "lodestar/lodestarlaw12.ElectSome", spec := "electSome", unfollowed := true, recurses := true, apart := false, narrowed := true }
def ElectSomeUptoSaid : Prop := electSomeUptoRow.holds Try.pinned (OpenSpec.upto electSomeSpec)

/-- 'lodestarlaw12.ElectStays', WHERE WHAT IT READS IS OF BULK AT MOST 1048576: true; the input reads as it did. -/
def electStaysUptoRow : OpenClaim := { program := "ytepliggmcpkmdaa", sum := "11c1dc612f83beb15ee12d718c570d08f4c992090b84ca7dcc3fac53f90aea84", func := "lodestar/lodestarlaw12.ElectStays", spec := "electStays", unfollowed := true, recurses := true, apart := false, narrowed := true }
def ElectStaysUptoSaid : Prop := electStaysUptoRow.holds Try.pinned (OpenSpec.upto electStaysSpec)

/-- 'lodestarlaw12.ElectOrder', WHERE WHAT IT READS IS OF BULK AT MOST 1048576: true; the input reads as it did. -/
def electOrderUptoRow : OpenClaim := { program := "ytepliggmcpkmdaa", sum := "11c1dc612f83beb15ee12d718c570d08f4c992090b84ca7dcc3fac53f90aea84", func := "lodestar/lodestarlaw12.ElectOrder", spec := "electOrder", unfollowed := true, recurses := true, apart := false, narrowed := true }
def ElectOrderUptoSaid : Prop := electOrderUptoRow.holds Try.pinned (OpenSpec.upto electOrderSpec)

end Rows
end Go.Proofs.Ytepliggmcpkmdaa
