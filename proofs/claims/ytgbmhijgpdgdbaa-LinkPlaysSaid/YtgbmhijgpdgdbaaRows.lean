/-
  No cell of these rows narrows 'for every input' (looked for: loops, veiled, ifaces, maps, wideKeys, modest, calm, conditions, laid).
  DERIVED. THE GIVEN ROWS OF THIS SEAT. 8 by the template 'for every input the law returns true; each argument reads behind the call as it read before'; 0 by the template 'total and deterministic' (their statements: YtgbmhijgpdgdbaaTotals.lean).
  GIVEN WITH THE SEED: the statements are not yours to turn. If you find one false, say at which input.
  Laid BY PROGRAM, IN A SANDBOX (cutbox-rows.mjs): the forced cells as the released guide's own fill.sh prints them over the translation f764b2c5d8e84854… (all of the seat's roots in one cut). By AI agents, Wed Nov 11 2026. No macro, syntax, notation, axiom, sorry.
-/
import Derived.Test.YtgbmhijgpdgdbaaChecked
import GoSem.Claim
import GoSem.ClaimJoined
import GoSem.ClaimMapViews
import Derived.JoinedTies
import Derived.KernelRfl
namespace Go.Proofs.Ytgbmhijgpdgdbaa
/- THE CELL 'sum', in the pinned program and in every row, IS THE sha256 OF THE DUMP (.gsa) THAT YtgbmhijgpdgdbaaProg.lean LOADS. Nothing in Lean hashes anything: it is a label: what it is worth is what the hold of that sum in a sandbox is worth. -/
noncomputable def Try.pinned : Pinned := { name := "ytgbmhijgpdgdbaa", sum := "f764b2c5d8e8485419f8afac3671d6ea85c059f5e0746fa297cc51d394bb1f55", checked := Try.checked }
namespace Rows
def none {H : Type} : Left H := { results := [], args := [] }

/-- 'lodestarlaw14.AdjacentChunks': WHATEVER THE INPUT: true; the input reads as it did. -/
def adjacentChunksSpec : ChangeSpec := { name := "adjacentChunks", fn := fun _ => fun
  | [d1, d2] => { results := [.lit (.bool true)], args := [d1, d2] }
  | _ => none }
def adjacentChunksRow : OpenClaim := { program := "ytgbmhijgpdgdbaa", sum := "f764b2c5d8e8485419f8afac3671d6ea85c059f5e0746fa297cc51d394bb1f55", func := "lodestar/lodestarlaw14.AdjacentChunks", spec := "adjacentChunks", unfollowed := true, recurses := true, plainKeys := false, apart := false }
def AdjacentChunksSaid : Prop := adjacentChunksRow.holds Try.pinned (OpenSpec.ofChange adjacentChunksSpec)

/-- ITS FALSE NEIGHBOUR: 'it returns false'. Refute it at one input. -/
def adjacentChunksWrong : ChangeSpec := { name := "adjacentChunks", fn := fun _ => fun
  | [d1, d2] => { results := [.lit (.bool false)], args := [d1, d2] }
  | _ => none }
def AdjacentChunksWrongFalsely : Prop := adjacentChunksRow.holds Try.pinned (OpenSpec.ofChange adjacentChunksWrong)

/-- 'lodestarlaw14.AdjacentFull': WHATEVER THE INPUT: true; the input reads as it did. -/
def adjacentFullSpec : ChangeSpec := { name := "adjacentFull", fn := fun _ => fun
  | [d] => { results := [.lit (.bool true)], args := [d] }
  | _ => none }
def adjacentFullRow : OpenClaim := { program := "ytgbmhijgpdgdbaa", sum := "f764b2c5d8e8485419f8afac3671d6ea85c059f5e0746fa297cc51d394bb1f55", func := "lodestar/lodestarlaw14.AdjacentFull", spec := "adjacentFull", unfollowed := true, recurses := true, plainKeys := false, apart := false }
def AdjacentFullSaid : Prop := adjacentFullRow.holds Try.pinned (OpenSpec.ofChange adjacentFullSpec)

/-- ITS FALSE NEIGHBOUR: 'it returns false'. Refute it at one input. -/
def adjacentFullWrong : ChangeSpec := { name := "adjacentFull", fn := fun _ => fun
  | [d] => { results := [.lit (.bool false)], args := [d] }
  | _ => none }
def AdjacentFullWrongFalsely : Prop := adjacentFullRow.holds Try.pinned (OpenSpec.ofChange adjacentFullWrong)

/-- 'lodestarlaw14.AdjacentNone': WHATEVER THE INPUT: true; the input reads as it did. -/
def adjacentNoneSpec : ChangeSpec := { name := "adjacentNone", fn := fun _ => fun
  | [d] => { results := [.lit (.bool true)], args := [d] }
  | _ => none }
def adjacentNoneRow : OpenClaim := { program := "ytgbmhijgpdgdbaa", sum := "f764b2c5d8e8485419f8afac3671d6ea85c059f5e0746fa297cc51d394bb1f55", func := "lodestar/lodestarlaw14.AdjacentNone", spec := "adjacentNone", unfollowed := true, recurses := true, plainKeys := false, apart := false }
def AdjacentNoneSaid : Prop := adjacentNoneRow.holds Try.pinned (OpenSpec.ofChange adjacentNoneSpec)

/-- ITS FALSE NEIGHBOUR: 'it returns false'. Refute it at one input. -/
def adjacentNoneWrong : ChangeSpec := { name := "adjacentNone", fn := fun _ => fun
  | [d] => { results := [.lit (.bool false)], args := [d] }
  | _ => none }
def AdjacentNoneWrongFalsely : Prop := adjacentNoneRow.holds Try.pinned (OpenSpec.ofChange adjacentNoneWrong)

/-- 'lodestarlaw13.LinkLost': WHATEVER THE INPUT: true; the input reads as it did. -/
def linkLostSpec : ChangeSpec := { name := "linkLost", fn := fun _ => fun
  | [d1, d2, d3] => { results := [.lit (.bool true)], args := [d1, d2, d3] }
  | _ => none }
def linkLostRow : OpenClaim := { program := "ytgbmhijgpdgdbaa", sum := "f764b2c5d8e8485419f8afac3671d6ea85c059f5e0746fa297cc51d394bb1f55", func := "lodestar/lodestarlaw13.LinkLost", spec := "linkLost", unfollowed := true, recurses := true, plainKeys := false, apart := false }
def LinkLostSaid : Prop := linkLostRow.holds Try.pinned (OpenSpec.ofChange linkLostSpec)

/-- ITS FALSE NEIGHBOUR: 'it returns false'. Refute it at one input. -/
def linkLostWrong : ChangeSpec := { name := "linkLost", fn := fun _ => fun
  | [d1, d2, d3] => { results := [.lit (.bool false)], args := [d1, d2, d3] }
  | _ => none }
def LinkLostWrongFalsely : Prop := linkLostRow.holds Try.pinned (OpenSpec.ofChange linkLostWrong)

/-- 'lodestarlaw13.LinkQuiet': WHATEVER THE INPUT: true; the input reads as it did. -/
def linkQuietSpec : ChangeSpec := { name := "linkQuiet", fn := fun _ => fun
  | [d1, d2] => { results := [.lit (.bool true)], args := [d1, d2] }
  | _ => none }
def linkQuietRow : OpenClaim := { program := "ytgbmhijgpdgdbaa", sum := "f764b2c5d8e8485419f8afac3671d6ea85c059f5e0746fa297cc51d394bb1f55", func := "lodestar/lodestarlaw13.LinkQuiet", spec := "linkQuiet", unfollowed := true, recurses := true, plainKeys := false, apart := false }
def LinkQuietSaid : Prop := linkQuietRow.holds Try.pinned (OpenSpec.ofChange linkQuietSpec)

/-- ITS FALSE NEIGHBOUR: 'it returns false'. Refute it at one input. -/
def linkQuietWrong : ChangeSpec := { name := "linkQuiet", fn := fun _ => fun
  | [d1, d2] => { results := [.lit (.bool false)], args := [d1, d2] }
  | _ => none }
def LinkQuietWrongFalsely : Prop := linkQuietRow.holds Try.pinned (OpenSpec.ofChange linkQuietWrong)

/-- 'lodestarlaw13.LinkPair': WHATEVER THE INPUT: true; the input reads as it did. -/
def linkPairSpec : ChangeSpec := { name := "linkPair", fn := fun _ => fun
  | [d1, d2, d3] => { results := [.lit (.bool true)], args := [d1, d2, d3] }
  | _ => none }
def linkPairRow : OpenClaim := { program := "ytgbmhijgpdgdbaa", sum := "f764b2c5d8e8485419f8afac3671d6ea85c059f5e0746fa297cc51d394bb1f55", func := "lodestar/lodestarlaw13.LinkPair", spec := "linkPair", unfollowed := true, recurses := true, plainKeys := false, apart := false }
def LinkPairSaid : Prop := linkPairRow.holds Try.pinned (OpenSpec.ofChange linkPairSpec)

/-- ITS FALSE NEIGHBOUR: 'it returns false'. Refute it at one input. -/
def linkPairWrong : ChangeSpec := { name := "linkPair", fn := fun _ => fun
  | [d1, d2, d3] => { results := [.lit (.bool false)], args := [d1, d2, d3] }
  | _ => none }
def LinkPairWrongFalsely : Prop := linkPairRow.holds Try.pinned (OpenSpec.ofChange linkPairWrong)

/-- 'lodestarlaw13.LinkPlays': WHATEVER THE INPUT: true; the input reads as it did. -/
def linkPlaysSpec : ChangeSpec := { name := "linkPlays", fn := fun _ => fun
  | [d1, d2] => { results := [.lit (.bool true)], args := [d1, d2] }
  | _ => none }
def linkPlaysRow : OpenClaim := { program := "ytgbmhijgpdgdbaa", sum := "f764b2c5d8e8485419f8afac3671d6ea85c059f5e0746fa297cc51d394bb1f55", func := "lodestar/lodestarlaw13.LinkPlays", spec := "linkPlays", unfollowed := true, recurses := true, plainKeys := false, apart := false }
def LinkPlaysSaid : Prop := linkPlaysRow.holds Try.pinned (OpenSpec.ofChange linkPlaysSpec)

/-- ITS FALSE NEIGHBOUR: 'it returns false'. Refute it at one input. -/
def linkPlaysWrong : ChangeSpec := { name := "linkPlays", fn := fun _ => fun
  | [d1, d2] => { results := [.lit (.bool false)], args := [d1, d2] }
  | _ => none }
def LinkPlaysWrongFalsely : Prop := linkPlaysRow.holds Try.pinned (OpenSpec.ofChange linkPlaysWrong)

/-- 'lodestarlaw13.LinkNone': WHATEVER THE INPUT: true; the input reads as it did. -/
def linkNoneSpec : ChangeSpec := { name := "linkNone", fn := fun _ => fun
  | [d1, d2] => { results := [.lit (.bool true)], args := [d1, d2] }
  | _ => none }
def linkNoneRow : OpenClaim := { program := "ytgbmhijgpdgdbaa", sum := "f764b2c5d8e8485419f8afac3671d6ea85c059f5e0746fa297cc51d394bb1f55", func := "lodestar/lodestarlaw13.LinkNone", spec := "linkNone", unfollowed := true, recurses := true, plainKeys := false, apart := false }
def LinkNoneSaid : Prop := linkNoneRow.holds Try.pinned (OpenSpec.ofChange linkNoneSpec)

/-- ITS FALSE NEIGHBOUR: 'it returns false'. Refute it at one input. -/
def linkNoneWrong : ChangeSpec := { name := "linkNone", fn := fun _ => fun
  | [d1, d2] => { results := [.lit (.bool false)], args := [d1, d2] }
  | _ => none }
def LinkNoneWrongFalsely : Prop := linkNoneRow.holds Try.pinned (OpenSpec.ofChange linkNoneWrong)

/- THE SECOND FORM. 'bulk': how many values and letters a reading holds, each counted each time it is reached (what is shared counts as often as it is met; a slice's spare places count too). A statement '..UptoSaid' is the law's where the arguments, and the package variables that the reading takes, are together of bulk at most 1048576: NARROWER than '..Said'. Prove '..Said' where nothing that the law and all that it calls make is longer than what came in: it says more and counts as full. Else prove '..UptoSaid'. A law counts once. -/
mutual
def uptoBulk {H : Type} : DataW H → Nat
  | .lit (.string bytes) => bytes.length + 1
  | .lit _ => 1
  | .nil => 1
  | .ptr d => uptoBulk d + 1
  | .slice elems spare => uptoBulkAll elems + uptoBulkAll spare + 1
  | .agg parts => uptoBulkAll parts + 1
  | .iface _ d => uptoBulk d + 1
  | .map entries => uptoBulkEntries entries + 1
  | .held _ => 1
def uptoBulkAll {H : Type} : List (DataW H) → Nat
  | [] => 0
  | d :: r => uptoBulk d + uptoBulkAll r
def uptoBulkEntries {H : Type} : List (Lit × DataW H) → Nat
  | [] => 0
  | x :: r => uptoBulkEntry x + uptoBulkEntries r
def uptoBulkEntry {H : Type} : Lit × DataW H → Nat
  | (.string bytes, d) => bytes.length + uptoBulk d + 1
  | (_, d) => uptoBulk d + 1
 end
def uptoSmall : (H : Type) → List (DataW H) → Bool := fun _ ds => decide (uptoBulkAll ds ≤ 1048576)
def OpenSpec.upto (s : _root_.Go.ChangeSpec) : _root_.Go.OpenSpec := { _root_.Go.OpenSpec.ofChange s with cond := some uptoSmall }

/-- 'lodestarlaw14.AdjacentChunks', WHERE WHAT IT READS IS OF BULK AT MOST 1048576: true; the input reads as it did. -/
def adjacentChunksUptoRow : OpenClaim := { program := "ytgbmhijgpdgdbaa", sum := "f764b2c5d8e8485419f8afac3671d6ea85c059f5e0746fa297cc51d394bb1f55", func := "lodestar/lodestarlaw14.AdjacentChunks", spec := "adjacentChunks", unfollowed := true, recurses := true, plainKeys := false, apart := false, narrowed := true }
def AdjacentChunksUptoSaid : Prop := adjacentChunksUptoRow.holds Try.pinned (OpenSpec.upto adjacentChunksSpec)

/-- 'lodestarlaw14.AdjacentFull', WHERE WHAT IT READS IS OF BULK AT MOST 1048576: true; the input reads as it did. -/
def adjacentFullUptoRow : OpenClaim := { program := "ytgbmhijgpdgdbaa", sum := "f764b2c5d8e8485419f8afac3671d6ea85c059f5e0746fa297cc51d394bb1f55", func := "lodestar/lodestarlaw14.AdjacentFull", spec := "adjacentFull", unfollowed := true, recurses := true, plainKeys := false, apart := false, narrowed := true }
def AdjacentFullUptoSaid : Prop := adjacentFullUptoRow.holds Try.pinned (OpenSpec.upto adjacentFullSpec)

/-- 'lodestarlaw14.AdjacentNone', WHERE WHAT IT READS IS OF BULK AT MOST 1048576: true; the input reads as it did. -/
def adjacentNoneUptoRow : OpenClaim := { program := "ytgbmhijgpdgdbaa", sum := "f764b2c5d8e8485419f8afac3671d6ea85c059f5e0746fa297cc51d394bb1f55", func := "lodestar/lodestarlaw14.AdjacentNone", spec := "adjacentNone", unfollowed := true, recurses := true, plainKeys := false, apart := false, narrowed := true }
def AdjacentNoneUptoSaid : Prop := adjacentNoneUptoRow.holds Try.pinned (OpenSpec.upto adjacentNoneSpec)

/-- 'lodestarlaw13.LinkLost', WHERE WHAT IT READS IS OF BULK AT MOST 1048576: true; the input reads as it did. -/
def linkLostUptoRow : OpenClaim := { program := "ytgbmhijgpdgdbaa", sum := "f764b2c5d8e8485419f8afac3671d6ea85c059f5e0746fa297cc51d394bb1f55", func := "lodestar/lodestarlaw13.LinkLost", spec := "linkLost", unfollowed := true, recurses := true, plainKeys := false, apart := false, narrowed := true }
def LinkLostUptoSaid : Prop := linkLostUptoRow.holds Try.pinned (OpenSpec.upto linkLostSpec)

/-- 'lodestarlaw13.LinkQuiet', WHERE WHAT IT READS IS OF BULK AT MOST 1048576: true; the input reads as it did. -/
def linkQuietUptoRow : OpenClaim := { program := "ytgbmhijgpdgdbaa", sum := "f764b2c5d8e8485419f8afac3671d6ea85c059f5e0746fa297cc51d394bb1f55", func := "lodestar/lodestarlaw13.LinkQuiet", spec := "linkQuiet", unfollowed := true, recurses := true, plainKeys := false, apart := false, narrowed := true }
def LinkQuietUptoSaid : Prop := linkQuietUptoRow.holds Try.pinned (OpenSpec.upto linkQuietSpec)

/-- 'lodestarlaw13.LinkPair', WHERE WHAT IT READS IS OF BULK AT MOST 1048576: true; the input reads as it did. -/
def linkPairUptoRow : OpenClaim := { program := "ytgbmhijgpdgdbaa", sum := "f764b2c5d8e8485419f8afac3671d6ea85c059f5e0746fa297cc51d394bb1f55", func := "lodestar/lodestarlaw13.LinkPair", spec := "linkPair", unfollowed := true, recurses := true, plainKeys := false, apart := false, narrowed := true }
def LinkPairUptoSaid : Prop := linkPairUptoRow.holds Try.pinned (OpenSpec.upto linkPairSpec)

/-- 'lodestarlaw13.LinkPlays', WHERE WHAT IT READS IS OF BULK AT MOST 1048576: true; the input reads as it did. -/
def linkPlaysUptoRow : OpenClaim := { program := "ytgbmhijgpdgdbaa", sum := "f764b2c5d8e8485419f8afac3671d6ea85c059f5e0746fa297cc51d394bb1f55", func := "lodestar/lodestarlaw13.LinkPlays", spec := "linkPlays", unfollowed := true, recurses := true, plainKeys := false, apart := false, narrowed := true }
def LinkPlaysUptoSaid : Prop := linkPlaysUptoRow.holds Try.pinned (OpenSpec.upto linkPlaysSpec)

/-- 'lodestarlaw13.LinkNone', WHERE WHAT IT READS IS OF BULK AT MOST 1048576: true; the input reads as it did. -/
def linkNoneUptoRow : OpenClaim := { program := "ytgbmhijgpdgdbaa", sum := "f764b2c5d8e8485419f8afac3671d6ea85c059f5e0746fa297cc51d394bb1f55", func := "lodestar/lodestarlaw13.LinkNone", spec := "linkNone", unfollowed := true, recurses := true, plainKeys := false, apart := false, narrowed := true }
def LinkNoneUptoSaid : Prop := linkNoneUptoRow.holds Try.pinned (OpenSpec.upto linkNoneSpec)

end Rows
end Go.Proofs.Ytgbmhijgpdgdbaa
