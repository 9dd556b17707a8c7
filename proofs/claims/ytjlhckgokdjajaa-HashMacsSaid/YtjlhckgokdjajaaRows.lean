/-
  No cell of these rows narrows 'for every input' (looked for: loops, veiled, ifaces, maps, wideKeys, modest, calm, conditions, laid).
  DERIVED. THE GIVEN ROWS OF THIS SEAT. 8 by the template 'for every input the law returns true; each argument reads behind the call as it read before'; 0 by the template 'total and deterministic' (their statements: YtjlhckgokdjajaaTotals.lean).
  GIVEN WITH THE SEED: the statements are not yours to turn. If you find one false, say at which input.
  Laid BY PROGRAM, IN A SANDBOX (cutbox-rows.mjs): the forced cells as the released guide's own fill.sh prints them over the translation 2ac85a4813bf0574… (all of the seat's roots in one cut). By AI agents, Wed Nov 11 2026. No macro, syntax, notation, axiom, sorry.
-/
import Derived.Test.YtjlhckgokdjajaaChecked
import GoSem.Claim
import GoSem.ClaimJoined
import GoSem.ClaimMapViews
import Derived.JoinedTies
import Derived.KernelRfl
namespace Go.Proofs.Ytjlhckgokdjajaa
/- THE CELL 'sum', in the pinned program and in every row, IS THE sha256 OF THE DUMP (.gsa) THAT YtjlhckgokdjajaaProg.lean LOADS. Nothing in Lean hashes anything: it is a label: what it is worth is what the hold of that sum in a sandbox is worth. -/
noncomputable def Try.pinned : Pinned := { name := "ytjlhckgokdjajaa", sum := "2ac85a4813bf0574fd6dd4584948bc5c94c4d52d17747932c6d4cb0f220b2872", checked := Try.checked }
namespace Rows
def none {H : Type} : Left H := { results := [], args := [] }

/-- 'ostiarylaw02.HashSums': WHATEVER THE INPUT: true; the input reads as it did. -/
def hashSumsSpec : ChangeSpec := { name := "hashSums", fn := fun _ => fun
  | [d1, d2] => { results := [.lit (.bool true)], args := [d1, d2] }
  | _ => none }
def hashSumsRow : OpenClaim := { program := "ytjlhckgokdjajaa", sum := "2ac85a4813bf0574fd6dd4584948bc5c94c4d52d17747932c6d4cb0f220b2872", func := "ostiary/ostiarylaw02.HashSums", spec := "hashSums", unfollowed := true, recurses := true, apart := false }
def HashSumsSaid : Prop := hashSumsRow.holds Try.pinned (OpenSpec.ofChange hashSumsSpec)

/-- ITS FALSE NEIGHBOUR: 'it returns false'. Refute it at one input. -/
def hashSumsWrong : ChangeSpec := { name := "hashSums", fn := fun _ => fun
  | [d1, d2] => { results := [.lit (.bool false)], args := [d1, d2] }
  | _ => none }
def HashSumsWrongFalsely : Prop := hashSumsRow.holds Try.pinned (OpenSpec.ofChange hashSumsWrong)

/-- 'ostiarylaw02.HashMacs': WHATEVER THE INPUT: true; the input reads as it did. -/
def hashMacsSpec : ChangeSpec := { name := "hashMacs", fn := fun _ => fun
  | [d1, d2, d3] => { results := [.lit (.bool true)], args := [d1, d2, d3] }
  | _ => none }
def hashMacsRow : OpenClaim := { program := "ytjlhckgokdjajaa", sum := "2ac85a4813bf0574fd6dd4584948bc5c94c4d52d17747932c6d4cb0f220b2872", func := "ostiary/ostiarylaw02.HashMacs", spec := "hashMacs", unfollowed := true, recurses := true, apart := false }
def HashMacsSaid : Prop := hashMacsRow.holds Try.pinned (OpenSpec.ofChange hashMacsSpec)

/-- ITS FALSE NEIGHBOUR: 'it returns false'. Refute it at one input. -/
def hashMacsWrong : ChangeSpec := { name := "hashMacs", fn := fun _ => fun
  | [d1, d2, d3] => { results := [.lit (.bool false)], args := [d1, d2, d3] }
  | _ => none }
def HashMacsWrongFalsely : Prop := hashMacsRow.holds Try.pinned (OpenSpec.ofChange hashMacsWrong)

/-- 'ostiarylaw02.HashKinds': WHATEVER THE INPUT: true; the input reads as it did. -/
def hashKindsSpec : ChangeSpec := { name := "hashKinds", fn := fun _ => fun
  | [d1, d2, d3] => { results := [.lit (.bool true)], args := [d1, d2, d3] }
  | _ => none }
def hashKindsRow : OpenClaim := { program := "ytjlhckgokdjajaa", sum := "2ac85a4813bf0574fd6dd4584948bc5c94c4d52d17747932c6d4cb0f220b2872", func := "ostiary/ostiarylaw02.HashKinds", spec := "hashKinds", unfollowed := true, recurses := true, apart := false }
def HashKindsSaid : Prop := hashKindsRow.holds Try.pinned (OpenSpec.ofChange hashKindsSpec)

/-- ITS FALSE NEIGHBOUR: 'it returns false'. Refute it at one input. -/
def hashKindsWrong : ChangeSpec := { name := "hashKinds", fn := fun _ => fun
  | [d1, d2, d3] => { results := [.lit (.bool false)], args := [d1, d2, d3] }
  | _ => none }
def HashKindsWrongFalsely : Prop := hashKindsRow.holds Try.pinned (OpenSpec.ofChange hashKindsWrong)

/-- 'ostiarylaw02.HashCuts': WHATEVER THE INPUT: true; the input reads as it did. -/
def hashCutsSpec : ChangeSpec := { name := "hashCuts", fn := fun _ => fun
  | [d1, d2, d3] => { results := [.lit (.bool true)], args := [d1, d2, d3] }
  | _ => none }
def hashCutsRow : OpenClaim := { program := "ytjlhckgokdjajaa", sum := "2ac85a4813bf0574fd6dd4584948bc5c94c4d52d17747932c6d4cb0f220b2872", func := "ostiary/ostiarylaw02.HashCuts", spec := "hashCuts", unfollowed := true, recurses := true, apart := false }
def HashCutsSaid : Prop := hashCutsRow.holds Try.pinned (OpenSpec.ofChange hashCutsSpec)

/-- ITS FALSE NEIGHBOUR: 'it returns false'. Refute it at one input. -/
def hashCutsWrong : ChangeSpec := { name := "hashCuts", fn := fun _ => fun
  | [d1, d2, d3] => { results := [.lit (.bool false)], args := [d1, d2, d3] }
  | _ => none }
def HashCutsWrongFalsely : Prop := hashCutsRow.holds Try.pinned (OpenSpec.ofChange hashCutsWrong)

/-- 'ostiarylaw02.HashKeys': WHATEVER THE INPUT: true; the input reads as it did. -/
def hashKeysSpec : ChangeSpec := { name := "hashKeys", fn := fun _ => fun
  | [d1, d2, d3] => { results := [.lit (.bool true)], args := [d1, d2, d3] }
  | _ => none }
def hashKeysRow : OpenClaim := { program := "ytjlhckgokdjajaa", sum := "2ac85a4813bf0574fd6dd4584948bc5c94c4d52d17747932c6d4cb0f220b2872", func := "ostiary/ostiarylaw02.HashKeys", spec := "hashKeys", unfollowed := true, recurses := true, apart := false }
def HashKeysSaid : Prop := hashKeysRow.holds Try.pinned (OpenSpec.ofChange hashKeysSpec)

/-- ITS FALSE NEIGHBOUR: 'it returns false'. Refute it at one input. -/
def hashKeysWrong : ChangeSpec := { name := "hashKeys", fn := fun _ => fun
  | [d1, d2, d3] => { results := [.lit (.bool false)], args := [d1, d2, d3] }
  | _ => none }
def HashKeysWrongFalsely : Prop := hashKeysRow.holds Try.pinned (OpenSpec.ofChange hashKeysWrong)

/-- 'ostiarylaw02.HashBuilt': WHATEVER THE INPUT: true; the input reads as it did. -/
def hashBuiltSpec : ChangeSpec := { name := "hashBuilt", fn := fun _ => fun
  | [d1, d2, d3] => { results := [.lit (.bool true)], args := [d1, d2, d3] }
  | _ => none }
def hashBuiltRow : OpenClaim := { program := "ytjlhckgokdjajaa", sum := "2ac85a4813bf0574fd6dd4584948bc5c94c4d52d17747932c6d4cb0f220b2872", func := "ostiary/ostiarylaw02.HashBuilt", spec := "hashBuilt", unfollowed := true, recurses := true, apart := false }
def HashBuiltSaid : Prop := hashBuiltRow.holds Try.pinned (OpenSpec.ofChange hashBuiltSpec)

/-- ITS FALSE NEIGHBOUR: 'it returns false'. Refute it at one input. -/
def hashBuiltWrong : ChangeSpec := { name := "hashBuilt", fn := fun _ => fun
  | [d1, d2, d3] => { results := [.lit (.bool false)], args := [d1, d2, d3] }
  | _ => none }
def HashBuiltWrongFalsely : Prop := hashBuiltRow.holds Try.pinned (OpenSpec.ofChange hashBuiltWrong)

/-- 'ostiarylaw02.HashPieces': WHATEVER THE INPUT: true; the input reads as it did. -/
def hashPiecesSpec : ChangeSpec := { name := "hashPieces", fn := fun _ => fun
  | [d1, d2] => { results := [.lit (.bool true)], args := [d1, d2] }
  | _ => none }
def hashPiecesRow : OpenClaim := { program := "ytjlhckgokdjajaa", sum := "2ac85a4813bf0574fd6dd4584948bc5c94c4d52d17747932c6d4cb0f220b2872", func := "ostiary/ostiarylaw02.HashPieces", spec := "hashPieces", unfollowed := true, recurses := true, apart := false }
def HashPiecesSaid : Prop := hashPiecesRow.holds Try.pinned (OpenSpec.ofChange hashPiecesSpec)

/-- ITS FALSE NEIGHBOUR: 'it returns false'. Refute it at one input. -/
def hashPiecesWrong : ChangeSpec := { name := "hashPieces", fn := fun _ => fun
  | [d1, d2] => { results := [.lit (.bool false)], args := [d1, d2] }
  | _ => none }
def HashPiecesWrongFalsely : Prop := hashPiecesRow.holds Try.pinned (OpenSpec.ofChange hashPiecesWrong)

/-- 'ostiarylaw02.HashApart': WHATEVER THE INPUT: true; the input reads as it did. -/
def hashApartSpec : ChangeSpec := { name := "hashApart", fn := fun _ => fun
  | [d] => { results := [.lit (.bool true)], args := [d] }
  | _ => none }
def hashApartRow : OpenClaim := { program := "ytjlhckgokdjajaa", sum := "2ac85a4813bf0574fd6dd4584948bc5c94c4d52d17747932c6d4cb0f220b2872", func := "ostiary/ostiarylaw02.HashApart", spec := "hashApart", unfollowed := true, recurses := true, apart := false }
def HashApartSaid : Prop := hashApartRow.holds Try.pinned (OpenSpec.ofChange hashApartSpec)

/-- ITS FALSE NEIGHBOUR: 'it returns false'. Refute it at one input. -/
def hashApartWrong : ChangeSpec := { name := "hashApart", fn := fun _ => fun
  | [d] => { results := [.lit (.bool false)], args := [d] }
  | _ => none }
def HashApartWrongFalsely : Prop := hashApartRow.holds Try.pinned (OpenSpec.ofChange hashApartWrong)

/- THE SECOND FORM. 'bulk': how many values and letters a reading holds, each counted each time it is reached (what is shared counts as often as it is met; a slice's spare places count too). A statement '..UptoSaid' is the law's where the arguments, and the package variables that the reading takes, are together of bulk at most 1048576: NARROWER than '..Said'. Prove '..Said' where nothing that the law and all that it calls make is longer than what came in: it says more and counts as full. Else prove '..UptoSaid'. A law counts once. -/
mutual
def uptoBulk {H : Type} : DataW H → Nat
  | .lit (.string bytes) => bytes.length + 1
  | .lit _ => 1
  | .nil => 1
  | .ptr d => uptoBulk d + 1
  | .slice elems spare => uptoBulkAll elems + uptoBulkAll spare + 1
  | .agg parts => uptoBulkAll parts + 1
  | .iface _ d => uptoBulk d + 1
  | .map entries => uptoBulkEntries entries + 1
  | .held _ => 1
def uptoBulkAll {H : Type} : List (DataW H) → Nat
  | [] => 0
  | d :: r => uptoBulk d + uptoBulkAll r
def uptoBulkEntries {H : Type} : List (Lit × DataW H) → Nat
  | [] => 0
  | x :: r => uptoBulkEntry x + uptoBulkEntries r
def uptoBulkEntry {H : Type} : Lit × DataW H → Nat
  | (.string bytes, d) => bytes.length + uptoBulk d + 1
  | (_, d) => uptoBulk d + 1
 end
def uptoSmall : (H : Type) → List (DataW H) → Bool := fun _ ds => decide (uptoBulkAll ds ≤ 1048576)
def OpenSpec.upto (s : _root_.Go.ChangeSpec) : _root_.Go.OpenSpec := { _root_.Go.OpenSpec.ofChange s with cond := some uptoSmall }

/-- 'ostiarylaw02.HashSums', WHERE WHAT IT READS IS OF BULK AT MOST 1048576: true; the input reads as it did. -/
def hashSumsUptoRow : OpenClaim := { program := "ytjlhckgokdjajaa", sum := "2ac85a4813bf0574fd6dd4584948bc5c94c4d52d17747932c6d4cb0f220b2872", func := "ostiary/ostiarylaw02.HashSums", spec := "hashSums", unfollowed := true, recurses := true, apart := false, narrowed := true }
def HashSumsUptoSaid : Prop := hashSumsUptoRow.holds Try.pinned (OpenSpec.upto hashSumsSpec)

/-- 'ostiarylaw02.HashMacs', WHERE WHAT IT READS IS OF BULK AT MOST 1048576: true; the input reads as it did. -/
def hashMacsUptoRow : OpenClaim := { program := "ytjlhckgokdjajaa", sum := "2ac85a4813bf0574fd6dd4584948bc5c94c4d52d17747932c6d4cb0f220b2872", func := "ostiary/ostiarylaw02.HashMacs", spec := "hashMacs", unfollowed := true, recurses := true, apart := false, narrowed := true }
def HashMacsUptoSaid : Prop := hashMacsUptoRow.holds Try.pinned (OpenSpec.upto hashMacsSpec)

/-- 'ostiarylaw02.HashKinds', WHERE WHAT IT READS IS OF BULK AT MOST 1048576: true; the input reads as it did. -/
def hashKindsUptoRow : OpenClaim := { program := "ytjlhckgokdjajaa", sum := "2ac85a4813bf0574fd6dd4584948bc5c94c4d52d17747932c6d4cb0f220b2872", func := "ostiary/ostiarylaw02.HashKinds", spec := "hashKinds", unfollowed := true, recurses := true, apart := false, narrowed := true }
def HashKindsUptoSaid : Prop := hashKindsUptoRow.holds Try.pinned (OpenSpec.upto hashKindsSpec)

/-- 'ostiarylaw02.HashCuts', WHERE WHAT IT READS IS OF BULK AT MOST 1048576: true; the input reads as it did. -/
def hashCutsUptoRow : OpenClaim := { program := "ytjlhckgokdjajaa", sum := "2ac85a4813bf0574fd6dd4584948bc5c94c4d52d17747932c6d4cb0f220b2872", func := "ostiary/ostiarylaw02.HashCuts", spec := "hashCuts", unfollowed := true, recurses := true, apart := false, narrowed := true }
def HashCutsUptoSaid : Prop := hashCutsUptoRow.holds Try.pinned (OpenSpec.upto hashCutsSpec)

/-- 'ostiarylaw02.HashKeys', WHERE WHAT IT READS IS OF BULK AT MOST 1048576: true; the input reads as it did. -/
def hashKeysUptoRow : OpenClaim := { program := "ytjlhckgokdjajaa", sum := "2ac85a4813bf0574fd6dd4584948bc5c94c4d52d17747932c6d4cb0f220b2872", func := "ostiary/ostiarylaw02.HashKeys", spec := "hashKeys", unfollowed := true, recurses := true, apart := false, narrowed := true }
def HashKeysUptoSaid : Prop := hashKeysUptoRow.holds Try.pinned (OpenSpec.upto hashKeysSpec)

/-- 'ostiarylaw02.HashBuilt', WHERE WHAT IT READS IS OF BULK AT MOST 1048576: true; the input reads as it did. -/
def hashBuiltUptoRow : OpenClaim := { program := "ytjlhckgokdjajaa", sum := "2ac85a4813bf0574fd6dd4584948bc5c94c4d52d17747932c6d4cb0f220b2872", func := "ostiary/ostiarylaw02.HashBuilt", spec := "hashBuilt", unfollowed := true, recurses := true, apart := false, narrowed := true }
def HashBuiltUptoSaid : Prop := hashBuiltUptoRow.holds Try.pinned (OpenSpec.upto hashBuiltSpec)

/-- 'ostiarylaw02.HashPieces', WHERE WHAT IT READS IS OF BULK AT MOST 1048576: true; the input reads as it did. -/
def hashPiecesUptoRow : OpenClaim := { program := "ytjlhckgokdjajaa", sum := "2ac85a4813bf0574fd6dd4584948bc5c94c4d52d17747932c6d4cb0f220b2872", func := "ostiary/ostiarylaw02.HashPieces", spec := "hashPieces", unfollowed := true, recurses := true, apart := false, narrowed := true }
def HashPiecesUptoSaid : Prop := hashPiecesUptoRow.holds Try.pinned (OpenSpec.upto hashPiecesSpec)

/-- 'ostiarylaw02.HashApart', WHERE WHAT IT READS IS OF BULK AT MOST 1048576: true; the input reads as it did. -/
def hashApartUptoRow : OpenClaim := { program := "ytjlhckgokdjajaa", sum := "2ac85a4813bf0574fd6dd4584948bc5c94c4d52d17747932c6d4cb0f220b2872", func := "ostiary/ostiarylaw02.HashApart", spec := "hashApart", unfollowed := true, recurses := true, apart := false, narrowed := true }
def HashApartUptoSaid : Prop := hashApartUptoRow.holds Try.pinned (OpenSpec.upto hashApartSpec)

end Rows
end Go.Proofs.Ytjlhckgokdjajaa
