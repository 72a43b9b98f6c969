/-
  No cell of these rows narrows 'for every input' (looked for: loops, veiled, ifaces, maps, wideKeys, modest, calm, conditions, laid).
  DERIVED. THE GIVEN ROWS OF THIS SEAT. 9 by the template 'for every input the law returns true; each argument reads behind the call as it read before'; 0 by the template 'total and deterministic' (their statements: YthldahfkngeehaaTotals.lean).
  GIVEN WITH THE SEED: the statements are not yours to turn. If you find one false, say at which input.
  Laid BY PROGRAM, IN A SANDBOX (cutbox-rows.mjs): the forced cells as the released guide's own fill.sh prints them over the translation cc2fc1b60080a5b3… (all of the seat's roots in one cut). By AI agents, Wed Nov 11 2026. No macro, syntax, notation, axiom, sorry.
-/
import Derived.Test.YthldahfkngeehaaChecked
import GoSem.Claim
import GoSem.ClaimJoined
import GoSem.ClaimMapViews
import Derived.JoinedTies
import Derived.KernelRfl
namespace Go.Proofs.Ythldahfkngeehaa
/- THE CELL 'sum', in the pinned program and in every row, IS THE sha256 OF THE DUMP (.gsa) THAT YthldahfkngeehaaProg.lean LOADS. Nothing in Lean hashes anything: it is a label: what it is worth is what the hold of that sum in a sandbox is worth. -/
noncomputable def Try.pinned : Pinned := { name := "ythldahfkngeehaa", sum := "cc2fc1b60080a5b3d1ee1b890e9108a3d58f9f47e099bca2b40ec13d51c31487", checked := Try.checked }
namespace Rows
def none {H : Type} : Left H := { results := [], args := [] }

/-- 'ossuarylaw11.SegMakes': WHATEVER THE INPUT: true; the input reads as it did. -/
def segMakesSpec : ChangeSpec := { name := "segMakes", fn := fun _ => fun
  | [d1, d2] => { results := [.lit (.bool true)], args := [d1, d2] }
  | _ => none }
def segMakesRow : OpenClaim := { program := "ythldahfkngeehaa", sum := "cc2fc1b60080a5b3d1ee1b890e9108a3d58f9f47e099bca2b40ec13d51c31487", func := "ossuary/ossuarylaw11.SegMakes", spec := "segMakes", unfollowed := true, recurses := true, plainKeys := false, apart := false }
def SegMakesSaid : Prop := segMakesRow.holds Try.pinned (OpenSpec.ofChange segMakesSpec)

/-- ITS FALSE NEIGHBOUR: 'it returns false'. Refute it at one input. -/
def segMakesWrong : ChangeSpec := { name := "segMakes", fn := fun _ => fun
  | [d1, d2] => { results := [.lit (.bool false)], args := [d1, d2] }
  | _ => none }
def SegMakesWrongFalsely : Prop := segMakesRow.holds Try.pinned (OpenSpec.ofChange segMakesWrong)

/-- 'ossuarylaw11.SegParts': WHATEVER THE INPUT: true; the input reads as it did. -/
def segPartsSpec : ChangeSpec := { name := "segParts", fn := fun _ => fun
  | [d1, d2] => { results := [.lit (.bool true)], args := [d1, d2] }
  | _ => none }
def segPartsRow : OpenClaim := { program := "ythldahfkngeehaa", sum := "cc2fc1b60080a5b3d1ee1b890e9108a3d58f9f47e099bca2b40ec13d51c31487", func := "ossuary/ossuarylaw11.SegParts", spec := "segParts", unfollowed := true, recurses := true, plainKeys := false, apart := false }
def SegPartsSaid : Prop := segPartsRow.holds Try.pinned (OpenSpec.ofChange segPartsSpec)

/-- ITS FALSE NEIGHBOUR: 'it returns false'. Refute it at one input. -/
def segPartsWrong : ChangeSpec := { name := "segParts", fn := fun _ => fun
  | [d1, d2] => { results := [.lit (.bool false)], args := [d1, d2] }
  | _ => none }
def SegPartsWrongFalsely : Prop := segPartsRow.holds Try.pinned (OpenSpec.ofChange segPartsWrong)

/-- 'ossuarylaw11.SegMerges': WHATEVER THE INPUT: true; the input reads as it did. -/
def segMergesSpec : ChangeSpec := { name := "segMerges", fn := fun _ => fun
  | [d1, d2, d3] => { results := [.lit (.bool true)], args := [d1, d2, d3] }
  | _ => none }
def segMergesRow : OpenClaim := { program := "ythldahfkngeehaa", sum := "cc2fc1b60080a5b3d1ee1b890e9108a3d58f9f47e099bca2b40ec13d51c31487", func := "ossuary/ossuarylaw11.SegMerges", spec := "segMerges", unfollowed := true, recurses := true, plainKeys := false, apart := false }
def SegMergesSaid : Prop := segMergesRow.holds Try.pinned (OpenSpec.ofChange segMergesSpec)

/-- ITS FALSE NEIGHBOUR: 'it returns false'. Refute it at one input. -/
def segMergesWrong : ChangeSpec := { name := "segMerges", fn := fun _ => fun
  | [d1, d2, d3] => { results := [.lit (.bool false)], args := [d1, d2, d3] }
  | _ => none }
def SegMergesWrongFalsely : Prop := segMergesRow.holds Try.pinned (OpenSpec.ofChange segMergesWrong)

/-- 'ossuarylaw14.FoldParts': WHATEVER THE INPUT: true; the input reads as it did. -/
def foldPartsSpec : ChangeSpec := { name := "foldParts", fn := fun _ => fun
  | [d1, d2, d3] => { results := [.lit (.bool true)], args := [d1, d2, d3] }
  | _ => none }
def foldPartsRow : OpenClaim := { program := "ythldahfkngeehaa", sum := "cc2fc1b60080a5b3d1ee1b890e9108a3d58f9f47e099bca2b40ec13d51c31487", func := "ossuary/ossuarylaw14.FoldParts", spec := "foldParts", unfollowed := true, recurses := true, plainKeys := false, apart := false }
def FoldPartsSaid : Prop := foldPartsRow.holds Try.pinned (OpenSpec.ofChange foldPartsSpec)

/-- ITS FALSE NEIGHBOUR: 'it returns false'. Refute it at one input. -/
def foldPartsWrong : ChangeSpec := { name := "foldParts", fn := fun _ => fun
  | [d1, d2, d3] => { results := [.lit (.bool false)], args := [d1, d2, d3] }
  | _ => none }
def FoldPartsWrongFalsely : Prop := foldPartsRow.holds Try.pinned (OpenSpec.ofChange foldPartsWrong)

/-- 'ossuarylaw14.FoldSegs': WHATEVER THE INPUT: true; the input reads as it did. -/
def foldSegsSpec : ChangeSpec := { name := "foldSegs", fn := fun _ => fun
  | [d1, d2] => { results := [.lit (.bool true)], args := [d1, d2] }
  | _ => none }
def foldSegsRow : OpenClaim := { program := "ythldahfkngeehaa", sum := "cc2fc1b60080a5b3d1ee1b890e9108a3d58f9f47e099bca2b40ec13d51c31487", func := "ossuary/ossuarylaw14.FoldSegs", spec := "foldSegs", unfollowed := true, recurses := true, plainKeys := false, apart := false }
def FoldSegsSaid : Prop := foldSegsRow.holds Try.pinned (OpenSpec.ofChange foldSegsSpec)

/-- ITS FALSE NEIGHBOUR: 'it returns false'. Refute it at one input. -/
def foldSegsWrong : ChangeSpec := { name := "foldSegs", fn := fun _ => fun
  | [d1, d2] => { results := [.lit (.bool false)], args := [d1, d2] }
  | _ => none }
def FoldSegsWrongFalsely : Prop := foldSegsRow.holds Try.pinned (OpenSpec.ofChange foldSegsWrong)

/-- 'ossuarylaw11.SegLooks': WHATEVER THE INPUT: true; the input reads as it did. -/
def segLooksSpec : ChangeSpec := { name := "segLooks", fn := fun _ => fun
  | [d1, d2, d3, d4, d5] => { results := [.lit (.bool true)], args := [d1, d2, d3, d4, d5] }
  | _ => none }
def segLooksRow : OpenClaim := { program := "ythldahfkngeehaa", sum := "cc2fc1b60080a5b3d1ee1b890e9108a3d58f9f47e099bca2b40ec13d51c31487", func := "ossuary/ossuarylaw11.SegLooks", spec := "segLooks", unfollowed := true, recurses := true, plainKeys := false, apart := false }
def SegLooksSaid : Prop := segLooksRow.holds Try.pinned (OpenSpec.ofChange segLooksSpec)

/-- ITS FALSE NEIGHBOUR: 'it returns false'. Refute it at one input. -/
def segLooksWrong : ChangeSpec := { name := "segLooks", fn := fun _ => fun
  | [d1, d2, d3, d4, d5] => { results := [.lit (.bool false)], args := [d1, d2, d3, d4, d5] }
  | _ => none }
def SegLooksWrongFalsely : Prop := segLooksRow.holds Try.pinned (OpenSpec.ofChange segLooksWrong)

/-- 'ossuarylaw11.SegNils': WHATEVER THE INPUT: true; the input reads as it did. -/
def segNilsSpec : ChangeSpec := { name := "segNils", fn := fun _ => fun
  | [d1, d2, d3, d4] => { results := [.lit (.bool true)], args := [d1, d2, d3, d4] }
  | _ => none }
def segNilsRow : OpenClaim := { program := "ythldahfkngeehaa", sum := "cc2fc1b60080a5b3d1ee1b890e9108a3d58f9f47e099bca2b40ec13d51c31487", func := "ossuary/ossuarylaw11.SegNils", spec := "segNils", unfollowed := true, recurses := true, plainKeys := false, apart := false }
def SegNilsSaid : Prop := segNilsRow.holds Try.pinned (OpenSpec.ofChange segNilsSpec)

/-- ITS FALSE NEIGHBOUR: 'it returns false'. Refute it at one input. -/
def segNilsWrong : ChangeSpec := { name := "segNils", fn := fun _ => fun
  | [d1, d2, d3, d4] => { results := [.lit (.bool false)], args := [d1, d2, d3, d4] }
  | _ => none }
def SegNilsWrongFalsely : Prop := segNilsRow.holds Try.pinned (OpenSpec.ofChange segNilsWrong)

/-- 'ossuarylaw12.SegioEncodes': WHATEVER THE INPUT: true; the input reads as it did. -/
def segioEncodesSpec : ChangeSpec := { name := "segioEncodes", fn := fun _ => fun
  | [d1, d2] => { results := [.lit (.bool true)], args := [d1, d2] }
  | _ => none }
def segioEncodesRow : OpenClaim := { program := "ythldahfkngeehaa", sum := "cc2fc1b60080a5b3d1ee1b890e9108a3d58f9f47e099bca2b40ec13d51c31487", func := "ossuary/ossuarylaw12.SegioEncodes", spec := "segioEncodes", inPlace := ["slices.overlaps[ossuary/omap.pair[string, int]]"], unfollowed := true, recurses := true, plainKeys := false, apart := false }
def SegioEncodesSaid : Prop := segioEncodesRow.holds Try.pinned (OpenSpec.ofChange segioEncodesSpec)

/-- ITS FALSE NEIGHBOUR: 'it returns false'. Refute it at one input. -/
def segioEncodesWrong : ChangeSpec := { name := "segioEncodes", fn := fun _ => fun
  | [d1, d2] => { results := [.lit (.bool false)], args := [d1, d2] }
  | _ => none }
def SegioEncodesWrongFalsely : Prop := segioEncodesRow.holds Try.pinned (OpenSpec.ofChange segioEncodesWrong)

/-- 'ossuarylaw12.SegioBack': WHATEVER THE INPUT: true; the input reads as it did. -/
def segioBackSpec : ChangeSpec := { name := "segioBack", fn := fun _ => fun
  | [d1, d2, d3, d4] => { results := [.lit (.bool true)], args := [d1, d2, d3, d4] }
  | _ => none }
def segioBackRow : OpenClaim := { program := "ythldahfkngeehaa", sum := "cc2fc1b60080a5b3d1ee1b890e9108a3d58f9f47e099bca2b40ec13d51c31487", func := "ossuary/ossuarylaw12.SegioBack", spec := "segioBack", inPlace := ["slices.overlaps[ossuary/omap.pair[string, int]]"], unfollowed := true, recurses := true, plainKeys := false, apart := false }
def SegioBackSaid : Prop := segioBackRow.holds Try.pinned (OpenSpec.ofChange segioBackSpec)

/-- ITS FALSE NEIGHBOUR: 'it returns false'. Refute it at one input. -/
def segioBackWrong : ChangeSpec := { name := "segioBack", fn := fun _ => fun
  | [d1, d2, d3, d4] => { results := [.lit (.bool false)], args := [d1, d2, d3, d4] }
  | _ => none }
def SegioBackWrongFalsely : Prop := segioBackRow.holds Try.pinned (OpenSpec.ofChange segioBackWrong)

/- THE SECOND FORM. 'bulk': how many values and letters a reading holds, each counted each time it is reached (what is shared counts as often as it is met; a slice's spare places count too). A statement '..UptoSaid' is the law's where the arguments, and the package variables that the reading takes, are together of bulk at most 1048576: NARROWER than '..Said'. Prove '..Said' where nothing that the law and all that it calls make is longer than what came in: it says more and counts as full. Else prove '..UptoSaid'. A law counts once. -/
mutual
def uptoBulk {H : Type} : DataW H → Nat
  | .lit (.string bytes) => bytes.length + 1
  | .lit _ => 1
  | .nil => 1
  | .ptr d => uptoBulk d + 1
  | .slice elems spare => uptoBulkAll elems + uptoBulkAll spare + 1
  | .agg parts => uptoBulkAll parts + 1
  | .iface _ d => uptoBulk d + 1
  | .map entries => uptoBulkEntries entries + 1
  | .held _ => 1
def uptoBulkAll {H : Type} : List (DataW H) → Nat
  | [] => 0
  | d :: r => uptoBulk d + uptoBulkAll r
def uptoBulkEntries {H : Type} : List (Lit × DataW H) → Nat
  | [] => 0
  | x :: r => uptoBulkEntry x + uptoBulkEntries r
def uptoBulkEntry {H : Type} : Lit × DataW H → Nat
  | (.string bytes, d) => bytes.length + uptoBulk d + 1
  | (_, d) => uptoBulk d + 1
 end
def uptoSmall : (H : Type) → List (DataW H) → Bool := fun _ ds => decide (uptoBulkAll ds ≤ 1048576)
def OpenSpec.upto (s : _root_.Go.ChangeSpec) : _root_.Go.OpenSpec := { _root_.Go.OpenSpec.ofChange s with cond := some uptoSmall }

/-- 'ossuarylaw11.SegMakes', WHERE WHAT IT READS IS OF BULK AT MOST 1048576: true; the input reads as it did. -/
def segMakesUptoRow : OpenClaim := { program := "ythldahfkngeehaa", sum := "cc2fc1b60080a5b3d1ee1b890e9108a3d58f9f47e099bca2b40ec13d51c31487", func := "ossuary/ossuarylaw11.SegMakes", spec := "segMakes", unfollowed := true, recurses := true, plainKeys := false, apart := false, narrowed := true }
def SegMakesUptoSaid : Prop := segMakesUptoRow.holds Try.pinned (OpenSpec.upto segMakesSpec)

/-- 'ossuarylaw11.SegParts', WHERE WHAT IT READS IS OF BULK AT MOST 1048576: true; the input reads as it did. -/
def segPartsUptoRow : OpenClaim := { program := "ythldahfkngeehaa", sum := "cc2fc1b60080a5b3d1ee1b890e9108a3d58f9f47e099bca2b40ec13d51c31487", func := "ossuary/ossuarylaw11.SegParts", spec := "segParts", unfollowed := true, recurses := true, plainKeys := false, apart := false, narrowed := true }
def SegPartsUptoSaid : Prop := segPartsUptoRow.holds Try.pinned (OpenSpec.upto segPartsSpec)

/-- 'ossuarylaw11.SegMerges', WHERE WHAT IT READS IS OF BULK AT MOST 1048576: true; the input reads as it did. -/
def segMergesUptoRow : OpenClaim := { program := "ythldahfkngeehaa", sum := "cc2fc1b60080a5b3d1ee1b890e9108a3d58f9f47e099bca2b40ec13d51c31487", func := "ossuary/ossuarylaw11.SegMerges", spec := "segMerges", unfollowed := true, recurses := true, plainKeys := false, apart := false, narrowed := true }
def SegMergesUptoSaid : Prop := segMergesUptoRow.holds Try.pinned (OpenSpec.upto segMergesSpec)

/-- 'ossuarylaw14.FoldParts', WHERE WHAT IT READS IS OF BULK AT MOST 1048576: true; the input reads as it did. -/
def foldPartsUptoRow : OpenClaim := { program := "ythldahfkngeehaa", sum := "cc2fc1b60080a5b3d1ee1b890e9108a3d58f9f47e099bca2b40ec13d51c31487", func := "ossuary/ossuarylaw14.FoldParts", spec := "foldParts", unfollowed := true, recurses := true, plainKeys := false, apart := false, narrowed := true }
def FoldPartsUptoSaid : Prop := foldPartsUptoRow.holds Try.pinned (OpenSpec.upto foldPartsSpec)

/-- 'ossuarylaw14.FoldSegs', WHERE WHAT IT READS IS OF BULK AT MOST 1048576: true; the input reads as it did. -/
def foldSegsUptoRow : OpenClaim := { program := "ythldahfkngeehaa", sum := "cc2fc1b60080a5b3d1ee1b890e9108a3d58f9f47e099bca2b40ec13d51c31487", func := "ossuary/ossuarylaw14.FoldSegs", spec := "foldSegs", unfollowed := true, recurses := true, plainKeys := false, apart := false, narrowed := true }
def FoldSegsUptoSaid : Prop := foldSegsUptoRow.holds Try.pinned (OpenSpec.upto foldSegsSpec)

/-- 'ossuarylaw11.SegLooks', WHERE WHAT IT READS IS OF BULK AT MOST 1048576: true; the input reads as it did. -/
def segLooksUptoRow : OpenClaim := { program := "ythldahfkngeehaa", sum := "cc2fc1b60080a5b3d1ee1b890e9108a3d58f9f47e099bca2b40ec13d51c31487", func := "ossuary/ossuarylaw11.SegLooks", spec := "segLooks", unfollowed := true, recurses := true, plainKeys := false, apart := false, narrowed := true }
def SegLooksUptoSaid : Prop := segLooksUptoRow.holds Try.pinned (OpenSpec.upto segLooksSpec)

/-- 'ossuarylaw11.SegNils', WHERE WHAT IT READS IS OF BULK AT MOST 1048576: true; the input reads as it did. -/
def segNilsUptoRow : OpenClaim := { program := "ythldahfkngeehaa", sum := "cc2fc1b60080a5b3d1ee1b890e9108a3d58f9f47e099bca2b40ec13d51c31487", func := "ossuary/ossuarylaw11.SegNils", spec := "segNils", unfollowed := true, recurses := true, plainKeys := false, apart := false, narrowed := true }
def SegNilsUptoSaid : Prop := segNilsUptoRow.holds Try.pinned (OpenSpec.upto segNilsSpec)

/-- 'ossuarylaw12.SegioEncodes', WHERE WHAT IT READS IS OF BULK AT MOST 1048576: true; the input reads as it did. -/
def segioEncodesUptoRow : OpenClaim := { program := "ythldahfkngeehaa", sum := "cc2fc1b60080a5b3d1ee1b890e9108a3d58f9f47e099bca2b40ec13d51c31487", func := "ossuary/ossuarylaw12.SegioEncodes", spec := "segioEncodes", inPlace := ["slices.overlaps[ossuary/omap.pair[string, int]]"], unfollowed := true, recurses := true, plainKeys := false, apart := false, narrowed := true }
def SegioEncodesUptoSaid : Prop := segioEncodesUptoRow.holds Try.pinned (OpenSpec.upto segioEncodesSpec)

/-- 'ossuarylaw12.SegioBack', WHERE WHAT IT READS IS OF BULK AT MOST 1048576: true; the input reads as it did. -/
def segioBackUptoRow : OpenClaim := { program := "ythldahfkngeehaa", sum := "cc2fc1b60080a5b3d1ee1b890e9108a3d58f9f47e099bca2b40ec13d51c31487", func := "ossuary/ossuarylaw12.SegioBack", spec := "segioBack", inPlace := ["slices.overlaps[ossuary/omap.pair[string, int]]"], unfollowed := true, recurses := true, plainKeys := false, apart := false, narrowed := true }
def SegioBackUptoSaid : Prop := segioBackUptoRow.holds Try.pinned (OpenSpec.upto segioBackSpec)

end Rows
end Go.Proofs.Ythldahfkngeehaa
