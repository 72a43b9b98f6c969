/-
  No cell of these rows narrows 'for every input' (looked for: loops, veiled, ifaces, maps, wideKeys, modest, calm, conditions, laid).
  DERIVED. THE GIVEN ROWS OF THIS SEAT. 7 by the template 'for every input the law returns true; each argument reads behind the call as it read before'; 0 by the template 'total and deterministic' (their statements: YtgbckhleokkhmaaTotals.lean).
  GIVEN WITH THE SEED: the statements are not yours to turn. If you find one false, say at which input.
  Laid BY PROGRAM, IN A SANDBOX (cutbox-rows.mjs): the forced cells as the released guide's own fill.sh prints them over the translation 0644891bf2824384… (all of the seat's roots in one cut). By AI agents, Wed Nov 11 2026. No macro, syntax, notation, axiom, sorry.
-/
import Derived.Test.YtgbckhleokkhmaaChecked
import GoSem.Claim
import GoSem.ClaimJoined
import GoSem.ClaimMapViews
import Derived.JoinedTies
import Derived.KernelRfl
namespace Go.Proofs.Ytgbckhleokkhmaa
/- THE CELL 'sum', in the pinned program and in every row, IS THE sha256 OF THE DUMP (.gsa) THAT YtgbckhleokkhmaaProg.lean LOADS. Nothing in Lean hashes anything: it is a label: what it is worth is what the hold of that sum in a sandbox is worth. -/
noncomputable def Try.pinned : Pinned := { name := "ytgbckhleokkhmaa", sum := "0644891bf2824384b9e832913ae73c499a7330fda699760e87808bd9d57f5f06", checked := Try.checked }
namespace Rows
def none {H : Type} : Left H := { results := [], args := [] }

/-- 'ossuarylaw23.PlanCovers': WHATEVER THE INPUT: true; the input reads as it did. -/
def planCoversSpec : ChangeSpec := { name := "planCovers", fn := fun _ => fun
  | [d1, d2, d3, d4, d5, d6] => { results := [.lit (.bool true)], args := [d1, d2, d3, d4, d5, d6] }
  | _ => none }
def planCoversRow : OpenClaim := { program := "ytgbckhleokkhmaa", sum := "0644891bf2824384b9e832913ae73c499a7330fda699760e87808bd9d57f5f06", func := "ossuary/ossuarylaw23.PlanCovers", spec := "planCovers", inPlace := ["slices.overlaps[ossuary/omap.pair[int64, ossuary/api.Entry]]"], unfollowed := true, recurses := true, plainKeys := false, apart := false }
def PlanCoversSaid : Prop := planCoversRow.holds Try.pinned (OpenSpec.ofChange planCoversSpec)

/-- ITS FALSE NEIGHBOUR: 'it returns false'. Refute it at one input. -/
def planCoversWrong : ChangeSpec := { name := "planCovers", fn := fun _ => fun
  | [d1, d2, d3, d4, d5, d6] => { results := [.lit (.bool false)], args := [d1, d2, d3, d4, d5, d6] }
  | _ => none }
def PlanCoversWrongFalsely : Prop := planCoversRow.holds Try.pinned (OpenSpec.ofChange planCoversWrong)

/-- 'ossuarylaw41.DeltaJoins': WHATEVER THE INPUT: true; the input reads as it did. -/
def deltaJoinsSpec : ChangeSpec := { name := "deltaJoins", fn := fun _ => fun
  | [d1, d2] => { results := [.lit (.bool true)], args := [d1, d2] }
  | _ => none }
def deltaJoinsRow : OpenClaim := { program := "ytgbckhleokkhmaa", sum := "0644891bf2824384b9e832913ae73c499a7330fda699760e87808bd9d57f5f06", func := "ossuary/ossuarylaw41.DeltaJoins", spec := "deltaJoins", unfollowed := true, recurses := true, plainKeys := false, apart := false }
def DeltaJoinsSaid : Prop := deltaJoinsRow.holds Try.pinned (OpenSpec.ofChange deltaJoinsSpec)

/-- ITS FALSE NEIGHBOUR: 'it returns false'. Refute it at one input. -/
def deltaJoinsWrong : ChangeSpec := { name := "deltaJoins", fn := fun _ => fun
  | [d1, d2] => { results := [.lit (.bool false)], args := [d1, d2] }
  | _ => none }
def DeltaJoinsWrongFalsely : Prop := deltaJoinsRow.holds Try.pinned (OpenSpec.ofChange deltaJoinsWrong)

/-- 'ossuarylaw32.ScriptAnswers': WHATEVER THE INPUT: true; the input reads as it did. -/
def scriptAnswersSpec : ChangeSpec := { name := "scriptAnswers", fn := fun _ => fun
  | [d1, d2] => { results := [.lit (.bool true)], args := [d1, d2] }
  | _ => none }
def scriptAnswersRow : OpenClaim := { program := "ytgbckhleokkhmaa", sum := "0644891bf2824384b9e832913ae73c499a7330fda699760e87808bd9d57f5f06", func := "ossuary/ossuarylaw32.ScriptAnswers", spec := "scriptAnswers", unfollowed := true, recurses := true, plainKeys := false, apart := false }
def ScriptAnswersSaid : Prop := scriptAnswersRow.holds Try.pinned (OpenSpec.ofChange scriptAnswersSpec)

/-- ITS FALSE NEIGHBOUR: 'it returns false'. Refute it at one input. -/
def scriptAnswersWrong : ChangeSpec := { name := "scriptAnswers", fn := fun _ => fun
  | [d1, d2] => { results := [.lit (.bool false)], args := [d1, d2] }
  | _ => none }
def ScriptAnswersWrongFalsely : Prop := scriptAnswersRow.holds Try.pinned (OpenSpec.ofChange scriptAnswersWrong)

/-- 'ossuarylaw39.SeriesRolls': WHATEVER THE INPUT: true; the input reads as it did. -/
def seriesRollsSpec : ChangeSpec := { name := "seriesRolls", fn := fun _ => fun
  | [d1, d2] => { results := [.lit (.bool true)], args := [d1, d2] }
  | _ => none }
def seriesRollsRow : OpenClaim := { program := "ytgbckhleokkhmaa", sum := "0644891bf2824384b9e832913ae73c499a7330fda699760e87808bd9d57f5f06", func := "ossuary/ossuarylaw39.SeriesRolls", spec := "seriesRolls", inPlace := ["internal/bytealg.IndexByteString", "internal/bytealg.IndexString"], unfollowed := true, recurses := true, named := ["internal/bytealg.MaxLen"], plainKeys := false, apart := false }
def SeriesRollsSaid : Prop := seriesRollsRow.holds Try.pinned (OpenSpec.ofChange seriesRollsSpec)

/-- ITS FALSE NEIGHBOUR: 'it returns false'. Refute it at one input. -/
def seriesRollsWrong : ChangeSpec := { name := "seriesRolls", fn := fun _ => fun
  | [d1, d2] => { results := [.lit (.bool false)], args := [d1, d2] }
  | _ => none }
def SeriesRollsWrongFalsely : Prop := seriesRollsRow.holds Try.pinned (OpenSpec.ofChange seriesRollsWrong)

/-- 'ossuarylaw39.SeriesPoints': WHATEVER THE INPUT: true; the input reads as it did. -/
def seriesPointsSpec : ChangeSpec := { name := "seriesPoints", fn := fun _ => fun
  | [d1, d2, d3, d4] => { results := [.lit (.bool true)], args := [d1, d2, d3, d4] }
  | _ => none }
def seriesPointsRow : OpenClaim := { program := "ytgbckhleokkhmaa", sum := "0644891bf2824384b9e832913ae73c499a7330fda699760e87808bd9d57f5f06", func := "ossuary/ossuarylaw39.SeriesPoints", spec := "seriesPoints", inPlace := ["internal/bytealg.IndexByteString", "internal/bytealg.IndexString"], unfollowed := true, recurses := true, named := ["internal/bytealg.MaxLen"], plainKeys := false, apart := false }
def SeriesPointsSaid : Prop := seriesPointsRow.holds Try.pinned (OpenSpec.ofChange seriesPointsSpec)

/-- ITS FALSE NEIGHBOUR: 'it returns false'. Refute it at one input. -/
def seriesPointsWrong : ChangeSpec := { name := "seriesPoints", fn := fun _ => fun
  | [d1, d2, d3, d4] => { results := [.lit (.bool false)], args := [d1, d2, d3, d4] }
  | _ => none }
def SeriesPointsWrongFalsely : Prop := seriesPointsRow.holds Try.pinned (OpenSpec.ofChange seriesPointsWrong)

/-- 'ossuarylaw39.SeriesSums': WHATEVER THE INPUT: true; the input reads as it did. -/
def seriesSumsSpec : ChangeSpec := { name := "seriesSums", fn := fun _ => fun
  | [d1, d2, d3] => { results := [.lit (.bool true)], args := [d1, d2, d3] }
  | _ => none }
def seriesSumsRow : OpenClaim := { program := "ytgbckhleokkhmaa", sum := "0644891bf2824384b9e832913ae73c499a7330fda699760e87808bd9d57f5f06", func := "ossuary/ossuarylaw39.SeriesSums", spec := "seriesSums", inPlace := ["internal/bytealg.IndexByteString", "internal/bytealg.IndexString"], unfollowed := true, recurses := true, named := ["internal/bytealg.MaxLen"], plainKeys := false, apart := false }
def SeriesSumsSaid : Prop := seriesSumsRow.holds Try.pinned (OpenSpec.ofChange seriesSumsSpec)

/-- ITS FALSE NEIGHBOUR: 'it returns false'. Refute it at one input. -/
def seriesSumsWrong : ChangeSpec := { name := "seriesSums", fn := fun _ => fun
  | [d1, d2, d3] => { results := [.lit (.bool false)], args := [d1, d2, d3] }
  | _ => none }
def SeriesSumsWrongFalsely : Prop := seriesSumsRow.holds Try.pinned (OpenSpec.ofChange seriesSumsWrong)

/-- 'ossuarylaw21.ManifestCuts': WHATEVER THE INPUT: true; the input reads as it did. -/
def manifestCutsSpec : ChangeSpec := { name := "manifestCuts", fn := fun _ => fun
  | [d1, d2] => { results := [.lit (.bool true)], args := [d1, d2] }
  | _ => none }
def manifestCutsRow : OpenClaim := { program := "ytgbckhleokkhmaa", sum := "0644891bf2824384b9e832913ae73c499a7330fda699760e87808bd9d57f5f06", func := "ossuary/ossuarylaw21.ManifestCuts", spec := "manifestCuts", inPlace := ["slices.overlaps[ossuary/omap.pair[int64, ossuary/api.Entry]]"], unfollowed := true, recurses := true, plainKeys := false, apart := false }
def ManifestCutsSaid : Prop := manifestCutsRow.holds Try.pinned (OpenSpec.ofChange manifestCutsSpec)

/-- ITS FALSE NEIGHBOUR: 'it returns false'. Refute it at one input. -/
def manifestCutsWrong : ChangeSpec := { name := "manifestCuts", fn := fun _ => fun
  | [d1, d2] => { results := [.lit (.bool false)], args := [d1, d2] }
  | _ => none }
def ManifestCutsWrongFalsely : Prop := manifestCutsRow.holds Try.pinned (OpenSpec.ofChange manifestCutsWrong)

/- THE SECOND FORM. 'bulk': how many values and letters a reading holds, each counted each time it is reached (what is shared counts as often as it is met; a slice's spare places count too). A statement '..UptoSaid' is the law's where the arguments, and the package variables that the reading takes, are together of bulk at most 1048576: NARROWER than '..Said'. Prove '..Said' where nothing that the law and all that it calls make is longer than what came in: it says more and counts as full. Else prove '..UptoSaid'. A law counts once. -/
mutual
def uptoBulk {H : Type} : DataW H → Nat
  | .lit (.string bytes) => bytes.length + 1
  | .lit _ => 1
  | .nil => 1
  | .ptr d => uptoBulk d + 1
  | .slice elems spare => uptoBulkAll elems + uptoBulkAll spare + 1
  | .agg parts => uptoBulkAll parts + 1
  | .iface _ d => uptoBulk d + 1
  | .map entries => uptoBulkEntries entries + 1
  | .held _ => 1
def uptoBulkAll {H : Type} : List (DataW H) → Nat
  | [] => 0
  | d :: r => uptoBulk d + uptoBulkAll r
def uptoBulkEntries {H : Type} : List (Lit × DataW H) → Nat
  | [] => 0
  | x :: r => uptoBulkEntry x + uptoBulkEntries r
def uptoBulkEntry {H : Type} : Lit × DataW H → Nat
  | (.string bytes, d) => bytes.length + uptoBulk d + 1
  | (_, d) => uptoBulk d + 1
 end
def uptoSmall : (H : Type) → List (DataW H) → Bool := fun _ ds => decide (uptoBulkAll ds ≤ 1048576)
def OpenSpec.upto (s : _root_.Go.ChangeSpec) : _root_.Go.OpenSpec := { _root_.Go.OpenSpec.ofChange s with cond := some uptoSmall }

/-- 'ossuarylaw23.PlanCovers', WHERE WHAT IT READS IS OF BULK AT MOST 1048576: true; the input reads as it did. -/
def planCoversUptoRow : OpenClaim := { program := "ytgbckhleokkhmaa", sum := "0644891bf2824384b9e832913ae73c499a7330fda699760e87808bd9d57f5f06", func := "ossuary/ossuarylaw23.PlanCovers", spec := "planCovers", inPlace := ["slices.overlaps[ossuary/omap.pair[int64, ossuary/api.Entry]]"], unfollowed := true, recurses := true, plainKeys := false, apart := false, narrowed := true }
def PlanCoversUptoSaid : Prop := planCoversUptoRow.holds Try.pinned (OpenSpec.upto planCoversSpec)

/-- 'ossuarylaw41.DeltaJoins', WHERE WHAT IT READS IS OF BULK AT MOST 1048576: true; the input reads as it did. -/
def deltaJoinsUptoRow : OpenClaim := { program := "ytgbckhleokkhmaa", sum := "0644891bf2824384b9e832913ae73c499a7330fda699760e87808bd9d57f5f06", func := "ossuary/ossuarylaw41.DeltaJoins", spec := "deltaJoins", unfollowed := true, recurses := true, plainKeys := false, apart := false, narrowed := true }
def DeltaJoinsUptoSaid : Prop := deltaJoinsUptoRow.holds Try.pinned (OpenSpec.upto deltaJoinsSpec)

/-- 'ossuarylaw32.ScriptAnswers', WHERE WHAT IT READS IS OF BULK AT MOST 1048576: true; the input reads as it did. -/
def scriptAnswersUptoRow : OpenClaim := { program := "ytgbckhleokkhmaa", sum := "0644891bf2824384b9e832913ae73c499a7330fda699760e87808bd9d57f5f06", func := "ossuary/ossuarylaw32.ScriptAnswers", spec := "scriptAnswers", unfollowed := true, recurses := true, plainKeys := false, apart := false, narrowed := true }
def ScriptAnswersUptoSaid : Prop := scriptAnswersUptoRow.holds Try.pinned (OpenSpec.upto scriptAnswersSpec)

/-- 'ossuarylaw39.SeriesRolls', WHERE WHAT IT READS IS OF BULK AT MOST 1048576: true; the input reads as it did. -/
def seriesRollsUptoRow : OpenClaim := { program := "ytgbckhleokkhmaa", sum := "0644891bf2824384b9e832913ae73c499a7330fda699760e87808bd9d57f5f06", func := "ossuary/ossuarylaw39.SeriesRolls", spec := "seriesRolls", inPlace := ["internal/bytealg.IndexByteString", "internal/bytealg.IndexString"], unfollowed := true, recurses := true, named := ["internal/bytealg.MaxLen"], plainKeys := false, apart := false, narrowed := true }
def SeriesRollsUptoSaid : Prop := seriesRollsUptoRow.holds Try.pinned (OpenSpec.upto seriesRollsSpec)

/-- 'ossuarylaw39.SeriesPoints', WHERE WHAT IT READS IS OF BULK AT MOST 1048576: true; the input reads as it did. -/
def seriesPointsUptoRow : OpenClaim := { program := "ytgbckhleokkhmaa", sum := "0644891bf2824384b9e832913ae73c499a7330fda699760e87808bd9d57f5f06", func := "ossuary/ossuarylaw39.SeriesPoints", spec := "seriesPoints", inPlace := ["internal/bytealg.IndexByteString", "internal/bytealg.IndexString"], unfollowed := true, recurses := true, named := ["internal/bytealg.MaxLen"], plainKeys := false, apart := false, narrowed := true }
def SeriesPointsUptoSaid : Prop := seriesPointsUptoRow.holds Try.pinned (OpenSpec.upto seriesPointsSpec)

/-- 'ossuarylaw39.SeriesSums', WHERE WHAT IT READS IS OF BULK AT MOST 1048576: true; the input reads as it did. -/
def seriesSumsUptoRow : OpenClaim := { program := "ytgbckhleokkhmaa", sum := "0644891bf2824384b9e832913ae73c499a7330fda699760e87808bd9d57f5f06", func := "ossuary/ossuarylaw39.SeriesSums", spec := "seriesSums", inPlace := ["internal/bytealg.IndexByteString", "internal/bytealg.IndexString"], unfollowed := true, recurses := true, named := ["internal/bytealg.MaxLen"], plainKeys := false, apart := false, narrowed := true }
def SeriesSumsUptoSaid : Prop := seriesSumsUptoRow.holds Try.pinned (OpenSpec.upto seriesSumsSpec)

/-- 'ossuarylaw21.ManifestCuts', WHERE WHAT IT READS IS OF BULK AT MOST 1048576: true; the input reads as it did. -/
def manifestCutsUptoRow : OpenClaim := { program := "ytgbckhleokkhmaa", sum := "0644891bf2824384b9e832913ae73c499a7330fda699760e87808bd9d57f5f06", func := "ossuary/ossuarylaw21.ManifestCuts", spec := "manifestCuts", inPlace := ["slices.overlaps[ossuary/omap.pair[int64, ossuary/api.Entry]]"], unfollowed := true, recurses := true, plainKeys := false, apart := false, narrowed := true }
def ManifestCutsUptoSaid : Prop := manifestCutsUptoRow.holds Try.pinned (OpenSpec.upto manifestCutsSpec)

end Rows
end Go.Proofs.Ytgbckhleokkhmaa
