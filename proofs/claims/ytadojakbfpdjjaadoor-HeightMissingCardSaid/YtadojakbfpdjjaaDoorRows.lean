/-
  NARROWER THAN 'FOR EVERY INPUT', by the rows' own cells (each row's printed sentence says how): HeightReads: laid · HeightDraws: laid · HeightBack: laid · HeightMissing: laid · HeightWrong: laid · HeightMargin: laid.
  DERIVED. THE GIVEN ROWS OF THIS SEAT. 6 by the template 'for every input the law returns true; each argument reads behind the call as it read before'; 0 by the template 'total and deterministic' (their statements: YtadojakbfpdjjaaDoorTotals.lean).
  GIVEN WITH THE SEED: the statements are not yours to turn. If you find one false, say at which input.
  Laid BY PROGRAM, IN A SANDBOX (cutbox-rows.mjs): the forced cells as the released guide's own fill.sh prints them over the translation 3eb921ce9bf70750… (all of the seat's roots in one cut). By AI agents, Wed Nov 11 2026. No macro, syntax, notation, axiom, sorry.
-/
import Derived.Test.YtadojakbfpdjjaaDoorChecked
import GoSem.Claim
import GoSem.ClaimJoined
import GoSem.ClaimMapViews
import Derived.JoinedTies
import Derived.KernelRfl
namespace Go.Proofs.YtadojakbfpdjjaaDoor
/- THE CELL 'sum', in the pinned program and in every row, IS THE sha256 OF THE DUMP (.gsa) THAT YtadojakbfpdjjaaDoorProg.lean LOADS. Nothing in Lean hashes anything: it is a label: what it is worth is what the hold of that sum in a sandbox is worth. -/
noncomputable def Tryd.pinned : Pinned := { name := "ytadojakbfpdjjaadoor", sum := "3eb921ce9bf707501d1a9e1227fdae338b1d56e39e390b1b26a9bb78f405a076", checked := Tryd.checked }
namespace Rows
def none {H : Type} : Left H := { results := [], args := [] }

/- WHAT THE LISTED PACKAGE-LEVEL VARIABLES READ AS WHEN THE CALL BEGINS. Each datum BY PROGRAM (the guide's laid-datum.mjs) off the statement by which the dump's own 'gosem.cut.vars' lays the variable. In a bare row this is a premise. The card (YtadojakbfpdjjaaDoorCards.lean) ties it to the program's text. -/
def laid_letterbag_height_letters {H : Type} : DataW H := .agg [.agg [.lit (.int .u8 84), .lit (.int .u8 68), .lit (.int .u8 63)], .agg [.lit (.int .u8 65), .lit (.int .u8 70), .lit (.int .u8 63)], .agg [.lit (.int .u8 63), .lit (.int .u8 63), .lit (.int .u8 63)]]

/-- 'letterbaglaw21.HeightReads': WHATEVER THE INPUT: true; the input reads as it did. -/
def heightReadsSpec : ChangeSpec := { name := "heightReads", fn := fun _ => fun
  | [d1, d2] => { results := [.lit (.bool true)], args := [d1, d2] }
  | _ => none }
def heightReadsRow : OpenClaim := { program := "ytadojakbfpdjjaadoor", sum := "3eb921ce9bf707501d1a9e1227fdae338b1d56e39e390b1b26a9bb78f405a076", func := "letterbag/letterbaglaw21.HeightReads", spec := "heightReads", inPlace := ["internal/abi.NoEscape", "internal/bytealg.IndexByteString"], unfollowed := true, recurses := true, named := ["letterbag/height.letters"], apart := false, laid := [("letterbag/height.letters", laid_letterbag_height_letters)] }
def HeightReadsSaid : Prop := heightReadsRow.holds Tryd.pinned (OpenSpec.ofChange heightReadsSpec)

/-- ITS FALSE NEIGHBOUR: 'it returns false'. Refute it at one input. -/
def heightReadsWrong : ChangeSpec := { name := "heightReads", fn := fun _ => fun
  | [d1, d2] => { results := [.lit (.bool false)], args := [d1, d2] }
  | _ => none }
def HeightReadsWrongFalsely : Prop := heightReadsRow.holds Tryd.pinned (OpenSpec.ofChange heightReadsWrong)

/-- 'letterbaglaw21.HeightDraws': WHATEVER THE INPUT: true; the input reads as it did. -/
def heightDrawsSpec : ChangeSpec := { name := "heightDraws", fn := fun _ => fun
  | [d1, d2] => { results := [.lit (.bool true)], args := [d1, d2] }
  | _ => none }
def heightDrawsRow : OpenClaim := { program := "ytadojakbfpdjjaadoor", sum := "3eb921ce9bf707501d1a9e1227fdae338b1d56e39e390b1b26a9bb78f405a076", func := "letterbag/letterbaglaw21.HeightDraws", spec := "heightDraws", inPlace := ["internal/abi.NoEscape", "internal/bytealg.IndexByteString"], unfollowed := true, recurses := true, named := ["letterbag/height.letters"], apart := false, laid := [("letterbag/height.letters", laid_letterbag_height_letters)] }
def HeightDrawsSaid : Prop := heightDrawsRow.holds Tryd.pinned (OpenSpec.ofChange heightDrawsSpec)

/-- ITS FALSE NEIGHBOUR: 'it returns false'. Refute it at one input. -/
def heightDrawsWrong : ChangeSpec := { name := "heightDraws", fn := fun _ => fun
  | [d1, d2] => { results := [.lit (.bool false)], args := [d1, d2] }
  | _ => none }
def HeightDrawsWrongFalsely : Prop := heightDrawsRow.holds Tryd.pinned (OpenSpec.ofChange heightDrawsWrong)

/-- 'letterbaglaw21.HeightBack': WHATEVER THE INPUT: true; the input reads as it did. -/
def heightBackSpec : ChangeSpec := { name := "heightBack", fn := fun _ => fun
  | [d1, d2, d3, d4, d5] => { results := [.lit (.bool true)], args := [d1, d2, d3, d4, d5] }
  | _ => none }
def heightBackRow : OpenClaim := { program := "ytadojakbfpdjjaadoor", sum := "3eb921ce9bf707501d1a9e1227fdae338b1d56e39e390b1b26a9bb78f405a076", func := "letterbag/letterbaglaw21.HeightBack", spec := "heightBack", inPlace := ["internal/bytealg.IndexByteString", "internal/abi.NoEscape"], unfollowed := true, recurses := true, named := ["letterbag/height.letters"], apart := false, laid := [("letterbag/height.letters", laid_letterbag_height_letters)] }
def HeightBackSaid : Prop := heightBackRow.holds Tryd.pinned (OpenSpec.ofChange heightBackSpec)

/-- ITS FALSE NEIGHBOUR: 'it returns false'. Refute it at one input. -/
def heightBackWrong : ChangeSpec := { name := "heightBack", fn := fun _ => fun
  | [d1, d2, d3, d4, d5] => { results := [.lit (.bool false)], args := [d1, d2, d3, d4, d5] }
  | _ => none }
def HeightBackWrongFalsely : Prop := heightBackRow.holds Tryd.pinned (OpenSpec.ofChange heightBackWrong)

/-- 'letterbaglaw21.HeightMissing': WHATEVER THE INPUT: true; the input reads as it did. -/
def heightMissingSpec : ChangeSpec := { name := "heightMissing", fn := fun _ => fun
  | [d1, d2, d3] => { results := [.lit (.bool true)], args := [d1, d2, d3] }
  | _ => none }
def heightMissingRow : OpenClaim := { program := "ytadojakbfpdjjaadoor", sum := "3eb921ce9bf707501d1a9e1227fdae338b1d56e39e390b1b26a9bb78f405a076", func := "letterbag/letterbaglaw21.HeightMissing", spec := "heightMissing", inPlace := ["internal/bytealg.IndexByteString", "internal/abi.NoEscape"], unfollowed := true, recurses := true, named := ["letterbag/height.letters"], apart := false, laid := [("letterbag/height.letters", laid_letterbag_height_letters)] }
def HeightMissingSaid : Prop := heightMissingRow.holds Tryd.pinned (OpenSpec.ofChange heightMissingSpec)

/-- ITS FALSE NEIGHBOUR: 'it returns false'. Refute it at one input. -/
def heightMissingWrong : ChangeSpec := { name := "heightMissing", fn := fun _ => fun
  | [d1, d2, d3] => { results := [.lit (.bool false)], args := [d1, d2, d3] }
  | _ => none }
def HeightMissingWrongFalsely : Prop := heightMissingRow.holds Tryd.pinned (OpenSpec.ofChange heightMissingWrong)

/-- 'letterbaglaw21.HeightWrong': WHATEVER THE INPUT: true; the input reads as it did. -/
def heightWrongSpec : ChangeSpec := { name := "heightWrong", fn := fun _ => fun
  | [d1, d2, d3] => { results := [.lit (.bool true)], args := [d1, d2, d3] }
  | _ => none }
def heightWrongRow : OpenClaim := { program := "ytadojakbfpdjjaadoor", sum := "3eb921ce9bf707501d1a9e1227fdae338b1d56e39e390b1b26a9bb78f405a076", func := "letterbag/letterbaglaw21.HeightWrong", spec := "heightWrong", inPlace := ["internal/abi.NoEscape", "internal/bytealg.IndexByteString"], unfollowed := true, recurses := true, named := ["letterbag/height.letters"], apart := false, laid := [("letterbag/height.letters", laid_letterbag_height_letters)] }
def HeightWrongSaid : Prop := heightWrongRow.holds Tryd.pinned (OpenSpec.ofChange heightWrongSpec)

/-- ITS FALSE NEIGHBOUR: 'it returns false'. Refute it at one input. -/
def heightWrongWrong : ChangeSpec := { name := "heightWrong", fn := fun _ => fun
  | [d1, d2, d3] => { results := [.lit (.bool false)], args := [d1, d2, d3] }
  | _ => none }
def HeightWrongWrongFalsely : Prop := heightWrongRow.holds Tryd.pinned (OpenSpec.ofChange heightWrongWrong)

/-- 'letterbaglaw21.HeightMargin': WHATEVER THE INPUT: true; the input reads as it did. -/
def heightMarginSpec : ChangeSpec := { name := "heightMargin", fn := fun _ => fun
  | [d1, d2, d3] => { results := [.lit (.bool true)], args := [d1, d2, d3] }
  | _ => none }
def heightMarginRow : OpenClaim := { program := "ytadojakbfpdjjaadoor", sum := "3eb921ce9bf707501d1a9e1227fdae338b1d56e39e390b1b26a9bb78f405a076", func := "letterbag/letterbaglaw21.HeightMargin", spec := "heightMargin", inPlace := ["internal/bytealg.IndexByteString", "internal/abi.NoEscape", "internal/bytealg.CountString", "internal/bytealg.IndexString"], unfollowed := true, recurses := true, named := ["letterbag/height.letters", "internal/bytealg.MaxLen"], apart := false, laid := [("letterbag/height.letters", laid_letterbag_height_letters)] }
def HeightMarginSaid : Prop := heightMarginRow.holds Tryd.pinned (OpenSpec.ofChange heightMarginSpec)

/-- ITS FALSE NEIGHBOUR: 'it returns false'. Refute it at one input. -/
def heightMarginWrong : ChangeSpec := { name := "heightMargin", fn := fun _ => fun
  | [d1, d2, d3] => { results := [.lit (.bool false)], args := [d1, d2, d3] }
  | _ => none }
def HeightMarginWrongFalsely : Prop := heightMarginRow.holds Tryd.pinned (OpenSpec.ofChange heightMarginWrong)

/- THE SECOND FORM. 'bulk': how many values and letters a reading holds, each counted each time it is reached (what is shared counts as often as it is met; a slice's spare places count too). A statement '..UptoSaid' is the law's where the arguments, and the package variables that the reading takes, are together of bulk at most 1048576: NARROWER than '..Said'. Prove '..Said' where nothing that the law and all that it calls make is longer than what came in: it says more and counts as full. Else prove '..UptoSaid'. A law counts once. -/
mutual
def uptoBulk {H : Type} : DataW H → Nat
  | .lit (.string bytes) => bytes.length + 1
  | .lit _ => 1
  | .nil => 1
  | .ptr d => uptoBulk d + 1
  | .slice elems spare => uptoBulkAll elems + uptoBulkAll spare + 1
  | .agg parts => uptoBulkAll parts + 1
  | .iface _ d => uptoBulk d + 1
  | .map entries => uptoBulkEntries entries + 1
  | .held _ => 1
def uptoBulkAll {H : Type} : List (DataW H) → Nat
  | [] => 0
  | d :: r => uptoBulk d + uptoBulkAll r
def uptoBulkEntries {H : Type} : List (Lit × DataW H) → Nat
  | [] => 0
  | x :: r => uptoBulkEntry x + uptoBulkEntries r
def uptoBulkEntry {H : Type} : Lit × DataW H → Nat
  | (.string bytes, d) => bytes.length + uptoBulk d + 1
  | (_, d) => uptoBulk d + 1
 end
def uptoSmall : (H : Type) → List (DataW H) → Bool := fun _ ds => decide (uptoBulkAll ds ≤ 1048576)
def OpenSpec.upto (s : _root_.Go.ChangeSpec) : _root_.Go.OpenSpec := { _root_.Go.OpenSpec.ofChange s with cond := some uptoSmall }

/-- 'letterbaglaw21.HeightReads', WHERE WHAT IT READS IS OF BULK AT MOST 1048576: true; the input reads as it did. -/
def heightReadsUptoRow : OpenClaim := { program := "ytadojakbfpdjjaadoor", sum := "3eb921ce9bf707501d1a9e1227fdae338b1d56e39e390b1b26a9bb78f405a076", func := "letterbag/letterbaglaw21.HeightReads", spec := "heightReads", inPlace := ["internal/abi.NoEscape", "internal/bytealg.IndexByteString"], unfollowed := true, recurses := true, named := ["letterbag/height.letters"], apart := false, laid := [("letterbag/height.letters", laid_letterbag_height_letters)], narrowed := true }
def HeightReadsUptoSaid : Prop := heightReadsUptoRow.holds Tryd.pinned (OpenSpec.upto heightReadsSpec)

/-- 'letterbaglaw21.HeightDraws', WHERE WHAT IT READS IS OF BULK AT MOST 1048576: true; the input reads as it did. -/
def heightDrawsUptoRow : OpenClaim := { program := "ytadojakbfpdjjaadoor", sum := "3eb921ce9bf707501d1a9e1227fdae338b1d56e39e390b1b26a9bb78f405a076", func := "letterbag/letterbaglaw21.HeightDraws", spec := "heightDraws", inPlace := ["internal/abi.NoEscape", "internal/bytealg.IndexByteString"], unfollowed := true, recurses := true, named := ["letterbag/height.letters"], apart := false, laid := [("letterbag/height.letters", laid_letterbag_height_letters)], narrowed := true }
def HeightDrawsUptoSaid : Prop := heightDrawsUptoRow.holds Tryd.pinned (OpenSpec.upto heightDrawsSpec)

/-- 'letterbaglaw21.HeightBack', WHERE WHAT IT READS IS OF BULK AT MOST 1048576: true; the input reads as it did. -/
def heightBackUptoRow : OpenClaim := { program := "ytadojakbfpdjjaadoor", sum := "3eb921ce9bf707501d1a9e1227fdae338b1d56e39e390b1b26a9bb78f405a076", func := "letterbag/letterbaglaw21.HeightBack", spec := "heightBack", inPlace := ["internal/bytealg.IndexByteString", "internal/abi.NoEscape"], unfollowed := true, recurses := true, named := ["letterbag/height.letters"], apart := false, laid := [("letterbag/height.letters", laid_letterbag_height_letters)], narrowed := true }
def HeightBackUptoSaid : Prop := heightBackUptoRow.holds Tryd.pinned (OpenSpec.upto heightBackSpec)

/-- 'letterbaglaw21.HeightMissing', WHERE WHAT IT READS IS OF BULK AT MOST 1048576: true; the input reads as it did. -/
def heightMissingUptoRow : OpenClaim := { program := "ytadojakbfpdjjaadoor", sum := "3eb921ce9bf707501d1a9e1227fdae338b1d56e39e390b1b26a9bb78f405a076", func := "letterbag/letterbaglaw21.HeightMissing", spec := "heightMissing", inPlace := ["internal/bytealg.IndexByteString", "internal/abi.NoEscape"], unfollowed := true, recurses := true, named := ["letterbag/height.letters"], apart := false, laid := [("letterbag/height.letters", laid_letterbag_height_letters)], narrowed := true }
def HeightMissingUptoSaid : Prop := heightMissingUptoRow.holds Tryd.pinned (OpenSpec.upto heightMissingSpec)

/-- 'letterbaglaw21.HeightWrong', WHERE WHAT IT READS IS OF BULK AT MOST 1048576: true; the input reads as it did. -/
def heightWrongUptoRow : OpenClaim := { program := "ytadojakbfpdjjaadoor", sum := "3eb921ce9bf707501d1a9e1227fdae338b1d56e39e390b1b26a9bb78f405a076", func := "letterbag/letterbaglaw21.HeightWrong", spec := "heightWrong", inPlace := ["internal/abi.NoEscape", "internal/bytealg.IndexByteString"], unfollowed := true, recurses := true, named := ["letterbag/height.letters"], apart := false, laid := [("letterbag/height.letters", laid_letterbag_height_letters)], narrowed := true }
def HeightWrongUptoSaid : Prop := heightWrongUptoRow.holds Tryd.pinned (OpenSpec.upto heightWrongSpec)

/-- 'letterbaglaw21.HeightMargin', WHERE WHAT IT READS IS OF BULK AT MOST 1048576: true; the input reads as it did. -/
def heightMarginUptoRow : OpenClaim := { program := "ytadojakbfpdjjaadoor", sum := "3eb921ce9bf707501d1a9e1227fdae338b1d56e39e390b1b26a9bb78f405a076", func := "letterbag/letterbaglaw21.HeightMargin", spec := "heightMargin", inPlace := ["internal/bytealg.IndexByteString", "internal/abi.NoEscape", "internal/bytealg.CountString", "internal/bytealg.IndexString"], unfollowed := true, recurses := true, named := ["letterbag/height.letters", "internal/bytealg.MaxLen"], apart := false, laid := [("letterbag/height.letters", laid_letterbag_height_letters)], narrowed := true }
def HeightMarginUptoSaid : Prop := heightMarginUptoRow.holds Tryd.pinned (OpenSpec.upto heightMarginSpec)

end Rows
end Go.Proofs.YtadojakbfpdjjaaDoor
