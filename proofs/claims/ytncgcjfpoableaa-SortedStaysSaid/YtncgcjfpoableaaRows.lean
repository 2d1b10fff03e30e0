/-
  No cell of these rows narrows 'for every input' (looked for: loops, veiled, ifaces, maps, wideKeys, modest, calm, conditions, laid).
  DERIVED. THE GIVEN ROWS OF THIS SEAT. 7 by the template 'for every input the law returns true; each argument reads behind the call as it read before'; 0 by the template 'total and deterministic' (their statements: YtncgcjfpoableaaTotals.lean).
  GIVEN WITH THE SEED: the statements are not yours to turn. If you find one false, say at which input.
  Laid BY PROGRAM, IN A SANDBOX (cutbox-rows.mjs): the forced cells as the released guide's own fill.sh prints them over the translation c2ff4cc7682b0f1a… (all of the seat's roots in one cut). By AI agents, Wed Nov 11 2026. No macro, syntax, notation, axiom, sorry.
-/
import Derived.Test.YtncgcjfpoableaaChecked
import GoSem.Claim
import GoSem.ClaimJoined
import GoSem.ClaimMapViews
import Derived.JoinedTies
import Derived.KernelRfl
namespace Go.Proofs.Ytncgcjfpoableaa
/- THE CELL 'sum', in the pinned program and in every row, IS THE sha256 OF THE DUMP (.gsa) THAT YtncgcjfpoableaaProg.lean LOADS. Nothing in Lean hashes anything: it is a label: what it is worth is what the hold of that sum in a sandbox is worth. -/
noncomputable def Try.pinned : Pinned := { name := "ytncgcjfpoableaa", sum := "c2ff4cc7682b0f1adcd730adc7d24315eb02651824d71e54713f5dcfa68cf8cb", checked := Try.checked }
namespace Rows
def none {H : Type} : Left H := { results := [], args := [] }

/-- 'wherrylaw02.SortedTexts': WHATEVER THE INPUT: true; the input reads as it did. -/
def sortedTextsSpec : ChangeSpec := { name := "sortedTexts", fn := fun _ => fun
  | [d1, d2] => { results := [.lit (.bool true)], args := [d1, d2] }
  | _ => none }
def sortedTextsRow : OpenClaim := { program := "ytncgcjfpoableaa", sum := "c2ff4cc7682b0f1adcd730adc7d24315eb02651824d71e54713f5dcfa68cf8cb", func := "wherry/wherrylaw02.SortedTexts", spec := "sortedTexts", inPlace := ["internal/bytealg.abigen_runtime_cmpstring"], unfollowed := true, recurses := true, apart := false }
def SortedTextsSaid : Prop := sortedTextsRow.holds Try.pinned (OpenSpec.ofChange sortedTextsSpec)

/-- ITS FALSE NEIGHBOUR: 'it returns false'. Refute it at one input. -/
def sortedTextsWrong : ChangeSpec := { name := "sortedTexts", fn := fun _ => fun
  | [d1, d2] => { results := [.lit (.bool false)], args := [d1, d2] }
  | _ => none }
def SortedTextsWrongFalsely : Prop := sortedTextsRow.holds Try.pinned (OpenSpec.ofChange sortedTextsWrong)

/-- 'wherrylaw02.SortedPlays': WHATEVER THE INPUT: true; the input reads as it did. -/
def sortedPlaysSpec : ChangeSpec := { name := "sortedPlays", fn := fun _ => fun
  | [d] => { results := [.lit (.bool true)], args := [d] }
  | _ => none }
def sortedPlaysRow : OpenClaim := { program := "ytncgcjfpoableaa", sum := "c2ff4cc7682b0f1adcd730adc7d24315eb02651824d71e54713f5dcfa68cf8cb", func := "wherry/wherrylaw02.SortedPlays", spec := "sortedPlays", inPlace := ["internal/bytealg.abigen_runtime_cmpstring"], unfollowed := true, recurses := true, apart := false }
def SortedPlaysSaid : Prop := sortedPlaysRow.holds Try.pinned (OpenSpec.ofChange sortedPlaysSpec)

/-- ITS FALSE NEIGHBOUR: 'it returns false'. Refute it at one input. -/
def sortedPlaysWrong : ChangeSpec := { name := "sortedPlays", fn := fun _ => fun
  | [d] => { results := [.lit (.bool false)], args := [d] }
  | _ => none }
def SortedPlaysWrongFalsely : Prop := sortedPlaysRow.holds Try.pinned (OpenSpec.ofChange sortedPlaysWrong)

/-- 'wherrylaw02.SortedStays': WHATEVER THE INPUT: true; the input reads as it did. -/
def sortedStaysSpec : ChangeSpec := { name := "sortedStays", fn := fun _ => fun
  | [d1, d2, d3] => { results := [.lit (.bool true)], args := [d1, d2, d3] }
  | _ => none }
def sortedStaysRow : OpenClaim := { program := "ytncgcjfpoableaa", sum := "c2ff4cc7682b0f1adcd730adc7d24315eb02651824d71e54713f5dcfa68cf8cb", func := "wherry/wherrylaw02.SortedStays", spec := "sortedStays", inPlace := ["internal/bytealg.abigen_runtime_cmpstring"], unfollowed := true, recurses := true, apart := false }
def SortedStaysSaid : Prop := sortedStaysRow.holds Try.pinned (OpenSpec.ofChange sortedStaysSpec)

/-- ITS FALSE NEIGHBOUR: 'it returns false'. Refute it at one input. -/
def sortedStaysWrong : ChangeSpec := { name := "sortedStays", fn := fun _ => fun
  | [d1, d2, d3] => { results := [.lit (.bool false)], args := [d1, d2, d3] }
  | _ => none }
def SortedStaysWrongFalsely : Prop := sortedStaysRow.holds Try.pinned (OpenSpec.ofChange sortedStaysWrong)

/-- 'wherrylaw02.SortedRanges': WHATEVER THE INPUT: true; the input reads as it did. -/
def sortedRangesSpec : ChangeSpec := { name := "sortedRanges", fn := fun _ => fun
  | [d1, d2] => { results := [.lit (.bool true)], args := [d1, d2] }
  | _ => none }
def sortedRangesRow : OpenClaim := { program := "ytncgcjfpoableaa", sum := "c2ff4cc7682b0f1adcd730adc7d24315eb02651824d71e54713f5dcfa68cf8cb", func := "wherry/wherrylaw02.SortedRanges", spec := "sortedRanges", inPlace := ["internal/bytealg.abigen_runtime_cmpstring"], unfollowed := true, recurses := true, apart := false }
def SortedRangesSaid : Prop := sortedRangesRow.holds Try.pinned (OpenSpec.ofChange sortedRangesSpec)

/-- ITS FALSE NEIGHBOUR: 'it returns false'. Refute it at one input. -/
def sortedRangesWrong : ChangeSpec := { name := "sortedRanges", fn := fun _ => fun
  | [d1, d2] => { results := [.lit (.bool false)], args := [d1, d2] }
  | _ => none }
def SortedRangesWrongFalsely : Prop := sortedRangesRow.holds Try.pinned (OpenSpec.ofChange sortedRangesWrong)

/-- 'wherrylaw02.SortedForgets': WHATEVER THE INPUT: true; the input reads as it did. -/
def sortedForgetsSpec : ChangeSpec := { name := "sortedForgets", fn := fun _ => fun
  | [d1, d2, d3] => { results := [.lit (.bool true)], args := [d1, d2, d3] }
  | _ => none }
def sortedForgetsRow : OpenClaim := { program := "ytncgcjfpoableaa", sum := "c2ff4cc7682b0f1adcd730adc7d24315eb02651824d71e54713f5dcfa68cf8cb", func := "wherry/wherrylaw02.SortedForgets", spec := "sortedForgets", inPlace := ["internal/bytealg.abigen_runtime_cmpstring"], unfollowed := true, recurses := true, apart := false }
def SortedForgetsSaid : Prop := sortedForgetsRow.holds Try.pinned (OpenSpec.ofChange sortedForgetsSpec)

/-- ITS FALSE NEIGHBOUR: 'it returns false'. Refute it at one input. -/
def sortedForgetsWrong : ChangeSpec := { name := "sortedForgets", fn := fun _ => fun
  | [d1, d2, d3] => { results := [.lit (.bool false)], args := [d1, d2, d3] }
  | _ => none }
def SortedForgetsWrongFalsely : Prop := sortedForgetsRow.holds Try.pinned (OpenSpec.ofChange sortedForgetsWrong)

/-- 'wherrylaw02.SortedClones': WHATEVER THE INPUT: true; the input reads as it did. -/
def sortedClonesSpec : ChangeSpec := { name := "sortedClones", fn := fun _ => fun
  | [d1, d2] => { results := [.lit (.bool true)], args := [d1, d2] }
  | _ => none }
def sortedClonesRow : OpenClaim := { program := "ytncgcjfpoableaa", sum := "c2ff4cc7682b0f1adcd730adc7d24315eb02651824d71e54713f5dcfa68cf8cb", func := "wherry/wherrylaw02.SortedClones", spec := "sortedClones", inPlace := ["internal/bytealg.abigen_runtime_cmpstring"], unfollowed := true, recurses := true, apart := false }
def SortedClonesSaid : Prop := sortedClonesRow.holds Try.pinned (OpenSpec.ofChange sortedClonesSpec)

/-- ITS FALSE NEIGHBOUR: 'it returns false'. Refute it at one input. -/
def sortedClonesWrong : ChangeSpec := { name := "sortedClones", fn := fun _ => fun
  | [d1, d2] => { results := [.lit (.bool false)], args := [d1, d2] }
  | _ => none }
def SortedClonesWrongFalsely : Prop := sortedClonesRow.holds Try.pinned (OpenSpec.ofChange sortedClonesWrong)

/-- 'wherrylaw02.SortedNil': WHATEVER THE INPUT: true; the input reads as it did. -/
def sortedNilSpec : ChangeSpec := { name := "sortedNil", fn := fun _ => fun
  | [d] => { results := [.lit (.bool true)], args := [d] }
  | _ => none }
def sortedNilRow : OpenClaim := { program := "ytncgcjfpoableaa", sum := "c2ff4cc7682b0f1adcd730adc7d24315eb02651824d71e54713f5dcfa68cf8cb", func := "wherry/wherrylaw02.SortedNil", spec := "sortedNil", inPlace := ["internal/bytealg.abigen_runtime_cmpstring"], unfollowed := true, recurses := true, apart := false }
def SortedNilSaid : Prop := sortedNilRow.holds Try.pinned (OpenSpec.ofChange sortedNilSpec)

/-- ITS FALSE NEIGHBOUR: 'it returns false'. Refute it at one input. -/
def sortedNilWrong : ChangeSpec := { name := "sortedNil", fn := fun _ => fun
  | [d] => { results := [.lit (.bool false)], args := [d] }
  | _ => none }
def SortedNilWrongFalsely : Prop := sortedNilRow.holds Try.pinned (OpenSpec.ofChange sortedNilWrong)

/- THE SECOND FORM. 'bulk': how many values and letters a reading holds, each counted each time it is reached (what is shared counts as often as it is met; a slice's spare places count too). A statement '..UptoSaid' is the law's where the arguments, and the package variables that the reading takes, are together of bulk at most 1048576: NARROWER than '..Said'. Prove '..Said' where nothing that the law and all that it calls make is longer than what came in: it says more and counts as full. Else prove '..UptoSaid'. A law counts once. -/
mutual
def uptoBulk {H : Type} : DataW H → Nat
  | .lit (.string bytes) => bytes.length + 1
  | .lit _ => 1
  | .nil => 1
  | .ptr d => uptoBulk d + 1
  | .slice elems spare => uptoBulkAll elems + uptoBulkAll spare + 1
  | .agg parts => uptoBulkAll parts + 1
  | .iface _ d => uptoBulk d + 1
  | .map entries => uptoBulkEntries entries + 1
  | .held _ => 1
def uptoBulkAll {H : Type} : List (DataW H) → Nat
  | [] => 0
  | d :: r => uptoBulk d + uptoBulkAll r
def uptoBulkEntries {H : Type} : List (Lit × DataW H) → Nat
  | [] => 0
  | x :: r => uptoBulkEntry x + uptoBulkEntries r
def uptoBulkEntry {H : Type} : Lit × DataW H → Nat
  | (.string bytes, d) => bytes.length + uptoBulk d + 1
  | (_, d) => uptoBulk d + 1
 end
def uptoSmall : (H : Type) → List (DataW H) → Bool := fun _ ds => decide (uptoBulkAll ds ≤ 1048576)
def OpenSpec.upto (s : _root_.Go.ChangeSpec) : _root_.Go.OpenSpec := { _root_.Go.OpenSpec.ofChange s with cond := some uptoSmall }

/-- 'wherrylaw02.SortedTexts', WHERE WHAT IT READS IS OF BULK AT MOST 1048576: true; the input reads as it did. -/
def sortedTextsUptoRow : OpenClaim := { program := "ytncgcjfpoableaa", sum := "c2ff4cc7682b0f1adcd730adc7d24315eb02651824d71e54713f5dcfa68cf8cb", func := "wherry/wherrylaw02.SortedTexts", spec := "sortedTexts", inPlace := ["internal/bytealg.abigen_runtime_cmpstring"], unfollowed := true, recurses := true, apart := false, narrowed := true }
def SortedTextsUptoSaid : Prop := sortedTextsUptoRow.holds Try.pinned (OpenSpec.upto sortedTextsSpec)

/-- 'wherrylaw02.SortedPlays', WHERE WHAT IT READS IS OF BULK AT MOST 1048576: true; the input reads as it did. -/
def sortedPlaysUptoRow : OpenClaim := { program := "ytncgcjfpoableaa", sum := "c2ff4cc7682b0f1adcd730adc7d24315eb02651824d71e54713f5dcfa68cf8cb", func := "wherry/wherrylaw02.SortedPlays", spec := "sortedPlays", inPlace := ["internal/bytealg.abigen_runtime_cmpstring"], unfollowed := true, recurses := true, apart := false, narrowed := true }
def SortedPlaysUptoSaid : Prop := sortedPlaysUptoRow.holds Try.pinned (OpenSpec.upto sortedPlaysSpec)

/-- 'wherrylaw02.SortedStays', WHERE WHAT IT READS IS OF BULK AT MOST 1048576: true; the input reads as it did. -/
def sortedStaysUptoRow : OpenClaim := { program := "ytncgcjfpoableaa", sum := "c2ff4cc7682b0f1adcd730adc7d24315eb02651824d71e54713f5dcfa68cf8cb", func := "wherry/wherrylaw02.SortedStays", spec := "sortedStays", inPlace := ["internal/bytealg.abigen_runtime_cmpstring"], unfollowed := true, recurses := true, apart := false, narrowed := true }
def SortedStaysUptoSaid : Prop := sortedStaysUptoRow.holds Try.pinned (OpenSpec.upto sortedStaysSpec)

/-- 'wherrylaw02.SortedRanges', WHERE WHAT IT READS IS OF BULK AT MOST 1048576: true; the input reads as it did. -/
def sortedRangesUptoRow : OpenClaim := { program := "ytncgcjfpoableaa", sum := "c2ff4cc7682b0f1adcd730adc7d24315eb02651824d71e54713f5dcfa68cf8cb", func := "wherry/wherrylaw02.SortedRanges", spec := "sortedRanges", inPlace := ["internal/bytealg.abigen_runtime_cmpstring"], unfollowed := true, recurses := true, apart := false, narrowed := true }
def SortedRangesUptoSaid : Prop := sortedRangesUptoRow.holds Try.pinned (OpenSpec.upto sortedRangesSpec)

/-- 'wherrylaw02.SortedForgets', WHERE WHAT IT READS IS OF BULK AT MOST 1048576: true; the input reads as it did. -/
def sortedForgetsUptoRow : OpenClaim := { program := "ytncgcjfpoableaa", sum := "c2ff4cc7682b0f1adcd730adc7d24315eb02651824d71e54713f5dcfa68cf8cb", func := "wherry/wherrylaw02.SortedForgets", spec := "sortedForgets", inPlace := ["internal/bytealg.abigen_runtime_cmpstring"], unfollowed := true, recurses := true, apart := false, narrowed := true }
def SortedForgetsUptoSaid : Prop := sortedForgetsUptoRow.holds Try.pinned (OpenSpec.upto sortedForgetsSpec)

/-- 'wherrylaw02.SortedClones', WHERE WHAT IT READS IS OF BULK AT MOST 1048576: true; the input reads as it did. -/
def sortedClonesUptoRow : OpenClaim := { program := "ytncgcjfpoableaa", sum := "c2ff4cc7682b0f1adcd730adc7d24315eb02651824d71e54713f5dcfa68cf8cb", func := "wherry/wherrylaw02.SortedClones", spec := "sortedClones", inPlace := ["internal/bytealg.abigen_runtime_cmpstring"], unfollowed := true, recurses := true, apart := false, narrowed := true }
def SortedClonesUptoSaid : Prop := sortedClonesUptoRow.holds Try.pinned (OpenSpec.upto sortedClonesSpec)

/-- 'wherrylaw02.SortedNil', WHERE WHAT IT READS IS OF BULK AT MOST 1048576: true; the input reads as it did. -/
def sortedNilUptoRow : OpenClaim := { program := "ytncgcjfpoableaa", sum := "c2ff4cc7682b0f1adcd730adc7d24315eb02651824d71e54713f5dcfa68cf8cb", func := "wherry/wherrylaw02.SortedNil", spec := "sortedNil", inPlace := ["internal/bytealg.abigen_runtime_cmpstring"], unfollowed := true, recurses := true, apart := false, narrowed := true }
def SortedNilUptoSaid : Prop := sortedNilUptoRow.holds Try.pinned (OpenSpec.upto sortedNilSpec)

end Rows
end Go.Proofs.Ytncgcjfpoableaa
