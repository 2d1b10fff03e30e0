/-
  No cell of these rows narrows 'for every input' (looked for: loops, veiled, ifaces, maps, wideKeys, modest, calm, conditions, laid).
  DERIVED. THE GIVEN ROWS OF THIS SEAT. 6 by the template 'for every input the law returns true; each argument reads behind the call as it read before'; 0 by the template 'total and deterministic' (their statements: YtgpkmellpllmgaaGreatTotals.lean).
  GIVEN WITH THE SEED: the statements are not yours to turn. If you find one false, say at which input.
  Laid BY PROGRAM, IN A SANDBOX (cutbox-rows.mjs): the forced cells as the released guide's own fill.sh prints them over the translation 2c5beb9064dd3886… (all of the seat's roots in one cut). By AI agents, Wed Nov 11 2026. No macro, syntax, notation, axiom, sorry.
-/
import Derived.Test.YtgpkmellpllmgaaGreatChecked
import GoSem.Claim
import GoSem.ClaimJoined
import GoSem.ClaimMapViews
import Derived.JoinedTies
import Derived.KernelRfl
namespace Go.Proofs.YtgpkmellpllmgaaGreat
/- THE CELL 'sum', in the pinned program and in every row, IS THE sha256 OF THE DUMP (.gsa) THAT YtgpkmellpllmgaaGreatProg.lean LOADS. Nothing in Lean hashes anything: it is a label: what it is worth is what the hold of that sum in a sandbox is worth. -/
noncomputable def Tryz.pinned : Pinned := { name := "ytgpkmellpllmgaagreat", sum := "2c5beb9064dd3886c8f6208d9e29a279d9cc21fb6f294fa0210050dd5a607a01", checked := Tryz.checked }
namespace Rows
def none {H : Type} : Left H := { results := [], args := [] }

/-- 'wherrylaw13.FoldRises': WHATEVER THE INPUT: true; the input reads as it did. -/
def foldRisesSpec : ChangeSpec := { name := "foldRises", fn := fun _ => fun
  | [d] => { results := [.lit (.bool true)], args := [d] }
  | _ => none }
def foldRisesRow : OpenClaim := { program := "ytgpkmellpllmgaagreat", sum := "2c5beb9064dd3886c8f6208d9e29a279d9cc21fb6f294fa0210050dd5a607a01", func := "wherry/wherrylaw13.FoldRises", spec := "foldRises", inPlace := ["slices.overlaps[wherry/api.Deployed]", "internal/bytealg.abigen_runtime_cmpstring", "slices.overlaps[wherry/api.Instance]", "slices.overlaps[wherry/api.Token]", "slices.overlaps[wherry/api.Job]", "slices.overlaps[wherry/api.Timer]", "slices.overlaps[wherry/api.Sub]", "slices.overlaps[wherry/api.Kept]", "slices.overlaps[wherry/api.Listed]", "slices.overlaps[wherry/api.Message]"], unfollowed := true, recurses := true, apart := false }
def FoldRisesSaid : Prop := foldRisesRow.holds Tryz.pinned (OpenSpec.ofChange foldRisesSpec)

/-- ITS FALSE NEIGHBOUR: 'it returns false'. Refute it at one input. -/
def foldRisesWrong : ChangeSpec := { name := "foldRises", fn := fun _ => fun
  | [d] => { results := [.lit (.bool false)], args := [d] }
  | _ => none }
def FoldRisesWrongFalsely : Prop := foldRisesRow.holds Tryz.pinned (OpenSpec.ofChange foldRisesWrong)

/-- 'wherrylaw13.FoldOthers': WHATEVER THE INPUT: true; the input reads as it did. -/
def foldOthersSpec : ChangeSpec := { name := "foldOthers", fn := fun _ => fun
  | [d1, d2, d3] => { results := [.lit (.bool true)], args := [d1, d2, d3] }
  | _ => none }
def foldOthersRow : OpenClaim := { program := "ytgpkmellpllmgaagreat", sum := "2c5beb9064dd3886c8f6208d9e29a279d9cc21fb6f294fa0210050dd5a607a01", func := "wherry/wherrylaw13.FoldOthers", spec := "foldOthers", inPlace := ["slices.overlaps[wherry/api.Deployed]", "internal/bytealg.abigen_runtime_cmpstring", "slices.overlaps[wherry/api.Instance]", "slices.overlaps[wherry/api.Token]", "slices.overlaps[wherry/api.Job]", "slices.overlaps[wherry/api.Timer]", "slices.overlaps[wherry/api.Sub]", "slices.overlaps[wherry/api.Kept]", "slices.overlaps[wherry/api.Listed]", "slices.overlaps[wherry/api.Message]"], unfollowed := true, recurses := true, apart := false }
def FoldOthersSaid : Prop := foldOthersRow.holds Tryz.pinned (OpenSpec.ofChange foldOthersSpec)

/-- ITS FALSE NEIGHBOUR: 'it returns false'. Refute it at one input. -/
def foldOthersWrong : ChangeSpec := { name := "foldOthers", fn := fun _ => fun
  | [d1, d2, d3] => { results := [.lit (.bool false)], args := [d1, d2, d3] }
  | _ => none }
def FoldOthersWrongFalsely : Prop := foldOthersRow.holds Tryz.pinned (OpenSpec.ofChange foldOthersWrong)

/-- 'wherrylaw13.FoldMade': WHATEVER THE INPUT: true; the input reads as it did. -/
def foldMadeSpec : ChangeSpec := { name := "foldMade", fn := fun _ => fun
  | [d] => { results := [.lit (.bool true)], args := [d] }
  | _ => none }
def foldMadeRow : OpenClaim := { program := "ytgpkmellpllmgaagreat", sum := "2c5beb9064dd3886c8f6208d9e29a279d9cc21fb6f294fa0210050dd5a607a01", func := "wherry/wherrylaw13.FoldMade", spec := "foldMade", inPlace := ["slices.overlaps[wherry/api.Deployed]", "internal/bytealg.abigen_runtime_cmpstring", "slices.overlaps[wherry/api.Instance]", "slices.overlaps[wherry/api.Token]", "slices.overlaps[wherry/api.Job]", "slices.overlaps[wherry/api.Timer]", "slices.overlaps[wherry/api.Sub]", "slices.overlaps[wherry/api.Kept]", "slices.overlaps[wherry/api.Listed]", "slices.overlaps[wherry/api.Message]"], unfollowed := true, recurses := true, apart := false }
def FoldMadeSaid : Prop := foldMadeRow.holds Tryz.pinned (OpenSpec.ofChange foldMadeSpec)

/-- ITS FALSE NEIGHBOUR: 'it returns false'. Refute it at one input. -/
def foldMadeWrong : ChangeSpec := { name := "foldMade", fn := fun _ => fun
  | [d] => { results := [.lit (.bool false)], args := [d] }
  | _ => none }
def FoldMadeWrongFalsely : Prop := foldMadeRow.holds Tryz.pinned (OpenSpec.ofChange foldMadeWrong)

/-- 'wherrylaw13.FoldKeeps': WHATEVER THE INPUT: true; the input reads as it did. -/
def foldKeepsSpec : ChangeSpec := { name := "foldKeeps", fn := fun _ => fun
  | [d1, d2] => { results := [.lit (.bool true)], args := [d1, d2] }
  | _ => none }
def foldKeepsRow : OpenClaim := { program := "ytgpkmellpllmgaagreat", sum := "2c5beb9064dd3886c8f6208d9e29a279d9cc21fb6f294fa0210050dd5a607a01", func := "wherry/wherrylaw13.FoldKeeps", spec := "foldKeeps", inPlace := ["slices.overlaps[wherry/api.Deployed]", "internal/bytealg.abigen_runtime_cmpstring", "slices.overlaps[wherry/api.Instance]", "slices.overlaps[wherry/api.Token]", "slices.overlaps[wherry/api.Job]", "slices.overlaps[wherry/api.Timer]", "slices.overlaps[wherry/api.Sub]", "slices.overlaps[wherry/api.Kept]", "slices.overlaps[wherry/api.Listed]", "slices.overlaps[wherry/api.Message]"], unfollowed := true, recurses := true, apart := false }
def FoldKeepsSaid : Prop := foldKeepsRow.holds Tryz.pinned (OpenSpec.ofChange foldKeepsSpec)

/-- ITS FALSE NEIGHBOUR: 'it returns false'. Refute it at one input. -/
def foldKeepsWrong : ChangeSpec := { name := "foldKeeps", fn := fun _ => fun
  | [d1, d2] => { results := [.lit (.bool false)], args := [d1, d2] }
  | _ => none }
def FoldKeepsWrongFalsely : Prop := foldKeepsRow.holds Tryz.pinned (OpenSpec.ofChange foldKeepsWrong)

/-- 'wherrylaw13.FoldSplits': WHATEVER THE INPUT: true; the input reads as it did. -/
def foldSplitsSpec : ChangeSpec := { name := "foldSplits", fn := fun _ => fun
  | [d1, d2, d3] => { results := [.lit (.bool true)], args := [d1, d2, d3] }
  | _ => none }
def foldSplitsRow : OpenClaim := { program := "ytgpkmellpllmgaagreat", sum := "2c5beb9064dd3886c8f6208d9e29a279d9cc21fb6f294fa0210050dd5a607a01", func := "wherry/wherrylaw13.FoldSplits", spec := "foldSplits", inPlace := ["slices.overlaps[wherry/api.Deployed]", "internal/bytealg.abigen_runtime_cmpstring", "slices.overlaps[wherry/api.Instance]", "slices.overlaps[wherry/api.Token]", "slices.overlaps[wherry/api.Job]", "slices.overlaps[wherry/api.Timer]", "slices.overlaps[wherry/api.Sub]", "slices.overlaps[wherry/api.Kept]", "slices.overlaps[wherry/api.Listed]", "slices.overlaps[wherry/api.Message]"], unfollowed := true, recurses := true, apart := false }
def FoldSplitsSaid : Prop := foldSplitsRow.holds Tryz.pinned (OpenSpec.ofChange foldSplitsSpec)

/-- ITS FALSE NEIGHBOUR: 'it returns false'. Refute it at one input. -/
def foldSplitsWrong : ChangeSpec := { name := "foldSplits", fn := fun _ => fun
  | [d1, d2, d3] => { results := [.lit (.bool false)], args := [d1, d2, d3] }
  | _ => none }
def FoldSplitsWrongFalsely : Prop := foldSplitsRow.holds Tryz.pinned (OpenSpec.ofChange foldSplitsWrong)

/-- 'wherrylaw13.FoldAsks': WHATEVER THE INPUT: true; the input reads as it did. -/
def foldAsksSpec : ChangeSpec := { name := "foldAsks", fn := fun _ => fun
  | [d1, d2, d3] => { results := [.lit (.bool true)], args := [d1, d2, d3] }
  | _ => none }
def foldAsksRow : OpenClaim := { program := "ytgpkmellpllmgaagreat", sum := "2c5beb9064dd3886c8f6208d9e29a279d9cc21fb6f294fa0210050dd5a607a01", func := "wherry/wherrylaw13.FoldAsks", spec := "foldAsks", inPlace := ["slices.overlaps[wherry/api.Deployed]", "internal/bytealg.abigen_runtime_cmpstring", "slices.overlaps[wherry/api.Instance]", "slices.overlaps[wherry/api.Token]", "slices.overlaps[wherry/api.Job]", "slices.overlaps[wherry/api.Timer]", "slices.overlaps[wherry/api.Sub]", "slices.overlaps[wherry/api.Kept]", "slices.overlaps[wherry/api.Listed]", "slices.overlaps[wherry/api.Message]"], unfollowed := true, recurses := true, apart := false }
def FoldAsksSaid : Prop := foldAsksRow.holds Tryz.pinned (OpenSpec.ofChange foldAsksSpec)

/-- ITS FALSE NEIGHBOUR: 'it returns false'. Refute it at one input. -/
def foldAsksWrong : ChangeSpec := { name := "foldAsks", fn := fun _ => fun
  | [d1, d2, d3] => { results := [.lit (.bool false)], args := [d1, d2, d3] }
  | _ => none }
def FoldAsksWrongFalsely : Prop := foldAsksRow.holds Tryz.pinned (OpenSpec.ofChange foldAsksWrong)

/- THE SECOND FORM. 'bulk': how many values and letters a reading holds, each counted each time it is reached (what is shared counts as often as it is met; a slice's spare places count too). A statement '..UptoSaid' is the law's where the arguments, and the package variables that the reading takes, are together of bulk at most 1048576: NARROWER than '..Said'. Prove '..Said' where nothing that the law and all that it calls make is longer than what came in: it says more and counts as full. Else prove '..UptoSaid'. A law counts once. -/
mutual
def uptoBulk {H : Type} : DataW H → Nat
  | .lit (.string bytes) => bytes.length + 1
  | .lit _ => 1
  | .nil => 1
  | .ptr d => uptoBulk d + 1
  | .slice elems spare => uptoBulkAll elems + uptoBulkAll spare + 1
  | .agg parts => uptoBulkAll parts + 1
  | .iface _ d => uptoBulk d + 1
  | .map entries => uptoBulkEntries entries + 1
  | .held _ => 1
def uptoBulkAll {H : Type} : List (DataW H) → Nat
  | [] => 0
  | d :: r => uptoBulk d + uptoBulkAll r
def uptoBulkEntries {H : Type} : List (Lit × DataW H) → Nat
  | [] => 0
  | x :: r => uptoBulkEntry x + uptoBulkEntries r
def uptoBulkEntry {H : Type} : Lit × DataW H → Nat
  | (.string bytes, d) => bytes.length + uptoBulk d + 1
  | (_, d) => uptoBulk d + 1
 end
def uptoSmall : (H : Type) → List (DataW H) → Bool := fun _ ds => decide (uptoBulkAll ds ≤ 1048576)
def OpenSpec.upto (s : _root_.Go.ChangeSpec) : _root_.Go.OpenSpec := { _root_.Go.OpenSpec.ofChange s with cond := some uptoSmall }

/-- 'wherrylaw13.FoldRises', WHERE WHAT IT READS IS OF BULK AT MOST 1048576: true; the input reads as it did. -/
def foldRisesUptoRow : OpenClaim := { program := "ytgpkmellpllmgaagreat", sum := "2c5beb9064dd3886c8f6208d9e29a279d9cc21fb6f294fa0210050dd5a607a01", func := "wherry/wherrylaw13.FoldRises", spec := "foldRises", inPlace := ["slices.overlaps[wherry/api.Deployed]", "internal/bytealg.abigen_runtime_cmpstring", "slices.overlaps[wherry/api.Instance]", "slices.overlaps[wherry/api.Token]", "slices.overlaps[wherry/api.Job]", "slices.overlaps[wherry/api.Timer]", "slices.overlaps[wherry/api.Sub]", "slices.overlaps[wherry/api.Kept]", "slices.overlaps[wherry/api.Listed]", "slices.overlaps[wherry/api.Message]"], unfollowed := true, recurses := true, apart := false, narrowed := true }
def FoldRisesUptoSaid : Prop := foldRisesUptoRow.holds Tryz.pinned (OpenSpec.upto foldRisesSpec)

/-- 'wherrylaw13.FoldOthers', WHERE WHAT IT READS IS OF BULK AT MOST 1048576: true; the input reads as it did. -/
def foldOthersUptoRow : OpenClaim := { program := "ytgpkmellpllmgaagreat", sum := "2c5beb9064dd3886c8f6208d9e29a279d9cc21fb6f294fa0210050dd5a607a01", func := "wherry/wherrylaw13.FoldOthers", spec := "foldOthers", inPlace := ["slices.overlaps[wherry/api.Deployed]", "internal/bytealg.abigen_runtime_cmpstring", "slices.overlaps[wherry/api.Instance]", "slices.overlaps[wherry/api.Token]", "slices.overlaps[wherry/api.Job]", "slices.overlaps[wherry/api.Timer]", "slices.overlaps[wherry/api.Sub]", "slices.overlaps[wherry/api.Kept]", "slices.overlaps[wherry/api.Listed]", "slices.overlaps[wherry/api.Message]"], unfollowed := true, recurses := true, apart := false, narrowed := true }
def FoldOthersUptoSaid : Prop := foldOthersUptoRow.holds Tryz.pinned (OpenSpec.upto foldOthersSpec)

/-- 'wherrylaw13.FoldMade', WHERE WHAT IT READS IS OF BULK AT MOST 1048576: true; the input reads as it did. -/
def foldMadeUptoRow : OpenClaim := { program := "ytgpkmellpllmgaagreat", sum := "2c5beb9064dd3886c8f6208d9e29a279d9cc21fb6f294fa0210050dd5a607a01", func := "wherry/wherrylaw13.FoldMade", spec := "foldMade", inPlace := ["slices.overlaps[wherry/api.Deployed]", "internal/bytealg.abigen_runtime_cmpstring", "slices.overlaps[wherry/api.Instance]", "slices.overlaps[wherry/api.Token]", "slices.overlaps[wherry/api.Job]", "slices.overlaps[wherry/api.Timer]", "slices.overlaps[wherry/api.Sub]", "slices.overlaps[wherry/api.Kept]", "slices.overlaps[wherry/api.Listed]", "slices.overlaps[wherry/api.Message]"], unfollowed := true, recurses := true, apart := false, narrowed := true }
def FoldMadeUptoSaid : Prop := foldMadeUptoRow.holds Tryz.pinned (OpenSpec.upto foldMadeSpec)

/-- 'wherrylaw13.FoldKeeps', WHERE WHAT IT READS IS OF BULK AT MOST 1048576: true; the input reads as it did. -/
def foldKeepsUptoRow : OpenClaim := { program := "ytgpkmellpllmgaagreat", sum := "2c5beb9064dd3886c8f6208d9e29a279d9cc21fb6f294fa0210050dd5a607a01", func := "wherry/wherrylaw13.FoldKeeps", spec := "foldKeeps", inPlace := ["slices.overlaps[wherry/api.Deployed]", "internal/bytealg.abigen_runtime_cmpstring", "slices.overlaps[wherry/api.Instance]", "slices.overlaps[wherry/api.Token]", "slices.overlaps[wherry/api.Job]", "slices.overlaps[wherry/api.Timer]", "slices.overlaps[wherry/api.Sub]", "slices.overlaps[wherry/api.Kept]", "slices.overlaps[wherry/api.Listed]", "slices.overlaps[wherry/api.Message]"], unfollowed := true, recurses := true, apart := false, narrowed := true }
def FoldKeepsUptoSaid : Prop := foldKeepsUptoRow.holds Tryz.pinned (OpenSpec.upto foldKeepsSpec)

/-- 'wherrylaw13.FoldSplits', WHERE WHAT IT READS IS OF BULK AT MOST 1048576: true; the input reads as it did. -/
def foldSplitsUptoRow : OpenClaim := { program := "ytgpkmellpllmgaagreat", sum := "2c5beb9064dd3886c8f6208d9e29a279d9cc21fb6f294fa0210050dd5a607a01", func := "wherry/wherrylaw13.FoldSplits", spec := "foldSplits", inPlace := ["slices.overlaps[wherry/api.Deployed]", "internal/bytealg.abigen_runtime_cmpstring", "slices.overlaps[wherry/api.Instance]", "slices.overlaps[wherry/api.Token]", "slices.overlaps[wherry/api.Job]", "slices.overlaps[wherry/api.Timer]", "slices.overlaps[wherry/api.Sub]", "slices.overlaps[wherry/api.Kept]", "slices.overlaps[wherry/api.Listed]", "slices.overlaps[wherry/api.Message]"], unfollowed := true, recurses := true, apart := false, narrowed := true }
def FoldSplitsUptoSaid : Prop := foldSplitsUptoRow.holds Tryz.pinned (OpenSpec.upto foldSplitsSpec)

/-- 'wherrylaw13.FoldAsks', WHERE WHAT IT READS IS OF BULK AT MOST 1048576: true; the input reads as it did. -/
def foldAsksUptoRow : OpenClaim := { program := "ytgpkmellpllmgaagreat", sum := "2c5beb9064dd3886c8f6208d9e29a279d9cc21fb6f294fa0210050dd5a607a01", func := "wherry/wherrylaw13.FoldAsks", spec := "foldAsks", inPlace := ["slices.overlaps[wherry/api.Deployed]", "internal/bytealg.abigen_runtime_cmpstring", "slices.overlaps[wherry/api.Instance]", "slices.overlaps[wherry/api.Token]", "slices.overlaps[wherry/api.Job]", "slices.overlaps[wherry/api.Timer]", "slices.overlaps[wherry/api.Sub]", "slices.overlaps[wherry/api.Kept]", "slices.overlaps[wherry/api.Listed]", "slices.overlaps[wherry/api.Message]"], unfollowed := true, recurses := true, apart := false, narrowed := true }
def FoldAsksUptoSaid : Prop := foldAsksUptoRow.holds Tryz.pinned (OpenSpec.upto foldAsksSpec)

end Rows
end Go.Proofs.YtgpkmellpllmgaaGreat
