/-
  No cell of these rows narrows 'for every input' (looked for: loops, veiled, ifaces, maps, wideKeys, modest, calm, conditions, laid).
  DERIVED. THE GIVEN ROWS OF THIS SEAT. 6 by the template 'for every input the law returns true; each argument reads behind the call as it read before'; 0 by the template 'total and deterministic' (their statements: YtfjdllpacdobdaaGreatTotals.lean).
  GIVEN WITH THE SEED: the statements are not yours to turn. If you find one false, say at which input.
  Laid BY PROGRAM, IN A SANDBOX (cutbox-rows.mjs): the forced cells as the released guide's own fill.sh prints them over the translation 500a5ff9b5b18080… (all of the seat's roots in one cut). By AI agents, Wed Nov 11 2026. No macro, syntax, notation, axiom, sorry.
-/
import Derived.Test.YtfjdllpacdobdaaGreatChecked
import GoSem.Claim
import GoSem.ClaimJoined
import GoSem.ClaimMapViews
import Derived.JoinedTies
import Derived.KernelRfl
namespace Go.Proofs.YtfjdllpacdobdaaGreat
/- THE CELL 'sum', in the pinned program and in every row, IS THE sha256 OF THE DUMP (.gsa) THAT YtfjdllpacdobdaaGreatProg.lean LOADS. Nothing in Lean hashes anything: it is a label: what it is worth is what the hold of that sum in a sandbox is worth. -/
noncomputable def Tryz.pinned : Pinned := { name := "ytfjdllpacdobdaagreat", sum := "500a5ff9b5b1808072aab184f696cac09abd983af9b6268b6ba1e430c781cfcd", checked := Tryz.checked }
namespace Rows
def none {H : Type} : Left H := { results := [], args := [] }

/-- 'wherrylaw16.BookOne': WHATEVER THE INPUT: true; the input reads as it did. -/
def bookOneSpec : ChangeSpec := { name := "bookOne", fn := fun _ => fun
  | [d1, d2] => { results := [.lit (.bool true)], args := [d1, d2] }
  | _ => none }
def bookOneRow : OpenClaim := { program := "ytfjdllpacdobdaagreat", sum := "500a5ff9b5b1808072aab184f696cac09abd983af9b6268b6ba1e430c781cfcd", func := "wherry/wherrylaw16.BookOne", spec := "bookOne", inPlace := ["slices.overlaps[wherry/api.Deployed]", "internal/bytealg.abigen_runtime_cmpstring", "slices.overlaps[wherry/api.Instance]", "slices.overlaps[wherry/api.Token]", "slices.overlaps[wherry/api.Job]", "slices.overlaps[wherry/api.Timer]", "slices.overlaps[wherry/api.Sub]", "slices.overlaps[wherry/api.Kept]", "slices.overlaps[wherry/api.Listed]", "slices.overlaps[wherry/api.Message]"], unfollowed := true, recurses := true, apart := false }
def BookOneSaid : Prop := bookOneRow.holds Tryz.pinned (OpenSpec.ofChange bookOneSpec)

/-- ITS FALSE NEIGHBOUR: 'it returns false'. Refute it at one input. -/
def bookOneWrong : ChangeSpec := { name := "bookOne", fn := fun _ => fun
  | [d1, d2] => { results := [.lit (.bool false)], args := [d1, d2] }
  | _ => none }
def BookOneWrongFalsely : Prop := bookOneRow.holds Tryz.pinned (OpenSpec.ofChange bookOneWrong)

/-- 'wherrylaw16.BookMost': WHATEVER THE INPUT: true; the input reads as it did. -/
def bookMostSpec : ChangeSpec := { name := "bookMost", fn := fun _ => fun
  | [d1, d2, d3] => { results := [.lit (.bool true)], args := [d1, d2, d3] }
  | _ => none }
def bookMostRow : OpenClaim := { program := "ytfjdllpacdobdaagreat", sum := "500a5ff9b5b1808072aab184f696cac09abd983af9b6268b6ba1e430c781cfcd", func := "wherry/wherrylaw16.BookMost", spec := "bookMost", inPlace := ["slices.overlaps[wherry/api.Deployed]", "internal/bytealg.abigen_runtime_cmpstring", "slices.overlaps[wherry/api.Instance]", "slices.overlaps[wherry/api.Token]", "slices.overlaps[wherry/api.Job]", "slices.overlaps[wherry/api.Timer]", "slices.overlaps[wherry/api.Sub]", "slices.overlaps[wherry/api.Kept]", "slices.overlaps[wherry/api.Listed]", "slices.overlaps[wherry/api.Message]"], unfollowed := true, recurses := true, apart := false }
def BookMostSaid : Prop := bookMostRow.holds Tryz.pinned (OpenSpec.ofChange bookMostSpec)

/-- ITS FALSE NEIGHBOUR: 'it returns false'. Refute it at one input. -/
def bookMostWrong : ChangeSpec := { name := "bookMost", fn := fun _ => fun
  | [d1, d2, d3] => { results := [.lit (.bool false)], args := [d1, d2, d3] }
  | _ => none }
def BookMostWrongFalsely : Prop := bookMostRow.holds Tryz.pinned (OpenSpec.ofChange bookMostWrong)

/-- 'wherrylaw16.BookNil': WHATEVER THE INPUT: true; the input reads as it did. -/
def bookNilSpec : ChangeSpec := { name := "bookNil", fn := fun _ => fun
  | [d] => { results := [.lit (.bool true)], args := [d] }
  | _ => none }
def bookNilRow : OpenClaim := { program := "ytfjdllpacdobdaagreat", sum := "500a5ff9b5b1808072aab184f696cac09abd983af9b6268b6ba1e430c781cfcd", func := "wherry/wherrylaw16.BookNil", spec := "bookNil", inPlace := ["slices.overlaps[wherry/api.Deployed]", "internal/bytealg.abigen_runtime_cmpstring", "slices.overlaps[wherry/api.Instance]", "slices.overlaps[wherry/api.Token]", "slices.overlaps[wherry/api.Job]", "slices.overlaps[wherry/api.Timer]", "slices.overlaps[wherry/api.Sub]", "slices.overlaps[wherry/api.Kept]", "slices.overlaps[wherry/api.Listed]", "slices.overlaps[wherry/api.Message]"], unfollowed := true, recurses := true, apart := false }
def BookNilSaid : Prop := bookNilRow.holds Tryz.pinned (OpenSpec.ofChange bookNilSpec)

/-- ITS FALSE NEIGHBOUR: 'it returns false'. Refute it at one input. -/
def bookNilWrong : ChangeSpec := { name := "bookNil", fn := fun _ => fun
  | [d] => { results := [.lit (.bool false)], args := [d] }
  | _ => none }
def BookNilWrongFalsely : Prop := bookNilRow.holds Tryz.pinned (OpenSpec.ofChange bookNilWrong)

/-- 'wherrylaw16.BookTurns': WHATEVER THE INPUT: true; the input reads as it did. -/
def bookTurnsSpec : ChangeSpec := { name := "bookTurns", fn := fun _ => fun
  | [d1, d2, d3] => { results := [.lit (.bool true)], args := [d1, d2, d3] }
  | _ => none }
def bookTurnsRow : OpenClaim := { program := "ytfjdllpacdobdaagreat", sum := "500a5ff9b5b1808072aab184f696cac09abd983af9b6268b6ba1e430c781cfcd", func := "wherry/wherrylaw16.BookTurns", spec := "bookTurns", inPlace := ["slices.overlaps[wherry/api.Deployed]", "internal/bytealg.abigen_runtime_cmpstring", "slices.overlaps[wherry/api.Instance]", "slices.overlaps[wherry/api.Token]", "slices.overlaps[wherry/api.Job]", "slices.overlaps[wherry/api.Timer]", "slices.overlaps[wherry/api.Sub]", "slices.overlaps[wherry/api.Kept]", "slices.overlaps[wherry/api.Listed]", "slices.overlaps[wherry/api.Message]"], unfollowed := true, recurses := true, apart := false }
def BookTurnsSaid : Prop := bookTurnsRow.holds Tryz.pinned (OpenSpec.ofChange bookTurnsSpec)

/-- ITS FALSE NEIGHBOUR: 'it returns false'. Refute it at one input. -/
def bookTurnsWrong : ChangeSpec := { name := "bookTurns", fn := fun _ => fun
  | [d1, d2, d3] => { results := [.lit (.bool false)], args := [d1, d2, d3] }
  | _ => none }
def BookTurnsWrongFalsely : Prop := bookTurnsRow.holds Tryz.pinned (OpenSpec.ofChange bookTurnsWrong)

/-- 'wherrylaw16.BookDue': WHATEVER THE INPUT: true; the input reads as it did. -/
def bookDueSpec : ChangeSpec := { name := "bookDue", fn := fun _ => fun
  | [d] => { results := [.lit (.bool true)], args := [d] }
  | _ => none }
def bookDueRow : OpenClaim := { program := "ytfjdllpacdobdaagreat", sum := "500a5ff9b5b1808072aab184f696cac09abd983af9b6268b6ba1e430c781cfcd", func := "wherry/wherrylaw16.BookDue", spec := "bookDue", inPlace := ["slices.overlaps[wherry/api.Deployed]", "internal/bytealg.abigen_runtime_cmpstring", "slices.overlaps[wherry/api.Instance]", "slices.overlaps[wherry/api.Token]", "slices.overlaps[wherry/api.Job]", "slices.overlaps[wherry/api.Timer]", "slices.overlaps[wherry/api.Sub]", "slices.overlaps[wherry/api.Kept]", "slices.overlaps[wherry/api.Listed]", "slices.overlaps[wherry/api.Message]"], unfollowed := true, recurses := true, apart := false }
def BookDueSaid : Prop := bookDueRow.holds Tryz.pinned (OpenSpec.ofChange bookDueSpec)

/-- ITS FALSE NEIGHBOUR: 'it returns false'. Refute it at one input. -/
def bookDueWrong : ChangeSpec := { name := "bookDue", fn := fun _ => fun
  | [d] => { results := [.lit (.bool false)], args := [d] }
  | _ => none }
def BookDueWrongFalsely : Prop := bookDueRow.holds Tryz.pinned (OpenSpec.ofChange bookDueWrong)

/-- 'wherrylaw16.BookDone': WHATEVER THE INPUT: true; the input reads as it did. -/
def bookDoneSpec : ChangeSpec := { name := "bookDone", fn := fun _ => fun
  | [d1, d2, d3] => { results := [.lit (.bool true)], args := [d1, d2, d3] }
  | _ => none }
def bookDoneRow : OpenClaim := { program := "ytfjdllpacdobdaagreat", sum := "500a5ff9b5b1808072aab184f696cac09abd983af9b6268b6ba1e430c781cfcd", func := "wherry/wherrylaw16.BookDone", spec := "bookDone", inPlace := ["slices.overlaps[wherry/api.Deployed]", "internal/bytealg.abigen_runtime_cmpstring", "slices.overlaps[wherry/api.Instance]", "slices.overlaps[wherry/api.Token]", "slices.overlaps[wherry/api.Job]", "slices.overlaps[wherry/api.Timer]", "slices.overlaps[wherry/api.Sub]", "slices.overlaps[wherry/api.Kept]", "slices.overlaps[wherry/api.Listed]", "slices.overlaps[wherry/api.Message]"], unfollowed := true, recurses := true, apart := false }
def BookDoneSaid : Prop := bookDoneRow.holds Tryz.pinned (OpenSpec.ofChange bookDoneSpec)

/-- ITS FALSE NEIGHBOUR: 'it returns false'. Refute it at one input. -/
def bookDoneWrong : ChangeSpec := { name := "bookDone", fn := fun _ => fun
  | [d1, d2, d3] => { results := [.lit (.bool false)], args := [d1, d2, d3] }
  | _ => none }
def BookDoneWrongFalsely : Prop := bookDoneRow.holds Tryz.pinned (OpenSpec.ofChange bookDoneWrong)

/- THE SECOND FORM. 'bulk': how many values and letters a reading holds, each counted each time it is reached (what is shared counts as often as it is met; a slice's spare places count too). A statement '..UptoSaid' is the law's where the arguments, and the package variables that the reading takes, are together of bulk at most 1048576: NARROWER than '..Said'. Prove '..Said' where nothing that the law and all that it calls make is longer than what came in: it says more and counts as full. Else prove '..UptoSaid'. A law counts once. -/
mutual
def uptoBulk {H : Type} : DataW H → Nat
  | .lit (.string bytes) => bytes.length + 1
  | .lit _ => 1
  | .nil => 1
  | .ptr d => uptoBulk d + 1
  | .slice elems spare => uptoBulkAll elems + uptoBulkAll spare + 1
  | .agg parts => uptoBulkAll parts + 1
  | .iface _ d => uptoBulk d + 1
  | .map entries => uptoBulkEntries entries + 1
  | .held _ => 1
def uptoBulkAll {H : Type} : List (DataW H) → Nat
  | [] => 0
  | d :: r => uptoBulk d + uptoBulkAll r
def uptoBulkEntries {H : Type} : List (Lit × DataW H) → Nat
  | [] => 0
  | x :: r => uptoBulkEntry x + uptoBulkEntries r
def uptoBulkEntry {H : Type} : Lit × DataW H → Nat
  | (.string bytes, d) => bytes.length + uptoBulk d + 1
  | (_, d) => uptoBulk d + 1
 end
def uptoSmall : (H : Type) → List (DataW H) → Bool := fun _ ds => decide (uptoBulkAll ds ≤ 1048576)
def OpenSpec.upto (s : _root_.Go.ChangeSpec) : _root_.Go.OpenSpec := { _root_.Go.OpenSpec.ofChange s with cond := some uptoSmall }

/-- 'wherrylaw16.BookOne', WHERE WHAT IT READS IS OF BULK AT MOST 1048576: true; the input reads as it did. -/
def bookOneUptoRow : OpenClaim := { program := "ytfjdllpacdobdaagreat", sum := "500a5ff9b5b1808072aab184f696cac09abd983af9b6268b6ba1e430c781cfcd", func := "wherry/wherrylaw16.BookOne", spec := "bookOne", inPlace := ["slices.overlaps[wherry/api.Deployed]", "internal/bytealg.abigen_runtime_cmpstring", "slices.overlaps[wherry/api.Instance]", "slices.overlaps[wherry/api.Token]", "slices.overlaps[wherry/api.Job]", "slices.overlaps[wherry/api.Timer]", "slices.overlaps[wherry/api.Sub]", "slices.overlaps[wherry/api.Kept]", "slices.overlaps[wherry/api.Listed]", "slices.overlaps[wherry/api.Message]"], unfollowed := true, recurses := true, apart := false, narrowed := true }
def BookOneUptoSaid : Prop := bookOneUptoRow.holds Tryz.pinned (OpenSpec.upto bookOneSpec)

/-- 'wherrylaw16.BookMost', WHERE WHAT IT READS IS OF BULK AT MOST 1048576: true; the input reads as it did. -/
def bookMostUptoRow : OpenClaim := { program := "ytfjdllpacdobdaagreat", sum := "500a5ff9b5b1808072aab184f696cac09abd983af9b6268b6ba1e430c781cfcd", func := "wherry/wherrylaw16.BookMost", spec := "bookMost", inPlace := ["slices.overlaps[wherry/api.Deployed]", "internal/bytealg.abigen_runtime_cmpstring", "slices.overlaps[wherry/api.Instance]", "slices.overlaps[wherry/api.Token]", "slices.overlaps[wherry/api.Job]", "slices.overlaps[wherry/api.Timer]", "slices.overlaps[wherry/api.Sub]", "slices.overlaps[wherry/api.Kept]", "slices.overlaps[wherry/api.Listed]", "slices.overlaps[wherry/api.Message]"], unfollowed := true, recurses := true, apart := false, narrowed := true }
def BookMostUptoSaid : Prop := bookMostUptoRow.holds Tryz.pinned (OpenSpec.upto bookMostSpec)

/-- 'wherrylaw16.BookNil', WHERE WHAT IT READS IS OF BULK AT MOST 1048576: true; the input reads as it did. -/
def bookNilUptoRow : OpenClaim := { program := "ytfjdllpacdobdaagreat", sum := "500a5ff9b5b1808072aab184f696cac09abd983af9b6268b6ba1e430c781cfcd", func := "wherry/wherrylaw16.BookNil", spec := "bookNil", inPlace := ["slices.overlaps[wherry/api.Deployed]", "internal/bytealg.abigen_runtime_cmpstring", "slices.overlaps[wherry/api.Instance]", "slices.overlaps[wherry/api.Token]", "slices.overlaps[wherry/api.Job]", "slices.overlaps[wherry/api.Timer]", "slices.overlaps[wherry/api.Sub]", "slices.overlaps[wherry/api.Kept]", "slices.overlaps[wherry/api.Listed]", "slices.overlaps[wherry/api.Message]"], unfollowed := true, recurses := true, apart := false, narrowed := true }
def BookNilUptoSaid : Prop := bookNilUptoRow.holds Tryz.pinned (OpenSpec.upto bookNilSpec)

/-- 'wherrylaw16.BookTurns', WHERE WHAT IT READS IS OF BULK AT MOST 1048576: true; the input reads as it did. -/
def bookTurnsUptoRow : OpenClaim := { program := "ytfjdllpacdobdaagreat", sum := "500a5ff9b5b1808072aab184f696cac09abd983af9b6268b6ba1e430c781cfcd", func := "wherry/wherrylaw16.BookTurns", spec := "bookTurns", inPlace := ["slices.overlaps[wherry/api.Deployed]", "internal/bytealg.abigen_runtime_cmpstring", "slices.overlaps[wherry/api.Instance]", "slices.overlaps[wherry/api.Token]", "slices.overlaps[wherry/api.Job]", "slices.overlaps[wherry/api.Timer]", "slices.overlaps[wherry/api.Sub]", "slices.overlaps[wherry/api.Kept]", "slices.overlaps[wherry/api.Listed]", "slices.overlaps[wherry/api.Message]"], unfollowed := true, recurses := true, apart := false, narrowed := true }
def BookTurnsUptoSaid : Prop := bookTurnsUptoRow.holds Tryz.pinned (OpenSpec.upto bookTurnsSpec)

/-- 'wherrylaw16.BookDue', WHERE WHAT IT READS IS OF BULK AT MOST 1048576: true; the input reads as it did. -/
def bookDueUptoRow : OpenClaim := { program := "ytfjdllpacdobdaagreat", sum := "500a5ff9b5b1808072aab184f696cac09abd983af9b6268b6ba1e430c781cfcd", func := "wherry/wherrylaw16.BookDue", spec := "bookDue", inPlace := ["slices.overlaps[wherry/api.Deployed]", "internal/bytealg.abigen_runtime_cmpstring", "slices.overlaps[wherry/api.Instance]", "slices.overlaps[wherry/api.Token]", "slices.overlaps[wherry/api.Job]", "slices.overlaps[wherry/api.Timer]", "slices.overlaps[wherry/api.Sub]", "slices.overlaps[wherry/api.Kept]", "slices.overlaps[wherry/api.Listed]", "slices.overlaps[wherry/api.Message]"], unfollowed := true, recurses := true, apart := false, narrowed := true }
def BookDueUptoSaid : Prop := bookDueUptoRow.holds Tryz.pinned (OpenSpec.upto bookDueSpec)

/-- 'wherrylaw16.BookDone', WHERE WHAT IT READS IS OF BULK AT MOST 1048576: true; the input reads as it did. -/
def bookDoneUptoRow : OpenClaim := { program := "ytfjdllpacdobdaagreat", sum := "500a5ff9b5b1808072aab184f696cac09abd983af9b6268b6ba1e430c781cfcd", func := "wherry/wherrylaw16.BookDone", spec := "bookDone", inPlace := ["slices.overlaps[wherry/api.Deployed]", "internal/bytealg.abigen_runtime_cmpstring", "slices.overlaps[wherry/api.Instance]", "slices.overlaps[wherry/api.Token]", "slices.overlaps[wherry/api.Job]", "slices.overlaps[wherry/api.Timer]", "slices.overlaps[wherry/api.Sub]", "slices.overlaps[wherry/api.Kept]", "slices.overlaps[wherry/api.Listed]", "slices.overlaps[wherry/api.Message]"], unfollowed := true, recurses := true, apart := false, narrowed := true }
def BookDoneUptoSaid : Prop := bookDoneUptoRow.holds Tryz.pinned (OpenSpec.upto bookDoneSpec)

end Rows
end Go.Proofs.YtfjdllpacdobdaaGreat
