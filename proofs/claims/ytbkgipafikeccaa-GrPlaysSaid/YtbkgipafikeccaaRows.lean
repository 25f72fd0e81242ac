/-
  No cell of these rows narrows 'for every input' (looked for: loops, veiled, ifaces, maps, wideKeys, modest, calm, conditions, laid).
  DERIVED. THE GIVEN ROWS OF THIS SEAT. 4 by the template 'for every input the law returns true; each argument reads behind the call as it read before'; 0 by the template 'total and deterministic' (their statements: YtbkgipafikeccaaTotals.lean).
  GIVEN WITH THE SEED: the statements are not yours to turn. If you find one false, say at which input.
  Laid BY PROGRAM, IN A SANDBOX (cutbox-rows.mjs): the forced cells as the released guide's own fill.sh prints them over the translation 3d2cfb7dfcfb26a3… (all of the seat's roots in one cut). By AI agents, Wed Nov 11 2026. No macro, syntax, notation, axiom, sorry.
-/
import Derived.Test.YtbkgipafikeccaaChecked
import GoSem.Claim
import GoSem.ClaimJoined
import GoSem.ClaimMapViews
import Derived.JoinedTies
import Derived.KernelRfl
namespace Go.Proofs.Ytbkgipafikeccaa
/- THE CELL 'sum', in the pinned program and in every row, IS THE sha256 OF THE DUMP (.gsa) THAT YtbkgipafikeccaaProg.lean LOADS. Nothing in Lean hashes anything: it is a label: what it is worth is what the hold of that sum in a sandbox is worth. -/
noncomputable def Try.pinned : Pinned := { name := "ytbkgipafikeccaa", sum := "3d2cfb7dfcfb26a335f80fa9291e788f730e3fd1c0b9a3b023ab1a12e4cedc70", checked := Try.checked }
namespace Rows
def none {H : Type} : Left H := { results := [], args := [] }

/-- 'heraldlaw32.GrOnce': WHATEVER THE INPUT: true; the input reads as it did. -/
def grOnceSpec : ChangeSpec := { name := "grOnce", fn := fun _ => fun
  | [d] => { results := [.lit (.bool true)], args := [d] }
  | _ => none }
def grOnceRow : OpenClaim := { program := "ytbkgipafikeccaa", sum := "3d2cfb7dfcfb26a335f80fa9291e788f730e3fd1c0b9a3b023ab1a12e4cedc70", func := "herald/heraldlaw32.GrOnce", spec := "grOnce", unfollowed := true, recurses := true, apart := false }
def GrOnceSaid : Prop := grOnceRow.holds Try.pinned (OpenSpec.ofChange grOnceSpec)

/-- ITS FALSE NEIGHBOUR: 'it returns false'. Refute it at one input. -/
def grOnceWrong : ChangeSpec := { name := "grOnce", fn := fun _ => fun
  | [d] => { results := [.lit (.bool false)], args := [d] }
  | _ => none }
def GrOnceWrongFalsely : Prop := grOnceRow.holds Try.pinned (OpenSpec.ofChange grOnceWrong)

/-- 'heraldlaw32.GrEnds': WHATEVER THE INPUT: true; the input reads as it did. -/
def grEndsSpec : ChangeSpec := { name := "grEnds", fn := fun _ => fun
  | [d1, d2, d3] => { results := [.lit (.bool true)], args := [d1, d2, d3] }
  | _ => none }
def grEndsRow : OpenClaim := { program := "ytbkgipafikeccaa", sum := "3d2cfb7dfcfb26a335f80fa9291e788f730e3fd1c0b9a3b023ab1a12e4cedc70", func := "herald/heraldlaw32.GrEnds", spec := "grEnds", unfollowed := true, recurses := true, apart := false }
def GrEndsSaid : Prop := grEndsRow.holds Try.pinned (OpenSpec.ofChange grEndsSpec)

/-- ITS FALSE NEIGHBOUR: 'it returns false'. Refute it at one input. -/
def grEndsWrong : ChangeSpec := { name := "grEnds", fn := fun _ => fun
  | [d1, d2, d3] => { results := [.lit (.bool false)], args := [d1, d2, d3] }
  | _ => none }
def GrEndsWrongFalsely : Prop := grEndsRow.holds Try.pinned (OpenSpec.ofChange grEndsWrong)

/-- 'heraldlaw32.GrPlays': WHATEVER THE INPUT: true; the input reads as it did. -/
def grPlaysSpec : ChangeSpec := { name := "grPlays", fn := fun _ => fun
  | [d] => { results := [.lit (.bool true)], args := [d] }
  | _ => none }
def grPlaysRow : OpenClaim := { program := "ytbkgipafikeccaa", sum := "3d2cfb7dfcfb26a335f80fa9291e788f730e3fd1c0b9a3b023ab1a12e4cedc70", func := "herald/heraldlaw32.GrPlays", spec := "grPlays", unfollowed := true, recurses := true, apart := false }
def GrPlaysSaid : Prop := grPlaysRow.holds Try.pinned (OpenSpec.ofChange grPlaysSpec)

/-- ITS FALSE NEIGHBOUR: 'it returns false'. Refute it at one input. -/
def grPlaysWrong : ChangeSpec := { name := "grPlays", fn := fun _ => fun
  | [d] => { results := [.lit (.bool false)], args := [d] }
  | _ => none }
def GrPlaysWrongFalsely : Prop := grPlaysRow.holds Try.pinned (OpenSpec.ofChange grPlaysWrong)

/-- 'heraldlaw32.GrKnown': WHATEVER THE INPUT: true; the input reads as it did. -/
def grKnownSpec : ChangeSpec := { name := "grKnown", fn := fun _ => fun
  | [] => { results := [.lit (.bool true)], args := [] }
  | _ => none }
def grKnownRow : OpenClaim := { program := "ytbkgipafikeccaa", sum := "3d2cfb7dfcfb26a335f80fa9291e788f730e3fd1c0b9a3b023ab1a12e4cedc70", func := "herald/heraldlaw32.GrKnown", spec := "grKnown", unfollowed := true, recurses := true, apart := false }
def GrKnownSaid : Prop := grKnownRow.holds Try.pinned (OpenSpec.ofChange grKnownSpec)

/-- ITS FALSE NEIGHBOUR: 'it returns false'. Refute it at one input. -/
def grKnownWrong : ChangeSpec := { name := "grKnown", fn := fun _ => fun
  | [] => { results := [.lit (.bool false)], args := [] }
  | _ => none }
def GrKnownWrongFalsely : Prop := grKnownRow.holds Try.pinned (OpenSpec.ofChange grKnownWrong)

/- THE SECOND FORM. 'bulk': how many values and letters a reading holds, each counted each time it is reached (what is shared counts as often as it is met; a slice's spare places count too). A statement '..UptoSaid' is the law's where the arguments, and the package variables that the reading takes, are together of bulk at most 1048576: NARROWER than '..Said'. Prove '..Said' where nothing that the law and all that it calls make is longer than what came in: it says more and counts as full. Else prove '..UptoSaid'. A law counts once. -/
mutual
def uptoBulk {H : Type} : DataW H → Nat
  | .lit (.string bytes) => bytes.length + 1
  | .lit _ => 1
  | .nil => 1
  | .ptr d => uptoBulk d + 1
  | .slice elems spare => uptoBulkAll elems + uptoBulkAll spare + 1
  | .agg parts => uptoBulkAll parts + 1
  | .iface _ d => uptoBulk d + 1
  | .map entries => uptoBulkEntries entries + 1
  | .held _ => 1
def uptoBulkAll {H : Type} : List (DataW H) → Nat
  | [] => 0
  | d :: r => uptoBulk d + uptoBulkAll r
def uptoBulkEntries {H : Type} : List (Lit × DataW H) → Nat
  | [] => 0
  | x :: r => uptoBulkEntry x + uptoBulkEntries r
def uptoBulkEntry {H : Type} : Lit × DataW H → Nat
  | (.string bytes, d) => bytes.length + uptoBulk d + 1
  | (_, d) => uptoBulk d + 1
 end
def uptoSmall : (H : Type) → List (DataW H) → Bool := fun _ ds => decide (uptoBulkAll ds ≤ 1048576)
def OpenSpec.upto (s : _root_.Go.ChangeSpec) : _root_.Go.OpenSpec := { _root_.Go.OpenSpec.ofChange s with cond := some uptoSmall }

/-- 'heraldlaw32.GrOnce', WHERE WHAT IT READS IS OF BULK AT MOST 1048576: true; the input reads as it did. -/
def grOnceUptoRow : OpenClaim := { program := "ytbkgipafikeccaa", sum := "3d2cfb7dfcfb26a335f80fa9291e788f730e3fd1c0b9a3b023ab1a12e4cedc70", func := "herald/heraldlaw32.GrOnce", spec := "grOnce", unfollowed := true, recurses := true, apart := false, narrowed := true }
def GrOnceUptoSaid : Prop := grOnceUptoRow.holds Try.pinned (OpenSpec.upto grOnceSpec)

/-- 'heraldlaw32.GrEnds', WHERE WHAT IT READS IS OF BULK AT MOST 1048576: true; the input reads as it did. -/
def grEndsUptoRow : OpenClaim := { program := "ytbkgipafikeccaa", sum := "3d2cfb7dfcfb26a335f80fa9291e788f730e3fd1c0b9a3b023ab1a12e4cedc70", func := "herald/heraldlaw32.GrEnds", spec := "grEnds", unfollowed := true, recurses := true, apart := false, narrowed := true }
def GrEndsUptoSaid : Prop := grEndsUptoRow.holds Try.pinned (OpenSpec.upto grEndsSpec)

/-- 'heraldlaw32.GrPlays', WHERE WHAT IT READS IS OF BULK AT MOST 1048576: true; the input reads as it did. -/
def grPlaysUptoRow : OpenClaim := { program := "ytbkgipafikeccaa", sum := "3d2cfb7dfcfb26a335f80fa9291e788f730e3fd1c0b9a3b023ab1a12e4cedc70", func := "herald/heraldlaw32.GrPlays", spec := "grPlays", unfollowed := true, recurses := true, apart := false, narrowed := true }
def GrPlaysUptoSaid : Prop := grPlaysUptoRow.holds Try.pinned (OpenSpec.upto grPlaysSpec)

/-- 'heraldlaw32.GrKnown', WHERE WHAT IT READS IS OF BULK AT MOST 1048576: true; the input reads as it did. -/
def grKnownUptoRow : OpenClaim := { program := "ytbkgipafikeccaa", sum := "3d2cfb7dfcfb26a335f80fa9291e788f730e3fd1c0b9a3b023ab1a12e4cedc70", func := "herald/heraldlaw32.GrKnown", spec := "grKnown", unfollowed := true, recurses := true, apart := false, narrowed := true }
def GrKnownUptoSaid : Prop := grKnownUptoRow.holds Try.pinned (OpenSpec.upto grKnownSpec)

end Rows
end Go.Proofs.Ytbkgipafikeccaa
