/-
  No cell of these rows narrows 'for every input' (looked for: loops, veiled, ifaces, maps, wideKeys, modest, calm, conditions, laid).
  DERIVED. THE GIVEN ROWS OF THIS SEAT. 5 by the template 'for every input the law returns true; each argument reads behind the call as it read before'; 0 by the template 'total and deterministic' (their statements: YtohlppmalinooaaTotals.lean).
  GIVEN WITH THE SEED: the statements are not yours to turn. If you find one false, say at which input.
  Laid BY PROGRAM, IN A SANDBOX (cutbox-rows.mjs): the forced cells as the released guide's own fill.sh prints them over the translation ef394bb984c4f0d7… (all of the seat's roots in one cut). By AI agents, Wed Nov 11 2026. No macro, syntax, notation, axiom, sorry.
-/
import Derived.Test.YtohlppmalinooaaChecked
import GoSem.Claim
import GoSem.ClaimJoined
import GoSem.ClaimMapViews
import Derived.JoinedTies
import Derived.KernelRfl
namespace Go.Proofs.Ytohlppmalinooaa
/- THE CELL 'sum', in the pinned program and in every row, IS THE sha256 OF THE DUMP (.gsa) THAT YtohlppmalinooaaProg.lean LOADS. Nothing in Lean hashes anything: it is a label: what it is worth is what the hold of that sum in a sandbox is worth. -/
noncomputable def Try.pinned : Pinned := { name := "ytohlppmalinooaa", sum := "ef394bb984c4f0d7db5689cabc6111001004e2d3317f08ba9698fae7992d7438", checked := Try.checked }
namespace Rows
def none {H : Type} : Left H := { results := [], args := [] }

/-- 'heraldlaw14.DrawOf': WHATEVER THE INPUT: true; the input reads as it did. -/
def drawOfSpec : ChangeSpec := { name := "drawOf", fn := fun _ => fun
  | [d1, d2] => { results := [.lit (.bool true)], args := [d1, d2] }
  | _ => none }
def drawOfRow : OpenClaim := { program := "ytohlppmalinooaa", sum := "ef394bb984c4f0d7db5689cabc6111001004e2d3317f08ba9698fae7992d7438", func := "herald/heraldlaw14.DrawOf", spec := "drawOf", unfollowed := true, recurses := true, apart := false }
def DrawOfSaid : Prop := drawOfRow.holds Try.pinned (OpenSpec.ofChange drawOfSpec)

/-- ITS FALSE NEIGHBOUR: 'it returns false'. Refute it at one input. -/
def drawOfWrong : ChangeSpec := { name := "drawOf", fn := fun _ => fun
  | [d1, d2] => { results := [.lit (.bool false)], args := [d1, d2] }
  | _ => none }
def DrawOfWrongFalsely : Prop := drawOfRow.holds Try.pinned (OpenSpec.ofChange drawOfWrong)

/-- 'heraldlaw14.DrawBetween': WHATEVER THE INPUT: true; the input reads as it did. -/
def drawBetweenSpec : ChangeSpec := { name := "drawBetween", fn := fun _ => fun
  | [d1, d2] => { results := [.lit (.bool true)], args := [d1, d2] }
  | _ => none }
def drawBetweenRow : OpenClaim := { program := "ytohlppmalinooaa", sum := "ef394bb984c4f0d7db5689cabc6111001004e2d3317f08ba9698fae7992d7438", func := "herald/heraldlaw14.DrawBetween", spec := "drawBetween", unfollowed := true, recurses := true, apart := false }
def DrawBetweenSaid : Prop := drawBetweenRow.holds Try.pinned (OpenSpec.ofChange drawBetweenSpec)

/-- ITS FALSE NEIGHBOUR: 'it returns false'. Refute it at one input. -/
def drawBetweenWrong : ChangeSpec := { name := "drawBetween", fn := fun _ => fun
  | [d1, d2] => { results := [.lit (.bool false)], args := [d1, d2] }
  | _ => none }
def DrawBetweenWrongFalsely : Prop := drawBetweenRow.holds Try.pinned (OpenSpec.ofChange drawBetweenWrong)

/-- 'heraldlaw14.DrawPlays': WHATEVER THE INPUT: true; the input reads as it did. -/
def drawPlaysSpec : ChangeSpec := { name := "drawPlays", fn := fun _ => fun
  | [d] => { results := [.lit (.bool true)], args := [d] }
  | _ => none }
def drawPlaysRow : OpenClaim := { program := "ytohlppmalinooaa", sum := "ef394bb984c4f0d7db5689cabc6111001004e2d3317f08ba9698fae7992d7438", func := "herald/heraldlaw14.DrawPlays", spec := "drawPlays", unfollowed := true, recurses := true, apart := false }
def DrawPlaysSaid : Prop := drawPlaysRow.holds Try.pinned (OpenSpec.ofChange drawPlaysSpec)

/-- ITS FALSE NEIGHBOUR: 'it returns false'. Refute it at one input. -/
def drawPlaysWrong : ChangeSpec := { name := "drawPlays", fn := fun _ => fun
  | [d] => { results := [.lit (.bool false)], args := [d] }
  | _ => none }
def DrawPlaysWrongFalsely : Prop := drawPlaysRow.holds Try.pinned (OpenSpec.ofChange drawPlaysWrong)

/-- 'heraldlaw14.DrawOrder': WHATEVER THE INPUT: true; the input reads as it did. -/
def drawOrderSpec : ChangeSpec := { name := "drawOrder", fn := fun _ => fun
  | [d1, d2] => { results := [.lit (.bool true)], args := [d1, d2] }
  | _ => none }
def drawOrderRow : OpenClaim := { program := "ytohlppmalinooaa", sum := "ef394bb984c4f0d7db5689cabc6111001004e2d3317f08ba9698fae7992d7438", func := "herald/heraldlaw14.DrawOrder", spec := "drawOrder", unfollowed := true, recurses := true, apart := false }
def DrawOrderSaid : Prop := drawOrderRow.holds Try.pinned (OpenSpec.ofChange drawOrderSpec)

/-- ITS FALSE NEIGHBOUR: 'it returns false'. Refute it at one input. -/
def drawOrderWrong : ChangeSpec := { name := "drawOrder", fn := fun _ => fun
  | [d1, d2] => { results := [.lit (.bool false)], args := [d1, d2] }
  | _ => none }
def DrawOrderWrongFalsely : Prop := drawOrderRow.holds Try.pinned (OpenSpec.ofChange drawOrderWrong)

/-- 'heraldlaw14.DrawKnown': WHATEVER THE INPUT: true; the input reads as it did. -/
def drawKnownSpec : ChangeSpec := { name := "drawKnown", fn := fun _ => fun
  | [] => { results := [.lit (.bool true)], args := [] }
  | _ => none }
def drawKnownRow : OpenClaim := { program := "ytohlppmalinooaa", sum := "ef394bb984c4f0d7db5689cabc6111001004e2d3317f08ba9698fae7992d7438", func := "herald/heraldlaw14.DrawKnown", spec := "drawKnown", unfollowed := true, recurses := true, apart := false }
def DrawKnownSaid : Prop := drawKnownRow.holds Try.pinned (OpenSpec.ofChange drawKnownSpec)

/-- ITS FALSE NEIGHBOUR: 'it returns false'. Refute it at one input. -/
def drawKnownWrong : ChangeSpec := { name := "drawKnown", fn := fun _ => fun
  | [] => { results := [.lit (.bool false)], args := [] }
  | _ => none }
def DrawKnownWrongFalsely : Prop := drawKnownRow.holds Try.pinned (OpenSpec.ofChange drawKnownWrong)

/- THE SECOND FORM. 'bulk': how many values and letters a reading holds, each counted each time it is reached (what is shared counts as often as it is met; a slice's spare places count too). A statement '..UptoSaid' is the law's where the arguments, and the package variables that the reading takes, are together of bulk at most 1048576: NARROWER than '..Said'. Prove '..Said' where nothing that the law and all that it calls make is longer than what came in: it says more and counts as full. Else prove '..UptoSaid'. A law counts once. -/
mutual
def uptoBulk {H : Type} : DataW H → Nat
  | .lit (.string bytes) => bytes.length + 1
  | .lit _ => 1
  | .nil => 1
  | .ptr d => uptoBulk d + 1
  | .slice elems spare => uptoBulkAll elems + uptoBulkAll spare + 1
  | .agg parts => uptoBulkAll parts + 1
  | .iface _ d => uptoBulk d + 1
  | .map entries => uptoBulkEntries entries + 1
  | .held _ => 1
def uptoBulkAll {H : Type} : List (DataW H) → Nat
  | [] => 0
  | d :: r => uptoBulk d + uptoBulkAll r
def uptoBulkEntries {H : Type} : List (Lit × DataW H) → Nat
  | [] => 0
  | x :: r => uptoBulkEntry x + uptoBulkEntries r
def uptoBulkEntry {H : Type} : Lit × DataW H → Nat
  | (.string bytes, d) => bytes.length + uptoBulk d + 1
  | (_, d) => uptoBulk d + 1
 end
def uptoSmall : (H : Type) → List (DataW H) → Bool := fun _ ds => decide (uptoBulkAll ds ≤ 1048576)
def OpenSpec.upto (s : _root_.Go.ChangeSpec) : _root_.Go.OpenSpec := { _root_.Go.OpenSpec.ofChange s with cond := some uptoSmall }

/-- 'heraldlaw14.DrawOf', WHERE WHAT IT READS IS OF BULK AT MOST 1048576: true; the input reads as it did. -/
def drawOfUptoRow : OpenClaim := { program := "ytohlppmalinooaa", sum := "ef394bb984c4f0d7db5689cabc6111001004e2d3317f08ba9698fae7992d7438", func := "herald/heraldlaw14.DrawOf", spec := "drawOf", unfollowed := true, recurses := true, apart := false, narrowed := true }
def DrawOfUptoSaid : Prop := drawOfUptoRow.holds Try.pinned (OpenSpec.upto drawOfSpec)

/-- 'heraldlaw14.DrawBetween', WHERE WHAT IT READS IS OF BULK AT MOST 1048576: true; the input reads as it did. -/
def drawBetweenUptoRow : OpenClaim := { program := "ytohlppmalinooaa", sum := "ef394bb984c4f0d7db5689cabc6111001004e2d3317f08ba9698fae7992d7438", func := "herald/heraldlaw14.DrawBetween", spec := "drawBetween", unfollowed := true, recurses := true, apart := false, narrowed := true }
def DrawBetweenUptoSaid : Prop := drawBetweenUptoRow.holds Try.pinned (OpenSpec.upto drawBetweenSpec)

/-- 'heraldlaw14.DrawPlays', WHERE WHAT IT READS IS OF BULK AT MOST 1048576: true; the input reads as it did. -/
def drawPlaysUptoRow : OpenClaim := { program := "ytohlppmalinooaa", sum := "ef394bb984c4f0d7db5689cabc6111001004e2d3317f08ba9698fae7992d7438", func := "herald/heraldlaw14.DrawPlays", spec := "drawPlays", unfollowed := true, recurses := true, apart := false, narrowed := true }
def DrawPlaysUptoSaid : Prop := drawPlaysUptoRow.holds Try.pinned (OpenSpec.upto drawPlaysSpec)

/-- 'heraldlaw14.DrawOrder', WHERE WHAT IT READS IS OF BULK AT MOST 1048576: true; the input reads as it did. -/
def drawOrderUptoRow : OpenClaim := { program := "ytohlppmalinooaa", sum := "ef394bb984c4f0d7db5689cabc6111001004e2d3317f08ba9698fae7992d7438", func := "herald/heraldlaw14.DrawOrder", spec := "drawOrder", unfollowed := true, recurses := true, apart := false, narrowed := true }
def DrawOrderUptoSaid : Prop := drawOrderUptoRow.holds Try.pinned (OpenSpec.upto drawOrderSpec)

/-- 'heraldlaw14.DrawKnown', WHERE WHAT IT READS IS OF BULK AT MOST 1048576: true; the input reads as it did. -/
def drawKnownUptoRow : OpenClaim := { program := "ytohlppmalinooaa", sum := "ef394bb984c4f0d7db5689cabc6111001004e2d3317f08ba9698fae7992d7438", func := "herald/heraldlaw14.DrawKnown", spec := "drawKnown", unfollowed := true, recurses := true, apart := false, narrowed := true }
def DrawKnownUptoSaid : Prop := drawKnownUptoRow.holds Try.pinned (OpenSpec.upto drawKnownSpec)

end Rows
end Go.Proofs.Ytohlppmalinooaa
