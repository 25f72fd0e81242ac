/- GrOnce and GrPlays: a step; what holds at a round's head; the switch of GrOnce's round. -/
import Derived.Test.YtbkgipafikeccaaX
import Derived.Deep.MidRow
import Derived.Deep.LoopGhost
import Derived.Deep.CutRange
import Derived.Deep.CutBlock
import Derived.Deep.DeepCutAuto
import Derived.Deep.QuietTactic
import Derived.BigQuiet
namespace Go.Proofs.Ytbkgipafikeccaa
open Go.RowKit
set_option linter.unusedVariables false

/-- A step: its cells, and what they say. -/
structure DoR (w : World) (d : Array Value) (kind : Int) (c : Array Value) (F : List Int) (K : List (Int × Bool)) (gr : Bool) (time : Int) (has : Bool) (fam now : Int) : Prop where
  size : d.size = 14
  one : d.all (·.oneCell') = true
  kind_ : d[0]? = some (.int .i64 kind)
  ses : d.extract 1 11 = c
  ses_ : Ses w c F K gr time
  has_ : d[11]? = some (.bool has)
  fam_ : d[12]? = some (.int .i64 fam)
  now_ : d[13]? = some (.int .u64 now)
  n1 : 0 ≤ now
  n2 : now < 18446744073709551616
  f1 : -9223372036854775808 ≤ fam
  f2 : fam ≤ 9223372036854775807

theorem DoR.below {w w' : World} {d c : Array Value} {kind : Int} {F : List Int} {K : List (Int × Bool)} {gr : Bool} {time : Int} {has : Bool} {fam now : Int} (h : DoR w d kind c F K gr time has fam now) (hb : Below w.heap.size w w') : DoR w' d kind c F K gr time has fam now :=
  ⟨h.size, h.one, h.kind_, h.ses, h.ses_.below hb, h.has_, h.fam_, h.now_, h.n1, h.n2, h.f1, h.f2⟩

/-- The steps that came in. -/
def Steps (w : World) (bl off len : Nat) : Prop := ∀ i, i < len → ∃ d kind c F K gr time has fam now, w.rangeAt bl (off + i * 14) d.toList ∧ DoR w d kind c F K gr time has fam now

theorem size33 : (Try.prog.info? 33).map (·.size) = some 14 := by kernel_rfl
theorem size30 : (Try.prog.info? 30).map (·.size) = some 10 := by kernel_rfl

theorem tmod5 (x : Int) : -5 < x.tmod 5 ∧ x.tmod 5 < 5 := by
  have h1 := Int.tmod_lt_of_pos x (b := 5) (by omega)
  have h2 := Int.lt_tmod_of_pos x (b := 5) (by omega)
  omega

theorem hasB_fams (p : Nat → Bool) (j : Nat) (h1 : 1 ≤ j) (h5 : j ≤ 5) : hasB (nums (famsOf p)) (j : Int) = p j := by
  unfold hasB
  rw [Bool.eq_iff_iff, List.contains_iff_mem]
  unfold nums
  rw [List.mem_map]
  constructor
  · rintro ⟨i, hi, e⟩
    obtain rfl : i = j := by omega
    exact (mem_famsOf.1 hi).2
  · intro h
    exact ⟨j, mem_famsOf.2 ⟨⟨h1, h5⟩, h⟩, rfl⟩

theorem ses_fams {w : World} {d c : Array Value} {kind : Int} {F : List Int} {K : List (Int × Bool)} {gr : Bool} {time : Int} {has : Bool} {fam now : Int} (h : DoR w d kind c F K gr time has fam now) {v : Value} (hv : c[1]? = some v) : d[2]? = some v := by
  rw [← h.ses, Array.getElem?_extract] at hv
  split at hv
  · exact hv
  · cases hv

theorem at_pos (l : List Nat) (time now : Int) : 0 < now → decide (0 < atV l time now) = decide (0 < l.length) := by
  intro h
  unfold atV
  split
  · rename_i h0; simp [h0]
  · rename_i h0
    rw [decide_eq_decide]
    constructor <;> intro _ <;> omega
theorem hasB_of (F : List Int) (j : Nat) (h1 : 1 ≤ j) (h5 : j ≤ 5) : hasB F (j : Int) = ofP F j := by
  simp [hasB, ofP, h1, h5]

theorem has_eq (v : Value) (L : List Int) (n : Int) (b : Bool) (w : World) (h : Rd w v L) (hb : hasB L n = b) : Calls Try.prog 10 #[v, .int .i64 n] w fun e w' => e = .returned (.bool b) ∧ w = w' := hb ▸ has_any v L n w h
theorem rd_but {w w' : World} {v : Value} {L : List Int} {b : Nat} (h : Rd w v L) (hv : ∀ g, v.ownBlock = some g → g ≠ b) (hb : But b w w') : Rd w' v L := h.move fun g hg hl => hb.block g hl (hv g hg)
theorem ses_gr {w : World} {d c : Array Value} {kind : Int} {F : List Int} {K : List (Int × Bool)} {gr : Bool} {time : Int} {has : Bool} {fam now : Int} (h : DoR w d kind c F K gr time has fam now) : d[7]? = some (.bool gr) := by
  have hv := h.ses_.hasGR
  rw [← h.ses, Array.getElem?_extract] at hv
  split at hv
  · exact hv
  · cases hv

def Agree (sl st : Nat → Bool) : Prop := ∀ i, 1 ≤ i → i ≤ 5 → sl i = st i

/-- What holds at a round's head. -/
def Mid (w wr : World) (b sb : Nat) : Prop := ∃ st sl e, IsH wr b st e ∧ wr.heap[sb]? = some (.cells (fC sl) 26 (0, 0)) ∧ Agree sl st ∧ Below w.heap.size w wr

/-- The code of a block. -/
def blockOf (n : Nat) : Code → Option Code
  | .block k c => if k = n then some (.block k c) else blockOf n c
  | .seq a b => match blockOf n a with
    | some c => some c
    | none => blockOf n b
  | .loop c => blockOf n c
  | .scope c => blockOf n c
  | .cond _ a b => match blockOf n a with
    | some c => some c
    | none => blockOf n b
  | _ => none
noncomputable def onceSw : Code := ((Try.f3.body.bind (blockOf 2)).getD .skip)
end Go.Proofs.Ytbkgipafikeccaa
