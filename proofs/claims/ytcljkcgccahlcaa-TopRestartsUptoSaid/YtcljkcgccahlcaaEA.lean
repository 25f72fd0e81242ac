/- gr: the two closures of Down. -/
import Derived.Test.YtcljkcgccahlcaaP
import Derived.Deep.MidRow
namespace Go.Proofs.Ytcljkcgccahlcaa
open Go.RowKit
set_option linter.unusedVariables false

theorem bcell {W w1 : World} (hb : Below W.heap.size W w1) : (∀ b o, b < W.heap.size → w1.cell? ⟨b, o, none⟩ = W.cell? ⟨b, o, none⟩) ∧ (∀ b o, b < W.heap.size → w1.frozen? ⟨b, o, none⟩ = W.frozen? ⟨b, o, none⟩) :=
  ⟨fun b o h => hb.cell (p := ⟨b, o, none⟩) h, fun b o h => hb.frozen (p := ⟨b, o, none⟩) h⟩

def keepsP (F : List Int) (K : List (Int × Bool)) (gr : Bool) : Nat → Bool := fun i => gr && ofP F i && standsP K false i
def goneP (st : Nat → Bool) (F : List Int) (K : List (Int × Bool)) (gr : Bool) : Nat → Bool := fun i => !keepsP F K gr i && (ofP F i || st i)

/-! ### The two closures -/
set_option maxHeartbeats 400000 in
theorem keeps_any (x y B1 : Nat) (gr : Bool) (f g : Nat → Bool) (i : Nat) (h1 : 1 ≤ i) (h5 : i ≤ 5) (w : World) (hg : w.cell? ⟨B1, 6, none⟩ = some (.bool gr)) (hx : w.cell? ⟨x, i, none⟩ = some (.bool (f i))) (hy : w.cell? ⟨y, i, none⟩ = some (.bool (g i))) :
    Calls Try.prog 31 #[.int .i64 (i : Int), .pointer (some ⟨B1, 0, none⟩), .pointer (some ⟨x, 0, none⟩), .pointer (some ⟨y, 0, none⟩)] w fun e w' => e = .returned (.bool (gr && f i && g i)) ∧ w = w' := by
  generalize f i = fi at *
  generalize g i = gi at *
  cases gr <;> cases fi <;> cases gi
  all_goals
    go_enter Try.func31, Try.ntmps31
    go_wp2
    go_ret
    exact ⟨rfl, rfl⟩

set_option maxHeartbeats 4000000 in
theorem gone_any (z x y B0 B1 b : Nat) (gr : Bool) (f g st : Nat → Bool) (i : Nat) (h1 : 1 ≤ i) (h5 : i ≤ 5) (w : World) (hz : w.cell? ⟨z, 0, none⟩ = some (.func (.func 31) #[] #[.pointer (some ⟨B1, 0, none⟩), .pointer (some ⟨x, 0, none⟩), .pointer (some ⟨y, 0, none⟩)]))
    (hb0 : w.cell? ⟨B0, 0, none⟩ = some (.pointer (some ⟨b, 0, none⟩))) (hg : w.cell? ⟨B1, 6, none⟩ = some (.bool gr)) (hx : w.cell? ⟨x, i, none⟩ = some (.bool (f i))) (hy : w.cell? ⟨y, i, none⟩ = some (.bool (g i))) (hs : w.cell? ⟨b, 1 + i, none⟩ = some (.bool (st i))) :
    Calls Try.prog 33 #[.int .i64 (i : Int), .pointer (some ⟨z, 0, none⟩), .pointer (some ⟨x, 0, none⟩), .pointer (some ⟨B0, 0, none⟩)] w fun e w' => e = .returned (.bool (!(gr && f i && g i) && (f i || st i))) ∧ w = w' := by
  have hk := keeps_any x y B1 gr f g i h1 h5 w hg hx hy
  generalize f i = fi at *
  generalize g i = gi at *
  generalize st i = si at *
  have HK := Lib.hid hk
  clear hk
  cases gr <;> cases fi <;> cases gi <;> cases si
  all_goals
    go_enter Try.func33, Try.ntmps33
    go_wp2_with fail
    refine HK.out.mono ?_
    rintro e w' ⟨rfl, rfl⟩
    go_wp2_with fail
    go_ret
    exact ⟨rfl, rfl⟩

end Go.Proofs.Ytcljkcgccahlcaa
