/- GrPlays: the code of the switch; Fire, in both its cases. -/
import Derived.Test.YtbkgipafikeccaaPA
import Derived.Deep.MidRow
import Derived.Deep.LoopGhost
import Derived.Deep.CutRange
import Derived.Deep.CutBlock
import Derived.Deep.DeepCutAuto
import Derived.Deep.QuietTactic
import Derived.BigQuiet
namespace Go.Proofs.Ytbkgipafikeccaa
open Go.RowKit
set_option linter.unusedVariables false
noncomputable def playsSw : Code := ((Try.f5.body.bind (blockOf 2)).getD .skip)

def fireS (st : Nat → Bool) (e now : Int) : Nat → Bool := if now < e then st else dropL st (famsOf st)
def fireP (st : Nat → Bool) (e now : Int) : Nat → Bool := if now < e then nil0 else st
theorem fams_nil0 : famsOf nil0 = [] := rfl

theorem fire_play (b : Nat) (now : Int) (st : Nat → Bool) (e : Int) (w : World) (h : IsH w b st e) :
    Calls Try.prog 13 #[.pointer (some ⟨b, 0, none⟩), .int .u64 now] w fun r w' => ∃ v, r = .returned v ∧ w'.ownsRow w.heap.size 3 1 v (famsOf (fireP st e now)).length (ints (famsOf (fireP st e now))) ∧ IsH w' b (fireS st e now) e ∧ But b w w' := by
  unfold fireS fireP
  by_cases hlt : now < e
  · rw [if_pos hlt, if_pos hlt]
    refine (fire_before b now st e hlt _ h).mono ?_
    rintro r w' ⟨rfl, rfl⟩
    exact ⟨_, rfl, World.ownsRow_nil w _ _ _, h, But.refl _ _⟩
  · rw [if_neg hlt, if_neg hlt]
    exact fire_behind b now st e (by omega) _ h

theorem refFire_play (v : Value) (now : Int) (st : Nat → Bool) (e : Int) (w : World) (h : Rd w v (nums (famsOf st))) :
    Calls Try.prog 20 #[.agg #[v, .int .u64 e], .int .u64 now] w fun r w' => ∃ an ln cn vw, r = .returned (.tuple #[.agg #[.slice an ln cn, .int .u64 e], vw]) ∧ Below w.heap.size w w' ∧ (∀ g, (Value.slice an ln cn).ownBlock = some g → v.ownBlock = some g) ∧ Rd w' (.slice an ln cn) (nums (famsOf (fireS st e now))) ∧ Rd w' vw (nums (famsOf (fireP st e now))) := by
  obtain ⟨ao, cap, g, off, rfl, _⟩ := h.open_
  refine (refFire_any _ _ _ e now w).mono ?_
  unfold fireS fireP
  by_cases hlt : now < e
  · rw [if_pos hlt, if_pos hlt, if_pos hlt]
    rintro r w' ⟨rfl, hb⟩
    exact ⟨_, _, _, _, rfl, hb, fun g hg => hg, h.below hb, rd_nil _⟩
  · rw [if_neg hlt, if_neg hlt, if_neg hlt]
    rintro r w' ⟨rfl, hb⟩
    exact ⟨_, _, _, _, rfl, hb, (fun g hg => by cases hg), (by rw [fams_dropped]; exact rd_nil _), h.below hb⟩
theorem rd_form {w : World} {v : Value} {L : List Int} (h : Rd w v L) : ∃ ao n cap, v = .slice ao n cap := by
  obtain ⟨ao, cap, g, off, rfl, _⟩ := h.open_
  exact ⟨_, _, _, rfl⟩

def endS (st : Nat → Bool) (fam : Int) : Nat → Bool := if inB fam then upd st fam.toNat false else st
theorem but_endS (st : Nat → Bool) (fam : Int) : but fam (nums (famsOf st)) = nums (famsOf (endS st fam)) := by
  unfold endS
  cases hin : inB fam with
  | true =>
    obtain ⟨a, rfl, a1, a5⟩ := inB_nat hin
    rw [if_pos rfl]
    exact but_in st a
  | false =>
    rw [if_neg (by simp)]
    refine but_out st fam fun h => ?_
    simp [inB, h] at hin

theorem end_play (b : Nat) (fam : Int) (st : Nat → Bool) (e : Int) (w : World) (h : IsH w b st e) :
    Calls Try.prog 12 #[.pointer (some ⟨b, 0, none⟩), .int .i64 fam] w fun r w' => r = .returned (.bool (decide ((but fam (nums (famsOf st))).length < (nums (famsOf st)).length))) ∧ IsH w' b (endS st fam) e ∧ But b w w' := by
  cases hin : inB fam with
  | true =>
    obtain ⟨a, rfl, a1, a5⟩ := inB_nat hin
    refine (end_in b a st e a1 a5 _ h).mono ?_
    rintro e' w5 ⟨he, hh5, hb5⟩
    refine ⟨by rw [he, but_less st a a1 a5], ?_, hb5⟩
    unfold endS
    rw [hin, if_pos rfl]
    exact hh5
  | false =>
    refine (end_out b fam hin _ h.there).mono ?_
    rintro e' w5 ⟨rfl, rfl⟩
    refine ⟨?_, ?_, But.refl _ _⟩
    · rw [but_endS]
      unfold endS
      rw [hin]
      simp
    · unfold endS
      rw [hin]
      exact h

/-- The reference's new helper laid into its variable. -/
theorem MidP.next {w W : World} {b mb : Nat} {st' : Nat → Bool} {e e' : Int} {v vn : Value} (hh : IsH W b st' e') (hm : W.heap[mb]? = some (.cells #[v, .int .u64 e] 48 (0, 0))) (hr : Rd W vn (nums (famsOf st')))
    (ho : ∀ g, vn.ownBlock = some g → w.heap.size ≤ g ∧ g < W.heap.size ∧ g ≠ b ∧ g ≠ mb) (h0 : w.heap.size ≤ b) (h1 : w.heap.size ≤ mb) (hbm : b ≠ mb) (hb : Below w.heap.size w W) :
    MidP w ((W.setCell ⟨mb, 0, none⟩ vn).setCell ⟨mb, 1, none⟩ (.int .u64 e')) b mb st' e' vn := by
  have hother : ∀ g, g ≠ mb → ((W.setCell ⟨mb, 0, none⟩ vn).setCell ⟨mb, 1, none⟩ (.int .u64 e')).heap[g]? = W.heap[g]? := fun g hg => by
    rw [heap_setCell_other _ _ _ _ hg, heap_setCell_other _ _ _ _ hg]
  exact ⟨hh.keep (hother b hbm), set_heap (i := 1) (v := .int .u64 e') (set_heap (i := 0) (v := vn) hm), hr.move fun g hg _ => hother g (ho g hg).2.2.2, fun g hg => by have := ho g hg; simpa using this, h0, h1, hbm, ((hb.setCell h1 _).setCell h1 _)⟩

/-- A new helper of the reference's that waits in a variable of its own. -/
structure Pend (w W : World) (b mb nb : Nat) (st' : Nat → Bool) (e e' : Int) (v vn : Value) : Prop where
  hh : IsH W b st' e'
  hm : W.heap[mb]? = some (.cells #[v, .int .u64 e] 48 (0, 0))
  hn : W.heap[nb]? = some (.cells #[vn, .int .u64 e'] 48 (0, 0))
  hr : Rd W vn (nums (famsOf st'))
  ho : ∀ g, vn.ownBlock = some g → w.heap.size ≤ g ∧ g < W.heap.size ∧ g ≠ b ∧ g ≠ mb
  h0 : w.heap.size ≤ b
  h1 : w.heap.size ≤ mb
  hbm : b ≠ mb
  hb : Below w.heap.size w W

theorem Pend.mk_alloc {w W : World} {b mb : Nat} {st' : Nat → Bool} {e e' : Int} {v vn : Value} (hh : IsH W b st' e') (hm : W.heap[mb]? = some (.cells #[v, .int .u64 e] 48 (0, 0))) (hr : Rd W vn (nums (famsOf st')))
    (ho : ∀ g, vn.ownBlock = some g → w.heap.size ≤ g ∧ g < W.heap.size ∧ g ≠ b ∧ g ≠ mb) (h0 : w.heap.size ≤ b) (h1 : w.heap.size ≤ mb) (hbm : b ≠ mb) (hb : Below w.heap.size w W) :
    Pend w (W.alloc (.cells #[vn, .int .u64 e'] 48)) b mb W.heap.size st' e e' v vn :=
  ⟨hh.keep (Below.heap_alloc _ _ _ hh.lt), (Below.heap_alloc _ _ _ (lt_of_block hm)).trans hm, heap_alloc_new _ _, hr.below ((Below.refl _ _).alloc (Nat.le_refl _) _), fun g hg => by have := ho g hg; simp; omega, h0, h1, hbm, hb.alloc hb.size _⟩
theorem Pend.keep {w W W' : World} {b mb nb : Nat} {st' : Nat → Bool} {e e' : Int} {v vn : Value} (h : Pend w W b mb nb st' e e' v vn) (hb : Below w.heap.size W W') (hk : ∀ g, g < W.heap.size → (g = b ∨ g = mb ∨ g = nb ∨ vn.ownBlock = some g) → W'.heap[g]? = W.heap[g]?) : Pend w W' b mb nb st' e e' v vn :=
  ⟨h.hh.keep (hk b h.hh.lt (.inl rfl)), (hk mb (lt_of_block h.hm) (.inr (.inl rfl))).trans h.hm, (hk nb (lt_of_block h.hn) (.inr (.inr (.inl rfl)))).trans h.hn, h.hr.move fun g hg hl => hk g hl (.inr (.inr (.inr hg))),
    fun g hg => by have := h.ho g hg; have := hb.size; exact ⟨by omega, by omega, by omega, by omega⟩, h.h0, h.h1, h.hbm, h.hb.trans hb⟩
theorem Pend.still {w W W' : World} {b mb nb : Nat} {st' : Nat → Bool} {e e' : Int} {v vn : Value} (h : Pend w W b mb nb st' e e' v vn) (hs : Still W W') : Pend w W' b mb nb st' e e' v vn :=
  h.keep (hs.below.mono h.hb.size) fun g _ _ => hs.blk g
theorem Pend.spoilt {w W W' : World} {b mb nb g : Nat} {st' : Nat → Bool} {e e' : Int} {v vn vs : Value} (h : Pend w W b mb nb st' e e' v vn) (hb : But g W W') (hg : vs.ownBlock = some g ∨ W.heap.size ≤ g)
    (hs : ∀ g, vs.ownBlock = some g → w.heap.size ≤ g ∧ g ≠ b ∧ g ≠ mb ∧ g ≠ nb ∧ vn.ownBlock ≠ some g) : Pend w W' b mb nb st' e e' v vn := by
  have hsz := h.hb.size
  refine h.keep (hb.below ?_ hsz) fun k hk hc => hb.block k hk ?_
  · rcases hg with hg | hg
    · exact (hs g hg).1
    · omega
  · rcases hg with hg | hg
    · have := hs g hg
      rcases hc with rfl | rfl | rfl | hc
      · exact fun e => this.2.1 e.symm
      · exact fun e => this.2.2.1 e.symm
      · exact fun e => this.2.2.2.1 e.symm
      · rintro rfl; exact this.2.2.2.2 hc
    · omega
theorem Pend.next {w W : World} {b mb nb : Nat} {st' : Nat → Bool} {e e' : Int} {v vn : Value} (h : Pend w W b mb nb st' e e' v vn) : MidP w ((W.setCell ⟨mb, 0, none⟩ vn).setCell ⟨mb, 1, none⟩ (.int .u64 e')) b mb st' e' vn :=
  MidP.next h.hh h.hm h.hr h.ho h.h0 h.h1 h.hbm h.hb
end Go.Proofs.Ytbkgipafikeccaa
