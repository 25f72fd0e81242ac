/- Rows.FrameCutsSaid: for every list of strings heraldlaw09's FrameCuts answers true, and its argument reads as before; no conditions. -/
import Derived.Test.YtcbkmafekkhpiaaFX
import Derived.ChangeOld
import Derived.Below
import Derived.ProofKit
import Derived.OpenShut
import Derived.Lib.SmallJoins
import Derived.SliceStrings
namespace Go.Proofs.Ytcbkmafekkhpiaa.frameCuts
open Go.ChangeShapes Go.WideShapes Go.ChangeAt Go.RowKit Go.Deep Go.Joins
set_option linter.unusedVariables false

theorem laidOut : laidOutB Try.prog = true := by kernel_rfl
theorem own : ownKnob Try.prog.godebug = none := by kernel_rfl

set_option maxRecDepth 100000 in
theorem lifted (os : Os) (started : os.Started) (H : Type) (enc : TypeId × Value → H) :
    ReturnsInHanded {} Try.checked os 4 .any (Rows.frameCutsSpec.pre6 enc Try.prog Try.f4 Rows.frameCutsRow.domain false) (Rows.frameCutsSpec.post enc Try.prog Try.f4 false true false false) := by
  refine returnsInHanded_of_change (C := Try.checked) own started (by kernel_rfl) Try.func4
    (ChangeSpec.witness6 (enc := enc) (C := Try.checked) false ⟨#[], #[.slice none 0 0], []⟩ 8 (by kernel_rfl) (by kernel_rfl) (by kernel_rfl) (by kernel_rfl)) ?_
  intro W base args ds gs before hval0 hW hcnd _
  have hval : ∀ (j : Nat) t v, Try.f4.params[j]? = some t → args[j]? = some v → Value.okWide Try.prog W .any base t v := hval0
  have hW' := hW
  obtain ⟨p, q, hA0, hV, rfl, hfz, hnd⟩ := hW
  have hA : DataW.TrodAll enc Try.prog W 0 (fun _ => true) true Try.f4.params.toList args.toList ds p := hA0
  rw [Try.params4] at hA hval
  obtain ⟨v0, vs0, d0, ds0, p0, q0, hargs, rfl, rfl, h0, r0⟩ := trodAll_cons hA
  obtain ⟨rfl, rfl, rfl⟩ := trodAll_nil r0
  obtain rfl : args = #[v0] := by cases args; simp_all
  obtain ⟨rfl, rfl⟩ := trodVars_none hV
  obtain ⟨a0, len0, cap0, rfl⟩ := okWide_slice Try.underlying29 (hval 0 29 v0 rfl rfl)
  have k0 := h0
  have lt0 : ∀ x ∈ p0, x.block < W.heap.size := by obtain ⟨m, hm⟩ := k0; exact DataW.trod_lt m _ _ _ hm
  have w0 : ∃ bl off, len0 ≤ 9223372036854775807 ∧ (0 < len0 → a0 = some ⟨bl, off, none⟩ ∧ bl < W.heap.size) ∧ ∀ i, i < len0 → ∃ s : ByteArray, W.cell? ⟨bl, off + i, none⟩ = some (.string s) := by
    obtain ⟨fuel, hf⟩ := h0
    rcases open_strings Try.underlying29 Try.underlying9 (by kernel_rfl) (by simpa [Value.cells] using hf) with ⟨hcs, _⟩ | ⟨a, len', cap', ss, hcs, _, hl, hm, hz, _, hcell, _⟩
    · injection hcs with hcs _
      injection hcs with h1 h2 h3
      subst h1 h2
      exact ⟨0, 0, by omega, fun h => by omega, fun i hi => by omega⟩
    · injection hcs with hcs _
      injection hcs with h1 h2 h3
      subst h1 h2 h3
      have hss : len0 ≤ ss.length := by rw [hz]; split <;> omega
      by_cases hpos : 0 < len0
      · have hc0 := hcell 0 (by omega)
        have hsp : a.spot = none := by
          have := hc0
          unfold World.cell? at this
          split at this
          · split at this
            · cases this
            · rename_i hs
              cases hsp : a.spot with
              | none => rfl
              | some _ => simp [Addr.add, hsp] at hs
          · cases this
        obtain ⟨g, o, sp⟩ := a
        simp only at hsp
        subst hsp
        refine ⟨g, o, by unfold maxLen at hm; omega, fun _ => ⟨rfl, ?_⟩, fun i hi => ?_⟩
        · have := World.block_lt_of_cell? _ _ hc0
          simpa [Addr.add_lit] using this
        · have := hcell i (by omega)
          rw [Addr.add_lit] at this
          exact ⟨_, this⟩
      · exact ⟨0, 0, by omega, fun h => absurd h hpos, fun i hi => by omega⟩
  clear hA0 hval0
  obtain ⟨bl, off, hm, hao, hst⟩ := w0
  refine (cuts_walk a0 bl off len0 cap0 W hm hao hst).mono fun e W' ⟨he, bel⟩ => ?_
  subst he
  exact ⟨_, rfl, _, _, _, [], _, [], hW', trodAll_mk1 (shut_bool Try.underlying4 _), (trodAll_cons_mk (Below.trod laidOut (by kernel_rfl) (of_decide_eq_true (by kernel_rfl)) k0 bel lt0) trodAll_mk0), rfl, bel.frame _, fun h => by cases h⟩

theorem over : Rows.frameCutsRow.holds Try.pinned (OpenSpec.ofChange Rows.frameCutsSpec) :=
  OpenClaim.holds_of_wide 4 Try.f4 rfl rfl rfl rfl rfl rfl rfl ⟨rfl, rfl, rfl, rfl, rfl⟩ rfl rfl rfl rfl rfl (by kernel_rfl) Try.func4 (by kernel_rfl)
    (of_decide_eq_true (by kernel_rfl)) (by unfold Func.isWrapper; first | (rw [if_pos (by decide +kernel)]; kernel_rfl) | (rw [if_neg (by decide +kernel)]; exact ⟨rfl, rfl⟩))
    (fun os started H enc _ => lifted os started H enc)

theorem proved : Rows.FrameCutsSaid := over
#print axioms proved
end Go.Proofs.Ytcbkmafekkhpiaa.frameCuts
