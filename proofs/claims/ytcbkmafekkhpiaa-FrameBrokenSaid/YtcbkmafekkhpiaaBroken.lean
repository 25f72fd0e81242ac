/- Rows.FrameBrokenSaid: for every list of messages, every byte to bend, every tail heraldlaw09's FrameBroken answers true, and its arguments read as before; no conditions. -/
import Derived.Test.YtcbkmafekkhpiaaFK
import Derived.Test.YtcbkmafekkhpiaaFI
import Derived.ChangeOld
import Derived.Below
import Derived.ProofKit
import Derived.OpenShut
import Derived.Lib.SmallJoins
import Derived.WideKeyPair
namespace Go.Proofs.Ytcbkmafekkhpiaa.frameBroken
open Go.ChangeShapes Go.WideShapes Go.ChangeAt Go.RowKit Go.Deep Go.Joins
set_option linter.unusedVariables false

theorem laidOut : laidOutB Try.prog = true := by kernel_rfl
theorem own : ownKnob Try.prog.godebug = none := by kernel_rfl

set_option maxRecDepth 100000 in
theorem lifted (os : Os) (started : os.Started) (H : Type) (enc : TypeId × Value → H) :
    ReturnsInHanded {} Try.checked os 6 .any (Rows.frameBrokenSpec.pre6 enc Try.prog Try.f6 Rows.frameBrokenRow.domain false) (Rows.frameBrokenSpec.post enc Try.prog Try.f6 false true false false) := by
  refine returnsInHanded_of_change (C := Try.checked) own started (by kernel_rfl) Try.func6
    (ChangeSpec.witness6 (enc := enc) (C := Try.checked) false ⟨#[], #[.slice none 0 0, .agg #[.int .u8 0, .int .u8 0], .string ⟨#[]⟩], []⟩ 8 (by kernel_rfl) (by kernel_rfl) (by kernel_rfl) (by kernel_rfl)) ?_
  intro W base args ds gs before hval0 hW hcnd _
  have hval : ∀ (j : Nat) t v, Try.f6.params[j]? = some t → args[j]? = some v → Value.okWide Try.prog W .any base t v := hval0
  have hW' := hW
  obtain ⟨p, q, hA0, hV, rfl, hfz, hnd⟩ := hW
  have hA : DataW.TrodAll enc Try.prog W 0 (fun _ => true) true Try.f6.params.toList args.toList ds p := hA0
  rw [Try.params6] at hA hval
  obtain ⟨v0, vs0, d0, ds0, p0, q0, hargs, rfl, rfl, h0, r0⟩ := trodAll_cons hA
  obtain ⟨v1, vs1, d1, ds1, p1, q1, rfl, rfl, rfl, h1, r1⟩ := trodAll_cons r0
  obtain ⟨v2, vs2, d2, ds2, p2, q2, rfl, rfl, rfl, h2, r2⟩ := trodAll_cons r1
  obtain ⟨rfl, rfl, rfl⟩ := trodAll_nil r2
  obtain rfl : args = #[v0, v1, v2] := by cases args; simp_all
  obtain ⟨rfl, rfl⟩ := trodVars_none hV
  obtain ⟨a0, len0, cap0, rfl⟩ := okWide_slice Try.underlying42 (hval 0 42 v0 rfl rfl)
  have k0 := h0
  have k1 := h1
  have k2 := h2
  have lt0 : ∀ x ∈ p0, x.block < W.heap.size := by obtain ⟨m, hm⟩ := k0; exact DataW.trod_lt m _ _ _ hm
  have lt1 : ∀ x ∈ p1, x.block < W.heap.size := by obtain ⟨m, hm⟩ := k1; exact DataW.trod_lt m _ _ _ hm
  have lt2 : ∀ x ∈ p2, x.block < W.heap.size := by obtain ⟨m, hm⟩ := k2; exact DataW.trod_lt m _ _ _ hm
  have w0 : ∃ bl off, len0 ≤ 9223372036854775807 ∧ (0 < len0 → a0 = some ⟨bl, off, none⟩ ∧ bl < W.heap.size) ∧ Tolds W bl off len0 := by
    obtain ⟨fuel, hf⟩ := h0
    exact tolds_of (by simpa [Value.cells] using hf)
  have w1 : ∃ x0 x1 : Nat, x0 < 256 ∧ x1 < 256 ∧ v1 = .agg #[.int .u8 (x0 : Int), .int .u8 (x1 : Int)] := by
    obtain ⟨x, y, hv, _, _, b0, b1⟩ := Go.WideMaps.open_pair (P := Try.prog) (k := 47) (e := 5) (q := .u8) ⟨by kernel_rfl, by kernel_rfl, by kernel_rfl, by kernel_rfl⟩ Try.underlying5 (hval 1 47 v1 rfl rfl) h1
    have b0 := bounds_u8 b0
    have b1 := bounds_u8 b1
    obtain ⟨x, rfl⟩ := Int.eq_ofNat_of_zero_le (a := x) (by omega)
    obtain ⟨y, rfl⟩ := Int.eq_ofNat_of_zero_le (a := y) (by omega)
    exact ⟨x, y, by omega, by omega, hv⟩
  have w2 : ∃ s : ByteArray, v2 = .string s ∧ s.size ≤ 9223372036854775807 := by
    obtain ⟨fuel, hf⟩ := h2
    obtain ⟨s, rfl⟩ := okWide_string Try.underlying9 (hval 2 9 v2 rfl rfl)
    obtain ⟨s', e, _, hs⟩ := DataW.trod_string Try.underlying9 hf
    simp [Value.cells] at e
    subst e
    exact ⟨_, rfl, by unfold maxLen at hs; omega⟩
  clear hA0 hval0
  obtain ⟨bl, off, hm, hao, hst⟩ := w0
  obtain ⟨x0, x1, hx0, hx1, rfl⟩ := w1
  obtain ⟨s, rfl, hs⟩ := w2
  refine (broken_walk a0 bl off len0 cap0 x0 x1 s W hm hao hst hx0 hx1 hs).mono fun e W' ⟨he, bel⟩ => ?_
  subst he
  exact ⟨_, rfl, _, _, _, [], _, [], hW', trodAll_mk1 (shut_bool Try.underlying4 _), (trodAll_cons_mk (Below.trod laidOut (by kernel_rfl) (of_decide_eq_true (by kernel_rfl)) k0 bel lt0) (trodAll_cons_mk (Below.trod laidOut (by kernel_rfl) (of_decide_eq_true (by kernel_rfl)) k1 bel lt1) (trodAll_cons_mk (Below.trod laidOut (by kernel_rfl) (of_decide_eq_true (by kernel_rfl)) k2 bel lt2) trodAll_mk0))), rfl, bel.frame _, fun h => by cases h⟩

theorem over : Rows.frameBrokenRow.holds Try.pinned (OpenSpec.ofChange Rows.frameBrokenSpec) :=
  OpenClaim.holds_of_wide 6 Try.f6 rfl rfl rfl rfl rfl rfl rfl ⟨rfl, rfl, rfl, rfl, rfl⟩ rfl rfl rfl rfl rfl (by kernel_rfl) Try.func6 (by kernel_rfl)
    (of_decide_eq_true (by kernel_rfl)) (by unfold Func.isWrapper; first | (rw [if_pos (by decide +kernel)]; kernel_rfl) | (rw [if_neg (by decide +kernel)]; exact ⟨rfl, rfl⟩))
    (fun os started H enc _ => lifted os started H enc)

theorem proved : Rows.FrameBrokenSaid := over
#print axioms proved
end Go.Proofs.Ytcbkmafekkhpiaa.frameBroken
