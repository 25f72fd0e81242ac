/- Rows.DrawPlaysSaid: for every list of steps heraldlaw14's DrawPlays answers true, and its argument reads as before; no conditions. -/
import Derived.Test.YtohlppmalinooaaH
import Derived.ProofKit
import Derived.OpenShut
import Derived.ChangeOld
import Derived.Below
import Derived.Deep.Slices
import Derived.Deep.Fields
import Derived.ChangeSame
namespace Go.Proofs.Ytohlppmalinooaa.drawPlays
open Go.ChangeShapes Go.WideShapes Go.ChangeAt Go.RowKit Go.Deep
set_option linter.unusedVariables false

section
variable {H : Type} {enc : TypeId × Value → H} {P : Program} {w : World} {base : Nat} {spare : Nat → Bool} {held : Bool}
theorem open_slice_fields {t e : TypeId} {fs : Array Field} {fuel : Nat} {cs : List Value} {x : DataW H × List MemPlace} (ht : P.underlying t = some (.slice e)) (he : P.underlying e = some (.struct fs))
    (hone : oneCellFields P fs = true) (hC : P.cellsOf e = fs.size) (h : DataW.trod enc P w base spare held fuel t cs = some x) :
    (cs = [.slice none 0 0] ∧ x = (.nil, [])) ∨
    ∃ (a : Addr) (len cap m : Nat) (D : Nat → DataW H) (Pl : Nat → List MemPlace), cs = [.slice (some a) len cap] ∧ base ≤ a.block ∧ len ≤ cap ∧ cap ≤ maxLen ∧ m = (if spare a.block then cap else len) ∧
      x = (.slice ((List.range len).map D) ((List.range (m - len)).map fun j => D (len + j)), MemPlace.row a (m * fs.size) ++ (List.range m).flatMap Pl) ∧
      ∀ i, i < m → ∃ (ys : List (DataW H × List MemPlace)) (n : Nat), D i = .agg (ys.map (·.1)) ∧ Pl i = ys.flatMap (·.2) ∧ ys.length = fs.size ∧
        ∀ (j : Nat) (f : Field), fs[j]? = some f → ∃ (v : Value) (y : DataW H × List MemPlace), w.cell? (a.add (i * fs.size + j)) = some v ∧ ys[j]? = some y ∧ DataW.trod enc P w base spare held n f.type [v] = some y := by
  rcases open_slice ht h with h0 | ⟨a, len, cap, m, n, D, Pl, hcs, hb, hl, hm, hmm, hx, hi⟩
  · exact .inl h0
  · refine .inr ⟨a, len, cap, m, D, Pl, hcs, hb, hl, hm, hmm, by rw [hC] at hx; exact hx, fun i him => ?_⟩
    obtain ⟨cs', hc, ht'⟩ := hi i him
    rw [hC] at hc
    obtain ⟨ys, n', hn', hy, hlen, hyl, hf⟩ := DataW.trod_struct he ht'
    obtain ⟨_, hcl, hat⟩ := World.cells?_some hc
    simp only [Prod.mk.injEq] at hy
    refine ⟨ys, n', hy.1, hy.2, hyl, fun j f hj => ?_⟩
    obtain ⟨ho, hk⟩ := hone_of hone j f hj
    have hjl : j < fs.size := (Array.getElem?_eq_some_iff.1 hj).1
    have hcell := hat j hjl
    have hv : cs'[j]? = some (cs'[j]'(by omega)) := List.getElem?_eq_getElem (by omega)
    have h1 := hf j f hj
    rw [ho, hk] at h1
    have hone' : (cs'.drop j).take 1 = [cs'[j]'(by omega)] := by
      rw [List.drop_eq_getElem_cons (by omega)]
      rfl
    rw [hone'] at h1
    have hys : ys[j]? = some (ys[j]'(by omega)) := List.getElem?_eq_getElem (by omega)
    refine ⟨_, _, ?_, hys, h1.trans hys⟩
    rw [← Go.Deep.add_add, hcell, hv]
end

theorem laidOut : laidOutB Try.prog = true := by kernel_rfl
theorem own : ownKnob Try.prog.godebug = none := by kernel_rfl

/-- What the walk is told of the steps: none; or a row of structs of three numbers. -/
def IsDos (w : World) (ao : Option Addr) (len cap : Nat) : Prop :=
  len = 0 ∨ ∃ a : Addr, ao = some a ∧ len ≤ cap ∧ cap ≤ maxLen ∧ a.block < w.heap.size ∧ ∀ i, i < len → ∃ x y z : Int, w.cell? (a.add (i * 3)) = some (.int .i64 x) ∧ w.cell? (a.add (i * 3 + 1)) = some (.int .u32 y) ∧ w.cell? (a.add (i * 3 + 2)) = some (.int .i64 z) ∧
    (0 ≤ y ∧ y < 4294967296) ∧ z < 9223372036854775808

theorem add_of (a : Addr) (h : a.spot = none) (j : Nat) : a.add j = ⟨a.block, a.off + j, none⟩ := by
  cases a; simp at h; subst h; rw [Addr.add_lit]

theorem cell_spot {w : World} {a : Addr} {v : Value} (h : w.cell? a = some v) : a.spot = none := by
  unfold World.cell? at h
  split at h
  · split at h
    · cases h
    · rename_i hs
      cases hsp : a.spot with
      | none => rfl
      | some _ => simp [hsp] at hs
  · cases h

theorem walk (ao : Option Addr) (len cap : Nat) (w : World) (h : IsDos w ao len cap) :
    Calls Try.prog 5 #[.slice ao len cap] w fun e w' => e = .returned (.bool true) ∧ Below w.heap.size w w' := by
  rcases h with rfl | ⟨a, rfl, h1, h2, h3, h4⟩
  · exact plays_nil _ _ w
  · rcases Nat.eq_zero_or_pos len with rfl | hpos
    · exact plays_nil _ _ w
    · have hsp : a.spot = none := by
        obtain ⟨x, y, z, hx, _⟩ := h4 0 hpos
        have := cell_spot hx
        cases a with | mk b o s => cases s <;> simp [Addr.add] at this ⊢
      obtain ⟨bl, off, sp⟩ := a
      simp at hsp h3
      subst hsp
      have g : ∀ i, ∃ x y z : Int, i < len → w.cell? ⟨bl, off + i * 3, none⟩ = some (.int .i64 x) ∧ w.cell? ⟨bl, off + i * 3 + 1, none⟩ = some (.int .u32 y) ∧ w.cell? ⟨bl, off + i * 3 + 2, none⟩ = some (.int .i64 z) ∧ (0 ≤ y ∧ y < 4294967296) ∧ z < 9223372036854775808 := by
        intro i
        by_cases hi : i < len
        · obtain ⟨x, y, z, q1, q2, q3, q4, q5⟩ := h4 i hi
          rw [Addr.add_lit] at q1 q2 q3
          exact ⟨x, y, z, fun _ => ⟨q1, q2, q3, q4, q5⟩⟩
        · exact ⟨0, 0, 0, fun h => absurd h hi⟩
      refine plays_walk bl off len cap (fun i => Classical.choose (g i)) (fun i => Classical.choose (Classical.choose_spec (g i))) (fun i => Classical.choose (Classical.choose_spec (Classical.choose_spec (g i)))) w (by unfold maxLen at h2; omega) h3
        (fun i hi => (Classical.choose_spec (Classical.choose_spec (Classical.choose_spec (g i))) hi).1) (fun i hi => (Classical.choose_spec (Classical.choose_spec (Classical.choose_spec (g i))) hi).2.1)
        (fun i hi => (Classical.choose_spec (Classical.choose_spec (Classical.choose_spec (g i))) hi).2.2.1) (fun i hi => (Classical.choose_spec (Classical.choose_spec (Classical.choose_spec (g i))) hi).2.2.2.1)
        (fun i hi => (Classical.choose_spec (Classical.choose_spec (Classical.choose_spec (g i))) hi).2.2.2.2)

theorem isDos_of {H : Type} {enc : TypeId × Value → H} {w : World} {fuel : Nat} {ao : Option Addr} {len cap : Nat} {x : DataW H × List MemPlace} {spare : Nat → Bool} {held : Bool}
    (h : DataW.trod enc Try.prog w 0 spare held fuel 26 [.slice ao len cap] = some x) : IsDos w ao len cap := by
  rcases open_slice_fields Try.underlying26 Try.underlying31 (by kernel_rfl) (by kernel_rfl) h with ⟨hcs, _⟩ | ⟨a, l, c, m, D, Pl, hcs, _, hl, hm, hmm, _, hi⟩
  · simp at hcs
    exact .inl hcs.2.1
  · simp at hcs
    obtain ⟨rfl, rfl, rfl⟩ := hcs
    rcases Nat.eq_zero_or_pos len with h0 | hpos
    · exact .inl h0
    have hlm : len ≤ m := by rw [hmm]; split <;> omega
    have hat : ∀ i, i < len → ∃ x y z : Int, w.cell? (a.add (i * 3)) = some (.int .i64 x) ∧ w.cell? (a.add (i * 3 + 1)) = some (.int .u32 y) ∧ w.cell? (a.add (i * 3 + 2)) = some (.int .i64 z) ∧ (0 ≤ y ∧ y < 4294967296) ∧ z < 9223372036854775808 := by
      intro i hlt
      obtain ⟨ys, n, _, _, _, hf⟩ := hi i (by omega)
      obtain ⟨v0, y0, c0, _, t0⟩ := hf 0 _ rfl
      obtain ⟨v1, y1, c1, _, t1⟩ := hf 1 _ rfl
      obtain ⟨v2, y2, c2, _, t2⟩ := hf 2 _ rfl
      obtain ⟨x, e0, _, _⟩ := DataW.trod_int Try.underlying3 t0
      obtain ⟨y, e1, _, w1⟩ := DataW.trod_int Try.underlying22 t1
      obtain ⟨z, e2, _, w2⟩ := DataW.trod_int Try.underlying3 t2
      simp at e0 e1 e2
      subst e0 e1 e2
      have b1 := bounds_u32 w1
      have b2 := bounds_i64 w2
      exact ⟨x, y, z, c0, c1, c2, ⟨by omega, by omega⟩, by omega⟩
    obtain ⟨x, _, _, hx, _⟩ := hat 0 hpos
    refine .inr ⟨a, rfl, hl, hm, ?_, hat⟩
    have := World.block_lt_of_cell? _ _ hx
    simpa [Addr.add] using this

/-! ### THE ROW's STEP -/
set_option maxRecDepth 100000 in
theorem lifted (os : Os) (started : os.Started) (H : Type) (enc : TypeId × Value → H) :
    ReturnsInHanded {} Try.checked os 5 .any (Rows.drawPlaysSpec.pre6 enc Try.prog Try.f5 Rows.drawPlaysRow.domain false) (Rows.drawPlaysSpec.post enc Try.prog Try.f5 false true false false) := by
  refine returnsInHanded_of_change (C := Try.checked) own started (by kernel_rfl) Try.func5
    (ChangeSpec.witness6 (enc := enc) (C := Try.checked) false ⟨#[], #[.slice none 0 0], []⟩ 8 (by kernel_rfl) (by kernel_rfl) (by kernel_rfl) (by kernel_rfl)) ?_
  intro W base args ds gs before hval0 hW hcnd _
  have hval : ∀ (j : Nat) t v, Try.f5.params[j]? = some t → args[j]? = some v → Value.okWide Try.prog W .any base t v := hval0
  have hW' := hW
  obtain ⟨p, q, hA0, hV, rfl, hfz, hnd⟩ := hW
  have hA : DataW.TrodAll enc Try.prog W 0 (fun _ => true) true Try.f5.params.toList args.toList ds p := hA0
  rw [Try.params5] at hA hval
  obtain ⟨v0, vs0, d0, ds0, p0, q0, hargs, rfl, rfl, h0, r0⟩ := trodAll_cons hA
  obtain ⟨rfl, rfl, rfl⟩ := trodAll_nil r0
  obtain rfl : args = #[v0] := by cases args; simp_all
  obtain ⟨rfl, rfl⟩ := trodVars_none hV
  obtain ⟨a0, len0, cap0, rfl⟩ := okWide_slice Try.underlying26 (hval 0 26 v0 rfl rfl)
  have k0 := h0
  have lt0 : ∀ x ∈ p0, x.block < W.heap.size := by obtain ⟨m, hm⟩ := k0; exact DataW.trod_lt m _ _ _ hm
  have w0 : IsDos W a0 len0 cap0 := by
    obtain ⟨fuel, hf⟩ := h0
    exact isDos_of (by simpa [Value.cells] using hf)
  clear hA0 hval0
  refine (walk a0 len0 cap0 W w0).mono fun e W' ⟨he, bel⟩ => ?_
  subst he
  exact ⟨_, rfl, _, _, _, [], _, [], hW', trodAll_mk1 (shut_bool Try.underlying4 _), (trodAll_cons_mk (Below.trod laidOut (by kernel_rfl) (of_decide_eq_true (by kernel_rfl)) k0 bel lt0) trodAll_mk0), rfl, bel.frame _, fun h => by cases h⟩

theorem over : Rows.drawPlaysRow.holds Try.pinned (OpenSpec.ofChange Rows.drawPlaysSpec) :=
  OpenClaim.holds_of_wide 5 Try.f5 rfl rfl rfl rfl rfl rfl rfl ⟨rfl, rfl, rfl, rfl, rfl⟩ rfl rfl rfl rfl rfl (by kernel_rfl) Try.func5 (by kernel_rfl)
    (of_decide_eq_true (by kernel_rfl)) (by unfold Func.isWrapper; first | (rw [if_pos (by decide +kernel)]; kernel_rfl) | (rw [if_neg (by decide +kernel)]; exact ⟨rfl, rfl⟩))
    (fun os started H enc _ => lifted os started H enc)

theorem proved : Rows.DrawPlaysSaid := over
#print axioms proved
end Go.Proofs.Ytohlppmalinooaa.drawPlays
