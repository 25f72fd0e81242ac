/- The region of Down and Up that reads what a session says, twice. -/
import Derived.Test.YtcljkcgccahlcaaR
namespace Go.Proofs.Ytcljkcgccahlcaa
open Go.RowKit
set_option linter.unusedVariables false

theorem replicate_getD (n j : Nat) : (Array.replicate n false).getD j false = false := by
  by_cases h : j < n <;> simp [h]

theorem wp_call_go {P : Program} {Q : Exit → Act → World → Prop} {o : Oper} {K : Act → World → Prop} {a : Act} {w : World} (F : FuncId) (xs : Array Operand) (ts : Array TypeId) (ho : o.op = .call { callee := .value (.func F), args := xs, argTypes := ts }) (args : Array Value)
    (hx : #[] ++ xs.map a.eval ++ #[] = args) (hbody : (callFunc F args).run P w = .ok (.enter F args) w) {R : Ending → World → Prop} (h : Calls P F args w R) (hR : ∀ e w', R e w' → ∃ v, e = .returned v ∧ K (a.put o.dst v) w') : o.wp P a w K Q := by
  obtain ⟨d, op, ty, pos, af, gu⟩ := o
  simp only at ho hR
  subst ho
  unfold Oper.wp
  rw [execOp_call_go, hx, hbody, Oper.upon_enter]
  refine h.mono fun e w' he => ?_
  obtain ⟨v, rfl, hk⟩ := hR e w' he
  exact hk

theorem wp_alloc_fams {Q : Exit → Act → World → Prop} {o : Oper} {K : Act → World → Prop} {a : Act} {w : World} (ho : o.op = .alloc 78) (h : K (a.put o.dst (.pointer (some ⟨w.heap.size, 0, none⟩))) (w.alloc (.cells (fC nil0) 78))) : o.wp Try.prog a w K Q := by
  have z := zeroF w
  unfold Oper.wp execOp
  simp [ho, go_sem, z]
  exact h

theorem call_of_body (c : Array Value) (w : World) : (callFunc 29 #[.agg c]).run Try.prog w = .ok (.enter 29 #[.agg c]) w := by kernel_rfl
theorem call_stands_body (c : Array Value) (b : Bool) (w : World) : (callFunc 30 #[.agg c, .bool b]).run Try.prog w = .ok (.enter 30 #[.agg c, .bool b]) w := by kernel_rfl

/-- The region's operations. -/
structure PairOps (ops : Array Oper) (s : Slots) (sb : Nat) (only : Bool) : Prop where
  o0 : ∃ o, ops[0]? = some o ∧ o.guard = none ∧ o.op = .load 26 (.tmp sb) ∧ o.dst = some s.l1
  o1 : ∃ o, ops[1]? = some o ∧ o.guard = none ∧ o.op = .call { callee := .value (.func 29), args := #[.tmp s.l1], argTypes := #[26] } ∧ o.dst = some s.r1
  o2 : ∃ o, ops[2]? = some o ∧ o.guard = none ∧ o.op = .load 26 (.tmp sb) ∧ o.dst = some s.l2
  o3 : ∃ o, ops[3]? = some o ∧ o.guard = none ∧ o.op = .call { callee := .value (.func 30), args := #[.tmp s.l2, .const (.bool only)], argTypes := #[26, 4] } ∧ o.dst = some s.r2
  o4 : ∃ o, ops[4]? = some o ∧ o.guard = none ∧ o.op = .alloc 78 ∧ o.dst = some s.v1
  o5 : ∃ o, ops[5]? = some o ∧ o.guard = none ∧ o.op = .alloc 78 ∧ o.dst = some s.v2
  o6 : ∃ o, ops[6]? = some o ∧ o.guard = none ∧ o.op = .store 78 (.tmp s.v1) (.tmp s.r1) ∧ o.dst = none
  o7 : ∃ o, ops[7]? = some o ∧ o.guard = none ∧ o.op = .store 78 (.tmp s.v2) (.tmp s.r2) ∧ o.dst = none
  w10 : After ops 1 0
  w32 : After ops 3 2
  w64 : After ops 6 4
  w61 : After ops 6 1
  w75 : After ops 7 5
  w73 : After ops 7 3
  edges : Early ops
  size : ops.size = 8

/-- The region: 'all, told := of(s), stands(s, only)'. -/
theorem pair_region {ops : Array Oper} {id : Nat} {Q : Exit → Act → World → Prop} {a0 : Act} {W : World} (s : Slots) (sb : Nat) (only : Bool) (c : Array Value) (F : List Int) (K : List (Int × Bool)) (gr : Bool) (time : Int) (B1 : Nat)
    (hses : Ses W c F K gr time) (hB1 : W.heap[B1]? = some (.cells c 26 (0, 0))) (hnd : s.list.Nodup) (hsb : sb ∉ s.list) (hlt : ∀ k ∈ s.list, k < a0.tmps.size)
    (hb0 : a0.tmps.getD sb undef = .pointer (some ⟨B1, 0, none⟩)) (hv1 : a0.tmps.getD s.v1 undef = undef) (hv2 : a0.tmps.getD s.v2 undef = undef)
    (ho : PairOps ops s sb only)
    (hQ : ∀ a w x y, a.tmps.getD s.v1 undef = .pointer (some ⟨x, 0, none⟩) → a.tmps.getD s.v2 undef = .pointer (some ⟨y, 0, none⟩) → a.tmps.size = a0.tmps.size → a.defers = a0.defers → (∀ j, j ∉ s.list → a.tmps.getD j undef = a0.tmps.getD j undef) →
      W.heap.size ≤ x → W.heap.size ≤ y → w.heap[x]? = some (.cells (fC (ofP F)) 78 (0, 0)) → w.heap[y]? = some (.cells (fC (standsP K only)) 78 (0, 0)) → Below W.heap.size W w → Q .normal a w) : (Code.region id ops true).wp Try.prog Q a0 W := by
  obtain ⟨⟨q0, i0, g0, p0, d0⟩, ⟨q1, i1, g1, p1, d1⟩, ⟨q2, i2, g2, p2, d2⟩, ⟨q3, i3, g3, p3, d3⟩, ⟨q4, i4, g4, p4, d4⟩, ⟨q5, i5, g5, p5, d5⟩, ⟨q6, i6, g6, p6, d6⟩, ⟨q7, i7, g7, p7, d7⟩, w10, w32, w64, w61, w75, w73, hed, hsize⟩ := ho
  obtain ⟨n1, n2, n3, n4, n5, n6, n7, n8, n9, n10, n11, n12, n13, n14, n15⟩ := nodup_ne hnd
  refine wp_region_any (by kernel_rfl) (wpAny_inv hed.edges (PInv s W.heap.size W c (ofP F) (standsP K only) a0) ?_ ?_ _ _ _ _ (by simp) (left_replicate _) ?_)
  · intro i l a w hr hI
    have hsz := hI.thru.bel.size
    have hsess := hses.below hI.thru.bel
    have hB1' : w.heap[B1]? = some (.cells c 26 (0, 0)) := (hI.thru.bel.block _ (lt_of_block hB1)).trans hB1
    have hbox : a.tmps.getD sb undef = .pointer (some ⟨B1, 0, none⟩) := (hI.thru.rest sb hsb).trans hb0
    have hla := (mem_ready.1 hr).1
    have hi8 : i < 8 := by
      obtain ⟨_, o, ho, _⟩ := mem_ready.1 hr
      have := (Array.getElem?_eq_some_iff.1 ho).1
      omega
    have hlt' : ∀ k ∈ s.list, k < a.tmps.size := fun k hk => by rw [hI.thru.size]; exact hlt k hk
    match i, hi8 with
    | 0, _ =>
      refine wpOp_of i0 g0 (wp_load_row 26 (.tmp sb) p0 B1 hbox 26 c (0, 0) _ hB1' Try.underlying26 rfl (by rw [hses.size]; kernel_rfl) ?_)
      rw [d0]
      refine hI.step 0 (by omega) (hI.thru.put s.l1 _ (by simp [Slots.list]) n4 n5 (Below.refl _ _) hsz) (by omega) (by omega) (tmps_put_same _ _ _ (hlt' _ (by simp [Slots.list]))) (fun j h8 hj _ _ hf => ?_) hla
      refine fct_keep j (fun k hk => tmps_put_ne _ _ _ _ ?_) (fun _ _ => rfl) hf
      match j, h8 with
      | 0, _ => exact absurd rfl hj
      | 1, _ => simp only [slotsOf, List.mem_singleton] at hk; subst hk; first | assumption | (apply Ne.symm; assumption)
      | 2, _ => simp only [slotsOf, List.mem_singleton] at hk; subst hk; first | assumption | (apply Ne.symm; assumption)
      | 3, _ => simp only [slotsOf, List.mem_singleton] at hk; subst hk; first | assumption | (apply Ne.symm; assumption)
      | 4, _ => simp only [slotsOf, List.mem_singleton] at hk; subst hk; first | assumption | (apply Ne.symm; assumption)
      | 5, _ => simp only [slotsOf, List.mem_singleton] at hk; subst hk; first | assumption | (apply Ne.symm; assumption)
      | 6, _ => simp only [slotsOf, List.mem_singleton] at hk; subst hk; first | assumption | (apply Ne.symm; assumption)
      | 7, _ => simp only [slotsOf, List.mem_singleton] at hk; subst hk; first | assumption | (apply Ne.symm; assumption)
    | 1, _ =>
      have hl1 : a.tmps.getD s.l1 undef = .agg c := hI.fct 0 (w10.listed hr)
      refine wpOp_of i1 g1 (wp_call_go 29 _ _ p1 #[.agg c] (by simpa [Act.eval] using hl1) (call_of_body c w) (of_any c F K gr time w hsess) ?_)
      rintro e w' ⟨rfl, hb⟩
      refine ⟨_, rfl, ?_⟩
      rw [d1]
      refine hI.step 1 (by omega) (hI.thru.put s.r1 _ (by simp [Slots.list]) n8 n9 hb hsz) (by omega) (by omega) (tmps_put_same _ _ _ (hlt' _ (by simp [Slots.list]))) (fun j h8 hj _ _ hf => ?_) hla
      refine fct_keep j (fun k hk => tmps_put_ne _ _ _ _ ?_) (fun x hx => hb.block x hx) hf
      match j, h8 with
      | 0, _ => simp only [slotsOf, List.mem_singleton] at hk; subst hk; first | assumption | (apply Ne.symm; assumption)
      | 1, _ => exact absurd rfl hj
      | 2, _ => simp only [slotsOf, List.mem_singleton] at hk; subst hk; first | assumption | (apply Ne.symm; assumption)
      | 3, _ => simp only [slotsOf, List.mem_singleton] at hk; subst hk; first | assumption | (apply Ne.symm; assumption)
      | 4, _ => simp only [slotsOf, List.mem_singleton] at hk; subst hk; first | assumption | (apply Ne.symm; assumption)
      | 5, _ => simp only [slotsOf, List.mem_singleton] at hk; subst hk; first | assumption | (apply Ne.symm; assumption)
      | 6, _ => simp only [slotsOf, List.mem_singleton] at hk; subst hk; first | assumption | (apply Ne.symm; assumption)
      | 7, _ => simp only [slotsOf, List.mem_singleton] at hk; subst hk; first | assumption | (apply Ne.symm; assumption)
    | 2, _ =>
      refine wpOp_of i2 g2 (wp_load_row 26 (.tmp sb) p2 B1 hbox 26 c (0, 0) _ hB1' Try.underlying26 rfl (by rw [hses.size]; kernel_rfl) ?_)
      rw [d2]
      refine hI.step 2 (by omega) (hI.thru.put s.l2 _ (by simp [Slots.list]) n11 n12 (Below.refl _ _) hsz) (by omega) (by omega) (tmps_put_same _ _ _ (hlt' _ (by simp [Slots.list]))) (fun j h8 hj _ _ hf => ?_) hla
      refine fct_keep j (fun k hk => tmps_put_ne _ _ _ _ ?_) (fun _ _ => rfl) hf
      match j, h8 with
      | 0, _ => simp only [slotsOf, List.mem_singleton] at hk; subst hk; first | assumption | (apply Ne.symm; assumption)
      | 1, _ => simp only [slotsOf, List.mem_singleton] at hk; subst hk; first | assumption | (apply Ne.symm; assumption)
      | 2, _ => exact absurd rfl hj
      | 3, _ => simp only [slotsOf, List.mem_singleton] at hk; subst hk; first | assumption | (apply Ne.symm; assumption)
      | 4, _ => simp only [slotsOf, List.mem_singleton] at hk; subst hk; first | assumption | (apply Ne.symm; assumption)
      | 5, _ => simp only [slotsOf, List.mem_singleton] at hk; subst hk; first | assumption | (apply Ne.symm; assumption)
      | 6, _ => simp only [slotsOf, List.mem_singleton] at hk; subst hk; first | assumption | (apply Ne.symm; assumption)
      | 7, _ => simp only [slotsOf, List.mem_singleton] at hk; subst hk; first | assumption | (apply Ne.symm; assumption)
    | 3, _ =>
      have hl2 : a.tmps.getD s.l2 undef = .agg c := hI.fct 2 (w32.listed hr)
      refine wpOp_of i3 g3 (wp_call_go 30 _ _ p3 #[.agg c, .bool only] (by simpa [Act.eval] using hl2) (call_stands_body c only w) (stands_any c F K gr time only w hsess) ?_)
      rintro e w' ⟨rfl, hb⟩
      refine ⟨_, rfl, ?_⟩
      rw [d3]
      refine hI.step 3 (by omega) (hI.thru.put s.r2 _ (by simp [Slots.list]) n13 n14 hb hsz) (by omega) (by omega) (tmps_put_same _ _ _ (hlt' _ (by simp [Slots.list]))) (fun j h8 hj _ _ hf => ?_) hla
      refine fct_keep j (fun k hk => tmps_put_ne _ _ _ _ ?_) (fun x hx => hb.block x hx) hf
      match j, h8 with
      | 0, _ => simp only [slotsOf, List.mem_singleton] at hk; subst hk; first | assumption | (apply Ne.symm; assumption)
      | 1, _ => simp only [slotsOf, List.mem_singleton] at hk; subst hk; first | assumption | (apply Ne.symm; assumption)
      | 2, _ => simp only [slotsOf, List.mem_singleton] at hk; subst hk; first | assumption | (apply Ne.symm; assumption)
      | 3, _ => exact absurd rfl hj
      | 4, _ => simp only [slotsOf, List.mem_singleton] at hk; subst hk; first | assumption | (apply Ne.symm; assumption)
      | 5, _ => simp only [slotsOf, List.mem_singleton] at hk; subst hk; first | assumption | (apply Ne.symm; assumption)
      | 6, _ => simp only [slotsOf, List.mem_singleton] at hk; subst hk; first | assumption | (apply Ne.symm; assumption)
      | 7, _ => simp only [slotsOf, List.mem_singleton] at hk; subst hk; first | assumption | (apply Ne.symm; assumption)
    | 4, _ =>
      refine wpOp_of i4 g4 (wp_alloc_fams p4 ?_)
      rw [d4]
      have hb : Below w.heap.size w (w.alloc (.cells (fC nil0) 78)) := (Below.refl _ _).alloc (Nat.le_refl _) _
      have hput := tmps_put_same a s.v1 (.pointer (some ⟨w.heap.size, 0, none⟩)) (hlt' _ (by simp [Slots.list]))
      have hth : Thru s W.heap.size W a0 (a.put (some s.v1) (.pointer (some ⟨w.heap.size, 0, none⟩))) (w.alloc (.cells (fC nil0) 78)) := by
        refine ⟨hI.thru.defers, by simp [Act.put, hI.thru.size], fun j hj => ?_, hI.thru.bel.trans (hb.mono hsz), fun x hx => ?_, fun x hx => ?_, fun x hx hx2 => ?_⟩
        · rw [tmps_put_ne _ _ _ _ (fun e => hj (by rw [e]; simp [Slots.list]))]; exact hI.thru.rest j hj
        · rw [hput] at hx; simp at hx; subst hx; simp
        · rw [tmps_put_ne _ _ _ _ n15.symm] at hx; have := hI.thru.x2 x hx; simp; omega
        · rw [hput] at hx; rw [tmps_put_ne _ _ _ _ n15.symm] at hx2; simp at hx; subst hx; exact Nat.lt_irrefl _ (hI.thru.x2 _ hx2)
      refine hI.step 4 (by omega) hth (by omega) (by omega) ⟨w.heap.size, _, hput, hsz, heap_alloc_new _ _, rfl⟩ (fun j h8 hj hx4 hx5 hf => ?_) hla
      have hx : j ≠ 6 := hx4 rfl
      refine fct_keep j (fun k hk => tmps_put_ne _ _ _ _ ?_) (fun x hx => hb.block x hx) hf
      match j, h8 with
      | 0, _ => simp only [slotsOf, List.mem_singleton] at hk; subst hk; first | assumption | (apply Ne.symm; assumption)
      | 1, _ => simp only [slotsOf, List.mem_singleton] at hk; subst hk; first | assumption | (apply Ne.symm; assumption)
      | 2, _ => simp only [slotsOf, List.mem_singleton] at hk; subst hk; first | assumption | (apply Ne.symm; assumption)
      | 3, _ => simp only [slotsOf, List.mem_singleton] at hk; subst hk; first | assumption | (apply Ne.symm; assumption)
      | 4, _ => exact absurd rfl hj
      | 5, _ => simp only [slotsOf, List.mem_singleton] at hk; subst hk; first | assumption | (apply Ne.symm; assumption)
      | 6, _ => exact absurd rfl hx
      | 7, _ => simp only [slotsOf, List.mem_singleton] at hk; subst hk; first | assumption | (apply Ne.symm; assumption)
    | 5, _ =>
      refine wpOp_of i5 g5 (wp_alloc_fams p5 ?_)
      rw [d5]
      have hb : Below w.heap.size w (w.alloc (.cells (fC nil0) 78)) := (Below.refl _ _).alloc (Nat.le_refl _) _
      have hput := tmps_put_same a s.v2 (.pointer (some ⟨w.heap.size, 0, none⟩)) (hlt' _ (by simp [Slots.list]))
      have hth : Thru s W.heap.size W a0 (a.put (some s.v2) (.pointer (some ⟨w.heap.size, 0, none⟩))) (w.alloc (.cells (fC nil0) 78)) := by
        refine ⟨hI.thru.defers, by simp [Act.put, hI.thru.size], fun j hj => ?_, hI.thru.bel.trans (hb.mono hsz), fun x hx => ?_, fun x hx => ?_, fun x hx hx2 => ?_⟩
        · rw [tmps_put_ne _ _ _ _ (fun e => hj (by rw [e]; simp [Slots.list]))]; exact hI.thru.rest j hj
        · rw [tmps_put_ne _ _ _ _ n15] at hx; have := hI.thru.x1 x hx; simp; omega
        · rw [hput] at hx; simp at hx; subst hx; simp
        · rw [hput] at hx2; rw [tmps_put_ne _ _ _ _ n15] at hx; simp at hx2; subst hx2; exact Nat.lt_irrefl _ (hI.thru.x1 _ hx)
      refine hI.step 5 (by omega) hth (by omega) (by omega) ⟨w.heap.size, _, hput, hsz, heap_alloc_new _ _, rfl⟩ (fun j h8 hj hx4 hx5 hf => ?_) hla
      have hx : j ≠ 7 := hx5 rfl
      refine fct_keep j (fun k hk => tmps_put_ne _ _ _ _ ?_) (fun x hx => hb.block x hx) hf
      match j, h8 with
      | 0, _ => simp only [slotsOf, List.mem_singleton] at hk; subst hk; first | assumption | (apply Ne.symm; assumption)
      | 1, _ => simp only [slotsOf, List.mem_singleton] at hk; subst hk; first | assumption | (apply Ne.symm; assumption)
      | 2, _ => simp only [slotsOf, List.mem_singleton] at hk; subst hk; first | assumption | (apply Ne.symm; assumption)
      | 3, _ => simp only [slotsOf, List.mem_singleton] at hk; subst hk; first | assumption | (apply Ne.symm; assumption)
      | 4, _ => simp only [slotsOf, List.mem_singleton] at hk; subst hk; first | assumption | (apply Ne.symm; assumption)
      | 5, _ => exact absurd rfl hj
      | 6, _ => simp only [slotsOf, List.mem_singleton] at hk; subst hk; first | assumption | (apply Ne.symm; assumption)
      | 7, _ => exact absurd rfl hx
    | 6, _ =>
      obtain ⟨x, cs, hx, hBx, hxb, hcs⟩ := hI.fct 4 (w64.listed hr)
      have hr1 := hI.fct 1 (w61.listed hr)
      refine wpOp_of i6 g6 (wp_store_row 78 (.tmp s.v1) (.tmp s.r1) p6 x (fC (ofP F)) hx hr1 78 cs hxb sizeF (by rw [hcs]; rfl) (by simp [fC, Value.oneCell']) ?_)
      rw [d6]
      have hoth : ∀ y, y ≠ x → (w.setRow x (fC (ofP F))).heap[y]? = w.heap[y]? := fun y hy => setRow_other _ _ _ _ hy
      have hth : Thru s W.heap.size W a0 (a.put none undef) (w.setRow x (fC (ofP F))) := by
        refine ⟨hI.thru.defers, hI.thru.size, hI.thru.rest, hI.thru.bel.trans ⟨rfl, rfl, rfl, by simp, fun k hk => hoth k (by omega)⟩, fun y hy => by simp; exact hI.thru.x1 y hy, fun y hy => by simp; exact hI.thru.x2 y hy, hI.thru.ne⟩
      refine hI.step 6 (by omega) hth (fun _ => w64.listed hr) (by omega) ⟨x, hx, setRow_heap _ _ _ _ _ _ hxb⟩ (fun j h8 hj _ _ hf => ?_) hla
      match j, h8 with
      | 0, _ => exact hf
      | 1, _ => exact hf
      | 2, _ => exact hf
      | 3, _ => exact hf
      | 4, _ =>
        obtain ⟨y, cs', q1, q2, q3, q4⟩ := hf; obtain rfl : y = x := by rw [hx] at q1; simpa using q1.symm
        exact ⟨y, _, q1, q2, setRow_heap _ _ _ _ _ _ hxb, rfl⟩
      | 5, _ => obtain ⟨y, cs', q1, q2, q3, q4⟩ := hf; exact ⟨y, cs', q1, q2, (hoth y (fun e => hI.thru.ne x hx (e ▸ q1))).trans q3, q4⟩
      | 6, _ => exact absurd rfl hj
      | 7, _ => obtain ⟨y, q1, q3⟩ := hf; exact ⟨y, q1, (hoth y (fun e => hI.thru.ne x hx (e ▸ q1))).trans q3⟩
    | 7, _ =>
      obtain ⟨x, cs, hx, hBx, hxb, hcs⟩ := hI.fct 5 (w75.listed hr)
      have hr1 := hI.fct 3 (w73.listed hr)
      refine wpOp_of i7 g7 (wp_store_row 78 (.tmp s.v2) (.tmp s.r2) p7 x (fC (standsP K only)) hx hr1 78 cs hxb sizeF (by rw [hcs]; rfl) (by simp [fC, Value.oneCell']) ?_)
      rw [d7]
      have hoth : ∀ y, y ≠ x → (w.setRow x (fC (standsP K only))).heap[y]? = w.heap[y]? := fun y hy => setRow_other _ _ _ _ hy
      have hth : Thru s W.heap.size W a0 (a.put none undef) (w.setRow x (fC (standsP K only))) := by
        refine ⟨hI.thru.defers, hI.thru.size, hI.thru.rest, hI.thru.bel.trans ⟨rfl, rfl, rfl, by simp, fun k hk => hoth k (by omega)⟩, fun y hy => by simp; exact hI.thru.x1 y hy, fun y hy => by simp; exact hI.thru.x2 y hy, hI.thru.ne⟩
      refine hI.step 7 (by omega) hth (by omega) (fun _ => w75.listed hr) ⟨x, hx, setRow_heap _ _ _ _ _ _ hxb⟩ (fun j h8 hj _ _ hf => ?_) hla
      match j, h8 with
      | 0, _ => exact hf
      | 1, _ => exact hf
      | 2, _ => exact hf
      | 3, _ => exact hf
      | 4, _ => obtain ⟨y, cs', q1, q2, q3, q4⟩ := hf; exact ⟨y, cs', q1, q2, (hoth y (fun e => hI.thru.ne y q1 (e ▸ hx))).trans q3, q4⟩
      | 5, _ =>
        obtain ⟨y, cs', q1, q2, q3, q4⟩ := hf; obtain rfl : y = x := by rw [hx] at q1; simpa using q1.symm
        exact ⟨y, _, q1, q2, setRow_heap _ _ _ _ _ _ hxb, rfl⟩
      | 6, _ => obtain ⟨y, q1, q3⟩ := hf; exact ⟨y, q1, (hoth y (fun e => hI.thru.ne y q1 (e ▸ hx))).trans q3⟩
      | 7, _ => exact absurd rfl hj
  · intro l a w hall hI
    obtain ⟨x, _, hx, hBx, _⟩ := hI.fct 4 (hall 4 (by omega))
    obtain ⟨y, _, hy, hBy, _⟩ := hI.fct 5 (hall 5 (by omega))
    obtain ⟨x', hx', hxb⟩ := hI.fct 6 (hall 6 (by omega))
    obtain ⟨y', hy', hyb⟩ := hI.fct 7 (hall 7 (by omega))
    obtain rfl : x' = x := by rw [hx] at hx'; simpa using hx'.symm
    obtain rfl : y' = y := by rw [hy] at hy'; simpa using hy'.symm
    exact hQ a w _ _ hx hy hI.thru.size hI.thru.defers hI.thru.rest hBx hBy hxb hyb hI.thru.bel
  · refine ⟨⟨rfl, rfl, fun _ _ => rfl, ⟨rfl, rfl, rfl, Nat.le_refl _, fun _ _ => rfl⟩, ?_, ?_, ?_⟩, ?_, ?_, ?_⟩
    · intro x hx; rw [hv1] at hx; cases hx
    · intro x hx; rw [hv2] at hx; cases hx
    · intro x hx; rw [hv1] at hx; cases hx
    · intro h; rw [replicate_getD] at h; cases h
    · intro h; rw [replicate_getD] at h; cases h
    · intro j h; rw [replicate_getD] at h; cases h
end Go.Proofs.Ytcljkcgccahlcaa
