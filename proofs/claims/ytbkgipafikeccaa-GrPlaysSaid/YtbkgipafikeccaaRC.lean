/- heraldref32: Down, Up. -/
import Derived.Test.YtbkgipafikeccaaRB
namespace Go.Proofs.Ytbkgipafikeccaa
open Go.RowKit
set_option linter.unusedVariables false

/-- Two rows of the call's own that grow side by side. -/
structure Two (W wr : World) (vk vg : Value) (lk lg : List Int) : Prop where
  k : wr.ownsRow W.heap.size 3 1 vk lk.length (iv lk)
  g : wr.ownsRow W.heap.size 3 1 vg lg.length (iv lg)
  ne : ∀ b, vk.ownBlock = some b → vg.ownBlock ≠ some b
  bel : Below W.heap.size W wr

theorem wpList_load_rowG {w : World} {ops : Array Oper} {rest : List Oper} {o : Oper} {a : Act} {Q : Exit → Act → World → Prop} (hgd : Region.wanted o (yielded ops a.tmps) = true) (ty : TypeId) (x : Operand) (ho : o.op = .load ty x)
    (g : Nat) (hx : a.eval x = .pointer (some ⟨g, 0, none⟩)) (t : TypeId) (cs : Array Value) (fr : Nat × Nat) (fs : Array Field) (hg : w.heap[g]? = some (.cells cs t fr))
    (hu : Try.prog.underlying ty = some (.struct fs)) (hi : (Try.prog.info? ty).map (·.size) = some cs.size)
    (h : wpList Try.prog ops Q rest (a.put o.dst (.agg cs)) w) : wpList Try.prog ops Q (o :: rest) a w :=
  BigFrame.wpList_want hgd fun _ hK => wp_load_row ty x ho g hx t cs fr _ hg hu rfl hi (hK _ _ h)

theorem Two.swap {W wr : World} {vk vg : Value} {lk lg : List Int} (h : Two W wr vk vg lk lg) : Two W wr vg vk lg lk := ⟨h.g, h.k, (fun b hb hk => h.ne b hk hb), h.bel⟩
theorem Two.nil (W : World) : Two W W (.slice none 0 0) (.slice none 0 0) [] [] := ⟨World.ownsRow_nil W _ _ _, World.ownsRow_nil W _ _ _, (fun b hb => by cases hb), Below.refl _ _⟩
theorem Two.move {W wr w' : World} {vk vg : Value} {lk lg : List Int} (h : Two W wr vk vg lk lg) (hb : Below wr.heap.size wr w') : Two W w' vk vg lk lg :=
  ⟨own_keep h.k fun g hg => hb.block g (own_lt h.k g hg), own_keep h.g fun g hg => hb.block g (own_lt h.g g hg), h.ne, h.bel.trans (hb.mono h.bel.size)⟩
theorem Two.push {W wr w1 : World} {vk vg v' : Value} {lk lg : List Int} {x : Int} {o : Obj} (h : Two W wr vk vg lk lg) (hown : w1.ownsRow W.heap.size 3 1 v' (lk.length + 1) (iv lk ++ [.int .i64 x])) (hgrow : (wr.alloc o).grownBy w1 vk.ownBlock)
    (hf : ∀ b, v'.ownBlock = some b → vk.ownBlock = some b ∨ wr.heap.size + 1 ≤ b) : Two W w1 v' vg (lk ++ [x]) lg := by
  have hsz : (wr.alloc o).heap.size = wr.heap.size + 1 := by simp
  refine ⟨by rw [iv_snoc, List.length_append]; exact hown, own_keep h.g fun g hg => ?_, fun b hb hg => ?_, (h.bel.alloc h.bel.size o).grown hgrow (by have := h.bel.size; omega) (own_ge h.k)⟩
  · have hl := own_lt h.g g hg
    exact (hgrow.block g (by omega) (fun e => h.ne g e.symm hg)).trans (Below.heap_alloc _ _ _ hl)
  · rcases hf b hb with hk | hk
    · exact h.ne b hk hg
    · have := own_lt h.g b hg
      omega

theorem nums_snoc (l : List Nat) (k : Nat) : nums (l ++ [k]) = nums l ++ [(k : Int)] := by simp [nums]
theorem refOf_eq (c : Array Value) (F : List Int) (K : List (Int × Bool)) (gr : Bool) (time : Int) (n : Int) (b : Bool) (w : World) (h : Ses w c F K gr time) (hv : hasB F n = b) :
    Calls Try.prog 34 #[.agg c, .int .i64 n] w fun r w' => r = .returned (.bool b) ∧ Below w.heap.size w w' := hv ▸ refOf_any c F K gr time n w h
theorem refStands_eq (c : Array Value) (F : List Int) (K : List (Int × Bool)) (gr : Bool) (time : Int) (n : Int) (only b : Bool) (w : World) (h : Ses w c F K gr time) (hv : standsB K n only = b) :
    Calls Try.prog 35 #[.agg c, .int .i64 n, .bool only] w fun r w' => r = .returned (.bool b) ∧ Below w.heap.size w w' := hv ▸ refStands_any c F K gr time n only w h
theorem refHas_eq (v : Value) (L : List Int) (n : Int) (b : Bool) (w : World) (h : Rd w v L) (hv : hasB L n = b) : Calls Try.prog 36 #[v, .int .i64 n] w fun e w' => e = .returned (.bool b) ∧ w = w' := hv ▸ refHas_any v L n w h

/-- What the reference's Down leaves. -/
def RefDown (w : World) (st : Nat → Bool) (F : List Int) (K : List (Int × Bool)) (gr : Bool) (time now : Int) (r : Ending) (w' : World) : Prop :=
  ∃ vk vg, r = .returned (.tuple #[.agg #[vk, .int .u64 (atV (famsOf (keepsP F K gr)) time now)], vk, vg, .int .u64 (atV (famsOf (keepsP F K gr)) time now)]) ∧ Below w.heap.size w w' ∧ (∀ b, vk.ownBlock = some b → w.heap.size ≤ b ∧ b < w'.heap.size) ∧ Rd w' vk (nums (famsOf (keepsP F K gr))) ∧ Rd w' vg (nums (famsOf (goneP st F K gr)))

set_option maxHeartbeats 4000000 in
set_option maxRecDepth 100000 in
theorem refDown_any (v : Value) (st : Nat → Bool) (e0 : Int) (c : Array Value) (F : List Int) (K : List (Int × Bool)) (gr : Bool) (time now : Int) (w : World) (h : Rd w v (nums (famsOf st))) (hs : Ses w c F K gr time) (n1 : 0 ≤ now) (n2 : now < 18446744073709551616) :
    Calls Try.prog 15 #[.agg #[v, .int .u64 e0], .agg c, .int .u64 now] w (RefDown w st F K gr time now) := by
  have HSZ := Lib.hid hs.size
  have HN1 := Lib.hid n1
  have HN2 := Lib.hid n2
  have z := fun w => zeroM w
  have t1 := hs.t1
  have t2 := hs.t2
  have HRD0 := Lib.hid h
  have HSE0 := Lib.hid hs
  clear h hs n1 n2
  go_enter Try.func15, Try.ntmps15
  go_wp2_with fail
  have hal : Below w.heap.size w (((w.alloc (.cells #[v, .int .u64 e0] 48)).alloc (.cells c 30)).alloc (.cells #[.slice none 0 0, .int .u64 0] 48)) := (((Below.refl _ _).alloc (Nat.le_refl _) _).alloc (by simp) _).alloc (by simp; omega) _
  have hb3 : (((w.alloc (.cells #[v, .int .u64 e0] 48)).alloc (.cells c 30)).alloc (.cells #[.slice none 0 0, .int .u64 0] 48)).heap[w.heap.size]? = some (.cells #[v, .int .u64 e0] 48 (0, 0)) := by
    rw [Below.heap_alloc _ _ _ (by simp; omega), Below.heap_alloc _ _ _ (by simp)]; exact heap_alloc_new _ _
  have hb4 : (((w.alloc (.cells #[v, .int .u64 e0] 48)).alloc (.cells c 30)).alloc (.cells #[.slice none 0 0, .int .u64 0] 48)).heap[w.heap.size + 1]? = some (.cells c 30 (0, 0)) := by
    rw [Below.heap_alloc _ _ _ (by simp)]; exact heap_alloc2_new _ _ _
  have hb6 : (((w.alloc (.cells #[v, .int .u64 e0] 48)).alloc (.cells c 30)).alloc (.cells #[.slice none 0 0, .int .u64 0] 48)).heap[w.heap.size + 2]? = some (.cells #[.slice none 0 0, .int .u64 0] 48 (0, 0)) := by
    have := heap_alloc_new ((w.alloc (.cells #[v, .int .u64 e0] 48)).alloc (.cells c 30)) (.cells #[.slice none 0 0, .int .u64 0] 48)
    simpa using this
  have hsz : (((w.alloc (.cells #[v, .int .u64 e0] 48)).alloc (.cells c 30)).alloc (.cells #[.slice none 0 0, .int .u64 0] 48)).heap.size = w.heap.size + 3 := by simp
  generalize (((w.alloc (.cells #[v, .int .u64 e0] 48)).alloc (.cells c 30)).alloc (.cells #[.slice none 0 0, .int .u64 0] 48)) = W at *
  rw [show w.heap.size + 1 + 1 = w.heap.size + 2 from rfl]
  have HAL := Lib.hid hal
  have HSZW := Lib.hid hsz
  have H3 : Hid (∀ wx, Below W.heap.size W wx → wx.heap[w.heap.size]? = some (.cells #[v, .int .u64 e0] 48 (0, 0))) := fun wx hb => (hb.block _ (by omega)).trans hb3
  have H4 : Hid (∀ wx, Below W.heap.size W wx → wx.heap[w.heap.size + 1]? = some (.cells c 30 (0, 0))) := fun wx hb => (hb.block _ (by omega)).trans hb4
  have H6 : Hid (∀ wx, Below W.heap.size W wx → wx.heap[w.heap.size + 2]? = some (.cells #[.slice none 0 0, .int .u64 0] 48 (0, 0))) := fun wx hb => (hb.block _ (by omega)).trans hb6
  have HRD : Hid (∀ wx, Below W.heap.size W wx → Rd wx v (nums (famsOf st))) := fun wx hb => (HRD0.out.below hal).below hb
  have HSE : Hid (∀ wx, Below W.heap.size W wx → Ses wx c F K gr time) := fun wx hb => (HSE0.out.below hal).below hb
  have HG : Hid (∀ wx, Below W.heap.size W wx → wx.cell? ⟨w.heap.size + 1, 6, none⟩ = some (.bool gr)) := fun wx hb => by rw [cell_of_row _ _ _ _ _ _ (H4.out wx hb)]; exact HSE0.out.hasGR
  have HV : Hid (∀ wx, Below W.heap.size W wx → wx.cell? ⟨w.heap.size, 0, none⟩ = some v) := fun wx hb => by rw [cell_of_row _ _ _ _ _ _ (H3.out wx hb)]; rfl
  have HT : Hid (∀ wx, Below W.heap.size W wx → wx.cell? ⟨w.heap.size + 1, 8, none⟩ = some (.int .i64 time)) := fun wx hb => by rw [cell_of_row _ _ _ _ _ _ (H4.out wx hb)]; exact HSE0.out.time_
  clear hal hb3 hb4 hb6 hsz z
  go_loopw [10, 11, 12] (fun vk vg f wr => ∃ k : Nat, f = .int .i64 k ∧ 1 ≤ k ∧ k ≤ 6 ∧ Hid (Two W wr vk vg (nums (famsTo (keepsP F K gr) k)) (nums (famsTo (goneP st F K gr) k)))) (fun _ _ f _ => 6 - (intOf f).toNat)
  case atStart => exact ⟨1, rfl, Nat.le_refl _, by omega, Two.nil W⟩
  case round =>
    obtain ⟨k, rfl, hk1, hk6, HTW⟩ := hrel
    by_cases hlt : k ≤ 5
    · have i2 : (k : Int) ≤ 5 := by omega
      have i1 : (1 : Int) ≤ (k : Int) := by omega
      have vF := hasB_of F k hk1 hlt
      have vS := standsB_of K false k hk1 hlt
      have vT := hasB_fams st k hk1 hlt
      have vK : keepsP F K gr k = (gr && ofP F k && standsP K false k) := rfl
      have vG : goneP st F K gr k = (!keepsP F K gr k && (ofP F k || st k)) := rfl
      have HL1 : Hid ((nums (famsTo (keepsP F K gr) k)).length ≤ 6) := by show _ ≤ _; rw [nums_len]; have := famsTo_le (keepsP F K gr) k; omega
      have HL2 : Hid ((nums (famsTo (goneP st F K gr) k)).length ≤ 6) := by show _ ≤ _; rw [nums_len]; have := famsTo_le (goneP st F K gr) k; omega
      have HKY : Hid (keepsP F K gr k = true → nums (famsTo (keepsP F K gr) (k + 1)) = nums (famsTo (keepsP F K gr) k) ++ [(k : Int)]) := fun h => by rw [famsTo_yes hk1 h, nums_snoc]
      have HKN : Hid (keepsP F K gr k = false → nums (famsTo (keepsP F K gr) (k + 1)) = nums (famsTo (keepsP F K gr) k)) := fun h => by rw [famsTo_no hk1 h]
      have HGY : Hid (goneP st F K gr k = true → nums (famsTo (goneP st F K gr) (k + 1)) = nums (famsTo (goneP st F K gr) k) ++ [(k : Int)]) := fun h => by rw [famsTo_yes hk1 h, nums_snoc]
      have HGN : Hid (goneP st F K gr k = false → nums (famsTo (goneP st F K gr) (k + 1)) = nums (famsTo (goneP st F K gr) k)) := fun h => by rw [famsTo_no hk1 h]
      generalize keepsP F K gr k = kp at *
      generalize goneP st F K gr k = gp at *
      generalize ofP F k = fp at *
      generalize standsP K false k = sp at *
      generalize st k = tp at *
      have VF := Lib.hid vF
      have VS := Lib.hid vS
      have VT := Lib.hid vT
      clear vF vS vT
      have hb := HTW.out.bel
      have h4 := Lib.hid (H4.out _ hb)
      have hse := Lib.hid (HSE.out _ hb)
      clear hb
      cases fp with
      | true =>
        cases gr with
        | true =>
          cases sp with
          | true =>
            obtain rfl : kp = true := vK
            obtain rfl : gp = false := vG
            have E1 := Lib.hid (HKY.out rfl)
            have E2 := Lib.hid (HGN.out rfl)
            clear HKY HKN HGY HGN
            go_wp2_with (refine wpList_load_rowG rfl 30 (.tmp 4) rfl (w.heap.size + 1) rfl 30 c (0, 0) _ h4.out Try.underlying30 (by rw [HSZ.out]; exact size30) ?_)
            refine (refOf_eq c F K _ time _ true _ hse.out VF.out).mono ?_
            rintro e w1 ⟨rfl, hb1⟩
            go_simp
            replace HTW := Lib.hid (HTW.out.move hb1)
            clear hb1 h4 hse
            have hb := HTW.out.bel
            have h4 := Lib.hid (H4.out _ hb)
            have hse := Lib.hid (HSE.out _ hb)
            have hcg := HG.out _ hb
            have hcv := HV.out _ hb
            have hrd := Lib.hid (HRD.out _ hb)
            clear hb
            go_wp2_with (refine wpList_load_rowG rfl 30 (.tmp 4) rfl (w.heap.size + 1) rfl 30 c (0, 0) _ h4.out Try.underlying30 (by rw [HSZ.out]; exact size30) ?_)
            refine (refStands_eq c F K _ time _ false true _ hse.out VS.out).mono ?_
            rintro e w2 ⟨rfl, hb2⟩
            go_simp
            replace HTW := Lib.hid (HTW.out.move hb2)
            clear hb2 h4 hse hcg hcv hrd
            have hb := HTW.out.bel
            have h4 := Lib.hid (H4.out _ hb)
            have hse := Lib.hid (HSE.out _ hb)
            have hcg := HG.out _ hb
            have hcv := HV.out _ hb
            have hrd := Lib.hid (HRD.out _ hb)
            clear hb
            go_wp2_with (at_builtin; refine wpList_push rfl (.tmp 30) (.tmp 32) rfl W.heap.size _ _ _ rfl (HTW.out.k.alloc _) _ (k : Int) rfl (by simp) ?c2 ?c3 ?_)
            case c2 => have := HL1.out; omega
            case c3 => have := HTW.out.bel.size; simp; omega
            intro v' w9 hown hgrow hf
            have HTW2 : Hid (Two W w9 v' u11 (nums (famsTo (keepsP F K true) (k + 1))) (nums (famsTo (goneP st F K true) (k + 1)))) := by
              show Two _ _ _ _ _ _
              rw [E1.out, E2.out]
              exact HTW.out.push hown hgrow hf
            clear hown hgrow hf HTW h4 hse
            go_wp2_with fail
            go_roundw
            case rel => exact ⟨k + 1, by go_num, by omega, by omega, HTW2⟩
            case measure => simp [intOf]; omega
          | false =>
            obtain rfl : kp = false := vK
            obtain rfl : gp = true := vG
            have E1 := Lib.hid (HKN.out rfl)
            have E2 := Lib.hid (HGY.out rfl)
            clear HKY HKN HGY HGN
            go_wp2_with (refine wpList_load_rowG rfl 30 (.tmp 4) rfl (w.heap.size + 1) rfl 30 c (0, 0) _ h4.out Try.underlying30 (by rw [HSZ.out]; exact size30) ?_)
            refine (refOf_eq c F K _ time _ true _ hse.out VF.out).mono ?_
            rintro e w3 ⟨rfl, hb3⟩
            go_simp
            replace HTW := Lib.hid (HTW.out.move hb3)
            clear hb3 h4 hse
            have hb := HTW.out.bel
            have h4 := Lib.hid (H4.out _ hb)
            have hse := Lib.hid (HSE.out _ hb)
            have hcg := HG.out _ hb
            have hcv := HV.out _ hb
            have hrd := Lib.hid (HRD.out _ hb)
            clear hb
            go_wp2_with (refine wpList_load_rowG rfl 30 (.tmp 4) rfl (w.heap.size + 1) rfl 30 c (0, 0) _ h4.out Try.underlying30 (by rw [HSZ.out]; exact size30) ?_)
            refine (refStands_eq c F K _ time _ false false _ hse.out VS.out).mono ?_
            rintro e w4 ⟨rfl, hb4⟩
            go_simp
            replace HTW := Lib.hid (HTW.out.move hb4)
            clear hb4 h4 hse hcg hcv hrd
            have hb := HTW.out.bel
            have h4 := Lib.hid (H4.out _ hb)
            have hse := Lib.hid (HSE.out _ hb)
            have hcg := HG.out _ hb
            have hcv := HV.out _ hb
            have hrd := Lib.hid (HRD.out _ hb)
            clear hb
            go_wp2_with (refine wpList_load_rowG rfl 30 (.tmp 4) rfl (w.heap.size + 1) rfl 30 c (0, 0) _ h4.out Try.underlying30 (by rw [HSZ.out]; exact size30) ?_)
            refine (refOf_eq c F K _ time _ true _ hse.out VF.out).mono ?_
            rintro e w5 ⟨rfl, hb5⟩
            go_simp
            replace HTW := Lib.hid (HTW.out.move hb5)
            clear hb5 h4 hse hcg hcv hrd
            have hb := HTW.out.bel
            have h4 := Lib.hid (H4.out _ hb)
            have hse := Lib.hid (HSE.out _ hb)
            have hcg := HG.out _ hb
            have hcv := HV.out _ hb
            have hrd := Lib.hid (HRD.out _ hb)
            clear hb
            go_wp2_with (at_builtin; refine wpList_push rfl (.tmp 43) (.tmp 45) rfl W.heap.size _ _ _ rfl (HTW.out.g.alloc _) _ (k : Int) rfl (by simp) ?c2 ?c3 ?_)
            case c2 => have := HL2.out; omega
            case c3 => have := HTW.out.bel.size; simp; omega
            intro v' w9 hown hgrow hf
            have HTW2 : Hid (Two W w9 u10 v' (nums (famsTo (keepsP F K true) (k + 1))) (nums (famsTo (goneP st F K true) (k + 1)))) := by
              show Two _ _ _ _ _ _
              rw [E1.out, E2.out]
              exact (HTW.out.swap.push hown hgrow hf).swap
            clear hown hgrow hf HTW h4 hse
            go_wp2_with fail
            go_roundw
            case rel => exact ⟨k + 1, by go_num, by omega, by omega, HTW2⟩
            case measure => simp [intOf]; omega
        | false =>
          obtain rfl : kp = false := vK
          obtain rfl : gp = true := vG
          have E1 := Lib.hid (HKN.out rfl)
          have E2 := Lib.hid (HGY.out rfl)
          clear HKY HKN HGY HGN
          go_wp2_with (refine wpList_load_rowG rfl 30 (.tmp 4) rfl (w.heap.size + 1) rfl 30 c (0, 0) _ h4.out Try.underlying30 (by rw [HSZ.out]; exact size30) ?_)
          refine (refOf_eq c F K _ time _ true _ hse.out VF.out).mono ?_
          rintro e w6 ⟨rfl, hb6⟩
          go_simp
          replace HTW := Lib.hid (HTW.out.move hb6)
          clear hb6 h4 hse
          have hb := HTW.out.bel
          have h4 := Lib.hid (H4.out _ hb)
          have hse := Lib.hid (HSE.out _ hb)
          have hcg := HG.out _ hb
          have hcv := HV.out _ hb
          have hrd := Lib.hid (HRD.out _ hb)
          clear hb
          go_wp2_with (refine wpList_load_rowG rfl 30 (.tmp 4) rfl (w.heap.size + 1) rfl 30 c (0, 0) _ h4.out Try.underlying30 (by rw [HSZ.out]; exact size30) ?_)
          refine (refOf_eq c F K _ time _ true _ hse.out VF.out).mono ?_
          rintro e w7 ⟨rfl, hb7⟩
          go_simp
          replace HTW := Lib.hid (HTW.out.move hb7)
          clear hb7 h4 hse hcg hcv hrd
          have hb := HTW.out.bel
          have h4 := Lib.hid (H4.out _ hb)
          have hse := Lib.hid (HSE.out _ hb)
          have hcg := HG.out _ hb
          have hcv := HV.out _ hb
          have hrd := Lib.hid (HRD.out _ hb)
          clear hb
          go_wp2_with (at_builtin; refine wpList_push rfl (.tmp 43) (.tmp 45) rfl W.heap.size _ _ _ rfl (HTW.out.g.alloc _) _ (k : Int) rfl (by simp) ?c2 ?c3 ?_)
          case c2 => have := HL2.out; omega
          case c3 => have := HTW.out.bel.size; simp; omega
          intro v' w9 hown hgrow hf
          have HTW2 : Hid (Two W w9 u10 v' (nums (famsTo (keepsP F K false) (k + 1))) (nums (famsTo (goneP st F K false) (k + 1)))) := by
            show Two _ _ _ _ _ _
            rw [E1.out, E2.out]
            exact (HTW.out.swap.push hown hgrow hf).swap
          clear hown hgrow hf HTW h4 hse
          go_wp2_with fail
          go_roundw
          case rel => exact ⟨k + 1, by go_num, by omega, by omega, HTW2⟩
          case measure => simp [intOf]; omega
      | false =>
        cases tp with
        | true =>
          obtain rfl : kp = false := by rw [vK]; simp
          obtain rfl : gp = true := vG
          clear vK
          have E1 := Lib.hid (HKN.out rfl)
          have E2 := Lib.hid (HGY.out rfl)
          clear HKY HKN HGY HGN
          go_wp2_with (refine wpList_load_rowG rfl 30 (.tmp 4) rfl (w.heap.size + 1) rfl 30 c (0, 0) _ h4.out Try.underlying30 (by rw [HSZ.out]; exact size30) ?_)
          refine (refOf_eq c F K _ time _ false _ hse.out VF.out).mono ?_
          rintro e w8 ⟨rfl, hb8⟩
          go_simp
          replace HTW := Lib.hid (HTW.out.move hb8)
          clear hb8 h4 hse
          have hb := HTW.out.bel
          have h4 := Lib.hid (H4.out _ hb)
          have hse := Lib.hid (HSE.out _ hb)
          have hcg := HG.out _ hb
          have hcv := HV.out _ hb
          have hrd := Lib.hid (HRD.out _ hb)
          clear hb
          go_wp2_with (refine wpList_load_rowG rfl 30 (.tmp 4) rfl (w.heap.size + 1) rfl 30 c (0, 0) _ h4.out Try.underlying30 (by rw [HSZ.out]; exact size30) ?_)
          refine (refOf_eq c F K _ time _ false _ hse.out VF.out).mono ?_
          rintro e w9 ⟨rfl, hb9⟩
          go_simp
          replace HTW := Lib.hid (HTW.out.move hb9)
          clear hb9 h4 hse hcg hcv hrd
          have hb := HTW.out.bel
          have h4 := Lib.hid (H4.out _ hb)
          have hse := Lib.hid (HSE.out _ hb)
          have hcg := HG.out _ hb
          have hcv := HV.out _ hb
          have hrd := Lib.hid (HRD.out _ hb)
          clear hb
          go_wp2_with fail
          refine (refHas_eq v _ _ true _ hrd.out VT.out).mono ?_
          rintro e w' ⟨rfl, rfl⟩
          go_simp
          go_wp2_with (at_builtin; refine wpList_push rfl (.tmp 43) (.tmp 45) rfl W.heap.size _ _ _ rfl (HTW.out.g.alloc _) _ (k : Int) rfl (by simp) ?c2 ?c3 ?_)
          case c2 => have := HL2.out; omega
          case c3 => have := HTW.out.bel.size; simp; omega
          intro v' w9 hown hgrow hf
          have HTW2 : Hid (Two W w9 u10 v' (nums (famsTo (keepsP F K gr) (k + 1))) (nums (famsTo (goneP st F K gr) (k + 1)))) := by
            show Two _ _ _ _ _ _
            rw [E1.out, E2.out]
            exact (HTW.out.swap.push hown hgrow hf).swap
          clear hown hgrow hf HTW h4 hse
          go_wp2_with fail
          go_roundw
          case rel => exact ⟨k + 1, by go_num, by omega, by omega, HTW2⟩
          case measure => simp [intOf]; omega
        | false =>
          obtain rfl : kp = false := by rw [vK]; simp
          obtain rfl : gp = false := vG
          clear vK
          have E1 := Lib.hid (HKN.out rfl)
          have E2 := Lib.hid (HGN.out rfl)
          clear HKY HKN HGY HGN
          go_wp2_with (refine wpList_load_rowG rfl 30 (.tmp 4) rfl (w.heap.size + 1) rfl 30 c (0, 0) _ h4.out Try.underlying30 (by rw [HSZ.out]; exact size30) ?_)
          refine (refOf_eq c F K _ time _ false _ hse.out VF.out).mono ?_
          rintro e w10 ⟨rfl, hb10⟩
          go_simp
          replace HTW := Lib.hid (HTW.out.move hb10)
          clear hb10 h4 hse
          have hb := HTW.out.bel
          have h4 := Lib.hid (H4.out _ hb)
          have hse := Lib.hid (HSE.out _ hb)
          have hcg := HG.out _ hb
          have hcv := HV.out _ hb
          have hrd := Lib.hid (HRD.out _ hb)
          clear hb
          go_wp2_with (refine wpList_load_rowG rfl 30 (.tmp 4) rfl (w.heap.size + 1) rfl 30 c (0, 0) _ h4.out Try.underlying30 (by rw [HSZ.out]; exact size30) ?_)
          refine (refOf_eq c F K _ time _ false _ hse.out VF.out).mono ?_
          rintro e w11 ⟨rfl, hb11⟩
          go_simp
          replace HTW := Lib.hid (HTW.out.move hb11)
          clear hb11 h4 hse hcg hcv hrd
          have hb := HTW.out.bel
          have h4 := Lib.hid (H4.out _ hb)
          have hse := Lib.hid (HSE.out _ hb)
          have hcg := HG.out _ hb
          have hcv := HV.out _ hb
          have hrd := Lib.hid (HRD.out _ hb)
          clear hb
          go_wp2_with fail
          refine (refHas_eq v _ _ false _ hrd.out VT.out).mono ?_
          rintro e w' ⟨rfl, rfl⟩
          go_simp
          have h9 := HTW.out
          rw [← E1.out, ← E2.out] at h9
          have HTW2 := Lib.hid h9
          clear h9
          clear HTW h4 hse
          go_wp2_with fail
          go_roundw
          case rel => exact ⟨k + 1, by go_num, by omega, by omega, HTW2⟩
          case measure => simp [intOf]; omega
    · obtain rfl : k = 6 := by omega
      have HTW2 : Hid (Two W wr u10 u11 (nums (famsOf (keepsP F K gr))) (nums (famsOf (goneP st F K gr)))) := HTW.out
      have hbl := HTW2.out.bel
      have mm3 := HT.out _ hbl
      have hk : wr.ownsRow W.heap.size 3 1 u10 (famsOf (keepsP F K gr)).length (ints (famsOf (keepsP F K gr))) := by have := HTW2.out.k; rw [nums_len] at this; unfold iv at this; rw [nums_ints] at this; exact this
      have hg : wr.ownsRow W.heap.size 3 1 u11 (famsOf (goneP st F K gr)).length (ints (famsOf (goneP st F K gr))) := by have := HTW2.out.g; rw [nums_len] at this; unfold iv at this; rw [nums_ints] at this; exact this
      have rk := own_rd hk rfl
      have rg := own_rd hg rfl
      have gk := own_ge hk
      have lk := own_lt hk
      have gg := own_ge hg
      obtain ⟨ak, ck, rfl⟩ := own_form hk
      obtain ⟨ag, cg, rfl⟩ := own_form hg
      have hL6 := famsOf_len (keepsP F K gr)
      have hb6 := H6.out _ hbl
      have HEND : Hid (∀ at_ : Int, atV (famsOf (keepsP F K gr)) time now = at_ → RefDown w st F K gr time now (.returned (.tuple #[.agg #[.slice ak (famsOf (keepsP F K gr)).length ck, .int .u64 at_], .slice ak (famsOf (keepsP F K gr)).length ck, .slice ag (famsOf (goneP st F K gr)).length cg, .int .u64 at_])) ((wr.setCell ⟨w.heap.size + 2, 0, none⟩ (.slice ak (famsOf (keepsP F K gr)).length ck)).setCell ⟨w.heap.size + 2, 1, none⟩ (.int .u64 at_))) := by
        intro at_ hat
        have hz := HSZW.out
        have hother : ∀ g, g ≠ w.heap.size + 2 → ((wr.setCell ⟨w.heap.size + 2, 0, none⟩ (.slice ak (famsOf (keepsP F K gr)).length ck)).setCell ⟨w.heap.size + 2, 1, none⟩ (.int .u64 at_)).heap[g]? = wr.heap[g]? := fun g hg => by
          show ((wr.setCell ⟨w.heap.size + 2, 0, none⟩ _).setCell ⟨w.heap.size + 2, 1, none⟩ _).heap[g]? = _
          rw [heap_setCell_other _ _ _ _ hg, heap_setCell_other _ _ _ _ hg]
        refine ⟨_, _, by rw [hat], ?_, fun b hb => ⟨by have := gk b hb; omega, by simpa using lk b hb⟩, rk.move fun g hg _ => hother g (by have := gk g hg; omega), rg.move fun g hg _ => hother g (by have := gg g hg; omega)⟩
        have h1 := HAL.out.trans (hbl.mono (by omega))
        exact ((h1.setCell (by show w.heap.size ≤ w.heap.size + 2; omega) _).setCell (by show w.heap.size ≤ w.heap.size + 2; omega) _)
      have HB6 := Lib.hid hb6
      have h60 : wr.cell? ⟨w.heap.size + 2, 0, none⟩ = some (.slice none 0 0) := by rw [cell_of_row _ _ _ _ _ _ hb6]; rfl
      have h61 : wr.cell? ⟨w.heap.size + 2, 1, none⟩ = some (.int .u64 0) := by rw [cell_of_row _ _ _ _ _ _ hb6]; rfl
      have f60 := frozen_of_row _ _ 0 _ _ hb6
      have f61 := frozen_of_row _ _ 1 _ _ hb6
      clear hk hg rk rg gk lk gg hbl hb6 HTW2 HTW hlt hk1 hk6
      obtain ⟨L, hL⟩ : ∃ L, famsOf (keepsP F K gr) = L := ⟨_, rfl⟩
      rw [hL] at hL6 HEND ⊢
      clear hL
      generalize (famsOf (goneP st F K gr)).length = ng at *
      have n1 := HN1.out
      by_cases hl0 : L.length = 0
      · have HE := Lib.hid (HEND.out 0 (by simp [atV, hl0]))
        have hz : (L.length : Int) ≤ 0 := by omega
        clear HEND hl0
        go_wp2_with fail
        have h4' := set_heap (i := 1) (v := .int .u64 0) (set_heap (i := 0) (v := .slice ak L.length ck) HB6.out)
        have hR : ((wr.setCell ⟨w.heap.size + 2, 0, none⟩ (.slice ak L.length ck)).setCell ⟨w.heap.size + 2, 1, none⟩ (.int .u64 0)).heap[w.heap.size + 2]? = some (.cells #[.slice ak L.length ck, .int .u64 0] 48 (0, 0)) := h4'
        clear h4' h60 h61 f60 f61
        generalize ((wr.setCell ⟨w.heap.size + 2, 0, none⟩ (.slice ak L.length ck)).setCell ⟨w.heap.size + 2, 1, none⟩ (.int .u64 0)) = W9 at *
        have r0 : W9.cell? ⟨w.heap.size + 2, 0, none⟩ = some (.slice ak L.length ck) := by rw [cell_of_row _ _ _ _ _ _ hR]; rfl
        have r1 : W9.cell? ⟨w.heap.size + 2, 1, none⟩ = some (.int .u64 0) := by rw [cell_of_row _ _ _ _ _ _ hR]; rfl
        clear hR
        go_wp2
        exact bodyPost_ret (v := .tuple #[.agg #[.slice ak L.length ck, .int .u64 0], .slice ak L.length ck, .slice ag ng cg, .int .u64 0]) (by simp [results, Try.results15, go_sem, r0, r1]; try rfl) rfl HE.out
      · have hpos : (0 : Int) < (L.length : Int) := by omega
        clear hl0
        have HP : Hid (L.length ≠ 0) := by show _ ≠ _; omega
        by_cases ht : 0 ≤ time
        · have HTM : Hid (max time 0 = time) := by show _ = _; omega
          by_cases hw : IntKind.u64.wrap (now + time) < now
          · obtain ⟨v1, v2⟩ := at_over HP.out (by rw [HTM.out]; exact hw) n1 HN2.out (by rw [HTM.out]; omega)
            have HV2 := Lib.hid v2
            clear v1 v2
            go_wp2_with fail
            have h4' := set_heap (i := 1) (v := .int .u64 18446744073709551615) (set_heap (i := 0) (v := .slice ak L.length ck) HB6.out)
            have HE := Lib.hid (HEND.out 18446744073709551615 HV2.out)
            have hR : ((wr.setCell ⟨w.heap.size + 2, 0, none⟩ (.slice ak L.length ck)).setCell ⟨w.heap.size + 2, 1, none⟩ (.int .u64 18446744073709551615)).heap[w.heap.size + 2]? = some (.cells #[.slice ak L.length ck, .int .u64 18446744073709551615] 48 (0, 0)) := h4'
            clear h4' h60 h61 f60 f61
            generalize ((wr.setCell ⟨w.heap.size + 2, 0, none⟩ (.slice ak L.length ck)).setCell ⟨w.heap.size + 2, 1, none⟩ (.int .u64 18446744073709551615)) = W9 at *
            have r0 : W9.cell? ⟨w.heap.size + 2, 0, none⟩ = some (.slice ak L.length ck) := by rw [cell_of_row _ _ _ _ _ _ hR]; rfl
            have r1 : W9.cell? ⟨w.heap.size + 2, 1, none⟩ = some (.int .u64 18446744073709551615) := by rw [cell_of_row _ _ _ _ _ _ hR]; rfl
            clear hR
            go_wp2
            exact bodyPost_ret (v := .tuple #[.agg #[.slice ak L.length ck, .int .u64 18446744073709551615], .slice ak L.length ck, .slice ag ng cg, .int .u64 18446744073709551615]) (by simp [results, Try.results15, go_sem, r0, r1]; try rfl) rfl HE.out
          · replace hw : now ≤ IntKind.u64.wrap (now + time) := by omega
            obtain ⟨v1, v2, v3⟩ := at_fits HP.out (by rw [HTM.out]; exact hw) n1 HN2.out (by rw [HTM.out]; omega)
            rw [HTM.out] at v1 v2 v3
            have HV2 := Lib.hid v3
            clear v1 v2 v3
            go_wp2_with fail
            have h4' := set_heap (i := 1) (v := .int .u64 (IntKind.u64.wrap (now + time))) (set_heap (i := 0) (v := .slice ak L.length ck) HB6.out)
            have HE := Lib.hid (HEND.out (IntKind.u64.wrap (now + time)) HV2.out)
            have hR : ((wr.setCell ⟨w.heap.size + 2, 0, none⟩ (.slice ak L.length ck)).setCell ⟨w.heap.size + 2, 1, none⟩ (.int .u64 (IntKind.u64.wrap (now + time)))).heap[w.heap.size + 2]? = some (.cells #[.slice ak L.length ck, .int .u64 (IntKind.u64.wrap (now + time))] 48 (0, 0)) := h4'
            clear h4' h60 h61 f60 f61
            generalize ((wr.setCell ⟨w.heap.size + 2, 0, none⟩ (.slice ak L.length ck)).setCell ⟨w.heap.size + 2, 1, none⟩ (.int .u64 (IntKind.u64.wrap (now + time)))) = W9 at *
            have r0 : W9.cell? ⟨w.heap.size + 2, 0, none⟩ = some (.slice ak L.length ck) := by rw [cell_of_row _ _ _ _ _ _ hR]; rfl
            have r1 : W9.cell? ⟨w.heap.size + 2, 1, none⟩ = some (.int .u64 (IntKind.u64.wrap (now + time))) := by rw [cell_of_row _ _ _ _ _ _ hR]; rfl
            clear hR
            go_wp2
            exact bodyPost_ret (v := .tuple #[.agg #[.slice ak L.length ck, .int .u64 (IntKind.u64.wrap (now + time))], .slice ak L.length ck, .slice ag ng cg, .int .u64 (IntKind.u64.wrap (now + time))]) (by simp [results, Try.results15, go_sem, r0, r1]; try rfl) rfl HE.out
        · have hat : atV L time now = now := by unfold atV; rw [if_neg HP.out, show max time 0 = 0 from by omega]; have := HN2.out; omega
          have HE := Lib.hid (HEND.out now hat)
          clear HEND hat
          have hwn : IntKind.u64.wrap now = now := by have := HN2.out; rw [wrap_u64]; omega
          go_wp2_with fail
          have h4' := set_heap (i := 1) (v := .int .u64 now) (set_heap (i := 0) (v := .slice ak L.length ck) HB6.out)
          have hR : ((wr.setCell ⟨w.heap.size + 2, 0, none⟩ (.slice ak L.length ck)).setCell ⟨w.heap.size + 2, 1, none⟩ (.int .u64 now)).heap[w.heap.size + 2]? = some (.cells #[.slice ak L.length ck, .int .u64 now] 48 (0, 0)) := h4'
          clear h4' h60 h61 f60 f61
          generalize ((wr.setCell ⟨w.heap.size + 2, 0, none⟩ (.slice ak L.length ck)).setCell ⟨w.heap.size + 2, 1, none⟩ (.int .u64 now)) = W9 at *
          have r0 : W9.cell? ⟨w.heap.size + 2, 0, none⟩ = some (.slice ak L.length ck) := by rw [cell_of_row _ _ _ _ _ _ hR]; rfl
          have r1 : W9.cell? ⟨w.heap.size + 2, 1, none⟩ = some (.int .u64 now) := by rw [cell_of_row _ _ _ _ _ _ hR]; rfl
          clear hR
          go_wp2
          exact bodyPost_ret (v := .tuple #[.agg #[.slice ak L.length ck, .int .u64 now], .slice ak L.length ck, .slice ag ng cg, .int .u64 now]) (by simp [results, Try.results15, go_sem, r0, r1]; try rfl) rfl HE.out
end Go.Proofs.Ytbkgipafikeccaa
