/- heraldref32: Up. -/
import Derived.Test.YtbkgipafikeccaaRC
namespace Go.Proofs.Ytbkgipafikeccaa
open Go.RowKit
set_option linter.unusedVariables false

/-- A family that the reference's Up keeps, or lets go. -/
def pU (F : List Int) (K : List (Int × Bool)) (o : Bool) : Nat → Bool := fun i => o && ofP F i && standsP K true i
def pN (F : List Int) (K : List (Int × Bool)) (o : Bool) : Nat → Bool := fun i => !pU F K o i

theorem filter_yes (p : Nat → Bool) (l : List Nat) (a : Nat) (h : p a = true) : nums ((l ++ [a]).filter p) = nums (l.filter p) ++ [(a : Int)] := by simp [nums, h]
theorem filter_no (p : Nat → Bool) (l : List Nat) (a : Nat) (h : p a = false) : nums ((l ++ [a]).filter p) = nums (l.filter p) := by simp [nums, h]
theorem filter_take_le (p : Nat → Bool) (l : List Nat) (k : Nat) : (nums ((l.take k).filter p)).length ≤ l.length := by
  rw [nums_len]
  have := List.length_filter_le p (l.take k)
  rw [List.length_take] at this
  omega

/-- What the reference's Up leaves. -/
def RefUp (w : World) (l : List Nat) (e0 : Int) (F : List Int) (K : List (Int × Bool)) (o : Bool) (r : Ending) (w' : World) : Prop :=
  ∃ vk vg, r = .returned (.tuple #[.agg #[vk, .int .u64 e0], vg]) ∧ Below w.heap.size w w' ∧ (∀ b, vk.ownBlock = some b → w.heap.size ≤ b ∧ b < w'.heap.size) ∧ Rd w' vk (nums (l.filter (pU F K o))) ∧ Rd w' vg (nums (l.filter (pN F K o)))

set_option maxHeartbeats 4000000 in
set_option maxRecDepth 100000 in
theorem refUp_l (v : Value) (l : List Nat) (e0 : Int) (oc c : Array Value) (o : Bool) (F : List Int) (K : List (Int × Bool)) (gr : Bool) (time : Int) (w : World) (hl6 : l.length ≤ 6) (hl5 : ∀ a ∈ l, 1 ≤ a ∧ a ≤ 5) (h : Rd w v (nums l)) (hs : Ses w c F K gr time) (hoc : oc[7]? = some (.bool o)) :
    Calls Try.prog 18 #[.agg #[v, .int .u64 e0], .agg oc, .agg c] w (RefUp w l e0 F K o) := by
  obtain ⟨ao, cap, g, off, rfl, hcap, hao, hcell⟩ := h.open_
  have hnl := nums_len l
  rw [hnl] at hcap hao hcell ⊢
  have HC := Lib.hid hcell
  have HA := Lib.hid hao
  have HL5 := Lib.hid hl5
  have HSZ := Lib.hid hs.size
  have z := fun w => zeroM w
  have HSE0 := Lib.hid hs
  have HOC := Lib.hid hoc
  clear hcell hao h hcap hnl hl5 hs hoc
  go_enter Try.func18, Try.ntmps18
  go_wp2_with fail
  have hal : Below w.heap.size w ((((w.alloc (.cells #[.slice ao l.length cap, .int .u64 e0] 48)).alloc (.cells oc 41)).alloc (.cells c 30)).alloc (.cells #[.slice none 0 0, .int .u64 0] 48)) := ((((Below.refl _ _).alloc (Nat.le_refl _) _).alloc (by simp) _).alloc (by simp; omega) _).alloc (by simp; omega) _
  have hb3 : ((((w.alloc (.cells #[.slice ao l.length cap, .int .u64 e0] 48)).alloc (.cells oc 41)).alloc (.cells c 30)).alloc (.cells #[.slice none 0 0, .int .u64 0] 48)).heap[w.heap.size]? = some (.cells #[.slice ao l.length cap, .int .u64 e0] 48 (0, 0)) := by
    rw [Below.heap_alloc _ _ _ (by simp; omega), Below.heap_alloc _ _ _ (by simp; omega), Below.heap_alloc _ _ _ (by simp)]; exact heap_alloc_new _ _
  have hb4 : ((((w.alloc (.cells #[.slice ao l.length cap, .int .u64 e0] 48)).alloc (.cells oc 41)).alloc (.cells c 30)).alloc (.cells #[.slice none 0 0, .int .u64 0] 48)).heap[w.heap.size + 1]? = some (.cells oc 41 (0, 0)) := by
    rw [Below.heap_alloc _ _ _ (by first | (simp; done) | (simp; omega)), Below.heap_alloc _ _ _ (by simp)]; exact heap_alloc2_new _ _ _
  have hb5 : ((((w.alloc (.cells #[.slice ao l.length cap, .int .u64 e0] 48)).alloc (.cells oc 41)).alloc (.cells c 30)).alloc (.cells #[.slice none 0 0, .int .u64 0] 48)).heap[w.heap.size + 2]? = some (.cells c 30 (0, 0)) := by
    rw [Below.heap_alloc _ _ _ (by simp)]
    have := heap_alloc_new ((w.alloc (.cells #[.slice ao l.length cap, .int .u64 e0] 48)).alloc (.cells oc 41)) (.cells c 30)
    simpa using this
  have hb6 : ((((w.alloc (.cells #[.slice ao l.length cap, .int .u64 e0] 48)).alloc (.cells oc 41)).alloc (.cells c 30)).alloc (.cells #[.slice none 0 0, .int .u64 0] 48)).heap[w.heap.size + 3]? = some (.cells #[.slice none 0 0, .int .u64 0] 48 (0, 0)) := by
    have := heap_alloc_new (((w.alloc (.cells #[.slice ao l.length cap, .int .u64 e0] 48)).alloc (.cells oc 41)).alloc (.cells c 30)) (.cells #[.slice none 0 0, .int .u64 0] 48)
    simpa using this
  have hsz : ((((w.alloc (.cells #[.slice ao l.length cap, .int .u64 e0] 48)).alloc (.cells oc 41)).alloc (.cells c 30)).alloc (.cells #[.slice none 0 0, .int .u64 0] 48)).heap.size = w.heap.size + 4 := by simp
  generalize ((((w.alloc (.cells #[.slice ao l.length cap, .int .u64 e0] 48)).alloc (.cells oc 41)).alloc (.cells c 30)).alloc (.cells #[.slice none 0 0, .int .u64 0] 48)) = W at *
  first | rw [show w.heap.size + 1 + 1 + 1 = w.heap.size + 3 from rfl] | skip
  first | rw [show w.heap.size + 1 + 1 = w.heap.size + 2 from rfl] | skip
  have HAL := Lib.hid hal
  have HSZW := Lib.hid hsz
  have H3 : Hid (∀ wx, Below W.heap.size W wx → wx.heap[w.heap.size]? = some (.cells #[.slice ao l.length cap, .int .u64 e0] 48 (0, 0))) := fun wx hb => (hb.block _ (by omega)).trans hb3
  have HO : Hid (∀ wx, Below W.heap.size W wx → wx.cell? ⟨w.heap.size + 1, 7, none⟩ = some (.bool o)) := fun wx hb => by rw [cell_of_row _ _ _ _ _ _ ((hb.block _ (by omega)).trans hb4)]; exact HOC.out
  have H4 : Hid (∀ wx, Below W.heap.size W wx → wx.heap[w.heap.size + 2]? = some (.cells c 30 (0, 0))) := fun wx hb => (hb.block _ (by omega)).trans hb5
  have H6 : Hid (∀ wx, Below W.heap.size W wx → wx.heap[w.heap.size + 3]? = some (.cells #[.slice none 0 0, .int .u64 0] 48 (0, 0))) := fun wx hb => (hb.block _ (by omega)).trans hb6
  have HSE : Hid (∀ wx, Below W.heap.size W wx → Ses wx c F K gr time) := fun wx hb => (HSE0.out.below hal).below hb
  have HV : Hid (∀ wx, Below W.heap.size W wx → wx.cell? ⟨w.heap.size, 0, none⟩ = some (.slice ao l.length cap)) := fun wx hb => by rw [cell_of_row _ _ _ _ _ _ (H3.out wx hb)]; rfl
  have HE0 : Hid (∀ wx, Below W.heap.size W wx → wx.cell? ⟨w.heap.size, 1, none⟩ = some (.int .u64 e0)) := fun wx hb => by rw [cell_of_row _ _ _ _ _ _ (H3.out wx hb)]; rfl
  clear hal hb3 hb4 hb5 hb6 hsz z
  go_loopw [8, 9, 10] (fun vk vg i wr => ∃ k : Nat, i = .int .i64 k ∧ k ≤ l.length ∧ Hid (Two W wr vk vg (nums ((l.take k).filter (pU F K o))) (nums ((l.take k).filter (pN F K o))))) (fun _ _ i _ => l.length - (intOf i).toNat)
  case atStart => exact ⟨0, rfl, Nat.zero_le _, Two.nil W⟩
  case round =>
    obtain ⟨k, rfl, hk, HTW⟩ := hrel
    by_cases hlt : k < l.length
    · obtain ⟨rfl, hg⟩ := HA.out (by omega)
      obtain ⟨a, ha⟩ : ∃ a, l[k] = a := ⟨_, rfl⟩
      have hbl := HTW.out.bel
      have hmem : 1 ≤ a ∧ a ≤ 5 := ha ▸ HL5.out _ (List.getElem_mem hlt)
      have hc : wr.cell? ⟨g, off + k, none⟩ = some (.int .i64 (a : Int)) := by
        rw [hbl.cell (by have := HSZW.out; simp; omega), HAL.out.cell hg, HC.out k hlt]
        simp [nums, List.getD_eq_getElem?_getD, List.getElem?_eq_getElem hlt, ha]
      have hv0 := HV.out _ hbl
      have ho7 := HO.out _ hbl
      have hT : l.take (k + 1) = l.take k ++ [a] := by rw [List.take_succ_eq_append_getElem hlt, ha]
      have vF := hasB_of F a hmem.1 hmem.2
      have vS := standsB_of K true a hmem.1 hmem.2
      have vP : pU F K o a = (o && ofP F a && standsP K true a) := rfl
      have vN : pN F K o a = !pU F K o a := rfl
      have HL1 : Hid ((nums ((l.take k).filter (pU F K o))).length ≤ 6) := Nat.le_trans (filter_take_le _ _ _) hl6
      have HL2 : Hid ((nums ((l.take k).filter (pN F K o))).length ≤ 6) := Nat.le_trans (filter_take_le _ _ _) hl6
      have HKY : Hid (pU F K o a = true → nums ((l.take (k + 1)).filter (pU F K o)) = nums ((l.take k).filter (pU F K o)) ++ [(a : Int)]) := fun h => by rw [hT, filter_yes _ _ _ h]
      have HKN : Hid (pU F K o a = false → nums ((l.take (k + 1)).filter (pU F K o)) = nums ((l.take k).filter (pU F K o))) := fun h => by rw [hT, filter_no _ _ _ h]
      have HGY : Hid (pU F K o a = false → nums ((l.take (k + 1)).filter (pN F K o)) = nums ((l.take k).filter (pN F K o)) ++ [(a : Int)]) := fun h => by rw [hT, filter_yes _ _ _ (by rw [vN, h]; rfl)]
      have HGN : Hid (pU F K o a = true → nums ((l.take (k + 1)).filter (pN F K o)) = nums ((l.take k).filter (pN F K o))) := fun h => by rw [hT, filter_no _ _ _ (by rw [vN, h]; rfl)]
      clear vN hT
      generalize pU F K o a = pv at *
      generalize ofP F a = fp at *
      generalize standsP K true a = sp at *
      have VF := Lib.hid vF
      have VS := Lib.hid vS
      clear vF vS hmem ha hbl
      have hb := HTW.out.bel
      have h4 := Lib.hid (H4.out _ hb)
      have hse := Lib.hid (HSE.out _ hb)
      clear hb
      have i3 : (0 : Int) ≤ (k : Int) := by omega
      have i4 : (k : Int) < (l.length : Int) := by omega
      cases o with
      | true =>
        cases fp with
        | true =>
          cases sp with
          | true =>
            obtain rfl : pv = true := vP
            have E1 := Lib.hid (HKY.out rfl)
            have E2 := Lib.hid (HGN.out rfl)
            clear HKY HKN HGY HGN
            go_wp2_with (refine wpList_load_rowG rfl 30 (.tmp 5) rfl (w.heap.size + 2) rfl 30 c (0, 0) _ h4.out Try.underlying30 (by rw [HSZ.out]; exact size30) ?_)
            refine (refOf_eq c F K _ time _ true _ hse.out VF.out).mono ?_
            rintro e w1 ⟨rfl, hb1⟩
            go_simp
            replace HTW := Lib.hid (HTW.out.move hb1)
            clear hb1 h4 hse
            have hb := HTW.out.bel
            have h4 := Lib.hid (H4.out _ hb)
            have hse := Lib.hid (HSE.out _ hb)
            clear hb
            go_wp2_with (refine wpList_load_rowG rfl 30 (.tmp 5) rfl (w.heap.size + 2) rfl 30 c (0, 0) _ h4.out Try.underlying30 (by rw [HSZ.out]; exact size30) ?_)
            refine (refStands_eq c F K _ time _ true true _ hse.out VS.out).mono ?_
            rintro e w2 ⟨rfl, hb2⟩
            go_simp
            replace HTW := Lib.hid (HTW.out.move hb2)
            clear hb2 h4 hse
            have hb := HTW.out.bel
            have h4 := Lib.hid (H4.out _ hb)
            have hse := Lib.hid (HSE.out _ hb)
            clear hb
            go_wp2_with (at_builtin; refine wpList_push rfl (.tmp 36) (.tmp 38) rfl W.heap.size _ _ _ rfl (HTW.out.k.alloc _) _ (a : Int) rfl (by simp) ?c2 ?c3 ?_)
            case c2 => have := HL1.out; omega
            case c3 => have := HTW.out.bel.size; simp; omega
            intro v' w9 hown hgrow hf
            have HTW2 : Hid (Two W w9 v' u9 (nums ((l.take (k + 1)).filter (pU F K true))) (nums ((l.take (k + 1)).filter (pN F K true)))) := by
              show Two _ _ _ _ _ _
              rw [E1.out, E2.out]
              exact HTW.out.push hown hgrow hf
            clear hown hgrow hf HTW h4 hse
            go_wp2_with fail
            go_roundw
            case rel => exact ⟨k + 1, by go_num, by omega, HTW2⟩
            case measure => simp [intOf]; omega
          | false =>
            obtain rfl : pv = false := vP
            have E1 := Lib.hid (HKN.out rfl)
            have E2 := Lib.hid (HGY.out rfl)
            clear HKY HKN HGY HGN
            go_wp2_with (refine wpList_load_rowG rfl 30 (.tmp 5) rfl (w.heap.size + 2) rfl 30 c (0, 0) _ h4.out Try.underlying30 (by rw [HSZ.out]; exact size30) ?_)
            refine (refOf_eq c F K _ time _ true _ hse.out VF.out).mono ?_
            rintro e w3 ⟨rfl, hb3⟩
            go_simp
            replace HTW := Lib.hid (HTW.out.move hb3)
            clear hb3 h4 hse
            have hb := HTW.out.bel
            have h4 := Lib.hid (H4.out _ hb)
            have hse := Lib.hid (HSE.out _ hb)
            clear hb
            go_wp2_with (refine wpList_load_rowG rfl 30 (.tmp 5) rfl (w.heap.size + 2) rfl 30 c (0, 0) _ h4.out Try.underlying30 (by rw [HSZ.out]; exact size30) ?_)
            refine (refStands_eq c F K _ time _ true false _ hse.out VS.out).mono ?_
            rintro e w4 ⟨rfl, hb4⟩
            go_simp
            replace HTW := Lib.hid (HTW.out.move hb4)
            clear hb4 h4 hse
            have hb := HTW.out.bel
            have h4 := Lib.hid (H4.out _ hb)
            have hse := Lib.hid (HSE.out _ hb)
            clear hb
            go_wp2_with (at_builtin; refine wpList_push rfl (.tmp 40) (.tmp 42) rfl W.heap.size _ _ _ rfl (HTW.out.g.alloc _) _ (a : Int) rfl (by simp) ?c2 ?c3 ?_)
            case c2 => have := HL2.out; omega
            case c3 => have := HTW.out.bel.size; simp; omega
            intro v' w9 hown hgrow hf
            have HTW2 : Hid (Two W w9 u8 v' (nums ((l.take (k + 1)).filter (pU F K true))) (nums ((l.take (k + 1)).filter (pN F K true)))) := by
              show Two _ _ _ _ _ _
              rw [E1.out, E2.out]
              exact (HTW.out.swap.push hown hgrow hf).swap
            clear hown hgrow hf HTW h4 hse
            go_wp2_with fail
            go_roundw
            case rel => exact ⟨k + 1, by go_num, by omega, HTW2⟩
            case measure => simp [intOf]; omega
        | false =>
          obtain rfl : pv = false := vP
          have E1 := Lib.hid (HKN.out rfl)
          have E2 := Lib.hid (HGY.out rfl)
          clear HKY HKN HGY HGN
          go_wp2_with (refine wpList_load_rowG rfl 30 (.tmp 5) rfl (w.heap.size + 2) rfl 30 c (0, 0) _ h4.out Try.underlying30 (by rw [HSZ.out]; exact size30) ?_)
          refine (refOf_eq c F K _ time _ false _ hse.out VF.out).mono ?_
          rintro e w5 ⟨rfl, hb5⟩
          go_simp
          replace HTW := Lib.hid (HTW.out.move hb5)
          clear hb5 h4 hse
          have hb := HTW.out.bel
          have h4 := Lib.hid (H4.out _ hb)
          have hse := Lib.hid (HSE.out _ hb)
          clear hb
          go_wp2_with (at_builtin; refine wpList_push rfl (.tmp 40) (.tmp 42) rfl W.heap.size _ _ _ rfl (HTW.out.g.alloc _) _ (a : Int) rfl (by simp) ?c2 ?c3 ?_)
          case c2 => have := HL2.out; omega
          case c3 => have := HTW.out.bel.size; simp; omega
          intro v' w9 hown hgrow hf
          have HTW2 : Hid (Two W w9 u8 v' (nums ((l.take (k + 1)).filter (pU F K true))) (nums ((l.take (k + 1)).filter (pN F K true)))) := by
            show Two _ _ _ _ _ _
            rw [E1.out, E2.out]
            exact (HTW.out.swap.push hown hgrow hf).swap
          clear hown hgrow hf HTW h4 hse
          go_wp2_with fail
          go_roundw
          case rel => exact ⟨k + 1, by go_num, by omega, HTW2⟩
          case measure => simp [intOf]; omega
      | false =>
        obtain rfl : pv = false := vP
        have E1 := Lib.hid (HKN.out rfl)
        have E2 := Lib.hid (HGY.out rfl)
        clear HKY HKN HGY HGN
        go_wp2_with (at_builtin; refine wpList_push rfl (.tmp 40) (.tmp 42) rfl W.heap.size _ _ _ rfl (HTW.out.g.alloc _) _ (a : Int) rfl (by simp) ?c2 ?c3 ?_)
        case c2 => have := HL2.out; omega
        case c3 => have := HTW.out.bel.size; simp; omega
        intro v' w9 hown hgrow hf
        have HTW2 : Hid (Two W w9 u8 v' (nums ((l.take (k + 1)).filter (pU F K false))) (nums ((l.take (k + 1)).filter (pN F K false)))) := by
          show Two _ _ _ _ _ _
          rw [E1.out, E2.out]
          exact (HTW.out.swap.push hown hgrow hf).swap
        clear hown hgrow hf HTW h4 hse
        go_wp2_with fail
        go_roundw
        case rel => exact ⟨k + 1, by go_num, by omega, HTW2⟩
        case measure => simp [intOf]; omega
    · obtain rfl : k = l.length := by omega
      rw [List.take_length] at HTW
      have HTW2 : Hid (Two W wr u8 u9 (nums (l.filter (pU F K o))) (nums (l.filter (pN F K o)))) := HTW.out
      have hbl := HTW2.out.bel
      have hv0 := HV.out _ hbl
      have he0 := HE0.out _ hbl
      have hk' := HTW2.out.k
      have hg' := HTW2.out.g
      have q1 : (nums (l.filter (pU F K o))).length ≤ 6 := by rw [nums_len]; exact Nat.le_trans (List.length_filter_le _ _) hl6
      have q2 : (nums (l.filter (pN F K o))).length ≤ 6 := by rw [nums_len]; exact Nat.le_trans (List.length_filter_le _ _) hl6
      have rk : Rd wr u8 (nums (l.filter (pU F K o))) := rd_iv hk' (by omega)
      have rg : Rd wr u9 (nums (l.filter (pN F K o))) := rd_iv hg' (by omega)
      have gk := own_ge hk'
      have ltk := own_lt hk'
      have gg := own_ge hg'
      obtain ⟨ak, ck, rfl⟩ := own_form hk'
      obtain ⟨ag, cg, rfl⟩ := own_form hg'
      have hb6 := H6.out _ hbl
      have hR := set_heap (i := 1) (v := .int .u64 e0) (set_heap (i := 0) (v := .slice ak (nums (l.filter (pU F K o))).length ck) hb6)
      have HE : Hid (RefUp w l e0 F K o (.returned (.tuple #[.agg #[.slice ak (nums (l.filter (pU F K o))).length ck, .int .u64 e0], .slice ag (nums (l.filter (pN F K o))).length cg])) ((wr.setCell ⟨w.heap.size + 3, 0, none⟩ (.slice ak (nums (l.filter (pU F K o))).length ck)).setCell ⟨w.heap.size + 3, 1, none⟩ (.int .u64 e0))) := by
        have hz := HSZW.out
        have hother : ∀ g, g ≠ w.heap.size + 3 → ((wr.setCell ⟨w.heap.size + 3, 0, none⟩ (.slice ak (nums (l.filter (pU F K o))).length ck)).setCell ⟨w.heap.size + 3, 1, none⟩ (.int .u64 e0)).heap[g]? = wr.heap[g]? := fun g hg => by
          show ((wr.setCell ⟨w.heap.size + 3, 0, none⟩ _).setCell ⟨w.heap.size + 3, 1, none⟩ _).heap[g]? = _
          rw [heap_setCell_other _ _ _ _ hg, heap_setCell_other _ _ _ _ hg]
        refine ⟨_, _, rfl, ?_, fun b hb => ⟨by have := gk b hb; omega, by simpa using ltk b hb⟩, rk.move fun g hg _ => hother g (by have := gk g hg; omega), rg.move fun g hg _ => hother g (by have := gg g hg; omega)⟩
        have h1 := HAL.out.trans (hbl.mono (by omega))
        exact ((h1.setCell (by show w.heap.size ≤ w.heap.size + 3; omega) _).setCell (by show w.heap.size ≤ w.heap.size + 3; omega) _)
      have h60 : wr.cell? ⟨w.heap.size + 3, 0, none⟩ = some (.slice none 0 0) := by rw [cell_of_row _ _ _ _ _ _ hb6]; rfl
      have h61 : wr.cell? ⟨w.heap.size + 3, 1, none⟩ = some (.int .u64 0) := by rw [cell_of_row _ _ _ _ _ _ hb6]; rfl
      have f60 := frozen_of_row _ _ 0 _ _ hb6
      have f61 := frozen_of_row _ _ 1 _ _ hb6
      have HR := Lib.hid hR
      clear hk' hg' rk rg gk ltk gg hbl hb6 hR HTW2 HTW hlt hk q1 q2
      obtain ⟨lk, hlk⟩ : ∃ n, (nums (l.filter (pU F K o))).length = n := ⟨_, rfl⟩
      obtain ⟨lg, hlg⟩ : ∃ n, (nums (l.filter (pN F K o))).length = n := ⟨_, rfl⟩
      rw [hlk] at HR HE ⊢
      rw [hlg] at HE ⊢
      clear hlk hlg
      go_wp2_with fail
      have hR : ((wr.setCell ⟨w.heap.size + 3, 0, none⟩ (.slice ak lk ck)).setCell ⟨w.heap.size + 3, 1, none⟩ (.int .u64 e0)).heap[w.heap.size + 3]? = some (.cells #[.slice ak lk ck, .int .u64 e0] 48 (0, 0)) := HR.out
      clear HR h60 h61 f60 f61
      generalize ((wr.setCell ⟨w.heap.size + 3, 0, none⟩ (.slice ak lk ck)).setCell ⟨w.heap.size + 3, 1, none⟩ (.int .u64 e0)) = W9 at *
      have r0 : W9.cell? ⟨w.heap.size + 3, 0, none⟩ = some (.slice ak lk ck) := by rw [cell_of_row _ _ _ _ _ _ hR]; rfl
      have r1 : W9.cell? ⟨w.heap.size + 3, 1, none⟩ = some (.int .u64 e0) := by rw [cell_of_row _ _ _ _ _ _ hR]; rfl
      clear hR
      exact bodyPost_ret (v := .tuple #[.agg #[.slice ak lk ck, .int .u64 e0], .slice ag lg cg]) (by simp [results, Try.results18, go_sem, r0, r1]; try rfl) rfl HE.out
end Go.Proofs.Ytbkgipafikeccaa
