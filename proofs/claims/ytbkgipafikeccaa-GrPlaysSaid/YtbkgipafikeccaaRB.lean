/- heraldref32: Ended, Fire. -/
import Derived.Test.YtbkgipafikeccaaRA
import Derived.RegionTactic
import Derived.ChangeAlike
import Derived.BigRegion
namespace Go.Proofs.Ytbkgipafikeccaa
open Go.RowKit
set_option linter.unusedVariables false

def iv (l : List Int) : List Value := l.map (Value.int .i64)
theorem iv_len (l : List Int) : (iv l).length = l.length := by simp [iv]
theorem iv_snoc (l : List Int) (x : Int) : iv (l ++ [x]) = iv l ++ [.int .i64 x] := by simp [iv]
theorem rd_iv {w : World} {base : Nat} {v : Value} {L : List Int} (h : w.ownsRow base 3 1 v L.length (iv L)) (hL : L.length ≤ 1000) : Rd w v L := rd_of_own h (by unfold maxLen; omega)
def but (n : Int) (l : List Int) : List Int := l.filter fun x => x != n
theorem but_snoc_no (n x : Int) (l : List Int) (h : x = n) : but n (l ++ [x]) = but n l := by simp [but, h]
theorem but_snoc_yes (n x : Int) (l : List Int) (h : ¬ x = n) : but n (l ++ [x]) = but n l ++ [x] := by simp [but, h]
theorem but_len (n : Int) (l : List Int) : (but n l).length ≤ l.length := List.length_filter_le _ _
theorem take_snocD (l : List Int) (k : Nat) (h : k < l.length) : l.take (k + 1) = l.take k ++ [l.getD k 0] := by
  rw [List.take_succ_eq_append_getElem h]; simp [List.getD_eq_getElem?_getD, List.getElem?_eq_getElem h]

/-- What Ended leaves. -/
def EndPost (w : World) (L : List Int) (e n : Int) (r : Ending) (w' : World) : Prop :=
  ∃ v, r = .returned (.tuple #[.agg #[v, .int .u64 e], .bool (decide ((but n L).length < L.length))]) ∧ w'.ownsRow w.heap.size 3 1 v (but n L).length (iv (but n L)) ∧ Below w.heap.size w w'

theorem zeroM (w : World) : (zeroValue 48).run Try.prog w = .ok (.agg #[.slice none 0 0, .int .u64 0]) w := by kernel_rfl

set_option maxHeartbeats 1000000 in
set_option maxRecDepth 100000 in
theorem refEnded_any (v : Value) (L : List Int) (e n : Int) (w : World) (hL : L.length ≤ 100) (h : Rd w v L) :
    Calls Try.prog 19 #[.agg #[v, .int .u64 e], .int .i64 n] w (EndPost w L e n) := by
  obtain ⟨ao, cap, g, off, rfl, hcap, hao, hcell⟩ := h.open_
  have HC := Lib.hid hcell
  have HA := Lib.hid hao
  clear hcell hao h hcap
  have z := fun w => zeroM w
  go_enter Try.func19, Try.ntmps19
  go_wp2_with fail
  have hal : Below w.heap.size w ((w.alloc (.cells #[.slice ao L.length cap, .int .u64 e] 48)).alloc (.cells #[.slice none 0 0, .int .u64 0] 48)) := ((Below.refl _ _).alloc (Nat.le_refl _) _).alloc (by simp) _
  have hb2 : ((w.alloc (.cells #[.slice ao L.length cap, .int .u64 e] 48)).alloc (.cells #[.slice none 0 0, .int .u64 0] 48)).heap[w.heap.size]? = some (.cells #[.slice ao L.length cap, .int .u64 e] 48 (0, 0)) := by
    rw [Below.heap_alloc _ _ _ (by simp)]; exact heap_alloc_new _ _
  have hb4 := heap_alloc2_new w (.cells #[.slice ao L.length cap, .int .u64 e] 48) (.cells #[.slice none 0 0, .int .u64 0] 48)
  have hs2 : ((w.alloc (.cells #[.slice ao L.length cap, .int .u64 e] 48)).alloc (.cells #[.slice none 0 0, .int .u64 0] 48)).heap.size = w.heap.size + 2 := by simp
  generalize ((w.alloc (.cells #[.slice ao L.length cap, .int .u64 e] 48)).alloc (.cells #[.slice none 0 0, .int .u64 0] 48)) = W at *
  have HAL := Lib.hid hal
  have HB2 := Lib.hid hb2
  have HB4 := Lib.hid hb4
  have HS2 := Lib.hid hs2
  clear hal hb2 hb4 hs2 z
  go_loopw [6, 7] (fun v i wr => ∃ k : Nat, i = .int .i64 k ∧ k ≤ L.length ∧ Below W.heap.size W wr ∧ wr.ownsRow W.heap.size 3 1 v (but n (L.take k)).length (iv (but n (L.take k)))) (fun _ i _ => L.length - (intOf i).toNat)
  case atStart => exact ⟨0, rfl, Nat.zero_le _, Below.refl _ _, World.ownsRow_nil W _ _ _⟩
  case round =>
    obtain ⟨k, rfl, hk, hbel, hown⟩ := hrel
    have HBL := Lib.hid hbel
    have HOW := Lib.hid hown
    have hbl0 := but_len n (L.take k)
    have hbl : (but n (L.take k)).length ≤ 100 := by rw [List.length_take] at hbl0; omega
    have h20 : wr.cell? ⟨w.heap.size, 0, none⟩ = some (.slice ao L.length cap) := by rw [hbel.cell (by have := HS2.out; simp; omega), cell_of_row _ _ _ _ _ _ HB2.out]; rfl
    clear hbel hown hbl0
    by_cases hlt : k < L.length
    · obtain ⟨rfl, hg⟩ := HA.out (by omega)
      have hc : wr.cell? ⟨g, off + k, none⟩ = some (.int .i64 (L.getD k 0)) := by
        rw [HBL.out.cell (by have := HS2.out; simp; omega), HAL.out.cell hg]; exact HC.out k hlt
      have hT := Lib.hid (take_snocD L k hlt)
      obtain ⟨m, hm⟩ : ∃ m, L.getD k 0 = m := ⟨_, rfl⟩
      rw [hm] at hc hT
      clear hm
      have i3 : (0 : Int) ≤ (k : Int) := by omega
      have i4 : (k : Int) < (L.length : Int) := by omega
      by_cases hmn : m = n
      · have he : (m != n) = false := by simp [hmn]
        have hown2 := HOW.out
        rw [← but_snoc_no n m (L.take k) hmn, ← hT.out] at hown2
        have HO2 := Lib.hid hown2
        clear hmn hown2
        go_wp2
        go_roundw
        case rel => exact ⟨k + 1, by go_num, by omega, HBL.out, HO2.out⟩
        case measure => simp [intOf]; omega
      · have he : (m != n) = true := by simp [hmn]
        have HE : Hid (but n (L.take (k + 1)) = but n (L.take k) ++ [m]) := by show _ = _; rw [hT.out]; exact but_snoc_yes n m _ hmn
        clear hmn
        go_wp2_with (at_builtin; refine wpList_push rfl (.tmp 22) (.tmp 28) rfl W.heap.size u6 _ _ rfl (HOW.out.alloc _) wr.heap.size m rfl (by simp) ?c2 ?c3 ?_)
        case c2 => omega
        case c3 => have := HBL.out.size; simp; omega
        intro v' w1 hown' hgrow _
        have hbel2 : Below W.heap.size W w1 := (HBL.out.alloc HBL.out.size (.cells #[.int .i64 m] 3)).grown hgrow (by have := HBL.out.size; simp; omega) (own_ge HOW.out)
        have hown2 : w1.ownsRow W.heap.size 3 1 v' (but n (L.take (k + 1))).length (iv (but n (L.take (k + 1)))) := by rw [HE.out, iv_snoc, List.length_append]; exact hown'
        have HO2 := Lib.hid hown2
        have HB3 := Lib.hid hbel2
        clear hown' hgrow hown2 hbel2
        go_wp2_with fail
        go_roundw
        case rel => exact ⟨k + 1, by go_num, by omega, HB3.out, HO2.out⟩
        case measure => simp [intOf]; omega
    · obtain rfl : k = L.length := by omega
      rw [List.take_length] at HOW hbl
      have h21 : wr.cell? ⟨w.heap.size, 1, none⟩ = some (.int .u64 e) := by rw [HBL.out.cell (by have := HS2.out; simp; omega), cell_of_row _ _ _ _ _ _ HB2.out]; rfl
      have h4 : wr.heap[w.heap.size + 1]? = some (.cells #[.slice none 0 0, .int .u64 0] 48 (0, 0)) := (HBL.out.block _ (by have := HS2.out; omega)).trans HB4.out
      obtain ⟨av, cv, rfl⟩ := own_form HOW.out
      clear hlt hk
      go_wp2_with fail
      have h40 : wr.cell? ⟨w.heap.size + 1, 0, none⟩ = some (.slice none 0 0) := by rw [cell_of_row _ _ _ _ _ _ h4]; rfl
      have h41 : wr.cell? ⟨w.heap.size + 1, 1, none⟩ = some (.int .u64 0) := by rw [cell_of_row _ _ _ _ _ _ h4]; rfl
      have f40 := frozen_of_row _ _ 0 _ _ h4
      have f41 := frozen_of_row _ _ 1 _ _ h4
      have HP : Hid (EndPost w L e n (.returned (.tuple #[.agg #[.slice av (but n L).length cv, .int .u64 e], .bool (decide ((but n L).length < L.length))])) (((wr.setCell ⟨w.heap.size + 1, 0, none⟩ (.slice av (but n L).length cv)).setCell ⟨w.heap.size + 1, 1, none⟩ (.int .u64 e)).drew)) := by
        have hlt4 := lt_of_block h4
        have hs := HS2.out
        have hbw : Below w.heap.size w (((wr.setCell ⟨w.heap.size + 1, 0, none⟩ (.slice av (but n L).length cv)).setCell ⟨w.heap.size + 1, 1, none⟩ (.int .u64 e)).drew) := (((HAL.out.trans (HBL.out.mono (by omega))).setCell (by show w.heap.size ≤ w.heap.size + 1; omega) _).setCell (by show w.heap.size ≤ w.heap.size + 1; omega) _).drew
        refine ⟨_, rfl, own_mono (own_keep HOW.out fun g hg => ?_) (by omega), hbw⟩
        have hge := own_ge HOW.out g hg
        show ((wr.setCell ⟨w.heap.size + 1, 0, none⟩ _).setCell ⟨w.heap.size + 1, 1, none⟩ _).heap[g]? = _
        rw [heap_setCell_other _ _ _ _ (by show g ≠ w.heap.size + 1; omega), heap_setCell_other _ _ _ _ (by show g ≠ w.heap.size + 1; omega)]
      have h4' := set_heap (i := 1) (v := .int .u64 e) (set_heap (i := 0) (v := .slice av (but n L).length cv) h4)
      go_region
      have hR : (((wr.setCell ⟨w.heap.size + 1, 0, none⟩ (.slice av (but n L).length cv)).setCell ⟨w.heap.size + 1, 1, none⟩ (.int .u64 e)).drew).heap[w.heap.size + 1]? = some (.cells #[.slice av (but n L).length cv, .int .u64 e] 48 (0, 0)) := h4'
      clear h4' h40 h41 f40 f41 h4 h20 h21
      generalize ((wr.setCell ⟨w.heap.size + 1, 0, none⟩ (.slice av (but n L).length cv)).setCell ⟨w.heap.size + 1, 1, none⟩ (.int .u64 e)).drew = W9 at *
      have r0 : W9.cell? ⟨w.heap.size + 1, 0, none⟩ = some (.slice av (but n L).length cv) := by rw [cell_of_row _ _ _ _ _ _ hR]; rfl
      have r1 : W9.cell? ⟨w.heap.size + 1, 1, none⟩ = some (.int .u64 e) := by rw [cell_of_row _ _ _ _ _ _ hR]; rfl
      clear hR
      go_wp2
      exact bodyPost_ret (v := .tuple #[.agg #[.slice av (but n L).length cv, .int .u64 e], .bool (decide ((but n L).length < L.length))]) (by simp [results, Try.results19, go_sem, r0, r1]) rfl HP.out

set_option maxHeartbeats 1000000 in
theorem refFire_any (ao : Option Addr) (len cap : Nat) (e now : Int) (w : World) :
    Calls Try.prog 20 #[.agg #[.slice ao len cap, .int .u64 e], .int .u64 now] w fun r w' => r = .returned (.tuple (if now < e then #[.agg #[.slice ao len cap, .int .u64 e], .slice none 0 0] else #[.agg #[.slice none 0 0, .int .u64 e], .slice ao len cap])) ∧ Below w.heap.size w w' := by
  have z := fun w => zeroM w
  have hb2 : ((w.alloc (.cells #[.slice ao len cap, .int .u64 e] 48)).alloc (.cells #[.slice none 0 0, .int .u64 0] 48)).heap[w.heap.size]? = some (.cells #[.slice ao len cap, .int .u64 e] 48 (0, 0)) := by
    rw [Below.heap_alloc _ _ _ (by simp)]; exact heap_alloc_new _ _
  have HB2 := Lib.hid hb2
  have HB4 := Lib.hid (heap_alloc2_new w (.cells #[.slice ao len cap, .int .u64 e] 48) (.cells #[.slice none 0 0, .int .u64 0] 48))
  clear hb2
  by_cases hlt : now < e
  · have HI : Hid ((if now < e then #[.agg #[.slice ao len cap, .int .u64 e], .slice none 0 0] else #[.agg #[.slice none 0 0, .int .u64 e], .slice ao len cap] : Array Value) = #[.agg #[.slice ao len cap, .int .u64 e], .slice none 0 0]) := if_pos hlt
    rw [HI.out]
    go_enter Try.func20, Try.ntmps20
    go_wp2_with (first | (refine wpList_store_row rfl 48 (.tmp 4) (.tmp 10) rfl (w.heap.size + 1) #[.slice ao len cap, .int .u64 e] rfl rfl 48 #[.slice none 0 0, .int .u64 0] HB4.out (by kernel_rfl) rfl rfl ?_) | (refine wpList_load_row rfl 48 (.tmp 2) rfl w.heap.size rfl 48 #[.slice ao len cap, .int .u64 e] (0, 0) _ HB2.out Try.underlying48 rfl (by kernel_rfl) ?_))
    trace_state
    exact bodyPost_ret (v := .tuple #[.agg #[.slice ao len cap, .int .u64 e], .slice none 0 0]) (by simp [results, Try.results20, go_sem]) rfl ⟨rfl, ((Below.refl _ _).alloc (Nat.le_refl _) _).alloc (by simp) _⟩
  · have HI : Hid ((if now < e then #[.agg #[.slice ao len cap, .int .u64 e], .slice none 0 0] else #[.agg #[.slice none 0 0, .int .u64 e], .slice ao len cap] : Array Value) = #[.agg #[.slice none 0 0, .int .u64 e], .slice ao len cap]) := if_neg hlt
    rw [HI.out]
    go_enter Try.func20, Try.ntmps20
    go_wp2_with fail
    go_region
    go_wp2
    exact bodyPost_ret (v := .tuple #[.agg #[.slice none 0 0, .int .u64 e], .slice ao len cap]) (by simp [results, Try.results20, go_sem]) rfl ⟨rfl, (((Below.refl _ _).alloc (Nat.le_refl _) _).alloc (by simp) _).drew⟩
end Go.Proofs.Ytbkgipafikeccaa
