/- (*Rib).Mark. -/
import Derived.Test.YtcljkcgccahlcaaTP
import Derived.Test.YtcljkcgccahlcaaTX
import Derived.Test.YtcljkcgccahlcaaTH
import Derived.Test.YtcljkcgccahlcaaTO0
namespace Go.Proofs.Ytcljkcgccahlcaa
open Go.RowKit
set_option linter.unusedVariables false

theorem enters_all : ∀ args w, (callFunc 35 args).run Try.prog w = .ok (.enter 35 args) w := enters_of Try.func35 (by kernel_rfl) rfl
theorem enters_stale : ∀ args w, (callFunc 43 args).run Try.prog w = .ok (.enter 43 args) w := enters_of Try.func43 (by kernel_rfl) rfl
theorem places_all (b m n : Nat) (F : Tbl) (fam : Int) (w : World) (h : IsRib w b m n F) (hn : n < 1000000) :
    Calls Try.prog 34 #[.pointer (some ⟨b, 0, none⟩), .int .i64 fam, .func (.func 35) #[] #[]] w fun e w' => ∃ v L, e = .returned v ∧ NewPl w w' v L ∧ Hid (PlacesOf F (fun _ => true) fam L) ∧ L.length ≤ n :=
  places_any _ _ asks_all enters_all b m n F fam w h hn
theorem places_stale (b m n : Nat) (F : Tbl) (fam : Int) (w : World) (h : IsRib w b m n F) (hn : n < 1000000) :
    Calls Try.prog 34 #[.pointer (some ⟨b, 0, none⟩), .int .i64 fam, .func (.func 43) #[] #[]] w fun e w' => ∃ v L, e = .returned v ∧ NewPl w w' v L ∧ Hid (PlacesOf F (fun x => x.stale) fam L) ∧ L.length ≤ n :=
  places_any _ _ asks_stale enters_stale b m n F fam w h hn

/-- 'x.stale = true'. -/
def To.old (x : To) : To := { x with stale := true }
theorem old_list (x : To) : x.old.list = x.list.set 17 (.bool true) := rfl
theorem list_17 (x : To) : x.list[17]? = some (.bool x.stale) := rfl
theorem take_snoc' {α : Type} (K : List α) (k : Nat) (d : α) (hlt : k < K.length) : K.take (k + 1) = K.take k ++ [K.getD k d] := by
  rw [List.take_succ_eq_append_getElem hlt]; simp [List.getD_eq_getElem?_getD, List.getElem?_eq_getElem hlt]
theorem nodup_take {α : Type} [DecidableEq α] {K : List α} (h : K.Nodup) {k : Nat} (d : α) (hlt : k < K.length) : K.getD k d ∉ K.take k := by
  intro hm
  rw [List.getD_eq_getElem?_getD, List.getElem?_eq_getElem hlt, Option.getD_some] at hm
  obtain ⟨j, hj, he⟩ := List.mem_take_iff_getElem.1 hm
  have := (List.getElem_inj h).1 he
  omega

set_option maxRecDepth 100000 in
set_option maxHeartbeats 4000000 in
theorem mark_any (b m n : Nat) (F : Tbl) (fam : Int) (w : World) (h : IsRib w b m n F) (hn : n < 100000) :
    Calls Try.prog 10 #[.pointer (some ⟨b, 0, none⟩), .int .i64 fam] w fun e w' => ∃ L, e = .returned (.int .i64 (L.length : Nat)) ∧ Hid (PlacesOf F (fun _ => true) fam L) ∧ IsRib w' b m (n + n) (F.mark fam) ∧ But m w w' := by
  have hp := places_all b m n F fam w h (by omega)
  have HP := Lib.hid hp
  have hmlt := h.map.lt
  have hne := h.ne
  have HR := Lib.hid h
  clear hp h
  go_enter Try.func10, Try.ntmps10
  go_wp2_with fail
  refine HP.out.mono ?_
  rintro e w1 ⟨v, L, rfl, hnew, hpl, hlen⟩
  obtain ⟨ao, cap, g, off, rfl, hcap, hao, hat⟩ := plRow_open hnew.1
  have hR1 := HR.out.below hnew.2
  have hB1 := hnew.2
  have hs1 := hnew.2.size
  have HA := Lib.hid hao
  have HAT := Lib.hid hat
  have hL9 : L.length ≤ 9223372036854775807 := by omega
  clear hao hat hnew HP HR
  go_wp2_with fail
  go_loopw [14] (fun i wr => ∃ k : Nat, i = .int .i64 k ∧ k ≤ L.length ∧ IsRib wr b m (n + k) (F.marks (L.take k)) ∧ But m w1 wr) (fun i _ => L.length - (intOf i).toNat)
  case atStart => exact ⟨0, rfl, Nat.zero_le _, by rw [List.take_zero, marks_nil]; exact hR1, But.refl _ _⟩
  case round =>
    obtain ⟨k, rfl, hk, hR, hbut⟩ := hrel
    by_cases hlt : k < L.length
    · obtain ⟨rfl, hgb, hgl⟩ := HA.out (by omega)
      obtain ⟨q0, q1, q2, q3, q4⟩ := (HAT.out k hlt).keep (hbut.block g hgl (by omega))
      have hT := take_snoc' L k default hlt
      have hnot := nodup_take hpl.out.nodup default hlt
      obtain ⟨x, hx⟩ : ∃ x, F (L.getD k default) = some x := by
        obtain ⟨_, x, hx, _⟩ := (hpl.out.mem (L.getD k default)).1 (by rw [List.getD_eq_getElem?_getD, List.getElem?_eq_getElem hlt, Option.getD_some]; exact List.getElem_mem hlt)
        exact ⟨x, hx⟩
      obtain ⟨p, hp⟩ : ∃ p, L.getD k default = p := ⟨_, rfl⟩
      rw [hp] at q0 q1 q2 q3 q4 hT hnot hx
      have hok : p.Ok := hR.map.ok (by rw [marks_out hnot]; exact hx)
      have hms := marks_snoc F (L.take k) p x hnot hx
      rw [← hT] at hms
      have hxx : (F.marks (L.take k)) p = some x := by rw [marks_out hnot]; exact hx
      have HMS := Lib.hid hms
      have HXX := Lib.hid hxx
      have HOK := Lib.hid hok
      clear hT hnot hx hp hok hms hxx hpl
      have zp := fun w => zeroPl w
      go_wp2
      -- the key's box
      have hR4 := hR.below ((Below.refl _ _).alloc (Nat.le_refl _) (.cells p.val 83))
      have hbut4 := hbut.alloc (.cells p.val 83)
      have hblk8 : (wr.alloc (.cells p.val 83)).heap[wr.heap.size]? = some (.cells p.val 83 (0, 0)) := heap_alloc_new _ _
      have hs4 : (wr.alloc (.cells p.val 83)).heap.size = wr.heap.size + 1 := by simp
      simp only [Pl.val] at hR4 hbut4 hblk8 hs4
      obtain ⟨W4, hW4⟩ : ∃ W4, W4 = wr.alloc (.cells #[.int .i64 p.fam, .int .u64 p.rd, .string p.addr, .int .i64 p.len, .int .u32 p.id] 83) := ⟨_, rfl⟩
      rw [← hW4] at hR4 hbut4 hblk8 hs4 ⊢
      clear hW4
      have hmg : m < wr.heap.size := by have := hbut.size; omega
      have hwg : w1.heap.size ≤ wr.heap.size := hbut.size
      have hb1 := hR1.lt
      obtain ⟨g8, hg8⟩ : ∃ g8, wr.heap.size = g8 := ⟨_, rfl⟩
      rw [hg8] at hblk8 hs4 hmg hwg ⊢
      clear hg8 hR hbut q0 q1 q2 q3 q4 zp
      have hlk1 := (hR4.map.keep (w' := W4.drew) rfl).look HXX.out
      have hlk2 := (hR4.map.keep (w' := (W4.alloc (.cells To.zero.cells 85)).drew) (Below.heap_alloc W4 _ m hR4.map.lt)).look HXX.out
      have hth := there_new W4.drew To.zero
      rw [To.cells_list x] at hlk1 hlk2
      simp only [Pl.val] at hlk1 hlk2
      have hL1 := to_len x
      have hL2 := to_ones x
      have hL3 := size85 x
      have hL4 := list_17 x
      have hL5 := Lib.hid (old_list x)
      obtain ⟨LS, hL⟩ : ∃ LS, x.list = LS := ⟨_, rfl⟩
      rw [hL] at hlk1 hlk2 hL1 hL2 hL3 hL4 hL5
      clear hL
      have z2 := fun w => zeroTo w
      have z3 := to_ne To.zero
      have hst : (storeCells ⟨g8 + 1, 0, none⟩ LS).run Try.prog (W4.alloc (.cells To.zero.cells 85)).drew = _ := run_store_there _ _ _ LS (by rw [hL1, ← hs4]; exact hth) hL2
      have hput := fun (w' : World) (hb : Below W4.heap.size W4 w') => putS (W := W4) (g8 := g8) hR4.at_ hblk8 hR4.lt (by omega) hb
      go_region_held3 (fun w' => w'.cell? ⟨b, 1, none⟩ = some (.map (some m)) ∧ w'.cell? ⟨g8, 0, none⟩ = some (.int .i64 p.fam) ∧ w'.cell? ⟨g8, 1, none⟩ = some (.int .u64 p.rd) ∧ w'.cell? ⟨g8, 2, none⟩ = some (.string p.addr) ∧ w'.cell? ⟨g8, 3, none⟩ = some (.int .i64 p.len) ∧ w'.cell? ⟨g8, 4, none⟩ = some (.int .u32 p.id))
        (first | exact hput _ (Below.refl _ _).drew | exact hput _ ((Below.refl _ _).drew.alloc (Nat.le_refl _) _) | exact hput _ (below_setCells ((Below.refl _ _).drew.alloc (Nat.le_refl _) _) (by rw [hs4]; exact Nat.le_refl _)))
        (fail)
      all_goals
        have hth2 : (W4.alloc (.cells To.zero.cells 85)).drew.there (g8 + 1) 0 LS.length := by rw [hL1, ← hs4]; exact hth
        have hbel5 : Below W4.heap.size W4 ((W4.alloc (Obj.cells To.zero.cells 85)).drew.setCells (g8 + 1) 0 LS) := below_setCells ((Below.refl _ _).alloc (Nat.le_refl _) _).drew (by rw [hs4]; exact Nat.le_refl _)
        have hrg5 := World.rangeAt_setCells_same _ _ _ LS hth2
        have hth5 := World.there_setCells hth2 (g8 + 1) 0 LS
        have hR5 := hR4.below hbel5
        have hbut5 := hbut4.trans (But.of_below hbel5)
        have hblk5 := (hbel5.block g8 (by omega)).trans hblk8
        have hcs := hput _ hbel5
        clear hlk1 hlk2 hst hth hth2 hL2 hL3 hput z2 z3 hbel5 hR4 hbut4 hblk8 hs4
        generalize (W4.alloc (Obj.cells To.zero.cells 85)).drew.setCells (g8 + 1) 0 LS = W5 at *
        clear hcs
        have hc17 := hrg5 17 _ hL4
        have hf17 := (hth5 17 (by omega)).2
        rw [Nat.zero_add] at hc17 hf17
        have hrg6 := rangeAt_set hrg5 hL4 (.bool true)
        rw [← hL5.out] at hrg6
        have hsz5 := hbut5.size
        have hR6 := hR5.keep (w' := W5.setCell ⟨g8 + 1, 17, none⟩ (.bool true)) (heap_setCell_other _ _ _ _ (by show (_ : Nat) ≠ g8 + 1; omega)) (heap_setCell_other _ _ _ _ (by show (_ : Nat) ≠ g8 + 1; omega))
        have hblk6 : (W5.setCell ⟨g8 + 1, 17, none⟩ (.bool true)).heap[g8]? = _ := (heap_setCell_other _ _ _ _ (by show (_ : Nat) ≠ g8 + 1; omega)).trans hblk5
        have hbut6 : But m w1 (W5.setCell ⟨g8 + 1, 17, none⟩ (.bool true)) := ⟨hbut5.os, hbut5.tape, hbut5.output, by rw [World.size_setCell]; exact hbut5.size, fun j hj hjm => (heap_setCell_other _ _ _ _ (by show (_ : Nat) ≠ g8 + 1; omega)).trans (hbut5.block j hj hjm)⟩
        have hg9 : g8 + 1 < (W5.setCell ⟨g8 + 1, 17, none⟩ (.bool true)).heap.size := by rw [World.size_setCell]; have := World.block_lt_of_cell? _ _ hc17; simpa using this
        clear hrg5 hth5 hR5 hblk5 hbut5
        go_wp2
        generalize W5.setCell ⟨g8 + 1, 17, none⟩ (.bool true) = W6 at *
        have hkeep : Hid (∀ w', But m W6 w' → w'.cell? ⟨b, 1, none⟩ = some (.map (some m)) ∧ w'.cell? ⟨g8, 0, none⟩ = some (.int .i64 p.fam) ∧ w'.cell? ⟨g8, 1, none⟩ = some (.int .u64 p.rd) ∧ w'.cell? ⟨g8, 2, none⟩ = some (.string p.addr) ∧ w'.cell? ⟨g8, 3, none⟩ = some (.int .i64 p.len) ∧ w'.cell? ⟨g8, 4, none⟩ = some (.int .u32 p.id) ∧ w'.cell? ⟨g8 + 1, 0, none⟩ = some (.int .u32 x.label) ∧ w'.cell? ⟨g8 + 1, 1, none⟩ = some (.int .i64 x.orig) ∧ w'.cell? ⟨g8 + 1, 2, none⟩ = some (.slice none 0 0) ∧ w'.cell? ⟨g8 + 1, 3, none⟩ = some (.string ⟨#[]⟩) ∧ w'.cell? ⟨g8 + 1, 4, none⟩ = some (.bool x.hm) ∧ w'.cell? ⟨g8 + 1, 5, none⟩ = some (.int .u32 x.med) ∧ w'.cell? ⟨g8 + 1, 6, none⟩ = some (.bool false) ∧ w'.cell? ⟨g8 + 1, 7, none⟩ = some (.int .u32 0) ∧ w'.cell? ⟨g8 + 1, 8, none⟩ = some (.bool false) ∧ w'.cell? ⟨g8 + 1, 9, none⟩ = some (.int .u32 0) ∧ w'.cell? ⟨g8 + 1, 10, none⟩ = some (.int .u32 0) ∧ w'.cell? ⟨g8 + 1, 11, none⟩ = some (.slice none 0 0) ∧ w'.cell? ⟨g8 + 1, 12, none⟩ = some (.slice none 0 0) ∧ w'.cell? ⟨g8 + 1, 13, none⟩ = some (.slice none 0 0) ∧ w'.cell? ⟨g8 + 1, 14, none⟩ = some (.bool false) ∧ w'.cell? ⟨g8 + 1, 15, none⟩ = some (.int .u32 0) ∧ w'.cell? ⟨g8 + 1, 16, none⟩ = some (.slice none 0 0) ∧ w'.cell? ⟨g8 + 1, 17, none⟩ = some (.bool true)) := by
          intro w' hb
          have k8 := (hb.block g8 (lt_of_block hblk6) (by omega)).trans hblk6
          exact ⟨(hb.cell hR6.lt hne).trans hR6.at_, cell_of_row _ _ _ _ _ _ k8, cell_of_row _ _ _ _ _ _ k8, cell_of_row _ _ _ _ _ _ k8, cell_of_row _ _ _ _ _ _ k8, cell_of_row _ _ _ _ _ _ k8, cellsT_of_range (x := x.old) (fun j v hv => by rw [hb.cell hg9 (by omega)]; exact hrg6 j v hv)⟩
        obtain ⟨w8, hrun, hM8, hbut8⟩ := (hR6.map.keep (w' := W6.drew) rfl).update (by unfold maxLen; omega) HOK.out x.old
        simp only [Pl.val, To.cells, To.old] at hrun
        replace hbut8 : But m W6 w8 := ⟨hbut8.os, hbut8.tape, hbut8.output, hbut8.size, hbut8.block⟩
        go_region_held3 (fun w' => w'.cell? ⟨b, 1, none⟩ = some (.map (some m)) ∧ w'.cell? ⟨g8, 0, none⟩ = some (.int .i64 p.fam) ∧ w'.cell? ⟨g8, 1, none⟩ = some (.int .u64 p.rd) ∧ w'.cell? ⟨g8, 2, none⟩ = some (.string p.addr) ∧ w'.cell? ⟨g8, 3, none⟩ = some (.int .i64 p.len) ∧ w'.cell? ⟨g8, 4, none⟩ = some (.int .u32 p.id) ∧ w'.cell? ⟨g8 + 1, 0, none⟩ = some (.int .u32 x.label) ∧ w'.cell? ⟨g8 + 1, 1, none⟩ = some (.int .i64 x.orig) ∧ w'.cell? ⟨g8 + 1, 2, none⟩ = some (.slice none 0 0) ∧ w'.cell? ⟨g8 + 1, 3, none⟩ = some (.string ⟨#[]⟩) ∧ w'.cell? ⟨g8 + 1, 4, none⟩ = some (.bool x.hm) ∧ w'.cell? ⟨g8 + 1, 5, none⟩ = some (.int .u32 x.med) ∧ w'.cell? ⟨g8 + 1, 6, none⟩ = some (.bool false) ∧ w'.cell? ⟨g8 + 1, 7, none⟩ = some (.int .u32 0) ∧ w'.cell? ⟨g8 + 1, 8, none⟩ = some (.bool false) ∧ w'.cell? ⟨g8 + 1, 9, none⟩ = some (.int .u32 0) ∧ w'.cell? ⟨g8 + 1, 10, none⟩ = some (.int .u32 0) ∧ w'.cell? ⟨g8 + 1, 11, none⟩ = some (.slice none 0 0) ∧ w'.cell? ⟨g8 + 1, 12, none⟩ = some (.slice none 0 0) ∧ w'.cell? ⟨g8 + 1, 13, none⟩ = some (.slice none 0 0) ∧ w'.cell? ⟨g8 + 1, 14, none⟩ = some (.bool false) ∧ w'.cell? ⟨g8 + 1, 15, none⟩ = some (.int .u32 0) ∧ w'.cell? ⟨g8 + 1, 16, none⟩ = some (.slice none 0 0) ∧ w'.cell? ⟨g8 + 1, 17, none⟩ = some (.bool true))
          (first | exact hkeep.out _ (But.of_below (Below.refl _ _).drew) | exact hkeep.out _ hbut8)
          (fail)
        clear hkeep hrun hR6 hblk6 hrg6 hg9
        have hbutE := hbut6.trans hbut8
        have hRE : IsRib w8 b m (n + (k + 1)) (F.marks (L.take (k + 1))) := ⟨(hbutE.block b hb1 hne).trans hR1.blk, by rw [← HMS.out]; exact hM8⟩
        clear hbut6 hbut8 hM8
        go_wp2
        go_roundw
        case rel => exact ⟨k + 1, by go_num, by omega, hRE, hbutE⟩
        case measure => simp [intOf]; omega
    · obtain rfl : k = L.length := by omega
      rw [List.take_length, places_mark hpl.out] at hR
      have hlast : But m w wr := (But.of_below hB1).trans hbut
      clear hbut hB1 hs1
      go_wp2
      go_ret
      exact ⟨L, rfl, hpl, hR.mono (by omega), hlast⟩
end Go.Proofs.Ytcljkcgccahlcaa
