/- (*Rib).Put. -/
import Derived.Test.YtcljkcgccahlcaaTO0
namespace Go.Proofs.Ytcljkcgccahlcaa
open Go.RowKit
set_option linter.unusedVariables false

set_option maxRecDepth 100000 in
set_option maxHeartbeats 4000000 in
theorem put_no (b m n : Nat) (F : Tbl) (p : Pl) (label a med : Int) (mb : Bool) (hno : chkN p label = false) (w : World) (h : IsRib w b m n F) :
    Calls Try.prog 7 #[.pointer (some ⟨b, 0, none⟩), .agg (nlC p label), .agg (aC a mb med)] w fun e w' => e = .returned (.tuple #[.bool false, .int .i64 2]) ∧ Below w.heap.size w w' := by
  have hp0 := pw_start w p label (aC a mb med)
  have hn : ∀ w, Calls Try.prog 19 #[.agg (nlC p label)] w fun e w' => e = .returned (.int .i64 2) ∧ Below w.heap.size w w' := fun w => by have := ncheck_any p label w; rw [hno] at this; exact this
  have HN := Lib.hid hn
  have hat := (h.below ((Below.refl _ _).alloc (Nat.le_refl _) (.cells (nlC p label) 41))).below ((Below.refl _ _).alloc (Nat.le_refl _) (.cells (aC a mb med) 47)) |>.at_
  have hb4 := hp0.blk4
  have HP := Lib.hid hp0
  have HB4 := Lib.hid hb4
  clear hn hno h hp0 hb4
  go_enter Try.func7, Try.ntmps7
  go_wp2_with fail
  refine (rnone_no b m _ hat).mono ?_
  rintro e w' ⟨rfl, rfl⟩
  go_wp2_with (refine wpList_load_row rfl 41 (.tmp 4) rfl w.heap.size rfl 41 (nlC p label) (0, 0) _ HB4.out Try.underlying41 rfl (by kernel_rfl) ?_)
  refine (HN.out _).mono ?_
  rintro e w2 ⟨rfl, hb⟩
  have hbel := (HP.out.next hb).bel
  clear hb
  go_wp2
  go_ret2
  exact ⟨rfl, hbel⟩

set_option maxRecDepth 100000 in
set_option maxHeartbeats 4000000 in
theorem put_yes (b m n : Nat) (F : Tbl) (p : Pl) (label a med : Int) (mb : Bool) (hyes : chkN p label = true) (hok : p.Ok) (hao : AOk a mb med) (w : World) (h : IsRib w b m n F) (hn : n < 1000000) :
    Calls Try.prog 7 #[.pointer (some ⟨b, 0, none⟩), .agg (nlC p label), .agg (aC a mb med)] w fun e w' => e = .returned (.tuple #[.bool false, .int .i64 0]) ∧ IsRib w' b m (n + 1) (F.set p (some ⟨label, a, mb, med, false⟩)) ∧ But m w w' := by
  have hp0 := pw_start w p label (aC a mb med)
  have hn : ∀ w, Calls Try.prog 19 #[.agg (nlC p label)] w fun e w' => e = .returned (.int .i64 0) ∧ Below w.heap.size w w' := fun w => by have := ncheck_any p label w; rw [hyes] at this; exact this
  have HN := Lib.hid hn
  have hat := (h.below ((Below.refl _ _).alloc (Nat.le_refl _) (.cells (nlC p label) 41))).below ((Below.refl _ _).alloc (Nat.le_refl _) (.cells (aC a mb med) 47)) |>.at_
  have hb4 := hp0.blk4
  have HP := Lib.hid hp0
  have HB4 := Lib.hid hb4
  have HR := Lib.hid h
  have HOK := Lib.hid hok
  have HAO := Lib.hid hao
  clear hn hyes h hp0 hb4 hok hao
  go_enter Try.func7, Try.ntmps7
  go_wp2_with fail
  refine (rnone_no b m _ hat).mono ?_
  rintro e w' ⟨rfl, rfl⟩
  go_wp2_with (refine wpList_load_row rfl 41 (.tmp 4) rfl w.heap.size rfl 41 (nlC p label) (0, 0) _ HB4.out Try.underlying41 rfl (by kernel_rfl) ?_)
  refine (HN.out _).mono ?_
  rintro e w2 ⟨rfl, hb⟩
  have hp2 := HP.out.next hb
  clear hb hat
  obtain ⟨d0, d1, d2, d3, d4, d5, d6, d7, d8, d9, d10, d11, d12, d13, d14, d15⟩ := cellsA_of_row hp2.blk5
  go_wp2_with fail
  refine (acheck_any a mb med HAO.out _).mono ?_
  rintro e w3 ⟨rfl, hb⟩
  have hp3 := hp2.next hb
  clear hb hp2 d0 d1 d2 d3 d4 d5 d6 d7 d8 d9 d10 d11 d12 d13 d14 d15
  obtain ⟨c0, c1, c2, c3, c4, c5⟩ := hp3.c4
  have zp := fun w => zeroPl w
  go_wp2
  have hR4 := HR.out.below (hp3.next ((Below.refl _ _).alloc (Nat.le_refl _) (.cells p.val 83))).bel
  have hp4 := hp3.next ((Below.refl _ _).alloc (Nat.le_refl _) (.cells p.val 83))
  have hblk8 : (w3.alloc (.cells p.val 83)).heap[w3.heap.size]? = some (.cells p.val 83 (0, 0)) := heap_alloc_new _ _
  have hs4 : (w3.alloc (.cells p.val 83)).heap.size = w3.heap.size + 1 := by simp
  simp only [Pl.val] at hR4 hp4 hblk8 hs4
  obtain ⟨W4, hW4⟩ : ∃ W4, W4 = w3.alloc (.cells #[.int .i64 p.fam, .int .u64 p.rd, .string p.addr, .int .i64 p.len, .int .u32 p.id] 83) := ⟨_, rfl⟩
  rw [← hW4] at hR4 hp4 hblk8 hs4 ⊢
  clear hW4
  obtain ⟨g8, hg8⟩ : ∃ g8, w3.heap.size = g8 := ⟨_, rfl⟩
  rw [hg8] at hblk8 hs4 ⊢
  have hg8w : w.heap.size + 2 ≤ g8 := by rw [← hg8]; exact hp3.big
  clear hp3 hg8 c0 c1 c2 c3 c4 c5
  have hz1 := hR4.map.look_ok HOK.out
  have hlk1 := (hR4.map.keep (w' := W4.drew) rfl).look_ok HOK.out
  have hlk2 := (hR4.map.keep (w' := (W4.alloc (.cells To.zero.cells 85)).drew) (Below.heap_alloc W4 _ m hR4.map.lt)).look_ok HOK.out
  have hth := there_new W4.drew To.zero
  clear hz1
  rw [To.cells_list ((F p).getD To.zero)] at hlk1 hlk2
  simp only [Pl.val] at hlk1 hlk2
  have hL1 := to_len ((F p).getD To.zero)
  have hL2 := to_ones ((F p).getD To.zero)
  have hL3 := size85 ((F p).getD To.zero)
  obtain ⟨L, hL⟩ : ∃ L, ((F p).getD To.zero).list = L := ⟨_, rfl⟩
  rw [hL] at hlk1 hlk2 hL1 hL2 hL3
  clear hL
  obtain ⟨is, his⟩ : ∃ is, (F p).isSome = is := ⟨_, rfl⟩
  rw [his] at hlk1 hlk2
  clear his
  have z2 := fun w => zeroTo w
  have z3 := to_ne To.zero
  have hst : (storeCells ⟨g8 + 1, 0, none⟩ L).run Try.prog (W4.alloc (.cells To.zero.cells 85)).drew = _ := run_store_there _ _ _ L (by rw [hL1, ← hs4]; exact hth) hL2
  have hput := fun (w' : World) (hb : Below W4.heap.size W4 w') => putS (W := W4) (g8 := g8) hR4.at_ hblk8 hR4.lt (by omega) hb
  go_region_held3 (fun w' => w'.cell? ⟨b, 1, none⟩ = some (.map (some m)) ∧ w'.cell? ⟨g8, 0, none⟩ = some (.int .i64 p.fam) ∧ w'.cell? ⟨g8, 1, none⟩ = some (.int .u64 p.rd) ∧ w'.cell? ⟨g8, 2, none⟩ = some (.string p.addr) ∧ w'.cell? ⟨g8, 3, none⟩ = some (.int .i64 p.len) ∧ w'.cell? ⟨g8, 4, none⟩ = some (.int .u32 p.id))
    (first | exact hput _ (Below.refl _ _).drew | exact hput _ ((Below.refl _ _).drew.alloc (Nat.le_refl _) _) | exact hput _ (below_setCells ((Below.refl _ _).drew.alloc (Nat.le_refl _) _) (by rw [hs4]; exact Nat.le_refl _)))
    (fail)
  all_goals
    have hbel5 : Below W4.heap.size W4 ((W4.alloc (Obj.cells To.zero.cells 85)).drew.setCells (g8 + 1) 0 L) := below_setCells ((Below.refl _ _).alloc (Nat.le_refl _) _).drew (by rw [hs4]; exact Nat.le_refl _)
    have hp5 := hp4.next hbel5
    have hR5 := hR4.below hbel5
    have hcs := hput _ hbel5
    have hblk5 := (hbel5.block g8 (by omega)).trans hblk8
    clear hlk1 hlk2 hst hth hL1 hL2 hL3 hput z2 z3 zp hbel5 hp4 hR4 hblk8 hs4
    generalize (W4.alloc (Obj.cells To.zero.cells 85)).drew.setCells (g8 + 1) 0 L = W5 at *
    have hmost := hR5.most
    obtain ⟨e0, e1, e2, e3, e4, e5⟩ := hcs
    cases is
    all_goals
      go_wp2_with fail
      go_quiet (fail)
      go_wp2_with fail
  all_goals
    have hbel6 : Below W5.heap.size W5 (W5.drewN nq) := ⟨rfl, rfl, rfl, Nat.le_refl _, fun _ _ => rfl⟩
    have hp6 := hp5.next hbel6
    have hR6 := hR5.below hbel6
    have hblk6 := (hbel6.block g8 (lt_of_block hblk5)).trans hblk5
    clear hbel6 hp5 hR5 hblk5 hmost e0 e1 e2 e3 e4 e5
    generalize W5.drewN nq = W6 at *
    have hkeep : Hid (∀ w', But m W6 w' → w'.cell? ⟨b, 1, none⟩ = some (.map (some m)) ∧ w'.cell? ⟨g8, 0, none⟩ = some (.int .i64 p.fam) ∧ w'.cell? ⟨g8, 1, none⟩ = some (.int .u64 p.rd) ∧ w'.cell? ⟨g8, 2, none⟩ = some (.string p.addr) ∧ w'.cell? ⟨g8, 3, none⟩ = some (.int .i64 p.len) ∧ w'.cell? ⟨g8, 4, none⟩ = some (.int .u32 p.id)
        ∧ w'.cell? ⟨w.heap.size, 5, none⟩ = some (.int .u32 label) ∧ w'.cell? ⟨w.heap.size + 1, 0, none⟩ = some (.int .i64 a) ∧ w'.cell? ⟨w.heap.size + 1, 1, none⟩ = some (.slice none 0 0) ∧ w'.cell? ⟨w.heap.size + 1, 2, none⟩ = some (.string ⟨#[]⟩) ∧ w'.cell? ⟨w.heap.size + 1, 3, none⟩ = some (.bool mb) ∧ w'.cell? ⟨w.heap.size + 1, 4, none⟩ = some (.int .u32 med) ∧ w'.cell? ⟨w.heap.size + 1, 5, none⟩ = some (.bool false) ∧ w'.cell? ⟨w.heap.size + 1, 6, none⟩ = some (.int .u32 0) ∧ w'.cell? ⟨w.heap.size + 1, 7, none⟩ = some (.bool false) ∧ w'.cell? ⟨w.heap.size + 1, 8, none⟩ = some (.int .u32 0) ∧ w'.cell? ⟨w.heap.size + 1, 9, none⟩ = some (.int .u32 0) ∧ w'.cell? ⟨w.heap.size + 1, 10, none⟩ = some (.slice none 0 0) ∧ w'.cell? ⟨w.heap.size + 1, 11, none⟩ = some (.slice none 0 0) ∧ w'.cell? ⟨w.heap.size + 1, 12, none⟩ = some (.slice none 0 0) ∧ w'.cell? ⟨w.heap.size + 1, 13, none⟩ = some (.bool false) ∧ w'.cell? ⟨w.heap.size + 1, 14, none⟩ = some (.int .u32 0) ∧ w'.cell? ⟨w.heap.size + 1, 15, none⟩ = some (.slice none 0 0)) := by
      intro w' hb
      have hml := HR.out.map.lt
      have hbne := HR.out.ne
      have hbig := hp6.big
      have k8 := (hb.block g8 (lt_of_block hblk6) (by omega)).trans hblk6
      have k4 := (hb.block w.heap.size (by omega) (by omega)).trans hp6.blk4
      have k5 := (hb.block (w.heap.size + 1) (by omega) (by omega)).trans hp6.blk5
      exact ⟨(hb.cell hR6.lt hbne).trans hR6.at_, cell_of_row _ _ _ _ _ _ k8, cell_of_row _ _ _ _ _ _ k8, cell_of_row _ _ _ _ _ _ k8, cell_of_row _ _ _ _ _ _ k8, cell_of_row _ _ _ _ _ _ k8, cell_of_row _ _ _ _ _ _ k4, cellsA_of_row k5⟩
    have hup : Hid (∀ w', Below W6.heap.size W6 w' → ∃ w8, (Instr.mapUpdate 74 (.map (some m)) (.agg #[.int .i64 p.fam, .int .u64 p.rd, .string p.addr, .int .i64 p.len, .int .u32 p.id]) (.agg #[.int .u32 label, .int .i64 a, .slice none 0 0, .string ⟨#[]⟩, .bool mb, .int .u32 med, .bool false, .int .u32 0, .bool false, .int .u32 0, .int .u32 0, .slice none 0 0, .slice none 0 0, .slice none 0 0, .bool false, .int .u32 0, .slice none 0 0, .bool false])).run Try.prog w' = .ok () w8
        ∧ MapIs w8 m (n + 1) (F.set p (some ⟨label, a, mb, med, false⟩)) ∧ But m w' w8) := fun w' hb => (hR6.map.keep (hb.block _ hR6.map.lt)).update (by unfold maxLen; omega) HOK.out ⟨label, a, mb, med, false⟩
    have hcp : Hid (∀ w, Calls Try.prog 27 #[.agg #[.int .i64 a, .slice none 0 0, .string ⟨#[]⟩, .bool mb, .int .u32 med, .bool false, .int .u32 0, .bool false, .int .u32 0, .int .u32 0, .slice none 0 0, .slice none 0 0, .slice none 0 0, .bool false, .int .u32 0, .slice none 0 0]] w fun e w' => e = .returned (.agg #[.int .i64 a, .slice none 0 0, .string ⟨#[]⟩, .bool mb, .int .u32 med, .bool false, .int .u32 0, .bool false, .int .u32 0, .int .u32 0, .slice none 0 0, .slice none 0 0, .slice none 0 0, .bool false, .int .u32 0, .slice none 0 0]) ∧ Below w.heap.size w w') := acopy_any a mb med
    have hcast : Hid (∀ w7, Below W6.drew.heap.size W6.drew w7 → Below W6.heap.size W6 w7) := fun w7 h => ⟨h.os, h.tape, h.output, h.size, h.block⟩
    go_region_held3 (fun w' => w'.cell? ⟨b, 1, none⟩ = some (.map (some m)) ∧ w'.cell? ⟨g8, 0, none⟩ = some (.int .i64 p.fam) ∧ w'.cell? ⟨g8, 1, none⟩ = some (.int .u64 p.rd) ∧ w'.cell? ⟨g8, 2, none⟩ = some (.string p.addr) ∧ w'.cell? ⟨g8, 3, none⟩ = some (.int .i64 p.len) ∧ w'.cell? ⟨g8, 4, none⟩ = some (.int .u32 p.id)
        ∧ w'.cell? ⟨w.heap.size, 5, none⟩ = some (.int .u32 label) ∧ w'.cell? ⟨w.heap.size + 1, 0, none⟩ = some (.int .i64 a) ∧ w'.cell? ⟨w.heap.size + 1, 1, none⟩ = some (.slice none 0 0) ∧ w'.cell? ⟨w.heap.size + 1, 2, none⟩ = some (.string ⟨#[]⟩) ∧ w'.cell? ⟨w.heap.size + 1, 3, none⟩ = some (.bool mb) ∧ w'.cell? ⟨w.heap.size + 1, 4, none⟩ = some (.int .u32 med) ∧ w'.cell? ⟨w.heap.size + 1, 5, none⟩ = some (.bool false) ∧ w'.cell? ⟨w.heap.size + 1, 6, none⟩ = some (.int .u32 0) ∧ w'.cell? ⟨w.heap.size + 1, 7, none⟩ = some (.bool false) ∧ w'.cell? ⟨w.heap.size + 1, 8, none⟩ = some (.int .u32 0) ∧ w'.cell? ⟨w.heap.size + 1, 9, none⟩ = some (.int .u32 0) ∧ w'.cell? ⟨w.heap.size + 1, 10, none⟩ = some (.slice none 0 0) ∧ w'.cell? ⟨w.heap.size + 1, 11, none⟩ = some (.slice none 0 0) ∧ w'.cell? ⟨w.heap.size + 1, 12, none⟩ = some (.slice none 0 0) ∧ w'.cell? ⟨w.heap.size + 1, 13, none⟩ = some (.bool false) ∧ w'.cell? ⟨w.heap.size + 1, 14, none⟩ = some (.int .u32 0) ∧ w'.cell? ⟨w.heap.size + 1, 15, none⟩ = some (.slice none 0 0))
      (first | exact hkeep.out _ (But.of_below (Below.refl _ _).drew) | exact hkeep.out _ (But.of_below (hcast.out _ hb7)) | exact hkeep.out _ ((But.of_below (hcast.out _ hb7)).trans hbut8))
      ((go_at_call 27; refine (hcp.out _).mono ?_; rintro e w7 ⟨rfl, hb7⟩; obtain ⟨w8, hrun, hM8, hbut8⟩ := hup.out w7 (hcast.out _ hb7)))
  all_goals
    have hlast : But m w w8 := (But.of_below (hp6.bel)).trans ((But.of_below (hcast.out _ hb7)).trans hbut8)
    have hblast : w8.heap[b]? = some (.cells #[.int .i64 0, .map (some m)] 76 (0, 0)) := (hlast.block b HR.out.lt HR.out.ne).trans HR.out.blk
    clear hkeep hup hcp hcast hb7 hbut8 hrun hp6 hR6 hblk6
    go_wp2
    go_ret2
    exact ⟨rfl, ⟨hblast, hM8⟩, hlast⟩
end Go.Proofs.Ytcljkcgccahlcaa
