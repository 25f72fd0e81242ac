/- known32: what is told anew stays, what is not goes. -/
import Derived.Test.YtcljkcgccahlcaaTW
import Derived.Test.YtcljkcgccahlcaaTO
import Derived.Test.YtcljkcgccahlcaaTX
namespace Go.Proofs.Ytcljkcgccahlcaa
open Go.RowKit
set_option linter.unusedVariables false

def pA : Pl := ⟨1, 0, ⟨#[10, 0, 0, 0]⟩, 8, 0⟩
def pB : Pl := ⟨1, 0, ⟨#[11, 0, 0, 0]⟩, 8, 0⟩
def to0 : To := ⟨0, 0, false, 0, false⟩
theorem okA : chkN pA 0 = true := by kernel_rfl
theorem okB : chkN pB 0 = true := by kernel_rfl
theorem pA_ok : pA.Ok := ⟨rfl, rfl, by show 4 ≤ maxLen; unfold maxLen; omega, rfl, rfl⟩
theorem pB_ok : pB.Ok := ⟨rfl, rfl, by show 4 ≤ maxLen; unfold maxLen; omega, rfl, rfl⟩
theorem pA_ne : pA ≠ pB := by
  intro h
  have := congrArg Pl.addr h
  simp [pA, pB] at this
theorem cellsN_of_row {w : World} {g : Nat} {p : Pl} {l : Int} (h : w.heap[g]? = some (.cells (nlC p l) 41 (0, 0))) : w.cell? ⟨g, 0, none⟩ = some (.int .i64 p.fam) ∧ w.cell? ⟨g, 1, none⟩ = some (.int .u64 p.rd) ∧ w.cell? ⟨g, 2, none⟩ = some (.string p.addr) ∧
    w.cell? ⟨g, 3, none⟩ = some (.int .i64 p.len) ∧ w.cell? ⟨g, 4, none⟩ = some (.int .u32 p.id) ∧ w.cell? ⟨g, 5, none⟩ = some (.int .u32 l) :=
  ⟨cell_of_row _ _ _ _ _ _ h, cell_of_row _ _ _ _ _ _ h, cell_of_row _ _ _ _ _ _ h, cell_of_row _ _ _ _ _ _ h, cell_of_row _ _ _ _ _ _ h, cell_of_row _ _ _ _ _ _ h⟩
theorem len_same {L M : List Pl} (hL : L.Nodup) (hM : M.Nodup) (h : ∀ p, p ∈ L ↔ p ∈ M) : L.length = M.length := List.Perm.length_eq ((List.perm_ext_iff_of_nodup hL hM).2 h)

noncomputable def T1 : Tbl := Tbl.set (fun _ => none) pA (some to0)
noncomputable def T2 : Tbl := T1.set pB (some to0)
noncomputable def T3 : Tbl := T2.mark 1
noncomputable def T4 : Tbl := T3.set pA (some to0)
noncomputable def T5 : Tbl := T4.sweep 1
theorem t2_at (p : Pl) : T2 p = if p = pB then some to0 else if p = pA then some to0 else none := rfl
theorem len2 {L : List Pl} (h : PlacesOf T2 (fun _ => true) 1 L) : L.length = 2 := by
  refine len_same (M := [pA, pB]) h.nodup (by simp [pA_ne]) fun p => ?_
  rw [h.mem, t2_at]
  by_cases a : p = pB
  · simp [a, pB]
  · by_cases b : p = pA
    · simp [b, pA]
    · simp [a, b]
theorem t4_at (p : Pl) : T4 p = if p = pA then some to0 else if p = pB then some { to0 with stale := true } else none := by
  unfold T4 Tbl.set
  by_cases a : p = pA
  · simp [a]
  · by_cases b : p = pB
    · simp [b, T3, Tbl.mark, t2_at, pB]
    · simp [a, b, T3, Tbl.mark, t2_at]
theorem len4 {L : List Pl} (h : PlacesOf T4 (fun x => x.stale) 1 L) : L.length = 1 := by
  refine len_same (M := [pB]) h.nodup (by simp) fun p => ?_
  rw [h.mem, t4_at]
  by_cases a : p = pA
  · simp [a, pA_ne, to0]
  · by_cases b : p = pB
    · simp [b, Ne.symm pA_ne]; rfl
    · simp [a, b]
theorem len5 {L : List Pl} (h : PlacesOf T5 (fun _ => true) 1 L) : L.length = 1 := by
  refine len_same (M := [pA]) h.nodup (by simp) fun p => ?_
  rw [h.mem]
  unfold T5
  constructor
  · rintro ⟨hf, x, hx, _⟩
    obtain ⟨h1, h2⟩ := sweep_some.1 hx
    rw [t4_at] at h1
    by_cases a : p = pA
    · simp [a]
    · by_cases b : p = pB
      · simp [b, Ne.symm pA_ne] at h1
        exact absurd ⟨hf, by rw [← h1]⟩ h2
      · simp [a, b] at h1
  · intro hp
    obtain rfl : p = pA := by simpa using hp
    exact ⟨rfl, to0, sweep_some.2 ⟨by simp [t4_at], fun hc => by have := hc.2; simp [to0] at this⟩, rfl⟩
theorem aok0 : AOk 0 false 0 := ⟨by omega, by omega, fun _ => rfl⟩

theorem own_form {w : World} {base e size n : Nat} {v : Value} {xs : List Value} (h : w.ownsRow base e size v n xs) : ∃ ao cap, v = .slice ao n cap := by
  rcases h.2 with ⟨rfl, h0⟩ | ⟨g, cap, cur, rfl, _⟩
  · exact ⟨none, 0, by rw [h0]⟩
  · exact ⟨_, cap, rfl⟩
/-- known32's session. -/
def sC (g : Nat) : Array Value := #[.int .i64 0, .slice (some ⟨g, 0, none⟩) 1 1, .bool false, .bool false, .slice none 0 0, .slice none 0 0, .bool true, .bool false, .int .i64 9, .slice (some ⟨g + 1, 0, none⟩) 1 1]
theorem sC_ses {w : World} {g : Nat} (h1 : w.cell? ⟨g, 0, none⟩ = some (.int .i64 1)) (h2 : w.cell? ⟨g + 1, 0, none⟩ = some (.int .i64 1)) (h3 : w.cell? ⟨g + 1, 1, none⟩ = some (.bool true)) : Ses w (sC g) [1] [(1, true)] true 9 := by
  refine ⟨rfl, by simp [sC, Value.oneCell'], ⟨_, rfl, ⟨⟨_, 1, rfl, Nat.le_refl _, fun _ => ⟨g, 0, rfl, fun i hi => ?_⟩⟩, by show 1 ≤ maxLen; unfold maxLen; omega⟩⟩, rfl, rfl, ⟨_, rfl, ⟨⟨_, 1, rfl, Nat.le_refl _, fun _ => ⟨g + 1, 0, rfl, fun i hi => ?_⟩⟩, by show 1 ≤ maxLen; unfold maxLen; omega⟩⟩, by omega, by omega⟩
  · obtain rfl : i = 0 := by simpa using hi
    exact h1
  · obtain rfl : i = 0 := by simpa using hi
    exact ⟨h2, h3⟩
theorem kept1 : famsOf (keepsP [1] [(1, true)] true) = [1] := by kernel_rfl
theorem gone1 : famsOf (goneP nil0 [1] [(1, true)] true) = [] := by kernel_rfl
theorem lost1 : famsOf (goneU (keepsP [1] [(1, true)] true) [1] [(1, true)] true) = [] := by kernel_rfl
theorem at1 : atV (famsOf (keepsP [1] [(1, true)] true)) 9 1 = 10 := by rw [kept1]; rfl
theorem sizeSe : (Try.prog.info? 26).map (·.size) = some 10 := by kernel_rfl

set_option maxRecDepth 100000 in
set_option maxHeartbeats 4000000 in
theorem known_any (w : World) : Calls Try.prog 4 #[] w fun e w' => e = .returned (.bool true) ∧ Below w.heap.size w w' := by
  go_enter Try.func4, Try.ntmps4
  go_wp2_with fail
  refine (newRib_any _).mono ?_
  rintro e w1 ⟨b, m, rfl, hR, hb, hm, hB⟩
  go_wp2_with fail
  refine (new_any _).mono ?_
  rintro e w2 ⟨rfl, hw2⟩
  have hh2 : IsH w2 w1.heap.size nil0 0 := hw2 ▸ isH_new w1
  have hb2 : Below w1.heap.size w1 w2 := hw2 ▸ (Below.refl _ _).alloc (Nat.le_refl _) _
  have hR2 := hR.below hb2
  have hbB := hR.lt
  have hmB := hR.map.lt
  have hs2 := hb2.size
  have hB2 : Below w.heap.size w w2 := hB.trans (hb2.mono hB.size)
  have hlt2 := hh2.lt
  clear hw2 hR hb2 hB
  obtain ⟨bh, hbh⟩ : ∃ bh, w1.heap.size = bh := ⟨_, rfl⟩
  rw [hbh] at hh2 hbB hmB hs2 hlt2 ⊢
  clear hbh
  go_wp2_with fail
  have hbel3 : Below w2.heap.size w2 ((w2.alloc (Obj.cells #[.int .i64 1, .int .u64 0, .string ⟨#[10, 0, 0, 0]⟩, .int .i64 8, .int .u32 0, .int .u32 0] 41)).alloc (Obj.cells #[.int .i64 1, .int .u64 0, .string ⟨#[11, 0, 0, 0]⟩, .int .i64 8, .int .u32 0, .int .u32 0] 41)) := ((Below.refl _ _).alloc (Nat.le_refl _) _).alloc (by simp) _
  have hA3 : ((w2.alloc (Obj.cells #[.int .i64 1, .int .u64 0, .string ⟨#[10, 0, 0, 0]⟩, .int .i64 8, .int .u32 0, .int .u32 0] 41)).alloc (Obj.cells #[.int .i64 1, .int .u64 0, .string ⟨#[11, 0, 0, 0]⟩, .int .i64 8, .int .u32 0, .int .u32 0] 41)).heap[w2.heap.size]? = some (Obj.cells #[.int .i64 1, .int .u64 0, .string ⟨#[10, 0, 0, 0]⟩, .int .i64 8, .int .u32 0, .int .u32 0] 41) := by rw [Below.heap_alloc _ _ _ (by simp)]; exact heap_alloc_new _ _
  have hB3 : ((w2.alloc (Obj.cells #[.int .i64 1, .int .u64 0, .string ⟨#[10, 0, 0, 0]⟩, .int .i64 8, .int .u32 0, .int .u32 0] 41)).alloc (Obj.cells #[.int .i64 1, .int .u64 0, .string ⟨#[11, 0, 0, 0]⟩, .int .i64 8, .int .u32 0, .int .u32 0] 41)).heap[w2.heap.size + 1]? = some (Obj.cells #[.int .i64 1, .int .u64 0, .string ⟨#[11, 0, 0, 0]⟩, .int .i64 8, .int .u32 0, .int .u32 0] 41) := heap_alloc2_new _ _ _
  have hs3 : ((w2.alloc (Obj.cells #[.int .i64 1, .int .u64 0, .string ⟨#[10, 0, 0, 0]⟩, .int .i64 8, .int .u32 0, .int .u32 0] 41)).alloc (Obj.cells #[.int .i64 1, .int .u64 0, .string ⟨#[11, 0, 0, 0]⟩, .int .i64 8, .int .u32 0, .int .u32 0] 41)).heap.size = w2.heap.size + 2 := by simp
  generalize (w2.alloc (Obj.cells #[.int .i64 1, .int .u64 0, .string ⟨#[10, 0, 0, 0]⟩, .int .i64 8, .int .u32 0, .int .u32 0] 41)).alloc (Obj.cells #[.int .i64 1, .int .u64 0, .string ⟨#[11, 0, 0, 0]⟩, .int .i64 8, .int .u32 0, .int .u32 0] 41) = W3 at *
  have hR3 := hR2.below hbel3
  have hh3 := hh2.keep (hbel3.block bh hlt2)
  have hBel3 : Below w.heap.size w W3 := hB2.trans (hbel3.mono hB2.size)
  obtain ⟨ba, hba⟩ : ∃ ba, w2.heap.size = ba := ⟨_, rfl⟩
  rw [hba] at hA3 hB3 hs3 hlt2 ⊢
  clear hba hbel3 hR2 hh2 hB2
  refine (put_yes b m 0 _ pA 0 0 0 false okA pA_ok aok0 W3 hR3 (by omega)).mono ?_
  rintro e W4 ⟨rfl, hR4, hb4⟩
  have hh4 := hh3.keep (hb4.block bh (by omega) (by omega))
  have hA4 := (hb4.block ba (by omega) (by omega)).trans hA3
  have hB4 := (hb4.block (ba + 1) (by omega) (by omega)).trans hB3
  have hBel4 := hBel3.trans (hb4.below hm hBel3.size)
  have hs4 := hb4.size
  clear hR3 hh3 hA3 hB3 hBel3 hb4
  obtain ⟨c0, c1, c2, c3, c4, c5⟩ := cellsN_of_row (p := pB) (l := 0) hB4
  go_wp2_with fail
  refine (put_yes b m 1 _ pB 0 0 0 false okB pB_ok aok0 W4 hR4 (by omega)).mono ?_
  rintro e W5 ⟨rfl, hR5, hb5⟩
  have hh5 := hh4.keep (hb5.block bh (by omega) (by omega))
  have hA5 := (hb5.block ba (by omega) (by omega)).trans hA4
  have hBel5 := hBel4.trans (hb5.below hm hBel4.size)
  have hs5 := hb5.size
  clear hR4 hh4 hA4 hB4 hBel4 hb5 c0 c1 c2 c3 c4 c5
  go_wp2_with fail
  have hblk1 : (((W5.alloc (Obj.cells #[.int .i64 1] 3)).alloc (Obj.cells #[.int .i64 1, .bool true] 73)).alloc (Obj.cells (sC W5.heap.size) 26)).heap[W5.heap.size]? = some (Obj.cells #[.int .i64 1] 3) := by
    rw [Below.heap_alloc _ _ _ (by simp; omega), Below.heap_alloc _ _ _ (by simp)]; exact heap_alloc_new _ _
  have hblk2 : (((W5.alloc (Obj.cells #[.int .i64 1] 3)).alloc (Obj.cells #[.int .i64 1, .bool true] 73)).alloc (Obj.cells (sC W5.heap.size) 26)).heap[W5.heap.size + 1]? = some (Obj.cells #[.int .i64 1, .bool true] 73) := by
    rw [Below.heap_alloc _ _ _ (by simp)]; exact heap_alloc2_new _ _ _
  have hblk3 : (((W5.alloc (Obj.cells #[.int .i64 1] 3)).alloc (Obj.cells #[.int .i64 1, .bool true] 73)).alloc (Obj.cells (sC W5.heap.size) 26)).heap[W5.heap.size + 1 + 1]? = some (Obj.cells (sC W5.heap.size) 26) := by
    have := heap_alloc_new ((W5.alloc (Obj.cells #[.int .i64 1] 3)).alloc (Obj.cells #[.int .i64 1, .bool true] 73)) (Obj.cells (sC W5.heap.size) 26)
    simpa using this
  have hbel6 : Below W5.heap.size W5 (((W5.alloc (Obj.cells #[.int .i64 1] 3)).alloc (Obj.cells #[.int .i64 1, .bool true] 73)).alloc (Obj.cells (sC W5.heap.size) 26)) := (((Below.refl _ _).alloc (Nat.le_refl _) _).alloc (by simp) _).alloc (by simp; omega) _
  simp only [sC] at hblk1 hblk2 hblk3 hbel6
  obtain ⟨gs, hgs⟩ : ∃ gs, W5.heap.size = gs := ⟨_, rfl⟩
  rw [hgs] at hblk1 hblk2 hblk3 hbel6 ⊢
  generalize ((W5.alloc (Obj.cells #[.int .i64 1] 3)).alloc (Obj.cells #[.int .i64 1, .bool true] 73)).alloc _ = W6 at *
  have hR6 := hR5.below (by rw [hgs]; exact hbel6)
  have hh6 := hh5.keep (hbel6.block bh (by omega))
  have hA6 := (hbel6.block ba (by omega)).trans hA5
  have hBel6 := hBel5.trans (hbel6.mono (by have := hBel5.size; omega))
  have hs6 : gs + 3 ≤ W6.heap.size := by have := lt_of_block hblk3; omega
  clear hR5 hh5 hA5 hBel5 hbel6
  have hses6 := sC_ses (g := gs) (cell_of_row _ _ _ _ _ _ hblk1) (cell_of_row _ _ _ _ _ _ hblk2) (cell_of_row _ _ _ _ _ _ hblk2)
  refine (down_any bh nil0 0 (sC gs) [1] [(1, true)] true 9 1 W6 hh6 hses6 (by omega) (by omega)).mono ?_
  rintro e W7 ⟨vk, vg, rfl, hvk, hvg, hh7, hb7⟩
  rw [kept1] at hvk
  rw [gone1] at hvg
  rw [at1] at hh7 ⊢
  obtain ⟨ka, kc, rfl⟩ := own_form hvk
  obtain ⟨ga, gc, rfl⟩ := own_form hvg
  have hR7 := hR6.but hb7 (by omega) (by omega)
  have hA7 := (hb7.block ba (by omega) (by omega)).trans hA6
  have hk1 := (hb7.block gs (by omega) (by omega)).trans hblk1
  have hk2 := (hb7.block (gs + 1) (by omega) (by omega)).trans hblk2
  have hk3 := (hb7.block (gs + 1 + 1) (by omega) (by omega)).trans hblk3
  have hs7 := hb7.size
  have hBel7 := hBel6.trans (hb7.below (by omega) hBel6.size)
  clear hvk hvg hR6 hh6 hA6 hblk1 hblk2 hblk3 hBel6 hb7 hses6
  go_wp2_with fail
  refine (mark_any b m _ _ 1 W7 hR7 (by omega)).mono ?_
  rintro e W8 ⟨L1, rfl, hL1, hR8, hb8⟩
  rw [len2 hL1.out]
  have hh8 := hh7.keep (hb8.block bh (by omega) (by omega))
  have hA8 := (hb8.block ba (by omega) (by omega)).trans hA7
  have hk1' := (hb8.block gs (by omega) (by omega)).trans hk1
  have hk2' := (hb8.block (gs + 1) (by omega) (by omega)).trans hk2
  have hk3' := (hb8.block (gs + 1 + 1) (by omega) (by omega)).trans hk3
  have hs8 := hb8.size
  have hBel8 := hBel7.trans (hb8.below hm hBel7.size)
  clear hR7 hh7 hA7 hk1 hk2 hk3 hBel7 hb8 hL1 L1
  obtain ⟨c0, c1, c2, c3, c4, c5⟩ := cellsN_of_row (p := pA) (l := 0) hA8
  go_wp2_with fail
  refine (put_yes b m _ _ pA 0 0 0 false okA pA_ok aok0 W8 hR8 (by omega)).mono ?_
  rintro e W9 ⟨rfl, hR9, hb9⟩
  have hh9 := hh8.keep (hb9.block bh (by omega) (by omega))
  have hk1 := (hb9.block gs (by omega) (by omega)).trans hk1'
  have hk2 := (hb9.block (gs + 1) (by omega) (by omega)).trans hk2'
  have hk3 := (hb9.block (gs + 1 + 1) (by omega) (by omega)).trans hk3'
  have hs9 := hb9.size
  have hBel9 := hBel8.trans (hb9.below hm hBel8.size)
  have hses9 := sC_ses (g := gs) (cell_of_row _ _ _ _ _ _ hk1) (cell_of_row _ _ _ _ _ _ hk2) (cell_of_row _ _ _ _ _ _ hk2)
  have HK3 : Hid (W9.heap[gs + 1 + 1]? = some (.cells (sC gs) 26 (0, 0))) := hk3
  clear hR8 hh8 hA8 hk1' hk2' hk3' hk1 hk2 hk3 hBel8 hb9 c0 c1 c2 c3 c4 c5
  go_wp2_with (refine wpList_load_row rfl 26 (.tmp 5) rfl (gs + 1 + 1) rfl 26 (sC gs) (0, 0) _ HK3.out Try.underlying26 rfl sizeSe ?_)
  refine (up_any bh _ _ _ (sC gs) true [1] [(1, true)] true 9 W9 hh9 hses9 rfl).mono ?_
  rintro e W10 ⟨vl, rfl, hvl, hh10, hb10⟩
  rw [lost1] at hvl hh10
  obtain ⟨la, lc, rfl⟩ := own_form hvl
  have hR10 := hR9.but hb10 (by omega) (by omega)
  have hBel10 := hBel9.trans (hb10.below (by omega) hBel9.size)
  have hs10 := hb10.size
  clear hR9 hh9 hBel9 hb10 hvl HK3 hses9
  go_wp2_with fail
  refine (end_in bh 1 _ _ (by omega) (by omega) W10 hh10).mono ?_
  rintro e W11 ⟨rfl, hh11, hb11⟩
  rw [show dropL (keepsP [1] [(1, true)] true) [] 1 = true from rfl]
  have hR11 := hR10.but hb11 (by omega) (by omega)
  have hBel11 := hBel10.trans (hb11.below (by omega) hBel10.size)
  clear hR10 hh10 hBel10 hb11 hh11
  go_wp2_with fail
  refine (sweep_any b m _ _ 1 W11 hR11 (by omega)).mono ?_
  rintro e W12 ⟨r, L2, ys, rfl, hrow, hL2, hR12, hb12⟩
  have hl2 : L2.length = 1 := len4 hL2.out
  rw [hl2] at hrow
  obtain ⟨ra, rc, rfl⟩ := own_form hrow
  have hBel12 := hBel11.trans (hb12.below hm hBel11.size)
  clear hR11 hBel11 hb12 hrow hL2 hl2
  go_wp2_with fail
  refine (count_any b m _ _ 1 W12 hR12 (by omega)).mono ?_
  rintro e W13 ⟨L3, rfl, hL3, _, hb13⟩
  rw [len5 hL3.out]
  have hBel13 := hBel12.trans (hb13.mono hBel12.size)
  clear hR12 hBel12 hb13 hL3
  go_wp2_with fail
  go_ret
  exact ⟨rfl, hBel13⟩
end Go.Proofs.Ytcljkcgccahlcaa
