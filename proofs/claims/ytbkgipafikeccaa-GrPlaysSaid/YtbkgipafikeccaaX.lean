/- The walk of GrEnds. -/
import Derived.Test.YtbkgipafikeccaaW
namespace Go.Proofs.Ytbkgipafikeccaa
open Go.RowKit
set_option linter.unusedVariables false

theorem own_form {w : World} {base e size n : Nat} {v : Value} {xs : List Value} (h : w.ownsRow base e size v n xs) : ∃ ao cap, v = .slice ao n cap := by
  rcases h.2 with ⟨rfl, rfl⟩ | ⟨g, cap, cur, rfl, _⟩
  · exact ⟨none, 0, rfl⟩
  · exact ⟨_, cap, rfl⟩

theorem fams_dropped (p : Nat → Bool) : famsOf (dropL p (famsOf p)) = [] := by
  rw [List.eq_nil_iff_forall_not_mem]
  intro i hi
  obtain ⟨h1, h2⟩ := mem_famsOf.1 hi
  unfold dropL at h2
  simp only [Bool.and_eq_true, Bool.not_eq_true', List.contains_eq_mem, decide_eq_false_iff_not] at h2
  exact h2.2 (mem_famsOf.2 ⟨h1, h2.1⟩)

set_option maxHeartbeats 4000000 in
set_option maxRecDepth 100000 in
theorem ends_walk (c : Array Value) (F : List Int) (K : List (Int × Bool)) (gr : Bool) (time now later : Int) (w : World) (hs : Ses w c F K gr time) (n1 : 0 ≤ now) (n2 : now < 18446744073709551616) (l1 : 0 ≤ later) (l2 : later < 18446744073709551616) :
    Calls Try.prog 4 #[.agg c, .int .u64 now, .int .u64 later] w fun e w' => e = .returned (.bool true) ∧ Below w.heap.size w w' := by
  have HSZ := Lib.hid hs.size
  have HS := Lib.hid hs
  have HN2 := Lib.hid n2
  clear hs n2
  go_enter Try.func4, Try.ntmps4
  go_wp2_with fail
  refine (works_any _).mono ?_
  rintro e w1 ⟨rfl, hb⟩
  have hbox : w1.heap[w.heap.size]? = some (.cells c 30 (0, 0)) := by rw [hb.block _ (by simp)]; exact heap_alloc_new _ _
  have hbel : Below w.heap.size w w1 := ((Below.refl _ _).alloc (Nat.le_refl _) _).trans (hb.mono (by simp))
  clear hb
  go_wp2_with fail
  refine (new_any _).mono ?_
  rintro e w2 ⟨rfl, hw2⟩
  have hh : IsH w2 w1.heap.size nil0 0 := hw2 ▸ isH_new w1
  have hb2 : Below w1.heap.size w1 w2 := hw2 ▸ (Below.refl _ _).alloc (Nat.le_refl _) _
  have hsz1 := hbel.size
  replace hbox := (hb2.block _ (lt_of_block hbox)).trans hbox
  replace hbel := hbel.trans (hb2.mono hsz1)
  obtain ⟨b, hbb⟩ : ∃ b, w1.heap.size = b := ⟨_, rfl⟩
  rw [hbb] at hh hsz1 ⊢
  clear hw2 hb2 hbb
  go_wp2_with (refine wpList_load_row rfl 30 (.tmp 3) rfl w.heap.size rfl 30 c (0, 0) _ hbox Try.underlying30 rfl (by rw [HSZ.out]; kernel_rfl) ?_)
  refine (down_any b nil0 0 c F K gr time now _ hh (HS.out.below hbel) n1 HN2.out).mono ?_
  rintro e w3 ⟨vk, vg, rfl, hk, hg, hh3, hb3⟩
  obtain ⟨ak, ck, rfl⟩ := own_form hk
  obtain ⟨ag, cg, rfl⟩ := own_form hg
  have hL6 := famsOf_len (keepsP F K gr)
  have hG6 := famsOf_len (goneP nil0 F K gr)
  have hdr := fams_dropped (keepsP F K gr)
  replace hbel := hbel.trans (hb3.below hsz1 hbel.size)
  clear hk hg hb3 hh hbox
  have e0 := hh3.e0
  obtain ⟨at_, hat⟩ : ∃ a, atV (famsOf (keepsP F K gr)) time now = a := ⟨_, rfl⟩
  rw [hat] at hh3 e0 ⊢
  clear hat
  obtain ⟨L, hL⟩ : ∃ L, famsOf (keepsP F K gr) = L := ⟨_, rfl⟩
  rw [hL] at hL6 hdr ⊢
  have HL := Lib.hid hL
  have HD := Lib.hid hdr
  clear hL hdr
  generalize (famsOf (goneP nil0 F K gr)).length = ng at *
  have hee : ((L.length : Int) == L.length) = true := by simp
  by_cases hlt : later < at_
  · go_wp2_with fail
    refine (fire_before b later _ _ hlt _ hh3).mono ?_
    rintro e w' ⟨rfl, rfl⟩
    go_wp2_with fail
    refine (stale_any b _ _ _ hh3).mono ?_
    rintro e w4 ⟨v, rfl, hn⟩
    obtain ⟨a4, c4, rfl⟩ := own_form hn.1
    rw [HL.out]
    replace hh3 := hh3.keep (hn.2.block _ hh3.lt)
    replace hbel := hbel.trans (hn.2.mono hbel.size)
    clear hn
    go_wp2_with fail
    refine (fire_behind b at_ _ _ (Int.le_refl _) _ hh3).mono ?_
    rintro e w5 ⟨v, rfl, ho, hh5, hb5⟩
    obtain ⟨a5, c5, rfl⟩ := own_form ho
    rw [HL.out] at hh5 ⊢
    replace hbel := hbel.trans (hb5.below hsz1 hbel.size)
    clear ho hb5 hh3
    go_wp2_with fail
    refine (stale_any b _ _ _ hh5).mono ?_
    rintro e w6 ⟨v, rfl, hn⟩
    obtain ⟨a6, c6, rfl⟩ := own_form hn.1
    rw [HD.out]
    replace hbel := hbel.trans (hn.2.mono hbel.size)
    clear hn hh5
    go_wp2_with fail
    go_ret
    exact ⟨rfl, hbel⟩
  · go_wp2_with fail
    refine (fire_behind b later _ _ (by omega) _ hh3).mono ?_
    rintro e w5 ⟨v, rfl, ho, hh5, hb5⟩
    obtain ⟨a5, c5, rfl⟩ := own_form ho
    rw [HL.out] at hh5 ⊢
    replace hbel := hbel.trans (hb5.below hsz1 hbel.size)
    clear ho hb5 hh3
    go_wp2_with fail
    refine (stale_any b _ _ _ hh5).mono ?_
    rintro e w6 ⟨v, rfl, hn⟩
    obtain ⟨a6, c6, rfl⟩ := own_form hn.1
    rw [HD.out]
    replace hh5 := hh5.keep (hn.2.block _ hh5.lt)
    replace hbel := hbel.trans (hn.2.mono hbel.size)
    clear hn
    go_wp2_with fail
    refine (fire_behind b later _ _ (by omega) _ hh5).mono ?_
    rintro e w7 ⟨v, rfl, ho, hh7, hb7⟩
    obtain ⟨a7, c7, rfl⟩ := own_form ho
    rw [HD.out]
    replace hbel := hbel.trans (hb7.below hsz1 hbel.size)
    clear ho hb7 hh5 hh7
    go_wp2_with fail
    go_ret
    exact ⟨rfl, hbel⟩
end Go.Proofs.Ytbkgipafikeccaa
