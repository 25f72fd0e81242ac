/- The walk of DrawPlays. -/
import Derived.Test.YtohlppmalinooaaG
namespace Go.Proofs.Ytohlppmalinooaa
open Go.RowKit
set_option linter.unusedVariables false

theorem IsD.lt {w : World} {b : Nat} {q : List Int} (h : IsD w b q) : b < w.heap.size := by obtain ⟨c, f, h1, _⟩ := h; exact lt_of_block h1
theorem IsD.len {w : World} {b : Nat} {q : List Int} (h : IsD w b q) : q.length ≤ 64 := by obtain ⟨c, f, _, h2⟩ := h; exact h2.room
theorem IsD.bd {w : World} {b : Nat} {q : List Int} (h : IsD w b q) : ∀ x ∈ q, 0 ≤ x ∧ x < 4294967296 := by obtain ⟨c, f, _, h2⟩ := h; exact h2.bd
theorem IsD.alloc {w : World} {b : Nat} {q : List Int} (h : IsD w b q) (o : Obj) : IsD (w.alloc o) b q := h.keep (Below.heap_alloc _ _ _ h.lt)
theorem Waits.alloc {w : World} {B b cap : Nat} {ao : Option Addr} {q : List Int} (h : Waits w B b ao cap q) (o : Obj) : Waits (w.alloc o) B b ao cap q := h.move (fun g _ hg => Below.heap_alloc _ _ _ hg) (.inl rfl)
theorem Waits.only {w w' : World} {B b cap : Nat} {ao : Option Addr} {q : List Int} (h : Waits w B b ao cap q) (ho : Only b w w') : Waits w' B b ao cap q := h.move (fun g hg _ => ho.block g hg) (.inl rfl)

theorem Waits.only2 {w w' : World} {B b b' cap : Nat} {ao : Option Addr} {q : List Int} (h : Waits w B b ao cap q) (h' : Waits w B b' ao cap q) (ho : Only b w w') : Waits w' B b' ao cap q := by
  refine ⟨h.le, h.max, ?_⟩
  rcases h.at_ with ⟨h1, h2⟩ | ⟨g, off, cur, rfl, h1, h2, h3, h4, h5⟩
  · exact .inl ⟨h1, h2⟩
  · rcases h'.at_ with ⟨k1, k2⟩ | ⟨g', off', cur', k0, k1, k2, _⟩
    · cases k1
    · cases k0
      exact .inr ⟨g, off, cur, rfl, h1, k2, (ho.block g h2).trans h3, h4, h5⟩

/-- What holds at a round's head. -/
def Mid (w wr : World) (d v : Value) : Prop := ∃ b q ao cap, d = .pointer (some ⟨b, 0, none⟩) ∧ IsD wr b q ∧ w.heap.size ≤ b ∧ v = .slice ao q.length cap ∧ Waits wr w.heap.size b ao cap q

theorem mid_mk {w wr : World} {b cap : Nat} {q : List Int} {ao : Option Addr} (h1 : IsD wr b q) (h2 : w.heap.size ≤ b) (h3 : Waits wr w.heap.size b ao cap q) : Mid w wr (.pointer (some ⟨b, 0, none⟩)) (.slice ao q.length cap) :=
  ⟨b, q, ao, cap, rfl, h1, h2, rfl, h3⟩

theorem tmod3 (x : Int) : -3 < x.tmod 3 ∧ x.tmod 3 < 3 := by
  have h1 := Int.tmod_lt_of_pos x (b := 3) (by omega)
  have h2 := Int.lt_tmod_of_pos x (b := 3) (by omega)
  omega

theorem left_eq (b : Nat) (q : List Int) (n : Int) (w : World) (h : IsD w b q) (hn : (q.length : Int) = n) :
    Calls Try.prog 16 #[.pointer (some ⟨b, 0, none⟩)] w fun e w' => e = .returned (.int .i64 n) ∧ w = w' := hn ▸ left_any b q w h

theorem Only.cell {b : Nat} {w w' : World} (h : Only b w w') {g o : Nat} (hg : g ≠ b) : w'.cell? ⟨g, o, none⟩ = w.cell? ⟨g, o, none⟩ := World.cell?_of_block (w := w) (h.block g hg)

set_option maxRecDepth 100000 in
theorem plays_walk (bl off len cap : Nat) (K N S : Nat → Int) (w : World) (hm : len ≤ 9223372036854775807) (hbl : bl < w.heap.size)
    (hk : ∀ i, i < len → w.cell? ⟨bl, off + i * 3, none⟩ = some (.int .i64 (K i))) (hn : ∀ i, i < len → w.cell? ⟨bl, off + i * 3 + 1, none⟩ = some (.int .u32 (N i))) (hs : ∀ i, i < len → w.cell? ⟨bl, off + i * 3 + 2, none⟩ = some (.int .i64 (S i)))
    (hnb : ∀ i, i < len → 0 ≤ N i ∧ N i < 4294967296) (hsb : ∀ i, i < len → S i < 9223372036854775808) :
    Calls Try.prog 5 #[.slice (some ⟨bl, off, none⟩) len cap] w fun e w' => e = .returned (.bool true) ∧ Below w.heap.size w w' := by
  go_enter Try.func5, Try.ntmps5
  go_wp2_with fail
  refine (new_any _).mono ?_
  rintro e w1 ⟨rfl, hw1⟩
  have hd1 : IsD w1 w.heap.size [] := hw1 ▸ isD_new w
  have hb1 : Below w.heap.size w w1 := hw1 ▸ (Below.refl _ _).alloc (Nat.le_refl _) _
  clear hw1
  have hm1 : Mid w w1 (.pointer (some ⟨w.heap.size, 0, none⟩)) (.slice none 0 0) := mid_mk hd1 (Nat.le_refl _) (Waits.nil _ _ _)
  clear hd1
  go_wp2_with fail
  go_loopw [3, 4, 5] (fun d v i wr => ∃ k : Nat, i = .int .i64 k ∧ k ≤ len ∧ Below w.heap.size w wr ∧ Mid w wr d v) (fun _ _ i _ => len - (intOf i).toNat)
  case atStart => exact ⟨0, rfl, Nat.zero_le _, hb1, hm1⟩
  case round =>
    obtain ⟨k, rfl, hkl, hbel, b, q, ao, wc, rfl, hd, hbb, rfl, hw⟩ := hrel
    clear hb1 hm1
    by_cases hlt : k < len
    · have hK : wr.cell? ⟨bl, off + k * 3, none⟩ = some (.int .i64 (K k)) := (hbel.cell hbl).trans (hk k hlt)
      have hN : wr.cell? ⟨bl, off + k * 3 + 1, none⟩ = some (.int .u32 (N k)) := (hbel.cell hbl).trans (hn k hlt)
      have hS : wr.cell? ⟨bl, off + k * 3 + 2, none⟩ = some (.int .i64 (S k)) := (hbel.cell hbl).trans (hs k hlt)
      obtain ⟨n1, n2⟩ := hnb k hlt
      have s2 := hsb k hlt
      have hql := hd.len
      have hqbd := hd.bd
      obtain ⟨r, hr⟩ : ∃ r, (K k).tmod 3 = r := ⟨_, rfl⟩
      have r1 : -3 < r := hr ▸ (tmod3 (K k)).1
      have r2 : r < 3 := hr ▸ (tmod3 (K k)).2
      clear hk hn hs hnb hsb
      by_cases h300 : k < 300
      · have hbt := hd.lt
        by_cases c0 : r % 3 = 0
        · have e0 : (r % 3 == 0) = true := by simp [c0]
          clear c0
          by_cases hfull : q.length < 64
          · have e64 : decide ((64 : Int) ≤ (q.length : Int)) = false := by simp; omega
            go_wp2_with fail
            refine (push_any b q (N k) n1 n2 _ (hd.alloc _) hfull).mono ?_
            rintro e w2 ⟨rfl, hd2, ho2⟩
            have hx1 : w2.cell? ⟨wr.heap.size, 1, none⟩ = some (.int .u32 (N k)) := (ho2.cell (by omega)).trans (by simp)
            have hw2 := (hw.alloc _).only ho2
            have hbel2 := (hbel.alloc hbel.size _).trans (ho2.below hbb)
            have hlt2 := hd2.lt
            clear hd hw hbel ho2 hbt
            go_wp2_with (at_builtin; refine wpList_append_waits rfl (.tmp 46) (.tmp 49) rfl w.heap.size b ao wc q rfl (hw2.alloc _) (by have := hbel2.size; simp; omega) (by simp; omega) hfull (N k) ⟨w2.heap.size, 0, none⟩ 1 rfl (by simp) rfl ?_; intro ao2 cap2 w3 hw3 hbel3 hkb)
            have hd3 : IsD w3 b (q ++ [N k]) := (hd2.alloc _).keep hkb
            have hbel4 := (hbel2.alloc hbel2.size _).trans hbel3
            have hmid : Mid w w3 (.pointer (some ⟨b, 0, none⟩)) (.slice ao2 (q.length + 1) cap2) := by have := mid_mk hd3 hbb hw3; simpa using this
            have hl3 : Hid (((q ++ [N k]).length : Int) = q.length + 1) := by show _ = _; simp
            clear hw2 hd2 hbel2 hw3 hbel3 hkb
            refine (left_eq b _ _ _ hd3 hl3.out).mono ?_
            rintro e w' ⟨rfl, rfl⟩
            go_wp2_with fail
            go_roundw
            case rel => exact ⟨k + 1, by go_num, by omega, hbel4, hmid⟩
            case measure => simp [intOf]; omega
          · have e64 : decide ((64 : Int) ≤ (q.length : Int)) = true := by simp; omega
            go_wp2_with fail
            refine (push_any_full b q (N k) _ (hd.alloc _) (by omega)).mono ?_
            rintro e w' ⟨rfl, rfl⟩
            have hmid : Mid w (wr.alloc (.cells #[.int .i64 (K k), .int .u32 (N k), .int .i64 (S k)] 31)) (.pointer (some ⟨b, 0, none⟩)) (.slice ao q.length wc) := mid_mk (hd.alloc _) hbb (hw.alloc _)
            have hbel4 := hbel.alloc hbel.size (.cells #[.int .i64 (K k), .int .u32 (N k), .int .i64 (S k)] 31)
            go_wp2_with fail
            refine (left_eq b _ _ _ (hd.alloc _) rfl).mono ?_
            rintro e w' ⟨rfl, rfl⟩
            go_wp2_with fail
            go_roundw
            case rel => exact ⟨k + 1, by go_num, by omega, hbel4, hmid⟩
            case measure => simp [intOf]; omega
        · have e0 : (r % 3 == 0) = false := by simp [c0]
          by_cases c1 : r % 3 = 1
          · have e1 : (r % 3 == 1) = true := by simp [c1]
            clear c0 c1
            go_wp2_with fail
            refine (refJ_any w.heap.size b ao wc q (S k) s2 _ (hw.alloc _) hqbd).mono ?_
            rintro e w2 ⟨ao2, cap2, rfl, nd, hwe, hw2⟩
            have hd2 : IsD w2 b q := (hd.alloc _).keep (by rw [hwe]; rfl)
            have hbel2 : Below w.heap.size w w2 := hwe ▸ below_drewN (hbel.alloc hbel.size _) nd
            have hx2 : w2.cell? ⟨wr.heap.size, 2, none⟩ = some (.int .i64 (S k)) := by rw [hwe]; show World.cell? (wr.alloc _) _ = _; simp
            have hsz : b < w2.heap.size := hd2.lt
            clear hwe hd hw hbel
            go_wp2_with fail
            refine (jit_any b (S k) s2 q _ hd2).mono ?_
            rintro e w3 ⟨rfl, hd3, ho3⟩
            have hbel3 := hbel2.trans (ho3.below hbb)
            have hw3 := hw2.only ho3
            have hmid : Mid w w3 (.pointer (some ⟨b, 0, none⟩)) (.slice ao2 (jq (S k) q).length cap2) := mid_mk hd3 hbb hw3
            have hjl := jq_len (S k) q
            clear hd2 hbel2 hw2 hx2 ho3
            go_wp2_with fail
            refine (left_any b _ _ hd3).mono ?_
            rintro e w' ⟨rfl, rfl⟩
            go_wp2_with fail
            go_roundw
            case rel => exact ⟨k + 1, by go_num, by omega, hbel3, hmid⟩
            case measure => simp [intOf]; omega
          · have e1 : (r % 3 == 1) = false := by simp [c1]
            have e2 : (r % 3 == 2) = true := by simp; omega
            clear c0 c1
            go_wp2_with fail
            refine (copy_any b q _ (hd.alloc _)).mono ?_
            rintro e w2 ⟨rfl, cc, hwe, hdc⟩
            have hd2 : IsD w2 b q := hwe ▸ (hd.alloc _).alloc _
            have hbel2 : Below w.heap.size w w2 := hwe ▸ (hbel.alloc hbel.size _).alloc (by have := hbel.size; simp; omega) _
            have hx1 : w2.cell? ⟨wr.heap.size, 1, none⟩ = some (.int .u32 (N k)) := by rw [← hwe]; simp [World.cell?_alloc_past]
            have hw2 : Waits w2 w.heap.size b ao wc q := hwe ▸ (hw.alloc _).alloc _
            have hge : b < wr.heap.size + 1 := by omega
            have hge2 : wr.heap.size + 1 < w2.heap.size := by rw [← hwe]; simp
            have hwc : Waits w2 w.heap.size (wr.heap.size + 1) ao wc q := hwe ▸ ((hw.alloc (.cells #[.int .i64 (K k), .int .u32 (N k), .int .i64 (S k)] 31)).move (fun g _ hg => Below.heap_alloc _ _ _ hg) (.inr (by simp)))
            have hbs := hbel.size
            have hdc' : IsD w2 (wr.heap.size + 1) q := by simpa using hdc
            clear hwe hd hw hbel hdc
            go_wp2_with fail
            refine (push_some b q (N k) n1 n2 _ hd2).mono ?_
            rintro e w3 ⟨p1, q1, rfl, hd3, ho3⟩
            have hbel3 := hbel2.trans (ho3.below hbb)
            have hdc3 : IsD w3 (wr.heap.size + 1) q := hdc'.keep (ho3.block _ (by omega))
            have hwc3 : Waits w3 w.heap.size (wr.heap.size + 1) ao wc q := hw2.only2 hwc ho3
            have hw3 := hw2.only ho3
            clear hd2 hbel2 hx1 hw2 hwc hdc' ho3
            go_wp2_with fail
            refine (jit_any b 9 (by omega) _ _ hd3).mono ?_
            rintro e w4 ⟨rfl, hd4, ho4⟩
            have hbel4 := hbel3.trans (ho4.below hbb)
            have hdc4 : IsD w4 (wr.heap.size + 1) q := hdc3.keep (ho4.block _ (by omega))
            have hwc4 : Waits w4 w.heap.size (wr.heap.size + 1) ao wc q := hw3.only2 hwc3 ho4
            have hw4 := hw3.only ho4
            clear hd3 hbel3 hdc3 hwc3 ho4 hw3
            go_wp2_with fail
            refine (jit_any b 9 (by omega) _ _ hd4).mono ?_
            rintro e w5 ⟨rfl, hd5, ho5⟩
            have hbel5 := hbel4.trans (ho5.below hbb)
            have hdc5 : IsD w5 (wr.heap.size + 1) q := hdc4.keep (ho5.block _ (by omega))
            have hwc5 : Waits w5 w.heap.size (wr.heap.size + 1) ao wc q := hw4.only2 hwc4 ho5
            clear hd4 hbel4 hdc4 hwc4 ho5 hd5 hw4
            have hmid : Mid w w5 (.pointer (some ⟨wr.heap.size + 1, 0, none⟩)) (.slice ao q.length wc) := mid_mk hdc5 (by omega) hwc5
            go_wp2_with fail
            refine (left_any (wr.heap.size + 1) _ _ hdc5).mono ?_
            rintro e w' ⟨rfl, rfl⟩
            go_wp2_with fail
            go_roundw
            case rel => exact ⟨k + 1, by go_num, by omega, hbel5, hmid⟩
            case measure => simp [intOf]; omega
      · go_wp2_with fail
        refine (works_any _).mono ?_
        rintro e w2 ⟨rfl, hb2⟩
        have hbel2 := hbel.trans (hb2.mono hbel.size)
        go_wp2_with fail
        go_ret
        exact ⟨rfl, hbel2⟩
    · go_wp2_with fail
      refine (works_any _).mono ?_
      rintro e w2 ⟨rfl, hb2⟩
      have hbel2 := hbel.trans (hb2.mono hbel.size)
      go_wp2_with fail
      go_ret
      exact ⟨rfl, hbel2⟩

set_option maxRecDepth 100000 in
theorem plays_nil (ao : Option Addr) (cap : Nat) (w : World) :
    Calls Try.prog 5 #[.slice ao 0 cap] w fun e w' => e = .returned (.bool true) ∧ Below w.heap.size w w' := by
  go_enter Try.func5, Try.ntmps5
  go_wp2_with fail
  refine (new_any _).mono ?_
  rintro e w1 ⟨rfl, hw1⟩
  have hb1 : Below w.heap.size w w1 := hw1 ▸ (Below.refl _ _).alloc (Nat.le_refl _) _
  clear hw1
  go_wp2_with fail
  go_loopw [5] (fun i wr => i = .int .i64 0 ∧ Below w.heap.size w wr) (fun _ _ => 0)
  case atStart => exact ⟨rfl, hb1⟩
  case round =>
    obtain ⟨rfl, hbel⟩ := hrel
    go_wp2_with fail
    refine (works_any _).mono ?_
    rintro e w2 ⟨rfl, hb2⟩
    have hbel2 := hbel.trans (hb2.mono hbel.size)
    go_wp2_with fail
    go_ret
    exact ⟨rfl, hbel2⟩
end Go.Proofs.Ytohlppmalinooaa
