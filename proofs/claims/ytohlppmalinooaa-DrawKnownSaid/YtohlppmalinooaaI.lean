/- The walk of DrawOrder. -/
import Derived.Test.YtohlppmalinooaaH
import Derived.Deep.RegionHeld3
namespace Go.Proofs.Ytohlppmalinooaa
open Go.RowKit
set_option linter.unusedVariables false

/-- The first k numbers. -/
def heads (Z : Nat → Int) (k : Nat) : List Int := (List.range k).map Z
theorem heads_len (Z : Nat → Int) (k : Nat) : (heads Z k).length = k := by simp [heads]
theorem heads_succ (Z : Nat → Int) (k : Nat) : heads Z k ++ [Z k] = heads Z (k + 1) := by simp [heads, List.range_succ]
theorem heads_drop (Z : Nat → Int) (n k : Nat) (h : k < n) : (heads Z n).drop k = Z k :: (heads Z n).drop (k + 1) := by
  rw [List.drop_eq_getElem_cons (by rw [heads_len]; exact h)]
  simp [heads]

/-- What waits in the second loop: all, where no draw is used up. -/
def rest (Z : Nat → Int) (n k : Nat) (base : Int) : List Int := if base ≤ 0 then heads Z n else (heads Z n).drop k
theorem rest_zero (Z : Nat → Int) (n : Nat) (base : Int) : rest Z n 0 base = heads Z n := by unfold rest; split <;> simp
theorem rest_jv (Z : Nat → Int) (n k : Nat) (base : Int) (h : k < n) : jv base (rest Z n k base) = ofV base (Z k) := by
  unfold rest jv
  by_cases hb : base ≤ 0
  · simp [hb, ofV_neg hb]
  · rw [if_neg hb, if_neg hb, heads_drop Z n k h]
theorem rest_jq (Z : Nat → Int) (n k : Nat) (base : Int) (h : k < n) : jq base (rest Z n k base) = rest Z n (k + 1) base := by
  unfold rest jq
  by_cases hb : base ≤ 0
  · simp [hb]
  · rw [if_neg hb, if_neg hb, if_neg hb, heads_drop Z n k h]; rfl
theorem rest_len (Z : Nat → Int) (n k : Nat) (base : Int) (hb : 0 < base) : (rest Z n k base).length = n - k := by
  unfold rest
  rw [if_neg (by omega)]; simp [heads_len]
theorem rest_len_neg (Z : Nat → Int) (n k : Nat) (base : Int) (hb : base ≤ 0) : (rest Z n k base).length = n := by
  unfold rest
  rw [if_pos hb]; simp [heads_len]
theorem jv_zero (q : List Int) : jv 0 q = 0 := by simp [jv]
theorem jq_zero (q : List Int) : jq 0 q = q := by simp [jq]

theorem jit_eq (b : Nat) (base : Int) (hb2 : base < 9223372036854775808) (q q' : List Int) (v : Int) (w : World) (h : IsD w b q) (h1 : jv base q = v) (h2 : jq base q = q') :
    Calls Try.prog 14 #[.pointer (some ⟨b, 0, none⟩), .int .i64 base] w fun e w' => e = .returned (.int .i64 v) ∧ IsD w' b q' ∧ Only b w w' := h1 ▸ h2 ▸ jit_any b base hb2 q w h

/-- How many of the list are pushed. -/
def atMost (len : Nat) : Nat := min len 64

theorem push_eq (b : Nat) (q q' : List Int) (x : Int) (x1 : 0 ≤ x) (x2 : x < 4294967296) (w : World) (h : IsD w b q) (hq : q.length < 64) (e : q ++ [x] = q') :
    Calls Try.prog 12 #[.pointer (some ⟨b, 0, none⟩), .int .u32 x] w fun e w' => e = .returned (.int .i64 0) ∧ IsD w' b q' ∧ Only b w w' := e ▸ push_any b q x x1 x2 w h hq

set_option maxRecDepth 100000 in
theorem order_walk (ao : Option Addr) (bl off len cap : Nat) (Z : Nat → Int) (base : Int) (w : World) (hm : len ≤ 9223372036854775807) (n : Nat) (hn1 : n ≤ len) (hn2 : n ≤ 64) (hn3 : (if (64 : Int) < (len : Int) then (64 : Int) else (len : Int)) = n)
    (hao : len ≠ 0 → ao = some ⟨bl, off, none⟩ ∧ bl < w.heap.size)
    (hz : ∀ i, i < len → w.cell? ⟨bl, off + i, none⟩ = some (.int .u32 (Z i))) (hzb : ∀ i, i < len → 0 ≤ Z i ∧ Z i < 4294967296) (hb1 : -9223372036854775808 ≤ base) (hb2 : base < 9223372036854775808) :
    Calls Try.prog 6 #[.slice ao len cap, .int .i64 base] w fun e w' => e = .returned (.bool true) ∧ Below w.heap.size w w' := by
  have HAO := Lib.hid hao
  have HZ := Lib.hid hz
  have HZB := Lib.hid hzb
  clear hao hz hzb
  go_enter Try.func6, Try.ntmps6
  go_wp2_with fail
  refine (works_any _).mono ?_
  rintro e w0 ⟨rfl, hb0⟩
  go_wp2_with fail
  refine (new_any _).mono ?_
  rintro e w1 ⟨rfl, hw1⟩
  have hd1 : IsD w1 w0.heap.size (heads Z 0) := hw1 ▸ isD_new w0
  have hbel1 : Below w.heap.size w w1 := hw1 ▸ hb0.alloc hb0.size _
  have hbb := hb0.size
  clear hw1 hb0
  go_wp2_with fail
  clear hn3
  go_loopw [7] (fun i wr => ∃ k : Nat, i = .int .i64 k ∧ k ≤ n ∧ Below w.heap.size w wr ∧ IsD wr w0.heap.size (heads Z k)) (fun i _ => n - (intOf i).toNat)
  case atStart => exact ⟨0, rfl, Nat.zero_le _, hbel1, hd1⟩
  case round =>
    obtain ⟨k, rfl, hk, hbel, hd⟩ := hrel
    clear hbel1 hd1
    by_cases hlt : k < n
    · obtain ⟨rfl, hbl⟩ := HAO.out (by omega)
      have hZ : wr.cell? ⟨bl, off + k, none⟩ = some (.int .u32 (Z k)) := (hbel.cell hbl).trans (HZ.out k (by omega))
      obtain ⟨z1, z2⟩ := HZB.out k (by omega)
      go_wp2_with fail
      refine (push_eq _ _ _ (Z k) z1 z2 _ hd (by rw [heads_len]; omega) (heads_succ Z k)).mono ?_
      rintro e w2 ⟨rfl, hd2, ho2⟩
      have hbel2 := hbel.trans (ho2.below hbb)
      clear hd hbel ho2
      go_wp2_with fail
      go_roundw
      case rel => exact ⟨k + 1, by go_num, by omega, hbel2, hd2⟩
      case measure => simp [intOf]; omega
    · obtain rfl : n = k := by omega
      clear hlt hk
      go_wp2_with fail
      refine (copy_any _ _ _ hd).mono ?_
      rintro e w2 ⟨rfl, cc, hwe, hdc⟩
      have hd2 : IsD w2 w0.heap.size (heads Z n) := hwe ▸ hd.alloc _
      have hbel2 : Below w.heap.size w w2 := hwe ▸ hbel.alloc hbel.size _
      have hne := hd.lt
      obtain ⟨bc, hbc⟩ : ∃ bc, wr.heap.size = bc := ⟨_, rfl⟩
      rw [hbc] at hdc hne ⊢
      clear hwe hd hbel hbc
      go_wp2_with fail
      have hd3 : IsD w2 w0.heap.size (rest Z n 0 base) := by rw [rest_zero]; exact hd2
      clear hd2
      go_loopw [9] (fun i wr => ∃ k : Nat, i = .int .i64 k ∧ k ≤ n ∧ Below w.heap.size w wr ∧ IsD wr w0.heap.size (rest Z n k base) ∧ IsD wr bc (heads Z n)) (fun i _ => n - (intOf i).toNat)
      case atStart => exact ⟨0, rfl, Nat.zero_le _, hbel2, hd3, hdc⟩
      case round =>
        obtain ⟨k, rfl, hk, hbel, hd, hdc4⟩ := hrel
        clear hbel2 hd3 hdc
        by_cases hlt : k < n
        · obtain ⟨rfl, hbl⟩ := HAO.out (by omega)
          have hZ : wr.cell? ⟨bl, off + k, none⟩ = some (.int .u32 (Z k)) := (hbel.cell hbl).trans (HZ.out k (by omega))
          obtain ⟨z1, z2⟩ := HZB.out k (by omega)
          have HJ := Lib.hid (rest_jv Z n k base hlt)
          have HQ := Lib.hid (rest_jq Z n k base hlt)
          obtain ⟨v, hv⟩ : ∃ v, ofV base (Z k) = v := ⟨_, rfl⟩
          have HV := Lib.hid hv
          clear hv
          have hvv : (v != v) = false := by simp
          have HNE : Hid (bl ≠ w0.heap.size) := by show _ ≠ _; omega
          have hi1 : (0 : Int) ≤ (k : Int) := by omega
          have hi2 : (k : Int) < (len : Int) := by omega
          by_cases hb : base ≤ 0
          · have HL : Hid (((rest Z n k base).length : Int) = n) := by show _ = _; rw [rest_len_neg Z n k base hb]
            have hbp : decide (0 < base) = false := by simp; omega
            by_cases hk0 : k = 0
            · have hll : ((n : Int) != n - k) = false := by simp; omega
              clear hk0
              go_wp2_with fail
              refine (left_eq _ _ _ _ hd HL.out).mono ?_
              rintro e w' ⟨rfl, rfl⟩
              go_wp2_with fail
              go_region_held3 (fun w' => w'.cell? ⟨bl, off + k, none⟩ = some (.int .u32 (Z k))) (go_keep)
                (first
                  | (go_at_call 8; refine (of_any base (Z k) _ hb2 z1 z2).mono ?_; rw [HV.out]; rintro e w' ⟨rfl, rfl⟩)
                  | (go_at_call 14; (with_reducible refine (jit_eq w0.heap.size base hb2 _ _ _ _ (by exact hd.keep rfl) (HJ.out.trans HV.out) HQ.out).mono ?_); rintro e w2 ⟨rfl, hd2, ho2⟩; have hZ2 : w2.cell? ⟨bl, off + k, none⟩ = some (.int .u32 (Z k)) := (ho2.cell HNE.out).trans (by exact hZ))
                  | (go_at_call 14; refine (jit_eq w0.heap.size 0 (by omega) _ _ _ _ (by exact hd2) (jv_zero _) (jq_zero _)).mono ?_; rintro e w3 ⟨rfl, hd3, ho3⟩; have hZ3 : w3.cell? ⟨bl, off + k, none⟩ = some (.int .u32 (Z k)) := (ho3.cell HNE.out).trans (by exact hZ2)))
              have hbel2 := (hbel.drew.trans (ho2.below hbb)).trans (ho3.below hbb)
              have hdc5 : IsD w3 bc (heads Z n) := (hdc4.keep (w' := w2) (ho2.block bc (by omega))).keep (ho3.block bc (by omega))
              clear hbel hd hdc4 ho2 ho3 hd2 hZ2 hZ3 hZ
              go_wp2_with fail
              go_roundw
              case rel => exact ⟨k + 1, by go_num, by omega, hbel2, hd3, hdc5⟩
              case measure => simp [intOf]; omega
            · have hll : ((n : Int) != n - k) = true := by simp; omega
              clear hk0
              go_wp2_with fail
              refine (left_eq _ _ _ _ hd HL.out).mono ?_
              rintro e w' ⟨rfl, rfl⟩
              go_wp2_with fail
              go_region_held3 (fun w' => w'.cell? ⟨bl, off + k, none⟩ = some (.int .u32 (Z k))) (go_keep)
                (first
                  | (go_at_call 8; refine (of_any base (Z k) _ hb2 z1 z2).mono ?_; rw [HV.out]; rintro e w' ⟨rfl, rfl⟩)
                  | (go_at_call 14; (with_reducible refine (jit_eq w0.heap.size base hb2 _ _ _ _ (by exact hd.keep rfl) (HJ.out.trans HV.out) HQ.out).mono ?_); rintro e w2 ⟨rfl, hd2, ho2⟩; have hZ2 : w2.cell? ⟨bl, off + k, none⟩ = some (.int .u32 (Z k)) := (ho2.cell HNE.out).trans (by exact hZ))
                  | (go_at_call 14; refine (jit_eq w0.heap.size 0 (by omega) _ _ _ _ (by exact hd2) (jv_zero _) (jq_zero _)).mono ?_; rintro e w3 ⟨rfl, hd3, ho3⟩; have hZ3 : w3.cell? ⟨bl, off + k, none⟩ = some (.int .u32 (Z k)) := (ho3.cell HNE.out).trans (by exact hZ2)))
              have hbel2 := (hbel.drew.trans (ho2.below hbb)).trans (ho3.below hbb)
              have hdc5 : IsD w3 bc (heads Z n) := (hdc4.keep (w' := w2) (ho2.block bc (by omega))).keep (ho3.block bc (by omega))
              clear hbel hd hdc4 ho2 ho3 hd2 hZ2 hZ3 hZ
              go_wp2_with fail
              go_roundw
              case rel => exact ⟨k + 1, by go_num, by omega, hbel2, hd3, hdc5⟩
              case measure => simp [intOf]; omega
          · have hb' : 0 < base := by omega
            have HL : Hid (((rest Z n k base).length : Int) = n - k) := by show _ = _; rw [rest_len Z n k base hb']; omega
            have hll : ((n : Int) - k != n - k) = false := by simp
            go_wp2_with fail
            refine (left_eq _ _ _ _ hd HL.out).mono ?_
            rintro e w' ⟨rfl, rfl⟩
            go_wp2_with fail
            go_region_held3 (fun w' => w'.cell? ⟨bl, off + k, none⟩ = some (.int .u32 (Z k))) (go_keep)
              (first
                | (go_at_call 8; refine (of_any base (Z k) _ hb2 z1 z2).mono ?_; rw [HV.out]; rintro e w' ⟨rfl, rfl⟩)
                | (go_at_call 14; (with_reducible refine (jit_eq w0.heap.size base hb2 _ _ _ _ (by exact hd.keep rfl) (HJ.out.trans HV.out) HQ.out).mono ?_); rintro e w2 ⟨rfl, hd2, ho2⟩; have hZ2 : w2.cell? ⟨bl, off + k, none⟩ = some (.int .u32 (Z k)) := (ho2.cell HNE.out).trans (by exact hZ))
                | (go_at_call 14; refine (jit_eq w0.heap.size 0 (by omega) _ _ _ _ (by exact hd2) (jv_zero _) (jq_zero _)).mono ?_; rintro e w3 ⟨rfl, hd3, ho3⟩; have hZ3 : w3.cell? ⟨bl, off + k, none⟩ = some (.int .u32 (Z k)) := (ho3.cell HNE.out).trans (by exact hZ2)))
            have hbel2 := (hbel.drew.trans (ho2.below hbb)).trans (ho3.below hbb)
            have hdc5 : IsD w3 bc (heads Z n) := (hdc4.keep (w' := w2) (ho2.block bc (by omega))).keep (ho3.block bc (by omega))
            clear hbel hd hdc4 ho2 ho3 hd2 hZ2 hZ3 hZ
            go_wp2_with fail
            go_roundw
            case rel => exact ⟨k + 1, by go_num, by omega, hbel2, hd3, hdc5⟩
            case measure => simp [intOf]; omega
        · obtain rfl : n = k := by omega
          clear hlt hk
          by_cases hb : base ≤ 0
          · have HL : Hid (((rest Z n n base).length : Int) = n) := by show _ = _; rw [rest_len_neg Z n n base hb]
            have hnn : ((n : Int) == n) = true := by simp
            go_wp2_with fail
            refine (left_eq _ _ _ _ hd HL.out).mono ?_
            rintro e w' ⟨rfl, rfl⟩
            go_wp2_with fail
            refine (jit_eq _ base hb2 _ _ _ _ hd (show jv base _ = 0 by simp [jv, hb]) rfl).mono ?_
            rintro e w2 ⟨rfl, hd2, ho2⟩
            have hbel2 := hbel.trans (ho2.below hbb)
            go_wp2_with fail
            go_ret
            exact ⟨rfl, hbel2⟩
          · have hb' : 0 < base := by omega
            have hnil : rest Z n n base = [] := List.eq_nil_of_length_eq_zero (by rw [rest_len Z n n base hb']; omega)
            rw [hnil] at hd
            clear hnil
            have hnn : ((n : Int) == n) = true := by simp
            have hbb2 : (base == base) = true := by simp
            have HLn : Hid (((heads Z n).length : Int) = n) := by show _ = _; rw [heads_len]
            go_wp2_with fail
            refine (left_eq _ _ 0 _ hd rfl).mono ?_
            rintro e w' ⟨rfl, rfl⟩
            go_wp2_with fail
            refine (jitter_any_nil _ base hb' _ hd).mono ?_
            rintro e w' ⟨rfl, rfl⟩
            go_wp2_with fail
            refine (left_eq bc _ _ _ hdc4 HLn.out).mono ?_
            rintro e w' ⟨rfl, rfl⟩
            go_wp2_with fail
            go_ret
            exact ⟨rfl, hbel⟩
end Go.Proofs.Ytohlppmalinooaa
