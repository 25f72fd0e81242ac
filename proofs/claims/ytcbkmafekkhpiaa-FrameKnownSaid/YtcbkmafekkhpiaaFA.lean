/- frame and its reference: plain words; the small functions. -/
import Derived.Test.YtcbkmafekkhpiaaFG
import Derived.Deep.QuietTactic
import Derived.BigQuiet
import Derived.Laws.CopyOwn
import Derived.Laws.BytesString
import Derived.Lib.AppendStr
import Derived.StillTailTactics
import Derived.Deep.LoopGhost
import Derived.Deep.RegionWith
import Derived.Laws.IdiomStrings
import Derived.Laws.StructEq
namespace Go.Proofs.Ytcbkmafekkhpiaa
open Go.RowKit
set_option linter.unusedVariables false

def toL (s : ByteArray) : List UInt8 := s.data.toList
def mkS (l : List UInt8) : ByteArray := ⟨l.toArray⟩
theorem toL_mkS (l : List UInt8) : toL (mkS l) = l := rfl
theorem mkS_toL (s : ByteArray) : mkS (toL s) = s := rfl
theorem toL_len (s : ByteArray) : (toL s).length = s.size := by unfold toL; rw [Array.length_toList]; rfl
theorem mkS_size (l : List UInt8) : (mkS l).size = l.length := rfl
def bt (l : List UInt8) (i : Nat) : Nat := (l.getD i 0).toNat
theorem bt_lt (l : List UInt8) (i : Nat) : bt l i < 256 := (l.getD i 0).toNat_lt
def longL (l : List UInt8) : Nat := bt l 16 * 256 + bt l 17
def fitsI (kind long : Int) : Bool := if kind = 1 then decide (29 ≤ long) else if kind = 2 then decide (23 ≤ long) else if kind = 3 then decide (21 ≤ long) else if kind = 4 then decide (long = 19) else if kind = 5 then decide (long = 23) else false
def marks (l : List UInt8) : Bool := (l.take 16).all (· == 255)
def subL (l : List UInt8) : Nat := if marks l = false then 1 else if longL l < 19 ∨ 4096 < longL l then 2 else if bt l 18 < 1 ∨ 5 < bt l 18 then 3 else if fitsI (bt l 18) (longL l) = false then 2 else 0
def vd (n : Nat) : Value := .agg #[.int .i64 (if n = 0 then 0 else 3), .int .u8 (if n = 0 then 0 else 1), .int .u8 (n : Int)]

/-- A slice of bytes that is read. -/
def BRd (w : World) (v : Value) (l : List UInt8) : Prop :=
  ∃ ao cap g off, v = .slice ao l.length cap ∧ l.length ≤ cap ∧ cap ≤ maxLen ∧ (0 < l.length → ao = some ⟨g, off, none⟩ ∧ g < w.heap.size) ∧ ∀ i, i < l.length → w.cell? ⟨g, off + i, none⟩ = some (.int .u8 (bt l i : Nat))

theorem BRd.keep {w w' : World} {v : Value} {l : List UInt8} (h : BRd w v l) (hk : ∀ g, v.ownBlock = some g → g < w.heap.size → w'.heap[g]? = w.heap[g]?) : BRd w' v l := by
  obtain ⟨ao, cap, g, off, rfl, h1, h2, h3, h4⟩ := h
  refine ⟨ao, cap, g, off, rfl, h1, h2, fun h0 => ?_, fun i hi => ?_⟩
  · obtain ⟨rfl, hg⟩ := h3 h0
    refine ⟨rfl, ?_⟩
    rcases Nat.lt_or_ge g w'.heap.size with h | h
    · exact h
    · have := hk g rfl hg
      rw [Array.getElem?_eq_none h, Array.getElem?_eq_getElem hg] at this
      cases this
  · obtain ⟨rfl, hg⟩ := h3 (by omega)
    rw [← h4 i hi]
    have := hk g rfl hg
    unfold World.cell?
    rw [this]
theorem BRd.below {w w' : World} {v : Value} {l : List UInt8} (h : BRd w v l) (hb : Below w.heap.size w w') : BRd w' v l := h.keep fun g _ hg => hb.block g hg

set_option maxHeartbeats 400000 in
theorem fits_any (k n : Int) (w : World) : Calls Try.prog 18 #[.int .i64 k, .int .i64 n] w fun e w' => e = .returned (.bool (fitsI k n)) ∧ w = w' := by
  by_cases h1 : k = 1
  · subst h1
    rw [show fitsI 1 n = decide (29 ≤ n) from rfl]
    go_enter Try.func18, Try.ntmps18
    go_wp2
    go_ret
    exact ⟨rfl, rfl⟩
  · have d1 : (k == 1) = false := by simpa using h1
    by_cases h2 : k = 2
    · subst h2
      rw [show fitsI 2 n = decide (23 ≤ n) from rfl]
      go_enter Try.func18, Try.ntmps18
      go_wp2
      go_ret
      exact ⟨rfl, rfl⟩
    · have d2 : (k == 2) = false := by simpa using h2
      by_cases h3 : k = 3
      · subst h3
        rw [show fitsI 3 n = decide (21 ≤ n) from rfl]
        go_enter Try.func18, Try.ntmps18
        go_wp2
        go_ret
        exact ⟨rfl, rfl⟩
      · have d3 : (k == 3) = false := by simpa using h3
        by_cases h4 : k = 4
        · subst h4
          rw [show fitsI 4 n = decide (n = 19) from rfl]
          go_enter Try.func18, Try.ntmps18
          go_wp2
          go_ret
          exact ⟨rfl, rfl⟩
        · have d4 : (k == 4) = false := by simpa using h4
          by_cases h5 : k = 5
          · subst h5
            rw [show fitsI 5 n = decide (n = 23) from rfl]
            go_enter Try.func18, Try.ntmps18
            go_wp2
            go_ret
            exact ⟨rfl, rfl⟩
          · have d5 : (k == 5) = false := by simpa using h5
            rw [show fitsI k n = false by simp [fitsI, h1, h2, h3, h4, h5]]
            clear h1 h2 h3 h4 h5
            go_enter Try.func18, Try.ntmps18
            go_wp2
            go_ret
            exact ⟨rfl, rfl⟩

set_option maxHeartbeats 400000 in
theorem rfits_any (k n : Int) (w : World) (k1 : 1 ≤ k) (k5 : k ≤ 5) : Calls Try.prog 20 #[.int .i64 k, .int .i64 n] w fun e w' => e = .returned (.bool (fitsI k n)) ∧ w = w' := by
  by_cases h1 : k = 1
  · subst h1
    rw [show fitsI 1 n = decide (29 ≤ n) from rfl]
    go_enter Try.func20, Try.ntmps20
    go_wp2
    go_ret
    exact ⟨rfl, rfl⟩
  · have d1 : (k == 1) = false := by simpa using h1
    by_cases h2 : k = 2
    · subst h2
      rw [show fitsI 2 n = decide (23 ≤ n) from rfl]
      go_enter Try.func20, Try.ntmps20
      go_wp2
      go_ret
      exact ⟨rfl, rfl⟩
    · have d2 : (k == 2) = false := by simpa using h2
      by_cases h3 : k = 3
      · subst h3
        rw [show fitsI 3 n = decide (21 ≤ n) from rfl]
        go_enter Try.func20, Try.ntmps20
        go_wp2
        go_ret
        exact ⟨rfl, rfl⟩
      · have d3 : (k == 3) = false := by simpa using h3
        by_cases h4 : k = 4
        · subst h4
          rw [show fitsI 4 n = decide (n = 19) from rfl]
          go_enter Try.func20, Try.ntmps20
          go_wp2
          go_ret
          exact ⟨rfl, rfl⟩
        · have d4 : (k == 4) = false := by simpa using h4
          by_cases h5 : k = 5
          · subst h5
            rw [show fitsI 5 n = decide (n = 23) from rfl]
            go_enter Try.func20, Try.ntmps20
            go_wp2
            go_ret
            exact ⟨rfl, rfl⟩
          · have d5 : (k == 5) = false := by simpa using h5
            omega


theorem or_long (a b : Nat) (ha : a < 256) (hb : b < 256) : bits .or .i64 (wrap64 (wrap64 (a : Int) * 256)) (wrap64 (b : Int)) = ((a * 256 + b : Nat) : Int) := by
  have e1 : wrap64 (a : Int) = (a : Int) := by unfold wrap64; omega
  have e2 : wrap64 (b : Int) = (b : Int) := by unfold wrap64; omega
  rw [e1, e2, show wrap64 ((a : Int) * 256) = ((a * 256 : Nat) : Int) by unfold wrap64; omega]
  show IntKind.i64.wrap ((BitVec.ofInt 64 ((a * 256 : Nat) : Int) ||| BitVec.ofInt 64 (b : Int)).toNat : Int) = _
  rw [BitVec.ofInt_natCast, BitVec.ofInt_natCast, BitVec.toNat_or, BitVec.toNat_ofNat, BitVec.toNat_ofNat, Nat.mod_eq_of_lt (by omega), Nat.mod_eq_of_lt (by omega)]
  have h := Nat.two_pow_add_eq_or_of_lt (i := 8) hb a
  rw [Nat.mul_comm a 256, ← h, IntKind.wrap_i64]
  omega

set_option maxHeartbeats 400000 in
theorem long_any (v : Value) (l : List UInt8) (w : World) (h : BRd w v l) (hl : 19 ≤ l.length) : Calls Try.prog 23 #[v] w fun e w' => e = .returned (.int .i64 (longL l : Nat)) ∧ ∃ m, w' = w.drewN m := by
  obtain ⟨ao, cap, g, off, rfl, h1, h2, h3, h4⟩ := h
  obtain ⟨rfl, hg⟩ := h3 (by omega)
  have c16 := h4 16 (by omega)
  have c17 := h4 17 (by omega)
  have i16 : (16 : Int) < (l.length : Int) := by omega
  have i17 : (17 : Int) < (l.length : Int) := by omega
  have HB := Lib.hid (And.intro (bt_lt l 16) (bt_lt l 17))
  clear h3 h4
  go_enter Try.func23, Try.ntmps23
  go_wp2_with fail
  go_region
  go_wp2
  go_ret
  refine ⟨?_, 1, rfl⟩
  rw [or_long _ _ HB.out.1 HB.out.2]
  rfl

def ff16 : ByteArray := mkS (List.replicate 16 255)
set_option maxHeartbeats 400000 in
theorem marker_any (w : World) : Calls Try.prog 19 #[] w fun e w' => e = .returned (.string ff16) ∧ Below w.heap.size w w' := by
  go_enter Try.func19, Try.ntmps19
  go_wp2_with fail
  refine (strings_Repeat ⟨#[255]⟩ 16 _ (by omega) (by decide)).mono ?_
  rintro e w' ⟨rfl, hb⟩
  go_wp2
  go_ret
  exact ⟨rfl, hb⟩

theorem zeroV (w : World) : (zeroValue 34).run Try.prog w = .ok (.agg #[.int .i64 0, .int .u8 0, .int .u8 0]) w := by kernel_rfl

set_option maxHeartbeats 400000 in
theorem reset_any (a b : Int) (w : World) : Calls Try.prog 27 #[.int .u8 a, .int .u8 b] w fun e w' => e = .returned (.agg #[.int .i64 3, .int .u8 a, .int .u8 b]) ∧ Below w.heap.size w w' := by
  have z := fun w => zeroV w
  go_enter Try.func27, Try.ntmps27
  go_wp2
  exact bodyPost_ret (v := .agg #[.int .i64 3, .int .u8 a, .int .u8 b]) (by simp [results, Try.results27, go_sem]) rfl ⟨rfl, (Below.refl _ _).alloc (Nat.le_refl _) _⟩

theorem marks_iff (l : List UInt8) (hl : 16 ≤ l.length) : marks l = true ↔ mkS (l.take 16) = ff16 := by
  unfold marks ff16 mkS
  constructor
  · intro h
    congr 2
    rw [List.all_eq_true] at h
    exact List.eq_replicate_iff.2 ⟨by simp; omega, fun b hb => by simpa using h b hb⟩
  · intro h
    have h2 : l.take 16 = List.replicate 16 255 := by
      injection h with h
      exact List.toArray_inj h
    rw [h2]; decide
theorem ne_toList {a b : ByteArray} (h : ¬ a = b) : (a.toList == b.toList) = false := by
  rw [beq_eq_false_iff_ne]
  intro he
  rw [ByteArray.toList_eq, ByteArray.toList_eq] at he
  exact h (ByteArray.ext (Array.toList_inj.1 he))
theorem set3 {w : World} {p : Nat} {a b c a' b' c' : Value} {t : TypeId} (h : w.heap[p]? = some (.cells #[a, b, c] t (0, 0))) :
    (((w.setCell ⟨p, 0, none⟩ a').setCell ⟨p, 1, none⟩ b').setCell ⟨p, 2, none⟩ c').heap[p]? = some (.cells #[a', b', c'] t (0, 0)) :=
  set_heap (i := 2) (v := c') (set_heap (i := 1) (v := b') (set_heap (i := 0) (v := a') h))
theorem set3_below {B p : Nat} {w0 w : World} {a' b' c' : Value} (h : Below B w0 w) (hp : B ≤ p) : Below B w0 (((w.setCell ⟨p, 0, none⟩ a').setCell ⟨p, 1, none⟩ b').setCell ⟨p, 2, none⟩ c') :=
  ((h.setCell hp _).setCell hp _).setCell hp _

set_option maxHeartbeats 4000000 in
theorem judge_any (v : Value) (l : List UInt8) (w : World) (h : BRd w v l) (hl : l.length = 19) : Calls Try.prog 22 #[v] w fun e w' => e = .returned (vd (subL l)) ∧ Below w.heap.size w w' := by
  have z := fun w => zeroV w
  have HB := Lib.hid h
  obtain ⟨ao, cap, g, off, rfl, h1, h2, h3, h4⟩ := h
  obtain ⟨rfl, hg⟩ := h3 (by omega)
  have HC := Lib.hid h4
  have i18 : (18 : Int) < (l.length : Int) := by omega
  have HL := Lib.hid hl
  have h1c : (l.length : Int) ≤ (cap : Int) := by omega
  have i16 : (16 : Int) ≤ (cap : Int) := by omega
  clear h3 h4 hl
  go_enter Try.func22, Try.ntmps22
  go_wp2_with fail
  have HAL : Hid (Below w.heap.size w (w.alloc (.cells #[.int .i64 0, .int .u8 0, .int .u8 0] 34))) := (Below.refl _ _).alloc (Nat.le_refl _) _
  have hc18 : (w.alloc (.cells #[.int .i64 0, .int .u8 0, .int .u8 0] 34)).cell? ⟨g, off + 18, none⟩ = some (.int .u8 (bt l 18 : Nat)) := (HAL.out.cell hg).trans (HC.out 18 (by have := HL.out; omega))
  go_quiet ((go_at_call 23; refine Calls.quiet_of (long_any _ l _ (by exact (HB.out.below HAL.out).keep fun _ _ _ => rfl) (by have := HL.out; omega))))
  obtain ⟨W, hW⟩ : ∃ W, W = (w.alloc (.cells #[.int .i64 0, .int .u8 0, .int .u8 0] 34)).drewN nq := ⟨_, rfl⟩
  rw [← hW]
  have hbel : Below w.heap.size w W := hW ▸ (HAL.out.trans ⟨rfl, rfl, rfl, Nat.le_refl _, fun _ _ => rfl⟩)
  have hg2 : W.heap[w.heap.size]? = some (.cells #[.int .i64 0, .int .u8 0, .int .u8 0] 34 (0, 0)) := hW ▸ heap_alloc_new _ _
  have hWs : w.heap.size < W.heap.size := by rw [hW]; simp
  have HCV : Hid (∀ w', w'.heap[g]? = W.heap[g]? → (convert 43 9 (.slice (some ⟨g, off, none⟩) 16 cap)).run Try.prog w' = .ok (.string (mkS (l.take 16))) w') := by
    intro w' hw'
    have := run_convert_bytes_back (P := Try.prog) w' 43 9 5 ⟨g, off, none⟩ cap (l.take 16) Try.underlying43 Try.underlying5 Try.underlying9 (fun j hj => by
      have hj2 : j < 16 := by simp at hj; omega
      have hl := HL.out
      have h1 := HC.out j (by omega)
      have e1 : w'.cell? ⟨g, off + j, none⟩ = w.cell? ⟨g, off + j, none⟩ := by
        have : w'.heap[g]? = w.heap[g]? := hw'.trans (hbel.block g hg)
        unfold World.cell?
        rw [this]
      rw [Addr.add_lit, e1, h1]
      congr 2
      unfold bt
      rw [List.getElem_take, List.getD_eq_getElem?_getD, List.getElem?_eq_getElem (by omega)]
      rfl)
    rwa [show (l.take 16).length = 16 by simp; have := HL.out; omega] at this
  have e18 : wrap64 (bt l 18 : Nat) = (bt l 18 : Nat) := by have := bt_lt l 18; unfold wrap64; omega
  have HBEL := Lib.hid hbel
  have HG2 := Lib.hid hg2
  clear hbel hg2 hW hc18 HAL
  have hl16 : 16 ≤ l.length := by have := HL.out; omega
  have HMI := Lib.hid (marks_iff l hl16)
  clear hl16
  obtain ⟨n, hn⟩ : ∃ n, longL l = n := ⟨_, rfl⟩
  obtain ⟨k, hk⟩ : ∃ k, bt l 18 = k := ⟨_, rfl⟩
  have HS : Hid (subL l = if marks l = false then 1 else if n < 19 ∨ 4096 < n then 2 else if k < 1 ∨ 5 < k then 3 else if fitsI k n = false then 2 else 0) := by show _ = _; rw [← hn, ← hk]; rfl
  have hk256 : k < 256 := hk ▸ bt_lt l 18
  rw [hn]
  rw [hk] at e18 ⊢
  clear hn hk
  by_cases hmk : mkS (l.take 16) = ff16
  · rw [hmk] at HCV
    have hmt := HMI.out.2 hmk
    have HS2 : Hid (subL l = if n < 19 ∨ 4096 < n then 2 else if k < 1 ∨ 5 < k then 3 else if fitsI k n = false then 2 else 0) := by show _ = _; rw [HS.out, hmt, if_neg (by simp)]
    have c1 := HCV.out W.drew rfl
    clear hmk hmt HS HMI
    go_wp2_with fail
    go_region_with (go_at_call 19; refine (marker_any _).mono ?_; rintro e w5 ⟨rfl, hb5⟩; have c2 := HCV.out w5 (hb5.block g (by have := HBEL.out.size; simp; omega)))
    all_goals (
      have hg5 : w5.heap[w.heap.size]? = some (.cells #[.int .i64 0, .int .u8 0, .int .u8 0] 34 (0, 0)) := (hb5.block _ (by simpa using hWs)).trans HG2.out
      have hbel5 : Below w.heap.size w w5 := HBEL.out.trans ((Below.refl w.heap.size W).drew.trans (hb5.mono (by have := HBEL.out.size; simpa using this)))
      have p0 : w5.cell? ⟨w.heap.size, 0, none⟩ = some (.int .i64 0) := by rw [cell_of_row _ _ _ _ _ _ hg5]; rfl
      have p1 : w5.cell? ⟨w.heap.size, 1, none⟩ = some (.int .u8 0) := by rw [cell_of_row _ _ _ _ _ _ hg5]; rfl
      have p2 : w5.cell? ⟨w.heap.size, 2, none⟩ = some (.int .u8 0) := by rw [cell_of_row _ _ _ _ _ _ hg5]; rfl
      have f0 := frozen_of_row _ _ 0 _ _ hg5
      have f1 := frozen_of_row _ _ 1 _ _ hg5
      have f2 := frozen_of_row _ _ 2 _ _ hg5
      have HG5 := Lib.hid hg5
      have HB5 := Lib.hid hbel5
      clear hg5 hbel5 hb5 c1 c2 HCV HBEL HG2
      by_cases q1 : n < 19
      · have hs : subL l = 2 := by rw [HS2.out, if_pos (Or.inl q1)]
        have i1 : (n : Int) < 19 := by omega
        clear HS2 q1
        go_wp2_with fail
        have hR := set3 (a' := .int .i64 3) (b' := .int .u8 1) (c' := .int .u8 2) HG5.out
        have hBl := set3_below (a' := .int .i64 3) (b' := .int .u8 1) (c' := .int .u8 2) HB5.out (Nat.le_refl _)
        have r0 := cell_of_row _ _ 0 _ _ _ hR
        have r1 := cell_of_row _ _ 1 _ _ _ hR
        have r2 := cell_of_row _ _ 2 _ _ _ hR
        exact bodyPost_ret (v := .agg #[.int .i64 3, .int .u8 1, .int .u8 2]) (by simp [results, Try.results22, go_sem, r0, r1, r2]) rfl ⟨by rw [hs]; rfl, hBl⟩
      · by_cases q2 : 4096 < n
        · have hs : subL l = 2 := by rw [HS2.out, if_pos (Or.inr q2)]
          have i1 : (19 : Int) ≤ (n : Int) := by omega
          have i2 : (4096 : Int) < (n : Int) := by omega
          clear HS2 q1 q2
          go_wp2_with fail
          have hR := set3 (a' := .int .i64 3) (b' := .int .u8 1) (c' := .int .u8 2) HG5.out
          have hBl := set3_below (a' := .int .i64 3) (b' := .int .u8 1) (c' := .int .u8 2) HB5.out (Nat.le_refl _)
          have r0 := cell_of_row _ _ 0 _ _ _ hR
          have r1 := cell_of_row _ _ 1 _ _ _ hR
          have r2 := cell_of_row _ _ 2 _ _ _ hR
          exact bodyPost_ret (v := .agg #[.int .i64 3, .int .u8 1, .int .u8 2]) (by simp [results, Try.results22, go_sem, r0, r1, r2]) rfl ⟨by rw [hs]; rfl, hBl⟩
        · have i1 : (19 : Int) ≤ (n : Int) := by omega
          have i2 : (n : Int) ≤ 4096 := by omega
          rw [if_neg (by omega)] at HS2
          clear q1 q2
          by_cases q3 : k < 1
          · have hs : subL l = 3 := by rw [HS2.out, if_pos (Or.inl q3)]
            have i3 : (k : Int) < 1 := by omega
            clear HS2 q3
            go_wp2_with fail
            have hR := set3 (a' := .int .i64 3) (b' := .int .u8 1) (c' := .int .u8 3) HG5.out
            have hBl := set3_below (a' := .int .i64 3) (b' := .int .u8 1) (c' := .int .u8 3) HB5.out (Nat.le_refl _)
            have r0 := cell_of_row _ _ 0 _ _ _ hR
            have r1 := cell_of_row _ _ 1 _ _ _ hR
            have r2 := cell_of_row _ _ 2 _ _ _ hR
            exact bodyPost_ret (v := .agg #[.int .i64 3, .int .u8 1, .int .u8 3]) (by simp [results, Try.results22, go_sem, r0, r1, r2]) rfl ⟨by rw [hs]; rfl, hBl⟩
          · by_cases q4 : 5 < k
            · have hs : subL l = 3 := by rw [HS2.out, if_pos (Or.inr q4)]
              have i3 : (1 : Int) ≤ (k : Int) := by omega
              have i4 : (5 : Int) < (k : Int) := by omega
              clear HS2 q3 q4
              go_wp2_with fail
              have hR := set3 (a' := .int .i64 3) (b' := .int .u8 1) (c' := .int .u8 3) HG5.out
              have hBl := set3_below (a' := .int .i64 3) (b' := .int .u8 1) (c' := .int .u8 3) HB5.out (Nat.le_refl _)
              have r0 := cell_of_row _ _ 0 _ _ _ hR
              have r1 := cell_of_row _ _ 1 _ _ _ hR
              have r2 := cell_of_row _ _ 2 _ _ _ hR
              exact bodyPost_ret (v := .agg #[.int .i64 3, .int .u8 1, .int .u8 3]) (by simp [results, Try.results22, go_sem, r0, r1, r2]) rfl ⟨by rw [hs]; rfl, hBl⟩
            · have i3 : (1 : Int) ≤ (k : Int) := by omega
              have i4 : (k : Int) ≤ 5 := by omega
              rw [if_neg (by omega)] at HS2
              clear q3 q4
              go_wp2_with fail
              refine (fits_any _ _ _).mono ?_
              rintro e w6 ⟨he, rfl⟩
              cases hf : fitsI k n with
              | true =>
                rw [hf] at he
                subst he
                have hs : subL l = 0 := by rw [HS2.out, hf]; rfl
                clear HS2 hf
                go_wp2_with fail
                have hR := set3 (a' := .int .i64 0) (b' := .int .u8 0) (c' := .int .u8 0) HG5.out
                have hBl := set3_below (a' := .int .i64 0) (b' := .int .u8 0) (c' := .int .u8 0) HB5.out (Nat.le_refl _)
                have r0 := cell_of_row _ _ 0 _ _ _ hR
                have r1 := cell_of_row _ _ 1 _ _ _ hR
                have r2 := cell_of_row _ _ 2 _ _ _ hR
                exact bodyPost_ret (v := .agg #[.int .i64 0, .int .u8 0, .int .u8 0]) (by simp [results, Try.results22, go_sem, r0, r1, r2]) rfl ⟨by rw [hs]; rfl, hBl⟩
              | false =>
                rw [hf] at he
                subst he
                have hs : subL l = 2 := by rw [HS2.out, hf]; rfl
                clear HS2 hf
                go_wp2_with fail
                have hR := set3 (a' := .int .i64 3) (b' := .int .u8 1) (c' := .int .u8 2) HG5.out
                have hBl := set3_below (a' := .int .i64 3) (b' := .int .u8 1) (c' := .int .u8 2) HB5.out (Nat.le_refl _)
                have r0 := cell_of_row _ _ 0 _ _ _ hR
                have r1 := cell_of_row _ _ 1 _ _ _ hR
                have r2 := cell_of_row _ _ 2 _ _ _ hR
                exact bodyPost_ret (v := .agg #[.int .i64 3, .int .u8 1, .int .u8 2]) (by simp [results, Try.results22, go_sem, r0, r1, r2]) rfl ⟨by rw [hs]; rfl, hBl⟩)
  · have hmf : marks l = false := by
      cases h : marks l with
      | true => exact absurd (HMI.out.1 h) hmk
      | false => rfl
    have hs : subL l = 1 := by rw [HS.out, if_pos hmf]
    obtain ⟨X, hX⟩ : ∃ X, mkS (l.take 16) = X := ⟨_, rfl⟩
    rw [hX] at HCV hmk
    have hxe := ne_toList hmk
    clear hmk
    have c1 := HCV.out W.drew rfl
    clear hX hmf HS HMI
    go_wp2_with fail
    go_region_with (go_at_call 19; refine (marker_any _).mono ?_; rintro e w5 ⟨rfl, hb5⟩; have c2 := HCV.out w5 (hb5.block g (by have := HBEL.out.size; simp; omega)))
    all_goals (
      have hg5 : w5.heap[w.heap.size]? = some (.cells #[.int .i64 0, .int .u8 0, .int .u8 0] 34 (0, 0)) := (hb5.block _ (by simpa using hWs)).trans HG2.out
      have hbel5 : Below w.heap.size w w5 := HBEL.out.trans ((Below.refl w.heap.size W).drew.trans (hb5.mono (by have := HBEL.out.size; simpa using this)))
      have p0 : w5.cell? ⟨w.heap.size, 0, none⟩ = some (.int .i64 0) := by rw [cell_of_row _ _ _ _ _ _ hg5]; rfl
      have p1 : w5.cell? ⟨w.heap.size, 1, none⟩ = some (.int .u8 0) := by rw [cell_of_row _ _ _ _ _ _ hg5]; rfl
      have p2 : w5.cell? ⟨w.heap.size, 2, none⟩ = some (.int .u8 0) := by rw [cell_of_row _ _ _ _ _ _ hg5]; rfl
      have f0 := frozen_of_row _ _ 0 _ _ hg5
      have f1 := frozen_of_row _ _ 1 _ _ hg5
      have f2 := frozen_of_row _ _ 2 _ _ hg5
      have HG5 := Lib.hid hg5
      have HB5 := Lib.hid hbel5
      clear hg5 hbel5 hb5 c1 c2 HCV HBEL HG2
      go_wp2_with fail
      have hR := set3 (a' := .int .i64 3) (b' := .int .u8 1) (c' := .int .u8 1) HG5.out
      have hBl := set3_below (a' := .int .i64 3) (b' := .int .u8 1) (c' := .int .u8 1) HB5.out (Nat.le_refl _)
      have r0 := cell_of_row _ _ 0 _ _ _ hR
      have r1 := cell_of_row _ _ 1 _ _ _ hR
      have r2 := cell_of_row _ _ 2 _ _ _ hR
      exact bodyPost_ret (v := .agg #[.int .i64 3, .int .u8 1, .int .u8 1]) (by simp [results, Try.results22, go_sem, r0, r1, r2]) rfl ⟨by rw [hs]; rfl, hBl⟩)
end Go.Proofs.Ytcbkmafekkhpiaa
