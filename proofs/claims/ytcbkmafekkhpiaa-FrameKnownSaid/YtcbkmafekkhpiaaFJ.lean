/- frame: a keepalive with one byte bent: plain laws. -/
import Derived.Test.YtcbkmafekkhpiaaFW
namespace Go.Proofs.Ytcbkmafekkhpiaa
open Go.RowKit
set_option linter.unusedVariables false

theorem xor8 (a b : Nat) (ha : a < 256) (hb : b < 256) : bits .xor .u8 (a : Int) (b : Int) = ((a ^^^ b : Nat) : Int) := by
  have h := Nat.xor_lt_two_pow (n := 8) ha hb
  show IntKind.u8.wrap ((BitVec.ofInt 8 (a : Int) ^^^ BitVec.ofInt 8 (b : Int)).toNat : Int) = _
  rw [BitVec.ofInt_natCast, BitVec.ofInt_natCast, BitVec.toNat_xor, BitVec.toNat_ofNat, BitVec.toNat_ofNat, Nat.mod_eq_of_lt (by omega), Nat.mod_eq_of_lt (by omega)]
  have : (a ^^^ b) < 256 := h
  generalize a ^^^ b = n at *
  simp [IntKind.wrap, IntKind.bits, IntKind.signed]
  omega
theorem xor_ne (a b : Nat) (hb : b ≠ 0) : a ^^^ b ≠ a := by
  intro h
  have h2 : a ^^^ (a ^^^ b) = a ^^^ a := by rw [h]
  rw [← Nat.xor_assoc, Nat.xor_self, Nat.zero_xor] at h2
  exact hb h2
def bent (p n : Nat) : List UInt8 := (toL keepS).set p (UInt8.ofNat n)
theorem bent_len (p n : Nat) : (bent p n).length = 19 := by unfold bent; rw [List.length_set]; rfl
theorem bent_at (p n : Nat) (hp : p < 19) (hn : n < 256) : bt (bent p n) p = n := by
  unfold bt bent
  rw [List.getD_eq_getElem?_getD, List.getElem?_set_self (by show p < 19; exact hp)]
  simp
  omega
theorem bent_ne (p n i : Nat) (h : p ≠ i) : bt (bent p n) i = bt (toL keepS) i := by
  unfold bt bent
  rw [List.getD_eq_getElem?_getD, List.getElem?_set_ne h, List.getD_eq_getElem?_getD]
theorem bent_same (p : Nat) : bent p (bt (toL keepS) p) = toL keepS := by
  unfold bent bt
  rw [UInt8.ofNat_toNat]
  apply List.ext_getElem?
  intro i
  rw [List.getElem?_set]
  split
  · subst_vars
    split
    · rw [List.getD_eq_getElem?_getD, List.getElem?_eq_getElem (by assumption)]; rfl
    · rw [List.getElem?_eq_none (by omega)]
  · rfl
theorem keep_bt (i : Nat) (h : i < 16) : bt (toL keepS) i = 255 := by
  have : ∀ i : Fin 16, bt (toL keepS) i.1 = 255 := by decide
  exact this ⟨i, h⟩
theorem sub0 {l : List UInt8} (h : subL l = 0) : marks l = true ∧ fitsI (bt l 18) (longL l) = true := by
  unfold subL at h
  split at h
  · cases h
  · rename_i h1
    split at h
    · cases h
    · split at h
      · cases h
      · split at h
        · cases h
        · rename_i h2
          exact ⟨by simpa using h1, by simpa using h2⟩
theorem bent_bad (p n : Nat) (hp : p < 19) (hn : n < 256) (h : n ≠ bt (toL keepS) p) : subL (bent p n) ≠ 0 ∧ (p < 16 → subL (bent p n) = 1) := by
  have hm : p < 16 → marks (bent p n) = false := fun h16 => marks_not h16 (by rw [bent_len]; omega) (by rw [bent_at p n hp hn, ← keep_bt p h16]; exact h)
  constructor
  · intro h0
    obtain ⟨h1, h2⟩ := sub0 h0
    by_cases h16 : p < 16
    · rw [hm h16] at h1; cases h1
    · unfold longL at h2
      rcases (by omega : p = 16 ∨ p = 17 ∨ p = 18) with rfl | rfl | rfl
      · rw [bent_at 16 n hp hn, bent_ne 16 n 17 (by omega), bent_ne 16 n 18 (by omega)] at h2
        have e17 : bt (toL keepS) 17 = 19 := rfl
        have e18 : bt (toL keepS) 18 = 4 := rfl
        have e16 : bt (toL keepS) 16 = 0 := rfl
        rw [e17, e18] at h2
        rw [e16] at h
        simp [fitsI] at h2
        omega
      · rw [bent_at 17 n hp hn, bent_ne 17 n 16 (by omega), bent_ne 17 n 18 (by omega)] at h2
        have e16 : bt (toL keepS) 16 = 0 := rfl
        have e18 : bt (toL keepS) 18 = 4 := rfl
        have e17 : bt (toL keepS) 17 = 19 := rfl
        rw [e16, e18] at h2
        rw [e17] at h
        simp [fitsI] at h2
        omega
      · rw [bent_at 18 n hp hn, bent_ne 18 n 16 (by omega), bent_ne 18 n 17 (by omega)] at h2
        have e16 : bt (toL keepS) 16 = 0 := rfl
        have e17 : bt (toL keepS) 17 = 19 := rfl
        have e18 : bt (toL keepS) 18 = 4 := rfl
        rw [e16, e17] at h2
        rw [e18] at h
        simp [fitsI] at h2
        repeat' split at h2
        all_goals omega
  · intro h16
    unfold subL
    rw [if_pos (hm h16)]
theorem bent_cut0 (fs : List Fr) (p x : Nat) (hf : ∀ f ∈ fs, okF f) (hx : x = 0) : cut ((fs.map mk).flatten ++ bent p (bt (toL keepS) p ^^^ x)) = (fs ++ [(4, [])], 0, []) := by
  subst hx
  rw [Nat.xor_zero, bent_same, cut_mks fs _ hf, keep_mk]
  have := cut_mk (4, []) [] ok_keep
  rw [List.append_nil] at this
  rw [this, cut_nil]
theorem bent_cutN (fs : List Fr) (p x : Nat) (hf : ∀ f ∈ fs, okF f) (hp : p < 19) (hx : x < 256) (h0 : x ≠ 0) : ∃ q, q ≠ 0 ∧ q ≤ 3 ∧ (p < 16 → q = 1) ∧ cut ((fs.map mk).flatten ++ bent p (bt (toL keepS) p ^^^ x)) = (fs, q, []) := by
  have hlt : (bt (toL keepS) p ^^^ x) < 256 := Nat.xor_lt_two_pow (n := 8) (bt_lt _ _) hx
  obtain ⟨h1, h2⟩ := bent_bad p _ hp hlt (xor_ne (bt (toL keepS) p) x h0)
  refine ⟨_, h1, ?_, h2, ?_⟩
  · have := (cut_left _ (bent p (bt (toL keepS) p ^^^ x)) (Nat.le_refl _)).2.2.2
    rw [cut_bad (by rw [bent_len]; omega) h1] at this
    exact this
  · rw [cut_mks fs _ hf, cut_bad (by rw [bent_len]; omega) h1, List.append_nil]
end Go.Proofs.Ytcbkmafekkhpiaa
