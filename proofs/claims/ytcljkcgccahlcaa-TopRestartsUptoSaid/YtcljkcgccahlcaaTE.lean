/- The order of places is one: plain. -/
import Derived.Test.YtcljkcgccahlcaaTD
namespace Go.Proofs.Ytcljkcgccahlcaa
open Go.RowKit Go.Sort
set_option linter.unusedVariables false

/-- A comparison that is a whole order up to equals. -/
structure Cmpr {α : Type} (c : α → α → Int) : Prop where
  anti : ∀ x y, c x y = -(c y x)
  trans : ∀ x y z, c x y ≤ 0 → c y z ≤ 0 → c x z ≤ 0
  strict : ∀ x y z, c x y < 0 → c y z ≤ 0 → c x z < 0

theorem Cmpr.strict' {α : Type} {c : α → α → Int} (h : Cmpr c) (x y z : α) (h1 : c x y ≤ 0) (h2 : c y z < 0) : c x z < 0 := by
  have a1 := h.anti x z
  have a2 := h.anti x y
  have a3 := h.anti y z
  rcases Int.lt_trichotomy (c x z) 0 with h3 | h3 | h3
  · exact h3
  · exfalso
    have := h.strict y z x h2 (by omega)
    omega
  · exfalso
    have := h.strict y z x h2 (by omega)
    omega

theorem Cmpr.swo {α : Type} {c : α → α → Int} (h : Cmpr c) : SWO (ltOf c) where
  irrefl x := by have := h.anti x x; simp [ltOf]; omega
  trans x y z h1 h2 := by simp [ltOf] at *; exact h.strict x y z h1 (by omega)
  ntrans x y z h1 h2 := by
    simp [ltOf] at *
    have a1 := h.anti x y
    have a2 := h.anti y z
    have a3 := h.anti x z
    have := h.trans z y x (by omega) (by omega)
    omega

theorem cmpr_int {α : Type} (f : α → Int) : Cmpr fun x y : α => Lib.compareInt (f x) (f y) := by
  refine ⟨fun x y => ?_, fun x y z h1 h2 => ?_, fun x y z h1 h2 => ?_⟩
  · simp only [Lib.compareInt]; split <;> split <;> (try split) <;> (try split) <;> omega
  · simp only [Lib.compareInt] at *; split at h1 <;> split at h2 <;> (try split at h1) <;> (try split at h2) <;> (try split) <;> (try split) <;> omega
  · simp only [Lib.compareInt] at *; split at h1 <;> split at h2 <;> (try split at h1) <;> (try split at h2) <;> (try split) <;> (try split) <;> omega

theorem bytes_anti : ∀ a b : List UInt8, Lib.compareBytes a b = -(Lib.compareBytes b a)
  | [], [] => rfl
  | [], _ :: _ => rfl
  | _ :: _, [] => rfl
  | a :: l, b :: m => by
    have ih := bytes_anti l m
    simp only [Lib.compareBytes]
    by_cases h1 : a < b
    · have h2 : ¬ b < a := fun h => absurd (UInt8.lt_trans h1 h) (UInt8.lt_irrefl a)
      simp [h1, h2]
    · by_cases h2 : b < a
      · simp [h1, h2]
      · simp [h1, h2, ih]
theorem bytes_tr : ∀ a b c : List UInt8, (Lib.compareBytes a b ≤ 0 → Lib.compareBytes b c ≤ 0 → Lib.compareBytes a c ≤ 0) ∧ (Lib.compareBytes a b < 0 → Lib.compareBytes b c ≤ 0 → Lib.compareBytes a c < 0)
  | [], [], [] => by simp [Lib.compareBytes]
  | [], [], _ :: _ => by simp [Lib.compareBytes]
  | [], _ :: _, [] => by simp [Lib.compareBytes]
  | [], _ :: _, _ :: _ => by simp [Lib.compareBytes]
  | _ :: _, [], _ => by simp [Lib.compareBytes]
  | _ :: _, _ :: _, [] => by simp [Lib.compareBytes]
  | a :: l, b :: m, c :: n => by
    have ih := bytes_tr l m n
    simp only [Lib.compareBytes]
    simp only [UInt8.lt_iff_toNat_lt]
    by_cases h1 : a.toNat < b.toNat <;> by_cases h2 : b.toNat < a.toNat <;> by_cases h3 : b.toNat < c.toNat <;> by_cases h4 : c.toNat < b.toNat <;> by_cases h5 : a.toNat < c.toNat <;> by_cases h6 : c.toNat < a.toNat <;> simp [h1, h2, h3, h4, h5, h6] <;> first | omega | exact ih | (exfalso; omega)
theorem cmpr_bytes {α : Type} (f : α → List UInt8) : Cmpr fun x y : α => Lib.compareBytes (f x) (f y) := ⟨fun x y => bytes_anti _ _, fun x y z => (bytes_tr _ _ _).1, fun x y z => (bytes_tr _ _ _).2⟩

theorem cmpr_or {α : Type} {c d : α → α → Int} (hc : Cmpr c) (hd : Cmpr d) : Cmpr fun x y => orB (c x y) (d x y) := by
  refine ⟨fun x y => ?_, fun x y z h1 h2 => ?_, fun x y z h1 h2 => ?_⟩
  · have a := hc.anti x y
    have b := hd.anti x y
    simp only [orB]
    split <;> split <;> omega
  · have a1 := hc.anti x y
    have a2 := hc.anti y z
    have a3 := hc.anti x z
    have t1 := hc.trans x y z
    have t2 := hc.strict x y z
    have t3 := hc.strict' x y z
    have t4 := hc.trans z y x
    have s1 := hd.trans x y z
    simp only [orB] at *
    split at h1 <;> split at h2 <;> split <;> first | omega | (have := hc.anti z y; have := hc.anti y x; have := hc.anti z x; omega)
  · have a1 := hc.anti x y
    have a2 := hc.anti y z
    have a3 := hc.anti x z
    have t1 := hc.trans x y z
    have t2 := hc.strict x y z
    have t3 := hc.strict' x y z
    have s1 := hd.strict x y z
    simp only [orB] at *
    split at h1 <;> split at h2 <;> split <;> first | omega | (have := hc.anti z y; have := hc.anti y x; have := hc.anti z x; omega)

theorem cfP_eq (p q : Pl) : cfP p q = orB (ord p q 0) (orB (ord p q 1) (orB (ord p q 2) (orB (ord p q 3) 0))) := rfl
theorem cmpr_zero {α : Type} : Cmpr fun _ _ : α => (0 : Int) := ⟨fun _ _ => rfl, fun _ _ _ _ _ => by omega, fun _ _ _ h _ => by omega⟩
theorem cmpr_O : Cmpr cfO :=
  cmpr_or (cmpr_or (cmpr_int fun p : Pl => p.fam) (cmpr_or (cmpr_int fun p : Pl => p.rd) (cmpr_or (cmpr_bytes fun p : Pl => p.addr.data.toList) (cmpr_or (cmpr_int fun p : Pl => p.len) cmpr_zero)))) (cmpr_int fun p : Pl => p.id)

/-- The sort, at a row of places. -/
theorem sort_some (blk cap : Nat) (d : Array Pl) (w : World) (hH : HoldsK (fun p : Pl => p.val.toList) 5 w blk 0 d) (hblk : blk < w.heap.size) (hsz : d.size < 4611686018427387904) :
    Calls Try.prog 60 #[.slice (some ⟨blk, 0, none⟩) d.size cap, .func (.func 61) #[] #[]] w fun e w' =>
      e = .returned (.tuple #[]) ∧ ∃ d' n os, PermIn 0 d.size d d' ∧ w' = sortWorldK (fun p : Pl => p.val.toList) 5 w blk 0 n d' os := by
  have eg : ∀ args w, (callFunc 61 args).run Try.prog w = .ok (.enter 61 args) w := enters_of Try.func61 (by kernel_rfl) rfl
  have hcon := AnyQ.slices_SortFunc sortL 5 Try.isAgg83 Try.sizeOf83 (fun p : Pl => p.val.toList) (fun _ => rfl) (fun x v hv => by simp [Pl.val] at hv; rcases hv with rfl | rfl | rfl | rfl | rfl <;> rfl) cfO cmpr_O.swo 61 #[] blk 0 cap d w eg (fun m os dk _ x y => order_any x y _) hH hblk hsz
  exact hcon.mono fun e w' ⟨h1, d', n, os, h2, _, h3⟩ => ⟨h1, d', n, os, h2, h3⟩
end Go.Proofs.Ytcljkcgccahlcaa
