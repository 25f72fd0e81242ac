/- gr: list, and what is told by closures; End, drop, Stale, Fire. -/
import Derived.Test.YtcljkcgccahlcaaA
namespace Go.Proofs.Ytcljkcgccahlcaa
open Go.RowKit
set_option linter.unusedVariables false

/-- The families of which something holds, rising; those below k. -/
def famsTo (p : Nat → Bool) (k : Nat) : List Nat := ((List.range k).drop 1).filter p
def famsOf (p : Nat → Bool) : List Nat := famsTo p 6
def ints (l : List Nat) : List Value := l.map fun (i : Nat) => Value.int .i64 (i : Int)

theorem famsTo_one (p : Nat → Bool) : famsTo p 1 = [] := rfl
theorem famsTo_yes {p : Nat → Bool} {k : Nat} (hk : 1 ≤ k) (h : p k = true) : famsTo p (k + 1) = famsTo p k ++ [k] := by
  unfold famsTo
  rw [List.range_succ, List.drop_append_of_le_length (by simp; omega), List.filter_append]
  simp [h]
theorem famsTo_no {p : Nat → Bool} {k : Nat} (hk : 1 ≤ k) (h : p k = false) : famsTo p (k + 1) = famsTo p k := by
  unfold famsTo
  rw [List.range_succ, List.drop_append_of_le_length (by simp; omega), List.filter_append]
  simp [h]
theorem famsTo_le (p : Nat → Bool) (k : Nat) : (famsTo p k).length ≤ k := by
  unfold famsTo
  exact Nat.le_trans (List.length_filter_le _ _) (by simp)
theorem mem_famsOf {p : Nat → Bool} {i : Nat} : i ∈ famsOf p ↔ (1 ≤ i ∧ i ≤ 5) ∧ p i = true := by
  unfold famsOf famsTo
  rw [List.mem_filter]
  have : (List.range 6).drop 1 = [1, 2, 3, 4, 5] := by decide
  rw [this]
  constructor
  · rintro ⟨h1, h2⟩
    simp at h1
    exact ⟨by omega, h2⟩
  · rintro ⟨h1, h2⟩
    exact ⟨by simp; omega, h2⟩
theorem ints_len (l : List Nat) : (ints l).length = l.length := by simp [ints]
theorem ints_snoc (l : List Nat) (k : Nat) : ints (l ++ [k]) = ints l ++ [Value.int .i64 (k : Int)] := by simp [ints]

theorem infoI : (Try.prog.info? 3).map (fun i => (i.zero, i.size, i.bytes)) = some (some (.int .i64 0), 1, 8) := by kernel_rfl

theorem own_ge {w : World} {base e size n : Nat} {v : Value} {xs : List Value} (h : w.ownsRow base e size v n xs) : ∀ b, v.ownBlock = some b → base ≤ b := by
  intro b hb
  rcases h.2 with ⟨rfl, _⟩ | ⟨g, cap, cur, rfl, hg, _⟩
  · cases hb
  · simp [Value.ownBlock] at hb; omega

/-- What a closure tells of a family, in whatever world has grown out of w. -/
def Tells (w : World) (F : FuncId) (args : Value → Array Value) (p : Nat → Bool) : Prop :=
  ∀ (i : Nat), 1 ≤ i → i ≤ 5 → ∀ w', Below w.heap.size w w' → Calls Try.prog F (args (.int .i64 (i : Int))) w' fun e w'' => e = .returned (.bool (p i)) ∧ w' = w''

/-- A new row of the call's own, of the families of which p holds. -/
def NewRow (w w' : World) (v : Value) (l : List Nat) : Prop := w'.ownsRow w.heap.size 3 1 v l.length (ints l) ∧ Below w.heap.size w w'

set_option maxRecDepth 100000 in
theorem list_Stale (c1 : Value) (p : Nat → Bool) (w : World) (h : Tells w 38 (fun i => #[i, c1]) p) :
    Calls Try.prog 32 #[.func (.func 38) #[] #[c1]] w fun e w' => ∃ v, e = .returned v ∧ NewRow w w' v (famsOf p) := by
  obtain ⟨i0, hi, hz0, hz1, hz2⟩ := info_parts infoI
  have H := Lib.hid h
  have HI := Lib.hid hi
  have HZ0 := Lib.hid hz0
  have HZ1 := Lib.hid hz1
  have HZ2 := Lib.hid hz2
  clear h hi hz0 hz1 hz2
  go_enter Try.func32, Try.ntmps32
  go_wp2_with fail
  go_loopw [3, 4] (fun v i wr => ∃ k : Nat, i = .int .i64 k ∧ 1 ≤ k ∧ k ≤ 6 ∧ Below w.heap.size w wr ∧ wr.ownsRow w.heap.size 3 1 v (famsTo p k).length (ints (famsTo p k))) (fun _ i _ => 6 - (intOf i).toNat)
  case atStart => exact ⟨1, rfl, Nat.le_refl _, by omega, Below.refl _ _, World.ownsRow_nil w _ _ _⟩
  case round =>
    obtain ⟨k, rfl, hk1, hk6, hbel, hown⟩ := hrel
    have hkl := famsTo_le p k
    have hbs := hbel.size
    by_cases hlt : k ≤ 5
    · cases hp : p k with
      | true =>
        have HE := Lib.hid (famsTo_yes hk1 hp)
        have HP := Lib.hid hp
        clear hp
        go_wp2_with fail
        refine (H.out k hk1 hlt _ hbel).mono ?_
        rw [HP.out]
        rintro e w' ⟨rfl, rfl⟩
        go_wp2_with (at_builtin; refine wpList_append_own _ rfl (.tmp 12) (.tmp 14) 23 rfl w.heap.size 3 i0 (.int .i64 0) 1 8 Try.underlying23 HI.out HZ0.out HZ1.out HZ2.out rfl (by decide) _ _ _ rfl (hown.alloc _) ⟨wr.heap.size, 0, none⟩ 1 1 [.int .i64 (k : Int)] rfl rfl ?c1 ?c2 ?c3 ?c4 ?c5 ?_)
        case c1 => exact fun j u hj => by rcases j with _ | j <;> simp at hj; subst hj; simp [Addr.add]
        case c2 => simp [Value.oneCell']
        case c3 => unfold maxLen; omega
        case c4 => omega
        case c5 => simp; omega
        intro v' w1 hown' hgrow _
        have hbel2 : Below w.heap.size w w1 := (hbel.alloc hbs (.cells #[.int .i64 (k : Int)] 3)).grown hgrow (by simp; omega) (own_ge hown)
        have hown2 : w1.ownsRow w.heap.size 3 1 v' (famsTo p (k + 1)).length (ints (famsTo p (k + 1))) := by rw [HE.out, ints_snoc, List.length_append]; exact hown'
        clear hown hbel hgrow hown'
        go_wp2_with fail
        go_roundw
        case rel => exact ⟨k + 1, by go_num, by omega, by omega, hbel2, hown2⟩
        case measure => simp [intOf]; omega
      | false =>
        have HE := Lib.hid (famsTo_no hk1 hp)
        have HP := Lib.hid hp
        clear hp
        go_wp2_with fail
        refine (H.out k hk1 hlt _ hbel).mono ?_
        rw [HP.out]
        rintro e w' ⟨rfl, rfl⟩
        have hown2 : wr.ownsRow w.heap.size 3 1 u3 (famsTo p (k + 1)).length (ints (famsTo p (k + 1))) := by rw [HE.out]; exact hown
        clear hown
        go_wp2_with fail
        go_roundw
        case rel => exact ⟨k + 1, by go_num, by omega, by omega, hbel, hown2⟩
        case measure => simp [intOf]; omega
    · obtain rfl : k = 6 := by omega
      have hr : NewRow w wr u3 (famsOf p) := ⟨hown, hbel⟩
      clear hown hlt hk1 hk6 hkl
      go_wp2_with fail
      go_ret
      exact ⟨_, rfl, hr⟩

set_option maxRecDepth 100000 in
theorem list_Keeps (c1 c2 c3 : Value) (p : Nat → Bool) (w : World) (h : Tells w 31 (fun i => #[i, c1, c2, c3]) p) :
    Calls Try.prog 32 #[.func (.func 31) #[] #[c1, c2, c3]] w fun e w' => ∃ v, e = .returned v ∧ NewRow w w' v (famsOf p) := by
  obtain ⟨i0, hi, hz0, hz1, hz2⟩ := info_parts infoI
  have H := Lib.hid h
  have HI := Lib.hid hi
  have HZ0 := Lib.hid hz0
  have HZ1 := Lib.hid hz1
  have HZ2 := Lib.hid hz2
  clear h hi hz0 hz1 hz2
  go_enter Try.func32, Try.ntmps32
  go_wp2_with fail
  go_loopw [3, 4] (fun v i wr => ∃ k : Nat, i = .int .i64 k ∧ 1 ≤ k ∧ k ≤ 6 ∧ Below w.heap.size w wr ∧ wr.ownsRow w.heap.size 3 1 v (famsTo p k).length (ints (famsTo p k))) (fun _ i _ => 6 - (intOf i).toNat)
  case atStart => exact ⟨1, rfl, Nat.le_refl _, by omega, Below.refl _ _, World.ownsRow_nil w _ _ _⟩
  case round =>
    obtain ⟨k, rfl, hk1, hk6, hbel, hown⟩ := hrel
    have hkl := famsTo_le p k
    have hbs := hbel.size
    by_cases hlt : k ≤ 5
    · cases hp : p k with
      | true =>
        have HE := Lib.hid (famsTo_yes hk1 hp)
        have HP := Lib.hid hp
        clear hp
        go_wp2_with fail
        refine (H.out k hk1 hlt _ hbel).mono ?_
        rw [HP.out]
        rintro e w' ⟨rfl, rfl⟩
        go_wp2_with (at_builtin; refine wpList_append_own _ rfl (.tmp 12) (.tmp 14) 23 rfl w.heap.size 3 i0 (.int .i64 0) 1 8 Try.underlying23 HI.out HZ0.out HZ1.out HZ2.out rfl (by decide) _ _ _ rfl (hown.alloc _) ⟨wr.heap.size, 0, none⟩ 1 1 [.int .i64 (k : Int)] rfl rfl ?c1 ?c2 ?c3 ?c4 ?c5 ?_)
        case c1 => exact fun j u hj => by rcases j with _ | j <;> simp at hj; subst hj; simp [Addr.add]
        case c2 => simp [Value.oneCell']
        case c3 => unfold maxLen; omega
        case c4 => omega
        case c5 => simp; omega
        intro v' w1 hown' hgrow _
        have hbel2 : Below w.heap.size w w1 := (hbel.alloc hbs (.cells #[.int .i64 (k : Int)] 3)).grown hgrow (by simp; omega) (own_ge hown)
        have hown2 : w1.ownsRow w.heap.size 3 1 v' (famsTo p (k + 1)).length (ints (famsTo p (k + 1))) := by rw [HE.out, ints_snoc, List.length_append]; exact hown'
        clear hown hbel hgrow hown'
        go_wp2_with fail
        go_roundw
        case rel => exact ⟨k + 1, by go_num, by omega, by omega, hbel2, hown2⟩
        case measure => simp [intOf]; omega
      | false =>
        have HE := Lib.hid (famsTo_no hk1 hp)
        have HP := Lib.hid hp
        clear hp
        go_wp2_with fail
        refine (H.out k hk1 hlt _ hbel).mono ?_
        rw [HP.out]
        rintro e w' ⟨rfl, rfl⟩
        have hown2 : wr.ownsRow w.heap.size 3 1 u3 (famsTo p (k + 1)).length (ints (famsTo p (k + 1))) := by rw [HE.out]; exact hown
        clear hown
        go_wp2_with fail
        go_roundw
        case rel => exact ⟨k + 1, by go_num, by omega, by omega, hbel, hown2⟩
        case measure => simp [intOf]; omega
    · obtain rfl : k = 6 := by omega
      have hr : NewRow w wr u3 (famsOf p) := ⟨hown, hbel⟩
      clear hown hlt hk1 hk6 hkl
      go_wp2_with fail
      go_ret
      exact ⟨_, rfl, hr⟩

set_option maxRecDepth 100000 in
theorem list_Gone (c1 c2 c3 : Value) (p : Nat → Bool) (w : World) (h : Tells w 33 (fun i => #[i, c1, c2, c3]) p) :
    Calls Try.prog 32 #[.func (.func 33) #[] #[c1, c2, c3]] w fun e w' => ∃ v, e = .returned v ∧ NewRow w w' v (famsOf p) := by
  obtain ⟨i0, hi, hz0, hz1, hz2⟩ := info_parts infoI
  have H := Lib.hid h
  have HI := Lib.hid hi
  have HZ0 := Lib.hid hz0
  have HZ1 := Lib.hid hz1
  have HZ2 := Lib.hid hz2
  clear h hi hz0 hz1 hz2
  go_enter Try.func32, Try.ntmps32
  go_wp2_with fail
  go_loopw [3, 4] (fun v i wr => ∃ k : Nat, i = .int .i64 k ∧ 1 ≤ k ∧ k ≤ 6 ∧ Below w.heap.size w wr ∧ wr.ownsRow w.heap.size 3 1 v (famsTo p k).length (ints (famsTo p k))) (fun _ i _ => 6 - (intOf i).toNat)
  case atStart => exact ⟨1, rfl, Nat.le_refl _, by omega, Below.refl _ _, World.ownsRow_nil w _ _ _⟩
  case round =>
    obtain ⟨k, rfl, hk1, hk6, hbel, hown⟩ := hrel
    have hkl := famsTo_le p k
    have hbs := hbel.size
    by_cases hlt : k ≤ 5
    · cases hp : p k with
      | true =>
        have HE := Lib.hid (famsTo_yes hk1 hp)
        have HP := Lib.hid hp
        clear hp
        go_wp2_with fail
        refine (H.out k hk1 hlt _ hbel).mono ?_
        rw [HP.out]
        rintro e w' ⟨rfl, rfl⟩
        go_wp2_with (at_builtin; refine wpList_append_own _ rfl (.tmp 12) (.tmp 14) 23 rfl w.heap.size 3 i0 (.int .i64 0) 1 8 Try.underlying23 HI.out HZ0.out HZ1.out HZ2.out rfl (by decide) _ _ _ rfl (hown.alloc _) ⟨wr.heap.size, 0, none⟩ 1 1 [.int .i64 (k : Int)] rfl rfl ?c1 ?c2 ?c3 ?c4 ?c5 ?_)
        case c1 => exact fun j u hj => by rcases j with _ | j <;> simp at hj; subst hj; simp [Addr.add]
        case c2 => simp [Value.oneCell']
        case c3 => unfold maxLen; omega
        case c4 => omega
        case c5 => simp; omega
        intro v' w1 hown' hgrow _
        have hbel2 : Below w.heap.size w w1 := (hbel.alloc hbs (.cells #[.int .i64 (k : Int)] 3)).grown hgrow (by simp; omega) (own_ge hown)
        have hown2 : w1.ownsRow w.heap.size 3 1 v' (famsTo p (k + 1)).length (ints (famsTo p (k + 1))) := by rw [HE.out, ints_snoc, List.length_append]; exact hown'
        clear hown hbel hgrow hown'
        go_wp2_with fail
        go_roundw
        case rel => exact ⟨k + 1, by go_num, by omega, by omega, hbel2, hown2⟩
        case measure => simp [intOf]; omega
      | false =>
        have HE := Lib.hid (famsTo_no hk1 hp)
        have HP := Lib.hid hp
        clear hp
        go_wp2_with fail
        refine (H.out k hk1 hlt _ hbel).mono ?_
        rw [HP.out]
        rintro e w' ⟨rfl, rfl⟩
        have hown2 : wr.ownsRow w.heap.size 3 1 u3 (famsTo p (k + 1)).length (ints (famsTo p (k + 1))) := by rw [HE.out]; exact hown
        clear hown
        go_wp2_with fail
        go_roundw
        case rel => exact ⟨k + 1, by go_num, by omega, by omega, hbel, hown2⟩
        case measure => simp [intOf]; omega
    · obtain rfl : k = 6 := by omega
      have hr : NewRow w wr u3 (famsOf p) := ⟨hown, hbel⟩
      clear hown hlt hk1 hk6 hkl
      go_wp2_with fail
      go_ret
      exact ⟨_, rfl, hr⟩

set_option maxRecDepth 100000 in
theorem list_Up (c1 c2 c3 c4 : Value) (p : Nat → Bool) (w : World) (h : Tells w 39 (fun i => #[i, c1, c2, c3, c4]) p) :
    Calls Try.prog 32 #[.func (.func 39) #[] #[c1, c2, c3, c4]] w fun e w' => ∃ v, e = .returned v ∧ NewRow w w' v (famsOf p) := by
  obtain ⟨i0, hi, hz0, hz1, hz2⟩ := info_parts infoI
  have H := Lib.hid h
  have HI := Lib.hid hi
  have HZ0 := Lib.hid hz0
  have HZ1 := Lib.hid hz1
  have HZ2 := Lib.hid hz2
  clear h hi hz0 hz1 hz2
  go_enter Try.func32, Try.ntmps32
  go_wp2_with fail
  go_loopw [3, 4] (fun v i wr => ∃ k : Nat, i = .int .i64 k ∧ 1 ≤ k ∧ k ≤ 6 ∧ Below w.heap.size w wr ∧ wr.ownsRow w.heap.size 3 1 v (famsTo p k).length (ints (famsTo p k))) (fun _ i _ => 6 - (intOf i).toNat)
  case atStart => exact ⟨1, rfl, Nat.le_refl _, by omega, Below.refl _ _, World.ownsRow_nil w _ _ _⟩
  case round =>
    obtain ⟨k, rfl, hk1, hk6, hbel, hown⟩ := hrel
    have hkl := famsTo_le p k
    have hbs := hbel.size
    by_cases hlt : k ≤ 5
    · cases hp : p k with
      | true =>
        have HE := Lib.hid (famsTo_yes hk1 hp)
        have HP := Lib.hid hp
        clear hp
        go_wp2_with fail
        refine (H.out k hk1 hlt _ hbel).mono ?_
        rw [HP.out]
        rintro e w' ⟨rfl, rfl⟩
        go_wp2_with (at_builtin; refine wpList_append_own _ rfl (.tmp 12) (.tmp 14) 23 rfl w.heap.size 3 i0 (.int .i64 0) 1 8 Try.underlying23 HI.out HZ0.out HZ1.out HZ2.out rfl (by decide) _ _ _ rfl (hown.alloc _) ⟨wr.heap.size, 0, none⟩ 1 1 [.int .i64 (k : Int)] rfl rfl ?c1 ?c2 ?c3 ?c4 ?c5 ?_)
        case c1 => exact fun j u hj => by rcases j with _ | j <;> simp at hj; subst hj; simp [Addr.add]
        case c2 => simp [Value.oneCell']
        case c3 => unfold maxLen; omega
        case c4 => omega
        case c5 => simp; omega
        intro v' w1 hown' hgrow _
        have hbel2 : Below w.heap.size w w1 := (hbel.alloc hbs (.cells #[.int .i64 (k : Int)] 3)).grown hgrow (by simp; omega) (own_ge hown)
        have hown2 : w1.ownsRow w.heap.size 3 1 v' (famsTo p (k + 1)).length (ints (famsTo p (k + 1))) := by rw [HE.out, ints_snoc, List.length_append]; exact hown'
        clear hown hbel hgrow hown'
        go_wp2_with fail
        go_roundw
        case rel => exact ⟨k + 1, by go_num, by omega, by omega, hbel2, hown2⟩
        case measure => simp [intOf]; omega
      | false =>
        have HE := Lib.hid (famsTo_no hk1 hp)
        have HP := Lib.hid hp
        clear hp
        go_wp2_with fail
        refine (H.out k hk1 hlt _ hbel).mono ?_
        rw [HP.out]
        rintro e w' ⟨rfl, rfl⟩
        have hown2 : wr.ownsRow w.heap.size 3 1 u3 (famsTo p (k + 1)).length (ints (famsTo p (k + 1))) := by rw [HE.out]; exact hown
        clear hown
        go_wp2_with fail
        go_roundw
        case rel => exact ⟨k + 1, by go_num, by omega, by omega, hbel, hown2⟩
        case measure => simp [intOf]; omega
    · obtain rfl : k = 6 := by omega
      have hr : NewRow w wr u3 (famsOf p) := ⟨hown, hbel⟩
      clear hown hlt hk1 hk6 hkl
      go_wp2_with fail
      go_ret
      exact ⟨_, rfl, hr⟩

end Go.Proofs.Ytcljkcgccahlcaa
