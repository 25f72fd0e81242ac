/- heraldref32: a row that is pushed on; of, stands. heraldlaw32.spoil. -/
import Derived.Test.YtbkgipafikeccaaOL
import Derived.Deep.DeepAppendRoom
import Derived.Laws.Append
namespace Go.Proofs.Ytbkgipafikeccaa
open Go.RowKit
set_option linter.unusedVariables false

theorem run_push (w : World) (base : Nat) (ty : TypeId) (v : Value) (n : Nat) (xs : List Value) (hown : w.ownsRow base 3 1 v n xs) (g : Nat) (k : Int) (hc : w.cell? ⟨g, 0, none⟩ = some (.int .i64 k)) (h63 : n + 1 ≤ 1000000) (hbase : base ≤ w.heap.size) :
    ∃ v' w', (Builtin.append_ #[27, 27] ty #[v, .slice (some ⟨g, 0, none⟩) 1 1]).run Try.prog w = .ok v' w' ∧ w'.ownsRow base 3 1 v' (n + 1) (xs ++ [.int .i64 k]) ∧ w.grownBy w' v.ownBlock ∧
      (∀ b, v'.ownBlock = some b → v.ownBlock = some b ∨ w.heap.size ≤ b) := by
  obtain ⟨i0, hi, hz0, hz1, hz2⟩ := info_parts infoI
  have hnews : ∀ (j : Nat) (u : Value), ([.int .i64 k] : List Value)[j]? = some u → w.cell? ((⟨g, 0, none⟩ : Addr).add j) = some u := by
    intro j u hj
    rcases j with _ | j <;> simp at hj
    subst hj
    simpa [Addr.add] using hc
  have h1 : ∀ u ∈ ([.int .i64 k] : List Value), u.oneCell' = true := by simp [Value.oneCell']
  have hm1 : n + 1 ≤ maxLen := by unfold maxLen; omega
  obtain ⟨v', w', hr, h2, h3, h4⟩ := run_append_own (P := Try.prog) w base 27 ty 3 i0 (.int .i64 0) 1 8 Try.underlying27 hi hz0 hz1 hz2 rfl (by decide) v n xs hown ⟨g, 0, none⟩ 1 1 [.int .i64 k] rfl hnews h1 hm1 (by omega) hbase
  refine ⟨v', w', hr, h2, h3, ?_⟩
  rcases hown.2 with ⟨rfl, rfl⟩ | ⟨b0, cap, cur, rfl, hbg, hg, hnc, hcm, hcs, htake⟩
  · have hx : xs = [] := List.eq_nil_of_length_eq_zero (by simpa using hown.1)
    subst hx
    obtain ⟨v2, w2, hr2, h22, h23, h24⟩ := run_append_own (P := Try.prog) w w.heap.size 27 ty 3 i0 (.int .i64 0) 1 8 Try.underlying27 hi hz0 hz1 hz2 rfl (by decide) (.slice none 0 0) 0 [] (World.ownsRow_nil w _ _ _) ⟨g, 0, none⟩ 1 1 [.int .i64 k] rfl hnews h1 hm1 (by omega) (Nat.le_refl _)
    rw [hr] at hr2
    injection hr2 with e1 e2
    subst e1
    exact fun b hb => .inr (own_ge h22 b hb)
  · by_cases hroom : n + 1 ≤ cap
    · obtain ⟨w2, hr2, _, _⟩ := run_append_own_spare (P := Try.prog) w base 27 ty 3 i0 1 Try.underlying27 hi hz1 b0 n cap xs hown ⟨g, 0, none⟩ 1 1 [.int .i64 k] rfl hnews h1 hroom
      rw [hr] at hr2
      injection hr2 with e1 e2
      subst e1
      exact fun b hb => .inl hb
    · have holds : ∀ j u, xs[j]? = some u → w.cell? ((⟨b0, 0, none⟩ : Addr).add j) = some u := hown.cells (g := b0) rfl
      have hr2 := run_append_grow (P := Try.prog) w 27 ty 3 i0 (.int .i64 0) Try.underlying27 hi hz0 ⟨b0, 0, none⟩ n cap xs (by rw [hz1]; exact hown.1) holds ⟨g, 0, none⟩ 1 1 [.int .i64 k] (by rw [hz1]; rfl) hnews (by omega) (by omega) (growslice_fits (by omega) (by rw [hz2]; omega))
      rw [hr] at hr2
      injection hr2 with e1 e2
      subst e1
      intro b hb
      simp [Value.ownBlock] at hb
      omega

theorem wpList_push {w : World} {ops : Array Oper} {rest : List Oper} {o : Oper} {a : Act} {Q : Exit → Act → World → Prop} (hgd : o.guard = none) (s x : Operand)
    (ho : o.op = .call { callee := .builtin .append, args := #[s, x], argTypes := #[27, 27] })
    (base : Nat) (v : Value) (n : Nat) (xs : List Value) (hs : a.eval s = v) (hown : w.ownsRow base 3 1 v n xs) (g : Nat) (k : Int) (hx : a.eval x = .slice (some ⟨g, 0, none⟩) 1 1) (hc : w.cell? ⟨g, 0, none⟩ = some (.int .i64 k)) (h63 : n + 1 ≤ 1000000) (hbase : base ≤ w.heap.size)
    (h : ∀ v' w', w'.ownsRow base 3 1 v' (n + 1) (xs ++ [.int .i64 k]) → w.grownBy w' v.ownBlock → (∀ b, v'.ownBlock = some b → v.ownBlock = some b ∨ w.heap.size ≤ b) → wpList Try.prog ops Q rest (a.put o.dst v') w') : wpList Try.prog ops Q (o :: rest) a w := by
  refine wpList_plain hgd fun K hK => ?_
  obtain ⟨v', w', hr, h2, h3, h4⟩ := run_push w base o.type v n xs hown g k hc h63 hbase
  unfold Oper.wp execOp
  simp only [ho, resolve, invoke, builtin, Sem.run_bind, Sem.run_pure, Result.andThen_ok, List.map_toArray, List.map_cons, List.map_nil, hs, hx, hr]
  exact hK _ _ (h v' w' h2 h3 h4)

/-! ### of, stands -/
def standsB (K : List (Int × Bool)) (n : Int) (only : Bool) : Bool := K.any fun x => x.1 == n && (x.2 || !only)
theorem standsB_of (K : List (Int × Bool)) (only : Bool) (j : Nat) (h1 : 1 ≤ j) (h5 : j ≤ 5) : standsB K (j : Int) only = standsP K only j := by
  simp [standsB, standsP, h1, h5]
theorem standsB_yes {K : List (Int × Bool)} {n : Int} {only : Bool} {k : Nat} (hk : k < K.length) (h : ((K.getD k (0, false)).1 == n && ((K.getD k (0, false)).2 || !only)) = true) : standsB K n only = true := by
  unfold standsB
  rw [List.any_eq_true]
  simp only [List.getD_eq_getElem?_getD, List.getElem?_eq_getElem hk, Option.getD_some] at h
  exact ⟨K[k], List.getElem_mem hk, h⟩
theorem standsB_no {K : List (Int × Bool)} {n : Int} {only : Bool} (h : ∀ i, i < K.length → ((K.getD i (0, false)).1 == n && ((K.getD i (0, false)).2 || !only)) = false) : standsB K n only = false := by
  unfold standsB
  rw [List.any_eq_false]
  intro x hx
  obtain ⟨i, hi, e⟩ := List.getElem_of_mem hx
  have := h i hi
  simp only [List.getD_eq_getElem?_getD, List.getElem?_eq_getElem hi, Option.getD_some, e] at this
  rw [this]; decide

set_option maxHeartbeats 400000 in
theorem refOf_any (c : Array Value) (F : List Int) (K : List (Int × Bool)) (gr : Bool) (time : Int) (n : Int) (w : World) (h : Ses w c F K gr time) :
    Calls Try.prog 34 #[.agg c, .int .i64 n] w fun r w' => r = .returned (.bool (hasB F n)) ∧ Below w.heap.size w w' := by
  obtain ⟨fs, hf1, hf2⟩ := h.fams
  have HF := Lib.hid hf2
  clear hf2 h
  go_enter Try.func34, Try.ntmps34
  go_wp2_with fail
  refine (refHas_any fs F n _ (HF.out.below ((Below.refl _ _).alloc (Nat.le_refl _) _))).mono ?_
  rintro e w' ⟨rfl, rfl⟩
  go_simp
  go_wp2_with fail
  go_ret
  exact ⟨rfl, (Below.refl _ _).alloc (Nat.le_refl _) _⟩

set_option maxHeartbeats 1000000 in
set_option maxRecDepth 100000 in
theorem refStands_any (c : Array Value) (F : List Int) (K : List (Int × Bool)) (gr : Bool) (time : Int) (n : Int) (only : Bool) (w : World) (h : Ses w c F K gr time) :
    Calls Try.prog 35 #[.agg c, .int .i64 n, .bool only] w fun r w' => r = .returned (.bool (standsB K n only)) ∧ Below w.heap.size w w' := by
  obtain ⟨ks, hk1, hk2⟩ := h.kept
  obtain ⟨ao, cap, g, off, rfl, hcap, hao, hcell⟩ := hk2.open_
  have hlm : K.length ≤ 9223372036854775807 := by have := hk2.max; unfold maxLen at this; omega
  have HC := Lib.hid hcell
  have HA := Lib.hid hao
  clear hcell hao hk2 hcap h
  go_enter Try.func35, Try.ntmps35
  go_wp2_with fail
  have hal : Below w.heap.size w (w.alloc (.cells c 30)) := (Below.refl _ _).alloc (Nat.le_refl _) _
  have HAL := Lib.hid hal
  have hk9 : (w.alloc (.cells c 30)).cell? ⟨w.heap.size, 9, none⟩ = some (.slice ao K.length cap) := by rw [cell_of_row _ _ _ _ _ _ (heap_alloc_new _ _)]; exact hk1
  clear hal hk1
  generalize w.alloc (.cells c 30) = W1 at *
  go_loop [7] (fun i => ∃ k : Nat, i = .int .i64 k ∧ k ≤ K.length ∧ Hid (∀ i, i < k → ((K.getD i (0, false)).1 == n && ((K.getD i (0, false)).2 || !only)) = false)) (fun i => K.length - (intOf i).toNat)
  case atStart => exact ⟨0, rfl, Nat.zero_le _, fun i hi => by omega⟩
  case round =>
    obtain ⟨k, rfl, hk, HN⟩ := hrel
    by_cases hlt : k < K.length
    · obtain ⟨rfl, hg⟩ := HA.out (by omega)
      obtain ⟨c1, c2⟩ := HC.out k hlt
      replace c1 := (HAL.out.cell (p := ⟨g, off + k * 2, none⟩) hg).trans c1
      replace c2 := (HAL.out.cell (p := ⟨g, off + k * 2 + 1, none⟩) hg).trans c2
      obtain ⟨m, hm⟩ : ∃ m, (K.getD k (0, false)).1 = m := ⟨_, rfl⟩
      obtain ⟨b, hb⟩ : ∃ b, (K.getD k (0, false)).2 = b := ⟨_, rfl⟩
      rw [hm] at c1
      rw [hb] at c2
      have HNk : Hid (((m == n) && (b || !only)) = false → ∀ i, i < k + 1 → ((K.getD i (0, false)).1 == n && ((K.getD i (0, false)).2 || !only)) = false) := by
        intro h i hi
        rcases Nat.lt_or_ge i k with h1 | h1
        · exact HN.out i h1
        · obtain rfl : i = k := by omega
          rw [hm, hb]; exact h
      have HYk : Hid (((m == n) && (b || !only)) = true → standsB K n only = true) := fun h => standsB_yes hlt (by rw [hm, hb]; exact h)
      clear hm hb
      have i3 : (0 : Int) ≤ (k : Int) := by omega
      have i4 : (k : Int) < (K.length : Int) := by omega
      by_cases hmn : m = n
      · have he : (m == n) = true := by simp [hmn]
        have HE : Hid ((m == n) = true) := he
        clear hmn
        cases b <;> cases only
        · have HR : Hid (standsB K n false = true) := HYk.out (by rw [HE.out]; rfl)
          go_wp2
          go_ret
          exact ⟨by rw [HR.out]; rfl, HAL.out⟩
        · have HN2 := Lib.hid (HNk.out (by rw [HE.out]; rfl))
          go_wp2
          go_round
          case rel => exact ⟨k + 1, by go_num, by omega, HN2⟩
          case measure => simp [intOf]; omega
        · have HR : Hid (standsB K n false = true) := HYk.out (by rw [HE.out]; rfl)
          go_wp2
          go_ret
          exact ⟨by rw [HR.out]; rfl, HAL.out⟩
        · have HR : Hid (standsB K n true = true) := HYk.out (by rw [HE.out]; rfl)
          go_wp2
          go_ret
          exact ⟨by rw [HR.out]; rfl, HAL.out⟩
      · have he : (m == n) = false := by simp [hmn]
        have HN2 := Lib.hid (HNk.out (by rw [he]; rfl))
        clear hmn
        go_wp2
        go_round
        case rel => exact ⟨k + 1, by go_num, by omega, HN2⟩
        case measure => simp [intOf]; omega
    · obtain rfl : k = K.length := by omega
      have HR : Hid (standsB K n only = false) := standsB_no HN.out
      clear hlt hk
      go_wp2
      go_ret
      exact ⟨by rw [HR.out]; rfl, HAL.out⟩

/-! ### spoil -/
set_option maxHeartbeats 400000 in
theorem spoil_any (ao : Option Addr) (len cap g : Nat) (cur : Array Value) (w : World) (hm : len ≤ 9223372036854775807) (hao : 0 < len → ao = some ⟨g, 0, none⟩ ∧ len ≤ cur.size ∧ w.heap[g]? = some (.cells cur 3 (0, 0))) (hint : 0 < len → ∀ i, i < len → ∃ k, cur[i]? = some (.int .i64 k)) :
    Calls Try.prog 17 #[.slice ao len cap] w fun r w' => r = .returned (.tuple #[]) ∧ But g w w' := by
  have HA := Lib.hid hao
  have HI := Lib.hid hint
  clear hao hint
  go_enter Try.func17, Try.ntmps17
  go_wp2_with fail
  go_loopw [2] (fun i wr => ∃ k : Nat, i = .int .i64 k ∧ k ≤ len ∧ But g w wr ∧ (0 < len → ∃ cu, wr.heap[g]? = some (.cells cu 3 (0, 0)) ∧ len ≤ cu.size ∧ ∀ i, i < len → ∃ k, cu[i]? = some (.int .i64 k))) (fun i _ => len - (intOf i).toNat)
  case atStart => exact ⟨0, rfl, Nat.zero_le _, But.refl _ _, fun h => ⟨cur, (HA.out h).2.2, (HA.out h).2.1, HI.out h⟩⟩
  case round =>
    obtain ⟨k, rfl, hk, hbt, hcu⟩ := hrel
    have HB := Lib.hid hbt
    have HCU := Lib.hid hcu
    clear hbt hcu
    by_cases hlt : k < len
    · obtain ⟨rfl, _, _⟩ := HA.out (by omega)
      obtain ⟨cu, hcg, hcs, hci⟩ := HCU.out (by omega)
      obtain ⟨m, hm⟩ := hci k hlt
      have hc : wr.cell? ⟨g, k, none⟩ = some (.int .i64 m) := by rw [cell_of_row _ _ _ _ _ _ hcg]; exact hm
      have hfz : wr.frozen? ⟨g, k, none⟩ = false := frozen_of_row _ _ _ _ _ hcg
      have HB2 := Lib.hid (HB.out.setCell k (.int .i64 77))
      have HC2 : Hid (0 < len → ∃ cu, (wr.setCell ⟨g, k, none⟩ (.int .i64 77)).heap[g]? = some (.cells cu 3 (0, 0)) ∧ len ≤ cu.size ∧ ∀ i, i < len → ∃ k, cu[i]? = some (.int .i64 k)) := by
        intro _
        refine ⟨cu.setIfInBounds k (.int .i64 77), set_heap hcg, by simpa using hcs, fun i hi => ?_⟩
        rw [Array.getElem?_setIfInBounds]
        split
        · exact ⟨77, by simp; omega⟩
        · exact hci i hi
      have i3 : (0 : Int) ≤ (k : Int) := by omega
      have i4 : (k : Int) < (len : Int) := by omega
      clear hcg hcs hci hm
      go_wp2
      go_roundw
      case rel => exact ⟨k + 1, by go_num, by omega, HB2.out, HC2.out⟩
      case measure => simp [intOf]; omega
    · obtain rfl : k = len := by omega
      clear hlt hk
      go_wp2
      go_end0
      exact ⟨rfl, HB.out⟩

/-- Of a row of ints of the call's own. -/
theorem spoil_own (v : Value) (base n : Nat) (l : List Nat) (w : World) (h : w.ownsRow base 3 1 v n (ints l)) (hn : n ≤ 1000) :
    Calls Try.prog 17 #[v] w fun r w' => r = .returned (.tuple #[]) ∧ ∀ B, B ≤ base → B ≤ w.heap.size → Below B w w' := by
  rcases h.2 with ⟨rfl, rfl⟩ | ⟨g, cap, cur, rfl, hbg, hg, hnc, hcm, hcs, htake⟩
  · refine (spoil_any none 0 0 w.heap.size #[] w (by omega) (fun h => by omega) (fun h => by omega)).mono ?_
    rintro r w' ⟨rfl, hb⟩
    exact ⟨rfl, fun B _ hB => hb.below hB hB⟩
  · refine (spoil_any (some ⟨g, 0, none⟩) n cap g cur w (by omega) (fun _ => ⟨rfl, by omega, hg⟩) (fun _ i hi => ?_)).mono ?_
    · have e : (cur.toList.take (n * 1))[i]? = (ints l)[i]? := by rw [htake]
      have hl : (ints l).length = n := by simpa using h.1
      rw [List.getElem?_take_of_lt (by omega)] at e
      simp only [Array.getElem?_toList] at e
      rw [e]
      unfold ints
      rw [List.getElem?_map]
      have hll : i < l.length := by rw [ints_len] at hl; omega
      exact ⟨_, by rw [List.getElem?_eq_getElem hll]; rfl⟩
    · rintro r w' ⟨rfl, hb⟩
      exact ⟨rfl, fun B h1 h2 => hb.below (by omega) h2⟩
end Go.Proofs.Ytbkgipafikeccaa
