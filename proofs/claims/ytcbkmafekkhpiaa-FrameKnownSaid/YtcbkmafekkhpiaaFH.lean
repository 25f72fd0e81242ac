/- frame: Copy of a broken framer; nothing appended to nil. -/
import Derived.Test.YtcbkmafekkhpiaaFE
import Derived.Deep.RegionLaw
namespace Go.Proofs.Ytcbkmafekkhpiaa
open Go.RowKit
set_option linter.unusedVariables false

theorem run_append_nil0 (w : World) (ty : TypeId) (ao : Option Addr) (c : Nat) : (Builtin.append_ #[43, 43] ty #[.slice none 0 0, .slice ao 0 c]).run Try.prog w = .ok (.slice none 0 0) w := by
  obtain ⟨i, hi, hiz, his, hib⟩ := info_b
  cases ao with
  | none => simp [Builtin.append_, run_underlying Try.underlying43, sizeOf, typeInfo, hi, Builtin.lenOf, Builtin.firstCells]
  | some a =>
    simp only [Builtin.append_, sizeOf, typeInfo]
    simp [run_underlying Try.underlying43, Builtin.lenOf, Builtin.firstCells, loadCells]
    rfl

theorem step_append_nil0 {w : World} {ops : Array Oper} {o : Oper} {a : Act} {K : Act → World → Prop} {Q : Exit → Act → World → Prop} {E : Prop} (hgd : o.guard = none) (s x : Operand)
    (ho : o.op = .call { callee := .builtin .append, args := #[s, x], argTypes := #[43, 43] })
    (ao : Option Addr) (c : Nat) (hs : a.eval s = .slice none 0 0) (hx : a.eval x = .slice ao 0 c)
    (h : K (a.put o.dst (.slice none 0 0)) w) : if Region.wanted o (yielded ops a.tmps) = true then Oper.wp Try.prog o a w K Q else E := by
  have hw : Region.wanted o (yielded ops a.tmps) = true := by simp [Region.wanted, hgd]
  rw [if_pos hw]
  have hr := run_append_nil0 w o.type ao c
  unfold Oper.wp execOp
  simp only [ho, resolve, invoke, builtin, Sem.run_bind, Sem.run_pure, Result.andThen_ok, List.map_toArray, List.map_cons, List.map_nil, hs, hx, hr]
  exact h

set_option maxHeartbeats 1000000 in
theorem copy_bad (b : Nat) (vw : Value) (q : Nat) (w : World) (h : IsF w b vw [] q) : Calls Try.prog 17 #[.pointer (some ⟨b, 0, none⟩)] w fun e w' => ∃ g, e = .returned (.pointer (some ⟨g, 0, none⟩)) ∧ w.heap.size ≤ g ∧ IsF w' g (.slice none 0 0) [] q ∧ Below w.heap.size w w' := by
  obtain ⟨ao, c, hvw⟩ : ∃ ao c, vw = .slice ao 0 c := by
    rcases h.rd with ⟨rfl, _⟩ | ⟨g, cap, rfl, _⟩
    · exact ⟨_, _, rfl⟩
    · exact ⟨_, _, rfl⟩
  subst hvw
  have H := Lib.hid h
  have hblk := h.blk
  have c1 : w.cell? ⟨b, 1, none⟩ = some (.slice ao 0 c) := cell_of_row _ _ _ _ _ _ hblk
  have c2 := cell_of_row _ _ 2 _ _ _ hblk
  have c3 := cell_of_row _ _ 3 _ _ _ hblk
  have c4 := cell_of_row _ _ 4 _ _ _ hblk
  obtain ⟨k2, hk2⟩ : ∃ k : Int, (if q = 0 then 0 else 3) = k := ⟨_, rfl⟩
  obtain ⟨k3, hk3⟩ : ∃ k : Int, (if q = 0 then 0 else 1) = k := ⟨_, rfl⟩
  rw [hk2, hk3] at c2 c3 c4
  have HK2 := Lib.hid hk2
  have HK3 := Lib.hid hk3
  clear hk2 hk3 h hblk
  go_enter Try.func17, Try.ntmps17
  go_wp2_with fail
  refine (none_any b _ _ q _ H.out).mono ?_
  rintro e w' ⟨rfl, rfl⟩
  go_wp2_with fail
  go_region_law (refine step_append_nil0 rfl (.const (.slice none 0 0)) (.tmp 8) rfl ao c rfl (by simp [Act.eval]) ?_)
  all_goals
    go_wp2_with fail
    have hP : ∃ g, Ending.returned (.pointer (some ⟨w.heap.size, 0, none⟩)) = .returned (.pointer (some ⟨g, 0, none⟩)) ∧ w.heap.size ≤ g ∧ IsF (w.drew.alloc (.cells #[.bool true, .slice none 0 0, .int .i64 k2, .int .u8 k3, .int .u8 (q : Int)] 50)) g (.slice none 0 0) [] q ∧ Below w.heap.size w (w.drew.alloc (.cells #[.bool true, .slice none 0 0, .int .i64 k2, .int .u8 k3, .int .u8 (q : Int)] 50)) := by
      refine ⟨_, rfl, Nat.le_refl _, ⟨?_, .inl ⟨rfl, rfl⟩, (fun g hg => by cases hg), fun _ => rfl⟩, (Below.refl w.heap.size w).drew.alloc (Nat.le_refl _) _⟩
      rw [HK2.out, HK3.out]
      exact heap_alloc_new w.drew _
    exact bodyPost_ret (v := .pointer (some ⟨w.heap.size, 0, none⟩)) (by simp [results, Try.results17, go_sem]) rfl hP
end Go.Proofs.Ytcbkmafekkhpiaa
