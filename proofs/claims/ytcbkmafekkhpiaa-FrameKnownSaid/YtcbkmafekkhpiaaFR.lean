/- frame: rows of frames. -/
import Derived.Test.YtcbkmafekkhpiaaFB
import Derived.Deep.DeepAppendRoom
import Derived.Laws.Append
namespace Go.Proofs.Ytcbkmafekkhpiaa
open Go.RowKit
set_option linter.unusedVariables false

theorem w8 (b : Nat) (h : b < 256) : wrap64 (b : Int) = (b : Int) := w64 _ (by omega) (by omega)
theorem w8b (b : Nat) (h : b < 256) : IntKind.i64.wrap (b : Int) = (b : Int) := (IntWalk.i64_left _).trans (w8 b h)
def fcell (f : Fr) : List Value := [.int .i64 (f.1 : Nat), .string (mkS f.2)]
def fcells (L : List Fr) : List Value := (L.map fcell).flatten
theorem fcells_snoc (L : List Fr) (f : Fr) : fcells (L ++ [f]) = fcells L ++ fcell f := by simp [fcells]
theorem fcells_append (L M : List Fr) : fcells (L ++ M) = fcells L ++ fcells M := by simp [fcells]
theorem fcells_len (L : List Fr) : (fcells L).length = L.length * 2 := by
  induction L with
  | nil => rfl
  | cons f L ih => simp only [fcells, List.map_cons, List.flatten_cons, List.length_append] at *; rw [ih]; simp [fcell]; omega
theorem fcells_one (L : List Fr) : ∀ u ∈ fcells L, u.oneCell' = true := by
  intro u hu
  unfold fcells at hu
  rw [List.mem_flatten] at hu
  obtain ⟨l, hl, hu⟩ := hu
  rw [List.mem_map] at hl
  obtain ⟨f, _, rfl⟩ := hl
  simp [fcell] at hu
  rcases hu with rfl | rfl <;> rfl

/-- A row of frames of the call's own. -/
def FRow (w : World) (base : Nat) (v : Value) (L : List Fr) : Prop := w.ownsRow base 23 2 v L.length (fcells L)
theorem FRow.nil (w : World) (base : Nat) : FRow w base (.slice none 0 0) [] := World.ownsRow_nil w _ _ _
theorem FRow.keep {w w' : World} {base : Nat} {v : Value} {L : List Fr} (h : FRow w base v L) (hk : ∀ g, v.ownBlock = some g → w'.heap[g]? = w.heap[g]?) : FRow w' base v L := own_keep h hk
theorem FRow.below {w w' : World} {base : Nat} {v : Value} {L : List Fr} (h : FRow w base v L) (hb : Below w.heap.size w w') : FRow w' base v L := own_keep h fun g hg => hb.block g (own_lt h g hg)

theorem infoF : (Try.prog.info? 23).map (fun i => (i.zero.map (·.cells.size), i.size, i.bytes)) = some (some 2, 2, 24) := by kernel_rfl

theorem run_pushN (w : World) (base : Nat) (ty : TypeId) (v : Value) (L M : List Fr) (hown : FRow w base v L) (ad : Addr) (c : Nat) (hc : ∀ j u, (fcells M)[j]? = some u → w.cell? (ad.add j) = some u) (h63 : L.length + M.length ≤ 1000000) (hbase : base ≤ w.heap.size) :
    ∃ v' w', (Builtin.append_ #[32, 32] ty #[v, .slice (some ad) M.length c]).run Try.prog w = .ok v' w' ∧ FRow w' base v' (L ++ M) ∧ w.grownBy w' v.ownBlock := by
  have hi := infoF
  cases hq : Try.prog.info? 23 with
  | none => rw [hq] at hi; cases hi
  | some i =>
    rw [hq] at hi
    simp only [Option.map_some, Option.some.injEq, Prod.mk.injEq] at hi
    obtain ⟨h1, h2, h3⟩ := hi
    cases hz : i.zero with
    | none => rw [hz] at h1; cases h1
    | some z =>
      rw [hz] at h1
      simp only [Option.map_some, Option.some.injEq] at h1
      have hm1 : L.length + M.length ≤ maxLen := by unfold maxLen; omega
      obtain ⟨v', w', hr, hh2, hh3, hh4⟩ := run_append_own (P := Try.prog) w base 32 ty 23 i z 2 24 Try.underlying32 hq hz h2 h3 h1 (by decide) v L.length (fcells L) hown ad M.length c (fcells M) (fcells_len M) hc (fcells_one M) hm1 (by omega) hbase
      refine ⟨v', w', hr, ?_, hh3⟩
      unfold FRow
      rw [fcells_append, List.length_append]
      exact hh2

theorem wpList_pushF {w : World} {ops : Array Oper} {rest : List Oper} {o : Oper} {a : Act} {Q : Exit → Act → World → Prop} (hgd : o.guard = none) (s x : Operand)
    (ho : o.op = .call { callee := .builtin .append, args := #[s, x], argTypes := #[32, 32] })
    (base : Nat) (v : Value) (L : List Fr) (hs : a.eval s = v) (hown : FRow w base v L) (g : Nat) (f : Fr) (hx : a.eval x = .slice (some ⟨g, 0, none⟩) 1 1) (hc : w.heap[g]? = some (.cells #[.int .i64 (f.1 : Nat), .string (mkS f.2)] 23 (0, 0))) (h63 : L.length + 1 ≤ 1000000) (hbase : base ≤ w.heap.size)
    (h : ∀ v' w', FRow w' base v' (L ++ [f]) → w.grownBy w' v.ownBlock → wpList Try.prog ops Q rest (a.put o.dst v') w') : wpList Try.prog ops Q (o :: rest) a w := by
  refine wpList_plain hgd fun K hK => ?_
  obtain ⟨v', w', hr, h2, h3⟩ := run_pushN w base o.type v L [f] hown ⟨g, 0, none⟩ 1 (fun j u hj => by
    rw [Addr.add_lit, Nat.zero_add, cell_of_row _ _ _ _ _ _ hc]
    rcases j with _ | _ | j <;> simp [fcells, fcell] at hj ⊢ <;> exact hj) (by simpa using h63) hbase
  unfold Oper.wp execOp
  simp only [ho, resolve, invoke, builtin, Sem.run_bind, Sem.run_pure, Result.andThen_ok, List.map_toArray, List.map_cons, List.map_nil, hs, hx]
  rw [show ([f] : List Fr).length = 1 from rfl] at hr
  simp only [hr]
  exact hK _ _ (h v' w' h2 h3)

theorem step_pushF {w : World} {ops : Array Oper} {o : Oper} {a : Act} {K : Act → World → Prop} {Q : Exit → Act → World → Prop} {E : Prop} (hgd : o.guard = none) (s x : Operand)
    (ho : o.op = .call { callee := .builtin .append, args := #[s, x], argTypes := #[32, 32] })
    (base : Nat) (v : Value) (L : List Fr) (hs : a.eval s = v) (hown : FRow w base v L) (g : Nat) (f : Fr) (hx : a.eval x = .slice (some ⟨g, 0, none⟩) 1 1) (hc : w.heap[g]? = some (.cells #[.int .i64 (f.1 : Nat), .string (mkS f.2)] 23 (0, 0))) (h63 : L.length + 1 ≤ 1000000) (hbase : base ≤ w.heap.size)
    (h : ∀ v' w', FRow w' base v' (L ++ [f]) → w.grownBy w' v.ownBlock → K (a.put o.dst v') w') : if Region.wanted o (yielded ops a.tmps) = true then Oper.wp Try.prog o a w K Q else E := by
  have hw : Region.wanted o (yielded ops a.tmps) = true := by simp [Region.wanted, hgd]
  rw [if_pos hw]
  obtain ⟨v', w', hr, h2, h3⟩ := run_pushN w base o.type v L [f] hown ⟨g, 0, none⟩ 1 (fun j u hj => by
    rw [Addr.add_lit, Nat.zero_add, cell_of_row _ _ _ _ _ _ hc]
    rcases j with _ | _ | j <;> simp [fcells, fcell] at hj ⊢ <;> exact hj) (by simpa using h63) hbase
  unfold Oper.wp execOp
  simp only [ho, resolve, invoke, builtin, Sem.run_bind, Sem.run_pure, Result.andThen_ok, List.map_toArray, List.map_cons, List.map_nil, hs, hx]
  rw [show ([f] : List Fr).length = 1 from rfl] at hr
  simp only [hr]
  exact h v' w' h2 h3

theorem toL_extract (s : ByteArray) (a b : Nat) : toL (s.extract a b) = ((toL s).take b).drop a := by
  unfold toL
  rw [ByteArray.data_extract, Array.toList_extract]
  simp [List.drop_take]
end Go.Proofs.Ytcbkmafekkhpiaa
