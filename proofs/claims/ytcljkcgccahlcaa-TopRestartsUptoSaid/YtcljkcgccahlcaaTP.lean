/- One operation of a region that draws its order: append, delete; rows of places. -/
import Derived.Test.YtcljkcgccahlcaaTN
import Derived.Test.YtcljkcgccahlcaaTJ
import Derived.Test.YtcljkcgccahlcaaTG
import Derived.Deep.RegionLaw
namespace Go.Proofs.Ytcljkcgccahlcaa
open Go.RowKit
set_option linter.unusedVariables false

theorem step_append {w : World} {ops : Array Oper} {o : Oper} {a : Act} {K : Act → World → Prop} {Q : Exit → Act → World → Prop} {E : Prop} (hgd : o.guard = none) (s x : Operand) (t e : TypeId)
    (ho : o.op = .call { callee := .builtin .append, args := #[s, x], argTypes := #[t, t] })
    (i : TypeInfo) (z : Value) (size bytes : Nat) (ht : Try.prog.underlying t = some (.slice e)) (hi : Try.prog.info? e = some i) (hz : i.zero = some z)
    (hsize : i.size = size) (hby : i.bytes = bytes) (hzs : z.cells.size = size) (hsz : 0 < size)
    (base : Nat) (v : Value) (n : Nat) (xs : List Value) (hs : a.eval s = v) (hown : w.ownsRow base e size v n xs) (g : Nat) (news : List Value) (hx : a.eval x = .slice (some ⟨g, 0, none⟩) 1 1)
    (tt : TypeId) (hc : w.heap[g]? = some (.cells news.toArray tt (0, 0))) (hl : news.length = size) (h1 : ∀ u ∈ news, u.oneCell' = true) (h63 : n + 1 ≤ 1000000) (hbytes : bytes ≤ 1000) (hbase : base ≤ w.heap.size)
    (h : ∀ v' w', w'.ownsRow base e size v' (n + 1) (xs ++ news) → w.grownBy w' v.ownBlock → K (a.put o.dst v') w') : if Region.wanted o (yielded ops a.tmps) = true then Oper.wp Try.prog o a w K Q else E := by
  have hw : Region.wanted o (yielded ops a.tmps) = true := by simp [Region.wanted, hgd]
  rw [if_pos hw]
  have hb2 : (n + 1) * bytes ≤ 1000000 * 1000 := Nat.mul_le_mul h63 hbytes
  obtain ⟨v', w', hr, h2, h3, _⟩ := run_append_own (P := Try.prog) w base t o.type e i z size bytes ht hi hz hsize hby hzs hsz v n xs hown ⟨g, 0, none⟩ 1 1 news (by rw [hl]; omega) (fun j u hj => by
    rw [Addr.add_lit, Nat.zero_add, cell_of_row _ _ _ _ _ _ hc]
    simpa using hj) h1 (by unfold maxLen; omega) (by omega) hbase
  unfold Oper.wp execOp
  simp only [ho, resolve, invoke, builtin, Sem.run_bind, Sem.run_pure, Result.andThen_ok, List.map_toArray, List.map_cons, List.map_nil, hs, hx]
  simp only [hr]
  exact h v' w' h2 h3

theorem step_delete {w : World} {ops : Array Oper} {o : Oper} {a : Act} {K : Act → World → Prop} {Q : Exit → Act → World → Prop} {E : Prop} (hgd : o.guard = none) (mo ko : Operand)
    (ho : o.op = .call { callee := .builtin .delete, args := #[mo, ko], argTypes := #[74, 83] })
    (m n : Nat) (F : Tbl) (p : Pl) (hm : a.eval mo = .map (some m)) (hk : a.eval ko = .agg p.val) (hM : MapIs w m n F) (hp : p.Ok)
    (h : ∀ w', MapIs w' m n (F.set p none) → But m w w' → K (a.put o.dst (.tuple #[])) w') : if Region.wanted o (yielded ops a.tmps) = true then Oper.wp Try.prog o a w K Q else E := by
  have hw : Region.wanted o (yielded ops a.tmps) = true := by simp [Region.wanted, hgd]
  rw [if_pos hw]
  obtain ⟨w', hr, h2, h3⟩ := hM.delete hp o.type
  unfold Oper.wp execOp
  simp only [ho, resolve, invoke, builtin, Sem.run_bind, Sem.run_pure, Result.andThen_ok, List.map_toArray, List.map_cons, List.map_nil, hm, hk]
  simp only [hr]
  exact h w' h2 h3

/-! ### A row of places, taken apart for a walk -/
structure PlAt (w : World) (g o : Nat) (p : Pl) : Prop where
  c0 : w.cell? ⟨g, o, none⟩ = some (.int .i64 p.fam)
  c1 : w.cell? ⟨g, o + 1, none⟩ = some (.int .u64 p.rd)
  c2 : w.cell? ⟨g, o + 2, none⟩ = some (.string p.addr)
  c3 : w.cell? ⟨g, o + 3, none⟩ = some (.int .i64 p.len)
  c4 : w.cell? ⟨g, o + 4, none⟩ = some (.int .u32 p.id)
theorem PlAt.keep {w w' : World} {g o : Nat} {p : Pl} (h : PlAt w g o p) (hb : w'.heap[g]? = w.heap[g]?) : PlAt w' g o p :=
  ⟨(World.cell?_of_block (w := w) hb).trans h.c0, (World.cell?_of_block (w := w) hb).trans h.c1, (World.cell?_of_block (w := w) hb).trans h.c2, (World.cell?_of_block (w := w) hb).trans h.c3, (World.cell?_of_block (w := w) hb).trans h.c4⟩

theorem plC_at : ∀ (L : List Pl) (k j : Nat), k < L.length → j < 5 → (plC L)[k * 5 + j]? = (L.getD k default).val[j]?
  | [], k, j, h, _ => by simp at h
  | p :: L, 0, j, h, hj => by
    have e : plC (p :: L) = p.val.toList ++ plC L := rfl
    have hl : p.val.toList.length = 5 := rfl
    rw [e, Nat.zero_mul, Nat.zero_add, List.getElem?_append_left (by omega)]
    simp
  | p :: L, k + 1, j, h, hj => by
    have e : plC (p :: L) = p.val.toList ++ plC L := rfl
    have hl : p.val.toList.length = 5 := rfl
    rw [e, List.getElem?_append_right (by omega), hl, show (k + 1) * 5 + j - 5 = k * 5 + j from by omega, plC_at L k j (by simpa using h) hj]
    simp

/-- Where a row of places lies. -/
theorem plRow_open {w : World} {base : Nat} {v : Value} {L : List Pl} (h : w.ownsRow base 83 5 v L.length (plC L)) :
    ∃ ao cap g off, v = .slice ao L.length cap ∧ L.length ≤ cap ∧ (0 < L.length → ao = some ⟨g, off, none⟩ ∧ base ≤ g ∧ g < w.heap.size) ∧ ∀ k, k < L.length → PlAt w g (off + k * 5) (L.getD k default) := by
  rcases h.2 with ⟨rfl, h0⟩ | ⟨g, cap, cur, rfl, hb, hg, hc, hm, hs, ht⟩
  · refine ⟨none, 0, 0, 0, by rw [h0], by omega, fun hp => by omega, fun k hk => by omega⟩
  · refine ⟨_, cap, g, 0, rfl, hc, fun _ => ⟨rfl, hb, lt_of_block hg⟩, fun k hk => ?_⟩
    have hat : ∀ j, j < 5 → w.cell? ⟨g, 0 + k * 5 + j, none⟩ = (L.getD k default).val[j]? := by
      intro j hj
      rw [cell_of_row _ _ _ _ _ _ hg, ← plC_at L k j hk hj, ← ht, List.getElem?_take_of_lt (by omega)]
      simp
    exact ⟨hat 0 (by omega), hat 1 (by omega), hat 2 (by omega), hat 3 (by omega), hat 4 (by omega)⟩
end Go.Proofs.Ytcljkcgccahlcaa
