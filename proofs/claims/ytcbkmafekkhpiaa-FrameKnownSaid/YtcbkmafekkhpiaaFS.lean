/- frame: a framer in memory; append of a string's bytes; parts of a slice of bytes. -/
import Derived.Test.YtcbkmafekkhpiaaFC
namespace Go.Proofs.Ytcbkmafekkhpiaa
open Go.RowKit
set_option linter.unusedVariables false

/-- What a framer has that waits. -/
def WRd (w : World) (v : Value) (l : List UInt8) : Prop :=
  (v = .slice none 0 0 ∧ l = []) ∨ ∃ g cap, v = .slice (some ⟨g, 0, none⟩) l.length cap ∧ l.length ≤ cap ∧ cap ≤ maxLen ∧ g < w.heap.size ∧ ∀ i, i < l.length → w.cell? ⟨g, i, none⟩ = some (.int .u8 (bt l i : Nat))
theorem WRd.keep {w w' : World} {v : Value} {l : List UInt8} (h : WRd w v l) (hz : w.heap.size ≤ w'.heap.size) (hk : ∀ g, v.ownBlock = some g → g < w.heap.size → w'.heap[g]? = w.heap[g]?) : WRd w' v l := by
  rcases h with h | ⟨g, cap, rfl, h1, h2, h3, h4⟩
  · exact .inl h
  · refine .inr ⟨g, cap, rfl, h1, h2, by omega, fun i hi => ?_⟩
    rw [← h4 i hi]
    unfold World.cell?
    rw [hk g rfl h3]

structure IsF (w : World) (b : Nat) (vw : Value) (l : List UInt8) (q : Nat) : Prop where
  blk : w.heap[b]? = some (.cells #[.bool true, vw, .int .i64 (if q = 0 then 0 else 3), .int .u8 (if q = 0 then 0 else 1), .int .u8 (q : Int)] 50 (0, 0))
  rd : WRd w vw l
  own : ∀ g, vw.ownBlock = some g → g < w.heap.size ∧ g ≠ b
  nil : q ≠ 0 → l = []
theorem IsF.lt {w : World} {b : Nat} {vw : Value} {l : List UInt8} {q : Nat} (h : IsF w b vw l q) : b < w.heap.size := lt_of_block h.blk
theorem IsF.below {w w' : World} {b : Nat} {vw : Value} {l : List UInt8} {q : Nat} (h : IsF w b vw l q) (hb : Below w.heap.size w w') : IsF w' b vw l q :=
  ⟨(hb.block _ h.lt).trans h.blk, h.rd.keep hb.size fun g _ hg => hb.block g hg, fun g hg => by have := h.own g hg; have := hb.size; exact ⟨by omega, by omega⟩, h.nil⟩

def bcells (l : List UInt8) : List Value := l.map fun b => Value.int .u8 (b.toNat : Int)
theorem strCells_eq (s : ByteArray) : Lib.strCells s = bcells (toL s) := rfl
theorem bcells_len (l : List UInt8) : (bcells l).length = l.length := by simp [bcells]
theorem bcells_at (l : List UInt8) (i : Nat) (h : i < l.length) : (bcells l)[i]? = some (.int .u8 (bt l i : Nat)) := by
  unfold bcells bt
  rw [List.getElem?_map, List.getElem?_eq_getElem h, List.getD_eq_getElem?_getD, List.getElem?_eq_getElem h]
  rfl
theorem bcells_append (l m : List UInt8) : bcells (l ++ m) = bcells l ++ bcells m := by simp [bcells]
theorem bcells_one (l : List UInt8) : ∀ u ∈ bcells l, u.oneCell' = true := by
  intro u hu
  unfold bcells at hu
  rw [List.mem_map] at hu
  obtain ⟨b, _, rfl⟩ := hu
  rfl
theorem infoB : (Try.prog.info? 5).map (fun i => (i.zero, i.size, i.bytes)) = some (some (.int .u8 0), 1, 1) := by kernel_rfl
theorem info_b : ∃ i, Try.prog.info? 5 = some i ∧ i.zero = some (.int .u8 0) ∧ i.size = 1 ∧ i.bytes = 1 := by
  have h := infoB
  cases hq : Try.prog.info? 5 with
  | none => rw [hq] at h; cases h
  | some i =>
    rw [hq] at h
    simp only [Option.map_some, Option.some.injEq, Prod.mk.injEq] at h
    exact ⟨i, rfl, h.1, h.2.1, h.2.2⟩
theorem brd_own {w : World} {base : Nat} {v : Value} {l : List UInt8} (h : w.ownsRow base 5 1 v l.length (bcells l)) : BRd w v l := by
  rcases h.2 with ⟨rfl, h0⟩ | ⟨g, cap, cur, rfl, hb, hg, hnc, hcm, hcs, ht⟩
  · exact ⟨none, 0, 0, 0, by rw [h0], by omega, by unfold maxLen; omega, fun h => by omega, fun i hi => by omega⟩
  · refine ⟨_, cap, g, 0, rfl, hnc, hcm, fun _ => ⟨rfl, lt_of_block hg⟩, fun i hi => ?_⟩
    rw [Nat.zero_add, cell_of_row _ _ _ _ _ _ hg, ← Array.getElem?_toList, ← bcells_at l i hi, ← ht, List.getElem?_take_of_lt (by omega)]

/-- append(b[:n:n], s...) -/
theorem run_appendS (w : World) (ty : TypeId) (v : Value) (l : List UInt8) (s : ByteArray) (h : (v = .slice none 0 0 ∧ l = []) ∨ ∃ g, v = .slice (some ⟨g, 0, none⟩) l.length l.length ∧ g < w.heap.size ∧ ∀ i, i < l.length → w.cell? ⟨g, i, none⟩ = some (.int .u8 (bt l i : Nat))) (hz : l.length + s.size ≤ 1000000) :
    ∃ v' w', (Builtin.append_ #[43, 9] ty #[v, .string s]).run Try.prog w = .ok v' w' ∧ BRd w' v' (l ++ toL s) ∧ Below w.heap.size w w' ∧ (∀ g, v'.ownBlock = some g → (v.ownBlock = some g ∨ w.heap.size ≤ g) ∧ g < w'.heap.size) := by
  obtain ⟨i, hi, hiz, his, hib⟩ := info_b
  have hlen : (l ++ toL s).length = l.length + s.size := by rw [List.length_append, toL_len]
  rcases h with ⟨rfl, rfl⟩ | ⟨g, rfl, hg, hc⟩
  · obtain ⟨v', w', hr, h2, h3, h4⟩ := Lib.run_append_own_string (P := Try.prog) w w.heap.size 43 9 ty 5 i Try.underlying43 Try.underlying9 hi hiz his hib (.slice none 0 0) 0 [] (World.ownsRow_nil w _ _ _) s (by unfold maxLen; simp at hz; omega) (by simp at hz; omega) (Nat.le_refl _)
    have h5 : w'.ownsRow w.heap.size 5 1 v' ([] ++ toL s).length (bcells ([] ++ toL s)) := by
      rw [hlen]; simpa [strCells_eq] using h2
    exact ⟨v', w', hr, brd_own h5, (Below.refl w.heap.size w).grown h3 (Nat.le_refl _) (fun b hb => by cases hb), fun g hg => ⟨.inr (own_ge h5 g hg), own_lt h5 g hg⟩⟩
  · by_cases hs : s.size = 0
    · have hsn : toL s = [] := List.eq_nil_of_length_eq_zero (by rw [toL_len]; exact hs)
      refine ⟨.slice (some ⟨g, 0, none⟩) l.length l.length, w, ?_, ?_, Below.refl _ _, fun g' hg' => ⟨.inl hg', by simp [Value.ownBlock] at hg'; omega⟩⟩
      · have hf := Lib.run_firstCells_string (P := Try.prog) w 1 s
        have hsc : Lib.strCells s = [] := by rw [strCells_eq, hsn]; rfl
        rw [hs, hsc] at hf
        simp [Builtin.append_, run_underlying Try.underlying43, run_underlying Try.underlying9, sizeOf, typeInfo, hi, his, Builtin.lenOf, hs, hf, storeCells]
      · rw [hsn, List.append_nil]
        exact ⟨_, l.length, g, 0, rfl, Nat.le_refl _, by unfold maxLen; omega, fun _ => ⟨rfl, hg⟩, fun i hi => by rw [Nat.zero_add]; exact hc i hi⟩
    · have hr := Lib.run_append_grow_string (P := Try.prog) w 43 9 ty 5 i (.int .u8 0) Try.underlying43 Try.underlying9 hi hiz ⟨g, 0, none⟩ l.length l.length (bcells l) (by rw [bcells_len, his, Nat.mul_one]) (fun j v hj => by
        have hjl : j < l.length := by
          rcases Nat.lt_or_ge j l.length with h | h
          · exact h
          · rw [List.getElem?_eq_none (by rw [bcells_len]; exact h)] at hj; cases hj
        rw [bcells_at l j hjl] at hj
        rw [Addr.add_lit, Nat.zero_add, hc j hjl, hj]) s (by omega) (by omega) (growslice_fits (by omega) (by rw [hib]; omega))
      refine ⟨_, _, hr, ?_, (Below.refl w.heap.size w).drew.alloc (Nat.le_refl _) _, fun g' hg' => ?_⟩
      · have hge := grownCap_ge w (l.length + s.size) l.length 5
        have hcm : grownCap w (l.length + s.size) l.length 5 ≤ maxLen := grownCap_le_maxLen w (l.length + s.size) l.length 5 (by unfold maxLen; omega)
        refine ⟨_, grownCap w (l.length + s.size) l.length 5, w.heap.size, 0, by rw [hlen], by omega, hcm, fun _ => ⟨rfl, by simp⟩, fun i hi => ?_⟩
        refine (cell_of_row _ _ _ _ _ _ (heap_alloc_new w.drew _)).trans ?_
        rw [Nat.zero_add, Array.getElem?_append_left (by simp [bcells_len, strCells_eq, toL_len]; omega)]
        rw [← bcells_at _ i hi, bcells_append, ← strCells_eq]
        simp
      · simp [Value.ownBlock] at hg'
        exact ⟨.inr (by omega), by simp; omega⟩

theorem wpList_appendS {w : World} {ops : Array Oper} {rest : List Oper} {o : Oper} {a : Act} {Q : Exit → Act → World → Prop} (hgd : o.guard = none) (s x : Operand)
    (ho : o.op = .call { callee := .builtin .append, args := #[s, x], argTypes := #[43, 9] })
    (v : Value) (l : List UInt8) (sb : ByteArray) (hs : a.eval s = v) (hx : a.eval x = .string sb) (hv : (v = .slice none 0 0 ∧ l = []) ∨ ∃ g, v = .slice (some ⟨g, 0, none⟩) l.length l.length ∧ g < w.heap.size ∧ ∀ i, i < l.length → w.cell? ⟨g, i, none⟩ = some (.int .u8 (bt l i : Nat))) (hz : l.length + sb.size ≤ 1000000)
    (h : ∀ v' w', BRd w' v' (l ++ toL sb) → Below w.heap.size w w' → (∀ g, v'.ownBlock = some g → (v.ownBlock = some g ∨ w.heap.size ≤ g) ∧ g < w'.heap.size) → wpList Try.prog ops Q rest (a.put o.dst v') w') : wpList Try.prog ops Q (o :: rest) a w := by
  refine wpList_plain hgd fun K hK => ?_
  obtain ⟨v', w', hr, h2, h3, h4⟩ := run_appendS w o.type v l sb hv hz
  unfold Oper.wp execOp
  simp only [ho, resolve, invoke, builtin, Sem.run_bind, Sem.run_pure, Result.andThen_ok, List.map_toArray, List.map_cons, List.map_nil, hs, hx, hr]
  exact hK _ _ (h v' w' h2 h3 h4)

theorem wpList_make43 {w : World} {ops : Array Oper} {rest : List Oper} {o : Oper} {a : Act} {Q : Exit → Act → World → Prop} (hgd : o.guard = none) (l c : Operand) (ho : o.op = .makeSlice 43 l c)
    (n : Nat) (hl : a.eval l = .int .i64 (n : Int)) (hc : a.eval c = .int .i64 (n : Int)) (hn : n ≤ 1000000)
    (h : ∀ Z : Array Value, Z.size = n → wpList Try.prog ops Q rest (a.put o.dst (.slice (some ⟨w.heap.size, 0, none⟩) n n)) (w.alloc (.cells Z 5))) : wpList Try.prog ops Q (o :: rest) a w := by
  refine wpList_plain hgd fun K hK => ?_
  obtain ⟨i, hi, hiz, his, hib⟩ := info_b
  have hrun := run_make (P := Try.prog) w 43 5 i (.int .u8 0) Try.underlying43 hi hiz .i64 .i64 n n (by omega) (Int.le_refl _) (by rw [hib]; omega) (by omega)
  rw [his] at hrun
  unfold Oper.wp
  simp [execOp, ho, hl, hc, hrun, Result.andThen]
  exact hK _ _ (h _ (by rw [size_madeCells]))

theorem wpList_copy43 {w : World} {ops : Array Oper} {rest : List Oper} {o : Oper} {a : Act} {Q : Exit → Act → World → Prop} (hgd : o.guard = none) (d s : Operand)
    (ho : o.op = .call { callee := .builtin .copy, args := #[d, s], argTypes := #[43, 43] }) (g : Nat) (v : Value) (l : List UInt8) (hd : a.eval d = .slice (some ⟨g, 0, none⟩) l.length l.length) (hs : a.eval s = v) (Z : Array Value) (hZ : Z.size = l.length)
    (hg : w.heap[g]? = some (.cells Z 5 (0, 0))) (hv : BRd w v l)
    (h : ∀ w', But g w w' → w'.heap[g]? = some (.cells (bcells l).toArray 5 (0, 0)) → w'.heap.size = w.heap.size → wpList Try.prog ops Q rest (a.put o.dst (goInt l.length)) w') : wpList Try.prog ops Q (o :: rest) a w := by
  obtain ⟨ao, cap, gs, off, rfl, h1, h2, h3, h4⟩ := hv
  have hsz : (Try.prog.info? 5).map (·.size) = some 1 := by
    obtain ⟨i, hi, _, his, _⟩ := info_b
    rw [hi]; simp [his]
  by_cases hl : l.length = 0
  · have hln : l = [] := List.eq_nil_of_length_eq_zero hl
    subst hln
    have hZn : Z = #[] := Array.eq_empty_of_size_eq_zero hZ
    subst hZn
    exact wpList_copy_nothing hgd d s 43 43 ho 5 Try.underlying43 hsz _ _ _ _ _ _ hd hs rfl (h w (But.refl _ _) hg rfl)
  · obtain ⟨rfl, hgs⟩ := h3 (by omega)
    refine wpList_copy_own hgd d s 43 43 ho 5 Try.underlying43 hsz g 0 l.length l.length ⟨gs, off, none⟩ l.length cap hd hs Z 5 hg (bcells l) (by rw [bcells_len]; simp) (fun j u hj => ?_) (by rw [bcells_len]; omega) (bcells_one l) ?_
    · have hjl : j < l.length := by
        rcases Nat.lt_or_ge j l.length with h | h
        · exact h
        · rw [List.getElem?_eq_none (by rw [bcells_len]; exact h)] at hj; cases hj
      rw [bcells_at l j hjl] at hj
      rw [Addr.add_lit, h4 j hjl, hj]
    · have hrow : (Z.toList.take 0 ++ (bcells l ++ Z.toList.drop (0 + (bcells l).length))).toArray = (bcells l).toArray := by
        rw [bcells_len, List.take_zero, List.nil_append, Nat.zero_add, List.drop_eq_nil_of_le (by rw [Array.length_toList]; omega), List.append_nil]
      rw [hrow, bcells_len]
      refine h _ ⟨rfl, rfl, rfl, by simp [World.setRow], fun k hk hn => setRow_other w g k _ hn⟩ (setRow_heap w g Z _ 5 (0, 0) hg) (by simp [World.setRow])

theorem bt_take (l : List UInt8) (n i : Nat) (h : i < n) : bt (l.take n) i = bt l i := by
  unfold bt; rw [List.getD_eq_getElem?_getD, List.getD_eq_getElem?_getD, List.getElem?_take_of_lt h]
theorem bt_drop (l : List UInt8) (n i : Nat) : bt (l.drop n) i = bt l (n + i) := by
  unfold bt; rw [List.getD_eq_getElem?_getD, List.getD_eq_getElem?_getD, List.getElem?_drop]
/-- b[:n] -/
theorem BRd.take {w : World} {ao : Option Addr} {len cap n : Nat} {l : List UInt8} (h : BRd w (.slice ao len cap) l) (hn : n ≤ l.length) : BRd w (.slice ao n cap) (l.take n) := by
  obtain ⟨ao', cap', g, off, e, h1, h2, h3, h4⟩ := h
  injection e with e1 e2 e3
  subst e1 e2 e3
  have hl : (l.take n).length = n := by simp; omega
  refine ⟨ao, cap, g, off, by rw [hl], by omega, h2, fun h0 => h3 (by omega), fun i hi => ?_⟩
  rw [bt_take _ _ _ (by omega)]
  exact h4 i (by omega)
/-- b[n:] -/
theorem BRd.drop {w : World} {g off len cap n : Nat} {l : List UInt8} (h : BRd w (.slice (some ⟨g, off, none⟩) len cap) l) (hn : n ≤ l.length) : BRd w (.slice (if cap = n then some ⟨g, off, none⟩ else some ⟨g, off + n, none⟩) (len - n) (cap - n)) (l.drop n) := by
  obtain ⟨ao', cap', g', off', e, h1, h2, h3, h4⟩ := h
  injection e with e1 e2 e3
  subst e2 e3
  have hl : (l.drop n).length = l.length - n := by simp
  refine ⟨_, cap - n, g, off + n, by rw [hl], by omega, by omega, fun h0 => ?_, fun i hi => ?_⟩
  · have hq := h3 (by omega)
    rw [← e1] at hq
    injection hq.1 with hq1
    injection hq1 with hq2 hq3
    rw [if_neg (by omega)]
    exact ⟨rfl, by rw [hq2]; exact hq.2⟩
  · have hq := h3 (by omega)
    rw [← e1] at hq
    injection hq.1 with hq1
    injection hq1 with hq2 hq3
    subst hq2 hq3
    rw [bt_drop, Nat.add_assoc]
    exact h4 (n + i) (by omega)
/-- string(b) -/
theorem BRd.string {w w' : World} {ad : Addr} {len cap : Nat} {l : List UInt8} (h : BRd w (.slice (some ad) len cap) l) (hk : w'.heap[ad.block]? = w.heap[ad.block]?) : (convert 43 9 (.slice (some ad) len cap)).run Try.prog w' = .ok (.string (mkS l)) w' := by
  obtain ⟨ao', cap', g, off, e, h1, h2, h3, h4⟩ := h
  injection e with e1 e2 e3
  subst e1 e2 e3
  refine run_convert_bytes_back (P := Try.prog) w' 43 9 5 ad cap l Try.underlying43 Try.underlying5 Try.underlying9 (fun j hj => ?_)
  obtain ⟨e, hg⟩ := h3 (by omega)
  injection e with e
  subst e
  have e1 : w'.cell? ⟨g, off + j, none⟩ = w.cell? ⟨g, off + j, none⟩ := by
    unfold World.cell?
    rw [hk]
  rw [Addr.add_lit, e1, h4 j hj]
  congr 2
  unfold bt
  rw [List.getD_eq_getElem?_getD, List.getElem?_eq_getElem hj]
  rfl
end Go.Proofs.Ytcbkmafekkhpiaa
