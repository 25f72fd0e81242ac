/- heraldref09.Make. -/
import Derived.Test.YtcbkmafekkhpiaaFS
namespace Go.Proofs.Ytcbkmafekkhpiaa
open Go.RowKit
set_option linter.unusedVariables false

def makeRr (k : Int) (body : List UInt8) : List UInt8 × Int :=
  if k < 1 ∨ 5 < k then ([], 2) else if 4096 < 19 + body.length then ([], 3) else if fitsI k (19 + body.length : Nat) = false then ([], 2) else (mk (k.toNat, body), 0)

theorem all255 {c : Array Value} (hs : c.size = 16) (h : ∀ i, i < 16 → c[i]? = some (.int .u8 255)) : c.toList = bcells (List.replicate 16 255) := by
  apply List.ext_getElem?
  intro i
  by_cases hi : i < 16
  · rw [Array.getElem?_toList, h i hi, bcells_at _ _ (by simpa using hi)]
    have : i = 0 ∨ i = 1 ∨ i = 2 ∨ i = 3 ∨ i = 4 ∨ i = 5 ∨ i = 6 ∨ i = 7 ∨ i = 8 ∨ i = 9 ∨ i = 10 ∨ i = 11 ∨ i = 12 ∨ i = 13 ∨ i = 14 ∨ i = 15 := by omega
    rcases this with rfl | rfl | rfl | rfl | rfl | rfl | rfl | rfl | rfl | rfl | rfl | rfl | rfl | rfl | rfl | rfl <;> rfl
  · rw [List.getElem?_eq_none (by rw [Array.length_toList]; omega), List.getElem?_eq_none (by rw [bcells_len]; simp; omega)]

theorem run_push3 (w : World) (base : Nat) (ty : TypeId) (v : Value) (l m : List UInt8) (hown : w.ownsRow base 5 1 v l.length (bcells l)) (ad : Addr) (c : Nat) (hc : ∀ j u, (bcells m)[j]? = some u → w.cell? (ad.add j) = some u) (h63 : l.length + m.length ≤ 1000000) (hbase : base ≤ w.heap.size) :
    ∃ v' w', (Builtin.append_ #[43, 43] ty #[v, .slice (some ad) m.length c]).run Try.prog w = .ok v' w' ∧ w'.ownsRow base 5 1 v' (l ++ m).length (bcells (l ++ m)) ∧ w.grownBy w' v.ownBlock := by
  obtain ⟨i, hi, hiz, his, hib⟩ := info_b
  obtain ⟨v', w', hr, hh2, hh3, hh4⟩ := run_append_own (P := Try.prog) w base 43 ty 5 i (.int .u8 0) 1 1 Try.underlying43 hi hiz his hib rfl (by decide) v l.length (bcells l) hown ad m.length c (bcells m) (by rw [bcells_len]; omega) hc (bcells_one m) (by unfold maxLen; omega) (by omega) hbase
  refine ⟨v', w', hr, ?_, hh3⟩
  rw [bcells_append, List.length_append]
  exact hh2

theorem wpList_push3 {w : World} {ops : Array Oper} {rest : List Oper} {o : Oper} {a : Act} {Q : Exit → Act → World → Prop} (hgd : o.guard = none) (s x : Operand)
    (ho : o.op = .call { callee := .builtin .append, args := #[s, x], argTypes := #[43, 43] })
    (base : Nat) (v : Value) (l m : List UInt8) (hs : a.eval s = v) (hown : w.ownsRow base 5 1 v l.length (bcells l)) (g c : Nat) (hx : a.eval x = .slice (some ⟨g, 0, none⟩) m.length c) (hc : w.heap[g]? = some (.cells (bcells m).toArray 5 (0, 0))) (h63 : l.length + m.length ≤ 1000000) (hbase : base ≤ w.heap.size)
    (h : ∀ v' w', w'.ownsRow base 5 1 v' (l ++ m).length (bcells (l ++ m)) → w.grownBy w' v.ownBlock → wpList Try.prog ops Q rest (a.put o.dst v') w') : wpList Try.prog ops Q (o :: rest) a w := by
  refine wpList_plain hgd fun K hK => ?_
  obtain ⟨v', w', hr, h2, h3⟩ := run_push3 w base o.type v l m hown ⟨g, 0, none⟩ c (fun j u hj => by
    rw [Addr.add_lit, Nat.zero_add, cell_of_row _ _ _ _ _ _ hc]
    simpa using hj) h63 hbase
  unfold Oper.wp execOp
  simp only [ho, resolve, invoke, builtin, Sem.run_bind, Sem.run_pure, Result.andThen_ok, List.map_toArray, List.map_cons, List.map_nil, hs, hx, hr]
  exact hK _ _ (h v' w' h2 h3)

theorem row_string {w : World} {base n : Nat} {v : Value} {l : List UInt8} (h : w.ownsRow base 5 1 v l.length (bcells l)) (hl : l.length = n) (hpos : 0 < n) : ∃ g cap, v = .slice (some ⟨g, 0, none⟩) n cap ∧ (convert 43 9 (.slice (some ⟨g, 0, none⟩) n cap)).run Try.prog w = .ok (.string (mkS l)) w := by
  obtain ⟨g, cap, rfl, _, _⟩ := World.ownsRow.form h (by omega)
  rw [hl]
  have hb := brd_own h
  rw [hl] at hb
  exact ⟨g, cap, rfl, hb.string rfl⟩
theorem after_push {w wr W w9 : World} {k : Int} {s : ByteArray} {o : Obj} {v : Value} (hbw : Below w.heap.size w wr) (hlt : w.heap.size < W.heap.size) (hWr : W.heap.size ≤ wr.heap.size) (hg : wr.heap[w.heap.size]? = some (.cells #[.int .i64 k, .string s] 23 (0, 0))) (hgrow : (wr.alloc o).grownBy w9 v.ownBlock) (hv : ∀ b, v.ownBlock = some b → W.heap.size ≤ b) :
    Below w.heap.size w w9 ∧ w9.cell? ⟨w.heap.size, 1, none⟩ = some (.string s) := by
  refine ⟨(hbw.alloc hbw.size _).grown hgrow (by have := hbw.size; simp; omega) (fun b hb => by have := hv b hb; omega), ?_⟩
  have hr9 : w9.heap[w.heap.size]? = some (.cells #[.int .i64 k, .string s] 23 (0, 0)) := ((hgrow.block w.heap.size (by simp; omega) (fun h => by have := hv _ h.symm; omega)).trans (Below.heap_alloc _ _ _ (by omega))).trans hg
  exact cell_of_row _ _ _ _ _ _ hr9

set_option maxHeartbeats 1000000 in
theorem rmake_any (k : Int) (s : ByteArray) (w : World) (hs : s.size ≤ 1000000) : Calls Try.prog 9 #[.agg #[.int .i64 k, .string s]] w fun e w' => e = .returned (.tuple #[.string (mkS (makeRr k (toL s)).1), .int .i64 (makeRr k (toL s)).2]) ∧ Below w.heap.size w w' := by
  have hsl := toL_len s
  have HM : Hid (makeRr k (toL s) = if k < 1 ∨ 5 < k then ([], 2) else if 4096 < 19 + s.size then ([], 3) else if fitsI k (19 + s.size : Nat) = false then ([], 2) else (mk (k.toNat, toL s), 0)) := by show _ = _; unfold makeRr; rw [hsl]
  clear hsl
  obtain ⟨R, hR⟩ : ∃ R, makeRr k (toL s) = R := ⟨_, rfl⟩
  rw [hR] at HM ⊢
  clear hR
  have e1 : IntKind.i64.wrap (19 + (s.size : Int)) = ((19 + s.size : Nat) : Int) := by rw [IntKind.wrap_i64]; omega
  have e1' : wrap64 (19 + (s.size : Int)) = ((19 + s.size : Nat) : Int) := by unfold wrap64; omega
  have HS := Lib.hid hs
  clear hs
  go_enter Try.func9, Try.ntmps9
  by_cases h1 : k < 1
  · have hr : R = ([], 2) := by rw [HM.out, if_pos (Or.inl h1)]
    go_wp2
    exact bodyPost_ret (v := .tuple #[.string ⟨#[]⟩, .int .i64 2]) (by simp [results, Try.results9, go_sem]) rfl ⟨by rw [hr]; rfl, (Below.refl _ _).alloc (Nat.le_refl _) _⟩
  · by_cases h2 : 5 < k
    · have hr : R = ([], 2) := by rw [HM.out, if_pos (Or.inr h2)]
      replace h1 : 1 ≤ k := by omega
      go_wp2
      exact bodyPost_ret (v := .tuple #[.string ⟨#[]⟩, .int .i64 2]) (by simp [results, Try.results9, go_sem]) rfl ⟨by rw [hr]; rfl, (Below.refl _ _).alloc (Nat.le_refl _) _⟩
    · replace HM : Hid (R = if 4096 < 19 + s.size then ([], 3) else if fitsI k (19 + s.size : Nat) = false then ([], 2) else (mk (k.toNat, toL s), 0)) := by show _ = _; rw [HM.out, if_neg (by omega)]
      replace h1 : 1 ≤ k := by omega
      replace h2 : k ≤ 5 := by omega
      obtain ⟨n, hn⟩ : ∃ n, 19 + s.size = n := ⟨_, rfl⟩
      rw [hn] at HM e1 e1'
      by_cases h3 : 4096 < n
      · have hr : R = ([], 3) := by rw [HM.out, if_pos h3]
        have h3' : (4096 : Int) < (n : Int) := by omega
        clear h3 hn
        go_wp2
        exact bodyPost_ret (v := .tuple #[.string ⟨#[]⟩, .int .i64 3]) (by simp [results, Try.results9, go_sem]) rfl ⟨by rw [hr]; rfl, (Below.refl _ _).alloc (Nat.le_refl _) _⟩
      · replace HM : Hid (R = if fitsI k (n : Nat) = false then ([], 2) else (mk (k.toNat, toL s), 0)) := by show _ = _; rw [HM.out, if_neg h3]
        have h3' : (n : Int) ≤ 4096 := by omega
        have HN := Lib.hid hn
        clear h3 hn
        go_wp2_with fail
        refine (rfits_any _ _ _ h1 h2).mono ?_
        rintro e w6 ⟨he, rfl⟩
        cases hf : fitsI k n with
        | false =>
          have hr : R = ([], 2) := by rw [HM.out, hf]; rfl
          rw [hf] at he
          subst he
          go_wp2
          exact bodyPost_ret (v := .tuple #[.string ⟨#[]⟩, .int .i64 2]) (by simp [results, Try.results9, go_sem]) rfl ⟨by rw [hr]; rfl, (Below.refl _ _).alloc (Nat.le_refl _) _⟩
        | true =>
          have hr : R = (mk (k.toNat, toL s), 0) := by rw [HM.out, hf]; rfl
          rw [hf] at he
          subst he
          have HAL : Hid (Below w.heap.size w (w.alloc (.cells #[.int .i64 k, .string s] 23))) := (Below.refl _ _).alloc (Nat.le_refl _) _
          have hg0 := heap_alloc_new w (.cells #[.int .i64 k, .string s] 23)
          have HWS : Hid (w.heap.size < (w.alloc (.cells #[.int .i64 k, .string s] 23)).heap.size) := by show _ < _; simp
          generalize w.alloc (.cells #[.int .i64 k, .string s] 23) = W at *
          have HG0 := Lib.hid hg0
          clear hg0
          go_wp2_with (refine wpList_make43 rfl (.const (.int .i64 16)) (.const (.int .i64 16)) rfl 16 rfl rfl (by omega) ?_; intro Z hZ; have HZS := Lib.hid hZ; clear hZ)
          go_loopw [6] (fun i wr => ∃ (j : Nat) (c : Array Value), i = .int .i64 j ∧ j ≤ 16 ∧ wr.heap[W.heap.size]? = some (.cells c 5 (0, 0)) ∧ c.size = 16 ∧ Hid (∀ i, i < j → c[i]? = some (.int .u8 255)) ∧ Below W.heap.size W wr ∧ W.heap.size < wr.heap.size) (fun i _ => 16 - (intOf i).toNat)
          case atStart => exact ⟨0, Z, rfl, by omega, heap_alloc_new _ _, HZS.out, (fun i hi => by omega), (Below.refl _ _).alloc (Nat.le_refl _) _, by simp⟩
          case round =>
            obtain ⟨j, c, rfl, hj, hrow, hcs, HC, hbel, hlt⟩ := hrel
            by_cases hj16 : j < 16
            · have i1 : (0 : Int) ≤ (j : Int) := by omega
              have i2 : (j : Int) < 16 := by omega
              have hcx : ∃ x, c[j]? = some x := ⟨_, Array.getElem?_eq_getElem (by omega)⟩
              obtain ⟨x, hx⟩ := hcx
              have hcell : wr.cell? ⟨W.heap.size, j, none⟩ = some x := by rw [cell_of_row _ _ _ _ _ _ hrow]; exact hx
              have hfz := frozen_of_row _ _ j _ _ hrow
              have HR2 : Hid ((wr.setCell ⟨W.heap.size, j, none⟩ (.int .u8 255)).heap[W.heap.size]? = some (.cells (c.setIfInBounds j (.int .u8 255)) 5 (0, 0))) := set_heap hrow
              have HC2 : Hid (∀ i, i < j + 1 → (c.setIfInBounds j (.int .u8 255))[i]? = some (.int .u8 255)) := by
                intro i hi
                rw [Array.getElem?_setIfInBounds]
                split
                · simp; omega
                · exact HC.out i (by omega)
              have HB2 : Hid (Below W.heap.size W (wr.setCell ⟨W.heap.size, j, none⟩ (.int .u8 255))) := hbel.setCell (Nat.le_refl _) _
              have HS2 : Hid ((c.setIfInBounds j (.int .u8 255)).size = 16) := by show _ = _; simpa using hcs
              have HL2 := Lib.hid hlt
              clear hrow hcs hbel hlt hx
              go_wp2
              go_roundw
              case rel => exact ⟨j + 1, _, by go_num, by omega, HR2.out, HS2.out, HC2.out, HB2.out, by have := HL2.out; simpa using this⟩
              case measure => simp [intOf]; omega
            · obtain rfl : j = 16 := by omega
              have hown : wr.ownsRow W.heap.size 5 1 (.slice (some ⟨W.heap.size, 0, none⟩) 16 16) (List.replicate 16 (255 : UInt8)).length (bcells (List.replicate 16 255)) :=
                ⟨rfl, .inr ⟨W.heap.size, 16, c, rfl, Nat.le_refl _, hrow, by decide, by decide, by rw [hcs], by rw [← all255 hcs HC.out, show (List.replicate 16 (255 : UInt8)).length * 1 = 16 from rfl, List.take_of_length_le (by rw [Array.length_toList]; omega)]⟩⟩
              have HOW := Lib.hid hown
              have HBW : Hid (Below w.heap.size w wr) := HAL.out.trans (hbel.mono (Nat.le_of_lt HWS.out))
              have hgr : wr.heap[w.heap.size]? = some (.cells #[.int .i64 k, .string s] 23 (0, 0)) := (hbel.block _ HWS.out).trans HG0.out
              have a0 : wr.cell? ⟨w.heap.size, 0, none⟩ = some (.int .i64 k) := cell_of_row _ _ _ _ _ _ hgr
              have HG1 := Lib.hid hgr
              have HBL := Lib.hid hbel
              have HLT := Lib.hid hlt
              clear hrow hcs HC hbel hlt hj hj16 hown hgr
              have hn := HN.out
              have hm3 : (#[.int .u8 ((n : Int) / 256), .int .u8 ((n : Int) % 256), .int .u8 k] : Array Value) = (bcells [UInt8.ofNat (n / 256), UInt8.ofNat n, UInt8.ofNat k.toNat]).toArray := by
                have e1 : ((n : Int) / 256) = ((UInt8.ofNat (n / 256)).toNat : Int) := by rw [UInt8.toNat_ofNat']; omega
                have e2 : ((n : Int) % 256) = ((UInt8.ofNat n).toNat : Int) := by rw [UInt8.toNat_ofNat']; omega
                have e3 : k = ((UInt8.ofNat k.toNat).toNat : Int) := by rw [UInt8.toNat_ofNat']; omega
                rw [e1, e2]
                show #[_, _, Value.int .u8 k] = #[_, _, Value.int .u8 ((UInt8.ofNat k.toNat).toNat : Int)]
                rw [← e3]
              have HM3 := Lib.hid hm3
              clear hn hm3
              obtain ⟨S3, hS3⟩ : ∃ S3, mkS (List.replicate 16 255 ++ [UInt8.ofNat (n / 256), UInt8.ofNat n, UInt8.ofNat k.toNat]) = S3 := ⟨_, rfl⟩
              have hz9 : ¬ 9223372036854775807 < S3.size + s.size := by (have h19 : S3.size = 19 := by rw [← hS3]; rfl); have := HS.out; omega
              have HS3 := Lib.hid hS3
              clear hS3
              go_wp2_with (at_builtin; refine wpList_push3 rfl (.tmp 34) (.tmp 44) rfl W.heap.size (.slice (some ⟨W.heap.size, 0, none⟩) 16 16) (List.replicate 16 255) [UInt8.ofNat (n / 256), UInt8.ofNat n, UInt8.ofNat k.toNat] rfl (own_keep HOW.out fun g hg => Below.heap_alloc _ _ _ (own_lt HOW.out g hg)) wr.heap.size 3 rfl (by rw [← HM3.out]; exact heap_alloc_new _ _) (by simp) (by have := HLT.out; simp; omega) ?_; intro v' w9 hown9 hgrow9; obtain ⟨g9, cap9, rfl, c9⟩ := row_string hown9 (n := 19) (by simp) (by decide); obtain ⟨hbel9, s9⟩ := after_push HBW.out HWS.out HBL.out.size HG1.out hgrow9 (own_ge HOW.out); have HB9 := Lib.hid hbel9; rw [HS3.out] at c9; clear hbel9 hgrow9 hown9)
              have HVV : Hid (mkS R.1 = S3 ++ s ∧ R.2 = 0) := by
                refine ⟨?_, by rw [hr]⟩
                rw [hr, ← HS3.out]
                show mkS (mk (k.toNat, toL s)) = mkS _ ++ mkS (toL s)
                unfold mk mkS
                rw [ByteArray.mk_append_mk, ← HN.out, toL_len]
              exact bodyPost_ret (v := .tuple #[.string (S3 ++ s), .int .i64 0]) (by simp [results, Try.results9, go_sem]) rfl ⟨by rw [HVV.out.1, HVV.out.2], HB9.out⟩
end Go.Proofs.Ytcbkmafekkhpiaa
