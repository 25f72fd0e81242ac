/- heraldlaw09: FrameBack, the walk. -/
import Derived.Test.YtcbkmafekkhpiaaFZ
import Derived.Test.YtcbkmafekkhpiaaFV
import Derived.Test.YtcbkmafekkhpiaaFX
namespace Go.Proofs.Ytcbkmafekkhpiaa
open Go.RowKit
set_option linter.unusedVariables false

theorem prefix_ok {X Y : List UInt8} (h : (cut (X ++ Y)).2.1 = 0) : (cut X).2.1 = 0 := by
  by_cases hq : (cut X).2.1 = 0
  · exact hq
  · rw [cut_appN Y hq] at h; exact h
theorem cut_good (fs : List Fr) (h : GoodFs fs) : cut (fs.map mk).flatten = (fs, 0, []) := by
  have := cut_mks fs [] fun f hf => (h f hf).1
  rw [List.append_nil, cut_nil] at this
  simpa using this

theorem run_pushV (w : World) (base : Nat) (ty : TypeId) (v u : Value) (L M : List Fr) (hown : FRow w base v L) (hu : ∃ b2, FRow w b2 u M) (h63 : L.length + M.length ≤ 1000000) (hbase : base ≤ w.heap.size) :
    ∃ v' w', (Builtin.append_ #[32, 32] ty #[v, u]).run Try.prog w = .ok v' w' ∧ FRow w' base v' (L ++ M) ∧ w.grownBy w' v.ownBlock ∧ (∀ g, v'.ownBlock = some g → v.ownBlock = some g ∨ w.heap.size ≤ g) := by
  obtain ⟨b2, hu⟩ := hu
  rcases hu.2 with ⟨rfl, h0⟩ | ⟨g, cap, cur, rfl, hb, hg, hnc, hcm, hcs, ht⟩
  · have hM : M = [] := List.eq_nil_of_length_eq_zero h0
    subst hM
    refine ⟨v, w, ?_, by rw [List.append_nil]; exact hown, World.grownBy.refl w _, fun g hg => .inl hg⟩
    have hi := infoF
    cases hq : Try.prog.info? 23 with
    | none => rw [hq] at hi; cases hi
    | some i =>
      rcases hown.2 with ⟨rfl, h1⟩ | ⟨g, cap, cur, rfl, _, _, hn, _⟩
      · simp [Builtin.append_, run_underlying Try.underlying32, sizeOf, typeInfo, hq, Builtin.lenOf, Builtin.firstCells]
      · simp [Builtin.append_, run_underlying Try.underlying32, sizeOf, typeInfo, hq, Builtin.lenOf, Builtin.firstCells, storeCells, hn]
  · have hc : ∀ j u, (fcells M)[j]? = some u → w.cell? ((⟨g, 0, none⟩ : Addr).add j) = some u := fun j u hj => by
      have hjl : j < M.length * 2 := by
        rcases Nat.lt_or_ge j (M.length * 2) with h | h
        · exact h
        · rw [List.getElem?_eq_none (by rw [fcells_len]; exact h)] at hj; cases hj
      rw [Addr.add_lit, Nat.zero_add, cell_of_row _ _ _ _ _ _ hg, ← Array.getElem?_toList, ← hj, ← ht, List.getElem?_take_of_lt hjl]
    have hi := infoF
    cases hq : Try.prog.info? 23 with
    | none => rw [hq] at hi; cases hi
    | some i =>
      rw [hq] at hi
      simp only [Option.map_some, Option.some.injEq, Prod.mk.injEq] at hi
      obtain ⟨h1, h2, h3⟩ := hi
      cases hz : i.zero with
      | none => rw [hz] at h1; cases h1
      | some z =>
        rw [hz] at h1
        simp only [Option.map_some, Option.some.injEq] at h1
        have hm1 : L.length + M.length ≤ maxLen := by unfold maxLen; omega
        obtain ⟨v', w', hr, hh2, hh3, _, hh5⟩ := run_append_own_at (P := Try.prog) w base 32 ty 23 i z 2 24 Try.underlying32 hq hz h2 h3 h1 (by decide) v L.length (fcells L) hown ⟨g, 0, none⟩ M.length cap (fcells M) (fcells_len M) hc (fcells_one M) hm1 (by omega) hbase
        refine ⟨v', w', hr, ?_, hh3, fun g' hg' => ?_⟩
        · unfold FRow
          rw [fcells_append, List.length_append]
          exact hh2
        · rcases hh5 with h | h
          · exact .inl (h ▸ hg')
          · rw [h] at hg'
            injection hg' with hg'
            exact .inr (by omega)

theorem wpList_pushV {w : World} {ops : Array Oper} {rest : List Oper} {o : Oper} {a : Act} {Q : Exit → Act → World → Prop} (hgd : o.guard = none) (s x : Operand)
    (ho : o.op = .call { callee := .builtin .append, args := #[s, x], argTypes := #[32, 32] })
    (base : Nat) (v u : Value) (L M : List Fr) (hs : a.eval s = v) (hx : a.eval x = u) (hown : FRow w base v L) (hu : ∃ b2, FRow w b2 u M) (h63 : L.length + M.length ≤ 1000000) (hbase : base ≤ w.heap.size)
    (h : ∀ v' w', FRow w' base v' (L ++ M) → w.grownBy w' v.ownBlock → (∀ g, v'.ownBlock = some g → v.ownBlock = some g ∨ w.heap.size ≤ g) → wpList Try.prog ops Q rest (a.put o.dst v') w') : wpList Try.prog ops Q (o :: rest) a w := by
  refine wpList_plain hgd fun K hK => ?_
  obtain ⟨v', w', hr, h2, h3, h4⟩ := run_pushV w base o.type v u L M hown hu h63 hbase
  unfold Oper.wp execOp
  simp only [ho, resolve, invoke, builtin, Sem.run_bind, Sem.run_pure, Result.andThen_ok, List.map_toArray, List.map_cons, List.map_nil, hs, hx, hr]
  exact hK _ _ (h v' w' h2 h3 h4)

theorem extract_all (s : ByteArray) (n : Nat) (h : s.size = n) : ByteArray.empty = s.extract n s.size := by
  have hz : toL (s.extract n s.size) = [] := List.eq_nil_of_length_eq_zero (by rw [toL_len, ByteArray.size_extract]; omega)
  rw [← mkS_toL (s.extract n s.size), hz]
  rfl

set_option maxHeartbeats 4000000 in
set_option maxRecDepth 10000 in
theorem back_walk (ao : Option Addr) (bl off len cap : Nat) (a2 : Option Addr) (bl2 off2 len2 cap2 : Nat) (w : World) (hm : len ≤ 9223372036854775807) (hao : 0 < len → ao = some ⟨bl, off, none⟩ ∧ bl < w.heap.size) (hst : Tolds w bl off len)
    (hm2 : len2 ≤ 9223372036854775807) (hao2 : 0 < len2 → a2 = some ⟨bl2, off2, none⟩ ∧ bl2 < w.heap.size) (hst2 : ∀ i, i < len2 → ∃ n : Nat, n < 256 ∧ w.cell? ⟨bl2, off2 + i, none⟩ = some (.int .u8 (n : Int))) :
    Calls Try.prog 5 #[.slice ao len cap, .slice a2 len2 cap2] w fun e w' => e = .returned (.bool true) ∧ Below w.heap.size w w' := by
  have z := fun w => zeroV w
  have HAO2 := Lib.hid hao2
  have HST2 := Lib.hid hst2
  have HSTR := Lib.hid (stream_any ao bl off len cap w hm hao hst)
  clear hao hst hao2 hst2
  go_enter Try.func5, Try.ntmps5
  go_wp2_with fail
  refine HSTR.out.mono ?_
  rintro e w5 ⟨fs, vf, rfl, hgood, hfl, hwant, hb5⟩
  obtain ⟨af, cf, rfl⟩ := own_form hwant
  have HGOOD := Lib.hid hgood
  have HCG := Lib.hid (cut_good fs hgood)
  have HSZ : Hid ((mkS (fs.map mk).flatten).size ≤ 6000) := by show _ ≤ _; rw [mkS_size]; have := flat_len fs hgood; omega
  have HWANT := Lib.hid hwant
  have HB5 := Lib.hid hb5
  clear hgood hwant hb5 HSTR
  go_wp2_with fail
  refine (new_any _).mono ?_
  rintro e w6 ⟨rfl, hw6⟩
  have HF6 : Hid (IsF w6 w5.heap.size (.slice none 0 0) [] 0) := hw6 ▸ isF_new w5
  have HB6 : Hid (Below w5.heap.size w5 w6) := hw6 ▸ (Below.refl _ _).alloc (Nat.le_refl _) _
  have HS6 : Hid (w5.heap.size < w6.heap.size) := HF6.out.lt
  clear hw6
  obtain ⟨b, hb⟩ : ∃ b, w5.heap.size = b := ⟨_, rfl⟩
  rw [hb] at HF6 HB6 HS6 ⊢
  have HBB := Lib.hid hb
  clear hb
  obtain ⟨S, hS⟩ : ∃ S, mkS (fs.map mk).flatten = S := ⟨_, rfl⟩
  have HTS : Hid (toL S = (fs.map mk).flatten) := by show _ = _; rw [← hS]; rfl
  rw [hS] at HSZ ⊢
  clear hS
  go_wp2_with fail
  go_loopw [5, 9, 10] (fun s5 s9 s10 wr => ∃ (k : Nat) (sb : ByteArray) (X : List UInt8) (vw : Value), s5 = .string sb ∧ s10 = .int .i64 k ∧ k ≤ 201 ∧ (0 < sb.size → k ≤ 200) ∧ Hid (X ++ toL sb = toL S ∧ IsF wr b vw (cut X).2.2 0 ∧ (cut X).2.1 = 0 ∧ FRow wr w6.heap.size s9 (cut X).1 ∧ Below b w5 wr ∧ w6.heap.size ≤ wr.heap.size ∧ (∀ g, vw.ownBlock = some g → s9.ownBlock ≠ some g) ∧ sb.size ≤ 6000)) (fun _ _ i _ => 202 - (intOf i).toNat)
  case atStart => exact ⟨0, S, [], _, rfl, rfl, by omega, fun _ => by omega, ⟨rfl, by rw [cut_nil]; exact HF6.out, by rw [cut_nil], by rw [cut_nil]; exact FRow.nil _ _, HB6.out, Nat.le_refl _, (fun g hg => by cases hg), HSZ.out⟩⟩
  case round =>
    obtain ⟨k, sb, X, vw, rfl, rfl, hk, hk2, HH⟩ := hrel
    obtain ⟨got, rfl⟩ : ∃ o, o = u9 := ⟨_, rfl⟩
    by_cases hpos : 0 < sb.size
    · have i1 : (0 : Int) < (sb.size : Int) := by omega
      by_cases hc : k < len2 ∧ k < 200
      · obtain ⟨rfl, hbl2⟩ := HAO2.out (by omega)
        obtain ⟨m, hm256, hcell⟩ := HST2.out k hc.1
        have hcr : wr.cell? ⟨bl2, off2 + k, none⟩ = some (.int .u8 (m : Int)) := by
          rw [HH.out.2.2.2.2.1.cell (by show bl2 < b; have := HB5.out.size; have := HBB.out; omega), HB5.out.cell hbl2]
          exact hcell
        have am := w8 m hm256
        obtain ⟨n, hn⟩ : ∃ n, min m sb.size = n := ⟨_, rfl⟩
        have hmin : (if (sb.size : Int) < (m : Int) then (sb.size : Int) else (m : Int)) = (n : Int) := by split <;> omega
        have hmin2 : min (m : Int) (sb.size : Int) = (n : Int) := by omega
        have hnle : n ≤ sb.size := by omega
        have i2 : (0 : Int) ≤ (k : Int) := by omega
        have i3 : (k : Int) < (len2 : Int) := by omega
        have i4 : (k : Int) < 200 := by omega
        have i5 : (n : Int) ≤ (sb.size : Int) := by omega
        have HNK : Hid (k + 1 ≤ 200 ∨ n = sb.size) := .inl (by omega)
        have HSB : Hid (sb.size ≤ 6000) := HH.out.2.2.2.2.2.2.2
        clear hcell hn hm256
        have hn' : n ≤ sb.size := hnle
        have hbm := HH.out
        obtain ⟨k1, k2, k3, k4, k5, k6, k7, k8⟩ := hbm
        have hxl := toL_extract sb 0 n
        rw [List.drop_zero] at hxl
        have hes : (sb.extract 0 n).size = n := by rw [ByteArray.size_extract]; omega
        have hdl := toL_extract sb n sb.size
        rw [← toL_len, List.take_length] at hdl
        have hds : (sb.extract n (toL sb).length).size = sb.size - n := by rw [ByteArray.size_extract, toL_len]; omega
        have hxs := congrArg List.length k1
        rw [List.length_append, toL_len, toL_len] at hxs
        have hput := put_any b vw _ 0 (sb.extract 0 n) wr k2 (by have := (cut_left _ X (Nat.le_refl _)).1; have := HSZ.out; rw [hes]; omega)
        clear hxs
        have hstep := cut_step X ((toL sb).take n)
        rw [k3] at hstep
        rw [hxl] at hput
        obtain ⟨R, hR⟩ : ∃ R, putR (cut X).2.2 0 ((toL sb).take n) = R := ⟨_, rfl⟩
        rw [hR] at hput hstep
        have hXall : (X ++ (toL sb).take n) ++ (toL sb).drop n = toL S := by rw [List.append_assoc, List.take_append_drop]; exact k1
        have hR0 : R.2.1 = 0 := by
          have h1 : (cut ((X ++ (toL sb).take n) ++ (toL sb).drop n)).2.1 = 0 := by rw [hXall, HTS.out, HCG.out]
          have h2 := prefix_ok h1
          rw [hstep] at h2
          exact h2
        obtain ⟨R1, q, l7⟩ := R
        obtain rfl : q = 0 := hR0
        clear hR hxl
        have HSTEP := Lib.hid hstep
        have HXALL := Lib.hid hXall
        have HDL := Lib.hid hdl
        have HDS := Lib.hid hds
        have hgotlt := own_lt k4
        have hgotge := own_ge k4
        have HGL := Lib.hid hgotlt
        have HGG := Lib.hid hgotge
        have HNN := Lib.hid hn'
        clear hgotlt hgotge hn'
        have hb6 := HS6.out
        go_wp2_with fail
        refine hput.mono ?_
        rintro e w7 ⟨va, vw7, he, hr7, hF7, hbt7, hfresh⟩
        have he' : e = .returned (.tuple #[va, .agg #[.int .i64 0, .int .u8 0, .int .u8 0]]) := he
        subst he'
        have hfr7 := hfresh rfl
        have hgot7 : FRow w7 w6.heap.size got (cut X).1 := own_keep k4 fun g hg => hbt7.block g (HGL.out g hg) (by have := HGG.out g hg; omega)
        have hB7 : Below b w5 w7 := k5.trans (hbt7.below (Nat.le_refl _) (by have := HBB.out; have := k5.size; omega))
        have hal : Below w7.heap.size w7 (w7.alloc (.cells #[.int .i64 0, .int .u8 0, .int .u8 0] 34)) := (Below.refl _ _).alloc (Nat.le_refl _) _
        have HGOT8 : Hid (FRow (w7.alloc (.cells #[.int .i64 0, .int .u8 0, .int .u8 0] 34)) w6.heap.size got (cut X).1) := hgot7.below hal
        have HVA8 : Hid (∃ b2, FRow (w7.alloc (.cells #[.int .i64 0, .int .u8 0, .int .u8 0] 34)) b2 va R1) := ⟨_, hr7.below hal⟩
        have HF8 : Hid (IsF (w7.alloc (.cells #[.int .i64 0, .int .u8 0, .int .u8 0] 34)) b vw7 l7 0) := hF7.below hal
        have HB8 : Hid (Below b w5 (w7.alloc (.cells #[.int .i64 0, .int .u8 0, .int .u8 0] 34))) := hB7.alloc (by have := hF7.lt; omega) _
        have HFR : Hid (∀ g, vw7.ownBlock = some g → wr.heap.size ≤ g ∧ g < w7.heap.size) := fun g hg => ⟨hfr7 g hg, (hF7.own g hg).1⟩
        have HS8 : Hid (w6.heap.size ≤ w7.heap.size ∧ wr.heap.size ≤ w7.heap.size) := ⟨Nat.le_trans k6 hbt7.size, hbt7.size⟩
        have HCN : Hid ((cut X).1.length + R1.length ≤ 1000000) := by
          show _ ≤ _
          have h1 := (cut_left _ (X ++ (toL sb).take n) (Nat.le_refl _)).2.1
          rw [hstep] at h1
          have h2 : (X ++ (toL sb).take n).length ≤ S.size := by
            have := congrArg List.length hXall
            rw [List.length_append, toL_len] at this
            omega
          have := HSZ.out
          rw [List.length_append] at h1
          omega
        clear he hr7 hF7 hbt7 hfresh hfr7 hgot7 hB7 hal hput hstep hXall hdl hds hes k1 k2 k3 k4 k5 k6 k7 k8 HH
        go_simp
        go_wp2_with (at_builtin; refine wpList_pushV rfl (.tmp 62) (.tmp 63) rfl w6.heap.size got va (cut X).1 R1 rfl rfl HGOT8.out HVA8.out HCN.out (by have := HS8.out.1; simp; omega) ?_; intro v' w9 hown9 hgrow9 hloc9)
        have hk9 : ∀ g, g < w7.heap.size → got.ownBlock ≠ some g → w9.heap[g]? = (w7.alloc (.cells #[.int .i64 0, .int .u8 0, .int .u8 0] 34)).heap[g]? := fun g hg hn => hgrow9.block g (by simp; omega) (fun h => hn h.symm)
        have hbn : got.ownBlock ≠ some b := fun h => by have := HGG.out b h; omega
        have hF9 : IsF w9 b vw7 l7 0 := by
          refine ⟨(hk9 b (by have := HS8.out.1; omega) hbn).trans HF8.out.blk, HF8.out.rd.keep hgrow9.size fun g hg _ => hk9 g (HFR.out g hg).2 (fun h => by have := HGL.out g h; have := (HFR.out g hg).1; omega), fun g hg => ⟨by have := (HF8.out.own g hg).1; have := hgrow9.size; omega, (HF8.out.own g hg).2⟩, HF8.out.nil⟩
        have HIN : Hid ((X ++ (toL sb).take n) ++ toL (sb.extract n (toL sb).length) = toL S ∧ IsF w9 b vw7 (cut (X ++ (toL sb).take n)).2.2 0 ∧ (cut (X ++ (toL sb).take n)).2.1 = 0 ∧ FRow w9 w6.heap.size v' (cut (X ++ (toL sb).take n)).1 ∧ Below b w5 w9 ∧ w6.heap.size ≤ w9.heap.size ∧ (∀ g, vw7.ownBlock = some g → v'.ownBlock ≠ some g) ∧ (sb.extract n (toL sb).length).size ≤ 6000) := by
          refine ⟨by rw [HDL.out]; exact HXALL.out, by rw [HSTEP.out]; exact hF9, by rw [HSTEP.out], by rw [HSTEP.out]; exact hown9, HB8.out.grown hgrow9 (by have := HB8.out.size; have := HBB.out; simp at *; omega) (fun g hg => by have := HGG.out g hg; omega), by have := hgrow9.size; have := HS8.out.1; simp at *; omega, fun g hg h => ?_, by rw [HDS.out]; have := HSB.out; omega⟩
          have h1 := HFR.out g hg
          rcases hloc9 g h with h2 | h2
          · have := HGL.out g h2; omega
          · simp at h2; omega
        have hkk : (sb.size : Nat) = (toL sb).length := (toL_len sb).symm
        clear hown9 hgrow9 hloc9 hk9 hbn hF9
        go_wp2_with fail
        go_roundw
        case rel => exact ⟨k + 1, sb.extract n (toL sb).length, X ++ (toL sb).take n, vw7, by rw [toL_len], by go_num, by omega, fun h => by have := HDS.out; have := HNK.out; omega, HIN.out⟩
        case measure => simp [intOf]; omega
      · obtain ⟨n, hn⟩ : ∃ n, sb.size = n := ⟨_, rfl⟩
        have hnle : n ≤ sb.size := by omega
        have i2 : (0 : Int) ≤ (k : Int) := by omega
        have HNK : Hid (k + 1 ≤ 200 ∨ n = sb.size) := .inr hn.symm
        have HSB : Hid (sb.size ≤ 6000) := HH.out.2.2.2.2.2.2.2
        by_cases hc2 : k < len2
        · have i3 : (k : Int) < (len2 : Int) := by omega
          have i4 : (200 : Int) ≤ (k : Int) := by omega
          clear hc hc2
          have hn' : n ≤ sb.size := hnle
          have HNE : Hid (sb.size = n) := hn
          have hbm := HH.out
          obtain ⟨k1, k2, k3, k4, k5, k6, k7, k8⟩ := hbm
          have hxl := toL_extract sb 0 n
          rw [List.drop_zero] at hxl
          have hes : (sb.extract 0 n).size = n := by rw [ByteArray.size_extract]; omega
          have hdl := toL_extract sb n sb.size
          rw [← toL_len, List.take_length] at hdl
          have hds : (sb.extract n (toL sb).length).size = sb.size - n := by rw [ByteArray.size_extract, toL_len]; omega
          have hxs := congrArg List.length k1
          rw [List.length_append, toL_len, toL_len] at hxs
          have hput := put_any b vw _ 0 (sb.extract 0 n) wr k2 (by have := (cut_left _ X (Nat.le_refl _)).1; have := HSZ.out; rw [hes]; omega)
          clear hxs
          have hstep := cut_step X ((toL sb).take n)
          rw [k3] at hstep
          rw [hxl] at hput
          obtain ⟨R, hR⟩ : ∃ R, putR (cut X).2.2 0 ((toL sb).take n) = R := ⟨_, rfl⟩
          rw [hR] at hput hstep
          have hXall : (X ++ (toL sb).take n) ++ (toL sb).drop n = toL S := by rw [List.append_assoc, List.take_append_drop]; exact k1
          have hR0 : R.2.1 = 0 := by
            have h1 : (cut ((X ++ (toL sb).take n) ++ (toL sb).drop n)).2.1 = 0 := by rw [hXall, HTS.out, HCG.out]
            have h2 := prefix_ok h1
            rw [hstep] at h2
            exact h2
          obtain ⟨R1, q, l7⟩ := R
          obtain rfl : q = 0 := hR0
          clear hR hxl
          have HSTEP := Lib.hid hstep
          have HXALL := Lib.hid hXall
          have HDL := Lib.hid hdl
          have HDS := Lib.hid hds
          have hgotlt := own_lt k4
          have hgotge := own_ge k4
          have HGL := Lib.hid hgotlt
          have HGG := Lib.hid hgotge
          have HNN := Lib.hid hn'
          clear hgotlt hgotge hn'
          have hb6 := HS6.out
          go_wp2_with fail
          refine hput.mono ?_
          rintro e w7 ⟨va, vw7, he, hr7, hF7, hbt7, hfresh⟩
          have he' : e = .returned (.tuple #[va, .agg #[.int .i64 0, .int .u8 0, .int .u8 0]]) := he
          subst he'
          have hfr7 := hfresh rfl
          have hgot7 : FRow w7 w6.heap.size got (cut X).1 := own_keep k4 fun g hg => hbt7.block g (HGL.out g hg) (by have := HGG.out g hg; omega)
          have hB7 : Below b w5 w7 := k5.trans (hbt7.below (Nat.le_refl _) (by have := HBB.out; have := k5.size; omega))
          have hal : Below w7.heap.size w7 (w7.alloc (.cells #[.int .i64 0, .int .u8 0, .int .u8 0] 34)) := (Below.refl _ _).alloc (Nat.le_refl _) _
          have HGOT8 : Hid (FRow (w7.alloc (.cells #[.int .i64 0, .int .u8 0, .int .u8 0] 34)) w6.heap.size got (cut X).1) := hgot7.below hal
          have HVA8 : Hid (∃ b2, FRow (w7.alloc (.cells #[.int .i64 0, .int .u8 0, .int .u8 0] 34)) b2 va R1) := ⟨_, hr7.below hal⟩
          have HF8 : Hid (IsF (w7.alloc (.cells #[.int .i64 0, .int .u8 0, .int .u8 0] 34)) b vw7 l7 0) := hF7.below hal
          have HB8 : Hid (Below b w5 (w7.alloc (.cells #[.int .i64 0, .int .u8 0, .int .u8 0] 34))) := hB7.alloc (by have := hF7.lt; omega) _
          have HFR : Hid (∀ g, vw7.ownBlock = some g → wr.heap.size ≤ g ∧ g < w7.heap.size) := fun g hg => ⟨hfr7 g hg, (hF7.own g hg).1⟩
          have HS8 : Hid (w6.heap.size ≤ w7.heap.size ∧ wr.heap.size ≤ w7.heap.size) := ⟨Nat.le_trans k6 hbt7.size, hbt7.size⟩
          have HCN : Hid ((cut X).1.length + R1.length ≤ 1000000) := by
            show _ ≤ _
            have h1 := (cut_left _ (X ++ (toL sb).take n) (Nat.le_refl _)).2.1
            rw [hstep] at h1
            have h2 : (X ++ (toL sb).take n).length ≤ S.size := by
              have := congrArg List.length hXall
              rw [List.length_append, toL_len] at this
              omega
            have := HSZ.out
            rw [List.length_append] at h1
            omega
          clear he hr7 hF7 hbt7 hfresh hfr7 hgot7 hB7 hal hput hstep hXall hdl hds hes k1 k2 k3 k4 k5 k6 k7 k8 HH
          go_simp
          go_wp2_with (at_builtin; refine wpList_pushV rfl (.tmp 62) (.tmp 63) rfl w6.heap.size got va (cut X).1 R1 rfl rfl HGOT8.out HVA8.out HCN.out (by have := HS8.out.1; simp; omega) ?_; intro v' w9 hown9 hgrow9 hloc9)
          have hk9 : ∀ g, g < w7.heap.size → got.ownBlock ≠ some g → w9.heap[g]? = (w7.alloc (.cells #[.int .i64 0, .int .u8 0, .int .u8 0] 34)).heap[g]? := fun g hg hn => hgrow9.block g (by simp; omega) (fun h => hn h.symm)
          have hbn : got.ownBlock ≠ some b := fun h => by have := HGG.out b h; omega
          have hF9 : IsF w9 b vw7 l7 0 := by
            refine ⟨(hk9 b (by have := HS8.out.1; omega) hbn).trans HF8.out.blk, HF8.out.rd.keep hgrow9.size fun g hg _ => hk9 g (HFR.out g hg).2 (fun h => by have := HGL.out g h; have := (HFR.out g hg).1; omega), fun g hg => ⟨by have := (HF8.out.own g hg).1; have := hgrow9.size; omega, (HF8.out.own g hg).2⟩, HF8.out.nil⟩
          have HIN : Hid ((X ++ (toL sb).take n) ++ toL (sb.extract n (toL sb).length) = toL S ∧ IsF w9 b vw7 (cut (X ++ (toL sb).take n)).2.2 0 ∧ (cut (X ++ (toL sb).take n)).2.1 = 0 ∧ FRow w9 w6.heap.size v' (cut (X ++ (toL sb).take n)).1 ∧ Below b w5 w9 ∧ w6.heap.size ≤ w9.heap.size ∧ (∀ g, vw7.ownBlock = some g → v'.ownBlock ≠ some g) ∧ (sb.extract n (toL sb).length).size ≤ 6000) := by
            refine ⟨by rw [HDL.out]; exact HXALL.out, by rw [HSTEP.out]; exact hF9, by rw [HSTEP.out], by rw [HSTEP.out]; exact hown9, HB8.out.grown hgrow9 (by have := HB8.out.size; have := HBB.out; simp at *; omega) (fun g hg => by have := HGG.out g hg; omega), by have := hgrow9.size; have := HS8.out.1; simp at *; omega, fun g hg h => ?_, by rw [HDS.out]; have := HSB.out; omega⟩
            have h1 := HFR.out g hg
            rcases hloc9 g h with h2 | h2
            · have := HGL.out g h2; omega
            · simp at h2; omega
          have hkk : (sb.size : Nat) = (toL sb).length := (toL_len sb).symm
          clear hown9 hgrow9 hloc9 hk9 hbn hF9
          go_wp2_with fail
          go_roundw
          case rel => exact ⟨k + 1, sb.extract n (toL sb).length, X ++ (toL sb).take n, vw7, by rw [toL_len, ← extract_all sb n HNE.out], by go_num, by omega, fun h => by have := HDS.out; have := HNK.out; omega, HIN.out⟩
          case measure => simp [intOf]; omega
        · have i3 : (len2 : Int) ≤ (k : Int) := by omega
          clear hc hc2
          have hn' : n ≤ sb.size := hnle
          have HNE : Hid (sb.size = n) := hn
          have hbm := HH.out
          obtain ⟨k1, k2, k3, k4, k5, k6, k7, k8⟩ := hbm
          have hxl := toL_extract sb 0 n
          rw [List.drop_zero] at hxl
          have hes : (sb.extract 0 n).size = n := by rw [ByteArray.size_extract]; omega
          have hdl := toL_extract sb n sb.size
          rw [← toL_len, List.take_length] at hdl
          have hds : (sb.extract n (toL sb).length).size = sb.size - n := by rw [ByteArray.size_extract, toL_len]; omega
          have hxs := congrArg List.length k1
          rw [List.length_append, toL_len, toL_len] at hxs
          have hput := put_any b vw _ 0 (sb.extract 0 n) wr k2 (by have := (cut_left _ X (Nat.le_refl _)).1; have := HSZ.out; rw [hes]; omega)
          clear hxs
          have hstep := cut_step X ((toL sb).take n)
          rw [k3] at hstep
          rw [hxl] at hput
          obtain ⟨R, hR⟩ : ∃ R, putR (cut X).2.2 0 ((toL sb).take n) = R := ⟨_, rfl⟩
          rw [hR] at hput hstep
          have hXall : (X ++ (toL sb).take n) ++ (toL sb).drop n = toL S := by rw [List.append_assoc, List.take_append_drop]; exact k1
          have hR0 : R.2.1 = 0 := by
            have h1 : (cut ((X ++ (toL sb).take n) ++ (toL sb).drop n)).2.1 = 0 := by rw [hXall, HTS.out, HCG.out]
            have h2 := prefix_ok h1
            rw [hstep] at h2
            exact h2
          obtain ⟨R1, q, l7⟩ := R
          obtain rfl : q = 0 := hR0
          clear hR hxl
          have HSTEP := Lib.hid hstep
          have HXALL := Lib.hid hXall
          have HDL := Lib.hid hdl
          have HDS := Lib.hid hds
          have hgotlt := own_lt k4
          have hgotge := own_ge k4
          have HGL := Lib.hid hgotlt
          have HGG := Lib.hid hgotge
          have HNN := Lib.hid hn'
          clear hgotlt hgotge hn'
          have hb6 := HS6.out
          go_wp2_with fail
          refine hput.mono ?_
          rintro e w7 ⟨va, vw7, he, hr7, hF7, hbt7, hfresh⟩
          have he' : e = .returned (.tuple #[va, .agg #[.int .i64 0, .int .u8 0, .int .u8 0]]) := he
          subst he'
          have hfr7 := hfresh rfl
          have hgot7 : FRow w7 w6.heap.size got (cut X).1 := own_keep k4 fun g hg => hbt7.block g (HGL.out g hg) (by have := HGG.out g hg; omega)
          have hB7 : Below b w5 w7 := k5.trans (hbt7.below (Nat.le_refl _) (by have := HBB.out; have := k5.size; omega))
          have hal : Below w7.heap.size w7 (w7.alloc (.cells #[.int .i64 0, .int .u8 0, .int .u8 0] 34)) := (Below.refl _ _).alloc (Nat.le_refl _) _
          have HGOT8 : Hid (FRow (w7.alloc (.cells #[.int .i64 0, .int .u8 0, .int .u8 0] 34)) w6.heap.size got (cut X).1) := hgot7.below hal
          have HVA8 : Hid (∃ b2, FRow (w7.alloc (.cells #[.int .i64 0, .int .u8 0, .int .u8 0] 34)) b2 va R1) := ⟨_, hr7.below hal⟩
          have HF8 : Hid (IsF (w7.alloc (.cells #[.int .i64 0, .int .u8 0, .int .u8 0] 34)) b vw7 l7 0) := hF7.below hal
          have HB8 : Hid (Below b w5 (w7.alloc (.cells #[.int .i64 0, .int .u8 0, .int .u8 0] 34))) := hB7.alloc (by have := hF7.lt; omega) _
          have HFR : Hid (∀ g, vw7.ownBlock = some g → wr.heap.size ≤ g ∧ g < w7.heap.size) := fun g hg => ⟨hfr7 g hg, (hF7.own g hg).1⟩
          have HS8 : Hid (w6.heap.size ≤ w7.heap.size ∧ wr.heap.size ≤ w7.heap.size) := ⟨Nat.le_trans k6 hbt7.size, hbt7.size⟩
          have HCN : Hid ((cut X).1.length + R1.length ≤ 1000000) := by
            show _ ≤ _
            have h1 := (cut_left _ (X ++ (toL sb).take n) (Nat.le_refl _)).2.1
            rw [hstep] at h1
            have h2 : (X ++ (toL sb).take n).length ≤ S.size := by
              have := congrArg List.length hXall
              rw [List.length_append, toL_len] at this
              omega
            have := HSZ.out
            rw [List.length_append] at h1
            omega
          clear he hr7 hF7 hbt7 hfresh hfr7 hgot7 hB7 hal hput hstep hXall hdl hds hes k1 k2 k3 k4 k5 k6 k7 k8 HH
          go_simp
          go_wp2_with (at_builtin; refine wpList_pushV rfl (.tmp 62) (.tmp 63) rfl w6.heap.size got va (cut X).1 R1 rfl rfl HGOT8.out HVA8.out HCN.out (by have := HS8.out.1; simp; omega) ?_; intro v' w9 hown9 hgrow9 hloc9)
          have hk9 : ∀ g, g < w7.heap.size → got.ownBlock ≠ some g → w9.heap[g]? = (w7.alloc (.cells #[.int .i64 0, .int .u8 0, .int .u8 0] 34)).heap[g]? := fun g hg hn => hgrow9.block g (by simp; omega) (fun h => hn h.symm)
          have hbn : got.ownBlock ≠ some b := fun h => by have := HGG.out b h; omega
          have hF9 : IsF w9 b vw7 l7 0 := by
            refine ⟨(hk9 b (by have := HS8.out.1; omega) hbn).trans HF8.out.blk, HF8.out.rd.keep hgrow9.size fun g hg _ => hk9 g (HFR.out g hg).2 (fun h => by have := HGL.out g h; have := (HFR.out g hg).1; omega), fun g hg => ⟨by have := (HF8.out.own g hg).1; have := hgrow9.size; omega, (HF8.out.own g hg).2⟩, HF8.out.nil⟩
          have HIN : Hid ((X ++ (toL sb).take n) ++ toL (sb.extract n (toL sb).length) = toL S ∧ IsF w9 b vw7 (cut (X ++ (toL sb).take n)).2.2 0 ∧ (cut (X ++ (toL sb).take n)).2.1 = 0 ∧ FRow w9 w6.heap.size v' (cut (X ++ (toL sb).take n)).1 ∧ Below b w5 w9 ∧ w6.heap.size ≤ w9.heap.size ∧ (∀ g, vw7.ownBlock = some g → v'.ownBlock ≠ some g) ∧ (sb.extract n (toL sb).length).size ≤ 6000) := by
            refine ⟨by rw [HDL.out]; exact HXALL.out, by rw [HSTEP.out]; exact hF9, by rw [HSTEP.out], by rw [HSTEP.out]; exact hown9, HB8.out.grown hgrow9 (by have := HB8.out.size; have := HBB.out; simp at *; omega) (fun g hg => by have := HGG.out g hg; omega), by have := hgrow9.size; have := HS8.out.1; simp at *; omega, fun g hg h => ?_, by rw [HDS.out]; have := HSB.out; omega⟩
            have h1 := HFR.out g hg
            rcases hloc9 g h with h2 | h2
            · have := HGL.out g h2; omega
            · simp at h2; omega
          have hkk : (sb.size : Nat) = (toL sb).length := (toL_len sb).symm
          clear hown9 hgrow9 hloc9 hk9 hbn hF9
          go_wp2_with fail
          go_roundw
          case rel => exact ⟨k + 1, sb.extract n (toL sb).length, X ++ (toL sb).take n, vw7, by rw [toL_len, ← extract_all sb n HNE.out], by go_num, by omega, fun h => by have := HDS.out; have := HNK.out; omega, HIN.out⟩
          case measure => simp [intOf]; omega
    · have i1 : (sb.size : Int) ≤ 0 := by omega
      have hX : X = toL S := by
        have := HH.out.1
        have h0 : toL sb = [] := List.eq_nil_of_length_eq_zero (by rw [toL_len]; omega)
        rw [h0, List.append_nil] at this
        exact this
      have hcX : cut X = (fs, 0, []) := by rw [hX, HTS.out]; exact HCG.out
      have H2 := HH.out
      rw [hcX] at H2
      have HF7 : Hid (IsF wr b vw [] 0) := H2.2.1
      have HGOT : Hid (FRow wr w6.heap.size got fs) := H2.2.2.2.1
      have HBW : Hid (Below b w5 wr) := H2.2.2.2.2.1
      clear H2 HH hX hcX hpos hk hk2
      obtain ⟨ag, cg, rfl⟩ := own_form HGOT.out
      have HGR := Lib.hid HGOT.out.rd
      have HWR : Hid (FRd wr (.slice af fs.length cf) fs) := HWANT.out.rd.keep (by have := HBW.out.size; have := HBB.out; omega) fun g _ hg => HBW.out.block g (by have := HBB.out; omega)
      have HBF : Hid (Below w.heap.size w wr) := HB5.out.trans (HBW.out.mono (by have := HB5.out.size; have := HBB.out; omega))
      clear HGOT HBW
      go_wp2_with fail
      refine (left_any b _ _ _ _ HF7.out).mono ?_
      rintro e w8 ⟨rfl, rfl⟩
      go_wp2_with fail
      obtain ⟨ao1, cap1, g1, off1, hv1, _, ha1, hc1⟩ := HGR.out
      obtain ⟨ao3, cap3, g3, off3, hv3, hm3, ha3, hc3⟩ := HWR.out
      injection hv1 with e1 e2 e3
      injection hv3 with e4 e5 e6
      subst e1 e4
      have HA1 := Lib.hid ha1
      have HA3 := Lib.hid ha3
      have HC1 := Lib.hid hc1
      have HC3 := Lib.hid hc3
      clear e2 e3 e5 e6 ha1 ha3 hc1 hc3 HF7
      obtain ⟨wo, hwo⟩ : ∃ wo : World, wo = wr := ⟨_, rfl⟩
      rw [← hwo] at HC1 HC3 HBF
      have HWO := Lib.hid hwo
      clear hwo
      go_loopw [14] (fun i wx => ∃ j : Nat, i = .int .i64 j ∧ j ≤ fs.length ∧ Still wo wx) (fun i _ => fs.length - (intOf i).toNat)
      case atStart => exact ⟨0, rfl, Nat.zero_le _, HWO.out ▸ Still.refl _⟩
      case round =>
        obtain ⟨j, rfl, hj, hst⟩ := hrel
        have HST := Lib.hid hst
        clear hst
        by_cases hlt : j < fs.length
        · obtain ⟨rfl, hg⟩ := HA1.out (by omega)
          obtain ⟨rfl, hg'⟩ := HA3.out (by omega)
          have hcc : ∀ p, wr.cell? p = wo.cell? p := fun p => by unfold World.cell?; rw [HST.out.heap]
          have a0 := (hcc _).trans (HC1.out j hlt).1
          have a1 := (hcc _).trans (HC1.out j hlt).2
          have b0 := (hcc _).trans (HC3.out j hlt).1
          have b1 := (hcc _).trans (HC3.out j hlt).2
          clear hcc
          generalize (fs.getD j (0, [])).1 = x at *
          generalize mkS (fs.getD j (0, [])).2 = y at *
          have i3 : (0 : Int) ≤ (j : Int) := by omega
          have i4 : (j : Int) < (fs.length : Int) := by omega
          go_wp2_with fail
          go_quiet (fail)
          have hst3 : Still wo (wr.drewN nq) := ⟨HST.out.heap, HST.out.os, HST.out.tape, HST.out.output⟩
          have HST3 := Lib.hid hst3
          clear hst3
          go_wp2
          go_roundw
          case rel => exact ⟨j + 1, by go_num, by omega, HST3.out⟩
          case measure => simp [intOf]; omega
        · obtain rfl : j = fs.length := by omega
          have hbw := HBF.out.trans HST.out.below
          clear hlt hj
          go_wp2_with fail
          refine (works_any _).mono ?_
          rintro e w3 ⟨rfl, hb3⟩
          have hbw3 := hbw.trans (hb3.mono hbw.size)
          clear hb3 hbw
          go_wp2_with fail
          go_ret
          exact ⟨rfl, hbw3⟩
end Go.Proofs.Ytcbkmafekkhpiaa
