/- (*Rib).Copy. -/
import Derived.Test.YtcljkcgccahlcaaTU
import Derived.StillTailTactics
namespace Go.Proofs.Ytcljkcgccahlcaa
open Go.RowKit
set_option linter.unusedVariables false

/-- G is F but for what is still to come. -/
structure CopyTo (F : Tbl) (left : Lit → Bool) (G : Tbl) : Prop where
  is : ∀ p x, G p = some x ↔ F p = some x ∧ left p.kl = false
theorem CopyTo.start {F : Tbl} {D : DataW Value} (hL : Like D F) : CopyTo F (Maps.has D) (fun _ => none) :=
  ⟨fun p x => ⟨fun h => (by cases h), fun h => (by obtain ⟨hx, h2⟩ := h; rw [hL.has hx] at h2; cases h2)⟩⟩
theorem CopyTo.done {F G : Tbl} {left : Lit → Bool} (h : CopyTo F left G) (hl : ∀ k, left k = false) : G = F := by
  funext p
  cases hG : G p with
  | some x => exact ((h.is p x).1 hG).1.symm
  | none =>
    cases hF : F p with
    | none => rfl
    | some x => have := (h.is p x).2 ⟨hF, hl _⟩; rw [hG] at this; cases this
theorem CopyTo.next {F G : Tbl} {D : DataW Value} (hL : Like D F) {left : Lit → Bool} (h : CopyTo F left G) {p : Pl} {x : To} (hp : p.Ok) (hx : F p = some x) : CopyTo F (fun z => left z && !z.sameKey p.kl) (G.set p (some x)) := by
  refine ⟨fun q y => ?_⟩
  by_cases e : q = p
  · subst e
    rw [G.set_same, hx]
    simp [same_kl hp hp]
  · rw [G.set_other _ e, h.is]
    constructor
    · rintro ⟨a, b⟩; exact ⟨a, by simp [b]⟩
    · rintro ⟨a, b⟩; exact ⟨a, by simpa [same_kl (hL.ok q y a) hp, e] using b⟩

theorem range_back {w : World} {g : Nat} {x : To} (h : w.rangeAt g 0 x.list) (ht : w.there g 1 16) : (w.setCells g 1 (aC x.orig x.hm x.med).toList).rangeAt g 0 x.list := by
  intro j v hv
  have e : x.list = .int .u32 x.label :: ((aC x.orig x.hm x.med).toList ++ [.bool x.stale]) := rfl
  have hl : (aC x.orig x.hm x.med).toList.length = 16 := rfl
  rw [Nat.zero_add]
  by_cases hj : 1 ≤ j ∧ j < 17
  · obtain ⟨i, rfl⟩ : ∃ i, j = 1 + i := ⟨j - 1, by omega⟩
    refine World.rangeAt_setCells_same w g 1 _ (by rw [hl]; exact ht) i v ?_
    rw [e, Nat.add_comm 1 i, List.getElem?_cons_succ, List.getElem?_append_left (by omega)] at hv
    exact hv
  · rw [World.cell?_setCells_out g _ 1 w ⟨g, j, none⟩ (fun _ _ => by show j < 1 ∨ 1 + _ ≤ j; rw [hl]; omega)]
    have := h j v hv
    rwa [Nat.zero_add] at this

theorem wpList_update {w : World} {ops : Array Oper} {rest : List Oper} {o : Oper} {a : Act} {Q : Exit → Act → World → Prop} (hgd : o.guard = none) (mo ko vo : Operand)
    (ho : o.op = .mapUpdate 74 mo ko vo)
    (m n : Nat) (F : Tbl) (p : Pl) (x : To) (hm : a.eval mo = .map (some m)) (hk : a.eval ko = .agg p.val) (hv : a.eval vo = .agg x.cells) (hM : MapIs w m n F) (hn : n < maxLen) (hp : p.Ok)
    (h : ∀ w', MapIs w' m (n + 1) (F.set p (some x)) → But m w w' → wpList Try.prog ops Q rest (a.put o.dst undef) w') : wpList Try.prog ops Q (o :: rest) a w := by
  refine wpList_plain hgd fun K hK => ?_
  obtain ⟨w', hr, h2, h3⟩ := hM.update hn hp x
  unfold Oper.wp execOp
  simp only [ho, hm, hk, hv, Sem.run_bind, hr, Result.andThen_ok, Sem.run_pure]
  exact hK _ _ (h w' h2 h3)

theorem still_load_row {P : Program} {ops : Array Oper} {w : World} {Q : Act → Prop} {a : Act} {o : Oper} {rest : List Oper} (hgd : o.guard = none) (ty : TypeId) (x : Operand) (ho : o.op = .load ty x)
    (g : Nat) (hx : a.eval x = .pointer (some ⟨g, 0, none⟩)) (t : TypeId) (cs : Array Value) (fr : Nat × Nat) (d : TypeDesc) (hg : w.heap[g]? = some (.cells cs t fr))
    (hu : P.underlying ty = some d) (hd : (match d with | .struct _ | .array _ _ => true | _ => false) = true) (hi : (P.info? ty).map (·.size) = some cs.size)
    (h : wpStill P ops w Q rest (a.put o.dst (.agg cs))) : wpStill P ops w Q (o :: rest) a := by
  refine wpStill_step fun K hK => ?_
  have hw : Region.wanted o (yielded ops a.tmps) = true := by simp [Region.wanted, hgd]
  rw [if_pos hw]
  unfold Oper.still execOp
  simp only [ho, hx, Instr.loadAt, Instr.sureAddr, Sem.run_bind, Sem.run_pure, Result.andThen_ok, run_loadVar_row w g t ty cs fr d hg hu hd hi]
  exact ⟨rfl, hK _ h⟩

theorem row_of_range {w : World} {g : Nat} {t : TypeId} {fr : Nat × Nat} {C C' : Array Value} (h : w.heap[g]? = some (.cells C' t fr)) (hs : C'.size = C.size) (hr : w.rangeAt g 0 C.toList) : w.heap[g]? = some (.cells C t fr) := by
  rw [h]
  congr 2
  apply Array.ext_getElem?
  intro j
  by_cases hj : j < C.size
  · have := hr j C[j] (by simp [hj])
    rw [cell_of_row _ _ _ _ _ _ h, Nat.zero_add] at this
    rw [this]; simp [hj]
  · rw [Array.getElem?_eq_none (by omega), Array.getElem?_eq_none (by omega)]

theorem but_setCells {g : Nat} {w : World} : ∀ {vs : List Value} {o : Nat} {W : World} (h : But g w W), But g w (W.setCells g o vs)
  | [], _, _, h => h
  | v :: r, o, W, h => but_setCells (vs := r) (h.setCell o v)

set_option maxRecDepth 100000 in
set_option maxHeartbeats 4000000 in
theorem rcopy_any (b m n : Nat) (F : Tbl) (w : World) (h : IsRib w b m n F) (hn : n < 100000) :
    Calls Try.prog 13 #[.pointer (some ⟨b, 0, none⟩)] w fun e w' => ∃ b2 m2, e = .returned (.pointer (some ⟨b2, 0, none⟩)) ∧ IsRib w' b2 m2 n F ∧ w.heap.size ≤ b2 ∧ w.heap.size ≤ m2 ∧ Below w.heap.size w w' := by
  have HR := Lib.hid h
  have hat := h.at_
  have hmost := h.most
  clear h
  go_enter Try.func13, Try.ntmps13
  go_wp2_with fail
  refine (rnone_no b m _ hat).mono ?_
  rintro e w' ⟨rfl, rfl⟩
  go_wp2_with fail
  refine (newRib_any _).mono ?_
  rintro e w1 ⟨b2, m2, rfl, hR2, hb2, hm2, hB1⟩
  have hR1 := HR.out.below hB1
  have hs1 := hB1.size
  have hat1 := hR1.at_
  obtain ⟨D, hown, hlike⟩ := hR1.map
  have hLike := Lib.hid hlike
  have hsz := hown.size_le
  have hmlt := HR.out.map.lt
  have hblt := HR.out.lt
  have hml1 := hown.lt
  have hco : Hid (CopyTo F (Maps.has D) (fun _ => none)) := CopyTo.start hlike
  clear hlike hmost hat
  go_wp2_with (at_range; refine wpList_range_own _ rfl _ 74 rfl 83 85 lawPl Try.underlying74 toR m n D rfl hown ?_; intro w0 hrg0 hg0 hs0)
  go_frame
  have hb0 : Below w1.heap.size w1 w0 := ⟨hg0.os, hg0.tape, hg0.output, hg0.size, fun k hk => hg0.block k hk (by simp)⟩
  have hR20 : IsRib w0 b2 m2 0 (fun _ => none) := hR2.below hb0
  have hB0 : Below w.heap.size w w0 := hB1.trans (hb0.mono hs1)
  have hm2n := hR2.map.lt
  have hb2n := hR2.lt
  have hbm2 := hR2.ne
  clear hg0 hb0 hR2 hR1 hB1
  go_loopw [4] (fun _ wr => ∃ (left : Lit → Bool) (cnt k : Nat) (G : Tbl), wr.ranges Try.prog 83 toR m w1.heap.size n D left cnt ∧ IsRib wr b2 m2 k G ∧ Hid (CopyTo F left G) ∧ k + cnt ≤ n ∧ Below w.heap.size w wr) (fun _ wr => wr.rangeLeft m w1.heap.size)
  case atStart => exact ⟨_, _, 0, _, hrg0, hR20, hco, by simpa using hsz, hB0⟩
  case round =>
    obtain ⟨left, cnt, k, G, hrg, hRG, hcp, hlen, hbel⟩ := hrel
    clear hrg0 hco hown hR20 hB0
    have hbs := hbel.size
    have hleft := hrg.left_eq
    have HLF := Lib.hid hleft
    clear hleft
    go_wp2_with (at_next; refine wpList_next_ranges _ rfl _ rfl 83 lawPl toR mkP mkT invP invT m w1.heap.size n D left cnt rfl hrg ?_ ?_)
    · intro hc0 hl0
      have hG := hcp.out.done hl0
      subst hG
      have hRE : IsRib wr b2 m2 n G := hRG.mono (by omega)
      clear hl0 hcp hrg hRG
      go_wp2
      go_ret
      exact ⟨b2, m2, rfl, hRE, hb2, hm2, hbel⟩
    · intro p x kl y0 y1 w2 cnt1 hkey hlk hR hat2 hrg1 hlt hgr1 hs2 hen
      obtain ⟨hpok, hkl, hFp⟩ := step_fact hLike.out hkey hR hat2
      have hrlt := hrg.lt
      subst hkl
      have hcp2 : Hid (CopyTo F (fun z => left z && !z.sameKey p.kl) (G.set p (some x))) := hcp.out.next hLike.out hpok hFp
      have hbel1 : Below w.heap.size w w2 := hbel.trans ⟨hgr1.os, hgr1.tape, hgr1.output, hgr1.size, fun j hj => hgr1.block j (by omega) (fun e => by have := Option.some.inj e; omega)⟩
      have hRG1 : IsRib w2 b2 m2 k G := hRG.keep (hgr1.block b2 (by omega) (fun e => by have := Option.some.inj e; omega)) (hgr1.block m2 (by omega) (fun e => by have := Option.some.inj e; omega))
      have HLT := Lib.hid hlt
      have hsz1 : w1.heap.size + 1 ≤ w2.heap.size := by omega
      have hlen1 : k + 1 + cnt1 ≤ n := by omega
      have HOK := Lib.hid hpok
      clear hkey hR hat2 hlk hFp hcp hrg hRG hgr1 hbel hs2 hpok hlt hlen hrlt hbs
      simp only [mkP, mkT] at hen ⊢
      have z1 := fun w => zeroPl w
      have z2 := fun w => zeroTo w
      have z3 := to_ne To.zero
      go_upto_region 7 with (first
        | (refine wpList_store_row rfl 85 (.tmp 5) (.tmp 22) rfl (w2.heap.size + 1) x.cells rfl rfl 85 To.zero.cells (heap_alloc2_new _ _ _) sizeTo rfl (to_one x) ?_; rw [setRow_second]))
      have hrg4 := (hrg1.alloc (Obj.cells #[.int .i64 p.fam, .int .u64 p.rd, .string p.addr, .int .i64 p.len, .int .u32 p.id] 83)).alloc (Obj.cells x.cells 85)
      have hbelA : Below w2.heap.size w2 ((w2.alloc (Obj.cells #[.int .i64 p.fam, .int .u64 p.rd, .string p.addr, .int .i64 p.len, .int .u32 p.id] 83)).alloc (Obj.cells x.cells 85)) := ((Below.refl _ _).alloc (Nat.le_refl _) _).alloc (by simp) _
      have hblk8 : ((w2.alloc (Obj.cells #[.int .i64 p.fam, .int .u64 p.rd, .string p.addr, .int .i64 p.len, .int .u32 p.id] 83)).alloc (Obj.cells x.cells 85)).heap[w2.heap.size]? = some (Obj.cells #[.int .i64 p.fam, .int .u64 p.rd, .string p.addr, .int .i64 p.len, .int .u32 p.id] 83) := by rw [Below.heap_alloc _ _ _ (by simp)]; exact heap_alloc_new _ _
      have hblk9 : ((w2.alloc (Obj.cells #[.int .i64 p.fam, .int .u64 p.rd, .string p.addr, .int .i64 p.len, .int .u32 p.id] 83)).alloc (Obj.cells x.cells 85)).heap[w2.heap.size + 1]? = some (.cells x.cells 85 (0, 0)) := heap_alloc2_new _ _ _
      have hs4 : ((w2.alloc (Obj.cells #[.int .i64 p.fam, .int .u64 p.rd, .string p.addr, .int .i64 p.len, .int .u32 p.id] 83)).alloc (Obj.cells x.cells 85)).heap.size = w2.heap.size + 2 := by simp
      have hR4 := hRG1.below hbelA
      generalize (w2.alloc (Obj.cells #[.int .i64 p.fam, .int .u64 p.rd, .string p.addr, .int .i64 p.len, .int .u32 p.id] 83)).alloc (Obj.cells x.cells 85) = W4 at *
      obtain ⟨g8, hg8⟩ : ∃ g8, w2.heap.size = g8 := ⟨_, rfl⟩
      rw [hg8] at hblk8 hblk9 hs4 hbelA ⊢
      obtain ⟨d0, d1, d2, d3, d4, d5, d6, d7, d8, d9, d10, d11, d12, d13, d14, d15, d16, d17⟩ := cellsT_of_range (x := x) (rangeAt_row hblk9)
      clear z1 z2 z3 hen hrg1 hRG1
      go_wp2_with fail
      refine (acopy_any x.orig x.hm x.med _).mono ?_
      rintro e w7 ⟨rfl, hb7⟩
      clear d0 d1 d2 d3 d4 d5 d6 d7 d8 d9 d10 d11 d12 d13 d14 d15 d16 d17
      have hblk9' := (hb7.block _ (by omega)).trans hblk9
      have hth : w7.there (g8 + 1) 1 16 := by
        intro j hj
        refine ⟨?_, frozen_of_row _ _ _ _ _ hblk9'⟩
        rw [cell_of_row _ _ _ _ _ _ hblk9']
        have : 1 + j < x.cells.size := by show 1 + j < 18; omega
        simp [this]
      have hrg9 := range_back (rangeAt_row (C := x.cells) hblk9') hth
      go_wp2_with (refine wpList_store_mid rfl 47 (.tmp 26) (.tmp 25) rfl (g8 + 1) 1 (aC x.orig x.hm x.med) rfl rfl hth sizeA (aC_one _ _ _) ?_)
      have hbel8 : Below g8 w2 (w7.setCells (g8 + 1) 1 (aC x.orig x.hm x.med).toList) := below_setCells (hbelA.trans (hb7.mono (by omega))) (by omega)
      have hbut8 : But (g8 + 1) W4 (w7.setCells (g8 + 1) 1 (aC x.orig x.hm x.med).toList) := but_setCells (But.of_below hb7)
      obtain ⟨C', hC1, hC2⟩ := setCells_keeps (aC x.orig x.hm x.med).toList 1 w7 _ hblk9'
      have hblk98 := row_of_range hC1 hC2 hrg9
      clear hC1 hC2 C'
      simp only [Act.put]
      generalize w7.setCells (g8 + 1) 1 (aC x.orig x.hm x.med).toList = W8 at *
      have hR8 : IsRib W8 b2 m2 k G := hR4.but hbut8 (by omega) (by omega)
      have hblk88 : W8.heap[g8]? = _ := (hbut8.block g8 (by omega) (by omega)).trans hblk8
      have hrg8 := hrg4.kept (row := some (g8 + 1)) (w' := W8) ⟨hbut8.os, hbut8.tape, hbut8.output, hbut8.size, fun j hj hn => hbut8.block j hj (fun e => hn (by rw [e]))⟩ (fun e => by have := Option.some.inj e; omega) (fun e => by have := Option.some.inj e; omega)
      have hlt8 : g8 + 2 ≤ W8.heap.size := by have := hbut8.size; omega
      clear hbut8 hR4 hblk8 hblk9 hblk9' hrg4 hth hb7 hbelA hrg9
      have c1 := hR8.at_
      have H88 : Hid (W8.drew.heap[g8]? = some (.cells p.val 83 (0, 0))) := hblk88
      have H98 : Hid (W8.drew.heap[g8 + 1]? = some (.cells x.cells 85 (0, 0))) := hblk98
      have HM8 : Hid (MapIs W8.drew m2 k G) := hR8.map.keep (w' := W8.drew) rfl
      have HR8 := Lib.hid hR8
      have HRG8 := Lib.hid hrg8
      have HB1 := Lib.hid hbel1
      have HB8 := Lib.hid hbel8
      clear hblk88 hblk98 hR8 hrg8 hbel1 hbel8
      refine wp_region_still_tail 6 (by kernel_rfl) (by kernel_rfl) ?_
      simp only [List.take_succ_cons, List.take_zero, List.drop_succ_cons, List.drop_zero]
      repeat (first
        | (refine still_load_row rfl 83 (.tmp 4) rfl g8 rfl 83 p.val (0, 0) _ H88.out Try.underlying83 rfl (by kernel_rfl) ?_)
        | (refine still_load_row rfl 85 (.tmp 5) rfl (g8 + 1) rfl 85 x.cells (0, 0) _ H98.out Try.underlying85 rfl sizeTo ?_)
        | still_step)
      try refine wpStill_nil ?_
      refine wpList_update (w := W8.drew) rfl (.tmp 30) (.tmp 31) (.tmp 32) rfl m2 k G p x rfl rfl rfl HM8.out (by unfold maxLen; omega) HOK.out ?_
      intro w9 hM9 hbut9
      (try simp only [Act.put, List.setIfInBounds_toArray, List.set_cons_zero, List.set_cons_succ])
      clear c1
      all_goals
        replace hbut9 : But m2 W8 w9 := ⟨hbut9.os, hbut9.tape, hbut9.output, hbut9.size, hbut9.block⟩
        have hRE : IsRib w9 b2 m2 (k + 1) (G.set p (some x)) := ⟨(hbut9.block b2 HR8.out.lt hbm2).trans HR8.out.blk, hM9⟩
        have hbelE : Below w.heap.size w w9 := (HB1.out.trans (HB8.out.mono (by omega))).trans (hbut9.below hm2 (by omega))
        have hrgE := HRG8.out.kept (row := some m2) (w' := w9) ⟨hbut9.os, hbut9.tape, hbut9.output, hbut9.size, fun j hj hn => hbut9.block j hj (fun e => hn (by rw [e]))⟩ (fun e => by have := Option.some.inj e; omega) (fun e => by have := Option.some.inj e; omega)
        have HRG := Lib.hid hrgE
        clear hM9 hbut9 hrgE
        go_wp2
        go_roundw
        case rel => exact ⟨_, cnt1, k + 1, _, HRG.out, hRE, hcp2, by omega, hbelE⟩
        case measure => rw [HRG.out.left_eq, HLF.out]; exact HLT.out
end Go.Proofs.Ytcljkcgccahlcaa
