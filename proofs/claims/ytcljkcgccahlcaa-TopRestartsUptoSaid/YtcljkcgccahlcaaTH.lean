/- (*Rib).places. -/
import Derived.Test.YtcljkcgccahlcaaTI
namespace Go.Proofs.Ytcljkcgccahlcaa
open Go.RowKit Go.Sort Go.Shelf
set_option linter.unusedVariables false

def mkP (p : Pl) : Value := .agg #[.int .i64 p.fam, .int .u64 p.rd, .string p.addr, .int .i64 p.len, .int .u32 p.id]
def mkT (x : To) : Value := .agg x.cells
theorem invP (v : Value) (kl : Lit) (h : keyOf Try.prog 83 v = some kl) : ∃ p, v = mkP p := by
  obtain ⟨p, _, rfl, _⟩ := key_inv h
  exact ⟨p, rfl⟩
theorem invT (v : Value) (y : DataW Value × List MemPlace) (h : toR v = some y) : ∃ x, v = mkT x := by
  obtain ⟨x, rfl, _⟩ := toR_inv h
  exact ⟨x, rfl⟩

theorem setRow_second (w : World) (o : Obj) (c c' : Array Value) (t : TypeId) : ((w.alloc o).alloc (.cells c t)).setRow (w.heap.size + 1) c' = (w.alloc o).alloc (.cells c' t) := by
  have := setRow_alloc_new (w.alloc o) c c' t
  rwa [show (w.alloc o).heap.size = w.heap.size + 1 from by simp] at this

theorem own_below {w w' : World} {base e size n : Nat} {v : Value} {xs : List Value} (h : w.ownsRow base e size v n xs) (hb : Below w.heap.size w w') : w'.ownsRow base e size v n xs :=
  own_keep h fun g hg => hb.block g (by
    rcases h.2 with ⟨rfl, _⟩ | ⟨g', cap, cur, rfl, _, hg', _⟩
    · cases hg
    · simp [Value.ownBlock] at hg; subst hg; exact lt_of_block hg')
theorem five_cells (w : World) (t : TypeId) (a b c d e : Value) : ∀ (j : Nat) (u : Value), [a, b, c, d, e][j]? = some u → (w.alloc (.cells #[a, b, c, d, e] t)).cell? ((⟨w.heap.size, 0, none⟩ : Addr).add j) = some u := by
  intro j u hj
  rcases j with _ | _ | _ | _ | _ | j <;> simp at hj <;> subst hj <;> simp [Addr.add]
theorem wpList_load_row_g {P : Program} {ops : Array Oper} {rest : List Oper} {o : Oper} {a : Act} {w : World} {Q : Exit → Act → World → Prop} (hw : Region.wanted o (yielded ops a.tmps) = true) (ty : TypeId) (x : Operand) (ho : o.op = .load ty x)
    (g : Nat) (hx : a.eval x = .pointer (some ⟨g, 0, none⟩)) (t : TypeId) (cs : Array Value) (fr : Nat × Nat) (d : TypeDesc) (hg : w.heap[g]? = some (.cells cs t fr))
    (hu : P.underlying ty = some d) (hd : (match d with | .struct _ | .array _ _ => true | _ => false) = true) (hi : (P.info? ty).map (·.size) = some cs.size)
    (h : wpList P ops Q rest (a.put o.dst (.agg cs)) w) : wpList P ops Q (o :: rest) a w :=
  wpList_step fun K hK => by rw [if_pos hw]; exact wp_load_row ty x ho g hx t cs fr d hg hu hd hi (hK _ _ h)

set_option maxRecDepth 100000 in
set_option maxHeartbeats 4000000 in
theorem places_any (g : FuncId) (T : To → Bool) (hT : Asks g T) (hg : ∀ args w, (callFunc g args).run Try.prog w = .ok (.enter g args) w) (b m n : Nat) (F : Tbl) (fam : Int) (w : World) (h : IsRib w b m n F) (hn : n < 1000000) :
    Calls Try.prog 34 #[.pointer (some ⟨b, 0, none⟩), .int .i64 fam, .func (.func g) #[] #[]] w fun e w' => ∃ v L, e = .returned v ∧ NewPl w w' v L ∧ Hid (PlacesOf F T fam L) ∧ L.length ≤ n := by
  obtain ⟨i0, hi, hz0, hz1, hz2⟩ := info_parts infoPl
  have HI := Lib.hid hi
  have HZ0 := Lib.hid hz0
  have HZ1 := Lib.hid hz1
  have HZ2 := Lib.hid hz2
  clear hi hz0 hz1 hz2
  obtain ⟨D, hown, hlike⟩ := h.map
  have hLike := Lib.hid hlike
  have hat := h.at_
  have hsz := hown.size_le
  have hso : Hid (Sofar F T fam (Maps.has D) []) := Sofar.start hlike T fam
  have HG := Lib.hid hg
  have HT := Lib.hid hT
  have hmlt := hown.lt
  clear hlike h hg hT
  go_enter Try.func34, Try.ntmps34
  go_wp2_with fail
  refine (rnone_no b m _ hat).mono ?_
  rintro e w' ⟨rfl, rfl⟩
  go_wp2_with (at_range; refine wpList_range_own _ rfl _ 74 rfl 83 85 lawPl Try.underlying74 toR m n D rfl hown ?_; intro w0 hrg0 hg0 hs0)
  go_frame
  have hb0 : Below w.heap.size w w0 := ⟨hg0.os, hg0.tape, hg0.output, hg0.size, fun k hk => hg0.block k hk (by simp)⟩
  clear hg0
  go_loopw [7] (fun v wr => ∃ (left : Lit → Bool) (cnt : Nat) (L : List Pl), wr.ranges Try.prog 83 toR m w.heap.size n D left cnt ∧ wr.ownsRow (w.heap.size + 1) 83 5 v L.length (plC L) ∧ Hid (L = [] → v = .slice none 0 0) ∧ Hid (Sofar F T fam left L) ∧ L.length + cnt ≤ n ∧ Below w.heap.size w wr) (fun _ wr => wr.rangeLeft m w.heap.size)
  case atStart => exact ⟨_, _, [], hrg0, World.ownsRow_nil _ _ _ _, (fun _ => rfl), hso, by simpa using hsz, hb0⟩
  case round =>
    obtain ⟨left, cnt, L, hrg, hrow, hnil, hsof, hlen, hbel⟩ := hrel
    clear hrg0 hso hown
    have hbs := hbel.size
    have hleft := hrg.left_eq
    have HLF := Lib.hid hleft
    clear hleft
    go_wp2_with (at_next; refine wpList_next_ranges _ rfl _ rfl 83 lawPl toR mkP mkT invP invT m w.heap.size n D left cnt rfl hrg ?_ ?_)
    · intro hc0 hl0
      have hdone : Hid (PlacesOf F T fam L) := hsof.out.done hl0
      have hrlt := hrg.lt
      clear hl0 hsof hrg
      go_wp2_with fail
      refine (sort_row u7 L (w.heap.size + 1) _ hrow hnil.out (by omega) (by omega)).mono ?_
      rintro e w3 ⟨rfl, L', hperm, hrow3, hb3⟩
      have hlen' : L'.length ≤ n := by rw [← hperm.length_eq]; omega
      have hdone' : Hid (PlacesOf F T fam L') := hdone.out.perm hperm
      have hnew : NewPl w w3 u7 L' := ⟨own_mono hrow3 (by omega), hbel.trans (hb3.mono (by omega))⟩
      clear hrow hrow3 hb3 hdone hperm hnil hbel
      go_wp2_with fail
      go_ret
      exact ⟨_, L', rfl, hnew, hdone', hlen'⟩
    · intro p x kl y0 y1 w1 cnt1 hkey hlk hR hat1 hrg1 hlt hgr1 hs1 hen
      obtain ⟨hpok, hkl, hFp⟩ := step_fact hLike.out hkey hR hat1
      have hrlt := hrg.lt
      have hbel1 : Below w.heap.size w w1 := hbel.trans ⟨hgr1.os, hgr1.tape, hgr1.output, hgr1.size, fun k hk => hgr1.block k (by omega) (fun e => by have := Option.some.inj e; omega)⟩
      have hrow1 : w1.ownsRow (w.heap.size + 1) 83 5 u7 L.length (plC L) := by
        refine own_keep hrow fun g0 hg0 => ?_
        have hge := own_ge hrow g0 hg0
        rcases hrow.2 with ⟨rfl, _⟩ | ⟨g1, cap, cur, rfl, _, hgg, _⟩
        · cases hg0
        · simp [Value.ownBlock] at hg0
          subst hg0
          exact hgr1.block _ (lt_of_block hgg) (fun e => by have := Option.some.inj e; omega)
      subst hkl
      have hlen1 : L.length + cnt1 + 1 ≤ n := by omega
      have HLT := Lib.hid hlt
      have hsz1 : w.heap.size + 1 ≤ w1.heap.size := by omega
      have HKL := Lib.hid hlk
      have HF := Lib.hid hFp
      have HOK := Lib.hid hpok
      clear hkey hR hat1 hrg hrow hgr1 hs1 hbel hlt hlk hFp hpok hlen hrlt hbs
      simp only [mkP, mkT] at hen ⊢
      have z1 := fun w => zeroPl w
      have z2 := fun w => zeroTo w
      have z3 := to_ne To.zero
      have hg := HG.out
      by_cases hf : p.fam = fam
      · cases ht : T x with
        | true =>
          have hs2 : Hid (Sofar F T fam (fun z => left z && !z.sameKey p.kl) (L ++ [p])) := hsof.out.yes hLike.out HOK.out HF.out hf ht HKL.out
          have he : ((p.fam : Int) == fam) = true := by simp [hf]
          have HT2 : ∀ W, Calls Try.prog g #[.agg x.cells] W fun e w' => e = .returned (.bool true) ∧ Below W.heap.size W w' := fun W => by rw [← ht]; exact HT.out x W
          have HC := Lib.hid HT2
          clear HT2 hf ht
          go_wp2_with (first
            | (refine wpList_store_row rfl 85 (.tmp 9) (.tmp 21) rfl (w1.heap.size + 1) x.cells rfl rfl 85 To.zero.cells (heap_alloc2_new _ _ _) sizeTo rfl (to_one x) ?_; rw [setRow_second])
            | (refine wpList_load_row_g rfl 85 (.tmp 9) rfl (w1.heap.size + 1) rfl 85 x.cells (0, 0) _ (heap_alloc2_new _ _ _) Try.underlying85 rfl sizeTo ?_))
          refine (HC.out _).mono ?_
          rintro e w2 ⟨rfl, hb2⟩
          have hbB : Below w1.heap.size w1 w2 := (((Below.refl _ _).alloc (Nat.le_refl _) _).alloc (by simp) _).trans (hb2.mono (by simp; omega))
          have hs3 : w1.heap.size + 2 ≤ w2.heap.size := by have := hb2.size; simp at this; omega
          have c0 : w2.cell? ⟨w1.heap.size, 0, none⟩ = some (.int .i64 p.fam) := by rw [hb2.cell (by simp; omega)]; simp
          have c1 : w2.cell? ⟨w1.heap.size, 1, none⟩ = some (.int .u64 p.rd) := by rw [hb2.cell (by simp; omega)]; simp
          have c2 : w2.cell? ⟨w1.heap.size, 2, none⟩ = some (.string p.addr) := by rw [hb2.cell (by simp; omega)]; simp
          have c3 : w2.cell? ⟨w1.heap.size, 3, none⟩ = some (.int .i64 p.len) := by rw [hb2.cell (by simp; omega)]; simp
          have c4 : w2.cell? ⟨w1.heap.size, 4, none⟩ = some (.int .u32 p.id) := by rw [hb2.cell (by simp; omega)]; simp
          have hrg2 := hrg1.kept (row := none) (w' := w2) ⟨hbB.os, hbB.tape, hbB.output, hbB.size, fun k hk _ => hbB.block k hk⟩ (by simp) (by simp)
          have hbel2 : Below w.heap.size w w2 := hbel1.trans (hbB.mono (by omega))
          have hrow2 : w2.ownsRow (w.heap.size + 1) 83 5 u7 L.length (plC L) := own_below hrow1 hbB
          clear hrg1 hbel1 hrow1 hb2 hbB hen hg z1 z2 z3 he
          go_wp2_with (at_builtin; refine wpList_append_own _ rfl (.tmp 32) (.tmp 34) 91 rfl (w.heap.size + 1) 83 i0 _ 5 48 Try.underlying91 HI.out HZ0.out HZ1.out HZ2.out rfl (by decide) _ _ _ rfl (hrow2.alloc _) ⟨w2.heap.size, 0, none⟩ 1 1 p.val.toList rfl rfl ?c1 ?c2 ?c3 ?c4 ?c5 ?_)
          case c1 => exact five_cells _ _ _ _ _ _ _
          case c2 => simp [Pl.val, Value.oneCell']
          case c3 => unfold maxLen; omega
          case c4 => omega
          case c5 => simp; omega
          intro v' w3 hown' hgrow hnz
          have hbel3 : Below w.heap.size w w3 := (hbel2.alloc (by omega) (.cells p.val 83)).grown hgrow (by simp; omega) (fun g0 hg0 => by have := own_ge hrow2 g0 hg0; omega)
          have hrow3 : w3.ownsRow (w.heap.size + 1) 83 5 v' (L ++ [p]).length (plC (L ++ [p])) := by rw [plC_snoc, List.length_append]; exact hown'
          have hrg3 := (hrg2.alloc (.cells p.val 83)).kept (w' := w3) hgrow (fun e => by have := own_ge hrow2 m e.symm; omega) (fun e => by have := own_ge hrow2 _ e.symm; omega)
          have HRG := Lib.hid hrg3
          clear hrow2 hbel2 hgrow hown' hrg2 hnz hrg3
          go_wp2_with fail
          go_roundw
          case rel => exact ⟨_, cnt1, L ++ [p], HRG.out, hrow3, (fun e => by simp at e), hs2, by simp; omega, hbel3⟩
          case measure => rw [HRG.out.left_eq, HLF.out]; exact HLT.out
        | false =>
          have hs2 : Hid (Sofar F T fam (fun z => left z && !z.sameKey p.kl) L) := hsof.out.no hLike.out HOK.out HF.out (fun e => by rw [ht] at e; exact absurd e.2 (by simp))
          have he : ((p.fam : Int) == fam) = true := by simp [hf]
          have HT2 : ∀ W, Calls Try.prog g #[.agg x.cells] W fun e w' => e = .returned (.bool false) ∧ Below W.heap.size W w' := fun W => by rw [← ht]; exact HT.out x W
          have HC := Lib.hid HT2
          clear HT2 hf ht
          go_wp2_with (first
            | (refine wpList_store_row rfl 85 (.tmp 9) (.tmp 21) rfl (w1.heap.size + 1) x.cells rfl rfl 85 To.zero.cells (heap_alloc2_new _ _ _) sizeTo rfl (to_one x) ?_; rw [setRow_second])
            | (refine wpList_load_row_g rfl 85 (.tmp 9) rfl (w1.heap.size + 1) rfl 85 x.cells (0, 0) _ (heap_alloc2_new _ _ _) Try.underlying85 rfl sizeTo ?_))
          refine (HC.out _).mono ?_
          rintro e w2 ⟨rfl, hb2⟩
          have hbB : Below w1.heap.size w1 w2 := (((Below.refl _ _).alloc (Nat.le_refl _) _).alloc (by simp) _).trans (hb2.mono (by simp; omega))
          have hs3 : w1.heap.size + 2 ≤ w2.heap.size := by have := hb2.size; simp at this; omega
          have hrg2 := hrg1.kept (row := none) (w' := w2) ⟨hbB.os, hbB.tape, hbB.output, hbB.size, fun k hk _ => hbB.block k hk⟩ (by simp) (by simp)
          have hbel2 : Below w.heap.size w w2 := hbel1.trans (hbB.mono (by omega))
          have hrow2 : w2.ownsRow (w.heap.size + 1) 83 5 u7 L.length (plC L) := own_below hrow1 hbB
          clear hrg1 hbel1 hrow1 hb2 hbB hen hg z1 z2 z3 he
          have HRG := Lib.hid hrg2
          clear hrg2
          go_wp2_with fail
          go_roundw
          case rel => exact ⟨_, cnt1, L, HRG.out, hrow2, hnil, hs2, by omega, hbel2⟩
          case measure => rw [HRG.out.left_eq, HLF.out]; exact HLT.out
      · have hs2 : Hid (Sofar F T fam (fun z => left z && !z.sameKey p.kl) L) := hsof.out.no hLike.out HOK.out HF.out (fun e => hf e.1)
        have he : ((p.fam : Int) == fam) = false := by simp [hf]
        clear hf
        go_wp2_with (first
            | (refine wpList_store_row rfl 85 (.tmp 9) (.tmp 21) rfl (w1.heap.size + 1) x.cells rfl rfl 85 To.zero.cells (heap_alloc2_new _ _ _) sizeTo rfl (to_one x) ?_; rw [setRow_second]))
        have hrg2 := (hrg1.alloc (.cells #[.int .i64 p.fam, .int .u64 p.rd, .string p.addr, .int .i64 p.len, .int .u32 p.id] 83)).alloc (.cells x.cells 85)
        have hbel2 := (hbel1.alloc (by omega) (.cells #[.int .i64 p.fam, .int .u64 p.rd, .string p.addr, .int .i64 p.len, .int .u32 p.id] 83)).alloc (by simp; omega) (.cells x.cells 85)
        have hrow2 := (hrow1.alloc (.cells #[.int .i64 p.fam, .int .u64 p.rd, .string p.addr, .int .i64 p.len, .int .u32 p.id] 83)).alloc (.cells x.cells 85)
        have HRG := Lib.hid hrg2
        clear hrg2 hrg1 hbel1 hrow1 hen hg z1 z2 z3 he
        go_roundw
        case rel => exact ⟨_, cnt1, L, HRG.out, hrow2, hnil, hs2, by omega, hbel2⟩
        case measure => rw [HRG.out.left_eq, HLF.out]; exact HLT.out
end Go.Proofs.Ytcljkcgccahlcaa
