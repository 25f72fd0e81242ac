/- (*Rib).All. -/
import Derived.Test.YtcljkcgccahlcaaTT
namespace Go.Proofs.Ytcljkcgccahlcaa
open Go.RowKit
set_option linter.unusedVariables false

theorem infoPa : (Try.prog.info? 68).map (fun i => (i.zero.map (·.cells.size), i.size, decide (i.bytes ≤ 1000))) = some (some 29, 29, true) := by kernel_rfl
theorem infoPa' : ∃ i z, Try.prog.info? 68 = some i ∧ i.zero = some z ∧ i.size = 29 ∧ i.bytes ≤ 1000 ∧ z.cells.size = 29 := by
  have hi := infoPa
  cases hq : Try.prog.info? 68 with
  | none => rw [hq] at hi; cases hi
  | some i =>
    rw [hq] at hi
    simp only [Option.map_some, Option.some.injEq, Prod.mk.injEq, decide_eq_true_eq] at hi
    obtain ⟨h1, h2, h3⟩ := hi
    cases hz : i.zero with
    | none => rw [hz] at h1; cases h1
    | some z =>
      rw [hz] at h1
      simp only [Option.map_some, Option.some.injEq] at h1
      exact ⟨i, z, rfl, hz, h2, h3, h1⟩

/-- The paths of places. -/
def paLs (F : Tbl) (L : List Pl) : List Value := L.flatMap fun p => paL p ((F p).getD To.zero)
theorem paLs_snoc (F : Tbl) (L : List Pl) (p : Pl) (x : To) (h : F p = some x) : paLs F (L ++ [p]) = paLs F L ++ paL p x := by simp [paLs, h]

set_option maxRecDepth 100000 in
set_option maxHeartbeats 4000000 in
theorem all_any (b m n : Nat) (F : Tbl) (fam : Int) (w : World) (h : IsRib w b m n F) (hn : n < 100000) :
    Calls Try.prog 22 #[.pointer (some ⟨b, 0, none⟩), .int .i64 fam] w fun e w' => ∃ r L, e = .returned r ∧ w'.ownsRow w.heap.size 68 29 r L.length (paLs F L) ∧ Hid (PlacesOf F (fun _ => true) fam L) ∧ L.length ≤ n ∧ Below w.heap.size w w' := by
  have hp := places_all b m n F fam w h (by omega)
  have HP := Lib.hid hp
  have HR := Lib.hid h
  obtain ⟨i0, iz, hi, hz0, hz1, hz2, hz3⟩ := infoPa'
  have HI := Lib.hid hi
  have HZ0 := Lib.hid hz0
  have HZ1 := Lib.hid hz1
  have HZ2 := Lib.hid hz2
  have HZ3 := Lib.hid hz3
  clear hp h hi hz0 hz1 hz2 hz3
  go_enter Try.func22, Try.ntmps22
  go_wp2_with fail
  refine HP.out.mono ?_
  rintro e w1 ⟨v, L, rfl, hnew, hpl, hlen⟩
  obtain ⟨ao, cap, g, off, rfl, hcap, hao, hat⟩ := plRow_open hnew.1
  have hR1 := HR.out.below hnew.2
  have hB1 := hnew.2
  have hs1 := hnew.2.size
  have HA := Lib.hid hao
  have HAT := Lib.hid hat
  have HR1 := Lib.hid hR1
  have hL9 : L.length ≤ 9223372036854775807 := by omega
  clear hao hat hnew HP HR hR1
  go_wp2_with fail
  go_loopw [5, 12] (fun out i wr => ∃ (k : Nat), i = .int .i64 k ∧ k ≤ L.length ∧ Below w1.heap.size w1 wr ∧ wr.ownsRow w1.heap.size 68 29 out k (paLs F (L.take k))) (fun _ i _ => L.length - (intOf i).toNat)
  case atStart => exact ⟨0, rfl, Nat.zero_le _, Below.refl _ _, World.ownsRow_nil _ _ _ _⟩
  case round =>
    obtain ⟨k, rfl, hk, hbel, hown⟩ := hrel
    by_cases hlt : k < L.length
    · obtain ⟨rfl, hgb, hgl⟩ := HA.out (by omega)
      obtain ⟨q0, q1, q2, q3, q4⟩ := (HAT.out k hlt).keep (hbel.block g hgl)
      have hT := take_snoc' L k default hlt
      obtain ⟨x, hx⟩ : ∃ x, F (L.getD k default) = some x := by
        obtain ⟨_, x, hx, _⟩ := (hpl.out.mem (L.getD k default)).1 (by rw [List.getD_eq_getElem?_getD, List.getElem?_eq_getElem hlt, Option.getD_some]; exact List.getElem_mem hlt)
        exact ⟨x, hx⟩
      obtain ⟨p, hp⟩ : ∃ p, L.getD k default = p := ⟨_, rfl⟩
      rw [hp] at q0 q1 q2 q3 q4 hT hx
      have hpa := paLs_snoc F (L.take k) p x hx
      rw [← hT] at hpa
      have HPA := Lib.hid hpa
      have HX := Lib.hid hx
      clear hT hx hp hpa
      have zp := fun w => zeroPl w
      go_wp2
      have hR := HR1.out.below hbel
      have hR4 := hR.below ((Below.refl _ _).alloc (Nat.le_refl _) (.cells p.val 83))
      have hbel4 := hbel.alloc hbel.size (.cells p.val 83)
      have hown4 := hown.alloc (.cells p.val 83)
      have hblk8 : (wr.alloc (.cells p.val 83)).heap[wr.heap.size]? = some (.cells p.val 83 (0, 0)) := heap_alloc_new _ _
      have hs4 : (wr.alloc (.cells p.val 83)).heap.size = wr.heap.size + 1 := by simp
      have hol := own_lt2 hown
      have hog := own_ge hown
      simp only [Pl.val] at hR4 hbel4 hblk8 hs4 hown4
      obtain ⟨W4, hW4⟩ : ∃ W4, W4 = wr.alloc (.cells #[.int .i64 p.fam, .int .u64 p.rd, .string p.addr, .int .i64 p.len, .int .u32 p.id] 83) := ⟨_, rfl⟩
      rw [← hW4] at hR4 hbel4 hblk8 hs4 hown4 ⊢
      clear hW4
      have hwg : w1.heap.size ≤ wr.heap.size := hbel.size
      obtain ⟨g8, hg8⟩ : ∃ g8, wr.heap.size = g8 := ⟨_, rfl⟩
      rw [hg8] at hblk8 hs4 hwg hol ⊢
      clear hg8 hR hbel hown q0 q1 q2 q3 q4 zp
      have hS : Hid (∀ (w' : World), w'.heap[b]? = W4.heap[b]? → w'.heap[g8]? = W4.heap[g8]? → w'.cell? ⟨b, 1, none⟩ = some (.map (some m)) ∧ w'.cell? ⟨g8, 0, none⟩ = some (.int .i64 p.fam) ∧ w'.cell? ⟨g8, 1, none⟩ = some (.int .u64 p.rd) ∧ w'.cell? ⟨g8, 2, none⟩ = some (.string p.addr) ∧ w'.cell? ⟨g8, 3, none⟩ = some (.int .i64 p.len) ∧ w'.cell? ⟨g8, 4, none⟩ = some (.int .u32 p.id)) := by
        intro w' e1 e2
        have k8 := e2.trans hblk8
        exact ⟨(cell_of_row _ _ _ _ _ _ (e1.trans hR4.blk)).trans rfl, cell_of_row _ _ _ _ _ _ k8, cell_of_row _ _ _ _ _ _ k8, cell_of_row _ _ _ _ _ _ k8, cell_of_row _ _ _ _ _ _ k8, cell_of_row _ _ _ _ _ _ k8⟩
      have hlk := (hR4.map.keep (w' := W4.drew) rfl).look HX.out
      simp only [Pl.val] at hlk
      have hpt : Hid (∀ W, Calls Try.prog 44 #[.agg #[.int .i64 p.fam, .int .u64 p.rd, .string p.addr, .int .i64 p.len, .int .u32 p.id], .agg x.cells] W fun e w' => e = .returned (.agg #[.int .i64 p.fam, .int .u64 p.rd, .string p.addr, .int .i64 p.len, .int .u32 p.id, .int .u32 x.label, .int .i64 x.orig, .slice none 0 0, .string ⟨#[]⟩, .bool x.hm, .int .u32 x.med, .bool false, .int .u32 0, .bool false, .int .u32 0, .int .u32 0, .slice none 0 0, .slice none 0 0, .slice none 0 0, .bool false, .int .u32 0, .slice none 0 0, .int .i64 0, .string ⟨#[]⟩, .int .u32 0, .int .u32 0, .string ⟨#[]⟩, .string ⟨#[]⟩, .bool x.stale]) ∧ Below W.heap.size W w') := path_any p x
      have hb4 : b < w1.heap.size := HR1.out.lt
      have HOL : Hid (∀ b', u5.ownBlock = some b' → b' < g8) := hol
      have HOG : Hid (∀ b', u5.ownBlock = some b' → w1.heap.size ≤ b') := hog
      have HOW := Lib.hid hown4
      have HBEL4 := Lib.hid hbel4
      clear hol hog hown4 hR4 hbel4 hblk8
      go_region_held3 (fun w' => w'.cell? ⟨b, 1, none⟩ = some (.map (some m)) ∧ w'.cell? ⟨g8, 0, none⟩ = some (.int .i64 p.fam) ∧ w'.cell? ⟨g8, 1, none⟩ = some (.int .u64 p.rd) ∧ w'.cell? ⟨g8, 2, none⟩ = some (.string p.addr) ∧ w'.cell? ⟨g8, 3, none⟩ = some (.int .i64 p.len) ∧ w'.cell? ⟨g8, 4, none⟩ = some (.int .u32 p.id))
        (first
          | exact hS.out _ rfl rfl
          | exact hS.out _ (hb7.block b (by omega)) (hb7.block g8 (by omega))
          | exact hS.out _ ((Below.heap_alloc _ _ _ (by have := hb7.size; omega)).trans (hb7.block b (by omega))) ((Below.heap_alloc _ _ _ (by have := hb7.size; omega)).trans (hb7.block g8 (by omega)))
          | exact hS.out _ ((hgrow9.block b (by have := hb7.size; simp; omega) (fun e => by have := HOG.out b e.symm; omega)).trans ((Below.heap_alloc _ _ _ (by have := hb7.size; omega)).trans (hb7.block b (by omega)))) ((hgrow9.block g8 (by have := hb7.size; simp; omega) (fun e => by have := HOL.out g8 e.symm; omega)).trans ((Below.heap_alloc _ _ _ (by have := hb7.size; omega)).trans (hb7.block g8 (by omega)))))
        ((first
          | (go_at_call 44; refine (hpt.out _).mono ?_; rintro e w7 ⟨rfl, hb7⟩; replace hb7 : Below W4.heap.size W4 w7 := ⟨hb7.os, hb7.tape, hb7.output, hb7.size, hb7.block⟩)
          | (refine step_append rfl (.tmp 16) (.tmp 25) 63 68 rfl i0 iz 29 _ Try.underlying63 HI.out HZ0.out HZ1.out rfl HZ3.out (by decide) w1.heap.size u5 k (paLs F (L.take k)) (by simp [Act.eval]) (own_below2 HOW.out (hb7.alloc hb7.size _) (Nat.le_refl _)) w7.heap.size [.int .i64 p.fam, .int .u64 p.rd, .string p.addr, .int .i64 p.len, .int .u32 p.id, .int .u32 x.label, .int .i64 x.orig, .slice none 0 0, .string ⟨#[]⟩, .bool x.hm, .int .u32 x.med, .bool false, .int .u32 0, .bool false, .int .u32 0, .int .u32 0, .slice none 0 0, .slice none 0 0, .slice none 0 0, .bool false, .int .u32 0, .slice none 0 0, .int .i64 0, .string ⟨#[]⟩, .int .u32 0, .int .u32 0, .string ⟨#[]⟩, .string ⟨#[]⟩, .bool x.stale] (by simp [Act.eval]) 68 (heap_alloc_new _ _) rfl (by simp [Value.oneCell']) (by omega) HZ2.out (by have := hb7.size; simp; omega) ?_; intro v' w9 hown9 hgrow9)))
      have hs7 := hb7.size
      have hgb9 : ∀ j, j < g8 + 1 → (w1.heap.size ≤ j → u5.ownBlock ≠ some j) → w9.heap[j]? = W4.heap[j]? := fun j hj hne => (hgrow9.block j (by simp; omega) (fun e => by
        by_cases hh : w1.heap.size ≤ j
        · exact hne hh e.symm
        · have := HOG.out j e.symm; omega)).trans ((Below.heap_alloc _ _ _ (by omega)).trans (hb7.block j (by omega)))
      have hs9 : g8 + 1 ≤ w9.heap.size := by have := hgrow9.size; simp at this; omega
      have hbel9 : Below w1.heap.size w1 w9 := ⟨(hgrow9.os.trans hb7.os).trans HBEL4.out.os, (hgrow9.tape.trans hb7.tape).trans HBEL4.out.tape, (hgrow9.output.trans hb7.output).trans HBEL4.out.output, by omega, fun j hj => (hgb9 j (by omega) (fun h => by omega)).trans (HBEL4.out.block j hj)⟩
      have hown9' : w9.ownsRow w1.heap.size 68 29 v' (k + 1) (paLs F (L.take (k + 1))) := by rw [HPA.out]; exact hown9
      clear hgrow9 hgb9 HBEL4 HOW HOL HOG hlk hb7 hS hown9
      go_wp2
      go_roundw
      case rel => exact ⟨k + 1, by go_num, by omega, hbel9, hown9'⟩
      case measure => simp [intOf]; omega
    · obtain rfl : k = L.length := by omega
      rw [List.take_length] at hown
      have hlast : Below w.heap.size w wr := hB1.trans (hbel.mono hs1)
      have hown' := own_mono hown hs1
      clear hbel hown
      go_wp2
      go_ret
      exact ⟨_, L, rfl, hown', hpl, hlen, hlast⟩
end Go.Proofs.Ytcljkcgccahlcaa
