/- (*Rib).take, Sweep, Clear, Count. -/
import Derived.Test.YtcljkcgccahlcaaTQ
namespace Go.Proofs.Ytcljkcgccahlcaa
open Go.RowKit
set_option linter.unusedVariables false

theorem zeroN (w : World) : (zeroValue 41).run Try.prog w = .ok (.agg #[.int .i64 0, .int .u64 0, .string ⟨#[]⟩, .int .i64 0, .int .u32 0, .int .u32 0]) w := by kernel_rfl
theorem infoN : (Try.prog.info? 41).map (fun i => (i.zero, i.size, i.bytes)) = some (some (.agg #[.int .i64 0, .int .u64 0, .string ⟨#[]⟩, .int .i64 0, .int .u32 0, .int .u32 0]), 6, 48) := by kernel_rfl
theorem field_label (x : To) (w : World) : (Instr.field 85 (.agg x.cells) 0).run Try.prog w = .ok (.int .u32 x.label) w := by kernel_rfl
theorem own_lt2 {w : World} {base e size n : Nat} {v : Value} {xs : List Value} (h : w.ownsRow base e size v n xs) : ∀ b, v.ownBlock = some b → b < w.heap.size := by
  intro b hb
  rcases h.2 with ⟨rfl, _⟩ | ⟨g, cap, cur, rfl, _, hg, _⟩
  · cases hb
  · simp [Value.ownBlock] at hb; subst hb; exact lt_of_block hg
theorem own_below2 {B : Nat} {w w' : World} {base e size n : Nat} {v : Value} {xs : List Value} (h : w.ownsRow base e size v n xs) (hb : Below B w w') (hB : w.heap.size ≤ B) : w'.ownsRow base e size v n xs :=
  own_keep h fun g hg => hb.block g (by have := own_lt2 h g hg; omega)
theorem own_but {m : Nat} {w w' : World} {base e size n : Nat} {v : Value} {xs : List Value} (h : w.ownsRow base e size v n xs) (hb : But m w w') (hm : m < base) : w'.ownsRow base e size v n xs :=
  own_keep h fun g hg => hb.block g (own_lt2 h g hg) (by have := own_ge h g hg; omega)

set_option maxRecDepth 100000 in
set_option maxHeartbeats 4000000 in
theorem take_any (b m n : Nat) (F : Tbl) (v : Value) (L : List Pl) (base : Nat) (w : World) (h : IsRib w b m n F) (hrow : w.ownsRow base 83 5 v L.length (plC L)) (hm : m < base) (hin : ∀ p ∈ L, ∃ x, F p = some x) (hnd : L.Nodup) (hl : L.length < 100000) :
    Calls Try.prog 36 #[.pointer (some ⟨b, 0, none⟩), v] w fun e w' => ∃ r ys, e = .returned r ∧ w'.ownsRow w.heap.size 41 6 r L.length ys ∧ IsRib w' b m n (F.minus L) ∧ But m w w' := by
  obtain ⟨ao, cap, g, off, rfl, hcap, hao, hat⟩ := plRow_open hrow
  obtain ⟨i0, hi, hz0, hz1, hz2⟩ := info_parts infoN
  have HI := Lib.hid hi
  have HZ0 := Lib.hid hz0
  have HZ1 := Lib.hid hz1
  have HZ2 := Lib.hid hz2
  have HA := Lib.hid hao
  have HAT := Lib.hid hat
  have HIN := Lib.hid hin
  have HND := Lib.hid hnd
  have hL9 : L.length ≤ 9223372036854775807 := by omega
  have hmlt := h.map.lt
  have hne := h.ne
  have hblt := h.lt
  have hbB := h.blk
  have HBB := Lib.hid hbB
  clear hi hz0 hz1 hz2 hao hat hin hnd hrow hbB
  go_enter Try.func36, Try.ntmps36
  go_wp2_with fail
  go_loopw [5, 10] (fun out i wr => ∃ (k : Nat) (ys : List Value), i = .int .i64 k ∧ k ≤ L.length ∧ IsRib wr b m n (F.minus (L.take k)) ∧ But m w wr ∧ wr.ownsRow w.heap.size 41 6 out k ys) (fun _ i _ => L.length - (intOf i).toNat)
  case atStart => exact ⟨0, [], rfl, Nat.zero_le _, by rw [List.take_zero, minus_nil]; exact h, But.refl _ _, World.ownsRow_nil _ _ _ _⟩
  case round =>
    obtain ⟨k, ys, rfl, hk, hR, hbut, hown⟩ := hrel
    clear h
    by_cases hlt : k < L.length
    · obtain ⟨rfl, hgb, hgl⟩ := HA.out (by omega)
      obtain ⟨q0, q1, q2, q3, q4⟩ := (HAT.out k hlt).keep (hbut.block g hgl (by omega))
      have hT := take_snoc' L k default hlt
      have hnot := nodup_take HND.out default hlt
      obtain ⟨x, hx⟩ := HIN.out (L.getD k default) (by rw [List.getD_eq_getElem?_getD, List.getElem?_eq_getElem hlt, Option.getD_some]; exact List.getElem_mem hlt)
      obtain ⟨p, hp⟩ : ∃ p, L.getD k default = p := ⟨_, rfl⟩
      rw [hp] at q0 q1 q2 q3 q4 hT hnot hx
      have hxx : (F.minus (L.take k)) p = some x := by rw [minus_out hnot]; exact hx
      have hok : p.Ok := hR.map.ok hxx
      have hms := minus_snoc F (L.take k) p
      rw [← hT] at hms
      have HMS := Lib.hid hms
      have HXX := Lib.hid hxx
      have HOK := Lib.hid hok
      clear hT hnot hx hp hok hms hxx
      have zp := fun w => zeroPl w
      go_wp2
      have hR4 := hR.below ((Below.refl _ _).alloc (Nat.le_refl _) (.cells p.val 83))
      have hbut4 := hbut.alloc (.cells p.val 83)
      have hown4 := hown.alloc (.cells p.val 83)
      have hblk8 : (wr.alloc (.cells p.val 83)).heap[wr.heap.size]? = some (.cells p.val 83 (0, 0)) := heap_alloc_new _ _
      have hs4 : (wr.alloc (.cells p.val 83)).heap.size = wr.heap.size + 1 := by simp
      have hol := own_lt2 hown
      have hog := own_ge hown
      simp only [Pl.val] at hR4 hbut4 hblk8 hs4 hown4
      obtain ⟨W4, hW4⟩ : ∃ W4, W4 = wr.alloc (.cells #[.int .i64 p.fam, .int .u64 p.rd, .string p.addr, .int .i64 p.len, .int .u32 p.id] 83) := ⟨_, rfl⟩
      rw [← hW4] at hR4 hbut4 hblk8 hs4 hown4 ⊢
      clear hW4
      have hwg : w.heap.size ≤ wr.heap.size := hbut.size
      obtain ⟨g8, hg8⟩ : ∃ g8, wr.heap.size = g8 := ⟨_, rfl⟩
      rw [hg8] at hblk8 hs4 hwg hol ⊢
      clear hg8 hR hbut hown q0 q1 q2 q3 q4 zp
      have hS : Hid (∀ (w' : World), w'.heap[b]? = W4.heap[b]? → w'.heap[g8]? = W4.heap[g8]? → w'.cell? ⟨b, 1, none⟩ = some (.map (some m)) ∧ w'.cell? ⟨g8, 0, none⟩ = some (.int .i64 p.fam) ∧ w'.cell? ⟨g8, 1, none⟩ = some (.int .u64 p.rd) ∧ w'.cell? ⟨g8, 2, none⟩ = some (.string p.addr) ∧ w'.cell? ⟨g8, 3, none⟩ = some (.int .i64 p.len) ∧ w'.cell? ⟨g8, 4, none⟩ = some (.int .u32 p.id)) := by
        intro w' e1 e2
        have k8 := e2.trans hblk8
        exact ⟨(cell_of_row _ _ _ _ _ _ (e1.trans hR4.blk)).trans rfl, cell_of_row _ _ _ _ _ _ k8, cell_of_row _ _ _ _ _ _ k8, cell_of_row _ _ _ _ _ _ k8, cell_of_row _ _ _ _ _ _ k8, cell_of_row _ _ _ _ _ _ k8⟩
      have hlk := (hR4.map.keep (w' := W4.drew) rfl).look HXX.out
      simp only [Pl.val, To.cells] at hlk
      have z1 := fun w => zeroN w
      have hfl := fun w => field_label x w
      simp only [To.cells] at hfl
      have hb4 := hR4.lt
      have HOL : Hid (∀ b', u5.ownBlock = some b' → b' < g8) := hol
      have HOG : Hid (∀ b', u5.ownBlock = some b' → w.heap.size ≤ b') := hog
      have HOW := Lib.hid hown4
      have HR4 := Lib.hid hR4
      have HBUT4 := Lib.hid hbut4
      have HB8 := Lib.hid hblk8
      clear hol hog hown4 hR4 hbut4 hblk8
      go_region_held3 (fun w' => w'.cell? ⟨b, 1, none⟩ = some (.map (some m)) ∧ w'.cell? ⟨g8, 0, none⟩ = some (.int .i64 p.fam) ∧ w'.cell? ⟨g8, 1, none⟩ = some (.int .u64 p.rd) ∧ w'.cell? ⟨g8, 2, none⟩ = some (.string p.addr) ∧ w'.cell? ⟨g8, 3, none⟩ = some (.int .i64 p.len) ∧ w'.cell? ⟨g8, 4, none⟩ = some (.int .u32 p.id))
        (first
          | exact hS.out _ rfl rfl
          | exact hS.out _ (Below.heap_alloc _ _ _ (by show b < W4.heap.size; omega)) (Below.heap_alloc _ _ _ (by show g8 < W4.heap.size; omega))
          | exact hS.out _ ((hgrow9.block b (by simp; omega) (fun e => by have := HOG.out b e.symm; omega)).trans (Below.heap_alloc _ _ _ (by show b < W4.heap.size; omega))) ((hgrow9.block g8 (by simp; omega) (fun e => by have := HOL.out g8 e.symm; omega)).trans (Below.heap_alloc _ _ _ (by show g8 < W4.heap.size; omega))))
        ((refine step_append rfl (.tmp 14) (.tmp 27) 22 41 rfl i0 _ 6 48 Try.underlying22 HI.out HZ0.out HZ1.out HZ2.out rfl (by decide) w.heap.size u5 k ys (by simp [Act.eval]) (own_below2 HOW.out ((Below.refl _ _).drew.alloc (Nat.le_refl _) _) (Nat.le_refl _)) W4.heap.size [.int .i64 p.fam, .int .u64 p.rd, .string p.addr, .int .i64 p.len, .int .u32 p.id, .int .u32 x.label] (by simp [Act.eval]) 41 (heap_alloc_new _ _) rfl (by simp [Value.oneCell']) (by omega) (by decide) (by simp; omega) ?_; intro v' w9 hown9 hgrow9))
      have hgb9 : ∀ j, j < g8 + 1 → (w.heap.size ≤ j → u5.ownBlock ≠ some j) → w9.heap[j]? = W4.heap[j]? := fun j hj hne => (hgrow9.block j (by simp; omega) (fun e => by
        by_cases hh : w.heap.size ≤ j
        · exact hne hh e.symm
        · have := HOG.out j e.symm; omega)).trans (Below.heap_alloc _ _ _ (by show j < W4.heap.size; omega))
      have q1 := hgb9 b (by omega) (fun h => by omega)
      have q2 := hgb9 g8 (by omega) (fun _ e => by have := HOL.out g8 e; omega)
      have q3 := hgb9 m (by omega) (fun h => by omega)
      have hR9 := HR4.out.keep q1 q3
      have hbut9 : But m w w9 := ⟨hgrow9.os.trans HBUT4.out.os, hgrow9.tape.trans HBUT4.out.tape, hgrow9.output.trans HBUT4.out.output, by have := hgrow9.size; simp at this; omega, fun j hj hjm => (hgb9 j (by omega) (fun h => by omega)).trans (HBUT4.out.block j hj hjm)⟩
      have hs9 : g8 < w9.heap.size := by have := hgrow9.size; simp at this; omega
      clear hgrow9 hgb9 HR4 HBUT4 HOW HOL HOG hlk hfl z1
      go_wp2_with fail
      go_region_held3 (fun w' => w'.cell? ⟨b, 1, none⟩ = some (.map (some m)) ∧ w'.cell? ⟨g8, 0, none⟩ = some (.int .i64 p.fam) ∧ w'.cell? ⟨g8, 1, none⟩ = some (.int .u64 p.rd) ∧ w'.cell? ⟨g8, 2, none⟩ = some (.string p.addr) ∧ w'.cell? ⟨g8, 3, none⟩ = some (.int .i64 p.len) ∧ w'.cell? ⟨g8, 4, none⟩ = some (.int .u32 p.id))
        (first | exact hS.out _ q1 q2 | exact hS.out _ ((hbut10.block b (by show b < w9.heap.size; omega) hne).trans q1) ((hbut10.block g8 hs9 (by omega)).trans q2))
        ((refine step_delete rfl (.tmp 32) (.tmp 33) rfl m n _ p (by simp [Act.eval]) (by simp [Act.eval, Pl.val]) (hR9.map.keep (w' := w9.drew) rfl) HOK.out ?_; intro w10 hM10 hbut10))
      replace hbut10 : But m w9 w10 := ⟨hbut10.os, hbut10.tape, hbut10.output, hbut10.size, hbut10.block⟩
      have hR10 : IsRib w10 b m n (F.minus (L.take (k + 1))) := ⟨(hbut10.block b (by omega) hne).trans hR9.blk, by rw [← HMS.out]; exact hM10⟩
      have hb10 := hbut9.trans hbut10
      have hown10 := own_but hown9 hbut10 hmlt
      clear hR9 hM10 hbut9 hbut10 hown9 q1 q2 q3 hS
      go_wp2
      go_roundw
      case rel => exact ⟨k + 1, _, by go_num, by omega, hR10, hb10, hown10⟩
      case measure => simp [intOf]; omega
    · obtain rfl : k = L.length := by omega
      rw [List.take_length] at hR
      go_wp2
      go_ret
      exact ⟨_, ys, rfl, hown, hR, hbut⟩

theorem count_any (b m n : Nat) (F : Tbl) (fam : Int) (w : World) (h : IsRib w b m n F) (hn : n < 100000) :
    Calls Try.prog 12 #[.pointer (some ⟨b, 0, none⟩), .int .i64 fam] w fun e w' => ∃ L, e = .returned (.int .i64 (L.length : Nat)) ∧ Hid (PlacesOf F (fun _ => true) fam L) ∧ L.length ≤ n ∧ Below w.heap.size w w' := by
  have hp := places_all b m n F fam w h (by omega)
  have HP := Lib.hid hp
  clear hp h
  go_enter Try.func12, Try.ntmps12
  go_wp2_with fail
  refine HP.out.mono ?_
  rintro e w1 ⟨v, L, rfl, hnew, hpl, hlen⟩
  obtain ⟨ao, cap, g, off, rfl, _, _, _⟩ := plRow_open hnew.1
  have hb := hnew.2
  clear hnew HP
  go_wp2
  go_ret
  exact ⟨L, rfl, hpl, hlen, hb⟩

theorem sweep_any (b m n : Nat) (F : Tbl) (fam : Int) (w : World) (h : IsRib w b m n F) (hn : n < 100000) :
    Calls Try.prog 21 #[.pointer (some ⟨b, 0, none⟩), .int .i64 fam] w fun e w' => ∃ r L ys, e = .returned r ∧ w'.ownsRow w.heap.size 41 6 r L.length ys ∧ Hid (PlacesOf F (fun x => x.stale) fam L) ∧ IsRib w' b m n (F.sweep fam) ∧ But m w w' := by
  have hp := places_stale b m n F fam w h (by omega)
  have HP := Lib.hid hp
  have hmlt := h.map.lt
  have HR := Lib.hid h
  clear hp h
  go_enter Try.func21, Try.ntmps21
  go_wp2_with fail
  refine HP.out.mono ?_
  rintro e w1 ⟨v, L, rfl, hnew, hpl, hlen⟩
  have hR1 := HR.out.below hnew.2
  go_wp2_with fail
  refine (take_any b m n F v L w.heap.size w1 hR1 hnew.1 hmlt (fun p hp => by obtain ⟨_, x, hx, _⟩ := (hpl.out.mem p).1 hp; exact ⟨x, hx⟩) hpl.out.nodup (by omega)).mono ?_
  rintro e w2 ⟨r, ys, rfl, hown, hR2, hb2⟩
  rw [places_sweep hpl.out] at hR2
  have hown' := own_mono hown hnew.2.size
  have hb := (But.of_below hnew.2).trans hb2
  clear hown hb2 hR1 hnew HP HR
  go_wp2_with fail
  go_ret
  exact ⟨r, L, ys, rfl, hown', hpl, hR2, hb⟩

theorem clear_any (b m n : Nat) (F : Tbl) (fam : Int) (w : World) (h : IsRib w b m n F) (hn : n < 100000) :
    Calls Try.prog 11 #[.pointer (some ⟨b, 0, none⟩), .int .i64 fam] w fun e w' => ∃ r, e = .returned r ∧ IsRib w' b m n (F.clear fam) ∧ But m w w' := by
  have hp := places_all b m n F fam w h (by omega)
  have HP := Lib.hid hp
  have hmlt := h.map.lt
  have HR := Lib.hid h
  clear hp h
  go_enter Try.func11, Try.ntmps11
  go_wp2_with fail
  refine HP.out.mono ?_
  rintro e w1 ⟨v, L, rfl, hnew, hpl, hlen⟩
  have hR1 := HR.out.below hnew.2
  go_wp2_with fail
  refine (take_any b m n F v L w.heap.size w1 hR1 hnew.1 hmlt (fun p hp => by obtain ⟨_, x, hx, _⟩ := (hpl.out.mem p).1 hp; exact ⟨x, hx⟩) hpl.out.nodup (by omega)).mono ?_
  rintro e w2 ⟨r, ys, rfl, hown, hR2, hb2⟩
  rw [places_clear hpl.out] at hR2
  have hb := (But.of_below hnew.2).trans hb2
  clear hown hb2 hR1 hnew HP HR
  go_wp2_with fail
  go_ret
  exact ⟨r, rfl, hR2, hb⟩
end Go.Proofs.Ytcljkcgccahlcaa
