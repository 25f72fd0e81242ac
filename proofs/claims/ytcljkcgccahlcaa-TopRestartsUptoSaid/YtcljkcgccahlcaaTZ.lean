/- TopRestarts: the walk. -/
import Derived.Test.YtcljkcgccahlcaaSE
import Derived.Test.YtcljkcgccahlcaaZA

import Derived.Test.YtcljkcgccahlcaaTV
import Derived.Test.YtcljkcgccahlcaaTW
import Derived.Test.YtcljkcgccahlcaaKN
import Derived.Test.YtcljkcgccahlcaaTO
import Derived.Test.YtcljkcgccahlcaaTS
import Derived.Deep.DeepCutAuto
import Derived.Deep.CutBlock
namespace Go.Proofs.Ytcljkcgccahlcaa
open Go.RowKit
set_option linter.unusedVariables false

theorem nl_take {L : List Nl} {n k : Nat} (h : k < (L.take n).length) : nlAt (L.take n) k = nlAt L k := by
  unfold nlAt
  have h1 : k < n := by simp at h; omega
  have h2 : k < L.length := by simp at h; omega
  simp [List.getD_eq_getElem?_getD, h1]

/-- What stands all along: nothing older is turned; the sessions' box. -/
structure TA (w : World) (bx : Nat) (C1 : Array Value) (wr : World) : Prop where
  bel : Below bx w wr
  box : wr.heap[bx]? = some (.cells C1 27 (0, 0))
theorem TA.step {w : World} {bx : Nat} {C1 : Array Value} {u v : World} (h : TA w bx C1 u) (hw : w.heap.size = bx) {k : Nat} (hb : But k u v) (hk : bx < k) : TA w bx C1 v :=
  ⟨h.bel.trans (hb.below (by omega) (by have := h.bel.size; omega)), (hb.block bx (lt_of_block h.box) (by omega)).trans h.box⟩
theorem TA.below {w : World} {bx : Nat} {C1 : Array Value} {u v : World} (h : TA w bx C1 u) (hw : w.heap.size = bx) (hb : Below u.heap.size u v) : TA w bx C1 v := h.step hw (But.of_below (b := bx + 1) hb) (by omega)
/-- The blocks behind bh that w5 had stand. -/
structure TB (w5 : World) (bh : Nat) (wr : World) : Prop where
  size : w5.heap.size ≤ wr.heap.size
  kp : ∀ j, bh < j → j < w5.heap.size → wr.heap[j]? = w5.heap[j]?
theorem TB.refl (w5 : World) (bh : Nat) : TB w5 bh w5 := ⟨Nat.le_refl _, fun _ _ _ => rfl⟩
theorem TB.step {w5 : World} {bh : Nat} {u v : World} (h : TB w5 bh u) {k : Nat} (hb : But k u v) (hk : k ≤ bh ∨ w5.heap.size ≤ k) : TB w5 bh v :=
  ⟨Nat.le_trans h.size hb.size, fun j h1 h2 => (hb.block j (by have := h.size; omega) (by omega)).trans (h.kp j h1 h2)⟩
theorem TB.below {w5 : World} {bh : Nat} {u v : World} (h : TB w5 bh u) (hb : Below u.heap.size u v) : TB w5 bh v := h.step (But.of_below (b := bh) hb) (.inl (Nat.le_refl _))
theorem TB.own {w5 : World} {bh : Nat} {wr : World} (h : TB w5 bh wr) {base e size n : Nat} {v : Value} {xs : List Value} (ho : w5.ownsRow base e size v n xs) (hb : bh < base) : wr.ownsRow base e size v n xs :=
  own_keep ho fun g hg => h.kp g (by have := own_ge ho g hg; omega) (own_lt2 ho g hg)
theorem rd_fams {w : World} {base : Nat} {v : Value} {P : Nat → Bool} (h : w.ownsRow base 3 1 v (famsOf P).length (ints (famsOf P))) : Rd w v (nums (famsOf P)) :=
  rd_of_own (base := base) (by rw [nums_ints, nums_len]; exact h) (by have := famsOf_len P; rw [nums_len]; unfold maxLen; omega)
theorem fams_in0 : FamsIn (fun _ => none) := fun p x h => by cases h
theorem fams_set {F : Tbl} (h : FamsIn F) {p : Pl} (x : To) (hp : 1 ≤ p.fam ∧ p.fam ≤ 5) : FamsIn (F.set p (some x)) := fun q y hq => by
  by_cases e : q = p
  · rw [e]; exact hp
  · rw [F.set_other _ e] at hq; exact h q y hq
theorem aok1 : AOk 1 false 0 := ⟨by omega, by omega, fun _ => rfl⟩
def bnd : Nat → Nat
  | 0 => 40
  | f + 1 => bnd f + bnd f
theorem bnd_le {f : Nat} (h : f ≤ 6) : bnd f ≤ 2560 := by
  match f, h with
  | 0, _ => decide
  | 1, _ => decide
  | 2, _ => decide
  | 3, _ => decide
  | 4, _ => decide
  | 5, _ => decide
  | 6, _ => decide
theorem mem_nums {P : Nat → Bool} {f : Nat} (h1 : 1 ≤ f) (h5 : f ≤ 5) : decide ((f : Int) ∈ nums (famsOf P)) = P f := by
  have : (f : Int) ∈ nums (famsOf P) ↔ P f = true := by
    unfold nums
    rw [List.mem_map]
    constructor
    · rintro ⟨i, hi, e⟩
      obtain rfl : i = f := by omega
      exact (mem_famsOf.1 hi).2
    · intro h; exact ⟨f, mem_famsOf.2 ⟨⟨h1, h5⟩, h⟩, rfl⟩
  cases hp : P f with
  | true => rw [hp] at this; simpa using this
  | false => rw [hp] at this; simpa using this

theorem row_open {w : World} {base : Nat} {v : Value} {l : List Nat} (h : w.ownsRow base 3 1 v l.length (ints l)) (hl : l.length ≤ 6) :
    ∃ ao cap g off, v = .slice ao l.length cap ∧ l.length ≤ cap ∧ (0 < l.length → ao = some ⟨g, off, none⟩ ∧ base ≤ g ∧ g < w.heap.size) ∧ ∀ i, i < l.length → w.cell? ⟨g, off + i, none⟩ = some (.int .i64 ((l.getD i 0 : Nat) : Int)) := by
  have hr : Rd w v (nums l) := rd_of_own (base := base) (by rw [nums_ints, nums_len]; exact h) (by rw [nums_len]; unfold maxLen; omega)
  obtain ⟨ao, cap, g, off, rfl, h1, h2, h3⟩ := hr.open_
  rw [nums_len] at h1 h2 h3 ⊢
  refine ⟨ao, cap, g, off, rfl, h1, fun hp => ⟨(h2 hp).1, ?_, (h2 hp).2⟩, fun i hi => ?_⟩
  · obtain ⟨rfl, _⟩ := h2 hp
    exact own_ge h g rfl
  · rw [h3 i hi]
    simp [nums, List.getD_eq_getElem?_getD, List.getElem?_eq_getElem hi]
theorem mem_getD {l : List Nat} {i : Nat} (h : i < l.length) : l.getD i 0 ∈ l := by
  rw [List.getD_eq_getElem?_getD, List.getElem?_eq_getElem h, Option.getD_some]; exact List.getElem_mem h
theorem TB.cell {w5 : World} {bh : Nat} {wr : World} (h : TB w5 bh wr) {g o : Nat} {v : Value} (h1 : bh < g) (h2 : g < w5.heap.size) (hc : w5.cell? ⟨g, o, none⟩ = some v) : wr.cell? ⟨g, o, none⟩ = some v :=
  (World.cell?_of_block (w := w5) (h.kp g h1 h2)).trans hc
theorem lost_in {st : Nat → Bool} {F : List Int} {K : List (Int × Bool)} {o : Bool} {a : Nat} (h : a ∈ famsOf (goneU st F K o)) : st a = true ∧ 1 ≤ a ∧ a ≤ 5 := by
  obtain ⟨h1, h2⟩ := mem_famsOf.1 h
  unfold goneU at h2
  simp at h2
  exact ⟨h2.1, h1⟩
theorem gone_not {F : List Int} {K : List (Int × Bool)} {gr : Bool} {a : Nat} (h : a ∈ famsOf (goneP nil0 F K gr)) : keepsP F K gr a = false := by
  have := (mem_famsOf.1 h).2
  unfold goneP at this
  simp at this
  exact this.1
theorem atV_ge {l : List Nat} {tm : Int} (h : 0 < l.length) (h0 : 0 ≤ tm) (h1 : tm ≤ 4096) : 100 ≤ atV l tm 100 ∧ atV l tm 100 ≤ 5000 := by
  unfold atV
  rw [if_neg (by omega)]
  omega

set_option maxRecDepth 100000 in
set_option maxHeartbeats 8000000 in
theorem restarts_walk (vo vf : Value) (C : Array Value) (lo lf : List Nl) (F0 : List Int) (K0 : List (Int × Bool)) (gr0 : Bool) (t0 : Int) (F1 : List Int) (K1 : List (Int × Bool)) (gr1 : Bool) (t1 : Int) (w : World)
    (ho : RdN w vo lo) (hf : RdN w vf lf) (hC : C.size = 20) (h0 : Ses w (C.extract 0 10) F0 K0 gr0 t0) (h1 : Ses w (C.extract 10 20) F1 K1 gr1 t1) (hlo : lo.length ≤ maxLen) (hlf : lf.length ≤ maxLen) :
    Calls Try.prog 3 #[vo, vf, .agg C] w fun e w' => e = .returned (.bool true) ∧ Below w.heap.size w w' := by
  obtain ⟨⟨ao, cap, g, off, rfl, hcap, hao, hat⟩, hok⟩ := ho
  obtain ⟨⟨fo, fcap, fg, foff, rfl, hfcap, hfo, hfat⟩, hfok⟩ := hf
  obtain ⟨n, hn⟩ : ∃ n, min lo.length 40 = n := ⟨_, rfl⟩
  have hmin : (if (40 : Int) < (lo.length : Int) then (40 : Int) else (lo.length : Int)) = (n : Int) := by split <;> omega
  have hmin2 : min (lo.length : Int) 40 = (n : Int) := by omega
  have hn1 : (0 : Int) ≤ (n : Int) := by omega
  have hn2 : (n : Int) ≤ (cap : Int) := by omega
  obtain ⟨fn, hfn⟩ : ∃ n, min lf.length 40 = n := ⟨_, rfl⟩
  have hfmin : (if (40 : Int) < (lf.length : Int) then (40 : Int) else (lf.length : Int)) = (fn : Int) := by split <;> omega
  have hfmin2 : min (lf.length : Int) 40 = (fn : Int) := by omega
  have hfn1 : (0 : Int) ≤ (fn : Int) := by omega
  have hfn2 : (fn : Int) ≤ (fcap : Int) := by omega
  have H0 := Lib.hid h0
  have H1 := Lib.hid h1
  have HAT := Lib.hid hat
  have HAO := Lib.hid hao
  have HOK := Lib.hid hok
  have HFAT := Lib.hid hfat
  have HFO := Lib.hid hfo
  have HFOK := Lib.hid hfok
  have hbxA := heap_alloc_new w (.cells C 27)
  have HBX := Lib.hid hbxA
  clear h0 h1 hat hao hok hfat hfo hfok hbxA
  go_enter Try.func3, Try.ntmps3
  go_wp2_with fail
  refine (known_any _).mono ?_
  rintro e w1 ⟨rfl, hB⟩
  have hbx1 := (hB.block w.heap.size (by simp)).trans HBX.out
  have hB1 : Below w.heap.size w w1 := ((Below.refl _ _).alloc (Nat.le_refl _) _).trans (hB.mono (by simp))
  have hs1 : w.heap.size < w1.heap.size := lt_of_block hbx1
  have ht8 : C[8]? = some (.int .i64 t0) := by
    have := H0.out.time_
    rw [Array.getElem?_extract, if_pos (by omega)] at this
    simpa using this
  have hc8 : w1.cell? ⟨w.heap.size, 8, none⟩ = some (.int .i64 t0) := by rw [cell_of_row _ _ _ _ _ _ hbx1]; exact ht8
  have hf8 := frozen_of_row _ _ 8 _ _ hbx1
  clear hB
  go_wp2_with fail
  obtain ⟨tm, htm⟩ : ∃ tm, max 0 (t0.tmod 4096) = tm := ⟨_, rfl⟩
  have htm0 : 0 ≤ tm := by omega
  have htm1 : tm ≤ 4096 := by have := Int.tmod_lt_of_pos t0 (show (0 : Int) < 4096 by omega); omega
  rw [htm]
  clear htm
  have hbx2 : (w1.setCell ⟨w.heap.size, 8, none⟩ (.int .i64 tm)).heap[w.heap.size]? = some (.cells (C.setIfInBounds 8 (.int .i64 tm)) 27 (0, 0)) := set_heap hbx1
  have hB2 : Below w.heap.size w (w1.setCell ⟨w.heap.size, 8, none⟩ (.int .i64 tm)) := hB1.setCell (p := ⟨w.heap.size, 8, none⟩) (Nat.le_refl _) _
  have hs2 : w.heap.size < (w1.setCell ⟨w.heap.size, 8, none⟩ (.int .i64 tm)).heap.size := lt_of_block hbx2
  generalize w1.setCell ⟨w.heap.size, 8, none⟩ (.int .i64 tm) = w2 at *
  clear hbx1 hB1 hs1 ht8 hc8 hf8 w1
  obtain ⟨C1, hC1⟩ : ∃ C1, C.setIfInBounds 8 (.int .i64 tm) = C1 := ⟨_, rfl⟩
  rw [hC1] at hbx2
  have HS0 : Hid (Ses w (C1.extract 0 10) F0 K0 gr0 tm) := by
    show Ses _ _ _ _ _ _
    rw [← hC1, extract_set_in (by omega)]
    exact H0.out.time tm (by omega) (by omega)
  have HS1 : Hid (Ses w (C1.extract 10 20) F1 K1 gr1 t1) := by
    show Ses _ _ _ _ _ _
    rw [← hC1, extract_set_out (by omega)]
    exact H1.out
  have hC1s : C1.size = 20 := by rw [← hC1]; simpa using hC
  clear hC1 H0 H1
  obtain ⟨bx, hbxe⟩ : ∃ bx, w.heap.size = bx := ⟨_, rfl⟩
  rw [hbxe] at hbx2 hB2 hs2 ⊢
  -- the rib, the helper
  refine (newRib_any _).mono ?_
  rintro e w3 ⟨b, m, rfl, hR3, hb, hm, hb3⟩
  have hbx3 := (hb3.block bx hs2).trans hbx2
  have hB3 := hB2.trans (hb3.mono (by omega))
  have hs3 := hb3.size
  clear hbx2 hB2 hb3
  go_wp2_with fail
  refine (new_any _).mono ?_
  rintro e w4 ⟨rfl, hw4⟩
  have hh4 : IsH w4 w3.heap.size nil0 0 := hw4 ▸ isH_new w3
  have hb4 : Below w3.heap.size w3 w4 := hw4 ▸ (Below.refl _ _).alloc (Nat.le_refl _) _
  have hR4 := hR3.below hb4
  have hbx4 := (hb4.block bx (by omega)).trans hbx3
  have hB4 := hB3.trans (hb4.mono (by omega))
  have hbb := hR3.lt
  have hmb := hR3.map.lt
  have hhl := hh4.lt
  clear hR3 hbx3 hB3 hb4 hw4
  obtain ⟨bh, hbh⟩ : ∃ bh, w3.heap.size = bh := ⟨_, rfl⟩
  rw [hbh] at hh4 hbb hmb hhl hs3 ⊢
  clear hbh
  have hta4 : TA w bx C1 w4 := ⟨hB4, hbx4⟩
  have HOKn : Hid (n ≤ lo.length ∧ n ≤ 40) := by show _ ∧ _; omega
  have hn9 : n ≤ 40 := by omega
  have hfn9 : fn ≤ 40 := by omega
  obtain ⟨L0, hL0⟩ : ∃ L0, (C1.extract 0 10).toList = L0 := ⟨_, rfl⟩
  obtain ⟨L1, hL1⟩ : ∃ L1, (C1.extract 10 20).toList = L1 := ⟨_, rfl⟩
  have HL0 : Hid (∀ wr, TA w bx C1 wr → wr.rangeAt bx 0 L0 ∧ Ses wr L0.toArray F0 K0 gr0 tm) := fun wr h => by
    rw [← hL0]
    exact ⟨World.rangeAt_of_block h.box 0 10, by rw [Array.toArray_toList]; exact HS0.out.below (by rw [hbxe]; exact h.bel)⟩
  have HL1 : Hid (∀ wr, TA w bx C1 wr → wr.rangeAt bx 10 L1 ∧ Ses wr L1.toArray F1 K1 gr1 t1 ∧ wr.cell? ⟨bx, 16, none⟩ = some (.bool gr1)) := fun wr h => by
    rw [← hL1]
    refine ⟨World.rangeAt_of_block h.box 10 10, by rw [Array.toArray_toList]; exact HS1.out.below (by rw [hbxe]; exact h.bel), ?_⟩
    rw [cell_of_row _ _ _ _ _ _ h.box]
    have := HS1.out.hasGR
    rw [Array.getElem?_extract, if_pos (by omega)] at this
    simpa using this
  have HN0 : Hid ((Try.prog.info? 26).map (·.size) = some L0.length) := by show _ = _; rw [← hL0, Array.length_toList, HS0.out.size]; exact sizeSe
  have HN1 : Hid ((Try.prog.info? 26).map (·.size) = some L1.length) := by show _ = _; rw [← hL1, Array.length_toList, HS1.out.size]; exact sizeSe
  clear hL0 hL1 HS0 HS1
  clear hbx4 hB4 hmin hmin2 hn1 hn2 hfmin hfmin2 hfn1 hfn2 hn hcap
  go_wp2_with fail
  -- the first loop: the old ones are put
  go_loopw [9] (fun i wr => ∃ (k nn : Nat) (F : Tbl), i = .int .i64 k ∧ k ≤ n ∧ nn ≤ k ∧ IsRib wr b m nn F ∧ Hid (FamsIn F) ∧ IsH wr bh nil0 0 ∧ TA w bx C1 wr) (fun i _ => n - (intOf i).toNat)
  case atStart => exact ⟨0, 0, _, rfl, Nat.zero_le _, Nat.le_refl _, hR4, fams_in0, hh4, hta4⟩
  case round =>
    as_aux_lemma =>
    obtain ⟨k, nn, F, rfl, hk, hnn, hR, hfi, hh, hta⟩ := hrel
    clear hR4 hh4 hta4
    by_cases hlt : k < n
    · as_aux_lemma =>
      obtain ⟨rfl, hgl⟩ := HAO.out (by have := HOKn.out; omega)
      obtain ⟨q0, q1, q2, q3, q4, q5⟩ := (HAT.out k (by have := HOKn.out; omega)).keep (hta.bel.block g (by omega))
      have hpo := Lib.hid (HOK.out k (by have := HOKn.out; omega))
      have hkc : (k : Int) < (n : Int) := by omega
      obtain ⟨x, hx⟩ : ∃ x, nlAt lo k = x := ⟨_, rfl⟩
      rw [hx] at q0 q1 q2 q3 q4 q5 hpo
      clear hx
      cases hck : chkN x.p x.label with
      | false =>
        go_wp2_with fail
        refine (put_no b m nn F x.p x.label 1 0 false hck wr hR).mono ?_
        rintro e w5 ⟨rfl, hb5⟩
        have hR5 := hR.below hb5
        have hh5 := hh.keep (hb5.block bh hh.lt)
        have hta5 := hta.below hbxe hb5
        clear hb5 hR hh hta q0 q1 q2 q3 q4 q5
        go_wp2_with fail
        go_roundw
        case rel => exact ⟨k + 1, nn, F, by go_num, by omega, by omega, hR5, hfi, hh5, hta5⟩
        case measure => simp [intOf]; omega
      | true =>
        go_wp2_with fail
        refine (put_yes b m nn F x.p x.label 1 0 false hck hpo.out aok1 wr hR (by omega)).mono ?_
        rintro e w5 ⟨rfl, hR5, hb5⟩
        have hh5 := hh.keep (hb5.block bh hh.lt (by omega))
        have hta5 := hta.step hbxe hb5 (by omega)
        have hfi5 : Hid (FamsIn (F.set x.p (some ⟨x.label, 1, false, 0, false⟩))) := fams_set hfi.out _ (chkN_fam hck)
        clear hb5 hR hh hta q0 q1 q2 q3 q4 q5
        go_wp2_with fail
        go_roundw
        case rel => exact ⟨k + 1, nn + 1, _, by go_num, by omega, by omega, hR5, hfi5, hh5, hta5⟩
        case measure => simp [intOf]; omega
    · obtain rfl : k = n := by omega
      obtain ⟨hr0, hs0⟩ := HL0.out wr hta
      have HR0 := Lib.hid hr0
      have hnn9 : nn ≤ 40 := by omega
      clear hr0 hlt hk hn9 HOKn
      go_wp2_with (refine wpList_load_mid rfl 26 (.tmp 64) rfl bx 0 rfl L0 _ HR0.out Try.underlying26 rfl HN0.out ?_)
      refine (down_any bh nil0 0 L0.toArray F0 K0 gr0 tm 100 wr hh hs0 (by omega) (by omega)).mono ?_
      rintro e w5 ⟨vk, vg, rfl, hvk, hvg, hh5, hb5⟩
      have hR5 := hR.but hb5 (by omega) (by omega)
      have hta5 := hta.step hbxe hb5 (by omega)
      have hbw := hh.lt
      have hgn : Hid (∀ a, a ∈ famsOf (goneP nil0 F0 K0 gr0) → keepsP F0 K0 gr0 a = false) := fun a h => gone_not h
      have hs5 := hb5.size
      have hd5 : Hid (DownTo (keepsP F0 K0 gr0) 1 F) := downTo_start hfi.out
      clear hR hh hta hb5 hfi hs0 HR0
      obtain ⟨K, hK⟩ : ∃ K, keepsP F0 K0 gr0 = K := ⟨_, rfl⟩
      obtain ⟨lg, hlg⟩ : ∃ l, famsOf (goneP nil0 F0 K0 gr0) = l := ⟨_, rfl⟩
      have hlg6 : lg.length ≤ 6 := by rw [← hlg]; exact famsOf_len _
      rw [hK] at hvk hh5 hgn hd5 ⊢
      rw [hlg] at hvg hgn
      clear hK hlg
      have hat := atV_ge (l := famsOf K) (tm := tm) (h0 := htm0) (h1 := htm1)
      obtain ⟨at_, hat_⟩ : ∃ a, atV (famsOf K) tm 100 = a := ⟨_, rfl⟩
      rw [hat_] at hh5 hat ⊢
      have HAT_ := Lib.hid hat
      have hat0 : (famsOf K).length = 0 → at_ = 0 := fun h => by rw [← hat_]; simp [atV, h]
      have HAT0 := Lib.hid hat0
      clear hat_ hat hat0
      have hkl := famsOf_len K
      obtain ⟨ka, kc, kg, koff, hvke, hkc, hka, hkcell⟩ := row_open hvk hkl
      have HVK := Lib.hid hvk
      obtain ⟨ga, gc, gg, goff, rfl, hgc, hga, hgcell⟩ := row_open hvg hlg6
      have HGA := Lib.hid hga
      have HGC := Lib.hid hgcell
      clear hvk hvg hga hgcell hka hkcell hkc
      subst hvke
      obtain ⟨B5, hB5⟩ : ∃ B5, wr.heap.size = B5 := ⟨_, rfl⟩
      rw [hB5] at HVK HGA hbw hs5
      clear hB5
      have htb5 := TB.refl w5 bh
      go_wp2_with fail
      -- the second loop: what is kept is marked, what is not is cleared
      go_loopw [13] (fun i wr => ∃ (f nn : Nat) (F : Tbl), i = .int .i64 f ∧ 1 ≤ f ∧ f ≤ 6 ∧ nn ≤ bnd f ∧ IsRib wr b m nn F ∧ Hid (DownTo K f F) ∧ IsH wr bh K at_ ∧ TA w bx C1 wr ∧ TB w5 bh wr) (fun i _ => 6 - (intOf i).toNat)
      case atStart => exact ⟨1, nn, F, rfl, by omega, by omega, by show nn ≤ 40 + 40; omega, hR5, hd5, hh5, hta5, htb5⟩
      case round =>
        as_aux_lemma =>
        obtain ⟨f, nn, F, rfl, hf1, hf6, hnn, hR, hdn, hh, hta, htb⟩ := hrel
        clear hR5 hd5 hh5 hta5 htb5
        have hbl := bnd_le hf6
        by_cases hlt : f ≤ 5
        · as_aux_lemma =>
          have hle : decide ((f : Int) ≤ 5) = true := by simp; omega
          have hrd := rd_fams (htb.own HVK.out hbw)
          go_wp2_with fail
          refine (has30_any _ _ (f : Int) wr hrd).mono ?_
          rintro e w' ⟨rfl, rfl⟩
          rw [mem_nums hf1 hlt]
          clear hrd
          cases hkf : K f with
          | true =>
            go_wp2_with fail
            refine (mark_any b m nn F (f : Int) wr hR (by omega)).mono ?_
            rintro e w6 ⟨L, rfl, _, hR6, hb6⟩
            have hh6 := hh.keep (hb6.block bh hh.lt (by omega))
            have hta6 := hta.step hbxe hb6 (by omega)
            have htb6 := htb.step hb6 (by omega)
            have hdn6 : Hid (DownTo K (f + 1) (F.mark f)) := hdn.out.mark hkf
            clear hR hh hta htb hb6 hkf
            go_wp2_with fail
            go_roundw
            case rel => exact ⟨f + 1, nn + nn, _, by go_num, by omega, by omega, by show nn + nn ≤ bnd f + bnd f; omega, hR6, hdn6, hh6, hta6, htb6⟩
            case measure => simp [intOf]; omega
          | false =>
            go_wp2_with fail
            refine (clear_any b m nn F (f : Int) wr hR (by omega)).mono ?_
            rintro e w6 ⟨r, rfl, hR6, hb6⟩
            have hh6 := hh.keep (hb6.block bh hh.lt (by omega))
            have hta6 := hta.step hbxe hb6 (by omega)
            have htb6 := htb.step hb6 (by omega)
            have hdn6 : Hid (DownTo K (f + 1) (F.clear f)) := hdn.out.clear
            clear hR hh hta htb hb6 hkf
            go_wp2_with fail
            go_roundw
            case rel => exact ⟨f + 1, nn, _, by go_num, by omega, by omega, by show nn ≤ bnd f + bnd f; omega, hR6, hdn6, hh6, hta6, htb6⟩
            case measure => simp [intOf]; omega
        · have hle : decide ((f : Int) ≤ 5) = false := by simp; omega
          have hst : Hid (AllStale K F) := by
            have h6 := hdn.out
            rw [show f = 6 by omega] at h6
            exact h6.done
          clear hdn hlt hf1 hf6
          generalize wr = wD at *
          go_wp2_with fail
          -- the third loop: of what is gone nothing is left
          go_loopw [14] (fun i wz => ∃ j : Nat, i = .int .i64 j ∧ j ≤ lg.length ∧ Below wD.heap.size wD wz) (fun i _ => lg.length - (intOf i).toNat)
          case atStart => exact ⟨0, rfl, Nat.zero_le _, Below.refl _ _⟩
          case round =>
            as_aux_lemma =>
            obtain ⟨j, rfl, hj, hbz⟩ := hrel
            by_cases hlt : j < lg.length
            · as_aux_lemma =>
              obtain ⟨rfl, hgb, hgl⟩ := HGA.out (by omega)
              have hc := (htb.below hbz).cell (by omega) hgl (HGC.out j hlt)
              have hmem := hgn.out _ (mem_getD hlt)
              generalize lg.getD j 0 = a at *
              have hRz := hR.below hbz
              go_wp2_with fail
              refine (count_any b m nn F (a : Int) wr hRz (by omega)).mono ?_
              rintro e w6 ⟨L, rfl, hL, _, hb6⟩
              obtain rfl : L = [] := (hst.out.noFam hmem).nil hL.out
              have hbz6 := hbz.trans (hb6.mono hbz.size)
              clear hb6 hRz hbz hL hc
              go_wp2_with fail
              go_roundw
              case rel => exact ⟨j + 1, by go_num, by omega, hbz6⟩
              case measure => simp [intOf]; omega
            · obtain rfl : j = lg.length := by omega
              have hRx := hR.below hbz
              have hhx := hh.keep (hbz.block bh hh.lt)
              have htax := hta.below hbxe hbz
              have htbx := htb.below hbz
              clear hR hh hta htb hbz HGA HGC hgn hlt hj
              go_wp2_with fail
              refine (rcopy_any b m nn F wr hRx (by omega)).mono ?_
              rintro e w6 ⟨b2, m2, rfl, hR26, hb2, hm2, hb6⟩
              have hR6 := hRx.below hb6
              have hh6 := hhx.keep (hb6.block bh hhx.lt)
              have hta6 := htax.below hbxe hb6
              have htb6 := htbx.below hb6
              have hxs := htbx.size
              clear hRx hhx htax htbx hb6
              go_wp2_with fail
              refine (copy_any bh K at_ w6 hh6).mono ?_
              rintro e w7 ⟨rfl, hw7⟩
              have hb7 : Below w6.heap.size w6 w7 := hw7 ▸ (Below.refl _ _).alloc (Nat.le_refl _) _
              have hh27 : IsH w7 w6.heap.size K at_ := hw7 ▸ isH_copy hh6.e0 hh6.e1
              have hR7 := hR6.below hb7
              have hR27 := hR26.below hb7
              have hh7 := hh6.keep (hb7.block bh hh6.lt)
              have hta7 := hta6.below hbxe hb7
              have htb7 := htb6.below hb7
              have hb26 := hR26.lt
              have hm26 := hR26.map.lt
              have hbm2 := hR26.ne
              have hl27 := hh27.lt
              have hl5 := htb6.size
              clear hR6 hR26 hh6 hta6 htb6 hb7 hw7
              obtain ⟨bh2, hbh2⟩ : ∃ x, w6.heap.size = x := ⟨_, rfl⟩
              rw [hbh2] at hh27 hb26 hm26 hl27 hl5 ⊢
              clear hbh2
              go_upto_region 25 with fail
              go_cut [100, 101, 102, 103, 104, 105, 106, 107, 108, 109, 110, 111, 112, 113, 114, 115, 116, 117, 118] (fun s100 s101 s102 s103 s104 s105 s106 s107 s108 s109 s110 s111 s112 s113 s114 s115 s116 s117 s118 wx => s118 = .bool false ∧ Below w7.heap.size w7 wx)
              case first =>
                as_aux_lemma =>
                by_cases hk0 : (famsOf K).length = 0
                · have hle : decide ((0 : Int) < ((famsOf K).length : Int)) = false := decide_eq_false (by omega)
                  clear HVK hb2 hm2
                  go_wp2_with fail
                  go_meet
                  exact ⟨rfl, Below.refl _ _⟩
                · have hle : decide ((0 : Int) < ((famsOf K).length : Int)) = true := decide_eq_true (by omega)
                  have hat := HAT_.out (by omega)
                  have hwr : IntKind.u64.wrap (at_ - 1) = at_ - 1 := by simp [IntKind.wrap, IntKind.signed, IntKind.bits]; omega
                  clear HVK hb2 hm2
                  go_wp2_with fail
                  refine (fire_before bh2 (at_ - 1) K at_ (by omega) w7 hh27).mono ?_
                  rintro e w' ⟨rfl, rfl⟩
                  go_wp2_with fail
                  refine (stale_any bh2 K at_ w7 hh27).mono ?_
                  rintro e w8 ⟨v, rfl, hrow⟩
                  obtain ⟨va, vc, rfl⟩ := own_form hrow.1
                  have hb8 := hrow.2
                  clear hrow
                  go_wp2_with fail
                  go_meet
                  exact ⟨rfl, hb8⟩
              case rest =>
                as_aux_lemma =>
                obtain ⟨rfl, hbc⟩ := hcut
                have hR8 := hR7.below hbc
                have hR28 := hR27.below hbc
                have hh8 := hh7.keep (hbc.block bh hh7.lt)
                have hh28 := hh27.keep (hbc.block bh2 hh27.lt)
                have hta8 := hta7.below hbxe hbc
                have htb8 := htb7.below hbc
                have hsc := hbc.size
                clear hR7 hR27 hh7 hh27 hta7 htb7 hbc
                go_wp2_with fail
                refine (fire_behind bh2 at_ K at_ (Int.le_refl _) wc hh28).mono ?_
                rintro e w9 ⟨v, rfl, hrow, _, hb9⟩
                have hR9 := hR8.but hb9 (by omega) (by omega)
                have hR29 := hR28.but hb9 (by omega) (by omega)
                have hh9 := hh8.keep (hb9.block bh hh8.lt (by omega))
                have hta9 := hta8.step hbxe hb9 (by omega)
                have htb9 := htb8.step hb9 (by omega)
                have hs9 := hb9.size
                clear hR8 hR28 hh8 hh28 hta8 htb8 hb9
                go_wp2_with fail
                refine (let_any b2 m2 nn F v (famsOf K) w9 hR29 (by omega) (rd_fams hrow) (fun e => by have := own_ge hrow m2 e; omega)).mono ?_
                rintro e w10 ⟨rfl, hR210, hb10⟩
                have hR10 := hR9.but hb10 (by omega) (by omega)
                have hh10 := hh9.keep (hb10.block bh hh9.lt (by omega))
                have hta10 := hta9.step hbxe hb10 (by omega)
                have htb10 := htb9.step hb10 (by omega)
                clear hR9 hR29 hh9 hta9 htb9 hb10 hrow
                go_wp2_with fail
                -- the fourth loop: when it does not come, nothing is left
                go_loopw [17] (fun i wz => ∃ f : Nat, i = .int .i64 f ∧ 1 ≤ f ∧ f ≤ 6 ∧ Below w10.heap.size w10 wz) (fun i _ => 6 - (intOf i).toNat)
                case atStart => exact ⟨1, rfl, by omega, by omega, Below.refl _ _⟩
                case round =>
                  as_aux_lemma =>
                  obtain ⟨f4, rfl, hf41, hf46, hbz⟩ := hrel
                  by_cases hlt : f4 ≤ 5
                  · as_aux_lemma =>
                    have hle4 : decide ((f4 : Int) ≤ 5) = true := by simp; omega
                    have hRz := hR210.below hbz
                    go_wp2_with fail
                    refine (count_any b2 m2 nn _ (f4 : Int) wr hRz (by omega)).mono ?_
                    rintro e w11 ⟨L, rfl, hL, _, hb11⟩
                    obtain rfl : L = [] := (hst.out.swept (f4 : Int)).nil hL.out
                    have hbz11 := hbz.trans (hb11.mono hbz.size)
                    clear hb11 hRz hbz hL
                    go_wp2_with fail
                    go_roundw
                    case rel => exact ⟨f4 + 1, by go_num, by omega, by omega, hbz11⟩
                    case measure => simp [intOf]; omega
                  · have hle4 : decide ((f4 : Int) ≤ 5) = false := by simp; omega
                    have hR11 := hR10.below hbz
                    have hh11 := hh10.keep (hbz.block bh hh10.lt)
                    have hta11 := hta10.below hbxe hbz
                    have htb11 := htb10.below hbz
                    clear hR10 hR210 hh10 hta10 htb10 hbz hlt
                    obtain ⟨hr1, hs1, hg1⟩ := HL1.out wr hta11
                    have HR1 := Lib.hid hr1
                    clear hr1
                    go_wp2_with (refine wpList_load_mid rfl 26 (.tmp 137) rfl bx 10 rfl L1 _ HR1.out Try.underlying26 rfl HN1.out ?_)
                    refine (up_any bh K at_ _ L1.toArray gr1 F1 K1 gr1 t1 wr hh11 hs1 rfl).mono ?_
                    rintro e w12 ⟨vl, rfl, hvl, hh12, hb12⟩
                    have hR12 := hR11.but hb12 (by omega) (by omega)
                    have hta12 := hta11.step hbxe hb12 (by omega)
                    have htb12 := htb11.step hb12 (by omega)
                    have hws := hh11.lt
                    have hli : Hid (∀ a, a ∈ famsOf (goneU K F1 K1 gr1) → K a = true ∧ 1 ≤ a ∧ a ≤ 5) := fun a h => lost_in h
                    clear hR11 hta11 htb11 hb12 hs1 hg1 HR1 hh11
                    have hll6 := famsOf_len (goneU K F1 K1 gr1)
                    have hrd := rd_fams hvl
                    obtain ⟨ll, hll⟩ : ∃ l, famsOf (goneU K F1 K1 gr1) = l := ⟨_, rfl⟩
                    rw [hll] at hvl hli hll6 hrd hh12
                    clear hll
                    go_wp2_with fail
                    refine (let_any b m nn F vl ll w12 hR12 (by omega) hrd (fun e => by have := own_ge hvl m e; omega)).mono ?_
                    rintro e w13 ⟨rfl, hR13, hb13⟩
                    have hvl13 := own_but hvl hb13 (by omega)
                    have hh13 := hh12.keep (hb13.block bh hh12.lt (by omega))
                    have hta13 := hta12.step hbxe hb13 (by omega)
                    have htb13 := htb12.step hb13 (by omega)
                    have hst2 : Hid (AllStale (dropL K ll) (F.sweeps ll)) := hst.out.lose ll
                    have hlo2 : Hid (∀ a, a ∈ ll → NoFam (F.sweeps ll) (a : Int)) := fun a h => hst.out.lost ll h
                    clear hR12 hh12 hta12 htb12 hb13 hvl hrd hst
                    obtain ⟨la, lc, lg1, loff, rfl, hlc, hla, hlcell⟩ := row_open hvl13 hll6
                    have HLA := Lib.hid hla
                    have HLC := Lib.hid hlcell
                    clear hvl13 hla hlcell hlc
                    obtain ⟨F2, hF2⟩ : ∃ F2, F.sweeps ll = F2 := ⟨_, rfl⟩
                    obtain ⟨K2, hK2⟩ : ∃ K2, dropL K ll = K2 := ⟨_, rfl⟩
                    rw [hF2] at hR13 hst2 hlo2
                    rw [hK2] at hh13 hst2
                    clear hF2 hK2
                    go_wp2_with fail
                    -- the fifth loop: what is lost was kept, and nothing of it is left
                    go_loopw [19] (fun i wz => ∃ j : Nat, i = .int .i64 j ∧ j ≤ ll.length ∧ Below w13.heap.size w13 wz) (fun i _ => ll.length - (intOf i).toNat)
                    case atStart => exact ⟨0, rfl, Nat.zero_le _, Below.refl _ _⟩
                    case round =>
                      as_aux_lemma =>
                      obtain ⟨j5, rfl, hj, hbz⟩ := hrel
                      by_cases hlt : j5 < ll.length
                      · as_aux_lemma =>
                        obtain ⟨rfl, hgb, hgl⟩ := HLA.out (by omega)
                        have hc := (hbz.cell (p := ⟨lg1, loff + j5, none⟩) hgl).trans (HLC.out j5 hlt)
                        have hmem := mem_getD hlt
                        have hnf := Lib.hid (hlo2.out _ hmem)
                        obtain ⟨hka1, hka2, hka3⟩ := hli.out _ hmem
                        generalize ll.getD j5 0 = a at *
                        have hRz := hR13.below hbz
                        go_wp2_with fail
                        refine (count_any b m nn F2 (a : Int) wr hRz (by omega)).mono ?_
                        rintro e w14 ⟨L, rfl, hL, _, hb14⟩
                        obtain rfl : L = [] := hnf.out.nil hL.out
                        have hbz14 := hbz.trans (hb14.mono hbz.size)
                        have hrd := rd_fams ((htb13.below hbz14).own HVK.out hbw)
                        have hc14 := (hb14.cell (p := ⟨lg1, loff + j5, none⟩) (by have := hbz.size; show lg1 < _; omega)).trans hc
                        clear hb14 hRz hbz hL hc
                        go_wp2_with fail
                        refine (has30_any _ _ (a : Int) w14 hrd).mono ?_
                        rintro e w' ⟨rfl, rfl⟩
                        rw [mem_nums hka2 hka3, hka1]
                        clear hrd
                        go_wp2_with fail
                        go_roundw
                        case rel => exact ⟨j5 + 1, by go_num, by omega, hbz14⟩
                        case measure => simp [intOf]; omega
                      · obtain rfl : j5 = ll.length := by omega
                        have hR15 := hR13.below hbz
                        have hh15 := hh13.keep (hbz.block bh hh13.lt)
                        have hta15 := hta13.below hbxe hbz
                        clear hR13 hh13 hta13 htb13 hbz HLA HLC hli hlo2 HVK
                        -- what is told anew
                        obtain ⟨fl, hfl⟩ : ∃ fl, lf.take fn = fl := ⟨_, rfl⟩
                        have hfll : fl.length = fn := by rw [← hfl, List.length_take]; omega
                        have hfle : ∀ j, j < fn → nlAt fl j = nlAt lf j := fun j hj => by rw [← hfl]; exact nl_take (by rw [List.length_take]; omega)
                        have HXA : Hid (∀ j, j < fn → NlAt w fg (foff + j * 6) (nlAt fl j) ∧ (nlAt fl j).p.Ok ∧ fo = some ⟨fg, foff, none⟩ ∧ fg < w.heap.size) := fun j hj => by
                          rw [hfle j hj]
                          exact ⟨HFAT.out j (by omega), HFOK.out j (by omega), HFO.out (by omega)⟩
                        have HFC : Hid (fn ≤ fcap) := by show _ ≤ _; omega
                        have hfr : Hid (FreshTo fl K2 0 F2) := hst2.out.fresh fl
                        clear hfl hfle hst2 HFAT HFO HFOK hlt hj HAT HAO HOK HL0 HL1 HN0 HN1 HBX
                        go_wp2_with fail
                        -- the sixth loop: the fresh ones are put
                        go_loopw [21] (fun i wz => ∃ (j n6 : Nat) (F6 : Tbl), i = .int .i64 j ∧ j ≤ fn ∧ n6 ≤ nn + j ∧ IsRib wz b m n6 F6 ∧ Hid (FreshTo fl K2 j F6) ∧ IsH wz bh K2 at_ ∧ TA w bx C1 wz) (fun i _ => fn - (intOf i).toNat)
                        case atStart => exact ⟨0, nn, F2, rfl, Nat.zero_le _, by omega, hR15, hfr, hh15, hta15⟩
                        case round =>
                          as_aux_lemma =>
                          obtain ⟨j6, n6, F6, rfl, hj, hn6, hR, hf6, hh, hta⟩ := hrel
                          clear hR15 hfr hh15 hta15
                          by_cases hlt : j6 < fn
                          · as_aux_lemma =>
                            obtain ⟨hx0, hxok, rfl, hfgl⟩ := HXA.out j6 hlt
                            obtain ⟨q0, q1, q2, q3, q4, q5⟩ := hx0.keep (hta.bel.block fg (by omega))
                            have hw32 : IntKind.u32.wrap (j6 : Int) = (j6 : Int) := by simp [IntKind.wrap, IntKind.signed, IntKind.bits]; omega
                            have HX0 := Lib.hid hx0
                            have HXOK := Lib.hid hxok
                            have hyes := Lib.hid (hf6.out.yes (l := fl) (K := K2) (i := j6) (F := F6))
                            have hno := Lib.hid (hf6.out.no (l := fl) (K := K2) (i := j6) (F := F6))
                            unfold newTo Nl.ok at hyes
                            unfold Nl.ok at hno
                            obtain ⟨x, hx⟩ : ∃ x, nlAt fl j6 = x := ⟨_, rfl⟩
                            rw [hx] at q0 q1 q2 q3 q4 q5 HX0 HXOK hyes hno
                            clear hx hx0 hxok hf6
                            have hjc : (j6 : Int) < (fn : Int) := by omega
                            cases hck : chkN x.p x.label with
                            | false =>
                              have hnc : Hid (∀ w, Calls Try.prog 19 #[.agg (nlC x.p x.label)] w fun e w' => e = .returned (.int .i64 2) ∧ Below w.heap.size w w') := fun w => by have := ncheck_any x.p x.label w; rw [hck] at this; exact this
                              have hf7 : Hid (FreshTo fl K2 (j6 + 1) F6) := hno.out hck
                              go_wp2_with fail
                              refine (put_no b m n6 F6 x.p x.label 2 (j6 : Int) true hck wr hR).mono ?_
                              rintro e w16 ⟨rfl, hb16⟩
                              have hR16 := hR.below hb16
                              have hh16 := hh.keep (hb16.block bh hh.lt)
                              have hta16 := hta.below hbxe hb16
                              clear hb16 hR hh hta q0 q1 q2 q3 q4 q5
                              obtain ⟨q0, q1, q2, q3, q4, q5⟩ := HX0.out.keep (hta16.bel.block fg (by omega))
                              go_wp2_with fail
                              refine (hnc.out _).mono ?_
                              rintro e w17 ⟨rfl, hb17⟩
                              have hR17 := hR16.below hb17
                              have hh17 := hh16.keep (hb17.block bh hh16.lt)
                              have hta17 := hta16.below hbxe hb17
                              clear hb17 hR16 hh16 hta16 q0 q1 q2 q3 q4 q5
                              go_wp2_with fail
                              go_roundw
                              case rel => exact ⟨j6 + 1, n6, F6, by go_num, by omega, by omega, hR17, hf7, hh17, hta17⟩
                              case measure => simp [intOf]; omega
                            | true =>
                              have hnc : Hid (∀ w, Calls Try.prog 19 #[.agg (nlC x.p x.label)] w fun e w' => e = .returned (.int .i64 0) ∧ Below w.heap.size w w') := fun w => by have := ncheck_any x.p x.label w; rw [hck] at this; exact this
                              have hf7 : Hid (FreshTo fl K2 (j6 + 1) (F6.set x.p (some ⟨x.label, 2, true, (j6 : Int), false⟩))) := hyes.out hck
                              go_wp2_with fail
                              refine (put_yes b m n6 F6 x.p x.label 2 (j6 : Int) true hck HXOK.out ⟨by omega, by omega, fun h => by cases h⟩ wr hR (by omega)).mono ?_
                              rintro e w16 ⟨rfl, hR16, hb16⟩
                              have hh16 := hh.keep (hb16.block bh hh.lt (by omega))
                              have hta16 := hta.step hbxe hb16 (by omega)
                              clear hb16 hR hh hta q0 q1 q2 q3 q4 q5
                              obtain ⟨q0, q1, q2, q3, q4, q5⟩ := HX0.out.keep (hta16.bel.block fg (by omega))
                              go_wp2_with fail
                              refine (hnc.out _).mono ?_
                              rintro e w17 ⟨rfl, hb17⟩
                              have hR17 := hR16.below hb17
                              have hh17 := hh16.keep (hb17.block bh hh16.lt)
                              have hta17 := hta16.below hbxe hb17
                              clear hb17 hR16 hh16 hta16 q0 q1 q2 q3 q4 q5
                              go_wp2_with fail
                              go_roundw
                              case rel => exact ⟨j6 + 1, n6 + 1, _, by go_num, by omega, by omega, hR17, hf7, hh17, hta17⟩
                              case measure => simp [intOf]; omega
                          · obtain rfl : fn = j6 := by omega
                            have he6 : Hid (EndsTo fl K2 1 F6) := by
                              have h6 := hf6.out
                              rw [← hfll] at h6
                              exact h6.ends
                            clear hf6 hlt hj
                            go_wp2_with fail
                            -- the seventh loop: each family's end
                            go_loopw [20, 24] (fun c i wz => ∃ (f n7 : Nat) (F7 : Tbl) (K7 : Nat → Bool), i = .int .i64 f ∧ c = .int .i64 (many fl f : Nat) ∧ 1 ≤ f ∧ f ≤ 6 ∧ n7 ≤ 5000 ∧ IsRib wz b m n7 F7 ∧ Hid (EndsTo fl K7 f F7) ∧ IsH wz bh K7 at_ ∧ Hid (∀ a, 1 ≤ a → a < f → K7 a = false) ∧ TA w bx C1 wz) (fun _ i _ => 6 - (intOf i).toNat)
                            case atStart => exact ⟨1, n6, F6, K2, rfl, by rw [many_one]; rfl, by omega, by omega, by omega, hR, he6, hh, (fun a h1 h2 => by omega), hta⟩
                            case round =>
                              as_aux_lemma =>
                              obtain ⟨f7, n7, F7, K7, rfl, rfl, hf71, hf76, hn7, hR7, he7, hh7, hk7, hta7⟩ := hrel
                              clear hR he6 hh hta
                              by_cases hlt : f7 ≤ 5
                              · as_aux_lemma =>
                                have hle7 : decide ((f7 : Int) ≤ 5) = true := decide_eq_true (by omega)
                                go_upto_region 50 with fail
                                go_cut [196, 197, 198] (fun s196 s197 s198 wx => s198 = .bool (K7 f7) ∧ IsH wx bh (upd K7 f7 false) at_ ∧ But bh wr wx)
                                case first =>
                                  as_aux_lemma =>
                                  go_wp2_with fail
                                  refine (end_in bh f7 K7 at_ hf71 hlt wr hh7).mono ?_
                                  rintro e w20 ⟨rfl, hh20, hb20⟩
                                  go_wp2_with fail
                                  go_meet
                                  exact ⟨rfl, hh20, hb20⟩
                                case rest =>
                                  as_aux_lemma =>
                                  obtain ⟨rfl, hh20, hb20⟩ := hcut
                                  have hR20 := hR7.but hb20 (by omega) (by omega)
                                  have hta20 := hta7.step hbxe hb20 (by omega)
                                  have hk20 : Hid (∀ a, 1 ≤ a → a < f7 + 1 → upd K7 f7 false a = false) := fun a h1 h2 => by
                                    unfold upd
                                    split
                                    · rfl
                                    · exact hk7.out a h1 (by omega)
                                  clear hR7 hh7 hta7 hb20 hk7
                                  go_upto_if 198 with fail
                                  go_cut [199, 200, 201] (fun s199 s200 s201 wx => ∃ F8, IsRib wx b m n7 F8 ∧ Hid (EndsTo fl (upd K7 f7 false) (f7 + 1) F8) ∧ IsH wx bh (upd K7 f7 false) at_ ∧ TA w bx C1 wx)
                                  case first =>
                                    as_aux_lemma =>
                                    cases hkf : K7 f7 with
                                    | true =>
                                      go_wp2_with fail
                                      refine (sweep_any b m n7 F7 (f7 : Int) wc hR20 (by omega)).mono ?_
                                      rintro e w21 ⟨r, L, ys, rfl, _, _, hR21, hb21⟩
                                      have hh21 := hh20.keep (hb21.block bh hh20.lt (by omega))
                                      have hta21 := hta20.step hbxe hb21 (by omega)
                                      go_wp2_with fail
                                      go_meet
                                      exact ⟨_, hR21, he7.out.sweep f7, hh21, hta21⟩
                                    | false =>
                                      go_wp2_with fail
                                      go_meet
                                      exact ⟨F7, hR20, by rw [upd_none hkf]; exact he7.out.next, hh20, hta20⟩
                                  case rest =>
                                    as_aux_lemma =>
                                    obtain ⟨F8, hR21, he21, hh21, hta21⟩ := hcut
                                    clear hR20 hh20 hta20 he7
                                    obtain ⟨K8, hK8⟩ : ∃ K, upd K7 f7 false = K := ⟨_, rfl⟩
                                    have hkf8 : Hid (K8 f7 = false) := by show _ = _; rw [← hK8]; simp [upd]
                                    rw [hK8] at he21 hh21 hk20
                                    clear hK8
                                    go_wp2_with fail
                                    refine (all_any b m n7 F8 (f7 : Int) _ hR21 (by omega)).mono ?_
                                    rintro e w22 ⟨r, L, rfl, hown, hpl, hLl, hb22⟩
                                    obtain ⟨lao, lcap, lg2, loff2, rfl, hlcap, hlao, hlat⟩ := paRow_open hown
                                    have hmany : Hid (many fl f7 + L.length = many fl (f7 + 1)) := he21.out.count hkf8.out hpl.out
                                    have HPA : Hid (∀ k, k < L.length → ∃ j, j < fl.length ∧ PaAt w22 lg2 (loff2 + k * 29) (nlAt fl j).p (newTo fl j)) := fun k hk => by
                                      have hm : L.getD k default ∈ L := by rw [List.getD_eq_getElem?_getD, List.getElem?_eq_getElem hk, Option.getD_some]; exact List.getElem_mem hk
                                      have hc := hlat k hk
                                      generalize L.getD k default = p at *
                                      obtain ⟨hpf, x, hx, _⟩ := (hpl.out.mem p).1 hm
                                      obtain ⟨j, hj, _, hjp, rfl⟩ := he21.out.at_ hkf8.out hx hpf
                                      rw [hx, Option.getD_some, ← hjp] at hc
                                      exact ⟨j, hj, hc⟩
                                    have HLA : Hid (0 < L.length → lao = some ⟨lg2, loff2, none⟩ ∧ lg2 < w22.heap.size) := fun h => ⟨(hlao h).1, (hlao h).2.2⟩
                                    have hR22 := hR21.below hb22
                                    have hh22 := hh21.keep (hb22.block bh hh21.lt)
                                    have hta22 := hta21.below hbxe hb22
                                    clear hR21 hh21 hta21 hb22 hown hpl hlao hlat hkf8
                                    go_wp2_with fail
                                    -- the eighth loop: each is as it was told anew
                                    go_loopw [26] (fun i wz => ∃ k : Nat, i = .int .i64 k ∧ k ≤ L.length ∧ Below w22.heap.size w22 wz) (fun i _ => L.length - (intOf i).toNat)
                                    case atStart => exact ⟨0, rfl, Nat.zero_le _, Below.refl _ _⟩
                                    case round =>
                                      as_aux_lemma =>
                                      obtain ⟨k8, rfl, hk8, hbz⟩ := hrel
                                      by_cases hlt8 : k8 < L.length
                                      · as_aux_lemma =>
                                        obtain ⟨rfl, hgl⟩ := HLA.out (by omega)
                                        obtain ⟨j8, hj8, hpa⟩ := HPA.out k8 hlt8
                                        have hpa := hpa.keep (hbz.block lg2 hgl)
                                        obtain ⟨hx0, _, rfl, hfgl⟩ := HXA.out j8 (by omega)
                                        have hx0 := hx0.keep ((hta22.below hbxe hbz).bel.block fg (by omega))
                                        unfold newTo at hpa
                                        obtain ⟨x, hx⟩ : ∃ x, nlAt fl j8 = x := ⟨_, rfl⟩
                                        rw [hx] at hpa hx0
                                        clear hx HPA HXA HLA hmany
                                        have hj40 : j8 < fn := by omega
                                        have hw64 : IntKind.i64.wrap (j8 : Int) = (j8 : Int) := by simp [IntKind.wrap, IntKind.signed, IntKind.bits]; omega
                                        have hw32 : IntKind.u32.wrap (j8 : Int) = (j8 : Int) := by simp [IntKind.wrap, IntKind.signed, IntKind.bits]; omega
                                        have hge : decide (fn ≤ j8) = false := decide_eq_false (by omega)
                                        obtain ⟨hi0, hi1⟩ : (0 : Int) ≤ (k8 : Int) ∧ (k8 : Int) < (L.length : Int) := by omega
                                        obtain ⟨hj0, hj1⟩ : (0 : Int) ≤ (j8 : Int) ∧ (j8 : Int) < (fn : Int) := by omega
                                        have hz : ∀ w, _ := run_neq_pre x.p x.p
                                        rw [(eqPre_iff x.p x.p).2 ⟨rfl, rfl, rfl, rfl⟩] at hz
                                        have hsm : Hid (∀ W, Calls Try.prog 23 #[.agg (aC 2 true (j8 : Int)), .agg (aC 2 true (j8 : Int))] W fun e w' => e = .returned (.bool true) ∧ Below W.heap.size W w') := fun W => asame_any 2 true (j8 : Int) W
                                        have hat : Hid (wr.rangeAt lg2 (loff2 + k8 * 29 + 6) (aC 2 true (j8 : Int)).toList) := hpa.attrs
                                        have e10 : wr.cell? ⟨lg2, loff2 + k8 * 29 + 10, none⟩ = some (.int .u32 (j8 : Int)) := hpa 10 (by omega)
                                        have e0 : wr.cell? ⟨lg2, loff2 + k8 * 29, none⟩ = some (.int .i64 x.p.fam) := hpa 0 (by omega)
                                        have e1 : wr.cell? ⟨lg2, loff2 + k8 * 29 + 1, none⟩ = some (.int .u64 x.p.rd) := hpa 1 (by omega)
                                        have e2 : wr.cell? ⟨lg2, loff2 + k8 * 29 + 2, none⟩ = some (.string x.p.addr) := hpa 2 (by omega)
                                        have e3 : wr.cell? ⟨lg2, loff2 + k8 * 29 + 3, none⟩ = some (.int .i64 x.p.len) := hpa 3 (by omega)
                                        have e4 : wr.cell? ⟨lg2, loff2 + k8 * 29 + 4, none⟩ = some (.int .u32 x.p.id) := hpa 4 (by omega)
                                        have e6 : wr.cell? ⟨lg2, loff2 + k8 * 29 + 6, none⟩ = some (.int .i64 2) := hpa 6 (by omega)
                                        have e28 : wr.cell? ⟨lg2, loff2 + k8 * 29 + 28, none⟩ = some (.bool false) := hpa 28 (by omega)
                                        go_upto_region 57 with fail
                                        have f0 := fun d os => cell_regrown e0 d os
                                        have f1 := fun d os => cell_regrown e1 d os
                                        have f2 := fun d os => cell_regrown e2 d os
                                        have f3 := fun d os => cell_regrown e3 d os
                                        have f4 := fun d os => cell_regrown e4 d os
                                        have f6 := fun d os => cell_regrown e6 d os
                                        have f28 := fun d os => cell_regrown e28 d os
                                        have hcj := hx0.regrown
                                        have g0 := fun d os => (hcj d os).c0
                                        have g1 := fun d os => (hcj d os).c1
                                        have g2 := fun d os => (hcj d os).c2
                                        have g3 := fun d os => (hcj d os).c3
                                        have g4 := fun d os => (hcj d os).c4
                                        clear hcj hx0 hpa e0 e1 e2 e3 e4 e6 e10 e28
                                        refine wp_region_quiet_below (by kernel_rfl) (by kernel_rfl) ?_
                                        repeat (first | go_big_quiet_skip | go_big_quiet_step (exact calls_regrown hsm.out _ _) | quiet_step (exact calls_regrown hsm.out _ _))
                                        go_big_quiet_want
                                        refine quiet_load_mid 47 _ rfl lg2 (loff2 + k8 * 29 + 6) rfl (aC 2 true (j8 : Int)).toList _ (fun w hw => range_regrown hat.out w hw) Try.underlying47 rfl sizeA ?_
                                        simp only [Act.put, List.setIfInBounds_toArray, List.set_cons_zero, List.set_cons_succ]
                                        go_big_quiet_on
                                        repeat (first | go_big_quiet_skip | go_big_quiet_step (exact calls_regrown hsm.out _ _) | quiet_step (exact calls_regrown hsm.out _ _))
                                        refine wpQuiet_nil ?_
                                        intro wq hw'
                                        obtain ⟨⟨dq, osq⟩, hw''⟩ := hw'
                                        subst hw''
                                        have hbE : Below w22.heap.size w22 (Go.Sort.grow (redrawn wr dq) osq) := hbz.trans ((below_regrown _ _ _).mono hbz.size)
                                        clear hbz f0 f1 f2 f3 f4 f6 f28 g0 g1 g2 g3 g4 hsm hat hz
                                        go_wp2_with fail
                                        go_roundw
                                        case rel => exact ⟨k8 + 1, by go_num, by omega, hbE⟩
                                        case measure => simp [intOf]; omega
                                      · obtain rfl : k8 = L.length := by omega
                                        have hR23 := hR22.below hbz
                                        have hh23 := hh22.keep (hbz.block bh hh22.lt)
                                        have hta23 := hta22.below hbxe hbz
                                        clear hR22 hh22 hta22 hbz HPA HLA hlt8 hk8
                                        have hu := uniq_len (l := fl) fl.length
                                        have hmc : many fl (f7 + 1) ≤ (uniq fl fl.length).length := by unfold many; exact List.length_filter_le _ _
                                        have hmb : many fl (f7 + 1) ≤ fn := by omega
                                        have hL5 : L.length ≤ 5000 := by omega
                                        have hme := hmany.out
                                        have hwn : IntKind.i64.wrap ((many fl f7 : Nat) + (L.length : Int)) = ((many fl (f7 + 1) : Nat) : Int) := by simp [IntKind.wrap, IntKind.signed, IntKind.bits]; omega
                                        clear hmany hme hmb hmc hu
                                        go_wp2_with fail
                                        go_roundw
                                        case rel => exact ⟨f7 + 1, n7, F8, K8, by go_num, by first | rfl | exact congrArg _ hwn | simp [hwn], by omega, by omega, hn7, hR23, he21.out.next, hh23, hk20, hta23⟩
                                        case measure => simp [intOf]; omega
                              · have hf7e : f7 = 6 := by omega
                                have hle7 : decide ((f7 : Int) ≤ 5) = false := decide_eq_false (by omega)
                                have hms : many fl f7 = (uniq fl fl.length).length := by rw [hf7e]; exact many_six fl
                                have hf0 : (famsOf K7).length = 0 := by
                                  rw [List.length_eq_zero_iff, List.eq_nil_iff_forall_not_mem]
                                  intro a ha
                                  obtain ⟨⟨h1, h5⟩, h⟩ := mem_famsOf.1 ha
                                  rw [hk7.out a h1 (by omega)] at h
                                  cases h
                                have hrd : Hid (∀ u, TA w bx C1 u → RdN u (.slice fo fl.length fcap) fl) := fun u hu =>
                                  ⟨⟨fo, fcap, fg, foff, rfl, by have := HFC.out; omega, fun h => ⟨(HXA.out 0 (by omega)).2.2.1, by have := (HXA.out 0 (by omega)).2.2.2; have := hu.bel.size; omega⟩, fun k hk => (HXA.out k (by omega)).1.keep (hu.bel.block fg (by have := (HXA.out k (by omega)).2.2.2; omega))⟩, fun k hk => (HXA.out k (by omega)).2.1⟩
                                rw [hms]
                                clear hms he7 hR7 hk7 HXA
                                rw [hfll] at hrd
                                go_wp2_with fail
                                refine (unlike_any _ fl _ (hrd.out _ hta7) (by omega)).mono ?_
                                rintro e w30 ⟨rfl, hb30⟩
                                have hh30 := hh7.keep (hb30.block bh hh7.lt)
                                have hta30 := hta7.below hbxe hb30
                                clear hh7 hta7 hb30 hrd
                                go_wp2_with fail
                                refine (stale_any bh K7 at_ w30 hh30).mono ?_
                                rintro e w31 ⟨v, rfl, hrow⟩
                                obtain ⟨va, vc, rfl⟩ := own_form hrow.1
                                have hb31 := hrow.2
                                rw [hf0]
                                have hta31 := hta30.below hbxe hb31
                                clear hrow hb31 hta30 hh30
                                go_wp2_with fail
                                go_ret
                                exact ⟨rfl, by rw [hbxe]; exact hta31.bel⟩
end Go.Proofs.Ytcljkcgccahlcaa
