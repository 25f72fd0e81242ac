/- heraldlaw09: of. -/
import Derived.Test.YtcbkmafekkhpiaaFE
import Derived.Deep.CutRange
import Derived.Deep.CutBlock
import Derived.Deep.DeepCutAuto
namespace Go.Proofs.Ytcbkmafekkhpiaa
open Go.RowKit
set_option linter.unusedVariables false

/-- A told message: its three bytes. -/
structure ToldR where
  kd : Nat
  mo : Nat
  fi : Nat
def kindT (x : ToldR) : Nat := 1 + x.kd % 5
def lenT (x : ToldR) : Nat := if kindT x = 1 then 10 + x.mo else if kindT x = 2 then 4 + x.mo else if kindT x = 3 then 2 + x.mo else if kindT x = 5 then 4 else 0
def frT (x : ToldR) : Fr := (kindT x, List.replicate (lenT x) (UInt8.ofNat x.fi))
theorem lenT_le (x : ToldR) (h : x.mo < 256) : lenT x ≤ 265 := by unfold lenT; split <;> (try split) <;> (try split) <;> (try split) <;> omega
theorem ok_frT (x : ToldR) (h : x.mo < 256) : okF (frT x) := by
  have hk : 1 ≤ kindT x ∧ kindT x ≤ 5 := by unfold kindT; omega
  have hl := lenT_le x h
  refine ⟨by show kindT x < 256; omega, by show 19 + (List.replicate _ _).length ≤ _; simp; omega, hk.1, hk.2, ?_⟩
  show fitsI (kindT x) (19 + (List.replicate (lenT x) (UInt8.ofNat x.fi)).length : Nat) = true
  rw [List.length_replicate]
  have : kindT x = 1 ∨ kindT x = 2 ∨ kindT x = 3 ∨ kindT x = 4 ∨ kindT x = 5 := by omega
  unfold lenT fitsI
  rcases this with h | h | h | h | h <;> rw [h] <;> simp <;> omega

theorem all_fi {c : Array Value} {n fi : Nat} (hf : fi < 256) (hs : c.size = n) (h : ∀ i, i < n → c[i]? = some (.int .u8 (fi : Int))) : c.toList = bcells (List.replicate n (UInt8.ofNat fi)) := by
  apply List.ext_getElem?
  intro i
  by_cases hi : i < n
  · rw [Array.getElem?_toList, h i hi]
    unfold bcells
    rw [List.getElem?_map, List.getElem?_replicate, if_pos hi]
    simp [UInt8.toNat_ofNat']
    omega
  · rw [List.getElem?_eq_none (by rw [Array.length_toList]; omega), List.getElem?_eq_none (by rw [bcells_len]; simp; omega)]

theorem zeroF (w : World) : (zeroValue 23).run Try.prog w = .ok (.agg #[.int .i64 0, .string ⟨#[]⟩]) w := by kernel_rfl

set_option maxHeartbeats 4000000 in
theorem of_any (x : ToldR) (w : World) (h1 : x.kd < 256) (h2 : x.mo < 256) (h3 : x.fi < 256) : Calls Try.prog 25 #[.agg #[.int .u8 (x.kd : Nat), .int .u8 (x.mo : Nat), .int .u8 (x.fi : Nat)]] w fun e w' => e = .returned (.agg #[.int .i64 (kindT x : Nat), .string (mkS (frT x).2)]) ∧ Below w.heap.size w w' := by
  have z := fun w => zeroF w
  obtain ⟨kd, mo, fi⟩ := x
  simp only at h1 h2 h3
  obtain ⟨K, hK⟩ : ∃ K, kindT ⟨kd, mo, fi⟩ = K := ⟨_, rfl⟩
  obtain ⟨N, hN⟩ : ∃ N, lenT ⟨kd, mo, fi⟩ = N := ⟨_, rfl⟩
  have hfr : (frT ⟨kd, mo, fi⟩).2 = List.replicate N (UInt8.ofNat fi) := by unfold frT; rw [hN]
  have hKK : K = 1 + kd % 5 := hK.symm
  have hNN : N = if K = 1 then 10 + mo else if K = 2 then 4 + mo else if K = 3 then 2 + mo else if K = 5 then 4 else 0 := by rw [← hN, ← hK]; rfl
  rw [hK, hfr]
  have HF := Lib.hid h3
  have HNN := Lib.hid hNN
  have HKK := Lib.hid hKK
  clear hK hN hfr hNN hKK
  show Calls Try.prog 25 #[.agg #[.int .u8 (kd : Nat), .int .u8 (mo : Nat), .int .u8 (fi : Nat)]] w _
  go_enter Try.func25, Try.ntmps25
  go_upto_block 0 with fail
  have HAL : Hid (Below w.heap.size w (((w.alloc (.cells #[.int .u8 (kd : Nat), .int .u8 (mo : Nat), .int .u8 (fi : Nat)] 59)).alloc (.cells #[.int .i64 0, .string ⟨#[]⟩] 23)).alloc (.cells #[.int .i64 (1 + (kd : Int) % 5), .string ⟨#[]⟩] 23))) := (((Below.refl _ _).alloc (Nat.le_refl _) _).alloc (by simp) _).alloc (by simp; omega) _
  have hg0 : (((w.alloc (.cells #[.int .u8 (kd : Nat), .int .u8 (mo : Nat), .int .u8 (fi : Nat)] 59)).alloc (.cells #[.int .i64 0, .string ⟨#[]⟩] 23)).alloc (.cells #[.int .i64 (1 + (kd : Int) % 5), .string ⟨#[]⟩] 23)).heap[w.heap.size]? = some (.cells #[.int .u8 (kd : Nat), .int .u8 (mo : Nat), .int .u8 (fi : Nat)] 59 (0, 0)) := by
    rw [Below.heap_alloc _ _ _ (by first | (simp; done) | (simp; omega)), Below.heap_alloc _ _ _ (by simp)]; exact heap_alloc_new _ _
  have hg1 : (((w.alloc (.cells #[.int .u8 (kd : Nat), .int .u8 (mo : Nat), .int .u8 (fi : Nat)] 59)).alloc (.cells #[.int .i64 0, .string ⟨#[]⟩] 23)).alloc (.cells #[.int .i64 (1 + (kd : Int) % 5), .string ⟨#[]⟩] 23)).heap[w.heap.size + 1]? = some (.cells #[.int .i64 0, .string ⟨#[]⟩] 23 (0, 0)) := by
    rw [Below.heap_alloc _ _ _ (by simp)]; exact heap_alloc2_new _ _ _
  have hg2 : (((w.alloc (.cells #[.int .u8 (kd : Nat), .int .u8 (mo : Nat), .int .u8 (fi : Nat)] 59)).alloc (.cells #[.int .i64 0, .string ⟨#[]⟩] 23)).alloc (.cells #[.int .i64 (1 + (kd : Int) % 5), .string ⟨#[]⟩] 23)).heap[w.heap.size + 1 + 1]? = some (.cells #[.int .i64 (1 + (kd : Int) % 5), .string ⟨#[]⟩] 23 (0, 0)) := by
    have := heap_alloc_new ((w.alloc (.cells #[.int .u8 (kd : Nat), .int .u8 (mo : Nat), .int .u8 (fi : Nat)] 59)).alloc (.cells #[.int .i64 0, .string ⟨#[]⟩] 23)) (.cells #[.int .i64 (1 + (kd : Int) % 5), .string ⟨#[]⟩] 23)
    simpa using this
  have hsz : (((w.alloc (.cells #[.int .u8 (kd : Nat), .int .u8 (mo : Nat), .int .u8 (fi : Nat)] 59)).alloc (.cells #[.int .i64 0, .string ⟨#[]⟩] 23)).alloc (.cells #[.int .i64 (1 + (kd : Int) % 5), .string ⟨#[]⟩] 23)).heap.size = w.heap.size + 3 := by simp
  have HNL : Hid (N ≤ 265) := by show _ ≤ _; rw [HNN.out]; split <;> (try split) <;> (try split) <;> (try split) <;> omega
  generalize (((w.alloc (.cells #[.int .u8 (kd : Nat), .int .u8 (mo : Nat), .int .u8 (fi : Nat)] 59)).alloc (.cells #[.int .i64 0, .string ⟨#[]⟩] 23)).alloc (.cells #[.int .i64 (1 + (kd : Int) % 5), .string ⟨#[]⟩] 23)) = W at *
  go_cut [4] (fun s4 wx => s4 = .int .i64 (N : Nat) ∧ wx = W)
  case first =>
    have h5 : kd % 5 = 0 ∨ kd % 5 = 1 ∨ kd % 5 = 2 ∨ kd % 5 = 3 ∨ kd % 5 = 4 := by omega
    have c1 : W.cell? ⟨w.heap.size, 1, none⟩ = some (.int .u8 (mo : Nat)) := cell_of_row _ _ _ _ _ _ hg0
    have hn := HNN.out
    have hk := HKK.out
    clear hg0 hg1 hg2 hsz
    rcases h5 with h5 | h5 | h5 | h5 | h5
    · have e5 : (kd : Int) % 5 = 0 := by omega
      have hN : (10 + (mo : Int)) = (N : Int) := by rw [hn, hk, h5]; simp
      clear hn hk h5
      go_wp2
      go_meet
      exact ⟨rfl, rfl⟩
    · have e5 : (kd : Int) % 5 = 1 := by omega
      have hN : (4 + (mo : Int)) = (N : Int) := by rw [hn, hk, h5]; simp
      clear hn hk h5
      go_wp2
      go_meet
      exact ⟨rfl, rfl⟩
    · have e5 : (kd : Int) % 5 = 2 := by omega
      have hN : (2 + (mo : Int)) = (N : Int) := by rw [hn, hk, h5]; simp
      clear hn hk h5
      go_wp2
      go_meet
      exact ⟨rfl, rfl⟩
    · have e5 : (kd : Int) % 5 = 3 := by omega
      have hN : N = 0 := by rw [hn, hk, h5]; simp
      subst hN
      clear hn hk h5
      go_wp2
      go_meet
      exact ⟨rfl, rfl⟩
    · have e5 : (kd : Int) % 5 = 4 := by omega
      have hN : N = 4 := by rw [hn, hk, h5]; simp
      subst hN
      clear hn hk h5
      go_wp2
      go_meet
      exact ⟨rfl, rfl⟩
  case rest =>
    obtain ⟨rfl, rfl⟩ := hcut
    have HG0 := Lib.hid hg0
    have HG1 := Lib.hid hg1
    have HG2 := Lib.hid hg2
    have HSZ := Lib.hid hsz
    obtain ⟨KI, hKI⟩ : ∃ KI : Int, 1 + (kd : Int) % 5 = KI := ⟨_, rfl⟩
    have HKI : Hid ((K : Int) = KI) := by show _ = _; rw [HKK.out, ← hKI]; omega
    rw [hKI] at HG2
    clear hg0 hg1 hg2 hsz hKI
    have hN0 : (0 : Int) ≤ (N : Int) := by omega
    have hNb : (N : Int) ≤ 265 := by have := HNL.out; omega
    go_wp2_with (refine wpList_make43 rfl (.tmp 35) (.tmp 35) rfl N rfl rfl (by have := HNL.out; omega) ?_; intro Z hZ; have HZS := Lib.hid hZ; clear hZ)
    go_loopw [6] (fun i wr => ∃ (j : Nat) (c : Array Value), i = .int .i64 j ∧ j ≤ N ∧ wr.heap[wc.heap.size]? = some (.cells c 5 (0, 0)) ∧ c.size = N ∧ Hid (∀ i, i < j → c[i]? = some (.int .u8 (fi : Int))) ∧ Below wc.heap.size wc wr) (fun i _ => N - (intOf i).toNat)
    case atStart => exact ⟨0, Z, rfl, by omega, heap_alloc_new _ _, HZS.out, (fun i hi => by omega), (Below.refl _ _).alloc (Nat.le_refl _) _⟩
    case round =>
      obtain ⟨j, c, rfl, hj, hrow, hcs, HC, hbel⟩ := hrel
      have hs0 := HSZ.out
      have q2 : wr.cell? ⟨w.heap.size, 2, none⟩ = some (.int .u8 (fi : Nat)) := by
        rw [hbel.cell (by show w.heap.size < _; omega)]; exact cell_of_row _ _ _ _ _ _ HG0.out
      by_cases hjN : j < N
      · have i1 : (0 : Int) ≤ (j : Int) := by omega
        have i2 : (j : Int) < (N : Int) := by omega
        have hcx : ∃ x, c[j]? = some x := ⟨_, Array.getElem?_eq_getElem (by omega)⟩
        obtain ⟨x, hx⟩ := hcx
        have hcell : wr.cell? ⟨wc.heap.size, j, none⟩ = some x := by rw [cell_of_row _ _ _ _ _ _ hrow]; exact hx
        have hfz := frozen_of_row _ _ j _ _ hrow
        have HR2 : Hid ((wr.setCell ⟨wc.heap.size, j, none⟩ (.int .u8 (fi : Nat))).heap[wc.heap.size]? = some (.cells (c.setIfInBounds j (.int .u8 (fi : Nat))) 5 (0, 0))) := set_heap hrow
        have HC2 : Hid (∀ i, i < j + 1 → (c.setIfInBounds j (.int .u8 (fi : Nat)))[i]? = some (.int .u8 (fi : Int))) := by
          intro i hi
          rw [Array.getElem?_setIfInBounds]
          split
          · simp; omega
          · exact HC.out i (by omega)
        have HB2 : Hid (Below wc.heap.size wc (wr.setCell ⟨wc.heap.size, j, none⟩ (.int .u8 (fi : Nat)))) := hbel.setCell (Nat.le_refl _) _
        have HS2 : Hid ((c.setIfInBounds j (.int .u8 (fi : Nat))).size = N) := by show _ = _; simpa using hcs
        clear hrow hcs hbel hx hs0
        go_wp2
        go_roundw
        case rel => exact ⟨j + 1, _, by go_num, by omega, HR2.out, HS2.out, HC2.out, HB2.out⟩
        case measure => simp [intOf]; omega
      · obtain rfl : j = N := by omega
        have hown : wr.ownsRow wc.heap.size 5 1 (.slice (some ⟨wc.heap.size, 0, none⟩) j j) (List.replicate j (UInt8.ofNat fi)).length (bcells (List.replicate j (UInt8.ofNat fi))) := by
          have hmx : j ≤ maxLen := by have := HNL.out; unfold maxLen; omega
          refine ⟨by rw [bcells_len, Nat.mul_one], .inr ⟨wc.heap.size, j, c, by rw [List.length_replicate], Nat.le_refl _, hrow, by rw [List.length_replicate]; exact Nat.le_refl _, hmx, by rw [hcs, Nat.mul_one], ?_⟩⟩
          rw [← all_fi HF.out hcs HC.out, List.take_of_length_le (by rw [Array.length_toList, List.length_replicate]; omega)]
        have hbr := brd_own hown
        have hcv := BRd.string hbr (w' := wr) rfl
        have hr1 : wr.heap[w.heap.size + 1]? = some (.cells #[.int .i64 0, .string ⟨#[]⟩] 23 (0, 0)) := (hbel.block _ (by omega)).trans HG1.out
        have hr2 : wr.heap[w.heap.size + 1 + 1]? = some (.cells #[.int .i64 KI, .string ⟨#[]⟩] 23 (0, 0)) := (hbel.block _ (by omega)).trans HG2.out
        have m0 : wr.cell? ⟨w.heap.size + 1 + 1, 0, none⟩ = some (.int .i64 KI) := cell_of_row _ _ _ _ _ _ hr2
        have m1 : wr.cell? ⟨w.heap.size + 1 + 1, 1, none⟩ = some (.string ⟨#[]⟩) := cell_of_row _ _ _ _ _ _ hr2
        have n0 : wr.cell? ⟨w.heap.size + 1, 0, none⟩ = some (.int .i64 0) := cell_of_row _ _ _ _ _ _ hr1
        have n1 : wr.cell? ⟨w.heap.size + 1, 1, none⟩ = some (.string ⟨#[]⟩) := cell_of_row _ _ _ _ _ _ hr1
        have fm0 := frozen_of_row _ _ 0 _ _ hr2
        have fm1 := frozen_of_row _ _ 1 _ _ hr2
        have fn0 := frozen_of_row _ _ 0 _ _ hr1
        have fn1 := frozen_of_row _ _ 1 _ _ hr1
        have HR1 := Lib.hid hr1
        have HR2 := Lib.hid hr2
        have hbw : Below w.heap.size w wr := HAL.out.trans (hbel.mono (by omega))
        have HBW := Lib.hid hbw
        obtain ⟨B, hB⟩ : ∃ B, mkS (List.replicate j (UInt8.ofNat fi)) = B := ⟨_, rfl⟩
        rw [hB] at hcv
        have HBB := Lib.hid hB
        clear hown hbr hr1 hr2 hrow hcs HC hbel hs0 q2 hj hjN hbw hB
        go_wp2_with fail
        have hR : (((wr.setCell ⟨w.heap.size + 1 + 1, 1, none⟩ (.string B)).setCell ⟨w.heap.size + 1, 0, none⟩ (.int .i64 KI)).setCell ⟨w.heap.size + 1, 1, none⟩ (.string B)).heap[w.heap.size + 1]? = some (.cells #[.int .i64 KI, .string B] 23 (0, 0)) := set_heap (i := 1) (v := .string B) (set_heap (i := 0) (v := .int .i64 KI) ((heap_setCell_other _ _ _ _ (by show w.heap.size + 1 ≠ w.heap.size + 1 + 1; omega)).trans HR1.out))
        have r0 := cell_of_row _ _ 0 _ _ _ hR
        have r1 := cell_of_row _ _ 1 _ _ _ hR
        have hbf := ((HBW.out.setCell (p := ⟨w.heap.size + 1 + 1, 1, none⟩) (by show w.heap.size ≤ w.heap.size + 1 + 1; omega) (.string B)).setCell (p := ⟨w.heap.size + 1, 0, none⟩) (by show w.heap.size ≤ w.heap.size + 1; omega) (.int .i64 KI)).setCell (p := ⟨w.heap.size + 1, 1, none⟩) (by show w.heap.size ≤ w.heap.size + 1; omega) (.string B)
        exact bodyPost_ret (v := .agg #[.int .i64 KI, .string B]) (by simp [results, Try.results25, go_sem, r0, r1]) rfl ⟨by rw [HKI.out, HBB.out], hbf⟩
end Go.Proofs.Ytcbkmafekkhpiaa
