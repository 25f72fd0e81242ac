/- heraldlaw09: FrameBroken, the walk. -/
import Derived.Test.YtcbkmafekkhpiaaFJ
import Derived.Test.YtcbkmafekkhpiaaFH
import Derived.Test.YtcbkmafekkhpiaaFZ
import Derived.Test.YtcbkmafekkhpiaaFX
import Derived.Lib.SlBytesConst
import Derived.Lib.BufferMore
namespace Go.Proofs.Ytcbkmafekkhpiaa
open Go.RowKit
set_option linter.unusedVariables false

theorem Tolds.below {w w' : World} {bl off len : Nat} (h : Tolds w bl off len) (hb : Below w.heap.size w w') (hlt : 0 < len → bl < w.heap.size) : Tolds w' bl off len := fun i hi => by
  obtain ⟨x, h1, h2, h3, h4, h5, h6⟩ := h i hi
  have := hlt (by omega)
  exact ⟨x, h1, h2, h3, (hb.cell this).trans h4, (hb.cell this).trans h5, (hb.cell this).trans h6⟩

theorem keepC : (#[.int .u8 255, .int .u8 255, .int .u8 255, .int .u8 255, .int .u8 255, .int .u8 255, .int .u8 255, .int .u8 255, .int .u8 255, .int .u8 255, .int .u8 255, .int .u8 255, .int .u8 255, .int .u8 255, .int .u8 255, .int .u8 255, .int .u8 0, .int .u8 19, .int .u8 4] : Array Value) = (bcells (toL keepS)).toArray := rfl
theorem keepC_at (p : Nat) (hp : p < 19) : (bcells (toL keepS)).toArray[p]? = some (.int .u8 (bt (toL keepS) p : Nat)) := by
  rw [List.getElem?_toArray]; exact bcells_at _ p hp

theorem IsF.empty {w w' : World} {b : Nat} {vw : Value} {q : Nat} (h : IsF w b vw [] q) (hb : w'.heap[b]? = w.heap[b]?) (hz : w.heap.size ≤ w'.heap.size) : IsF w' b vw [] q := by
  refine ⟨hb.trans h.blk, ?_, fun g hg => ⟨by have := (h.own g hg).1; omega, (h.own g hg).2⟩, fun _ => rfl⟩
  rcases h.rd with ⟨rfl, _⟩ | ⟨g, cap, rfl, h1, h2, h3, _⟩
  · exact .inl ⟨rfl, rfl⟩
  · exact .inr ⟨g, cap, rfl, h1, h2, by omega, fun i hi => absurd hi (by simp)⟩
theorem bent_row {W : World} {G p m : Nat} (hkb : W.heap[G]? = some (.cells (bcells (toL keepS)).toArray 5 (19, 20))) (hm : m < 256) : ((W.setCell ⟨G, p, none⟩ (.int .u8 (m : Int))).drew).heap[G]? = some (.cells (bcells (bent p m)).toArray 5 (19, 20)) := by
  show (W.setCell _ _).heap[G]? = _
  rw [Lib.heap_setCell_same hkb]
  have : bcells (bent p m) = (bcells (toL keepS)).set p (.int .u8 (m : Int)) := by
    unfold bcells bent
    rw [List.map_set]
    congr 2
    simp
    omega
  rw [this, List.setIfInBounds_toArray]
theorem brd_row {w : World} {g : Nat} {l : List UInt8} {fr : Nat × Nat} (h : w.heap[g]? = some (.cells (bcells l).toArray 5 fr)) (hl : l.length ≤ maxLen) : BRd w (.slice (some ⟨g, 0, none⟩) l.length l.length) l :=
  ⟨_, l.length, g, 0, rfl, Nat.le_refl _, hl, fun _ => ⟨rfl, lt_of_block h⟩, fun i hi => by rw [Nat.zero_add, cell_of_row _ _ _ _ _ _ h, List.getElem?_toArray]; exact bcells_at l i hi⟩

set_option maxHeartbeats 4000000 in
set_option maxRecDepth 10000 in
theorem broken_walk (ao : Option Addr) (bl off len cap : Nat) (x0 x1 : Nat) (more : ByteArray) (w : World) (hm : len ≤ 9223372036854775807) (hao : 0 < len → ao = some ⟨bl, off, none⟩ ∧ bl < w.heap.size) (hst : Tolds w bl off len)
    (h0 : x0 < 256) (h1 : x1 < 256) (hms : more.size ≤ 9223372036854775807) :
    Calls Try.prog 6 #[.slice ao len cap, .agg #[.int .u8 (x0 : Nat), .int .u8 (x1 : Nat)], .string more] w fun e w' => e = .returned (.bool true) ∧ Below w.heap.size w w' := by
  have z := fun w => zeroV w
  have HSTR : Hid (∀ o, Calls Try.prog 16 #[.slice ao len cap] (w.alloc o) fun e w' => ∃ fs vf, e = .returned (.tuple #[.string (mkS (fs.map mk).flatten), vf, .bool true]) ∧ GoodFs fs ∧ fs.length ≤ 20 ∧ FRow w' (w.alloc o).heap.size vf fs ∧ Below (w.alloc o).heap.size (w.alloc o) w') := fun o =>
    stream_any ao bl off len cap (w.alloc o) hm (fun h => ⟨(hao h).1, by have := (hao h).2; simp; omega⟩) (hst.below ((Below.refl _ _).alloc (Nat.le_refl _) _) fun h => (hao h).2)
  clear hao hst
  have HX0 := Lib.hid h0
  have HX1 := Lib.hid h1
  clear h0 h1
  go_enter Try.func6, Try.ntmps6
  go_wp2_with fail
  refine (HSTR.out _).mono ?_
  rintro e w5 ⟨fs, vf, rfl, hgood, hfl, hwant, hb5⟩
  obtain ⟨af, cf, rfl⟩ := own_form hwant
  have hwl := own_lt hwant
  have hWl : w.heap.size < w5.heap.size := by have := hb5.size; simp at this; omega
  have hpb := (hb5.block w.heap.size (by simp)).trans (heap_alloc_new w _)
  have HB5 : Hid (Below w.heap.size w w5) := ((Below.refl _ _).alloc (Nat.le_refl _) _).trans (hb5.mono (by simp))
  have HWR : Hid (FRd w5 (.slice af fs.length cf) fs ∧ ∀ g, (Value.slice af fs.length cf).ownBlock = some g → g < w5.heap.size) := ⟨hwant.rd, hwl⟩
  have HGOOD := Lib.hid hgood
  have HFL := Lib.hid hfl
  have HSZ : Hid ((mkS (fs.map mk).flatten).size ≤ 6000) := by show _ ≤ _; rw [mkS_size]; have := flat_len fs hgood; omega
  clear hgood hwant hb5 HSTR hwl hfl
  go_wp2_with fail
  refine (new_any _).mono ?_
  rintro e w6 ⟨rfl, hw6⟩
  have HF6 : Hid (IsF w6 w5.heap.size (.slice none 0 0) [] 0) := hw6 ▸ isF_new w5
  have HB56 : Hid (Below w5.heap.size w5 w6) := hw6 ▸ (Below.refl _ _).alloc (Nat.le_refl _) _
  have HS6 : Hid (w5.heap.size < w6.heap.size) := HF6.out.lt
  clear hw6
  have hpb6 := (HB56.out.block w.heap.size hWl).trans hpb
  have HPB := Lib.hid hpb6
  have c0 : w6.cell? ⟨w.heap.size, 0, none⟩ = some (.int .u8 (x0 : Int)) := cell_of_row _ _ _ _ _ _ hpb6
  clear hpb hpb6
  obtain ⟨b, hb⟩ : ∃ b, w5.heap.size = b := ⟨_, rfl⟩
  have HWB : Hid (w.heap.size < b) := by show _ < _; omega
  have HBB := Lib.hid hb
  rw [hb] at HF6 HS6 HB56 ⊢
  clear hb hWl
  obtain ⟨S, hS⟩ : ∃ S, mkS (fs.map mk).flatten = S := ⟨_, rfl⟩
  have HTS : Hid (toL S = (fs.map mk).flatten) := by show _ = _; rw [← hS]; rfl
  rw [hS] at HSZ ⊢
  clear hS
  obtain ⟨p, hp⟩ : ∃ p, x0 % 19 = p := ⟨_, rfl⟩
  have e0 := w8 x0 HX0.out
  have e0b := w8b x0 HX0.out
  have ht : Int.tmod (x0 : Int) 19 = (p : Int) := by rw [Int.tmod_eq_emod_of_nonneg (by omega)]; omega
  have hp19 : p < 19 := by omega
  have i0 : (0 : Int) ≤ (p : Int) := by omega
  have i1 : (p : Int) < 19 := by omega
  have ep := w8 p (by omega)
  have epb := w8b p (by omega)
  clear hp
  have hkb := heap_alloc_new w6 (.cells (bcells (toL keepS)).toArray 5 (19, 20))
  have HAL : Hid (Below w6.heap.size w6 (w6.alloc (.cells (bcells (toL keepS)).toArray 5 (19, 20)))) := (Below.refl _ _).alloc (Nat.le_refl _) _
  have kc := fun (w : World) (C : Array Value) (n c : Nat) => Lib.run_convert_bytes_const (P := Try.prog) w 43 5 C n c Try.underlying43 Try.underlying5
  go_wp2_with fail
  rw [keepC]
  obtain ⟨G, hG⟩ : ∃ G, w6.heap.size = G := ⟨_, rfl⟩
  have HG := Lib.hid hG
  rw [hG] at hkb HAL HS6 ⊢
  have HGW : Hid (G < (w6.alloc (.cells (bcells (toL keepS)).toArray 5 (19, 20))).heap.size) := by show _ < _; simp; omega
  clear hG kc
  generalize w6.alloc (.cells (bcells (toL keepS)).toArray 5 (19, 20)) = W at *
  have k0 : W.cell? ⟨G, p, none⟩ = some (.int .u8 (bt (toL keepS) p : Nat)) := by rw [cell_of_row _ _ _ _ _ _ hkb]; exact keepC_at p hp19
  have k1 : W.cell? ⟨w.heap.size, 1, none⟩ = some (.int .u8 (x1 : Int)) := cell_of_row _ _ _ _ _ _ ((HAL.out.block w.heap.size (by have := HWB.out; have := HS6.out; omega)).trans HPB.out)
  have kf : W.frozen? ⟨G, p, none⟩ = false := by simp [World.frozen?, hkb]; omega
  have HKB := Lib.hid hkb
  have hxr := xor8 _ x1 (bt_lt (toL keepS) p) HX1.out
  obtain ⟨n, hn⟩ : ∃ n, bt (toL keepS) p = n := ⟨_, rfl⟩
  rw [hn] at k0 hxr
  have HN := Lib.hid hn
  clear hkb c0 hn
  go_region
  have hm256 : (n ^^^ x1) < 256 := HN.out ▸ Nat.xor_lt_two_pow (n := 8) (bt_lt _ _) HX1.out
  have hrow := bent_row (p := p) HKB.out hm256
  have hb7 : Below G W ((W.setCell ⟨G, p, none⟩ (.int .u8 ((n ^^^ x1 : Nat) : Int))).drew) := (Below.setCell (p := ⟨G, p, none⟩) (Below.refl G W) (Nat.le_refl G) _).drew
  generalize (W.setCell ⟨G, p, none⟩ (.int .u8 ((n ^^^ x1 : Nat) : Int))).drew = W7 at *
  have HB7 : Hid (Below w6.heap.size w6 W7) := (HAL.out.trans hb7).mono (by have := HG.out; omega)
  have hcv : (convert 43 9 (.slice (some ⟨G, 0, none⟩) 19 19)).run Try.prog W7 = .ok (.string (mkS (bent p (n ^^^ x1)))) W7 := by
    have h := brd_row hrow (by rw [bent_len]; decide)
    rw [bent_len] at h
    exact h.string rfl
  have HF7 : Hid (IsF W7 b (.slice none 0 0) [] 0) := HF6.out.below HB7.out
  have HPB7 : Hid (W7.heap[w.heap.size]? = some (.cells #[.int .u8 (x0 : Int), .int .u8 (x1 : Int)] 47)) := (HB7.out.block _ (by have := HWB.out; have := HS6.out; have := HG.out; omega)).trans HPB.out
  have HBW7 : Hid (Below w.heap.size w W7) := HB5.out.trans ((HB56.out.mono (by have := HWB.out; omega)).trans (HB7.out.mono (by have := HWB.out; have := HS6.out; have := HG.out; omega)))
  have HB57 : Hid (Below b w5 W7) := HB56.out.trans (HB7.out.mono (by have := HS6.out; have := HG.out; omega))
  obtain ⟨B, hB⟩ : ∃ B, mkS (bent p (n ^^^ x1)) = B := ⟨_, rfl⟩
  have HTB : Hid (toL B = bent p (n ^^^ x1)) := by show _ = _; rw [← hB]; rfl
  have hBs : B.size = 19 := by rw [← toL_len, HTB.out, bent_len]
  rw [hB] at hcv
  have HSB : Hid ((S ++ B).size ≤ 400000) := by show _ ≤ _; rw [ByteArray.size_append]; have := HSZ.out; omega
  have HTSB : Hid (toL (S ++ B) = (fs.map mk).flatten ++ bent p (bt (toL keepS) p ^^^ x1)) := by show _ = _; rw [toL_append, HTS.out, HTB.out, HN.out]
  have hz : ¬ 9223372036854775807 < S.size + B.size := by have := HSZ.out; omega
  clear hrow hb7 hm256 hB hBs hxr k0 k1 kf HKB HGW HAL HPB HF6 HB56 HB7 HB5
  by_cases hx : x1 = 0
  · subst hx
    have hR : putR [] 0 (toL (S ++ B)) = (fs ++ [(4, [])], 0, []) := by
      unfold putR
      rw [if_pos rfl, List.nil_append, HTSB.out]
      exact bent_cut0 fs p 0 (fun f hf => (HGOOD.out f hf).1) rfl
    have hput := put_any b _ [] 0 (S ++ B) W7 HF7.out (by have := HSB.out; simpa using this)
    rw [hR] at hput
    clear hR
    go_wp2_with fail
    refine hput.mono ?_
    rintro e w8 ⟨va, vw8, he, hr8, hF8, hbt8, _⟩
    have he' : e = .returned (.tuple #[va, .agg #[.int .i64 0, .int .u8 0, .int .u8 0]]) := he
    clear he hput
    subst he'
    obtain ⟨aa, ca, rfl⟩ := own_form hr8
    obtain ⟨k, hk⟩ : ∃ k, (fs ++ [((4, []) : Fr)]).length = k := ⟨_, rfl⟩
    rw [hk]
    rw [List.length_append, List.length_singleton] at hk
    have ek : wrap64 ((fs.length : Int) + 1) = (k : Int) := by rw [w64 _ (by omega) (by have := HFL.out; omega)]; omega
    have hb8 : Below w.heap.size w w8 := HBW7.out.trans (hbt8.below (by have := HWB.out; omega) HBW7.out.size)
    have hpb8 := (hbt8.block _ (lt_of_block HPB7.out) (by have := HWB.out; omega)).trans HPB7.out
    clear hr8 hF8 hbt8
    go_simp
    have hal : Below w8.heap.size w8 (w8.alloc (.cells #[.int .i64 0, .int .u8 0, .int .u8 0] 34)) := (Below.refl _ _).alloc (Nat.le_refl _) _
    have hq := heap_alloc_new w8 (.cells #[.int .i64 0, .int .u8 0, .int .u8 0] 34)
    have hpb8a := (hal.block _ (lt_of_block hpb8)).trans hpb8
    have hb8a := hb8.trans (hal.mono hb8.size)
    have q1 : (w8.alloc (.cells #[.int .i64 0, .int .u8 0, .int .u8 0] 34)).cell? ⟨w.heap.size, 1, none⟩ = some (.int .u8 0) := cell_of_row _ _ _ _ _ _ hpb8a
    have r0 : (w8.alloc (.cells #[.int .i64 0, .int .u8 0, .int .u8 0] 34)).cell? ⟨w8.heap.size, 0, none⟩ = some (.int .i64 0) := cell_of_row _ _ _ _ _ _ hq
    have r1 : (w8.alloc (.cells #[.int .i64 0, .int .u8 0, .int .u8 0] 34)).cell? ⟨w8.heap.size, 1, none⟩ = some (.int .u8 0) := cell_of_row _ _ _ _ _ _ hq
    have r2 : (w8.alloc (.cells #[.int .i64 0, .int .u8 0, .int .u8 0] 34)).cell? ⟨w8.heap.size, 2, none⟩ = some (.int .u8 0) := cell_of_row _ _ _ _ _ _ hq
    clear hpb8 hpb8a hq hal hb8 hk
    go_wp2_with fail
    refine (works_any _).mono ?_
    rintro e w9 ⟨rfl, hb9⟩
    have hb9a := hb8a.trans (hb9.mono hb8a.size)
    clear hb9 hb8a
    go_wp2_with fail
    go_ret
    exact ⟨rfl, hb9a⟩
  · obtain ⟨q, hq0, hq3, hq1, hcut⟩ := bent_cutN fs p x1 (fun f hf => (HGOOD.out f hf).1) hp19 HX1.out hx
    have hR : putR [] 0 (toL (S ++ B)) = (fs, q, []) := by
      unfold putR
      rw [if_pos rfl, List.nil_append, HTSB.out]
      exact hcut
    have hput := put_any b _ [] 0 (S ++ B) W7 HF7.out (by have := HSB.out; simpa using this)
    rw [hR] at hput
    have hvd : vd q = .agg #[.int .i64 3, .int .u8 1, .int .u8 (q : Int)] := by unfold vd; rw [if_neg hq0, if_neg hq0]
    have HVD := Lib.hid hvd
    have HQ0 := Lib.hid hq0
    have HQ1 := Lib.hid hq1
    have ix : ¬ (x1 : Int) = 0 := by omega
    clear hR hcut hvd hq0 hq1
    go_wp2_with fail
    refine hput.mono ?_
    rintro e w8 ⟨va, vw8, he, hr8, hF8, hbt8, _⟩
    have he' : e = .returned (.tuple #[va, .agg #[.int .i64 3, .int .u8 1, .int .u8 (q : Int)]]) := by rw [← HVD.out]; exact he
    clear he hput
    subst he'
    obtain ⟨aa, ca, rfl⟩ := own_form hr8
    have hb8 : Below w.heap.size w w8 := HBW7.out.trans (hbt8.below (by have := HWB.out; omega) HBW7.out.size)
    have hpb8 := (hbt8.block _ (lt_of_block HPB7.out) (by have := HWB.out; omega)).trans HPB7.out
    have hwr8 : FRd w8 (.slice af fs.length cf) fs := HWR.out.1.keep (by have := HB57.out.size; have := hbt8.size; omega) fun g hg _ => by
      have hlt : g < b := by have := HWR.out.2 g hg; have := HBB.out; omega
      rw [hbt8.block g (by have := HB57.out.size; have := HBB.out; omega) (by omega), HB57.out.block g hlt]
    have hgr8 := hr8.rd
    clear hr8 hbt8
    go_simp
    have hal : Below w8.heap.size w8 (w8.alloc (.cells #[.int .i64 3, .int .u8 1, .int .u8 (q : Int)] 34)) := (Below.refl _ _).alloc (Nat.le_refl _) _
    have hq := heap_alloc_new w8 (.cells #[.int .i64 3, .int .u8 1, .int .u8 (q : Int)] 34)
    have HF8 : Hid (IsF (w8.alloc (.cells #[.int .i64 3, .int .u8 1, .int .u8 (q : Int)] 34)) b vw8 [] q) := hF8.below hal
    have HPB8 : Hid (b < w8.heap.size ∧ w.heap.size ≤ w8.heap.size) := ⟨hF8.lt, hb8.size⟩
    have q1 : (w8.alloc (.cells #[.int .i64 3, .int .u8 1, .int .u8 (q : Int)] 34)).cell? ⟨w.heap.size, 1, none⟩ = some (.int .u8 (x1 : Int)) := cell_of_row _ _ _ _ _ _ ((hal.block _ (lt_of_block hpb8)).trans hpb8)
    have HB8 : Hid (Below w.heap.size w (w8.alloc (.cells #[.int .i64 3, .int .u8 1, .int .u8 (q : Int)] 34))) := hb8.trans (hal.mono hb8.size)
    have HWR8 : Hid (FRd (w8.alloc (.cells #[.int .i64 3, .int .u8 1, .int .u8 (q : Int)] 34)) (.slice af fs.length cf) fs) := hwr8.below hal
    have HGR8 : Hid (FRd (w8.alloc (.cells #[.int .i64 3, .int .u8 1, .int .u8 (q : Int)] 34)) (.slice aa fs.length ca) fs) := hgr8.below hal
    have HQB := Lib.hid hq
    clear hpb8 hal hb8 hwr8 hgr8 hF8 hq
    go_wp2_with fail
    obtain ⟨P8, hP8⟩ : ∃ P8, w8.heap.size = P8 := ⟨_, rfl⟩
    rw [hP8] at HQB HPB8 ⊢
    clear hP8
    generalize w8.alloc (.cells #[.int .i64 3, .int .u8 1, .int .u8 (q : Int)] 34) = wo at *
    obtain ⟨ao1, cap1, g1, off1, hv1, _, ha1, hc1⟩ := HGR8.out
    obtain ⟨ao3, cap3, g3, off3, hv3, hm3, ha3, hc3⟩ := HWR8.out
    injection hv1 with e1 e2 e3
    injection hv3 with e4 e5 e6
    subst e1 e4
    have HA1 := Lib.hid ha1
    have HA3 := Lib.hid ha3
    have HC1 := Lib.hid hc1
    have HC3 := Lib.hid hc3
    clear e2 e3 e5 e6 ha1 ha3 hc1 hc3 HF7 q1 HWR8 HGR8
    go_loopw [15] (fun i wx => ∃ j : Nat, i = .int .i64 j ∧ j ≤ fs.length ∧ Still wo wx) (fun i _ => fs.length - (intOf i).toNat)
    case atStart => exact ⟨0, rfl, Nat.zero_le _, Still.refl _⟩
    case round =>
      obtain ⟨j, rfl, hj, hst⟩ := hrel
      have HST := Lib.hid hst
      clear hst
      by_cases hlt : j < fs.length
      · obtain ⟨rfl, hg⟩ := HA1.out (by omega)
        obtain ⟨rfl, hg'⟩ := HA3.out (by omega)
        have hcc : ∀ p, wr.cell? p = wo.cell? p := fun p => by unfold World.cell?; rw [HST.out.heap]
        have a0 := (hcc _).trans (HC1.out j hlt).1
        have a1 := (hcc _).trans (HC1.out j hlt).2
        have b0 := (hcc _).trans (HC3.out j hlt).1
        have b1 := (hcc _).trans (HC3.out j hlt).2
        clear hcc
        generalize (fs.getD j (0, [])).1 = x at *
        generalize mkS (fs.getD j (0, [])).2 = y at *
        have i3 : (0 : Int) ≤ (j : Int) := by omega
        have i4 : (j : Int) < (fs.length : Int) := by omega
        go_wp2_with fail
        go_quiet (fail)
        have hst3 : Still wo (wr.drewN nq) := ⟨HST.out.heap, HST.out.os, HST.out.tape, HST.out.output⟩
        have HST3 := Lib.hid hst3
        clear hst3
        go_wp2
        go_roundw
        case rel => exact ⟨j + 1, by go_num, by omega, HST3.out⟩
        case measure => simp [intOf]; omega
      · obtain rfl : j = fs.length := by omega
        have hbo : Below wo.heap.size wo wr := HST.out.below
        have hFr : IsF wr b vw8 [] q := HF8.out.below hbo
        have hbr := HB8.out.trans (hbo.mono HB8.out.size)
        have hqr := (hbo.block _ (lt_of_block HQB.out)).trans HQB.out
        clear hbo hlt hj HB8 HF8 HQB HST HC1 HC3 HA1 HA3
        have r0 : wr.cell? ⟨P8, 0, none⟩ = some (.int .i64 3) := cell_of_row _ _ _ _ _ _ hqr
        have r1 : wr.cell? ⟨P8, 1, none⟩ = some (.int .u8 1) := cell_of_row _ _ _ _ _ _ hqr
        have r2 : wr.cell? ⟨P8, 2, none⟩ = some (.int .u8 (q : Int)) := cell_of_row _ _ _ _ _ _ hqr
        have HFR := Lib.hid hFr
        have HBR := Lib.hid hbr
        have HQR := Lib.hid hqr
        clear hFr hbr hqr
        have hpq : (p < 16 ∧ q = 1) ∨ 16 ≤ p := by
          rcases Nat.lt_or_ge p 16 with h | h
          · exact .inl ⟨h, HQ1.out h⟩
          · exact .inr h
        rcases hpq with ⟨hp16, hqe⟩ | hp16
        all_goals
          first
            | (have ip : (p : Int) < 16 := by omega
               have hqi : (q : Int) = 1 := by omega
               rw [hqi] at r2
               clear hqi hqe)
            | have ip : (16 : Int) ≤ (p : Int) := by omega
          go_wp2_with fail
          refine (copy_bad b vw8 _ _ HFR.out).mono ?_
          rintro e w9 ⟨g9, rfl, hg9, hF9, hb9⟩
          have hFb9 := HFR.out.below hb9
          have hbw9 := HBR.out.trans (hb9.mono HBR.out.size)
          have hq9 := (hb9.block _ (lt_of_block HQR.out)).trans HQR.out
          have hne : g9 ≠ b := by have := HFR.out.lt; omega
          obtain ⟨m, hm⟩ : ∃ m, min 300 more.size = m := ⟨_, rfl⟩
          have hmin : (if (300 : Int) < (more.size : Int) then (300 : Int) else (more.size : Int)) = (m : Int) := by split <;> omega
          have hmin2 : min (more.size : Int) 300 = (m : Int) := by omega
          have hmle : m ≤ more.size := by omega
          have im0 : (0 : Int) ≤ (m : Int) := by omega
          have im1 : (m : Int) ≤ (more.size : Int) := by omega
          have hput9 := put_any b vw8 [] _ (more.extract 0 m) w9 hFb9 (by rw [ByteArray.size_extract]; show 0 + _ ≤ _; omega)
          unfold putR at hput9
          rw [if_neg HQ0.out] at hput9
          clear hm hb9
          go_wp2_with fail
          refine hput9.mono ?_
          rintro e w10 ⟨vb, vw10, he, hr10, hF10, hbt10, _⟩
          dsimp only at he hr10 hF10
          rw [HVD.out] at he
          clear hput9
          subst he
          obtain ⟨ab, cb, rfl⟩ := own_form hr10
          have hb10 := hbw9.trans (hbt10.below (by have := HWB.out; omega) hbw9.size)
          have hFg10 := hF9.empty (hbt10.block g9 hF9.lt hne) hbt10.size
          have hq10 := (hbt10.block P8 (lt_of_block hq9) (by have := HPB8.out; omega)).trans hq9
          clear hF9 hbt10 hr10 hq9 hbw9 hFb9
          go_simp
          have hal : Below w10.heap.size w10 (w10.alloc (.cells #[.int .i64 3, .int .u8 1, .int .u8 (q : Int)] 34)) := (Below.refl _ _).alloc (Nat.le_refl _) _
          have hv18 := heap_alloc_new w10 (.cells #[.int .i64 3, .int .u8 1, .int .u8 (q : Int)] 34)
          have hF10a := hF10.below hal
          have hFg10a := hFg10.below hal
          have hq10a := (hal.block _ (lt_of_block hq10)).trans hq10
          have hb10a := hb10.trans (hal.mono hb10.size)
          have hlt10 : P8 < w10.heap.size ∧ g9 < w10.heap.size ∧ b < w10.heap.size := ⟨lt_of_block hq10, hFg10.lt, hF10.lt⟩
          clear hal hF10 hFg10 hq10 hb10
          have HB10 := Lib.hid hb10a
          have HF10 := Lib.hid hF10a
          have HFG10 := Lib.hid hFg10a
          have HQ10 := Lib.hid hq10a
          have HV18 := Lib.hid hv18
          have HLT := Lib.hid hlt10
          clear hb10a hF10a hFg10a hq10a hv18 hlt10
          go_wp2_with fail
          obtain ⟨P18, hP18⟩ : ∃ P18, w10.heap.size = P18 := ⟨_, rfl⟩
          rw [hP18] at HV18 HLT ⊢
          clear hP18
          generalize w10.alloc (.cells #[.int .i64 3, .int .u8 1, .int .u8 (q : Int)] 34) = w10a at *
          have hputg := put_any g9 _ [] _ keepS w10a HFG10.out (by decide)
          unfold putR at hputg
          rw [if_neg HQ0.out] at hputg
          refine hputg.mono ?_
          rintro e w11 ⟨vc, vw11, he, hr11, hF11, hbt11, _⟩
          dsimp only at he hr11 hF11
          rw [HVD.out] at he
          clear hputg hF11
          subst he
          obtain ⟨ac, cc, rfl⟩ := own_form hr11
          have hF11 := HF10.out.empty (hbt11.block b HF10.out.lt (fun h => hne h.symm)) hbt11.size
          have hq11 := (hbt11.block P8 (lt_of_block HQ10.out) (by have := HLT.out; have := HFR.out.lt; have := lt_of_block HQR.out; omega)).trans HQ10.out
          have hv11 := (hbt11.block P18 (lt_of_block HV18.out) (by have := HLT.out; omega)).trans HV18.out
          have hb11 := HB10.out.trans (hbt11.below (by have := HBR.out.size; omega) HB10.out.size)
          clear hbt11 hr11
          go_simp
          have hal : Below w11.heap.size w11 (w11.alloc (.cells #[.int .i64 3, .int .u8 1, .int .u8 (q : Int)] 34)) := (Below.refl _ _).alloc (Nat.le_refl _) _
          have hv20 := heap_alloc_new w11 (.cells #[.int .i64 3, .int .u8 1, .int .u8 (q : Int)] 34)
          have hF11a := hF11.below hal
          have hq11a := (hal.block _ (lt_of_block hq11)).trans hq11
          have hv11a := (hal.block _ (lt_of_block hv11)).trans hv11
          have hb11a := hb11.trans (hal.mono hb11.size)
          have s0 := cell_of_row _ _ 0 _ _ _ hq11a
          have s1 := cell_of_row _ _ 1 _ _ _ hq11a
          have s2 := cell_of_row _ _ 2 _ _ _ hq11a
          have t0 := cell_of_row _ _ 0 _ _ _ hv11a
          have t1 := cell_of_row _ _ 1 _ _ _ hv11a
          have t2 := cell_of_row _ _ 2 _ _ _ hv11a
          have u0 := cell_of_row _ _ 0 _ _ _ hv20
          have u1 := cell_of_row _ _ 1 _ _ _ hv20
          have u2 := cell_of_row _ _ 2 _ _ _ hv20
          simp at s0 s1 s2 t0 t1 t2 u0 u1 u2
          have HF11 := Lib.hid hF11a
          have HB11 := Lib.hid hb11a
          clear hal hF11 hq11 hv11 hb11 hF11a hq11a hv11a hv20 hb11a
          go_wp2_with fail
          refine (left_any b _ _ _ _ HF11.out).mono ?_
          rintro e w12 ⟨rfl, rfl⟩
          go_wp2_with fail
          refine (works_any _).mono ?_
          rintro e w13 ⟨rfl, hb13⟩
          have hb13a := HB11.out.trans (hb13.mono HB11.out.size)
          clear hb13
          go_wp2_with fail
          go_ret
          exact ⟨rfl, hb13a⟩
end Go.Proofs.Ytcbkmafekkhpiaa
