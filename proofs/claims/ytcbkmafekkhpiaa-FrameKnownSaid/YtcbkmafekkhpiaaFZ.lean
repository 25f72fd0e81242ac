/- heraldlaw09: stream. -/
import Derived.Test.YtcbkmafekkhpiaaFO
import Derived.Test.YtcbkmafekkhpiaaFW
namespace Go.Proofs.Ytcbkmafekkhpiaa
open Go.RowKit
set_option linter.unusedVariables false

def Tolds (w : World) (bl off len : Nat) : Prop := ∀ i, i < len → ∃ x : ToldR, x.kd < 256 ∧ x.mo < 256 ∧ x.fi < 256 ∧ w.cell? ⟨bl, off + i * 3, none⟩ = some (.int .u8 (x.kd : Nat)) ∧ w.cell? ⟨bl, off + i * 3 + 1, none⟩ = some (.int .u8 (x.mo : Nat)) ∧ w.cell? ⟨bl, off + i * 3 + 2, none⟩ = some (.int .u8 (x.fi : Nat))
theorem makeR_ok (f : Fr) (h : okF f) : makeR (f.1 : Nat) f.2 = (mk f, 0) := by
  unfold makeR
  rw [if_neg (by have := h.2.2; omega), if_neg (by have := h.2.1; omega), if_neg (by rw [h.2.2.2.2]; simp)]
  rfl
def GoodFs (fs : List Fr) : Prop := ∀ f ∈ fs, okF f ∧ f.2.length ≤ 265
theorem flat_len (fs : List Fr) (h : GoodFs fs) : ((fs.map mk).flatten).length ≤ fs.length * 284 := by
  induction fs with
  | nil => simp
  | cons f fs ih =>
    rw [List.map_cons, List.flatten_cons, List.length_append, List.length_cons, mk_len]
    have h1 := (h f (by simp)).2
    have h2 := ih fun g hg => h g (by simp [hg])
    omega
theorem flat_snoc (fs : List Fr) (f : Fr) : ((fs ++ [f]).map mk).flatten = (fs.map mk).flatten ++ mk f := by simp
theorem mkS_append (a b : List UInt8) : mkS a ++ mkS b = mkS (a ++ b) := by unfold mkS; rw [ByteArray.mk_append_mk]

set_option maxHeartbeats 4000000 in
theorem stream_any (ao : Option Addr) (bl off len cap : Nat) (w : World) (hm : len ≤ 9223372036854775807) (hao : 0 < len → ao = some ⟨bl, off, none⟩ ∧ bl < w.heap.size) (hst : Tolds w bl off len) :
    Calls Try.prog 16 #[.slice ao len cap] w fun e w' => ∃ fs vf, e = .returned (.tuple #[.string (mkS (fs.map mk).flatten), vf, .bool true]) ∧ GoodFs fs ∧ fs.length ≤ 20 ∧ FRow w' w.heap.size vf fs ∧ Below w.heap.size w w' := by
  have HAO := Lib.hid hao
  have HST := Lib.hid hst
  clear hao hst
  go_enter Try.func16, Try.ntmps16
  go_wp2_with fail
  go_loopw [5, 6, 7] (fun s5 s6 s7 wr => ∃ (k : Nat) (S : ByteArray) (fs : List Fr), s5 = .string S ∧ s7 = .int .i64 k ∧ k ≤ len ∧ k ≤ 20 ∧ fs.length = k ∧ Hid (GoodFs fs ∧ S = mkS (fs.map mk).flatten ∧ S.size ≤ k * 284 ∧ FRow wr w.heap.size s6 fs ∧ Below w.heap.size w wr)) (fun _ _ i _ => len - (intOf i).toNat)
  case atStart => exact ⟨0, ⟨#[]⟩, [], rfl, rfl, Nat.zero_le _, Nat.zero_le _, rfl, ⟨fun f hf => by simp at hf, rfl, Nat.zero_le _, FRow.nil _ _, Below.refl _ _⟩⟩
  case round =>
    obtain ⟨k, S, fs, rfl, rfl, hk, hk20, hfl, HH⟩ := hrel
    obtain ⟨out, rfl⟩ : ∃ o, o = u6 := ⟨_, rfl⟩
    by_cases hlt : k < len
    · by_cases h20 : k < 20
      · obtain ⟨rfl, hbl⟩ := HAO.out (by omega)
        obtain ⟨x, x1, x2, x3, q0, q1, q2⟩ := HST.out k hlt
        have c0 := (HH.out.2.2.2.2.cell (p := ⟨bl, off + k * 3, none⟩) hbl).trans q0
        have c1 := (HH.out.2.2.2.2.cell (p := ⟨bl, off + k * 3 + 1, none⟩) hbl).trans q1
        have c2 := (HH.out.2.2.2.2.cell (p := ⟨bl, off + k * 3 + 2, none⟩) hbl).trans q2
        have hok := ok_frT x x2
        have hln : (frT x).2.length ≤ 265 := by show (List.replicate _ _).length ≤ _; rw [List.length_replicate]; exact lenT_le x x2
        have i1 : (0 : Int) ≤ (k : Int) := by omega
        have i2 : (k : Int) < (len : Int) := by omega
        have i3 : (k : Int) < 20 := by omega
        have HOK := Lib.hid hok
        have HLN := Lib.hid hln
        have HX1 := Lib.hid x1
        have HX2 := Lib.hid x2
        have HX3 := Lib.hid x3
        clear hok hln q0 q1 q2 x1 x2 x3
        go_wp2_with fail
        refine (of_any x _ HX1.out HX2.out HX3.out).mono ?_
        rintro e w5 ⟨rfl, hb5⟩
        have HH5 : Hid (FRow w5 w.heap.size out fs ∧ Below w.heap.size w w5) := ⟨HH.out.2.2.2.1.below hb5, HH.out.2.2.2.2.trans (hb5.mono HH.out.2.2.2.2.size)⟩
        have hblr : bl < wr.heap.size := by have := HH.out.2.2.2.2.size; omega
        have c05 := (hb5.cell (p := ⟨bl, off + k * 3, none⟩) hblr).trans c0
        have c15 := (hb5.cell (p := ⟨bl, off + k * 3 + 1, none⟩) hblr).trans c1
        have c25 := (hb5.cell (p := ⟨bl, off + k * 3 + 2, none⟩) hblr).trans c2
        have hbl5 : bl < w5.heap.size := by have := hb5.size; omega
        have HGS : Hid (GoodFs fs ∧ S = mkS (fs.map mk).flatten ∧ S.size ≤ k * 284) := ⟨HH.out.1, HH.out.2.1, HH.out.2.2.1⟩
        clear hb5 hblr c0 c1 c2 HH
        go_wp2_with fail
        have hmk := make_any (kindT x : Nat) (mkS (frT x).2) w5 (by rw [mkS_size]; have := HLN.out; omega)
        have hme : makeR (kindT x : Nat) (toL (mkS (frT x).2)) = (mk (frT x), 0) := makeR_ok (frT x) HOK.out
        rw [hme] at hmk
        refine hmk.mono ?_
        rintro e w6 ⟨rfl, hb6⟩
        have HH6 : Hid (FRow w6 w.heap.size out fs ∧ Below w.heap.size w w6) := ⟨HH5.out.1.below hb6, HH5.out.2.trans (hb6.mono HH5.out.2.size)⟩
        have c06 := (hb6.cell (p := ⟨bl, off + k * 3, none⟩) hbl5).trans c05
        have c16 := (hb6.cell (p := ⟨bl, off + k * 3 + 1, none⟩) hbl5).trans c15
        have c26 := (hb6.cell (p := ⟨bl, off + k * 3 + 2, none⟩) hbl5).trans c25
        obtain ⟨B2, hB2⟩ : ∃ B2, mkS (mk (frT x)) = B2 := ⟨_, rfl⟩
        have hB2s : B2.size ≤ 284 := by rw [← hB2, mkS_size, mk_len]; have := HLN.out; omega
        rw [show ((mk (frT x), (0 : Int)) : List UInt8 × Int).1 = mk (frT x) from rfl, hB2]
        have hz : ¬ 9223372036854775807 < S.size + B2.size := by have := HGS.out.2.2; omega
        have HGS2 : Hid (GoodFs (fs ++ [frT x]) ∧ S ++ B2 = mkS ((fs ++ [frT x]).map mk).flatten ∧ (S ++ B2).size ≤ (k + 1) * 284) := by
          refine ⟨fun f hf => ?_, ?_, ?_⟩
          · rcases List.mem_append.1 hf with h | h
            · exact HGS.out.1 f h
            · simp at h; subst h; exact ⟨HOK.out, HLN.out⟩
          · rw [flat_snoc, ← mkS_append, ← HGS.out.2.1, hB2]
          · rw [ByteArray.size_append]; have := HGS.out.2.2; omega
        clear hb6 c05 c15 c25 hbl5 HH5 hmk hme hB2 hB2s
        go_wp2_with fail
        refine (of_any x _ HX1.out HX2.out HX3.out).mono ?_
        rintro e w7 ⟨rfl, hb7⟩
        have HH7 : Hid (FRow w7 w.heap.size out fs ∧ Below w.heap.size w w7) := ⟨HH6.out.1.below hb7, HH6.out.2.trans (hb7.mono HH6.out.2.size)⟩
        clear hb7 c06 c16 c26 HH6
        have HFL := Lib.hid hfl
        go_wp2_with (at_builtin; refine wpList_pushF rfl (.tmp 34) (.tmp 40) rfl w.heap.size out fs rfl (HH7.out.1.below ((Below.refl _ _).alloc (Nat.le_refl _) _)) w7.heap.size (frT x) rfl (by exact heap_alloc_new _ _) (by have := HFL.out; omega) (by have := HH7.out.2.size; simp; omega) ?_; intro v' w9 hown9 hgrow9)
        have HH9 : Hid (FRow w9 w.heap.size v' (fs ++ [frT x]) ∧ Below w.heap.size w w9) := ⟨hown9, (HH7.out.2.alloc HH7.out.2.size _).grown hgrow9 (by have := HH7.out.2.size; simp; omega) (own_ge HH7.out.1)⟩
        clear hown9 hgrow9
        go_roundw
        case rel => exact ⟨k + 1, S ++ B2, fs ++ [frT x], rfl, by go_num, by omega, by omega, by simp; omega, ⟨HGS2.out.1, HGS2.out.2.1, HGS2.out.2.2, HH9.out.1, HH9.out.2⟩⟩
        case measure => simp [intOf]; omega
      · have HE : Hid (∃ fs vf, Ending.returned (.tuple #[.string S, out, .bool true]) = .returned (.tuple #[.string (mkS (fs.map mk).flatten), vf, .bool true]) ∧ GoodFs fs ∧ fs.length ≤ 20 ∧ FRow wr w.heap.size vf fs ∧ Below w.heap.size w wr) := ⟨fs, out, by rw [HH.out.2.1], HH.out.1, by omega, HH.out.2.2.2.1, HH.out.2.2.2.2⟩
        have i3 : (20 : Int) ≤ (k : Int) := by omega
        clear HH
        go_wp2_with fail
        exact bodyPost_ret (v := .tuple #[.string S, out, .bool true]) (by simp [results, Try.results16, go_sem]) rfl HE.out
    · have HE : Hid (∃ fs vf, Ending.returned (.tuple #[.string S, out, .bool true]) = .returned (.tuple #[.string (mkS (fs.map mk).flatten), vf, .bool true]) ∧ GoodFs fs ∧ fs.length ≤ 20 ∧ FRow wr w.heap.size vf fs ∧ Below w.heap.size w wr) := ⟨fs, out, by rw [HH.out.2.1], HH.out.1, by omega, HH.out.2.2.2.1, HH.out.2.2.2.2⟩
      clear HH
      go_wp2_with fail
      exact bodyPost_ret (v := .tuple #[.string S, out, .bool true]) (by simp [results, Try.results16, go_sem]) rfl HE.out
end Go.Proofs.Ytcbkmafekkhpiaa
