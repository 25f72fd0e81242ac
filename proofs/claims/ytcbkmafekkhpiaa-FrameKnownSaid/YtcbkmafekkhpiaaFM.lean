/- frame.Make, heraldref09.Make. -/
import Derived.Test.YtcbkmafekkhpiaaFS
import Derived.Deep.RegionHeld3
namespace Go.Proofs.Ytcbkmafekkhpiaa
open Go.RowKit
set_option linter.unusedVariables false

/-- What Make answers: bytes, and a number: 0 well, 2 an argument that may not be, 3 above a limit. -/
def makeR (k : Int) (body : List UInt8) : List UInt8 × Int :=
  if k < 1 ∨ 5 < k then ([], 2) else if 4096 < 19 + body.length then ([], 3) else if fitsI k (19 + body.length : Nat) = false then ([], 2) else (mk (k.toNat, body), 0)

set_option maxHeartbeats 1000000 in
theorem make_any (k : Int) (s : ByteArray) (w : World) (hs : s.size ≤ 1000000) : Calls Try.prog 8 #[.agg #[.int .i64 k, .string s]] w fun e w' => e = .returned (.tuple #[.string (mkS (makeR k (toL s)).1), .int .i64 (makeR k (toL s)).2]) ∧ Below w.heap.size w w' := by
  have hsl := toL_len s
  have HM : Hid (makeR k (toL s) = if k < 1 ∨ 5 < k then ([], 2) else if 4096 < 19 + s.size then ([], 3) else if fitsI k (19 + s.size : Nat) = false then ([], 2) else (mk (k.toNat, toL s), 0)) := by show _ = _; unfold makeR; rw [hsl]
  clear hsl
  obtain ⟨R, hR⟩ : ∃ R, makeR k (toL s) = R := ⟨_, rfl⟩
  rw [hR] at HM ⊢
  clear hR
  have e1 : IntKind.i64.wrap (19 + (s.size : Int)) = ((19 + s.size : Nat) : Int) := by rw [IntKind.wrap_i64]; omega
  have e1' : wrap64 (19 + (s.size : Int)) = ((19 + s.size : Nat) : Int) := by unfold wrap64; omega
  have HS := Lib.hid hs
  clear hs
  go_enter Try.func8, Try.ntmps8
  by_cases h1 : k < 1
  · have hr : R = ([], 2) := by rw [HM.out, if_pos (Or.inl h1)]
    go_wp2
    exact bodyPost_ret (v := .tuple #[.string ⟨#[]⟩, .int .i64 2]) (by simp [results, Try.results8, go_sem]) rfl ⟨by rw [hr]; rfl, (Below.refl _ _).alloc (Nat.le_refl _) _⟩
  · by_cases h2 : 5 < k
    · have hr : R = ([], 2) := by rw [HM.out, if_pos (Or.inr h2)]
      replace h1 : 1 ≤ k := by omega
      go_wp2
      exact bodyPost_ret (v := .tuple #[.string ⟨#[]⟩, .int .i64 2]) (by simp [results, Try.results8, go_sem]) rfl ⟨by rw [hr]; rfl, (Below.refl _ _).alloc (Nat.le_refl _) _⟩
    · replace HM : Hid (R = if 4096 < 19 + s.size then ([], 3) else if fitsI k (19 + s.size : Nat) = false then ([], 2) else (mk (k.toNat, toL s), 0)) := by show _ = _; rw [HM.out, if_neg (by omega)]
      replace h1 : 1 ≤ k := by omega
      replace h2 : k ≤ 5 := by omega
      obtain ⟨n, hn⟩ : ∃ n, 19 + s.size = n := ⟨_, rfl⟩
      rw [hn] at HM e1 e1'
      by_cases h3 : 4096 < n
      · have hr : R = ([], 3) := by rw [HM.out, if_pos h3]
        have h3' : (4096 : Int) < (n : Int) := by omega
        clear h3 hn
        go_wp2
        exact bodyPost_ret (v := .tuple #[.string ⟨#[]⟩, .int .i64 3]) (by simp [results, Try.results8, go_sem]) rfl ⟨by rw [hr]; rfl, (Below.refl _ _).alloc (Nat.le_refl _) _⟩
      · replace HM : Hid (R = if fitsI k (n : Nat) = false then ([], 2) else (mk (k.toNat, toL s), 0)) := by show _ = _; rw [HM.out, if_neg h3]
        have h3' : (n : Int) ≤ 4096 := by omega
        have HN := Lib.hid hn
        clear h3 hn
        go_wp2_with fail
        refine (fits_any _ _ _).mono ?_
        rintro e w6 ⟨he, rfl⟩
        cases hf : fitsI k n with
        | false =>
          have hr : R = ([], 2) := by rw [HM.out, hf]; rfl
          rw [hf] at he
          subst he
          go_wp2
          exact bodyPost_ret (v := .tuple #[.string ⟨#[]⟩, .int .i64 2]) (by simp [results, Try.results8, go_sem]) rfl ⟨by rw [hr]; rfl, (Below.refl _ _).alloc (Nat.le_refl _) _⟩
        | true =>
          have hr : R = (mk (k.toNat, toL s), 0) := by rw [HM.out, hf]; rfl
          rw [hf] at he
          subst he
          go_wp2_with fail
          have HAL : Hid (Below w.heap.size w (w.alloc (.cells #[.int .i64 k, .string s] 23))) := (Below.refl _ _).alloc (Nat.le_refl _) _
          have hg0 := heap_alloc_new w (.cells #[.int .i64 k, .string s] 23)
          have HWS : Hid (w.heap.size < (w.alloc (.cells #[.int .i64 k, .string s] 23)).heap.size) := by show _ < _; simp
          generalize w.alloc (.cells #[.int .i64 k, .string s] 23) = W at *
          have a0 : W.cell? ⟨w.heap.size, 0, none⟩ = some (.int .i64 k) := cell_of_row _ _ _ _ _ _ hg0
          have a1 : W.cell? ⟨w.heap.size, 1, none⟩ = some (.string s) := cell_of_row _ _ _ _ _ _ hg0
          have A0 : ∀ o, (W.alloc o).cell? ⟨w.heap.size, 0, none⟩ = some (.int .i64 k) := fun o => ((Below.refl W.heap.size W).alloc (Nat.le_refl _) o).cell HWS.out |>.trans a0
          have A1 : ∀ o, (W.alloc o).cell? ⟨w.heap.size, 1, none⟩ = some (.string s) := fun o => ((Below.refl W.heap.size W).alloc (Nat.le_refl _) o).cell HWS.out |>.trans a1
          have HG0 := Lib.hid hg0
          clear hg0
          have hcv : ∀ (w' : World) (g : Nat), w'.heap[g]? = some (.cells #[.int .u8 (IntKind.u8.wrap ((n : Int) / 256)), .int .u8 (IntKind.u8.wrap (n : Int)), .int .u8 (IntKind.u8.wrap k)] 5 (0, 0)) → (convert 43 9 (.slice (some ⟨g, 0, none⟩) 3 3)).run Try.prog w' = .ok (.string (mkS [UInt8.ofNat (n / 256), UInt8.ofNat n, UInt8.ofNat k.toNat])) w' := by
            intro w' g hg
            have hw8 : ∀ x : Int, IntKind.u8.wrap x = x % 256 := fun x => by simp [IntKind.wrap, IntKind.signed, IntKind.bits]
            refine run_convert_bytes_back (P := Try.prog) w' 43 9 5 ⟨g, 0, none⟩ 3 [UInt8.ofNat (n / 256), UInt8.ofNat n, UInt8.ofNat k.toNat] Try.underlying43 Try.underlying5 Try.underlying9 (fun j hj => ?_)
            rw [Addr.add_lit, Nat.zero_add, cell_of_row _ _ _ _ _ _ hg, hw8, hw8, hw8]
            have hkk : k % 256 = ((k.toNat % 256 : Nat) : Int) := by omega
            match j, hj with
            | 0, _ => simp
            | 1, _ => simp
            | 2, _ => simp [hkk]
          have hcv1 : ∀ X : World, (convert 43 9 (.slice (some ⟨X.heap.size, 0, none⟩) 3 3)).run Try.prog (X.alloc (.cells #[.int .u8 (IntKind.u8.wrap ((n : Int) / 256)), .int .u8 (IntKind.u8.wrap (n : Int)), .int .u8 (IntKind.u8.wrap k)] 5)) = .ok (.string (mkS [UInt8.ofNat (n / 256), UInt8.ofNat n, UInt8.ofNat k.toNat])) (X.alloc (.cells #[.int .u8 (IntKind.u8.wrap ((n : Int) / 256)), .int .u8 (IntKind.u8.wrap (n : Int)), .int .u8 (IntKind.u8.wrap k)] 5)) := fun X => hcv _ _ (heap_alloc_new _ _)
          have hcv2 : ∀ X : World, (convert 43 9 (.slice (some ⟨X.heap.size, 0, none⟩) 3 3)).run Try.prog (X.alloc (.cells #[.int .u8 (IntKind.u8.wrap ((n : Int) / 256)), .int .u8 (IntKind.u8.wrap (n : Int)), .int .u8 (IntKind.u8.wrap k)] 5)).drew = .ok (.string (mkS [UInt8.ofNat (n / 256), UInt8.ofNat n, UInt8.ofNat k.toNat])) (X.alloc (.cells #[.int .u8 (IntKind.u8.wrap ((n : Int) / 256)), .int .u8 (IntKind.u8.wrap (n : Int)), .int .u8 (IntKind.u8.wrap k)] 5)).drew := fun X => hcv _ _ (heap_alloc_new _ _)
          have HCV := Lib.hid hcv
          clear hcv
          obtain ⟨S3, hS3⟩ : ∃ S3, mkS [UInt8.ofNat (n / 256), UInt8.ofNat n, UInt8.ofNat k.toNat] = S3 := ⟨_, rfl⟩
          rw [hS3] at HCV
          simp only [hS3] at hcv1 hcv2
          have hs3 : S3.size = 3 := by rw [← hS3]; rfl
          have hff : ff16.size = 16 := rfl
          have HSS := Lib.hid hS3
          have hz1 : ¬ 9223372036854775807 < ff16.size + S3.size := by omega
          have hz2 : ¬ 9223372036854775807 < ff16.size + S3.size + s.size := by have := HS.out; omega
          clear hs3 hff hS3
          go_region_with (first
            | (go_at_call 19; refine (marker_any _).mono ?_; rintro e w5 ⟨rfl, hb5⟩; have b0 : w5.cell? ⟨w.heap.size, 0, none⟩ = some (.int .i64 k) := (hb5.cell (by have := HWS.out; simp; omega)).trans (by first | exact a0 | exact A0 _); have b1 : w5.cell? ⟨w.heap.size, 1, none⟩ = some (.string s) := (hb5.cell (by have := HWS.out; simp; omega)).trans (by first | exact a1 | exact A1 _); have B0 : ∀ o, (w5.alloc o).cell? ⟨w.heap.size, 0, none⟩ = some (.int .i64 k) := fun o => ((Below.refl w5.heap.size w5).alloc (Nat.le_refl _) o).cell (by have := HWS.out; have := hb5.size; simp at *; omega) |>.trans b0; have B1 : ∀ o, (w5.alloc o).cell? ⟨w.heap.size, 1, none⟩ = some (.string s) := fun o => ((Below.refl w5.heap.size w5).alloc (Nat.le_refl _) o).cell (by have := HWS.out; have := hb5.size; simp at *; omega) |>.trans b1; have HBW : Hid (Below w.heap.size w w5) := (by first | exact HAL.out.trans ((Below.refl w.heap.size W).drew.trans (hb5.mono (by have := HWS.out; simp; omega))) | exact HAL.out.trans ((((Below.refl w.heap.size W).alloc (by have := HWS.out; omega) _).drew).trans (hb5.mono (by have := HWS.out; simp; omega))) | exact HAL.out.trans ((((Below.refl w.heap.size W).drew).alloc (by have := HWS.out; simp; omega) _).trans (hb5.mono (by have := HWS.out; simp; omega)))); first | (have c2 := HCV.out w5 W.heap.size ((hb5.block W.heap.size (by simp)).trans (heap_alloc_new W _))) | skip))
          all_goals (
            have HVV : Hid (mkS R.1 = ff16 ++ S3 ++ s ∧ R.2 = 0) := by
              refine ⟨?_, by rw [hr]⟩
              rw [hr, ← HSS.out]
              show mkS (mk (k.toNat, toL s)) = mkS (List.replicate 16 255) ++ mkS _ ++ mkS (toL s)
              unfold mk mkS
              rw [ByteArray.mk_append_mk, ByteArray.mk_append_mk, ← HN.out, toL_len]
            have HBX := HBW
            clear HBW HSS
            go_wp2_with fail
            exact bodyPost_ret (v := .tuple #[.string (ff16 ++ S3 ++ s), .int .i64 0]) (by simp [results, Try.results8, go_sem]) rfl ⟨by rw [HVV.out.1, HVV.out.2], by first | exact HBX.out | exact HBX.out.drew | exact HBX.out.alloc (by have := HBX.out.size; omega) _ | exact (HBX.out.alloc (by have := HBX.out.size; omega) _).drew⟩)
end Go.Proofs.Ytcbkmafekkhpiaa
