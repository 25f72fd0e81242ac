/- unlike: told prefixes in a row. -/
import Derived.Test.YtcljkcgccahlcaaTX
import Derived.Test.YtcljkcgccahlcaaTP
import Derived.Lib.QuietBelow
import Derived.BigQuiet
namespace Go.Proofs.Ytcljkcgccahlcaa
open Go.RowKit Go.Sort
set_option linter.unusedVariables false

/-- What is told lies at o of block g. -/
structure NlAt (w : World) (g o : Nat) (x : Nl) : Prop where
  c0 : w.cell? ⟨g, o, none⟩ = some (.int .i64 x.p.fam)
  c1 : w.cell? ⟨g, o + 1, none⟩ = some (.int .u64 x.p.rd)
  c2 : w.cell? ⟨g, o + 2, none⟩ = some (.string x.p.addr)
  c3 : w.cell? ⟨g, o + 3, none⟩ = some (.int .i64 x.p.len)
  c4 : w.cell? ⟨g, o + 4, none⟩ = some (.int .u32 x.p.id)
  c5 : w.cell? ⟨g, o + 5, none⟩ = some (.int .u32 x.label)
theorem NlAt.keep {w w' : World} {g o : Nat} {x : Nl} (h : NlAt w g o x) (hb : w'.heap[g]? = w.heap[g]?) : NlAt w' g o x :=
  ⟨(World.cell?_of_block (w := w) hb).trans h.c0, (World.cell?_of_block (w := w) hb).trans h.c1, (World.cell?_of_block (w := w) hb).trans h.c2, (World.cell?_of_block (w := w) hb).trans h.c3, (World.cell?_of_block (w := w) hb).trans h.c4, (World.cell?_of_block (w := w) hb).trans h.c5⟩
theorem NlAt.regrown {w : World} {g o : Nat} {x : Nl} (h : NlAt w g o x) : ∀ d os, NlAt (grow (redrawn w d) os) g o x := fun d os => ⟨cell_regrown h.c0 d os, cell_regrown h.c1 d os, cell_regrown h.c2 d os, cell_regrown h.c3 d os, cell_regrown h.c4 d os, cell_regrown h.c5 d os⟩

/-- A row of told prefixes. -/
structure RdN (w : World) (v : Value) (L : List Nl) : Prop where
  form : ∃ ao cap g off, v = .slice ao L.length cap ∧ L.length ≤ cap ∧ (0 < L.length → ao = some ⟨g, off, none⟩ ∧ g < w.heap.size) ∧ ∀ k, k < L.length → NlAt w g (off + k * 6) (nlAt L k)
  ok : ∀ k, k < L.length → (nlAt L k).p.Ok

theorem pl_eq (p q : Pl) (h1 : eqPre p q = true) (h2 : p.id = q.id) : p = q := by
  obtain ⟨a, b, c, d⟩ := (eqPre_iff p q).1 h1
  obtain ⟨_, _, _, _, _⟩ := p
  obtain ⟨_, _, _, _, _⟩ := q
  simp at a b c d h2
  subst a b c d h2
  rfl
theorem pl_ne (p q : Pl) (h : ¬ (eqPre p q = true ∧ p.id = q.id)) : p ≠ q := by
  rintro rfl
  exact h ⟨(eqPre_iff p p).2 ⟨rfl, rfl, rfl, rfl⟩, rfl⟩
theorem uniq_same {l : List Nl} {k : Nat} (hk : (nlAt l k).ok = false) : uniq l (k + 1) = uniq l k := by simp [uniq, hk]
theorem mem_next {l : List Nl} {k : Nat} {p : Pl} : p ∈ uniq l (k + 1) ↔ p ∈ uniq l k ∨ ((nlAt l k).ok = true ∧ (nlAt l k).p = p) := by
  rw [uniq_mem, uniq_mem]
  constructor
  · rintro ⟨j, a, b, c⟩
    by_cases e : j = k
    · subst e; exact .inr ⟨b, c⟩
    · exact .inl ⟨j, by omega, b, c⟩
  · rintro (⟨j, a, b⟩ | ⟨b, c⟩)
    · exact ⟨j, by omega, b⟩
    · exact ⟨k, by omega, b, c⟩

set_option maxRecDepth 100000 in
set_option maxHeartbeats 4000000 in
theorem unlike_any (v : Value) (L : List Nl) (w : World) (hr : RdN w v L) (hl : L.length ≤ 1000) :
    Calls Try.prog 24 #[v] w fun e w' => e = .returned (.int .i64 ((uniq L L.length).length : Nat)) ∧ Below w.heap.size w w' := by
  obtain ⟨⟨ao, cap, g, off, rfl, hcap, hao, hat⟩, _⟩ := hr
  have HA := Lib.hid hao
  have HAT := Lib.hid hat
  have hlm : L.length ≤ 9223372036854775807 := by omega
  clear hao hat hcap
  go_enter Try.func24, Try.ntmps24
  go_wp2_with fail
  go_loopw [3, 4] (fun n i wr => ∃ k : Nat, i = .int .i64 k ∧ n = .int .i64 ((uniq L k).length : Nat) ∧ k ≤ L.length ∧ Below w.heap.size w wr) (fun _ i _ => L.length - (intOf i).toNat)
  case atStart => exact ⟨0, rfl, rfl, Nat.zero_le _, Below.refl _ _⟩
  case round =>
    obtain ⟨i, rfl, rfl, hi, hbel⟩ := hrel
    by_cases hlt : i < L.length
    · obtain ⟨rfl, hg⟩ := HA.out (by omega)
      go_wp2_with fail
      go_loopw [5, 6] (fun ag k wz => ∃ j : Nat, k = .int .i64 j ∧ ag = .bool (decide ((nlAt L i).p ∈ uniq L j)) ∧ j ≤ i ∧ Below w.heap.size w wz) (fun _ k _ => i - (intOf k).toNat)
      case atStart => exact ⟨0, rfl, by simp [uniq], Nat.zero_le _, hbel⟩
      case round =>
        obtain ⟨j, rfl, rfl, hj, hbz⟩ := hrel
        by_cases hji : j < i
        · have hbi : decide ((j : Int) < (i : Int)) = true := by simp; omega
          have hatj := (HAT.out j (by omega)).keep (hbz.block g hg)
          have hati := (HAT.out i hlt).keep (hbz.block g hg)
          have hmn := Lib.hid (@mem_next L j (nlAt L i).p)
          have hck : Hid (∀ W, Calls Try.prog 19 #[.agg #[.int .i64 (nlAt L j).p.fam, .int .u64 (nlAt L j).p.rd, .string (nlAt L j).p.addr, .int .i64 (nlAt L j).p.len, .int .u32 (nlAt L j).p.id, .int .u32 (nlAt L j).label]] W fun e w' => e = .returned (.int .i64 (errP (nlAt L j).ok)) ∧ Below W.heap.size W w') := fun W => ncheck_any (nlAt L j).p (nlAt L j).label W
          have hz : ∀ w, _ := run_eql_pre (nlAt L j).p (nlAt L i).p
          have hpe := Lib.hid (pl_eq (nlAt L j).p (nlAt L i).p)
          have hpn := Lib.hid (pl_ne (nlAt L j).p (nlAt L i).p)
          clear hbel
          obtain ⟨xj, hxj⟩ : ∃ x, nlAt L j = x := ⟨_, rfl⟩
          obtain ⟨xi, hxi⟩ : ∃ x, nlAt L i = x := ⟨_, rfl⟩
          rw [hxj] at hatj hck hz hpe hpn hmn
          rw [hxi] at hati hz hpe hpn hmn
          obtain ⟨hq, hqq⟩ : ∃ b, decide (xi.p ∈ uniq L j) = b := ⟨_, rfl⟩
          obtain ⟨nb, hnb⟩ : ∃ b, decide (xi.p ∈ uniq L (j + 1)) = b := ⟨_, rfl⟩
          rw [hxi, hqq]
          have hcj := hatj.regrown
          have hci := hati.regrown
          have f0 := fun d os => (hcj d os).c0
          have f1 := fun d os => (hcj d os).c1
          have f2 := fun d os => (hcj d os).c2
          have f3 := fun d os => (hcj d os).c3
          have f4 := fun d os => (hcj d os).c4
          have f5 := fun d os => (hcj d os).c5
          have g0 := fun d os => (hci d os).c0
          have g1 := fun d os => (hci d os).c1
          have g2 := fun d os => (hci d os).c2
          have g3 := fun d os => (hci d os).c3
          have g4 := fun d os => (hci d os).c4
          clear hcj hci hatj hati
          have hjb : (0 : Int) ≤ (j : Int) ∧ (j : Int) < (L.length : Int) := by omega
          have hib : (0 : Int) ≤ (i : Int) ∧ (i : Int) < (L.length : Int) := by omega
          obtain ⟨hj0, hj1⟩ := hjb
          obtain ⟨hi0, hi1⟩ := hib
          have HNB : Hid (decide (xi.p ∈ uniq L (j + 1)) = nb) := hnb
          have HXI := Lib.hid hxi
          have hmem : Hid (nb = (hq || (xj.ok && decide (xj.p = xi.p)))) := by
            show _ = _
            rw [← hnb, ← hqq]
            simp only [hmn.out]
            by_cases a1 : xi.p ∈ uniq L j <;> by_cases a2 : xj.ok = true <;> by_cases a3 : xj.p = xi.p <;> simp [a1, a2, a3]
          clear hmn hnb hqq hxi hxj
          -- the four ways
          have way : ∀ r : Bool, r = nb → True := fun _ _ => trivial
          cases hq with
          | true =>
            have hr : Hid (nb = true) := by show _ = _; rw [hmem.out]; rfl
            clear hz f0 f1 f2 f3 f4 f5 g0 g1 g2 g3 g4
            go_wp2_with fail
            refine wp_region_quiet_below (by kernel_rfl) (by kernel_rfl) ?_
            repeat (first | go_big_quiet_step (fail) | quiet_step (fail))
            refine wpQuiet_nil ?_
            intro wq hw'
            obtain ⟨⟨dq, osq⟩, hw''⟩ := hw'
            subst hw''
            have hbE : Below w.heap.size w (grow (redrawn wr dq) osq) := hbz.trans ((below_regrown _ _ _).mono hbz.size)
            go_wp2
            go_roundw
            case rel => exact ⟨j + 1, by go_num, by rw [HNB.out, hr.out], by omega, hbE⟩
            case measure => simp [intOf]; omega
          | false =>
            cases he : eqPre xj.p xi.p with
            | false =>
              have hr : Hid (nb = false) := by
                show _ = _; rw [hmem.out]
                have : xj.p ≠ xi.p := hpn.out (fun h => by rw [he] at h; cases h.1)
                simp [this]
              rw [he] at hz
              clear he f5 f4 g4
              go_wp2_with fail
              refine wp_region_quiet_below (by kernel_rfl) (by kernel_rfl) ?_
              repeat (first | go_big_quiet_step (fail) | quiet_step (fail))
              refine wpQuiet_nil ?_
              intro wq hw'
              obtain ⟨⟨dq, osq⟩, hw''⟩ := hw'
              subst hw''
              have hbE : Below w.heap.size w (grow (redrawn wr dq) osq) := hbz.trans ((below_regrown _ _ _).mono hbz.size)
              go_wp2
              go_roundw
              case rel => exact ⟨j + 1, by go_num, by rw [HNB.out, hr.out], by omega, hbE⟩
              case measure => simp [intOf]; omega
            | true =>
              rw [he] at hz
              by_cases hid : xj.p.id = xi.p.id
              · have hr : Hid (nb = xj.ok) := by
                  show _ = _; rw [hmem.out]
                  have : xj.p = xi.p := hpe.out he hid
                  simp [this]
                have hb2 : ((xj.p.id : Int) == xi.p.id) = true := by simp [hid]
                clear hid he
                obtain ⟨ok, hok⟩ : ∃ ok, xj.ok = ok := ⟨_, rfl⟩
                rw [hok] at hck hr
                clear hok hmem
                cases ok
                all_goals
                  go_wp2_with fail
                  refine wp_region_quiet_below (by kernel_rfl) (by kernel_rfl) ?_
                  repeat (first | go_big_quiet_step (exact calls_regrown hck.out _ _) | quiet_step (exact calls_regrown hck.out _ _))
                  refine wpQuiet_nil ?_
                  intro wq hw'
                  obtain ⟨⟨dq, osq⟩, hw''⟩ := hw'
                  subst hw''
                  have hbE : Below w.heap.size w (grow (redrawn wr dq) osq) := hbz.trans ((below_regrown _ _ _).mono hbz.size)
                  go_wp2
                  go_roundw
                  case rel => exact ⟨j + 1, by go_num, by rw [HNB.out, hr.out]; rfl, by omega, hbE⟩
                  case measure => simp [intOf]; omega
              · have hr : Hid (nb = false) := by
                  show _ = _; rw [hmem.out]
                  have : xj.p ≠ xi.p := hpn.out (fun h => hid h.2)
                  simp [this]
                have hb2 : ((xj.p.id : Int) == xi.p.id) = false := by simpa using hid
                clear he hid f5
                go_wp2_with fail
                refine wp_region_quiet_below (by kernel_rfl) (by kernel_rfl) ?_
                repeat (first | go_big_quiet_step (fail) | quiet_step (fail))
                refine wpQuiet_nil ?_
                intro wq hw'
                obtain ⟨⟨dq, osq⟩, hw''⟩ := hw'
                subst hw''
                have hbE : Below w.heap.size w (grow (redrawn wr dq) osq) := hbz.trans ((below_regrown _ _ _).mono hbz.size)
                go_wp2
                go_roundw
                case rel => exact ⟨j + 1, by go_num, by rw [HNB.out, hr.out], by omega, hbE⟩
                case measure => simp [intOf]; omega
        · obtain rfl : j = i := by omega
          have hbi : decide ((j : Int) < (j : Int)) = false := by simp
          obtain ⟨g0, g1, g2, g3, g4, g5⟩ := (HAT.out j hlt).keep (hbz.block g hg)
          have hck : Hid (∀ W, Calls Try.prog 19 #[.agg #[.int .i64 (nlAt L j).p.fam, .int .u64 (nlAt L j).p.rd, .string (nlAt L j).p.addr, .int .i64 (nlAt L j).p.len, .int .u32 (nlAt L j).p.id, .int .u32 (nlAt L j).label]] W fun e w' => e = .returned (.int .i64 (errP (nlAt L j).ok)) ∧ Below W.heap.size W w') := fun W => ncheck_any (nlAt L j).p (nlAt L j).label W
          have hul := uniq_len (l := L) j
          have hj0 : (0 : Int) ≤ (j : Int) := by omega
          have hj1 : (j : Int) < (L.length : Int) := by omega
          have hnx : Hid (uniq L (j + 1) = if (nlAt L j).ok = true ∧ (nlAt L j).p ∉ uniq L j then uniq L j ++ [(nlAt L j).p] else uniq L j) := rfl
          obtain ⟨len, hlen⟩ : ∃ len, (uniq L j).length = len := ⟨_, rfl⟩
          obtain ⟨hq, hqq⟩ : ∃ b, decide ((nlAt L j).p ∈ uniq L j) = b := ⟨_, rfl⟩
          have hnl : Hid ((uniq L (j + 1)).length = if (nlAt L j).ok = true ∧ hq = false then len + 1 else len) := by
            show _ = _
            rw [hnx.out, ← hqq, ← hlen]
            by_cases a1 : (nlAt L j).ok = true <;> by_cases a2 : (nlAt L j).p ∈ uniq L j <;> simp [a1, a2]
          rw [hqq, hlen]
          rw [hlen] at hul
          have hw1 : IntKind.i64.wrap ((len : Int) + 1) = ((len + 1 : Nat) : Int) := by simp [IntKind.wrap, IntKind.signed, IntKind.bits]; omega
          obtain ⟨ok, hok⟩ : ∃ ok, (nlAt L j).ok = ok := ⟨_, rfl⟩
          rw [hok] at hck hnl
          clear hqq hlen hnx hbel hok
          generalize nlAt L j = x at *
          cases hq with
          | true =>
            have hr : Hid ((uniq L (j + 1)).length = len) := by show _ = _; rw [hnl.out]; simp
            clear hw1
            go_wp2_with fail
            go_roundw
            case rel => exact ⟨j + 1, by go_num, by rw [hr.out], by omega, hbz⟩
            case measure => simp [intOf]; omega
          | false =>
            cases ok with
            | true =>
              have hr : Hid ((uniq L (j + 1)).length = len + 1) := by show _ = _; rw [hnl.out]; simp
              go_wp2_with fail
              refine (hck.out _).mono ?_
              rintro e w2 ⟨rfl, hb2⟩
              have hbE : Below w.heap.size w w2 := hbz.trans (hb2.mono hbz.size)
              clear hb2
              go_wp2_with fail
              go_roundw
              case rel => exact ⟨j + 1, by go_num, by rw [hr.out]; first | rfl | exact congrArg _ hw1 | simp [hw1], by omega, hbE⟩
              case measure => simp [intOf]; omega
            | false =>
              have hr : Hid ((uniq L (j + 1)).length = len) := by show _ = _; rw [hnl.out]; simp
              clear hw1
              go_wp2_with fail
              refine (hck.out _).mono ?_
              rintro e w2 ⟨rfl, hb2⟩
              have hbE : Below w.heap.size w w2 := hbz.trans (hb2.mono hbz.size)
              clear hb2
              go_wp2_with fail
              go_roundw
              case rel => exact ⟨j + 1, by go_num, by rw [hr.out], by omega, hbE⟩
              case measure => simp [intOf]; omega
    · obtain rfl : i = L.length := by omega
      go_wp2
      go_ret
      exact ⟨rfl, hbel⟩
end Go.Proofs.Ytcljkcgccahlcaa
