/- Prefixes as values: equality; Size, apart, labelled. -/
import Derived.Test.YtcljkcgccahlcaaTK
import Derived.ChangeKeysEq
namespace Go.Proofs.Ytcljkcgccahlcaa
open Go.RowKit
set_option linter.unusedVariables false

theorem ba_beq (a b : ByteArray) : (a == b) = decide (a = b) := by
  rw [beq_toListBytes, ByteArray.toList_eq, ByteArray.toList_eq]
  obtain ⟨⟨x⟩⟩ := a
  obtain ⟨⟨y⟩⟩ := b
  by_cases h : x = y
  · subst h; simp
  · simp [h]
def eqPre (p q : Pl) : Bool := p.fam == q.fam && (p.rd == q.rd && (p.addr.toList == q.addr.toList && p.len == q.len))
theorem eqPre_iff (p q : Pl) : eqPre p q = true ↔ p.fam = q.fam ∧ p.rd = q.rd ∧ p.addr = q.addr ∧ p.len = q.len := by
  unfold eqPre
  rw [← beq_toListBytes, ba_beq]
  simp

theorem fieldsOf_of {P : Program} {t : TypeId} {fs : Array Field} (h : P.underlying t = some (.struct fs)) : P.fieldsOf t = fs := by unfold Program.fieldsOf; rw [h]

theorem run_equalIn_pre (p q : Pl) (d : Nat) (w : World) : (Op.equalIn (d + 2) 38 (.agg #[.int .i64 p.fam, .int .u64 p.rd, .string p.addr, .int .i64 p.len]) (.agg #[.int .i64 q.fam, .int .u64 q.rd, .string q.addr, .int .i64 q.len])).run Try.prog w = .ok (eqPre p q) w := by
  have hf := fieldsOf_of Try.underlying38
  rw [run_equalIn_struct w (d + 1) 38 _ _ (by rw [hf]; exact Try.underlying38) (by kernel_rfl), hf]
  have p3 : Try.prog.plainKey 3 = true := by simp [Program.plainKey, Try.underlying3]
  have p36 : Try.prog.plainKey 36 = true := by simp [Program.plainKey, Try.underlying36]
  have p9 : Try.prog.plainKey 9 = true := by simp [Program.plainKey, Try.underlying9]
  simp only [Op.eqFields]
  unfold eqPre
  cases h1 : p.fam == q.fam <;> cases h2 : p.rd == q.rd <;> cases h3 : p.addr.toList == q.addr.toList <;> cases h4 : p.len == q.len <;>
    simp [run_part_plain _ p3 (v := .int .i64 p.fam), run_part_plain _ p3 (v := .int .i64 q.fam), run_part_plain _ p36 (v := .int .u64 p.rd), run_part_plain _ p36 (v := .int .u64 q.rd), run_part_plain _ p9 (v := .string p.addr), run_part_plain _ p9 (v := .string q.addr), run_part_plain _ p3 (v := .int .i64 p.len), run_part_plain _ p3 (v := .int .i64 q.len), run_equalIn_int _ _ _ _ _ _ _ Try.underlying3, run_equalIn_int _ _ _ _ _ _ _ Try.underlying36, run_equalIn_string _ _ _ _ _ Try.underlying9, h1, h2, h3, h4, Result.andThen]
theorem run_eql_pre (p q : Pl) (w : World) : (binOp .eql 38 (.agg #[.int .i64 p.fam, .int .u64 p.rd, .string p.addr, .int .i64 p.len]) (.agg #[.int .i64 q.fam, .int .u64 q.rd, .string q.addr, .int .i64 q.len])).run Try.prog w = .ok (.bool (eqPre p q)) w := by
  simp only [binOp]
  simp [Op.equal, Op.maxDepth, run_equalIn_pre p q 9998 w]
theorem run_neq_pre (p q : Pl) (w : World) : (binOp .neq 38 (.agg #[.int .i64 p.fam, .int .u64 p.rd, .string p.addr, .int .i64 p.len]) (.agg #[.int .i64 q.fam, .int .u64 q.rd, .string q.addr, .int .i64 q.len])).run Try.prog w = .ok (.bool (!eqPre p q)) w := by
  simp only [binOp]
  simp [Op.equal, Op.maxDepth, run_equalIn_pre p q 9998 w]

def sizeP (fam : Int) : Nat := if fam = 1 ∨ fam = 3 ∨ fam = 4 then 4 else if fam = 2 ∨ fam = 5 then 16 else 0
def apartP (fam : Int) : Bool := decide (fam = 4 ∨ fam = 5)
def labB (fam : Int) : Bool := decide (3 ≤ fam ∧ fam ≤ 5)
theorem fam_cases (n : Int) : n = 1 ∨ n = 2 ∨ n = 3 ∨ n = 4 ∨ n = 5 ∨ (n ≠ 1 ∧ n ≠ 2 ∧ n ≠ 3 ∧ n ≠ 4 ∧ n ≠ 5) := by omega

theorem size_any (n : Int) (w : World) : Calls Try.prog 62 #[.int .i64 n] w fun e w' => e = .returned (.int .i64 (sizeP n)) ∧ w = w' := by
  rcases fam_cases n with rfl | rfl | rfl | rfl | rfl | ⟨h1, h2, h3, h4, h5⟩
  all_goals try
    go_enter Try.func62, Try.ntmps62
    go_wp2
    go_ret
    exact ⟨rfl, rfl⟩
  have e1 : ((n : Int) == 1) = false := by simpa using h1
  have e2 : ((n : Int) == 2) = false := by simpa using h2
  have e3 : ((n : Int) == 3) = false := by simpa using h3
  have e4 : ((n : Int) == 4) = false := by simpa using h4
  have e5 : ((n : Int) == 5) = false := by simpa using h5
  have hs : Hid (sizeP n = 0) := by show _ = _; simp [sizeP, h1, h2, h3, h4, h5]
  clear h1 h2 h3 h4 h5
  go_enter Try.func62, Try.ntmps62
  go_wp2
  go_ret
  exact ⟨by rw [hs.out]; rfl, rfl⟩
theorem apart_any (n : Int) (w : World) : Calls Try.prog 63 #[.int .i64 n] w fun e w' => e = .returned (.bool (apartP n)) ∧ w = w' := by
  by_cases h4 : n = 4
  · subst h4
    go_enter Try.func63, Try.ntmps63
    go_wp2
    go_ret
    exact ⟨rfl, rfl⟩
  · by_cases h5 : n = 5
    · subst h5
      go_enter Try.func63, Try.ntmps63
      go_wp2
      go_ret
      exact ⟨rfl, rfl⟩
    · have e4 : ((n : Int) == 4) = false := by simpa using h4
      have e5 : ((n : Int) == 5) = false := by simpa using h5
      have hs : Hid (apartP n = false) := by show _ = _; simp [apartP, h4, h5]
      clear h4 h5
      go_enter Try.func63, Try.ntmps63
      go_wp2
      go_ret
      exact ⟨by rw [hs.out]; rfl, rfl⟩
theorem lab_any (n : Int) (w : World) : Calls Try.prog 41 #[.int .i64 n] w fun e w' => e = .returned (.bool (labB n)) ∧ w = w' := by
  by_cases h1 : 3 ≤ n
  · by_cases h2 : n ≤ 5
    · have hs : Hid (labB n = true) := by show _ = _; simp [labB, h1, h2]
      go_enter Try.func41, Try.ntmps41
      go_wp2
      go_ret
      exact ⟨by rw [hs.out]; rfl, rfl⟩
    · have hs : Hid (labB n = false) := by show _ = _; simp [labB, h2]
      have hd : decide (n ≤ 5) = false := by simpa using h2
      go_enter Try.func41, Try.ntmps41
      go_wp2
      go_ret
      exact ⟨by rw [hs.out]; rfl, rfl⟩
  · have hs : Hid (labB n = false) := by show _ = _; simp [labB, h1]
    have hd : decide (3 ≤ n) = false := by simpa using h1
    go_enter Try.func41, Try.ntmps41
    go_wp2
    go_ret
    exact ⟨by rw [hs.out]; rfl, rfl⟩
end Go.Proofs.Ytcljkcgccahlcaa
