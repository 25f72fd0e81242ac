/- adjin: what a place and what is told are in memory; the map of a rib. -/
import Derived.Test.YtcljkcgccahlcaaU
import Derived.Maps.RangeWalk
import Derived.Maps.Ext
import Derived.Maps.OwnSet
import Derived.DeepKeys4
namespace Go.Proofs.Ytcljkcgccahlcaa
open Go.RowKit
set_option linter.unusedVariables false

/-- A place of a rib. -/
structure Pl where
  fam : Int
  rd : Int
  addr : ByteArray
  len : Int
  id : Int

instance : Inhabited Pl := ⟨⟨0, 0, ⟨#[]⟩, 0, 0⟩⟩
noncomputable instance : DecidableEq Pl := fun _ _ => Classical.propDecidable _

def Pl.val (p : Pl) : Array Value := #[.int .i64 p.fam, .int .u64 p.rd, .string p.addr, .int .i64 p.len, .int .u32 p.id]
def Pl.lits (p : Pl) : List Lit := [.int .i64 p.fam, .int .u64 p.rd, .string p.addr.data.toList, .int .i64 p.len, .int .u32 p.id]
def Pl.kl (p : Pl) : Lit := .string (keyBytes p.lits)
structure Pl.Ok (p : Pl) : Prop where
  fam : (Lit.int .i64 p.fam).wf = true
  rd : (Lit.int .u64 p.rd).wf = true
  addr : p.addr.size ≤ maxLen
  len : (Lit.int .i64 p.len).wf = true
  id : (Lit.int .u32 p.id).wf = true

theorem Pl.val_inj {p q : Pl} (h : p.val = q.val) : p = q := by
  obtain ⟨a, b, c, d, e⟩ := p
  obtain ⟨a', b', c', d', e'⟩ := q
  simp [Pl.val] at h
  obtain ⟨rfl, rfl, rfl, rfl, rfl⟩ := h
  rfl

/-! ### the key's type -/
theorem laidOut : laidOutB Try.prog = true := by kernel_rfl
theorem rowPl : (83 : TypeId) < Try.prog.types.size := of_decide_eq_true (by kernel_rfl)
theorem cellsPl : Try.prog.cellsOf 83 = 5 := by kernel_rfl
theorem keyPl : Try.prog.keyType 83 = true := by kernel_rfl
theorem widePl : (match Try.prog.underlying 83 with | some (.array _ _) | some (.struct _) => true | _ => false) = true := by kernel_rfl
theorem keyAt3 : Try.prog.keyTypeAt 3 83 = true := by kernel_rfl
theorem lawPl : Maps.Keyed Try.prog 83 := Maps.Keyed.of_law (deep_law_laid laidOut (m := 3) (by omega) rowPl keyAt3 (by rw [Try.underlying83]))
theorem formedPl {xs : Array Value} (h : xs.size = 5) : (Value.agg xs).formed Try.prog 83 = true := by
  simp [Value.formed, Try.underlying83, cellsPl, h]
theorem formedPl_inv {v : Value} (h : v.formed Try.prog 83 = true) : ∃ xs, v = .agg xs ∧ xs.size = 5 := by
  cases v <;> simp [Value.formed, Try.underlying83, cellsPl] at h
  exact ⟨_, rfl, h⟩
theorem keyOf_eq (v : Value) : keyOf Try.prog 83 v = if (Try.prog.keyType 83 && v.formed Try.prog 83) = true then (Try.prog.keyLits (Try.prog.types.size + 1) 83 v.cells.toList).map fun ls => .string (keyBytes ls) else none := by
  unfold keyOf
  rw [Try.underlying83]
theorem typesSize : Try.prog.types.size = 173 := by kernel_rfl
theorem cells38 : Try.prog.cellsOf 38 = 4 := by kernel_rfl
theorem cells3 : Try.prog.cellsOf 3 = 1 := by kernel_rfl
theorem cells36 : Try.prog.cellsOf 36 = 1 := by kernel_rfl
theorem cells9 : Try.prog.cellsOf 9 = 1 := by kernel_rfl
theorem cells39 : Try.prog.cellsOf 39 = 1 := by kernel_rfl
theorem keyLits_int (n : Nat) (a : Int) (h : (Lit.int .i64 a).wf = true) : Try.prog.keyLits (n + 1) 3 [.int .i64 a] = some [.int .i64 a] := by simp [Program.keyLits, Try.underlying3, h]
theorem keyLits_u64 (n : Nat) (a : Int) (h : (Lit.int .u64 a).wf = true) : Try.prog.keyLits (n + 1) 36 [.int .u64 a] = some [.int .u64 a] := by simp [Program.keyLits, Try.underlying36, h]
theorem keyLits_u32 (n : Nat) (a : Int) (h : (Lit.int .u32 a).wf = true) : Try.prog.keyLits (n + 1) 39 [.int .u32 a] = some [.int .u32 a] := by simp [Program.keyLits, Try.underlying39, h]
theorem keyLits_str (n : Nat) (a : ByteArray) (h : a.size ≤ maxLen) : Try.prog.keyLits (n + 1) 9 [.string a] = some [.string a.data.toList] := by simp [Program.keyLits, Try.underlying9, h]
theorem keyLits_pre (n : Nat) (p : Pl) (h : p.Ok) : Try.prog.keyLits (n + 2) 38 [.int .i64 p.fam, .int .u64 p.rd, .string p.addr, .int .i64 p.len] = some [.int .i64 p.fam, .int .u64 p.rd, .string p.addr.data.toList, .int .i64 p.len] := by
  unfold Program.keyLits
  rw [Try.underlying38]
  show (if _ then _ else _) = _
  rw [if_pos ⟨by rw [cells38]; rfl, by kernel_rfl⟩]
  simp [cells3, cells36, cells9, keyLits_int _ _ h.fam, keyLits_int _ _ h.len, keyLits_u64 _ _ h.rd, keyLits_str _ _ h.addr]
theorem keyLits_pl (n : Nat) (p : Pl) (h : p.Ok) : Try.prog.keyLits (n + 3) 83 p.val.toList = some p.lits := by
  unfold Program.keyLits
  rw [Try.underlying83]
  show (if _ then _ else _) = _
  rw [if_pos ⟨by rw [cellsPl]; rfl, by kernel_rfl⟩]
  simp [Pl.val, Pl.lits, cells38, cells39, keyLits_pre _ _ h, keyLits_u32 _ _ h.id]
theorem key_pl (p : Pl) (h : p.Ok) : keyOf Try.prog 83 (.agg p.val) = some p.kl := by
  rw [keyOf_eq, if_pos (by rw [keyPl, formedPl rfl]; rfl), typesSize]
  rw [show (Value.agg p.val).cells.toList = p.val.toList from rfl, keyLits_pl 171 p h]
  rfl
theorem int_inv {n : Nat} {v : Value} {l : List Lit} (h : Try.prog.keyLits (n + 1) 3 [v] = some l) : ∃ a, v = .int .i64 a ∧ (Lit.int .i64 a).wf = true := by
  cases v <;> simp [Program.keyLits, Try.underlying3] at h
  obtain ⟨⟨rfl, hw⟩, _⟩ := h
  exact ⟨_, rfl, hw⟩
theorem u64_inv {n : Nat} {v : Value} {l : List Lit} (h : Try.prog.keyLits (n + 1) 36 [v] = some l) : ∃ a, v = .int .u64 a ∧ (Lit.int .u64 a).wf = true := by
  cases v <;> simp [Program.keyLits, Try.underlying36] at h
  obtain ⟨⟨rfl, hw⟩, _⟩ := h
  exact ⟨_, rfl, hw⟩
theorem u32_inv {n : Nat} {v : Value} {l : List Lit} (h : Try.prog.keyLits (n + 1) 39 [v] = some l) : ∃ a, v = .int .u32 a ∧ (Lit.int .u32 a).wf = true := by
  cases v <;> simp [Program.keyLits, Try.underlying39] at h
  obtain ⟨⟨rfl, hw⟩, _⟩ := h
  exact ⟨_, rfl, hw⟩
theorem str_inv {n : Nat} {v : Value} {l : List Lit} (h : Try.prog.keyLits (n + 1) 9 [v] = some l) : ∃ s, v = .string s ∧ s.size ≤ maxLen := by
  cases v <;> simp [Program.keyLits, Try.underlying9] at h
  exact ⟨_, rfl, h.1⟩
theorem keyLits_struct {P : Program} {t : TypeId} {fs : Array Field} (hu : P.underlying t = some (.struct fs)) (n : Nat) (cs : List Value) : P.keyLits (n + 1) t cs = if cs.length = P.cellsOf t ∧ fs.all (·.name != "_") = true then (fs.toList.mapM fun f => P.keyLits n f.type ((cs.drop f.offset).take (P.cellsOf f.type))).map List.flatten else none := by
  conv => lhs; unfold Program.keyLits; rw [hu]
theorem five (xs : Array Value) (h : xs.size = 5) : ∃ a b c d e, xs = #[a, b, c, d, e] := by
  obtain ⟨l⟩ := xs
  match l, h with
  | [a, b, c, d, e], _ => exact ⟨a, b, c, d, e, rfl⟩
theorem keyOf_open : ∃ n : Nat, ∀ v, keyOf Try.prog 83 v = if (Try.prog.keyType 83 && v.formed Try.prog 83) = true then (Try.prog.keyLits (n + 3) 83 v.cells.toList).map fun ls => .string (keyBytes ls) else none :=
  ⟨171, fun v => by rw [keyOf_eq, typesSize]⟩
/-- What reads as a key is a place. -/
theorem key_inv {v : Value} {kl : Lit} (h : keyOf Try.prog 83 v = some kl) : ∃ p : Pl, p.Ok ∧ v = .agg p.val ∧ kl = p.kl := by
  have h0 := h
  obtain ⟨n, hn⟩ := keyOf_open
  rw [hn] at h
  clear hn
  split at h
  · rename_i hf
    simp only [Bool.and_eq_true] at hf
    obtain ⟨xs, rfl, hx⟩ := formedPl_inv hf.2
    obtain ⟨a, b, c, d, e, rfl⟩ := five xs hx
    · replace h : (Try.prog.keyLits (n + 3) 83 [a, b, c, d, e]).map _ = _ := h
      obtain ⟨ls, hl, _⟩ := Option.map_eq_some_iff.1 h
      rw [keyLits_struct Try.underlying83] at hl
      rw [if_pos ⟨by rw [cellsPl]; rfl, by kernel_rfl⟩] at hl
      simp [cells38, cells39] at hl
      cases hy1 : Try.prog.keyLits (n + 2) 38 [a, b, c, d] with
      | none => rw [hy1] at hl; cases hl
      | some y1 =>
      cases hy2 : Try.prog.keyLits (n + 2) 39 [e] with
      | none => rw [hy1, hy2] at hl; cases hl
      | some y2 =>
      clear hl
      rw [keyLits_struct Try.underlying38] at hy1
      rw [if_pos ⟨by rw [cells38]; rfl, by kernel_rfl⟩] at hy1
      simp [cells3, cells36, cells9] at hy1
      cases hz1 : Try.prog.keyLits (n + 1) 3 [a] with
      | none => rw [hz1] at hy1; cases hy1
      | some z1 =>
      cases hz2 : Try.prog.keyLits (n + 1) 36 [b] with
      | none => rw [hz1, hz2] at hy1; cases hy1
      | some z2 =>
      cases hz3 : Try.prog.keyLits (n + 1) 9 [c] with
      | none => rw [hz1, hz2, hz3] at hy1; cases hy1
      | some z3 =>
      cases hz4 : Try.prog.keyLits (n + 1) 3 [d] with
      | none => rw [hz1, hz2, hz3, hz4] at hy1; cases hy1
      | some z4 =>
      obtain ⟨a, rfl, ha⟩ := int_inv hz1
      obtain ⟨b, rfl, hb⟩ := u64_inv hz2
      obtain ⟨c, rfl, hc⟩ := str_inv hz3
      obtain ⟨d, rfl, hd⟩ := int_inv hz4
      obtain ⟨e, rfl, he⟩ := u32_inv hy2
      have hok : Pl.Ok ⟨a, b, c, d, e⟩ := ⟨ha, hb, hc, hd, he⟩
      have := key_pl ⟨a, b, c, d, e⟩ hok
      refine ⟨⟨a, b, c, d, e⟩, hok, rfl, ?_⟩
      simp only [Pl.val] at this
      rw [this] at h0
      exact (Option.some.inj h0).symm
  · cases h
theorem kl_inj {p q : Pl} (hp : p.Ok) (hq : q.Ok) (h : p.kl = q.kl) : p = q := by
  have h1 := key_pl p hp
  rw [h] at h1
  have := lawPl.inj h1 (key_pl q hq)
  simp only [Value.agg.injEq] at this
  exact Pl.val_inj this
end Go.Proofs.Ytcljkcgccahlcaa
