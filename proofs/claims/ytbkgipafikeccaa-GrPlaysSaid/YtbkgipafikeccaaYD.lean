/- Steps that came in. -/
import Derived.Test.YtbkgipafikeccaaY
import Derived.Test.YtbkgipafikeccaaOA
namespace Go.Proofs.Ytbkgipafikeccaa
open Go.ChangeShapes Go.WideShapes Go.ChangeAt Go.RowKit Go.Deep Go.Joins
set_option linter.unusedVariables false

section
variable {H : Type} {enc : TypeId × Value → H} {w : World} {base : Nat} {held : Bool}
theorem all_cells {cs : Array Value} {n : Nat} (hs : cs.size = n) (h : ∀ i, i < n → ∃ v, cs[i]? = some v ∧ v.oneCell' = true) : cs.all (·.oneCell') = true := by
  rw [Array.all_eq_true]
  intro i hi
  obtain ⟨v, hv, ho⟩ := h i (by omega)
  rw [Array.getElem?_eq_getElem hi] at hv
  injection hv with e
  rw [e]; exact ho

theorem ses_of_cells {cs : Array Value} {fuel : Nat} {x : DataW H × List MemPlace} (hsz : cs.size = 10) (hf : DataW.trod enc Try.prog w base (fun _ => true) held fuel 30 cs.toList = some x) :
    ∃ F K gr time, Ses w cs F K gr time := by
  have hone : oneCellFields Try.prog _ = true := (by kernel_rfl : oneCellFields Try.prog (match Try.prog.underlying 30 with | some (.struct fs) => fs | _ => #[]) = true)
  rw [Try.underlying30] at hone
  obtain ⟨n, hg⟩ := trod_fields Try.underlying30 hone (by rw [Array.length_toList]; exact hsz) hf
  obtain ⟨v0, y0, e0, t0⟩ := hg 0 _ rfl
  obtain ⟨v1, y1, e1, t1⟩ := hg 1 _ rfl
  obtain ⟨v2, y2, e2, t2⟩ := hg 2 _ rfl
  obtain ⟨v3, y3, e3, t3⟩ := hg 3 _ rfl
  obtain ⟨v4, y4, e4, t4⟩ := hg 4 _ rfl
  obtain ⟨v5, y5, e5, t5⟩ := hg 5 _ rfl
  obtain ⟨v6, y6, e6, t6⟩ := hg 6 _ rfl
  obtain ⟨v7, y7, e7, t7⟩ := hg 7 _ rfl
  obtain ⟨v8, y8, e8, t8⟩ := hg 8 _ rfl
  obtain ⟨v9, y9, e9, t9⟩ := hg 9 _ rfl
  obtain ⟨z0, c0, _, _⟩ := DataW.trod_int Try.underlying3 t0
  obtain ⟨z2, c2, _⟩ := DataW.trod_bool Try.underlying4 t2
  obtain ⟨z3, c3, _⟩ := DataW.trod_bool Try.underlying4 t3
  obtain ⟨a4, l4, p4, c4⟩ := slice_form Try.underlying27 t4
  obtain ⟨a5, l5, p5, c5⟩ := slice_form Try.underlying27 t5
  obtain ⟨z6, c6, _⟩ := DataW.trod_bool Try.underlying4 t6
  obtain ⟨z7, c7, _⟩ := DataW.trod_bool Try.underlying4 t7
  obtain ⟨z8, c8, _, w8⟩ := DataW.trod_int Try.underlying3 t8
  obtain ⟨F, hF⟩ := rd_of_trod t1
  obtain ⟨K, hK⟩ := rdK_of_trod t9
  obtain ⟨a1, l1, p1, c1⟩ := slice_form Try.underlying27 t1
  obtain ⟨a9, l9, p9, c9⟩ := slice_form Try.underlying28 t9
  simp at c0 c1 c2 c3 c4 c5 c6 c7 c8 c9
  subst c0 c1 c2 c3 c4 c5 c6 c7 c8 c9
  have b8 := bounds_i64 w8
  simp only [Array.getElem?_toList] at e0 e1 e2 e3 e4 e5 e6 e7 e8 e9
  refine ⟨F, K, z6, z8, hsz, all_cells hsz ?_, ⟨_, e1, hF⟩, e6, e8, ⟨_, e9, hK⟩, b8.1, b8.2⟩
  intro i hi
  match i, hi with
  | 0, _ => exact ⟨_, e0, rfl⟩
  | 1, _ => exact ⟨_, e1, rfl⟩
  | 2, _ => exact ⟨_, e2, rfl⟩
  | 3, _ => exact ⟨_, e3, rfl⟩
  | 4, _ => exact ⟨_, e4, rfl⟩
  | 5, _ => exact ⟨_, e5, rfl⟩
  | 6, _ => exact ⟨_, e6, rfl⟩
  | 7, _ => exact ⟨_, e7, rfl⟩
  | 8, _ => exact ⟨_, e8, rfl⟩
  | 9, _ => exact ⟨_, e9, rfl⟩

theorem one_of_take {l : List Value} {k : Nat} {v : Value} (h : (l.drop k).take 1 = [v]) : l[k]? = some v := by
  have := congrArg (fun m => m[0]?) h
  simpa using this

theorem do_of_cells {d : Array Value} {fuel : Nat} {x : DataW H × List MemPlace} (hsz : d.size = 14) (hf : DataW.trod enc Try.prog w base (fun _ => true) held fuel 33 d.toList = some x) :
    ∃ kind c F K gr time has fam now, DoR w d kind c F K gr time has fam now := by
  obtain ⟨xs, n, _, _, _, hlen, hg⟩ := DataW.trod_struct Try.underlying33 hf
  have f0 : DataW.trod enc Try.prog w base (fun _ => true) held n 3 ((d.toList.drop 0).take (Try.prog.cellsOf 3)) = xs[0]? := hg 0 _ rfl
  have f1 : DataW.trod enc Try.prog w base (fun _ => true) held n 30 ((d.toList.drop 1).take (Try.prog.cellsOf 30)) = xs[1]? := hg 1 _ rfl
  have f2 : DataW.trod enc Try.prog w base (fun _ => true) held n 4 ((d.toList.drop 11).take (Try.prog.cellsOf 4)) = xs[2]? := hg 2 _ rfl
  have f3 : DataW.trod enc Try.prog w base (fun _ => true) held n 3 ((d.toList.drop 12).take (Try.prog.cellsOf 3)) = xs[3]? := hg 3 _ rfl
  have f4 : DataW.trod enc Try.prog w base (fun _ => true) held n 31 ((d.toList.drop 13).take (Try.prog.cellsOf 31)) = xs[4]? := hg 4 _ rfl
  have c1 : Try.prog.cellsOf 3 = 1 := by kernel_rfl
  have c2 : Try.prog.cellsOf 4 = 1 := by kernel_rfl
  have c3 : Try.prog.cellsOf 31 = 1 := by kernel_rfl
  have c4 : Try.prog.cellsOf 30 = 10 := by kernel_rfl
  rw [c1] at f0 f3
  rw [c2] at f2
  rw [c3] at f4
  rw [c4] at f1
  have hl5 : xs.length = 5 := hlen
  rw [List.getElem?_eq_getElem (by omega)] at f0 f1 f2 f3 f4
  obtain ⟨z0, e0, _, _⟩ := DataW.trod_int Try.underlying3 f0
  obtain ⟨z2, e2, _⟩ := DataW.trod_bool Try.underlying4 f2
  obtain ⟨z3, e3, _, w3⟩ := DataW.trod_int Try.underlying3 f3
  obtain ⟨z4, e4, _, w4⟩ := DataW.trod_int Try.underlying31 f4
  have b3 := bounds_i64 w3
  have b4 := bounds_u64 w4
  have q0 : d[0]? = some (.int .i64 z0) := by simpa using one_of_take e0
  have q2 : d[11]? = some (.bool z2) := by simpa using one_of_take e2
  have q3 : d[12]? = some (.int .i64 z3) := by simpa using one_of_take e3
  have q4 : d[13]? = some (.int .u64 z4) := by simpa using one_of_take e4
  have hx : (d.extract 1 11).toList = (d.toList.drop 1).take 10 := by simp
  have hxs : (d.extract 1 11).size = 10 := by simp; omega
  obtain ⟨F, K, gr, time, hs⟩ := ses_of_cells (cs := d.extract 1 11) hxs (by rw [hx]; exact f1)
  refine ⟨z0, d.extract 1 11, F, K, gr, time, z2, z3, z4, hsz, all_cells hsz ?_, q0, rfl, hs, q2, q3, q4, by omega, by omega, b3.1, b3.2⟩
  intro i hi
  by_cases h0 : i = 0
  · subst h0; exact ⟨_, q0, rfl⟩
  · by_cases h11 : i < 11
    · have ho := hs.one
      rw [Array.all_eq_true] at ho
      have hi' : i - 1 < (d.extract 1 11).size := by omega
      have := ho (i - 1) hi'
      refine ⟨(d.extract 1 11)[i - 1], ?_, this⟩
      rw [Array.getElem_extract]
      have e : 1 + (i - 1) = i := by omega
      simp only [e]
      exact Array.getElem?_eq_getElem (by omega)
    · match i, hi, h11 with
      | 11, _, _ => exact ⟨_, q2, rfl⟩
      | 12, _, _ => exact ⟨_, q3, rfl⟩
      | 13, _, _ => exact ⟨_, q4, rfl⟩
      | (k + 14), h, _ => omega

/-- A slice of steps that came in. -/
theorem steps_of_trod {fuel : Nat} {v : Value} {x : DataW H × List MemPlace} (h : DataW.trod enc Try.prog w base (fun _ => true) held fuel 22 [v] = some x) :
    ∃ ao bl off len cap, v = .slice ao len cap ∧ len ≤ 9223372036854775807 ∧ (0 < len → ao = some ⟨bl, off, none⟩ ∧ bl < w.heap.size) ∧ Steps w bl off len := by
  rcases open_slice Try.underlying22 h with ⟨hcs, _⟩ | ⟨a, len, cap, m, n, D, Pl, hcs, hb, hl, hm, hmm, hx, hi⟩
  · simp at hcs; subst hcs
    exact ⟨none, 0, 0, 0, 0, rfl, by omega, fun h => by omega, fun i hi => by omega⟩
  · simp at hcs; subst hcs
    simp at hmm
    have hmx : len ≤ 9223372036854775807 := by have := hm; unfold maxLen at this; omega
    rcases Nat.eq_zero_or_pos len with h0 | hpos
    · subst h0
      exact ⟨some a, 0, 0, 0, cap, rfl, hmx, fun h => by omega, fun i hi => by omega⟩
    · have h14 : Try.prog.cellsOf 33 = 14 := by kernel_rfl
      have hat : ∀ i, i < len → ∃ d kind c F K gr time has fam now, (d.size = 14 ∧ ∀ j, j < 14 → w.cell? ((a.add (i * 14)).add j) = d[j]?) ∧ DoR w d kind c F K gr time has fam now := by
        intro i hlt
        obtain ⟨cs', hc, ht'⟩ := hi i (by omega)
        obtain ⟨_, hcl, hcat⟩ := World.cells?_some hc
        rw [h14] at hcl hcat
        obtain ⟨kind, c, F, K, gr, time, has, fam, now, hd⟩ := do_of_cells (d := cs'.toArray) (by simpa using hcl) (by simpa using ht')
        exact ⟨cs'.toArray, kind, c, F, K, gr, time, has, fam, now, ⟨by simpa using hcl, fun j hj => by rw [hcat j hj]; simp⟩, hd⟩
      have hsp : a.spot = none := by
        obtain ⟨d, kind, c, F, K, gr, time, has, fam, now, ⟨hsz, hc⟩, hd⟩ := hat 0 hpos
        have h0 := hc 0 (by omega)
        rw [hd.kind_] at h0
        have := cell_spot h0
        rw [Nat.zero_mul] at this
        exact spot_add (spot_add this)
      obtain ⟨g, off, sp⟩ := a
      simp at hsp; subst hsp
      refine ⟨_, g, off, len, cap, rfl, hmx, fun _ => ⟨rfl, ?_⟩, fun i hlt => ?_⟩
      · obtain ⟨d, kind, c, F, K, gr, time, has, fam, now, ⟨hsz, hc⟩, hd⟩ := hat 0 hpos
        have h0 := hc 0 (by omega)
        rw [hd.kind_] at h0
        have := World.block_lt_of_cell? _ _ h0
        simpa [Addr.add] using this
      · obtain ⟨d, kind, c, F, K, gr, time, has, fam, now, ⟨hsz, hc⟩, hd⟩ := hat i hlt
        refine ⟨d, kind, c, F, K, gr, time, has, fam, now, ?_, hd⟩
        intro j v hv
        rw [Array.getElem?_toList] at hv
        have hj : j < 14 := by rw [← hsz]; exact (Array.getElem?_eq_some_iff.1 hv).1
        have := hc j hj
        rw [Addr.add_lit, Addr.add_lit, hv] at this
        simpa using this
end
end Go.Proofs.Ytbkgipafikeccaa
