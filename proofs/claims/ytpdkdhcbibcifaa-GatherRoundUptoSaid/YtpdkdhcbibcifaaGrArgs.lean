/-
  GrArgs: arguments that are slices of lines, of entries, under the second form's bound.
-/
import Derived.Test.YtpdkdhcbibcifaaArgsUpto
import Derived.Test.YtpdkdhcbibcifaaGrRoundW
namespace Go.Proofs.Ytpdkdhcbibcifaa
set_option linter.unusedVariables false
set_option linter.unusedSimpArgs false
set_option maxRecDepth 100000
open Go.ChangeShapes Go.WideShapes Go.ChangeAt Go.RowKit
namespace Gr
variable {H : Type} {enc : TypeId × Value → H} {w : World}
theorem bulk_mem : ∀ {l : List (DataW H)} {d : DataW H}, d ∈ l → Rows.uptoBulk d ≤ Rows.uptoBulkAll l
  | x :: r, d, h => by
    simp only [Rows.uptoBulkAll]
    rcases List.mem_cons.1 h with rfl | h
    · omega
    · have := bulk_mem h; omega
theorem upto_str {P : Program} {t : TypeId} {fuel : Nat} {cs : List Value} {d : DataW H} {p : List MemPlace} (ht : P.underlying t = some .string) (h : DataW.trod enc P w 0 (fun _ => true) true fuel t cs = some (d, p)) (hs : Rows.uptoBulk d ≤ 1048576) :
    ∃ l : List UInt8, cs = [.string ⟨l.toArray⟩] ∧ l.length ≤ 1048576 := by
  obtain ⟨s, rfl, hx, _⟩ := DataW.trod_string ht h
  simp only [Prod.mk.injEq] at hx
  obtain ⟨rfl, rfl⟩ := hx
  refine ⟨s.data.toList, rfl, ?_⟩
  simp only [Rows.uptoBulk] at hs
  omega
theorem upto_int {P : Program} {t : TypeId} {fuel : Nat} {cs : List Value} {d : DataW H} {p : List MemPlace} (ht : P.underlying t = some (.int .i64)) (h : DataW.trod enc P w 0 (fun _ => true) true fuel t cs = some (d, p)) :
    ∃ z, cs = [.int .i64 z] := by
  obtain ⟨z, rfl, _, hz⟩ := DataW.trod_int ht h
  exact ⟨z, rfl⟩
theorem upto_bytes {P : Program} {t e : TypeId} {fuel : Nat} {cs : List Value} {d : DataW H} {p : List MemPlace} (ht : P.underlying t = some (.slice e)) (he : P.underlying e = some (.int .u8)) (hc : P.cellsOf e = 1)
    (h : DataW.trod enc P w 0 (fun _ => true) true fuel t cs = some (d, p)) (hs : Rows.uptoBulk d ≤ 1048576) : ∃ a n c l, cs = [.slice a n c] ∧ Bs w a n c l ∧ c ≤ 1048576 := by
  rcases open_ints ht he hc h with ⟨hcs, _⟩ | ⟨x, l, c', zs, hcs, _, hl, hm, hz, hx, hcell, hwz⟩
  · exact ⟨none, 0, 0, [], hcs, ⟨rfl, Nat.le_refl _, by decide, fun j v hj => by simp at hj, fun _ => ⟨rfl, rfl⟩⟩, by omega⟩
  · simp only [if_true] at hz
    simp only [Prod.mk.injEq] at hx
    obtain ⟨rfl, rfl⟩ := hx
    have hreach : c' ≤ 1048576 := by
      simp only [Rows.uptoBulk] at hs
      have h1 := bulk_len (lits (H := H) IntKind.u8 (zs.take l))
      have h2 := bulk_len (lits (H := H) IntKind.u8 (zs.drop l))
      simp only [lits, List.length_map, List.length_take, List.length_drop] at h1 h2
      simp only [lits] at hs
      omega
    refine ⟨some x, l, c', (zs.take l).map toU8, hcs, ⟨by simp; omega, hl, hm, fun j v hj => ⟨x, rfl, ?_⟩, fun h => by cases h⟩, hreach⟩
    simp only [List.map_map, List.getElem?_map, Option.map_eq_some_iff, List.getElem?_take] at hj
    obtain ⟨z, hzj, rfl⟩ := hj
    split at hzj
    · have hjl : j < zs.length := (List.getElem?_eq_some_iff.1 hzj).1
      have hmem : z ∈ zs := List.mem_of_getElem? hzj
      obtain ⟨w0, w1⟩ := wf_u8 (hwz z hmem)
      have := hcell j hjl
      simp only [List.getD, hzj, Option.getD_some] at this
      simp only [Function.comp, u8v_toU8 w0 w1]
      exact this
    · cases hzj
/-- what is known of an entry that was read -/
structure EnOk (w : World) (x : EnS) : Prop where
  dat : Bs w x.2.1 x.2.2.1 x.2.2.2 x.1.data
  cap : x.2.2.2 ≤ 1048576
  name : x.1.name.length ≤ 1048576
  link : x.1.link.length ≤ 1048576
  user : x.1.user.length ≤ 1048576
  group : x.1.group.length ≤ 1048576
theorem upto_entry {fuel : Nat} {cs : List Value} {d : DataW H} {p : List MemPlace} (h : DataW.trod enc Try.prog w 0 (fun _ => true) true fuel 39 cs = some (d, p)) (hs : Rows.uptoBulk d ≤ 1048576) :
    ∃ x : EnS, cs = enCells x ∧ EnOk w x := by
  obtain ⟨ys, n, _, hx, hlen, hyl, hf⟩ := DataW.trod_struct Try.underlying39 h
  simp only [Prod.mk.injEq] at hx
  obtain ⟨rfl, rfl⟩ := hx
  have hc : Try.prog.cellsOf 39 = 11 := by kernel_rfl
  have hcs : Try.prog.cellsOf 9 = 1 := by kernel_rfl
  have hci : Try.prog.cellsOf 3 = 1 := by kernel_rfl
  have hcb : Try.prog.cellsOf 37 = 1 := by kernel_rfl
  have hct : Try.prog.cellsOf 36 = 2 := by kernel_rfl
  rw [hc] at hlen
  have hs' : ∀ y ∈ ys, Rows.uptoBulk y.1 ≤ 1048576 := fun y hy => by
    have h1 := bulk_mem (List.mem_map.2 ⟨y, hy, rfl⟩ : y.1 ∈ ys.map (·.1))
    simp only [Rows.uptoBulk] at hs
    omega
  match cs, hlen, ys, hyl, hf, hs' with
  | [c0, c1, c2, c3, c4, c5, c6, c7, c8, c9, c10], _, [y0, y1, y2, y3, y4, y5, y6, y7, y8, y9], _, hf, hs' =>
    have h0 : DataW.trod enc Try.prog w 0 (fun _ => true) true n 3 [c0] = some y0 := by have := hf 0 _ rfl; simpa [hci] using this
    have h1 : DataW.trod enc Try.prog w 0 (fun _ => true) true n 9 [c1] = some y1 := by have := hf 1 _ rfl; simpa [hcs] using this
    have h2 : DataW.trod enc Try.prog w 0 (fun _ => true) true n 9 [c2] = some y2 := by have := hf 2 _ rfl; simpa [hcs] using this
    have h3 : DataW.trod enc Try.prog w 0 (fun _ => true) true n 3 [c3] = some y3 := by have := hf 3 _ rfl; simpa [hci] using this
    have h4 : DataW.trod enc Try.prog w 0 (fun _ => true) true n 3 [c4] = some y4 := by have := hf 4 _ rfl; simpa [hci] using this
    have h5 : DataW.trod enc Try.prog w 0 (fun _ => true) true n 3 [c5] = some y5 := by have := hf 5 _ rfl; simpa [hci] using this
    have h6 : DataW.trod enc Try.prog w 0 (fun _ => true) true n 9 [c6] = some y6 := by have := hf 6 _ rfl; simpa [hcs] using this
    have h7 : DataW.trod enc Try.prog w 0 (fun _ => true) true n 9 [c7] = some y7 := by have := hf 7 _ rfl; simpa [hcs] using this
    have h8 : DataW.trod enc Try.prog w 0 (fun _ => true) true n 36 [c8, c9] = some y8 := by have := hf 8 _ rfl; simpa [hct] using this
    have h9 : DataW.trod enc Try.prog w 0 (fun _ => true) true n 37 [c10] = some y9 := by have := hf 9 _ rfl; simpa [hcb] using this
    obtain ⟨zs, n', _, hx, _, hzl, hg⟩ := DataW.trod_struct Try.underlying36 h8
    match zs, hzl, hg with
    | [z0, z1], _, hg =>
      have g0 : DataW.trod enc Try.prog w 0 (fun _ => true) true n' 3 [c8] = some z0 := by have := hg 0 _ rfl; simpa [hci] using this
      have g1 : DataW.trod enc Try.prog w 0 (fun _ => true) true n' 3 [c9] = some z1 := by have := hg 1 _ rfl; simpa [hci] using this
      obtain ⟨k, e0⟩ := upto_int Try.underlying3 h0
      obtain ⟨name, e1, l1⟩ := upto_str Try.underlying9 h1 (hs' y1 (by simp))
      obtain ⟨link, e2, l2⟩ := upto_str Try.underlying9 h2 (hs' y2 (by simp))
      obtain ⟨mode, e3⟩ := upto_int Try.underlying3 h3
      obtain ⟨uid, e4⟩ := upto_int Try.underlying3 h4
      obtain ⟨gid, e5⟩ := upto_int Try.underlying3 h5
      obtain ⟨user, e6, l6⟩ := upto_str Try.underlying9 h6 (hs' y6 (by simp))
      obtain ⟨group, e7, l7⟩ := upto_str Try.underlying9 h7 (hs' y7 (by simp))
      obtain ⟨sec, e8⟩ := upto_int Try.underlying3 g0
      obtain ⟨nano, e9⟩ := upto_int Try.underlying3 g1
      obtain ⟨a, m, c, x, e10, hb, hr⟩ := upto_bytes Try.underlying37 Try.underlying5 (by kernel_rfl) h9 (hs' y9 (by simp))
      simp only [List.cons.injEq, and_true] at e0 e1 e2 e3 e4 e5 e6 e7 e8 e9 e10
      subst e0 e1 e2 e3 e4 e5 e6 e7 e8 e9 e10
      exact ⟨(⟨k, name, link, mode, uid, gid, user, group, sec, nano, x⟩, (a, m, c)), rfl, hb, hr, l1, l2, l6, l7⟩
theorem open_ents {v : Value} {d : DataW H} {p : List MemPlace} {r : Reach} {b0 : Nat} (hv : Value.okWide Try.prog w r b0 25 v) (h : DataW.Trod enc Try.prog w 0 (fun _ => true) true 25 v d p) (hs : Rows.uptoBulk d ≤ 1048576) :
    ∃ (a : Option Addr) (n c : Nat) (S : List EnS), v = .slice a n c ∧ Ens w a n c S ∧ EnsSm 1048576 (S.map (·.1)) := by
  have hc : Try.prog.cellsOf 39 = 11 := by kernel_rfl
  obtain ⟨a, n, c, rfl⟩ := okWide_slice Try.underlying25 hv
  obtain ⟨fuel, hf⟩ := h
  rcases Go.Deep.open_slice Try.underlying25 hf with ⟨hcs, _⟩ | ⟨x, l, c', m, k, D, Pl, hcs, _, hl, hm, hmm, hx, hi⟩
  · simp [Value.cells] at hcs
    obtain ⟨rfl, rfl, rfl⟩ := hcs
    exact ⟨none, 0, 0, [], rfl, ⟨⟨by simp, Nat.le_refl _, by decide, fun j v hj => by simp at hj, fun _ => ⟨rfl, rfl⟩⟩, by simp⟩, ⟨by simp, by simp⟩⟩
  · simp [Value.cells] at hcs
    obtain ⟨rfl, rfl, rfl⟩ := hcs
    simp only [if_true] at hmm
    subst hmm
    simp only [Prod.mk.injEq] at hx
    obtain ⟨rfl, rfl⟩ := hx
    simp only [Rows.uptoBulk] at hs
    have hcnt : n ≤ 1048576 := by
      have h1 := bulk_len ((List.range n).map D)
      simp only [List.length_map, List.length_range] at h1
      omega
    have hel : ∀ i, ∃ y : EnS, i < n → (∀ j v, (enCells y)[j]? = some v → w.cell? ((x.add (i * 11)).add j) = some v) ∧ EnOk w y := by
      intro i
      by_cases hin : i < n
      · obtain ⟨cs, hcell, htr⟩ := hi i (by omega)
        have hsd : Rows.uptoBulk (D i) ≤ 1048576 := by
          have := bulk_mem (List.mem_map.2 ⟨i, List.mem_range.2 hin, rfl⟩ : D i ∈ (List.range n).map D)
          omega
        obtain ⟨y, rfl, hq⟩ := upto_entry htr hsd
        obtain ⟨_, hlen, hat⟩ := World.cells?_some hcell
        rw [hc] at hat hlen
        refine ⟨y, fun _ => ⟨fun j v hj => ?_, hq⟩⟩
        have hjl : j < 11 := by have := (List.getElem?_eq_some_iff.1 hj).1; rw [enCells_len] at this; exact this
        rw [hat j hjl]; exact hj
      · exact ⟨(⟨0, [], [], 0, 0, 0, [], [], 0, 0, []⟩, (none, 0, 0)), fun h => absurd h hin⟩
    obtain ⟨g, hg⟩ := Classical.skolem.1 hel
    have hok : ∀ y ∈ (List.range n).map g, EnOk w y := fun y hy => by
      obtain ⟨i, hi', rfl⟩ := List.mem_map.1 hy
      exact (hg i (List.mem_range.1 hi')).2
    have hen : ∀ e ∈ ((List.range n).map g).map (·.1), ∃ y, EnOk w y ∧ e = y.1 := fun e he => by
      obtain ⟨y, hy, rfl⟩ := List.mem_map.1 he
      exact ⟨y, hok y hy, rfl⟩
    refine ⟨some x, n, m, (List.range n).map g, rfl, ⟨⟨by rw [flat_len enCells_len]; simp, hl, hm, fun j v hj => ⟨x, rfl, ?_⟩, fun h => by cases h⟩, fun y hy => (hok y hy).dat⟩,
      ⟨by simp; omega, fun e he => ?_⟩⟩
    · have hjl : j < n * 11 := by
        have := (List.getElem?_eq_some_iff.1 hj).1
        rw [flat_len enCells_len] at this; simpa using this
      have hq : j / 11 < n := by omega
      have e : j = j / 11 * 11 + j % 11 := by omega
      rw [e] at hj
      rw [flat_at enCells_len _ _ _ (by simpa using hq) (by omega)] at hj
      simp only [List.getElem_map, List.getElem_range] at hj
      have := (hg (j / 11) hq).1 (j % 11) v hj
      rw [Go.Deep.add_add] at this
      rw [e]; exact this
    · obtain ⟨y, hy, rfl⟩ := hen e he
      have h1 := hy.dat.len; have h2 := hy.dat.cap; have h3 := hy.cap
      exact ⟨by omega, hy.name, hy.link⟩
/-- what is known of a line that was read -/
structure LnOk (w : World) (x : LnS) : Prop where
  dat : Bs w x.2.1 x.2.2.1 x.2.2.2 x.1.data
  cap : x.2.2.2 ≤ 1048576
  path : x.1.path.length ≤ 1048576
  targ : x.1.target.length ≤ 1048576
  peer : x.1.peer.length ≤ 1048576
theorem upto_line {fuel : Nat} {cs : List Value} {d : DataW H} {p : List MemPlace} (h : DataW.trod enc Try.prog w 0 (fun _ => true) true fuel 51 cs = some (d, p)) (hs : Rows.uptoBulk d ≤ 1048576) :
    ∃ x : LnS, cs = lnCells x ∧ LnOk w x := by
  obtain ⟨ys, n, _, hx, hlen, hyl, hf⟩ := DataW.trod_struct Try.underlying51 h
  simp only [Prod.mk.injEq] at hx
  obtain ⟨rfl, rfl⟩ := hx
  have hc : Try.prog.cellsOf 51 = 10 := by kernel_rfl
  have hcs : Try.prog.cellsOf 9 = 1 := by kernel_rfl
  have hci : Try.prog.cellsOf 3 = 1 := by kernel_rfl
  have hcb : Try.prog.cellsOf 37 = 1 := by kernel_rfl
  have hct : Try.prog.cellsOf 36 = 2 := by kernel_rfl
  rw [hc] at hlen
  have hs' : ∀ y ∈ ys, Rows.uptoBulk y.1 ≤ 1048576 := fun y hy => by
    have h1 := bulk_mem (List.mem_map.2 ⟨y, hy, rfl⟩ : y.1 ∈ ys.map (·.1))
    simp only [Rows.uptoBulk] at hs
    omega
  match cs, hlen, ys, hyl, hf, hs' with
  | [c0, c1, c2, c3, c4, c5, c6, c7, c8, c9], _, [y0, y1, y2, y3, y4, y5, y6, y7, y8], _, hf, hs' =>
    have h0 : DataW.trod enc Try.prog w 0 (fun _ => true) true n 9 [c0] = some y0 := by have := hf 0 _ rfl; simpa [hcs] using this
    have h1 : DataW.trod enc Try.prog w 0 (fun _ => true) true n 3 [c1] = some y1 := by have := hf 1 _ rfl; simpa [hci] using this
    have h2 : DataW.trod enc Try.prog w 0 (fun _ => true) true n 3 [c2] = some y2 := by have := hf 2 _ rfl; simpa [hci] using this
    have h3 : DataW.trod enc Try.prog w 0 (fun _ => true) true n 3 [c3] = some y3 := by have := hf 3 _ rfl; simpa [hci] using this
    have h4 : DataW.trod enc Try.prog w 0 (fun _ => true) true n 3 [c4] = some y4 := by have := hf 4 _ rfl; simpa [hci] using this
    have h5 : DataW.trod enc Try.prog w 0 (fun _ => true) true n 36 [c5, c6] = some y5 := by have := hf 5 _ rfl; simpa [hct] using this
    have h6 : DataW.trod enc Try.prog w 0 (fun _ => true) true n 37 [c7] = some y6 := by have := hf 6 _ rfl; simpa [hcb] using this
    have h7 : DataW.trod enc Try.prog w 0 (fun _ => true) true n 9 [c8] = some y7 := by have := hf 7 _ rfl; simpa [hcs] using this
    have h8 : DataW.trod enc Try.prog w 0 (fun _ => true) true n 9 [c9] = some y8 := by have := hf 8 _ rfl; simpa [hcs] using this
    obtain ⟨zs, n', _, hx, _, hzl, hg⟩ := DataW.trod_struct Try.underlying36 h5
    match zs, hzl, hg with
    | [z0, z1], _, hg =>
      have g0 : DataW.trod enc Try.prog w 0 (fun _ => true) true n' 3 [c5] = some z0 := by have := hg 0 _ rfl; simpa [hci] using this
      have g1 : DataW.trod enc Try.prog w 0 (fun _ => true) true n' 3 [c6] = some z1 := by have := hg 1 _ rfl; simpa [hci] using this
      obtain ⟨path, e0, l0⟩ := upto_str Try.underlying9 h0 (hs' y0 (by simp))
      obtain ⟨kind, e1⟩ := upto_int Try.underlying3 h1
      obtain ⟨mode, e2⟩ := upto_int Try.underlying3 h2
      obtain ⟨uid, e3⟩ := upto_int Try.underlying3 h3
      obtain ⟨gid, e4⟩ := upto_int Try.underlying3 h4
      obtain ⟨sec, e5⟩ := upto_int Try.underlying3 g0
      obtain ⟨nano, e6⟩ := upto_int Try.underlying3 g1
      obtain ⟨a, m, c, x, e7, hb, hr⟩ := upto_bytes Try.underlying37 Try.underlying5 (by kernel_rfl) h6 (hs' y6 (by simp))
      obtain ⟨target, e8, l8⟩ := upto_str Try.underlying9 h7 (hs' y7 (by simp))
      obtain ⟨peer, e9, l9⟩ := upto_str Try.underlying9 h8 (hs' y8 (by simp))
      simp only [List.cons.injEq, and_true] at e0 e1 e2 e3 e4 e5 e6 e7 e8 e9
      subst e0 e1 e2 e3 e4 e5 e6 e7 e8 e9
      exact ⟨(⟨path, kind, mode, uid, gid, sec, nano, x, target, peer⟩, (a, m, c)), rfl, hb, hr, l0, l8, l9⟩
theorem open_lines {v : Value} {d : DataW H} {p : List MemPlace} {r : Reach} {b0 : Nat} (hv : Value.okWide Try.prog w r b0 22 v) (h : DataW.Trod enc Try.prog w 0 (fun _ => true) true 22 v d p) (hs : Rows.uptoBulk d ≤ 1048576) :
    ∃ (a : Option Addr) (n c : Nat) (S : List LnS), v = .slice a n c ∧ Lns w a n c S ∧ LnsSm 1048576 (S.map (·.1)) := by
  have hc : Try.prog.cellsOf 51 = 10 := by kernel_rfl
  obtain ⟨a, n, c, rfl⟩ := okWide_slice Try.underlying22 hv
  obtain ⟨fuel, hf⟩ := h
  rcases Go.Deep.open_slice Try.underlying22 hf with ⟨hcs, _⟩ | ⟨x, l, c', m, k, D, Pl, hcs, _, hl, hm, hmm, hx, hi⟩
  · simp [Value.cells] at hcs
    obtain ⟨rfl, rfl, rfl⟩ := hcs
    exact ⟨none, 0, 0, [], rfl, ⟨⟨by simp, Nat.le_refl _, by decide, fun j v hj => by simp at hj, fun _ => ⟨rfl, rfl⟩⟩, by simp⟩, ⟨by simp, by simp⟩⟩
  · simp [Value.cells] at hcs
    obtain ⟨rfl, rfl, rfl⟩ := hcs
    simp only [if_true] at hmm
    subst hmm
    simp only [Prod.mk.injEq] at hx
    obtain ⟨rfl, rfl⟩ := hx
    simp only [Rows.uptoBulk] at hs
    have hcnt : n ≤ 1048576 := by
      have h1 := bulk_len ((List.range n).map D)
      simp only [List.length_map, List.length_range] at h1
      omega
    have hel : ∀ i, ∃ y : LnS, i < n → (∀ j v, (lnCells y)[j]? = some v → w.cell? ((x.add (i * 10)).add j) = some v) ∧ LnOk w y := by
      intro i
      by_cases hin : i < n
      · obtain ⟨cs, hcell, htr⟩ := hi i (by omega)
        have hsd : Rows.uptoBulk (D i) ≤ 1048576 := by
          have := bulk_mem (List.mem_map.2 ⟨i, List.mem_range.2 hin, rfl⟩ : D i ∈ (List.range n).map D)
          omega
        obtain ⟨y, rfl, hq⟩ := upto_line htr hsd
        obtain ⟨_, hlen, hat⟩ := World.cells?_some hcell
        rw [hc] at hat hlen
        refine ⟨y, fun _ => ⟨fun j v hj => ?_, hq⟩⟩
        have hjl : j < 10 := by have := (List.getElem?_eq_some_iff.1 hj).1; rw [lnCells_len] at this; exact this
        rw [hat j hjl]; exact hj
      · exact ⟨(⟨[], 0, 0, 0, 0, 0, 0, [], [], []⟩, (none, 0, 0)), fun h => absurd h hin⟩
    obtain ⟨g, hg⟩ := Classical.skolem.1 hel
    have hok : ∀ y ∈ (List.range n).map g, LnOk w y := fun y hy => by
      obtain ⟨i, hi', rfl⟩ := List.mem_map.1 hy
      exact (hg i (List.mem_range.1 hi')).2
    have hen : ∀ e ∈ ((List.range n).map g).map (·.1), ∃ y, LnOk w y ∧ e = y.1 := fun e he => by
      obtain ⟨y, hy, rfl⟩ := List.mem_map.1 he
      exact ⟨y, hok y hy, rfl⟩
    refine ⟨some x, n, m, (List.range n).map g, rfl, ⟨⟨by rw [flat_len lnCells_len]; simp, hl, hm, fun j v hj => ⟨x, rfl, ?_⟩, fun h => by cases h⟩, fun y hy => (hok y hy).dat⟩,
      ⟨by simp; omega, fun e he => ?_⟩⟩
    · have hjl : j < n * 10 := by
        have := (List.getElem?_eq_some_iff.1 hj).1
        rw [flat_len lnCells_len] at this; simpa using this
      have hq : j / 10 < n := by omega
      have e : j = j / 10 * 10 + j % 10 := by omega
      rw [e] at hj
      rw [flat_at lnCells_len _ _ _ (by simpa using hq) (by omega)] at hj
      simp only [List.getElem_map, List.getElem_range] at hj
      have := (hg (j / 10) hq).1 (j % 10) v hj
      rw [Go.Deep.add_add] at this
      rw [e]; exact this
    · obtain ⟨y, hy, rfl⟩ := hen e he
      have h1 := hy.dat.len; have h2 := hy.dat.cap; have h3 := hy.cap
      exact ⟨by omega, hy.path, hy.peer, hy.targ⟩
end Gr
end Go.Proofs.Ytpdkdhcbibcifaa
