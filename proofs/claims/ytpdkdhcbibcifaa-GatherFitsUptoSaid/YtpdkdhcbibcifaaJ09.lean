/-
  J09: GrArgs, RgPlan, RgAt, joined.
-/
import Derived.Test.YtpdkdhcbibcifaaJ01
import Derived.Test.YtpdkdhcbibcifaaJ08
import Derived.Test.YtpdkdhcbibcifaaJ03
import Derived.Test.YtpdkdhcbibcifaaJ02
namespace Go.Proofs.Ytpdkdhcbibcifaa
set_option linter.unusedVariables false
set_option linter.unusedSimpArgs false
set_option maxRecDepth 100000
open Go.ChangeShapes Go.WideShapes Go.ChangeAt Go.RowKit
namespace Gr
variable {H : Type} {enc : TypeId × Value → H} {w : World}
theorem bulk_mem : ∀ {l : List (DataW H)} {d : DataW H}, d ∈ l → Rows.uptoBulk d ≤ Rows.uptoBulkAll l
  | x :: r, d, h => by
    simp only [Rows.uptoBulkAll]
    rcases List.mem_cons.1 h with rfl | h
    · omega
    · have := bulk_mem h; omega
theorem upto_str {P : Program} {t : TypeId} {fuel : Nat} {cs : List Value} {d : DataW H} {p : List MemPlace} (ht : P.underlying t = some .string) (h : DataW.trod enc P w 0 (fun _ => true) true fuel t cs = some (d, p)) (hs : Rows.uptoBulk d ≤ 1048576) :
    ∃ l : List UInt8, cs = [.string ⟨l.toArray⟩] ∧ l.length ≤ 1048576 := by
  obtain ⟨s, rfl, hx, _⟩ := DataW.trod_string ht h
  simp only [Prod.mk.injEq] at hx
  obtain ⟨rfl, rfl⟩ := hx
  refine ⟨s.data.toList, rfl, ?_⟩
  simp only [Rows.uptoBulk] at hs
  omega
theorem upto_int {P : Program} {t : TypeId} {fuel : Nat} {cs : List Value} {d : DataW H} {p : List MemPlace} (ht : P.underlying t = some (.int .i64)) (h : DataW.trod enc P w 0 (fun _ => true) true fuel t cs = some (d, p)) :
    ∃ z, cs = [.int .i64 z] := by
  obtain ⟨z, rfl, _, hz⟩ := DataW.trod_int ht h
  exact ⟨z, rfl⟩
theorem upto_bytes {P : Program} {t e : TypeId} {fuel : Nat} {cs : List Value} {d : DataW H} {p : List MemPlace} (ht : P.underlying t = some (.slice e)) (he : P.underlying e = some (.int .u8)) (hc : P.cellsOf e = 1)
    (h : DataW.trod enc P w 0 (fun _ => true) true fuel t cs = some (d, p)) (hs : Rows.uptoBulk d ≤ 1048576) : ∃ a n c l, cs = [.slice a n c] ∧ Bs w a n c l ∧ c ≤ 1048576 := by
  rcases open_ints ht he hc h with ⟨hcs, _⟩ | ⟨x, l, c', zs, hcs, _, hl, hm, hz, hx, hcell, hwz⟩
  · exact ⟨none, 0, 0, [], hcs, ⟨rfl, Nat.le_refl _, by decide, fun j v hj => by simp at hj, fun _ => ⟨rfl, rfl⟩⟩, by omega⟩
  · simp only [if_true] at hz
    simp only [Prod.mk.injEq] at hx
    obtain ⟨rfl, rfl⟩ := hx
    have hreach : c' ≤ 1048576 := by
      simp only [Rows.uptoBulk] at hs
      have h1 := bulk_len (lits (H := H) IntKind.u8 (zs.take l))
      have h2 := bulk_len (lits (H := H) IntKind.u8 (zs.drop l))
      simp only [lits, List.length_map, List.length_take, List.length_drop] at h1 h2
      simp only [lits] at hs
      omega
    refine ⟨some x, l, c', (zs.take l).map toU8, hcs, ⟨by simp; omega, hl, hm, fun j v hj => ⟨x, rfl, ?_⟩, fun h => by cases h⟩, hreach⟩
    simp only [List.map_map, List.getElem?_map, Option.map_eq_some_iff, List.getElem?_take] at hj
    obtain ⟨z, hzj, rfl⟩ := hj
    split at hzj
    · have hjl : j < zs.length := (List.getElem?_eq_some_iff.1 hzj).1
      have hmem : z ∈ zs := List.mem_of_getElem? hzj
      obtain ⟨w0, w1⟩ := wf_u8 (hwz z hmem)
      have := hcell j hjl
      simp only [List.getD, hzj, Option.getD_some] at this
      simp only [Function.comp, u8v_toU8 w0 w1]
      exact this
    · cases hzj
/-- what is known of an entry that was read -/
structure EnOk (w : World) (x : EnS) : Prop where
  dat : Bs w x.2.1 x.2.2.1 x.2.2.2 x.1.data
  cap : x.2.2.2 ≤ 1048576
  name : x.1.name.length ≤ 1048576
  link : x.1.link.length ≤ 1048576
  user : x.1.user.length ≤ 1048576
  group : x.1.group.length ≤ 1048576
theorem upto_entry {fuel : Nat} {cs : List Value} {d : DataW H} {p : List MemPlace} (h : DataW.trod enc Try.prog w 0 (fun _ => true) true fuel 39 cs = some (d, p)) (hs : Rows.uptoBulk d ≤ 1048576) :
    ∃ x : EnS, cs = enCells x ∧ EnOk w x := by
  obtain ⟨ys, n, _, hx, hlen, hyl, hf⟩ := DataW.trod_struct Try.underlying39 h
  simp only [Prod.mk.injEq] at hx
  obtain ⟨rfl, rfl⟩ := hx
  have hc : Try.prog.cellsOf 39 = 11 := by kernel_rfl
  have hcs : Try.prog.cellsOf 9 = 1 := by kernel_rfl
  have hci : Try.prog.cellsOf 3 = 1 := by kernel_rfl
  have hcb : Try.prog.cellsOf 37 = 1 := by kernel_rfl
  have hct : Try.prog.cellsOf 36 = 2 := by kernel_rfl
  rw [hc] at hlen
  have hs' : ∀ y ∈ ys, Rows.uptoBulk y.1 ≤ 1048576 := fun y hy => by
    have h1 := bulk_mem (List.mem_map.2 ⟨y, hy, rfl⟩ : y.1 ∈ ys.map (·.1))
    simp only [Rows.uptoBulk] at hs
    omega
  match cs, hlen, ys, hyl, hf, hs' with
  | [c0, c1, c2, c3, c4, c5, c6, c7, c8, c9, c10], _, [y0, y1, y2, y3, y4, y5, y6, y7, y8, y9], _, hf, hs' =>
    have h0 : DataW.trod enc Try.prog w 0 (fun _ => true) true n 3 [c0] = some y0 := by have := hf 0 _ rfl; simpa [hci] using this
    have h1 : DataW.trod enc Try.prog w 0 (fun _ => true) true n 9 [c1] = some y1 := by have := hf 1 _ rfl; simpa [hcs] using this
    have h2 : DataW.trod enc Try.prog w 0 (fun _ => true) true n 9 [c2] = some y2 := by have := hf 2 _ rfl; simpa [hcs] using this
    have h3 : DataW.trod enc Try.prog w 0 (fun _ => true) true n 3 [c3] = some y3 := by have := hf 3 _ rfl; simpa [hci] using this
    have h4 : DataW.trod enc Try.prog w 0 (fun _ => true) true n 3 [c4] = some y4 := by have := hf 4 _ rfl; simpa [hci] using this
    have h5 : DataW.trod enc Try.prog w 0 (fun _ => true) true n 3 [c5] = some y5 := by have := hf 5 _ rfl; simpa [hci] using this
    have h6 : DataW.trod enc Try.prog w 0 (fun _ => true) true n 9 [c6] = some y6 := by have := hf 6 _ rfl; simpa [hcs] using this
    have h7 : DataW.trod enc Try.prog w 0 (fun _ => true) true n 9 [c7] = some y7 := by have := hf 7 _ rfl; simpa [hcs] using this
    have h8 : DataW.trod enc Try.prog w 0 (fun _ => true) true n 36 [c8, c9] = some y8 := by have := hf 8 _ rfl; simpa [hct] using this
    have h9 : DataW.trod enc Try.prog w 0 (fun _ => true) true n 37 [c10] = some y9 := by have := hf 9 _ rfl; simpa [hcb] using this
    obtain ⟨zs, n', _, hx, _, hzl, hg⟩ := DataW.trod_struct Try.underlying36 h8
    match zs, hzl, hg with
    | [z0, z1], _, hg =>
      have g0 : DataW.trod enc Try.prog w 0 (fun _ => true) true n' 3 [c8] = some z0 := by have := hg 0 _ rfl; simpa [hci] using this
      have g1 : DataW.trod enc Try.prog w 0 (fun _ => true) true n' 3 [c9] = some z1 := by have := hg 1 _ rfl; simpa [hci] using this
      obtain ⟨k, e0⟩ := upto_int Try.underlying3 h0
      obtain ⟨name, e1, l1⟩ := upto_str Try.underlying9 h1 (hs' y1 (by simp))
      obtain ⟨link, e2, l2⟩ := upto_str Try.underlying9 h2 (hs' y2 (by simp))
      obtain ⟨mode, e3⟩ := upto_int Try.underlying3 h3
      obtain ⟨uid, e4⟩ := upto_int Try.underlying3 h4
      obtain ⟨gid, e5⟩ := upto_int Try.underlying3 h5
      obtain ⟨user, e6, l6⟩ := upto_str Try.underlying9 h6 (hs' y6 (by simp))
      obtain ⟨group, e7, l7⟩ := upto_str Try.underlying9 h7 (hs' y7 (by simp))
      obtain ⟨sec, e8⟩ := upto_int Try.underlying3 g0
      obtain ⟨nano, e9⟩ := upto_int Try.underlying3 g1
      obtain ⟨a, m, c, x, e10, hb, hr⟩ := upto_bytes Try.underlying37 Try.underlying5 (by kernel_rfl) h9 (hs' y9 (by simp))
      simp only [List.cons.injEq, and_true] at e0 e1 e2 e3 e4 e5 e6 e7 e8 e9 e10
      subst e0 e1 e2 e3 e4 e5 e6 e7 e8 e9 e10
      exact ⟨(⟨k, name, link, mode, uid, gid, user, group, sec, nano, x⟩, (a, m, c)), rfl, hb, hr, l1, l2, l6, l7⟩
theorem open_ents {v : Value} {d : DataW H} {p : List MemPlace} {r : Reach} {b0 : Nat} (hv : Value.okWide Try.prog w r b0 25 v) (h : DataW.Trod enc Try.prog w 0 (fun _ => true) true 25 v d p) (hs : Rows.uptoBulk d ≤ 1048576) :
    ∃ (a : Option Addr) (n c : Nat) (S : List EnS), v = .slice a n c ∧ Ens w a n c S ∧ EnsSm 1048576 (S.map (·.1)) := by
  have hc : Try.prog.cellsOf 39 = 11 := by kernel_rfl
  obtain ⟨a, n, c, rfl⟩ := okWide_slice Try.underlying25 hv
  obtain ⟨fuel, hf⟩ := h
  rcases Go.Deep.open_slice Try.underlying25 hf with ⟨hcs, _⟩ | ⟨x, l, c', m, k, D, Pl, hcs, _, hl, hm, hmm, hx, hi⟩
  · simp [Value.cells] at hcs
    obtain ⟨rfl, rfl, rfl⟩ := hcs
    exact ⟨none, 0, 0, [], rfl, ⟨⟨by simp, Nat.le_refl _, by decide, fun j v hj => by simp at hj, fun _ => ⟨rfl, rfl⟩⟩, by simp⟩, ⟨by simp, by simp⟩⟩
  · simp [Value.cells] at hcs
    obtain ⟨rfl, rfl, rfl⟩ := hcs
    simp only [if_true] at hmm
    subst hmm
    simp only [Prod.mk.injEq] at hx
    obtain ⟨rfl, rfl⟩ := hx
    simp only [Rows.uptoBulk] at hs
    have hcnt : n ≤ 1048576 := by
      have h1 := bulk_len ((List.range n).map D)
      simp only [List.length_map, List.length_range] at h1
      omega
    have hel : ∀ i, ∃ y : EnS, i < n → (∀ j v, (enCells y)[j]? = some v → w.cell? ((x.add (i * 11)).add j) = some v) ∧ EnOk w y := by
      intro i
      by_cases hin : i < n
      · obtain ⟨cs, hcell, htr⟩ := hi i (by omega)
        have hsd : Rows.uptoBulk (D i) ≤ 1048576 := by
          have := bulk_mem (List.mem_map.2 ⟨i, List.mem_range.2 hin, rfl⟩ : D i ∈ (List.range n).map D)
          omega
        obtain ⟨y, rfl, hq⟩ := upto_entry htr hsd
        obtain ⟨_, hlen, hat⟩ := World.cells?_some hcell
        rw [hc] at hat hlen
        refine ⟨y, fun _ => ⟨fun j v hj => ?_, hq⟩⟩
        have hjl : j < 11 := by have := (List.getElem?_eq_some_iff.1 hj).1; rw [enCells_len] at this; exact this
        rw [hat j hjl]; exact hj
      · exact ⟨(⟨0, [], [], 0, 0, 0, [], [], 0, 0, []⟩, (none, 0, 0)), fun h => absurd h hin⟩
    obtain ⟨g, hg⟩ := Classical.skolem.1 hel
    have hok : ∀ y ∈ (List.range n).map g, EnOk w y := fun y hy => by
      obtain ⟨i, hi', rfl⟩ := List.mem_map.1 hy
      exact (hg i (List.mem_range.1 hi')).2
    have hen : ∀ e ∈ ((List.range n).map g).map (·.1), ∃ y, EnOk w y ∧ e = y.1 := fun e he => by
      obtain ⟨y, hy, rfl⟩ := List.mem_map.1 he
      exact ⟨y, hok y hy, rfl⟩
    refine ⟨some x, n, m, (List.range n).map g, rfl, ⟨⟨by rw [flat_len enCells_len]; simp, hl, hm, fun j v hj => ⟨x, rfl, ?_⟩, fun h => by cases h⟩, fun y hy => (hok y hy).dat⟩,
      ⟨by simp; omega, fun e he => ?_⟩⟩
    · have hjl : j < n * 11 := by
        have := (List.getElem?_eq_some_iff.1 hj).1
        rw [flat_len enCells_len] at this; simpa using this
      have hq : j / 11 < n := by omega
      have e : j = j / 11 * 11 + j % 11 := by omega
      rw [e] at hj
      rw [flat_at enCells_len _ _ _ (by simpa using hq) (by omega)] at hj
      simp only [List.getElem_map, List.getElem_range] at hj
      have := (hg (j / 11) hq).1 (j % 11) v hj
      rw [Go.Deep.add_add] at this
      rw [e]; exact this
    · obtain ⟨y, hy, rfl⟩ := hen e he
      have h1 := hy.dat.len; have h2 := hy.dat.cap; have h3 := hy.cap
      exact ⟨by omega, hy.name, hy.link⟩
/-- what is known of a line that was read -/
structure LnOk (w : World) (x : LnS) : Prop where
  dat : Bs w x.2.1 x.2.2.1 x.2.2.2 x.1.data
  cap : x.2.2.2 ≤ 1048576
  path : x.1.path.length ≤ 1048576
  targ : x.1.target.length ≤ 1048576
  peer : x.1.peer.length ≤ 1048576
theorem upto_line {fuel : Nat} {cs : List Value} {d : DataW H} {p : List MemPlace} (h : DataW.trod enc Try.prog w 0 (fun _ => true) true fuel 51 cs = some (d, p)) (hs : Rows.uptoBulk d ≤ 1048576) :
    ∃ x : LnS, cs = lnCells x ∧ LnOk w x := by
  obtain ⟨ys, n, _, hx, hlen, hyl, hf⟩ := DataW.trod_struct Try.underlying51 h
  simp only [Prod.mk.injEq] at hx
  obtain ⟨rfl, rfl⟩ := hx
  have hc : Try.prog.cellsOf 51 = 10 := by kernel_rfl
  have hcs : Try.prog.cellsOf 9 = 1 := by kernel_rfl
  have hci : Try.prog.cellsOf 3 = 1 := by kernel_rfl
  have hcb : Try.prog.cellsOf 37 = 1 := by kernel_rfl
  have hct : Try.prog.cellsOf 36 = 2 := by kernel_rfl
  rw [hc] at hlen
  have hs' : ∀ y ∈ ys, Rows.uptoBulk y.1 ≤ 1048576 := fun y hy => by
    have h1 := bulk_mem (List.mem_map.2 ⟨y, hy, rfl⟩ : y.1 ∈ ys.map (·.1))
    simp only [Rows.uptoBulk] at hs
    omega
  match cs, hlen, ys, hyl, hf, hs' with
  | [c0, c1, c2, c3, c4, c5, c6, c7, c8, c9], _, [y0, y1, y2, y3, y4, y5, y6, y7, y8], _, hf, hs' =>
    have h0 : DataW.trod enc Try.prog w 0 (fun _ => true) true n 9 [c0] = some y0 := by have := hf 0 _ rfl; simpa [hcs] using this
    have h1 : DataW.trod enc Try.prog w 0 (fun _ => true) true n 3 [c1] = some y1 := by have := hf 1 _ rfl; simpa [hci] using this
    have h2 : DataW.trod enc Try.prog w 0 (fun _ => true) true n 3 [c2] = some y2 := by have := hf 2 _ rfl; simpa [hci] using this
    have h3 : DataW.trod enc Try.prog w 0 (fun _ => true) true n 3 [c3] = some y3 := by have := hf 3 _ rfl; simpa [hci] using this
    have h4 : DataW.trod enc Try.prog w 0 (fun _ => true) true n 3 [c4] = some y4 := by have := hf 4 _ rfl; simpa [hci] using this
    have h5 : DataW.trod enc Try.prog w 0 (fun _ => true) true n 36 [c5, c6] = some y5 := by have := hf 5 _ rfl; simpa [hct] using this
    have h6 : DataW.trod enc Try.prog w 0 (fun _ => true) true n 37 [c7] = some y6 := by have := hf 6 _ rfl; simpa [hcb] using this
    have h7 : DataW.trod enc Try.prog w 0 (fun _ => true) true n 9 [c8] = some y7 := by have := hf 7 _ rfl; simpa [hcs] using this
    have h8 : DataW.trod enc Try.prog w 0 (fun _ => true) true n 9 [c9] = some y8 := by have := hf 8 _ rfl; simpa [hcs] using this
    obtain ⟨zs, n', _, hx, _, hzl, hg⟩ := DataW.trod_struct Try.underlying36 h5
    match zs, hzl, hg with
    | [z0, z1], _, hg =>
      have g0 : DataW.trod enc Try.prog w 0 (fun _ => true) true n' 3 [c5] = some z0 := by have := hg 0 _ rfl; simpa [hci] using this
      have g1 : DataW.trod enc Try.prog w 0 (fun _ => true) true n' 3 [c6] = some z1 := by have := hg 1 _ rfl; simpa [hci] using this
      obtain ⟨path, e0, l0⟩ := upto_str Try.underlying9 h0 (hs' y0 (by simp))
      obtain ⟨kind, e1⟩ := upto_int Try.underlying3 h1
      obtain ⟨mode, e2⟩ := upto_int Try.underlying3 h2
      obtain ⟨uid, e3⟩ := upto_int Try.underlying3 h3
      obtain ⟨gid, e4⟩ := upto_int Try.underlying3 h4
      obtain ⟨sec, e5⟩ := upto_int Try.underlying3 g0
      obtain ⟨nano, e6⟩ := upto_int Try.underlying3 g1
      obtain ⟨a, m, c, x, e7, hb, hr⟩ := upto_bytes Try.underlying37 Try.underlying5 (by kernel_rfl) h6 (hs' y6 (by simp))
      obtain ⟨target, e8, l8⟩ := upto_str Try.underlying9 h7 (hs' y7 (by simp))
      obtain ⟨peer, e9, l9⟩ := upto_str Try.underlying9 h8 (hs' y8 (by simp))
      simp only [List.cons.injEq, and_true] at e0 e1 e2 e3 e4 e5 e6 e7 e8 e9
      subst e0 e1 e2 e3 e4 e5 e6 e7 e8 e9
      exact ⟨(⟨path, kind, mode, uid, gid, sec, nano, x, target, peer⟩, (a, m, c)), rfl, hb, hr, l0, l8, l9⟩
theorem open_lines {v : Value} {d : DataW H} {p : List MemPlace} {r : Reach} {b0 : Nat} (hv : Value.okWide Try.prog w r b0 22 v) (h : DataW.Trod enc Try.prog w 0 (fun _ => true) true 22 v d p) (hs : Rows.uptoBulk d ≤ 1048576) :
    ∃ (a : Option Addr) (n c : Nat) (S : List LnS), v = .slice a n c ∧ Lns w a n c S ∧ LnsSm 1048576 (S.map (·.1)) := by
  have hc : Try.prog.cellsOf 51 = 10 := by kernel_rfl
  obtain ⟨a, n, c, rfl⟩ := okWide_slice Try.underlying22 hv
  obtain ⟨fuel, hf⟩ := h
  rcases Go.Deep.open_slice Try.underlying22 hf with ⟨hcs, _⟩ | ⟨x, l, c', m, k, D, Pl, hcs, _, hl, hm, hmm, hx, hi⟩
  · simp [Value.cells] at hcs
    obtain ⟨rfl, rfl, rfl⟩ := hcs
    exact ⟨none, 0, 0, [], rfl, ⟨⟨by simp, Nat.le_refl _, by decide, fun j v hj => by simp at hj, fun _ => ⟨rfl, rfl⟩⟩, by simp⟩, ⟨by simp, by simp⟩⟩
  · simp [Value.cells] at hcs
    obtain ⟨rfl, rfl, rfl⟩ := hcs
    simp only [if_true] at hmm
    subst hmm
    simp only [Prod.mk.injEq] at hx
    obtain ⟨rfl, rfl⟩ := hx
    simp only [Rows.uptoBulk] at hs
    have hcnt : n ≤ 1048576 := by
      have h1 := bulk_len ((List.range n).map D)
      simp only [List.length_map, List.length_range] at h1
      omega
    have hel : ∀ i, ∃ y : LnS, i < n → (∀ j v, (lnCells y)[j]? = some v → w.cell? ((x.add (i * 10)).add j) = some v) ∧ LnOk w y := by
      intro i
      by_cases hin : i < n
      · obtain ⟨cs, hcell, htr⟩ := hi i (by omega)
        have hsd : Rows.uptoBulk (D i) ≤ 1048576 := by
          have := bulk_mem (List.mem_map.2 ⟨i, List.mem_range.2 hin, rfl⟩ : D i ∈ (List.range n).map D)
          omega
        obtain ⟨y, rfl, hq⟩ := upto_line htr hsd
        obtain ⟨_, hlen, hat⟩ := World.cells?_some hcell
        rw [hc] at hat hlen
        refine ⟨y, fun _ => ⟨fun j v hj => ?_, hq⟩⟩
        have hjl : j < 10 := by have := (List.getElem?_eq_some_iff.1 hj).1; rw [lnCells_len] at this; exact this
        rw [hat j hjl]; exact hj
      · exact ⟨(⟨[], 0, 0, 0, 0, 0, 0, [], [], []⟩, (none, 0, 0)), fun h => absurd h hin⟩
    obtain ⟨g, hg⟩ := Classical.skolem.1 hel
    have hok : ∀ y ∈ (List.range n).map g, LnOk w y := fun y hy => by
      obtain ⟨i, hi', rfl⟩ := List.mem_map.1 hy
      exact (hg i (List.mem_range.1 hi')).2
    have hen : ∀ e ∈ ((List.range n).map g).map (·.1), ∃ y, LnOk w y ∧ e = y.1 := fun e he => by
      obtain ⟨y, hy, rfl⟩ := List.mem_map.1 he
      exact ⟨y, hok y hy, rfl⟩
    refine ⟨some x, n, m, (List.range n).map g, rfl, ⟨⟨by rw [flat_len lnCells_len]; simp, hl, hm, fun j v hj => ⟨x, rfl, ?_⟩, fun h => by cases h⟩, fun y hy => (hok y hy).dat⟩,
      ⟨by simp; omega, fun e he => ?_⟩⟩
    · have hjl : j < n * 10 := by
        have := (List.getElem?_eq_some_iff.1 hj).1
        rw [flat_len lnCells_len] at this; simpa using this
      have hq : j / 10 < n := by omega
      have e : j = j / 10 * 10 + j % 10 := by omega
      rw [e] at hj
      rw [flat_at lnCells_len _ _ _ (by simpa using hq) (by omega)] at hj
      simp only [List.getElem_map, List.getElem_range] at hj
      have := (hg (j / 10) hq).1 (j % 10) v hj
      rw [Go.Deep.add_add] at this
      rw [e]; exact this
    · obtain ⟨y, hy, rfl⟩ := hen e he
      have h1 := hy.dat.len; have h2 := hy.dat.cap; have h3 := hy.cap
      exact ⟨by omega, hy.path, hy.peer, hy.targ⟩
end Gr
end Go.Proofs.Ytpdkdhcbibcifaa
namespace Go.Proofs.Ytpdkdhcbibcifaa
set_option linter.unusedVariables false
set_option linter.unusedSimpArgs false
namespace Gr
theorem nameOf_len (l : Ln) : (nameOf l).length ≤ l.path.length := by unfold nameOf; split <;> simp
/-- what holds between two lines -/
structure PlR (LS : List Ln) (k : Nat) (pi : List (Bt × Int)) (g : List Nd) : Prop where
  eq : plant true [] [] LS = plant true pi g (LS.drop k)
  len : pi.length = k
  val : ∀ q ∈ pi, 1 ≤ q.2 ∧ q.2 ≤ g.length
  gl : g.length ≤ k
  ids : ∀ x ∈ g, 1 ≤ x.id ∧ x.id ≤ k
  ents : ∀ x ∈ g, x.ents.length ≤ k ∧ ∀ e ∈ x.ents, 1 ≤ e.2 ∧ e.2 ≤ k
  non : 0 < k → g ≠ []
  dat : ∀ x ∈ g, (∃ l ∈ LS, x.data = l.data ∧ x.target = l.target) ∧ ∀ e ∈ x.ents, ∃ l ∈ LS, e.1.length ≤ l.path.length
  path : pi.map (·.1) = (LS.take k).map (·.path)
theorem PlR.nil (LS : List Ln) : PlR LS 0 [] [] := ⟨by simp, rfl, by simp, by simp, by simp, by simp, by simp, by simp, by simp⟩
section
variable {LS : List Ln} {k : Nat} {pi : List (Bt × Int)} {g : List Nd} {l : Ln}
theorem PlR.idOf (h : PlR LS k pi g) : 0 ≤ idOf pi g l ∧ Gr.idOf pi g l ≤ k + 1 ∧ Gr.idOf pi g l ≤ (nodes1 g l).length := by
  unfold Gr.idOf nodes1
  have hg := h.gl
  split
  · simp; omega
  · have := lookup_val h.val l.peer
    omega
theorem PlR.parOf (h : PlR LS k pi g) (hk : 0 < k) : 0 ≤ parOf true pi l ∧ Gr.parOf true pi l ≤ g.length := by
  unfold Gr.parOf
  split
  · have := h.non hk
    have := List.length_pos_iff.2 this
    omega
  · rename_i c _
    simp only [if_true]
    unfold lastOf
    exact lookup_val (fun q hq => h.val q (List.mem_of_mem_drop (List.mem_reverse.1 hq))) _
/-- the planting is refused at this line -/
theorem PlR.bad (h : PlR LS k pi g) (hl : LS[k]? = some l) (hb : Gr.idOf pi g l = 0 ∨ (0 < k ∧ Gr.parOf true pi l = 0)) : ¬ Planted true LS := by
  rintro ⟨G, hG, _⟩
  rw [h.eq, drop_get hl] at hG
  rw [plant_cons] at hG
  rcases hb with hb | ⟨hk, hb⟩
  · rw [if_pos (Or.inr hb)] at hG; cases hG
  · have hpi : ¬ pi = [] := by intro e; have := h.len; rw [e] at this; simp at this; omega
    rw [if_neg hpi, if_pos hb] at hG
    split at hG <;> cases hG
theorem nodes1_factsR (h : PlR LS k pi g) : (∀ x ∈ nodes1 g l, 1 ≤ x.id ∧ x.id ≤ (k : Int) + 1) ∧ ∀ x ∈ nodes1 g l, x.ents.length ≤ k ∧ ∀ e ∈ x.ents, 1 ≤ e.2 ∧ e.2 ≤ (k : Int) + 1 := by
  have hg := h.gl
  unfold nodes1
  constructor
  · intro x hx
    split at hx
    · rcases List.mem_append.1 hx with hx | hx
      · have := h.ids x hx; omega
      · rw [List.mem_singleton] at hx; subst hx; simp [mkNode]; omega
    · have := h.ids x hx; omega
  · intro x hx
    split at hx
    · rcases List.mem_append.1 hx with hx | hx
      · have := h.ents x hx; exact ⟨this.1, fun e he => by have := this.2 e he; omega⟩
      · rw [List.mem_singleton] at hx; subst hx; simp [mkNode]
    · have := h.ents x hx; exact ⟨this.1, fun e he => by have := this.2 e he; omega⟩
theorem nodes1_datR (h : PlR LS k pi g) (hl : LS[k]? = some l) : ∀ x ∈ nodes1 g l, (∃ m ∈ LS, x.data = m.data ∧ x.target = m.target) ∧ ∀ e ∈ x.ents, ∃ m ∈ LS, e.1.length ≤ m.path.length := by
  unfold nodes1
  intro x hx
  split at hx
  · rcases List.mem_append.1 hx with hx | hx
    · exact h.dat x hx
    · rw [List.mem_singleton] at hx; subst hx; exact ⟨⟨l, mem_get hl, rfl, rfl⟩, by simp [mkNode]⟩
  · exact h.dat x hx
theorem PlR.first (h : PlR LS k pi g) (hl : LS[k]? = some l) (h2 : Gr.idOf pi g l ≠ 0) (hk : k = 0) : PlR LS (k + 1) (pi ++ [(l.path, Gr.idOf pi g l)]) (nodes1 g l) := by
  have hpi : pi = [] := List.eq_nil_of_length_eq_zero (by rw [h.len, hk])
  have hid := h.idOf (l := l)
  have hg := h.gl
  have hn := nodes1_len g l
  obtain ⟨f1, f2⟩ := nodes1_factsR (l := l) h
  refine ⟨?_, by simp [h.len], ?_, by omega, ?_, ?_, ?_, ?_, by rw [List.map_append, h.path]; obtain ⟨h8, h9⟩ := List.getElem?_eq_some_iff.1 hl; rw [List.take_succ_eq_append_getElem h8, List.map_append, h9]; rfl⟩
  · rw [h.eq, drop_get hl]
    rw [plant_cons, if_neg (by rintro (⟨h3, _⟩ | h3); cases h3; exact h2 h3), if_pos hpi]
  · intro q hq
    rcases List.mem_append.1 hq with hq | hq
    · have := h.val q hq; omega
    · rw [List.mem_singleton] at hq; subst hq; simp only; omega
  · intro x hx; have := f1 x hx; push_cast; exact this
  · intro x hx; have := f2 x hx; push_cast; exact ⟨by omega, this.2⟩
  · intro _ e
    have : (nodes1 g l).length = 0 := by rw [e]; rfl
    omega
  · exact nodes1_datR h hl
theorem PlR.step (h : PlR LS k pi g) (hl : LS[k]? = some l) (h2 : Gr.idOf pi g l ≠ 0) (hk : 0 < k) (h3 : Gr.parOf true pi l ≠ 0) :
    PlR LS (k + 1) (pi ++ [(l.path, Gr.idOf pi g l)]) (addEnt (nodes1 g l) ((Gr.parOf true pi l).toNat - 1) (nameOf l, Gr.idOf pi g l)) := by
  have hpi : ¬ pi = [] := by intro e; have := h.len; rw [e] at this; simp at this; omega
  have hid := h.idOf (l := l)
  have hg := h.gl
  have hn := nodes1_len g l
  obtain ⟨f1, f2⟩ := nodes1_factsR (l := l) h
  have hlen := addEnt_len (nodes1 g l) ((Gr.parOf true pi l).toNat - 1) (nameOf l, Gr.idOf pi g l)
  refine ⟨?_, by simp [h.len], ?_, by omega, ?_, ?_, ?_, ?_, by rw [List.map_append, h.path]; obtain ⟨h8, h9⟩ := List.getElem?_eq_some_iff.1 hl; rw [List.take_succ_eq_append_getElem h8, List.map_append, h9]; rfl⟩
  · rw [h.eq, drop_get hl]
    rw [plant_cons, if_neg (by rintro (⟨h4, _⟩ | h4); cases h4; exact h2 h4), if_neg hpi, if_neg h3]
  · intro q hq
    rcases List.mem_append.1 hq with hq | hq
    · have := h.val q hq; omega
    · rw [List.mem_singleton] at hq; subst hq; simp only; omega
  · intro x hx
    obtain ⟨y, hy, rfl | rfl⟩ := mem_addEnt hx
    · have := f1 x hy; push_cast; exact this
    · have := f1 y hy; push_cast; exact this
  · intro x hx
    obtain ⟨y, hy, rfl | rfl⟩ := mem_addEnt hx
    · have := f2 x hy; push_cast; exact ⟨by omega, this.2⟩
    · have := f2 y hy
      refine ⟨by simp; omega, fun e he => ?_⟩
      rcases List.mem_append.1 he with he | he
      · have := this.2 e he; push_cast; exact this
      · rw [List.mem_singleton] at he; subst he; simp only; push_cast; omega
  · intro _ e
    have : (addEnt (nodes1 g l) ((Gr.parOf true pi l).toNat - 1) (nameOf l, Gr.idOf pi g l)).length = 0 := by rw [e]; rfl
    omega
  · intro x hx
    obtain ⟨y, hy, rfl | rfl⟩ := mem_addEnt hx
    · exact nodes1_datR h hl x hy
    · obtain ⟨d1, d2⟩ := nodes1_datR h hl y hy
      refine ⟨d1, fun e he => ?_⟩
      rcases List.mem_append.1 he with he | he
      · exact d2 e he
      · rw [List.mem_singleton] at he; subst he; exact ⟨l, mem_get hl, nameOf_len l⟩
/-- all lines are planted -/
theorem PlR.done (h : PlR LS LS.length pi g) : Planted true LS ↔ TreeOk g 1 LS := by
  have he := h.eq
  rw [List.drop_length] at he
  have h2 : plant true pi g [] = some g := rfl
  rw [h2] at he
  constructor
  · rintro ⟨G, hG, ht⟩
    rw [he] at hG; cases hG; exact ht
  · intro ht; exact ⟨g, he, ht⟩
end
end Gr
end Go.Proofs.Ytpdkdhcbibcifaa
namespace Go.Proofs.Ytpdkdhcbibcifaa
set_option linter.unusedVariables false
set_option linter.unusedSimpArgs false
open Go.ChangeShapes Go.WideShapes Go.ChangeAt Go.RowKit
namespace Gr
/-- the place of the node with an id; -1: none -/
def atOf (g : List Nd) (id : Int) : Int := match g.findIdx? (fun n => n.id == id) with | some k => (k : Int) | none => -1
theorem atOf_none {g : List Nd} {id : Int} (h : ∀ n ∈ g, n.id ≠ id) : atOf g id = -1 := by
  unfold atOf
  have : g.findIdx? (fun n => n.id == id) = none := by
    rw [List.findIdx?_eq_none_iff]
    intro x hx
    have := h x hx
    simpa using this
  rw [this]
def Inc (g : List Nd) : Prop := g.Pairwise fun a b => a.id < b.id
theorem inc_lt {g : List Nd} (h : Inc g) {i j : Nat} (hi : i < g.length) (hj : j < g.length) (hij : i < j) : g[i].id < g[j].id := List.pairwise_iff_getElem.1 h i j hi hj hij
theorem atOf_some {g : List Nd} (hI : Inc g) {k : Nat} {x : Nd} (hx : g[k]? = some x) : atOf g x.id = k := by
  obtain ⟨hk, rfl⟩ := List.getElem?_eq_some_iff.1 hx
  unfold atOf
  have : g.findIdx? (fun n => n.id == (g[k]).id) = some k := by
    rw [List.findIdx?_eq_some_iff_getElem]
    refine ⟨hk, by simp, fun j hj => ?_⟩
    have := inc_lt hI (Nat.lt_trans hj hk) hk hj
    simp only [Bool.not_eq_true, beq_eq_false_iff_ne, ne_eq]
    omega
  rw [this]
theorem atOf_node {g : List Nd} {id : Int} : nodeOf g id = if atOf g id < 0 then none else g[(atOf g id).toNat]? := by
  unfold atOf nodeOf
  cases hf : g.findIdx? (fun n => n.id == id) with
  | none =>
    simp only
    rw [if_pos (by decide), List.find?_eq_none]
    rw [List.findIdx?_eq_none_iff] at hf
    intro x hx
    simpa using hf x hx
  | some k =>
    simp only
    rw [if_neg (by omega)]
    obtain ⟨hk, h2, h3⟩ := List.findIdx?_eq_some_iff_getElem.1 hf
    simp only [Int.toNat_natCast]
    rw [List.getElem?_eq_getElem hk]
    exact List.find?_eq_some_iff_getElem.2 ⟨h2, k, hk, rfl, fun j hj => by simpa using h3 j hj⟩
theorem incS {S : List NdS} (h : Inc (S.map (·.1))) {i j : Nat} {x y : NdS} (hx : S[i]? = some x) (hy : S[j]? = some y) (hij : i < j) : x.1.id < y.1.id := by
  obtain ⟨hi, rfl⟩ := List.getElem?_eq_some_iff.1 hx
  obtain ⟨hj, rfl⟩ := List.getElem?_eq_some_iff.1 hy
  have := inc_lt h (i := i) (j := j) (by simpa using hi) (by simpa using hj) hij
  simpa using this
theorem mapGet {S : List NdS} {i : Nat} {x : NdS} (hx : S[i]? = some x) : (S.map (·.1))[i]? = some x.1 := by rw [List.getElem?_map, hx]; rfl
theorem ret_num {x y : Int} (h : x = y) : Ending.returned (.int .i64 x) = .returned (.int .i64 y) := by rw [h]
set_option maxRecDepth 100000 in
set_option maxHeartbeats 4000000 in
theorem At_any (a : Option Addr) (n c : Nat) (S : List NdS) (id : Int) (w : World) (hS : Nds w a n c S) (hI : Inc (S.map (·.1))) :
    Calls Try.prog 55 #[.agg #[.slice a n c], .int .i64 id] w fun r w' => r = .returned (.int .i64 (atOf (S.map (·.1)) id)) ∧ Below w.heap.size w w' := by
  have hn := hS.len; have hc := hS.cap; have hm := hS.max
  have hb1 : Below w.heap.size w (w.alloc (.cells #[.slice a n c] 43)) := (Below.refl _ _).alloc (Nat.le_refl _) _
  have HB1 := Lib.hid hb1
  have HS := Lib.hid (hS.below hb1)
  have HI := Lib.hid hI
  have HN := Lib.hid hn
  clear hb1 hS hI hn
  generalize hr : atOf (S.map (·.1)) id = r
  have HR := Lib.hid hr; clear hr
  go_enter Try.func55, Try.ntmps55
  go_wp2
  go_loopw [5, 6] (fun lo hi wr => ∃ l h : Nat, l ≤ h ∧ h ≤ n ∧ lo = .int .i64 l ∧ hi = .int .i64 h ∧ Hid (∀ j x, j < l → S[j]? = some x → x.1.id < id) ∧ Hid (∀ j x, h ≤ j → S[j]? = some x → id ≤ x.1.id) ∧ wr = w.alloc (.cells #[.slice a n c] 43)) (fun lo hi _ => (intOf hi).toNat - (intOf lo).toNat)
  case atStart => exact ⟨0, n, Nat.zero_le _, Nat.le_refl _, rfl, rfl, Lib.hid (fun j x hj => absurd hj (by omega)), Lib.hid (fun j x hj hx => by have := (List.getElem?_eq_some_iff.1 hx).1; have := HN.out; omega), rfl⟩
  case round =>
    obtain ⟨l, h, hlh, hhn, rfl, rfl, hlo, hhi, rfl⟩ := hrel
    by_cases hlt : l < h
    · have hq : ((h : Int) - l).tdiv 2 = ((h - l) / 2 : Nat) := by
        rw [Int.tdiv_eq_ediv_of_nonneg (by omega)]; omega
      have hml : l + (h - l) / 2 < h := by omega
      have hlm : l ≤ l + (h - l) / 2 := by omega
      obtain ⟨x, hx⟩ := get_some (S := S) (k := l + (h - l) / 2) (by have := HN.out; omega)
      obtain ⟨b, off, rfl, hrow⟩ := HS.out.at _ x hx
      have c0 := range_cell hrow 0 rfl
      simp only [Nat.add_zero] at c0
      have HX := Lib.hid hx
      clear hx hrow
      by_cases hid : x.1.id < id
      · have HID := Lib.hid hid
        go_wp2
        exact ⟨⟨l + (h - l) / 2 + 1, h, by omega, hhn, by go_num, rfl, Lib.hid (fun j y hj hy => by
          rcases Nat.lt_or_ge j (l + (h - l) / 2) with h1 | h1
          · have := incS HI.out hy HX.out h1; have := HID.out; omega
          · have : j = l + (h - l) / 2 := by omega
            subst this
            have h2 := HX.out; rw [hy] at h2; cases h2; exact HID.out), hhi, trivial⟩, by simp [intOf]; omega⟩
      · have HID := Lib.hid hid
        go_wp2
        exact ⟨⟨l, l + (h - l) / 2, hlm, by omega, rfl, by go_num, hlo, Lib.hid (fun j y hj hy => by
          rcases Nat.lt_or_ge (l + (h - l) / 2) j with h1 | h1
          · have := incS HI.out HX.out hy h1; have := HID.out; omega
          · have : j = l + (h - l) / 2 := by omega
            subst this
            have h2 := HX.out; rw [hy] at h2; cases h2; have := HID.out; omega), trivial⟩, by simp [intOf]; omega⟩
    · obtain rfl : l = h := by omega
      by_cases hln : l < n
      · obtain ⟨x, hx⟩ := get_some (S := S) (k := l) (by have := HN.out; omega)
        obtain ⟨b, off, rfl, hrow⟩ := HS.out.at _ x hx
        have c0 := range_cell hrow 0 rfl
        simp only [Nat.add_zero] at c0
        have HX := Lib.hid hx
        clear hx hrow
        by_cases hid : x.1.id = id
        · have HID := Lib.hid hid
          go_wp2
          go_ret
          refine ⟨?_, HB1.out⟩
          refine ret_num ?_
          rw [← HR.out, ← HID.out, atOf_some HI.out (mapGet HX.out)]
        · have HID := Lib.hid hid
          go_wp2
          go_ret
          refine ⟨?_, HB1.out⟩
          refine ret_num ?_
          rw [← HR.out, atOf_none]
          intro y hy
          obtain ⟨z, hz, rfl⟩ := List.mem_map.1 hy
          obtain ⟨j, hj⟩ := List.mem_iff_getElem?.1 hz
          rcases Nat.lt_trichotomy j l with h1 | h1 | h1
          · have := hlo.out j z h1 hj; omega
          · subst h1; have h2 := HX.out; rw [hj] at h2; cases h2; exact HID.out
          · have h2 := hhi.out l x (Nat.le_refl _) HX.out
            have := incS HI.out HX.out hj h1
            omega
      · obtain rfl : l = n := by omega
        go_wp2
        go_ret
        refine ⟨?_, HB1.out⟩
        refine ret_num ?_
        rw [← HR.out, atOf_none]
        intro y hy
        obtain ⟨z, hz, rfl⟩ := List.mem_map.1 hy
        obtain ⟨j, hj⟩ := List.mem_iff_getElem?.1 hz
        have hjn : j < l := by have := (List.getElem?_eq_some_iff.1 hj).1; have := HN.out; omega
        have := hlo.out j z hjn hj
        omega
end Gr
end Go.Proofs.Ytpdkdhcbibcifaa
