/-
  J10: RgChk, RgRow, joined.
-/
import Derived.Test.YtpdkdhcbibcifaaJ09
import Derived.Test.YtpdkdhcbibcifaaJ03
import Derived.Test.YtpdkdhcbibcifaaRgPlain
import Derived.Test.YtpdkdhcbibcifaaJ04
namespace Go.Proofs.Ytpdkdhcbibcifaa
set_option linter.unusedVariables false
set_option linter.unusedSimpArgs false
namespace Gr
theorem nodeOf_some_iff {g : List Nd} {id : Int} : (nodeOf g id).isSome = true ↔ id ∈ g.map (·.id) := by
  unfold nodeOf
  rw [List.find?_isSome, List.mem_map]
  constructor
  · rintro ⟨x, hx, h⟩; exact ⟨x, hx, by simpa using h⟩
  · rintro ⟨x, hx, h⟩; exact ⟨x, hx, by simpa using h⟩
theorem atOf_get {g : List Nd} (hI : Inc g) {id : Int} {t : Nd} (h : nodeOf g id = some t) : ∃ k : Nat, g[k]? = some t ∧ atOf g id = (k : Int) ∧ t.id = id := by
  obtain ⟨hm, rfl⟩ := nodeOf_mem h
  obtain ⟨k, hk⟩ := List.mem_iff_getElem?.1 hm
  exact ⟨k, hk, atOf_some hI hk, rfl⟩
theorem nodeOf_at {g : List Nd} (hI : Inc g) {k : Nat} {x : Nd} (hk : g[k]? = some x) : nodeOf g x.id = some x := by
  rw [atOf_node, atOf_some hI hk, if_neg (by omega), Int.toNat_natCast, hk]
theorem atOf_neg {g : List Nd} {id : Int} : nodeOf g id = none → atOf g id = -1 := by
  intro h
  refine atOf_none fun n hn e => ?_
  have : (nodeOf g id).isSome = true := nodeOf_some_iff.2 (List.mem_map.2 ⟨n, hn, e⟩)
  rw [h] at this; cases this
/-- the parent's place; -1: none -/
def parAt (g : List Nd) (p : List (Int × Int)) (id : Int) : Int := match p.lookup id with | none => -1 | some u => atOf g u
structure PP (g : List Nd) (p : List (Int × Int)) (pl : List Int) : Prop where
  nd : (p.map (·.1)).Nodup
  key : ∀ x ∈ p, x.1 ∈ g.map (·.id)
  val : ∀ x ∈ p, x.2 ∈ g.map (·.id)
  pl : pl = g.map fun n => parAt g p n.id
theorem PP.nil (g : List Nd) : PP g [] (List.replicate g.length (-1)) :=
  ⟨by simp, by simp, by simp, by
    apply List.ext_getElem
    · simp
    · intro i h1 h2; simp [parAt]⟩
theorem PP.get {g : List Nd} {p : List (Int × Int)} {pl : List Int} (h : PP g p pl) {k : Nat} {x : Nd} (hk : g[k]? = some x) : pl[k]? = some (parAt g p x.id) := by
  rw [h.pl, List.getElem?_map, hk]; rfl
theorem PP.len {g : List Nd} {p : List (Int × Int)} {pl : List Int} (h : PP g p pl) : pl.length = g.length := by rw [h.pl, List.length_map]
theorem PP.put {g : List Nd} (hI : Inc g) {p : List (Int × Int)} {pl : List Int} (h : PP g p pl) {k i : Nat} {x y : Nd} (hk : g[k]? = some x) (hi : g[i]? = some y) (hl : p.lookup x.id = none) : PP g (p ++ [(x.id, y.id)]) (pl.set k (i : Int)) := by
  refine ⟨?_, ?_, ?_, ?_⟩
  · rw [List.map_append, List.nodup_append]
    refine ⟨h.nd, by simp, fun a ha b hb e => ?_⟩
    simp at hb
    subst hb e
    exact lookup_none_iff.1 hl ha
  · intro z hz
    rcases List.mem_append.1 hz with hz | hz
    · exact h.key z hz
    · simp at hz; subst hz
      exact List.mem_map.2 ⟨x, List.mem_of_getElem? hk, rfl⟩
  · intro z hz
    rcases List.mem_append.1 hz with hz | hz
    · exact h.val z hz
    · simp at hz; subst hz
      exact List.mem_map.2 ⟨y, List.mem_of_getElem? hi, rfl⟩
  · apply List.ext_getElem?
    intro j
    rw [List.getElem?_set, List.getElem?_map]
    by_cases hj : k = j
    · subst hj
      have hlt : k < pl.length := by rw [h.len]; exact (List.getElem?_eq_some_iff.1 hk).1
      rw [if_pos rfl, if_pos hlt, hk]
      simp only [Option.map_some, parAt]
      rw [List.lookup_append, hl]
      simp only [Option.none_or, List.lookup_cons, BEq.rfl]
      rw [atOf_some hI hi]
    · rw [if_neg hj]
      cases hg : g[j]? with
      | none => rw [h.pl, List.getElem?_map, hg]; rfl
      | some z =>
        rw [h.get hg]
        simp only [Option.map_some, parAt, Option.some.injEq]
        have hne : ¬ z.id = x.id := by
          intro e
          have h1 := atOf_some hI hg
          have h2 := atOf_some hI hk
          rw [e, h2] at h1
          omega
        rw [List.lookup_append]
        cases p.lookup z.id with
        | some v => rfl
        | none => simp only [Option.none_or, List.lookup_cons]; rw [beq_f hne]; rfl
theorem parAt_none {g : List Nd} {p : List (Int × Int)} {x : Int} (h : p.lookup x = none) : parAt g p x = -1 := by unfold parAt; rw [h]
theorem PP.some {g : List Nd} (hI : Inc g) {p : List (Int × Int)} {pl : List Int} (h : PP g p pl) {x u : Int} (hl : p.lookup x = Option.some u) : ∃ (m : Nat) (y : Nd), g[m]? = Option.some y ∧ y.id = u ∧ parAt g p x = (m : Int) := by
  have := h.val _ (lookup_mem hl)
  rw [← nodeOf_some_iff] at this
  obtain ⟨t, ht⟩ := Option.isSome_iff_exists.1 this
  obtain ⟨k, h1, h2, h3⟩ := atOf_get hI ht
  exact ⟨k, t, h1, h3, by unfold parAt; rw [hl]; exact h2⟩
theorem PP.num {g : List Nd} {p : List (Int × Int)} {pl : List Int} (h : PP g p pl) : p.length ≤ g.length := by
  have h1 : (p.map (·.1)).length ≤ (g.map (·.id)).length := pigeon h.nd (fun x hx => by obtain ⟨y, hy, rfl⟩ := List.mem_map.1 hx; exact h.key y hy)
  simpa using h1
theorem PP.acy {g : List Nd} {p : List (Int × Int)} {pl : List Int} (h : PP g p pl) (hg : ∀ x ∈ g, Ends p x.id) : Acy p :=
  acy_of_keys fun x hx => by
    obtain ⟨u, hu⟩ := Option.isSome_iff_exists.1 hx
    obtain ⟨n, hn, e⟩ := List.mem_map.1 (h.key _ (lookup_mem hu))
    simp only at e
    subst e
    exact hg n hn
theorem loop_not {p : List (Int × Int)} {x : Int} {k : Nat} (h : climb p (k + 1) x = some x) : ¬ Ends p x := by
  intro he
  have h1 := ends_bound he
  have : ∀ m, climb p (m * (k + 1)) x = some x := by
    intro m
    induction m with
    | zero => simp [climb]
    | succ m ih => rw [Nat.succ_mul, climb_add p _ _ x x ih]; exact h
  have h2 := this (p.length + 1)
  rw [show (p.length + 1) * (k + 1) = p.length + 1 + (p.length + 1) * k by rw [Nat.mul_add, Nat.mul_one]; omega, climb_none p _ _ x h1] at h2
  cases h2
theorem far_not {p : List (Int × Int)} {x y : Int} {k : Nat} (h : climb p k x = some y) (hk : p.length < k) : ¬ Ends p x := by
  intro he
  have h1 := ends_bound he
  have := climb_none p _ (k - (p.length + 1)) x h1
  rw [show p.length + 1 + (k - (p.length + 1)) = k by omega, h] at this
  cases this
/-- where the climb from a node stands: place `at`, behind s steps -/
def Stand (g : List Nd) (p : List (Int × Int)) (x : Int) (s : Nat) (v : Int) : Prop := (v = -1 ∧ climb p s x = none) ∨ ∃ (m : Nat) (y : Nd), v = (m : Int) ∧ g[m]? = some y ∧ climb p s x = some y.id
theorem Stand.first {g : List Nd} (hI : Inc g) {p : List (Int × Int)} {pl : List Int} (h : PP g p pl) {k : Nat} {x : Nd} (hk : g[k]? = some x) : ∃ v, pl[k]? = some v ∧ Stand g p x.id 1 v := by
  refine ⟨_, h.get hk, ?_⟩
  cases hl : p.lookup x.id with
  | none => exact Or.inl ⟨by unfold parAt; rw [hl], by simp [climb, hl]⟩
  | some u =>
    obtain ⟨m, y, h1, rfl, h3⟩ := h.some hI hl
    exact Or.inr ⟨m, y, h3, h1, by simp [climb, hl]⟩
theorem Stand.next {g : List Nd} (hI : Inc g) {p : List (Int × Int)} {pl : List Int} (h : PP g p pl) {x : Int} {s m : Nat} {y : Nd} (hm : g[m]? = some y) (hs : climb p s x = some y.id) : ∃ v, pl[m]? = some v ∧ Stand g p x (s + 1) v := by
  obtain ⟨v, hv, hst⟩ := Stand.first hI h hm
  refine ⟨v, hv, ?_⟩
  rcases hst with ⟨h1, h2⟩ | ⟨m', z, h1, h2, h3⟩
  · exact Or.inl ⟨h1, by rw [climb_add p s 1 x y.id hs]; exact h2⟩
  · exact Or.inr ⟨m', z, h1, h2, by rw [climb_add p s 1 x y.id hs]; exact h3⟩
theorem Rising.inc {g : List Nd} {last : Int} (h : Rising last g) : Inc g := h.nodup
end Gr
end Go.Proofs.Ytpdkdhcbibcifaa
namespace Go.Proofs.Ytpdkdhcbibcifaa
set_option linter.unusedVariables false
set_option linter.unusedSimpArgs false
open Go.ChangeShapes Go.WideShapes Go.ChangeAt Go.RowKit
namespace Gr
/-- a block that holds these cells -/
def RowE (w : World) (g : Nat) (e : TypeId) (l : List Value) : Prop := w.heap[g]? = some (.cells l.toArray e (0, 0))
theorem RowE.cell {w : World} {g : Nat} {e : TypeId} {l : List Value} (h : RowE w g e l) {k : Nat} {v : Value} (hk : l[k]? = some v) : w.cell? ⟨g, k, none⟩ = some v := by
  rw [cell_of_row _ _ _ _ _ _ h]; simpa using hk
theorem RowE.froz {w : World} {g : Nat} {e : TypeId} {l : List Value} (h : RowE w g e l) (k : Nat) : w.frozen? ⟨g, k, none⟩ = false := frozen_of_row _ _ _ _ _ h
theorem RowE.set {w : World} {g : Nat} {e : TypeId} {l : List Value} (h : RowE w g e l) (k : Nat) (v : Value) : RowE (w.setCell ⟨g, k, none⟩ v) g e (l.set k v) := by
  unfold RowE
  rw [heap_setCell_same _ _ _ _ _ _ h]
  simp
theorem RowE.lt {w : World} {g : Nat} {e : TypeId} {l : List Value} (h : RowE w g e l) : g < w.heap.size := (Array.getElem?_eq_some_iff.1 h).1
theorem RowE.below {w w' : World} {g : Nat} {e : TypeId} {l : List Value} (h : RowE w g e l) (k : Below w.heap.size w w') : RowE w' g e l := by
  unfold RowE; rw [k.block g h.lt]; exact h
theorem RowE.new (w : World) (l : List Value) (e : TypeId) : RowE (w.alloc (.cells l.toArray e)) w.heap.size e l := heap_alloc_new w _
theorem RowE.made (w : World) (n : Nat) (z : Value) (e : TypeId) : RowE (w.alloc (.cells (Array.replicate n z) e)) w.heap.size e (List.replicate n z) := by
  have := RowE.new w (List.replicate n z) e
  rwa [List.toArray_replicate] at this
/-- a row stays where another block is turned -/
theorem RowE.grown {w w' : World} {g : Nat} {e : TypeId} {l : List Value} (h : RowE w g e l) {row : Option Nat} (hg : w.grownBy w' row) (hne : some g ≠ row) : RowE w' g e l := by
  unfold RowE; rw [hg.block g h.lt hne]; exact h
theorem RowE.isSl {w : World} {g : Nat} {e : TypeId} {l : List Value} (h : RowE w g e l) (hm : l.length ≤ maxLen) : IsSl w 1 (some ⟨g, 0, none⟩) l.length l.length l := by
  refine ⟨by simp, Nat.le_refl _, hm, fun j x hj => ⟨_, rfl, ?_⟩, fun h => by cases h⟩
  rw [Addr.add_lit, Nat.zero_add]
  exact h.cell hj
section
variable {P : Program} {ops : Array Oper} {rest : List Oper} {o : Oper} {a : Act} {w : World} {Q : Exit → Act → World → Prop}
/-- make([]T, n), T of one cell -/
theorem wpList_make_cells (hgd : o.guard = none) (t : TypeId) (x y : Operand) (ho : o.op = .makeSlice t x y) {e : TypeId} (z : Value) (B : Nat) (ht : P.underlying t = some (.slice e)) (hi : (P.info? e).map (fun i => (i.zero, i.size, i.bytes)) = some (some z, 1, B)) (hz : z.cells = #[z]) (hB : B ≤ 64)
    (n : Nat) {k1 k2 : IntKind} (hx : a.eval x = .int k1 (n : Int)) (hy : a.eval y = .int k2 (n : Int)) (hn : n ≤ 16777216)
    (h : wpList P ops Q rest (a.put o.dst (.slice (some ⟨w.heap.size, 0, none⟩) n n)) (w.alloc (.cells (Array.replicate n z) e))) : wpList P ops Q (o :: rest) a w := by
  obtain ⟨i, hi, hz0, hz1, hz2⟩ := info_parts hi
  have hBn : B * n ≤ 64 * 16777216 := Nat.mul_le_mul hB hn
  have hr := run_makeSlice (P := P) (w := w) t e i z ht hi hz0 k1 k2 (n : Int) (n : Int) (by omega) (by omega) (by rw [hz1]; omega) (by rw [hz2, ← Int.natCast_mul]; generalize B * n = m at *; omega) (by omega)
  have hm : madeCells z.cells (n * 1) = Array.replicate n z := by
    rw [hz, Nat.mul_one]
    apply Array.ext
    · simp [madeCells]
    · intro i h1 h2
      simp [madeCells, Nat.mod_one]
  rw [hz1, Int.toNat_natCast, hm] at hr
  refine wpList_value hgd _ _ ?_ h
  simp [execOp, ho, hx, hy, hr, Result.andThen]
end
theorem infoI : (Try.prog.info? 3).map (fun i => (i.zero, i.size, i.bytes)) = some (some (.int .i64 0), 1, 8) := by kernel_rfl
theorem infoS : (Try.prog.info? 9).map (fun i => (i.zero, i.size, i.bytes)) = some (some (.string ⟨#[]⟩), 1, 16) := by kernel_rfl
/-- a box with one cell, whatever came behind -/
theorem box_range1 {w w' : World} {v : Value} {t : TypeId} (hb : Below (w.alloc (.cells #[v] t)).heap.size (w.alloc (.cells #[v] t)) w') : w'.rangeAt w.heap.size 0 [v] := fun j u hj => by
  rcases j with _ | j
  · simp at hj; subst hj; exact box_cell hb 0 rfl
  · simp at hj
end Gr
end Go.Proofs.Ytpdkdhcbibcifaa
