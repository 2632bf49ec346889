/-
  GrLst: a lister in memory.
-/
import Derived.Test.YtpdkdhcbibcifaaJ03
import Derived.BigRegion
import Derived.Deep.RegionHeld3
import Derived.Deep.CutRange
import Derived.Deep.DeepCutAuto
namespace Go.Proofs.Ytpdkdhcbibcifaa
set_option linter.unusedVariables false
set_option linter.unusedSimpArgs false
open Go.ChangeShapes Go.WideShapes Go.ChangeAt Go.RowKit
open Go.Maps (Keyed)
namespace Gr
/-- the paths at which nodes were met first -/
def whF (f : List (Int × Bt)) (id : Int) : Option Value := (f.lookup id).map fun p => .agg #[.string ⟨p.toArray⟩]
theorem zeroWh (w : World) : (zeroValue 93).run Try.prog w = .ok (.agg #[.string ⟨#[]⟩]) w := by kernel_rfl
/-- the cells of a lister -/
def lsV (bb : Nat) (s : Sl) (fb : Nat) (bytes : Int) : Array Value := #[.map (some bb), .slice s.1 s.2.1 s.2.2, .map (some fb), .int .i64 bytes]
/-- a line's cells without data and target -/
def lnC0 (x : Nd) (path pe : Bt) : Array Value := #[.string ⟨path.toArray⟩, .int .i64 x.kind, .int .i64 x.mode, .int .i64 x.uid, .int .i64 x.gid, .int .i64 x.sec, .int .i64 x.nano, .slice none 0 0, .string ⟨#[]⟩, .string ⟨pe.toArray⟩]
def lnZ : Array Value := #[.string ⟨#[]⟩, .int .i64 0, .int .i64 0, .int .i64 0, .int .i64 0, .int .i64 0, .int .i64 0, .slice none 0 0, .string ⟨#[]⟩, .string ⟨#[]⟩]
theorem infoLine : (Try.prog.info? 51).map (fun i => (i.zero, i.size, i.bytes)) = some (some (.agg lnZ), 10, 120) := by kernel_rfl
theorem infoLine2 (x : LnS) : (Try.prog.info? 51).map (fun i => (i.zero, i.size)) = some (some (Value.agg lnZ), (lnV x).size) := by show _ = some (some (Value.agg lnZ), 10); kernel_rfl
theorem ln_one (S : List LnS) : ∀ u ∈ S.flatMap lnCells, u.oneCell' = true := by
  intro u hu
  obtain ⟨x, _, hu⟩ := List.mem_flatMap.1 hu
  simp only [lnCells, List.mem_cons, List.not_mem_nil, or_false] at hu
  rcases hu with rfl | rfl | rfl | rfl | rfl | rfl | rfl | rfl | rfl | rfl <;> rfl
theorem ln_new (w : World) (x : LnS) : IsSl ((w.alloc (.cells (lnV x) 51)).drew) 10 (some ⟨w.heap.size, 0, none⟩) 1 1 ([x].flatMap lnCells) := by
  have := isSl_new w 51 10 1 (lnV x) rfl (by decide)
  have h2 := (Keeps.drew _).sl this
  simpa [lnV_list] using h2
theorem cat_path (x y : Bt) : ((⟨x.toArray⟩ : ByteArray) ++ ⟨#[47]⟩ ++ ⟨y.toArray⟩) = ⟨(x ++ 47 :: y).toArray⟩ := by
  apply ByteArray.ext
  simp [ByteArray.data_append]
/-- a lister in memory -/
structure Lst (w : World) (B lb bb fb : Nat) (a : Option Addr) (n c : Nat) (SL : List LnS) (st : TS) : Prop where
  row : w.heap[lb]? = some (.cells #[.map (some bb), .slice a n c, .map (some fb), .int .i64 (st.bytes : Int)] 71)
  own : w.ownsRow B 51 10 (.slice a n c) n (SL.flatMap lnCells)
  map : SL.map (·.1) = st.out
  dat : ∀ x ∈ SL, Own w B x.2 x.1.data
  fst : MpI w fb st.first.length (whF st.first)
  lb : B ≤ lb
  fb : B ≤ fb
  num : n ≤ st.bytes
  fn : st.first.length ≤ st.bytes
  fne : ∀ id, st.first.lookup id ≠ some []
section
variable {w w' : World} {B lb bb fb : Nat} {a : Option Addr} {n c : Nat} {SL : List LnS} {st : TS}
theorem Lst.below (h : Lst w B lb bb fb a n c SL st) (k : Below w.heap.size w w') : Lst w' B lb bb fb a n c SL st :=
  ⟨row_below h.row k, own_keep h.own (fun j _ hj => k.block j hj), h.map, fun x hx => own_keep (h.dat x hx) (fun j _ hj => k.block j hj), h.fst.below k h.fst.lt, h.lb, h.fb, h.num, h.fn, h.fne⟩
theorem Lst.len (h : Lst w B lb bb fb a n c SL st) : st.out.length = n := by
  have := h.own.1
  rw [flat_len lnCells_len] at this
  rw [← h.map, List.length_map]; omega
theorem Lst.top (h : Lst w B lb bb fb a n c SL st) : st.out.isEmpty = decide (n = 0) := by
  rw [← h.len]; cases st.out <;> simp
theorem Lst.setB (h : Lst w B lb bb fb a n c SL st) (m : Nat) (hm : st.bytes ≤ m) : Lst (w.setCell ⟨lb, 3, none⟩ (.int .i64 (m : Int))) B lb bb fb a n c SL ⟨st.out, st.first, m⟩ := by
  have hg := setCell_grown w lb 3 (.int .i64 (m : Int))
  refine ⟨?_, own_grown h.own hg (Or.inr (own_ne_row h.own h.row (by decide))), h.map, fun x hx => own_grown (h.dat x hx) hg (Or.inr (own_ne_row (h.dat x hx) h.row (by decide))), h.fst.kept hg (h.fst.ne_row h.row), h.lb, h.fb, ?_, ?_, h.fne⟩
  · have := setCell_row h.row (j := 3) (.int .i64 (m : Int))
    simpa using this
  · have := h.num; simp only; omega
  · have := h.fn; simp only; omega
theorem whF_upd (p : List (Int × Bt)) (id : Int) (u : Bt) (h : p.lookup id = none) (x : Int) : upd (whF p) id (.agg #[.string ⟨u.toArray⟩]) x = whF (p ++ [(id, u)]) x := by
  unfold upd whF
  rw [List.lookup_append]
  by_cases hx : x = id
  · subst hx; rw [if_pos rfl, h]; simp [List.lookup_cons]
  · rw [if_neg hx]
    have : [(id, u)].lookup x = none := by rw [List.lookup_cons, beq_f hx]; rfl
    rw [this]; simp
theorem Lst.put (h : Lst w B lb bb fb a n c SL st) {id : Int} {path : Bt} (hp : path ≠ []) (hl : st.first.lookup id = none) (hfn : st.first.length + 1 ≤ st.bytes)
    (hm : MpI w' fb (if (whF st.first id).isSome then st.first.length else st.first.length + 1) (upd (whF st.first) id (.agg #[.string ⟨path.toArray⟩]))) (hg : w.grownBy w' (some fb)) : Lst w' B lb bb fb a n c SL ⟨st.out, st.first ++ [(id, path)], st.bytes⟩ := by
  have hno : (whF st.first id).isSome = false := by simp [whF, hl]
  rw [hno] at hm
  refine ⟨row_grown h.row hg (fun e => h.fst.ne_row h.row e.symm), own_grown h.own hg (Or.inr (fun e => h.fst.ne_own h.own e.symm)), h.map, fun x hx => own_grown (h.dat x hx) hg (Or.inr (fun e => h.fst.ne_own (h.dat x hx) e.symm)), ?_, h.lb, h.fb, h.num, by simpa using hfn, ?_⟩
  · have := hm.congr (whF_upd st.first id path hl)
    simpa using this
  · intro i hi
    simp only [List.lookup_append] at hi
    cases hs : st.first.lookup i with
    | some v =>
      rw [hs] at hi
      simp only [Option.some_or, Option.some.injEq] at hi
      subst hi
      exact h.fne i hs
    | none =>
      rw [hs] at hi
      simp only [Option.none_or, List.lookup_cons] at hi
      by_cases e : i = id
      · subst e; simp at hi; exact hp hi
      · rw [beq_f e] at hi; simp at hi
theorem Lst.box (h : Lst w B lb bb fb a n c SL st) {gl : Nat} {cs : Array Value} (hr : w.heap[gl]? = some (.cells cs 51)) (hne : gl ≠ lb) (ho : (Value.slice a n c).ownBlock ≠ some gl) (j : Nat) (v : Value) : Lst (w.setCell ⟨gl, j, none⟩ v) B lb bb fb a n c SL st := by
  have hg := setCell_grown w gl j v
  exact ⟨row_grown h.row hg (fun e => hne (Option.some.inj e).symm), own_grown h.own hg (Or.inr ho), h.map, fun x hx => own_grown (h.dat x hx) hg (Or.inr (own_ne_row (h.dat x hx) hr (by decide))), h.fst.kept hg (h.fst.ne_row hr), h.lb, h.fb, h.num, h.fn, h.fne⟩
theorem Lst.app {wA wB : World} (h : Lst w B lb bb fb a n c SL st) {a' : Option Addr} {c' : Nat} {l : Ln} {d : Sl} (hA : Below w.heap.size w wA) (hg : wA.grownBy wB (Value.slice a n c).ownBlock) (ho : wB.ownsRow B 51 10 (.slice a' (n + 1) c') (n + 1) (SL.flatMap lnCells ++ lnCells (l, d)))
    (hd : Own w B d l.data) (hn : n + 1 ≤ st.bytes) : Lst (wB.setCell ⟨lb, 1, none⟩ (.slice a' (n + 1) c')) B lb bb fb a' (n + 1) c' (SL ++ [(l, d)]) ⟨st.out ++ [l], st.first, st.bytes⟩ := by
  have h1 := h.below hA
  have hr := row_grown h1.row hg (fun e => own_ne_row h1.own h1.row (by decide) e.symm)
  have hgs := setCell_grown wB lb 1 (.slice a' (n + 1) c')
  have hdat : ∀ s x, Own w B s x → Own (wB.setCell ⟨lb, 1, none⟩ (.slice a' (n + 1) c')) B s x := fun s x hs => by
    have h2 : Own wA B s x := own_keep hs (fun j _ hj => hA.block j hj)
    have h3 : Own wB B s x := own_grown h2 hg (by
      cases hb : (Value.slice s.1 s.2.1 s.2.2).ownBlock with
      | none => exact Or.inl rfl
      | some k => exact Or.inr (fun e => own_ne h2 h1.own (by decide) hb e.symm))
    exact own_grown h3 hgs (Or.inr (own_ne_row h3 hr (by decide)))
  have hf := h1.fst.kept hg (h1.fst.ne_own h1.own)
  refine ⟨?_, ?_, by rw [List.map_append, h.map]; rfl, ?_, hf.kept hgs (hf.ne_row hr), h.lb, h.fb, hn, h.fn, h.fne⟩
  · have := setCell_row hr (j := 1) (.slice a' (n + 1) c')
    simpa using this
  · rw [List.flatMap_append]
    have : [(l, d)].flatMap lnCells = lnCells (l, d) := by simp
    rw [this]
    exact own_grown ho hgs (Or.inr (own_ne_row ho hr (by decide)))
  · intro x hx
    rcases List.mem_append.1 hx with hx | hx
    · exact hdat _ _ (h.dat x hx)
    · rw [List.mem_singleton] at hx
      subst hx
      exact hdat _ _ hd
end
/-- a line filled in: its data and its target -/
theorem Lst.fill {w6 : World} {B lb bb fb : Nat} {a : Option Addr} {n c : Nat} {SL : List LnS} {st : TS} (h : Lst w6 B lb bb fb a n c SL st) {x : Nd} {path : Bt} {gl : Nat} (hr : w6.heap[gl]? = some (.cells (lnC0 x path []) 51)) (hne : gl ≠ lb) (ho : (Value.slice a n c).ownBlock ≠ some gl) (d : Sl) (hd : Own w6 B d x.data) :
    Lst ((w6.setCell ⟨gl, 7, none⟩ (.slice d.1 d.2.1 d.2.2)).setCell ⟨gl, 8, none⟩ (.string ⟨x.target.toArray⟩)) B lb bb fb a n c SL st ∧ ((w6.setCell ⟨gl, 7, none⟩ (.slice d.1 d.2.1 d.2.2)).setCell ⟨gl, 8, none⟩ (.string ⟨x.target.toArray⟩)).heap[gl]? = some (.cells (lnV (mkLine x path [], d)) 51) ∧
      Own ((w6.setCell ⟨gl, 7, none⟩ (.slice d.1 d.2.1 d.2.2)).setCell ⟨gl, 8, none⟩ (.string ⟨x.target.toArray⟩)) B d (mkLine x path []).data := by
  have h7 := setCell_row hr (j := 7) (.slice d.1 d.2.1 d.2.2)
  have h8 := setCell_row h7 (j := 8) (.string ⟨x.target.toArray⟩)
  refine ⟨(h.box hr hne ho 7 _).box h7 hne ho 8 _, by simpa [lnC0, lnV, mkLine] using h8, ?_⟩
  have o7 := own_grown hd (setCell_grown w6 gl 7 (.slice d.1 d.2.1 d.2.2)) (Or.inr (own_ne_row hd hr (by decide)))
  exact own_grown o7 (setCell_grown _ gl 8 _) (Or.inr (own_ne_row o7 h7 (by decide)))
/-- what a call of add leaves -/
def AddRes (g : List Nd) (w : World) (B lb bb fb : Nat) (id : Int) (path : Bt) (st : TS) (r : Ending) (w' : World) : Prop :=
  ∃ ok, r = .returned (.bool ok) ∧ Below B w w' ∧ (ok = true → ∃ a n c SL st', Lst w' B lb bb fb a n c SL st' ∧ st.bytes + 1 ≤ st'.bytes ∧ st'.bytes ≤ 4194304 ∧ ∀ rest res, Wk g rest st' res → Wk g ((id, path) :: rest) st res) ∧
    (ok = false → ∀ rest, Wk g ((id, path) :: rest) st none)
/-- the graph that is walked, and its index -/
structure GCtx (w : World) (bb : Nat) (a : Option Addr) (n c b off : Nat) (S : List NdS) : Prop where
  nds : Nds w a n c S
  addr : S ≠ [] → a = some ⟨b, off, none⟩
  num : NdNum S
  by_ : MpI w bb S.length (ptrAt b off S)
  dat : ∀ x ∈ S, x.2.1.2.1 ≤ 140737488355328
  chk : ∀ x ∈ S, ∀ e ∈ x.1.ents, e.1.length ≤ 255 ∧ e.1 ≠ [] ∧ ∃ t, nodeOf (gOf S) e.2 = some t
theorem GCtx.row {w w' : World} {bb : Nat} {a : Option Addr} {n c b off : Nat} {S : List NdS} (h : GCtx w bb a n c b off S) (k : Below w.heap.size w w') {j : Nat} {x : NdS} (hx : S[j]? = some x) : w'.rangeAt b (off + j * 10) (ndCells x) := by
  obtain ⟨b', off', ha', hr'⟩ := (h.nds.keep (Below.keeps k)).at j x hx
  have h2 := h.addr (by rintro rfl; simp at hx)
  rw [h2] at ha'
  simp only [Option.some.injEq, Addr.mk.injEq, and_true] at ha'
  obtain ⟨rfl, rfl⟩ := ha'
  exact hr'
theorem range_sub {w : World} {b o : Nat} {cs ds : List Value} (h : w.rangeAt b o cs) (k : Nat) (hk : ∀ j v, ds[j]? = some v → cs[k + j]? = some v) : w.rangeAt b (o + k) ds := fun j v hj => by
  have := h (k + j) v (hk j v hj)
  rwa [← Nat.add_assoc] at this
theorem run_where (s : ByteArray) (w : World) : (Instr.field 93 (.agg #[.string s]) 0).run Try.prog w = .ok (.string s) w := by kernel_rfl
end Gr
end Go.Proofs.Ytpdkdhcbibcifaa
