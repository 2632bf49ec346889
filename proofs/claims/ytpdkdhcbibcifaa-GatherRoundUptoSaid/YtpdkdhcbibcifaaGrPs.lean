/-
  GrPs: what Plant holds in memory between two lines.
-/
import Derived.Test.YtpdkdhcbibcifaaGrPlan
import Derived.Test.YtpdkdhcbibcifaaGrTreeW
namespace Go.Proofs.Ytpdkdhcbibcifaa
set_option linter.unusedVariables false
set_option linter.unusedSimpArgs false
open Go.ChangeShapes Go.WideShapes Go.ChangeAt Go.RowKit
open Go.Maps (Keyed)
namespace Gr
abbrev MpS (w : World) (b s : Nat) (f : Bt → Option Value) : Prop := Mp mkS Try.prog 9 w b s f
def idF (pi : List (Bt × Int)) (p : Bt) : Option Value := (pi.lookup p).map fun v => .int .i64 v
theorem idF_val (pi : List (Bt × Int)) (p : Bt) : (idF pi p).getD (.int .i64 0) = .int .i64 ((pi.lookup p).getD 0) := by
  unfold idF; cases pi.lookup p <;> rfl
theorem idF_some (pi : List (Bt × Int)) (p : Bt) : (idF pi p).isSome = (pi.lookup p).isSome := by simp [idF]
theorem idF_upd (pi : List (Bt × Int)) (p : Bt) (u : Int) (h : pi.lookup p = none) (x : Bt) : upd (idF pi) p (.int .i64 u) x = idF (pi ++ [(p, u)]) x := by
  unfold upd idF
  rw [List.lookup_append]
  by_cases hx : x = p
  · subst hx; rw [if_pos rfl, h]; simp [List.lookup_cons]
  · rw [if_neg hx]
    have : [(p, u)].lookup x = none := by rw [List.lookup_cons, beq_f hx]; rfl
    rw [this]; simp
structure Ps (w0 w : World) (a : Option Addr) (n c : Nat) (NS : List NdS) (pi : List (Bt × Int)) : Prop where
  bel : Below w0.heap.size w0 w
  rb : w.heap[w0.heap.size]? = some (.cells #[.slice none 0 0] 43)
  pls : Pls w w0.heap.size (w0.heap.size + 1) a n c NS
  mp : MpS w (w0.heap.size + 2) pi.length (idF pi)
section
variable {w0 w : World} {a : Option Addr} {n c : Nat} {NS : List NdS} {pi : List (Bt × Int)}
theorem Ps.below {w' : World} (h : Ps w0 w a n c NS pi) (k : Below w.heap.size w w') : Ps w0 w' a n c NS pi :=
  ⟨h.bel.trans (k.mono h.bel.size), row_below h.rb k, h.pls.below k, h.mp.below k h.mp.lt⟩
theorem Ps.node {wA wB : World} {a' : Option Addr} {c' : Nat} {x : NdS} (h : Ps w0 w a n c NS pi) (hA : Below w.heap.size w wA) (hg : wA.grownBy wB (Value.slice a n c).ownBlock) (ho : wB.ownsRow w0.heap.size 75 10 (.slice a' (n + 1) c') (n + 1) (NS.flatMap ndCells ++ ndCells x))
    (hd : Own wA w0.heap.size x.2.1 x.1.data) (he : x.2.2 = (none, 0, 0)) (he2 : x.1.ents = []) : Ps w0 (wB.setCell ⟨w0.heap.size + 1, 0, none⟩ (.slice a' (n + 1) c')) a' (n + 1) c' (NS ++ [x]) pi := by
  have h1 := h.below hA
  have hr := row_grown h1.pls.row hg (fun e => own_ne_row h1.pls.own h1.pls.row (by decide) e.symm)
  have hrb := row_grown h1.rb hg (fun e => own_ne_row h1.pls.own h1.rb (by decide) e.symm)
  have hm := h1.mp.kept hg (h1.mp.ne_own h1.pls.own)
  have hgs := setCell_grown wB (w0.heap.size + 1) 0 (.slice a' (n + 1) c')
  refine ⟨?_, row_grown hrb hgs (by simp), h.pls.node hA hg ho hd he he2, hm.kept hgs (hm.ne_row hr)⟩
  have hb2 : Below w0.heap.size w0 wB := h1.bel.grown hg h1.bel.size (fun k hk => (h1.pls.own.lt k hk).1)
  exact hb2.setCell (p := ⟨w0.heap.size + 1, 0, none⟩) (by simp) _
theorem Ps.entry {wA wB : World} {a' : Option Addr} {m' c' : Nat} {x : NdS} {k nb : Nat} {e : Bt × Int} (h : Ps w0 w a n c NS pi) (hk : NS[k]? = some x) (hA : Below w.heap.size w wA) (hnb : a = some ⟨nb, 0, none⟩) (hg : wA.grownBy wB (Value.slice x.2.2.1 x.2.2.2.1 x.2.2.2.2).ownBlock)
    (ho : wB.ownsRow w0.heap.size 87 2 (.slice a' m' c') m' (x.1.ents.flatMap etCells ++ etCells e))
    (hat : (Value.slice a' m' c').ownBlock = (Value.slice x.2.2.1 x.2.2.2.1 x.2.2.2.2).ownBlock ∨ ∃ b, (Value.slice a' m' c').ownBlock = some b ∧ w.heap.size ≤ b) :
    Ps w0 (wB.setCell ⟨nb, k * 10 + 9, none⟩ (.slice a' m' c')) a n c (NS.set k ({ x.1 with ents := x.1.ents ++ [e] }, x.2.1, (a', m', c'))) pi := by
  have h1 := h.below hA
  have hxe := h1.pls.ent x (mem_get hk)
  have hrb := row_grown h1.rb hg (fun e => own_ne_row hxe h1.rb (by decide) e.symm)
  have hm := h1.mp.kept hg (h1.mp.ne_own hxe)
  have ho2 : wB.ownsRow w0.heap.size 75 10 (.slice a n c) n (NS.flatMap ndCells) := own_other h1.pls.own hxe (by decide) hg
  have hgs := setCell_grown wB nb (k * 10 + 9) (.slice a' m' c')
  have hb2 : Below w0.heap.size w0 wB := h1.bel.grown hg h1.bel.size (fun k hk => (hxe.lt k hk).1)
  have hob : (Value.slice a n c).ownBlock = some nb := by rw [hnb]; rfl
  obtain ⟨cur, hcur⟩ := own_row ho2 hob
  refine ⟨hb2.setCell (p := ⟨nb, k * 10 + 9, none⟩) (ho2.lt nb hob).1 _, row_grown hrb hgs (fun e => own_ne_row ho2 hrb (by decide) (by rw [hob]; exact e.symm)), h.pls.entry hk hA hnb hg ho hat, hm.kept hgs (hm.ne_row hcur)⟩
theorem Ps.put {w' : World} {p : Bt} {u : Int} (h : Ps w0 w a n c NS pi) (hl : pi.lookup p = none) (hm : MpS w' (w0.heap.size + 2) (if (idF pi p).isSome then pi.length else pi.length + 1) (upd (idF pi) p (.int .i64 u))) (hg : w.grownBy w' (some (w0.heap.size + 2))) :
    Ps w0 w' a n c NS (pi ++ [(p, u)]) := by
  have hno : (idF pi p).isSome = false := by simp [idF, hl]
  rw [hno] at hm
  have hot : ∀ {t sz n' v xs} , w.ownsRow w0.heap.size t sz v n' xs → w'.ownsRow w0.heap.size t sz v n' xs := fun ho => own_grown ho hg (Or.inr (fun e => h.mp.ne_own ho e.symm))
  refine ⟨h.bel.grown hg h.bel.size (fun k hk => by cases hk; simp), row_grown h.rb hg (by simp), ⟨row_grown h.pls.row hg (by simp), hot h.pls.own, fun x hx => hot (h.pls.dat x hx), fun x hx => hot (h.pls.ent x hx), h.pls.apart, h.pls.gb⟩, ?_⟩
  rw [List.length_append]
  exact hm.congr (idF_upd pi p u hl)
end
def ndZ : Array Value := #[.int .i64 0, .int .i64 0, .int .i64 0, .int .i64 0, .int .i64 0, .int .i64 0, .int .i64 0, .slice none 0 0, .string ⟨#[]⟩, .slice none 0 0]
theorem infoNode : (Try.prog.info? 75).map (fun i => (i.zero, i.size, i.bytes)) = some (some (.agg ndZ), 10, 120) := by kernel_rfl
def ndV (x : NdS) : Array Value := #[.int .i64 x.1.id, .int .i64 x.1.kind, .int .i64 x.1.mode, .int .i64 x.1.uid, .int .i64 x.1.gid, .int .i64 x.1.sec, .int .i64 x.1.nano, .slice x.2.1.1 x.2.1.2.1 x.2.1.2.2, .string ⟨x.1.target.toArray⟩, .slice x.2.2.1 x.2.2.2.1 x.2.2.2.2]
theorem infoNode2 (x : NdS) : (Try.prog.info? 75).map (fun i => (i.zero, i.size)) = some (some (Value.agg ndZ), (ndV x).size) := by show _ = some (some (Value.agg ndZ), 10); kernel_rfl
theorem nd_one (S : List NdS) : ∀ u ∈ S.flatMap ndCells, u.oneCell' = true := by
  intro u hu
  obtain ⟨x, _, hu⟩ := List.mem_flatMap.1 hu
  simp only [ndCells, List.mem_cons, List.not_mem_nil, or_false] at hu
  rcases hu with rfl | rfl | rfl | rfl | rfl | rfl | rfl | rfl | rfl | rfl <;> rfl
theorem nd_new (w : World) (x : NdS) : IsSl ((w.alloc (.cells (ndV x) 75)).drew) 10 (some ⟨w.heap.size, 0, none⟩) 1 1 ([x].flatMap ndCells) := by
  have := isSl_new w 75 10 1 (ndV x) rfl (by decide)
  have h2 := (Keeps.drew _).sl this
  simpa [ndV, ndCells] using h2
def etZ : Array Value := #[.string ⟨#[]⟩, .int .i64 0]
theorem infoEnt : (Try.prog.info? 87).map (fun i => (i.zero, i.size, i.bytes)) = some (some (.agg etZ), 2, 24) := by kernel_rfl
def etV (e : Bt × Int) : Array Value := #[.string ⟨e.1.toArray⟩, .int .i64 e.2]
theorem infoEnt2 (e : Bt × Int) : (Try.prog.info? 87).map (fun i => (i.zero, i.size)) = some (some (Value.agg etZ), (etV e).size) := by show _ = some (some (Value.agg etZ), 2); kernel_rfl
theorem et_one (S : List (Bt × Int)) : ∀ u ∈ S.flatMap etCells, u.oneCell' = true := by
  intro u hu
  obtain ⟨x, _, hu⟩ := List.mem_flatMap.1 hu
  simp only [etCells, List.mem_cons, List.not_mem_nil, or_false] at hu
  rcases hu with rfl | rfl <;> rfl
theorem et_new (w : World) (e : Bt × Int) : IsSl (w.alloc (.cells (etV e) 87)) 2 (some ⟨w.heap.size, 0, none⟩) 1 1 ([e].flatMap etCells) := by
  have := isSl_new w 87 2 1 (etV e) rfl (by decide)
  simpa [etV, etCells] using this
end Gr
end Go.Proofs.Ytpdkdhcbibcifaa
