/-
  GrOwn: rows of one's own beside other blocks: no program's function.
-/
import Derived.Test.YtpdkdhcbibcifaaGrMem
import Derived.Deep.RegionLaw
namespace Go.Proofs.Ytpdkdhcbibcifaa
set_option linter.unusedVariables false
set_option linter.unusedSimpArgs false
open Go.ChangeShapes Go.WideShapes Go.ChangeAt Go.RowKit
namespace Gr
theorem own_stay {w w' : World} {base : Nat} {e : TypeId} {sz : Nat} {v : Value} {n : Nat} {xs : List Value} (h : w.ownsRow base e sz v n xs) (hk : ∀ k, v.ownBlock = some k → w'.heap[k]? = w.heap[k]?) : w'.ownsRow base e sz v n xs := by
  obtain ⟨h1, h2⟩ := h
  refine ⟨h1, ?_⟩
  rcases h2 with h2 | ⟨g, cap, cur, hv, hg, hh, r⟩
  · exact Or.inl h2
  · exact Or.inr ⟨g, cap, cur, hv, hg, by rw [hk g (by rw [hv]; rfl)]; exact hh, r⟩
theorem own_keep {w w' : World} {base : Nat} {e : TypeId} {sz : Nat} {v : Value} {n : Nat} {xs : List Value} (h : w.ownsRow base e sz v n xs) (hk : ∀ k, base ≤ k → k < w.heap.size → w'.heap[k]? = w.heap[k]?) : w'.ownsRow base e sz v n xs :=
  own_stay h fun k e => hk k (h.lt k e).1 (h.lt k e).2
theorem own_base {w : World} {base base' : Nat} {e : TypeId} {sz : Nat} {v : Value} {n : Nat} {xs : List Value} (h : w.ownsRow base e sz v n xs) (hb : base' ≤ base) : w.ownsRow base' e sz v n xs := by
  obtain ⟨h1, h2⟩ := h
  refine ⟨h1, ?_⟩
  rcases h2 with h2 | ⟨g, cap, cur, hv, hg, r⟩
  · exact Or.inl h2
  · exact Or.inr ⟨g, cap, cur, hv, Nat.le_trans hb hg, r⟩
/-- the block's row -/
theorem own_row {w : World} {B : Nat} {t : TypeId} {sz n : Nat} {v : Value} {xs : List Value} (h : w.ownsRow B t sz v n xs) {b : Nat} (hb : v.ownBlock = some b) : ∃ cur, w.heap[b]? = some (.cells cur t (0, 0)) := by
  rcases h.2 with ⟨rfl, _⟩ | ⟨g, cap, cur, rfl, _, hh, _⟩
  · simp [Value.ownBlock] at hb
  · simp only [Value.ownBlock, Option.some.injEq, Option.map_some] at hb
    subst hb
    exact ⟨cur, hh⟩
theorem own_ne_row {w : World} {B : Nat} {t t' : TypeId} {sz n : Nat} {v : Value} {xs : List Value} (h : w.ownsRow B t sz v n xs) {b : Nat} {cs : Array Value} {fr : Nat × Nat} (hr : w.heap[b]? = some (.cells cs t' fr)) (ht : t ≠ t') : v.ownBlock ≠ some b := by
  intro e
  obtain ⟨cur, hc⟩ := own_row h e
  rw [hr] at hc
  simp only [Option.some.injEq, Obj.cells.injEq] at hc
  exact ht hc.2.1.symm
theorem own_ne {w : World} {B B' : Nat} {t t' : TypeId} {sz sz' n n' : Nat} {v v' : Value} {xs ys : List Value} (h : w.ownsRow B t sz v n xs) (h' : w.ownsRow B' t' sz' v' n' ys) (ht : t ≠ t') {b : Nat} (h1 : v.ownBlock = some b) : v'.ownBlock ≠ some b := by
  obtain ⟨cur, hc⟩ := own_row h h1
  exact own_ne_row h' hc ht.symm
/-- a row of one's own behind a turn of another block -/
theorem own_grown {w w' : World} {B : Nat} {t : TypeId} {sz n : Nat} {v : Value} {xs : List Value} (h : w.ownsRow B t sz v n xs) {row : Option Nat} (hg : w.grownBy w' row) (hne : v.ownBlock = none ∨ v.ownBlock ≠ row) : w'.ownsRow B t sz v n xs :=
  own_stay h fun k hk => hg.block k (h.lt k hk).2 (by rcases hne with hn | hn; rw [hn] at hk; cases hk; exact fun e => hn (by rw [hk, e]))
theorem row_below {w w' : World} {b : Nat} {o : Obj} (h : w.heap[b]? = some o) (k : Below w.heap.size w w') : w'.heap[b]? = some o := by
  rw [k.block b (Array.getElem?_eq_some_iff.1 h).1]; exact h
theorem row_lt {w : World} {b : Nat} {o : Obj} (h : w.heap[b]? = some o) : b < w.heap.size := (Array.getElem?_eq_some_iff.1 h).1
theorem row_grown {w w' : World} {b : Nat} {o : Obj} {row : Option Nat} (h : w.heap[b]? = some o) (hg : w.grownBy w' row) (hne : some b ≠ row) : w'.heap[b]? = some o := by
  rw [hg.block b (row_lt h) hne]; exact h
theorem setCell_grown (w : World) (b j : Nat) (v : Value) : w.grownBy (w.setCell ⟨b, j, none⟩ v) (some b) :=
  ⟨rfl, rfl, rfl, by simp, fun k hk hne => RowKit.Below.heap_setCell _ _ _ _ (fun e => hne (by simp only at e; rw [e]))⟩
theorem setCell_row {w : World} {b j : Nat} {cs : Array Value} {t : TypeId} (h : w.heap[b]? = some (.cells cs t)) (v : Value) : (w.setCell ⟨b, j, none⟩ v).heap[b]? = some (.cells (cs.setIfInBounds j v) t) := by
  simp only [World.setCell]
  rw [Array.getElem?_modify, h]
  simp
theorem row_cell {w : World} {b : Nat} {cs : Array Value} {t : TypeId} (h : w.heap[b]? = some (.cells cs t)) (j : Nat) : w.cell? ⟨b, j, none⟩ = cs[j]? := by rw [cell_of_row _ _ _ _ _ _ h]
theorem row_froz {w : World} {b : Nat} {cs : Array Value} {t : TypeId} (h : w.heap[b]? = some (.cells cs t)) (j : Nat) : w.frozen? ⟨b, j, none⟩ = false := frozen_of_row _ _ _ _ _ h
theorem Mp.ne_own {κ : Type} {mk : κ → Lit} {P : Program} {k : TypeId} {w : World} {b s : Nat} {f : κ → Option Value} (h : Mp mk P k w b s f) {B : Nat} {t : TypeId} {sz n : Nat} {v : Value} {xs : List Value} (ho : w.ownsRow B t sz v n xs) : some b ≠ v.ownBlock := by
  intro e
  obtain ⟨cur, hc⟩ := own_row ho e.symm
  obtain ⟨D, ⟨es, clock, h1, _⟩, _⟩ := h
  rw [h1] at hc
  cases hc
theorem Mp.ne_row {κ : Type} {mk : κ → Lit} {P : Program} {k : TypeId} {w : World} {b s : Nat} {f : κ → Option Value} (h : Mp mk P k w b s f) {g : Nat} {cs : Array Value} {t : TypeId} {fr : Nat × Nat} (hr : w.heap[g]? = some (.cells cs t fr)) : some b ≠ some g := by
  intro e
  cases e
  obtain ⟨D, ⟨es, clock, h1, _⟩, _⟩ := h
  rw [h1] at hr
  cases hr
section
variable {P : Program}
theorem run_slice_one (t : TypeId) {e : TypeId} {z : Array Value} (ht : P.underlying t = some (.slice e)) (cs : Array Value) (hi : (P.info? e).map (fun i => (i.zero, i.size)) = some (some (.agg z), cs.size))
    (hzs : z.size = cs.size) (hpos : 0 < cs.size) (hlim : cs.size ≤ 16777216) (w : World) : (Instr.buildSlice t 1 #[(0, .agg cs)]).run P w = .ok (.slice (some ⟨w.heap.size, 0, none⟩) 1 1) (w.alloc (.cells cs e)) := by
  obtain ⟨i, hi', hh⟩ := Option.map_eq_some_iff.1 hi
  simp only [Prod.mk.injEq] at hh
  obtain ⟨h0, h1⟩ := hh
  have hne : ¬ cs.size = 0 := by omega
  have hlim' : ¬ 16777216 < cs.size := by omega
  have hf := fill_whole ((Array.range (1 * cs.size)).map (z[· % z.size]!)) cs cs.size (by simp) rfl
  simp only [Nat.one_mul] at hf
  simp [Instr.buildSlice, run_underlying ht, sizeOf, zeroValue, typeInfo, hi', h0, h1, hne, hlim', Value.cells, hf, newRow, Result.andThen]
/-- append onto one's own -/
theorem run_app {w : World} (ty : TypeId) (t : TypeId) (base : Nat) (e : TypeId) (z : Value) (sz bytes : Nat) (ht : P.underlying t = some (.slice e)) (hi : (P.info? e).map (fun i => (i.zero, i.size, i.bytes)) = some (some z, sz, bytes))
    (hzs : z.cells.size = sz) (hsz : 0 < sz) (hb0 : 0 < bytes) {a1 : Option Addr} {n c1 : Nat} {xs : List Value} (hown : w.ownsRow base e sz (.slice a1 n c1) n xs)
    {ad : Addr} {m c2 : Nat} {news : List Value} (hsrc : IsSl w sz (some ad) m c2 news) (h1 : ∀ u ∈ news, u.oneCell' = true)
    (hbytes : (n + m) * bytes ≤ 140737488355328) (hbase : base ≤ w.heap.size) :
    ∃ a' c' w', (Builtin.append_ #[t, t] ty #[.slice a1 n c1, .slice (some ad) m c2]).run P w = .ok (.slice a' (n + m) c') w' ∧ w'.ownsRow base e sz (.slice a' (n + m) c') (n + m) (xs ++ news) ∧ w.grownBy w' (Value.slice a1 n c1).ownBlock := by
  obtain ⟨i, hi, hz0, hz1, hz2⟩ := info_parts hi
  have hle : n + m ≤ (n + m) * bytes := Nat.le_mul_of_pos_right _ hb0
  obtain ⟨v', w', h, h2, h3⟩ := run_append_own (P := P) w base t ty e i z sz bytes ht hi hz0 hz1 hz2 hzs hsz _ n xs hown ad m c2 news hsrc.1 (fun j u hj => by
    obtain ⟨x, hx, hc⟩ := hsrc.2.2.2.1 j u hj
    cases hx
    exact hc) h1 (by unfold maxLen; omega) hbytes hbase
  obtain ⟨a', c', rfl⟩ := own_slice h2
  exact ⟨a', c', w', h, h2, h3.1⟩
/-- append at a step of a region that draws, by its run -/
theorem step_app_run {ops : Array Oper} {o : Oper} {a : Act} {w : World} {K : Act → World → Prop} {Q : Exit → Act → World → Prop} {E : Prop} (hgd : o.guard = none) (s x : Operand) (t : TypeId)
    (ho : o.op = .call { callee := .builtin .append, args := #[s, x], argTypes := #[t, t] }) (sv xv : Value) (hs : a.eval s = sv) (hx : a.eval x = xv) (v : Value) (w' : World)
    (hrun : (Builtin.append_ #[t, t] o.type #[sv, xv]).run P w = .ok v w') (h : K (a.put o.dst v) w') :
    if Region.wanted o (yielded ops a.tmps) = true then Oper.wp P o a w K Q else E := by
  have hw : Region.wanted o (yielded ops a.tmps) = true := by simp [Region.wanted, hgd]
  rw [if_pos hw]
  unfold Oper.wp
  simp [execOp, ho, resolve, invoke, builtin, hs, hx, hrun, Result.andThen]
  exact h
end
end Gr
end Go.Proofs.Ytpdkdhcbibcifaa
