/-
  GrPl: a graph that is being planted, in memory.
-/
import Derived.Test.YtpdkdhcbibcifaaGrBegin
import Derived.Test.YtpdkdhcbibcifaaGrOwn
import Derived.Maps.AppendAt
namespace Go.Proofs.Ytpdkdhcbibcifaa
set_option linter.unusedVariables false
set_option linter.unusedSimpArgs false
open Go.ChangeShapes Go.WideShapes Go.ChangeAt Go.RowKit
namespace Gr
theorem run_app_at {P : Program} {w : World} (ty : TypeId) (t : TypeId) (base : Nat) (e : TypeId) (z : Value) (sz bytes : Nat) (ht : P.underlying t = some (.slice e)) (hi : (P.info? e).map (fun i => (i.zero, i.size, i.bytes)) = some (some z, sz, bytes))
    (hzs : z.cells.size = sz) (hsz : 0 < sz) (hb0 : 0 < bytes) {a1 : Option Addr} {n c1 : Nat} {xs : List Value} (hown : w.ownsRow base e sz (.slice a1 n c1) n xs)
    {ad : Addr} {m c2 : Nat} {news : List Value} (hsrc : IsSl w sz (some ad) m c2 news) (h1 : ∀ u ∈ news, u.oneCell' = true)
    (hbytes : (n + m) * bytes ≤ 140737488355328) (hbase : base ≤ w.heap.size) :
    ∃ a' c' w', (Builtin.append_ #[t, t] ty #[.slice a1 n c1, .slice (some ad) m c2]).run P w = .ok (.slice a' (n + m) c') w' ∧ w'.ownsRow base e sz (.slice a' (n + m) c') (n + m) (xs ++ news) ∧ w.grownBy w' (Value.slice a1 n c1).ownBlock ∧
      ((Value.slice a' (n + m) c').ownBlock = (Value.slice a1 n c1).ownBlock ∨ (Value.slice a' (n + m) c').ownBlock = some w.heap.size) := by
  obtain ⟨i, hi, hz0, hz1, hz2⟩ := info_parts hi
  have hle : n + m ≤ (n + m) * bytes := Nat.le_mul_of_pos_right _ hb0
  obtain ⟨v', w', h, h2, h3⟩ := run_append_own_at (P := P) w base t ty e i z sz bytes ht hi hz0 hz1 hz2 hzs hsz _ n xs hown ad m c2 news hsrc.1 (fun j u hj => by
    obtain ⟨x, hx, hc⟩ := hsrc.2.2.2.1 j u hj
    cases hx
    exact hc) h1 (by unfold maxLen; omega) hbytes hbase
  obtain ⟨a', c', rfl⟩ := own_slice h2
  exact ⟨a', c', w', h, h2, h3.1, h3.2.2⟩
theorem wpList_app_at {P : Program} {ops : Array Oper} {rest : List Oper} {o : Oper} {a : Act} {w : World} {Q : Exit → Act → World → Prop} (hgd : o.guard = none) (s x : Operand) (t : TypeId) (ho : o.op = .call { callee := .builtin .append, args := #[s, x], argTypes := #[t, t] })
    (base : Nat) (e : TypeId) (z : Value) (sz bytes : Nat) (ht : P.underlying t = some (.slice e)) (hi : (P.info? e).map (fun i => (i.zero, i.size, i.bytes)) = some (some z, sz, bytes))
    (hzs : z.cells.size = sz) (hsz : 0 < sz) (hb0 : 0 < bytes) {a1 : Option Addr} {n c1 : Nat} {xs : List Value} (hs : a.eval s = .slice a1 n c1) (hown : w.ownsRow base e sz (.slice a1 n c1) n xs)
    {ad : Addr} {m c2 : Nat} {news : List Value} (hx : a.eval x = .slice (some ad) m c2) (hsrc : IsSl w sz (some ad) m c2 news) (h1 : ∀ u ∈ news, u.oneCell' = true)
    (hbytes : (n + m) * bytes ≤ 140737488355328) (hbase : base ≤ w.heap.size)
    (h : ∀ a' c' w', w'.ownsRow base e sz (.slice a' (n + m) c') (n + m) (xs ++ news) → w.grownBy w' (Value.slice a1 n c1).ownBlock → ((Value.slice a' (n + m) c').ownBlock = (Value.slice a1 n c1).ownBlock ∨ (Value.slice a' (n + m) c').ownBlock = some w.heap.size) → wpList P ops Q rest (a.put o.dst (.slice a' (n + m) c')) w') :
    wpList P ops Q (o :: rest) a w := by
  obtain ⟨a', c', w', hrun, h2, h3, h4⟩ := run_app_at (P := P) o.type t base e z sz bytes ht hi hzs hsz hb0 hown hsrc h1 hbytes hbase
  refine wpList_plain hgd fun K hK' => ?_
  unfold Oper.wp
  simp [execOp, ho, resolve, invoke, builtin, hs, hx, hrun, Result.andThen]
  exact hK' _ _ (h a' c' w' h2 h3 h4)
/-- a cell of one's own row is written -/
theorem own_set {w : World} {B : Nat} {t : TypeId} {sz n g c : Nat} {xs : List Value} (h : w.ownsRow B t sz (.slice (some ⟨g, 0, none⟩) n c) n xs) (j : Nat) (hj : j < n * sz) (v : Value) : (w.setCell ⟨g, j, none⟩ v).ownsRow B t sz (.slice (some ⟨g, 0, none⟩) n c) n (xs.set j v) := by
  obtain ⟨h1, h2⟩ := h
  refine ⟨by simpa using h1, Or.inr ?_⟩
  rcases h2 with ⟨h2, _⟩ | ⟨g', cap, cur, hv, hb, hh, hn, hm, hs, ht⟩
  · cases h2
  · simp only [Value.slice.injEq, Option.some.injEq, Addr.mk.injEq, and_true, true_and] at hv
    obtain ⟨rfl, rfl⟩ := hv
    refine ⟨g, c, cur.setIfInBounds j v, rfl, hb, setCell_row hh v, hn, hm, by simpa using hs, ?_⟩
    rw [← ht, Array.toList_setIfInBounds, List.take_set]
theorem flat_set {α : Type} {f : α → List Value} {sz : Nat} (hf : ∀ x, (f x).length = sz) : ∀ (S : List α) (k : Nat) (hk : k < S.length) (j : Nat) (hj : j < sz) (v : Value) (x' : α), f x' = (f S[k]).set j v → (S.flatMap f).set (k * sz + j) v = (S.set k x').flatMap f
  | [], k, hk, _, _, _, _, _ => by simp at hk
  | x :: S, 0, hk, j, hj, v, x', h => by
    simp only [List.flatMap_cons, Nat.zero_mul, Nat.zero_add, List.set_cons_zero]
    simp only [List.getElem_cons_zero] at h
    rw [List.set_append_left _ _ (by rw [hf]; exact hj), h]
  | x :: S, k + 1, hk, j, hj, v, x', h => by
    simp only [List.flatMap_cons, List.set_cons_succ]
    rw [List.set_append_right _ _ (by rw [hf, Nat.add_mul]; omega), hf]
    have ih := flat_set hf S k (by simpa using hk) j hj v x' (by simpa using h)
    rw [show (k + 1) * sz + j - sz = k * sz + j by rw [Nat.add_mul]; omega, ih]
def blk (s : Sl) : Option Nat := (Value.slice s.1 s.2.1 s.2.2).ownBlock
def OwnE (w : World) (B : Nat) (s : Sl) (l : List (Bt × Int)) : Prop := w.ownsRow B 87 2 (.slice s.1 s.2.1 s.2.2) s.2.1 (l.flatMap etCells)
theorem OwnE.ets {w : World} {B : Nat} {s : Sl} {l : List (Bt × Int)} (h : OwnE w B s l) : Ets w s l := own_isSl h
structure Pls (w : World) (B gb : Nat) (a : Option Addr) (n c : Nat) (NS : List NdS) : Prop where
  row : w.heap[gb]? = some (.cells #[.slice a n c] 43)
  own : w.ownsRow B 75 10 (.slice a n c) n (NS.flatMap ndCells)
  dat : ∀ x ∈ NS, Own w B x.2.1 x.1.data
  ent : ∀ x ∈ NS, OwnE w B x.2.2 x.1.ents
  apart : ∀ (i j : Nat) (x y : NdS), NS[i]? = some x → NS[j]? = some y → i ≠ j → ∀ b, blk x.2.2 = some b → blk y.2.2 ≠ some b
  gb : B ≤ gb
section
variable {w : World} {B gb : Nat} {a : Option Addr} {n c : Nat} {NS : List NdS}
theorem Pls.below {w' : World} (h : Pls w B gb a n c NS) (k : Below w.heap.size w w') : Pls w' B gb a n c NS :=
  ⟨row_below h.row k, own_keep h.own (fun j _ hj => k.block j hj), fun x hx => own_keep (h.dat x hx) (fun j _ hj => k.block j hj), fun x hx => own_keep (h.ent x hx) (fun j _ hj => k.block j hj), h.apart, h.gb⟩
theorem Pls.block {w' : World} (h : Pls w B gb a n c NS) (k : ∀ j, B ≤ j → j < w.heap.size → w'.heap[j]? = w.heap[j]?) : Pls w' B gb a n c NS :=
  ⟨by rw [k gb h.gb (row_lt h.row)]; exact h.row, own_keep h.own k, fun x hx => own_keep (h.dat x hx) k, fun x hx => own_keep (h.ent x hx) k, h.apart, h.gb⟩
theorem Pls.nds (h : Pls w B gb a n c NS) : Nds w a n c NS := ⟨own_isSl h.own, fun x hx => (h.dat x hx).dat, fun x hx => (h.ent x hx).ets⟩
theorem Pls.len (h : Pls w B gb a n c NS) : NS.length = n := h.nds.len
theorem own_cases {v : Value} : v.ownBlock = none ∨ ∃ b, v.ownBlock = some b := by cases v.ownBlock <;> simp
theorem own_other {w w' : World} {B B' : Nat} {t t' : TypeId} {sz sz' n n' : Nat} {v v' : Value} {xs ys : List Value} (h : w.ownsRow B t sz v n xs) (h' : w.ownsRow B' t' sz' v' n' ys) (ht : t ≠ t') (hg : w.grownBy w' v'.ownBlock) : w'.ownsRow B t sz v n xs := by
  rcases own_cases (v := v) with hb | ⟨b, hb⟩
  · exact own_grown h hg (Or.inl hb)
  · exact own_grown h hg (Or.inr (by rw [hb]; exact fun e => own_ne h h' ht hb e.symm))
theorem own_cell {w : World} {B : Nat} {t t' : TypeId} {sz n g j : Nat} {v u : Value} {xs : List Value} {cs : Array Value} {fr : Nat × Nat} (h : w.ownsRow B t sz v n xs) (hr : w.heap[g]? = some (.cells cs t' fr)) (ht : t ≠ t') : (w.setCell ⟨g, j, none⟩ u).ownsRow B t sz v n xs :=
  own_grown h (setCell_grown w g j u) (Or.inr (own_ne_row h hr ht))
/-- a node more -/
theorem Pls.node {wA wB : World} {a' : Option Addr} {c' : Nat} {x : NdS} (h : Pls w B gb a n c NS) (hA : Below w.heap.size w wA) (hg : wA.grownBy wB (Value.slice a n c).ownBlock) (ho : wB.ownsRow B 75 10 (.slice a' (n + 1) c') (n + 1) (NS.flatMap ndCells ++ ndCells x))
    (hd : Own wA B x.2.1 x.1.data) (he : x.2.2 = (none, 0, 0)) (he2 : x.1.ents = []) : Pls (wB.setCell ⟨gb, 0, none⟩ (.slice a' (n + 1) c')) B gb a' (n + 1) c' (NS ++ [x]) := by
  have h1 := h.below hA
  have hr := row_grown h1.row hg (fun e => own_ne_row h1.own h1.row (by decide) e.symm)
  have hdat : ∀ s l, Own wA B s l → Own (wB.setCell ⟨gb, 0, none⟩ (.slice a' (n + 1) c')) B s l := fun s l hs => own_cell (own_other hs h1.own (by decide) hg) (hr) (by decide)
  refine ⟨?_, ?_, ?_, ?_, ?_, h.gb⟩
  · have := setCell_row hr (j := 0) (.slice a' (n + 1) c')
    simpa using this
  · rw [List.flatMap_append]
    have : [x].flatMap ndCells = ndCells x := by simp
    rw [this]
    exact own_cell ho hr (by decide)
  · intro y hy
    rcases List.mem_append.1 hy with hy | hy
    · exact hdat _ _ (h1.dat y hy)
    · rw [List.mem_singleton] at hy
      subst hy
      exact hdat _ _ hd
  · intro y hy
    rcases List.mem_append.1 hy with hy | hy
    · exact own_cell (own_other (h1.ent y hy) h1.own (by decide) hg) hr (by decide)
    · rw [List.mem_singleton] at hy
      subst hy
      unfold OwnE
      rw [he, he2]
      exact World.ownsRow_nil _ _ _ _
  · have hx : blk x.2.2 = none := by rw [he]; rfl
    intro i j y z hi hj hij b hb
    rcases Nat.lt_or_ge i NS.length with hi2 | hi2
    · rw [List.getElem?_append_left hi2] at hi
      rcases Nat.lt_or_ge j NS.length with hj2 | hj2
      · rw [List.getElem?_append_left hj2] at hj
        exact h.apart i j y z hi hj hij b hb
      · rw [List.getElem?_append_right hj2] at hj
        have : z = x := by
          cases hk : j - NS.length with
          | zero => rw [hk] at hj; simpa using hj.symm
          | succ k => rw [hk] at hj; simp at hj
        subst this
        rw [hx]; simp
    · rw [List.getElem?_append_right hi2] at hi
      have : y = x := by
        cases hk : i - NS.length with
        | zero => rw [hk] at hi; simpa using hi.symm
        | succ k => rw [hk] at hi; simp at hi
      subst this
      rw [hx] at hb; cases hb
/-- an entry more for node k -/
theorem Pls.entry {wA wB : World} {a' : Option Addr} {m' c' : Nat} {x : NdS} {k nb : Nat} {e : Bt × Int} (h : Pls w B gb a n c NS) (hk : NS[k]? = some x) (hA : Below w.heap.size w wA) (hnb : a = some ⟨nb, 0, none⟩) (hg : wA.grownBy wB (Value.slice x.2.2.1 x.2.2.2.1 x.2.2.2.2).ownBlock)
    (ho : wB.ownsRow B 87 2 (.slice a' m' c') m' (x.1.ents.flatMap etCells ++ etCells e))
    (hat : (Value.slice a' m' c').ownBlock = (Value.slice x.2.2.1 x.2.2.2.1 x.2.2.2.2).ownBlock ∨ ∃ b, (Value.slice a' m' c').ownBlock = some b ∧ w.heap.size ≤ b) :
    Pls (wB.setCell ⟨nb, k * 10 + 9, none⟩ (.slice a' m' c')) B gb a n c (NS.set k ({ x.1 with ents := x.1.ents ++ [e] }, x.2.1, (a', m', c'))) := by
  have h1 := h.below hA
  have hkl : k < NS.length := (List.getElem?_eq_some_iff.1 hk).1
  have hkx : NS[k] = x := (List.getElem?_eq_some_iff.1 hk).2
  have hxm : x ∈ NS := mem_get hk
  have hxe := h1.ent x hxm
  have hr := row_grown h1.row hg (fun e => own_ne_row hxe h1.row (by decide) e.symm)
  have ho2 : wB.ownsRow B 75 10 (.slice a n c) n (NS.flatMap ndCells) := own_other h1.own hxe (by decide) hg
  subst hnb
  obtain ⟨cur, hcur⟩ := own_row ho2 (b := nb) rfl
  have hlen := h.len
  have hown3 := own_set ho2 (k * 10 + 9) (by omega) (.slice a' m' c')
  rw [flat_set ndCells_len NS k hkl 9 (by decide) (.slice a' m' c') ({ x.1 with ents := x.1.ents ++ [e] }, x.2.1, (a', m', c')) (by rw [hkx]; rfl)] at hown3
  have mem : ∀ y ∈ NS.set k ({ x.1 with ents := x.1.ents ++ [e] }, x.2.1, (a', m', c')), y = ({ x.1 with ents := x.1.ents ++ [e] }, x.2.1, (a', m', c')) ∨ ∃ i, i ≠ k ∧ NS[i]? = some y := by
    intro y hy
    obtain ⟨i, hi, rfl⟩ := List.mem_iff_getElem.1 hy
    by_cases hik : k = i
    · subst hik; left; simp
    · right
      refine ⟨i, fun e => hik e.symm, ?_⟩
      simp only [List.length_set] at hi
      rw [List.getElem_set_ne hik, List.getElem?_eq_getElem hi]
  refine ⟨?_, hown3, ?_, ?_, ?_, h.gb⟩
  · exact row_grown hr (setCell_grown wB nb (k * 10 + 9) _) (fun e => own_ne_row ho2 hr (by decide) e.symm)
  · intro y hy
    have hd : ∀ z ∈ NS, Own (wB.setCell ⟨nb, k * 10 + 9, none⟩ (.slice a' m' c')) B z.2.1 z.1.data := fun z hz => own_cell (own_other (h1.dat z hz) hxe (by decide) hg) hcur (by decide)
    rcases mem y hy with rfl | ⟨i, _, hi⟩
    · exact hd x hxm
    · exact hd y (mem_get hi)
  · intro y hy
    rcases mem y hy with rfl | ⟨i, hik, hi⟩
    · unfold OwnE
      simp only
      rw [List.flatMap_append]
      have : [e].flatMap etCells = etCells e := by simp
      rw [this]
      exact own_cell ho hcur (by decide)
    · have hy1 := h1.ent y (mem_get hi)
      refine own_cell (own_grown hy1 hg ?_) hcur (by decide)
      rcases own_cases (v := Value.slice y.2.2.1 y.2.2.2.1 y.2.2.2.2) with hb | ⟨b, hb⟩
      · exact Or.inl hb
      · right
        rw [hb]
        exact fun e => h.apart i k y x hi hk hik b hb e.symm
  · have hnew : ∀ j y, j ≠ k → NS[j]? = some y → ∀ b, blk (a', m', c') = some b → blk y.2.2 ≠ some b := by
      intro j y hj hy b hb e
      rcases hat with hat | ⟨b', hb', hge⟩
      · have : blk x.2.2 = some b := by rw [← hb]; exact hat.symm
        exact h.apart k j x y hk hy (fun e => hj e.symm) b this e
      · have h2 : blk (a', m', c') = some b' := hb'
        rw [hb] at h2
        cases h2
        have := ((h.ent y (mem_get hy)).lt b e).2
        omega
    intro i j y z hi hj hij b hb
    rw [List.getElem?_set] at hi hj
    by_cases hik : k = i
    · subst hik
      rw [if_pos rfl, if_pos hkl] at hi
      cases hi
      rw [if_neg hij] at hj
      exact hnew j z (fun e => hij e.symm) hj b hb
    · rw [if_neg hik] at hi
      by_cases hjk : k = j
      · subst hjk
        rw [if_pos rfl, if_pos hkl] at hj
        cases hj
        intro e
        exact hnew i y (fun e => hik e.symm) hi b e hb
      · rw [if_neg hjk] at hj
        exact h.apart i j y z hi hj hij b hb
end
end Gr
end Go.Proofs.Ytpdkdhcbibcifaa
