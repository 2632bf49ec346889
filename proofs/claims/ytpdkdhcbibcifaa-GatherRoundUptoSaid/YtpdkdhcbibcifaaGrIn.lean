/-
  GrIn: steps within a round of a loop over a function; entries that are gathered in memory.
-/
import Derived.Test.YtpdkdhcbibcifaaGrEach
namespace Go.Proofs.Ytpdkdhcbibcifaa
set_option linter.unusedVariables false
set_option linter.unusedSimpArgs false
open Go.ChangeShapes Go.WideShapes Go.ChangeAt Go.RowKit Go.Shelf
namespace Gr
section
variable {F : Fence} {n : Nat} {P : Program} {ops : Array Oper} {rest : List Oper} {o : Oper} {a : Act} {w : World} {Q : Exit → Act → World → Prop}
theorem wpListIn_load_rowA (hgd : o.guard = none) (ty : TypeId) (x : Operand) (ho : o.op = .load ty x)
    (b : Nat) (hx : a.eval x = .pointer (some ⟨b, 0, none⟩)) (cs : Array Value) (t : TypeId) (d : TypeDesc) (hc : w.heap[b]? = some (.cells cs t))
    (hu : P.underlying ty = some d) (hd : (match d with | .struct _ | .array _ _ => true | _ => false) = true) (hi : (P.info? ty).map (·.size) = some cs.size)
    (h : wpListIn F n P ops Q rest (a.put o.dst (.agg cs)) w) : wpListIn F n P ops Q (o :: rest) a w := by
  refine wpListIn_plain hgd fun K hK' => ?_
  have hr := run_loadVar_row (P := P) w b t ty cs (0, 0) d hc hu hd hi
  unfold Oper.wpIn
  refine ⟨?_, ?_⟩
  · simp [Oper.about, ho]
  · rw [Oper.semAt_plain F _ _ (by rw [ho]; intro c hc'; cases hc')]
    simp [execOp, ho, hx, Instr.loadAt, Instr.sureAddr, hr, Result.andThen]
    exact hK' _ _ h
theorem wpListIn_slice_one (hgd : o.guard = none) (t : TypeId) (x : Operand) (ho : o.op = .buildSlice t 1 #[(0, x)]) {e : TypeId} {z : Array Value} (ht : P.underlying t = some (.slice e)) (cs : Array Value) (hi : (P.info? e).map (fun i => (i.zero, i.size)) = some (some (.agg z), cs.size))
    (hzs : z.size = cs.size) (hpos : 0 < cs.size) (hlim : cs.size ≤ 16777216) (hx : a.eval x = .agg cs)
    (h : wpListIn F n P ops Q rest (a.put o.dst (.slice (some ⟨w.heap.size, 0, none⟩) 1 1)) (w.alloc (.cells cs e))) : wpListIn F n P ops Q (o :: rest) a w := by
  refine wpListIn_plain hgd fun K hK' => ?_
  have hr := run_slice_one (P := P) t ht cs hi hzs hpos hlim w
  unfold Oper.wpIn
  refine ⟨?_, ?_⟩
  · simp [Oper.about, ho]
  · rw [Oper.semAt_plain F _ _ (by rw [ho]; intro c hc'; cases hc')]
    simp [execOp, ho, hx, hr, Result.andThen]
    exact hK' _ _ h
theorem wpListIn_app (hgd : o.guard = none) (s x : Operand) (t : TypeId) (ho : o.op = .call { callee := .builtin .append, args := #[s, x], argTypes := #[t, t] })
    (base : Nat) (e : TypeId) (z : Value) (sz bytes : Nat) (ht : P.underlying t = some (.slice e)) (hi : (P.info? e).map (fun i => (i.zero, i.size, i.bytes)) = some (some z, sz, bytes))
    (hzs : z.cells.size = sz) (hsz : 0 < sz) (hb0 : 0 < bytes) {a1 : Option Addr} {k c1 : Nat} {xs : List Value} (hs : a.eval s = .slice a1 k c1) (hown : w.ownsRow base e sz (.slice a1 k c1) k xs)
    {ad : Addr} {m c2 : Nat} {news : List Value} (hx : a.eval x = .slice (some ad) m c2) (hsrc : IsSl w sz (some ad) m c2 news) (h1 : ∀ u ∈ news, u.oneCell' = true)
    (hbytes : (k + m) * bytes ≤ 140737488355328) (hbase : base ≤ w.heap.size)
    (h : ∀ a' c' w', w'.ownsRow base e sz (.slice a' (k + m) c') (k + m) (xs ++ news) → w.grownBy w' (Value.slice a1 k c1).ownBlock → wpListIn F n P ops Q rest (a.put o.dst (.slice a' (k + m) c')) w') :
    wpListIn F n P ops Q (o :: rest) a w := by
  refine wpListIn_plain hgd fun K hK' => ?_
  obtain ⟨a', c', w', hrun, h2, h3⟩ := run_app (P := P) o.type t base e z sz bytes ht hi hzs hsz hb0 hown hsrc h1 hbytes hbase
  unfold Oper.wpIn
  refine ⟨?_, ?_⟩
  · simp [Oper.about, ho, resolve, Target.leads, Sem.run_pure]
  · rw [Oper.semAt_plain F _ _ (by rw [ho]; intro c hc'; cases hc')]
    simp [execOp, ho, resolve, invoke, builtin, hs, hx, hrun, Result.andThen]
    exact hK' _ _ (h a' c' w' h2 h3)
/-- a whole row is stored -/
theorem wpListIn_store_row (hgd : o.guard = none) (ty : TypeId) (x y : Operand) (ho : o.op = .store ty x y) (g : Nat) (hx : a.eval x = .pointer (some ⟨g, 0, none⟩)) (cs : Array Value) (hy : a.eval y = .agg cs)
    (old : Array Value) (t : TypeId) (hh : w.heap[g]? = some (.cells old t (0, 0))) (hsz : old.size = cs.size) (hi : (P.info? ty).map (·.size) = some cs.size) (h1 : ∀ u ∈ cs.toList, u.oneCell' = true)
    (h : wpListIn F n P ops Q rest (a.put o.dst undef) (w.setRow g cs)) : wpListIn F n P ops Q (o :: rest) a w := by
  refine wpListIn_plain hgd fun K hK' => ?_
  obtain ⟨i, hi', hs'⟩ := Option.map_eq_some_iff.1 hi
  have hr := run_storeCells_at (P := P) g 0 t cs.toList 0 old w hh (by simp [hsz]) h1
  have e : (old.toList.take (0 + 0) ++ cs.toList ++ old.toList.drop (0 + 0 + cs.toList.length)).toArray = cs := by
    simp [List.drop_of_length_le, hsz]
  rw [e] at hr
  unfold Oper.wpIn
  refine ⟨?_, ?_⟩
  · simp [Oper.about, ho]
  · rw [Oper.semAt_plain F _ _ (by rw [ho]; intro c hc'; cases hc')]
    simp [execOp, ho, hx, hy, Instr.storeAt, Instr.sureAddr, storeVar, sizeOf, typeInfo, hi', hs', Value.cells, hr, Result.andThen]
    exact hK' _ _ h
end
theorem en_new (w : World) (x : EnS) : IsSl (w.alloc (.cells (enV x) 39)) 11 (some ⟨w.heap.size, 0, none⟩) 1 1 ([x].flatMap enCells) := by
  have := isSl_new w 39 11 1 (enV x) rfl (by decide)
  simpa [enCells] using this
/-- entries in memory of their own, the data's blocks rising -/
structure NewEn (w : World) (B : Nat) (a : Option Addr) (n c : Nat) (S : List EnS) : Prop where
  own : w.ownsRow B 39 11 (.slice a n c) n (S.flatMap enCells)
  dat : ∀ x ∈ S, Own w B x.2 x.1.data
  rise : S.Pairwise fun x y => ∀ b b', blk x.2 = some b → blk y.2 = some b' → b < b'
theorem NewEn.ens {w : World} {B : Nat} {a : Option Addr} {n c : Nat} {S : List EnS} (h : NewEn w B a n c S) : Ens w a n c S := ⟨own_isSl h.own, fun x hx => (h.dat x hx).dat⟩
theorem NewEn.len {w : World} {B : Nat} {a : Option Addr} {n c : Nat} {S : List EnS} (h : NewEn w B a n c S) : S.length = n := h.ens.len
theorem NewEn.nil (w : World) (B : Nat) : NewEn w B none 0 0 [] := ⟨World.ownsRow_nil _ _ _ _, by simp, List.Pairwise.nil⟩
theorem NewEn.below {w w' : World} {B : Nat} {a : Option Addr} {n c : Nat} {S : List EnS} (h : NewEn w B a n c S) (k : Below w.heap.size w w') : NewEn w' B a n c S :=
  ⟨own_keep h.own (fun j _ hj => k.block j hj), fun x hx => own_keep (h.dat x hx) (fun j _ hj => k.block j hj), h.rise⟩
theorem NewEn.grown {w w' : World} {B : Nat} {a : Option Addr} {n c : Nat} {S : List EnS} (h : NewEn w B a n c S) {row : Option Nat} (hg : w.grownBy w' row) (hr : ∀ r, row = some r → ∀ cs, w.heap[r]? ≠ some (.cells cs 39) ∧ w.heap[r]? ≠ some (.cells cs 5)) : NewEn w' B a n c S := by
  have hot : ∀ {t sz n' v xs}, w.ownsRow B t sz v n' xs → (∀ r, row = some r → ∀ cs, w.heap[r]? ≠ some (.cells cs t)) → w'.ownsRow B t sz v n' xs := fun ho hne => by
    refine own_grown ho hg ?_
    rcases own_cases (v := _) with hb | ⟨b, hb⟩
    · exact Or.inl hb
    · right
      intro e
      obtain ⟨cur, hc⟩ := own_row ho hb
      exact hne b (by rw [← e, hb]) cur hc
  exact ⟨hot h.own (fun r e cs => (hr r e cs).1), fun x hx => hot (h.dat x hx) (fun r e cs => (hr r e cs).2), h.rise⟩
/-- an entry more, in a box -/
theorem NewEn.snoc {w0 w1 w2 : World} {B OB t n0 c0 : Nat} {a0 a a' : Option Addr} {c c' : Nat} {S : List EnS} {x : EnS} (h0 : NewEn w0 B a0 n0 c0 S) (h : NewEn w1 B a S.length c S) (hx : Own w1 w0.heap.size x.2 x.1.data) (hB : B ≤ w0.heap.size)
    (hbox : w1.heap[OB]? = some (.cells #[.slice a S.length c] t)) (ht : t ≠ 39) (ht2 : t ≠ 5)
    (hg : (w1.alloc (.cells (enV x) 39)).grownBy w2 (Value.slice a S.length c).ownBlock) (ho : w2.ownsRow B 39 11 (.slice a' (S.length + 1) c') (S.length + 1) (S.flatMap enCells ++ [x].flatMap enCells)) :
    NewEn (w2.setCell ⟨OB, 0, none⟩ (.slice a' (S.length + 1) c')) B a' (S ++ [x]).length c' (S ++ [x]) ∧ (w2.setCell ⟨OB, 0, none⟩ (.slice a' (S.length + 1) c')).heap[OB]? = some (.cells #[.slice a' (S ++ [x]).length c'] t) := by
  have hA : Below w1.heap.size w1 (w1.alloc (.cells (enV x) 39)) := (Below.refl _ _).alloc (Nat.le_refl _) _
  have h1 := h.below hA
  have hb1 := row_below hbox hA
  have hb2 := row_grown hb1 hg (fun e => own_ne_row h1.own hb1 (fun e => ht e.symm) e.symm)
  have hd : ∀ {B' : Nat} {s : Sl} {l : Bt}, Own w1 B' s l → Own (w2.setCell ⟨OB, 0, none⟩ (.slice a' (S.length + 1) c')) B' s l := fun hs =>
    own_cell (own_other (own_keep hs (fun j _ hj => hA.block j hj)) h1.own (by decide) hg) hb2 (fun e => ht2 e.symm)
  have hl : (S ++ [x]).length = S.length + 1 := by simp
  refine ⟨⟨?_, ?_, ?_⟩, ?_⟩
  · rw [hl, List.flatMap_append]
    exact own_cell ho hb2 (fun e => ht e.symm)
  · intro y hy
    rcases List.mem_append.1 hy with hy | hy
    · exact hd (h.dat y hy)
    · rw [List.mem_singleton] at hy
      subst hy
      exact hd (own_base hx hB)
  · rw [List.pairwise_append]
    refine ⟨h.rise, List.pairwise_singleton _ _, fun y hy z hz b b' hb hb' => ?_⟩
    rw [List.mem_singleton] at hz
    subst hz
    have e1 := ((h0.dat y hy).lt b hb).2
    have e2 := (hx.lt b' hb').1
    omega
  · rw [hl]
    simpa using setCell_row hb2 (j := 0) (.slice a' (S.length + 1) c')
end Gr
end Go.Proofs.Ytpdkdhcbibcifaa
