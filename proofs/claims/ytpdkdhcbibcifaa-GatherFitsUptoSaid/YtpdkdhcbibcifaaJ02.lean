/-
  J02: Rowm, GrMem, Valid, GrSound, GrGood, GrEnter, GrLine, joined.
-/
import Derived.Test.YtpdkdhcbibcifaaJ01
import Derived.Deep.MidRow
import Derived.Lib.LazyBuf
import Derived.Test.YtpdkdhcbibcifaaShelf
import Derived.BigQuiet
import Derived.Lib.SpaceUEq
import Derived.Lib.IndexAny
import Derived.Laws.RangeString
import Derived.Laws.RangeAny
import Derived.Laws.Strings3
import Derived.Lib.OthersKept
import Derived.Deep.LoopGhost
import Derived.WalkMore
import Derived.LoopN
import Derived.StillTailTactics
import Derived.Laws.Cover1
namespace Go.Proofs.Ytpdkdhcbibcifaa
set_option linter.unusedVariables false
set_option linter.unusedSimpArgs false
open Go.ChangeShapes Go.WideShapes Go.ChangeAt Go.RowKit
section
variable {P : Program} {ops : Array Oper} {rest : List Oper} {o : Oper} {a : Act} {w : World} {Q : Exit → Act → World → Prop} {K : Act → World → Prop}
theorem foldl_set (k : Nat) : ∀ (l : List Value) (i : Nat) (z : Array Value), k + i + l.length ≤ z.size →
    (l.zipIdx i).foldl (fun (cs : Array Value) (p : Value × Nat) => cs.setIfInBounds (k + p.2) p.1) z = (z.toList.take (k + i) ++ l ++ z.toList.drop (k + i + l.length)).toArray
  | [], i, z, _ => by simp
  | v :: l, i, z, h => by
    have hi : k + i < z.toList.length := by simp at h ⊢; omega
    rw [List.zipIdx_cons, List.foldl_cons, foldl_set k l (i + 1) _ (by simp at h ⊢; omega)]
    congr 1
    have e := list_seg_step z.toList (k + i) v l (by simp at h ⊢; omega)
    simpa [Array.toList_setIfInBounds, Nat.add_assoc] using e
theorem fill_whole (z cs : Array Value) (sz : Nat) (hz : z.size = sz) (hc : cs.size = sz) : Instr.fill (fun i => some (i * sz, sz)) z [(0, .agg cs)] = some cs := by
  have h := foldl_set 0 cs.toList 0 z (by simp; omega)
  have e : (z.toList.take (0 + 0) ++ cs.toList ++ z.toList.drop (0 + 0 + cs.toList.length)).toArray = cs := by
    rw [List.drop_of_length_le (by simp; omega)]; simp
  rw [e] at h
  simp only [Instr.fill, Value.cells, Nat.zero_mul, hc]
  rw [if_neg (by simp [hz])]
  congr 1
  rw [← Array.foldl_toList]
  simpa using h
/-- a literal slice of one aggregate -/
theorem wpList_slice_one (hgd : o.guard = none) (t : TypeId) (x : Operand) (ho : o.op = .buildSlice t 1 #[(0, x)]) {e : TypeId} {z : Array Value} (ht : P.underlying t = some (.slice e)) (cs : Array Value) (hi : (P.info? e).map (fun i => (i.zero, i.size)) = some (some (.agg z), cs.size))
    (hzs : z.size = cs.size) (hpos : 0 < cs.size) (hlim : cs.size ≤ 16777216) (hx : a.eval x = .agg cs)
    (h : wpList P ops Q rest (a.put o.dst (.slice (some ⟨w.heap.size, 0, none⟩) 1 1)) (w.alloc (.cells cs e))) : wpList P ops Q (o :: rest) a w := by
  refine wpList_value hgd _ _ ?_ h
  obtain ⟨i, hi', hh⟩ := Option.map_eq_some_iff.1 hi
  simp only [Prod.mk.injEq] at hh
  obtain ⟨h0, h1⟩ := hh
  have hne : ¬ cs.size = 0 := by omega
  have hlim' : ¬ 16777216 < cs.size := by omega
  have hf := fill_whole ((Array.range (1 * cs.size)).map (z[· % z.size]!)) cs cs.size (by simp) rfl
  simp only [Nat.one_mul] at hf
  simp [execOp, ho, hx, Instr.buildSlice, run_underlying ht, sizeOf, zeroValue, typeInfo, hi', h0, h1, hne, hlim', Value.cells, hf, newRow, Result.andThen]
/-- an aggregate loaded out of cells that are known -/
theorem run_load_cells (ty : TypeId) (p : Addr) (cs : List Value) (d : TypeDesc) (hu : P.underlying ty = some d) (hd : (match d with | .struct _ | .array _ _ => true | _ => false) = true) (hi : (P.info? ty).map (·.size) = some cs.length)
    (hc : ∀ j v, cs[j]? = some v → w.cell? (p.add j) = some v) : (loadVar ty p).run P w = .ok (.agg cs.toArray) w := by
  obtain ⟨i, hi', hs⟩ := Option.map_eq_some_iff.1 hi
  have hl := run_loadCells_list (P := P) w p cs hc
  have hagg : (isAgg ty).run P w = .ok true w := by
    unfold isAgg
    rw [Sem.run_bind, run_underlying hu w]
    cases d <;> simp_all
  simp [loadVar, hagg, sizeOf, typeInfo, hi', hs, hl, Result.andThen]
theorem wpList_load_cells (hgd : o.guard = none) (ty : TypeId) (x : Operand) (ho : o.op = .load ty x) (p : Addr) (hx : a.eval x = .pointer (some p)) (cs : List Value) (d : TypeDesc) (hu : P.underlying ty = some d) (hd : (match d with | .struct _ | .array _ _ => true | _ => false) = true)
    (hi : (P.info? ty).map (·.size) = some cs.length) (hc : ∀ j v, cs[j]? = some v → w.cell? (p.add j) = some v) (h : wpList P ops Q rest (a.put o.dst (.agg cs.toArray)) w) : wpList P ops Q (o :: rest) a w := by
  refine wpList_value hgd _ _ ?_ h
  simp [execOp, ho, hx, Instr.loadAt, Instr.sureAddr, run_load_cells ty p cs d hu hd hi hc, Result.andThen]
/-- arr[:m] of an array behind a pointer -/
theorem wpList_slice_arr (hgd : o.guard = none) (t : TypeId) (x : Operand) (hi : Operand) (ho : o.op = .slice t x none (some hi) none) {e : TypeId} {n : Nat} (ht : P.underlying t = some (.array n e)) (hsz : ((P.info? e).map (·.size)).isSome = true) (hn : 0 < n)
    (p : Addr) (hx : a.eval x = .pointer (some p)) (M : Nat) (k : IntKind) (v : Int) (hM : a.eval hi = .int k v) (hv : v = (M : Int)) (h2 : M ≤ n)
    (h : wpList P ops Q rest (a.put o.dst (.slice (some p) M n)) w) : wpList P ops Q (o :: rest) a w := by
  refine wpList_value hgd _ _ ?_ h
  obtain ⟨s, hs⟩ := Option.isSome_iff_exists.1 hsz
  obtain ⟨i, hi', hs'⟩ := Option.map_eq_some_iff.1 hs
  have hne : ¬ n = 0 := by omega
  subst hv
  simp [execOp, ho, hx, hM, Instr.sliceAt, Instr.sureAddr, Instr.sliceBounds, Instr.sliceBound, run_underlying ht, sizeOf, typeInfo, hi', asIntOf, h2, hne, Addr.add, Result.andThen]
end
end Go.Proofs.Ytpdkdhcbibcifaa
namespace Go.Proofs.Ytpdkdhcbibcifaa
set_option linter.unusedVariables false
set_option linter.unusedSimpArgs false
open Go.ChangeShapes Go.WideShapes Go.ChangeAt Go.RowKit
namespace Gr
/-- a slice's header -/
abbrev Sl := Option Addr × Nat × Nat
def slV (s : Sl) : Value := .slice s.1 s.2.1 s.2.2
def sv (l : Bt) : Value := .string ⟨l.toArray⟩
abbrev LnS := Ln × Sl
def lnCells (x : LnS) : List Value := [.string ⟨x.1.path.toArray⟩, .int .i64 x.1.kind, .int .i64 x.1.mode, .int .i64 x.1.uid, .int .i64 x.1.gid, .int .i64 x.1.sec, .int .i64 x.1.nano, .slice x.2.1 x.2.2.1 x.2.2.2, .string ⟨x.1.target.toArray⟩, .string ⟨x.1.peer.toArray⟩]
def lnV (x : LnS) : Array Value := #[.string ⟨x.1.path.toArray⟩, .int .i64 x.1.kind, .int .i64 x.1.mode, .int .i64 x.1.uid, .int .i64 x.1.gid, .int .i64 x.1.sec, .int .i64 x.1.nano, .slice x.2.1 x.2.2.1 x.2.2.2, .string ⟨x.1.target.toArray⟩, .string ⟨x.1.peer.toArray⟩]
theorem lnV_list (x : LnS) : (lnV x).toList = lnCells x := rfl
theorem lnCells_len (x : LnS) : (lnCells x).length = 10 := rfl
abbrev NdS := Nd × Sl × Sl
def ndCells (x : NdS) : List Value := [.int .i64 x.1.id, .int .i64 x.1.kind, .int .i64 x.1.mode, .int .i64 x.1.uid, .int .i64 x.1.gid, .int .i64 x.1.sec, .int .i64 x.1.nano, .slice x.2.1.1 x.2.1.2.1 x.2.1.2.2, .string ⟨x.1.target.toArray⟩, .slice x.2.2.1 x.2.2.2.1 x.2.2.2.2]
theorem ndCells_len (x : NdS) : (ndCells x).length = 10 := rfl
def etCells (e : Bt × Int) : List Value := [.string ⟨e.1.toArray⟩, .int .i64 e.2]
theorem etCells_len (e : Bt × Int) : (etCells e).length = 2 := rfl
/-- the bytes of a header -/
def Dat (w : World) (s : Sl) (l : Bt) : Prop := Bs w s.1 s.2.1 s.2.2 l
structure Lns (w : World) (a : Option Addr) (n c : Nat) (S : List LnS) : Prop where
  sl : IsSl w 10 a n c (S.flatMap lnCells)
  dat : ∀ x ∈ S, Dat w x.2 x.1.data
/-- the entries of a directory -/
def Ets (w : World) (s : Sl) (l : List (Bt × Int)) : Prop := IsSl w 2 s.1 s.2.1 s.2.2 (l.flatMap etCells)
structure Nds (w : World) (a : Option Addr) (n c : Nat) (S : List NdS) : Prop where
  sl : IsSl w 10 a n c (S.flatMap ndCells)
  dat : ∀ x ∈ S, Dat w x.2.1 x.1.data
  ent : ∀ x ∈ S, Ets w x.2.2 x.1.ents
theorem Lns.keep {w w' : World} {a : Option Addr} {n c : Nat} {S : List LnS} (h : Lns w a n c S) (k : Keeps w w') : Lns w' a n c S := ⟨k.sl h.sl, fun x hx => k.bs (h.dat x hx)⟩
theorem Lns.below {w w' : World} {a : Option Addr} {n c : Nat} {S : List LnS} (h : Lns w a n c S) (k : Below w.heap.size w w') : Lns w' a n c S := h.keep (Below.keeps k)
theorem Nds.keep {w w' : World} {a : Option Addr} {n c : Nat} {S : List NdS} (h : Nds w a n c S) (k : Keeps w w') : Nds w' a n c S := ⟨k.sl h.sl, fun x hx => k.bs (h.dat x hx), fun x hx => k.sl (h.ent x hx)⟩
theorem Nds.below {w w' : World} {a : Option Addr} {n c : Nat} {S : List NdS} (h : Nds w a n c S) (k : Below w.heap.size w w') : Nds w' a n c S := h.keep (Below.keeps k)
theorem Ets.keep {w w' : World} {s : Sl} {l : List (Bt × Int)} (h : Ets w s l) (k : Keeps w w') : Ets w' s l := k.sl h
theorem Lns.len {w : World} {a : Option Addr} {n c : Nat} {S : List LnS} (h : Lns w a n c S) : S.length = n := by have := h.sl.1; rw [flat_len lnCells_len] at this; omega
theorem Nds.len {w : World} {a : Option Addr} {n c : Nat} {S : List NdS} (h : Nds w a n c S) : S.length = n := by have := h.sl.1; rw [flat_len ndCells_len] at this; omega
theorem Ets.len {w : World} {s : Sl} {l : List (Bt × Int)} (h : Ets w s l) : l.length = s.2.1 := by have := h.1; rw [flat_len etCells_len] at this; omega
theorem Lns.cap {w : World} {a : Option Addr} {n c : Nat} {S : List LnS} (h : Lns w a n c S) : n ≤ c := h.sl.2.1
theorem Lns.max {w : World} {a : Option Addr} {n c : Nat} {S : List LnS} (h : Lns w a n c S) : c ≤ 9223372036854775807 := h.sl.2.2.1
theorem Nds.cap {w : World} {a : Option Addr} {n c : Nat} {S : List NdS} (h : Nds w a n c S) : n ≤ c := h.sl.2.1
theorem Nds.max {w : World} {a : Option Addr} {n c : Nat} {S : List NdS} (h : Nds w a n c S) : c ≤ 9223372036854775807 := h.sl.2.2.1
theorem Ets.cap {w : World} {s : Sl} {l : List (Bt × Int)} (h : Ets w s l) : s.2.1 ≤ s.2.2 := h.2.1
theorem Ets.max {w : World} {s : Sl} {l : List (Bt × Int)} (h : Ets w s l) : s.2.2 ≤ 9223372036854775807 := h.2.2.1
/-- element number k of a slice of aggregates: where it lies -/
theorem rows_at {α : Type} {f : α → List Value} {sz : Nat} (hf : ∀ x, (f x).length = sz) (hp : 0 < sz) {w : World} {a : Option Addr} {n c : Nat} {S : List α} (h : IsSl w sz a n c (S.flatMap f)) (k : Nat) (x : α) (hx : S[k]? = some x) :
    ∃ b off, a = some ⟨b, off, none⟩ ∧ w.rangeAt b (off + k * sz) (f x) := by
  have hk' : k < S.length := (List.getElem?_eq_some_iff.1 hx).1
  have e : S[k] = x := (List.getElem?_eq_some_iff.1 hx).2
  have h0 := flat_at hf S k 0 hk' hp
  rw [e] at h0
  obtain ⟨b, off, ha, _⟩ := h.2.2.2.1.at _ ((f x)[0]'(by rw [hf]; omega)) (by rw [h0]; exact List.getElem?_eq_getElem (by rw [hf]; omega))
  refine ⟨b, off, ha, fun j v hj => ?_⟩
  have hjs : j < sz := by have := (List.getElem?_eq_some_iff.1 hj).1; rw [hf] at this; exact this
  have hj' := flat_at hf S k j hk' hjs
  rw [e] at hj'
  obtain ⟨b', off', ha', hc⟩ := h.2.2.2.1.at _ v (by rw [hj']; exact hj)
  rw [ha] at ha'
  simp only [Option.some.injEq, Addr.mk.injEq, and_true] at ha'
  obtain ⟨rfl, rfl⟩ := ha'
  rw [Nat.add_assoc]
  exact hc
theorem Lns.at {w : World} {a : Option Addr} {n c : Nat} {S : List LnS} (h : Lns w a n c S) (k : Nat) (x : LnS) (hx : S[k]? = some x) : ∃ b off, a = some ⟨b, off, none⟩ ∧ w.rangeAt b (off + k * 10) (lnCells x) := rows_at lnCells_len (by decide) h.sl k x hx
theorem Nds.at {w : World} {a : Option Addr} {n c : Nat} {S : List NdS} (h : Nds w a n c S) (k : Nat) (x : NdS) (hx : S[k]? = some x) : ∃ b off, a = some ⟨b, off, none⟩ ∧ w.rangeAt b (off + k * 10) (ndCells x) := rows_at ndCells_len (by decide) h.sl k x hx
theorem Ets.at {w : World} {s : Sl} {l : List (Bt × Int)} (h : Ets w s l) (k : Nat) (x : Bt × Int) (hx : l[k]? = some x) : ∃ b off, s.1 = some ⟨b, off, none⟩ ∧ w.rangeAt b (off + k * 2) (etCells x) := rows_at etCells_len (by decide) h k x hx
theorem range_keep {w w' : World} {b o : Nat} {cs : List Value} (h : w.rangeAt b o cs) (k : Keeps w w') : w'.rangeAt b o cs := fun j v hj => k _ _ (h j v hj)
theorem range_cell {w : World} {b o : Nat} {cs : List Value} (h : w.rangeAt b o cs) (j : Nat) {v : Value} (hj : cs[j]? = some v) : w.cell? ⟨b, o + j, none⟩ = some v := h j v hj
theorem get_some {α : Type} {S : List α} {k : Nat} (h : k < S.length) : ∃ x, S[k]? = some x := ⟨S[k], List.getElem?_eq_getElem h⟩
theorem mem_get {α : Type} {S : List α} {k : Nat} {x : α} (h : S[k]? = some x) : x ∈ S := List.mem_of_getElem? h
/-- data in memory of their own -/
def Own (w : World) (B : Nat) (s : Sl) (l : Bt) : Prop := w.ownsRow B 5 1 (.slice s.1 s.2.1 s.2.2) s.2.1 (l.map u8v)
theorem Own.dat {w : World} {B : Nat} {s : Sl} {l : Bt} (h : Own w B s l) : Dat w s l := own_isSl h
set_option maxRecDepth 100000 in
set_option maxHeartbeats 800000 in
theorem Clone_any (s : Sl) (x : Bt) (w : World) (ha : Dat w s x) (hn : s.2.1 ≤ 140737488355328) :
    Calls Try.prog 37 #[.slice s.1 s.2.1 s.2.2] w fun r w' => ∃ a n c, r = .returned (.slice a n c) ∧ Own w' w.heap.size (a, n, c) x ∧ Below w.heap.size w w' := by
  obtain ⟨a, n, c⟩ := s
  simp only [Dat] at ha hn ⊢
  obtain rfl := ha.len
  have ho0 := World.ownsRow_lit (base := w.heap.size) (e := 5) (size := 1) w #[] 0 (Nat.le_refl _) (by decide) rfl
  have hq := fun (w : World) (a : Option Addr) (l c : Nat) => _root_.Go.run_eql_slice_nil (P := Try.prog) w 37 5 a l c Try.underlying37
  cases a with
  | none =>
    obtain ⟨h1, h2⟩ := ha.2.2.2.2 rfl
    obtain rfl : x = [] := List.eq_nil_of_length_eq_zero h1
    subst h2
    go_enter Try.func37, Try.ntmps37
    go_wp2
    go_ret
    exact ⟨none, 0, 0, rfl, World.ownsRow_nil _ _ _ _, Below.refl _ _⟩
  | some p =>
    go_enter Try.func37, Try.ntmps37
    go_wp2_with (at_builtin; refine wpList_app rfl _ _ 37 rfl w.heap.size 5 _ 1 1 Try.underlying37 infoU8 rfl (by decide) (by decide) rfl ho0 rfl ((Keeps.alloc w _).bs ha) (bytes_oneCell x) (by omega) (by simp) ?_; intro a1 c1 w1 ho hg)
    go_ret
    simp only [Nat.zero_add, List.nil_append] at ho ⊢
    exact ⟨a1, _, c1, rfl, ho, below_app ((Below.refl _ _).alloc (Nat.le_refl _) _) ho0 hg (Nat.le_refl _) (by simp)⟩
set_option maxRecDepth 100000 in
set_option maxHeartbeats 800000 in
theorem Equal_any (s t : Sl) (x y : Bt) (w : World) (ha : Dat w s x) (hb : Dat w t y) :
    Calls Try.prog 50 #[.slice s.1 s.2.1 s.2.2, .slice t.1 t.2.1 t.2.2] w fun e w' => e = .returned (.bool (decide (x = y))) ∧ Below w.heap.size w w' := by
  obtain ⟨a, n, c⟩ := s
  obtain ⟨b, m, d⟩ := t
  simp only [Dat] at ha hb ⊢
  have hx := ha.len; have hy := hb.len; have c1 := ha.cap; have c2 := hb.cap; have m1 := ha.max; have m2 := hb.max
  by_cases hnm : n = m
  · subst hnm
    have hn : ((n : Int) != n) = false := by simp
    generalize hr : decide (x = y) = r
    have HR := Lib.hid hr; clear hr
    have HX := Lib.hid hx; have HY := Lib.hid hy; clear hx hy
    go_enter Try.func50, Try.ntmps50
    go_wp2
    go_loopw [13] (fun i wr => ∃ k : Nat, k ≤ n ∧ i = .int .i64 k ∧ Hid (x.take k = y.take k) ∧ Below w.heap.size w wr) (fun i _ => n - (intOf i).toNat)
    case atStart => exact ⟨0, Nat.zero_le _, rfl, (rfl : x.take 0 = y.take 0), Below.refl _ _⟩
    case round =>
      obtain ⟨k, hk, rfl, heq, hbel⟩ := hrel
      by_cases hlt : k < n
      · obtain ⟨b1, o1, rfl, h1⟩ := (Below.bs hbel ha).at k hlt
        obtain ⟨b2, o2, rfl, h2⟩ := (Below.bs hbel hb).at k hlt
        clear ha hb
        generalize hg1 : ((x.getD k 0).toNat : Int) = g1 at h1
        generalize hg2 : ((y.getD k 0).toNat : Int) = g2 at h2
        have HG1 := Lib.hid hg1; have HG2 := Lib.hid hg2; clear hg1 hg2
        by_cases hne : g1 = g2
        · have hz : (g1 != g2) = false := bne_f hne
          have HE := Lib.hid hne; clear hne
          go_wp2
          go_quiet (fail)
          go_wp2
          exact ⟨⟨k + 1, by omega, by go_num, same_step (by have := HX.out; omega) (by have := HX.out; have := HY.out; omega) heq (by rw [HG1.out, HG2.out, HE.out]), Below.drewN hbel _⟩, by simp [intOf]; omega⟩
        · have hz : (g1 != g2) = true := bne_t hne
          have HE := Lib.hid hne; clear hne
          go_wp2
          go_quiet (fail)
          go_wp2
          go_ret
          exact ⟨ret_bool (by rw [← HR.out]; exact (same_no (k := k) (by rw [HG1.out, HG2.out]; exact HE.out)).symm), Below.drewN hbel _⟩
      · obtain rfl : k = n := by omega
        go_wp2
        go_ret
        refine ⟨ret_bool ?_, hbel⟩
        have h1 := HX.out; have h2 := HY.out; have h3 := heq.out
        rw [List.take_of_length_le (by omega), List.take_of_length_le (by omega)] at h3
        rw [← HR.out]; simp [h3]
  · have hne : decide (x = y) = false := by
      simp only [decide_eq_false_iff_not]; intro h; subst h; omega
    rw [hne]; clear hne
    have hn : ((n : Int) != m) = true := by rw [bne_iff_ne]; omega
    go_enter Try.func50, Try.ntmps50
    go_wp2
    go_ret
    exact ⟨rfl, Below.refl _ _⟩
end Gr
end Go.Proofs.Ytpdkdhcbibcifaa
namespace Go.Proofs.Ytpdkdhcbibcifaa
set_option linter.unusedVariables false
set_option linter.unusedSimpArgs false
open Go.ChangeShapes Go.WideShapes Go.ChangeAt Go.RowKit
namespace Plain
/-- is it a valid time? -/
def valid (sec nano : Int) : Bool := decide (0 ≤ nano) && decide (nano < 1000000000) && decide (-1099511627777 ≤ sec) && decide (sec ≤ 1099511627776) && !(decide (sec = -1099511627777) && decide (nano = 0))
end Plain
theorem Valid_any (s n : Int) (w : World) : Calls Try.prog 36 #[.agg #[.int .i64 s, .int .i64 n]] w fun e w' => e = .returned (.bool (Plain.valid s n)) ∧ Below w.heap.size w w' := by
  generalize hr : Plain.valid s n = r
  have HR := Lib.hid hr; clear hr
  go_enter Try.func36, Try.ntmps36
  go_wp2
  all_goals
    go_ret
    refine ⟨ret_bool ?_, (Below.refl _ _).alloc (Nat.le_refl _) _⟩
    rw [← HR.out, Bool.eq_iff_iff]
    try simp only [beq_iff_eq, beq_eq_false_iff_ne, ne_eq] at *
    simp [Plain.valid]
    try omega
theorem RefValid_any (s n : Int) (w : World) : Calls Try.prog 69 #[.agg #[.int .i64 s, .int .i64 n]] w fun e w' => e = .returned (.bool (Plain.valid s n)) ∧ Below w.heap.size w w' := by
  generalize hr : Plain.valid s n = r
  have HR := Lib.hid hr; clear hr
  go_enter Try.func69, Try.ntmps69
  go_wp2
  all_goals
    go_ret
    refine ⟨ret_bool ?_, (Below.refl _ _).alloc (Nat.le_refl _) _⟩
    rw [← HR.out, Bool.eq_iff_iff]
    try simp only [beq_iff_eq, beq_eq_false_iff_ne, ne_eq] at *
    simp [Plain.valid]
    try omega
end Go.Proofs.Ytpdkdhcbibcifaa
namespace Go.Proofs.Ytpdkdhcbibcifaa
set_option linter.unusedVariables false
set_option linter.unusedSimpArgs false
open Go.ChangeShapes Go.WideShapes Go.ChangeAt Go.RowKit
namespace Gr
def wi (v lo hi : Int) : Bool := decide (lo ≤ v) && decide (v ≤ hi)
set_option maxRecDepth 100000 in
theorem within_any (v lo hi : Int) (w : World) : Calls Try.prog 62 #[.int .i64 v, .int .i64 lo, .int .i64 hi] w fun r w' => r = .returned (.bool (wi v lo hi)) ∧ w = w' := by
  generalize hr : wi v lo hi = r
  have HR := Lib.hid hr; clear hr
  go_enter Try.func62, Try.ntmps62
  go_wp2
  all_goals
    go_ret
    refine ⟨ret_bool ?_, rfl⟩
    rw [← HR.out]
    simp [wi]
    try omega
theorem index0 : ∀ (l : Bt) (c : UInt8), (Lib.indexByte l c < 0) ↔ c ∉ l
  | [], c => by simp [Lib.indexByte]
  | b :: l, c => by
    have ih := index0 l c
    unfold Lib.indexByte
    by_cases h : b = c
    · subst h; simp
    · rw [if_neg (by simpa using h)]
      have h' : ¬ c = b := fun e => h e.symm
      simp only [List.mem_cons, h', false_or]
      rw [← ih]
      have := Lib.indexByte_ge l c
      split
      · rename_i h1; simp at h1; omega
      · rename_i h1; simp at h1; omega
set_option maxRecDepth 100000 in
set_option maxHeartbeats 800000 in
theorem text_any (b o : Nat) (x : NdS) (w : World) (h : w.rangeAt b o (ndCells x)) :
    Calls Try.prog 63 #[.pointer (some ⟨b, o, none⟩)] w fun r w' => r = .returned (.bool (textOk x.1.kind x.1.target)) ∧ w = w' := by
  obtain ⟨⟨id, kind, mode, uid, gid, sec, nano, data, target, ents⟩, d, e⟩ := x
  have c1 := range_cell h 1 rfl
  have c8 := range_cell h 8 rfl
  simp only at c1 c8 ⊢
  have hi := Try.strings_IndexByte ⟨target.toArray⟩ 0
  have hz := index0 target 0
  have hlen : (⟨target.toArray⟩ : ByteArray).size = target.length := rfl
  simp only [List.toList_toArray] at hi
  have hz0 : (Int.toNat 0).toUInt8 = 0 := rfl
  rw [hz0] at hi
  generalize Lib.indexByte target 0 = j at *
  generalize hr : textOk kind target = r
  have HR := Lib.hid hr
  have HZ := Lib.hid hz
  have HI := Lib.hid hi
  clear hr hz hi h
  go_enter Try.func63, Try.ntmps63
  go_wp2_with (go_at_call 48; (refine (HI.out _).mono ?_); rintro r w1 ⟨rfl, rfl⟩)
  all_goals
    go_ret
    refine ⟨ret_bool ?_, rfl⟩
    rw [← HR.out, Bool.eq_iff_iff]
    have hz := HZ.out
    clear HR HZ HI c1 c8
    rcases Decidable.em (kind = 3) with hk | hk <;> simp_all [textOk] <;> omega
set_option maxRecDepth 100000 in
set_option maxHeartbeats 3200000 in
theorem sound_any (b o : Nat) (x : NdS) (w : World) (h : w.rangeAt b o (ndCells x)) (hd : Dat w x.2.1 x.1.data) (he : Ets w x.2.2 x.1.ents) :
    Calls Try.prog 56 #[.pointer (some ⟨b, o, none⟩)] w fun r w' => r = .returned (.bool (sound x.1)) ∧ Below w.heap.size w w' := by
  have HR2 := Lib.hid h
  have HT := Lib.hid (fun w' h => text_any b o x w' h)
  have hdl := hd.len
  have hel := he.len
  obtain ⟨⟨id, kind, mode, uid, gid, sec, nano, data, target, ents⟩, ⟨da, dn, dc⟩, ⟨ea, en, ec⟩⟩ := x
  have c1 := range_cell h 1 rfl
  have c2 := range_cell h 2 rfl
  have c3 := range_cell h 3 rfl
  have c4 := range_cell h 4 rfl
  have c5 := range_cell h 5 rfl
  have c6 := range_cell h 6 rfl
  have c7 := range_cell h 7 rfl
  have c9 := range_cell h 9 rfl
  have hv : validT sec nano = Plain.valid sec nano := by
    rw [Bool.eq_iff_iff]
    simp only [validT, Plain.valid, Bool.and_eq_true, decide_eq_true_eq, Bool.not_eq_true', Bool.and_eq_false_iff, decide_eq_false_iff_not]
    omega
  have hm : w.rangeAt b (o + 5) [.int .i64 sec, .int .i64 nano] := fun j v hj => by
    rcases j with _ | _ | j
    · simp at hj; subst hj; exact c5
    · simp at hj; subst hj; exact c6
    · simp at hj
  simp only at c1 c2 c3 c4 c5 c6 c7 c9 hdl hel HT ⊢
  have HV := Lib.hid (Valid_any sec nano w)
  have HM := Lib.hid hm
  have HW := Lib.hid (fun v lo hi w => within_any v lo hi w)
  generalize hr : sound _ = r
  simp only [sound, hv] at hr
  have hde : (data == []) = decide (dn = 0) := by
    rw [← hdl]; cases data <;> simp
  have hee : ents.isEmpty = decide (en = 0) := by
    rw [← hel]; cases ents <;> simp
  have hwi : decide (1 ≤ kind ∧ kind ≤ 3 ∧ 0 ≤ mode ∧ mode ≤ 4095 ∧ 0 ≤ uid ∧ uid ≤ 2147483647 ∧ 0 ≤ gid ∧ gid ≤ 2147483647) = (wi kind 1 3 && wi mode 0 4095 && wi uid 0 2147483647 && wi gid 0 2147483647) := by
    rw [Bool.eq_iff_iff]
    simp only [wi, Bool.and_eq_true, decide_eq_true_eq]
    constructor
    · rintro ⟨a, b, c, d, e, f, g, h⟩; exact ⟨⟨⟨⟨a, b⟩, c, d⟩, e, f⟩, g, h⟩
    · rintro ⟨⟨⟨⟨a, b⟩, c, d⟩, e, f⟩, g, h⟩; exact ⟨a, b, c, d, e, f, g, h⟩
  rw [hwi, hde, hee] at hr
  clear hde hee hwi
  have HR := Lib.hid hr
  have HDL := Lib.hid hdl; have HEL := Lib.hid hel
  clear hr hv hm h hd he c5 c6 hdl hel
  have HT2 := Lib.hid (fun w' (hb : Below w.heap.size w w') => HT.out w' (range_keep HR2.out (Below.keeps hb)))
  generalize textOk kind target = bt at *
  generalize Plain.valid sec nano = bv at *
  go_enter Try.func56, Try.ntmps56
  go_wp2_with (first
    | (go_at_call 62; (refine (HW.out _ _ _ _).mono ?_); rintro r w1 ⟨rfl, rfl⟩)
    | (refine wpList_load_mid rfl _ _ rfl b (o + 5) rfl _ _ HM.out Try.underlying36 rfl (by kernel_rfl) ?_)
    | (go_at_call 36; (refine (HV.out).mono ?_); rintro r w1 ⟨rfl, hb1⟩)
    | (go_at_call 63; (refine (HT2.out _ hb1).mono ?_); rintro r w2 ⟨rfl, rfl⟩))
  all_goals
    go_ret
    refine ⟨ret_bool ?_, by first | exact Below.refl _ _ | assumption⟩
    rw [← HR.out]
    clear HR HDL HEL HT HT2 HV HM HW HR2
    simp_all
  all_goals try omega
end Gr
end Go.Proofs.Ytpdkdhcbibcifaa
namespace Go.Proofs.Ytpdkdhcbibcifaa
set_option linter.unusedVariables false
set_option linter.unusedSimpArgs false
open Go.ChangeShapes Go.WideShapes Go.ChangeAt Go.RowKit
namespace Gr
/-- the rune at a place, and how far it goes -/
theorem dec_facts (s : ByteArray) (pos : Nat) (h : pos < s.data.toList.length) :
    ((s.data.toList.getD pos 0).toNat < 128 ∧ Utf8.decode s pos = ((s.data.toList.getD pos 0).toNat, 1)) ∨
    (128 ≤ (s.data.toList.getD pos 0).toNat ∧ 128 ≤ (Utf8.decode s pos).1 ∧ (Utf8.decode s pos).1 ≤ 1114111 ∧ 1 ≤ (Utf8.decode s pos).2 ∧ pos + (Utf8.decode s pos).2 ≤ s.data.toList.length ∧ ∀ j, pos ≤ j → j < pos + (Utf8.decode s pos).2 → 128 ≤ (s.data.toList.getD j 0).toNat) := by
  have hr := Lib.rune_le s pos
  have hw := Lib.width_pos s pos
  rw [Lib.decode_N] at hr hw ⊢
  generalize hl : s.data.toList = l at *
  generalize hn : l.length - pos = n at *
  generalize h0 : (l.getD pos 0).toNat = b0 at *
  generalize h1 : (l.getD (pos + 1) 0).toNat = b1 at *
  generalize h2 : (l.getD (pos + 2) 0).toNat = b2 at *
  generalize h3 : (l.getD (pos + 3) 0).toNat = b3 at *
  by_cases hb : b0 < 128
  · left
    exact ⟨hb, Lib.decodeN_ascii _ _ _ _ _ hb⟩
  · right
    obtain ⟨c1, c2, c3, c4⟩ := Lib.decodeN_conts n b0 b1 b2 b3
    have hge : 128 ≤ (Lib.decodeN n b0 b1 b2 b3).1 := by
      unfold Lib.decodeN
      repeat' split
      all_goals (simp only; omega)
    generalize Lib.decodeN n b0 b1 b2 b3 = p at *
    obtain ⟨r, m⟩ := p
    simp only at *
    refine ⟨by omega, hge, hr, hw, by omega, fun j hj1 hj2 => ?_⟩
    have : j = pos ∨ j = pos + 1 ∨ j = pos + 2 ∨ j = pos + 3 := by omega
    rcases this with rfl | rfl | rfl | rfl <;> omega
theorem enc_two (r : Int) (h : 128 ≤ r) (h2 : r < 2048) : ∃ x y : UInt8, Utf8.encode r = ⟨#[x, y]⟩ ∧ 128 ≤ y.toNat := by
  have hv : Utf8.valid r = true := by simp [Utf8.valid]; omega
  have a : ¬ r.toNat < 128 := by omega
  have b : r.toNat < 2048 := by omega
  refine ⟨_, _, by simp only [Utf8.encode, hv, if_true]; rw [if_neg a, if_pos b], ?_⟩
  have : (128 + r.toNat % 64) < 256 := by omega
  simp [UInt8.toNat_ofNat']
  omega
theorem enc_more (r : Int) (h : 2048 ≤ r) : ∃ l : List UInt8, Utf8.encode r = ⟨l.toArray⟩ ∧ (l.length = 3 ∨ l.length = 4) := by
  simp only [Utf8.encode]
  split
  · have a : ¬ r.toNat < 128 := by omega
    have b : ¬ r.toNat < 2048 := by omega
    rw [if_neg a, if_neg b]
    split
    · exact ⟨[_, _, _], rfl, Or.inl rfl⟩
    · exact ⟨[_, _, _, _], rfl, Or.inr rfl⟩
  · exact ⟨[_, _, _], rfl, Or.inl rfl⟩
def sl0 : ByteArray := ⟨#[47, 0]⟩
set_option maxRecDepth 1000000 in
set_option maxHeartbeats 4000000 in
theorem IndexRune_err (w : World) : Calls Try.prog 71 #[.string ⟨#[47, 0]⟩, .int .i32 65533] w fun e w' => e = .returned (.int .i64 (-1)) ∧ Below w.heap.size w w' := by
  have hsz : (⟨#[47, 0]⟩ : ByteArray).size = 2 := rfl
  go_enter Try.func71, Try.ntmps71
  go_wp2_with fail
  go_loopg [5, 6] 2 (fun g _ _ wx => ∃ i : Nat, i + g = 2 ∧ wx = w.iter ⟨#[47, 0]⟩ i)
  case atStart => exact ⟨0, by omega, rfl⟩
  case round =>
    obtain ⟨i, hig, rfl⟩ := hrel
    cases gk with
    | zero =>
      obtain rfl : i = 2 := by omega
      have hnx := run_next_end (P := Try.prog) w ⟨#[47, 0]⟩ 2
      go_wp2_with fail
      go_ret
      exact ⟨rfl, (Below.refl _ _).alloc (Nat.le_refl _) _⟩
    | succ g =>
      have hi : i = 0 ∨ i = 1 := by omega
      rcases hi with rfl | rfl
      · have hnx := fun ty => run_next_ascii (P := Try.prog) w ⟨#[47, 0]⟩ 0 ty (by decide) (by decide)
        go_wp2_with fail
        go_roundg g
        case measure => omega
        case rel => exact ⟨1, by omega, rfl⟩
      · have hnx := fun ty => run_next_ascii (P := Try.prog) w ⟨#[47, 0]⟩ 1 ty (by decide) (by decide)
        go_wp2_with fail
        go_roundg g
        case measure => omega
        case rel => exact ⟨2, by omega, rfl⟩
set_option maxRecDepth 1000000 in
set_option maxHeartbeats 4000000 in
theorem IndexRune_two (r : Int) (h : 128 ≤ r) (h2 : r < 2048) (w : World) : Calls Try.prog 71 #[.string ⟨#[47, 0]⟩, .int .i32 r] w fun e w' => e = .returned (.int .i64 (-1)) ∧ Below w.heap.size w w' := by
  obtain ⟨x, y, he, hy⟩ := enc_two r h h2
  have hsz : (⟨#[47, 0]⟩ : ByteArray).size = 2 := rfl
  have hs2 : (⟨#[x, y]⟩ : ByteArray).size = 2 := rfl
  have hv : Lib.validRune r = true := by simp [Lib.validRune]; omega
  have hne : ¬ r = 65533 := by omega
  have hr3 : (r == 65533) = false := by simpa using hne
  have e1 : (⟨#[47, 0]⟩ : ByteArray)[1]'(by decide) = 0 := rfl
  have e2 : (⟨#[x, y]⟩ : ByteArray)[1]'(by show 1 < 2; decide) = y := rfl
  have e3 : ((0 : Int) != (y.toNat : Int)) = true := by rw [bne_iff_ne]; omega
  have e4 : (⟨#[47, 0]⟩ : ByteArray).extract 2 2 = ⟨#[]⟩ := rfl
  have e5 : (⟨#[47, 0]⟩ : ByteArray)[(1 : Int).toNat]'(by decide) = 0 := rfl
  have HI : Hid (∀ (c : Int) w, Calls Try.prog 48 #[.string ⟨#[]⟩, .int .u8 c] w fun e w' => e = .returned (.int .i64 (-1)) ∧ w' = w) := Lib.hid (fun (c : Int) w => Try.strings_IndexByte ⟨#[]⟩ c w)
  have HVR := Lib.hid (fun w => Try.utf8_ValidRune r w)
  rw [hv] at HVR
  clear hv
  go_enter Try.func71, Try.ntmps71
  go_wp2_with (first
    | (go_at_call 75; (refine (HVR.out _).mono ?_); rintro e w1 ⟨rfl, rfl⟩)
    | fail)
  go_step3
  go_wp2_with fail
  refine wp_loop_rounds 1 ?_
  rw [rounds_succ]
  go_wp2_with fail
  go_step3
  go_wp2_with fail
  go_quiet (fail)
  go_wp2_with fail
  go_region_with (go_at_call 48; (refine (HI.out _ _).mono ?_); rintro e w2 ⟨rfl, rfl⟩)
  all_goals
    go_wp2_with fail
    rw [Exit.noGoto_ret]
    go_wp2_with fail
    rw [Exit.noGoto_ret]
    go_ret
    exact ⟨rfl, Below.drewN (Below.refl _ _) _⟩
set_option maxRecDepth 1000000 in
set_option maxHeartbeats 4000000 in
theorem IndexRune_more (r : Int) (h : 2048 ≤ r) (hr : r ≠ 65533) (w : World) : Calls Try.prog 71 #[.string ⟨#[47, 0]⟩, .int .i32 r] w fun e w' => e = .returned (.int .i64 (-1)) ∧ Below w.heap.size w w' := by
  obtain ⟨l, he, hl⟩ := enc_more r h
  have hsz : (⟨#[47, 0]⟩ : ByteArray).size = 2 := rfl
  have hs2 : (⟨l.toArray⟩ : ByteArray).size = l.length := rfl
  have hr3 : (r == 65533) = false := by simpa using hr
  have HVR := Lib.hid (fun w => Try.utf8_ValidRune r w)
  generalize Lib.validRune r = v at *
  cases v with
  | false =>
    go_enter Try.func71, Try.ntmps71
    go_wp2_with (first
      | (go_at_call 75; (refine (HVR.out _).mono ?_); rintro e w1 ⟨rfl, rfl⟩)
      | fail)
    go_ret
    exact ⟨rfl, Below.refl _ _⟩
  | true =>
    go_enter Try.func71, Try.ntmps71
    go_wp2_with (first
      | (go_at_call 75; (refine (HVR.out _).mono ?_); rintro e w1 ⟨rfl, rfl⟩)
      | fail)
    go_step3
    go_wp2_with fail
    refine wp_loop_rounds 1 ?_
    rw [rounds_succ]
    go_wp2_with fail
    rw [Exit.noGoto_ret]
    go_ret
    exact ⟨rfl, Below.refl _ _⟩
theorem IndexRune_sl (r : Int) (h0 : 0 ≤ r) (h1 : r ≤ 1114111) (w : World) : Calls Try.prog 71 #[.string ⟨#[47, 0]⟩, .int .i32 r] w fun e w' => e = .returned (.int .i64 (if r = 47 then 0 else if r = 0 then 1 else -1)) ∧ Below w.heap.size w w' := by
  by_cases h : r < 128
  · refine (Try.strings_IndexRune_ascii ⟨#[47, 0]⟩ r w h0 h).mono ?_
    rintro e w' ⟨rfl, rfl⟩
    refine ⟨?_, Below.refl _ _⟩
    simp only [Lib.indexByte]
    have hb : r.toNat.toUInt8.toNat = r.toNat := by simp; omega
    by_cases h47 : r = 47
    · subst h47; rfl
    · rw [if_neg h47]
      have n1 : ¬ (47 : UInt8) = r.toNat.toUInt8 := fun e => by have := congrArg UInt8.toNat e; rw [hb] at this; simp at this; omega
      by_cases h00 : r = 0
      · subst h00; rfl
      · rw [if_neg h00]
        have n2 : ¬ (0 : UInt8) = r.toNat.toUInt8 := fun e => by have := congrArg UInt8.toNat e; rw [hb] at this; simp at this; omega
        simp [n1, n2]
  · rw [if_neg (by omega), if_neg (by omega)]
    by_cases h3 : r = 65533
    · subst h3; exact IndexRune_err w
    · by_cases h2 : r < 2048
      · exact IndexRune_two r (by omega) h2 w
      · exact IndexRune_more r (by omega) h3 w
/-- a number that is no less than 0 just if p holds -/
def RetI (w : World) (p : Prop) (r : Ending) (w' : World) : Prop := ∃ k, r = .returned (.int .i64 k) ∧ (0 ≤ k ↔ p) ∧ Below w.heap.size w w'
theorem iterAt_below {w wr : World} (hb : Below w.heap.size w wr) (s : ByteArray) (pos : Nat) : Below w.heap.size w (wr.iterAt w.heap.size s pos) :=
  hb.trans ⟨rfl, rfl, rfl, by simp [World.iterAt], fun k hk => by simp only [World.iterAt]; rw [Array.getElem?_setIfInBounds_ne (by omega)]⟩
def NoSl (l : Bt) (i : Nat) : Prop := ∀ j, j < i → j < l.length → l.getD j 0 ≠ 47 ∧ l.getD j 0 ≠ 0
theorem NoSl.none {l : Bt} (h : NoSl l l.length) : ¬ (47 ∈ l ∨ 0 ∈ l) := by
  rintro (hm | hm)
  · obtain ⟨j, hj, e⟩ := List.mem_iff_getElem.1 hm
    have := (h j hj hj).1
    simp [List.getD, List.getElem?_eq_getElem hj, e] at this
  · obtain ⟨j, hj, e⟩ := List.mem_iff_getElem.1 hm
    have := (h j hj hj).2
    simp [List.getD, List.getElem?_eq_getElem hj, e] at this
theorem getD_mem {l : Bt} {i : Nat} (h : i < l.length) : l.getD i 0 ∈ l := by
  simp [List.getD, List.getElem?_eq_getElem h]
set_option maxRecDepth 1000000 in
set_option maxHeartbeats 4000000 in
theorem IndexAny_short (l : Bt) (w : World) (h8 : l.length ≤ 8) : Calls Try.prog 70 #[.string ⟨l.toArray⟩, .string ⟨#[47, 0]⟩] w (RetI w (47 ∈ l ∨ 0 ∈ l)) := by
  have hsz : (⟨l.toArray⟩ : ByteArray).size = l.length := rfl
  have hs2 : (⟨#[47, 0]⟩ : ByteArray).size = 2 := rfl
  have h8z : decide ((8 : Int) < ((⟨l.toArray⟩ : ByteArray).size : Int)) = false := decide_eq_false (by rw [hsz]; omega)
  have HU := Lib.hid (fun (w : World) => Try.strings_shouldUseASCIISet ((⟨l.toArray⟩ : ByteArray).size : Int) w)
  rw [h8z] at HU
  have HR := Lib.hid (fun r h0 h1 w => IndexRune_sl r h0 h1 w)
  have HDF := Lib.hid (fun i h => dec_facts ⟨l.toArray⟩ i h)
  simp only [List.toList_toArray] at HDF
  clear h8z
  go_enter Try.func70, Try.ntmps70
  go_wp2_with (first | (go_at_call 72; (refine (HU.out _).mono ?_); rintro e w1 ⟨rfl, hw1⟩; obtain rfl := hw1.symm) | fail)
  go_loopg [9, 10] l.length (fun g _ _ wx => ∃ i : Nat, i + g = l.length ∧ wx.heap[w.heap.size]? = some (.stringIter ⟨l.toArray⟩ i) ∧ Hid (Below w.heap.size w wx) ∧ Hid (NoSl l i))
  case atStart => exact ⟨0, by omega, World.iter_heap _ _ _, Lib.hid ((Below.refl _ _).alloc (Nat.le_refl _) _), Lib.hid (fun j hj => by omega)⟩
  case round =>
    obtain ⟨i, hig, hit, hbel, hno⟩ := hrel
    have hbs := hbel.out.size
    have hkl : w.heap.size < wr.heap.size := (Array.getElem?_eq_some_iff.1 hit).1
    have HIT := Lib.hid hit
    cases gk with
    | zero =>
      obtain rfl : i = l.length := by omega
      have hnx := fun ty => Lib.run_next_end_at (P := Try.prog) wr w.heap.size ⟨l.toArray⟩ l.length ty hit (by rw [hsz]; omega)
      clear hit
      go_wp2_with fail
      go_ret
      exact ⟨-1, rfl, by simp [NoSl.none hno.out], hbel.out⟩
    | succ g =>
      have hi : i < l.length := by omega
      have hnx := fun ty => Lib.run_next_any_at (P := Try.prog) wr w.heap.size ⟨l.toArray⟩ i ty hit (by rw [hsz]; omega)
      have hdf := HDF.out i hi
      have hia := fun p => Lib.iterAt_heap wr w.heap.size ⟨l.toArray⟩ i p hit
      have hmem := getD_mem hi
      generalize hgb : l.getD i 0 = b at *
      obtain ⟨⟨r, m⟩, hrm⟩ : ∃ p, Utf8.decode ⟨l.toArray⟩ i = p := ⟨_, rfl⟩
      rw [hrm] at hdf
      simp only [hrm] at hnx
      simp only at hdf
      have hr0 : r ≤ 1114111 := by have := UInt8.toNat_lt b; rcases hdf with ⟨_, h⟩ | h <;> simp at h <;> omega
      have hm1 : 1 ≤ m := by rcases hdf with ⟨_, h⟩ | h <;> simp at h <;> omega
      have hil : i + m ≤ l.length := by rcases hdf with ⟨_, h⟩ | h <;> simp at h <;> omega
      have hstep : ¬ ((r : Int) = 47 ∨ (r : Int) = 0) → NoSl l (i + m) := by
        intro hne j hj hjl
        by_cases hji : j < i
        · exact hno.out j hji hjl
        · rcases hdf with ⟨h1, h2⟩ | ⟨h1, h2, h3, h4, h5, h6⟩
          · simp only [Prod.mk.injEq] at h2
            obtain rfl : j = i := by omega
            rw [hgb]
            refine ⟨fun e => hne (Or.inl ?_), fun e => hne (Or.inr ?_)⟩
            · rw [h2.1, e]; rfl
            · rw [h2.1, e]; rfl
          · have := h6 j (by omega) hj
            refine ⟨fun e => ?_, fun e => ?_⟩ <;> rw [e] at this <;> simp at this
      have hyes : ((r : Int) = 47 ∨ (r : Int) = 0) → (47 ∈ l ∨ 0 ∈ l) := by
        intro he
        rcases hdf with ⟨h1, h2⟩ | ⟨h1, h2, h3, h4, h5, h6⟩
        · simp only [Prod.mk.injEq] at h2
          rcases he with he | he
          · left; have : b = 47 := UInt8.toNat_inj.1 (by rw [← h2.1]; show r = 47; omega)
            rw [← this]; exact hmem
          · right; have : b = 0 := UInt8.toNat_inj.1 (by rw [← h2.1]; show r = 0; omega)
            rw [← this]; exact hmem
        · omega
      have HIA := Lib.hid hia
      have HST := Lib.hid hstep; have HYE := Lib.hid hyes
      have HCALL := Lib.hid (HR.out r (by omega) (by omega))
      clear hit hrm hdf HDF hmem hgb hia hstep hyes HIT
      by_cases h47 : (r : Int) = 47
      · rw [h47, if_pos rfl] at HCALL
        have HY := Lib.hid (HYE.out (Or.inl h47))
        rw [h47] at hnx
        clear h47 HST HYE hr0
        go_wp2_with (first | (go_at_call 71; (refine (HCALL.out _).mono ?_); rintro e w3 ⟨rfl, hb3⟩) | fail)
        go_ret
        exact ⟨i, rfl, by simp [HY.out], Below.seq (iterAt_below hbel.out _ _) hb3⟩
      · rw [if_neg h47] at HCALL
        by_cases h00 : (r : Int) = 0
        · rw [h00, if_pos rfl] at HCALL
          have HY := Lib.hid (HYE.out (Or.inr h00))
          rw [h00] at hnx
          clear h00 h47 HST HYE hr0
          go_wp2_with (first | (go_at_call 71; (refine (HCALL.out _).mono ?_); rintro e w3 ⟨rfl, hb3⟩) | fail)
          go_ret
          exact ⟨i, rfl, by simp [HY.out], Below.seq (iterAt_below hbel.out _ _) hb3⟩
        · rw [if_neg h00] at HCALL
          have HN := Lib.hid (HST.out (fun h => h.elim h47 h00))
          go_wp2_with (first | (go_at_call 71; (refine (HCALL.out _).mono ?_); rintro e w3 ⟨rfl, hb3⟩) | fail)
          go_roundg (g + 1 - m)
          case measure => omega
          case rel => exact ⟨i + m, by omega, by rw [hb3.block _ (by simp [World.iterAt]; exact hkl)]; exact HIA.out _, Lib.hid (Below.seq (iterAt_below hbel.out _ _) hb3), HN⟩
theorem indexAny_mem (cs : Bt) : ∀ l : Bt, 0 ≤ Lib.indexAny l cs ↔ ∃ b ∈ l, b ∈ cs
  | [] => by simp [Lib.indexAny]
  | b :: l => by
    have ih := indexAny_mem cs l
    have hge := Lib.indexAny_ge cs l
    unfold Lib.indexAny
    by_cases h : b ∈ cs
    · rw [if_pos (by simpa using h)]
      exact ⟨fun _ => ⟨b, by simp, h⟩, fun _ => Int.le_refl _⟩
    · rw [if_neg (by simpa using h)]
      have : (∃ x ∈ b :: l, x ∈ cs) ↔ ∃ x ∈ l, x ∈ cs := by simp [h]
      rw [this, ← ih]
      split
      · rename_i h1; simp at h1; omega
      · rename_i h1; simp at h1; omega
theorem IndexAny_sl (l : Bt) (w : World) (h : l.length ≤ 255) : Calls Try.prog 70 #[.string ⟨l.toArray⟩, .string ⟨#[47, 0]⟩] w (RetI w (47 ∈ l ∨ 0 ∈ l)) := by
  by_cases h8 : l.length ≤ 8
  · exact IndexAny_short l w h8
  · have hsz : (⟨l.toArray⟩ : ByteArray).size = l.length := rfl
    refine (Try.strings_IndexAny_long (fun w => by kernel_rfl) ⟨l.toArray⟩ ⟨#[47, 0]⟩ w (by decide) (by rw [hsz]; omega) (by rw [hsz]; omega) (by decide) (fun j b hj => ?_)).mono ?_
    · have : j < 2 := (List.getElem?_eq_some_iff.1 hj).1
      have : j = 0 ∨ j = 1 := by omega
      rcases this with rfl | rfl
      · simp at hj; subst hj; decide
      · simp at hj; subst hj; decide
    · rintro e w' ⟨rfl, rfl⟩
      refine ⟨_, rfl, ?_, ((Below.refl _ _).alloc (Nat.le_refl _) _).alloc (by simp) _⟩
      simp only [List.toList_toArray]
      rw [indexAny_mem]
      constructor
      · rintro ⟨b, hb, hc⟩
        simp at hc
        rcases hc with rfl | rfl
        · exact Or.inl hb
        · exact Or.inr hb
      · rintro (hb | hb)
        · exact ⟨47, hb, by simp⟩
        · exact ⟨0, hb, by simp⟩
set_option maxRecDepth 100000 in
set_option maxHeartbeats 800000 in
theorem ContainsAny_sl (l : Bt) (w : World) (h : l.length ≤ 255) : Calls Try.prog 68 #[.string ⟨l.toArray⟩, .string ⟨#[47, 0]⟩] w fun r w' => r = .returned (.bool (l.contains 47 || l.contains 0)) ∧ Below w.heap.size w w' := by
  generalize hv : (l.contains 47 || l.contains 0) = v
  have HV := Lib.hid hv
  have HC := Lib.hid (IndexAny_sl l w h)
  clear hv
  go_enter Try.func68, Try.ntmps68
  go_wp2_with (first | (go_at_call 70; (refine (HC.out).mono ?_); rintro e w3 ⟨k, rfl, hk, hb3⟩; have HK := Lib.hid hk; clear hk) | fail)
  go_ret
  refine ⟨ret_bool ?_, hb3⟩
  rw [← HV.out, Bool.eq_iff_iff]
  have := HK.out
  simp [this]
set_option maxRecDepth 100000 in
set_option maxHeartbeats 800000 in
theorem Good_any (l : Bt) (w : World) : Calls Try.prog 64 #[.string ⟨l.toArray⟩] w fun r w' => r = .returned (.bool (good l)) ∧ Below w.heap.size w w' := by
  generalize hv : good l = v
  have HV := Lib.hid hv
  have hsz : (⟨l.toArray⟩ : ByteArray).size = l.length := rfl
  have HC := Lib.hid (fun w h => ContainsAny_sl l w h)
  clear hv
  go_enter Try.func64, Try.ntmps64
  go_wp2_with (first | (go_at_call 68; (refine (HC.out _ (by omega)).mono ?_); rintro e w3 ⟨rfl, hb3⟩) | fail)
  all_goals
    go_ret
    refine ⟨ret_bool ?_, by first | exact Below.refl _ _ | assumption⟩
    rw [← HV.out]
    clear HV HC
    rw [Bool.eq_iff_iff]
    simp_all [good]
  all_goals first
    | omega
    | exact ⟨fun h => ⟨⟨by omega, h.2⟩, h.1⟩, fun h => ⟨h.2, h.1.2⟩⟩
theorem good_no {l : Bt} {i : Nat} (hi : i < l.length) (h : l.getD i 0 = 0 ∨ l.getD i 0 = 47) : good l = false := by
  have hm := getD_mem hi
  rw [Bool.eq_false_iff]
  intro hg
  have h1 := good_parts hg
  rcases h with h | h <;> rw [h] at hm
  · exact h1.2.2.2.2.1 hm
  · exact h1.2.2.2.2.2 hm
theorem good_end {l : Bt} (h : NoSl l l.length) : good l = (decide (1 ≤ l.length) && decide (l.length ≤ 255) && l != [46] && l != [46, 46]) := by
  have h1 : 47 ∉ l := fun e => h.none (Or.inl e)
  have h2 : 0 ∉ l := fun e => h.none (Or.inr e)
  have h3 : (l != []) = decide (1 ≤ l.length) := by cases l <;> simp
  rw [Bool.eq_iff_iff]
  simp only [good, h3, Bool.and_eq_true, decide_eq_true_eq, bne_iff_ne, ne_eq, Bool.not_eq_true', List.contains_eq_mem, decide_eq_false_iff_not]
  constructor
  · rintro ⟨⟨⟨⟨⟨a, b⟩, c⟩, d⟩, e⟩, f⟩; exact ⟨⟨⟨a, d⟩, b⟩, c⟩
  · rintro ⟨⟨⟨a, d⟩, b⟩, c⟩; exact ⟨⟨⟨⟨⟨a, b⟩, c⟩, d⟩, h2⟩, h1⟩
set_option maxRecDepth 100000 in
set_option maxHeartbeats 1600000 in
theorem RefGood_any (l : Bt) (w : World) (hl : l.length ≤ 9223372036854775807) : Calls Try.prog 67 #[.string ⟨l.toArray⟩] w fun r w' => r = .returned (.bool (good l)) ∧ w = w' := by
  have hsz : (⟨l.toArray⟩ : ByteArray).size = l.length := rfl
  have HNO := Lib.hid (fun (i : Nat) hi h => good_no (l := l) (i := i) hi h)
  have HEND := Lib.hid (fun h => good_end (l := l) h)
  have HAT := Lib.hid (fun k h => str_at l k h)
  generalize good l = v at *
  go_enter Try.func67, Try.ntmps67
  go_wp2
  go_loopw [3] (fun i wr => ∃ k : Nat, k ≤ l.length ∧ i = .int .i64 k ∧ Hid (NoSl l k) ∧ w = wr) (fun i _ => l.length - (intOf i).toNat)
  case atStart => exact ⟨0, Nat.zero_le _, rfl, Lib.hid (fun j hj => by omega), rfl⟩
  case round =>
    obtain ⟨k, hk, rfl, hno, rfl⟩ := hrel
    by_cases hlt : k < l.length
    · have hat := HAT.out k hlt
      have hz : ∀ c : UInt8, l.getD k 0 ≠ c ↔ ((l.getD k 0).toNat : Int) ≠ c.toNat := fun c => ⟨fun h e => h (UInt8.toNat_inj.1 (by omega)), fun h e => h (by rw [e])⟩
      have HN := Lib.hid (HNO.out k hlt)
      have hstep : l.getD k 0 ≠ 0 → l.getD k 0 ≠ 47 → NoSl l (k + 1) := fun h1 h2 j hj hjl => by
        by_cases hjk : j < k
        · exact hno.out j hjk hjl
        · obtain rfl : j = k := by omega
          exact ⟨h2, h1⟩
      generalize l.getD k 0 = b at *
      have HS := Lib.hid hstep
      clear hstep hz
      by_cases h0 : b = 0
      · subst h0
        have HF := Lib.hid (HN.out (Or.inl rfl))
        have ht : ((0 : UInt8).toNat : Int) = 0 := rfl
        go_wp2
        go_ret
        exact ⟨ret_bool HF.out.symm, rfl⟩
      · by_cases h7 : b = 47
        · subst h7
          have HF := Lib.hid (HN.out (Or.inr rfl))
          have ht : ((47 : UInt8).toNat : Int) = 47 := rfl
          go_wp2
          go_ret
          exact ⟨ret_bool HF.out.symm, rfl⟩
        · have t0 : ((b.toNat : Int) == 0) = false := beq_f (fun e => h0 (UInt8.toNat_inj.1 (by show b.toNat = 0; omega)))
          have t7 : ((b.toNat : Int) == 47) = false := beq_f (fun e => h7 (UInt8.toNat_inj.1 (by show b.toNat = 47; omega)))
          have HS2 := Lib.hid (HS.out h0 h7)
          clear HS HN h0 h7
          go_wp2
          exact ⟨⟨k + 1, by omega, by go_num, HS2, by trivial⟩, by simp [intOf]; omega⟩
    · obtain rfl : k = l.length := by omega
      have HE := Lib.hid (HEND.out hno.out)
      clear HEND HNO
      clear hno
      go_wp2
      all_goals
        go_ret
        refine ⟨ret_bool ?_, rfl⟩
        rw [HE.out]
        clear HE HAT
        by_cases a1 : 1 ≤ l.length <;> by_cases a2 : l.length ≤ 255 <;> simp_all [bne]
      all_goals omega
end Gr
end Go.Proofs.Ytpdkdhcbibcifaa
namespace Go.Proofs.Ytpdkdhcbibcifaa
set_option linter.unusedVariables false
set_option linter.unusedSimpArgs false
open Go.ChangeShapes Go.WideShapes Go.ChangeAt Go.RowKit
open Go.Maps (Keyed)
namespace Gr
theorem lawI : Keyed Try.prog 3 := Maps.int_keyed Try.underlying3
theorem lawS : Keyed Try.prog 9 := Maps.string_keyed Try.underlying9
theorem zeroPtr (w : World) : (zeroValue 66).run Try.prog w = .ok (.pointer none) w := by kernel_rfl
theorem zeroInt (w : World) : (zeroValue 3).run Try.prog w = .ok (.int .i64 0) w := by kernel_rfl
/-- the node with an id, as a pointer into the row of nodes -/
def ptrAt (b off : Nat) (S : List NdS) (id : Int) : Option Value := (S.findIdx? fun x => x.1.id == id).map fun k => .pointer (some ⟨b, off + k * 10, none⟩)
def parF (p : List (Int × Int)) (id : Int) : Option Value := (p.lookup id).map fun u => .int .i64 u
theorem ptr_none {b off : Nat} {S : List NdS} {id : Int} (h : nodeOf (S.map (·.1)) id = none) : ptrAt b off S id = none := by
  unfold nodeOf at h
  unfold ptrAt
  rw [Option.map_eq_none_iff, List.findIdx?_eq_none_iff]
  intro x hx
  rw [List.find?_eq_none] at h
  have := h x.1 (List.mem_map.2 ⟨x, hx, rfl⟩)
  simpa using this
theorem ptr_some {b off : Nat} {S : List NdS} {id : Int} {t : Nd} (h : nodeOf (S.map (·.1)) id = some t) : ∃ k x, S[k]? = some x ∧ x.1 = t ∧ t.id = id ∧ ptrAt b off S id = some (.pointer (some ⟨b, off + k * 10, none⟩)) := by
  unfold nodeOf at h
  rw [List.find?_map] at h
  obtain ⟨x, hx, rfl⟩ := Option.map_eq_some_iff.1 h
  have hid : x.1.id = id := by simpa using List.find?_some hx
  cases hf : S.findIdx? (fun x => x.1.id == id) with
  | none =>
    rw [List.findIdx?_eq_none_iff] at hf
    have := hf x (List.mem_of_find?_eq_some hx)
    simp [hid] at this
  | some k =>
    refine ⟨k, x, ?_, rfl, hid, by simp [ptrAt, hf]⟩
    have h1 := List.findIdx?_eq_some_iff_getElem.1 hf
    obtain ⟨hk, h2, h3⟩ := h1
    have h4 : S.find? (fun x => x.1.id == id) = some S[k] := List.find?_eq_some_iff_getElem.2 ⟨h2, k, hk, rfl, fun j hj => by simpa using h3 j hj⟩
    have h5 : S.find? (fun x => x.1.id == id) = some x := by simpa [Function.comp_def] using hx
    rw [h4] at h5
    rw [List.getElem?_eq_getElem hk]
    exact h5
abbrev MpI (w : World) (b s : Nat) (f : Int → Option Value) : Prop := Mp mkI Try.prog 3 w b s f
/-- what enter leaves -/
def EnterRes (w : World) (pb : Nat) (R : Option (List (Int × Int))) (r : Ending) (w' : World) : Prop :=
  ∃ v, r = .returned (.bool v) ∧ w.grownBy w' (some pb) ∧ (v = true ↔ ∃ p', R = some p') ∧ ∀ p', R = some p' → MpI w' pb p'.length (parF p')
theorem parF_upd (p : List (Int × Int)) (id u : Int) (h : p.lookup id = none) (x : Int) : upd (parF p) id (.int .i64 u) x = parF (p ++ [(id, u)]) x := by
  unfold upd parF
  rw [List.lookup_append]
  by_cases hx : x = id
  · subst hx; rw [if_pos rfl, h]; simp [List.lookup_cons]
  · rw [if_neg hx]
    have : [(id, u)].lookup x = none := by rw [List.lookup_cons, beq_f hx]; rfl
    rw [this]; simp
theorem parF_none {p : List (Int × Int)} {id : Int} : (parF p id).isSome = (p.lookup id).isSome := by simp [parF]
theorem box_cell {w w' : World} {cs : Array Value} {t : TypeId} (hb : Below (w.alloc (.cells cs t)).heap.size (w.alloc (.cells cs t)) w') (j : Nat) {v : Value} (hv : cs[j]? = some v) : w'.cell? ⟨w.heap.size, j, none⟩ = some v := by
  rw [hb.cell (p := ⟨w.heap.size, j, none⟩) (by simp), World.cell?_alloc_new]
  exact hv
set_option maxRecDepth 100000 in
set_option maxHeartbeats 4000000 in
theorem enter_any (b off n c : Nat) (a : Option Addr) (S : List NdS) (nb no bb s pb : Nat) (x : NdS) (p : List (Int × Int)) (w : World) (hS : Nds w a n c S) (ha : S ≠ [] → a = some ⟨b, off, none⟩) (hr : w.rangeAt nb no (ndCells x)) (he : Ets w x.2.2 x.1.ents)
    (hby : MpI w bb s (ptrAt b off S)) (hpb : MpI w pb p.length (parF p)) (hne : bb ≠ pb) (hid : ∀ e ∈ x.1.ents, -9223372036854775808 ≤ e.2 ∧ e.2 ≤ 9223372036854775807) (hsz : p.length + x.1.ents.length ≤ 1000000) :
    Calls Try.prog 57 #[.pointer (some ⟨nb, no, none⟩), .map (some bb), .map (some pb)] w (EnterRes w pb (enterE (S.map (·.1)) x.1.id x.1.ents [] p)) := by
  have hdl := hS
  obtain ⟨⟨id, kind, mode, uid, gid, sec, nano, data, target, ents⟩, ds, ea, en, ec⟩ := x
  have HS := Lib.hid hS; have HA := Lib.hid ha; have HR := Lib.hid hr; have HE := Lib.hid he; have HBY := Lib.hid hby; have HPB := Lib.hid hpb; have HID := Lib.hid hid
  have c0 := range_cell hr 0 rfl
  have c9 := range_cell hr 9 rfl
  have hel := he.len; have hecap := he.cap; have hemax := he.max
  simp only at hel hecap hemax c0 c9 hsz HE HID
  have HEL := Lib.hid hel
  clear hS ha hr he hby hpb hid hel hdl
  simp only [Nat.add_zero] at c0
  have hel2 : ents.length = en := HEL.out
  have hsz2 : p.length + en ≤ 1000000 := by rw [← hel2]; exact hsz
  clear hel2 hsz
  simp only
  generalize hR : enterE (S.map (·.1)) id ents [] p = R
  have HRR := Lib.hid hR
  go_enter Try.func57, Try.ntmps57
  go_wp2
  go_loopw [7, 18] (fun nm i wr => ∃ (k : Nat) (last : Bt) (q : List (Int × Int)), k ≤ en ∧ i = .int .i64 k ∧ nm = .string ⟨last.toArray⟩ ∧ Hid (MpI wr pb q.length (parF q)) ∧ Hid (w.grownBy wr (some pb)) ∧ Hid (Keeps w wr) ∧ Hid (enterE (S.map (·.1)) id (ents.drop k) last q = R) ∧ q.length ≤ p.length + k) (fun _ i _ => en - (intOf i).toNat)
  case atStart => exact ⟨0, [], p, Nat.zero_le _, rfl, rfl, HPB, Lib.hid (World.grownBy.refl _ _), Lib.hid (Keeps.refl _), HRR, Nat.le_refl _⟩
  case round =>
    obtain ⟨k, last, q, hk, rfl, rfl, hmp, hgr, hkp, hen, hql⟩ := hrel
    by_cases hlt : k < en
    · have hkl : k < ents.length := by have := HEL.out; omega
      obtain ⟨⟨nm, eid⟩, hxk⟩ := get_some (S := ents) hkl
      obtain ⟨eb, eo, he1, hrow⟩ := Ets.at (HE.out.keep hkp.out) k (nm, eid) hxk
      simp only at he1
      subst he1
      have hide := HID.out _ (mem_get hxk)
      simp only at hide
      have hdrop : ents.drop k = (nm, eid) :: ents.drop (k + 1) := by
        rw [List.drop_eq_getElem_cons hkl]
        rw [(List.getElem?_eq_some_iff.1 hxk).2]
      have hun := hen.out
      rw [hdrop] at hun
      have HUN := Lib.hid hun
      have hby' := HBY.out.kept hgr.out (fun e => hne (Option.some.inj e))
      have HBY' := Lib.hid hby'
      simp only [etCells] at hrow
      have HROW := Lib.hid hrow
      have hkey := key_int (P := Try.prog) Try.underlying3 hide.1 hide.2
      have HKEY := Lib.hid hkey
      clear hxk hrow hdrop hun hby' hkey hen
      cases hnode : nodeOf (S.map (·.1)) eid with
      | none =>
        have hpt := ptr_none (b := b) (off := off) hnode
        have hRn : R = none := by rw [← HUN.out]; simp [enterE, hnode]
        have HRN := Lib.hid hRn
        have HPT : Hid ((ptrAt b off S eid).getD (.pointer none) = .pointer none) := Lib.hid (by rw [hpt]; rfl)
        clear hnode hpt hRn HRR hR
        go_wp2_with (first
          | (refine wpList_load_mid rfl _ _ rfl eb (eo + k * 2) rfl _ _ HROW.out Try.underlying87 rfl (by kernel_rfl) ?_)
          | (at_lookup; refine wpList_mp_look_v rfl _ _ 65 rfl 66 lawI Try.underlying65 (zeroPtr _) rfl (HBY'.out.kept (World.grownBy_alloc _ _ none) (by simp)) _ eid rfl HKEY.out _ HPT.out ?_))
        go_ret
        refine ⟨false, rfl, ?_, by simp [HRN.out], by simp [HRN.out]⟩
        exact hgr.out.trans (World.grownBy_alloc _ _ _)
      | some t =>
        obtain ⟨kk, x', hkk, rfl, hidt, hpt⟩ := ptr_some (b := b) (off := off) hnode
        have HPT : Hid ((ptrAt b off S eid).getD (.pointer none) = .pointer (some ⟨b, off + kk * 10, none⟩)) := Lib.hid (by rw [hpt]; rfl)
        have hct : wr.rangeAt b (off + kk * 10) (ndCells x') := by
          obtain ⟨b', off', ha', hr'⟩ := (HS.out.keep hkp.out).at kk x' hkk
          have h2 := HA.out (by rintro rfl; simp at hkk)
          rw [h2] at ha'
          simp only [Option.some.injEq, Addr.mk.injEq, and_true] at ha'
          obtain ⟨rfl, rfl⟩ := ha'
          exact hr'
        have hc1 : wr.cell? ⟨b, off + kk * 10 + 1, none⟩ = some (.int .i64 x'.1.kind) := range_cell hct 1 rfl
        have HC1 := Lib.hid hc1
        have HG := Lib.hid (fun w => Good_any nm w)
        have hB1 : Below wr.heap.size wr (wr.alloc (.cells #[.string ⟨nm.toArray⟩, .int .i64 eid] 87)) := (Below.refl _ _).alloc (Nat.le_refl _) _
        have HB1 := Lib.hid hB1
        have hpos : off + kk * 10 = off + kk * 10 := rfl
        have hun := HUN.out
        simp only [enterE, hnode] at hun
        generalize hlb : (Op.bytesLess nm last || nm == last) = lb at *
        generalize good nm = gb at *
        generalize x'.1.kind = kd at *
        have HUN2 := Lib.hid hun
        clear hnode hpt hkk hct hc1 hB1 hun HRR hR HUN hidt
        cases gb with
        | false =>
          have HRN : Hid (R = none) := Lib.hid (by rw [← HUN2.out]; simp)
          clear HUN2
          go_wp2_with (first
            | (refine wpList_load_mid rfl _ _ rfl eb (eo + k * 2) rfl _ _ HROW.out Try.underlying87 rfl (by kernel_rfl) ?_)
            | (at_lookup; refine wpList_mp_look_v rfl _ _ 65 rfl 66 lawI Try.underlying65 (zeroPtr _) rfl (HBY'.out.kept (World.grownBy_alloc _ _ none) (by simp)) _ eid rfl HKEY.out _ HPT.out ?_)
            | (go_at_call 64; (refine (HG.out _).mono ?_); rintro r w4 ⟨rfl, hb4⟩))
          go_ret
          refine ⟨false, rfl, ?_, by simp [HRN.out], by simp [HRN.out]⟩
          exact hgr.out.trans (below_grown (Below.seq HB1.out hb4) _)
        | true =>
          cases lb with
          | true =>
            have HRN : Hid (R = none) := Lib.hid (by rw [← HUN2.out]; simp)
            clear HUN2
            go_wp2_with (first
            | (refine wpList_load_mid rfl _ _ rfl eb (eo + k * 2) rfl _ _ HROW.out Try.underlying87 rfl (by kernel_rfl) ?_)
            | (at_lookup; refine wpList_mp_look_v rfl _ _ 65 rfl 66 lawI Try.underlying65 (zeroPtr _) rfl (HBY'.out.kept (World.grownBy_alloc _ _ none) (by simp)) _ eid rfl HKEY.out _ HPT.out ?_)
            | (go_at_call 64; (refine (HG.out _).mono ?_); rintro r w4 ⟨rfl, hb4⟩; have hx0 := box_cell hb4 0 rfl; have hx1 := box_cell hb4 1 rfl; have HB4 := Lib.hid (Below.seq HB1.out hb4); have hx2 := Below.keeps HB4.out _ _ HC1.out; have HMP4 := Lib.hid (hmp.out.kept (below_grown HB4.out none) (by simp))))
            go_ret
            refine ⟨false, rfl, ?_, by simp [HRN.out], by simp [HRN.out]⟩
            exact hgr.out.trans (below_grown HB4.out _)
          | false =>
            by_cases hkd : kd = 2
            · have hk2 : (kd != 2) = false := bne_f hkd
              have HK := Lib.hid hkd
              cases hlk : q.lookup eid with
              | some u =>
                have HRN : Hid (R = none) := Lib.hid (by rw [← HUN2.out]; simp [hkd, hlk])
                have HQ : Hid ((parF q eid).getD (.int .i64 0) = .int .i64 u) := Lib.hid (by simp [parF, hlk])
                have HQ2 : Hid ((parF q eid).isSome = true) := Lib.hid (by simp [parF, hlk])
                clear HUN2 hkd hlk
                go_wp2_with (first
            | (refine wpList_load_mid rfl _ _ rfl eb (eo + k * 2) rfl _ _ HROW.out Try.underlying87 rfl (by kernel_rfl) ?_)
            | (at_lookup; refine wpList_mp_look_v rfl _ _ 65 rfl 66 lawI Try.underlying65 (zeroPtr _) rfl (HBY'.out.kept (World.grownBy_alloc _ _ none) (by simp)) _ eid rfl HKEY.out _ HPT.out ?_)
            | (go_at_call 64; (refine (HG.out _).mono ?_); rintro r w4 ⟨rfl, hb4⟩; have hx0 := box_cell hb4 0 rfl; have hx1 := box_cell hb4 1 rfl; have HB4 := Lib.hid (Below.seq HB1.out hb4); have hx2 := Below.keeps HB4.out _ _ HC1.out; have HMP4 := Lib.hid (hmp.out.kept (below_grown HB4.out none) (by simp)))
            | (at_lookup; refine wpList_mp_look_ok_v rfl _ _ 106 rfl 3 lawI Try.underlying106 (zeroInt _) rfl HMP4.out _ eid rfl HKEY.out _ _ HQ.out HQ2.out ?_))
                go_ret
                refine ⟨false, rfl, ?_, by simp [HRN.out], by simp [HRN.out]⟩
                exact hgr.out.trans (below_grown HB4.out _)
              | none =>
                have HRN : Hid (enterE (S.map (·.1)) id (ents.drop (k + 1)) nm (q ++ [(eid, id)]) = R) := Lib.hid (by rw [← HUN2.out]; simp [hkd, hlk])
                have HQ : Hid ((parF q eid).getD (.int .i64 0) = .int .i64 0) := Lib.hid (by simp [parF, hlk])
                have HQ2 : Hid ((parF q eid).isSome = false) := Lib.hid (by simp [parF, hlk])
                have HUP := Lib.hid (parF_upd q eid id hlk)
                clear HUN2 hkd hlk
                go_wp2_with (first
            | (refine wpList_load_mid rfl _ _ rfl eb (eo + k * 2) rfl _ _ HROW.out Try.underlying87 rfl (by kernel_rfl) ?_)
            | (at_lookup; refine wpList_mp_look_v rfl _ _ 65 rfl 66 lawI Try.underlying65 (zeroPtr _) rfl (HBY'.out.kept (World.grownBy_alloc _ _ none) (by simp)) _ eid rfl HKEY.out _ HPT.out ?_)
            | (go_at_call 64; (refine (HG.out _).mono ?_); rintro r w4 ⟨rfl, hb4⟩; have hx0 := box_cell hb4 0 rfl; have hx1 := box_cell hb4 1 rfl; have HB4 := Lib.hid (Below.seq HB1.out hb4); have hx2 := Below.keeps HB4.out _ _ HC1.out; have HMP4 := Lib.hid (hmp.out.kept (below_grown HB4.out none) (by simp)))
            | (at_lookup; refine wpList_mp_look_ok_v rfl _ _ 106 rfl 3 lawI Try.underlying106 (zeroInt _) rfl HMP4.out _ eid rfl HKEY.out _ _ HQ.out HQ2.out ?_))
                have hc0' : w4.cell? ⟨nb, no, none⟩ = some (.int .i64 id) := Below.keeps HB4.out _ _ (hkp.out _ _ c0)
                go_still_tail 7, (by kernel_rfl)
                change wpList _ _ _ _ _ w4.drew
                go_wp2_with (at_mapUpdate; refine wpList_mp_put rfl _ _ _ 106 rfl 3 lawI Try.underlying106 rfl (HMP4.out.block (w' := w4.drew) rfl) (by unfold maxLen; omega) _ eid rfl HKEY.out _ rfl mkI_inj ?_; intro w5 hm5 hg5; rw [HQ2.out] at hm5)
                have hgd : w4.grownBy w5 (some pb) := ⟨hg5.os, hg5.tape, hg5.output, hg5.size, hg5.block⟩
                have hm6 : MpI w5 pb (q ++ [(eid, id)]).length (parF (q ++ [(eid, id)])) := by
                  rw [List.length_append]
                  exact hm5.congr HUP.out
                exact ⟨⟨k + 1, nm, q ++ [(eid, id)], by omega, by go_num, rfl, Lib.hid hm6, Lib.hid ((hgr.out.trans (below_grown HB4.out _)).trans hgd), Lib.hid ((hkp.out.trans (Below.keeps HB4.out)).trans (HMP4.out.keeps hgd)), HRN, by simp; omega⟩, by simp [intOf]; omega⟩
            · have hk2 : (kd != 2) = true := bne_t hkd
              have HRN : Hid (enterE (S.map (·.1)) id (ents.drop (k + 1)) nm q = R) := Lib.hid (by rw [← HUN2.out]; simp [hkd])
              clear HUN2 hkd
              go_wp2_with (first
            | (refine wpList_load_mid rfl _ _ rfl eb (eo + k * 2) rfl _ _ HROW.out Try.underlying87 rfl (by kernel_rfl) ?_)
            | (at_lookup; refine wpList_mp_look_v rfl _ _ 65 rfl 66 lawI Try.underlying65 (zeroPtr _) rfl (HBY'.out.kept (World.grownBy_alloc _ _ none) (by simp)) _ eid rfl HKEY.out _ HPT.out ?_)
            | (go_at_call 64; (refine (HG.out _).mono ?_); rintro r w4 ⟨rfl, hb4⟩; have hx0 := box_cell hb4 0 rfl; have hx1 := box_cell hb4 1 rfl; have HB4 := Lib.hid (Below.seq HB1.out hb4); have hx2 := Below.keeps HB4.out _ _ HC1.out; have HMP4 := Lib.hid (hmp.out.kept (below_grown HB4.out none) (by simp))))
              exact ⟨⟨k + 1, nm, q, by omega, by go_num, rfl, HMP4, Lib.hid (hgr.out.trans (below_grown HB4.out _)), Lib.hid (hkp.out.trans (Below.keeps HB4.out)), HRN, by omega⟩, by simp [intOf]; omega⟩
    · obtain rfl : k = en := by omega
      have hd : ents.drop k = [] := List.drop_of_length_le (by have := HEL.out; omega)
      have hun := hen.out
      rw [hd] at hun
      simp only [enterE] at hun
      have HU := Lib.hid hun
      clear hd hun hen hR HRR
      go_wp2
      go_ret
      refine ⟨true, rfl, hgr.out, by simp [← HU.out], fun p' hp' => ?_⟩
      rw [← HU.out] at hp'
      cases hp'
      exact hmp.out
end Gr
end Go.Proofs.Ytpdkdhcbibcifaa
namespace Go.Proofs.Ytpdkdhcbibcifaa
set_option linter.unusedVariables false
set_option linter.unusedSimpArgs false
open Go.ChangeShapes Go.WideShapes Go.ChangeAt Go.RowKit
namespace Gr
def eqL (x y : Ln) : Bool := x.path == y.path && x.kind == y.kind && x.mode == y.mode && x.uid == y.uid && x.gid == y.gid && (x.sec == y.sec && x.nano == y.nano) && x.target == y.target && x.peer == y.peer && x.data == y.data
theorem eqL_iff (x y : Ln) : eqL x y = true ↔ x = y := by
  cases x; cases y
  simp only [eqL, Bool.and_eq_true, beq_iff_eq, Ln.mk.injEq]
  constructor
  · rintro ⟨⟨⟨⟨⟨⟨⟨⟨rfl, rfl⟩, rfl⟩, rfl⟩, rfl⟩, rfl, rfl⟩, rfl⟩, rfl⟩, rfl⟩
    simp
  · rintro ⟨rfl, rfl, rfl, rfl, rfl, rfl, rfl, rfl, rfl, rfl⟩
    simp
theorem eql_time2 (s n s' n' : Int) (w : World) : (binOp .eql 36 (.agg #[.int .i64 s, .int .i64 n]) (.agg #[.int .i64 s', .int .i64 n'])).run Try.prog w = .ok (.bool (s == s' && n == n')) w := by
  rw [run_eql_struct, run_equalIn_agg w 9999 36 _ _ (by kernel_rfl) (by kernel_rfl)]
  have hs : ∀ (d : Nat) (a b : Int), (Op.equalIn (d + 1) 3 (.int .i64 a) (.int .i64 b)).run Try.prog w = .ok (a == b) w := fun d a b => run_equalIn_int w d 3 .i64 .i64 a b Try.underlying3
  have hp0 : ∀ (u v : Value), (part 3 #[u, v] 0).run Try.prog w = .ok u w := fun u v => by simp [part, isAgg, run_underlying Try.underlying3]
  have hp1 : ∀ (u v : Value), (part 3 #[u, v] 1).run Try.prog w = .ok v w := fun u v => by simp [part, isAgg, run_underlying Try.underlying3]
  simp [Program.fieldsOf, Try.underlying36, Op.eqFields, hs, hp0, hp1, hs 9998]
  cases h : (s == s')
  · have : ¬ s = s' := by simpa using h
    simp [this, hs, hp0, hp1]
  · have : s = s' := by simpa using h
    by_cases hn : n = n' <;> simp [this, hs, hp0, hp1, hn]
set_option maxRecDepth 100000 in
set_option maxHeartbeats 3200000 in
theorem sameLine_any (x y : LnS) (w : World) (h : Dat w x.2 x.1.data) (k : Dat w y.2 y.1.data) :
    Calls Try.prog 53 #[.agg (lnV x), .agg (lnV y)] w fun r w' => r = .returned (.bool (eqL x.1 y.1)) ∧ Below w.heap.size w w' := by
  obtain ⟨⟨path, kind, mode, uid, gid, sec, nano, data, target, peer⟩, a, n, c⟩ := x
  obtain ⟨⟨path', kind', mode', uid', gid', sec', nano', data', target', peer'⟩, b, m, d⟩ := y
  simp only [Dat] at h k
  have hq := eql_time2 sec nano sec' nano'
  have hb2 := (((Below.refl w.heap.size w).alloc (Nat.le_refl _) (.cells (lnV (⟨path, kind, mode, uid, gid, sec, nano, data, target, peer⟩, (a, n, c))) 51)).alloc (by simp) (.cells (lnV (⟨path', kind', mode', uid', gid', sec', nano', data', target', peer'⟩, (b, m, d))) 51))
  simp only [lnV] at hb2 ⊢
  generalize hr : eqL _ _ = r
  have hr' := hr
  simp only [eqL] at hr
  have hts : (sec == sec' && nano == nano') = true ∨ (sec == sec' && nano == nano') = false := by cases (sec == sec' && nano == nano') <;> simp
  have HB := Lib.hid hb2; have HH := Lib.hid h; have HK := Lib.hid k
  have HSB : Hid (∀ w, Bs w a n c data → Bs w b m d data' → Calls Try.prog 50 #[.slice a n c, .slice b m d] w fun e w' => e = .returned (.bool (decide (data = data'))) ∧ Below w.heap.size w w') := Lib.hid (fun w h1 h2 => Equal_any (a, n, c) (b, m, d) data data' w h1 h2)
  have hde : decide (data = data') = (data == data') := by by_cases e : data = data' <;> simp [e]
  rw [hde] at HSB
  clear hb2 h k hde hr'
  generalize (sec == sec' && nano == nano') = bt at *
  generalize hb : (data == data') = bd at *
  generalize hc1 : (path == path') = b1 at *
  generalize hc2 : (target == target') = b2 at *
  generalize hc3 : (peer == peer') = b3 at *
  generalize hc4 : (kind == kind') = b4 at *
  generalize hc5 : (mode == mode') = b5 at *
  generalize hc6 : (uid == uid') = b6 at *
  generalize hc7 : (gid == gid') = b7 at *
  have HR := Lib.hid hr
  clear hr hb
  go_enter Try.func53, Try.ntmps53
  cases b1 with
  | false => (go_wp2; go_ret; exact ⟨by rw [← HR.out]; simp, HB.out⟩)
  | true =>
  cases b4 with
  | false => (go_wp2; go_ret; exact ⟨by rw [← HR.out]; simp, HB.out⟩)
  | true =>
  cases b5 with
  | false => (go_wp2; go_ret; exact ⟨by rw [← HR.out]; simp, HB.out⟩)
  | true =>
  cases b6 with
  | false => (go_wp2; go_ret; exact ⟨by rw [← HR.out]; simp, HB.out⟩)
  | true =>
  cases b7 with
  | false => (go_wp2; go_ret; exact ⟨by rw [← HR.out]; simp, HB.out⟩)
  | true =>
  cases bt with
  | false => (go_wp2; go_ret; exact ⟨by rw [← HR.out]; simp, HB.out⟩)
  | true =>
  cases b2 with
  | false => (go_wp2; go_ret; exact ⟨by rw [← HR.out]; simp, HB.out⟩)
  | true =>
  cases b3 with
  | false => (go_wp2; go_ret; exact ⟨by rw [← HR.out]; simp, HB.out⟩)
  | true =>
  go_wp2_with (go_at_call 50; (refine (HSB.out _ (by exact Below.bs HB.out HH.out) (by exact Below.bs HB.out HK.out)).mono ?_); rintro r w1 ⟨rfl, hb1⟩)
  go_ret
  exact ⟨by rw [← HR.out]; simp, Below.seq HB.out hb1⟩
theorem eqL_take {X Y : List Ln} {k : Nat} {x y : Ln} (hx : X[k]? = some x) (hy : Y[k]? = some y) (h : X.take k = Y.take k) (e : x = y) : X.take (k + 1) = Y.take (k + 1) := by
  obtain ⟨h1, e1⟩ := List.getElem?_eq_some_iff.1 hx
  obtain ⟨h2, e2⟩ := List.getElem?_eq_some_iff.1 hy
  rw [List.take_succ_eq_append_getElem h1, List.take_succ_eq_append_getElem h2, h, e1, e2, e]
/-- a call that answers whether p holds -/
def RetB (w : World) (p : Prop) (r : Ending) (w' : World) : Prop := ∃ v, r = .returned (.bool v) ∧ (v = true ↔ p) ∧ Below w.heap.size w w'
theorem RetB.yes {w w' : World} {p : Prop} (h : p) (hb : Below w.heap.size w w') : RetB w p (.returned (.bool true)) w' := ⟨true, rfl, by simp [h], hb⟩
theorem RetB.no {w w' : World} {p : Prop} (h : ¬ p) (hb : Below w.heap.size w w') : RetB w p (.returned (.bool false)) w' := ⟨false, rfl, by simp [h], hb⟩
theorem mapfst_get {α β : Type} {S : List (α × β)} {k : Nat} {x : α × β} (h : S[k]? = some x) : (S.map (·.1))[k]? = some x.1 := by simp [h]
set_option maxRecDepth 100000 in
set_option maxHeartbeats 1600000 in
theorem EqualLines_any (a b : Option Addr) (n m c d : Nat) (S T : List LnS) (w : World) (ha : Lns w a n c S) (hb : Lns w b m d T) :
    Calls Try.prog 52 #[.slice a n c, .slice b m d, .func (.func 53) #[] #[]] w (RetB w (S.map (·.1) = T.map (·.1))) := by
  have hx := ha.len; have hy := hb.len; have c1 := ha.cap; have c2 := hb.cap; have m1 := ha.max; have m2 := hb.max
  by_cases hnm : n = m
  · subst hnm
    have hn : ((n : Int) != n) = false := by simp
    have HX := Lib.hid hx; have HY := Lib.hid hy; have HA := Lib.hid ha; have HB := Lib.hid hb
    clear hx hy ha hb
    go_enter Try.func52, Try.ntmps52
    go_wp2
    go_loopw [17] (fun i wr => ∃ k : Nat, k ≤ n ∧ i = .int .i64 k ∧ Hid (Below w.heap.size w wr) ∧ Hid ((S.map (·.1)).take k = (T.map (·.1)).take k)) (fun i _ => n - (intOf i).toNat)
    case atStart => exact ⟨0, Nat.zero_le _, rfl, Lib.hid (Below.refl _ _), Lib.hid (by simp)⟩
    case round =>
      obtain ⟨k, hk, rfl, hbel, heq⟩ := hrel
      by_cases hlt : k < n
      · obtain ⟨x, hxk⟩ := get_some (S := S) (k := k) (by have := HX.out; omega)
        obtain ⟨y, hyk⟩ := get_some (S := T) (k := k) (by have := HY.out; omega)
        have HXK := Lib.hid hxk; have HYK := Lib.hid hyk
        obtain ⟨b1, o1, rfl, h1⟩ := (HA.out.below hbel.out).at k x hxk
        obtain ⟨b2, o2, rfl, h2⟩ := (HB.out.below hbel.out).at k y hyk
        have hd1 := (HA.out.below hbel.out).dat x (mem_get hxk)
        have hd2 := (HB.out.below hbel.out).dat y (mem_get hyk)
        have HEQ := Lib.hid (eqL_iff x.1 y.1)
        have HSL := Lib.hid (fun w' h k => sameLine_any x y w' h k)
        generalize eqL x.1 y.1 = e at *
        have HSX := Lib.hid (fun (e1 : x.1 = y.1) => eqL_take (mapfst_get hxk) (mapfst_get hyk) heq.out e1)
        have HNX : Hid (x.1 ≠ y.1 → ¬ S.map (·.1) = T.map (·.1)) := Lib.hid (fun hne e2 => hne (by have h1 := mapfst_get hxk; have h2 := mapfst_get hyk; rw [e2, h2] at h1; exact (Option.some.inj h1).symm))
        have hB2 : Below wr.heap.size wr ((wr.alloc (.cells (lnV x) 51)).alloc (.cells (lnV y) 51)) := ((Below.refl _ _).alloc (Nat.le_refl _) _).alloc (by simp) _
        have h2' := range_keep h2 (Keeps.alloc wr (.cells (lnV x) 51))
        clear hxk hyk HXK HYK h2 heq
        obtain ⟨⟨path, kind, mode, uid, gid, sec, nano, data, target, peer⟩, a1, n1, c1⟩ := x
        obtain ⟨⟨path', kind', mode', uid', gid', sec', nano', data', target', peer'⟩, a2, n2, c2⟩ := y
        simp only [lnCells, lnV] at h1 h2' HSL hB2
        have HR1 := Lib.hid h1; have HR2 := Lib.hid h2'; have HD1 := Lib.hid hd1; have HD2 := Lib.hid hd2; have HB2 := Lib.hid hB2
        clear h1 h2' hd1 hd2 hB2
        cases e with
        | true =>
          have HT := Lib.hid (HSX.out (HEQ.out.1 rfl))
          clear HSX HNX HEQ
          go_wp2_with (first
            | (refine wpList_load_mid rfl _ _ rfl b1 (o1 + k * 10) rfl _ _ HR1.out Try.underlying51 rfl (by kernel_rfl) ?_)
            | (refine wpList_load_mid rfl _ _ rfl b2 (o2 + k * 10) rfl _ _ HR2.out Try.underlying51 rfl (by kernel_rfl) ?_)
            | (go_at_call 53; (refine (HSL.out _ (by exact Below.bs HB2.out HD1.out) (by exact Below.bs HB2.out HD2.out)).mono ?_); rintro r w3 ⟨rfl, hb3⟩))
          exact ⟨⟨k + 1, by omega, by go_num, Lib.hid (Below.seq hbel.out (Below.seq HB2.out hb3)), HT⟩, by simp [intOf]; omega⟩
        | false =>
          have HT := Lib.hid (HNX.out (fun e1 => by have := HEQ.out.2 e1; cases this))
          clear HSX HNX HEQ
          go_wp2_with (first
            | (refine wpList_load_mid rfl _ _ rfl b1 (o1 + k * 10) rfl _ _ HR1.out Try.underlying51 rfl (by kernel_rfl) ?_)
            | (refine wpList_load_mid rfl _ _ rfl b2 (o2 + k * 10) rfl _ _ HR2.out Try.underlying51 rfl (by kernel_rfl) ?_)
            | (go_at_call 53; (refine (HSL.out _ (by exact Below.bs HB2.out HD1.out) (by exact Below.bs HB2.out HD2.out)).mono ?_); rintro r w3 ⟨rfl, hb3⟩))
          go_ret
          exact RetB.no HT.out (Below.seq hbel.out (Below.seq HB2.out hb3))
      · obtain rfl : k = n := by omega
        go_wp2
        go_ret
        refine RetB.yes ?_ hbel.out
        have h := heq.out
        rw [List.take_of_length_le (by rw [List.length_map]; have := HX.out; omega), List.take_of_length_le (by rw [List.length_map]; have := HY.out; omega)] at h
        exact h
  · have hn : ((n : Int) != m) = true := by rw [bne_iff_ne]; omega
    have HX := Lib.hid hx; have HY := Lib.hid hy; clear hx hy ha hb
    go_enter Try.func52, Try.ntmps52
    go_wp2
    go_ret
    refine RetB.no ?_ (Below.refl _ _)
    intro e
    have := congrArg List.length e
    rw [List.length_map, List.length_map, HX.out, HY.out] at this
    exact hnm this
end Gr
end Go.Proofs.Ytpdkdhcbibcifaa
