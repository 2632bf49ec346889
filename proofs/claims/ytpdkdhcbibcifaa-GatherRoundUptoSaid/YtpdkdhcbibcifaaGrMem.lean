/-
  GrMem: lines, nodes and entries of directories in memory; slices.Clone and slices.Equal at bytes.
-/
import Derived.Test.YtpdkdhcbibcifaaGrTree
import Derived.Test.YtpdkdhcbibcifaaGrMap
import Derived.Test.YtpdkdhcbibcifaaCopy
import Derived.Test.YtpdkdhcbibcifaaUseBytes
import Derived.Test.YtpdkdhcbibcifaaRowm
import Derived.Deep.MidRow
import Derived.Lib.LazyBuf
namespace Go.Proofs.Ytpdkdhcbibcifaa
set_option linter.unusedVariables false
set_option linter.unusedSimpArgs false
open Go.ChangeShapes Go.WideShapes Go.ChangeAt Go.RowKit
namespace Gr
/-- a slice's header -/
abbrev Sl := Option Addr × Nat × Nat
def slV (s : Sl) : Value := .slice s.1 s.2.1 s.2.2
def sv (l : Bt) : Value := .string ⟨l.toArray⟩
abbrev LnS := Ln × Sl
def lnCells (x : LnS) : List Value := [.string ⟨x.1.path.toArray⟩, .int .i64 x.1.kind, .int .i64 x.1.mode, .int .i64 x.1.uid, .int .i64 x.1.gid, .int .i64 x.1.sec, .int .i64 x.1.nano, .slice x.2.1 x.2.2.1 x.2.2.2, .string ⟨x.1.target.toArray⟩, .string ⟨x.1.peer.toArray⟩]
def lnV (x : LnS) : Array Value := #[.string ⟨x.1.path.toArray⟩, .int .i64 x.1.kind, .int .i64 x.1.mode, .int .i64 x.1.uid, .int .i64 x.1.gid, .int .i64 x.1.sec, .int .i64 x.1.nano, .slice x.2.1 x.2.2.1 x.2.2.2, .string ⟨x.1.target.toArray⟩, .string ⟨x.1.peer.toArray⟩]
theorem lnV_list (x : LnS) : (lnV x).toList = lnCells x := rfl
theorem lnCells_len (x : LnS) : (lnCells x).length = 10 := rfl
abbrev NdS := Nd × Sl × Sl
def ndCells (x : NdS) : List Value := [.int .i64 x.1.id, .int .i64 x.1.kind, .int .i64 x.1.mode, .int .i64 x.1.uid, .int .i64 x.1.gid, .int .i64 x.1.sec, .int .i64 x.1.nano, .slice x.2.1.1 x.2.1.2.1 x.2.1.2.2, .string ⟨x.1.target.toArray⟩, .slice x.2.2.1 x.2.2.2.1 x.2.2.2.2]
theorem ndCells_len (x : NdS) : (ndCells x).length = 10 := rfl
def etCells (e : Bt × Int) : List Value := [.string ⟨e.1.toArray⟩, .int .i64 e.2]
theorem etCells_len (e : Bt × Int) : (etCells e).length = 2 := rfl
/-- the bytes of a header -/
def Dat (w : World) (s : Sl) (l : Bt) : Prop := Bs w s.1 s.2.1 s.2.2 l
structure Lns (w : World) (a : Option Addr) (n c : Nat) (S : List LnS) : Prop where
  sl : IsSl w 10 a n c (S.flatMap lnCells)
  dat : ∀ x ∈ S, Dat w x.2 x.1.data
/-- the entries of a directory -/
def Ets (w : World) (s : Sl) (l : List (Bt × Int)) : Prop := IsSl w 2 s.1 s.2.1 s.2.2 (l.flatMap etCells)
structure Nds (w : World) (a : Option Addr) (n c : Nat) (S : List NdS) : Prop where
  sl : IsSl w 10 a n c (S.flatMap ndCells)
  dat : ∀ x ∈ S, Dat w x.2.1 x.1.data
  ent : ∀ x ∈ S, Ets w x.2.2 x.1.ents
theorem Lns.keep {w w' : World} {a : Option Addr} {n c : Nat} {S : List LnS} (h : Lns w a n c S) (k : Keeps w w') : Lns w' a n c S := ⟨k.sl h.sl, fun x hx => k.bs (h.dat x hx)⟩
theorem Lns.below {w w' : World} {a : Option Addr} {n c : Nat} {S : List LnS} (h : Lns w a n c S) (k : Below w.heap.size w w') : Lns w' a n c S := h.keep (Below.keeps k)
theorem Nds.keep {w w' : World} {a : Option Addr} {n c : Nat} {S : List NdS} (h : Nds w a n c S) (k : Keeps w w') : Nds w' a n c S := ⟨k.sl h.sl, fun x hx => k.bs (h.dat x hx), fun x hx => k.sl (h.ent x hx)⟩
theorem Nds.below {w w' : World} {a : Option Addr} {n c : Nat} {S : List NdS} (h : Nds w a n c S) (k : Below w.heap.size w w') : Nds w' a n c S := h.keep (Below.keeps k)
theorem Ets.keep {w w' : World} {s : Sl} {l : List (Bt × Int)} (h : Ets w s l) (k : Keeps w w') : Ets w' s l := k.sl h
theorem Lns.len {w : World} {a : Option Addr} {n c : Nat} {S : List LnS} (h : Lns w a n c S) : S.length = n := by have := h.sl.1; rw [flat_len lnCells_len] at this; omega
theorem Nds.len {w : World} {a : Option Addr} {n c : Nat} {S : List NdS} (h : Nds w a n c S) : S.length = n := by have := h.sl.1; rw [flat_len ndCells_len] at this; omega
theorem Ets.len {w : World} {s : Sl} {l : List (Bt × Int)} (h : Ets w s l) : l.length = s.2.1 := by have := h.1; rw [flat_len etCells_len] at this; omega
theorem Lns.cap {w : World} {a : Option Addr} {n c : Nat} {S : List LnS} (h : Lns w a n c S) : n ≤ c := h.sl.2.1
theorem Lns.max {w : World} {a : Option Addr} {n c : Nat} {S : List LnS} (h : Lns w a n c S) : c ≤ 9223372036854775807 := h.sl.2.2.1
theorem Nds.cap {w : World} {a : Option Addr} {n c : Nat} {S : List NdS} (h : Nds w a n c S) : n ≤ c := h.sl.2.1
theorem Nds.max {w : World} {a : Option Addr} {n c : Nat} {S : List NdS} (h : Nds w a n c S) : c ≤ 9223372036854775807 := h.sl.2.2.1
theorem Ets.cap {w : World} {s : Sl} {l : List (Bt × Int)} (h : Ets w s l) : s.2.1 ≤ s.2.2 := h.2.1
theorem Ets.max {w : World} {s : Sl} {l : List (Bt × Int)} (h : Ets w s l) : s.2.2 ≤ 9223372036854775807 := h.2.2.1
/-- element number k of a slice of aggregates: where it lies -/
theorem rows_at {α : Type} {f : α → List Value} {sz : Nat} (hf : ∀ x, (f x).length = sz) (hp : 0 < sz) {w : World} {a : Option Addr} {n c : Nat} {S : List α} (h : IsSl w sz a n c (S.flatMap f)) (k : Nat) (x : α) (hx : S[k]? = some x) :
    ∃ b off, a = some ⟨b, off, none⟩ ∧ w.rangeAt b (off + k * sz) (f x) := by
  have hk' : k < S.length := (List.getElem?_eq_some_iff.1 hx).1
  have e : S[k] = x := (List.getElem?_eq_some_iff.1 hx).2
  have h0 := flat_at hf S k 0 hk' hp
  rw [e] at h0
  obtain ⟨b, off, ha, _⟩ := h.2.2.2.1.at _ ((f x)[0]'(by rw [hf]; omega)) (by rw [h0]; exact List.getElem?_eq_getElem (by rw [hf]; omega))
  refine ⟨b, off, ha, fun j v hj => ?_⟩
  have hjs : j < sz := by have := (List.getElem?_eq_some_iff.1 hj).1; rw [hf] at this; exact this
  have hj' := flat_at hf S k j hk' hjs
  rw [e] at hj'
  obtain ⟨b', off', ha', hc⟩ := h.2.2.2.1.at _ v (by rw [hj']; exact hj)
  rw [ha] at ha'
  simp only [Option.some.injEq, Addr.mk.injEq, and_true] at ha'
  obtain ⟨rfl, rfl⟩ := ha'
  rw [Nat.add_assoc]
  exact hc
theorem Lns.at {w : World} {a : Option Addr} {n c : Nat} {S : List LnS} (h : Lns w a n c S) (k : Nat) (x : LnS) (hx : S[k]? = some x) : ∃ b off, a = some ⟨b, off, none⟩ ∧ w.rangeAt b (off + k * 10) (lnCells x) := rows_at lnCells_len (by decide) h.sl k x hx
theorem Nds.at {w : World} {a : Option Addr} {n c : Nat} {S : List NdS} (h : Nds w a n c S) (k : Nat) (x : NdS) (hx : S[k]? = some x) : ∃ b off, a = some ⟨b, off, none⟩ ∧ w.rangeAt b (off + k * 10) (ndCells x) := rows_at ndCells_len (by decide) h.sl k x hx
theorem Ets.at {w : World} {s : Sl} {l : List (Bt × Int)} (h : Ets w s l) (k : Nat) (x : Bt × Int) (hx : l[k]? = some x) : ∃ b off, s.1 = some ⟨b, off, none⟩ ∧ w.rangeAt b (off + k * 2) (etCells x) := rows_at etCells_len (by decide) h k x hx
theorem range_keep {w w' : World} {b o : Nat} {cs : List Value} (h : w.rangeAt b o cs) (k : Keeps w w') : w'.rangeAt b o cs := fun j v hj => k _ _ (h j v hj)
theorem range_cell {w : World} {b o : Nat} {cs : List Value} (h : w.rangeAt b o cs) (j : Nat) {v : Value} (hj : cs[j]? = some v) : w.cell? ⟨b, o + j, none⟩ = some v := h j v hj
theorem get_some {α : Type} {S : List α} {k : Nat} (h : k < S.length) : ∃ x, S[k]? = some x := ⟨S[k], List.getElem?_eq_getElem h⟩
theorem mem_get {α : Type} {S : List α} {k : Nat} {x : α} (h : S[k]? = some x) : x ∈ S := List.mem_of_getElem? h
/-- data in memory of their own -/
def Own (w : World) (B : Nat) (s : Sl) (l : Bt) : Prop := w.ownsRow B 5 1 (.slice s.1 s.2.1 s.2.2) s.2.1 (l.map u8v)
theorem Own.dat {w : World} {B : Nat} {s : Sl} {l : Bt} (h : Own w B s l) : Dat w s l := own_isSl h
set_option maxRecDepth 100000 in
set_option maxHeartbeats 800000 in
theorem Clone_any (s : Sl) (x : Bt) (w : World) (ha : Dat w s x) (hn : s.2.1 ≤ 140737488355328) :
    Calls Try.prog 37 #[.slice s.1 s.2.1 s.2.2] w fun r w' => ∃ a n c, r = .returned (.slice a n c) ∧ Own w' w.heap.size (a, n, c) x ∧ Below w.heap.size w w' := by
  obtain ⟨a, n, c⟩ := s
  simp only [Dat] at ha hn ⊢
  obtain rfl := ha.len
  have ho0 := World.ownsRow_lit (base := w.heap.size) (e := 5) (size := 1) w #[] 0 (Nat.le_refl _) (by decide) rfl
  have hq := fun (w : World) (a : Option Addr) (l c : Nat) => _root_.Go.run_eql_slice_nil (P := Try.prog) w 37 5 a l c Try.underlying37
  cases a with
  | none =>
    obtain ⟨h1, h2⟩ := ha.2.2.2.2 rfl
    obtain rfl : x = [] := List.eq_nil_of_length_eq_zero h1
    subst h2
    go_enter Try.func37, Try.ntmps37
    go_wp2
    go_ret
    exact ⟨none, 0, 0, rfl, World.ownsRow_nil _ _ _ _, Below.refl _ _⟩
  | some p =>
    go_enter Try.func37, Try.ntmps37
    go_wp2_with (at_builtin; refine wpList_app rfl _ _ 37 rfl w.heap.size 5 _ 1 1 Try.underlying37 infoU8 rfl (by decide) (by decide) rfl ho0 rfl ((Keeps.alloc w _).bs ha) (bytes_oneCell x) (by omega) (by simp) ?_; intro a1 c1 w1 ho hg)
    go_ret
    simp only [Nat.zero_add, List.nil_append] at ho ⊢
    exact ⟨a1, _, c1, rfl, ho, below_app ((Below.refl _ _).alloc (Nat.le_refl _) _) ho0 hg (Nat.le_refl _) (by simp)⟩
set_option maxRecDepth 100000 in
set_option maxHeartbeats 800000 in
theorem Equal_any (s t : Sl) (x y : Bt) (w : World) (ha : Dat w s x) (hb : Dat w t y) :
    Calls Try.prog 50 #[.slice s.1 s.2.1 s.2.2, .slice t.1 t.2.1 t.2.2] w fun e w' => e = .returned (.bool (decide (x = y))) ∧ Below w.heap.size w w' := by
  obtain ⟨a, n, c⟩ := s
  obtain ⟨b, m, d⟩ := t
  simp only [Dat] at ha hb ⊢
  have hx := ha.len; have hy := hb.len; have c1 := ha.cap; have c2 := hb.cap; have m1 := ha.max; have m2 := hb.max
  by_cases hnm : n = m
  · subst hnm
    have hn : ((n : Int) != n) = false := by simp
    generalize hr : decide (x = y) = r
    have HR := Lib.hid hr; clear hr
    have HX := Lib.hid hx; have HY := Lib.hid hy; clear hx hy
    go_enter Try.func50, Try.ntmps50
    go_wp2
    go_loopw [13] (fun i wr => ∃ k : Nat, k ≤ n ∧ i = .int .i64 k ∧ Hid (x.take k = y.take k) ∧ Below w.heap.size w wr) (fun i _ => n - (intOf i).toNat)
    case atStart => exact ⟨0, Nat.zero_le _, rfl, (rfl : x.take 0 = y.take 0), Below.refl _ _⟩
    case round =>
      obtain ⟨k, hk, rfl, heq, hbel⟩ := hrel
      by_cases hlt : k < n
      · obtain ⟨b1, o1, rfl, h1⟩ := (Below.bs hbel ha).at k hlt
        obtain ⟨b2, o2, rfl, h2⟩ := (Below.bs hbel hb).at k hlt
        clear ha hb
        generalize hg1 : ((x.getD k 0).toNat : Int) = g1 at h1
        generalize hg2 : ((y.getD k 0).toNat : Int) = g2 at h2
        have HG1 := Lib.hid hg1; have HG2 := Lib.hid hg2; clear hg1 hg2
        by_cases hne : g1 = g2
        · have hz : (g1 != g2) = false := bne_f hne
          have HE := Lib.hid hne; clear hne
          go_wp2
          go_quiet (fail)
          go_wp2
          exact ⟨⟨k + 1, by omega, by go_num, same_step (by have := HX.out; omega) (by have := HX.out; have := HY.out; omega) heq (by rw [HG1.out, HG2.out, HE.out]), Below.drewN hbel _⟩, by simp [intOf]; omega⟩
        · have hz : (g1 != g2) = true := bne_t hne
          have HE := Lib.hid hne; clear hne
          go_wp2
          go_quiet (fail)
          go_wp2
          go_ret
          exact ⟨ret_bool (by rw [← HR.out]; exact (same_no (k := k) (by rw [HG1.out, HG2.out]; exact HE.out)).symm), Below.drewN hbel _⟩
      · obtain rfl : k = n := by omega
        go_wp2
        go_ret
        refine ⟨ret_bool ?_, hbel⟩
        have h1 := HX.out; have h2 := HY.out; have h3 := heq.out
        rw [List.take_of_length_le (by omega), List.take_of_length_le (by omega)] at h3
        rw [← HR.out]; simp [h3]
  · have hne : decide (x = y) = false := by
      simp only [decide_eq_false_iff_not]; intro h; subst h; omega
    rw [hne]; clear hne
    have hn : ((n : Int) != m) = true := by rw [bne_iff_ne]; omega
    go_enter Try.func50, Try.ntmps50
    go_wp2
    go_ret
    exact ⟨rfl, Below.refl _ _⟩
end Gr
end Go.Proofs.Ytpdkdhcbibcifaa
