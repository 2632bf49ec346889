/-
  J15: ApMem, ApZero, ApWalk, RgLawM, joined.
-/
import Derived.Test.YtpdkdhcbibcifaaJ01
import Derived.ArgAppend
import Derived.Deep.MidRow
import Derived.Lib.AppendZeros
import Derived.Test.YtpdkdhcbibcifaaJ13
import Derived.Test.YtpdkdhcbibcifaaJ14
namespace Go.Proofs.Ytpdkdhcbibcifaa
set_option linter.unusedVariables false
set_option linter.unusedSimpArgs false
open Go.ChangeShapes Go.WideShapes Go.ChangeAt Go.RowKit
/-- c cells of a block are there and may be written -/
def FreeAt (w : World) (g c : Nat) : Prop := ∀ k, k < c → (w.cell? ⟨g, k, none⟩).isSome = true ∧ w.frozen? ⟨g, k, none⟩ = false
/-- a slice whose cells, spare ones too, may be written; its block lies from B on -/
def Free (w : World) (B : Nat) (a : Option Addr) (n c : Nat) : Prop := n ≤ c ∧ c ≤ maxLen ∧ ((a = none ∧ c = 0) ∨ ∃ g, a = some ⟨g, 0, none⟩ ∧ B ≤ g ∧ g < w.heap.size ∧ FreeAt w g c)
def blk? (a : Option Addr) : Option Nat := a.map (·.block)
/-- what an append onto a slice changes -/
structure Chg (B : Nat) (a : Option Addr) (n : Nat) (w w' : World) : Prop where
  bel : Below B w w'
  other : ∀ b, b < w.heap.size → blk? a ≠ some b → w'.heap[b]? = w.heap[b]?
  low : ∀ b k, b < w.heap.size → k < n → w'.cell? ⟨b, k, none⟩ = w.cell? ⟨b, k, none⟩
  there : ∀ b k, b < w.heap.size → (w.cell? ⟨b, k, none⟩).isSome = true → (w'.cell? ⟨b, k, none⟩).isSome = true
  froz : ∀ b k, b < w.heap.size → w'.frozen? ⟨b, k, none⟩ = w.frozen? ⟨b, k, none⟩
theorem Free.keep {w w' : World} {B : Nat} {a a1 : Option Addr} {n c n1 : Nat} (h : Free w B a n c) (k : Chg B a1 n1 w w') : Free w' B a n c := by
  obtain ⟨h1, h2, h3⟩ := h
  refine ⟨h1, h2, ?_⟩
  rcases h3 with h3 | ⟨g, rfl, hB, hg, hf⟩
  · exact .inl h3
  · exact .inr ⟨g, rfl, hB, Nat.lt_of_lt_of_le hg k.bel.size, fun j hj => ⟨k.there g j hg (hf j hj).1, by rw [k.froz g j hg]; exact (hf j hj).2⟩⟩
theorem Free.below {w w' : World} {B : Nat} {a : Option Addr} {n c : Nat} (h : Free w B a n c) (k : Below w.heap.size w w') : Free w' B a n c := by
  obtain ⟨h1, h2, h3⟩ := h
  refine ⟨h1, h2, ?_⟩
  rcases h3 with h3 | ⟨g, rfl, hB, hg, hf⟩
  · exact .inl h3
  · exact .inr ⟨g, rfl, hB, Nat.lt_of_lt_of_le hg k.size, fun j hj => ⟨by rw [k.cell (p := ⟨g, j, none⟩) hg]; exact (hf j hj).1, by rw [k.frozen (p := ⟨g, j, none⟩) hg]; exact (hf j hj).2⟩⟩
theorem Free.base {w : World} {B B' : Nat} {a : Option Addr} {n c : Nat} (h : Free w B a n c) (hb : B' ≤ B) : Free w B' a n c := by
  obtain ⟨h1, h2, h3⟩ := h
  refine ⟨h1, h2, ?_⟩
  rcases h3 with h3 | ⟨g, ha, hB, r⟩
  · exact .inl h3
  · exact .inr ⟨g, ha, by omega, r⟩
theorem Free.nil (w : World) (B : Nat) : Free w B none 0 0 := ⟨Nat.le_refl _, by unfold maxLen; omega, .inl ⟨rfl, rfl⟩⟩
/-- what is owned may be written -/
theorem own_free {w : World} {base : Nat} {e : TypeId} {a : Option Addr} {n c : Nat} {xs : List Value} (h : w.ownsRow base e 1 (.slice a n c) n xs) : Free w base a n c := by
  obtain ⟨hl, h⟩ := h
  rcases h with ⟨hv, h0⟩ | ⟨g, cap, cur, hv, hb, hh, hn, hm, hs, ht⟩
  · simp only [Value.slice.injEq] at hv
    obtain ⟨rfl, rfl, rfl⟩ := hv
    exact Free.nil _ _
  · simp only [Value.slice.injEq, true_and] at hv
    obtain ⟨rfl, rfl⟩ := hv
    refine ⟨hn, hm, .inr ⟨g, rfl, hb, (Array.getElem?_eq_some_iff.1 hh).1, fun k hk => ⟨?_, frozen_of_row _ _ _ _ _ hh⟩⟩⟩
    rw [cell_of_row _ _ _ _ _ _ hh]
    have : k < cur.size := by rw [hs]; omega
    simp [this]
/-- new blocks alone -/
theorem chg_grown {B : Nat} {a : Option Addr} {n : Nat} {w w' : World} (hg : w.grownBy w' none) (hB : B ≤ w.heap.size) : Chg B a n w w' := by
  have hb : ∀ b, b < w.heap.size → w'.heap[b]? = w.heap[b]? := fun b hb => hg.block b hb (by simp)
  exact ⟨⟨hg.os, hg.tape, hg.output, hg.size, fun k hk => hb k (by omega)⟩, fun b hb' _ => hb b hb',
    fun b k hb' _ => World.cell?_of_block (a := ⟨b, k, none⟩) (hb b hb'), fun b k hb' h => by rw [World.cell?_of_block (a := ⟨b, k, none⟩) (hb b hb')]; exact h, fun b k hb' => World.frozen?_of_block (a := ⟨b, k, none⟩) (hb b hb')⟩
theorem setCells_size (b : Nat) : ∀ (vs : List Value) (o : Nat) (w : World), (w.setCells b o vs).heap.size = w.heap.size
  | [], _, _ => rfl
  | v :: r, o, w => by rw [World.setCells, setCells_size b r]; simp
theorem setCells_other (b : Nat) : ∀ (vs : List Value) (o : Nat) (w : World) (k : Nat), k ≠ b → (w.setCells b o vs).heap[k]? = w.heap[k]?
  | [], _, _, _, _ => rfl
  | v :: r, o, w, k, h => by rw [World.setCells, setCells_other b r (o + 1) _ k h, heap_setCell_other _ _ _ _ (fun e => h (by simpa using e))]
theorem setCells_below (B b : Nat) (hb : B ≤ b) : ∀ (vs : List Value) (o : Nat) (w : World), Below B w (w.setCells b o vs)
  | [], _, _ => Below.refl _ _
  | v :: r, o, w => ((Below.refl B w).setCell (show B ≤ (⟨b, o, none⟩ : Addr).block from hb) v).trans (setCells_below B b hb r (o + 1) _)
/-- in place -/
theorem chg_place {B g n m : Nat} {w : World} {vs : List Value} (hB : B ≤ g) (hl : vs.length = m) (hv : ∀ j, j < m → (w.cell? ⟨g, n + j, none⟩).isSome = true) : Chg B (some ⟨g, 0, none⟩) n w (w.setCells g n vs) := by
  refine ⟨setCells_below B g hB vs n w, fun b _ h => setCells_other g vs n w b (fun e => h (by rw [e]; rfl)), fun b k _ hk => ?_, fun b k _ h => ?_, fun b k _ => World.frozen?_setCells g vs n w _⟩
  · exact World.cell?_setCells_out g vs n w _ (fun _ _ => .inl hk)
  · exact World.isSome_setCells g vs n w _ h
section
variable {P : Program}
/-- append(x, y...) of bytes, x a slice that may be written -/
theorem run_app_free (w : World) (t ty e : TypeId) (ht : P.underlying t = some (.slice e)) (hi : (P.info? e).map (fun i => (i.zero, i.size, i.bytes)) = some (some (.int .u8 0), 1, 1))
    (B : Nat) (hB : B ≤ w.heap.size) (a : Option Addr) (n c : Nat) (h : Free w B a n c) (ad : Addr) (m c2 : Nat) (news : List Value) (hl : news.length = m) (hnews : ∀ j v, news[j]? = some v → w.cell? (ad.add j) = some v) (h1 : ∀ v ∈ news, v.oneCell' = true)
    (hb : n + m ≤ 140737488355328) :
    ∃ a' c' w', (Builtin.append_ #[t, t] ty #[.slice a n c, .slice (some ad) m c2]).run P w = .ok (.slice a' (n + m) c') w' ∧ Free w' B a' (n + m) c' ∧ Chg B a n w w' ∧ (blk? a' = blk? a ∨ ∃ b, blk? a' = some b ∧ w.heap.size ≤ b) := by
  obtain ⟨i, hi, hz0, hz1, hz2⟩ := info_parts hi
  obtain ⟨hn, hc, hf⟩ := h
  have hml : n + m ≤ maxLen := by unfold maxLen; omega
  rcases hf with ⟨rfl, rfl⟩ | ⟨g, rfl, hg1, hg2, hfr⟩
  · obtain rfl : n = 0 := by omega
    obtain ⟨v', w', hr, ho, hgr, _⟩ := run_append_own (P := P) w w.heap.size t ty e i (.int .u8 0) 1 1 ht hi hz0 hz1 hz2 rfl (by decide) (.slice none 0 0) 0 [] (World.ownsRow_nil w _ e 1) ad m c2 news (by omega) hnews h1 hml (by omega) (Nat.le_refl _)
    obtain ⟨a', c', rfl⟩ := own_slice ho
    refine ⟨a', c', w', hr, (own_free ho).base hB, chg_grown hgr hB, ?_⟩
    obtain ⟨hlen, hh⟩ := ho
    rcases hh with ⟨hv, _⟩ | ⟨g, cap, cur, hv, hbg, hh, _⟩
    · simp only [Value.slice.injEq] at hv
      left; rw [hv.1]
    · simp only [Value.slice.injEq, true_and] at hv
      right
      exact ⟨g, by rw [hv.1]; rfl, hbg⟩
  · have hold : ∀ j u, (((List.range n).map fun j => (w.cell? ⟨g, j, none⟩).getD undef))[j]? = some u → w.cell? ⟨g, 0 + j, none⟩ = some u := by
      intro j u hj
      obtain ⟨hjn, he⟩ := List.getElem?_eq_some_iff.1 hj
      simp only [List.length_map, List.length_range] at hjn
      simp only [List.getElem_map, List.getElem_range] at he
      obtain ⟨v, hv⟩ := Option.isSome_iff_exists.1 (hfr j (by omega)).1
      rw [hv] at he
      simp only [Option.getD_some] at he
      rw [Nat.zero_add, hv, he]
    by_cases hr : n + m ≤ c
    · have hrun := run_append_room_cells (P := P) w t ty e i ht hi g 0 n c ad m c2 news (by rw [hz1]; omega) hnews h1 hr (fun j hj => by rw [hz1, Nat.zero_add, Nat.mul_one]; exact (hfr _ (by omega)).1) (fun j hj => by rw [hz1, Nat.zero_add, Nat.mul_one]; exact (hfr _ (by omega)).2)
      rw [hz1, Nat.zero_add, Nat.mul_one] at hrun
      have hch : Chg B (some ⟨g, 0, none⟩) n w (w.setCells g n news) := chg_place hg1 hl (fun j hj => (hfr _ (by omega)).1)
      refine ⟨_, _, _, hrun, ?_, hch, .inl rfl⟩
      have hF : Free w B (some ⟨g, 0, none⟩) (n + m) c := ⟨hr, hc, .inr ⟨g, rfl, hg1, hg2, hfr⟩⟩
      exact hF.keep hch
    · obtain ⟨v', w', hrun, r1, r2⟩ := run_append_arg_grows (P := P) w t ty e i (.int .u8 0) 1 1 ht hi hz0 hz1 hz2 rfl (by decide) ⟨g, 0, none⟩ n c ((List.range n).map fun j => (w.cell? ⟨g, j, none⟩).getD undef) (by simp) (fun j u hj => by rw [Addr.add_lit]; exact hold j u hj) ad m c2 news (by omega) hnews (by omega) hml (by omega)
      obtain ⟨a', c', rfl⟩ := own_slice r1
      refine ⟨a', c', w', hrun, (own_free r1).base hB, chg_grown r2 hB, .inr ?_⟩
      obtain ⟨hlen, hh⟩ := r1
      rcases hh with ⟨hv, h0⟩ | ⟨g', cap, cur, hv, hbg, hh, _⟩
      · omega
      · simp only [Value.slice.injEq, true_and] at hv
        exact ⟨g', by rw [hv.1]; rfl, hbg⟩
end
end Go.Proofs.Ytpdkdhcbibcifaa
namespace Go.Proofs.Ytpdkdhcbibcifaa
set_option linter.unusedVariables false
set_option linter.unusedSimpArgs false
open Go.ChangeShapes Go.WideShapes Go.ChangeAt Go.RowKit
section
variable {P : Program}
theorem zeroCells_one (m : Nat) : ∀ v ∈ (Builtin.zeroCells (Value.int .u8 0).cells m).toList, v.oneCell' = true := by
  intro v hv
  simp [Builtin.zeroCells, Value.cells] at hv
  obtain ⟨_, _, rfl⟩ := hv
  simp [Value.oneCell', Nat.mod_one]
theorem zeroCells_len (m : Nat) : (Builtin.zeroCells (Value.int .u8 0).cells m).toList.length = m := by simp [Builtin.zeroCells, Value.cells]
theorem run_zeros_free (w : World) (t tn ty e : TypeId) (kn : IntKind) (ht : P.underlying t = some (.slice e)) (htn : P.underlying tn = some (.int kn)) (hi : (P.info? e).map (fun i => (i.zero, i.size, i.bytes)) = some (some (.int .u8 0), 1, 1))
    (B : Nat) (hB : B ≤ w.heap.size) (a : Option Addr) (n c : Nat) (h : Free w B a n c) (m : Nat) (h0 : 0 < m) (hm : m ≤ 1000000) (hb : n + m ≤ 140737488355328) :
    ∃ a' c' w', (Builtin.append_ #[t, tn] ty #[.slice a n c, .int .i64 (m : Int)]).run P w = .ok (.slice a' (n + m) c') w' ∧ Chg B a n w w' := by
  obtain ⟨i, hi, hz0, hz1, hz2⟩ := info_parts hi
  obtain ⟨hn, hc, hf⟩ := h
  have hw : IntKind.i64.wrap (m : Int) = m := by rw [IntKind.wrap_i64]; omega
  have hneg : ¬ ((m : Int) < 0) := by omega
  have h48i : ¬ (281474976710656 < (m : Int)) := by omega
  have hm0 : ¬ m = 0 := by omega
  have hnw : w.grownBy w.drew none := ⟨rfl, rfl, rfl, Nat.le_refl _, fun _ _ _ => rfl⟩
  have hal : ∀ o : Obj, w.grownBy (w.drew.alloc o) none := fun o => ⟨rfl, rfl, rfl, by simp, fun k hk _ => heap_alloc_old w.drew _ hk⟩
  rcases hf with ⟨rfl, rfl⟩ | ⟨g, rfl, hg1, hg2, hfr⟩
  · obtain rfl : n = 0 := by omega
    have hr := Lib.run_append_nil_zeros (P := P) w t tn ty e i (.int .u8 0) .i64 kn ht htn hi hz0 m h0 (by omega) (by omega) (by rw [hz2]; omega)
    rw [Nat.zero_add]
    exact ⟨_, _, _, hr, chg_grown (hal _) hB⟩
  · by_cases hr : n + m ≤ c
    · have hst := run_storeCells_cells (P := P) g n (Builtin.zeroCells (Value.int .u8 0).cells m).toList 0 w (fun j hj => by rw [zeroCells_len] at hj; exact (hfr _ (by omega)).1) (fun j hj => by rw [zeroCells_len] at hj; exact (hfr _ (by omega)).2) (zeroCells_one m)
      simp only [Nat.add_zero] at hst
      have hrun : (Builtin.append_ #[t, tn] ty #[.slice (some ⟨g, 0, none⟩) n c, .int .i64 (m : Int)]).run P w = .ok (.slice (some ⟨g, 0, none⟩) (n + m) c) (w.setCells g n (Builtin.zeroCells (Value.int .u8 0).cells m).toList) := by
        simp [Builtin.append_, run_underlying ht, run_underlying htn, sizeOf, typeInfo, zeroValue, hi, hz0, hz1, hz2, asInt, asIntOf, hw, hneg, h48i, hm0, hr, Addr.add_lit, hst]
      exact ⟨_, _, _, hrun, chg_place hg1 (zeroCells_len m) (fun j hj => (hfr _ (by omega)).1)⟩
    · have hgt : c < n + m := by omega
      have hfit := growslice_fits (bytes := 1) hgt (by omega)
      rw [Nat.mul_one] at hfit
      have h48' : ¬ (281474976710656 < Builtin.nextslicecap (n + m) c) := by omega
      have h63' : ¬ (9223372036854775807 < ((n : Int) + (m : Int))) := by omega
      have hold : ∀ j u, (((List.range n).map fun j => (w.cell? ⟨g, j, none⟩).getD undef))[j]? = some u → w.drew.cell? ((⟨g, 0, none⟩ : Addr).add j) = some u := by
        intro j u hj
        obtain ⟨hjn, he⟩ := List.getElem?_eq_some_iff.1 hj
        simp only [List.length_map, List.length_range] at hjn
        simp only [List.getElem_map, List.getElem_range] at he
        obtain ⟨v, hv⟩ := Option.isSome_iff_exists.1 (hfr j (by omega)).1
        rw [hv] at he
        simp only [Option.getD_some] at he
        rw [Addr.add_lit, Nat.zero_add]
        show w.cell? _ = _
        rw [hv, he]
      have hfo := run_firstCells_some (P := P) w.drew 1 n ⟨g, 0, none⟩ n c ((List.range n).map fun j => (w.cell? ⟨g, j, none⟩).getD undef) (by simp) hold
      generalize ((List.range n).map fun j => (w.cell? ⟨g, j, none⟩).getD undef) = olds at *
      have hrun : (Builtin.append_ #[t, tn] ty #[.slice (some ⟨g, 0, none⟩) n c, .int .i64 (m : Int)]).run P w =
          .ok (.slice (some ⟨w.heap.size, 0, none⟩) (n + m) (grownCap w (n + m) c e)) (w.drew.alloc (.cells (olds.toArray ++ Builtin.zeroCells (Value.int .u8 0).cells m ++ Builtin.zeroCells (Value.int .u8 0).cells (grownCap w (n + m) c e - (n + m))) e)) := by
        simp [Builtin.append_, run_underlying ht, run_underlying htn, sizeOf, typeInfo, zeroValue, hi, hz0, hz1, hz2, asInt, asIntOf, hw, hneg, h48i, h48', h63', hm0, hr, Question.forced, hfo, newRow, grownCap]
      exact ⟨_, _, _, hrun, chg_grown (hal _) hB⟩
end
end Go.Proofs.Ytpdkdhcbibcifaa
namespace Go.Proofs.Ytpdkdhcbibcifaa
set_option linter.unusedVariables false
set_option linter.unusedSimpArgs false
open Go.ChangeShapes Go.WideShapes Go.ChangeAt Go.RowKit
abbrev Sl := Option Addr × Nat × Nat
def slV (s : Sl) : Value := .slice s.1 s.2.1 s.2.2
def slAt (S : List Sl) (i : Nat) : Sl := S.getD i (none, 0, 0)
/-- the lists as Apart holds them -/
structure ApI (w0 : World) (B : Nat) (aL : Option Addr) (nL cL : Nat) (S : List Sl) (wr : World) : Prop where
  bel : Below B w0 wr
  outer : IsSl wr 1 aL nL cL (S.map slV)
  free : ∀ i, i < nL → Free wr B (slAt S i).1 (slAt S i).2.1 (slAt S i).2.2
/-- no two share a block, none lies where the list of lists lies -/
structure Dist (aL : Option Addr) (nL : Nat) (S : List Sl) : Prop where
  two : ∀ i j b, i < nL → j < nL → i ≠ j → blk? (slAt S i).1 = some b → blk? (slAt S j).1 ≠ some b
  out : ∀ i b x, i < nL → blk? (slAt S i).1 = some b → aL = some x → x.block ≠ b
def mk (t : Nat) : Value := .int .u8 (IntKind.u8.wrap (7 * (t : Int) + 1))
/-- the cells of list t up to k bear its mark -/
def MarkTo (wr : World) (S : List Sl) (t k : Nat) : Prop := ∀ j, j < k → ∀ g, (slAt S t).1 = some ⟨g, 0, none⟩ → wr.cell? ⟨g, j, none⟩ = some (mk t)
def Marks (wr : World) (S : List Sl) (m : Nat) : Prop := ∀ t, t < m → MarkTo wr S t (slAt S t).2.1
theorem ApI.at {w0 wr : World} {B : Nat} {aL : Option Addr} {nL cL : Nat} {S : List Sl} (h : ApI w0 B aL nL cL S wr) (i : Nat) (hi : i < nL) :
    ∃ b off, aL = some ⟨b, off, none⟩ ∧ wr.cell? ⟨b, off + i, none⟩ = some (slV (slAt S i)) := by
  have hl : S.length = nL := by have := h.outer.1; simpa using this
  refine h.outer.2.2.2.1.at i _ ?_
  simp [slAt, List.getD, List.getElem?_eq_getElem (show i < S.length by omega)]
theorem outer_chg {wr w' : World} {aL : Option Addr} {nL cL : Nat} {S : List Sl} (h : IsSl wr 1 aL nL cL (S.map slV)) (hk : ∀ x k, aL = some x → (wr.cell? (x.add k)).isSome = true → w'.cell? (x.add k) = wr.cell? (x.add k)) : IsSl w' 1 aL nL cL (S.map slV) := by
  refine ⟨h.1, h.2.1, h.2.2.1, fun j v hj => ?_, h.2.2.2.2⟩
  obtain ⟨x, hx, hc⟩ := h.2.2.2.1 j v hj
  exact ⟨x, hx, by rw [hk x j hx (by rw [hc]; rfl)]; exact hc⟩
theorem add_block (x : Addr) (k : Nat) : (x.add k).block = x.block := by unfold Addr.add; split <;> rfl
theorem ApI.chg {w0 wr w' : World} {B : Nat} {aL : Option Addr} {nL cL : Nat} {S : List Sl} (h : ApI w0 B aL nL cL S wr) {a : Option Addr} {n : Nat} (k : Chg B a n wr w') (ho : ∀ b x, blk? a = some b → aL = some x → x.block ≠ b) : ApI w0 B aL nL cL S w' := by
  refine ⟨h.bel.trans k.bel, outer_chg h.outer fun x j hx hs => ?_, fun i hi => (h.free i hi).keep k⟩
  have hlt := World.block_lt_of_cell? (w := wr) (a := x.add j) (Option.isSome_iff_exists.1 hs).choose_spec
  rw [add_block] at hlt
  refine World.cell?_of_block (a := x.add j) ?_
  rw [add_block]
  exact k.other _ hlt (fun e => ho _ x e hx rfl)
theorem MarkTo.chg {wr w' : World} {S : List Sl} {t k : Nat} (h : MarkTo wr S t k) {B : Nat} {a : Option Addr} {n : Nat} (c : Chg B a n wr w') (hd : blk? a ≠ blk? (slAt S t).1 ∨ k ≤ n) : MarkTo w' S t k := by
  intro j hj g hg
  have hc := h j hj g hg
  have hlt : g < wr.heap.size := World.block_lt_of_cell? (w := wr) (a := ⟨g, j, none⟩) hc
  rcases hd with hd | hd
  · rw [World.cell?_of_block (a := ⟨g, j, none⟩) (c.other g hlt (fun e => hd (by rw [e, hg]; rfl)))]; exact hc
  · rw [c.low g j hlt (by omega)]; exact hc
theorem Marks.chg {wr w' : World} {S : List Sl} {m : Nat} (h : Marks wr S m) {B : Nat} {a : Option Addr} {n : Nat} (c : Chg B a n wr w') (hd : ∀ t, t < m → blk? a ≠ blk? (slAt S t).1 ∨ (slAt S t).2.1 ≤ n) : Marks w' S m :=
  fun t ht => (h t ht).chg c (hd t ht)
/-- one cell of list i is written -/
theorem ApI.store {w0 wr : World} {B : Nat} {aL : Option Addr} {nL cL : Nat} {S : List Sl} (h : ApI w0 B aL nL cL S wr) (hD : Dist aL nL S) {i g j : Nat} (hi : i < nL) (hg : (slAt S i).1 = some ⟨g, 0, none⟩) (hB : B ≤ g) (v : Value) :
    ApI w0 B aL nL cL S (wr.setCell ⟨g, j, none⟩ v) := by
  have hb : blk? (slAt S i).1 = some g := by rw [hg]; rfl
  refine ⟨h.bel.setCell (show B ≤ (⟨g, j, none⟩ : Addr).block from hB) v, outer_chg h.outer fun x k hx _ => ?_, fun t ht => ?_⟩
  · refine World.cell?_setCell_other _ _ _ _ (fun e => ?_)
    have := hD.out i g x hi hb hx
    exact this (by have := congrArg Addr.block e; rw [add_block] at this; exact this.symm)
  · obtain ⟨h1, h2, h3⟩ := h.free t ht
    refine ⟨h1, h2, ?_⟩
    rcases h3 with h3 | ⟨g', ha, hB', hlt, hf⟩
    · exact .inl h3
    · refine .inr ⟨g', ha, hB', by simpa using hlt, fun k hk => ⟨?_, by rw [World.frozen?_setCell]; exact (hf k hk).2⟩⟩
      exact World.isSome_setCells g [v] j wr _ (hf k hk).1
theorem Marks.store {wr : World} {aL : Option Addr} {nL : Nat} {S : List Sl} {i g j : Nat} (h : Marks wr S i) (hD : Dist aL nL S) (hi : i < nL) (hg : (slAt S i).1 = some ⟨g, 0, none⟩) (v : Value) : Marks (wr.setCell ⟨g, j, none⟩ v) S i := by
  intro t ht k hk g' hg'
  rw [World.cell?_setCell_other _ _ _ _ (fun e => by
    simp only [Addr.mk.injEq] at e
    obtain ⟨e1, _⟩ := e
    subst e1
    exact hD.two i t _ hi (by omega) (by omega) (by rw [hg]; rfl) (by rw [hg']; rfl))]
  exact h t ht k hk g' hg'
theorem MarkTo.store {wr : World} {S : List Sl} {i g j : Nat} (h : MarkTo wr S i j) (hg : (slAt S i).1 = some ⟨g, 0, none⟩) (hs : (wr.cell? ⟨g, j, none⟩).isSome = true) : MarkTo (wr.setCell ⟨g, j, none⟩ (mk i)) S i (j + 1) := by
  intro k hk g' hg'
  rw [hg] at hg'
  simp only [Option.some.injEq, Addr.mk.injEq, and_true] at hg'
  subst hg'
  by_cases e : k = j
  · subst e
    obtain ⟨u, hu⟩ := Option.isSome_iff_exists.1 hs
    exact World.cell?_setCell_same _ _ _ hu
  · rw [World.cell?_setCell_other _ _ _ _ (fun e' => e (by simp only [Addr.mk.injEq] at e'; exact e'.2.1.symm))]
    exact h k (by omega) g hg
/-- a slice that is grown: it began as list i, or lies in a block of its own -/
def OneI (S : List Sl) (aL : Option Addr) (nL i : Nat) (a : Option Addr) : Prop := blk? a = blk? (slAt S i).1 ∨ ∃ b, blk? a = some b ∧ (∀ t, t < nL → blk? (slAt S t).1 ≠ some b) ∧ ∀ x, aL = some x → x.block ≠ b
theorem blk_none {a : Option Addr} (h : blk? a = none) : a = none := by cases a with | none => rfl | some x => cases h
theorem OneI.mark {w0 wr : World} {B : Nat} {aL : Option Addr} {nL cL i : Nat} {S : List Sl} {a : Option Addr} (h : OneI S aL nL i a) (hI : ApI w0 B aL nL cL S wr) (hD : Dist aL nL S) (hi : i < nL) {n : Nat} (hn : (slAt S i).2.1 ≤ n) : ∀ t, t < nL → blk? a ≠ blk? (slAt S t).1 ∨ (slAt S t).2.1 ≤ n := by
  intro t ht
  by_cases e : blk? a = blk? (slAt S t).1
  · right
    cases hb : blk? (slAt S t).1 with
    | none =>
      have h0 := blk_none hb
      obtain ⟨f1, f2, f3⟩ := hI.free t ht
      rcases f3 with ⟨_, f4⟩ | ⟨g, f4, _⟩
      · omega
      · rw [h0] at f4; cases f4
    | some b =>
      by_cases et : t = i
      · subst et; exact hn
      · exfalso
        rw [hb] at e
        rcases h with h | ⟨b', hb', hx, _⟩
        · exact hD.two i t b hi ht (fun e' => et e'.symm) (by rw [← h, e]) hb
        · rw [e] at hb'
          have hbb : b = b' := Option.some.inj hb'
          subst hbb
          exact hx t ht hb
  · exact .inl e
theorem OneI.out {aL : Option Addr} {nL i : Nat} {S : List Sl} {a : Option Addr} (h : OneI S aL nL i a) (hD : Dist aL nL S) (hi : i < nL) : ∀ b x, blk? a = some b → aL = some x → x.block ≠ b := by
  intro b x hb hx
  rcases h with h | ⟨b', hb', _, ho⟩
  · exact hD.out i b x hi (by rw [← h]; exact hb) hx
  · have hbb : b' = b := Option.some.inj (hb'.symm.trans hb)
    subst hbb
    exact ho x hx
theorem OneI.next {w0 wr : World} {B : Nat} {aL : Option Addr} {nL cL i : Nat} {S : List Sl} {a a' : Option Addr} (h : OneI S aL nL i a) (hI : ApI w0 B aL nL cL S wr) (hi : i < nL) (hn : blk? a' = blk? a ∨ ∃ b, blk? a' = some b ∧ wr.heap.size ≤ b) : OneI S aL nL i a' := by
  rcases hn with hn | ⟨b, hb, hs⟩
  · rcases h with h | ⟨b', hb', h2, h3⟩
    · exact .inl (hn.trans h)
    · exact .inr ⟨b', hn.trans hb', h2, h3⟩
  · refine .inr ⟨b, hb, fun t ht e => ?_, fun x hx e => ?_⟩
    · obtain ⟨f1, f2, f3⟩ := hI.free t ht
      rcases f3 with ⟨f4, _⟩ | ⟨g, f4, _, f5, _⟩
      · rw [f4] at e; cases e
      · rw [f4] at e
        have hgb : g = b := Option.some.inj e
        omega
    · obtain ⟨b', off, hb', hc⟩ := hI.at i hi
      have hlt := World.block_lt_of_cell? (w := wr) (a := ⟨b', off + i, none⟩) hc
      rw [hb'] at hx
      have hxx := Option.some.inj hx
      subst hxx
      have : b' = b := e
      simp only at hlt
      omega
theorem ApI.below {w0 wr w' : World} {B : Nat} {aL : Option Addr} {nL cL : Nat} {S : List Sl} (h : ApI w0 B aL nL cL S wr) (hB : B ≤ wr.heap.size) (k : Below wr.heap.size wr w') : ApI w0 B aL nL cL S w' :=
  ⟨h.bel.trans (k.mono hB), (Below.keeps k).sl h.outer, fun i hi => (h.free i hi).below k⟩
theorem Marks.below {wr w' : World} {S : List Sl} {m : Nat} (h : Marks wr S m) (k : Below wr.heap.size wr w') : Marks w' S m := fun t ht j hj g hg => Below.keeps k _ _ (h t ht j hj g hg)
section
variable {P : Program} {ops : Array Oper} {rest : List Oper} {o : Oper} {a : Act} {w : World} {Q : Exit → Act → World → Prop}
theorem wpList_app_free (hgd : o.guard = none) (s x : Operand) (t : TypeId) (ho : o.op = .call { callee := .builtin .append, args := #[s, x], argTypes := #[t, t] })
    (e : TypeId) (ht : P.underlying t = some (.slice e)) (hi : (P.info? e).map (fun i => (i.zero, i.size, i.bytes)) = some (some (.int .u8 0), 1, 1)) (B : Nat) (hB : B ≤ w.heap.size)
    {a1 : Option Addr} {n c : Nat} (hs : a.eval s = .slice a1 n c) (hf : Free w B a1 n c) {ad : Addr} {m c2 : Nat} (hx : a.eval x = .slice (some ad) m c2) (news : List Value) (hsrc : IsSl w 1 (some ad) m c2 news) (h1 : ∀ u ∈ news, u.oneCell' = true) (hb : n + m ≤ 140737488355328)
    (h : ∀ a' c' w', Free w' B a' (n + m) c' → Chg B a1 n w w' → (blk? a' = blk? a1 ∨ ∃ b, blk? a' = some b ∧ w.heap.size ≤ b) → wpList P ops Q rest (a.put o.dst (.slice a' (n + m) c')) w') : wpList P ops Q (o :: rest) a w := by
  refine wpList_plain hgd fun K hK => ?_
  obtain ⟨a', c', w', hr, h2, h3, h4⟩ := run_app_free (P := P) w t o.type e ht hi B hB a1 n c hf ad m c2 news (by have := hsrc.1; omega) (fun j v hj => by
    obtain ⟨x, hx, hc⟩ := hsrc.2.2.2.1 j v hj
    cases hx
    exact hc) h1 hb
  unfold Oper.wp execOp
  simp only [ho, resolve, invoke, builtin, Sem.run_bind, Sem.run_pure, Result.andThen_ok, List.map_toArray, List.map_cons, List.map_nil, hs, hx, hr]
  exact hK _ _ (h a' c' w' h2 h3 h4)
theorem wpList_zeros_free (hgd : o.guard = none) (s x : Operand) (t tn : TypeId) (ho : o.op = .call { callee := .builtin .append, args := #[s, x], argTypes := #[t, tn] })
    (e : TypeId) (kn : IntKind) (ht : P.underlying t = some (.slice e)) (htn : P.underlying tn = some (.int kn)) (hi : (P.info? e).map (fun i => (i.zero, i.size, i.bytes)) = some (some (.int .u8 0), 1, 1)) (B : Nat) (hB : B ≤ w.heap.size)
    {a1 : Option Addr} {n c : Nat} (hs : a.eval s = .slice a1 n c) (hf : Free w B a1 n c) (m : Nat) (hx : a.eval x = .int .i64 (m : Int)) (h0 : 0 < m) (hm : m ≤ 1000000) (hb : n + m ≤ 140737488355328)
    (h : ∀ a' c' w', Chg B a1 n w w' → wpList P ops Q rest (a.put o.dst (.slice a' (n + m) c')) w') : wpList P ops Q (o :: rest) a w := by
  refine wpList_plain hgd fun K hK => ?_
  obtain ⟨a', c', w', hr, h2⟩ := run_zeros_free (P := P) w t tn o.type e kn ht htn hi B hB a1 n c hf m h0 hm hb
  unfold Oper.wp execOp
  simp only [ho, resolve, invoke, builtin, Sem.run_bind, Sem.run_pure, Result.andThen_ok, List.map_toArray, List.map_cons, List.map_nil, hs, hx, hr]
  exact hK _ _ (h a' c' w' h2)
end
set_option maxRecDepth 100000 in
set_option maxHeartbeats 3200000 in
theorem Apart_any (aL : Option Addr) (nL cL : Nat) (S : List Sl) (w : World) (B : Nat) (hB : B ≤ w.heap.size) (hI : ApI w B aL nL cL S w) (hD : Dist aL nL S) (hn : nL ≤ 100) (hlen : ∀ i, i < nL → (slAt S i).2.1 ≤ 70368744177664) :
    Calls Try.prog 22 #[.slice aL nL cL] w fun e w' => e = .returned (.bool true) ∧ Below B w w' := by
  have hcap : nL ≤ cL := hI.outer.2.1
  have hmax : cL ≤ 9223372036854775807 := hI.outer.2.2.1
  have HI := Lib.hid hI; have HD := Lib.hid hD; have HN := Lib.hid hlen; clear hI hD hlen
  go_enter Try.func22, Try.ntmps22
  go_wp2
  go_loopw [3] (fun i wr => ∃ k : Nat, k ≤ nL ∧ i = .int .i64 k ∧ Hid (ApI w B aL nL cL S wr) ∧ Hid (Marks wr S k)) (fun i _ => nL - (intOf i).toNat)
  case atStart => exact ⟨0, Nat.zero_le _, rfl, HI, Lib.hid (fun t ht => absurd ht (Nat.not_lt_zero t))⟩
  case round =>
    obtain ⟨k, hk, rfl, hi, hm⟩ := hrel
    by_cases hlt : k < nL
    · have hki : (k : Int) < nL := by omega
      have hw1 : IntKind.i64.wrap (7 * (k : Int)) = 7 * (k : Int) := IntWalk.i64_in _ (by omega)
      obtain ⟨b, off, rfl, hc⟩ := hi.out.at k hlt
      have hnk := HN.out k hlt
      have hfk := hi.out.free k hlt
      generalize hs : slAt S k = s at *
      obtain ⟨a1, n1, c1⟩ := s
      simp only [slV] at hc hnk hfk
      have HS := Lib.hid hs; clear hs
      have HF := Lib.hid hfk; clear hfk
      have hc0 := hc
      go_wp2
      go_loopw [4] (fun i wr => ∃ j : Nat, j ≤ n1 ∧ i = .int .i64 j ∧ Hid (ApI w B (some ⟨b, off, none⟩) nL cL S wr) ∧ Hid (Marks wr S k) ∧ Hid (MarkTo wr S k j)) (fun i _ => n1 - (intOf i).toNat)
      case atStart => exact ⟨0, Nat.zero_le _, rfl, hi, hm, Lib.hid (fun j hj => absurd hj (Nat.not_lt_zero j))⟩
      case round =>
        clear hc hc0 hi hm
        obtain ⟨j, hj, rfl, hi, hm, hmt⟩ := hrel
        obtain ⟨b', off', hbb, hc⟩ := hi.out.at k hlt
        obtain ⟨rfl, rfl⟩ : b' = b ∧ off' = off := by simpa using hbb.symm
        rw [HS.out] at hc
        simp only [slV] at hc
        clear hbb
        by_cases hjl : j < n1
        · have hji : (j : Int) < n1 := by omega
          obtain ⟨f1, f2, f3⟩ := (by have := hi.out.free k hlt; rw [HS.out] at this; exact this : Free wr B a1 n1 c1)
          rcases f3 with ⟨rfl, f4⟩ | ⟨g, rfl, g1, g2, g3⟩
          · omega
          · have hg : (slAt S k).1 = some ⟨g, 0, none⟩ := by rw [HS.out]
            obtain ⟨v0, hv0⟩ := Option.isSome_iff_exists.1 (g3 j (by omega)).1
            have hfz := (g3 j (by omega)).2
            have hi2 := hi.out.store HD.out hlt hg g1 (j := j) (mk k)
            have hm2 := hm.out.store HD.out hlt hg (j := j) (mk k)
            have hmt2 := hmt.out.store hg (g3 j (by omega)).1
            have HI2 := Lib.hid hi2; have HM2 := Lib.hid hm2; have HMT2 := Lib.hid hmt2
            clear hi2 hm2 hmt2 hg g3
            go_wp2
            go_round
            case rel => exact ⟨j + 1, by omega, by go_num, HI2, HM2, HMT2⟩
            case measure => simp [intOf]; omega
        · obtain rfl : j = n1 := by omega
          have hji : ¬ (j : Int) < j := by omega
          have hmn : Marks wr S (k + 1) := fun t ht => by
            by_cases e : t = k
            · subst e; rw [HS.out]; exact hmt.out
            · exact hm.out t (by omega)
          have HMN := Lib.hid hmn; clear hmn
          go_wp2
          go_round
          case rel => exact ⟨k + 1, by omega, by go_num, hi, HMN⟩
          case measure => simp [intOf]; omega
    · obtain rfl : k = nL := by omega
      have hki : ¬ (k : Int) < k := by omega
      go_wp2
      go_loopw [5] (fun i wr => ∃ j : Nat, j ≤ k ∧ i = .int .i64 j ∧ Hid (ApI w B aL k cL S wr) ∧ Hid (Marks wr S k)) (fun i _ => k - (intOf i).toNat)
      case atStart => exact ⟨0, Nat.zero_le _, rfl, hi, hm⟩
      case round =>
        clear hi hm
        obtain ⟨i, hik, rfl, hi, hm⟩ := hrel
        by_cases hlt2 : i < k
        · have hii : (i : Int) < k := by omega
          have hnk := HN.out i hlt2
          obtain ⟨b, off, rfl, hc⟩ := hi.out.at i hlt2
          have hfk := hi.out.free i hlt2
          have hone : OneI S (some ⟨b, off, none⟩) k i (slAt S i).1 := .inl rfl
          have hle : (slAt S i).2.1 ≤ (slAt S i).2.1 := Nat.le_refl _
          generalize hs : slAt S i = s at hnk hc hfk hone hle
          obtain ⟨a1, n1, c1⟩ := s
          simp only [slV] at hc hnk hfk hone hle
          have HS := Lib.hid hs; clear hs
          have HF := Lib.hid hfk; have HONE := Lib.hid hone; clear hfk hone hle
          have hw2 : IntKind.i64.wrap (128 + (i : Int)) = 128 + (i : Int) := IntWalk.i64_in _ (by omega)
          go_wp2
          go_loopw [6, 7] (fun v x wr => ∃ (j : Nat) (a2 : Option Addr) (c2 : Nat), j ≤ 16 ∧ x = .int .i64 j ∧ v = .slice a2 (n1 + j) c2 ∧ Hid (Free wr B a2 (n1 + j) c2) ∧ Hid (OneI S (some ⟨b, off, none⟩) k i a2) ∧ Hid (ApI w B (some ⟨b, off, none⟩) k cL S wr) ∧ Hid (Marks wr S k)) (fun _ x _ => 16 - (intOf x).toNat)
          case atStart => exact ⟨0, a1, c1, Nat.zero_le _, rfl, rfl, HF, HONE, hi, hm⟩
          case round =>
            clear hc hi hm HF
            obtain ⟨j, a2, c2, hj, rfl, rfl, hf, ho, hi, hm⟩ := hrel
            have hBr := Nat.le_trans hB hi.out.bel.size
            by_cases hjl : j < 16
            · have hji : (j : Int) < 16 := by omega
              go_wp2_with (at_builtin; refine wpList_app_free (w := wr.alloc (.cells #[.int .u8 (128 + (i : Int))] 5)) rfl (.tmp 50) (.tmp 54) 37 rfl 5 Try.underlying37 infoU8 B (by simp; omega) rfl (by exact hf.out.below ((Below.refl _ _).alloc (Nat.le_refl _) _)) rfl _ (isSl_new wr 5 1 1 #[.int .u8 (128 + (i : Int))] rfl (by unfold maxLen; omega)) (by simp [Value.oneCell']) (by omega) ?_; intro a3 c3 w3 hf3 hch3 hbk3)
              have hI1 := hi.out.below hBr ((Below.refl _ _).alloc (Nat.le_refl _) (.cells #[.int .u8 (128 + (i : Int))] 5))
              have hm1 := hm.out.below ((Below.refl _ _).alloc (Nat.le_refl _) (.cells #[.int .u8 (128 + (i : Int))] 5))
              have hle : (slAt S i).2.1 ≤ n1 + j := by rw [HS.out]; exact Nat.le_add_right _ _
              refine ⟨⟨j + 1, a3, c3, by omega, by go_num, rfl, Lib.hid hf3, Lib.hid (ho.out.next hI1 hlt2 hbk3), Lib.hid (hI1.chg hch3 (ho.out.out HD.out hlt2)), Lib.hid (hm1.chg hch3 (ho.out.mark hI1 HD.out hlt2 hle))⟩, by simp [intOf]; omega⟩
            · obtain rfl : j = 16 := by omega
              have hji : ¬ (16 : Int) < 16 := by omega
              obtain ⟨b', off', hbb, hc⟩ := hi.out.at i hlt2
              obtain ⟨rfl, rfl⟩ : b' = b ∧ off' = off := by simpa using hbb.symm
              rw [HS.out] at hc
              simp only [slV] at hc
              clear hbb
              have hF2 : Free wr B a1 n1 c1 := by have := hi.out.free i hlt2; rw [HS.out] at this; exact this
              have HF2 := Lib.hid hF2; clear hF2
              go_wp2_with (at_builtin; refine wpList_zeros_free rfl (.tmp 60) _ 37 3 rfl 5 .i64 Try.underlying37 Try.underlying3 infoU8 B hBr rfl (by exact HF2.out) 600 rfl (by decide) (by decide) (by omega) ?_; intro a4 c4 w4 hch4; have HCH := Lib.hid hch4; clear hch4; have HI4 := Lib.hid (hi.out.chg HCH.out (HONE.out.out HD.out hlt2)); have HM4 := Lib.hid (hm.out.chg HCH.out (HONE.out.mark hi.out HD.out hlt2 (by rw [HS.out]; exact Nat.le_refl _))); obtain ⟨b5, off5, hbb5, hc5⟩ := HI4.out.at i hlt2; obtain ⟨rfl, rfl⟩ : b5 = b' ∧ off5 = off' := (by simpa using hbb5.symm); rw [HS.out] at hc5; simp only [slV] at hc5; clear hbb5 hc)
              go_round
              case rel => exact ⟨i + 1, by omega, by go_num, HI4, HM4⟩
              case measure => simp [intOf]; omega
        · obtain rfl : i = k := by omega
          have hii : ¬ (i : Int) < i := by omega
          go_wp2
          go_loopw [9] (fun x wr => ∃ j : Nat, j ≤ i ∧ x = .int .i64 j ∧ Hid (ApI w B aL i cL S wr) ∧ Hid (Marks wr S i)) (fun x _ => i - (intOf x).toNat)
          case atStart => exact ⟨0, Nat.zero_le _, rfl, hi, hm⟩
          case round =>
            clear hi hm
            obtain ⟨t, htk, rfl, hi, hm⟩ := hrel
            by_cases hlt3 : t < i
            · have hti : (t : Int) < i := by omega
              have hw1 : IntKind.i64.wrap (7 * (t : Int)) = 7 * (t : Int) := IntWalk.i64_in _ (by omega)
              have hnk := HN.out t hlt3
              obtain ⟨b, off, rfl, hc⟩ := hi.out.at t hlt3
              have hmt := hm.out t hlt3
              have hfk := hi.out.free t hlt3
              unfold MarkTo at hmt
              generalize slAt S t = s at *
              obtain ⟨a1, n1, c1⟩ := s
              simp only [slV] at hc hnk hfk hmt
              have HF := Lib.hid hfk; clear hfk
              have HMT := Lib.hid hmt; clear hmt
              have hc0 := hc
              go_wp2
              go_loop [10] (fun x => ∃ j : Nat, j ≤ n1 ∧ x = .int .i64 j) (fun x => n1 - (intOf x).toNat)
              case atStart => exact ⟨0, Nat.zero_le _, rfl⟩
              case round =>
                obtain ⟨j, hj, rfl⟩ := hrel
                by_cases hjl : j < n1
                · have hji : (j : Int) < n1 := by omega
                  obtain ⟨f1, f2, f3⟩ := HF.out
                  rcases f3 with ⟨rfl, f4⟩ | ⟨g, rfl, g1, g2, g3⟩
                  · omega
                  · have hv := HMT.out j hjl g rfl
                    unfold mk at hv
                    clear g3 hc0
                    go_wp2
                    go_round
                    case rel => exact ⟨j + 1, by omega, by go_num⟩
                    case measure => simp [intOf]; omega
                · obtain rfl : j = n1 := by omega
                  have hji : ¬ (j : Int) < j := by omega
                  go_wp2
                  go_round
                  case rel => exact ⟨t + 1, by omega, by go_num, hi, hm⟩
                  case measure => simp [intOf]; omega
            · obtain rfl : t = i := by omega
              have hti : ¬ (t : Int) < t := by omega
              go_wp2
              go_ret
              exact ⟨rfl, hi.out.bel⟩
end Go.Proofs.Ytpdkdhcbibcifaa
namespace Go.Proofs.Ytpdkdhcbibcifaa
set_option linter.unusedVariables false
set_option linter.unusedSimpArgs false
open Go.ChangeShapes Go.WideShapes Go.ChangeAt Go.RowKit
theorem infoSlG : (Try.prog.info? 37).map (fun i => (i.zero, i.size, i.bytes)) = some (some (Value.slice none 0 0), 1, 24) := by kernel_rfl
theorem slV_oneG (S : List Sl) : ∀ u ∈ S.map slV, u.oneCell' = true := by
  intro u hu
  obtain ⟨s, _, rfl⟩ := List.mem_map.1 hu
  rfl
/-- slices of four sources that share no block -/
structure Src4 (wr : World) (B top : Nat) (src : Nat → Nat → Sl) (N : Nat → Nat) : Prop where
  free : ∀ t j, t < 4 → j < N t → Free wr B (src t j).1 (src t j).2.1 (src t j).2.2
  two : ∀ t j t' j' b, t < 4 → j < N t → t' < 4 → j' < N t' → (t, j) ≠ (t', j') → blk? (src t j).1 = some b → blk? (src t' j').1 ≠ some b
  len : ∀ t j, t < 4 → j < N t → (src t j).2.1 ≤ 70368744177664
  low : ∀ t j b, t < 4 → j < N t → blk? (src t j).1 = some b → b < top
def pickS (src : Nat → Nat → Sl) (K : List (Nat × Nat)) : List Sl := K.map fun q => src q.1 q.2
theorem Src4.below {w w' : World} {B top : Nat} {src : Nat → Nat → Sl} {N : Nat → Nat} (h : Src4 w B top src N) (k : Below w.heap.size w w') : Src4 w' B top src N :=
  ⟨fun t j ht hj => (h.free t j ht hj).below k, h.two, h.len, h.low⟩
theorem Src4.apart {wr : World} {B top : Nat} {src : Nat → Nat → Sl} {N : Nat → Nat} (h : Src4 wr B top src N) {K : List (Nat × Nat)} (hn : K.Nodup) (hv : ∀ q ∈ K, q.1 < 4 ∧ q.2 < N q.1) {aL : Option Addr} {cL : Nat} {e : TypeId}
    (ho : wr.ownsRow top e 1 (.slice aL K.length cL) K.length ((pickS src K).map slV)) (hK : K.length ≤ 100) : ApI wr B aL K.length cL (pickS src K) wr ∧ Dist aL K.length (pickS src K) ∧ (∀ i, i < K.length → (slAt (pickS src K) i).2.1 ≤ 70368744177664) := by
  have hat : ∀ i (hi : i < K.length), slAt (pickS src K) i = src (K[i]).1 (K[i]).2 ∧ (K[i]).1 < 4 ∧ (K[i]).2 < N (K[i]).1 := fun i hi => by
    have := hv _ (List.getElem_mem hi)
    refine ⟨?_, this.1, this.2⟩
    simp [slAt, pickS, List.getD, List.getElem?_map, List.getElem?_eq_getElem hi]
  refine ⟨⟨Below.refl _ _, own_isSl ho, fun i hi => ?_⟩, ⟨fun i j b hi hj hne h1 h2 => ?_, fun i b x hi h1 hx e => ?_⟩, fun i hi => ?_⟩
  · obtain ⟨e, h1, h2⟩ := hat i hi
    rw [e]; exact h.free _ _ h1 h2
  · obtain ⟨e, k1, k2⟩ := hat i hi
    obtain ⟨e', k1', k2'⟩ := hat j hj
    rw [e] at h1; rw [e'] at h2
    refine h.two _ _ _ _ b k1 k2 k1' k2' (fun he => ?_) h1 h2
    have h3 : K[i] = K[j] := by
      rcases hq : K[i] with ⟨a, b⟩
      rcases hq' : K[j] with ⟨a', b'⟩
      rw [hq, hq'] at he
      exact he
    exact hne ((List.getElem_inj hn).1 h3)
  · obtain ⟨e', k1, k2⟩ := hat i hi
    rw [e'] at h1
    subst hx
    have h2 := h.low _ _ b k1 k2 h1
    have h3 := (ho.lt x.block rfl).1
    omega
  · obtain ⟨e, h1, h2⟩ := hat i hi
    rw [e]; exact h.len _ _ h1 h2
namespace Gr
theorem blk_eq (s : Gr.Sl) : blk s = blk? s.1 := by
  obtain ⟨a, n, c⟩ := s
  cases a <;> rfl
theorem pw_lt {α : Type} {S : List α} {f : α → Gr.Sl} (hp : S.Pairwise fun x y => ∀ b b', blk (f x) = some b → blk (f y) = some b' → b < b') {i j : Nat} (hij : i ≠ j) {x y : α} (hx : S[i]? = some x) (hy : S[j]? = some y) {b : Nat} (h1 : blk? (f x).1 = some b) : blk? (f y).1 ≠ some b := by
  intro h2
  rw [← blk_eq] at h1 h2
  obtain ⟨hi, rfl⟩ := List.getElem?_eq_some_iff.1 hx
  obtain ⟨hj, rfl⟩ := List.getElem?_eq_some_iff.1 hy
  rcases Nat.lt_or_gt_of_ne hij with h | h
  · have := List.pairwise_iff_getElem.1 hp i j hi hj h b b h1 h2; omega
  · have := List.pairwise_iff_getElem.1 hp j i hj hi h b b h2 h1; omega
/-- the four sources of the law GatherMemory -/
def srcG (Sa Sb : List EnS) (So Sc : List LnS) (t j : Nat) : Gr.Sl :=
  match t with
  | 0 => (Sa[j]?.map (·.2)).getD (none, 0, 0)
  | 1 => (Sb[j]?.map (·.2)).getD (none, 0, 0)
  | 2 => (So[j]?.map (·.2)).getD (none, 0, 0)
  | _ => (Sc[j]?.map (·.2)).getD (none, 0, 0)
def lenG (Sa Sb : List EnS) (So Sc : List LnS) (t : Nat) : Nat :=
  match t with
  | 0 => Sa.length
  | 1 => Sb.length
  | 2 => So.length
  | _ => Sc.length
/-- a source: data of one's own between two marks, rising -/
structure Ris (wr : World) (B lo hi : Nat) (L : List Gr.Sl) : Prop where
  free : ∀ s ∈ L, Free wr B s.1 s.2.1 s.2.2
  inn : ∀ s ∈ L, ∀ b, blk? s.1 = some b → lo ≤ b ∧ b < hi
  rise : L.Pairwise fun x y => ∀ b b', blk? x.1 = some b → blk? y.1 = some b' → b < b'
  len : ∀ s ∈ L, s.2.1 ≤ 70368744177664
theorem ris_en {w wr : World} {B a : Nat} {A : Option Addr} {n c : Nat} {S : List EnS} (h : NewEn w B A n c S) (hk : Below w.heap.size w wr) (hb : a ≤ B) (hd : ∀ x ∈ S, x.1.data.length ≤ 70368744177664) : Ris wr a B w.heap.size (S.map (·.2)) := by
  refine ⟨fun s hs => ?_, fun s hs b hb' => ?_, ?_, fun s hs => ?_⟩
  · obtain ⟨x, hx, rfl⟩ := List.mem_map.1 hs
    exact ((own_free (h.dat x hx)).base hb).below hk
  · obtain ⟨x, hx, rfl⟩ := List.mem_map.1 hs
    exact (h.dat x hx).lt b (by rw [← blk_eq] at hb'; exact hb')
  · rw [List.pairwise_map]
    exact h.rise.imp fun {x y} hxy b b' h1 h2 => hxy b b' (by rw [blk_eq]; exact h1) (by rw [blk_eq]; exact h2)
  · obtain ⟨x, hx, rfl⟩ := List.mem_map.1 hs
    have h1 := (h.dat x hx).dat.len
    have h2 := hd x hx
    omega
theorem ris_ln {w wr : World} {B a : Nat} {A : Option Addr} {n c : Nat} {S : List LnS} (h : NewLn w B A n c S) (hk : Below w.heap.size w wr) (hb : a ≤ B) (hd : ∀ x ∈ S, x.1.data.length ≤ 70368744177664) : Ris wr a B w.heap.size (S.map (·.2)) := by
  refine ⟨fun s hs => ?_, fun s hs b hb' => ?_, ?_, fun s hs => ?_⟩
  · obtain ⟨x, hx, rfl⟩ := List.mem_map.1 hs
    exact ((own_free (h.dat x hx)).base hb).below hk
  · obtain ⟨x, hx, rfl⟩ := List.mem_map.1 hs
    exact (h.dat x hx).lt b (by rw [← blk_eq] at hb'; exact hb')
  · rw [List.pairwise_map]
    exact h.rise.imp fun {x y} hxy b b' h1 h2 => hxy b b' (by rw [blk_eq]; exact h1) (by rw [blk_eq]; exact h2)
  · obtain ⟨x, hx, rfl⟩ := List.mem_map.1 hs
    have h1 := (h.dat x hx).dat.len
    have h2 := hd x hx
    omega
theorem src_four {wr : World} {B l0 h0 l1 h1 l2 h2 l3 h3 top : Nat} {Sa Sb : List EnS} {So Sc : List LnS} (r0 : Ris wr B l0 h0 (Sa.map (·.2))) (r1 : Ris wr B l1 h1 (Sb.map (·.2))) (r2 : Ris wr B l2 h2 (So.map (·.2))) (r3 : Ris wr B l3 h3 (Sc.map (·.2)))
    (o20 : h2 ≤ l0) (o01 : h0 ≤ l1) (o13 : h1 ≤ l3) (e0 : l0 ≤ h0) (e1 : l1 ≤ h1) (e3 : h3 ≤ top) (e33 : l3 ≤ h3) : Src4 wr B top (srcG Sa Sb So Sc) (lenG Sa Sb So Sc) := by
  -- each slice in its source
  have key : ∀ t j, t < 4 → j < lenG Sa Sb So Sc t → ∃ (L : List Gr.Sl) (lo hi : Nat), Ris wr B lo hi L ∧ L[j]? = some (srcG Sa Sb So Sc t j) ∧ ((t = 0 ∧ L = Sa.map (·.2) ∧ lo = l0 ∧ hi = h0) ∨ (t = 1 ∧ L = Sb.map (·.2) ∧ lo = l1 ∧ hi = h1) ∨ (t = 2 ∧ L = So.map (·.2) ∧ lo = l2 ∧ hi = h2) ∨ (t = 3 ∧ L = Sc.map (·.2) ∧ lo = l3 ∧ hi = h3)) := by
    intro t j ht hj
    match t, ht, hj with
    | 0, _, hj => exact ⟨_, _, _, r0, by simp only [lenG] at hj; simp [srcG, List.getElem?_eq_getElem hj], Or.inl ⟨rfl, rfl, rfl, rfl⟩⟩
    | 1, _, hj => exact ⟨_, _, _, r1, by simp only [lenG] at hj; simp [srcG, List.getElem?_eq_getElem hj], Or.inr (Or.inl ⟨rfl, rfl, rfl, rfl⟩)⟩
    | 2, _, hj => exact ⟨_, _, _, r2, by simp only [lenG] at hj; simp [srcG, List.getElem?_eq_getElem hj], Or.inr (Or.inr (Or.inl ⟨rfl, rfl, rfl, rfl⟩))⟩
    | 3, _, hj => exact ⟨_, _, _, r3, by simp only [lenG] at hj; simp [srcG, List.getElem?_eq_getElem hj], Or.inr (Or.inr (Or.inr ⟨rfl, rfl, rfl, rfl⟩))⟩
  refine ⟨fun t j ht hj => ?_, fun t j t' j' b ht hj ht' hj' hne hb hb' => ?_, fun t j ht hj => ?_, fun t j b ht hj hb => ?_⟩
  · obtain ⟨L, lo, hi, r, hg, _⟩ := key t j ht hj
    exact r.free _ (List.mem_of_getElem? hg)
  · obtain ⟨L, lo, hi, r, hg, hw⟩ := key t j ht hj
    obtain ⟨L', lo', hi', r', hg', hw'⟩ := key t' j' ht' hj'
    by_cases htt : t = t'
    · subst htt
      have hLL : L = L' := by
        rcases hw with ⟨e, f, _⟩ | ⟨e, f, _⟩ | ⟨e, f, _⟩ | ⟨e, f, _⟩ <;> rcases hw' with ⟨e', f', _⟩ | ⟨e', f', _⟩ | ⟨e', f', _⟩ | ⟨e', f', _⟩ <;> first | (rw [f, f']; done) | (exfalso; omega)
      subst hLL
      have hjj : j ≠ j' := fun e => hne (by rw [e])
      obtain ⟨q1, q2⟩ := List.getElem?_eq_some_iff.1 hg
      obtain ⟨q3, q4⟩ := List.getElem?_eq_some_iff.1 hg'
      rcases Nat.lt_or_gt_of_ne hjj with h | h
      · have := List.pairwise_iff_getElem.1 r.rise j j' q1 q3 h
        rw [q2, q4] at this
        have := this b b hb hb'; omega
      · have := List.pairwise_iff_getElem.1 r.rise j' j q3 q1 h
        rw [q2, q4] at this
        have := this b b hb' hb; omega
    · have i1 := r.inn _ (List.mem_of_getElem? hg) b hb
      have i2 := r'.inn _ (List.mem_of_getElem? hg') b hb'
      rcases hw with ⟨e, _, f, g⟩ | ⟨e, _, f, g⟩ | ⟨e, _, f, g⟩ | ⟨e, _, f, g⟩ <;> rcases hw' with ⟨e', _, f', g'⟩ | ⟨e', _, f', g'⟩ | ⟨e', _, f', g'⟩ | ⟨e', _, f', g'⟩ <;> omega
  · obtain ⟨L, lo, hi, r, hg, _⟩ := key t j ht hj
    exact r.len _ (List.mem_of_getElem? hg)
  · obtain ⟨L, lo, hi, r, hg, hw⟩ := key t j ht hj
    have i1 := r.inn _ (List.mem_of_getElem? hg) b hb
    rcases hw with ⟨e, _, f, g⟩ | ⟨e, _, f, g⟩ | ⟨e, _, f, g⟩ | ⟨e, _, f, g⟩ <;> omega
/-- what the entries of an answer are bounded by -/
theorem EntsOut.sm {w' : World} {B : Nat} {ls : List Ln} {a : Option Addr} {n c : Nat} {code : Int} {S : List EnS} (h : EntsOut w' B ls a n c code S) (hs : LnsSm 1048576 ls) : EnsSm 1048577 (eOf S) := by
  by_cases h0 : code = 0
  · have := h.yes h0
    show EnsSm 1048577 (S.map (·.1))
    rw [this]
    refine ⟨by rw [List.length_map]; exact hs.1, fun e he => ?_⟩
    obtain ⟨l, hl, rfl⟩ := List.mem_map.1 he
    exact entOf_sm (hs.2 l hl)
  · rw [h.no h0]
    exact ⟨by simp, by simp⟩
theorem EntsOut.len_le {w' : World} {B : Nat} {ls : List Ln} {a : Option Addr} {n c : Nat} {code : Int} {S : List EnS} (h : EntsOut w' B ls a n c code S) : n ≤ ls.length := by
  have hl := h.new.len
  by_cases h0 : code = 0
  · have := congrArg List.length (h.yes h0)
    rw [List.length_map, List.length_map] at this
    omega
  · rw [h.no h0] at hl
    simp at hl
    omega
theorem LinsOut.dat {w' : World} {B : Nat} {es : List En} {a : Option Addr} {n c : Nat} {code : Int} {S : List LnS} (h : LinsOut w' B es a n c code S) (hs : EnsSm 1048577 es) : ∀ x ∈ S, x.1.data.length ≤ 70368744177664 := fun x hx => by
  by_cases h0 : code = 0
  · have h1 : x.1 ∈ S.map (·.1) := List.mem_map.2 ⟨x, hx, rfl⟩
    rw [h.yes h0] at h1
    have := (linesGo_sm hs.2 x.1 h1).1
    omega
  · rw [h.no h0] at hx
    simp at hx
theorem pickS_snoc {src : Nat → Nat → Gr.Sl} {K : List (Nat × Nat)} {t j : Nat} {s : Gr.Sl} (h : src t j = s) : (pickS src (K ++ [(t, j)])).map _root_.Go.Proofs.Ytpdkdhcbibcifaa.slV = (pickS src K).map _root_.Go.Proofs.Ytpdkdhcbibcifaa.slV ++ [.slice s.1 s.2.1 s.2.2] := by
  subst h
  simp [pickS, _root_.Go.Proofs.Ytpdkdhcbibcifaa.slV]
theorem nodup_snoc {K : List (Nat × Nat)} (h : K.Nodup) {q : Nat × Nat} (hq : q ∉ K) : (K ++ [q]).Nodup := by
  rw [List.nodup_append]
  exact ⟨h, by simp, fun a ha b hb e => by simp at hb; subst hb e; exact hq ha⟩
theorem app_next {w10 W wB : World} {la a9 : Option Addr} {m lc c9 : Nat} {K : List (Nat × Nat)} {src : Nat → Nat → Gr.Sl} {t j : Nat} {xa : Option Addr} {xn xc : Nat} (ho : W.ownsRow w10.heap.size 37 1 (.slice la m lc) m ((pickS src K).map _root_.Go.Proofs.Ytpdkdhcbibcifaa.slV)) (hb : Below w10.heap.size w10 W)
    (ho9 : wB.ownsRow w10.heap.size 37 1 (.slice a9 (m + 1) c9) (m + 1) ((pickS src K).map _root_.Go.Proofs.Ytpdkdhcbibcifaa.slV ++ [.slice xa xn xc])) (hg9 : (W.alloc (.cells #[.slice xa xn xc] 37)).grownBy wB (Value.slice la m lc).ownBlock) (hs : src t j = (xa, xn, xc)) :
    wB.ownsRow w10.heap.size 37 1 (.slice a9 (m + 1) c9) (m + 1) ((pickS src (K ++ [(t, j)])).map _root_.Go.Proofs.Ytpdkdhcbibcifaa.slV) ∧ Below w10.heap.size w10 wB := by
  refine ⟨by rw [pickS_snoc hs]; exact ho9, ?_⟩
  exact (hb.alloc hb.size _).grown hg9 (by have := hb.size; simp; omega) (fun k hk => (ho.lt k hk).1)
set_option maxRecDepth 100000 in
set_option maxHeartbeats 4000000 in
theorem GatherMemory_walk (a0 : Option Addr) (n0 c0 : Nat) (S0 : List LnS) (w : World) (h0 : Lns w a0 n0 c0 S0) (hs0 : LnsSm 1048576 (lOf S0)) :
    Calls Try.prog 8 #[.slice a0 n0 c0] w fun r w' => r = .returned (.bool true) ∧ Below w.heap.size w w' := by
  have hl0 := h0.len
  have hn0 : n0 ≤ 2000000 := by have := hs0.1; rw [List.length_map] at this; omega
  have hd0 : ∀ x ∈ S0, x.2.2.1 ≤ 140737488355328 := fun x hx => by
    have e1 := (h0.dat x hx).len
    have e2 := (hs0.2 x.1 (List.mem_map.2 ⟨x, hx, rfl⟩)).1
    omega
  have HL0 := Lib.hid hs0
  go_enter Try.func8, Try.ntmps8
  go_upto_region 7 with (first
    | (go_at_call 9; (refine (alive_any w).mono ?_); rintro r w1 ⟨rfl, hb1⟩; have HB1 := Lib.hid hb1; clear hb1)
    | (go_at_call 10; (refine (CopyLs_any a0 n0 c0 S0 w1 (h0.below HB1.out) (by omega) hd0).mono ?_); rintro r w2 ⟨a2, n2, c2, S2, rfl, hn2, hm2, hb2⟩; have HN2 := Lib.hid hn2; have HM2 := Lib.hid hm2; have HB2 := Lib.hid hb2; clear hn2 hm2 hb2; have HW2 : Hid (w2 = w2) := Lib.hid rfl)
    | (go_at_call 11; (refine (Entries_any a2 n2 c2 S2 w2 HN2.out.lns (lns_num HN2.out.lns HM2.out HL0.out)).mono ?_); rintro r w3 ⟨a3, n3, c3, k3, S3, rfl, hb3, hn3, hc3, hd3, he3, hf3, hg3⟩; have HO3 := Lib.hid (EntsOut.mk hn3 hc3 hd3 he3 hf3 hg3); have HB3 := Lib.hid hb3; clear hb3 hn3 hc3 hd3 he3 hf3 hg3 HW2)
    | (go_at_call 11; (refine (Entries_any a2 n2 c2 S2 w3 (HN2.out.lns.below HB3.out) (lns_num HN2.out.lns HM2.out HL0.out)).mono ?_); rintro r w4 ⟨a4, n4, c4, k4, S4, rfl, hb4, hn4, hc4, hd4, he4, hf4, hg4⟩; have HO4 := Lib.hid (EntsOut.mk hn4 hc4 hd4 he4 hf4 hg4); have HB4 := Lib.hid hb4; clear hb4 hn4 hc4 hd4 he4 hf4 hg4)
    | (go_at_call 12; (refine (REntries_any a0 n0 c0 S0 w4 (h0.below (Below.seq (Below.seq (Below.seq HB1.out HB2.out) HB3.out) HB4.out)) (lns_num h0 rfl HL0.out) (lns_tg HL0.out)).mono ?_); rintro r w5 ⟨a5, n5, c5, k5, S5, rfl, hb5, hn5, hc5, hd5, he5, hf5, hg5⟩; have HO5 := Lib.hid (EntsOut.mk hn5 hc5 hd5 he5 hf5 hg5); have HB5 := Lib.hid hb5; clear hb5 hn5 hc5 hd5 he5 hf5 hg5))
  have hlo2 : lOf S2 = lOf S0 := HM2.out
  have ho3 := HO3.out
  have ho4 := HO4.out
  rw [hlo2] at ho3 ho4
  obtain ⟨rfl, hs35⟩ := ho3.same HO5.out
  obtain ⟨rfl, hs45⟩ := ho4.same HO5.out
  have hsm3 := ho3.sm HL0.out
  have hle3 : n3 ≤ n0 := by have := ho3.len_le; rw [List.length_map] at this; omega
  have hn43 : n4 = n3 := by
    have e1 := ho3.new.len; have e2 := ho4.new.len
    have e3 := congrArg List.length (hs45.trans hs35.symm)
    rw [List.length_map, List.length_map] at e3
    omega
  have hn20 : n2 = n0 := by
    have e1 := HN2.out.len
    have e3 := congrArg List.length HM2.out
    rw [List.length_map, List.length_map] at e3
    omega
  have hn53 : n5 = n3 := by
    have e1 := ho3.new.len; have e2 := HO5.out.new.len
    have e3 := congrArg List.length hs35
    rw [List.length_map, List.length_map] at e3
    omega
  subst hn43 hn20 hn53
  have HE3 := Lib.hid ho3; have HE4 := Lib.hid ho4; have HSM3 := Lib.hid hsm3; have HS35 := Lib.hid hs35
  have HSE1 := Lib.hid (SameEs_yes a3 a5 _ _ c3 c5 S3 S5 w5 ((HO3.out.new.below HB4.out).below HB5.out).ens HO5.out.new.ens hs35)
  have HSE2 := Lib.hid (fun w6 (hb : Below w5.heap.size w5 w6) => SameEs_yes a4 a5 _ _ c4 c5 S4 S5 w6 ((HO4.out.new.below HB5.out).below hb).ens (HO5.out.new.below hb).ens hs45)
  have HD3 : Hid (∀ x ∈ S3, x.1.data.length ≤ 70368744177664) := Lib.hid (fun x hx => by have := (hsm3.2 x.1 (List.mem_map.2 ⟨x, hx, rfl⟩)).1; omega)
  have HD4 : Hid (∀ x ∈ S4, x.1.data.length ≤ 70368744177664) := Lib.hid (fun x hx => by have := ((ho4.sm HL0.out).2 x.1 (List.mem_map.2 ⟨x, hx, rfl⟩)).1; omega)
  have HD2 : Hid (∀ x ∈ S2, x.1.data.length ≤ 70368744177664) := Lib.hid (fun x hx => by
    have h1 : x.1 ∈ lOf S2 := List.mem_map.2 ⟨x, hx, rfl⟩
    rw [hlo2] at h1
    have := (HL0.out.2 x.1 h1).1; omega)
  clear ho3 ho4 hs35 hs45 hsm3 hlo2 hd0 h0 hs0 hl0
  go_upto_region 9 with (first
    | (go_at_call 13; (refine (HSE1.out).mono ?_); rintro r w6 ⟨rfl, hb6⟩; have HB6 := Lib.hid hb6; clear hb6 HSE1)
    | (go_at_call 13; (refine (HSE2.out _ HB6.out).mono ?_); rintro r w7 ⟨rfl, hb7⟩; have HB7 := Lib.hid hb7; clear hb7 HSE2))
  have HB37 := Lib.hid (Below.seq (Below.seq (Below.seq HB4.out HB5.out) HB6.out) HB7.out)
  have HB57 := Lib.hid (Below.seq HB6.out HB7.out)
  go_upto_region 11 with (first
    | (go_at_call 19; (refine (Lines_any a3 _ c3 S3 w7 (HO3.out.new.below HB37.out).ens (enNum_of (HO3.out.new.below HB37.out).ens rfl HSM3.out)).mono ?_); rintro r w8 ⟨a8, n8, c8, k8, S8, rfl, hb8, hn8, hc8, hd8, he8, hf8⟩; have HO8 := Lib.hid (LinsOut.mk hn8 hc8 hd8 he8 hf8); have HB8 := Lib.hid hb8; clear hb8 hn8 hc8 hd8 he8 hf8)
    | (go_at_call 21; (refine (RLines_any a5 _ c5 S5 w8 ((HO5.out.new.below HB57.out).below HB8.out).ens (enNum_of ((HO5.out.new.below HB57.out).below HB8.out).ens HS35.out.symm HSM3.out)).mono ?_); rintro r w9 ⟨a9, n9, c9, k9, S9, rfl, hb9, hn9, hc9, hd9, he9, hf9⟩; have HO9 := Lib.hid (LinsOut.mk hn9 hc9 hd9 he9 hf9); have HB9 := Lib.hid hb9; clear hb9 hn9 hc9 hd9 he9 hf9))
  have ho9 := HO9.out
  rw [show eOf S5 = eOf S3 from HS35.out.symm] at ho9
  obtain ⟨rfl, hs89⟩ := HO8.out.same ho9
  have HSL := Lib.hid (SameLs_yes a8 a9 n8 n9 c8 c9 S8 S9 w9 (HO8.out.new.below HB9.out).lns HO9.out.new.lns hs89)
  have HD8 := Lib.hid (HO8.out.dat HSM3.out)
  clear ho9 hs89
  go_upto_region 13 with (go_at_call 14; (refine (HSL.out).mono ?_); rintro r w10 ⟨rfl, hb10⟩; have HB10 := Lib.hid hb10; clear hb10 HSL)
  go_wp2_with fail
  have HLR : Hid ((w10.alloc (.cells #[] 37)).ownsRow w10.heap.size 37 1 (.slice (some ⟨w10.heap.size, 0, none⟩) 0 0) 0 ((pickS (srcG S3 S4 S2 S8) []).map _root_.Go.Proofs.Ytpdkdhcbibcifaa.slV)) := Lib.hid (World.ownsRow_lit (base := w10.heap.size) (e := 37) (size := 1) w10 #[] 0 (Nat.le_refl _) (by decide) rfl)
  have HBL : Hid (Below w10.heap.size w10 (w10.alloc (.cells #[] 37))) := Lib.hid ((Below.refl _ _).alloc (Nat.le_refl _) _)
  -- the four sources
  have b28 := Below.seq (Below.seq HB3.out HB37.out) HB8.out
  have b2X := Below.seq (Below.seq b28 HB9.out) HB10.out
  have b3X := Below.seq (Below.seq (Below.seq HB37.out HB8.out) HB9.out) HB10.out
  have b4X := Below.seq (Below.seq (Below.seq (Below.seq HB5.out HB57.out) HB8.out) HB9.out) HB10.out
  have b8X := Below.seq HB9.out HB10.out
  have HSRC : Hid (Src4 w10 w.heap.size w10.heap.size (srcG S3 S4 S2 S8) (lenG S3 S4 S2 S8)) := Lib.hid (by
    have q1 := HB1.out.size; have q2 := HB2.out.size; have q3 := HB3.out.size; have q4 := HB4.out.size
    have q5 := (Below.seq HB5.out HB57.out).size; have q6 := HB8.out.size; have q7 := b8X.size
    exact src_four (ris_en HO3.out.new b3X (by omega) HD3.out) (ris_en HO4.out.new b4X (by omega) HD4.out) (ris_ln HN2.out b2X q1 HD2.out) (ris_ln HO8.out.new b8X (by omega) HD8.out) (Nat.le_refl _) (Nat.le_refl _) q5 q3 q4 q7 q6)
  have HA := Lib.hid (HO3.out.new.below b3X).ens
  have HBB := Lib.hid (HO4.out.new.below b4X).ens
  have HCC := Lib.hid (HN2.out.below b2X).lns
  have HEE := Lib.hid (HO8.out.new.below b8X).lns
  have hcapa := Nat.le_trans HA.out.cap HA.out.max
  have hcapb := Nat.le_trans HBB.out.cap HBB.out.max
  have hcapc := Nat.le_trans HCC.out.cap HCC.out.max
  have hcape := Nat.le_trans HEE.out.cap HEE.out.max
  have HWX := Lib.hid (Below.seq (Below.seq HB1.out HB2.out) b2X)
  clear b28 b2X b3X b4X b8X
  go_loopw [14, 15] (fun v i wr => ∃ (k m : Nat) (la : Option Addr) (lc : Nat) (K : List (Nat × Nat)), k ≤ n5 ∧ k ≤ 7 ∧ i = .int .i64 k ∧ v = .slice la m lc ∧ m ≤ 4 * k ∧ Hid (K.length = m) ∧ Hid (wr.ownsRow w10.heap.size 37 1 (.slice la m lc) m ((pickS (srcG S3 S4 S2 S8) K).map _root_.Go.Proofs.Ytpdkdhcbibcifaa.slV)) ∧ Hid (Below w10.heap.size w10 wr) ∧ Hid (K.Nodup ∧ ∀ q ∈ K, q.1 < 4 ∧ q.2 < lenG S3 S4 S2 S8 q.1 ∧ q.2 < k)) (fun _ i _ => 7 - (intOf i).toNat)
  case atStart => exact ⟨0, 0, _, 0, [], Nat.zero_le _, by omega, rfl, rfl, by omega, Lib.hid rfl, HLR, HBL, Lib.hid ⟨List.nodup_nil, by simp⟩⟩
  case round =>
    clear HLR HBL
    obtain ⟨k, m, la, lc, K, hk, hk7, rfl, rfl, hm4, hKm, ho, hbel, hKK⟩ := hrel
    by_cases hlt : k < n5 ∧ k < 7
    · obtain ⟨hlt, hlt7⟩ := hlt
      have hki : (k : Int) < 7 := by omega
      have hk2 : k < n2 := by omega
      obtain ⟨⟨xe, xa, xn, xc⟩, hx⟩ := get_some (S := S3) (k := k) (by have := HA.out.len; omega)
      obtain ⟨⟨ye, ya, yn, yc⟩, hy⟩ := get_some (S := S4) (k := k) (by have := HBB.out.len; omega)
      obtain ⟨⟨ze, za, zn, zc⟩, hz⟩ := get_some (S := S2) (k := k) (by have := HCC.out.len; omega)
      obtain ⟨ba, oa, hba, hra⟩ := HA.out.at k _ hx
      obtain ⟨bb, ob, hbb, hrb⟩ := HBB.out.at k _ hy
      obtain ⟨bc, oc, hbc, hrc⟩ := HCC.out.at k _ hz
      subst hba hbb hbc
      have HCA : Hid (w10.cell? ⟨ba, oa + k * 11 + 10, none⟩ = some (.slice xa xn xc)) := Lib.hid (range_cell hra 10 rfl)
      have HCB : Hid (w10.cell? ⟨bb, ob + k * 11 + 10, none⟩ = some (.slice ya yn yc)) := Lib.hid (range_cell hrb 10 rfl)
      have HCO : Hid (w10.cell? ⟨bc, oc + k * 10 + 7, none⟩ = some (.slice za zn zc)) := Lib.hid (range_cell hrc 7 rfl)
      have HX0 : Hid (srcG S3 S4 S2 S8 0 k = (xa, xn, xc)) := Lib.hid (by simp [srcG, hx])
      have HX1 : Hid (srcG S3 S4 S2 S8 1 k = (ya, yn, yc)) := Lib.hid (by simp [srcG, hy])
      have HX2 : Hid (srcG S3 S4 S2 S8 2 k = (za, zn, zc)) := Lib.hid (by simp [srcG, hz])
      have HV0 : Hid (k < lenG S3 S4 S2 S8 0 ∧ k < lenG S3 S4 S2 S8 1 ∧ k < lenG S3 S4 S2 S8 2) := Lib.hid ⟨(List.getElem?_eq_some_iff.1 hx).1, (List.getElem?_eq_some_iff.1 hy).1, (List.getElem?_eq_some_iff.1 hz).1⟩
      have HN1 := Lib.hid (nodup_snoc hKK.out.1 (q := (0, k)) (fun h => by have := (hKK.out.2 _ h).2.2; simp only at this; omega))
      have HN2' := Lib.hid (nodup_snoc HN1.out (q := (1, k)) (fun h => by
        rcases List.mem_append.1 h with h | h
        · have := (hKK.out.2 _ h).2.2; simp only at this; omega
        · simp at h))
      have HN3 := Lib.hid (nodup_snoc HN2'.out (q := (2, k)) (fun h => by
        rcases List.mem_append.1 h with h | h
        · rcases List.mem_append.1 h with h | h
          · have := (hKK.out.2 _ h).2.2; simp only at this; omega
          · simp at h
        · simp at h))
      have hva : ∀ q ∈ K ++ [(0, k)] ++ [(1, k)] ++ [(2, k)], q.1 < 4 ∧ q.2 < lenG S3 S4 S2 S8 q.1 ∧ q.2 < k + 1 := fun q hq => by
        rcases List.mem_append.1 hq with hq | hq
        · rcases List.mem_append.1 hq with hq | hq
          · rcases List.mem_append.1 hq with hq | hq
            · have := hKK.out.2 q hq; exact ⟨this.1, this.2.1, by omega⟩
            · rw [List.mem_singleton] at hq; subst hq; exact ⟨by simp, HV0.out.1, by simp⟩
          · rw [List.mem_singleton] at hq; subst hq; exact ⟨by simp, HV0.out.2.1, by simp⟩
        · rw [List.mem_singleton] at hq; subst hq; exact ⟨by simp, HV0.out.2.2, by simp⟩
      have HVA := Lib.hid hva
      clear hx hy hz hra hrb hrc hva
      go_upto_region 17 with fail
      have ca := Below.keeps hbel.out _ _ HCA.out
      have HNW := Lib.hid (isSl_new wr 37 1 1 #[.slice xa xn xc] rfl (by decide))
      have HOA := Lib.hid (ho.out.alloc (.cells #[.slice xa xn xc] 37))
      have HSZ : Hid (w10.heap.size ≤ (wr.alloc (.cells #[.slice xa xn xc] 37)).heap.size) := Lib.hid (by have := hbel.out.size; simp; omega)
      go_upto_region 18 with (at_builtin; refine wpList_app rfl _ _ 55 rfl w10.heap.size 37 _ 1 24 Try.underlying55 infoSlG rfl (by decide) (by decide) rfl HOA.out rfl HNW.out (by simp [Value.oneCell']) (by omega) HSZ.out ?_; intro la1 lc1 W1 ho1 hg1)
      obtain ⟨hq1, hr1⟩ := app_next (src := srcG S3 S4 S2 S8) (t := 0) (j := k) ho.out hbel.out ho1 hg1 HX0.out
      have HQ1 := Lib.hid hq1; have HR1 := Lib.hid hr1
      clear hq1 hr1 ho1 hg1 HNW HOA HSZ
      clear ca
      have cb := Below.keeps HR1.out _ _ HCB.out
      have HNW := Lib.hid (isSl_new W1 37 1 1 #[.slice ya yn yc] rfl (by decide))
      have HOA := Lib.hid (HQ1.out.alloc (.cells #[.slice ya yn yc] 37))
      have HSZ : Hid (w10.heap.size ≤ (W1.alloc (.cells #[.slice ya yn yc] 37)).heap.size) := Lib.hid (by have := HR1.out.size; simp; omega)
      go_upto_region 19 with (at_builtin; refine wpList_app rfl _ _ 55 rfl w10.heap.size 37 _ 1 24 Try.underlying55 infoSlG rfl (by decide) (by decide) rfl HOA.out rfl HNW.out (by simp [Value.oneCell']) (by omega) HSZ.out ?_; intro la2 lc2 W2 ho2 hg2)
      obtain ⟨hq2, hr2⟩ := app_next (src := srcG S3 S4 S2 S8) (t := 1) (j := k) HQ1.out HR1.out ho2 hg2 HX1.out
      have HQ2 := Lib.hid hq2; have HR2 := Lib.hid hr2
      clear hq2 hr2 ho2 hg2 HNW HOA HSZ
      clear cb
      have cc := Below.keeps HR2.out _ _ HCO.out
      have HNW := Lib.hid (isSl_new W2 37 1 1 #[.slice za zn zc] rfl (by decide))
      have HOA := Lib.hid (HQ2.out.alloc (.cells #[.slice za zn zc] 37))
      have HSZ : Hid (w10.heap.size ≤ (W2.alloc (.cells #[.slice za zn zc] 37)).heap.size) := Lib.hid (by have := HR2.out.size; simp; omega)
      go_upto_region 20 with (at_builtin; refine wpList_app rfl _ _ 55 rfl w10.heap.size 37 _ 1 24 Try.underlying55 infoSlG rfl (by decide) (by decide) rfl HOA.out rfl HNW.out (by simp [Value.oneCell']) (by omega) HSZ.out ?_; intro la3 lc3 W3 ho3 hg3)
      obtain ⟨hq3, hr3⟩ := app_next (src := srcG S3 S4 S2 S8) (t := 2) (j := k) HQ2.out HR2.out ho3 hg3 HX2.out
      have HQ3 := Lib.hid hq3; have HR3 := Lib.hid hr3
      clear hq3 hr3 ho3 hg3 HNW HOA HSZ
      clear cc
      by_cases hk8 : k < n8
      · obtain ⟨⟨ue, ua, un, uc⟩, hu⟩ := get_some (S := S8) (k := k) (by have := HEE.out.len; omega)
        obtain ⟨bd, od, hbd, hrd⟩ := HEE.out.at k _ hu
        subst hbd
        have HCD : Hid (w10.cell? ⟨bd, od + k * 10 + 7, none⟩ = some (.slice ua un uc)) := Lib.hid (range_cell hrd 7 rfl)
        have HX3 : Hid (srcG S3 S4 S2 S8 3 k = (ua, un, uc)) := Lib.hid (by simp [srcG, hu])
        have HN4 := Lib.hid (nodup_snoc HN3.out (q := (3, k)) (fun h => by
          rcases List.mem_append.1 h with h | h
          · rcases List.mem_append.1 h with h | h
            · rcases List.mem_append.1 h with h | h
              · have := (hKK.out.2 _ h).2.2; simp only at this; omega
              · simp at h
            · simp at h
          · simp at h))
        have HVB : Hid (∀ q ∈ K ++ [(0, k)] ++ [(1, k)] ++ [(2, k)] ++ [(3, k)], q.1 < 4 ∧ q.2 < lenG S3 S4 S2 S8 q.1 ∧ q.2 < k + 1) := Lib.hid (fun q hq => by
          rcases List.mem_append.1 hq with hq | hq
          · exact HVA.out q hq
          · rw [List.mem_singleton] at hq; subst hq; exact ⟨by simp, (List.getElem?_eq_some_iff.1 hu).1, by simp⟩)
        have cd := Below.keeps HR3.out _ _ HCD.out
        have HKL : Hid ((K ++ [(0, k)] ++ [(1, k)] ++ [(2, k)] ++ [(3, k)]).length = m + 1 + 1 + 1 + 1) := Lib.hid (by simp only [List.length_append, List.length_singleton, hKm.out])
        clear hu hrd
        go_upto_region 21 with fail
        have HNW := Lib.hid (isSl_new W3 37 1 1 #[.slice ua un uc] rfl (by decide))
        have HOA := Lib.hid (HQ3.out.alloc (.cells #[.slice ua un uc] 37))
        have HSZ : Hid (w10.heap.size ≤ (W3.alloc (.cells #[.slice ua un uc] 37)).heap.size) := Lib.hid (by have := HR3.out.size; simp; omega)
        go_wp2_with (at_builtin; refine wpList_app rfl _ _ 55 rfl w10.heap.size 37 _ 1 24 Try.underlying55 infoSlG rfl (by decide) (by decide) rfl HOA.out rfl HNW.out (by simp [Value.oneCell']) (by omega) HSZ.out ?_; intro la4 lc4 W4 ho4 hg4)
        obtain ⟨hq4, hr4⟩ := app_next (src := srcG S3 S4 S2 S8) (t := 3) (j := k) HQ3.out HR3.out ho4 hg4 HX3.out
        have HQ4 := Lib.hid hq4; have HR4 := Lib.hid hr4
        clear hq4 hr4 ho4 hg4 HNW HOA HSZ
        exact ⟨⟨k + 1, m + 1 + 1 + 1 + 1, la4, lc4, _, by omega, by omega, by go_num, rfl, by omega, HKL, HQ4, HR4, Lib.hid ⟨HN4.out, HVB.out⟩⟩, by simp [intOf]; omega⟩
      · have HKL : Hid ((K ++ [(0, k)] ++ [(1, k)] ++ [(2, k)]).length = m + 1 + 1 + 1) := Lib.hid (by simp only [List.length_append, List.length_singleton, hKm.out])
        go_wp2_with fail
        exact ⟨⟨k + 1, m + 1 + 1 + 1, la3, lc3, _, by omega, by omega, by go_num, rfl, by omega, HKL, HQ3, HR3, Lib.hid ⟨HN3.out, HVA.out⟩⟩, by simp [intOf]; omega⟩
    · have hend : k = n5 ∨ (k = 7 ∧ k < n5) := by omega
      obtain rfl : K.length = m := hKm.out
      obtain ⟨hI, hD, hln⟩ := (HSRC.out.below hbel.out).apart hKK.out.1 (fun q hq => ⟨(hKK.out.2 q hq).1, (hKK.out.2 q hq).2.1⟩) ho.out (by omega)
      have HAP := Lib.hid (Apart_any la K.length lc _ wr w.heap.size (by have := hbel.out.size; have := HWX.out.size; omega) hI hD (by omega) hln)
      have HBR := Lib.hid (Below.seq HWX.out hbel.out)
      clear hI hD hln
      rcases hend with rfl | ⟨rfl, hlt⟩
      · go_wp2_with (go_at_call 22; (refine HAP.out.mono ?_); rintro e w11 ⟨rfl, hb11⟩)
        go_ret
        exact ⟨rfl, HBR.out.trans hb11⟩
      · go_wp2_with (go_at_call 22; (refine HAP.out.mono ?_); rintro e w11 ⟨rfl, hb11⟩)
        go_ret
        exact ⟨rfl, HBR.out.trans hb11⟩
end Gr
end Go.Proofs.Ytpdkdhcbibcifaa
