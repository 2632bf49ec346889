/-
  ApMem: byte slices that may be written and grown: what an append does to memory. No program is needed here.
-/
import Derived.Test.YtbioidbbijmnjaaBase
import Derived.ArgAppend
import Derived.Deep.MidRow
import Derived.Lib.AppendZeros
namespace Go.Proofs.Ytbioidbbijmnjaa
set_option linter.unusedVariables false
set_option linter.unusedSimpArgs false
open Go.ChangeShapes Go.WideShapes Go.ChangeAt Go.RowKit
/-- c cells of a block are there and may be written -/
def FreeAt (w : World) (g c : Nat) : Prop := ∀ k, k < c → (w.cell? ⟨g, k, none⟩).isSome = true ∧ w.frozen? ⟨g, k, none⟩ = false
/-- a slice whose cells, spare ones too, may be written; its block lies from B on -/
def Free (w : World) (B : Nat) (a : Option Addr) (n c : Nat) : Prop := n ≤ c ∧ c ≤ maxLen ∧ ((a = none ∧ c = 0) ∨ ∃ g, a = some ⟨g, 0, none⟩ ∧ B ≤ g ∧ g < w.heap.size ∧ FreeAt w g c)
def blk? (a : Option Addr) : Option Nat := a.map (·.block)
/-- what an append onto a slice changes -/
structure Chg (B : Nat) (a : Option Addr) (n : Nat) (w w' : World) : Prop where
  bel : Below B w w'
  other : ∀ b, b < w.heap.size → blk? a ≠ some b → w'.heap[b]? = w.heap[b]?
  low : ∀ b k, b < w.heap.size → k < n → w'.cell? ⟨b, k, none⟩ = w.cell? ⟨b, k, none⟩
  there : ∀ b k, b < w.heap.size → (w.cell? ⟨b, k, none⟩).isSome = true → (w'.cell? ⟨b, k, none⟩).isSome = true
  froz : ∀ b k, b < w.heap.size → w'.frozen? ⟨b, k, none⟩ = w.frozen? ⟨b, k, none⟩
theorem Free.keep {w w' : World} {B : Nat} {a a1 : Option Addr} {n c n1 : Nat} (h : Free w B a n c) (k : Chg B a1 n1 w w') : Free w' B a n c := by
  obtain ⟨h1, h2, h3⟩ := h
  refine ⟨h1, h2, ?_⟩
  rcases h3 with h3 | ⟨g, rfl, hB, hg, hf⟩
  · exact .inl h3
  · exact .inr ⟨g, rfl, hB, Nat.lt_of_lt_of_le hg k.bel.size, fun j hj => ⟨k.there g j hg (hf j hj).1, by rw [k.froz g j hg]; exact (hf j hj).2⟩⟩
theorem Free.below {w w' : World} {B : Nat} {a : Option Addr} {n c : Nat} (h : Free w B a n c) (k : Below w.heap.size w w') : Free w' B a n c := by
  obtain ⟨h1, h2, h3⟩ := h
  refine ⟨h1, h2, ?_⟩
  rcases h3 with h3 | ⟨g, rfl, hB, hg, hf⟩
  · exact .inl h3
  · exact .inr ⟨g, rfl, hB, Nat.lt_of_lt_of_le hg k.size, fun j hj => ⟨by rw [k.cell (p := ⟨g, j, none⟩) hg]; exact (hf j hj).1, by rw [k.frozen (p := ⟨g, j, none⟩) hg]; exact (hf j hj).2⟩⟩
theorem Free.base {w : World} {B B' : Nat} {a : Option Addr} {n c : Nat} (h : Free w B a n c) (hb : B' ≤ B) : Free w B' a n c := by
  obtain ⟨h1, h2, h3⟩ := h
  refine ⟨h1, h2, ?_⟩
  rcases h3 with h3 | ⟨g, ha, hB, r⟩
  · exact .inl h3
  · exact .inr ⟨g, ha, by omega, r⟩
theorem Free.nil (w : World) (B : Nat) : Free w B none 0 0 := ⟨Nat.le_refl _, by unfold maxLen; omega, .inl ⟨rfl, rfl⟩⟩
/-- what is owned may be written -/
theorem own_free {w : World} {base : Nat} {e : TypeId} {a : Option Addr} {n c : Nat} {xs : List Value} (h : w.ownsRow base e 1 (.slice a n c) n xs) : Free w base a n c := by
  obtain ⟨hl, h⟩ := h
  rcases h with ⟨hv, h0⟩ | ⟨g, cap, cur, hv, hb, hh, hn, hm, hs, ht⟩
  · simp only [Value.slice.injEq] at hv
    obtain ⟨rfl, rfl, rfl⟩ := hv
    exact Free.nil _ _
  · simp only [Value.slice.injEq, true_and] at hv
    obtain ⟨rfl, rfl⟩ := hv
    refine ⟨hn, hm, .inr ⟨g, rfl, hb, (Array.getElem?_eq_some_iff.1 hh).1, fun k hk => ⟨?_, frozen_of_row _ _ _ _ _ hh⟩⟩⟩
    rw [cell_of_row _ _ _ _ _ _ hh]
    have : k < cur.size := by rw [hs]; omega
    simp [this]
/-- new blocks alone -/
theorem chg_grown {B : Nat} {a : Option Addr} {n : Nat} {w w' : World} (hg : w.grownBy w' none) (hB : B ≤ w.heap.size) : Chg B a n w w' := by
  have hb : ∀ b, b < w.heap.size → w'.heap[b]? = w.heap[b]? := fun b hb => hg.block b hb (by simp)
  exact ⟨⟨hg.os, hg.tape, hg.output, hg.size, fun k hk => hb k (by omega)⟩, fun b hb' _ => hb b hb',
    fun b k hb' _ => World.cell?_of_block (a := ⟨b, k, none⟩) (hb b hb'), fun b k hb' h => by rw [World.cell?_of_block (a := ⟨b, k, none⟩) (hb b hb')]; exact h, fun b k hb' => World.frozen?_of_block (a := ⟨b, k, none⟩) (hb b hb')⟩
theorem setCells_size (b : Nat) : ∀ (vs : List Value) (o : Nat) (w : World), (w.setCells b o vs).heap.size = w.heap.size
  | [], _, _ => rfl
  | v :: r, o, w => by rw [World.setCells, setCells_size b r]; simp
theorem setCells_other (b : Nat) : ∀ (vs : List Value) (o : Nat) (w : World) (k : Nat), k ≠ b → (w.setCells b o vs).heap[k]? = w.heap[k]?
  | [], _, _, _, _ => rfl
  | v :: r, o, w, k, h => by rw [World.setCells, setCells_other b r (o + 1) _ k h, heap_setCell_other _ _ _ _ (fun e => h (by simpa using e))]
theorem setCells_below (B b : Nat) (hb : B ≤ b) : ∀ (vs : List Value) (o : Nat) (w : World), Below B w (w.setCells b o vs)
  | [], _, _ => Below.refl _ _
  | v :: r, o, w => ((Below.refl B w).setCell (show B ≤ (⟨b, o, none⟩ : Addr).block from hb) v).trans (setCells_below B b hb r (o + 1) _)
/-- in place -/
theorem chg_place {B g n m : Nat} {w : World} {vs : List Value} (hB : B ≤ g) (hl : vs.length = m) (hv : ∀ j, j < m → (w.cell? ⟨g, n + j, none⟩).isSome = true) : Chg B (some ⟨g, 0, none⟩) n w (w.setCells g n vs) := by
  refine ⟨setCells_below B g hB vs n w, fun b _ h => setCells_other g vs n w b (fun e => h (by rw [e]; rfl)), fun b k _ hk => ?_, fun b k _ h => ?_, fun b k _ => World.frozen?_setCells g vs n w _⟩
  · exact World.cell?_setCells_out g vs n w _ (fun _ _ => .inl hk)
  · exact World.isSome_setCells g vs n w _ h
section
variable {P : Program}
/-- append(x, y...) of bytes, x a slice that may be written -/
theorem run_app_free (w : World) (t ty e : TypeId) (ht : P.underlying t = some (.slice e)) (hi : (P.info? e).map (fun i => (i.zero, i.size, i.bytes)) = some (some (.int .u8 0), 1, 1))
    (B : Nat) (hB : B ≤ w.heap.size) (a : Option Addr) (n c : Nat) (h : Free w B a n c) (ad : Addr) (m c2 : Nat) (news : List Value) (hl : news.length = m) (hnews : ∀ j v, news[j]? = some v → w.cell? (ad.add j) = some v) (h1 : ∀ v ∈ news, v.oneCell' = true)
    (hb : n + m ≤ 140737488355328) :
    ∃ a' c' w', (Builtin.append_ #[t, t] ty #[.slice a n c, .slice (some ad) m c2]).run P w = .ok (.slice a' (n + m) c') w' ∧ Free w' B a' (n + m) c' ∧ Chg B a n w w' ∧ (blk? a' = blk? a ∨ ∃ b, blk? a' = some b ∧ w.heap.size ≤ b) := by
  obtain ⟨i, hi, hz0, hz1, hz2⟩ := info_parts hi
  obtain ⟨hn, hc, hf⟩ := h
  have hml : n + m ≤ maxLen := by unfold maxLen; omega
  rcases hf with ⟨rfl, rfl⟩ | ⟨g, rfl, hg1, hg2, hfr⟩
  · obtain rfl : n = 0 := by omega
    obtain ⟨v', w', hr, ho, hgr, _⟩ := run_append_own (P := P) w w.heap.size t ty e i (.int .u8 0) 1 1 ht hi hz0 hz1 hz2 rfl (by decide) (.slice none 0 0) 0 [] (World.ownsRow_nil w _ e 1) ad m c2 news (by omega) hnews h1 hml (by omega) (Nat.le_refl _)
    obtain ⟨a', c', rfl⟩ := own_slice ho
    refine ⟨a', c', w', hr, (own_free ho).base hB, chg_grown hgr hB, ?_⟩
    obtain ⟨hlen, hh⟩ := ho
    rcases hh with ⟨hv, _⟩ | ⟨g, cap, cur, hv, hbg, hh, _⟩
    · simp only [Value.slice.injEq] at hv
      left; rw [hv.1]
    · simp only [Value.slice.injEq, true_and] at hv
      right
      exact ⟨g, by rw [hv.1]; rfl, hbg⟩
  · have hold : ∀ j u, (((List.range n).map fun j => (w.cell? ⟨g, j, none⟩).getD undef))[j]? = some u → w.cell? ⟨g, 0 + j, none⟩ = some u := by
      intro j u hj
      obtain ⟨hjn, he⟩ := List.getElem?_eq_some_iff.1 hj
      simp only [List.length_map, List.length_range] at hjn
      simp only [List.getElem_map, List.getElem_range] at he
      obtain ⟨v, hv⟩ := Option.isSome_iff_exists.1 (hfr j (by omega)).1
      rw [hv] at he
      simp only [Option.getD_some] at he
      rw [Nat.zero_add, hv, he]
    by_cases hr : n + m ≤ c
    · have hrun := run_append_room_cells (P := P) w t ty e i ht hi g 0 n c ad m c2 news (by rw [hz1]; omega) hnews h1 hr (fun j hj => by rw [hz1, Nat.zero_add, Nat.mul_one]; exact (hfr _ (by omega)).1) (fun j hj => by rw [hz1, Nat.zero_add, Nat.mul_one]; exact (hfr _ (by omega)).2)
      rw [hz1, Nat.zero_add, Nat.mul_one] at hrun
      have hch : Chg B (some ⟨g, 0, none⟩) n w (w.setCells g n news) := chg_place hg1 hl (fun j hj => (hfr _ (by omega)).1)
      refine ⟨_, _, _, hrun, ?_, hch, .inl rfl⟩
      have hF : Free w B (some ⟨g, 0, none⟩) (n + m) c := ⟨hr, hc, .inr ⟨g, rfl, hg1, hg2, hfr⟩⟩
      exact hF.keep hch
    · obtain ⟨v', w', hrun, r1, r2⟩ := run_append_arg_grows (P := P) w t ty e i (.int .u8 0) 1 1 ht hi hz0 hz1 hz2 rfl (by decide) ⟨g, 0, none⟩ n c ((List.range n).map fun j => (w.cell? ⟨g, j, none⟩).getD undef) (by simp) (fun j u hj => by rw [Addr.add_lit]; exact hold j u hj) ad m c2 news (by omega) hnews (by omega) hml (by omega)
      obtain ⟨a', c', rfl⟩ := own_slice r1
      refine ⟨a', c', w', hrun, (own_free r1).base hB, chg_grown r2 hB, .inr ?_⟩
      obtain ⟨hlen, hh⟩ := r1
      rcases hh with ⟨hv, h0⟩ | ⟨g', cap, cur, hv, hbg, hh, _⟩
      · omega
      · simp only [Value.slice.injEq, true_and] at hv
        exact ⟨g', by rw [hv.1]; rfl, hbg⟩
end
end Go.Proofs.Ytbioidbbijmnjaa
