/-
  ArgsPairs: an argument that is a slice of pairs.
-/
import Derived.Test.YtjchaogfmnabfaaDoorArgs
import Derived.Test.YtjchaogfmnabfaaDoorPairs
namespace Go.Proofs.YtjchaogfmnabfaaDoor
open Go.ChangeShapes Go.WideShapes Go.ChangeAt Go.RowKit
set_option maxRecDepth 100000
variable {H : Type} {enc : TypeId × Value → H} {w : World}
theorem read_str {P : Program} {t : TypeId} {fuel : Nat} {cs : List Value} {d : DataW H} {p : List MemPlace} (ht : P.underlying t = some .string) (h : DataW.trod enc P w 0 (fun _ => true) true fuel t cs = some (d, p)) (hs : Sized P t d) :
    ∃ l : List UInt8, cs = [.string ⟨l.toArray⟩] ∧ l.length ≤ 140737488351232 := by
  obtain ⟨s, rfl, hx, _⟩ := DataW.trod_string ht h
  simp only [Prod.mk.injEq] at hx
  obtain ⟨rfl, rfl⟩ := hx
  refine ⟨s.data.toList, rfl, ?_⟩
  have := hs s.data.toList.length (by simp only [DataW.weights]; exact List.mem_cons_self)
  simpa only [reachBytes] using this
theorem weightsEach_mem {P : Program} {ts : List TypeId} {ds : List (DataW H)} {t : TypeId} {d : DataW H} (j : Nat) (ht : ts[j]? = some t) (hd : ds[j]? = some d) (h : ∀ m ∈ DataW.weightsEach P ts ds, m ≤ reachBytes) : Sized P t d :=
  fun m hm => h m (DataW.weights_mem_each ht hd m hm)
theorem read_pair {fuel : Nat} {cs : List Value} {d : DataW H} {p : List MemPlace} (h : DataW.trod enc Tryd.prog w 0 (fun _ => true) true fuel 39 cs = some (d, p)) (hs : Sized Tryd.prog 39 d) :
    ∃ x : Pr, cs = prCells x ∧ x.1.length ≤ 140737488351232 ∧ x.2.length ≤ 140737488351232 := by
  obtain ⟨ys, n, _, hx, hlen, hyl, hf⟩ := DataW.trod_struct Tryd.underlying39 h
  simp only [Prod.mk.injEq] at hx
  obtain ⟨rfl, rfl⟩ := hx
  have hc : Tryd.prog.cellsOf 39 = 2 := by kernel_rfl
  have hc9 : Tryd.prog.cellsOf 9 = 1 := by kernel_rfl
  rw [hc] at hlen
  have hs' : ∀ m ∈ DataW.weightsEach Tryd.prog [9, 9] (ys.map (·.1)), m ≤ reachBytes := fun m hm => hs m (by simp only [DataW.weights, Tryd.underlying39]; exact hm)
  match cs, hlen, ys, hyl, hf, hs' with
  | [c0, c1], _, [y0, y1], _, hf, hs' =>
    have h0 : DataW.trod enc Tryd.prog w 0 (fun _ => true) true n 9 [c0] = some y0 := by have := hf 0 _ rfl; simpa [hc9] using this
    have h1 : DataW.trod enc Tryd.prog w 0 (fun _ => true) true n 9 [c1] = some y1 := by have := hf 1 _ rfl; simpa [hc9] using this
    obtain ⟨k, hk, lk⟩ := read_str Tryd.underlying9 h0 (weightsEach_mem 0 rfl rfl hs')
    obtain ⟨v, hv, lv⟩ := read_str Tryd.underlying9 h1 (weightsEach_mem 1 rfl rfl hs')
    simp only [List.cons.injEq, and_true] at hk hv
    subst hk; subst hv
    exact ⟨(k, v), rfl, lk, lv⟩
theorem open_pairs {v : Value} {d : DataW H} {p : List MemPlace} {r : Reach} {b0 : Nat} (hv : Value.okWide Tryd.prog w r b0 25 v) (h : DataW.Trod enc Tryd.prog w 0 (fun _ => true) true 25 v d p) (hs : Sized Tryd.prog 25 d) :
    ∃ a n c l, v = .slice a n c ∧ Prs w a n c l ∧ (∀ x ∈ l, x.1.length ≤ 140737488351232 ∧ x.2.length ≤ 140737488351232) ∧ c * 32 ≤ 140737488351232 :=
  open_rows Tryd.underlying25 (by kernel_rfl) (by kernel_rfl) prCells_len (fun _ _ _ _ h hs => read_pair h hs) hv h hs
end Go.Proofs.YtjchaogfmnabfaaDoor
