/-
  Args: the arguments of a law, opened into the predicates of Base. No program is needed here.
-/
import Derived.Test.YtlmenpfglcigcaaBase
import Derived.SizedLaws
import Derived.ShutString
import Derived.ChangeOld
namespace Go.Proofs.Ytlmenpfglcigcaa
open Go.ChangeShapes Go.WideShapes Go.ChangeAt Go.RowKit
open Go.ChangeMaps (open_string shut_string)
section
variable {H : Type} {enc : TypeId × Value → H} {P : Program} {w : World} {base : Nat}
/-- what the form's reach says of a datum -/
def Sized (P : Program) (t : TypeId) (d : DataW H) : Prop := ∀ m ∈ d.weights P t, m ≤ reachBytes
theorem sized_of {ts : List TypeId} {ds : List (DataW H)} (h : (DataW.weightsEach P ts ds).all (· ≤ reachBytes) = true) (j : Nat) {t : TypeId} {d : DataW H} (ht : ts[j]? = some t) (hd : ds[j]? = some d) : Sized P t d :=
  fun m hm => by simpa using List.all_eq_true.1 h _ (DataW.weights_mem_each ht hd m hm)
theorem wf_u8 {z : Int} (h : (Lit.int .u8 z).wf = true) : 0 ≤ z ∧ z < 256 := by
  have := bounds_u8 h
  omega
theorem wf_i64 {z : Int} (h : (Lit.int .i64 z).wf = true) : -9223372036854775808 ≤ z ∧ z < 9223372036854775808 := by
  have := bounds_i64 h
  omega
def toU8 (z : Int) : UInt8 := UInt8.ofNat z.toNat
theorem u8v_toU8 {z : Int} (h0 : 0 ≤ z) (h1 : z < 256) : u8v (toU8 z) = .int .u8 z := by
  have : ((UInt8.ofNat z.toNat).toNat : Int) = z := by rw [UInt8.toNat_ofNat']; omega
  simp only [u8v, toU8, this]
/-- an argument of bytes -/
theorem open_bytes {t e : TypeId} {v : Value} {d : DataW H} {p : List MemPlace} {r : Reach} {b0 : Nat} (ht : P.underlying t = some (.slice e)) (he : P.underlying e = some (.int .u8)) (hc : P.cellsOf e = 1) (hby : P.bytesOf e = 1)
    (hv : Value.okWide P w r b0 t v) (h : DataW.Trod enc P w 0 (fun _ => true) true t v d p) (hs : Sized P t d) :
    ∃ a n c l, v = .slice a n c ∧ Bs w a n c l ∧ c ≤ 140737488351232 := by
  obtain ⟨a, n, c, rfl⟩ := okWide_slice ht hv
  obtain ⟨fuel, hf⟩ := h
  rcases open_ints ht he hc hf with ⟨hcs, _⟩ | ⟨x, l, c', zs, hcs, _, hl, hm, hz, hx, hcell, hwz⟩
  · simp [Value.cells] at hcs
    obtain ⟨rfl, rfl, rfl⟩ := hcs
    exact ⟨none, 0, 0, [], rfl, ⟨rfl, Nat.le_refl _, by decide, fun j v hj => by simp at hj, fun _ => ⟨rfl, rfl⟩⟩, by omega⟩
  · simp [Value.cells] at hcs
    obtain ⟨rfl, rfl, rfl⟩ := hcs
    simp only [if_true] at hz
    simp only [Prod.mk.injEq] at hx
    obtain ⟨rfl, rfl⟩ := hx
    have hreach : c ≤ 140737488351232 := by
      have := hs ((lits IntKind.u8 (zs.take n)).length + (lits IntKind.u8 (zs.drop n)).length) (by simp only [DataW.weights, ht, hby, Nat.mul_one]; exact List.mem_cons_self)
      simp only [lits, List.length_map, List.length_take, List.length_drop, reachBytes] at this
      omega
    refine ⟨some x, n, c, (zs.take n).map toU8, rfl, ⟨by simp; omega, hl, hm, fun j v hj => ⟨x, rfl, ?_⟩, fun h => by cases h⟩, hreach⟩
    simp only [List.map_map, List.getElem?_map, Option.map_eq_some_iff, List.getElem?_take] at hj
    obtain ⟨z, hzj, rfl⟩ := hj
    split at hzj
    · have hjl : j < zs.length := (List.getElem?_eq_some_iff.1 hzj).1
      have hmem : z ∈ zs := List.mem_of_getElem? hzj
      obtain ⟨w0, w1⟩ := wf_u8 (hwz z hmem)
      have := hcell j hjl
      simp only [List.getD, hzj, Option.getD_some] at this
      simp only [Function.comp, u8v_toU8 w0 w1]
      exact this
    · cases hzj
/-- an argument that is a string -/
theorem open_str {t : TypeId} {v : Value} {d : DataW H} {p : List MemPlace} {r : Reach} {b0 : Nat} (ht : P.underlying t = some .string) (hv : Value.okWide P w r b0 t v) (h : DataW.Trod enc P w 0 (fun _ => true) true t v d p) (hs : Sized P t d) :
    ∃ s, v = .string s ∧ s.size ≤ 140737488351232 := by
  obtain ⟨s, rfl, rfl, rfl, hm⟩ := open_string ht hv h
  refine ⟨s, rfl, ?_⟩
  have := hs s.data.toList.length (by simp only [DataW.weights]; exact List.mem_cons_self)
  simp only [reachBytes] at this
  have e : s.data.toList.length = s.size := rfl
  omega
/-- an argument that is an int -/
theorem open_i64 {t : TypeId} {v : Value} {d : DataW H} {p : List MemPlace} {r : Reach} {b0 : Nat} (ht : P.underlying t = some (.int .i64)) (hv : Value.okWide P w r b0 t v) (h : DataW.Trod enc P w 0 (fun _ => true) true t v d p) :
    ∃ z, v = .int .i64 z ∧ -9223372036854775808 ≤ z ∧ z < 9223372036854775808 := by
  obtain ⟨z, rfl, rfl, rfl, hz⟩ := open_int ht hv h
  exact ⟨z, rfl, wf_i64 hz⟩
/-- an argument that is a byte -/
theorem open_u8 {t : TypeId} {v : Value} {d : DataW H} {p : List MemPlace} {r : Reach} {b0 : Nat} (ht : P.underlying t = some (.int .u8)) (hv : Value.okWide P w r b0 t v) (h : DataW.Trod enc P w 0 (fun _ => true) true t v d p) :
    ∃ b : UInt8, v = u8v b := by
  obtain ⟨z, rfl, rfl, rfl, hz⟩ := open_int ht hv h
  obtain ⟨h0, h1⟩ := wf_u8 hz
  exact ⟨toU8 z, (u8v_toU8 h0 h1).symm⟩
end
end Go.Proofs.Ytlmenpfglcigcaa
