/-
  Args: the arguments of a law, opened into the predicates of Base. No program is needed here.
-/
import Derived.Test.YtbioidbbijmnjaaBase
import Derived.SizedLaws
import Derived.Deep.Slices
import Derived.ShutString
import Derived.ChangeOld
namespace Go.Proofs.Ytbioidbbijmnjaa
set_option linter.unusedVariables false
set_option linter.unusedSimpArgs false
open Go.ChangeShapes Go.WideShapes Go.ChangeAt Go.RowKit
open Go.ChangeMaps (open_string shut_string)
section
variable {H : Type} {enc : TypeId × Value → H} {P : Program} {w : World} {base : Nat}
/-- what the form's reach says of a datum -/
def Sized (P : Program) (t : TypeId) (d : DataW H) : Prop := ∀ m ∈ d.weights P t, m ≤ reachBytes
theorem sized_of {ts : List TypeId} {ds : List (DataW H)} (h : (DataW.weightsEach P ts ds).all (· ≤ reachBytes) = true) (j : Nat) {t : TypeId} {d : DataW H} (ht : ts[j]? = some t) (hd : ds[j]? = some d) : Sized P t d :=
  fun m hm => by simpa using List.all_eq_true.1 h _ (DataW.weights_mem_each ht hd m hm)
theorem wf_u8 {z : Int} (h : (Lit.int .u8 z).wf = true) : 0 ≤ z ∧ z < 256 := by
  have := bounds_u8 h
  omega
theorem wf_i64 {z : Int} (h : (Lit.int .i64 z).wf = true) : -9223372036854775808 ≤ z ∧ z < 9223372036854775808 := by
  have := bounds_i64 h
  omega
def toU8 (z : Int) : UInt8 := UInt8.ofNat z.toNat
theorem u8v_toU8 {z : Int} (h0 : 0 ≤ z) (h1 : z < 256) : u8v (toU8 z) = .int .u8 z := by
  have : ((UInt8.ofNat z.toNat).toNat : Int) = z := by rw [UInt8.toNat_ofNat']; omega
  simp only [u8v, toU8, this]
theorem open_bytes_trod {t e : TypeId} {a : Option Addr} {n c fuel : Nat} {v : Value} {d : DataW H} {p : List MemPlace} (ht : P.underlying t = some (.slice e)) (he : P.underlying e = some (.int .u8)) (hc : P.cellsOf e = 1) (hby : P.bytesOf e = 1)
    {_hv : v = .slice a n c} (hf : DataW.trod enc P w 0 (fun _ => true) true fuel t [v] = some (d, p)) (hs : Sized P t d) :
    ∃ a n c l, v = .slice a n c ∧ Bs w a n c l ∧ c ≤ 140737488351232 := by
  subst _hv
  rcases open_ints ht he hc hf with ⟨hcs, _⟩ | ⟨x, l, c', zs, hcs, _, hl, hm, hz, hx, hcell, hwz⟩
  · simp [Value.cells] at hcs
    obtain ⟨rfl, rfl, rfl⟩ := hcs
    exact ⟨none, 0, 0, [], rfl, ⟨rfl, Nat.le_refl _, by decide, fun j v hj => by simp at hj, fun _ => ⟨rfl, rfl⟩⟩, by omega⟩
  · simp [Value.cells] at hcs
    obtain ⟨rfl, rfl, rfl⟩ := hcs
    simp only [if_true] at hz
    simp only [Prod.mk.injEq] at hx
    obtain ⟨rfl, rfl⟩ := hx
    have hreach : c ≤ 140737488351232 := by
      have := hs ((lits IntKind.u8 (zs.take n)).length + (lits IntKind.u8 (zs.drop n)).length) (by simp only [DataW.weights, ht, hby, Nat.mul_one]; exact List.mem_cons_self)
      simp only [lits, List.length_map, List.length_take, List.length_drop, reachBytes] at this
      omega
    refine ⟨some x, n, c, (zs.take n).map toU8, rfl, ⟨by simp; omega, hl, hm, fun j v hj => ⟨x, rfl, ?_⟩, fun h => by cases h⟩, hreach⟩
    simp only [List.map_map, List.getElem?_map, Option.map_eq_some_iff, List.getElem?_take] at hj
    obtain ⟨z, hzj, rfl⟩ := hj
    split at hzj
    · have hjl : j < zs.length := (List.getElem?_eq_some_iff.1 hzj).1
      have hmem : z ∈ zs := List.mem_of_getElem? hzj
      obtain ⟨w0, w1⟩ := wf_u8 (hwz z hmem)
      have := hcell j hjl
      simp only [List.getD, hzj, Option.getD_some] at this
      simp only [Function.comp, u8v_toU8 w0 w1]
      exact this
    · cases hzj
/-- an argument of bytes -/
theorem open_bytes {t e : TypeId} {v : Value} {d : DataW H} {p : List MemPlace} {r : Reach} {b0 : Nat} (ht : P.underlying t = some (.slice e)) (he : P.underlying e = some (.int .u8)) (hc : P.cellsOf e = 1) (hby : P.bytesOf e = 1)
    (hv : Value.okWide P w r b0 t v) (h : DataW.Trod enc P w 0 (fun _ => true) true t v d p) (hs : Sized P t d) :
    ∃ a n c l, v = .slice a n c ∧ Bs w a n c l ∧ c ≤ 140737488351232 := by
  obtain ⟨a, n, c, rfl⟩ := okWide_slice ht hv
  obtain ⟨fuel, hf⟩ := h
  exact open_bytes_trod (_hv := rfl) ht he hc hby hf hs
/-- an argument that is a string -/
theorem open_str {t : TypeId} {v : Value} {d : DataW H} {p : List MemPlace} {r : Reach} {b0 : Nat} (ht : P.underlying t = some .string) (hv : Value.okWide P w r b0 t v) (h : DataW.Trod enc P w 0 (fun _ => true) true t v d p) (hs : Sized P t d) :
    ∃ l : List UInt8, v = .string ⟨l.toArray⟩ ∧ l.length ≤ 140737488351232 := by
  obtain ⟨s, rfl, rfl, rfl, hm⟩ := open_string ht hv h
  refine ⟨s.data.toList, rfl, ?_⟩
  have := hs s.data.toList.length (by simp only [DataW.weights]; exact List.mem_cons_self)
  simpa only [reachBytes] using this
/-- an argument that is an int -/
theorem open_i64 {t : TypeId} {v : Value} {d : DataW H} {p : List MemPlace} {r : Reach} {b0 : Nat} (ht : P.underlying t = some (.int .i64)) (hv : Value.okWide P w r b0 t v) (h : DataW.Trod enc P w 0 (fun _ => true) true t v d p) :
    ∃ z, v = .int .i64 z ∧ -9223372036854775808 ≤ z ∧ z < 9223372036854775808 := by
  obtain ⟨z, rfl, rfl, rfl, hz⟩ := open_int ht hv h
  exact ⟨z, rfl, wf_i64 hz⟩
/-- an argument that is a byte -/
theorem open_u8 {t : TypeId} {v : Value} {d : DataW H} {p : List MemPlace} {r : Reach} {b0 : Nat} (ht : P.underlying t = some (.int .u8)) (hv : Value.okWide P w r b0 t v) (h : DataW.Trod enc P w 0 (fun _ => true) true t v d p) :
    ∃ b : UInt8, v = u8v b := by
  obtain ⟨z, rfl, rfl, rfl, hz⟩ := open_int ht hv h
  obtain ⟨h0, h1⟩ := wf_u8 hz
  exact ⟨toU8 z, (u8v_toU8 h0 h1).symm⟩
theorem weightsAll_mem {e : TypeId} : ∀ {ds : List (DataW H)} {d : DataW H}, d ∈ ds → ∀ m ∈ d.weights P e, m ∈ DataW.weightsAll P e ds
  | d0 :: ds, d, hd, m, hm => by
    simp only [DataW.weightsAll, List.mem_append]
    rcases List.mem_cons.1 hd with rfl | hd
    · exact Or.inl hm
    · exact Or.inr (weightsAll_mem hd m hm)
/-- an argument that is a slice of a type whose reading is known: rows of cells 'f x' with 'Q x' each -/
theorem open_rows {α : Type} [Inhabited α] {t e : TypeId} {sz by_ : Nat} {f : α → List Value} {Q : α → Prop} {v : Value} {d : DataW H} {p : List MemPlace} {r : Reach} {b0 : Nat} (ht : P.underlying t = some (.slice e)) (hc : P.cellsOf e = sz) (hby : P.bytesOf e = by_)
    (hsz : ∀ x, (f x).length = sz) (hr : ∀ fuel cs d p, DataW.trod enc P w 0 (fun _ => true) true fuel e cs = some (d, p) → Sized P e d → ∃ x, cs = f x ∧ Q x)
    (hv : Value.okWide P w r b0 t v) (h : DataW.Trod enc P w 0 (fun _ => true) true t v d p) (hs : Sized P t d) :
    ∃ (a : Option Addr) (n c : Nat) (l : List α), v = .slice a n c ∧ IsSl w sz a n c (l.flatMap f) ∧ (∀ x ∈ l, Q x) ∧ c * by_ ≤ 140737488351232 := by
  obtain ⟨a, n, c, rfl⟩ := okWide_slice ht hv
  obtain ⟨fuel, hf⟩ := h
  rcases Go.Deep.open_slice ht hf with ⟨hcs, _⟩ | ⟨x, l, c', m, k, D, Pl, hcs, _, hl, hm, hmm, hx, hi⟩
  · simp [Value.cells] at hcs
    obtain ⟨rfl, rfl, rfl⟩ := hcs
    exact ⟨none, 0, 0, [], rfl, ⟨by simp, Nat.le_refl _, by decide, fun j v hj => by simp at hj, fun _ => ⟨rfl, rfl⟩⟩, by simp, by omega⟩
  · simp [Value.cells] at hcs
    obtain ⟨rfl, rfl, rfl⟩ := hcs
    simp only [if_true] at hmm
    subst hmm
    simp only [Prod.mk.injEq] at hx
    obtain ⟨rfl, rfl⟩ := hx
    have hreach : m * by_ ≤ 140737488351232 := by
      have := hs ((((List.range n).map D).length + ((List.range (m - n)).map fun j => D (n + j)).length) * P.bytesOf e) (by simp only [DataW.weights, ht]; exact List.mem_cons_self)
      simp only [List.length_map, List.length_range, reachBytes, hby] at this
      rwa [show n + (m - n) = m by omega] at this
    have hel : ∀ i, ∃ y : α, i < n → (∀ j v, (f y)[j]? = some v → w.cell? ((x.add (i * sz)).add j) = some v) ∧ Q y := by
      intro i
      by_cases hin : i < n
      · obtain ⟨cs, hcell, htr⟩ := hi i (by omega)
        have hsd : Sized P e (D i) := fun m' hm' => hs m' (by
          simp only [DataW.weights, ht]
          refine List.mem_cons_of_mem _ (List.mem_append.2 (Or.inl ?_))
          exact weightsAll_mem (List.mem_map.2 ⟨i, List.mem_range.2 hin, rfl⟩) _ hm')
        obtain ⟨y, rfl, hq⟩ := hr _ _ _ _ htr hsd
        obtain ⟨_, hlen, hat⟩ := World.cells?_some hcell
        rw [hc] at hat hlen
        refine ⟨y, fun _ => ⟨fun j v hj => ?_, hq⟩⟩
        have hjl : j < sz := by have := (List.getElem?_eq_some_iff.1 hj).1; omega
        rw [hat j hjl]; exact hj
      · exact ⟨default, fun h => absurd h hin⟩
    obtain ⟨g, hg⟩ := Classical.skolem.1 hel
    refine ⟨some x, n, m, (List.range n).map g, rfl, ⟨by rw [flat_len hsz]; simp, hl, hm, fun j v hj => ⟨x, rfl, ?_⟩, fun h => by cases h⟩, ?_, hreach⟩
    · have hjl : j < n * sz := by
        have := (List.getElem?_eq_some_iff.1 hj).1
        rw [flat_len hsz] at this; simpa using this
      have hsz0 : 0 < sz := by
        rcases Nat.eq_zero_or_pos sz with h0 | h0
        · subst h0; simp at hjl
        · exact h0
      have hd : j / sz < n := (Nat.div_lt_iff_lt_mul hsz0).2 hjl
      have hmod : j % sz < sz := Nat.mod_lt _ hsz0
      have hdm : j / sz * sz + j % sz = j := by rw [Nat.mul_comm]; exact Nat.div_add_mod j sz
      have hfl := flat_at hsz ((List.range n).map g) (j / sz) (j % sz) (by simpa using hd) hmod
      rw [hdm] at hfl
      rw [hfl] at hj
      have e : ((List.range n).map g)[j / sz]'(by simpa using hd) = g (j / sz) := by simp
      rw [e] at hj
      have := (hg (j / sz) hd).1 _ _ hj
      rw [Go.Deep.add_add, hdm] at this
      exact this
    · intro y hy
      obtain ⟨i, hi, rfl⟩ := List.mem_map.1 hy
      exact (hg i (List.mem_range.1 hi)).2
end
end Go.Proofs.Ytbioidbbijmnjaa
