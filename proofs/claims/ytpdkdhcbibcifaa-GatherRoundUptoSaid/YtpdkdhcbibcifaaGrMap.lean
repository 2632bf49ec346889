/-
  GrMap: a map in memory as a function from keys to values: no program.
-/
import Derived.Test.YtpdkdhcbibcifaaBase
import Derived.Maps.OwnSet
import Derived.Maps.RangeWalk
namespace Go.Proofs.Ytpdkdhcbibcifaa
set_option linter.unusedVariables false
set_option linter.unusedSimpArgs false
open Go.Maps (Keyed)
open Go.ChangeShapes Go.WideShapes Go.ChangeAt Go.RowKit
namespace Gr
def held (v : Value) : Option (DataW Value × List MemPlace) := some (.held v, [])
/-- the datum D answers as f says -/
def Reads {κ : Type} (mk : κ → Lit) (D : DataW Value) (f : κ → Option Value) : Prop := ∀ x, Maps.has D (mk x) = (f x).isSome ∧ ∀ v, f x = some v → ∀ z, D.atKey (mk x) z = .held v
/-- block b is a map of s entries that answers as f says -/
def Mp {κ : Type} (mk : κ → Lit) (P : Program) (k : TypeId) (w : World) (b s : Nat) (f : κ → Option Value) : Prop :=
  ∃ D : DataW Value, w.ownsMap P k held b s D ∧ Maps.size D = s ∧ Reads mk D f
section
variable {κ : Type} {mk : κ → Lit} {P : Program} {k : TypeId} {w : World} {b s : Nat} {f : κ → Option Value}
theorem Mp.made (mk : κ → Lit) (w : World) (P : Program) (k : TypeId) : Mp mk P k (w.alloc (.map #[] 0)) w.heap.size 0 (fun _ => none) :=
  ⟨.map [], World.ownsMap_made _ _ _ _, rfl, fun x => ⟨rfl, fun v hv => by cases hv⟩⟩
theorem Mp.lt (h : Mp mk P k w b s f) : b < w.heap.size := by obtain ⟨D, h, _⟩ := h; exact h.lt
theorem Mp.kept {w' : World} {row : Option Nat} (h : Mp mk P k w b s f) (hg : w.grownBy w' row) (hne : some b ≠ row) : Mp mk P k w' b s f := by
  obtain ⟨D, h1, h2, h3⟩ := h
  exact ⟨D, h1.kept hg hne, h2, h3⟩
theorem Mp.block {w' : World} (h : Mp mk P k w b s f) (hb : w'.heap[b]? = w.heap[b]?) : Mp mk P k w' b s f := by
  obtain ⟨D, ⟨es, clock, h1, h2⟩, h3⟩ := h
  exact ⟨D, ⟨es, clock, hb.trans h1, h2⟩, h3⟩
theorem Mp.below {w' : World} {B : Nat} (h : Mp mk P k w b s f) (hb : Below B w w') (hlt : b < B) : Mp mk P k w' b s f := h.block (hb.block b hlt)
theorem Mp.congr {g : κ → Option Value} (h : Mp mk P k w b s f) (e : ∀ x, f x = g x) : Mp mk P k w b s g := by
  have : f = g := funext e
  rwa [← this]
theorem ownsMap_exact {n : Nat} {D : DataW Value} (h : w.ownsMap P k held b n D) : w.ownsMap P k held b (Maps.size D) D := by
  obtain ⟨es, clock, hb, F, _, rfl⟩ := h
  exact ⟨es, clock, hb, F, by simp [Maps.size, length_sorted], rfl⟩
theorem Mp.value {D : DataW Value} (hr : Reads mk D f) (x : κ) {v z : Value} {ps : List MemPlace} (h : held v = some (D.atKey (mk x) (.held z), ps)) : v = (f x).getD z := by
  simp only [held, Option.some.injEq, Prod.mk.injEq] at h
  obtain ⟨h1, h2⟩ := hr x
  cases hf : f x with
  | none =>
    rw [hf] at h1
    have := Maps.atKey_of_not_has (H := Value) h1 (.held z)
    rw [this] at h
    exact DataW.held.inj h.1
  | some u =>
    rw [h2 u hf] at h
    exact DataW.held.inj h.1
variable {ops : Array Oper} {rest : List Oper} {o : Oper} {a : Act} {Q : Exit → Act → World → Prop}
/-- m[k] -/
theorem wpList_mp_look (hg : o.guard = none) (m y : Operand) (t : TypeId) (hop : o.op = Op.lookup t m y false) (e : TypeId) (K : Keyed P k) (ht : P.underlying t = some (.map k e)) {z : Value} (hz : (zeroValue e).run P w = .ok z w)
    (hm : a.eval m = .map (some b)) (h : Mp mk P k w b s f) (key : Value) (x : κ) (hx : a.eval y = key) (hkey : keyOf P k key = some (mk x))
    (hK : wpList P ops Q rest (a.put o.dst ((f x).getD z)) w) : wpList P ops Q (o :: rest) a w := by
  obtain ⟨D, h1, h2, h3⟩ := h
  obtain ⟨v, ps, hrun, hv⟩ := h1.lookup K ht hz (zd := .held z) (zp := []) rfl hkey
  obtain rfl := Mp.value h3 x hv
  refine wpList_plain hg fun K' hK' => ?_
  unfold Oper.wp
  simp [execOp, hop, hm, hx, hrun, Result.andThen]
  exact hK' _ _ hK
/-- v, ok := m[k] -/
theorem wpList_mp_look_ok (hg : o.guard = none) (m y : Operand) (t : TypeId) (hop : o.op = Op.lookup t m y true) (e : TypeId) (K : Keyed P k) (ht : P.underlying t = some (.map k e)) {z : Value} (hz : (zeroValue e).run P w = .ok z w)
    (hm : a.eval m = .map (some b)) (h : Mp mk P k w b s f) (key : Value) (x : κ) (hx : a.eval y = key) (hkey : keyOf P k key = some (mk x))
    (hK : wpList P ops Q rest (a.put o.dst (.tuple #[(f x).getD z, .bool (f x).isSome])) w) : wpList P ops Q (o :: rest) a w := by
  obtain ⟨D, h1, h2, h3⟩ := h
  obtain ⟨v, ps, hrun, hv⟩ := h1.look_ok K ht hz (zd := .held z) (zp := []) rfl hkey
  obtain rfl := Mp.value h3 x hv
  rw [(h3 x).1] at hrun
  refine wpList_plain hg fun K' hK' => ?_
  unfold Oper.wp
  simp [execOp, hop, hm, hx, hrun, Result.andThen]
  exact hK' _ _ hK
theorem Mp.run_look (h : Mp mk P k w b s f) {t e : TypeId} (K : Keyed P k) (ht : P.underlying t = some (.map k e)) {z : Value} (hz : (zeroValue e).run P w = .ok z w) {key : Value} (x : κ) (hkey : keyOf P k key = some (mk x)) :
    (Instr.lookup t (.map (some b)) key false).run P w = .ok ((f x).getD z) w := by
  obtain ⟨D, h1, h2, h3⟩ := h
  obtain ⟨v, ps, hrun, hv⟩ := h1.lookup K ht hz (zd := .held z) (zp := []) rfl hkey
  obtain rfl := Mp.value h3 x hv
  exact hrun
theorem Mp.run_len (h : Mp mk P k w b s f) {t e : TypeId} (ht : P.underlying t = some (.map k e)) (ty : TypeId) : (Builtin.len_ #[t] ty #[.map (some b)]).run P w = .ok (.int .i64 s) w := by
  obtain ⟨D, h1, h2, h3⟩ := h
  rw [h1.len ht ty, h2]
/-- .. with the answer under a name -/
theorem wpList_mp_look_v (hg : o.guard = none) (m y : Operand) (t : TypeId) (hop : o.op = Op.lookup t m y false) (e : TypeId) (K : Keyed P k) (ht : P.underlying t = some (.map k e)) {z : Value} (hz : (zeroValue e).run P w = .ok z w)
    (hm : a.eval m = .map (some b)) (h : Mp mk P k w b s f) (key : Value) (x : κ) (hx : a.eval y = key) (hkey : keyOf P k key = some (mk x)) (v : Value) (hv : (f x).getD z = v)
    (hK : wpList P ops Q rest (a.put o.dst v) w) : wpList P ops Q (o :: rest) a w :=
  wpList_mp_look hg m y t hop e K ht hz hm h key x hx hkey (by rw [hv]; exact hK)
theorem wpList_mp_look_ok_v (hg : o.guard = none) (m y : Operand) (t : TypeId) (hop : o.op = Op.lookup t m y true) (e : TypeId) (K : Keyed P k) (ht : P.underlying t = some (.map k e)) {z : Value} (hz : (zeroValue e).run P w = .ok z w)
    (hm : a.eval m = .map (some b)) (h : Mp mk P k w b s f) (key : Value) (x : κ) (hx : a.eval y = key) (hkey : keyOf P k key = some (mk x)) (v : Value) (ok : Bool) (hv : (f x).getD z = v) (hok : (f x).isSome = ok)
    (hK : wpList P ops Q rest (a.put o.dst (.tuple #[v, .bool ok])) w) : wpList P ops Q (o :: rest) a w :=
  wpList_mp_look_ok hg m y t hop e K ht hz hm h key x hx hkey (by rw [hv, hok]; exact hK)
theorem Mp.noCell (h : Mp mk P k w b s f) {p : Addr} {v : Value} (hc : w.cell? p = some v) : p.block ≠ b := by
  obtain ⟨D, ⟨es, clock, h1, _⟩, _⟩ := h
  intro e
  rw [← e] at h1
  simp [World.cell?, h1] at hc
theorem Mp.keeps {w' : World} (h : Mp mk P k w b s f) (hg : w.grownBy w' (some b)) : Keeps w w' := fun p v hv => hg.cell hv (fun e => h.noCell hv (Option.some.inj e))
theorem below_grown {w' : World} (h : Below w.heap.size w w') (row : Option Nat) : w.grownBy w' row := ⟨h.os, h.tape, h.output, h.size, fun i hi _ => h.block i hi⟩
theorem grown_below {w' : World} {B c : Nat} (h : w.grownBy w' (some c)) (hc : B ≤ c) (hB : B ≤ w.heap.size) : Below B w w' := ⟨h.os, h.tape, h.output, h.size, fun i hi => h.block i (by omega) (fun e => by have := Option.some.inj e; omega)⟩
variable [DecidableEq κ]
/-- f with v at x -/
def upd (f : κ → Option Value) (x : κ) (v : Value) : κ → Option Value := fun y => if y = x then some v else f y
/-- m[k] = v -/
theorem wpList_mp_put (hg : o.guard = none) (m y u : Operand) (t : TypeId) (hop : o.op = Op.mapUpdate t m y u) (e : TypeId) (K : Keyed P k) (ht : P.underlying t = some (.map k e))
    (hm : a.eval m = .map (some b)) (h : Mp mk P k w b s f) (hs : s < maxLen) (key : Value) (x : κ) (hx : a.eval y = key) (hkey : keyOf P k key = some (mk x)) (v : Value) (hv : a.eval u = v) (inj : ∀ x y, mk x = mk y → x = y)
    (hK : ∀ w', Mp mk P k w' b (if (f x).isSome then s else s + 1) (upd f x v) → w.grownBy w' (some b) → wpList P ops Q rest (a.put o.dst undef) w') : wpList P ops Q (o :: rest) a w := by
  obtain ⟨D, h1, h2, h3⟩ := h
  refine wpList_plain hg fun K' hK' => ?_
  obtain ⟨w', hrun, r1, r2⟩ := h1.update K ht hs hkey (d := .held v) (ps := []) rfl
  unfold Oper.wp
  simp [execOp, hop, hm, hx, hv, hrun, Result.andThen]
  refine hK' _ _ (hK w' ?_ r2)
  have hsz := Maps.size_put (h1.tidy K) (.held v) (k := mk x)
  rw [h2, (h3 x).1] at hsz
  refine ⟨D.put (mk x) (.held v), ?_, hsz, fun z => ?_⟩
  · have := ownsMap_exact r1
    rwa [hsz] at this
  · by_cases hz : z = x
    · subst hz
      exact ⟨by rw [Maps.has_put_same h1.isMap (K.key hkey)]; simp [upd], fun u hu z => by simp [upd] at hu; subst hu; exact Maps.atKey_put_same h1.isMap (K.key hkey) _ _⟩
    · have hne : mk z ≠ mk x := fun e => hz (inj _ _ e)
      refine ⟨by rw [Maps.has_put_other hne, (h3 z).1]; simp [upd, hz], fun u hu y => ?_⟩
      rw [Maps.atKey_put_other hne]
      simp only [upd, if_neg hz] at hu
      exact (h3 z).2 u hu y
end
def mkI (x : Int) : Lit := .int .i64 x
def mkS (x : List UInt8) : Lit := .string x
theorem mkI_inj (x y : Int) (h : mkI x = mkI y) : x = y := by simpa [mkI] using h
theorem mkS_inj (x y : List UInt8) (h : mkS x = mkS y) : x = y := by simpa [mkS] using h
theorem key_int {P : Program} {k : TypeId} (hk : P.underlying k = some (.int .i64)) {x : Int} (h1 : -9223372036854775808 ≤ x) (h2 : x ≤ 9223372036854775807) : keyOf P k (.int .i64 x) = some (mkI x) := Maps.keyOf_int_mk hk (WalkArith.wf_i64 (by omega))
theorem key_str {P : Program} {k : TypeId} (hk : P.underlying k = some .string) {x : List UInt8} (h : x.length ≤ 9223372036854775807) : keyOf P k (.string ⟨x.toArray⟩) = some (mkS x) := by
  rw [Go.WideMaps.keyOf_string_mk hk (by simpa [ByteArray.size, maxLen] using h)]
  simp [mkS]
end Gr
end Go.Proofs.Ytpdkdhcbibcifaa
