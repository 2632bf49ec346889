/-
  WriteAdd: record.Size by its plain form; strings.Contains of one byte; the closure 'add' of record.Write; append of a string in a region that draws.
-/
import Derived.Test.YtjchaogfmnabfaaDoorRecWrite
import Derived.Test.YtjchaogfmnabfaaDoorPairs
import Derived.Test.YtjchaogfmnabfaaDoorCopy
import Derived.Test.YtjchaogfmnabfaaDoorRowl
import Derived.Test.YtjchaogfmnabfaaDoorShelf
import Derived.Deep.RegionHeld3
import Derived.Lib.AppendStr
import Derived.OneCell
import Derived.IntWalk
import Derived.Outline
namespace Go.Proofs.YtjchaogfmnabfaaDoor
set_option linter.unusedVariables false
set_option linter.unusedSimpArgs false
open Go.ChangeShapes Go.WideShapes Go.ChangeAt Go.RowKit
theorem SizeR_any (p : Pr) (w : World) (ht : Pow10 w) (hk : p.1.length ≤ 140737488351232) (hv : p.2.length ≤ 140737488351232) :
    Calls Tryd.prog 24 #[.agg #[.string ⟨p.1.toArray⟩, .string ⟨p.2.toArray⟩]] w fun e w' => e = .returned (.int .i64 (recSize p : Int)) ∧ Below w.heap.size w w' := by
  obtain ⟨d, h1, h2, h3⟩ := recSize_is p (by unfold recBase; omega)
  rw [h3]
  exact Size_any p.1 p.2 d w ht hk hv h2 h1
theorem RefSizeR_any (p : Pr) (w : World) (hk : p.1.length ≤ 140737488351232) (hv : p.2.length ≤ 140737488351232) :
    Calls Tryd.prog 39 #[.agg #[.string ⟨p.1.toArray⟩, .string ⟨p.2.toArray⟩]] w fun e w' => e = .returned (.int .i64 (recSize p : Int)) ∧ Below w.heap.size w w' := by
  obtain ⟨d, h1, h2, h3⟩ := recSize_is p (by unfold recBase; omega)
  rw [h3]
  exact RefSize_any p.1 p.2 d w hk hv h2 h1
theorem recSize_bd (p : Pr) (hk : p.1.length ≤ 140737488351232) (hv : p.2.length ≤ 140737488351232) : recSize p ≤ 300000000000000 := by
  obtain ⟨d, h1, h2, h3⟩ := recSize_is p (by unfold recBase; omega)
  rw [h3]; unfold recBase; omega
theorem recSize_pos (p : Pr) : 3 ≤ recSize p := by unfold recSize recBase; omega
theorem indexByte_mem (c : UInt8) : ∀ l : List UInt8, decide (0 ≤ Lib.indexByte l c) = decide (c ∈ l) := by
  have hm : ∀ m : List UInt8, -1 ≤ Lib.indexByte m c := by
    intro m
    induction m with
    | nil => simp [Lib.indexByte]
    | cons c m ihm => unfold Lib.indexByte; split; omega; split <;> omega
  intro l
  induction l with
  | nil => simp [Lib.indexByte]
  | cons b l ih =>
    have hq : (c ∈ b :: l) ↔ (c = b ∨ c ∈ l) := List.mem_cons
    have hml := hm l
    have e1 : (0 ≤ Lib.indexByte l c) ↔ c ∈ l := by simpa using ih
    unfold Lib.indexByte
    split
    · rename_i hb
      have : c = b := by simpa using (eq_of_beq hb).symm
      simp [this]
    · rename_i hb
      have hne : ¬ c = b := fun e => hb (beq_t e.symm)
      split
      · rename_i h1
        have := eq_of_beq h1
        have : ¬ c ∈ l := fun h => by have := e1.2 h; omega
        simp [hne, this]
      · rename_i h1
        have h2 : ¬ Lib.indexByte l c = -1 := fun e => h1 (by rw [e]; rfl)
        have : c ∈ l := e1.1 (by omega)
        simp [this]; omega
theorem Contains_any (l : List UInt8) (c : UInt8) (w : World) :
    Calls Tryd.prog 37 #[.string ⟨l.toArray⟩, .string ⟨#[c]⟩] w fun e w' => e = .returned (.bool (decide (c ∈ l))) ∧ w = w' :=
  (Tryd.strings_Contains_one ⟨l.toArray⟩ c w).mono fun e w' ⟨he, hw⟩ => ⟨by rw [he, ← indexByte_mem c l], hw.symm⟩
section
variable {P : Program} {ops : Array Oper} {o : Oper} {a : Act} {w : World} {K : Act → World → Prop} {Q : Exit → Act → World → Prop} {E : Prop}
/-- append(x, s...) of a string, onto a row of the call's own: as one step of a region that draws -/
theorem step_app_str (hgd : o.guard = none) (s x : Operand) (t u : TypeId) (ho : o.op = .call { callee := .builtin .append, args := #[s, x], argTypes := #[t, u] })
    (base : Nat) (e : TypeId) (ht : P.underlying t = some (.slice e)) (hu : P.underlying u = some .string) (hi : (P.info? e).map (fun i => (i.zero, i.size, i.bytes)) = some (some (.int .u8 0), 1, 1))
    {a1 : Option Addr} {n c1 : Nat} {xs : List UInt8} (hs : a.eval s = .slice a1 n c1) (hown : w.ownsRow base e 1 (.slice a1 n c1) n (xs.map u8v)) (b : ByteArray) (hx : a.eval x = .string b) (l : List UInt8) (hl : b.data.toList = l)
    (hbytes : n + l.length ≤ 140737488355328) (hbase : base ≤ w.heap.size)
    (h : ∀ a' c' w', w'.ownsRow base e 1 (.slice a' (n + l.length) c') (n + l.length) ((xs ++ l).map u8v) → w.grownBy w' (Value.slice a1 n c1).ownBlock → K (a.put o.dst (.slice a' (n + l.length) c')) w') :
    if Region.wanted o (yielded ops a.tmps) = true then Oper.wp P o a w K Q else E := by
  have hw : Region.wanted o (yielded ops a.tmps) = true := by unfold Region.wanted; rw [hgd]
  rw [if_pos hw]
  obtain ⟨i, hi, hz0, hz1, hz2⟩ := info_parts hi
  have hb : b.size = l.length := by rw [← hl, Array.length_toList]; rfl
  obtain ⟨v', w', hr, h2, h3, _⟩ := Lib.run_append_own_string (P := P) w base t u o.type e i ht hu hi hz0 hz1 hz2 _ n _ hown b (by rw [hb]; unfold maxLen; omega) (by rw [hb]; exact hbytes) hbase
  rw [hb] at h2
  have e1 : Lib.strCells b = l.map u8v := by rw [← hl]; rfl
  rw [e1, ← List.map_append] at h2
  obtain ⟨a', c', rfl⟩ := own_slice h2
  unfold Oper.wp execOp
  simp only [ho, resolve, invoke, builtin, Sem.run_bind, Sem.run_pure, Result.andThen_ok, List.map_toArray, List.map_cons, List.map_nil, hs, hx, hr]
  exact h a' c' w' h2 h3
end
/-- the sum's cell -/
def SumAt (g : Nat) (T : Int) (w : World) : Prop := w.heap[g]? = some (.cells #[.int .i64 T] 3 (0, 0))
theorem SumAt.cell {g : Nat} {T : Int} {w : World} (h : SumAt g T w) : w.cell? ⟨g, 0, none⟩ = some (.int .i64 T) := by rw [cell_of_row _ _ _ _ _ _ h]; rfl
theorem SumAt.free {g : Nat} {T : Int} {w : World} (h : SumAt g T w) : w.frozen? ⟨g, 0, none⟩ = false := frozen_of_row _ _ _ _ _ h
theorem SumAt.lt {g : Nat} {T : Int} {w : World} (h : SumAt g T w) : g < w.heap.size := (Array.getElem?_eq_some_iff.1 h).1
theorem SumAt.keep {g : Nat} {T : Int} {w w' : World} (h : SumAt g T w) (k : Below w.heap.size w w') : SumAt g T w' := by
  unfold SumAt; rw [k.block _ h.lt]; exact h
theorem SumAt.set {g : Nat} {T T' : Int} {w : World} (h : SumAt g T w) : SumAt g T' (w.setCell ⟨g, 0, none⟩ (.int .i64 T')) := by
  unfold SumAt; rw [heap_setCell_same _ _ _ _ _ _ h]; rfl
/-- what 'add' does -/
def AddRes (w : World) (g : Nat) (T S : Int) (e : Ending) (w' : World) : Prop :=
  e = .returned (.bool (decide (T + S ≤ 1048576))) ∧ SumAt g (T + S) w' ∧ Below g w w'
set_option maxRecDepth 100000 in
set_option maxHeartbeats 1600000 in
theorem Add_any (p : Pr) (g : Nat) (T : Int) (w : World) (ht : Pow10 w) (hk : p.1.length ≤ 140737488351232) (hv : p.2.length ≤ 140737488351232) (hg : SumAt g T w) (h0 : 0 ≤ T) (h1 : T ≤ 1048576) :
    Calls Tryd.prog 36 #[.agg #[.string ⟨p.1.toArray⟩, .string ⟨p.2.toArray⟩], .pointer (some ⟨g, 0, none⟩)] w (AddRes w g T (min (recSize p : Int) 1048577)) := by
  have hbd := recSize_bd p hk hv
  have HS := Lib.hid (fun w h => SizeR_any p w h hk hv)
  have hlt := hg.lt
  have HT := Lib.hid ht; clear ht
  obtain ⟨k, v⟩ := p
  generalize recSize (k, v) = S at *
  have HG := Lib.hid hg; clear hg
  have hmin : (min (S : Int) 1048577) = if (S : Int) ≤ 1048577 then (S : Int) else 1048577 := Int.min_def _ _
  have hM0 : 0 ≤ min (S : Int) 1048577 ∧ min (S : Int) 1048577 ≤ 1048577 := by rw [hmin]; split <;> omega
  obtain ⟨M, hM⟩ : ∃ M, min (S : Int) 1048577 = M := ⟨_, rfl⟩
  rw [hM] at hM0 ⊢
  obtain ⟨hM0, hM1⟩ := hM0
  have hw : IntKind.i64.wrap (T + M) = T + M := IntWalk.i64_in _ (by omega)
  clear hmin
  go_enter Tryd.func36, Tryd.ntmps36
  go_wp2_with fail
  have hb0 : Below w.heap.size w (w.alloc (.cells #[.string ⟨k.toArray⟩, .string ⟨v.toArray⟩] 39)) := (Below.refl _ _).alloc (Nat.le_refl _) _
  have hg1 := HG.out.keep hb0
  have hc0 := hg1.cell
  have hs0 : w.heap.size < (w.alloc (.cells #[.string ⟨k.toArray⟩, .string ⟨v.toArray⟩] 39)).heap.size := by simp
  have hc1 : (w.alloc (.cells #[.string ⟨k.toArray⟩, .string ⟨v.toArray⟩] 39)).cell? ⟨w.heap.size, 0, none⟩ = some (.string ⟨k.toArray⟩) := by rw [World.cell?_alloc_new]; rfl
  have hc2 : (w.alloc (.cells #[.string ⟨k.toArray⟩, .string ⟨v.toArray⟩] 39)).cell? ⟨w.heap.size, 1, none⟩ = some (.string ⟨v.toArray⟩) := by rw [World.cell?_alloc_new]; rfl
  have HB0 := Lib.hid hb0; have HS0 := Lib.hid hs0; have HG1 := Lib.hid hg1; have HC := Lib.hid (And.intro hc0 (And.intro hc1 hc2)); clear hb0 hs0 hg1
  generalize w.alloc (.cells #[.string ⟨k.toArray⟩, .string ⟨v.toArray⟩] 39) = wa at *
  have hcT := HC.out.1; have hck := HC.out.2.1; have hcv := HC.out.2.2
  go_region_with (go_at_call 24; (with_reducible refine (HS.out _ (by exact (HT.out.below HB0.out).below ((Below.refl _ _).drew))).mono ?_); rintro e w1 ⟨rfl, hb1⟩; have hd1 := Below.seq ((Below.refl wa.heap.size wa).drew) hb1; have HB1 := Lib.hid (Below.seq HB0.out hd1); have HG2 := Lib.hid (HG1.out.keep hd1); have hfz := HG2.out.free; have hcT1 := HG2.out.cell; clear hb1 hd1)
  all_goals
    go_wp2
    go_ret
    exact ⟨ret_bool rfl, HG2.out.set, (HB1.out.mono (Nat.le_of_lt hlt)).setCell (Nat.le_refl _) _⟩
end Go.Proofs.YtjchaogfmnabfaaDoor
