/-
  J05: Pairs, WriteAdd, SpanPad, Valid, Fits, Stamp, ScrLaw, ApZero, ApOwn, HdrAux, SealMake, PutRef, joined.
-/
import Derived.Test.YtamgiffkhnfpmaaDoorJ01
import Derived.Test.YtamgiffkhnfpmaaDoorProg
import Derived.Test.YtamgiffkhnfpmaaDoorJ04
import Derived.Test.YtamgiffkhnfpmaaDoorJ02
import Derived.Test.YtamgiffkhnfpmaaDoorShelf
import Derived.Deep.RegionHeld3
import Derived.Lib.AppendStr
import Derived.OneCell
import Derived.IntWalk
import Derived.Outline
import Derived.Deep.DeepCutAuto
import Derived.Deep.CutBlock
import Derived.Lib.TrimByte
import Derived.BigQuiet
import Derived.Laws.OwnMore
namespace Go.Proofs.YtamgiffkhnfpmaaDoor
set_option linter.unusedVariables false
set_option linter.unusedSimpArgs false
open Go.ChangeShapes Go.WideShapes Go.ChangeAt Go.RowKit
abbrev Pr := List UInt8 × List UInt8
def prCells (p : Pr) : List Value := [.string ⟨p.1.toArray⟩, .string ⟨p.2.toArray⟩]
theorem prCells_len (p : Pr) : (prCells p).length = 2 := rfl
/-- a slice of pairs -/
def Prs (w : World) (a : Option Addr) (n c : Nat) (l : List Pr) : Prop := IsSl w 2 a n c (l.flatMap prCells)
theorem Prs.len {w : World} {a : Option Addr} {n c : Nat} {l : List Pr} (h : Prs w a n c l) : l.length = n := by
  have := h.1; rw [flat_len prCells_len] at this; omega
theorem Prs.cap {w : World} {a : Option Addr} {n c : Nat} {l : List Pr} (h : Prs w a n c l) : n ≤ c := h.2.1
theorem Prs.max {w : World} {a : Option Addr} {n c : Nat} {l : List Pr} (h : Prs w a n c l) : c ≤ 9223372036854775807 := h.2.2.1
theorem Below.prs {w w' : World} {a : Option Addr} {n c : Nat} {l : List Pr} (k : Below w.heap.size w w') (h : Prs w a n c l) : Prs w' a n c l := (Below.keeps k).sl h
theorem Keeps.prs {w w' : World} {a : Option Addr} {n c : Nat} {l : List Pr} (k : Keeps w w') (h : Prs w a n c l) : Prs w' a n c l := k.sl h
theorem Prs.at {w : World} {a : Option Addr} {n c : Nat} {l : List Pr} (h : Prs w a n c l) (k : Nat) (hk : k < n) :
    ∃ b off, a = some ⟨b, off, none⟩ ∧ w.cell? ⟨b, off + k * 2, none⟩ = some (.string ⟨(l.getD k ([], [])).1.toArray⟩) ∧ w.cell? ⟨b, off + k * 2 + 1, none⟩ = some (.string ⟨(l.getD k ([], [])).2.toArray⟩) := by
  have hl := h.len
  have hk' : k < l.length := by omega
  have e : l.getD k ([], []) = l[k] := by simp [List.getD, List.getElem?_eq_getElem hk']
  rw [e]
  have h0 := flat_at prCells_len l k 0 hk' (by omega)
  have h1 := flat_at prCells_len l k 1 hk' (by omega)
  simp only [prCells, List.getElem?_cons_zero, List.getElem?_cons_succ, Nat.add_zero] at h0 h1
  obtain ⟨b, off, ha, hc0⟩ := h.2.2.2.1.at _ _ h0
  obtain ⟨b', off', ha', hc1⟩ := h.2.2.2.1.at _ _ h1
  rw [ha] at ha'
  simp only [Option.some.injEq, Addr.mk.injEq, and_true] at ha'
  obtain ⟨rfl, rfl⟩ := ha'
  exact ⟨b, off, ha, hc0, by rw [Nat.add_assoc]; exact hc1⟩
theorem prs_oneCell (l : List Pr) : ∀ u ∈ l.flatMap prCells, u.oneCell' = true := by
  intro u hu
  obtain ⟨p, _, hp⟩ := List.mem_flatMap.1 hu
  simp only [prCells, List.mem_cons, List.not_mem_nil, or_false] at hp
  rcases hp with rfl | rfl <;> rfl
theorem infoPair : (Tryd.prog.info? 98).map (fun i => (i.zero, i.size, i.bytes)) = some (some (.agg #[.string ⟨#[]⟩, .string ⟨#[]⟩]), 2, 32) := by kernel_rfl
theorem eqIn_pair (x y : Pr) (w : World) : (Op.equalIn 10000 98 (.agg #[.string ⟨x.1.toArray⟩, .string ⟨x.2.toArray⟩]) (.agg #[.string ⟨y.1.toArray⟩, .string ⟨y.2.toArray⟩])).run Tryd.prog w = .ok (decide (x = y)) w := by
  rw [run_equalIn_agg w 9999 98 _ _ (by kernel_rfl) (by kernel_rfl)]
  have hs : ∀ (d : Nat) (a b : ByteArray), (Op.equalIn (d + 1) 9 (.string a) (.string b)).run Tryd.prog w = .ok (a.toList == b.toList) w := fun d a b => run_equalIn_string w d 9 a b Tryd.underlying9
  have hp0 : ∀ (u v : Value), (part 9 #[u, v] 0).run Tryd.prog w = .ok u w := fun u v => by simp [part, isAgg, run_underlying Tryd.underlying9]
  have hp1 : ∀ (u v : Value), (part 9 #[u, v] 1).run Tryd.prog w = .ok v w := fun u v => by simp [part, isAgg, run_underlying Tryd.underlying9]
  simp [Program.fieldsOf, Tryd.underlying98, Op.eqFields, hs, hp0, hp1]
  by_cases h1 : x.1 = y.1
  · by_cases h2 : x.2 = y.2
    · have : x = y := Prod.ext h1 h2
      simp [h1, h2, this, hs 9998]
    · have : ¬ x = y := fun h => h2 (by rw [h])
      simp [h1, h2, this, hs 9998]
  · have : ¬ x = y := fun h => h1 (by rw [h])
    simp [h1, this]
theorem neq_pair (x y : Pr) (w : World) : (binOp .neq 98 (.agg #[.string ⟨x.1.toArray⟩, .string ⟨x.2.toArray⟩]) (.agg #[.string ⟨y.1.toArray⟩, .string ⟨y.2.toArray⟩])).run Tryd.prog w = .ok (.bool (!(decide (x = y)))) w := by
  rw [run_neq_struct, eqIn_pair]; rfl
/-- what a call hands back: pairs in new memory -/
def NewPrs (w : World) (l : List Pr) (e : Ending) (w' : World) : Prop :=
  ∃ a n c, e = .returned (.slice a n c) ∧ w'.ownsRow w.heap.size 98 2 (.slice a n c) n (l.flatMap prCells) ∧ Below w.heap.size w w'
theorem own_prs {w : World} {base : Nat} {e : TypeId} {a : Option Addr} {n c : Nat} {l : List Pr} (h : w.ownsRow base e 2 (.slice a n c) n (l.flatMap prCells)) : Prs w a n c l := own_isSl h
theorem prs_step {x y : List Pr} {k : Nat} (hk : k < x.length) (hl : y.length = x.length) (ih : x.take k = y.take k) (h : x.getD k ([], []) = y.getD k ([], [])) : x.take (k + 1) = y.take (k + 1) := by
  have h1 : k < y.length := by omega
  have he : x[k] = y[k] := by simpa [List.getD, List.getElem?_eq_getElem hk, List.getElem?_eq_getElem h1] using h
  rw [List.take_succ_eq_append_getElem hk, List.take_succ_eq_append_getElem h1, ih, he]
end Go.Proofs.YtamgiffkhnfpmaaDoor
namespace Go.Proofs.YtamgiffkhnfpmaaDoor
set_option linter.unusedVariables false
set_option linter.unusedSimpArgs false
open Go.ChangeShapes Go.WideShapes Go.ChangeAt Go.RowKit
theorem SizeR_any (p : Pr) (w : World) (ht : Pow10 w) (hk : p.1.length ≤ 140737488351232) (hv : p.2.length ≤ 140737488351232) :
    Calls Tryd.prog 90 #[.agg #[.string ⟨p.1.toArray⟩, .string ⟨p.2.toArray⟩]] w fun e w' => e = .returned (.int .i64 (recSize p : Int)) ∧ Below w.heap.size w w' := by
  obtain ⟨d, h1, h2, h3⟩ := recSize_is p (by unfold recBase; omega)
  rw [h3]
  exact Size_any p.1 p.2 d w ht hk hv h2 h1
theorem recSize_bd (p : Pr) (hk : p.1.length ≤ 140737488351232) (hv : p.2.length ≤ 140737488351232) : recSize p ≤ 300000000000000 := by
  obtain ⟨d, h1, h2, h3⟩ := recSize_is p (by unfold recBase; omega)
  rw [h3]; unfold recBase; omega
theorem recSize_pos (p : Pr) : 3 ≤ recSize p := by unfold recSize recBase; omega
theorem indexByte_mem (c : UInt8) : ∀ l : List UInt8, decide (0 ≤ Lib.indexByte l c) = decide (c ∈ l) := by
  have hm : ∀ m : List UInt8, -1 ≤ Lib.indexByte m c := by
    intro m
    induction m with
    | nil => simp [Lib.indexByte]
    | cons c m ihm => unfold Lib.indexByte; split; omega; split <;> omega
  intro l
  induction l with
  | nil => simp [Lib.indexByte]
  | cons b l ih =>
    have hq : (c ∈ b :: l) ↔ (c = b ∨ c ∈ l) := List.mem_cons
    have hml := hm l
    have e1 : (0 ≤ Lib.indexByte l c) ↔ c ∈ l := by simpa using ih
    unfold Lib.indexByte
    split
    · rename_i hb
      have : c = b := by simpa using (eq_of_beq hb).symm
      simp [this]
    · rename_i hb
      have hne : ¬ c = b := fun e => hb (beq_t e.symm)
      split
      · rename_i h1
        have := eq_of_beq h1
        have : ¬ c ∈ l := fun h => by have := e1.2 h; omega
        simp [hne, this]
      · rename_i h1
        have h2 : ¬ Lib.indexByte l c = -1 := fun e => h1 (by rw [e]; rfl)
        have : c ∈ l := e1.1 (by omega)
        simp [this]; omega
theorem Contains_any (l : List UInt8) (c : UInt8) (w : World) :
    Calls Tryd.prog 91 #[.string ⟨l.toArray⟩, .string ⟨#[c]⟩] w fun e w' => e = .returned (.bool (decide (c ∈ l))) ∧ w = w' :=
  (Tryd.strings_Contains_one ⟨l.toArray⟩ c w).mono fun e w' ⟨he, hw⟩ => ⟨by rw [he, ← indexByte_mem c l], hw.symm⟩
section
variable {P : Program} {ops : Array Oper} {o : Oper} {a : Act} {w : World} {K : Act → World → Prop} {Q : Exit → Act → World → Prop} {E : Prop}
/-- append(x, s...) of a string, onto a row of the call's own: as one step of a region that draws -/
theorem step_app_str (hgd : o.guard = none) (s x : Operand) (t u : TypeId) (ho : o.op = .call { callee := .builtin .append, args := #[s, x], argTypes := #[t, u] })
    (base : Nat) (e : TypeId) (ht : P.underlying t = some (.slice e)) (hu : P.underlying u = some .string) (hi : (P.info? e).map (fun i => (i.zero, i.size, i.bytes)) = some (some (.int .u8 0), 1, 1))
    {a1 : Option Addr} {n c1 : Nat} {xs : List UInt8} (hs : a.eval s = .slice a1 n c1) (hown : w.ownsRow base e 1 (.slice a1 n c1) n (xs.map u8v)) (b : ByteArray) (hx : a.eval x = .string b) (l : List UInt8) (hl : b.data.toList = l)
    (hbytes : n + l.length ≤ 140737488355328) (hbase : base ≤ w.heap.size)
    (h : ∀ a' c' w', w'.ownsRow base e 1 (.slice a' (n + l.length) c') (n + l.length) ((xs ++ l).map u8v) → w.grownBy w' (Value.slice a1 n c1).ownBlock → K (a.put o.dst (.slice a' (n + l.length) c')) w') :
    if Region.wanted o (yielded ops a.tmps) = true then Oper.wp P o a w K Q else E := by
  have hw : Region.wanted o (yielded ops a.tmps) = true := by unfold Region.wanted; rw [hgd]
  rw [if_pos hw]
  obtain ⟨i, hi, hz0, hz1, hz2⟩ := info_parts hi
  have hb : b.size = l.length := by rw [← hl, Array.length_toList]; rfl
  obtain ⟨v', w', hr, h2, h3, _⟩ := Lib.run_append_own_string (P := P) w base t u o.type e i ht hu hi hz0 hz1 hz2 _ n _ hown b (by rw [hb]; unfold maxLen; omega) (by rw [hb]; exact hbytes) hbase
  rw [hb] at h2
  have e1 : Lib.strCells b = l.map u8v := by rw [← hl]; rfl
  rw [e1, ← List.map_append] at h2
  obtain ⟨a', c', rfl⟩ := own_slice h2
  unfold Oper.wp execOp
  simp only [ho, resolve, invoke, builtin, Sem.run_bind, Sem.run_pure, Result.andThen_ok, List.map_toArray, List.map_cons, List.map_nil, hs, hx, hr]
  exact h a' c' w' h2 h3
end
/-- the sum's cell -/
def SumAt (g : Nat) (T : Int) (w : World) : Prop := w.heap[g]? = some (.cells #[.int .i64 T] 3 (0, 0))
theorem SumAt.cell {g : Nat} {T : Int} {w : World} (h : SumAt g T w) : w.cell? ⟨g, 0, none⟩ = some (.int .i64 T) := by rw [cell_of_row _ _ _ _ _ _ h]; rfl
theorem SumAt.free {g : Nat} {T : Int} {w : World} (h : SumAt g T w) : w.frozen? ⟨g, 0, none⟩ = false := frozen_of_row _ _ _ _ _ h
theorem SumAt.lt {g : Nat} {T : Int} {w : World} (h : SumAt g T w) : g < w.heap.size := (Array.getElem?_eq_some_iff.1 h).1
theorem SumAt.keep {g : Nat} {T : Int} {w w' : World} (h : SumAt g T w) (k : Below w.heap.size w w') : SumAt g T w' := by
  unfold SumAt; rw [k.block _ h.lt]; exact h
theorem SumAt.set {g : Nat} {T T' : Int} {w : World} (h : SumAt g T w) : SumAt g T' (w.setCell ⟨g, 0, none⟩ (.int .i64 T')) := by
  unfold SumAt; rw [heap_setCell_same _ _ _ _ _ _ h]; rfl
/-- what 'add' does -/
def AddRes (w : World) (g : Nat) (T S : Int) (e : Ending) (w' : World) : Prop :=
  e = .returned (.bool (decide (T + S ≤ 1048576))) ∧ SumAt g (T + S) w' ∧ Below g w w'
set_option maxRecDepth 100000 in
set_option maxHeartbeats 1600000 in
theorem Add_any (p : Pr) (g : Nat) (T : Int) (w : World) (ht : Pow10 w) (hk : p.1.length ≤ 140737488351232) (hv : p.2.length ≤ 140737488351232) (hg : SumAt g T w) (h0 : 0 ≤ T) (h1 : T ≤ 1048576) :
    Calls Tryd.prog 89 #[.agg #[.string ⟨p.1.toArray⟩, .string ⟨p.2.toArray⟩], .pointer (some ⟨g, 0, none⟩)] w (AddRes w g T (min (recSize p : Int) 1048577)) := by
  have hbd := recSize_bd p hk hv
  have HS := Lib.hid (fun w h => SizeR_any p w h hk hv)
  have hlt := hg.lt
  have HT := Lib.hid ht; clear ht
  obtain ⟨k, v⟩ := p
  generalize recSize (k, v) = S at *
  have HG := Lib.hid hg; clear hg
  have hmin : (min (S : Int) 1048577) = if (S : Int) ≤ 1048577 then (S : Int) else 1048577 := Int.min_def _ _
  have hM0 : 0 ≤ min (S : Int) 1048577 ∧ min (S : Int) 1048577 ≤ 1048577 := by rw [hmin]; split <;> omega
  obtain ⟨M, hM⟩ : ∃ M, min (S : Int) 1048577 = M := ⟨_, rfl⟩
  rw [hM] at hM0 ⊢
  obtain ⟨hM0, hM1⟩ := hM0
  have hw : IntKind.i64.wrap (T + M) = T + M := IntWalk.i64_in _ (by omega)
  clear hmin
  go_enter Tryd.func89, Tryd.ntmps89
  go_wp2_with fail
  have hb0 : Below w.heap.size w (w.alloc (.cells #[.string ⟨k.toArray⟩, .string ⟨v.toArray⟩] 98)) := (Below.refl _ _).alloc (Nat.le_refl _) _
  have hg1 := HG.out.keep hb0
  have hc0 := hg1.cell
  have hs0 : w.heap.size < (w.alloc (.cells #[.string ⟨k.toArray⟩, .string ⟨v.toArray⟩] 98)).heap.size := by simp
  have hc1 : (w.alloc (.cells #[.string ⟨k.toArray⟩, .string ⟨v.toArray⟩] 98)).cell? ⟨w.heap.size, 0, none⟩ = some (.string ⟨k.toArray⟩) := by rw [World.cell?_alloc_new]; rfl
  have hc2 : (w.alloc (.cells #[.string ⟨k.toArray⟩, .string ⟨v.toArray⟩] 98)).cell? ⟨w.heap.size, 1, none⟩ = some (.string ⟨v.toArray⟩) := by rw [World.cell?_alloc_new]; rfl
  have HB0 := Lib.hid hb0; have HS0 := Lib.hid hs0; have HG1 := Lib.hid hg1; have HC := Lib.hid (And.intro hc0 (And.intro hc1 hc2)); clear hb0 hs0 hg1
  generalize w.alloc (.cells #[.string ⟨k.toArray⟩, .string ⟨v.toArray⟩] 98) = wa at *
  have hcT := HC.out.1; have hck := HC.out.2.1; have hcv := HC.out.2.2
  go_region_with (go_at_call 90; (with_reducible refine (HS.out _ (by exact (HT.out.below HB0.out).below ((Below.refl _ _).drew))).mono ?_); rintro e w1 ⟨rfl, hb1⟩; have hd1 := Below.seq ((Below.refl wa.heap.size wa).drew) hb1; have HB1 := Lib.hid (Below.seq HB0.out hd1); have HG2 := Lib.hid (HG1.out.keep hd1); have hfz := HG2.out.free; have hcT1 := HG2.out.cell; clear hb1 hd1)
  all_goals
    go_wp2
    go_ret
    exact ⟨ret_bool rfl, HG2.out.set, (HB1.out.mono (Nat.le_of_lt hlt)).setCell (Nat.le_refl _) _⟩
end Go.Proofs.YtamgiffkhnfpmaaDoor
namespace Go.Proofs.YtamgiffkhnfpmaaDoor
set_option linter.unusedVariables false
set_option linter.unusedSimpArgs false
open Go.ChangeShapes Go.WideShapes Go.ChangeAt Go.RowKit
namespace Plain
def span (n : Int) : Int := if n ≤ 0 then 0 else (n - 1) / 512 + 1
def pad (n : Int) : Int := if n ≤ 0 then 0 else (-n) % 512
end Plain
theorem i64_and511 (n : Int) : bits .and .i64 n 511 = n % 512 := by
  have h511 : (BitVec.ofInt 64 511).toNat = 2 ^ 9 - 1 := by decide
  have key : (BitVec.ofInt 64 n &&& BitVec.ofInt 64 511).toNat = (n % ((2 ^ 64 : Nat) : Int)).toNat % 2 ^ 9 := by
    rw [BitVec.toNat_and, BitVec.toNat_ofInt, h511, Nat.and_two_pow_sub_one_eq_mod]
  show IntKind.i64.wrap ((BitVec.ofInt 64 n &&& BitVec.ofInt 64 511).toNat : Nat) = n % 512
  rw [key, IntKind.wrap_i64]
  omega
theorem Pad_any (n : Int) (h1 : n < 9223372036854775808) (w : World) :
    Calls Tryd.prog 92 #[.int .i64 n] w fun e w' => e = .returned (.int .i64 (Plain.pad n)) ∧ w = w' := by
  by_cases h0 : n ≤ 0
  · have hs : Plain.pad n = 0 := by simp [Plain.pad, h0]
    rw [hs]; clear hs
    go_enter Tryd.func92, Tryd.ntmps92
    go_wp2
    go_ret
    exact ⟨rfl, rfl⟩
  · have hs : Plain.pad n = (-n) % 512 := by simp [Plain.pad, h0]
    rw [hs]; clear hs
    go_enter Tryd.func92, Tryd.ntmps92
    go_wp2
    go_ret
    exact ⟨ret_int (i64_and511 _), rfl⟩
end Go.Proofs.YtamgiffkhnfpmaaDoor
namespace Go.Proofs.YtamgiffkhnfpmaaDoor
set_option linter.unusedVariables false
set_option linter.unusedSimpArgs false
open Go.ChangeShapes Go.WideShapes Go.ChangeAt Go.RowKit
namespace Plain
/-- is it a valid time? -/
def valid (sec nano : Int) : Bool := decide (0 ≤ nano) && decide (nano < 1000000000) && decide (-1099511627777 ≤ sec) && decide (sec ≤ 1099511627776) && !(decide (sec = -1099511627777) && decide (nano = 0))
end Plain
theorem Valid_any (s n : Int) (w : World) : Calls Tryd.prog 34 #[.agg #[.int .i64 s, .int .i64 n]] w fun e w' => e = .returned (.bool (Plain.valid s n)) ∧ Below w.heap.size w w' := by
  generalize hr : Plain.valid s n = r
  have HR := Lib.hid hr; clear hr
  go_enter Tryd.func34, Tryd.ntmps34
  go_wp2
  all_goals
    go_ret
    refine ⟨ret_bool ?_, (Below.refl _ _).alloc (Nat.le_refl _) _⟩
    rw [← HR.out, Bool.eq_iff_iff]
    try simp only [beq_iff_eq, beq_eq_false_iff_ne, ne_eq] at *
    simp [Plain.valid]
    try omega
end Go.Proofs.YtamgiffkhnfpmaaDoor
namespace Go.Proofs.YtamgiffkhnfpmaaDoor
set_option linter.unusedVariables false
set_option linter.unusedSimpArgs false
open Go.ChangeShapes Go.WideShapes Go.ChangeAt Go.RowKit
namespace Plain
/-- a text of lo to 4096 bytes, none of them 0 -/
def txt (lo : Int) (s : List UInt8) : Bool := !decide ((s.length : Int) < lo) && !decide (4096 < (s.length : Int)) && !decide (0 ≤ Lib.indexByte s 0)
end Plain
def strV (s : List UInt8) : Value := .string ⟨s.toArray⟩
set_option maxHeartbeats 400000 in
theorem ScText_any (lo : Int) (ss : List (List UInt8)) (a : Option Addr) (n c : Nat) (w : World) (h : IsSl w 1 a n c (ss.map strV)) :
    Calls Tryd.prog 33 #[.int .i64 lo, .slice a n c] w fun e w' => e = .returned (.bool (ss.all (Plain.txt lo))) ∧ w = w' := by
  have hn : ss.length = n := by have := h.1; simpa using this
  have hcap := h.2.1; have hmax : c ≤ 9223372036854775807 := h.2.2.1
  have h0 : (0 : Int).toNat.toUInt8 = 0 := rfl
  generalize hr : ss.all (Plain.txt lo) = r
  have HR := Lib.hid hr; have HN := Lib.hid hn; have H0 := Lib.hid h0; clear hr hn h0
  go_enter Tryd.func33, Tryd.ntmps33
  go_wp2
  go_loop [9] (fun i => ∃ k : Nat, k ≤ n ∧ i = .int .i64 k ∧ Hid ((ss.drop k).all (Plain.txt lo) = r)) (fun i => n - (intOf i).toNat)
  case atStart => exact ⟨0, by omega, rfl, HR⟩
  case round =>
    obtain ⟨k, hk, rfl, hq⟩ := hrel
    by_cases hlt : k < n
    · have hks : k < ss.length := by rw [HN.out]; exact hlt
      have hcell := h.2.2.2.1.at k (strV ss[k]) (by simp [List.getElem?_eq_getElem hks])
      obtain ⟨b, off, rfl, hc⟩ := hcell
      have hd := hq.out
      rw [List.drop_eq_getElem_cons hks, List.all_cons] at hd
      generalize ss[k] = s at hc hd
      have hkn : (k : Int) < (n : Int) := by omega
      unfold strV at hc
      unfold Plain.txt at hd
      clear hq
      by_cases t1 : (s.length : Int) < lo
      · have hf : r = false := by rw [← hd]; simp [t1]
        subst hf
        clear hd
        go_wp2
        go_ret
        exact ⟨rfl, rfl⟩
      · by_cases t2 : 4096 < (s.length : Int)
        · have hf : r = false := by rw [← hd]; simp [t2]
          subst hf
          clear hd
          go_wp2
          go_ret
          exact ⟨rfl, rfl⟩
        · generalize hi : Lib.indexByte s 0 = i at hd
          have HI := Lib.hid hi; clear hi
          by_cases t3 : 0 ≤ i
          · have hf : r = false := by rw [← hd]; simp [t3]
            subst hf
            clear hd
            go_wp2_with (go_at_call 66; refine (Tryd.strings_IndexByte _ _ _).mono ?_; rintro e w1 ⟨rfl, hw⟩; obtain rfl := hw.symm; rw [H0.out, HI.out])
            go_ret
            exact ⟨rfl, rfl⟩
          · have hd' : (ss.drop (k + 1)).all (Plain.txt lo) = r := by
              rw [← hd]
              simp only [t1, t2, t3, decide_false, Bool.not_false, Bool.and_self, Bool.true_and]
              rfl
            have HD := Lib.hid hd'; clear hd hd'
            have t3' : i < 0 := by omega
            clear t3
            go_wp2_with (go_at_call 66; refine (Tryd.strings_IndexByte _ _ _).mono ?_; rintro e w1 ⟨rfl, hw⟩; obtain rfl := hw.symm; rw [H0.out, HI.out])
            go_round
            case rel => exact ⟨k + 1, by omega, by go_num, HD⟩
            case measure => simp [intOf]; omega
    · obtain rfl : k = n := by omega
      have hf : r = true := by rw [← hq.out, List.drop_of_length_le (by rw [HN.out]; exact Nat.le_refl _)]; rfl
      subst hf
      clear hq
      go_wp2
      go_ret
      exact ⟨rfl, rfl⟩
theorem ScText1 (lo : Int) (s : List UInt8) (w : World) (b : Nat) (hb : w.heap.size = b) :
    Calls Tryd.prog 33 #[.int .i64 lo, .slice (some ⟨b, 0, none⟩) 1 1] (w.alloc (.cells #[.string ⟨s.toArray⟩] 9)) fun e w' => e = .returned (.bool (Plain.txt lo s)) ∧ w.alloc (.cells #[.string ⟨s.toArray⟩] 9) = w' := by
  subst hb
  have h : IsSl (w.alloc (.cells #[.string ⟨s.toArray⟩] 9)) 1 (some ⟨w.heap.size, 0, none⟩) 1 1 ([s].map strV) := isSl_new w 9 1 1 #[.string ⟨s.toArray⟩] rfl (by decide)
  exact (ScText_any lo [s] _ _ _ _ h).mono fun e w' ⟨he, hw⟩ => ⟨by rw [he]; simp, hw⟩
theorem ScText2 (lo : Int) (s t : List UInt8) (w : World) (b : Nat) (hb : w.heap.size = b) :
    Calls Tryd.prog 33 #[.int .i64 lo, .slice (some ⟨b, 0, none⟩) 2 2] (w.alloc (.cells #[.string ⟨s.toArray⟩, .string ⟨t.toArray⟩] 9)) fun e w' => e = .returned (.bool (Plain.txt lo s && Plain.txt lo t)) ∧ w.alloc (.cells #[.string ⟨s.toArray⟩, .string ⟨t.toArray⟩] 9) = w' := by
  subst hb
  have h : IsSl (w.alloc (.cells #[.string ⟨s.toArray⟩, .string ⟨t.toArray⟩] 9)) 1 (some ⟨w.heap.size, 0, none⟩) 2 2 ([s, t].map strV) := isSl_new w 9 1 2 #[.string ⟨s.toArray⟩, .string ⟨t.toArray⟩] rfl (by decide)
  exact (ScText_any lo [s, t] _ _ _ _ h).mono fun e w' ⟨he, hw⟩ => ⟨by rw [he]; simp, hw⟩
/-- an entry by value -/
abbrev entV (k : Int) (name link : List UInt8) (mode uid gid : Int) (user group : List UInt8) (sec nano : Int) (a : Option Addr) (n c : Nat) : Value :=
  .agg #[.int .i64 k, .string ⟨name.toArray⟩, .string ⟨link.toArray⟩, .int .i64 mode, .int .i64 uid, .int .i64 gid, .string ⟨user.toArray⟩, .string ⟨group.toArray⟩, .int .i64 sec, .int .i64 nano, .slice a n c]
namespace Plain
def own (i : Int) : Bool := decide (0 ≤ i) && decide (i ≤ 2147483647)
def fitB (k : Int) (T1 T2 T3 T4 T5 T6 : Bool) (link : List UInt8) (mode uid gid : Int) (n : Nat) : Bool :=
  decide (1 ≤ k) && decide (k ≤ 4) && T1 && T2 && T3 && !(decide (k = 1) && T6) && (decide (k = 1) || decide (n = 0)) &&
    (if 3 ≤ k then T4 else link.isEmpty) && decide (0 ≤ mode) && decide (mode ≤ 4095) && own uid && own gid && T5
/-- can the entry be written? -/
def fits (k : Int) (name link : List UInt8) (mode uid gid : Int) (user group : List UInt8) (sec nano : Int) (n : Nat) : Bool :=
  fitB k (txt 1 name) (txt 0 user) (txt 0 group) (txt 1 link) (valid sec nano) (Lib.hasSuffix name [47]) link mode uid gid n
section
variable {k : Int} {T1 T2 T3 T4 T5 T6 r : Bool} {link : List UInt8} {mode uid gid : Int} {n : Nat}
theorem fitB_true : fitB k T1 T2 T3 T4 T5 T6 link mode uid gid n = true ↔ (1 ≤ k ∧ k ≤ 4) ∧ (T1 = true ∧ T2 = true ∧ T3 = true) ∧ (k = 1 → T6 = false) ∧ (k ≠ 1 → n = 0) ∧ (3 ≤ k → T4 = true) ∧ (k < 3 → link.isEmpty = true) ∧
    (0 ≤ mode ∧ mode ≤ 4095) ∧ (own uid = true ∧ own gid = true) ∧ T5 = true := by
  unfold fitB
  by_cases h3 : 3 ≤ k
  · have h1 : ¬ k = 1 := by omega
    have h2 : ¬ k < 3 := by omega
    simp [h3, h1, h2, and_assoc]
  · have h2 : k < 3 := by omega
    by_cases h1 : k = 1
    · subst h1; simp [and_assoc]
    · simp [h3, h1, h2, and_assoc]
theorem fit_no (hr : Hid (fitB k T1 T2 T3 T4 T5 T6 link mode uid gid n = r)) (h : fitB k T1 T2 T3 T4 T5 T6 link mode uid gid n = true → False) : false = r := by
  rw [← hr.out]; cases hf : fitB k T1 T2 T3 T4 T5 T6 link mode uid gid n with
  | false => rfl
  | true => exact absurd hf h
theorem fit_a (hr : Hid (fitB k T1 T2 T3 T4 T5 T6 link mode uid gid n = r)) (h1 : (k == 1) = true) (h2 : T6 = true) : false = r :=
  fit_no hr fun h => by have := (fitB_true.1 h).2.2.1 (by simpa using h1); rw [h2] at this; cases this
theorem fit_b (hr : Hid (fitB k T1 T2 T3 T4 T5 T6 link mode uid gid n = r)) (h1 : (k == 1) = false) (h2 : 0 < n) : false = r :=
  fit_no hr fun h => by have := (fitB_true.1 h).2.2.2.1 (by simpa using h1); omega
theorem fit_c (hr : Hid (fitB k T1 T2 T3 T4 T5 T6 link mode uid gid n = r)) (h1 : (k == 1) = false) (h2 : (k == 2) = false) (h3 : (k == 3) = false) (h4 : (k == 4) = false) : false = r :=
  fit_no hr fun h => by have := (fitB_true.1 h).1; simp only [beq_eq_false_iff_ne] at h1 h2 h3 h4; omega
/-- what the switch leaves -/
def Kind (k : Int) (T6 : Bool) (n : Nat) (L : Bool) : Prop := 1 ≤ k ∧ k ≤ 4 ∧ (k = 1 → T6 = false) ∧ (k ≠ 1 → n = 0) ∧ L = decide (3 ≤ k)
theorem kind_1 (h1 : (k == 1) = true) (h : T6 = false) : Kind k T6 n false := by
  have : k = 1 := by simpa using h1
  subst this; exact ⟨by omega, by omega, fun _ => h, fun h => absurd rfl h, rfl⟩
theorem kind_34 (h1 : (k == 1) = false) (h3 : (k == 3) = true ∨ (k == 4) = true) (h : ¬ 0 < n) : Kind k T6 n true := by
  simp only [beq_iff_eq, beq_eq_false_iff_ne] at h1 h3
  exact ⟨by omega, by omega, fun h => absurd h h1, fun _ => by omega, by simp; omega⟩
theorem kind_2 (h1 : (k == 1) = false) (h3 : (k == 2) = true) (h : ¬ 0 < n) : Kind k T6 n false := by
  simp only [beq_iff_eq, beq_eq_false_iff_ne] at h1 h3
  exact ⟨by omega, by omega, fun h => absurd h h1, fun _ => by omega, by simp; omega⟩
variable {L O : Bool}
/-- what is asked of the link -/
def LinkOk (k : Int) (T4 : Bool) (link : List UInt8) : Prop := (3 ≤ k → T4 = true) ∧ (k < 3 → link.isEmpty = true)
theorem fit_z (hr : Hid (fitB k T1 T2 T3 T4 T5 T6 link mode uid gid n = r)) (hk : Kind k T6 n L) (hl : LinkOk k T4 link) (h1 : T1 = true) (h2 : T2 = true ∧ T3 = true) (m1 : 0 ≤ mode) (m2 : mode ≤ 4095)
    (hO : Hid ((own uid && own gid) = O)) (ho : O = true) : T5 = r := by
  have h := hO.out
  rw [ho, Bool.and_eq_true] at h
  obtain ⟨k1, k2, k3, k4, _⟩ := hk
  cases T5 with
  | true => rw [← hr.out]; exact (fitB_true.2 ⟨⟨k1, k2⟩, ⟨h1, h2.1, h2.2⟩, k3, k4, hl.1, hl.2, ⟨m1, m2⟩, h, rfl⟩).symm
  | false => exact fit_no hr fun h => by have := (fitB_true.1 h).2.2.2.2.2.2.2.2; cases this
theorem fit_o (hr : Hid (fitB k T1 T2 T3 T4 T5 T6 link mode uid gid n = r)) (hO : Hid ((own uid && own gid) = O)) (ho : ¬ O = true) : false = r :=
  fit_no hr fun h => ho (by rw [← hO.out, Bool.and_eq_true]; exact (fitB_true.1 h).2.2.2.2.2.2.2.1)
theorem fit_m (hr : Hid (fitB k T1 T2 T3 T4 T5 T6 link mode uid gid n = r)) (hm : mode < 0 ∨ 4095 < mode) : false = r :=
  fit_no hr fun h => by have := (fitB_true.1 h).2.2.2.2.2.2.1; omega
theorem fit_t (hr : Hid (fitB k T1 T2 T3 T4 T5 T6 link mode uid gid n = r)) (h2 : ¬ (T2 = true ∧ T3 = true)) : false = r :=
  fit_no hr fun h => h2 (fitB_true.1 h).2.1.2
theorem fit_1 (hr : Hid (fitB k T1 T2 T3 T4 T5 T6 link mode uid gid n = r)) (h2 : ¬ T1 = true) : false = r :=
  fit_no hr fun h => h2 (fitB_true.1 h).2.1.1
end
end Plain
set_option maxRecDepth 100000 in
set_option maxHeartbeats 2000000 in
theorem Fits_any (k : Int) (name link : List UInt8) (mode uid gid : Int) (user group : List UInt8) (sec nano : Int) (a : Option Addr) (n c : Nat) (w : World) (hl : name.length ≤ 140737488351232) :
    Calls Tryd.prog 20 #[entV k name link mode uid gid user group sec nano a n c] w fun e w' => e = .returned (.bool (Plain.fits k name link mode uid gid user group sec nano n)) ∧ Below w.heap.size w w' := by
  generalize hr : Plain.fits k name link mode uid gid user group sec nano n = r
  unfold Plain.fits at hr
  generalize h1 : Plain.txt 1 name = T1 at hr
  generalize h2 : Plain.txt 0 user = T2 at hr
  generalize h3 : Plain.txt 0 group = T3 at hr
  generalize h4 : Plain.txt 1 link = T4 at hr
  generalize h5 : Plain.valid sec nano = T5 at hr
  generalize h6 : Lib.hasSuffix name [47] = T6 at hr
  have H1 := Lib.hid h1; have H2 := Lib.hid h2; have H3 := Lib.hid h3; have H4 := Lib.hid h4; have H5 := Lib.hid h5; have H6 := Lib.hid h6; have HR := Lib.hid hr
  clear h1 h2 h3 h4 h5 h6 hr
  have hz : (⟨name.toArray⟩ : ByteArray).size ≤ 9223372036854775807 := by simp [ByteArray.size]; omega
  go_enter Tryd.func20, Tryd.ntmps20
  go_upto_region 1 with fail
  iterate 8 go_step
  have b0 : Below w.heap.size w (w.alloc (.cells #[.int .i64 k, .string ⟨name.toArray⟩, .string ⟨link.toArray⟩, .int .i64 mode, .int .i64 uid, .int .i64 gid, .string ⟨user.toArray⟩, .string ⟨group.toArray⟩, .int .i64 sec, .int .i64 nano, .slice a n c] 39)) := (Below.refl _ _).alloc (Nat.le_refl _) _
  go_cut [3] (fun s3 wx => ∃ L : Bool, s3 = .bool L ∧ wx = (w.alloc (.cells #[.int .i64 k, .string ⟨name.toArray⟩, .string ⟨link.toArray⟩, .int .i64 mode, .int .i64 uid, .int .i64 gid, .string ⟨user.toArray⟩, .string ⟨group.toArray⟩, .int .i64 sec, .int .i64 nano, .slice a n c] 39)) ∧ Plain.Kind k T6 n L)
  case first =>
    go_wp2_with (go_at_call 32; refine (Tryd.strings_HasSuffix _ _ _ hz).mono ?_; rintro e w1 ⟨rfl, hw⟩; obtain rfl := hw.symm; rw [H6.out])
    all_goals first
      | (go_meet; exact ⟨_, rfl, rfl, Plain.kind_1 ‹_› ‹_›⟩)
      | (go_meet; exact ⟨_, rfl, rfl, Plain.kind_34 ‹_› (by first | exact Or.inl ‹_› | exact Or.inr ‹_›) ‹_›⟩)
      | (go_meet; exact ⟨_, rfl, rfl, Plain.kind_2 ‹_› ‹_› ‹_›⟩)
      | (go_ret; exact ⟨ret_bool (Plain.fit_a HR ‹_› ‹_›), b0⟩)
      | (go_ret; exact ⟨ret_bool (Plain.fit_b HR ‹_› ‹_›), b0⟩)
      | (go_ret; exact ⟨ret_bool (Plain.fit_c HR ‹_› ‹_› ‹_› ‹_›), b0⟩)
  case rest =>
    obtain ⟨L, rfl, rfl, hk⟩ := hcut
    cases L with
    | true =>
      cases T4 with
      | false =>
        go_wp2_with (go_at_call 33; refine (ScText1 1 link _ _ (by simp)).mono ?_; rintro e w1 ⟨rfl, rfl⟩; rw [H4.out])
        go_ret
        exact ⟨ret_bool (Plain.fit_no HR fun h => by have h4 := (Plain.fitB_true.1 h).2.2.2.2.1 (of_decide_eq_true hk.2.2.2.2.symm); cases h4), Below.alloc b0 (by simp) _⟩
      | true =>
        have hlk : Plain.LinkOk k true link := ⟨fun _ => rfl, fun h => by have := of_decide_eq_true hk.2.2.2.2.symm; omega⟩
        go_upto_region 15 with (go_at_call 33; refine (ScText1 1 link _ _ (by simp)).mono ?_; rintro e w1 ⟨rfl, rfl⟩; rw [H4.out])
        go_cut [4] (fun s4 wx => s4 = .bool (Plain.own uid && Plain.own gid) ∧ wx = ((w.alloc (.cells #[.int .i64 k, .string ⟨name.toArray⟩, .string ⟨link.toArray⟩, .int .i64 mode, .int .i64 uid, .int .i64 gid, .string ⟨user.toArray⟩, .string ⟨group.toArray⟩, .int .i64 sec, .int .i64 nano, .slice a n c] 39)).alloc (.cells #[.string ⟨link.toArray⟩] 9)))
        case first =>
          go_wp2
          all_goals
            go_meet
            refine ⟨congrArg Value.bool ?_, rfl⟩
            rw [Bool.eq_iff_iff]
            simp [Plain.own]
            try omega
        case rest =>
          obtain ⟨rfl, rfl⟩ := hcut
          generalize hO : (Plain.own uid && Plain.own gid) = O
          have HO := Lib.hid hO; clear hO
          go_wp2_with (first | (go_at_call 33; first | ((with_reducible refine (ScText1 1 name _ _ ?hb1).mono ?_); (case hb1 => simp); rintro e w1 ⟨rfl, rfl⟩; rw [H1.out]) | ((with_reducible refine (ScText2 0 user group _ _ ?hb2).mono ?_); (case hb2 => simp); rintro e w1 ⟨rfl, rfl⟩; rw [H2.out, H3.out])) | (go_at_call 34; refine (Valid_any _ _ _).mono ?_; rintro e w1 ⟨rfl, hv⟩; rw [H5.out]))
          all_goals
            go_ret
            refine ⟨ret_bool (by first | exact Plain.fit_z HR hk hlk ‹_› ‹_› ‹_› ‹_› HO ‹_› | exact Plain.fit_o HR HO ‹_› | exact Plain.fit_m HR (by first | exact Or.inl ‹_› | exact Or.inr ‹_›) | exact Plain.fit_t HR ‹_› | exact Plain.fit_1 HR ‹_›), ?_⟩
            try refine Below.seq ?_ hv
            repeat (first | exact b0 | refine Below.alloc ?_ (by simp <;> omega) _)
    | false =>
      cases hle : link.isEmpty with
      | false =>
        go_wp2
        go_ret
        exact ⟨ret_bool (Plain.fit_no HR fun h => by have h4 := (Plain.fitB_true.1 h).2.2.2.2.2.1 (by have := of_decide_eq_false hk.2.2.2.2.symm; omega); rw [hle] at h4; cases h4), b0⟩
      | true =>
        have hlk : Plain.LinkOk k T4 link := ⟨fun h => by have := of_decide_eq_false hk.2.2.2.2.symm; omega, fun _ => hle⟩
        go_upto_region 15 with fail
        go_cut [4] (fun s4 wx => s4 = .bool (Plain.own uid && Plain.own gid) ∧ wx = (w.alloc (.cells #[.int .i64 k, .string ⟨name.toArray⟩, .string ⟨link.toArray⟩, .int .i64 mode, .int .i64 uid, .int .i64 gid, .string ⟨user.toArray⟩, .string ⟨group.toArray⟩, .int .i64 sec, .int .i64 nano, .slice a n c] 39)))
        case first =>
          go_wp2
          all_goals
            go_meet
            refine ⟨congrArg Value.bool ?_, rfl⟩
            rw [Bool.eq_iff_iff]
            simp [Plain.own]
            try omega
        case rest =>
          obtain ⟨rfl, rfl⟩ := hcut
          generalize hO : (Plain.own uid && Plain.own gid) = O
          have HO := Lib.hid hO; clear hO
          go_wp2_with (first | (go_at_call 33; first | ((with_reducible refine (ScText1 1 name _ _ ?hb1).mono ?_); (case hb1 => simp); rintro e w1 ⟨rfl, rfl⟩; rw [H1.out]) | ((with_reducible refine (ScText2 0 user group _ _ ?hb2).mono ?_); (case hb2 => simp); rintro e w1 ⟨rfl, rfl⟩; rw [H2.out, H3.out])) | (go_at_call 34; refine (Valid_any _ _ _).mono ?_; rintro e w1 ⟨rfl, hv⟩; rw [H5.out]))
          all_goals
            go_ret
            refine ⟨ret_bool (by first | exact Plain.fit_z HR hk hlk ‹_› ‹_› ‹_› ‹_› HO ‹_› | exact Plain.fit_o HR HO ‹_› | exact Plain.fit_m HR (by first | exact Or.inl ‹_› | exact Or.inr ‹_›) | exact Plain.fit_t HR ‹_› | exact Plain.fit_1 HR ‹_›), ?_⟩
            try refine Below.seq ?_ hv
            repeat (first | exact b0 | refine Below.alloc ?_ (by simp <;> omega) _)
end Go.Proofs.YtamgiffkhnfpmaaDoor
namespace Go.Proofs.YtamgiffkhnfpmaaDoor
set_option linter.unusedVariables false
set_option linter.unusedSimpArgs false
open Go.ChangeShapes Go.WideShapes Go.ChangeAt Go.RowKit
namespace Plain
/-- the text of a valid time behind its sign -/
def stampOf (sg : List UInt8) (sec nano : Int) : List UInt8 :=
  if 0 < nano then sg ++ Lib.itoa sec ++ (46 :: Lib.trimRightB ((Lib.itoa (1000000000 + nano)).drop 1) 48) else sg ++ Lib.itoa sec
def stamp (sec nano : Int) : List UInt8 × Int :=
  if valid sec nano then
    (if sec < 0 then (if 0 < nano then (stampOf [45] (-sec - 1) (1000000000 - nano), 0) else (stampOf [45] (-sec) nano, 0)) else (stampOf [] sec nano, 0))
  else ([], 20)
theorem valid_bounds (s n : Int) (h : valid s n = true) : 0 ≤ n ∧ n < 1000000000 ∧ -1099511627777 ≤ s ∧ s ≤ 1099511627776 := by
  unfold valid at h
  simp only [Bool.and_eq_true, decide_eq_true_eq] at h
  exact ⟨h.1.1.1.1, h.1.1.1.2, h.1.1.2, h.1.2⟩
end Plain
/-- a number whose first digit is 1: the digits behind it -/
theorem decDigits_lead : ∀ (k u : Nat), 10 ^ k ≤ u → u < 2 * 10 ^ k → ∃ r, Lib.decDigits u = 49 :: r ∧ r.length = k ∧ (10 ^ k < u → ∃ b ∈ r, b ≠ 48)
  | 0, u, h1, h2 => by
    obtain rfl : u = 1 := by simp at h1 h2; omega
    exact ⟨[], by decide +kernel, rfl, fun h => by simp at h⟩
  | k + 1, u, h1, h2 => by
    have e10 : 10 ^ (k + 1) = 10 ^ k * 10 := Nat.pow_succ 10 k
    have hp : 0 < 10 ^ k := Nat.pow_pos (by decide)
    obtain ⟨r, hr, hl, hb⟩ := decDigits_lead k (u / 10) (by omega) (by omega)
    rw [Lib.decDigits, dif_neg (by omega), hr]
    refine ⟨r ++ [UInt8.ofNat (48 + u % 10)], by simp, by simp [hl], fun h => ?_⟩
    by_cases h0 : u % 10 = 0
    · obtain ⟨b, hb1, hb2⟩ := hb (by omega)
      exact ⟨b, by simp [hb1], hb2⟩
    · refine ⟨UInt8.ofNat (48 + u % 10), by simp, fun e => ?_⟩
      have := congrArg UInt8.toNat e
      rw [UInt8.toNat_ofNat'] at this
      simp at this
      omega
theorem nanos_digits (n : Int) (h0 : 0 ≤ n) (h1 : n < 1000000000) : ∃ r : List UInt8, Lib.itoa (1000000000 + n) = 49 :: r ∧ r.length = 9 ∧ (0 < n → ∃ b ∈ r, b ≠ 48) := by
  obtain ⟨r, hr, hl, hb⟩ := decDigits_lead 9 (1000000000 + n).toNat (by omega) (by omega)
  exact ⟨r, by rw [Lib.itoa, if_neg (by omega), hr], hl, fun h => hb (by omega)⟩
theorem trimRightB_on (t : List UInt8) : Lib.trimRightB (t ++ [48]) 48 = Lib.trimRightB t 48 := by simp [Lib.trimRightB]
theorem trimRightB_off (t : List UInt8) (c : UInt8) (h : c ≠ 48) : Lib.trimRightB (t ++ [c]) 48 = t ++ [c] := by simp [Lib.trimRightB, h]
theorem trimRightB_len (t : List UInt8) (c : UInt8) : (Lib.trimRightB t c).length ≤ t.length := by
  unfold Lib.trimRightB
  rw [List.length_reverse]
  refine Nat.le_trans (List.dropWhile_suffix _).length_le ?_
  simp
theorem itoa_len (v : Int) (h0 : 0 ≤ v) (h1 : v < 10 ^ 15) : (Lib.itoa v).length ≤ 15 := by
  rw [Lib.itoa, if_neg (by omega)]
  exact decDigits_len 14 v.toNat (by omega)
/-- the cells of a time, boxed -/
def tmC (s n : Int) : Array Value := #[.int .i64 s, .int .i64 n]
set_option maxRecDepth 100000 in
set_option maxHeartbeats 3200000 in
theorem StampShow_any (s n : Int) (w : World) (ht : Pow10 w) :
    Calls Tryd.prog 61 #[.agg #[.int .i64 s, .int .i64 n]] w fun e w' => e = .returned (.tuple #[.string ⟨(Plain.stamp s n).1.toArray⟩, .int .i64 (Plain.stamp s n).2]) ∧ Below w.heap.size w w' := by
  have HT := Lib.hid ht; clear ht
  have HVL := Lib.hid (fun w => Valid_any s n w)
  generalize hr : Plain.stamp s n = r
  have HR := Lib.hid hr
  clear hr
  generalize hv : Plain.valid s n = V at *
  cases V with
  | false =>
    have hr : r = ([], 20) := by rw [← HR.out]; unfold Plain.stamp; rw [hv]; rfl
    subst hr
    clear hv HR
    go_enter Tryd.func61, Tryd.ntmps61
    go_wp2_with (go_at_call 34; (with_reducible refine (HVL.out _).mono ?_); rintro e w1 ⟨rfl, hb1⟩)
    go_ret2
    exact ⟨rfl, Below.seq ((Below.refl _ _).alloc (Nat.le_refl _) _) hb1⟩
  | true =>
    obtain ⟨b1, b2, b3, b4⟩ := Plain.valid_bounds s n hv
    have hst : Plain.stamp s n = (if s < 0 then (if 0 < n then (Plain.stampOf [45] (-s - 1) (1000000000 - n), 0) else (Plain.stampOf [45] (-s) n, 0)) else (Plain.stampOf [] s n, 0)) := by unfold Plain.stamp; rw [if_pos hv]
    rw [HR.out] at hst
    have HST := Lib.hid hst
    clear HR hst hv
    have hb0 := (Below.refl w.heap.size w).alloc (Nat.le_refl _) (.cells #[.int .i64 s, .int .i64 n] 37)
    have hrow : (w.alloc (.cells #[.int .i64 s, .int .i64 n] 37)).heap[w.heap.size]? = some (.cells #[.int .i64 s, .int .i64 n] 37 (0, 0)) := heap_alloc_new w _
    have HB0 := Lib.hid hb0; have HROW := Lib.hid hrow
    clear hb0 hrow
    go_enter Tryd.func61, Tryd.ntmps61
    go_upto_region 1 with fail
    generalize w.alloc (.cells #[.int .i64 s, .int .i64 n] 37) = w0 at *
    have hz0 : w0.cell? ⟨w.heap.size, 0, none⟩ = some (.int .i64 s) := by rw [cell_of_row _ _ _ _ _ _ HROW.out]; rfl
    have hz1 : w0.cell? ⟨w.heap.size, 1, none⟩ = some (.int .i64 n) := by rw [cell_of_row _ _ _ _ _ _ HROW.out]; rfl
    go_wp2_with (go_at_call 34; (with_reducible refine (HVL.out _).mono ?_); rintro e w1 ⟨rfl, hb1⟩; have HB1 := Lib.hid (Below.seq HB0.out hb1); have HRW1 : Hid (w1.heap[w.heap.size]? = some (.cells #[.int .i64 s, .int .i64 n] 37 (0, 0))) := Lib.hid (by rw [hb1.block _ (Array.getElem?_eq_some_iff.1 HROW.out).1]; exact HROW.out); clear hb1)
    have hc0 : w1.cell? ⟨w.heap.size, 0, none⟩ = some (.int .i64 s) := by rw [cell_of_row _ _ _ _ _ _ HRW1.out]; rfl
    have hc1 : w1.cell? ⟨w.heap.size, 1, none⟩ = some (.int .i64 n) := by rw [cell_of_row _ _ _ _ _ _ HRW1.out]; rfl
    go_quiet (fail)
    have HBD : Hid (Below w.heap.size w (w1.drewN nq)) := Lib.hid (Below.drewN HB1.out nq)
    clear hc0 hc1 HB0 HROW HRW1 HB1 HVL
    generalize w1.drewN nq = w2 at *
    have HSH : Hid (∀ v w3, Below w.heap.size w w3 → 0 ≤ v → v < 10 ^ 15 → Calls Tryd.prog 56 #[.int .i64 v] w3 fun e w' => e = .returned (.string ⟨(Lib.itoa v).toArray⟩) ∧ Below w3.heap.size w3 w') := Lib.hid (fun v w3 hb h0 h1 => Show_any v (by omega) (by omega) w3 (HT.out.below hb))
    have HIT : Hid (∀ v w3, Below w.heap.size w w3 → 0 ≤ v → v < 10 ^ 15 → Calls Tryd.prog 88 #[.int .i64 v] w3 fun e w' => e = .returned (.string ⟨(Lib.itoa v).toArray⟩) ∧ Below w3.heap.size w3 w') := Lib.hid (fun v w3 hb h0 h1 => (Tryd.strconv_Itoa v (by omega) (by omega) w3 (HT.out.below hb)).mono fun e w4 h => ⟨h.1, by obtain ⟨_, k, os, hw⟩ := h; rw [hw]; exact grow_below _ _ _ _ (Nat.le_refl _)⟩)
    by_cases hs : s < 0
    · by_cases hn : 0 < n
      · skip
        have hr : r = (Plain.stampOf [45] (-s - 1) (1000000000 - n), 0) := by rw [HST.out, if_pos hs, if_pos hn]
        clear HST
        have hq0 : 0 ≤ -s - 1 := by omega
        have hq1 : -s - 1 < 10 ^ 15 := by omega
        have hL1 := itoa_len (-s - 1) hq0 hq1
        have HSW := Lib.hid (fun w3 hb => HSH.out (-s - 1) w3 hb hq0 hq1)
        have hpl : Plain.stampOf [45] (-s - 1) (1000000000 - n) = [45] ++ Lib.itoa (-s - 1) ++ (46 :: Lib.trimRightB ((Lib.itoa (1000000000 + (1000000000 - n))).drop 1) 48) := if_pos (by omega)
        obtain ⟨r9, hr9, hl9, _⟩ := nanos_digits (1000000000 - n) (by omega) (by omega)
        have HIW := Lib.hid (fun w3 hb => HIT.out (1000000000 + (1000000000 - n)) w3 hb (by omega) (by omega))
        have HTR := Lib.hid (fun w3 => Tryd.strings_TrimRight_one ⟨r9.toArray⟩ 48 (by decide) w3 (by show r9.toArray.size ≤ _; rw [List.size_toArray]; omega))
        have hT9 := trimRightB_len r9 48
        rw [hr9] at HIW hpl
        rw [show (49 :: r9).drop 1 = r9 from rfl] at hpl
        have htl : (⟨r9.toArray⟩ : ByteArray).data.toList = r9 := by simp
        rw [htl] at HTR
        generalize Lib.trimRightB r9 48 = T9 at *
        have HEX : Hid ((⟨(49 :: r9).toArray⟩ : ByteArray).extract 1 10 = ⟨r9.toArray⟩) := Lib.hid (by rw [ByteArray.extract_mk]; simp [List.take_of_length_le (show r9.length ≤ 9 by omega)])
        have hsz : (⟨(49 :: r9).toArray⟩ : ByteArray).size = 10 := by show (49 :: r9).toArray.size = 10; simp [hl9]
        clear htl
        rw [hpl] at hr
        subst hr
        clear hpl HSH HIT
        generalize hD1 : Lib.itoa (-s - 1) = D1 at *
        have HD1 := Lib.hid hD1
        clear hD1
        go_wp2_with (first
          | (go_at_call 56; (refine (HSW.out _ (by exact HBD.out)).mono ?_); rintro e w3 ⟨rfl, hb3⟩; have HB3 := Lib.hid (Below.seq HBD.out hb3); clear hb3)
          | (go_at_call 88; (refine (HIW.out _ (by exact HB3.out)).mono ?_); rintro e w4 ⟨rfl, hb4⟩; have HB4 := Lib.hid (Below.seq HB3.out hb4); clear hb4)
          | (go_at_call 44; rw [HEX.out]; refine (HTR.out _).mono ?_; rintro e w5 ⟨rfl, hw5⟩; obtain rfl := hw5))
        go_ret2
        exact ⟨by rw [HD1.out]; exact congrArg (fun z => Ending.returned (.tuple #[.string z, .int .i64 0])) (ByteArray.ext (by simp)), HB4.out⟩
      · skip
        have hr : r = (Plain.stampOf [45] (-s) (n), 0) := by rw [HST.out, if_pos hs, if_neg hn]
        clear HST
        have hq0 : 0 ≤ -s := by omega
        have hq1 : -s < 10 ^ 15 := by omega
        have hL1 := itoa_len (-s) hq0 hq1
        have HSW := Lib.hid (fun w3 hb => HSH.out (-s) w3 hb hq0 hq1)
        have hpl : Plain.stampOf [45] (-s) (n) = [45] ++ Lib.itoa (-s) := if_neg (by omega)
        rw [hpl] at hr
        subst hr
        clear hpl HSH HIT
        generalize hD1 : Lib.itoa (-s) = D1 at *
        have HD1 := Lib.hid hD1
        clear hD1
        go_wp2_with (first
          | (go_at_call 56; (refine (HSW.out _ (by exact HBD.out)).mono ?_); rintro e w3 ⟨rfl, hb3⟩; have HB3 := Lib.hid (Below.seq HBD.out hb3); clear hb3))
        go_ret2
        exact ⟨by rw [HD1.out]; exact congrArg (fun z => Ending.returned (.tuple #[.string z, .int .i64 0])) (ByteArray.ext (by simp)), HB3.out⟩
    · by_cases hn : 0 < n
      · skip
        have hr : r = (Plain.stampOf [] (s) (n), 0) := by rw [HST.out, if_neg hs]
        clear HST
        have hq0 : 0 ≤ s := by omega
        have hq1 : s < 10 ^ 15 := by omega
        have hL1 := itoa_len (s) hq0 hq1
        have HSW := Lib.hid (fun w3 hb => HSH.out (s) w3 hb hq0 hq1)
        have hpl : Plain.stampOf [] (s) (n) = [] ++ Lib.itoa (s) ++ (46 :: Lib.trimRightB ((Lib.itoa (1000000000 + (n))).drop 1) 48) := if_pos (by omega)
        obtain ⟨r9, hr9, hl9, _⟩ := nanos_digits (n) (by omega) (by omega)
        have HIW := Lib.hid (fun w3 hb => HIT.out (1000000000 + (n)) w3 hb (by omega) (by omega))
        have HTR := Lib.hid (fun w3 => Tryd.strings_TrimRight_one ⟨r9.toArray⟩ 48 (by decide) w3 (by show r9.toArray.size ≤ _; rw [List.size_toArray]; omega))
        have hT9 := trimRightB_len r9 48
        rw [hr9] at HIW hpl
        rw [show (49 :: r9).drop 1 = r9 from rfl] at hpl
        have htl : (⟨r9.toArray⟩ : ByteArray).data.toList = r9 := by simp
        rw [htl] at HTR
        generalize Lib.trimRightB r9 48 = T9 at *
        have HEX : Hid ((⟨(49 :: r9).toArray⟩ : ByteArray).extract 1 10 = ⟨r9.toArray⟩) := Lib.hid (by rw [ByteArray.extract_mk]; simp [List.take_of_length_le (show r9.length ≤ 9 by omega)])
        have hsz : (⟨(49 :: r9).toArray⟩ : ByteArray).size = 10 := by show (49 :: r9).toArray.size = 10; simp [hl9]
        clear htl
        rw [hpl] at hr
        subst hr
        clear hpl HSH HIT
        generalize hD1 : Lib.itoa (s) = D1 at *
        have HD1 := Lib.hid hD1
        clear hD1
        go_wp2_with (first
          | (go_at_call 56; (refine (HSW.out _ (by exact HBD.out)).mono ?_); rintro e w3 ⟨rfl, hb3⟩; have HB3 := Lib.hid (Below.seq HBD.out hb3); clear hb3)
          | (go_at_call 88; (refine (HIW.out _ (by exact HB3.out)).mono ?_); rintro e w4 ⟨rfl, hb4⟩; have HB4 := Lib.hid (Below.seq HB3.out hb4); clear hb4)
          | (go_at_call 44; rw [HEX.out]; refine (HTR.out _).mono ?_; rintro e w5 ⟨rfl, hw5⟩; obtain rfl := hw5))
        go_ret2
        exact ⟨by rw [HD1.out]; exact congrArg (fun z => Ending.returned (.tuple #[.string z, .int .i64 0])) (ByteArray.ext (by simp)), HB4.out⟩
      · skip
        have hr : r = (Plain.stampOf [] (s) (n), 0) := by rw [HST.out, if_neg hs]
        clear HST
        have hq0 : 0 ≤ s := by omega
        have hq1 : s < 10 ^ 15 := by omega
        have hL1 := itoa_len (s) hq0 hq1
        have HSW := Lib.hid (fun w3 hb => HSH.out (s) w3 hb hq0 hq1)
        have hpl : Plain.stampOf [] (s) (n) = [] ++ Lib.itoa (s) := if_neg (by omega)
        rw [hpl] at hr
        subst hr
        clear hpl HSH HIT
        generalize hD1 : Lib.itoa (s) = D1 at *
        have HD1 := Lib.hid hD1
        clear hD1
        go_wp2_with (first
          | (go_at_call 56; (refine (HSW.out _ (by exact HBD.out)).mono ?_); rintro e w3 ⟨rfl, hb3⟩; have HB3 := Lib.hid (Below.seq HBD.out hb3); clear hb3))
        go_ret2
        exact ⟨by rw [HD1.out]; exact congrArg (fun z => Ending.returned (.tuple #[.string z, .int .i64 0])) (ByteArray.ext (by simp)), HB3.out⟩
end Go.Proofs.YtamgiffkhnfpmaaDoor
namespace Go.Proofs.YtamgiffkhnfpmaaDoor
set_option linter.unusedVariables false
set_option linter.unusedSimpArgs false
open Go.ChangeShapes Go.WideShapes Go.ChangeAt Go.RowKit
/-- an entry -/
structure En where
  kind : Int
  name : List UInt8
  link : List UInt8
  mode : Int
  uid : Int
  gid : Int
  user : List UInt8
  group : List UInt8
  sec : Int
  nano : Int
  data : List UInt8
def kPath : List UInt8 := [112, 97, 116, 104]
def kLink : List UInt8 := [108, 105, 110, 107, 112, 97, 116, 104]
def kUid : List UInt8 := [117, 105, 100]
def kGid : List UInt8 := [103, 105, 100]
def kUname : List UInt8 := [117, 110, 97, 109, 101]
def kGname : List UInt8 := [103, 110, 97, 109, 101]
def kMtime : List UInt8 := [109, 116, 105, 109, 101]
namespace Plain
def wPath (e : En) : Bool := decide ((split e.name).2.2 ≠ 0)
def wLink (e : En) : Bool := decide (100 < e.link.length)
def wUid (e : En) : Bool := decide (2097151 < e.uid)
def wGid (e : En) : Bool := decide (2097151 < e.gid)
def wUser (e : En) : Bool := decide (32 < e.user.length)
def wGroup (e : En) : Bool := decide (32 < e.group.length)
def wTime (e : En) : Bool := decide (e.nano ≠ 0 ∨ e.sec < 0 ∨ 8589934591 < e.sec)
def one? (b : Bool) (p : Pr) : List Pr := if b then [p] else []
/-- the records of an entry -/
def prsOf (e : En) : List Pr :=
  one? (wPath e) (kPath, e.name) ++ one? (wLink e) (kLink, e.link) ++ one? (wUid e) (kUid, Lib.itoa e.uid) ++ one? (wGid e) (kGid, Lib.itoa e.gid) ++ one? (wUser e) (kUname, e.user) ++ one? (wGroup e) (kGname, e.group) ++ one? (wTime e) (kMtime, (stamp e.sec e.nano).1)
def tyOf (k : Int) : UInt8 := if k = 1 then 48 else if k = 2 then 53 else if k = 3 then 50 else if k = 4 then 49 else 0
/-- the header of an entry, its size apart -/
def hdOf (e : En) : Hd :=
  { name := if wPath e then [64] else e.name, link := if wLink e then [] else e.link, mode := e.mode, uid := if wUid e then 0 else e.uid, gid := if wGid e then 0 else e.gid, size := 0,
    mtime := if wTime e then 0 else e.sec, ty := tyOf e.kind, user := if wUser e then [] else e.user, group := if wGroup e then [] else e.group, major := 0, minor := 0, form := 0 }
def paxHd : Hd := { Hd.zero with name := [112, 97, 120, 47, 104, 101, 97, 100, 101, 114], mode := 420, ty := 120 }
/-- a header and its data, in whole blocks -/
def laid (h : Hd) (d : List UInt8) : List UInt8 := (make { h with size := d.length }).1 ++ d ++ List.replicate (Plain.pad d.length).toNat 0
def enc (e : En) : List UInt8 := (if prsOf e = [] then [] else laid paxHd (write (prsOf e)).1) ++ laid (hdOf e) e.data
def fitsE (e : En) : Bool := fits e.kind e.name e.link e.mode e.uid e.gid e.user e.group e.sec e.nano e.data.length
def scribe (l : List En) : List UInt8 × Int := if l.all fitsE then (l.flatMap enc ++ List.replicate 1024 0, 0) else ([], 80)
theorem scribe_app (x y : List En) (hx : x.all fitsE = true) (hy : y.all fitsE = true) : (scribe (x ++ y)).1 = ((scribe x).1.take ((scribe x).1.length - 1024)) ++ (scribe y).1 := by
  have h : (x ++ y).all fitsE = true := by rw [List.all_append, hx, hy]; rfl
  unfold scribe
  rw [if_pos h, if_pos hx, if_pos hy]
  simp only [List.flatMap_append, List.length_append, List.length_replicate]
  rw [show (x.flatMap enc).length + 1024 - 1024 = (x.flatMap enc).length by omega, List.take_append_of_le_length (Nat.le_refl _), List.take_length, List.append_assoc]
theorem scribe_app_code (x y : List En) (h : ¬ (x.all fitsE = true ∧ y.all fitsE = true)) : scribe (x ++ y) = ([], 80) := by
  unfold scribe
  rw [if_neg]
  rw [List.all_append, Bool.and_eq_true]
  exact h
end Plain
end Go.Proofs.YtamgiffkhnfpmaaDoor
namespace Go.Proofs.YtamgiffkhnfpmaaDoor
set_option linter.unusedVariables false
set_option linter.unusedSimpArgs false
open Go.ChangeShapes Go.WideShapes Go.ChangeAt Go.RowKit
section
variable {P : Program}
theorem zeroCells_one (m : Nat) : ∀ v ∈ (Builtin.zeroCells (Value.int .u8 0).cells m).toList, v.oneCell' = true := by
  intro v hv
  simp [Builtin.zeroCells, Value.cells] at hv
  obtain ⟨_, _, rfl⟩ := hv
  simp [Value.oneCell', Nat.mod_one]
theorem zeroCells_len (m : Nat) : (Builtin.zeroCells (Value.int .u8 0).cells m).toList.length = m := by simp [Builtin.zeroCells, Value.cells]
theorem run_zeros_free (w : World) (t tn ty e : TypeId) (kn : IntKind) (ht : P.underlying t = some (.slice e)) (htn : P.underlying tn = some (.int kn)) (hi : (P.info? e).map (fun i => (i.zero, i.size, i.bytes)) = some (some (.int .u8 0), 1, 1))
    (B : Nat) (hB : B ≤ w.heap.size) (a : Option Addr) (n c : Nat) (h : Free w B a n c) (m : Nat) (h0 : 0 < m) (hm : m ≤ 1000000) (hb : n + m ≤ 140737488355328) :
    ∃ a' c' w', (Builtin.append_ #[t, tn] ty #[.slice a n c, .int .i64 (m : Int)]).run P w = .ok (.slice a' (n + m) c') w' ∧ Chg B a n w w' := by
  obtain ⟨i, hi, hz0, hz1, hz2⟩ := info_parts hi
  obtain ⟨hn, hc, hf⟩ := h
  have hw : IntKind.i64.wrap (m : Int) = m := by rw [IntKind.wrap_i64]; omega
  have hneg : ¬ ((m : Int) < 0) := by omega
  have h48i : ¬ (281474976710656 < (m : Int)) := by omega
  have hm0 : ¬ m = 0 := by omega
  have hnw : w.grownBy w.drew none := ⟨rfl, rfl, rfl, Nat.le_refl _, fun _ _ _ => rfl⟩
  have hal : ∀ o : Obj, w.grownBy (w.drew.alloc o) none := fun o => ⟨rfl, rfl, rfl, by simp, fun k hk _ => heap_alloc_old w.drew _ hk⟩
  rcases hf with ⟨rfl, rfl⟩ | ⟨g, rfl, hg1, hg2, hfr⟩
  · obtain rfl : n = 0 := by omega
    have hr := Lib.run_append_nil_zeros (P := P) w t tn ty e i (.int .u8 0) .i64 kn ht htn hi hz0 m h0 (by omega) (by omega) (by rw [hz2]; omega)
    rw [Nat.zero_add]
    exact ⟨_, _, _, hr, chg_grown (hal _) hB⟩
  · by_cases hr : n + m ≤ c
    · have hst := run_storeCells_cells (P := P) g n (Builtin.zeroCells (Value.int .u8 0).cells m).toList 0 w (fun j hj => by rw [zeroCells_len] at hj; exact (hfr _ (by omega)).1) (fun j hj => by rw [zeroCells_len] at hj; exact (hfr _ (by omega)).2) (zeroCells_one m)
      simp only [Nat.add_zero] at hst
      have hrun : (Builtin.append_ #[t, tn] ty #[.slice (some ⟨g, 0, none⟩) n c, .int .i64 (m : Int)]).run P w = .ok (.slice (some ⟨g, 0, none⟩) (n + m) c) (w.setCells g n (Builtin.zeroCells (Value.int .u8 0).cells m).toList) := by
        simp [Builtin.append_, run_underlying ht, run_underlying htn, sizeOf, typeInfo, zeroValue, hi, hz0, hz1, hz2, asInt, asIntOf, hw, hneg, h48i, hm0, hr, Addr.add_lit, hst]
      exact ⟨_, _, _, hrun, chg_place hg1 (zeroCells_len m) (fun j hj => (hfr _ (by omega)).1)⟩
    · have hgt : c < n + m := by omega
      have hfit := growslice_fits (bytes := 1) hgt (by omega)
      rw [Nat.mul_one] at hfit
      have h48' : ¬ (281474976710656 < Builtin.nextslicecap (n + m) c) := by omega
      have h63' : ¬ (9223372036854775807 < ((n : Int) + (m : Int))) := by omega
      have hold : ∀ j u, (((List.range n).map fun j => (w.cell? ⟨g, j, none⟩).getD undef))[j]? = some u → w.drew.cell? ((⟨g, 0, none⟩ : Addr).add j) = some u := by
        intro j u hj
        obtain ⟨hjn, he⟩ := List.getElem?_eq_some_iff.1 hj
        simp only [List.length_map, List.length_range] at hjn
        simp only [List.getElem_map, List.getElem_range] at he
        obtain ⟨v, hv⟩ := Option.isSome_iff_exists.1 (hfr j (by omega)).1
        rw [hv] at he
        simp only [Option.getD_some] at he
        rw [Addr.add_lit, Nat.zero_add]
        show w.cell? _ = _
        rw [hv, he]
      have hfo := run_firstCells_some (P := P) w.drew 1 n ⟨g, 0, none⟩ n c ((List.range n).map fun j => (w.cell? ⟨g, j, none⟩).getD undef) (by simp) hold
      generalize ((List.range n).map fun j => (w.cell? ⟨g, j, none⟩).getD undef) = olds at *
      have hrun : (Builtin.append_ #[t, tn] ty #[.slice (some ⟨g, 0, none⟩) n c, .int .i64 (m : Int)]).run P w =
          .ok (.slice (some ⟨w.heap.size, 0, none⟩) (n + m) (grownCap w (n + m) c e)) (w.drew.alloc (.cells (olds.toArray ++ Builtin.zeroCells (Value.int .u8 0).cells m ++ Builtin.zeroCells (Value.int .u8 0).cells (grownCap w (n + m) c e - (n + m))) e)) := by
        simp [Builtin.append_, run_underlying ht, run_underlying htn, sizeOf, typeInfo, zeroValue, hi, hz0, hz1, hz2, asInt, asIntOf, hw, hneg, h48i, h48', h63', hm0, hr, Question.forced, hfo, newRow, grownCap]
      exact ⟨_, _, _, hrun, chg_grown (hal _) hB⟩
end
end Go.Proofs.YtamgiffkhnfpmaaDoor
namespace Go.Proofs.YtamgiffkhnfpmaaDoor
set_option linter.unusedVariables false
set_option linter.unusedSimpArgs false
open Go.ChangeShapes Go.WideShapes Go.ChangeAt Go.RowKit
section
variable {P : Program}
theorem zeroCells_list (m : Nat) : (Builtin.zeroCells (Value.int .u8 0).cells m).toList = List.replicate m (u8v 0) := by
  apply List.ext_getElem?
  intro j
  simp [Builtin.zeroCells, Value.cells, u8v, List.getElem?_replicate]
  try (split <;> simp_all [Nat.mod_one])
/-- the block of a row that was grown: the old one or a new one -/
def OldNew (w : World) (a a' : Option Addr) : Prop := blk? a' = blk? a ∨ ∃ b, blk? a' = some b ∧ w.heap.size ≤ b
theorem run_zeros_own (w : World) (t tn ty e : TypeId) (kn : IntKind) (ht : P.underlying t = some (.slice e)) (htn : P.underlying tn = some (.int kn)) (hi : (P.info? e).map (fun i => (i.zero, i.size, i.bytes)) = some (some (.int .u8 0), 1, 1))
    (base : Nat) (hB : base ≤ w.heap.size) (a : Option Addr) (n c : Nat) (xs : List Value) (h : w.ownsRow base e 1 (.slice a n c) n xs) (m : Nat) (hm : m ≤ 1000000) (hb : n + m ≤ 140737488355328) :
    ∃ a' c' w', (Builtin.append_ #[t, tn] ty #[.slice a n c, .int .i64 (m : Int)]).run P w = .ok (.slice a' (n + m) c') w' ∧ w'.ownsRow base e 1 (.slice a' (n + m) c') (n + m) (xs ++ List.replicate m (u8v 0)) ∧ w.grownBy w' (Value.slice a n c).ownBlock ∧ OldNew w a a' := by
  rcases Nat.eq_zero_or_pos m with rfl | h0
  · obtain ⟨i, hi, hz0, hz1, hz2⟩ := info_parts hi
    refine ⟨a, c, w, ?_, by simpa using h, ⟨rfl, rfl, rfl, Nat.le_refl _, fun _ _ _ => rfl⟩, .inl rfl⟩
    have hnc := (own_free h).1
    have hw0 : IntKind.i64.wrap 0 = 0 := by decide
    rcases (own_free h).2.2 with ⟨rfl, rfl⟩ | ⟨b, rfl, _, _, _⟩
    · obtain rfl : n = 0 := by omega
      simp [Builtin.append_, run_underlying ht, run_underlying htn, sizeOf, typeInfo, zeroValue, hi, hz0, hz1, hz2, asInt, asIntOf, hw0]
    · simp [Builtin.append_, run_underlying ht, run_underlying htn, sizeOf, typeInfo, zeroValue, hi, hz0, hz1, hz2, asInt, asIntOf, hw0, hnc, Builtin.zeroCells, storeCells]
  obtain ⟨i, hi, hz0, hz1, hz2⟩ := info_parts hi
  obtain ⟨hxl, hf⟩ := h
  have hw : IntKind.i64.wrap (m : Int) = m := by rw [IntKind.wrap_i64]; omega
  have hneg : ¬ ((m : Int) < 0) := by omega
  have h48i : ¬ (281474976710656 < (m : Int)) := by omega
  have hm0 : ¬ m = 0 := by omega
  have hal : ∀ (o : Obj) (r : Option Nat), w.grownBy (w.drew.alloc o) r := fun o r => ⟨rfl, rfl, rfl, by simp, fun k hk _ => heap_alloc_old w.drew _ hk⟩
  rcases hf with ⟨hv, rfl⟩ | ⟨g, cap, cur, hv, hg1, hg2, hnc, hcm, hcs, htk⟩
  · simp only [Value.slice.injEq] at hv
    obtain ⟨rfl, _, rfl⟩ := hv
    have hx0 : xs = [] := List.eq_nil_of_length_eq_zero (by omega)
    subst hx0
    have hr := Lib.run_append_nil_zeros (P := P) w t tn ty e i (.int .u8 0) .i64 kn ht htn hi hz0 m h0 (by omega) (by omega) (by rw [hz2]; omega)
    rw [Nat.zero_add]
    refine ⟨_, _, _, hr, ⟨by simp, .inr ⟨w.heap.size, _, _, rfl, hB, heap_alloc_new w.drew _, grownCap_ge _ _ _ _, grownCap_le_maxLen _ _ _ _ (by unfold maxLen; omega), ?_, ?_⟩⟩, hal _ _, .inr ⟨_, rfl, Nat.le_refl _⟩⟩
    · have := grownCap_ge w m 0 e
      have e1 := zeroCells_len m; have e2 := zeroCells_len (grownCap w m 0 e - m)
      rw [Array.length_toList] at e1 e2
      rw [Array.size_append, e1, e2]; omega
    · rw [Array.toList_append, Nat.mul_one, List.take_append_of_le_length (by rw [zeroCells_len]; omega), List.take_of_length_le (by rw [zeroCells_len]; omega), zeroCells_list]
      rfl
  · simp only [Value.slice.injEq] at hv
    obtain ⟨rfl, _, rfl⟩ := hv
    rw [Nat.mul_one] at hcs htk hxl
    have hcell : ∀ k, k < c → (w.cell? ⟨g, k, none⟩).isSome = true ∧ w.frozen? ⟨g, k, none⟩ = false := fun k hk => by
      rw [cell_of_row _ _ _ _ _ _ hg2, Array.getElem?_eq_getElem (by omega)]
      exact ⟨rfl, frozen_of_row _ _ _ _ _ hg2⟩
    by_cases hr : n + m ≤ c
    · have hst := run_storeCells_at (P := P) g n e (Builtin.zeroCells (Value.int .u8 0).cells m).toList 0 cur w hg2 (by rw [zeroCells_len]; omega) (zeroCells_one m)
      rw [zeroCells_len] at hst
      simp only [Nat.add_zero] at hst
      have hrun : (Builtin.append_ #[t, tn] ty #[.slice (some ⟨g, 0, none⟩) n c, .int .i64 (m : Int)]).run P w = .ok (.slice (some ⟨g, 0, none⟩) (n + m) c) (w.setRow g (cur.toList.take n ++ (Builtin.zeroCells (Value.int .u8 0).cells m).toList ++ cur.toList.drop (n + m)).toArray) := by
        simp [Builtin.append_, run_underlying ht, run_underlying htn, sizeOf, typeInfo, zeroValue, hi, hz0, hz1, hz2, asInt, asIntOf, hw, hneg, h48i, hm0, hr, Addr.add_lit, hst]
      refine ⟨_, _, _, hrun, ⟨by simp [hxl], .inr ⟨g, c, _, rfl, hg1, setRow_heap _ _ _ _ _ _ hg2, hr, hcm, ?_, ?_⟩⟩, ⟨rfl, rfl, rfl, by rw [setRow_size]; exact Nat.le_refl _, fun k hk hne => setRow_other _ _ _ _ (fun e => hne (by rw [e]; rfl))⟩, .inl rfl⟩
      · have e1z := zeroCells_len m
        have e2z : min n cur.toList.length = n := by rw [Array.length_toList]; omega
        rw [List.size_toArray, List.length_append, List.length_append, e1z, List.length_take, e2z, List.length_drop, Array.length_toList]
        omega
      · rw [Nat.mul_one]
        have e1 : (cur.toList.take n ++ (Builtin.zeroCells (Value.int .u8 0).cells m).toList).length = n + m := by
          rw [List.length_append, zeroCells_len, List.length_take, Array.length_toList]; omega
        rw [List.take_append_of_le_length (by rw [e1]; exact Nat.le_refl _), List.take_of_length_le (by rw [e1]; exact Nat.le_refl _), htk, zeroCells_list]
    · have hgt : c < n + m := by omega
      have hfit := growslice_fits (bytes := 1) hgt (by omega)
      rw [Nat.mul_one] at hfit
      have h48' : ¬ (281474976710656 < Builtin.nextslicecap (n + m) c) := by omega
      have h63' : ¬ (9223372036854775807 < ((n : Int) + (m : Int))) := by omega
      have hold : ∀ j u, xs[j]? = some u → w.drew.cell? ((⟨g, 0, none⟩ : Addr).add j) = some u := by
        intro j u hj
        rw [Addr.add_lit, Nat.zero_add]
        show w.cell? _ = _
        rw [cell_of_row _ _ _ _ _ _ hg2]
        rw [← htk] at hj
        have hjl := (List.getElem?_eq_some_iff.1 hj).1
        rw [List.length_take] at hjl
        rw [List.getElem?_take, if_pos (by omega)] at hj
        rw [← Array.getElem?_toList]; exact hj
      have hfo := run_firstCells_some (P := P) w.drew 1 n ⟨g, 0, none⟩ n c xs (by omega) hold
      have hrun : (Builtin.append_ #[t, tn] ty #[.slice (some ⟨g, 0, none⟩) n c, .int .i64 (m : Int)]).run P w =
          .ok (.slice (some ⟨w.heap.size, 0, none⟩) (n + m) (grownCap w (n + m) c e)) (w.drew.alloc (.cells (xs.toArray ++ Builtin.zeroCells (Value.int .u8 0).cells m ++ Builtin.zeroCells (Value.int .u8 0).cells (grownCap w (n + m) c e - (n + m))) e)) := by
        simp [Builtin.append_, run_underlying ht, run_underlying htn, sizeOf, typeInfo, zeroValue, hi, hz0, hz1, hz2, asInt, asIntOf, hw, hneg, h48i, h48', h63', hm0, hr, Question.forced, hfo, newRow, grownCap]
      have e1 := zeroCells_len m; have e2 := zeroCells_len (grownCap w (n + m) c e - (n + m))
      rw [Array.length_toList] at e1 e2
      refine ⟨_, _, _, hrun, ⟨by simp [hxl], .inr ⟨w.heap.size, _, _, rfl, hB, heap_alloc_new w.drew _, grownCap_ge _ _ _ _, grownCap_le_maxLen _ _ _ _ (by unfold maxLen; omega), ?_, ?_⟩⟩, hal _ _, .inr ⟨_, rfl, Nat.le_refl _⟩⟩
      · have := grownCap_ge w (n + m) c e
        rw [Array.size_append, Array.size_append, e1, e2, List.size_toArray, hxl]; omega
      · rw [Array.toList_append, Array.toList_append, Nat.mul_one, List.take_append_of_le_length (by rw [List.length_append, zeroCells_len]; simp [hxl]), List.take_of_length_le (by rw [List.length_append, zeroCells_len]; simp [hxl]), zeroCells_list]
/-- append(x, y...) of bytes, y nil or not -/
theorem run_app_bs (w : World) (t ty e : TypeId) (ht : P.underlying t = some (.slice e)) (hi : (P.info? e).map (fun i => (i.zero, i.size, i.bytes)) = some (some (.int .u8 0), 1, 1))
    (base : Nat) (hB : base ≤ w.heap.size) (a : Option Addr) (n c : Nat) (xs : List Value) (h : w.ownsRow base e 1 (.slice a n c) n xs) (ad : Option Addr) (m cd : Nat) (l : List UInt8) (hd : Bs w ad m cd l) (hb : n + m ≤ 140737488355328) :
    ∃ a' c' w', (Builtin.append_ #[t, t] ty #[.slice a n c, .slice ad m cd]).run P w = .ok (.slice a' (n + m) c') w' ∧ w'.ownsRow base e 1 (.slice a' (n + m) c') (n + m) (xs ++ l.map u8v) ∧ w.grownBy w' (Value.slice a n c).ownBlock ∧ OldNew w a a' := by
  have hi0 := hi
  obtain ⟨i, hi, hz0, hz1, hz2⟩ := info_parts hi
  have hml := hd.len
  cases ad with
  | none =>
    obtain ⟨rfl, rfl⟩ := hd.2.2.2.2 rfl
    have hl : l = [] := List.eq_nil_of_length_eq_zero hml
    subst hl
    refine ⟨a, c, w, ?_, by simpa using h, ⟨rfl, rfl, rfl, Nat.le_refl _, fun _ _ _ => rfl⟩, .inl rfl⟩
    exact run_append_owned_none (P := P) w base t ty e i 1 ht hi _ n xs h
  | some x =>
    have hnews : ∀ j v, (l.map u8v)[j]? = some v → w.cell? (x.add j) = some v := fun j v hj => by
      obtain ⟨y, hy, hc⟩ := hd.2.2.2.1 j v hj
      cases hy
      exact hc
    obtain ⟨v', w', hr, ho, hg, _⟩ := run_append_own (P := P) w base t ty e i (.int .u8 0) 1 1 ht hi hz0 hz1 hz2 rfl (by decide) (.slice a n c) n xs h x m cd (l.map u8v) (by rw [List.length_map, hml, Nat.mul_one]) hnews (bytes_oneCell l) (by unfold maxLen; omega) (by omega) hB
    obtain ⟨a2, c2, w2, hr2, _, _, hon⟩ := run_app_free (P := P) w t ty e ht hi0 base hB a n c (own_free h) x m cd (l.map u8v) (by rw [List.length_map, hml]) hnews (bytes_oneCell l) hb
    obtain ⟨a', c', rfl⟩ := own_slice ho
    rw [hr] at hr2
    simp only [Result.ok.injEq, Value.slice.injEq] at hr2
    obtain ⟨⟨rfl, _, _⟩, _⟩ := hr2
    exact ⟨a', c', w', hr, ho, hg, hon⟩
end
end Go.Proofs.YtamgiffkhnfpmaaDoor
namespace Go.Proofs.YtamgiffkhnfpmaaDoor
set_option linter.unusedVariables false
set_option linter.unusedSimpArgs false
open Go.ChangeShapes Go.WideShapes Go.ChangeAt Go.RowKit
def hFT (F : Int) (T : UInt8) : Hd := { Hd.zero with form := F, ty := T }
/-- x[lo:hi] of an array of bytes in memory, as the run has it -/
theorem run_slice_arr {P : Program} (t : TypeId) {e : TypeId} {n : Nat} (ht : P.underlying t = some (.array n e)) (hsz : (P.info? e).map (·.size) = some 1) (g : Nat) (lo hi : Option Int) (L M : Nat)
    (hL : match lo with | some p => p = (L : Int) | none => L = 0) (hM : match hi with | some p => p = (M : Int) | none => M = n) (h1 : L ≤ M) (h2 : M ≤ n) (h3 : L < n) (w : World) :
    (Instr.sliceAt t (.pointer (some ⟨g, 0, none⟩)) (lo.map (Value.int .i64)) (hi.map (Value.int .i64)) none).run P w = .ok (.slice (some ⟨g, L, none⟩) (M - L) (n - L)) w := by
  obtain ⟨i, hi', hs'⟩ := Option.map_eq_some_iff.1 hsz
  have hne : ¬ n = L := by omega
  have e1 : (L : Int) ≤ M := by omega
  have e2 : (M : Int) ≤ n := by omega
  have e3 : (L : Int) ≤ n := by omega
  have f3 : L ≤ n := by omega
  have ha : (Addr.add ⟨g, 0, none⟩ L) = (⟨g, L, none⟩ : Addr) := by rw [Addr.add_lit, Nat.zero_add]
  cases lo <;> cases hi <;> simp only at hL hM
  all_goals first | subst hL | skip
  all_goals first | subst hM | skip
  all_goals simp [Instr.sliceAt, Instr.sureAddr, Instr.sliceBounds, Instr.sliceBound, run_underlying ht, sizeOf, typeInfo, hi', hs', asIntOf, hne, Result.andThen, *]
end Go.Proofs.YtamgiffkhnfpmaaDoor
namespace Go.Proofs.YtamgiffkhnfpmaaDoor
set_option linter.unusedVariables false
set_option linter.unusedSimpArgs false
open Go.ChangeShapes Go.WideShapes Go.ChangeAt Go.RowKit
/-- two rows of bytes in the blocks behind w's last one -/
structure Two (w : World) (t : TypeId) (x y : List UInt8) (wr : World) : Prop where
  bel : Below w.heap.size w wr
  r0 : wr.heap[w.heap.size]? = some (.cells (rowA x) t (0, 0))
  r1 : wr.heap[w.heap.size + 1]? = some (.cells (rowA y) t (0, 0))
theorem Two.new (w : World) (t : TypeId) (x y : List UInt8) : Two w t x y ((w.alloc (.cells (rowA x) t)).alloc (.cells (rowA y) t)) :=
  ⟨((Below.refl _ _).alloc (Nat.le_refl _) _).alloc (by simp) _, heap_alloc2_old _ _ _, heap_alloc2_new _ _ _⟩
theorem Two.keep {w wr w' : World} {t : TypeId} {x y : List UInt8} (h : Two w t x y wr) (k : Below wr.heap.size wr w') : Two w t x y w' := by
  refine ⟨Below.seq h.bel k, ?_, ?_⟩
  · rw [k.block _ (Array.getElem?_eq_some_iff.1 h.r0).1]; exact h.r0
  · rw [k.block _ (Array.getElem?_eq_some_iff.1 h.r1).1]; exact h.r1
theorem Two.set {w wr : World} {t : TypeId} {x y : List UInt8} (h : Two w t x y wr) (k : Nat) (b : UInt8) : Two w t (x.set k b) y (wr.setCell ⟨w.heap.size, k, none⟩ (.int .u8 (b.toNat : Int))) := by
  refine ⟨h.bel.setCell (by simp) _, ?_, ?_⟩
  · rw [heap_setCell_same _ _ _ _ _ _ h.r0, show (Value.int .u8 (b.toNat : Int)) = u8v b from rfl, rowA_set]
  · rw [heap_setCell_other _ _ _ _ (by simp)]; exact h.r1
theorem Two.setv {w wr : World} {t : TypeId} {x y : List UInt8} (h : Two w t x y wr) (k : Nat) (b : UInt8) (v : Int) (hv : (b.toNat : Int) = v) : Two w t (x.set k b) y (wr.setCell ⟨w.heap.size, k, none⟩ (.int .u8 v)) := by
  rw [← hv]; exact h.set k b
theorem Two.row {w wr : World} {t : TypeId} {x y : List UInt8} (h : Two w t x y wr) (z : List UInt8) : Two w t z y (wr.setRow w.heap.size (rowA z)) := by
  refine ⟨Below.setRow h.bel (Nat.le_refl _) _, setRow_heap _ _ _ _ _ _ h.r0, ?_⟩
  rw [setRow_other _ _ _ _ (by omega)]; exact h.r1
theorem Two.cell {w wr : World} {t : TypeId} {x y : List UInt8} (h : Two w t x y wr) (k : Nat) (hk : k < x.length) : wr.cell? ⟨w.heap.size, k, none⟩ = some (.int .u8 ((x.getD k 0).toNat : Int)) := by
  rw [cell_of_row _ _ _ _ _ _ h.r0, rowA_at _ _ hk]
theorem Two.froz {w wr : World} {t : TypeId} {x y : List UInt8} (h : Two w t x y wr) (k : Nat) : wr.frozen? ⟨w.heap.size, k, none⟩ = false := frozen_of_row _ _ _ _ _ h.r0
section
variable {P : Program} {ops : Array Oper} {rest : List Oper} {o : Oper} {a : Act} {w : World} {Q : Exit → Act → World → Prop}
/-- copy(x[off:], m) into a row of bytes; m is not empty -/
theorem wpList_copy_row (hgd : o.guard = none) (d s : Operand) (dT sT : TypeId) (ho : o.op = .call { callee := .builtin .copy, args := #[d, s], argTypes := #[dT, sT] }) (elem : TypeId) (hu : P.underlying dT = some (.slice elem)) (hsz : (P.info? elem).map (·.size) = some 1)
    (g off dLen dCap : Nat) (hd : a.eval d = .slice (some ⟨g, off, none⟩) dLen dCap) {sp : Option Addr} {n c : Nat} (hs : a.eval s = .slice sp n c) (l m : List UInt8) {t : TypeId} (hg : w.heap[g]? = some (.cells (rowA l) t (0, 0))) (hm : Bs w sp n c m) (h0 : 0 < n) (hn : n ≤ dLen) (hfit : off + n ≤ l.length)
    (h : wpList P ops Q rest (a.put o.dst (goInt n)) (w.setRow g (rowA (l.take off ++ m ++ l.drop (off + n))))) : wpList P ops Q (o :: rest) a w := by
  obtain rfl := hm.len
  cases sp with
  | none => have := (hm.2.2.2.2 rfl).1; omega
  | some ad =>
    refine wpList_copy_own hgd d s dT sT ho elem hu hsz g off dLen dCap ad m.length c hd hs (rowA l) t hg (m.map u8v) (by rw [List.length_map]; exact (Nat.min_eq_left hn).symm) (fun j v hj => ?_) (by rw [List.length_map, rowA_size]; exact hfit) (bytes_oneCell m) ?_
    · obtain ⟨x, hx, hc⟩ := hm.2.2.2.1 j v hj
      cases hx
      exact hc
    · rw [List.length_map]
      have e : ((rowA l).toList.take off ++ (m.map u8v ++ (rowA l).toList.drop (off + m.length))).toArray = rowA (l.take off ++ m ++ l.drop (off + m.length)) := by
        simp [rowA, List.map_append, List.map_take, List.map_drop]
      rw [e]
      exact h
end
theorem seal_copied (l : List UInt8) (hl : l.length = 512) (m : List UInt8) (hm : m.length = 7) : (l.take 148 ++ m ++ l.drop (148 + 7)).set 155 32 = l.take 148 ++ (m ++ [32]) ++ l.drop 156 := by
  have h1 : (l.take 148 ++ m).length = 155 := by rw [List.length_append, List.length_take]; omega
  rw [show 148 + 7 = 155 by rfl, List.set_append_right _ _ (by omega), h1, Nat.sub_self, List.drop_eq_getElem_cons (show 155 < l.length by omega), List.set_cons_zero]
  simp
theorem zblk_len512 : zblk.length = 512 := zblk_len
set_option maxRecDepth 100000 in
set_option maxHeartbeats 1600000 in
theorem Seal_any (l : List UInt8) (hl : l.length = 512) (w : World) (hT : Bru w) :
    Calls Tryd.prog 35 #[.agg (rowA l)] w fun e w' => e = .returned (.agg (rowA (Plain.seal l))) ∧ Below w.heap.size w w' := by
  have HR := Lib.hid (Two.new w 45 l zblk)
  have HS := Lib.hid (fun w => Sums_any l hl w)
  have HI := Lib.hid (sizeBlk l hl); have HZ := Lib.hid zeroBlk
  have hsl := seal_len l hl
  have HI2 := Lib.hid (sizeBlk (Plain.seal l) hsl); have HO2 := Lib.hid (rowA_one (Plain.seal l))
  have hsz2 : Hid ((rowA zblk).size = (rowA (Plain.seal l)).size) := by show _ = _; rw [rowA_size, rowA_size, zblk_len, hsl]
  have hub := sum_uby_bd l hl
  have hse : Plain.seal l = l.take 148 ++ ((octRow (Plain.sum uby l).toNat 6 ++ [0]) ++ [32]) ++ l.drop 156 := by unfold Plain.seal; simp
  have hfl : (octRow (Plain.sum uby l).toNat 6 ++ [0]).length = 7 := by rw [List.length_append]; unfold octRow; rw [placeRow_len]; rfl
  have hcop := seal_copied l hl (octRow (Plain.sum uby l).toNat 6 ++ [0]) hfl
  rw [← hse] at hcop
  have hput : Plain.putOctal (Plain.sum uby l) 7 = (octRow (Plain.sum uby l).toNat 6 ++ [0], 0) := by
    have h8 : (8 : Nat) ^ 6 = 262144 := rfl
    unfold Plain.putOctal
    rw [if_neg (by omega), if_neg (by omega), show (7 : Int).toNat - 1 = 6 by rfl, if_pos (by omega)]
  have HP := Lib.hid (fun w h => PutOctal_any (Plain.sum uby l) 7 w h (by omega) (by omega) (by decide) (by decide))
  rw [hput] at HP
  generalize octRow (Plain.sum uby l).toNat 6 ++ [0] = m at *
  generalize Plain.sum uby l = U at *
  generalize Plain.sum sby l = V at *
  generalize Plain.seal l = s at *
  have HT := Lib.hid hT; have HC := Lib.hid hcop; have HFL := Lib.hid hfl; have HL := Lib.hid hl
  clear hT hcop hput hse hub hsl hl
  go_enter Tryd.func35, Tryd.ntmps35
  go_upto_region 1 with (first
    | (with_reducible refine wpList_box_agg rfl _ _ rfl (rowA l) rfl ?_)
    | (with_reducible refine wpList_alloc_z rfl _ rfl (rowA zblk) HZ.out ?_))
  have hR := HR.out
  generalize hw0 : (w.alloc (.cells (rowA l) 45)).alloc (.cells (rowA zblk) 45) = wa at *
  clear hw0
  have HRR := Lib.hid hR
  have H0 := Lib.hid hR.r0
  clear hR HR
  go_wp2_with (first
    | (with_reducible refine wpList_load_row rfl _ _ rfl w.heap.size rfl 45 (rowA l) (0, 0) _ H0.out Tryd.underlying45 rfl HI.out ?_)
    | (go_at_call 25; (with_reducible refine (HS.out _).mono ?_); rintro e w1 ⟨rfl, hb1⟩; have HR1 := Lib.hid (HRR.out.keep hb1); clear hb1)
    | (go_at_call 8; (refine (HP.out w1 (by exact HT.out.below HR1.out.bel)).mono ?_); rintro e w2 ⟨a2, n2, c2, rfl, hs2, hb2⟩; have HR2 := Lib.hid (HR1.out.keep hb2); have HS2 := Lib.hid hs2; have HN2 := Lib.hid (hs2.len.symm.trans HFL.out); clear hs2 hb2)
    | (with_reducible refine wpList_slice_row rfl _ _ _ _ rfl Tryd.underlying45 (by kernel_rfl) w.heap.size rfl 148 512 .i64 .i64 rfl rfl (by decide) (by decide) (by decide) ?_)
    | ((with_reducible refine wpList_copy_row rfl _ _ 23 23 rfl 5 Tryd.underlying23 (by kernel_rfl) w.heap.size 148 _ _ rfl rfl l m HR2.out.r0 HS2.out (by rw [HN2.out]; decide) (by rw [HN2.out]; decide) (by rw [HN2.out, HL.out]; decide) ?_); rw [HN2.out]; have hR3 := HR2.out.row (l.take 148 ++ m ++ l.drop (148 + 7)); generalize w2.setRow w.heap.size (rowA (l.take 148 ++ m ++ l.drop (148 + 7))) = w3 at *; have hl3 : (l.take 148 ++ m ++ l.drop (148 + 7)).length = 512 := (by rw [List.length_append, List.length_append, List.length_take, List.length_drop, HFL.out, HL.out]; decide); have hc3 := hR3.cell 155 (by rw [hl3]; decide); have hz3 := hR3.froz 155; have hR4 := hR3.setv 155 32 32 rfl; rw [HC.out] at hR4; have HR4 := Lib.hid hR4; have H4 := Lib.hid hR4.r0; have H5 := Lib.hid hR4.r1; clear hR3 hR4 hl3)
    | (with_reducible refine wpList_load_row rfl _ _ rfl w.heap.size rfl 45 (rowA s) (0, 0) _ H4.out Tryd.underlying45 rfl HI2.out ?_)
    | (with_reducible refine wpList_store_row rfl 45 _ _ rfl (w.heap.size + 1) rfl (rowA s) rfl (rowA zblk) 45 H5.out hsz2.out HI2.out HO2.out ?_))
  refine bodyPost_ret (results_cell_row rfl _ _ (w.heap.size + 1) 45 (rowA s) (0, 0) _ rfl (setRow_heap _ _ _ _ _ _ H5.out) Tryd.underlying45 rfl HI2.out) rfl ⟨rfl, Below.setRow HR4.out.bel (by omega) _⟩
/-- the digits are laid from the last one -/
def laidTo (l : List UInt8) (u k : Nat) : List UInt8 := l.take (154 - k) ++ octRow u k ++ l.drop 154
theorem laidTo_zero (l : List UInt8) (u : Nat) : laidTo l u 0 = l := by
  unfold laidTo octRow; rw [placeRow_zero, List.append_nil, Nat.sub_zero, List.take_append_drop]
theorem laidTo_len (l : List UInt8) (u k : Nat) (hl : l.length = 512) (hk : k ≤ 6) : (laidTo l u k).length = 512 := by
  unfold laidTo octRow; rw [List.length_append, List.length_append, placeRow_len, List.length_take, List.length_drop]; omega
theorem laidTo_set (l : List UInt8) (u k : Nat) (hl : l.length = 512) (hk : k < 6) : (laidTo l u k).set (153 - k) (octDig u k) = laidTo l u (k + 1) := by
  unfold laidTo octRow
  have e : 154 - k = (153 - k) + 1 := by omega
  rw [e, List.take_succ_eq_append_getElem (by omega), placeRow_succ, List.append_assoc, List.append_assoc, List.append_assoc, List.set_append_right _ _ (by rw [List.length_take]; omega), List.length_take, show 153 - k - min (153 - k) l.length = 0 by omega, show 154 - (k + 1) = 153 - k by omega]
  simp
theorem laidTo_end (l : List UInt8) (hl : l.length = 512) : ((laidTo l (Plain.sum uby l).toNat 6).set 154 0).set 155 32 = Plain.seal l := by
  unfold laidTo Plain.seal
  have h1 : (l.take (154 - 6) ++ octRow (Plain.sum uby l).toNat 6).length = 154 := by rw [List.length_append]; unfold octRow; rw [placeRow_len, List.length_take]; omega
  rw [List.set_append_right _ _ (by omega), h1, Nat.sub_self, List.drop_eq_getElem_cons (show 154 < l.length by omega), List.set_cons_zero, List.set_append_right _ _ (by omega), h1, show 155 - 154 = 0 + 1 by rfl, List.set_cons_succ, List.drop_eq_getElem_cons (show 154 + 1 < l.length by omega), List.set_cons_zero]
  simp
end Go.Proofs.YtamgiffkhnfpmaaDoor
namespace Go.Proofs.YtamgiffkhnfpmaaDoor
set_option linter.unusedVariables false
set_option linter.unusedSimpArgs false
open Go.ChangeShapes Go.WideShapes Go.ChangeAt Go.RowKit
theorem infoU8a : (Tryd.prog.info? 5).map (fun i => (i.zero, i.size, i.bytes)) = some (some (.int .u8 0), 1, 1) := by kernel_rfl
theorem putRes_row {w w' : World} {l : List UInt8} {n : Nat} (h : RowAt w 5 l w') (hn : l.length = n) (h64 : n ≤ 64) : PutResF w (l, 0) (.returned (.tuple #[.slice (some ⟨w.heap.size, 0, none⟩) n n, .int .i64 0])) w' := by
  subst hn
  refine ⟨_, _, _, rfl, h.bs (by unfold maxLen; omega), h.bel, Nat.le_refl _, by unfold maxLen; omega, .inr ⟨_, rfl, Nat.le_refl _, (Array.getElem?_eq_some_iff.1 h.row).1, fun k hk => ⟨?_, h.froz k⟩⟩⟩
  rw [h.cell k hk]; rfl
theorem u64div (u k : Nat) : u / 8 ^ k / 8 = u / 8 ^ (k + 1) := by rw [Nat.pow_succ, ← Nat.div_div_eq_div_mul]
set_option maxRecDepth 100000 in
set_option maxHeartbeats 1600000 in
theorem RefPutOctal_any (v n : Int) (w : World) (v0 : -9223372036854775808 ≤ v) (v1 : v ≤ 9223372036854775807) (n0 : -9223372036854775808 ≤ n) (n1 : n ≤ 9223372036854775807) :
    Calls Tryd.prog 11 #[.int .i64 v, .int .i64 n] w (PutRes w (Plain.putOctal v n)) := by
  by_cases h : n < 2 ∨ 64 < n
  · have e : Plain.putOctal v n = ([], 12) := if_pos h
    rw [e]; clear e
    rcases h with h | h
    all_goals
      go_enter Tryd.func11, Tryd.ntmps11
      go_wp2
      all_goals
        go_ret2
        exact PutRes.nil _ (Below.refl _ _)
  · by_cases hneg : v < 0
    · have e : Plain.putOctal v n = ([], 11) := by unfold Plain.putOctal; rw [if_neg h, if_pos hneg]
      rw [e]; clear e
      have h2 : ¬ n < 2 := by omega
      have h64 : ¬ 64 < n := by omega
      clear h
      go_enter Tryd.func11, Tryd.ntmps11
      go_wp2
      go_ret2
      exact PutRes.nil _ (Below.refl _ _)
    · obtain ⟨u, rfl⟩ := Int.eq_ofNat_of_zero_le (by omega : 0 ≤ v)
      obtain ⟨m, rfl⟩ := Int.eq_ofNat_of_zero_le (by omega : 0 ≤ n)
      have hm2 : 2 ≤ m := by omega
      have hm64 : m ≤ 64 := by omega
      have e : Plain.putOctal u m = if u < 8 ^ (m - 1) then (octRow u (m - 1) ++ [0], 0) else ([], 11) := by
        unfold Plain.putOctal; rw [if_neg h, if_neg hneg]; rfl
      generalize Plain.putOctal u m = r at *
      have HE := Lib.hid e
      have hr0 : RowAt w 5 (fillRow 0 (octDig u) (m - 1) 0 [0]) (w.alloc (.cells (rowA (List.replicate m 0)) 5)) := by
        rw [fillRow_zero, show List.replicate (m - 1) (0 : UInt8) ++ [0] = List.replicate m 0 by rw [← List.replicate_succ', show m - 1 + 1 = m by omega]]
        exact RowAt.new w _ _
      have HR0 := Lib.hid hr0
      clear e h hr0
      generalize hz : List.replicate m (0 : UInt8) = z at HR0
      have HZ := Lib.hid hz; clear hz
      go_enter Tryd.func11, Tryd.ntmps11
      go_wp2_with (at_make; (with_reducible refine wpList_make_bytes rfl _ _ _ rfl Tryd.underlying23 infoU8a m rfl rfl (by omega) ?_); rw [HZ.out])
      go_loopw [0, 7] (fun x i wr => ∃ k : Nat, k ≤ m - 1 ∧ x = .int .i64 ((u / 8 ^ k : Nat) : Int) ∧ i = .int .i64 ((m : Int) - 2 - k) ∧ RowAt w 5 (fillRow 0 (octDig u) (m - 1) k [0]) wr) (fun _ i _ => (intOf i + 1).toNat)
      case atStart => exact ⟨0, by omega, by rw [Nat.pow_zero, Nat.div_one], by go_num, HR0.out⟩
      case round =>
        obtain ⟨k, hk, rfl, rfl, hD⟩ := hrel
        by_cases hlt : k < m - 1
        · have hnext := u64div u k
          have hdig := octDig_val u k
          have hset := fillRow_set 0 (octDig u) (m - 1) k [0] hlt
          have hle : u / 8 ^ k ≤ u := Nat.div_le_self _ _
          obtain ⟨j, hj⟩ : ∃ j : Nat, (m : Int) - 2 - k = (j : Int) := ⟨m - 2 - k, by omega⟩
          have hjk : m - 1 - 1 - k = j := by omega
          have hD2 := hD.set j (octDig u k)
          rw [← hjk, hset, hjk] at hD2
          have hcell := hD.cell j (by rw [fillRow_len _ _ _ _ _ (by omega)]; simp; omega)
          have hfz := hD.froz j
          have hjm : (j : Int) < m := by omega
          generalize hU : u / 8 ^ (k + 1) = U' at *
          generalize u / 8 ^ k = U at *
          generalize octDig u k = B at *
          have hval : 48 + (U : Int) % 8 = (B.toNat : Int) := by omega
          have HN := Lib.hid hnext; have HD2 := Lib.hid hD2; have HU := Lib.hid hU
          clear hU hnext hdig hset hD hD2
          go_wp2
          exact ⟨⟨k + 1, by omega, by rw [HU.out, ← HN.out]; go_num, by go_num, HD2.out⟩, by simp [intOf]; omega⟩
        · obtain rfl : k = m - 1 := by omega
          have hi : (m : Int) - 2 - ((m - 1 : Nat) : Int) < 0 := by omega
          have he := HE.out
          have hfull := fillRow_full 0 (octDig u) (m - 1) [0]
          rw [hfull] at hD
          have hl : (placeRow (octDig u) (m - 1) ++ [0]).length = m := by rw [List.length_append, placeRow_len]; simp; omega
          have hdz : u / 8 ^ (m - 1) = 0 ↔ u < 8 ^ (m - 1) := by
            rw [Nat.div_eq_zero_iff]
            have : 8 ^ (m - 1) ≠ 0 := Nat.pos_iff_ne_zero.1 (Nat.pow_pos (by decide))
            omega
          have HD := Lib.hid hD; have HLL := Lib.hid hl; have HB := Lib.hid hD.bel
          clear hfull hl hD
          by_cases hlt2 : u < 8 ^ (m - 1)
          · rw [if_pos hlt2] at he
            subst he
            rw [hdz.2 hlt2]
            clear hdz hlt2 hlt hk
            go_wp2
            go_ret2
            exact (putRes_row HD.out HLL.out hm64).res
          · rw [if_neg hlt2] at he
            subst he
            have hne : (((u / 8 ^ (m - 1) : Nat) : Int) != 0) = true := by
              rw [bne_iff_ne]; intro h; exact hlt2 (hdz.1 (by omega))
            generalize u / 8 ^ (m - 1) = U at *
            clear hdz hlt2 hlt hk
            go_wp2
            go_ret2
            exact PutRes.nil _ HB.out
end Go.Proofs.YtamgiffkhnfpmaaDoor
