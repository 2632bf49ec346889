/-
  J10: RefFits, LawFits, Ents, ScrWrite, ArgsEnts, Rowm, EntCopy, LawScr, ScrPlain, LawScrP, DoorBru, joined.
-/
import Derived.Test.YtamgiffkhnfpmaaDoorJ05
import Derived.Test.YtamgiffkhnfpmaaDoorJ02
import Derived.Deep.RegionWith
import Derived.Test.YtamgiffkhnfpmaaDoorJ09
import Derived.Deep.MidRow
import Derived.Test.YtamgiffkhnfpmaaDoorScrEntry
import Derived.Test.YtamgiffkhnfpmaaDoorJ01
import Derived.StillTailTactics
import Derived.Test.YtamgiffkhnfpmaaDoorJ04
namespace Go.Proofs.YtamgiffkhnfpmaaDoor
set_option linter.unusedVariables false
set_option linter.unusedSimpArgs false
open Go.ChangeShapes Go.WideShapes Go.ChangeAt Go.RowKit
namespace Plain
theorem suffix_last (l : List UInt8) (h : 0 < l.length) : Lib.hasSuffix l [47] = (l.getD (l.length - 1) 0 == 47) := by
  rw [Bool.eq_iff_iff]
  unfold Lib.hasSuffix
  rw [List.isSuffixOf_iff_suffix, beq_iff_eq]
  have hne : l ≠ [] := List.length_pos_iff.1 h
  have e : l.getD (l.length - 1) 0 = l.getLast hne := by
    rw [List.getLast_eq_getElem]; simp [List.getD, List.getElem?_eq_getElem (show l.length - 1 < l.length by omega)]
  rw [e]
  constructor
  · rintro ⟨m, rfl⟩; simp
  · intro hl; exact ⟨l.dropLast, by rw [← hl]; exact List.dropLast_concat_getLast hne⟩
variable {k : Int} {T1 T2 T3 T4 T5 T6 r : Bool} {link : List UInt8} {mode uid gid : Int} {n : Nat}
def C1 (k : Int) (T1 T2 T3 : Bool) : Prop := 1 ≤ k ∧ k ≤ 4 ∧ T1 = true ∧ T2 = true ∧ T3 = true
def C2 (k : Int) (T6 : Bool) (n : Nat) : Prop := (k = 1 → T6 = false) ∧ (k ≠ 1 → n = 0)
theorem ref_1 (hr : Hid (fitB k T1 T2 T3 T4 T5 T6 link mode uid gid n = r)) (h : (k < 1 ∨ 4 < k) ∨ ¬ T1 = true ∨ ¬ T2 = true) : false = r :=
  fit_no hr fun hf => by
    obtain ⟨h1, ⟨h2, h3, _⟩, _⟩ := fitB_true.1 hf
    rcases h with h | h | h
    · omega
    · exact h h2
    · exact h h3
theorem ref_3 (hr : Hid (fitB k T1 T2 T3 T4 T5 T6 link mode uid gid n = r)) (h : (k < 1 ∨ 4 < k) ∨ (!T3) = true) : false = r :=
  fit_no hr fun hf => by
    obtain ⟨h1, ⟨_, _, h3⟩, _⟩ := fitB_true.1 hf
    rcases h with h | h
    · omega
    · rw [h3] at h; cases h
theorem ref_c1 (h1 : T1 = true) (h2 : T2 = true) (h3 : (1 ≤ k ∧ k ≤ 4) ∧ (!T3) = false) : C1 k T1 T2 T3 := ⟨h3.1.1, h3.1.2, h1, h2, by simpa using h3.2⟩
theorem ref_b (hr : Hid (fitB k T1 T2 T3 T4 T5 T6 link mode uid gid n = r)) (h : (k != 1) = true ∧ 0 < n) : false = r :=
  fit_no hr fun hf => by have := (fitB_true.1 hf).2.2.2.1 (by simpa using h.1); omega
theorem ref_c2 (hk : ¬ k = 1) (h : (k != 1) = false ∨ ¬ 0 < n) : C2 k T6 n := ⟨fun h => absurd h hk, fun _ => by rcases h with h | h; simp at h; exact absurd h hk; omega⟩
theorem ref_4 (hr : Hid (fitB k T1 T2 T3 T4 T5 T6 link mode uid gid n = r)) (h : 3 ≤ k) (h4 : ¬ T4 = true) : false = r :=
  fit_no hr fun hf => h4 ((fitB_true.1 hf).2.2.2.2.1 h)
theorem ref_l (hr : Hid (fitB k T1 T2 T3 T4 T5 T6 link mode uid gid n = r)) (h : k < 3) (h4 : (!link.isEmpty) = true) : false = r :=
  fit_no hr fun hf => by have := (fitB_true.1 hf).2.2.2.2.2.1 h; rw [this] at h4; cases h4
theorem ref_own (hr : Hid (fitB k T1 T2 T3 T4 T5 T6 link mode uid gid n = r)) (h : uid < 0 ∨ 2147483647 < uid ∨ gid < 0 ∨ 2147483647 < gid) : false = r :=
  fit_no hr fun hf => by
    have := (fitB_true.1 hf).2.2.2.2.2.2.2.1
    simp only [own, Bool.and_eq_true, decide_eq_true_eq] at this
    omega
theorem ref_z (hr : Hid (fitB k T1 T2 T3 T4 T5 T6 link mode uid gid n = r)) (h1 : C1 k T1 T2 T3) (h2 : C2 k T6 n) (h3 : LinkOk k T4 link) (m1 : 0 ≤ mode) (m2 : mode ≤ 4095) (o1 : 0 ≤ uid) (o2 : uid ≤ 2147483647) (o3 : 0 ≤ gid) (o4 : gid ≤ 2147483647) : T5 = r :=
  fit_z (L := decide (3 ≤ k)) hr ⟨h1.1, h1.2.1, h2.1, h2.2, rfl⟩ h3 h1.2.2.1 h1.2.2.2 m1 m2 (O := true) (by show _ = _; simp [own, o1, o2, o3, o4]) rfl
end Plain
end Go.Proofs.YtamgiffkhnfpmaaDoor
namespace Go.Proofs.YtamgiffkhnfpmaaDoor
set_option linter.unusedVariables false
set_option linter.unusedSimpArgs false
open Go.ChangeShapes Go.WideShapes Go.ChangeAt Go.RowKit
/-- what CopyEntry hands back: the entry, its data in new memory -/
def NewEnt (w : World) (k : Int) (name link : List UInt8) (mode uid gid : Int) (user group : List UInt8) (sec nano : Int) (x : List UInt8) (e : Ending) (w' : World) : Prop :=
  ∃ a n c, e = .returned (entV k name link mode uid gid user group sec nano a n c) ∧ w'.ownsRow w.heap.size 5 1 (.slice a n c) n (x.map u8v) ∧ Below w.heap.size w w'
set_option maxHeartbeats 1000000 in
theorem CopyEntry_any (k : Int) (name link : List UInt8) (mode uid gid : Int) (user group : List UInt8) (sec nano : Int) (a : Option Addr) (n c : Nat) (x : List UInt8) (w : World) (h : Bs w a n c x) (hn : n ≤ 140737488355328) :
    Calls Tryd.prog 31 #[entV k name link mode uid gid user group sec nano a n c] w (NewEnt w k name link mode uid gid user group sec nano x) := by
  go_enter Tryd.func31, Tryd.ntmps31
  go_wp2_with fail
  refine (CopyBytes_any _ _ _ x _ (by exact Keeps.bs (Keeps.trans (Keeps.alloc w _) (Keeps.alloc _ _)) h) hn).mono ?_; rintro e w1 ⟨a1, n1, c1, rfl, ho1, hb1⟩
  have hz : w.heap.size + 1 < w1.heap.size := by have := hb1.size; simp at this; omega
  have hs11 : ∀ v : Value, ((#[.int .i64 k, .string ⟨name.toArray⟩, .string ⟨link.toArray⟩, .int .i64 mode, .int .i64 uid, .int .i64 gid, .string ⟨user.toArray⟩, .string ⟨group.toArray⟩, .int .i64 sec, .int .i64 nano, .slice a n c] : Array Value).setIfInBounds 10 v) =
    #[.int .i64 k, .string ⟨name.toArray⟩, .string ⟨link.toArray⟩, .int .i64 mode, .int .i64 uid, .int .i64 gid, .string ⟨user.toArray⟩, .string ⟨group.toArray⟩, .int .i64 sec, .int .i64 nano, v] := fun v => rfl
  have r0 : w1.heap[w.heap.size]? = some (.cells #[.int .i64 k, .string ⟨name.toArray⟩, .string ⟨link.toArray⟩, .int .i64 mode, .int .i64 uid, .int .i64 gid, .string ⟨user.toArray⟩, .string ⟨group.toArray⟩, .int .i64 sec, .int .i64 nano, .slice a n c] 39 (0, 0)) := by rw [hb1.block _ (by simp <;> omega), heap_alloc2_old]
  have r1 := heap_setCell_same w1 w.heap.size 10 _ 39 (.slice a1 n1 c1) r0
  rw [hs11] at r1
  obtain ⟨z, hz1, hz2⟩ : ∃ z : Array Value, w1.heap[w.heap.size + 1]? = some (.cells z 39 (0, 0)) ∧ z.size = 11 := ⟨_, by rw [hb1.block _ (by simp), heap_alloc2_new], rfl⟩
  have r2 : (w1.setCell ⟨w.heap.size, 10, none⟩ (.slice a1 n1 c1)).heap[w.heap.size + 1]? = some (.cells z 39 (0, 0)) := by rw [heap_setCell_other _ _ _ _ (by simp), hz1]
  have hc10 : w1.cell? ⟨w.heap.size, 10, none⟩ = some (.slice a n c) := by rw [cell_of_row _ _ _ _ _ _ r0]; rfl
  have hf10 : w1.frozen? ⟨w.heap.size, 10, none⟩ = false := frozen_of_row _ _ _ _ _ r0
  have hone : ∀ u ∈ (#[.int .i64 k, .string ⟨name.toArray⟩, .string ⟨link.toArray⟩, .int .i64 mode, .int .i64 uid, .int .i64 gid, .string ⟨user.toArray⟩, .string ⟨group.toArray⟩, .int .i64 sec, .int .i64 nano, .slice a1 n1 c1] : Array Value).toList, u.oneCell' = true := by simp [Value.oneCell']
  have R1 := Lib.hid r1; have R2 := Lib.hid r2; have HO := Lib.hid hone; have HZ2 := Lib.hid hz2
  clear r0 r1 r2 hs11 hz1 hone hz2
  go_wp2_with (first | (with_reducible refine wpList_load_row rfl 39 _ rfl w.heap.size rfl 39 _ (0, 0) _ R1.out Tryd.underlying39 rfl (by kernel_rfl) ?_) | ((with_reducible refine wpList_store_row rfl 39 _ _ rfl (w.heap.size + 1) rfl _ rfl z 39 R2.out ?_ (by kernel_rfl) HO.out ?_); · exact HZ2.out))
  refine bodyPost_ret (results_cell_row rfl _ _ (w.heap.size + 1) 39 _ (0, 0) _ rfl (setRow_heap _ _ _ _ _ _ R2.out) Tryd.underlying39 rfl (by kernel_rfl)) rfl ⟨a1, n1, c1, rfl, ?_, ?_⟩
  · refine own_base (own_keep ho1 (fun k h1 h2 => ?_)) (by simp <;> omega)
    rw [setRow_other _ _ _ _ (by simp at h1; omega), heap_setCell_other _ _ _ _ (by simp at h1 ⊢; omega)]
  · exact Below.setRow ((Below.trans (((Below.refl _ _).alloc (Nat.le_refl _) _).alloc (by simp) _) (hb1.mono (by simp <;> omega))).setCell (by simp) _) (by omega) _
end Go.Proofs.YtamgiffkhnfpmaaDoor
namespace Go.Proofs.YtamgiffkhnfpmaaDoor
set_option linter.unusedVariables false
set_option linter.unusedSimpArgs false
open Go.ChangeShapes Go.WideShapes Go.ChangeAt Go.RowKit
/-- an entry with the slice that holds its data -/
abbrev EnS := En × (Option Addr × Nat × Nat)
def enV (x : EnS) : Array Value := enC x.1 x.2.1 x.2.2.1 x.2.2.2
def enCells (x : EnS) : List Value := (enV x).toList
theorem enCells_len (x : EnS) : (enCells x).length = 11 := rfl
/-- a slice of entries -/
structure Ens (w : World) (a : Option Addr) (n c : Nat) (S : List EnS) : Prop where
  sl : IsSl w 11 a n c (S.flatMap enCells)
  dat : ∀ x ∈ S, Bs w x.2.1 x.2.2.1 x.2.2.2 x.1.data
theorem Ens.keep {w w' : World} {a : Option Addr} {n c : Nat} {S : List EnS} (h : Ens w a n c S) (k : Keeps w w') : Ens w' a n c S := ⟨k.sl h.sl, fun x hx => k.bs (h.dat x hx)⟩
theorem Ens.below {w w' : World} {a : Option Addr} {n c : Nat} {S : List EnS} (h : Ens w a n c S) (k : Below w.heap.size w w') : Ens w' a n c S := h.keep (Below.keeps k)
theorem Ens.len {w : World} {a : Option Addr} {n c : Nat} {S : List EnS} (h : Ens w a n c S) : S.length = n := by have := h.sl.1; rw [flat_len enCells_len] at this; omega
theorem Ens.cap {w : World} {a : Option Addr} {n c : Nat} {S : List EnS} (h : Ens w a n c S) : n ≤ c := h.sl.2.1
theorem Ens.max {w : World} {a : Option Addr} {n c : Nat} {S : List EnS} (h : Ens w a n c S) : c ≤ 9223372036854775807 := h.sl.2.2.1
def En.zero : En := ⟨0, [], [], 0, 0, 0, [], [], 0, 0, []⟩
def enD : EnS := (En.zero, (none, 0, 0))
theorem Ens.at {w : World} {a : Option Addr} {n c : Nat} {S : List EnS} (h : Ens w a n c S) (k : Nat) (hk : k < n) : ∃ b off, a = some ⟨b, off, none⟩ ∧ w.rangeAt b (off + k * 11) (enCells (S.getD k enD)) := by
  have hl := h.len
  have hk' : k < S.length := by omega
  have e : S.getD k enD = S[k] := by simp [List.getD, List.getElem?_eq_getElem hk']
  rw [e]
  have h0 := flat_at enCells_len S k 0 hk' (by omega)
  obtain ⟨b, off, ha, _⟩ := h.sl.2.2.2.1.at _ ((enCells S[k])[0]'(by rw [enCells_len]; omega)) (by rw [h0]; exact List.getElem?_eq_getElem (by rw [enCells_len]; omega))
  refine ⟨b, off, ha, fun j v hj => ?_⟩
  have hj11 : j < 11 := by have := (List.getElem?_eq_some_iff.1 hj).1; rw [enCells_len] at this; exact this
  have hj' := flat_at enCells_len S k j hk' hj11
  obtain ⟨b', off', ha', hc⟩ := h.sl.2.2.2.1.at _ v (by rw [hj']; exact hj)
  rw [ha] at ha'
  simp only [Option.some.injEq, Addr.mk.injEq, and_true] at ha'
  obtain ⟨rfl, rfl⟩ := ha'
  rw [Nat.add_assoc]
  exact hc
theorem Ens.dat_at {w : World} {a : Option Addr} {n c : Nat} {S : List EnS} (h : Ens w a n c S) (k : Nat) (hk : k < n) : Bs w (S.getD k enD).2.1 (S.getD k enD).2.2.1 (S.getD k enD).2.2.2 (S.getD k enD).1.data := by
  have hk' : k < S.length := by have := h.len; omega
  have e : S.getD k enD = S[k] := by simp [List.getD, List.getElem?_eq_getElem hk']
  rw [e]
  exact h.dat _ (List.getElem_mem hk')
theorem en_one (S : List EnS) : ∀ u ∈ S.flatMap enCells, u.oneCell' = true := by
  intro u hu
  obtain ⟨x, _, hx⟩ := List.mem_flatMap.1 hu
  simp only [enCells, enV, enC, List.mem_cons, List.not_mem_nil, or_false] at hx
  rcases hx with rfl | rfl | rfl | rfl | rfl | rfl | rfl | rfl | rfl | rfl | rfl <;> rfl
def enZ : Array Value := #[.int .i64 0, .string ⟨#[]⟩, .string ⟨#[]⟩, .int .i64 0, .int .i64 0, .int .i64 0, .string ⟨#[]⟩, .string ⟨#[]⟩, .int .i64 0, .int .i64 0, .slice none 0 0]
theorem infoEntry : (Tryd.prog.info? 39).map (fun i => (i.zero, i.size, i.bytes)) = some (some (.agg enZ), 11, 136) := by kernel_rfl
theorem sizeEntry (x : EnS) : (Tryd.prog.info? 39).map (·.size) = some (enCells x).length := by rw [enCells_len]; kernel_rfl
section
variable {P : Program}
/-- an aggregate loaded out of the midst of a row -/
theorem wpList_load_midA {ops : Array Oper} {rest : List Oper} {op : Oper} {a : Act} {w : World} {Q : Exit → Act → World → Prop} (hgd : op.guard = none) (ty : TypeId) (x : Operand) (ho : op.op = .load ty x)
    (b o : Nat) (hx : a.eval x = .pointer (some ⟨b, o, none⟩)) (cs : Array Value) (d : TypeDesc) (hc : w.rangeAt b o cs.toList)
    (hu : P.underlying ty = some d) (hd : d.isRow = true) (hi : (P.info? ty).map (·.size) = some cs.toList.length)
    (h : wpList P ops Q rest (a.put op.dst (.agg cs)) w) : wpList P ops Q (op :: rest) a w :=
  wpList_load_mid hgd ty x ho b o hx cs.toList d hc hu hd hi (by rw [Array.toArray_toList]; exact h)
end
/-- data in memory of their own, each block behind the one before -/
def Own1 (w : World) (B : Nat) (x : EnS) : Prop := w.ownsRow B 5 1 (.slice x.2.1 x.2.2.1 x.2.2.2) x.2.2.1 (x.1.data.map u8v)
/-- entries copied: new memory, the data's blocks rising -/
structure NewEn (w0 : World) (B : Nat) (L : List En) (a : Option Addr) (n c : Nat) (S : List EnS) (w : World) : Prop where
  bel : Below B w0 w
  own : w.ownsRow B 39 11 (.slice a n c) n (S.flatMap enCells)
  map : S.map (·.1) = L
  dat : ∀ x ∈ S, Own1 w B x
  rise : S.Pairwise fun x y => ∀ b b', (x.2.1.map (·.block)) = some b → (y.2.1.map (·.block)) = some b' → b < b'
theorem NewEn.ens {w0 w : World} {B : Nat} {L : List En} {a : Option Addr} {n c : Nat} {S : List EnS} (h : NewEn w0 B L a n c S w) : Ens w a n c S :=
  ⟨own_isSl h.own, fun x hx => own_isSl (h.dat x hx)⟩
end Go.Proofs.YtamgiffkhnfpmaaDoor
namespace Go.Proofs.YtamgiffkhnfpmaaDoor
set_option linter.unusedVariables false
set_option linter.unusedSimpArgs false
open Go.ChangeShapes Go.WideShapes Go.ChangeAt Go.RowKit
theorem FitsEn_any (x : EnS) (w : World) (hl : x.1.name.length ≤ 140737488351232) (hd : x.1.data.length = x.2.2.1) :
    Calls Tryd.prog 20 #[.agg (enV x)] w fun e w' => e = .returned (.bool (Plain.fitsE x.1)) ∧ Below w.heap.size w w' := by
  have := Fits_any x.1.kind x.1.name x.1.link x.1.mode x.1.uid x.1.gid x.1.user x.1.group x.1.sec x.1.nano x.2.1 x.2.2.1 x.2.2.2 w hl
  unfold Plain.fitsE
  rw [hd]
  exact this
/-- what is written so far is bounded -/
theorem enc_len (e : En) (h : EnFit e) (hd : e.data.length ≤ 1000000000) : (Plain.enc e).length ≤ e.data.length + 1100000 := by
  have l1 := laid_len (Plain.hdOf e) (hdOf_in e h) e.data (by omega)
  have l2 := write_le (Plain.prsOf e)
  have l3 := laid_len Plain.paxHd paxHd_in (Plain.write (Plain.prsOf e)).1 (by omega)
  unfold Plain.enc
  rw [List.length_append]
  split
  · simp; omega
  · omega
theorem encs_len (L : List En) (hf : ∀ e ∈ L, EnFit e) (hd : ∀ e ∈ L, e.data.length ≤ 1048576) : (L.flatMap Plain.enc).length ≤ L.length * 2200000 := by
  induction L with
  | nil => simp
  | cons e L ih =>
    have h1 := enc_len e (hf e (by simp)) (by have := hd e (by simp); omega)
    have h2 := ih (fun x hx => hf x (by simp [hx])) (fun x hx => hd x (by simp [hx]))
    have h3 := hd e (by simp)
    rw [List.flatMap_cons, List.length_append, List.length_cons, Nat.add_mul]
    omega
theorem fitAll_step (L : List En) (k : Nat) (h : k < L.length) (ih : (L.take k).all Plain.fitsE = true) (hk : Plain.fitsE L[k] = true) : (L.take (k + 1)).all Plain.fitsE = true := by
  rw [List.take_succ_eq_append_getElem h, List.all_append, ih]
  simp [hk]
theorem fitAll_no (L : List En) (k : Nat) (h : k < L.length) (hk : Plain.fitsE L[k] = false) : L.all Plain.fitsE = false := by
  rw [List.all_eq_false]
  exact ⟨L[k], List.getElem_mem h, by simp [hk]⟩
/-- bounds on what is handed in -/
structure Small (L : List En) : Prop where
  count : L.length ≤ 2097152
  name : ∀ e ∈ L, e.name.length ≤ 1048576
  link : ∀ e ∈ L, e.link.length ≤ 1048576
  user : ∀ e ∈ L, e.user.length ≤ 1048576
  group : ∀ e ∈ L, e.group.length ≤ 1048576
  data : ∀ e ∈ L, e.data.length ≤ 1048576
/-- what Write hands back -/
def ScrRes (w : World) (r : List UInt8 × Int) (e : Ending) (w' : World) : Prop :=
  ∃ a n c, e = .returned (.tuple #[.slice a n c, .int .i64 r.2]) ∧ w'.ownsRow w.heap.size 5 1 (.slice a n c) n (r.1.map u8v) ∧ Below w.heap.size w w'
theorem Kp.below {g B : Nat} {a : Option Addr} {w w1 w' : World} (k : Kp g a w1 w') (hb : Below B w w1) (hB : B ≤ w1.heap.size) (hg : B ≤ g) (ha : ∀ b, blk? a = some b → B ≤ b) : Below B w w' :=
  hb.trans ⟨k.os, k.tape, k.output, k.size, fun j hj => k.block j (by omega) (by omega) (fun q => by have := ha j q.symm; omega)⟩
theorem Sheet.blk {g : Nat} {a : Option Addr} {n c : Nat} {out : List UInt8} {w : World} (h : Sheet g a n c out w) (b : Nat) (hb : blk? a = some b) : g + 1 ≤ b ∧ b < w.heap.size := h.own.lt b (by rw [← hb]; cases a <;> rfl)
theorem Sheet.nlen {g : Nat} {a : Option Addr} {n c : Nat} {out : List UInt8} {w : World} (h : Sheet g a n c out w) : out.length = n := by have := h.own.1; simpa using this
theorem infoEnZ : ((Tryd.prog.info? 39).bind (·.zero)) = some (Value.agg enZ) := by kernel_rfl
theorem infoEnS (x : EnS) : (Tryd.prog.info? 39).map (·.size) = some (enV x).size := by show _ = some 11; kernel_rfl
theorem enZ_size (x : EnS) : enZ.size = (enV x).size := rfl
theorem enV_one (x : EnS) : ∀ u ∈ (enV x).toList, u.oneCell' = true := by
  have := en_one [x]
  simpa [enCells] using this
set_option maxRecDepth 100000 in
set_option maxHeartbeats 3200000 in
theorem ScrWrite_any (a : Option Addr) (n c : Nat) (S : List EnS) (w : World) (hT : Bru w) (hP : Pow10 w) (h : Ens w a n c S) (hs : Small (S.map (·.1))) :
    Calls Tryd.prog 17 #[.slice a n c] w (ScrRes w (Plain.scribe (S.map (·.1)))) := by
  have hl := h.len; have hcap := h.cap; have hmax := h.max
  have hn20 : n ≤ 2097152 := by have := hs.count; simpa [hl] using this
  generalize hL : S.map (·.1) = L at *
  have hLl : L.length = n := by rw [← hL, List.length_map, hl]
  have hLk : ∀ k (hk : k < L.length), (S.getD k enD).1 = L[k] := fun k hk => by
    subst hL
    have : k < S.length := by simpa using hk
    simp [List.getD, List.getElem?_eq_getElem this]
  have HS := Lib.hid hs; have HL := Lib.hid hl; have HH := Lib.hid h; have HT := Lib.hid hT; have HP := Lib.hid hP; have HLL := Lib.hid hLl; have HLK := Lib.hid hLk
  have hnm : ∀ k, k < n → (S.getD k enD).1.name.length ≤ 140737488351232 := fun k hk => by
    have hk' : k < L.length := by rw [hLl]; exact hk
    rw [hLk k hk']; have := hs.name _ (List.getElem_mem hk'); omega
  have HNM := Lib.hid hnm
  have hz0 := infoEntry
  clear hs hl h hT hP hLl hLk hL hnm
  go_enter Tryd.func17, Tryd.ntmps17
  go_upto_region 2 with fail
  go_loopw [11] (fun i wr => ∃ k : Nat, k ≤ n ∧ i = .int .i64 k ∧ Hid ((L.take k).all Plain.fitsE = true) ∧ Hid (Below w.heap.size w wr)) (fun i _ => n - (intOf i).toNat)
  case atStart => exact ⟨0, Nat.zero_le _, rfl, Lib.hid rfl, Lib.hid (Below.refl _ _)⟩
  case round =>
    obtain ⟨k, hk, rfl, hall, hbel⟩ := hrel
    by_cases hlt : k < n
    · skip
      obtain ⟨b, off, rfl, hr⟩ := (HH.out.below hbel.out).at k hlt
      have hdk := (HH.out.below hbel.out).dat_at k hlt
      have hk' : k < L.length := by rw [HLL.out]; exact hlt
      have hke := HLK.out k hk'
      have hnmk := HNM.out k hlt
      generalize S.getD k enD = x at *
      have HR := Lib.hid hr
      have HEZ := Lib.hid infoEnZ; have HEB := Lib.hid (enZ_size x); have HEI := Lib.hid (infoEnS x); have HEO := Lib.hid (enV_one x)
      have hb1 := hbel.out.trans ((Below.refl w.heap.size wr).alloc hbel.out.size (.cells (enV x) 39))
      have HB1 := Lib.hid hb1
      have hfx := FitsEn_any x (wr.alloc (.cells (enV x) 39)) hnmk hdk.len
      rw [hke] at hfx
      clear hb1 hr hdk hnmk
      cases hf : Plain.fitsE L[k] with
      | true =>
        rw [hf] at hfx
        have HFX := Lib.hid hfx; have HF := Lib.hid hf
        clear hfx hf
        go_wp2_with (first
        | (refine wpList_load_midA rfl _ _ rfl b (off + k * 11) rfl (enV x) _ (by exact HR.out) Tryd.underlying39 rfl (by exact sizeEntry x) ?_)
        | (with_reducible refine wpList_alloc_z rfl _ rfl enZ HEZ.out ?_)
        | (with_reducible refine wpList_store_new rfl _ _ _ rfl _ rfl (enV x) rfl rfl HEB.out HEI.out HEO.out ?_)
        | (with_reducible refine wpList_load_row rfl _ _ rfl wr.heap.size rfl 39 (enV x) (0, 0) _ (heap_alloc_new wr _) Tryd.underlying39 rfl HEI.out ?_)
        | (go_at_call 20; (refine HFX.out.mono ?_); rintro r w3 ⟨rfl, hb3⟩))
        exact ⟨⟨k + 1, by omega, by go_num, Lib.hid (fitAll_step L k hk' hall.out HF.out), Lib.hid (HB1.out.trans (hb3.mono HB1.out.size))⟩, by simp [intOf]; omega⟩
      | false =>
        rw [hf] at hfx
        have HFX := Lib.hid hfx
        have hno : Plain.scribe L = ([], 80) := by unfold Plain.scribe; rw [if_neg (by rw [fitAll_no L k hk' hf]; decide)]
        have HNO := Lib.hid hno
        clear hfx hf hno
        go_wp2_with (first
        | (refine wpList_load_midA rfl _ _ rfl b (off + k * 11) rfl (enV x) _ (by exact HR.out) Tryd.underlying39 rfl (by exact sizeEntry x) ?_)
        | (with_reducible refine wpList_alloc_z rfl _ rfl enZ HEZ.out ?_)
        | (with_reducible refine wpList_store_new rfl _ _ _ rfl _ rfl (enV x) rfl rfl HEB.out HEI.out HEO.out ?_)
        | (with_reducible refine wpList_load_row rfl _ _ rfl wr.heap.size rfl 39 (enV x) (0, 0) _ (heap_alloc_new wr _) Tryd.underlying39 rfl HEI.out ?_)
        | (go_at_call 20; (refine HFX.out.mono ?_); rintro r w3 ⟨rfl, hb3⟩))
        go_ret2
        rw [HNO.out]
        exact ⟨none, 0, 0, rfl, World.ownsRow_nil _ _ _ _, HB1.out.trans (hb3.mono HB1.out.size)⟩
    · obtain rfl : k = n := by omega
      have hAll : L.all Plain.fitsE = true := by have := hall.out; rwa [List.take_of_length_le (by rw [HLL.out]; exact Nat.le_refl _)] at this
      have HALL := Lib.hid hAll
      have hw : Plain.scribe L = (L.flatMap Plain.enc ++ List.replicate 1024 0, 0) := by unfold Plain.scribe; rw [if_pos hAll]
      have HW := Lib.hid hw
      clear hAll hw
      go_upto_region 8 with fail
      have HSH : Hid (Sheet wr.heap.size none 0 0 [] (wr.alloc (.cells #[.slice none 0 0] 60))) := Lib.hid ⟨heap_alloc_new wr _, World.ownsRow_nil _ _ _ _⟩
      have HBS := Lib.hid (hbel.out.trans ((Below.refl w.heap.size wr).alloc hbel.out.size (.cells #[.slice none 0 0] 60)))
      have HG : Hid (w.heap.size ≤ wr.heap.size) := Lib.hid hbel.out.size
      generalize wr.alloc (.cells #[.slice none 0 0] 60) = ws at *
      generalize wr.heap.size = g at *
      clear hbel hall
      go_upto_region 9 with fail
      go_loopw [21] (fun i wr => ∃ (j : Nat) (a1 : Option Addr) (n1 c1 : Nat), j ≤ k ∧ i = .int .i64 j ∧ Hid (Sheet g a1 n1 c1 ((L.take j).flatMap Plain.enc) wr) ∧ Hid (Below w.heap.size w wr)) (fun i _ => k - (intOf i).toNat)
      case atStart => exact ⟨0, none, 0, 0, Nat.zero_le _, rfl, by simpa using HSH, HBS⟩
      case round =>
        obtain ⟨j, a1, n1, c1, hj, rfl, hsh, hbel⟩ := hrel
        by_cases hlt : j < k
        · skip
          obtain ⟨b, off, rfl, hr⟩ := (HH.out.below hbel.out).at j hlt
          have hdk := fun wx hx => (HH.out.below (w' := wx) hx).dat_at j hlt
          have hj' : j < L.length := by rw [HLL.out]; exact hlt
          have hje := HLK.out j hj'
          generalize S.getD j enD = x at *
          have HR := Lib.hid hr
          have HEZ := Lib.hid infoEnZ; have HEB := Lib.hid (enZ_size x); have HEI := Lib.hid (infoEnS x); have HEO := Lib.hid (enV_one x)
          have hb1 := hbel.out.trans ((Below.refl w.heap.size wr).alloc hbel.out.size (.cells (enV x) 39))
          have hs1 := hsh.out.keep ((Below.refl _ _).alloc (Nat.le_refl _) (.cells (enV x) 39))
          have hfit : EnFit x.1 := by rw [hje]; exact fit_of (List.all_eq_true.1 HALL.out _ (List.getElem_mem hj'))
          have hgl := HG.out
          have hkb : ∀ w', Kp g a1 (wr.alloc (.cells (enV x) 39)) w' → Below w.heap.size w w' := fun w' kp => kp.below hb1 hb1.size hgl (fun b hb => by have := (hs1.blk b hb).1; omega)
          have hlen : ((L.take j).flatMap Plain.enc).length ≤ 4613734400000 := by
            have h1 := encs_len (L.take j) (fun e he => fit_of (List.all_eq_true.1 HALL.out _ (List.mem_of_mem_take he))) (fun e he => HS.out.data _ (List.mem_of_mem_take he))
            have h2 : (L.take j).length ≤ 2097152 := by rw [List.length_take]; omega
            exact Nat.le_trans h1 (Nat.le_trans (Nat.mul_le_mul_right _ h2) (by decide))
          have hdl : x.2.2.1 ≤ 1048576 := by
            have h1 := (hdk _ hbel.out).len
            have h2 := HS.out.data _ (List.getElem_mem hj')
            rw [← hje] at h2; omega
          have HEN := Lib.hid (Entry_any x.1 hfit g a1 n1 c1 _ x.2.1 x.2.2.1 x.2.2.2 (wr.alloc (.cells (enV x) 39)) (fun w' kp => HT.out.below (hkb w' kp)) (HP.out.below hb1) hs1 (fun w' kp => hdk w' (hkb w' kp)) (by have := hs1.nlen; omega))
          have hst : (L.take (j + 1)).flatMap Plain.enc = (L.take j).flatMap Plain.enc ++ Plain.enc x.1 := by
            rw [List.take_succ_eq_append_getElem hj', List.flatMap_append, hje]; simp
          have HST := Lib.hid hst; have HKB := Lib.hid hkb
          clear hb1 hs1 hr hdk hst hkb hfit hlen hdl
          go_wp2_with (first
            | (refine wpList_load_midA rfl _ _ rfl b (off + j * 11) rfl (enV x) _ (by exact HR.out) Tryd.underlying39 rfl (by exact sizeEntry x) ?_)
            | (with_reducible refine wpList_alloc_z rfl _ rfl enZ HEZ.out ?_)
            | (with_reducible refine wpList_store_new rfl _ _ _ rfl _ rfl (enV x) rfl rfl HEB.out HEI.out HEO.out ?_)
            | (with_reducible refine wpList_load_row rfl _ _ rfl wr.heap.size rfl 39 (enV x) (0, 0) _ (heap_alloc_new wr _) Tryd.underlying39 rfl HEI.out ?_)
            | (go_at_call 30; (refine HEN.out.mono ?_); rintro r w3 ⟨rfl, a2, n2, c2, hs3, hk3, ho3⟩))
          exact ⟨⟨j + 1, a2, n2, c2, by omega, by go_num, by rw [HST.out]; exact Lib.hid hs3, Lib.hid (HKB.out w3 hk3)⟩, by simp [intOf]; omega⟩
        · obtain rfl : j = k := by omega
          have hsh1 := hsh.out
          rw [List.take_of_length_le (by rw [HLL.out]; exact Nat.le_refl _)] at hsh1
          have hlen : (L.flatMap Plain.enc).length ≤ 4613734400000 := by
            have h1 := encs_len L (fun e he => fit_of (List.all_eq_true.1 HALL.out _ he)) HS.out.data
            exact Nat.le_trans h1 (Nat.le_trans (Nat.mul_le_mul_right _ HS.out.count) (by decide))
          have hcg := hsh1.cell
          obtain ⟨a2, c2, w4, hrun, hown, hgr, hon⟩ := run_zeros_own (P := Tryd.prog) wr 23 3 23 5 .i64 Tryd.underlying23 Tryd.underlying3 infoU8 (g + 1) hsh1.lt a1 n1 c1 _ hsh1.own 1024 (by omega) (by have := hsh1.nlen; omega)
          rw [show ((1024 : Nat) : Int) = 1024 from rfl] at hrun
          have HRUN := Lib.hid hrun; have HOWN := Lib.hid hown; have HGR := Lib.hid hgr; have HSH1 := Lib.hid hsh1
          clear hrun hown hgr hon
          go_wp2_with (at_builtin; refine Lib.wpList_append_run wr rfl _ _ _ _ rfl _ _ rfl rfl _ _ HRUN.out ?_)
          go_ret2
          rw [HW.out]
          refine ⟨a2, n1 + 1024, c2, rfl, ?_, hbel.out.grown HGR.out hbel.out.size (fun b hb => ?_)⟩
          · have := own_base HOWN.out (base' := w.heap.size) (by have := HG.out; omega)
            rwa [List.map_append, List.map_replicate]
          · have := (HSH1.out.own.lt b hb).1; have := HG.out; omega
end Go.Proofs.YtamgiffkhnfpmaaDoor
namespace Go.Proofs.YtamgiffkhnfpmaaDoor
set_option linter.unusedVariables false
set_option linter.unusedSimpArgs false
set_option maxRecDepth 100000
open Go.ChangeShapes Go.WideShapes Go.ChangeAt Go.RowKit
variable {H : Type} {enc : TypeId × Value → H} {w : World}
theorem bulk_mem : ∀ {l : List (DataW H)} {d : DataW H}, d ∈ l → Rows.uptoBulk d ≤ Rows.uptoBulkAll l
  | x :: r, d, h => by
    simp only [Rows.uptoBulkAll]
    rcases List.mem_cons.1 h with rfl | h
    · omega
    · have := bulk_mem h; omega
theorem upto_str {P : Program} {t : TypeId} {fuel : Nat} {cs : List Value} {d : DataW H} {p : List MemPlace} (ht : P.underlying t = some .string) (h : DataW.trod enc P w 0 (fun _ => true) true fuel t cs = some (d, p)) (hs : Rows.uptoBulk d ≤ 1048576) :
    ∃ l : List UInt8, cs = [.string ⟨l.toArray⟩] ∧ l.length ≤ 1048576 := by
  obtain ⟨s, rfl, hx, _⟩ := DataW.trod_string ht h
  simp only [Prod.mk.injEq] at hx
  obtain ⟨rfl, rfl⟩ := hx
  refine ⟨s.data.toList, rfl, ?_⟩
  simp only [Rows.uptoBulk] at hs
  omega
theorem upto_int {P : Program} {t : TypeId} {fuel : Nat} {cs : List Value} {d : DataW H} {p : List MemPlace} (ht : P.underlying t = some (.int .i64)) (h : DataW.trod enc P w 0 (fun _ => true) true fuel t cs = some (d, p)) :
    ∃ z, cs = [.int .i64 z] := by
  obtain ⟨z, rfl, _, hz⟩ := DataW.trod_int ht h
  exact ⟨z, rfl⟩
theorem upto_bytes {P : Program} {t e : TypeId} {fuel : Nat} {cs : List Value} {d : DataW H} {p : List MemPlace} (ht : P.underlying t = some (.slice e)) (he : P.underlying e = some (.int .u8)) (hc : P.cellsOf e = 1)
    (h : DataW.trod enc P w 0 (fun _ => true) true fuel t cs = some (d, p)) (hs : Rows.uptoBulk d ≤ 1048576) : ∃ a n c l, cs = [.slice a n c] ∧ Bs w a n c l ∧ c ≤ 1048576 := by
  rcases open_ints ht he hc h with ⟨hcs, _⟩ | ⟨x, l, c', zs, hcs, _, hl, hm, hz, hx, hcell, hwz⟩
  · exact ⟨none, 0, 0, [], hcs, ⟨rfl, Nat.le_refl _, by decide, fun j v hj => by simp at hj, fun _ => ⟨rfl, rfl⟩⟩, by omega⟩
  · simp only [if_true] at hz
    simp only [Prod.mk.injEq] at hx
    obtain ⟨rfl, rfl⟩ := hx
    have hreach : c' ≤ 1048576 := by
      simp only [Rows.uptoBulk] at hs
      have h1 := bulk_len (lits (H := H) IntKind.u8 (zs.take l))
      have h2 := bulk_len (lits (H := H) IntKind.u8 (zs.drop l))
      simp only [lits, List.length_map, List.length_take, List.length_drop] at h1 h2
      simp only [lits] at hs
      omega
    refine ⟨some x, l, c', (zs.take l).map toU8, hcs, ⟨by simp; omega, hl, hm, fun j v hj => ⟨x, rfl, ?_⟩, fun h => by cases h⟩, hreach⟩
    simp only [List.map_map, List.getElem?_map, Option.map_eq_some_iff, List.getElem?_take] at hj
    obtain ⟨z, hzj, rfl⟩ := hj
    split at hzj
    · have hjl : j < zs.length := (List.getElem?_eq_some_iff.1 hzj).1
      have hmem : z ∈ zs := List.mem_of_getElem? hzj
      obtain ⟨w0, w1⟩ := wf_u8 (hwz z hmem)
      have := hcell j hjl
      simp only [List.getD, hzj, Option.getD_some] at this
      simp only [Function.comp, u8v_toU8 w0 w1]
      exact this
    · cases hzj
/-- what is known of an entry that was read -/
structure EnOk (w : World) (x : EnS) : Prop where
  dat : Bs w x.2.1 x.2.2.1 x.2.2.2 x.1.data
  cap : x.2.2.2 ≤ 1048576
  name : x.1.name.length ≤ 1048576
  link : x.1.link.length ≤ 1048576
  user : x.1.user.length ≤ 1048576
  group : x.1.group.length ≤ 1048576
theorem upto_entry {fuel : Nat} {cs : List Value} {d : DataW H} {p : List MemPlace} (h : DataW.trod enc Tryd.prog w 0 (fun _ => true) true fuel 39 cs = some (d, p)) (hs : Rows.uptoBulk d ≤ 1048576) :
    ∃ x : EnS, cs = enCells x ∧ EnOk w x := by
  obtain ⟨ys, n, _, hx, hlen, hyl, hf⟩ := DataW.trod_struct Tryd.underlying39 h
  simp only [Prod.mk.injEq] at hx
  obtain ⟨rfl, rfl⟩ := hx
  have hc : Tryd.prog.cellsOf 39 = 11 := by kernel_rfl
  have hcs : Tryd.prog.cellsOf 9 = 1 := by kernel_rfl
  have hci : Tryd.prog.cellsOf 3 = 1 := by kernel_rfl
  have hcb : Tryd.prog.cellsOf 23 = 1 := by kernel_rfl
  have hct : Tryd.prog.cellsOf 37 = 2 := by kernel_rfl
  rw [hc] at hlen
  have hs' : ∀ y ∈ ys, Rows.uptoBulk y.1 ≤ 1048576 := fun y hy => by
    have h1 := bulk_mem (List.mem_map.2 ⟨y, hy, rfl⟩ : y.1 ∈ ys.map (·.1))
    simp only [Rows.uptoBulk] at hs
    omega
  match cs, hlen, ys, hyl, hf, hs' with
  | [c0, c1, c2, c3, c4, c5, c6, c7, c8, c9, c10], _, [y0, y1, y2, y3, y4, y5, y6, y7, y8, y9], _, hf, hs' =>
    have h0 : DataW.trod enc Tryd.prog w 0 (fun _ => true) true n 3 [c0] = some y0 := by have := hf 0 _ rfl; simpa [hci] using this
    have h1 : DataW.trod enc Tryd.prog w 0 (fun _ => true) true n 9 [c1] = some y1 := by have := hf 1 _ rfl; simpa [hcs] using this
    have h2 : DataW.trod enc Tryd.prog w 0 (fun _ => true) true n 9 [c2] = some y2 := by have := hf 2 _ rfl; simpa [hcs] using this
    have h3 : DataW.trod enc Tryd.prog w 0 (fun _ => true) true n 3 [c3] = some y3 := by have := hf 3 _ rfl; simpa [hci] using this
    have h4 : DataW.trod enc Tryd.prog w 0 (fun _ => true) true n 3 [c4] = some y4 := by have := hf 4 _ rfl; simpa [hci] using this
    have h5 : DataW.trod enc Tryd.prog w 0 (fun _ => true) true n 3 [c5] = some y5 := by have := hf 5 _ rfl; simpa [hci] using this
    have h6 : DataW.trod enc Tryd.prog w 0 (fun _ => true) true n 9 [c6] = some y6 := by have := hf 6 _ rfl; simpa [hcs] using this
    have h7 : DataW.trod enc Tryd.prog w 0 (fun _ => true) true n 9 [c7] = some y7 := by have := hf 7 _ rfl; simpa [hcs] using this
    have h8 : DataW.trod enc Tryd.prog w 0 (fun _ => true) true n 37 [c8, c9] = some y8 := by have := hf 8 _ rfl; simpa [hct] using this
    have h9 : DataW.trod enc Tryd.prog w 0 (fun _ => true) true n 23 [c10] = some y9 := by have := hf 9 _ rfl; simpa [hcb] using this
    obtain ⟨zs, n', _, hx, _, hzl, hg⟩ := DataW.trod_struct Tryd.underlying37 h8
    match zs, hzl, hg with
    | [z0, z1], _, hg =>
      have g0 : DataW.trod enc Tryd.prog w 0 (fun _ => true) true n' 3 [c8] = some z0 := by have := hg 0 _ rfl; simpa [hci] using this
      have g1 : DataW.trod enc Tryd.prog w 0 (fun _ => true) true n' 3 [c9] = some z1 := by have := hg 1 _ rfl; simpa [hci] using this
      obtain ⟨k, e0⟩ := upto_int Tryd.underlying3 h0
      obtain ⟨name, e1, l1⟩ := upto_str Tryd.underlying9 h1 (hs' y1 (by simp))
      obtain ⟨link, e2, l2⟩ := upto_str Tryd.underlying9 h2 (hs' y2 (by simp))
      obtain ⟨mode, e3⟩ := upto_int Tryd.underlying3 h3
      obtain ⟨uid, e4⟩ := upto_int Tryd.underlying3 h4
      obtain ⟨gid, e5⟩ := upto_int Tryd.underlying3 h5
      obtain ⟨user, e6, l6⟩ := upto_str Tryd.underlying9 h6 (hs' y6 (by simp))
      obtain ⟨group, e7, l7⟩ := upto_str Tryd.underlying9 h7 (hs' y7 (by simp))
      obtain ⟨sec, e8⟩ := upto_int Tryd.underlying3 g0
      obtain ⟨nano, e9⟩ := upto_int Tryd.underlying3 g1
      obtain ⟨a, m, c, x, e10, hb, hr⟩ := upto_bytes Tryd.underlying23 Tryd.underlying5 (by kernel_rfl) h9 (hs' y9 (by simp))
      simp only [List.cons.injEq, and_true] at e0 e1 e2 e3 e4 e5 e6 e7 e8 e9 e10
      subst e0 e1 e2 e3 e4 e5 e6 e7 e8 e9 e10
      exact ⟨(⟨k, name, link, mode, uid, gid, user, group, sec, nano, x⟩, (a, m, c)), rfl, hb, hr, l1, l2, l6, l7⟩
instance : Inhabited EnS := ⟨enD⟩
theorem open_ents {v : Value} {d : DataW H} {p : List MemPlace} {r : Reach} {b0 : Nat} (hv : Value.okWide Tryd.prog w r b0 31 v) (h : DataW.Trod enc Tryd.prog w 0 (fun _ => true) true 31 v d p) (hs : Rows.uptoBulk d ≤ 1048576) :
    ∃ (a : Option Addr) (n c : Nat) (S : List EnS), v = .slice a n c ∧ Ens w a n c S ∧ Small (S.map (·.1)) ∧ (∀ x ∈ S, x.2.2.1 ≤ 1048576) ∧ n ≤ 1048576 := by
  have hc : Tryd.prog.cellsOf 39 = 11 := by kernel_rfl
  obtain ⟨a, n, c, rfl⟩ := okWide_slice Tryd.underlying31 hv
  obtain ⟨fuel, hf⟩ := h
  rcases Go.Deep.open_slice Tryd.underlying31 hf with ⟨hcs, _⟩ | ⟨x, l, c', m, k, D, Pl, hcs, _, hl, hm, hmm, hx, hi⟩
  · simp [Value.cells] at hcs
    obtain ⟨rfl, rfl, rfl⟩ := hcs
    exact ⟨none, 0, 0, [], rfl, ⟨⟨by simp, Nat.le_refl _, by decide, fun j v hj => by simp at hj, fun _ => ⟨rfl, rfl⟩⟩, by simp⟩, ⟨by simp, by simp, by simp, by simp, by simp, by simp⟩, by simp, by omega⟩
  · simp [Value.cells] at hcs
    obtain ⟨rfl, rfl, rfl⟩ := hcs
    simp only [if_true] at hmm
    subst hmm
    simp only [Prod.mk.injEq] at hx
    obtain ⟨rfl, rfl⟩ := hx
    simp only [Rows.uptoBulk] at hs
    have hcnt : n ≤ 1048576 := by
      have h1 := bulk_len ((List.range n).map D)
      simp only [List.length_map, List.length_range] at h1
      omega
    have hel : ∀ i, ∃ y : EnS, i < n → (∀ j v, (enCells y)[j]? = some v → w.cell? ((x.add (i * 11)).add j) = some v) ∧ EnOk w y := by
      intro i
      by_cases hin : i < n
      · obtain ⟨cs, hcell, htr⟩ := hi i (by omega)
        have hsd : Rows.uptoBulk (D i) ≤ 1048576 := by
          have := bulk_mem (List.mem_map.2 ⟨i, List.mem_range.2 hin, rfl⟩ : D i ∈ (List.range n).map D)
          omega
        obtain ⟨y, rfl, hq⟩ := upto_entry htr hsd
        obtain ⟨_, hlen, hat⟩ := World.cells?_some hcell
        rw [hc] at hat hlen
        refine ⟨y, fun _ => ⟨fun j v hj => ?_, hq⟩⟩
        have hjl : j < 11 := by have := (List.getElem?_eq_some_iff.1 hj).1; rw [enCells_len] at this; exact this
        rw [hat j hjl]; exact hj
      · exact ⟨enD, fun h => absurd h hin⟩
    obtain ⟨g, hg⟩ := Classical.skolem.1 hel
    have hok : ∀ y ∈ (List.range n).map g, EnOk w y := fun y hy => by
      obtain ⟨i, hi', rfl⟩ := List.mem_map.1 hy
      exact (hg i (List.mem_range.1 hi')).2
    have hen : ∀ e ∈ ((List.range n).map g).map (·.1), ∃ y, EnOk w y ∧ e = y.1 := fun e he => by
      obtain ⟨y, hy, rfl⟩ := List.mem_map.1 he
      exact ⟨y, hok y hy, rfl⟩
    refine ⟨some x, n, m, (List.range n).map g, rfl, ⟨⟨by rw [flat_len enCells_len]; simp, hl, hm, fun j v hj => ⟨x, rfl, ?_⟩, fun h => by cases h⟩, fun y hy => (hok y hy).dat⟩,
      ⟨by simp; omega, fun e he => ?_, fun e he => ?_, fun e he => ?_, fun e he => ?_, fun e he => ?_⟩, fun y hy => ?_, hcnt⟩
    · have hjl : j < n * 11 := by
        have := (List.getElem?_eq_some_iff.1 hj).1
        rw [flat_len enCells_len] at this; simpa using this
      have hq : j / 11 < n := by omega
      have e : j = j / 11 * 11 + j % 11 := by omega
      rw [e] at hj
      rw [flat_at enCells_len _ _ _ (by simpa using hq) (by omega)] at hj
      simp only [List.getElem_map, List.getElem_range] at hj
      have := (hg (j / 11) hq).1 (j % 11) v hj
      rw [Go.Deep.add_add] at this
      rw [e]; exact this
    · obtain ⟨y, hy, rfl⟩ := hen e he; exact hy.name
    · obtain ⟨y, hy, rfl⟩ := hen e he; exact hy.link
    · obtain ⟨y, hy, rfl⟩ := hen e he; exact hy.user
    · obtain ⟨y, hy, rfl⟩ := hen e he; exact hy.group
    · obtain ⟨y, hy, rfl⟩ := hen e he
      have h1 := hy.dat.len; have h2 := hy.dat.cap; have h3 := hy.cap
      omega
    · have h2 := (hok y hy).dat.cap; have h3 := (hok y hy).cap
      omega
end Go.Proofs.YtamgiffkhnfpmaaDoor
namespace Go.Proofs.YtamgiffkhnfpmaaDoor
set_option linter.unusedVariables false
set_option linter.unusedSimpArgs false
open Go.ChangeShapes Go.WideShapes Go.ChangeAt Go.RowKit
section
variable {P : Program} {ops : Array Oper} {rest : List Oper} {o : Oper} {a : Act} {w : World} {Q : Exit → Act → World → Prop} {K : Act → World → Prop}
theorem foldl_set (k : Nat) : ∀ (l : List Value) (i : Nat) (z : Array Value), k + i + l.length ≤ z.size →
    (l.zipIdx i).foldl (fun (cs : Array Value) (p : Value × Nat) => cs.setIfInBounds (k + p.2) p.1) z = (z.toList.take (k + i) ++ l ++ z.toList.drop (k + i + l.length)).toArray
  | [], i, z, _ => by simp
  | v :: l, i, z, h => by
    have hi : k + i < z.toList.length := by simp at h ⊢; omega
    rw [List.zipIdx_cons, List.foldl_cons, foldl_set k l (i + 1) _ (by simp at h ⊢; omega)]
    congr 1
    have e := list_seg_step z.toList (k + i) v l (by simp at h ⊢; omega)
    simpa [Array.toList_setIfInBounds, Nat.add_assoc] using e
theorem fill_whole (z cs : Array Value) (sz : Nat) (hz : z.size = sz) (hc : cs.size = sz) : Instr.fill (fun i => some (i * sz, sz)) z [(0, .agg cs)] = some cs := by
  have h := foldl_set 0 cs.toList 0 z (by simp; omega)
  have e : (z.toList.take (0 + 0) ++ cs.toList ++ z.toList.drop (0 + 0 + cs.toList.length)).toArray = cs := by
    rw [List.drop_of_length_le (by simp; omega)]; simp
  rw [e] at h
  simp only [Instr.fill, Value.cells, Nat.zero_mul, hc]
  rw [if_neg (by simp [hz])]
  congr 1
  rw [← Array.foldl_toList]
  simpa using h
/-- a literal slice of one aggregate -/
theorem wpList_slice_one (hgd : o.guard = none) (t : TypeId) (x : Operand) (ho : o.op = .buildSlice t 1 #[(0, x)]) {e : TypeId} {z : Array Value} (ht : P.underlying t = some (.slice e)) (cs : Array Value) (hi : (P.info? e).map (fun i => (i.zero, i.size)) = some (some (.agg z), cs.size))
    (hzs : z.size = cs.size) (hpos : 0 < cs.size) (hlim : cs.size ≤ 16777216) (hx : a.eval x = .agg cs)
    (h : wpList P ops Q rest (a.put o.dst (.slice (some ⟨w.heap.size, 0, none⟩) 1 1)) (w.alloc (.cells cs e))) : wpList P ops Q (o :: rest) a w := by
  refine wpList_value hgd _ _ ?_ h
  obtain ⟨i, hi', hh⟩ := Option.map_eq_some_iff.1 hi
  simp only [Prod.mk.injEq] at hh
  obtain ⟨h0, h1⟩ := hh
  have hne : ¬ cs.size = 0 := by omega
  have hlim' : ¬ 16777216 < cs.size := by omega
  have hf := fill_whole ((Array.range (1 * cs.size)).map (z[· % z.size]!)) cs cs.size (by simp) rfl
  simp only [Nat.one_mul] at hf
  simp [execOp, ho, hx, Instr.buildSlice, run_underlying ht, sizeOf, zeroValue, typeInfo, hi', h0, h1, hne, hlim', Value.cells, hf, newRow, Result.andThen]
/-- an aggregate loaded out of cells that are known -/
theorem run_load_cells (ty : TypeId) (p : Addr) (cs : List Value) (d : TypeDesc) (hu : P.underlying ty = some d) (hd : (match d with | .struct _ | .array _ _ => true | _ => false) = true) (hi : (P.info? ty).map (·.size) = some cs.length)
    (hc : ∀ j v, cs[j]? = some v → w.cell? (p.add j) = some v) : (loadVar ty p).run P w = .ok (.agg cs.toArray) w := by
  obtain ⟨i, hi', hs⟩ := Option.map_eq_some_iff.1 hi
  have hl := run_loadCells_list (P := P) w p cs hc
  have hagg : (isAgg ty).run P w = .ok true w := by
    unfold isAgg
    rw [Sem.run_bind, run_underlying hu w]
    cases d <;> simp_all
  simp [loadVar, hagg, sizeOf, typeInfo, hi', hs, hl, Result.andThen]
theorem wpList_load_cells (hgd : o.guard = none) (ty : TypeId) (x : Operand) (ho : o.op = .load ty x) (p : Addr) (hx : a.eval x = .pointer (some p)) (cs : List Value) (d : TypeDesc) (hu : P.underlying ty = some d) (hd : (match d with | .struct _ | .array _ _ => true | _ => false) = true)
    (hi : (P.info? ty).map (·.size) = some cs.length) (hc : ∀ j v, cs[j]? = some v → w.cell? (p.add j) = some v) (h : wpList P ops Q rest (a.put o.dst (.agg cs.toArray)) w) : wpList P ops Q (o :: rest) a w := by
  refine wpList_value hgd _ _ ?_ h
  simp [execOp, ho, hx, Instr.loadAt, Instr.sureAddr, run_load_cells ty p cs d hu hd hi hc, Result.andThen]
/-- arr[:m] of an array behind a pointer -/
theorem wpList_slice_arr (hgd : o.guard = none) (t : TypeId) (x : Operand) (hi : Operand) (ho : o.op = .slice t x none (some hi) none) {e : TypeId} {n : Nat} (ht : P.underlying t = some (.array n e)) (hsz : ((P.info? e).map (·.size)).isSome = true) (hn : 0 < n)
    (p : Addr) (hx : a.eval x = .pointer (some p)) (M : Nat) (k : IntKind) (v : Int) (hM : a.eval hi = .int k v) (hv : v = (M : Int)) (h2 : M ≤ n)
    (h : wpList P ops Q rest (a.put o.dst (.slice (some p) M n)) w) : wpList P ops Q (o :: rest) a w := by
  refine wpList_value hgd _ _ ?_ h
  obtain ⟨s, hs⟩ := Option.isSome_iff_exists.1 hsz
  obtain ⟨i, hi', hs'⟩ := Option.map_eq_some_iff.1 hs
  have hne : ¬ n = 0 := by omega
  subst hv
  simp [execOp, ho, hx, hM, Instr.sliceAt, Instr.sureAddr, Instr.sliceBounds, Instr.sliceBound, run_underlying ht, sizeOf, typeInfo, hi', asIntOf, h2, hne, Addr.add, Result.andThen]
end
end Go.Proofs.YtamgiffkhnfpmaaDoor
namespace Go.Proofs.YtamgiffkhnfpmaaDoor
set_option linter.unusedVariables false
set_option linter.unusedSimpArgs false
open Go.ChangeShapes Go.WideShapes Go.ChangeAt Go.RowKit
theorem CopyEn_any (x : EnS) (w : World) (h : Bs w x.2.1 x.2.2.1 x.2.2.2 x.1.data) (hn : x.2.2.1 ≤ 140737488355328) :
    Calls Tryd.prog 31 #[.agg (enV x)] w fun r w' => ∃ s, r = .returned (.agg (enV (x.1, s))) ∧ Own1 w' w.heap.size (x.1, s) ∧ Below w.heap.size w w' :=
  (CopyEntry_any x.1.kind x.1.name x.1.link x.1.mode x.1.uid x.1.gid x.1.user x.1.group x.1.sec x.1.nano x.2.1 x.2.2.1 x.2.2.2 x.1.data w h hn).mono fun r w' ⟨a, n, c, hr, ho, hb⟩ => ⟨(a, n, c), hr, ho, hb⟩
theorem own_type {w : World} {B B' : Nat} {t t' : TypeId} {sz sz' n n' : Nat} {v v' : Value} {xs ys : List Value} (h : w.ownsRow B t sz v n xs) (h' : w.ownsRow B' t' sz' v' n' ys) (ht : t ≠ t') (b : Nat) (h1 : v.ownBlock = some b) : v'.ownBlock ≠ some b := by
  intro h2
  obtain ⟨_, h⟩ := h
  obtain ⟨_, h'⟩ := h'
  rcases h with ⟨rfl, _⟩ | ⟨g, cap, cur, rfl, _, hh, _⟩
  · cases h1
  · rcases h' with ⟨rfl, _⟩ | ⟨g', cap', cur', rfl, _, hh', _⟩
    · cases h2
    · have e1 : g = b := Option.some.inj (show some g = some b from h1)
      have e2 : g' = b := Option.some.inj (show some g' = some b from h2)
      subst e1; subst e2
      rw [hh] at hh'
      simp only [Option.some.injEq, Obj.cells.injEq] at hh'
      exact ht hh'.2.1
theorem own_stay {w w' : World} {base : Nat} {e : TypeId} {sz : Nat} {v : Value} {n : Nat} {xs : List Value} (h : w.ownsRow base e sz v n xs) (hk : ∀ k, v.ownBlock = some k → w'.heap[k]? = w.heap[k]?) : w'.ownsRow base e sz v n xs := by
  obtain ⟨h1, h2⟩ := h
  refine ⟨h1, ?_⟩
  rcases h2 with h2 | ⟨g, cap, cur, hv, hg, hh, r⟩
  · exact Or.inl h2
  · exact Or.inr ⟨g, cap, cur, hv, hg, by rw [hk g (by rw [hv]; rfl)]; exact hh, r⟩
theorem Own1.keep {w w' : World} {B : Nat} {x : EnS} (h : Own1 w B x) (k : Below w.heap.size w w') : Own1 w' B x := own_keep h fun j _ hj => k.block j hj
theorem en_new (w : World) (x : EnS) : IsSl (w.alloc (.cells (enV x) 39)) 11 (some ⟨w.heap.size, 0, none⟩) 1 1 ([x].flatMap enCells) := by
  have := isSl_new w 39 11 1 (enV x) rfl (by decide)
  simpa [enCells] using this
theorem infoEn2 (x : EnS) : (Tryd.prog.info? 39).map (fun i => (i.zero, i.size)) = some (some (Value.agg enZ), (enV x).size) := by show _ = some (some (Value.agg enZ), 11); kernel_rfl
theorem enZ_sz (x : EnS) : enZ.size = (enV x).size := rfl
theorem enV_pos (x : EnS) : 0 < (enV x).size := by show 0 < 11; decide
theorem enV_lim (x : EnS) : (enV x).size ≤ 16777216 := by show 11 ≤ _; decide
theorem NewEn.nil (w : World) : NewEn w w.heap.size [] none 0 0 [] w := ⟨Below.refl _ _, World.ownsRow_nil _ _ _ _, rfl, by simp, List.Pairwise.nil⟩
theorem NewEn.keep {w0 w w' : World} {B : Nat} {L : List En} {a : Option Addr} {n c : Nat} {S : List EnS} (h : NewEn w0 B L a n c S w) (k : Below w.heap.size w w') (hB : B ≤ w.heap.size) : NewEn w0 B L a n c S w' :=
  ⟨h.bel.trans (k.mono hB), own_keep h.own fun j _ hj => k.block j hj, h.map, fun x hx => (h.dat x hx).keep k, h.rise⟩
theorem own_blk {w : World} {B : Nat} {x : EnS} (h : Own1 w B x) (b : Nat) (hb : x.2.1.map (·.block) = some b) : B ≤ b ∧ b < w.heap.size := h.lt b (by rw [← hb]; cases x.2.1 <;> rfl)
/-- an entry more -/
theorem NewEn.snoc {w0 wr w3 w4 : World} {B : Nat} {L : List En} {a a4 : Option Addr} {n c c4 : Nat} {S : List EnS} {e : En} {s : Option Addr × Nat × Nat} (h : NewEn w0 B L a n c S wr) (hB : B ≤ wr.heap.size) (ho : Own1 w3 wr.heap.size (e, s)) (k : Below wr.heap.size wr w3)
    (ho4 : w4.ownsRow B 39 11 (.slice a4 (n + 1) c4) (n + 1) (S.flatMap enCells ++ [(e, s)].flatMap enCells)) (hg : (w3.alloc (.cells (enV (e, s)) 39)).grownBy w4 (Value.slice a n c).ownBlock) :
    NewEn w0 B (L ++ [e]) a4 (n + 1) c4 (S ++ [(e, s)]) w4 := by
  have h3 := h.keep k hB
  have hsz : (w3.alloc (.cells (enV (e, s)) 39)).heap.size = w3.heap.size + 1 := by simp
  have hst : ∀ x, Own1 w3 B x → Own1 w4 B x := fun x hx => own_stay hx fun b hb => by
    have hlt := (hx.lt b hb).2
    rw [hg.block b (by omega) (fun q => own_type hx h3.own (by decide) b hb q.symm), heap_alloc_old _ _ hlt]
  have hos : Own1 w3 B (e, s) := own_base ho hB
  refine ⟨?_, by rw [List.flatMap_append]; exact ho4, by rw [List.map_append, h.map]; rfl, ?_, ?_⟩
  · refine (h3.bel.alloc (Nat.le_trans hB k.size) _).grown hg (by have := k.size; omega) (fun b hb => ?_)
    exact (h3.own.lt b hb).1
  · intro x hx
    rcases List.mem_append.1 hx with hx | hx
    · exact hst x (h3.dat x hx)
    · rw [List.mem_singleton] at hx
      subst hx
      exact hst _ hos
  · rw [List.pairwise_append]
    refine ⟨h.rise, List.pairwise_singleton _ _, fun x hx y hy b b' hb hb' => ?_⟩
    rw [List.mem_singleton] at hy
    subst hy
    have h1 := (own_blk (h.dat x hx) b hb).2
    have h2 := (own_blk ho b' hb').1
    omega
set_option maxRecDepth 100000 in
set_option maxHeartbeats 1600000 in
theorem CopyEntries_any (a : Option Addr) (n c : Nat) (S : List EnS) (w : World) (h : Ens w a n c S) (hn : n ≤ 1000000000000) (hd : ∀ x ∈ S, x.2.2.1 ≤ 140737488355328) :
    Calls Tryd.prog 18 #[.slice a n c] w fun r w' => ∃ a' n' c' S', r = .returned (.slice a' n' c') ∧ NewEn w w.heap.size (S.map (·.1)) a' n' c' S' w' := by
  have hl := h.len; have hcap := h.cap; have hmax := h.max
  have HL := Lib.hid hl; have HH := Lib.hid h; have HD := Lib.hid hd
  clear hl h hd
  go_enter Tryd.func18, Tryd.ntmps18
  go_wp2
  go_loopw [3, 4] (fun v i wr => ∃ (k : Nat) (a1 : Option Addr) (c1 : Nat) (S1 : List EnS), k ≤ n ∧ i = .int .i64 k ∧ v = .slice a1 k c1 ∧ Hid (NewEn w w.heap.size ((S.take k).map (·.1)) a1 k c1 S1 wr)) (fun _ i _ => n - (intOf i).toNat)
  case atStart => exact ⟨0, some ⟨w.heap.size, 0, none⟩, 0, [], Nat.zero_le _, rfl, rfl, Lib.hid ⟨(Below.refl _ _).alloc (Nat.le_refl _) _, World.ownsRow_lit (base := w.heap.size) (e := 39) (size := 11) w #[] 0 (Nat.le_refl _) (by decide) rfl, rfl, by simp, List.Pairwise.nil⟩⟩
  case round =>
    obtain ⟨k, a1, c1, S1, hk, rfl, rfl, hI⟩ := hrel
    by_cases hlt : k < n
    · obtain ⟨b, off, rfl, hr⟩ := (HH.out.below hI.out.bel).at k hlt
      have hdk := (HH.out.below hI.out.bel).dat_at k hlt
      have hx2 : (S.getD k enD).2.2.1 ≤ 140737488355328 := HD.out _ (by
        have : k < S.length := by have := HL.out; omega
        simp [List.getD, List.getElem?_eq_getElem this])
      have hmap : (S.take (k + 1)).map (·.1) = (S.take k).map (·.1) ++ [(S.getD k enD).1] := by
        have : k < S.length := by have := HL.out; omega
        rw [List.take_succ_eq_append_getElem this, List.map_append]
        simp [List.getD, List.getElem?_eq_getElem this]
      have HM := Lib.hid hmap
      generalize S.getD k enD = x at *
      have HR := Lib.hid hr; have HDK := Lib.hid hdk; have HX2 := Lib.hid hx2
      clear hr hdk hx2 hmap
      go_wp2_with (first
        | (refine wpList_load_midA rfl _ _ rfl b (off + k * 11) rfl (enV x) _ (by exact HR.out) Tryd.underlying39 rfl (by exact sizeEntry x) ?_)
        | (go_at_call 31; (refine (CopyEn_any x wr HDK.out HX2.out).mono ?_); rintro r w3 ⟨s, rfl, ho3, hb3⟩; have HO3 := Lib.hid ho3; have HB3 := Lib.hid hb3; clear ho3 hb3; have HOW : Hid ((w3.alloc (.cells (enV (x.1, s)) 39)).ownsRow w.heap.size 39 11 (.slice a1 k c1) k (S1.flatMap enCells)) := Lib.hid (own_keep hI.out.own fun j _ hj => by rw [heap_alloc_old _ _ (Nat.lt_of_lt_of_le hj HB3.out.size)]; exact HB3.out.block j hj); have HSZ : Hid (w.heap.size ≤ (w3.alloc (.cells (enV (x.1, s)) 39)).heap.size) := Lib.hid (by have := hI.out.bel.size; have := HB3.out.size; simp; omega))
        | (with_reducible refine wpList_slice_one rfl 31 _ rfl Tryd.underlying31 (enV (x.1, s)) (infoEn2 (x.1, s)) (enZ_sz (x.1, s)) (enV_pos (x.1, s)) (enV_lim (x.1, s)) rfl ?_)
        | (at_builtin; refine wpList_app rfl _ _ 31 rfl w.heap.size 39 _ 11 136 Tryd.underlying31 infoEntry rfl (by decide) (by decide) rfl HOW.out rfl (en_new w3 (x.1, s)) (en_one [(x.1, s)]) (by omega) HSZ.out ?_; intro a4 c4 w4 ho4 hg4))
      have hN := hI.out.snoc (hI.out.bel.size) HO3.out HB3.out ho4 hg4
      exact ⟨⟨k + 1, a4, c4, _, by omega, by go_num, rfl, Lib.hid (by rw [HM.out]; exact hN)⟩, by simp [intOf]; omega⟩
    · obtain rfl : k = n := by omega
      go_wp2
      go_ret
      refine ⟨a1, k, c1, S1, rfl, ?_⟩
      have := hI.out
      rw [List.take_of_length_le (by have := HL.out; omega)] at this
      exact this
theorem eql_time (s n : Int) (w : World) : (binOp .eql 37 (.agg #[.int .i64 s, .int .i64 n]) (.agg #[.int .i64 s, .int .i64 n])).run Tryd.prog w = .ok (.bool true) w := by
  rw [run_eql_struct, run_equalIn_agg w 9999 37 _ _ (by kernel_rfl) (by kernel_rfl)]
  have hs : ∀ (d : Nat) (a b : Int), (Op.equalIn (d + 1) 3 (.int .i64 a) (.int .i64 b)).run Tryd.prog w = .ok (a == b) w := fun d a b => run_equalIn_int w d 3 .i64 .i64 a b Tryd.underlying3
  have hp0 : ∀ (u v : Value), (part 3 #[u, v] 0).run Tryd.prog w = .ok u w := fun u v => by simp [part, isAgg, run_underlying Tryd.underlying3]
  have hp1 : ∀ (u v : Value), (part 3 #[u, v] 1).run Tryd.prog w = .ok v w := fun u v => by simp [part, isAgg, run_underlying Tryd.underlying3]
  simp [Program.fieldsOf, Tryd.underlying37, Op.eqFields, hs, hp0, hp1, hs 9998]
end Go.Proofs.YtamgiffkhnfpmaaDoor
namespace Go.Proofs.YtamgiffkhnfpmaaDoor
set_option linter.unusedVariables false
set_option linter.unusedSimpArgs false
open Go.ChangeShapes Go.WideShapes Go.ChangeAt Go.RowKit
def aliveEn : En := ⟨1, [97], [], 0, 0, 0, [], [], 5, 0, [120, 121, 122]⟩
theorem alive_facts : (Plain.scribe [aliveEn]).2 = 0 ∧ (Plain.scribe [aliveEn]).1.length = 2048 ∧ (Plain.scribe [aliveEn]).1.getD 0 0 = 97 ∧ ((Plain.scribe [aliveEn]).1.take 515).drop 512 = [120, 121, 122] := by decide +kernel
theorem alive_small : Small [aliveEn] := by
  refine ⟨by simp, ?_, ?_, ?_, ?_, ?_⟩ <;> intro e he <;> simp only [List.mem_singleton] at he <;> subst he <;> simp [aliveEn]
theorem xyz_bs (w : World) (t : Nat × Nat) : Bs (w.alloc (.cells #[.int .u8 120, .int .u8 121, .int .u8 122] 5 t)) (some ⟨w.heap.size, 0, none⟩) 3 3 [120, 121, 122] :=
  isSl_mark w 5 1 3 #[.int .u8 120, .int .u8 121, .int .u8 122] _ rfl (by unfold maxLen; omega)
theorem run_bs_str8 {P : Program} {w : World} {src dst e : TypeId} (hs : P.underlying src = some (.slice e)) (he : P.underlying e = some (.int .u8)) (hd : P.underlying dst = some .string)
    {ao : Option Addr} {n c : Nat} {l : List UInt8} (hb : Bs w ao n c l) : (convert src dst (.slice ao n c)).run P w = .ok (.string ⟨l.toArray⟩) w := by
  cases ao with
  | none =>
    obtain ⟨rfl, rfl⟩ := hb.2.2.2.2 rfl
    have : l = [] := List.eq_nil_of_length_eq_zero hb.len
    subst this
    exact run_convert_bytes_nil w src e hs he 0 0 dst hd
  | some ad =>
    obtain rfl := hb.len
    exact run_convert_bytes_back w src dst e ad c l hs he hd (fun j hj => by
      obtain ⟨x, hx, hc⟩ := hb.2.2.2.1 j (u8v l[j]) (by simp [List.getElem?_eq_getElem hj])
      cases hx
      exact hc)
set_option maxRecDepth 100000 in
set_option maxHeartbeats 1600000 in
theorem Alive8_any (w : World) (hT : Bru w) (hP : Pow10 w) : Calls Tryd.prog 16 #[] w fun e w' => e = .returned (.bool true) ∧ Below w.heap.size w w' := by
  have kc := fun (w : World) (C : Array Value) (n c : Nat) => Lib.run_convert_bytes_const (P := Tryd.prog) w 23 5 C n c Tryd.underlying23 Tryd.underlying5
  have hbB := ((Below.refl w.heap.size w).alloc (Nat.le_refl _) (.cells #[.int .u8 120, .int .u8 121, .int .u8 122] 5 (3, 4))).alloc (by simp) (.cells (enV (aliveEn, (some ⟨w.heap.size, 0, none⟩, 3, 3))) 39)
  have hen : Ens ((w.alloc (.cells #[.int .u8 120, .int .u8 121, .int .u8 122] 5 (3, 4))).alloc (.cells (enV (aliveEn, (some ⟨w.heap.size, 0, none⟩, 3, 3))) 39)) (some ⟨w.heap.size + 1, 0, none⟩) 1 1 [(aliveEn, (some ⟨w.heap.size, 0, none⟩, 3, 3))] := by
    refine ⟨?_, fun x hx => ?_⟩
    · have := en_new (w.alloc (.cells #[.int .u8 120, .int .u8 121, .int .u8 122] 5 (3, 4))) (aliveEn, (some ⟨w.heap.size, 0, none⟩, 3, 3))
      rw [show (w.alloc (.cells #[.int .u8 120, .int .u8 121, .int .u8 122] 5 (3, 4))).heap.size = w.heap.size + 1 by simp] at this
      exact this
    · rw [List.mem_singleton] at hx
      subst hx
      exact Keeps.bs (Keeps.alloc _ _) (xyz_bs w (3, 4))
  have HWR := Lib.hid (ScrWrite_any _ _ _ _ _ (hT.below hbB) (hP.below hbB) hen alive_small)
  have HBB := Lib.hid hbB
  obtain ⟨f1, f2, f3, f4⟩ := alive_facts
  simp only [List.map_cons, List.map_nil] at HWR
  generalize Plain.scribe [aliveEn] = r at *
  obtain ⟨l, code⟩ := r
  simp only at f1 f2 f3 f4
  subst f1
  have F2 := Lib.hid f2; have F3 := Lib.hid f3; have F4 := Lib.hid f4
  clear f2 f3 f4 hT hP hbB hen
  go_enter Tryd.func16, Tryd.ntmps16
  go_wp2_with (first
    | (go_at_call 17; (refine (HWR.out).mono ?_); rintro r w1 ⟨a1, n1, c1, rfl, ho1, hb1⟩; obtain rfl : n1 = 2048 := (own_len ho1).symm.trans F2.out; have hbs := own_bs ho1; obtain ⟨b, off, rfl, hc0⟩ := hbs.at 0 (by decide); rw [F3.out, Nat.add_zero] at hc0; have HBS := Lib.hid hbs; have HB1 := Lib.hid hb1; have hcap := hbs.cap; have hmax := hbs.max; have hcut := bs_cut hbs 512 515 (by decide) (by decide); rw [F4.out, if_neg (by omega)] at hcut; have hcv := run_bs_str8 (P := Tryd.prog) Tryd.underlying23 Tryd.underlying5 Tryd.underlying9 hcut; simp only [Option.map, Nat.mul_one, Addr.add_lit] at hcv; clear ho1 hbs hb1 hcut))
  go_ret
  exact ⟨rfl, Below.seq HBB.out HB1.out⟩
theorem NewEn.small {w0 w : World} {B : Nat} {L : List En} {a : Option Addr} {n c : Nat} {S : List EnS} (h : NewEn w0 B L a n c S w) (hs : Small L) : Small (S.map (·.1)) := by rw [h.map]; exact hs
theorem SameBytes_yes (a b : Option Addr) (n m c d : Nat) (x : List UInt8) (w : World) (ha : Bs w a n c x) (hb : Bs w b m d x) :
    Calls Tryd.prog 14 #[.slice a n c, .slice b m d] w fun e w' => e = .returned (.bool true) ∧ Below w.heap.size w w' := by
  have := SameBytes_any a b n m c d x x w ha hb
  rw [dec_t (rfl : x = x)] at this
  exact this
end Go.Proofs.YtamgiffkhnfpmaaDoor
namespace Go.Proofs.YtamgiffkhnfpmaaDoor
set_option linter.unusedVariables false
set_option linter.unusedSimpArgs false
open Go.ChangeShapes Go.WideShapes Go.ChangeAt Go.RowKit
/-- an entry that needs no record -/
structure PlainE (e : En) : Prop where
  fit : Plain.fitsE e = true
  name : ¬ 100 < (e.name.length : Int)
  link : ¬ 100 < (e.link.length : Int)
  user : ¬ 32 < (e.user.length : Int)
  group : ¬ 32 < (e.group.length : Int)
  uid : ¬ 2097151 < e.uid
  gid : ¬ 2097151 < e.gid
  nano : (e.nano != 0) = false
  sec0 : ¬ e.sec < 0
  sec1 : ¬ 8589934591 < e.sec
theorem plain_split {e : En} (h : PlainE e) : (Plain.split e.name).2.2 = 0 := by
  have hf := h.fit
  unfold Plain.fitsE Plain.fits at hf
  obtain ⟨_, ⟨t1, _, _⟩, _⟩ := Plain.fitB_true.1 hf
  unfold Plain.txt at t1
  simp only [Bool.and_eq_true, Bool.not_eq_true', decide_eq_false_iff_not] at t1
  have h1 := h.name
  unfold Plain.split
  rw [if_neg (fun e0 => by rw [e0] at t1; simp at t1), if_neg t1.2, if_pos (by omega)]
theorem plain_prs {e : En} (h : PlainE e) : Plain.prsOf e = [] := by
  have h1 : Plain.wPath e = false := by unfold Plain.wPath; simp [plain_split h]
  have h2 : Plain.wLink e = false := by unfold Plain.wLink; have := h.link; simp; omega
  have h3 : Plain.wUid e = false := by unfold Plain.wUid; simpa using h.uid
  have h4 : Plain.wGid e = false := by unfold Plain.wGid; simpa using h.gid
  have h5 : Plain.wUser e = false := by unfold Plain.wUser; have := h.user; simp; omega
  have h6 : Plain.wGroup e = false := by unfold Plain.wGroup; have := h.group; simp; omega
  have h7 : Plain.wTime e = false := by
    have := h.sec0; have := h.sec1; have hn := h.nano
    unfold Plain.wTime
    rw [decide_eq_false_iff_not]
    simp only [bne_eq_false_iff_eq] at hn
    omega
  unfold Plain.prsOf
  rw [h1, h2, h3, h4, h5, h6, h7]
  rfl
def blk1 (e : En) : Nat := 1 + (e.data.length + 511) / 512
theorem plain_enc {e : En} (h : PlainE e) (hd : e.data.length ≤ 1000000000) : (Plain.enc e).length = 512 * blk1 e := by
  unfold Plain.enc
  rw [if_pos (plain_prs h), List.nil_append]
  have hi := hdOf_in e (fit_of h.fit)
  have hl := make_len { Plain.hdOf e with size := (e.data.length : Int) } { hi with size := (inI64_iff _).2 (by simp only; omega) }
  unfold Plain.laid
  rw [List.length_append, List.length_append, hl, List.length_replicate]
  unfold blk1 Plain.pad
  split <;> omega
def blks (L : List En) : Nat := 2 + (L.map blk1).sum
theorem blks_succ (L : List En) (k : Nat) (h : k < L.length) : blks (L.take (k + 1)) = blks (L.take k) + blk1 L[k] := by
  unfold blks
  rw [List.take_succ_eq_append_getElem h, List.map_append, List.sum_append]
  simp; omega
theorem plain_encs (L : List En) (h : ∀ e ∈ L, PlainE e ∧ e.data.length ≤ 1048576) : (L.flatMap Plain.enc).length + 1024 = 512 * blks L := by
  unfold blks
  induction L with
  | nil => simp
  | cons e L ih =>
    have h1 := plain_enc (h e (by simp)).1 (by have := (h e (by simp)).2; omega)
    have h2 := ih (fun x hx => h x (by simp [hx]))
    rw [List.flatMap_cons, List.length_append, h1, List.map_cons, List.sum_cons]
    omega
theorem blks_le (L : List En) (hc : L.length ≤ 2097152) (hd : ∀ e ∈ L, e.data.length ≤ 1048576) : blks L ≤ 2 + L.length * 2050 := by
  unfold blks
  clear hc
  induction L with
  | nil => simp
  | cons e L ih =>
    have h1 := hd e (by simp)
    have h2 := ih (fun x hx => hd x (by simp [hx]))
    rw [List.map_cons, List.sum_cons, List.length_cons]
    have : blk1 e ≤ 2050 := by unfold blk1; omega
    omega
theorem plain_scribe (L : List En) (h : ∀ e ∈ L, PlainE e ∧ e.data.length ≤ 1048576) : (Plain.scribe L).2 = 0 ∧ (Plain.scribe L).1.length = 512 * blks L := by
  have f : L.all Plain.fitsE = true := List.all_eq_true.2 fun e he => (h e he).1.fit
  unfold Plain.scribe
  rw [if_pos f]
  refine ⟨rfl, ?_⟩
  rw [List.length_append, List.length_replicate]
  exact plain_encs L h
end Go.Proofs.YtamgiffkhnfpmaaDoor
namespace Go.Proofs.YtamgiffkhnfpmaaDoor
set_option linter.unusedVariables false
set_option linter.unusedSimpArgs false
open Go.ChangeShapes Go.WideShapes Go.ChangeAt Go.RowKit
set_option maxRecDepth 100000 in
set_option maxHeartbeats 3200000 in
theorem ScribePlain_walk (a : Option Addr) (n c : Nat) (S : List EnS) (w : World) (hpow : Pow10 w) (hbru : Bru w) (h : Ens w a n c S) (hs : Small (S.map (·.1))) (hd : ∀ x ∈ S, x.2.2.1 ≤ 1048576) :
    Calls Tryd.prog 5 #[.slice a n c] w fun e w' => e = .returned (.bool true) ∧ Below w.heap.size w w' := by
  have hl := h.len; have hcap := h.cap; have hmax := h.max
  have hn20 : n ≤ 2097152 := by have := hs.count; simpa [hl] using this
  have HP := Lib.hid hpow; have HT := Lib.hid hbru; have HH := Lib.hid h; have HS := Lib.hid hs; have HD := Lib.hid hd; have HL := Lib.hid hl
  have HC1 := Lib.hid (fun w hh => CopyEntries_any a n c S w hh (by omega) (fun x hx => by have := HD.out x hx; omega))
  generalize hLd : S.map (·.1) = L at *
  have hLl : L.length = n := by rw [← hLd, List.length_map, hl]
  have hLk : ∀ k (hk : k < L.length), (S.getD k enD).1 = L[k] := fun k hk => by
    subst hLd
    have : k < S.length := by simpa using hk
    simp [List.getD, List.getElem?_eq_getElem this]
  have HLL := Lib.hid hLl; have HLK := Lib.hid hLk
  clear hpow hbru h hs hd hl hLl hLk hLd
  go_enter Tryd.func5, Tryd.ntmps5
  go_upto_region 3 with (go_at_call 16; (refine (Alive8_any w HT.out HP.out).mono ?_); rintro e w1 ⟨rfl, hb1⟩; have HB1 := Lib.hid hb1; clear hb1)
  go_upto_region 5 with fail
  go_loopw [3, 4] (fun v i wr => ∃ k : Nat, k ≤ n ∧ i = .int .i64 k ∧ v = .int .i64 (blks (L.take k) : Nat) ∧ Hid (∀ e ∈ L.take k, PlainE e) ∧ Hid (Below w.heap.size w wr)) (fun _ i _ => n - (intOf i).toNat)
  case atStart => exact ⟨0, Nat.zero_le _, rfl, rfl, Lib.hid (by simp), HB1⟩
  case round =>
    obtain ⟨k, hk, rfl, rfl, hall, hbel⟩ := hrel
    by_cases hlt : k < n
    · obtain ⟨b, off, rfl, hr⟩ := (HH.out.below hbel.out).at k hlt
      have hdk := (HH.out.below hbel.out).dat_at k hlt
      have hk' : k < L.length := by rw [HLL.out]; exact hlt
      have hke := HLK.out k hk'
      have hnmk := HS.out.name _ (List.getElem_mem hk')
      have hdat := HS.out.data _ (List.getElem_mem hk')
      rw [← hke] at hnmk hdat
      have hbs := blks_succ L k hk'
      have hbl : blks (L.take k) ≤ 4299161602 := by
        have h1 := blks_le (L.take k) (by rw [List.length_take]; omega) (fun e he => HS.out.data _ (List.mem_of_mem_take he))
        have h2 : (L.take k).length ≤ 2097152 := by rw [List.length_take]; omega
        have h3 : (L.take k).length * 2050 ≤ 4299161600 := Nat.le_trans (Nat.mul_le_mul_right _ h2) (by decide)
        omega
      rw [← hke] at hbs
      generalize blks (L.take k) = B0 at *
      have hdn := hdk.len
      generalize hB1 : blks (L.take (k + 1)) = B1 at *
      have hpl : PlainE (S.getD k enD).1 → Hid (∀ e ∈ L.take (k + 1), PlainE e) := fun hp => Lib.hid (fun e he => by
        rw [List.take_succ_eq_append_getElem hk'] at he
        rcases List.mem_append.1 he with he | he
        · exact hall.out e he
        · rw [List.mem_singleton] at he; rw [he, ← hke]; exact hp)
      generalize S.getD k enD = x at *
      have HR := Lib.hid hr
      have HEZ := Lib.hid infoEnZ; have HEB := Lib.hid (enZ_size x); have HEI := Lib.hid (infoEnS x); have HEO := Lib.hid (enV_one x)
      have hb1 := hbel.out.trans ((Below.refl w.heap.size wr).alloc hbel.out.size (.cells (enV x) 39))
      have HBN := Lib.hid hb1
      have hfx := FitsEn_any x (wr.alloc (.cells (enV x) 39)) (by omega) hdk.len
      have HFX := Lib.hid hfx
      have hce : ∀ w3, Below (wr.alloc (.cells (enV x) 39)).heap.size (wr.alloc (.cells (enV x) 39)) w3 → ∀ j, w3.cell? ⟨wr.heap.size, j, none⟩ = (enV x)[j]? := fun w3 hb j => by
        rw [cell_of_row _ _ _ _ _ _ (show w3.heap[wr.heap.size]? = some (.cells (enV x) 39 (0, 0)) by rw [hb.block _ (by simp)]; exact heap_alloc_new wr _)]
      have HCE := Lib.hid hce; have HPL := Lib.hid hpl
      have hq : (x.2.2.1 : Int) + 511 = ((x.2.2.1 + 511 : Nat) : Int) := by omega
      have hbq : (B1 : Int) = (B0 : Int) + (1 + ((x.2.2.1 : Int) + 511) / 512) := by
        rw [hbs]; unfold blk1; rw [hdn]; omega
      have hx20 : x.2.2.1 ≤ 1048576 := by omega
      have HBQ := Lib.hid hbq
      have HBE1 := Lib.hid hB1; have HKE := Lib.hid hke; have HBX := Lib.hid hbl
      clear hb1 hr hdk hnmk hdat hfx hce hpl hbs hB1 hq hbq hdn hke hbl
      have hbl2 : (B0 : Int) ≤ 4299161602 := by have := HBX.out; omega
      generalize hfz : Plain.fitsE x.1 = F at *
      have HFZ := Lib.hid hfz
      clear hfz
      go_wp2_with (first
        | (refine wpList_load_midA rfl _ _ rfl b (off + k * 11) rfl (enV x) _ (by exact HR.out) Tryd.underlying39 rfl (by exact sizeEntry x) ?_)
        | (with_reducible refine wpList_alloc_z rfl _ rfl enZ HEZ.out ?_)
        | (with_reducible refine wpList_store_new rfl _ _ _ rfl _ rfl (enV x) rfl rfl HEB.out HEI.out HEO.out ?_)
        | (with_reducible refine wpList_load_row rfl _ _ rfl wr.heap.size rfl 39 (enV x) (0, 0) _ (heap_alloc_new wr _) Tryd.underlying39 rfl HEI.out ?_)
        | (go_at_call 20; (refine HFX.out.mono ?_); rintro r w3 ⟨rfl, hb3⟩; have hc1 : w3.cell? ⟨wr.heap.size, 1, none⟩ = some (.string ⟨x.1.name.toArray⟩) := (HCE.out w3 hb3 1).trans rfl; have hc2 : w3.cell? ⟨wr.heap.size, 2, none⟩ = some (.string ⟨x.1.link.toArray⟩) := (HCE.out w3 hb3 2).trans rfl; have hc4 : w3.cell? ⟨wr.heap.size, 4, none⟩ = some (.int .i64 x.1.uid) := (HCE.out w3 hb3 4).trans rfl; have hc5 : w3.cell? ⟨wr.heap.size, 5, none⟩ = some (.int .i64 x.1.gid) := (HCE.out w3 hb3 5).trans rfl; have hc6 : w3.cell? ⟨wr.heap.size, 6, none⟩ = some (.string ⟨x.1.user.toArray⟩) := (HCE.out w3 hb3 6).trans rfl; have hc7 : w3.cell? ⟨wr.heap.size, 7, none⟩ = some (.string ⟨x.1.group.toArray⟩) := (HCE.out w3 hb3 7).trans rfl; have hc8 : w3.cell? ⟨wr.heap.size, 8, none⟩ = some (.int .i64 x.1.sec) := (HCE.out w3 hb3 8).trans rfl; have hc9 : w3.cell? ⟨wr.heap.size, 9, none⟩ = some (.int .i64 x.1.nano) := (HCE.out w3 hb3 9).trans rfl; have hc10 : w3.cell? ⟨wr.heap.size, 10, none⟩ = some (.slice x.2.1 x.2.2.1 x.2.2.2) := (HCE.out w3 hb3 10).trans rfl; have HB3 := Lib.hid (HBN.out.trans (hb3.mono HBN.out.size)); clear hb3))
      all_goals first
        | (go_ret; exact ⟨rfl, HB3.out⟩)
        | skip
      have hpE : PlainE x.1 := by
        have hnn : x.1.nano = 0 := by assumption
        exact ⟨HFZ.out.trans (by assumption), by omega, by omega, by omega, by omega, by omega, by omega, by simp [hnn], by omega, by omega⟩
      exact ⟨⟨k + 1, by omega, by go_num, by rw [HBE1.out, HBQ.out], HPL.out hpE, HB3⟩, by simp [intOf]; omega⟩
    · obtain rfl : k = n := by omega
      have hall2 := hall.out
      rw [List.take_of_length_le (by rw [HLL.out]; exact Nat.le_refl _)] at hall2
      have hpsc := plain_scribe L (fun e he => ⟨hall2 e he, HS.out.data e he⟩)
      rw [List.take_of_length_le (by rw [HLL.out]; exact Nat.le_refl _)]
      have hbl : blks L ≤ 4299161602 := by
        have h1 := blks_le L HS.out.count (fun e he => HS.out.data _ he)
        have h3 : L.length * 2050 ≤ 4299161600 := Nat.le_trans (Nat.mul_le_mul_right _ HS.out.count) (by decide)
        omega
      have HW1 : Hid (∀ (a : Option Addr) (n c : Nat) (S : List EnS) (w : World), Bru w → Pow10 w → Ens w a n c S → S.map (·.1) = L → Calls Tryd.prog 17 #[.slice a n c] w (ScrRes w (Plain.scribe L))) := Lib.hid (fun a n c S w ht hp he hm => by
        have := ScrWrite_any a n c S w ht hp he (by rw [hm]; exact HS.out)
        rw [hm] at this; exact this)
      generalize Plain.scribe L = r at *
      obtain ⟨l, code⟩ := r
      simp only at hpsc
      obtain ⟨rfl, hlen⟩ := hpsc
      generalize blks L = B0 at *
      have hw : IntKind.i64.wrap (512 * (B0 : Int)) = 512 * (B0 : Int) := by rw [IntKind.wrap_i64]; omega
      have HLEN := Lib.hid hlen
      clear hlen hall2
      go_wp2_with (first
        | (go_at_call 18; (refine (HC1.out wr (HH.out.below hbel.out)).mono ?_); rintro e w2 ⟨a2, n2, c2, S2, rfl, hn2⟩; have HN2 := Lib.hid hn2; have HB2 := Lib.hid (Below.seq hbel.out hn2.bel); clear hn2)
        | (go_at_call 17; (refine (HW1.out a2 n2 c2 S2 w2 (HT.out.below HB2.out) (HP.out.below HB2.out) HN2.out.ens HN2.out.map).mono ?_); rintro e w3 ⟨a3, n3, c3, rfl, ho3, hb3⟩; have hn3 : ((n3 : Int) == 512 * (B0 : Int)) = true := (by have h1 : l.length = n3 := own_len ho3; have h2 : l.length = 512 * B0 := HLEN.out; rw [beq_iff_eq]; omega); have HB3 := Lib.hid (Below.seq HB2.out hb3); clear ho3 hb3))
      go_ret
      exact ⟨rfl, HB3.out⟩
end Go.Proofs.YtamgiffkhnfpmaaDoor
namespace Go.Proofs.YtamgiffkhnfpmaaDoor
set_option linter.unusedVariables false
set_option linter.unusedSimpArgs false
open Go.ChangeShapes Go.WideShapes Go.ChangeAt Go.RowKit
/-- a table's numbers -/
def tabNums : DataW Unit → List Int
  | .agg ps => ps.map fun | .lit (.int _ z) => z | _ => 0
  | _ => []
theorem gBru : Tryd.prog.globalNamed "math/bits.deBruijn64tab" = some 7 := by kernel_rfl
theorem bru_of {laid : List (String × DataW Unit)} {W : World} (h : laidMetH Tryd.prog laid W) (hl : (laid.filter fun x => x.1 == "math/bits.deBruijn64tab") = [("math/bits.deBruijn64tab", Lib.tabData .u8 (tabNums Rows.laid_math_bits_deBruijn64tab))]) : Bru W := by
  have h1 := h.filter (fun x => x.1 == "math/bits.deBruijn64tab")
  rw [hl] at h1
  have ht := Lib.tabIs_of_head (rest := []) (n := 64) gBru (by kernel_rfl) Tryd.underlying167 Tryd.underlying5 (by kernel_rfl) (by kernel_rfl) h1
  have hc := ht.cell gBru 7 (of_decide_eq_true (by kernel_rfl))
  have e : (tabNums Rows.laid_math_bits_deBruijn64tab).getD 7 0 = 3 := by kernel_rfl
  rw [e] at hc
  exact hc
end Go.Proofs.YtamgiffkhnfpmaaDoor
