/-
  J09: ScrFit, CutOne, RecNext, RecYes, RecRead, RecLoop, WriteWalk, joined.
-/
import Derived.Test.YtamgiffkhnfpmaaDoorJ05
import Derived.Test.YtamgiffkhnfpmaaDoorJ08
import Derived.Test.YtamgiffkhnfpmaaDoorJ01
import Derived.Test.YtamgiffkhnfpmaaDoorShelf
import Derived.Lib.Bytealg
import Derived.Test.YtamgiffkhnfpmaaDoorJ04
import Derived.Test.YtamgiffkhnfpmaaDoorJ02
import Derived.RegionTactic
import Derived.Outline
import Derived.Deep.DeepCutAuto
import Derived.Deep.CutBlock
namespace Go.Proofs.YtamgiffkhnfpmaaDoor
set_option linter.unusedVariables false
set_option linter.unusedSimpArgs false
open Go.ChangeShapes Go.WideShapes Go.ChangeAt Go.RowKit
/-- the cells of an entry -/
def enC (e : En) (a : Option Addr) (n c : Nat) : Array Value := #[.int .i64 e.kind, .string ⟨e.name.toArray⟩, .string ⟨e.link.toArray⟩, .int .i64 e.mode, .int .i64 e.uid, .int .i64 e.gid, .string ⟨e.user.toArray⟩, .string ⟨e.group.toArray⟩, .int .i64 e.sec, .int .i64 e.nano, .slice a n c]
theorem enC_size (e : En) (a : Option Addr) (n c : Nat) : (enC e a n c).size = 11 := rfl
/-- the header of an entry ahead of the moves -/
def Plain.hd0 (e : En) : Hd := { name := e.name, link := e.link, mode := e.mode, uid := e.uid, gid := e.gid, size := 0, mtime := e.sec, ty := Plain.tyOf e.kind, user := e.user, group := e.group, major := 0, minor := 0, form := 0 }
structure EnFit (e : En) : Prop where
  k1 : 1 ≤ e.kind
  k4 : e.kind ≤ 4
  name : e.name.length ≤ 4096
  link : e.link.length ≤ 4096
  user : e.user.length ≤ 4096
  group : e.group.length ≤ 4096
  uid0 : 0 ≤ e.uid
  uid1 : e.uid ≤ 2147483647
  gid0 : 0 ≤ e.gid
  gid1 : e.gid ≤ 2147483647
  mode0 : 0 ≤ e.mode
  mode1 : e.mode ≤ 4095
  valid : Plain.valid e.sec e.nano = true
theorem txt_len {lo : Int} {s : List UInt8} (h : Plain.txt lo s = true) : s.length ≤ 4096 := by
  unfold Plain.txt at h
  simp only [Bool.and_eq_true, Bool.not_eq_true', decide_eq_false_iff_not] at h
  omega
theorem fit_of {e : En} (h : Plain.fitsE e = true) : EnFit e := by
  unfold Plain.fitsE Plain.fits at h
  obtain ⟨⟨k1, k4⟩, ⟨t1, t2, t3⟩, _, _, l3, l2, ⟨m0, m1⟩, ⟨u, g⟩, v⟩ := Plain.fitB_true.1 h
  unfold Plain.own at u g
  simp only [Bool.and_eq_true, decide_eq_true_eq] at u g
  refine ⟨k1, k4, txt_len t1, ?_, txt_len t2, txt_len t3, u.1, u.2, g.1, g.2, m0, m1, v⟩
  by_cases h3 : 3 ≤ e.kind
  · exact txt_len (l3 h3)
  · have := l2 (by omega)
    rw [List.isEmpty_iff] at this
    rw [this]; simp
theorem stampOf_len (sg : List UInt8) (s n : Int) (hs : sg.length ≤ 1) (h0 : 0 ≤ s) (h1 : s < 10 ^ 15) (n0 : 0 ≤ n) (n1 : n ≤ 1000000000) : (Plain.stampOf sg s n).length ≤ 100 := by
  have l1 := itoa_len s h0 h1
  have l2 := itoa_len (1000000000 + n) (by omega) (by omega)
  have l3 := trimRightB_len ((Lib.itoa (1000000000 + n)).drop 1) 48
  rw [List.length_drop] at l3
  unfold Plain.stampOf
  split
  · simp only [List.length_append, List.length_cons]; omega
  · simp only [List.length_append]; omega
theorem stamp_len (s n : Int) : (Plain.stamp s n).1.length ≤ 100 := by
  unfold Plain.stamp
  split
  · rename_i hv
    obtain ⟨b1, b2, b3, b4⟩ := Plain.valid_bounds s n hv
    split
    · split
      · exact stampOf_len [45] _ _ (by simp) (by omega) (by omega) (by omega) (by omega)
      · exact stampOf_len [45] _ _ (by simp) (by omega) (by omega) (by omega) (by omega)
    · exact stampOf_len [] _ _ (by simp) (by omega) (by omega) (by omega) (by omega)
  · simp
theorem one_mem {b : Bool} {p x : Pr} (h : x ∈ Plain.one? b p) : x = p := by
  cases b with
  | false => simp [Plain.one?] at h
  | true => simpa [Plain.one?] using h
theorem prs_sz (e : En) (h : EnFit e) : ∀ x ∈ Plain.prsOf e, x.1.length ≤ 140737488351232 ∧ x.2.length ≤ 140737488351232 := by
  intro x hx
  have n1 := h.name; have n2 := h.link; have n3 := h.user; have n4 := h.group
  have n5 := itoa_len e.uid h.uid0 (by have := h.uid1; omega); have n6 := itoa_len e.gid h.gid0 (by have := h.gid1; omega); have n7 := stamp_len e.sec e.nano
  unfold Plain.prsOf at hx
  simp only [List.mem_append] at hx
  rcases hx with (((((hx | hx) | hx) | hx) | hx) | hx) | hx <;> (have := one_mem hx; subst this; refine ⟨by simp [kPath, kLink, kUid, kGid, kUname, kGname, kMtime], ?_⟩; simp only; omega)
theorem prs_len (e : En) : (Plain.prsOf e).length ≤ 7 := by
  have l : ∀ b p, (Plain.one? b p).length ≤ 1 := fun b p => by cases b <;> simp [Plain.one?]
  unfold Plain.prsOf
  simp only [List.length_append]
  have := l (Plain.wPath e) (kPath, e.name); have := l (Plain.wLink e) (kLink, e.link); have := l (Plain.wUid e) (kUid, Lib.itoa e.uid); have := l (Plain.wGid e) (kGid, Lib.itoa e.gid)
  have := l (Plain.wUser e) (kUname, e.user); have := l (Plain.wGroup e) (kGname, e.group); have := l (Plain.wTime e) (kMtime, (Plain.stamp e.sec e.nano).1)
  omega
theorem write_le (l : List Pr) : (Plain.write l).1.length ≤ 1048576 := by
  unfold Plain.write
  split
  · simp
  · rename_i hk
    split
    · simp
    · rename_i hs
      rw [(write_flat l (by simpa using hk) (by omega)).2]
      omega
theorem hdOf_in (e : En) (h : EnFit e) : HdIn (Plain.hdOf e) := by
  have b := Plain.valid_bounds _ _ h.valid
  have h1 := h.mode0; have h2 := h.mode1; have h3 := h.uid0; have h4 := h.uid1; have h5 := h.gid0; have h6 := h.gid1
  refine ⟨(inI64_iff _).2 ?_, (inI64_iff _).2 ?_, (inI64_iff _).2 ?_, (inI64_iff _).2 ?_, (inI64_iff _).2 ?_, (inI64_iff _).2 ?_, (inI64_iff _).2 ?_⟩ <;> simp only [Plain.hdOf] <;> (try split) <;> omega
theorem hdOf_sz (e : En) (h : EnFit e) : HdSz (Plain.hdOf e) := by
  have n1 := h.name; have n2 := h.link; have n3 := h.user; have n4 := h.group
  refine ⟨?_, ?_, ?_, ?_⟩ <;> simp only [Plain.hdOf] <;> (try split) <;> (try simp) <;> omega
theorem paxHd_in : HdIn Plain.paxHd := ⟨by decide, by decide, by decide, by decide, by decide, by decide, by decide⟩
theorem paxHd_sz : HdSz Plain.paxHd := ⟨by decide, by decide, by decide, by decide⟩
/-- the header behind the seven moves -/
theorem hdOf_chain (e : En) : Plain.hdOf e =
    (let h0 := Plain.hd0 e
     let h1 : Hd := if Plain.wPath e then { h0 with name := [64] } else h0
     let h2 : Hd := if Plain.wLink e then { h1 with link := [] } else h1
     let h3 : Hd := if Plain.wUid e then { h2 with uid := 0 } else h2
     let h4 : Hd := if Plain.wGid e then { h3 with gid := 0 } else h3
     let h5 : Hd := if Plain.wUser e then { h4 with user := [] } else h4
     let h6 : Hd := if Plain.wGroup e then { h5 with group := [] } else h5
     if Plain.wTime e then { h6 with mtime := 0 } else h6) := by
  unfold Plain.hdOf Plain.hd0
  cases Plain.wPath e <;> cases Plain.wLink e <;> cases Plain.wUid e <;> cases Plain.wGid e <;> cases Plain.wUser e <;> cases Plain.wGroup e <;> cases Plain.wTime e <;> rfl
theorem laid_len (h : Hd) (hi : HdIn h) (d : List UInt8) (hd : d.length ≤ 9223372036854775807) : (Plain.laid h d).length ≤ d.length + 1024 := by
  have hl := make_len { h with size := (d.length : Int) } { hi with size := (inI64_iff _).2 (by simp only; omega) }
  unfold Plain.laid
  rw [List.length_append, List.length_append, hl, List.length_replicate]
  have : Plain.pad d.length < 512 ∧ 0 ≤ Plain.pad d.length := by unfold Plain.pad; split <;> omega
  omega
end Go.Proofs.YtamgiffkhnfpmaaDoor
namespace Go.Proofs.YtamgiffkhnfpmaaDoor
set_option linter.unusedVariables false
set_option linter.unusedSimpArgs false
open Go.ChangeShapes Go.WideShapes Go.ChangeAt Go.RowKit
theorem indexByte_while : ∀ (l : List UInt8) (c : UInt8), Lib.indexByte l c = if (l.takeWhile (· != c)).length < l.length then (((l.takeWhile (· != c)).length : Nat) : Int) else -1
  | [], c => by simp [Lib.indexByte]
  | b :: l, c => by
    have ih := indexByte_while l c
    unfold Lib.indexByte
    by_cases h : b = c
    · subst h
      rw [if_pos (by simp), List.takeWhile_cons_of_neg (by simp)]
      simp
    · rw [if_neg (by simpa using h), List.takeWhile_cons_of_pos (by simpa using h), ih]
      by_cases h2 : (l.takeWhile (· != c)).length < l.length
      · rw [if_pos h2, if_neg (by simp), if_pos (by simp; omega)]; simp
      · rw [if_neg h2, if_pos (by simp), if_neg (by simp; omega)]
theorem BIndexByte_any (a : Option Addr) (n c : Nat) (l : List UInt8) (cv : UInt8) (w : World) (h : Bs w a n c l) :
    Calls Tryd.prog 69 #[.slice a n c, .int .u8 (cv.toNat : Int)] w fun e w' => e = .returned (.int .i64 (Lib.indexByte l cv)) ∧ w = w' := by
  have hcv : ((cv.toNat : Int).toNat).toUInt8 = cv := by simp
  cases a with
  | none =>
    obtain ⟨rfl, rfl⟩ := h.2.2.2.2 rfl
    have : l = [] := List.eq_nil_of_length_eq_zero h.len
    subst this
    exact (Tryd.bytes_IndexByte_nil (cv.toNat : Int) w).mono fun e w' ⟨he, hw⟩ => ⟨he, hw.symm⟩
  | some x =>
    have hb : Lib.bytesOf (l.map fun b => (b.toNat : Int)) = l := by simp [Lib.bytesOf, Function.comp_def]
    refine (Tryd.bytes_IndexByte_at x n c (l.map fun b => (b.toNat : Int)) (cv.toNat : Int) w (by simpa using h.len) (fun i hi => ?_)).mono fun e w' ⟨he, hw⟩ => ⟨by rw [hb, hcv] at he; exact he, hw.symm⟩
    have hl := h.len
    have hil : i < l.length := by omega
    obtain ⟨y, hy, hc⟩ := h.2.2.2.1 i (u8v l[i]) (by simp [List.getElem?_eq_getElem hil])
    cases hy
    rw [hc]
    simp [List.getD, List.getElem?_eq_getElem hil, u8v]
/-- bytes.Cut at one byte: what it hands back -/
def BCutRes (w : World) (a : Option Addr) (n c : Nat) (l : List UInt8) (cv : UInt8) (e : Ending) (w' : World) : Prop :=
  Below w.heap.size w w' ∧ if (l.takeWhile (· != cv)).length < n then ∃ a1 a2, e = .returned (.tuple #[.slice a1 (l.takeWhile (· != cv)).length c, .slice a2 (n - ((l.takeWhile (· != cv)).length + 1)) (c - ((l.takeWhile (· != cv)).length + 1)), .bool true]) ∧ Bs w' a1 (l.takeWhile (· != cv)).length c (l.takeWhile (· != cv))
    else ∃ v1 v2, e = .returned (.tuple #[v1, v2, .bool false])
theorem bs_take {w : World} {a : Option Addr} {n c : Nat} {l : List UInt8} (h : Bs w a n c l) (i : Nat) (hi : i ≤ n) : Bs w a i c (l.take i) := by
  have hl := h.len; have hcap := h.cap; have hm := h.max
  refine ⟨by simp; omega, by omega, by unfold maxLen; omega, fun j v hj => ?_, fun ha => ?_⟩
  · rw [List.map_take, List.getElem?_take] at hj
    split at hj
    · exact h.2.2.2.1 j v hj
    · cases hj
  · have := h.2.2.2.2 ha
    omega
theorem while_take (l : List UInt8) (p : UInt8 → Bool) : l.takeWhile p = l.take (l.takeWhile p).length := List.prefix_iff_eq_take.1 (List.takeWhile_prefix _)
theorem bcut_yes {w w' : World} {a : Option Addr} {n c i : Nat} {l : List UInt8} {cv : UInt8} (hi : (l.takeWhile (· != cv)).length = i) (hf : i < n) (a1 a2 : Option Addr) (m k : Nat) (hm : m = n - (i + 1)) (hk : k = c - (i + 1)) (hb : Below w.heap.size w w') (h : Bs w' a1 i c (l.take i)) :
    BCutRes w a n c l cv (.returned (.tuple #[.slice a1 i c, .slice a2 m k, .bool true])) w' := by
  subst hm; subst hk
  have ht := while_take l (· != cv)
  rw [hi] at ht
  unfold BCutRes
  rw [hi, if_pos hf, ht]
  exact ⟨hb, a1, a2, rfl, h⟩
theorem bcut_no {w w' : World} {a : Option Addr} {n c i : Nat} {l : List UInt8} {cv : UInt8} (hi : (l.takeWhile (· != cv)).length = i) (hf : ¬ i < n) (v1 v2 : Value) (hb : Below w.heap.size w w') :
    BCutRes w a n c l cv (.returned (.tuple #[v1, v2, .bool false])) w' := by
  unfold BCutRes
  rw [hi, if_neg hf]
  exact ⟨hb, v1, v2, rfl⟩
end Go.Proofs.YtamgiffkhnfpmaaDoor
namespace Go.Proofs.YtamgiffkhnfpmaaDoor
set_option linter.unusedVariables false
set_option linter.unusedSimpArgs false
open Go.ChangeShapes Go.WideShapes Go.ChangeAt Go.RowKit
theorem suffix_one (t : List UInt8) (c : UInt8) : Lib.hasSuffix t [c] = decide (t.getLast? = some c) ∧ (Lib.hasSuffix t [c] = true → Lib.trimSuffix t [c] = t.dropLast) := by
  have h1 : Lib.hasSuffix t [c] = decide (t.getLast? = some c) := by
    unfold Lib.hasSuffix
    rw [Bool.eq_iff_iff]
    simp only [decide_eq_true_eq]
    constructor
    · intro h
      have := h
      simp [List.isSuffixOf_iff_suffix] at this
      obtain ⟨s, rfl⟩ := this
      simp
    · intro h
      obtain ⟨s, rfl⟩ := List.getLast?_eq_some_iff.1 h
      simp [List.isSuffixOf_iff_suffix]
  refine ⟨h1, fun h => ?_⟩
  unfold Lib.trimSuffix
  rw [if_pos h, List.dropLast_eq_take]
  rfl
/-- what strings.Cut answers at one byte -/
def cutV (l : List UInt8) (cv : UInt8) : Value := if (l.takeWhile (· != cv)).length < l.length then .tuple #[.string ⟨(l.takeWhile (· != cv)).toArray⟩, .string ⟨(l.drop ((l.takeWhile (· != cv)).length + 1)).toArray⟩, .bool true] else .tuple #[.string ⟨l.toArray⟩, .string ⟨#[]⟩, .bool false]
/-- what 'next' hands back -/
def NextRes (w : World) (n c : Nat) (l : List UInt8) (r : Option ((List UInt8 × List UInt8) × Nat)) (e : Ending) (w' : World) : Prop :=
  Below w.heap.size w w' ∧ match r with
    | none => e = .returned (.tuple #[.agg #[.string ⟨#[]⟩, .string ⟨#[]⟩], .slice none 0 0, .bool false])
    | some (p, m) => ∃ a', e = .returned (.tuple #[.agg #[.string ⟨p.1.toArray⟩, .string ⟨p.2.toArray⟩], .slice a' (n - m) (c - m), .bool true]) ∧ Bs w' a' (n - m) (c - m) (l.drop m)
/-- the world in which bytes.Cut is called: the result's variable, the blank -/
def nextW (w : World) : World := (w.alloc (.cells #[.string ⟨#[]⟩, .string ⟨#[]⟩] 98)).alloc (.cells #[.int .u8 32] 5 (1, 2))
theorem nextW_below (w : World) : Below w.heap.size w (nextW w) := ((Below.refl _ _).alloc (Nat.le_refl _) _).alloc (by simp) _
theorem nextW_blank (w : World) : (nextW w).cell? ⟨w.heap.size + 1, 0, none⟩ = some (.int .u8 ((32 : UInt8).toNat : Int)) := by
  have e : (w.alloc (.cells #[.string ⟨#[]⟩, .string ⟨#[]⟩] 98)).heap.size = w.heap.size + 1 := by simp
  rw [nextW, ← e, World.cell?_alloc_mark]; rfl
theorem nextW_size (w : World) : (nextW w).heap.size = w.heap.size + 2 := by unfold nextW; simp
theorem nextW_row (w : World) : (nextW w).heap[w.heap.size]? = some (.cells #[.string ⟨#[]⟩, .string ⟨#[]⟩] 98 (0, 0)) := heap_alloc2_old _ _ _
/-- what holds of the result's variable behind a call -/
structure NextAt (w wr : World) : Prop where
  bel : Below w.heap.size w wr
  lt : w.heap.size + 1 < wr.heap.size
  c0 : wr.cell? ⟨w.heap.size, 0, none⟩ = some (.string ⟨#[]⟩)
  c1 : wr.cell? ⟨w.heap.size, 1, none⟩ = some (.string ⟨#[]⟩)
  f0 : wr.frozen? ⟨w.heap.size, 0, none⟩ = false
  f1 : wr.frozen? ⟨w.heap.size, 1, none⟩ = false
theorem NextAt.of {w wr : World} (h : Below (nextW w).heap.size (nextW w) wr) : NextAt w wr := by
  have hs := nextW_size w
  have hz := h.size
  have hr : wr.heap[w.heap.size]? = some (.cells #[.string ⟨#[]⟩, .string ⟨#[]⟩] 98 (0, 0)) := by
    rw [h.block _ (by omega)]; exact nextW_row w
  exact ⟨Below.seq (nextW_below w) h, by omega, by rw [cell_of_row _ _ _ _ _ _ hr]; rfl, by rw [cell_of_row _ _ _ _ _ _ hr]; rfl, frozen_of_row _ _ _ _ _ hr, frozen_of_row _ _ _ _ _ hr⟩
theorem NextAt.keep {w wr w' : World} (h : NextAt w wr) (k : Below wr.heap.size wr w') : NextAt w w' := by
  have hl := h.lt
  have hz := k.size
  refine ⟨Below.seq h.bel k, by omega, Below.keeps k _ _ h.c0, Below.keeps k _ _ h.c1, ?_, ?_⟩
  · rw [k.frozen (p := ⟨w.heap.size, 0, none⟩) (by simp only; omega)]; exact h.f0
  · rw [k.frozen (p := ⟨w.heap.size, 1, none⟩) (by simp only; omega)]; exact h.f1
theorem nextW_conv (w : World) : (convert 23 23 (.slice (some ⟨w.heap.size + 1, 0, none⟩) 1 1)).run Tryd.prog ((w.alloc (.cells #[.string ⟨#[]⟩, .string ⟨#[]⟩] 98)).alloc (.cells #[.int .u8 32] 5)) = .ok (.slice (some ⟨w.heap.size + 1, 0, none⟩) 1 1) (nextW w) := by
  have e : (w.alloc (.cells #[.string ⟨#[]⟩, .string ⟨#[]⟩] 98)).heap.size = w.heap.size + 1 := by simp
  have := Lib.run_convert_bytes_const (P := Tryd.prog) (w.alloc (.cells #[.string ⟨#[]⟩, .string ⟨#[]⟩] 98)) 23 5 #[.int .u8 32] 1 1 Tryd.underlying23 Tryd.underlying5
  rw [e] at this
  exact this
theorem one_unfound (l : List UInt8) (h : ¬ (recHead l).length < l.length) : Plain.one l = none := by
  unfold Plain.one; rw [if_neg (fun hc => h hc.1)]
end Go.Proofs.YtamgiffkhnfpmaaDoor
namespace Go.Proofs.YtamgiffkhnfpmaaDoor
set_option linter.unusedVariables false
set_option linter.unusedSimpArgs false
open Go.ChangeShapes Go.WideShapes Go.ChangeAt Go.RowKit
/-- a record is found -/
def YesRes (w : World) (a : Option Addr) (n c X : Nat) (l k v : List UInt8) (e : Ending) (w' : World) : Prop :=
  ∃ a', e = .returned (.tuple #[.agg #[.string ⟨k.toArray⟩, .string ⟨v.toArray⟩], .slice a' (n - X) (c - X), .bool true]) ∧ (∀ w0, Bs w0 a n c l → Bs w0 a' (n - X) (c - X) (l.drop X)) ∧ Below w.heap.size w w'
theorem yes_far {w w' : World} {b off n c X : Nat} {l k v : List UInt8} (h : Bs w (some ⟨b, off, none⟩) n c l) (hX : X ≤ n) (hne : ¬ c = X) (hb : Below w.heap.size w w') :
    YesRes w (some ⟨b, off, none⟩) n c X l k v (.returned (.tuple #[.agg #[.string ⟨k.toArray⟩, .string ⟨v.toArray⟩], .slice (some ⟨b, off + X, none⟩) (n - X) (c - X), .bool true])) w' := by
  refine ⟨_, rfl, fun w0 h => ?_, hb⟩
  have := bs_cut h X n hX (Nat.le_refl _)
  have hl := h.len
  rw [if_neg hne, List.take_of_length_le (by omega)] at this
  have e : (Option.map (fun x : Addr => x.add (X * 1)) (some ⟨b, off, none⟩)) = some ⟨b, off + X, none⟩ := by rw [Option.map_some, Nat.mul_one, Addr.add_lit]
  rw [e] at this
  exact this
theorem yes_near {w w' : World} {b off n X : Nat} {l k v : List UInt8} (h : Bs w (some ⟨b, off, none⟩) n X l) (hX : X ≤ n) (hb : Below w.heap.size w w') :
    YesRes w (some ⟨b, off, none⟩) n X X l k v (.returned (.tuple #[.agg #[.string ⟨k.toArray⟩, .string ⟨v.toArray⟩], .slice (some ⟨b, off, none⟩) (n - X) 0, .bool true])) w' := by
  refine ⟨some ⟨b, off, none⟩, ?_, fun w0 h => ?_, hb⟩
  · rw [Nat.sub_self]
  · have := bs_cut h X n hX (Nat.le_refl _)
    have hl := h.len
    rw [if_pos rfl, List.take_of_length_le (by omega)] at this
    exact this
end Go.Proofs.YtamgiffkhnfpmaaDoor
namespace Go.Proofs.YtamgiffkhnfpmaaDoor
set_option linter.unusedVariables false
set_option linter.unusedSimpArgs false
open Go.ChangeShapes Go.WideShapes Go.ChangeAt Go.RowKit
/-- what record.next hands back -/
def NextR (w : World) (a : Option Addr) (n c : Nat) (l : List UInt8) (r : Option ((List UInt8 × List UInt8) × Nat)) (e : Ending) (w' : World) : Prop :=
  Below w.heap.size w w' ∧ match r with
    | none => e = .returned (.tuple #[.agg #[.string ⟨#[]⟩, .string ⟨#[]⟩], .slice none 0 0, .bool false])
    | some (p, m) => ∃ a', e = .returned (.tuple #[.agg #[.string ⟨p.1.toArray⟩, .string ⟨p.2.toArray⟩], .slice a' (n - m) (c - m), .bool true]) ∧ ∀ w0, Bs w0 a n c l → Bs w0 a' (n - m) (c - m) (l.drop m)
theorem NextR.none {w w' : World} {a : Option Addr} {n c : Nat} {l : List UInt8} {e : Ending} (h : e = .returned (.tuple #[.agg #[.string ⟨#[]⟩, .string ⟨#[]⟩], .slice Option.none 0 0, .bool false]) ∧ Below w.heap.size w w') : NextR w a n c l Option.none e w' := ⟨h.2, h.1⟩
theorem NextR.some {w w' : World} {a : Option Addr} {n c X : Nat} {l k v : List UInt8} {e : Ending} (h : YesRes w a n c X l k v e w') : NextR w a n c l (Option.some ((k, v), X)) e w' := by
  obtain ⟨a', h1, h2, h3⟩ := h
  exact ⟨h3, a', h1, h2⟩
/-- what Read hands back -/
def ReadRes (w : World) (r : Option (List Pr)) (e : Ending) (w' : World) : Prop :=
  Below w.heap.size w w' ∧ match r with
    | Option.none => e = .returned (.tuple #[.slice Option.none 0 0, .int .i64 50])
    | Option.some ps => ∃ a n c, e = .returned (.tuple #[.slice a n c, .int .i64 0]) ∧ w'.ownsRow w.heap.size 98 2 (.slice a n c) n (ps.flatMap prCells)
def slen : Value → Nat
  | .slice _ n _ => n
  | _ => 0
theorem ReadRes.no {w w' : World} (h : Below w.heap.size w w') : ReadRes w Option.none (.returned (.tuple #[.slice Option.none 0 0, .int .i64 50])) w' := ⟨h, rfl⟩
theorem ReadRes.yes {w w' : World} {ps : List Pr} {a : Option Addr} {n c : Nat} (h : Below w.heap.size w w') (ho : w'.ownsRow w.heap.size 98 2 (.slice a n c) n (ps.flatMap prCells)) : ReadRes w (Option.some ps) (.returned (.tuple #[.slice a n c, .int .i64 0])) w' := ⟨h, a, n, c, rfl, ho⟩
end Go.Proofs.YtamgiffkhnfpmaaDoor
namespace Go.Proofs.YtamgiffkhnfpmaaDoor
set_option linter.unusedVariables false
set_option linter.unusedSimpArgs false
open Go.ChangeShapes Go.WideShapes Go.ChangeAt Go.RowKit
theorem Below.seq2 {B : Nat} {w0 w w' : World} (h : Below B w0 w) (k : Below w.heap.size w w') (hB : B ≤ w.heap.size) : Below B w0 w' := h.trans (k.mono hB)
theorem own_below2 {w w' : World} {base : Nat} {e : TypeId} {sz : Nat} {v : Value} {n : Nat} {xs : List Value} (h : w.ownsRow base e sz v n xs) (k : Below w.heap.size w w') : w'.ownsRow base e sz v n xs := own_keep h fun j _ hj => k.block j hj
/-- the world in which a found pair is appended -/
def pairW (w : World) (p : Pr) : World := (w.alloc (.cells #[.string ⟨p.1.toArray⟩, .string ⟨p.2.toArray⟩] 98)).alloc (.cells #[.string ⟨p.1.toArray⟩, .string ⟨p.2.toArray⟩] 98)
theorem pairW_own {w : World} {base : Nat} {e : TypeId} {sz : Nat} {v : Value} {n : Nat} {xs : List Value} (h : w.ownsRow base e sz v n xs) (p : Pr) : (pairW w p).ownsRow base e sz v n xs :=
  own_below2 h (((Below.refl _ _).alloc (Nat.le_refl _) _).alloc (by simp) _)
theorem pairW_new (w : World) (p : Pr) : IsSl (pairW w p) 2 (some ⟨w.heap.size + 1, 0, none⟩) 1 1 ([p].flatMap prCells) := by
  have := isSl_new (w.alloc (.cells #[.string ⟨p.1.toArray⟩, .string ⟨p.2.toArray⟩] 98)) 98 2 1 #[.string ⟨p.1.toArray⟩, .string ⟨p.2.toArray⟩] rfl (by decide)
  simpa [pairW, prCells] using this
theorem pairW_below {B : Nat} {w0 w : World} (h : Below B w0 w) (p : Pr) (hB : B ≤ w.heap.size) : Below B w0 (pairW w p) := (h.alloc hB _).alloc (by simp; omega) _
end Go.Proofs.YtamgiffkhnfpmaaDoor
namespace Go.Proofs.YtamgiffkhnfpmaaDoor
set_option linter.unusedVariables false
set_option linter.unusedSimpArgs false
open Go.ChangeShapes Go.WideShapes Go.ChangeAt Go.RowKit
/-- what Write hands back: bytes in new memory -/
def WriteRes (w : World) (r : List UInt8 × Int) (e : Ending) (w' : World) : Prop :=
  ∃ a n c, e = .returned (.tuple #[.slice a n c, .int .i64 r.2]) ∧ w'.ownsRow w.heap.size 5 1 (.slice a n c) n (r.1.map u8v) ∧ Below w.heap.size w w'
theorem WriteRes.no {w w' : World} {x : Int} (h : Below w.heap.size w w') : WriteRes w ([], x) (.returned (.tuple #[.slice none 0 0, .int .i64 x])) w' := ⟨none, 0, 0, rfl, World.ownsRow_nil _ _ _ _, h⟩
theorem recSum_succ (l : List Pr) (k : Nat) (h : k < l.length) : recSum (l.take (k + 1)) = recSum (l.take k) + recSize (l.getD k ([], [])) := by
  unfold recSum
  rw [List.take_succ_eq_append_getElem h, List.map_append, List.sum_append]
  simp [List.getD, List.getElem?_eq_getElem h]
theorem recSum_le (l : List Pr) (k : Nat) : recSum (l.take k) ≤ recSum l := by
  unfold recSum
  conv => rhs; rw [← List.take_append_drop k l, List.map_append, List.sum_append]
  omega
theorem any_bad (l : List Pr) (k : Nat) (h : k < l.length) (hb : badKey (l.getD k ([], [])).1 = true) : l.any (fun p => badKey p.1) = true := by
  rw [List.any_eq_true]
  exact ⟨l[k], List.getElem_mem h, by simpa [List.getD, List.getElem?_eq_getElem h] using hb⟩
theorem any_good (l : List Pr) (h : ∀ k, k < l.length → badKey (l.getD k ([], [])).1 = false) : l.any (fun p => badKey p.1) = false := by
  rw [List.any_eq_false]
  intro x hx
  obtain ⟨k, hk, rfl⟩ := List.getElem_of_mem hx
  have := h k hk
  simp only [List.getD, List.getElem?_eq_getElem hk, Option.getD_some] at this
  simp [this]
theorem write_bad (l : List Pr) (k : Nat) (h : k < l.length) (hb : badKey (l.getD k ([], [])).1 = true) : Plain.write l = ([], 51) := by
  unfold Plain.write; rw [if_pos (any_bad l k h hb)]
theorem write_long (l : List Pr) (h : ∀ k, k < l.length → badKey (l.getD k ([], [])).1 = false) (hs : 1048576 < recSum l) : Plain.write l = ([], 21) := by
  unfold Plain.write; rw [if_neg (by rw [any_good l h]; exact Bool.false_ne_true), if_pos hs]
theorem write_good (l : List Pr) (h : ∀ k, k < l.length → badKey (l.getD k ([], [])).1 = false) (hs : recSum l ≤ 1048576) : Plain.write l = (l.flatMap recBytes, 0) := by
  unfold Plain.write; rw [if_neg (by rw [any_good l h]; exact Bool.false_ne_true), if_neg (by omega)]
theorem badKey_eq (k : List UInt8) : badKey k = (k.isEmpty || decide (61 ∈ k)) := by
  unfold badKey
  cases k with
  | nil => rfl
  | cons c r => simp
theorem recs_len (l : List Pr) (n : Nat) (hl : l.length = n) (hq : ∀ k, k < n → (l.getD k ([], [])).1.length ≤ 140737488351232 ∧ (l.getD k ([], [])).2.length ≤ 140737488351232) : ∀ k, k ≤ n → ((l.take k).flatMap recBytes).length = recSum (l.take k)
  | 0, _ => by simp [recSum]
  | k + 1, hk => by
    have ih := recs_len l n hl hq k (by omega)
    have hk' : k < l.length := by omega
    have hb := hq k (by omega)
    rw [recSum_succ l k hk', List.take_succ_eq_append_getElem hk', List.flatMap_append, List.length_append, ih]
    have e : l.getD k ([], []) = l[k] := by simp [List.getD, List.getElem?_eq_getElem hk']
    rw [e] at hb ⊢
    have := recBytes_len l[k] (by unfold recBase; omega)
    simp [this]
theorem recs_succ (l : List Pr) (k : Nat) (h : k < l.length) : (l.take (k + 1)).flatMap recBytes = (l.take k).flatMap recBytes ++ recBytes (l.getD k ([], [])) := by
  rw [List.take_succ_eq_append_getElem h, List.flatMap_append]
  simp [List.getD, List.getElem?_eq_getElem h]
theorem rec_text (D k v : List UInt8) : ((⟨D.toArray⟩ : ByteArray) ++ ⟨#[32]⟩ ++ ⟨k.toArray⟩ ++ ⟨#[61]⟩ ++ ⟨v.toArray⟩ ++ ⟨#[10]⟩).data.toList = D ++ (32 :: (k ++ (61 :: (v ++ [10])))) := by
  simp [ByteArray.data_append]
theorem cell_app {w0 w w' : World} {base : Nat} {e : TypeId} {sz : Nat} {v : Value} {n : Nat} {xs : List Value} (ho : w0.ownsRow base e sz v n xs) (hg : w.grownBy w' v.ownBlock) {b off : Nat} (hb : w0.heap.size ≤ b) (hlt : b < w.heap.size) {x : Value} (hc : w.cell? ⟨b, off, none⟩ = some x) : w'.cell? ⟨b, off, none⟩ = some x := by
  rw [World.cell?_of_block (a := ⟨b, off, none⟩) (hg.block b hlt (fun e => by have := (ho.lt b e.symm).2; omega))]; exact hc
/-- how far the first loop has come: the sum while there is room -/
def Room (l : List Pr) (k : Nat) (b : Bool) (T : Int) : Prop := (b = true ∧ T = (recSum (l.take k) : Int) ∧ T ≤ 1048576) ∨ (b = false ∧ 1048576 < recSum (l.take k))
theorem Room.step {l : List Pr} {k : Nat} {T : Int} (h : Room l k true T) (hk : k < l.length) : Room l (k + 1) (decide (T + min (recSize (l.getD k ([], [])) : Int) 1048577 ≤ 1048576)) (T + min (recSize (l.getD k ([], [])) : Int) 1048577) := by
  rcases h with ⟨_, h1, h2⟩ | ⟨h1, _⟩
  · have hs := recSum_succ l k hk
    by_cases hc : T + min (recSize (l.getD k ([], [])) : Int) 1048577 ≤ 1048576
    · left
      refine ⟨dec_t hc, ?_, hc⟩
      rw [hs]; omega
    · right
      refine ⟨dec_f hc, ?_⟩
      rw [hs]; omega
  · cases h1
theorem Room.stay {l : List Pr} {k : Nat} {T : Int} (h : Room l k false T) (hk : k < l.length) : Room l (k + 1) false T := by
  rcases h with ⟨h1, _⟩ | ⟨_, h2⟩
  · cases h1
  · right; refine ⟨rfl, ?_⟩; rw [recSum_succ l k hk]; omega
set_option maxRecDepth 100000 in
set_option maxHeartbeats 3200000 in
theorem Write_any (a : Option Addr) (n c : Nat) (l : List Pr) (w : World) (ht : Pow10 w) (h : Prs w a n c l) (hq : ∀ x ∈ l, x.1.length ≤ 140737488351232 ∧ x.2.length ≤ 140737488351232) :
    Calls Tryd.prog 63 #[.slice a n c] w (WriteRes w (Plain.write l)) := by
  have hl := h.len; have hcap := h.cap; have hmax := h.max
  have hqq : ∀ k, k < n → (l.getD k ([], [])).1.length ≤ 140737488351232 ∧ (l.getD k ([], [])).2.length ≤ 140737488351232 := fun k hk => by
    have hk' : k < l.length := by omega
    have := hq _ (List.getElem_mem hk')
    simpa [List.getD, List.getElem?_eq_getElem hk'] using this
  have HL := Lib.hid hl; have HH := Lib.hid h; have HQ := Lib.hid hqq; have HT := Lib.hid ht; clear hl h hq hqq ht
  generalize hr : Plain.write l = r
  have HR := Lib.hid hr; clear hr
  have hs0 : SumAt w.heap.size 0 (w.alloc (.cells #[.int .i64 0] 3)) := heap_alloc_new w _
  have hb0 := (Below.refl w.heap.size w).alloc (Nat.le_refl _) (.cells #[.int .i64 0] 3)
  have HS0 := Lib.hid hs0; have HB0 := Lib.hid hb0; clear hs0 hb0
  go_enter Tryd.func63, Tryd.ntmps63
  go_wp2
  go_loopw [6, 15] (fun b i wr => ∃ (k : Nat) (rb : Bool) (T : Int), k ≤ n ∧ i = .int .i64 k ∧ b = .bool rb ∧ Hid (∀ j, j < k → badKey (l.getD j ([], [])).1 = false) ∧ Hid (Room l k rb T) ∧ 0 ≤ T ∧ T ≤ 2097153 ∧ (rb = true → T ≤ 1048576) ∧ Hid (SumAt w.heap.size T wr) ∧ Hid (Below w.heap.size w wr)) (fun _ i _ => n - (intOf i).toNat)
  case atStart => exact ⟨0, true, 0, Nat.zero_le _, rfl, rfl, Lib.hid (fun j hj => absurd hj (Nat.not_lt_zero j)), Lib.hid (.inl ⟨rfl, rfl, by decide⟩), by decide, by decide, fun _ => by decide, HS0, HB0⟩
  case round =>
    obtain ⟨k, rb, T, hk, rfl, rfl, hgood, hroom, hT0, hT1, hT2, hsum, hbel⟩ := hrel
    by_cases hlt : k < n
    · have hq2 := HQ.out k hlt
      have hkl : k < l.length := by rw [HL.out]; exact hlt
      obtain ⟨b1, o1, rfl, h1, h1'⟩ := (Below.prs hbel.out HH.out).at k hlt
      have hbk := badKey_eq (l.getD k ([], [])).1
      have hst := fun (e : rb = true) => Room.step (T := T) (by rw [← e]; exact hroom.out) hkl
      have hstay := fun (e : rb = false) => Room.stay (T := T) (by rw [← e]; exact hroom.out) hkl
      have hnx : badKey (l.getD k ([], [])).1 = false → ∀ j, j < k + 1 → badKey (l.getD j ([], [])).1 = false := fun hb j hj => by
        by_cases e : j = k
        · subst e; exact hb
        · exact hgood.out j (by omega)
      have hbad := fun hb => write_bad l k hkl hb
      generalize l.getD k ([], []) = g at *
      obtain ⟨g1, g2⟩ := g
      simp only at *
      have HAdd := Lib.hid (fun (wx : World) (ht : Pow10 wx) (hs : SumAt w.heap.size T wx) (h1 : T ≤ 1048576) => Add_any (g1, g2) w.heap.size T wx ht hq2.1 hq2.2 hs hT0 h1)
      have HBK := Lib.hid hbk; have HST := Lib.hid hst; have HSTAY := Lib.hid hstay; have HNX := Lib.hid hnx; have HBAD := Lib.hid hbad
      clear hbk hst hstay hnx hbad hkl
      have hb1 := hbel.out.alloc hbel.out.size (.cells #[.string ⟨g1.toArray⟩, .string ⟨g2.toArray⟩] 98)
      have hs1 := hsum.out.keep ((Below.refl _ _).alloc (Nat.le_refl _) (.cells #[.string ⟨g1.toArray⟩, .string ⟨g2.toArray⟩] 98))
      have HB1 := Lib.hid hb1; have HS1 := Lib.hid hs1; clear hb1 hs1
      have hki : (k : Int) < n := by omega
      by_cases hb : badKey g1 = true
      · have HRR := Lib.hid (HR.out.symm.trans (HBAD.out hb))
        by_cases he : g1 = []
        · subst he
          clear hb
          go_wp2
          go_ret2
          rw [HRR.out]
          exact WriteRes.no HB1.out
        · have he2 : g1.isEmpty = false := by simpa using he
          have hc : decide (61 ∈ g1) = true := by
            have := HBK.out; rw [hb, he2, Bool.false_or] at this; exact this.symm
          clear hb he
          go_wp2_with (go_at_call 91; (with_reducible refine (Contains_any g1 61 _).mono ?_); rintro e w3 ⟨rfl, hw3⟩; obtain rfl := hw3)
          go_ret2
          rw [HRR.out]
          exact WriteRes.no HB1.out
      · have hg : badKey g1 = false := by simpa using hb
        have he2 : g1.isEmpty = false := by
          have := HBK.out; rw [hg] at this
          cases h : g1.isEmpty with
          | false => rfl
          | true => rw [h] at this; simp at this
        have hc : decide (61 ∈ g1) = false := by
          have := HBK.out; rw [hg, he2, Bool.false_or] at this; exact this.symm
        have HNX2 := Lib.hid (HNX.out hg)
        clear hb hg HNX
        cases rb with
        | true =>
          have hT3 := hT2 rfl
          have HSTEP := Lib.hid (HST.out rfl)
          clear hT2
          have hmin := Int.min_def (recSize (g1, g2) : Int) 1048577
          have hM0 : 0 ≤ min (recSize (g1, g2) : Int) 1048577 ∧ min (recSize (g1, g2) : Int) 1048577 ≤ 1048577 := by rw [hmin]; split <;> omega
          clear hmin
          generalize min (recSize (g1, g2) : Int) 1048577 = M at *
          go_wp2_with (first
            | (go_at_call 91; (with_reducible refine (Contains_any g1 61 _).mono ?_); rintro e w3 ⟨rfl, hw3⟩; obtain rfl := hw3)
            | (go_at_call 89; (refine (HAdd.out _ (by exact HT.out.below HB1.out) (by exact HS1.out) hT3).mono ?_); rintro e w4 ⟨rfl, hs4, hb4⟩; have HS4 := Lib.hid hs4; have HB4 := Lib.hid (HB1.out.trans hb4); clear hs4 hb4))
          go_round
          case rel => exact ⟨k + 1, _, T + M, by omega, by go_num, rfl, HNX2, HSTEP, by omega, by omega, fun h => by simpa using h, HS4, HB4⟩
          case measure => simp [intOf]; omega
        | false =>
          have HSTAY2 := Lib.hid (HSTAY.out rfl)
          go_wp2_with (go_at_call 91; (with_reducible refine (Contains_any g1 61 _).mono ?_); rintro e w3 ⟨rfl, hw3⟩; obtain rfl := hw3)
          go_round
          case rel => exact ⟨k + 1, false, T, by omega, by go_num, rfl, HNX2, HSTAY2, by omega, by omega, (fun h => by cases h), HS1, HB1⟩
          case measure => simp [intOf]; omega
    · obtain rfl : k = n := by omega
      have hgoodl : ∀ j, j < l.length → badKey (l.getD j ([], [])).1 = false := fun j hj => hgood.out j (by rw [← HL.out]; exact hj)
      have htk : l.take k = l := List.take_of_length_le (by rw [HL.out]; exact Nat.le_refl _)
      have hrm := hroom.out
      have hki : ¬ (k : Int) < k := by omega
      have hc0 := hsum.out.cell
      rcases hrm with ⟨rfl, hT, hT3⟩ | ⟨rfl, hover⟩
      · rw [htk] at hT
        have hle : recSum l ≤ 1048576 := by omega
        have HRR := Lib.hid (HR.out.symm.trans (write_good l hgoodl hle))
        obtain ⟨m, hm⟩ : ∃ m : Nat, T = (m : Int) := ⟨T.toNat, by omega⟩
        have hml : m = recSum l := by omega
        have HML := Lib.hid hml
        have hmb : m ≤ 1048576 := by omega
        subst hm
        clear hgoodl htk hT hle hml hT0 hT1 hT2 hT3 hgood hroom
        obtain ⟨i0, hi0, hz0, hz1, hz2⟩ := info_parts infoU8
        have hby : i0.bytes * m ≤ 281474976710656 := by rw [hz2]; omega
        go_wp2_with (at_make; refine wpList_make_own _ rfl _ _ 23 rfl w.heap.size 5 i0 _ 1 Tryd.underlying23 hi0 hz0 hz1 .i64 .i64 _ m rfl rfl (by omega) hby (by unfold maxLen; omega) hbel.out.size ?_; intro w1 ho1 hg1)
        have hb1 : Below w.heap.size w w1 := below_app hbel.out (World.ownsRow_nil wr w.heap.size 5 1) hg1 (Nat.le_refl _) hbel.out.size
        have HB1 := Lib.hid hb1; have HO1 := Lib.hid ho1
        clear hb1 ho1 hg1 hc0 hsum hbel
        go_loopw [9, 40] (fun v i wr => ∃ (j m2 : Nat) (a2 : Option Addr) (c2 : Nat), j ≤ k ∧ i = .int .i64 j ∧ v = .slice a2 m2 c2 ∧ Hid (wr.ownsRow w.heap.size 5 1 (.slice a2 m2 c2) m2 (((l.take j).flatMap recBytes).map u8v)) ∧ Hid (Below w.heap.size w wr)) (fun _ i _ => k - (intOf i).toNat)
        case atStart => exact ⟨0, 0, _, _, Nat.zero_le _, rfl, rfl, Lib.hid (by simpa using HO1.out), HB1⟩
        case round =>
          obtain ⟨j, m2, a2, c2, hj, rfl, rfl, hown, hbel⟩ := hrel
          have hm2 : m2 = recSum (l.take j) := by rw [← own_len hown.out]; exact recs_len l k HL.out HQ.out j hj
          have hm3 : m2 ≤ 1048576 := by rw [hm2]; have := recSum_le l j; rw [← HML.out] at this; omega
          clear hm2
          by_cases hlt : j < k
          · have hq2 := HQ.out j hlt
            have hjl : j < l.length := by rw [HL.out]; exact hlt
            obtain ⟨b1, o1, rfl, h1, h1'⟩ := (Below.prs hbel.out HH.out).at j hlt
            have hap := recs_succ l j hjl
            have hrs := recSum_succ l j hjl
            have hrl := recSum_le l (j + 1)
            have hjl2 := recs_len l k HL.out HQ.out j hj
            generalize l.getD j ([], []) = g at *
            obtain ⟨g1, g2⟩ := g
            simp only at hq2 h1 h1'
            have hsz : (recBytes (g1, g2)).length ≤ 1048576 := by
              rw [recBytes_len (g1, g2) (by unfold recBase; simp only; omega)]
              rw [← HML.out] at hrl; omega
            have hsz2 : recSize (g1, g2) ≤ 1048576 := by rw [← HML.out] at hrl; omega
            have HS := Lib.hid (fun w h => SizeR_any (g1, g2) w h hq2.1 hq2.2)
            have HSH := Lib.hid (fun w h => Show_any (recSize (g1, g2) : Int) (by omega) (by omega) w h)
            have hit : Lib.itoa (recSize (g1, g2) : Int) = Lib.decDigits (recSize (g1, g2)) := Lib.itoa_nonneg _
            rw [hit] at HSH
            have hrec : ((⟨(Lib.decDigits (recSize (g1, g2))).toArray⟩ : ByteArray) ++ ⟨#[32]⟩ ++ ⟨g1.toArray⟩ ++ ⟨#[61]⟩ ++ ⟨g2.toArray⟩ ++ ⟨#[10]⟩).data.toList = recBytes (g1, g2) := rec_text _ g1 g2
            have hparts : (Lib.decDigits (recSize (g1, g2))).length ≤ 1048576 ∧ g1.length ≤ 1048576 ∧ g2.length ≤ 1048576 := by
              have := hsz
              unfold recBytes at this
              simp only [List.length_append, List.length_cons] at this
              omega
            obtain ⟨hp1, hp2, hp3⟩ := hparts
            have HREC := Lib.hid hrec; have HAP := Lib.hid hap
            clear hit hrec hap hrs hrl hjl2 hjl
            generalize recBytes (g1, g2) = R at *
            generalize Lib.decDigits (recSize (g1, g2)) = D at *
            generalize recSize (g1, g2) = S at *
            have hji : (j : Int) < k := by omega
            have q1 : ¬ 9223372036854775807 < D.length + 1 := by omega
            have q2 : ¬ 9223372036854775807 < D.length + 1 + g1.length := by omega
            have q3 : ¬ 9223372036854775807 < D.length + 1 + g1.length + 1 := by omega
            have q4 : ¬ 9223372036854775807 < D.length + 1 + g1.length + 1 + g2.length := by omega
            have q5 : ¬ 9223372036854775807 < D.length + 1 + g1.length + 1 + g2.length + 1 := by omega
            go_wp2_with fail
            have hbA := hbel.out.alloc hbel.out.size (.cells #[.string ⟨g1.toArray⟩, .string ⟨g2.toArray⟩] 98)
            have hoA := (hown.out).alloc (.cells #[.string ⟨g1.toArray⟩, .string ⟨g2.toArray⟩] 98)
            have hsA : wr.heap.size < (wr.alloc (.cells #[.string ⟨g1.toArray⟩, .string ⟨g2.toArray⟩] 98)).heap.size := by simp
            have hc1 : (wr.alloc (.cells #[.string ⟨g1.toArray⟩, .string ⟨g2.toArray⟩] 98)).cell? ⟨wr.heap.size, 0, none⟩ = some (.string ⟨g1.toArray⟩) := by rw [World.cell?_alloc_new]; rfl
            have hc2 : (wr.alloc (.cells #[.string ⟨g1.toArray⟩, .string ⟨g2.toArray⟩] 98)).cell? ⟨wr.heap.size, 1, none⟩ = some (.string ⟨g2.toArray⟩) := by rw [World.cell?_alloc_new]; rfl
            have HBA := Lib.hid hbA; have HOA := Lib.hid hoA; have HSA := Lib.hid hsA; have HD := Lib.hid (And.intro hc1 hc2)
            clear hbA hoA hsA
            generalize wr.alloc (.cells #[.string ⟨g1.toArray⟩, .string ⟨g2.toArray⟩] 98) = wa at *
            go_region_held3 (fun w' => w'.cell? ⟨wr.heap.size, 0, none⟩ = some (.string ⟨g1.toArray⟩) ∧ w'.cell? ⟨wr.heap.size, 1, none⟩ = some (.string ⟨g2.toArray⟩)) (first | exact HD.out | exact HD5.out | exact HD6.out | exact HD7.out) (first
              | (go_at_call 90; (with_reducible refine (HS.out _ (by exact (HT.out.below HBA.out).below ((Below.refl _ _).drew))).mono ?_); rintro e w5 ⟨rfl, hb5⟩; have hd5 := Below.seq ((Below.refl wa.heap.size wa).drew) hb5; have HB5 := Lib.hid (Below.seq HBA.out hd5); have HO5 := Lib.hid (own_below2 HOA.out hd5); have HS5 := Lib.hid (Nat.lt_of_lt_of_le HSA.out hd5.size); have HD5 := Lib.hid (And.intro (Below.keeps hd5 _ _ HD.out.1) (Below.keeps hd5 _ _ HD.out.2)); clear hb5 hd5)
              | (go_at_call 56; (with_reducible refine (HSH.out _ (by exact HT.out.below HB5.out)).mono ?_); rintro e w6 ⟨rfl, hb6⟩; have HB6 := Lib.hid (Below.seq HB5.out hb6); have HO6 := Lib.hid (own_below2 HO5.out hb6); have HS6 := Lib.hid (Nat.lt_of_lt_of_le HS5.out hb6.size); have HD6 := Lib.hid (And.intro (Below.keeps hb6 _ _ HD5.out.1) (Below.keeps hb6 _ _ HD5.out.2)); clear hb6)
              | (refine step_app_str rfl _ _ 23 9 rfl w.heap.size 5 Tryd.underlying23 Tryd.underlying9 infoU8 rfl (by exact HO6.out) _ rfl R (by exact HREC.out) (by omega) (by exact HB6.out.size) ?_; intro a7 c7 w7 ho7 hg7; have HB7 := Lib.hid (below_app HB6.out HO6.out hg7 (Nat.le_refl _) HB6.out.size); have HO7 := Lib.hid ho7; have HD7 := Lib.hid (And.intro (cell_app hown.out hg7 (Nat.le_refl _) HS6.out HD6.out.1) (cell_app hown.out hg7 (Nat.le_refl _) HS6.out HD6.out.2)); clear ho7 hg7))
            go_wp2
            go_round
            case rel => exact ⟨j + 1, _, _, _, by omega, by go_num, rfl, Lib.hid (by rw [HAP.out]; exact HO7.out), HB7⟩
            case measure => simp [intOf]; omega
          · obtain rfl : j = k := by omega
            have hji : ¬ (j : Int) < j := by omega
            have htk : l.take j = l := List.take_of_length_le (by rw [HL.out]; exact Nat.le_refl _)
            have ho := hown.out
            rw [htk] at ho
            have HO := Lib.hid ho
            clear htk ho
            go_wp2
            go_ret2
            rw [HRR.out]
            exact ⟨a2, m2, c2, rfl, HO.out, hbel.out⟩
      · rw [htk] at hover
        have HRR := Lib.hid (HR.out.symm.trans (write_long l hgoodl hover))
        clear hgoodl htk hover
        go_wp2
        go_ret2
        rw [HRR.out]
        exact WriteRes.no hbel.out
end Go.Proofs.YtamgiffkhnfpmaaDoor
