/-
  J03: HdrMake, HdrForm, SumWalk, BinWalk, BinRef, OctRef, RefOct, Trim2, ParseOct, OctWalk, NumWalk, FmtOct, ApMem, joined.
-/
import Derived.Test.YtamgiffkhnfpmaaGreatDoorJ02
import Derived.Outline
import Derived.Deep.DeepCutAuto
import Derived.Deep.CutBlock
import Derived.Test.YtamgiffkhnfpmaaGreatDoorJ01
import Derived.Test.YtamgiffkhnfpmaaGreatDoorProg
import Derived.Laws.BitsAllLaws
import Derived.Test.YtamgiffkhnfpmaaGreatDoorShelf
import Derived.Lib.AsciiSet
import Derived.Lib.ConvBytes
import Derived.Lib.AtoiAllMem
import Derived.Laws.Strings3
import Derived.Laws.Closers25
import Derived.Laws.Closers25b
import Derived.ArgAppend
import Derived.Deep.MidRow
import Derived.Lib.AppendZeros
namespace Go.Proofs.YtamgiffkhnfpmaaGreatDoor
set_option linter.unusedVariables false
set_option linter.unusedSimpArgs false
def W16 : List Nat := [100, 8, 8, 8, 12, 12, 8, 1, 100, 8, 32, 32, 8, 8, 155, 12]
theorem fit0 : Fit W16 [[], [], [], [], [], [], [], [], [], [], [], [], [], [], [], []] := by simp [Fit, W16]
theorem zblk_T0 : zblk = blkT W16 [[], [], [], [], [], [], [], [], [], [], [], [], [], [], [], []] := by decide +kernel
theorem chain_prog (r n0 n1 n2 n3 n4 n5 n6 link user group p : List UInt8) (ty : UInt8) (hr : r.length ≤ 100) (h0 : n0.length ≤ 8) (h1 : n1.length ≤ 8) (h2 : n2.length ≤ 8) (h3 : n3.length ≤ 12) (h4 : n4.length ≤ 12) (h5 : n5.length ≤ 8) (h6 : n6.length ≤ 8) (hl : link.length ≤ 100) (hu : user.length ≤ 32) (hg : group.length ≤ 32) (hp : p.length ≤ 155) :
    lay (lay (lay (lay (lay (lay (lay (lay (lay (lay (lay (lay (lay (lay zblk 100 n0) 108 n1) 116 n2) 124 n3) 136 n4) 329 n5) 337 n6) 0 r) 156 [ty]) 157 link) 257 magicU) 265 user) 297 group) 345 p = blkT W16 [r, n0, n1, n2, n3, n4, [], [ty], link, magicU, user, group, n5, n6, p, []] := by
  have f := fit0
  rw [zblk_T0]
  have g := lay_blk W16 [[], [], [], [], [], [], [], [], [], [], [], [], [], [], [], []] 1 n0 f rfl h0
  rw [show lay (blkT W16 [[], [], [], [], [], [], [], [], [], [], [], [], [], [], [], []]) 100 n0 = blkT W16 [[], n0, [], [], [], [], [], [], [], [], [], [], [], [], [], []] from g.1]
  replace f : Fit W16 [[], n0, [], [], [], [], [], [], [], [], [], [], [], [], [], []] := g.2
  clear g
  have g := lay_blk W16 [[], n0, [], [], [], [], [], [], [], [], [], [], [], [], [], []] 2 n1 f rfl h1
  rw [show lay (blkT W16 [[], n0, [], [], [], [], [], [], [], [], [], [], [], [], [], []]) 108 n1 = blkT W16 [[], n0, n1, [], [], [], [], [], [], [], [], [], [], [], [], []] from g.1]
  replace f : Fit W16 [[], n0, n1, [], [], [], [], [], [], [], [], [], [], [], [], []] := g.2
  clear g
  have g := lay_blk W16 [[], n0, n1, [], [], [], [], [], [], [], [], [], [], [], [], []] 3 n2 f rfl h2
  rw [show lay (blkT W16 [[], n0, n1, [], [], [], [], [], [], [], [], [], [], [], [], []]) 116 n2 = blkT W16 [[], n0, n1, n2, [], [], [], [], [], [], [], [], [], [], [], []] from g.1]
  replace f : Fit W16 [[], n0, n1, n2, [], [], [], [], [], [], [], [], [], [], [], []] := g.2
  clear g
  have g := lay_blk W16 [[], n0, n1, n2, [], [], [], [], [], [], [], [], [], [], [], []] 4 n3 f rfl h3
  rw [show lay (blkT W16 [[], n0, n1, n2, [], [], [], [], [], [], [], [], [], [], [], []]) 124 n3 = blkT W16 [[], n0, n1, n2, n3, [], [], [], [], [], [], [], [], [], [], []] from g.1]
  replace f : Fit W16 [[], n0, n1, n2, n3, [], [], [], [], [], [], [], [], [], [], []] := g.2
  clear g
  have g := lay_blk W16 [[], n0, n1, n2, n3, [], [], [], [], [], [], [], [], [], [], []] 5 n4 f rfl h4
  rw [show lay (blkT W16 [[], n0, n1, n2, n3, [], [], [], [], [], [], [], [], [], [], []]) 136 n4 = blkT W16 [[], n0, n1, n2, n3, n4, [], [], [], [], [], [], [], [], [], []] from g.1]
  replace f : Fit W16 [[], n0, n1, n2, n3, n4, [], [], [], [], [], [], [], [], [], []] := g.2
  clear g
  have g := lay_blk W16 [[], n0, n1, n2, n3, n4, [], [], [], [], [], [], [], [], [], []] 12 n5 f rfl h5
  rw [show lay (blkT W16 [[], n0, n1, n2, n3, n4, [], [], [], [], [], [], [], [], [], []]) 329 n5 = blkT W16 [[], n0, n1, n2, n3, n4, [], [], [], [], [], [], n5, [], [], []] from g.1]
  replace f : Fit W16 [[], n0, n1, n2, n3, n4, [], [], [], [], [], [], n5, [], [], []] := g.2
  clear g
  have g := lay_blk W16 [[], n0, n1, n2, n3, n4, [], [], [], [], [], [], n5, [], [], []] 13 n6 f rfl h6
  rw [show lay (blkT W16 [[], n0, n1, n2, n3, n4, [], [], [], [], [], [], n5, [], [], []]) 337 n6 = blkT W16 [[], n0, n1, n2, n3, n4, [], [], [], [], [], [], n5, n6, [], []] from g.1]
  replace f : Fit W16 [[], n0, n1, n2, n3, n4, [], [], [], [], [], [], n5, n6, [], []] := g.2
  clear g
  have g := lay_blk W16 [[], n0, n1, n2, n3, n4, [], [], [], [], [], [], n5, n6, [], []] 0 r f rfl hr
  rw [show lay (blkT W16 [[], n0, n1, n2, n3, n4, [], [], [], [], [], [], n5, n6, [], []]) 0 r = blkT W16 [r, n0, n1, n2, n3, n4, [], [], [], [], [], [], n5, n6, [], []] from g.1]
  replace f : Fit W16 [r, n0, n1, n2, n3, n4, [], [], [], [], [], [], n5, n6, [], []] := g.2
  clear g
  have g := lay_blk W16 [r, n0, n1, n2, n3, n4, [], [], [], [], [], [], n5, n6, [], []] 7 [ty] f rfl (by decide : 1 ≤ 1)
  rw [show lay (blkT W16 [r, n0, n1, n2, n3, n4, [], [], [], [], [], [], n5, n6, [], []]) 156 [ty] = blkT W16 [r, n0, n1, n2, n3, n4, [], [ty], [], [], [], [], n5, n6, [], []] from g.1]
  replace f : Fit W16 [r, n0, n1, n2, n3, n4, [], [ty], [], [], [], [], n5, n6, [], []] := g.2
  clear g
  have g := lay_blk W16 [r, n0, n1, n2, n3, n4, [], [ty], [], [], [], [], n5, n6, [], []] 8 link f rfl hl
  rw [show lay (blkT W16 [r, n0, n1, n2, n3, n4, [], [ty], [], [], [], [], n5, n6, [], []]) 157 link = blkT W16 [r, n0, n1, n2, n3, n4, [], [ty], link, [], [], [], n5, n6, [], []] from g.1]
  replace f : Fit W16 [r, n0, n1, n2, n3, n4, [], [ty], link, [], [], [], n5, n6, [], []] := g.2
  clear g
  have g := lay_blk W16 [r, n0, n1, n2, n3, n4, [], [ty], link, [], [], [], n5, n6, [], []] 9 magicU f rfl (by decide : 8 ≤ 8)
  rw [show lay (blkT W16 [r, n0, n1, n2, n3, n4, [], [ty], link, [], [], [], n5, n6, [], []]) 257 magicU = blkT W16 [r, n0, n1, n2, n3, n4, [], [ty], link, magicU, [], [], n5, n6, [], []] from g.1]
  replace f : Fit W16 [r, n0, n1, n2, n3, n4, [], [ty], link, magicU, [], [], n5, n6, [], []] := g.2
  clear g
  have g := lay_blk W16 [r, n0, n1, n2, n3, n4, [], [ty], link, magicU, [], [], n5, n6, [], []] 10 user f rfl hu
  rw [show lay (blkT W16 [r, n0, n1, n2, n3, n4, [], [ty], link, magicU, [], [], n5, n6, [], []]) 265 user = blkT W16 [r, n0, n1, n2, n3, n4, [], [ty], link, magicU, user, [], n5, n6, [], []] from g.1]
  replace f : Fit W16 [r, n0, n1, n2, n3, n4, [], [ty], link, magicU, user, [], n5, n6, [], []] := g.2
  clear g
  have g := lay_blk W16 [r, n0, n1, n2, n3, n4, [], [ty], link, magicU, user, [], n5, n6, [], []] 11 group f rfl hg
  rw [show lay (blkT W16 [r, n0, n1, n2, n3, n4, [], [ty], link, magicU, user, [], n5, n6, [], []]) 297 group = blkT W16 [r, n0, n1, n2, n3, n4, [], [ty], link, magicU, user, group, n5, n6, [], []] from g.1]
  replace f : Fit W16 [r, n0, n1, n2, n3, n4, [], [ty], link, magicU, user, group, n5, n6, [], []] := g.2
  clear g
  have g := lay_blk W16 [r, n0, n1, n2, n3, n4, [], [ty], link, magicU, user, group, n5, n6, [], []] 14 p f rfl hp
  rw [show lay (blkT W16 [r, n0, n1, n2, n3, n4, [], [ty], link, magicU, user, group, n5, n6, [], []]) 345 p = blkT W16 [r, n0, n1, n2, n3, n4, [], [ty], link, magicU, user, group, n5, n6, p, []] from g.1]
theorem chain_ref (r n0 n1 n2 n3 n4 n5 n6 link user group p : List UInt8) (ty : UInt8) (hr : r.length ≤ 100) (h0 : n0.length ≤ 8) (h1 : n1.length ≤ 8) (h2 : n2.length ≤ 8) (h3 : n3.length ≤ 12) (h4 : n4.length ≤ 12) (h5 : n5.length ≤ 8) (h6 : n6.length ≤ 8) (hl : link.length ≤ 100) (hu : user.length ≤ 32) (hg : group.length ≤ 32) (hp : p.length ≤ 155) :
    lay (lay (lay (lay (lay (lay (lay (lay (lay (lay (lay (lay (lay (lay zblk 0 r) 157 link) 257 magicU) 265 user) 297 group) 345 p) 156 [ty]) 100 n0) 108 n1) 116 n2) 124 n3) 136 n4) 329 n5) 337 n6 = blkT W16 [r, n0, n1, n2, n3, n4, [], [ty], link, magicU, user, group, n5, n6, p, []] := by
  have f := fit0
  rw [zblk_T0]
  have g := lay_blk W16 [[], [], [], [], [], [], [], [], [], [], [], [], [], [], [], []] 0 r f rfl hr
  rw [show lay (blkT W16 [[], [], [], [], [], [], [], [], [], [], [], [], [], [], [], []]) 0 r = blkT W16 [r, [], [], [], [], [], [], [], [], [], [], [], [], [], [], []] from g.1]
  replace f : Fit W16 [r, [], [], [], [], [], [], [], [], [], [], [], [], [], [], []] := g.2
  clear g
  have g := lay_blk W16 [r, [], [], [], [], [], [], [], [], [], [], [], [], [], [], []] 8 link f rfl hl
  rw [show lay (blkT W16 [r, [], [], [], [], [], [], [], [], [], [], [], [], [], [], []]) 157 link = blkT W16 [r, [], [], [], [], [], [], [], link, [], [], [], [], [], [], []] from g.1]
  replace f : Fit W16 [r, [], [], [], [], [], [], [], link, [], [], [], [], [], [], []] := g.2
  clear g
  have g := lay_blk W16 [r, [], [], [], [], [], [], [], link, [], [], [], [], [], [], []] 9 magicU f rfl (by decide : 8 ≤ 8)
  rw [show lay (blkT W16 [r, [], [], [], [], [], [], [], link, [], [], [], [], [], [], []]) 257 magicU = blkT W16 [r, [], [], [], [], [], [], [], link, magicU, [], [], [], [], [], []] from g.1]
  replace f : Fit W16 [r, [], [], [], [], [], [], [], link, magicU, [], [], [], [], [], []] := g.2
  clear g
  have g := lay_blk W16 [r, [], [], [], [], [], [], [], link, magicU, [], [], [], [], [], []] 10 user f rfl hu
  rw [show lay (blkT W16 [r, [], [], [], [], [], [], [], link, magicU, [], [], [], [], [], []]) 265 user = blkT W16 [r, [], [], [], [], [], [], [], link, magicU, user, [], [], [], [], []] from g.1]
  replace f : Fit W16 [r, [], [], [], [], [], [], [], link, magicU, user, [], [], [], [], []] := g.2
  clear g
  have g := lay_blk W16 [r, [], [], [], [], [], [], [], link, magicU, user, [], [], [], [], []] 11 group f rfl hg
  rw [show lay (blkT W16 [r, [], [], [], [], [], [], [], link, magicU, user, [], [], [], [], []]) 297 group = blkT W16 [r, [], [], [], [], [], [], [], link, magicU, user, group, [], [], [], []] from g.1]
  replace f : Fit W16 [r, [], [], [], [], [], [], [], link, magicU, user, group, [], [], [], []] := g.2
  clear g
  have g := lay_blk W16 [r, [], [], [], [], [], [], [], link, magicU, user, group, [], [], [], []] 14 p f rfl hp
  rw [show lay (blkT W16 [r, [], [], [], [], [], [], [], link, magicU, user, group, [], [], [], []]) 345 p = blkT W16 [r, [], [], [], [], [], [], [], link, magicU, user, group, [], [], p, []] from g.1]
  replace f : Fit W16 [r, [], [], [], [], [], [], [], link, magicU, user, group, [], [], p, []] := g.2
  clear g
  have g := lay_blk W16 [r, [], [], [], [], [], [], [], link, magicU, user, group, [], [], p, []] 7 [ty] f rfl (by decide : 1 ≤ 1)
  rw [show lay (blkT W16 [r, [], [], [], [], [], [], [], link, magicU, user, group, [], [], p, []]) 156 [ty] = blkT W16 [r, [], [], [], [], [], [], [ty], link, magicU, user, group, [], [], p, []] from g.1]
  replace f : Fit W16 [r, [], [], [], [], [], [], [ty], link, magicU, user, group, [], [], p, []] := g.2
  clear g
  have g := lay_blk W16 [r, [], [], [], [], [], [], [ty], link, magicU, user, group, [], [], p, []] 1 n0 f rfl h0
  rw [show lay (blkT W16 [r, [], [], [], [], [], [], [ty], link, magicU, user, group, [], [], p, []]) 100 n0 = blkT W16 [r, n0, [], [], [], [], [], [ty], link, magicU, user, group, [], [], p, []] from g.1]
  replace f : Fit W16 [r, n0, [], [], [], [], [], [ty], link, magicU, user, group, [], [], p, []] := g.2
  clear g
  have g := lay_blk W16 [r, n0, [], [], [], [], [], [ty], link, magicU, user, group, [], [], p, []] 2 n1 f rfl h1
  rw [show lay (blkT W16 [r, n0, [], [], [], [], [], [ty], link, magicU, user, group, [], [], p, []]) 108 n1 = blkT W16 [r, n0, n1, [], [], [], [], [ty], link, magicU, user, group, [], [], p, []] from g.1]
  replace f : Fit W16 [r, n0, n1, [], [], [], [], [ty], link, magicU, user, group, [], [], p, []] := g.2
  clear g
  have g := lay_blk W16 [r, n0, n1, [], [], [], [], [ty], link, magicU, user, group, [], [], p, []] 3 n2 f rfl h2
  rw [show lay (blkT W16 [r, n0, n1, [], [], [], [], [ty], link, magicU, user, group, [], [], p, []]) 116 n2 = blkT W16 [r, n0, n1, n2, [], [], [], [ty], link, magicU, user, group, [], [], p, []] from g.1]
  replace f : Fit W16 [r, n0, n1, n2, [], [], [], [ty], link, magicU, user, group, [], [], p, []] := g.2
  clear g
  have g := lay_blk W16 [r, n0, n1, n2, [], [], [], [ty], link, magicU, user, group, [], [], p, []] 4 n3 f rfl h3
  rw [show lay (blkT W16 [r, n0, n1, n2, [], [], [], [ty], link, magicU, user, group, [], [], p, []]) 124 n3 = blkT W16 [r, n0, n1, n2, n3, [], [], [ty], link, magicU, user, group, [], [], p, []] from g.1]
  replace f : Fit W16 [r, n0, n1, n2, n3, [], [], [ty], link, magicU, user, group, [], [], p, []] := g.2
  clear g
  have g := lay_blk W16 [r, n0, n1, n2, n3, [], [], [ty], link, magicU, user, group, [], [], p, []] 5 n4 f rfl h4
  rw [show lay (blkT W16 [r, n0, n1, n2, n3, [], [], [ty], link, magicU, user, group, [], [], p, []]) 136 n4 = blkT W16 [r, n0, n1, n2, n3, n4, [], [ty], link, magicU, user, group, [], [], p, []] from g.1]
  replace f : Fit W16 [r, n0, n1, n2, n3, n4, [], [ty], link, magicU, user, group, [], [], p, []] := g.2
  clear g
  have g := lay_blk W16 [r, n0, n1, n2, n3, n4, [], [ty], link, magicU, user, group, [], [], p, []] 12 n5 f rfl h5
  rw [show lay (blkT W16 [r, n0, n1, n2, n3, n4, [], [ty], link, magicU, user, group, [], [], p, []]) 329 n5 = blkT W16 [r, n0, n1, n2, n3, n4, [], [ty], link, magicU, user, group, n5, [], p, []] from g.1]
  replace f : Fit W16 [r, n0, n1, n2, n3, n4, [], [ty], link, magicU, user, group, n5, [], p, []] := g.2
  clear g
  have g := lay_blk W16 [r, n0, n1, n2, n3, n4, [], [ty], link, magicU, user, group, n5, [], p, []] 13 n6 f rfl h6
  rw [show lay (blkT W16 [r, n0, n1, n2, n3, n4, [], [ty], link, magicU, user, group, n5, [], p, []]) 337 n6 = blkT W16 [r, n0, n1, n2, n3, n4, [], [ty], link, magicU, user, group, n5, n6, p, []] from g.1]
/-- can the header be written? -/
def goodH (h : Hd) : Bool := decide ((Plain.split h.name).2.2 = 0 ∧ h.link.length ≤ 100 ∧ h.user.length ≤ 32 ∧ h.group.length ≤ 32 ∧ (0 : UInt8) ∉ h.link ∧ (0 : UInt8) ∉ h.user ∧ (0 : UInt8) ∉ h.group ∧ h.ty ≠ 0) &&
  decide (0 ≤ h.mode ∧ 0 ≤ h.size ∧ 0 ≤ h.major ∧ 0 ≤ h.minor ∧ 0 ≤ h.uid ∧ h.uid ≤ 2147483647 ∧ 0 ≤ h.gid ∧ h.gid ≤ 2147483647 ∧ -1099511627776 ≤ h.mtime ∧ h.mtime ≤ 1099511627776) &&
  decide ((Plain.put h.mode 8).2 = 0 ∧ (Plain.put h.uid 8).2 = 0 ∧ (Plain.put h.gid 8).2 = 0 ∧ (Plain.put h.size 12).2 = 0 ∧ (Plain.put h.mtime 12).2 = 0 ∧ (Plain.put h.major 8).2 = 0 ∧ (Plain.put h.minor 8).2 = 0)
def partsOf (h : Hd) (s : List UInt8) : List (List UInt8) :=
  [(Plain.split h.name).2.1, (Plain.put h.mode 8).1, (Plain.put h.uid 8).1, (Plain.put h.gid 8).1, (Plain.put h.size 12).1, (Plain.put h.mtime 12).1, s, [h.ty], h.link, magicU, h.user, h.group, (Plain.put h.major 8).1, (Plain.put h.minor 8).1, (Plain.split h.name).1, []]
def blkOf (h : Hd) : List UInt8 := blkT W16 (partsOf h [])
/-- the document's answer -/
def Plain.make (h : Hd) : List UInt8 × Int := if goodH h = true then (Plain.seal (blkOf h), 0) else (zblk, 43)
/-- the numbers lie in the range of int -/
structure HdIn (h : Hd) : Prop where
  mode : inI64 h.mode = true
  uid : inI64 h.uid = true
  gid : inI64 h.gid = true
  size : inI64 h.size = true
  mtime : inI64 h.mtime = true
  major : inI64 h.major = true
  minor : inI64 h.minor = true
/-- what is read again -/
def roundH (h : Hd) : Hd :=
  ⟨h.name, h.link, h.mode, h.uid, h.gid, if 49 ≤ h.ty.toNat ∧ h.ty.toNat ≤ 54 then 0 else h.size, h.mtime, if h.ty = 55 then 48 else h.ty, h.user, h.group, if h.ty = 51 ∨ h.ty = 52 then h.major else 0, if h.ty = 51 ∨ h.ty = 52 then h.minor else 0, 2⟩
theorem put_len (v n : Int) (h63 : inI64 v = true) (h : (Plain.put v n).2 = 0) (m : Nat) (hm : n = m) : (Plain.put v n).1.length = m := by
  have := (put_read v n h63 h).2; omega
theorem number_pad (v n : Int) (h63 : inI64 v = true) (h : (Plain.put v n).2 = 0) (m : Nat) (hm : n = m) : Plain.number (pad m (Plain.put v n).1) = (v, 0) := by
  rw [pad_full m _ (put_len v n h63 h m hm)]; exact (put_read v n h63 h).1
theorem split_nonul (l : List UInt8) (h : (Plain.split l).2.2 = 0) : ∀ x ∈ l, x ≠ 0 := by
  unfold Plain.split at h
  by_cases c1 : l = []
  · subst c1; simp
  · rw [if_neg c1] at h
    by_cases c2 : 0 ≤ Lib.indexByte l 0
    · rw [if_pos c2] at h; cases h
    · intro x hx e
      obtain ⟨k, hk, he⟩ := List.getElem_of_mem hx
      have := Plain.indexByte_none l (by omega) k hk
      rw [← e, ← he] at this
      exact this (by simp [List.getD, List.getElem?_eq_getElem hk])
theorem round_read (h : Hd) (hg : goodH h = true) (hi : HdIn h) : Plain.hread (Plain.seal (blkOf h)) = (roundH h, 0) := by
  unfold goodH at hg
  rw [Bool.and_eq_true, Bool.and_eq_true, decide_eq_true_eq, decide_eq_true_eq, decide_eq_true_eq] at hg
  obtain ⟨⟨⟨g1, g2, g3, g4, g5, g6, g7, g8⟩, m1, m2, m3, m4, m5, m6, m7, m8, m9, m10⟩, p1, p2, p3, p4, p5, p6, p7⟩ := hg
  have hsp : ∃ p s, Plain.split h.name = (p, s, 0) ∧ Plain.Well h.name p s := by
    rcases Plain.split_cases h.name with h1 | ⟨h1, _⟩
    · exact h1
    · rw [h1] at g1; cases g1
  obtain ⟨p, s, hps, hw⟩ := hsp
  obtain ⟨w1, w2, w3, w4⟩ := hw
  have hfit : Fit W16 (partsOf h []) := by
    unfold partsOf W16
    rw [hps]
    have l1 := put_len _ 8 hi.mode p1 8 rfl
    have l2 := put_len _ 8 hi.uid p2 8 rfl
    have l3 := put_len _ 8 hi.gid p3 8 rfl
    have l4 := put_len _ 12 hi.size p4 12 rfl
    have l5 := put_len _ 12 hi.mtime p5 12 rfl
    have l6 := put_len _ 8 hi.major p6 8 rfl
    have l7 := put_len _ 8 hi.minor p7 8 rfl
    refine ⟨w2, ?_, ?_, ?_, ?_, ?_, ?_, ?_, g2, ?_, g3, g4, ?_, ?_, w3, ?_, trivial⟩ <;> first | omega | (simp [magicU])
  have hlen : (blkOf h).length = 512 := blkT_len _ _ hfit
  have hseal : Plain.seal (blkOf h) = blkT W16 (partsOf h (octRow (Plain.sum uby (blkOf h)).toNat 6 ++ [0, 32])) ∧ Fit W16 (partsOf h (octRow (Plain.sum uby (blkOf h)).toNat 6 ++ [0, 32])) := by
    rw [seal_lay]
    exact lay_blk W16 (partsOf h []) 6 _ hfit rfl (by rw [sealRow_len]; decide)
  have hsd := seal_sealed (blkOf h) hlen
  have hsl := seal_len (blkOf h) hlen
  obtain ⟨hse, hf⟩ := hseal
  generalize octRow (Plain.sum uby (blkOf h)).toNat 6 ++ [0, 32] = S at *
  generalize Plain.seal (blkOf h) = L at *
  have b0 : fld L 0 100 = pad 100 (Plain.split h.name).2.1 := by rw [hse]; exact fld_blk W16 _ 0 _ hf rfl
  have b1 : fld L 100 108 = pad 8 (Plain.put h.mode 8).1 := by rw [hse]; exact fld_blk W16 _ 1 _ hf rfl
  have b2 : fld L 108 116 = pad 8 (Plain.put h.uid 8).1 := by rw [hse]; exact fld_blk W16 _ 2 _ hf rfl
  have b3 : fld L 116 124 = pad 8 (Plain.put h.gid 8).1 := by rw [hse]; exact fld_blk W16 _ 3 _ hf rfl
  have b4 : fld L 124 136 = pad 12 (Plain.put h.size 12).1 := by rw [hse]; exact fld_blk W16 _ 4 _ hf rfl
  have b5 : fld L 136 148 = pad 12 (Plain.put h.mtime 12).1 := by rw [hse]; exact fld_blk W16 _ 5 _ hf rfl
  have b7 : fld L 156 157 = pad 1 [h.ty] := by rw [hse]; exact fld_blk W16 _ 7 _ hf rfl
  have b8 : fld L 157 257 = pad 100 h.link := by rw [hse]; exact fld_blk W16 _ 8 _ hf rfl
  have b9 : fld L 257 265 = pad 8 magicU := by rw [hse]; exact fld_blk W16 _ 9 _ hf rfl
  have b10 : fld L 265 297 = pad 32 h.user := by rw [hse]; exact fld_blk W16 _ 10 _ hf rfl
  have b11 : fld L 297 329 = pad 32 h.group := by rw [hse]; exact fld_blk W16 _ 11 _ hf rfl
  have b12 : fld L 329 337 = pad 8 (Plain.put h.major 8).1 := by rw [hse]; exact fld_blk W16 _ 12 _ hf rfl
  have b13 : fld L 337 345 = pad 8 (Plain.put h.minor 8).1 := by rw [hse]; exact fld_blk W16 _ 13 _ hf rfl
  have b14 : fld L 345 500 = pad 155 (Plain.split h.name).1 := by rw [hse]; exact fld_blk W16 _ 14 _ hf rfl
  have n1 : numAt L 100 108 = (h.mode, 0) := by unfold numAt; rw [b1]; exact number_pad _ 8 hi.mode p1 8 rfl
  have n2 : numAt L 108 116 = (h.uid, 0) := by unfold numAt; rw [b2]; exact number_pad _ 8 hi.uid p2 8 rfl
  have n3 : numAt L 116 124 = (h.gid, 0) := by unfold numAt; rw [b3]; exact number_pad _ 8 hi.gid p3 8 rfl
  have n4 : numAt L 124 136 = (h.size, 0) := by unfold numAt; rw [b4]; exact number_pad _ 12 hi.size p4 12 rfl
  have n5 : numAt L 136 148 = (h.mtime, 0) := by unfold numAt; rw [b5]; exact number_pad _ 12 hi.mtime p5 12 rfl
  have n6 : numAt L 329 337 = (h.major, 0) := by unfold numAt; rw [b12]; exact number_pad _ 8 hi.major p6 8 rfl
  have n7 : numAt L 337 345 = (h.minor, 0) := by unfold numAt; rw [b13]; exact number_pad _ 8 hi.minor p7 8 rfl
  have ht : L.getD 156 0 = h.ty := by
    have := fld_getD L 156 157 0 (by decide)
    rw [b7] at this
    rw [← this]; rfl
  have hform : formOf L = 2 := by unfold formOf; rw [b9, pad_full 8 magicU rfl, if_pos rfl]
  have hty : tyOf L = if h.ty = 55 then 48 else h.ty := by
    unfold tyOf; rw [ht]
    by_cases e : h.ty = 55
    · rw [if_pos (.inr e), if_pos e]
    · rw [if_neg (by rintro (a | a); exact g8 a; exact e a), if_neg e]
  have hdev : isDev L = decide (h.ty = 51 ∨ h.ty = 52) := by
    unfold isDev; rw [hform, hty]
    by_cases e : h.ty = 55
    · rw [if_pos e, e]; decide
    · rw [if_neg e]; simp
  have hz : ¬ L = zblk := by
    intro e
    rw [e] at ht
    exact g8 (ht.symm.trans (by decide +kernel))
  unfold Plain.hread
  have mi := inI64_iff h.mode; have si := inI64_iff h.size; have ai := inI64_iff h.major; have ii := inI64_iff h.minor
  have mi := mi.1 hi.mode; have si := si.1 hi.size; have ai := ai.1 hi.major; have ii := ii.1 hi.minor
  rw [if_neg hz, if_neg (by rw [hsd]; decide), if_neg]
  · have hname : nameOf L = h.name := by
      unfold nameOf
      rw [hform, b14, b0, hps]
      have hz := split_nonul h.name g1
      rcases w4 with ⟨e1, e2⟩ | ⟨e1, e2, e3⟩
      · subst e1; subst e2
        rw [text_pad 155 [] (by decide) (by simp), text_pad 100 _ w2 (fun hm => hz _ hm rfl), if_neg (by simp)]
      · rw [text_pad 155 p w3 (fun hm => hz 0 (by rw [← e2]; simp [hm]) rfl), text_pad 100 s w2 (fun hm => hz 0 (by rw [← e2]; simp [hm]) rfl), if_pos ⟨rfl, e1⟩, ← e2]
        simp
    unfold hdOf roundH
    rw [hname, n1, n2, n3, n4, n5, n6, n7, hform, hdev, b8, b10, b11, text_pad 100 _ g2 g5, text_pad 32 _ g3 g6, text_pad 32 _ g4 g7, hty]
    have hsz : (49 ≤ (if h.ty = 55 then (48 : UInt8) else h.ty).toNat ∧ (if h.ty = 55 then (48 : UInt8) else h.ty).toNat ≤ 54) ↔ (49 ≤ h.ty.toNat ∧ h.ty.toNat ≤ 54) := by
      by_cases e : h.ty = 55
      · rw [if_pos e, e]; decide
      · rw [if_neg e]
    simp [hsz]
  · unfold numsOk
    rw [n1, n2, n3, n4, n5, n6, n7]
    simp [numOk]
    omega
end Go.Proofs.YtamgiffkhnfpmaaGreatDoor
namespace Go.Proofs.YtamgiffkhnfpmaaGreatDoor
set_option linter.unusedVariables false
set_option linter.unusedSimpArgs false
open Go.ChangeShapes Go.WideShapes Go.ChangeAt Go.RowKit
/-- where a number stands, and between what it lies -/
def fieldAt : Nat → Nat × Nat × Int × Int
  | 0 => (100, 108, 0, 9223372036854775807)
  | 1 => (108, 116, 0, 2147483647)
  | 2 => (116, 124, 0, 2147483647)
  | 3 => (124, 136, 0, 9223372036854775807)
  | 4 => (136, 148, -1099511627776, 1099511627776)
  | 5 => (329, 337, 0, 9223372036854775807)
  | _ => (337, 345, 0, 9223372036854775807)
def fieldV (k : Nat) : List Value := [.int .i64 (fieldAt k).1, .int .i64 (fieldAt k).2.1, .int .i64 (fieldAt k).2.2.1, .int .i64 (fieldAt k).2.2.2]
def fieldsA : Array Value := (((List.range 7).flatMap fieldV)).toArray
theorem sizeFields : (Tryz.prog.info? 88).map (·.size) = some fieldsA.size := by kernel_rfl
theorem fields_one : ∀ u ∈ fieldsA.toList, u.oneCell' = true := by
  intro u hu
  simp [fieldsA, fieldV, fieldAt, List.range, List.range.loop] at hu
  rcases hu with h | h | h | h | h | h | h | h | h | h | h | h | h | h | h | h | h | h | h | h | h | h | h | h | h | h | h | h <;> subst h <;> rfl
section
variable {P : Program} {ops : Array Oper} {rest : List Oper} {o : Oper} {a : Act} {w : World} {Q : Exit → Act → World → Prop}
theorem wpList_built (hg : o.guard = none) {t : TypeId} {es : Array (Nat × Operand)} (_ho : o.op = .build t es) (v : Value) (h : (execOp a.eval o).run P w = .ok (.value v) w)
    (hk : wpList P ops Q rest (a.put o.dst v) w) : wpList P ops Q (o :: rest) a w := wpList_value hg v w h hk
end
set_option maxRecDepth 100000 in
set_option maxHeartbeats 800000 in
theorem Fields_any (w : World) : Calls Tryz.prog 65 #[] w fun e w' => e = .returned (.agg fieldsA) ∧ Below w.heap.size w w' := by
  obtain ⟨FA, hFA⟩ : ∃ FA, FA = fieldsA := ⟨_, rfl⟩
  have HI : Hid ((Tryz.prog.info? 88).map (·.size) = some FA.size) := by rw [hFA]; exact Lib.hid sizeFields
  have HO : Hid (∀ u ∈ FA.toList, u.oneCell' = true) := by rw [hFA]; exact Lib.hid fields_one
  have HS : Hid (FA.size = 28) := by rw [hFA]; exact Lib.hid rfl
  rw [← hFA]
  have HFA := Lib.hid hFA
  clear hFA
  go_enter Tryz.func65, Tryz.ntmps65
  go_upto_region 1 with fail
  have hh := heap_alloc_new w (.cells #[.int .i64 0, .int .i64 0, .int .i64 0, .int .i64 0, .int .i64 0, .int .i64 0, .int .i64 0, .int .i64 0, .int .i64 0, .int .i64 0, .int .i64 0, .int .i64 0, .int .i64 0, .int .i64 0, .int .i64 0, .int .i64 0, .int .i64 0, .int .i64 0, .int .i64 0, .int .i64 0, .int .i64 0, .int .i64 0, .int .i64 0, .int .i64 0, .int .i64 0, .int .i64 0, .int .i64 0, .int .i64 0] 88)
  have hb := (Below.refl w.heap.size w).alloc (Nat.le_refl _) (.cells #[.int .i64 0, .int .i64 0, .int .i64 0, .int .i64 0, .int .i64 0, .int .i64 0, .int .i64 0, .int .i64 0, .int .i64 0, .int .i64 0, .int .i64 0, .int .i64 0, .int .i64 0, .int .i64 0, .int .i64 0, .int .i64 0, .int .i64 0, .int .i64 0, .int .i64 0, .int .i64 0, .int .i64 0, .int .i64 0, .int .i64 0, .int .i64 0, .int .i64 0, .int .i64 0, .int .i64 0, .int .i64 0] 88)
  have hz : (#[.int .i64 0, .int .i64 0, .int .i64 0, .int .i64 0, .int .i64 0, .int .i64 0, .int .i64 0, .int .i64 0, .int .i64 0, .int .i64 0, .int .i64 0, .int .i64 0, .int .i64 0, .int .i64 0, .int .i64 0, .int .i64 0, .int .i64 0, .int .i64 0, .int .i64 0, .int .i64 0, .int .i64 0, .int .i64 0, .int .i64 0, .int .i64 0, .int .i64 0, .int .i64 0, .int .i64 0, .int .i64 0] : Array Value).size = FA.size := by rw [HS.out]; rfl
  generalize (#[.int .i64 0, .int .i64 0, .int .i64 0, .int .i64 0, .int .i64 0, .int .i64 0, .int .i64 0, .int .i64 0, .int .i64 0, .int .i64 0, .int .i64 0, .int .i64 0, .int .i64 0, .int .i64 0, .int .i64 0, .int .i64 0, .int .i64 0, .int .i64 0, .int .i64 0, .int .i64 0, .int .i64 0, .int .i64 0, .int .i64 0, .int .i64 0, .int .i64 0, .int .i64 0, .int .i64 0, .int .i64 0] : Array Value) = Z at *
  generalize w.alloc (.cells Z 88) = wa at *
  have HH := Lib.hid hh; have HB := Lib.hid hb; have HZ := Lib.hid hz
  clear hh hb hz
  go_wp2_with (first
    | ((with_reducible refine wpList_built (t := 87) (es := #[(0, .const (.int .i64 100)), (1, .const (.int .i64 108)), (2, .const (.int .i64 0)), (3, .const (.int .i64 9223372036854775807))]) rfl rfl (.agg #[.int .i64 100, .int .i64 108, .int .i64 0, .int .i64 9223372036854775807]) (by kernel_rfl) ?_); simp only [Act.put, List.setIfInBounds_toArray, List.set_cons_zero, List.set_cons_succ])
    | ((with_reducible refine wpList_built (t := 87) (es := #[(0, .const (.int .i64 108)), (1, .const (.int .i64 116)), (2, .const (.int .i64 0)), (3, .const (.int .i64 2147483647))]) rfl rfl (.agg #[.int .i64 108, .int .i64 116, .int .i64 0, .int .i64 2147483647]) (by kernel_rfl) ?_); simp only [Act.put, List.setIfInBounds_toArray, List.set_cons_zero, List.set_cons_succ])
    | ((with_reducible refine wpList_built (t := 87) (es := #[(0, .const (.int .i64 116)), (1, .const (.int .i64 124)), (2, .const (.int .i64 0)), (3, .const (.int .i64 2147483647))]) rfl rfl (.agg #[.int .i64 116, .int .i64 124, .int .i64 0, .int .i64 2147483647]) (by kernel_rfl) ?_); simp only [Act.put, List.setIfInBounds_toArray, List.set_cons_zero, List.set_cons_succ])
    | ((with_reducible refine wpList_built (t := 87) (es := #[(0, .const (.int .i64 124)), (1, .const (.int .i64 136)), (2, .const (.int .i64 0)), (3, .const (.int .i64 9223372036854775807))]) rfl rfl (.agg #[.int .i64 124, .int .i64 136, .int .i64 0, .int .i64 9223372036854775807]) (by kernel_rfl) ?_); simp only [Act.put, List.setIfInBounds_toArray, List.set_cons_zero, List.set_cons_succ])
    | ((with_reducible refine wpList_built (t := 87) (es := #[(0, .const (.int .i64 136)), (1, .const (.int .i64 148)), (2, .const (.int .i64 (-1099511627776))), (3, .const (.int .i64 1099511627776))]) rfl rfl (.agg #[.int .i64 136, .int .i64 148, .int .i64 (-1099511627776), .int .i64 1099511627776]) (by kernel_rfl) ?_); simp only [Act.put, List.setIfInBounds_toArray, List.set_cons_zero, List.set_cons_succ])
    | ((with_reducible refine wpList_built (t := 87) (es := #[(0, .const (.int .i64 329)), (1, .const (.int .i64 337)), (2, .const (.int .i64 0)), (3, .const (.int .i64 9223372036854775807))]) rfl rfl (.agg #[.int .i64 329, .int .i64 337, .int .i64 0, .int .i64 9223372036854775807]) (by kernel_rfl) ?_); simp only [Act.put, List.setIfInBounds_toArray, List.set_cons_zero, List.set_cons_succ])
    | ((with_reducible refine wpList_built (t := 87) (es := #[(0, .const (.int .i64 337)), (1, .const (.int .i64 345)), (2, .const (.int .i64 0)), (3, .const (.int .i64 9223372036854775807))]) rfl rfl (.agg #[.int .i64 337, .int .i64 345, .int .i64 0, .int .i64 9223372036854775807]) (by kernel_rfl) ?_); simp only [Act.put, List.setIfInBounds_toArray, List.set_cons_zero, List.set_cons_succ])
    | ((with_reducible refine wpList_built (t := 88) (es := #[(0, .tmp 1), (1, .tmp 2), (2, .tmp 3), (3, .tmp 4), (4, .tmp 5), (5, .tmp 6), (6, .tmp 7)]) rfl rfl (.agg FA) (by rw [HFA.out]; kernel_rfl) ?_); simp only [Act.put, List.setIfInBounds_toArray, List.set_cons_zero, List.set_cons_succ])
    | (with_reducible refine wpList_store_row rfl 88 _ _ rfl w.heap.size rfl FA rfl Z 88 HH.out HZ.out HI.out HO.out ?_))
  refine bodyPost_ret (results_cell_row rfl _ _ w.heap.size 88 FA (0, 0) _ rfl (setRow_heap _ _ _ _ _ _ HH.out) Tryz.underlying88 rfl HI.out) rfl ⟨rfl, Below.setRow HB.out (Nat.le_refl _) _⟩
end Go.Proofs.YtamgiffkhnfpmaaGreatDoor
namespace Go.Proofs.YtamgiffkhnfpmaaGreatDoor
open Go.ChangeShapes Go.WideShapes Go.ChangeAt Go.RowKit
section
variable {P : Program} {ops : Array Oper} {rest : List Oper} {o : Oper} {a : Act} {w : World} {Q : Exit → Act → World → Prop}
/-- x[k] of an array of bytes by value -/
theorem wpList_index_row (hgd : o.guard = none) (t : TypeId) (y x : Operand) (ho : o.op = .index t y x) {e : TypeId} {n : Nat} (ht : P.underlying t = some (.array n e)) (he : P.underlying e = some (.int .u8)) (hsz : (P.info? e).map (·.size) = some 1) (l : List UInt8) (hl : l.length = n) (hy : a.eval y = .agg (rowA l)) {k : IntKind} (d : Nat) (hx : a.eval x = .int k (d : Int)) (hd : d < n)
    (h : wpList P ops Q rest (a.put o.dst (.int .u8 ((l.getD d 0).toNat : Int))) w) : wpList P ops Q (o :: rest) a w := by
  refine wpList_value hgd _ _ ?_ h
  have hg : (rowA l)[d]? = some (.int .u8 ((l.getD d 0).toNat : Int)) := rowA_at l d (by omega)
  have hlt : d < (rowA l).size := by rw [rowA_size]; omega
  have hpart := part_u8 (P := P) (w := w) he l d (by omega)
  have hdi : (d : Int) < (n : Int) := by omega
  have hr : (Instr.index t (.agg (rowA l)) (.int k (d : Int))).run P w = .ok (.int .u8 ((l.getD d 0).toNat : Int)) w := by
    simp only [rowA] at *
    obtain ⟨i, hi', hs'⟩ := Option.map_eq_some_iff.1 hsz
    simp [Instr.index, run_underlying ht, asIntOf, Result.andThen, hd, hdi, sizeOf, typeInfo, hi', hs', hpart]
  simp [execOp, ho, hy, hx, hr, Result.andThen]
end
theorem sum_vals (l : List UInt8) (hl : l.length = 512) : (-200000 ≤ Plain.sum uby l ∧ Plain.sum uby l ≤ 200000) ∧ (-200000 ≤ Plain.sum sby l ∧ Plain.sum sby l ≤ 200000) := ⟨sum_bd uby uby_wide l hl, sum_bd sby sby_wide l hl⟩
theorem i8_sby (b : UInt8) : IntKind.i8.wrap (b.toNat : Int) = sby b := by
  unfold sby
  have := u8_lt b
  simp [IntKind.wrap, IntKind.bits, IntKind.signed]
  split <;> split <;> omega
set_option maxRecDepth 100000 in
set_option maxHeartbeats 1600000 in
theorem Sums_any (l : List UInt8) (hl : l.length = 512) (w : World) :
    Calls Tryz.prog 79 #[.agg (rowA l)] w fun e w' => e = .returned (.tuple #[.int .i64 (Plain.sum uby l), .int .i64 (Plain.sum sby l)]) ∧ Below w.heap.size w w' := by
  have HL := Lib.hid hl
  have h0 : RowAt w 72 (blankK l 0) (w.alloc (.cells (rowA l) 72)) := by rw [blankK_zero]; exact RowAt.new w _ _
  have H0 := Lib.hid h0; clear h0 hl
  go_enter Tryz.func79, Tryz.ntmps79
  go_wp2_with (with_reducible refine wpList_box_agg rfl _ _ rfl (rowA l) rfl ?_)
  go_loopw [4] (fun i wr => ∃ k : Nat, k ≤ 8 ∧ i = .int .i64 (148 + (k : Int)) ∧ RowAt w 72 (blankK l k) wr) (fun i _ => 156 - (intOf i).toNat)
  case atStart => exact ⟨0, by omega, by go_num, H0.out⟩
  case round =>
    obtain ⟨k, hk, rfl, hD⟩ := hrel
    have hlen := blankK_len l k (by rw [HL.out]; omega)
    by_cases hlt : k < 8
    · have hset := blankK_set l k (by rw [HL.out]; omega)
      obtain ⟨j, hj⟩ : ∃ j : Nat, 148 + (k : Int) = (j : Int) := ⟨148 + k, by omega⟩
      have hjk : 148 + k = j := by omega
      have hcell := hD.cell j (by rw [hlen, HL.out]; omega)
      have hfz := hD.froz j
      have hD2 := hD.set j 32
      rw [← hjk, hset, hjk] at hD2
      have HD2 := Lib.hid hD2
      have hj5 : (j : Int) < 512 := by omega
      have hj6 : (j : Int) < 156 := by omega
      clear hset hD hD2 hlen
      go_wp2
      exact ⟨⟨k + 1, by omega, by go_num, HD2.out⟩, by simp [intOf]; omega⟩
    · obtain rfl : k = 8 := by omega
      have hrow := hD.row
      have hbel := hD.bel
      have hbl : blankK l 8 = blank l := rfl
      rw [hbl] at hrow hlen
      have hs1 := blank_sum uby l
      have hs2 := blank_sum sby l
      have hll : (blank l).length = 512 := by rw [hlen]; exact HL.out
      have HI := Lib.hid (sizeBlk (blank l) hll)
      have HROW := Lib.hid hrow; have HLL := Lib.hid hll; have HS1 := Lib.hid hs1; have HS2 := Lib.hid hs2
      clear hrow hll hs1 hs2 hlen hbl hD
      generalize blank l = m at *
      have hi : ¬ (148 + ((8 : Nat) : Int)) < 156 := by omega
      go_wp2_with (with_reducible refine wpList_load_row rfl _ _ rfl w.heap.size rfl 72 (rowA m) (0, 0) _ HROW.out Tryz.underlying72 rfl HI.out ?_)
      go_loop [16, 5, 6] (fun i u s => ∃ k : Nat, k ≤ 512 ∧ i = .int .i64 k ∧ u = .int .i64 (sumB uby (m.take k)) ∧ s = .int .i64 (sumB sby (m.take k))) (fun i _ _ => 512 - (intOf i).toNat)
      case atStart => exact ⟨0, by omega, rfl, rfl, rfl⟩
      case round =>
        obtain ⟨k, hk, rfl, rfl, rfl⟩ := hrel
        by_cases hlt : k < 512
        · have hu := sumB_step uby m k (by rw [HLL.out]; exact hlt)
          have hs := sumB_step sby m k (by rw [HLL.out]; exact hlt)
          have b1 := sumTake_bd uby uby_wide m k (by omega)
          have b2 := sumTake_bd sby sby_wide m k (by omega)
          have hw := i8_sby (m.getD k 0)
          have c1 := uby_bd (m.getD k 0)
          have c2 := sby_bd (m.getD k 0)
          have hub : uby (m.getD k 0) = ((m.getD k 0).toNat : Int) := rfl
          rw [hub] at hu c1
          generalize hUU : sumB uby (m.take (k + 1)) = U' at *
          generalize hVV : sumB sby (m.take (k + 1)) = S' at *
          generalize sumB uby (m.take k) = U at *
          generalize sumB sby (m.take k) = S at *
          have hkk : (k : Int) < 512 := by omega
          obtain ⟨b11, b12⟩ := b1; obtain ⟨b21, b22⟩ := b2; obtain ⟨c11, c12⟩ := c1; obtain ⟨c21, c22⟩ := c2
          generalize hX : ((m.getD k 0).toNat : Int) = X at *
          generalize sby (m.getD k 0) = Y at *
          have HU := Lib.hid (hUU.trans hu); have HSS := Lib.hid (hVV.trans hs); have HX := Lib.hid hX
          clear hUU hVV hu hs hub hX
          go_wp2_with (refine wpList_index_row rfl _ _ _ rfl Tryz.underlying72 Tryz.underlying5 (by kernel_rfl) m HLL.out rfl k rfl hlt ?_; rw [HX.out])
          go_round
          case rel => exact ⟨k + 1, by omega, by go_num, by rw [HU.out], by rw [HSS.out]⟩
          case measure => simp [intOf]; omega
        · obtain rfl : k = 512 := by omega
          have e : m.take 512 = m := List.take_of_length_le (by rw [HLL.out]; exact Nat.le_refl _)
          rw [e]
          have hkk : ¬ (512 : Int) < 512 := by omega
          go_wp2
          go_ret2
          exact ⟨by rw [HS1.out, HS2.out]; rfl, hbel⟩
set_option maxRecDepth 100000 in
set_option maxHeartbeats 1600000 in
theorem RefSums_any (l : List UInt8) (hl : l.length = 512) (w : World) :
    Calls Tryz.prog 82 #[.agg (rowA l)] w fun e w' => e = .returned (.tuple #[.int .i64 (Plain.sum uby l), .int .i64 (Plain.sum sby l)]) ∧ Below w.heap.size w w' := by
  have he1 := sumTo_end uby l hl
  have he2 := sumTo_end sby l hl
  have HL := Lib.hid hl; have HE1 := Lib.hid he1; have HE2 := Lib.hid he2
  have HR := Lib.hid (RowAt.new w 72 l)
  have hz1 : Plain.sumTo uby l 0 = 256 := by rw [sumTo_zero]; rfl
  have hz2 : Plain.sumTo sby l 0 = 256 := by rw [sumTo_zero]; rfl
  have HZ1 := Lib.hid hz1; have HZ2 := Lib.hid hz2
  clear hl he1 he2 hz1 hz2
  go_enter Tryz.func82, Tryz.ntmps82
  go_wp2_with (with_reducible refine wpList_box_agg rfl _ _ rfl (rowA l) rfl ?_)
  have hR := HR.out
  generalize w.alloc (.cells (rowA l) 72) = wa at *
  have hbel := hR.bel
  have HRR := Lib.hid hR; clear hR HR
  go_loop [4, 5, 6] (fun u s i => ∃ k : Nat, k ≤ 512 ∧ i = .int .i64 k ∧ u = .int .i64 (Plain.sumTo uby l k) ∧ s = .int .i64 (Plain.sumTo sby l k)) (fun _ _ i => 512 - (intOf i).toNat)
  case atStart => exact ⟨0, by omega, rfl, by rw [HZ1.out], by rw [HZ2.out]⟩
  case round =>
    obtain ⟨k, hk, rfl, rfl, rfl⟩ := hrel
    by_cases hlt : k < 512
    · have b1 := sumTo_bd uby uby_wide l k (by omega)
      have b2 := sumTo_bd sby sby_wide l k (by omega)
      have hkk : (k : Int) < 512 := by omega
      by_cases hf : 148 ≤ k ∧ k < 156
      · have hu := sumTo_skip uby l k hf.1 hf.2
        have hs := sumTo_skip sby l k hf.1 hf.2
        generalize hUU : Plain.sumTo uby l (k + 1) = U' at *
        generalize hVV : Plain.sumTo sby l (k + 1) = S' at *
        generalize Plain.sumTo uby l k = U at *
        generalize Plain.sumTo sby l k = S at *
        have f1 : (148 : Int) ≤ k := by omega
        have f2 : (k : Int) ≤ 155 := by omega
        have HU := Lib.hid (hUU.trans hu); have HSS := Lib.hid (hVV.trans hs)
        clear hUU hVV hu hs hf
        go_wp2
        go_round
        case rel => exact ⟨k + 1, by omega, by go_num, by rw [HU.out], by rw [HSS.out]⟩
        case measure => simp [intOf]; omega
      · have hu := sumTo_step uby l k (by rw [HL.out]; exact hlt) (by omega)
        have hs := sumTo_step sby l k (by rw [HL.out]; exact hlt) (by omega)
        have hcell := HRR.out.cell k (by rw [HL.out]; exact hlt)
        have c1 := uby_bd (l.getD k 0)
        have hub : uby (l.getD k 0) = ((l.getD k 0).toNat : Int) := rfl
        have hsb : sby (l.getD k 0) = if (l.getD k 0).toNat < 128 then ((l.getD k 0).toNat : Int) else ((l.getD k 0).toNat : Int) - 256 := rfl
        rw [hub] at hu c1
        generalize hUU : Plain.sumTo uby l (k + 1) = U' at *
        generalize hVV : Plain.sumTo sby l (k + 1) = S' at *
        generalize Plain.sumTo uby l k = U at *
        generalize Plain.sumTo sby l k = S at *
        obtain ⟨b11, b12⟩ := b1; obtain ⟨b21, b22⟩ := b2; obtain ⟨c11, c12⟩ := c1
        have hway : ((k : Int) < 148) ∨ ((148 : Int) ≤ k ∧ (155 : Int) < k) := by omega
        by_cases h8 : (l.getD k 0).toNat < 128
        · rw [if_pos h8] at hsb
          rw [hsb] at hs
          have h8i : ((l.getD k 0).toNat : Int) < 128 := by omega
          generalize ((l.getD k 0).toNat : Int) = X at *
          have HU := Lib.hid (hUU.trans hu); have HSS := Lib.hid (hVV.trans hs)
          clear hUU hVV hu hs hub hsb h8 hf
          rcases hway with f1 | ⟨f1, f2⟩
          all_goals
            go_wp2
            go_round
            case rel => exact ⟨k + 1, by omega, by go_num, by rw [HU.out], by rw [HSS.out]⟩
            case measure => simp [intOf]; omega
        · rw [if_neg h8] at hsb
          rw [hsb] at hs
          have h8i : ¬ ((l.getD k 0).toNat : Int) < 128 := by omega
          generalize ((l.getD k 0).toNat : Int) = X at *
          have HU := Lib.hid (hUU.trans hu); have HSS := Lib.hid (hVV.trans hs)
          clear hUU hVV hu hs hub hsb h8 hf
          rcases hway with f1 | ⟨f1, f2⟩
          all_goals
            go_wp2
            go_round
            case rel => exact ⟨k + 1, by omega, by go_num, by rw [HU.out], by rw [HSS.out]⟩
            case measure => simp [intOf]; omega
    · obtain rfl : k = 512 := by omega
      have hkk : ¬ (512 : Int) < 512 := by omega
      have h1 := HE1.out
      have h2 := HE2.out
      rw [h1, h2]
      clear h1 h2
      go_wp2
      go_ret2
      exact ⟨rfl, hbel⟩
end Go.Proofs.YtamgiffkhnfpmaaGreatDoor
namespace Go.Proofs.YtamgiffkhnfpmaaGreatDoor
open Go.ChangeShapes Go.WideShapes Go.ChangeAt Go.RowKit
theorem i64_or256 (x y : Int) (h : x % 256 = 0) (h0 : 0 ≤ y) (h1 : y < 256) : bits .or .i64 x y = IntKind.i64.wrap (x + y) := by
  obtain ⟨b, rfl⟩ := Int.eq_ofNat_of_zero_le h0
  have hb : b < 2 ^ 8 := by omega
  obtain ⟨m, hm⟩ : ∃ m : Nat, (x % ((2 ^ 64 : Nat) : Int)).toNat = 2 ^ 8 * m := ⟨(x % ((2 ^ 64 : Nat) : Int)).toNat / 256, by omega⟩
  have key : (BitVec.ofInt 64 x ||| BitVec.ofInt 64 (b : Int)).toNat = 2 ^ 8 * m + b := by
    rw [BitVec.toNat_or, BitVec.toNat_ofInt, BitVec.toNat_ofInt, hm, show ((b : Int) % ((2 ^ 64 : Nat) : Int)).toNat = b by omega, Nat.two_pow_add_eq_or_of_lt hb]
  show IntKind.i64.wrap ((BitVec.ofInt 64 x ||| BitVec.ofInt 64 (b : Int)).toNat : Nat) = _
  rw [key, IntKind.wrap_i64, IntKind.wrap_i64]
  omega
theorem ret_val {k : IntKind} {x y : Int} (h : x = y) : Value.int k x = Value.int k y := by rw [h]
end Go.Proofs.YtamgiffkhnfpmaaGreatDoor
namespace Go.Proofs.YtamgiffkhnfpmaaGreatDoor
open Go.ChangeShapes Go.WideShapes Go.ChangeAt Go.RowKit
set_option maxRecDepth 100000 in
theorem head_bits (c : UInt8) (h : 128 ≤ c.toNat) : bits .or .u8 (bits .and .u8 (c.toNat : Int) 127) (bits .and .u8 ((fillOf c).toNat : Int) 128) = ((headB c).toNat : Int) := by
  have key : ∀ x : Fin 256, 128 ≤ x.1 → ((x.1 &&& 127) ||| ((if 192 ≤ x.1 then 255 else 0) &&& 128)) = (if 192 ≤ x.1 then x.1 else x.1 - 128) := by decide
  have hx := key ⟨c.toNat, c.toNat_lt⟩ h
  simp only at hx
  have hc := c.toNat_lt
  have e1 : bits .and .u8 (c.toNat : Int) 127 = ((c.toNat &&& 127 : Nat) : Int) := u8_and_nat c.toNat 127 hc (by decide)
  have e2 : bits .and .u8 ((fillOf c).toNat : Int) 128 = (((fillOf c).toNat &&& 128 : Nat) : Int) := u8_and_nat (fillOf c).toNat 128 (fillOf c).toNat_lt (by decide)
  have l1 : c.toNat &&& 127 < 256 := Nat.lt_of_le_of_lt Nat.and_le_left hc
  have l2 : (fillOf c).toNat &&& 128 < 256 := Nat.lt_of_le_of_lt Nat.and_le_left (fillOf c).toNat_lt
  rw [e1, e2, u8_or_nat _ _ l1 l2]
  have e3 : (fillOf c).toNat = if 192 ≤ c.toNat then 255 else 0 := by unfold fillOf; split <;> rfl
  have e4 : (headB c).toNat = if 192 ≤ c.toNat then c.toNat else c.toNat - 128 := by
    unfold headB; split
    · rfl
    · rw [UInt8.toNat_ofNat']; omega
  rw [e3, e4, hx]
theorem farFill_step (l : List UInt8) (k : Nat) (h : farFill l k) (hk : k + 8 < l.length → (binRow l).getD (8 + k) 0 = fillOf (l.getD 0 0)) : farFill l (k + 1) := fun j hj hj2 => by
  by_cases e : j = k
  · subst e; exact hk hj2
  · exact h j (by omega) hj2
set_option maxRecDepth 100000 in
theorem and128 (c : UInt8) : bits .and .u8 (c.toNat : Int) 128 = (if 128 ≤ c.toNat then 128 else 0) := by
  have key : ∀ x : Fin 256, (x.1 &&& 128) = (if 128 ≤ x.1 then 128 else 0) := by decide
  have hx := key ⟨c.toNat, c.toNat_lt⟩
  simp only at hx
  have e1 : bits .and .u8 (c.toNat : Int) 128 = ((c.toNat &&& 128 : Nat) : Int) := u8_and_nat c.toNat 128 c.toNat_lt (by decide)
  rw [e1, hx]
  split <;> rfl
/-- what the last eight bytes say, where the others fill up -/
theorem last_res (l : List UInt8) (r : Int × Int) (h1 : 128 ≤ (l.getD 0 0).toNat) (h : 0 < l.length) (hf : farFill l l.length) (hr : Plain.base256 l = r) :
    ((128 ≤ ((lastK l l.length).getD 0 0).toNat ↔ 192 ≤ (l.getD 0 0).toNat) → r = (IntKind.i64.wrap (binAcc 0 (lastK l l.length)), 0)) ∧ (¬ (128 ≤ ((lastK l l.length).getD 0 0).toNat ↔ 192 ≤ (l.getD 0 0).toNat) → r = (0, 11)) := by
  have hv := far_good l h h1 hf
  have hlen := lastK_len l l.length
  rw [← hr, Plain.base256_at l h (by omega), hv]
  generalize lastK l l.length = m at *
  obtain ⟨c, t, rfl⟩ : ∃ c t, m = c :: t := by
    cases m with
    | nil => simp at hlen
    | cons c t => exact ⟨c, t, rfl⟩
  have hg : (c :: t).getD 0 0 = c := rfl
  have htl : t.length = 7 := by simpa using hlen
  have hb := binAcc_bd t
  rw [htl] at hb
  have e7 : (256 : Int) ^ 7 = 72057594037927936 := by rfl
  rw [hg, binAcc_cons, binAcc_pow, htl]
  rw [e7] at hb ⊢
  have hc := u8_lt c
  generalize binAcc 0 t = u at *
  unfold signOf
  constructor
  · intro he
    rw [if_pos]
    · rw [IntKind.wrap_i64]
      by_cases h2 : 192 ≤ (l.getD 0 0).toNat
      · rw [if_pos h2]
        have := he.2 h2
        congr 1; omega
      · rw [if_neg h2]
        have : ¬ 128 ≤ c.toNat := fun h3 => h2 (he.1 h3)
        congr 1; omega
    · rw [inI64_iff]
      by_cases h2 : 192 ≤ (l.getD 0 0).toNat
      · rw [if_pos h2]
        have := he.2 h2
        omega
      · rw [if_neg h2]
        have : ¬ 128 ≤ c.toNat := fun h3 => h2 (he.1 h3)
        omega
  · intro he
    rw [if_neg]
    rw [inI64_iff]
    by_cases h2 : 192 ≤ (l.getD 0 0).toNat
    · rw [if_pos h2]
      have : ¬ 128 ≤ c.toNat := fun h3 => he ⟨fun _ => h2, fun _ => h3⟩
      omega
    · rw [if_neg h2]
      have : 128 ≤ c.toNat := Classical.byContradiction fun h3 => he ⟨fun h4 => absurd h4 h3, fun h4 => absurd h4 h2⟩
      omega
end Go.Proofs.YtamgiffkhnfpmaaGreatDoor
namespace Go.Proofs.YtamgiffkhnfpmaaGreatDoor
open Go.ChangeShapes Go.WideShapes Go.ChangeAt Go.RowKit
/-- where a walk from the left stands still -/
theorem while_at {p : UInt8 → Bool} (m : List UInt8) (k : Nat) (hk : k ≤ m.length) (h1 : (m.take k).all p = true) (h2 : k < m.length → p (m.getD k 0) = false) : m.takeWhile p = m.take k ∧ m.dropWhile p = m.drop k := by
  have hd : m.dropWhile p = m.drop k := by
    have e := dropWhile_pass (p := p) (m.take k) (m.drop k) h1
    rw [List.take_append_drop] at e
    rw [e]
    by_cases hlt : k < m.length
    · have hg : m.getD k 0 = m[k] := by simp [List.getD, List.getElem?_eq_getElem hlt]
      rw [List.drop_eq_getElem_cons hlt, List.dropWhile_cons_of_neg]
      have := h2 hlt
      rw [hg] at this
      rw [this]; exact Bool.false_ne_true
    · rw [List.drop_of_length_le (by omega)]; rfl
  refine ⟨?_, hd⟩
  have e1 : m.takeWhile p ++ m.dropWhile p = m := List.takeWhile_append_dropWhile
  have e2 : m.take k ++ m.drop k = m := List.take_append_drop k m
  rw [hd] at e1
  exact List.append_cancel_right (e1.trans e2.symm)
theorem all_step {p : UInt8 → Bool} (l : List UInt8) (k : Nat) (h : k < l.length) (ih : (l.take k).all p = true) (hd : p (l.getD k 0) = true) : (l.take (k + 1)).all p = true := by
  have hg : l.getD k 0 = l[k] := by simp [List.getD, List.getElem?_eq_getElem h]
  rw [List.take_succ_eq_append_getElem h, List.all_append, ih, ← hg, List.all_cons, hd]; rfl
theorem all_no {p : UInt8 → Bool} (l : List UInt8) (k : Nat) (h : k < l.length) (hd : p (l.getD k 0) = false) : l.all p = false := by
  have hg : l.getD k 0 = l[k] := by simp [List.getD, List.getElem?_eq_getElem h]
  cases ha : l.all p with
  | false => rfl
  | true =>
    have := (List.all_eq_true.1 ha) l[k] (List.getElem_mem h)
    rw [← hg, hd] at this
    cases this
/-- the last k digits -/
theorem octAcc_last (D : List UInt8) (k : Nat) (h : k < D.length) : octAcc 0 (D.drop (D.length - (k + 1))) = ((D.getD (D.length - (k + 1)) 0).toNat - 48) * 8 ^ k + octAcc 0 (D.drop (D.length - k)) := by
  have hi : D.length - (k + 1) < D.length := by omega
  have hg : D.getD (D.length - (k + 1)) 0 = D[D.length - (k + 1)] := by simp [List.getD, List.getElem?_eq_getElem hi]
  rw [List.drop_eq_getElem_cons hi, octAcc_cons, octAcc_pow, ← hg, List.length_drop, show D.length - (k + 1) + 1 = D.length - k by omega, show D.length - (D.length - k) = k by omega]
  simp only [Nat.zero_mul, Nat.zero_add]
theorem octAcc_drop_le (D : List UInt8) (k : Nat) : octAcc 0 (D.drop k) ≤ octAcc 0 D := by
  have h := octAcc_app 0 (D.take k) (D.drop k)
  rw [List.take_append_drop, octAcc_pow (D.drop k) (octAcc 0 (D.take k))] at h
  rw [h]
  exact Nat.le_add_left _ _
end Go.Proofs.YtamgiffkhnfpmaaGreatDoor
namespace Go.Proofs.YtamgiffkhnfpmaaGreatDoor
set_option linter.unusedVariables false
set_option linter.unusedSimpArgs false
open Go.ChangeShapes Go.WideShapes Go.ChangeAt Go.RowKit
theorem Plain.octal_at (l : List UInt8) (f e : Nat) (hf : l.dropWhile (· == 32) = l.drop f) (hd : octHead (l.drop f) = (l.drop f).take (e - f)) (ht : octTail (l.drop f) = l.drop e) :
    Plain.octal l = if (l.drop e).all isGap then (if octAcc 0 ((l.drop f).take (e - f)) ≤ 9223372036854775807 then (((octAcc 0 ((l.drop f).take (e - f)) : Nat) : Int), 0) else (0, 11)) else (0, 10) := by
  unfold Plain.octal
  simp only [hf, hd, ht]
/-- a step of the reference's sum: the digit's place is k -/
structure OctStep (D : List UInt8) (e f k A : Nat) (g : UInt8) (r : Int × Int) : Prop where
  dig : 48 ≤ g.toNat ∧ g.toNat ≤ 55
  zero : g.toNat = 48 → octAcc 0 (D.drop (e - f - (k + 1))) = A
  far : g.toNat ≠ 48 → 21 ≤ k → r = (0, 11)
  near : k ≤ 20 → octAcc 0 (D.drop (e - f - (k + 1))) = (g.toNat - 48) * 8 ^ k + A ∧ (g.toNat - 48) * 8 ^ k + A ≤ 9223372036854775807
theorem OctStep.of (D : List UInt8) (e f k A j : Nat) (g : UInt8) (r : Int × Int) (hl : D.length = e - f) (ho : D.all isOct = true) (hk : k < e - f) (hj : j = e - 1 - k) (hg : D.getD (j - f) 0 = g) (hA : octAcc 0 (D.drop (e - f - k)) = A)
    (hr : r = if octAcc 0 D ≤ 9223372036854775807 then (((octAcc 0 D : Nat) : Int), 0) else (0, 11)) : OctStep D e f k A g r := by
  have hlast := octAcc_last D k (by omega)
  rw [hl, show e - f - (k + 1) = j - f by omega, hg, hA] at hlast
  have hd := oct_at D (j - f) (by omega) ho
  rw [hg] at hd
  have hall : (D.drop (j - f)).all isOct = true := by
    rw [List.all_eq_true] at ho ⊢
    exact fun x hx => ho x (List.mem_of_mem_drop hx)
  have hlt := octAcc_lt _ hall
  rw [List.length_drop, hl, show e - f - (j - f) = k + 1 by omega] at hlt
  have hle := octAcc_drop_le D (j - f)
  have ej : e - f - (k + 1) = j - f := by omega
  rw [← ej] at hlast hle hlt
  refine ⟨hd, fun h => by rw [hlast, h, Nat.sub_self, Nat.zero_mul, Nat.zero_add], fun h h21 => ?_, fun h20 => ⟨hlast, ?_⟩⟩
  · rw [hr, if_neg]
    have h1 : 8 ^ 21 ≤ 8 ^ k := Nat.pow_le_pow_right (by decide) h21
    have h2 : 1 * 8 ^ k ≤ (g.toNat - 48) * 8 ^ k := Nat.mul_le_mul_right _ (by omega)
    have h3 : (8 : Nat) ^ 21 = 9223372036854775808 := rfl
    omega
  · have h1 : 8 ^ (k + 1) ≤ 8 ^ 21 := Nat.pow_le_pow_right (by decide) (by omega)
    have h3 : (8 : Nat) ^ 21 = 9223372036854775808 := rfl
    rw [hlast] at hlt
    omega
theorem two_pow8 (k : Nat) (P : Int) (h : P = 3 * k) : (2 : Int) ^ P.toNat = ((8 ^ k : Nat) : Int) := by
  have e : P.toNat = 3 * k := by omega
  rw [e, Int.pow_mul, Int.natCast_pow]; rfl
end Go.Proofs.YtamgiffkhnfpmaaGreatDoor
namespace Go.Proofs.YtamgiffkhnfpmaaGreatDoor
open Go.ChangeShapes Go.WideShapes Go.ChangeAt Go.RowKit
/-- the set's cells -/
def GapSet (w : World) (b : Nat) : Prop := ∀ x : UInt8, w.cell? ⟨b, x.toNat, none⟩ = some (.bool (isGap x))
theorem gap_contains (x : UInt8) : [32, 0].contains x = isGap x := by
  simp only [isGap, List.contains_cons, List.contains_nil, Bool.or_false]
set_option maxHeartbeats 400000 in
theorem TrimASCII_any (l : List UInt8) (b : Nat) (w : World) (hl : l.length ≤ 140737488355328) (hg : GapSet w b) :
    Calls Tryz.prog 61 #[.string ⟨l.toArray⟩, .pointer (some ⟨b, 0, none⟩)] w fun e w' => e = .returned (.string ⟨(trimR l).toArray⟩) ∧ w' = w := by
  generalize hr : trimR l = R
  have HR := Lib.hid hr; clear hr
  have HG := Lib.hid hg; clear hg
  go_enter Tryz.func61, Tryz.ntmps61
  go_wp2
  go_loop [0] (fun t => ∃ s : List UInt8, t = .string ⟨s.toArray⟩ ∧ s.length ≤ 140737488355328 ∧ Hid (trimR s = R)) (fun t => match t with | .string x => x.size | _ => 0)
  case atStart => exact ⟨l, rfl, hl, HR⟩
  case round =>
    obtain ⟨s, rfl, hs, ht⟩ := hrel
    by_cases h0 : s = []
    · subst h0
      obtain rfl : R = [] := by rw [← ht.out]; rfl
      go_wp2
      go_ret
      exact ⟨rfl, rfl⟩
    · obtain ⟨t, c, rfl⟩ : ∃ t c, s = t ++ [c] := ⟨s.dropLast, s.getLast h0, (List.dropLast_concat_getLast h0).symm⟩
      have hx := str_at (t ++ [c]) t.length (by simp)
      have hgd : (t ++ [c]).getD t.length 0 = c := by simp [List.getD]
      rw [hgd] at hx
      have hlen : (t ++ [c]).length = t.length + 1 := by simp
      have hext : (⟨(t ++ [c]).toArray⟩ : ByteArray).extract 0 t.length = ⟨t.toArray⟩ := by
        apply ByteArray.ext
        simp [ByteArray.data_extract]
      have hst : t.length ≤ 140737488355328 := by omega
      have HEXT := Lib.hid hext
      cases hgap : isGap c with
      | false =>
        have hcon := Tryz.asciiSet_contains b c (isGap c) w (HG.out c)
        rw [hgap] at hcon
        have HC := Lib.hid hcon
        have hRR : t ++ [c] = R := by rw [← trimR_end t c hgap]; exact ht.out
        have HRR := Lib.hid hRR
        clear hcon hRR hgd hext h0 hgap
        go_wp2_with (go_at_call 73; refine (HC.out).mono ?_; rintro e w1 ⟨rfl, hw⟩; obtain rfl := hw.symm)
        go_ret
        exact ⟨by rw [← HRR.out]; rfl, rfl⟩
      | true =>
        have hcon := Tryz.asciiSet_contains b c (isGap c) w (HG.out c)
        rw [hgap] at hcon
        have HC := Lib.hid hcon
        have hRR : trimR t = R := by rw [← trimR_gap t c hgap]; exact ht.out
        have HRR := Lib.hid hRR
        clear hcon hRR hgd hext h0 hgap
        go_wp2_with (go_at_call 73; refine (HC.out).mono ?_; rintro e w1 ⟨rfl, hw⟩; obtain rfl := hw.symm)
        rw [HEXT.out]
        exact ⟨⟨t, rfl, hst, HRR⟩, by simp [ByteArray.size]⟩
theorem gapSet_zero : ∀ w, (zeroValue 79).run Tryz.prog w = .ok (.agg (Array.replicate 256 (.bool false))) w := fun w => by kernel_rfl
theorem gapSize : (Tryz.prog.info? 79).map (·.size) = some (Lib.setCells [32, 0]).size := by rw [Lib.setCells_size]; kernel_rfl
theorem gapZero : (Tryz.prog.info? 79).bind (·.zero) = some (.agg (Array.replicate 256 (.bool false))) := by kernel_rfl
theorem gapOne : ∀ u ∈ (Lib.setCells [32, 0]).toList, u.oneCell' = true := by
  intro u hu
  have h := Lib.setCells_one [32, 0]
  generalize Lib.setCells [32, 0] = A at *
  rw [Array.all_eq_true] at h
  obtain ⟨i, hi, rfl⟩ := List.getElem_of_mem hu
  exact h i (by simpa using hi)
theorem gapSet_new (w1 : World) : GapSet (w1.alloc (.cells (Lib.setCells [32, 0]) 79)) w1.heap.size := fun x => by
  rw [World.cell?_alloc_new, Lib.setCells_at, gap_contains]
set_option maxRecDepth 100000 in
set_option maxHeartbeats 1000000 in
theorem TrimGap_any (l : List UInt8) (w : World) (hl : l.length ≤ 140737488355328) :
    Calls Tryz.prog 46 #[.string ⟨l.toArray⟩, .string ⟨#[32, 0]⟩] w fun e w' => e = .returned (.string ⟨(trimR l).toArray⟩) ∧ Below w.heap.size w w' := by
  by_cases h0 : l = []
  · subst h0
    go_enter Tryz.func46, Tryz.ntmps46
    go_wp2
    go_ret
    exact ⟨rfl, Below.refl _ _⟩
  · have c1b : l.isEmpty = false := by simpa using h0
    have hasc : ∀ (j : Nat) b, [(32 : UInt8), 0][j]? = some b → b.toNat < 128 := by
      intro j b hj
      match j, hj with
      | 0, hj => cases hj; decide
      | 1, hj => cases hj; decide
    have HM := Lib.hid (Tryz.strings_makeASCIISet gapSet_zero ⟨#[32, 0]⟩ w (by decide) hasc)
    generalize hR : trimR l = R
    have HR := Lib.hid hR
    have HZ := Lib.hid gapZero; have HSZ := Lib.hid gapSize
    have HO : Hid (∀ u ∈ (Lib.setCells [32, 0]).toList, u.oneCell' = true) := Lib.hid (gapOne)
    go_enter Tryz.func46, Tryz.ntmps46
    clear hR
    go_wp2_with (first
      | (go_at_call 60; refine (HM.out).mono ?_; rintro e w1 ⟨rfl, hw⟩; have HW := Lib.hid hw; clear hw)
      | (with_reducible refine wpList_alloc_z rfl _ rfl (Array.replicate 256 (.bool false)) HZ.out ?_)
      | ((with_reducible refine wpList_store_new rfl _ _ _ rfl _ rfl (Lib.setCells [32, 0]) rfl ?_ (by rw [Lib.setCells_size, Array.size_replicate]) HSZ.out HO.out ?_); · simp)
      | (go_at_call 61; refine (TrimASCII_any l _ _ hl (by exact gapSet_new w1)).mono ?_; rintro e w3 ⟨rfl, hw⟩; obtain rfl := hw.symm; rw [HR.out]))
    go_ret
    refine ⟨rfl, ?_⟩
    rw [HW.out]
    exact ((Below.refl _ _).alloc (Nat.le_refl _) _).alloc (by simp) _
end Go.Proofs.YtamgiffkhnfpmaaGreatDoor
namespace Go.Proofs.YtamgiffkhnfpmaaGreatDoor
open Go.ChangeShapes Go.WideShapes Go.ChangeAt Go.RowKit
/-- what ParseUint hands back -/
def octTuple (t : TypeId) (v : Nat) : Value := if v ≤ 18446744073709551615 then .tuple #[.int .u64 (v : Int), .nilIface] else .tuple #[.int .u64 18446744073709551615, .iface t (.int .i64 1)]
/-- what the inner ParseInt hands back -/
def octIntV (t : TypeId) (v : Nat) : Value := if v ≤ 9223372036854775807 then .tuple #[.int .i64 (v : Int), .nilIface] else .tuple #[.int .i64 9223372036854775807, .iface t (.int .i64 1)]
end Go.Proofs.YtamgiffkhnfpmaaGreatDoor
namespace Go.Proofs.YtamgiffkhnfpmaaGreatDoor
open Go.ChangeShapes Go.WideShapes Go.ChangeAt Go.RowKit
theorem oct_step (l : List UInt8) (k : Nat) (h : k < l.length) (ih : (l.take k).all isOct = true) (hd : 48 ≤ (l.getD k 0).toNat ∧ (l.getD k 0).toNat ≤ 55) : (l.take (k + 1)).all isOct = true := by
  have hg : l.getD k 0 = l[k] := by simp [List.getD, List.getElem?_eq_getElem h]
  have h1 : isOct (l.getD k 0) = true := (isOct_iff _).2 hd
  rw [List.take_succ_eq_append_getElem h, List.all_append, ih, ← hg, List.all_cons, h1]; rfl
theorem oct_no (l : List UInt8) (k : Nat) (h : k < l.length) (hd : ¬ (48 ≤ (l.getD k 0).toNat ∧ (l.getD k 0).toNat ≤ 55)) : l.all isOct = false := by
  have hg : l.getD k 0 = l[k] := by simp [List.getD, List.getElem?_eq_getElem h]
  cases ha : l.all isOct with
  | false => rfl
  | true =>
    have := (List.all_eq_true.1 ha) l[k] (List.getElem_mem h)
    rw [isOct_iff, ← hg] at this
    exact absurd this hd
theorem all_dropWhile {p q : UInt8 → Bool} (l : List UInt8) (h : l.all p = true) : (l.dropWhile q).all p = true := by
  rw [List.all_eq_true] at h ⊢
  exact fun x hx => h x ((List.dropWhile_sublist q).subset hx)
theorem Plain.octal_bad (l : List UInt8) (h : (trimR (l.dropWhile (· == 32))).all isOct = false) : Plain.octal l = (0, 10) := by
  have hg : (octTail (l.dropWhile (· == 32))).all isGap = false := by
    cases hg : (octTail (l.dropWhile (· == 32))).all isGap with
    | false => rfl
    | true => rw [trim_good _ hg, octHead_all] at h; cases h
  unfold Plain.octal
  simp only [hg]
  rfl
theorem Plain.octal_good (l : List UInt8) (h : (trimR (l.dropWhile (· == 32))).all isOct = true) :
    Plain.octal l = if octAcc 0 (trimR (l.dropWhile (· == 32))) ≤ 9223372036854775807 then (((octAcc 0 (trimR (l.dropWhile (· == 32))) : Nat) : Int), 0) else (0, 11) := by
  have hg : (octTail (l.dropWhile (· == 32))).all isGap = true := by
    cases hg : (octTail (l.dropWhile (· == 32))).all isGap with
    | true => rfl
    | false => rw [trim_bad _ hg] at h; cases h
  rw [trim_good _ hg]
  unfold Plain.octal
  simp only [hg, if_true]
theorem trimR_len (l : List UInt8) : (trimR l).length ≤ l.length := by
  unfold trimR
  rw [List.length_reverse]
  have := (List.dropWhile_sublist (l := l.reverse) isGap).length_le
  simpa using this
end Go.Proofs.YtamgiffkhnfpmaaGreatDoor
namespace Go.Proofs.YtamgiffkhnfpmaaGreatDoor
open Go.ChangeShapes Go.WideShapes Go.ChangeAt Go.RowKit
/-- how the test at a field's head answers -/
theorem number_cases {w : World} {a : Option Addr} {n c : Nat} {l : List UInt8} (h : Bs w a n c l) :
    (n = 0 ∧ Plain.number l = Plain.octal l) ∨ (∃ b off, ∃ G : Int, 0 < n ∧ a = some ⟨b, off, none⟩ ∧ w.cell? ⟨b, off, none⟩ = some (.int .u8 G) ∧ ((128 ≤ G ∧ Plain.number l = Plain.base256 l) ∨ (G < 128 ∧ Plain.number l = Plain.octal l))) := by
  have hl := h.len
  by_cases h0 : n = 0
  · exact .inl ⟨h0, by unfold Plain.number; rw [if_neg (by omega)]⟩
  · right
    obtain ⟨b, off, ha, hc⟩ := h.at 0 (by omega)
    rw [Nat.add_zero] at hc
    refine ⟨b, off, _, by omega, ha, hc, ?_⟩
    by_cases hg : 128 ≤ (l.getD 0 0).toNat
    · exact .inl ⟨by omega, by unfold Plain.number; rw [if_pos ⟨by omega, hg⟩]⟩
    · exact .inr ⟨by omega, by unfold Plain.number; rw [if_neg (fun h => hg h.2)]⟩
end Go.Proofs.YtamgiffkhnfpmaaGreatDoor
namespace Go.Proofs.YtamgiffkhnfpmaaGreatDoor
open Go.ChangeShapes Go.WideShapes Go.ChangeAt Go.RowKit
/-- the one cell of math/bits' table that is read at 8 -/
def Bru (w : World) : Prop := w.cell? ⟨5, 7, none⟩ = some (.int .u8 3)
theorem Bru.below {w w' : World} (h : Bru w) (k : Below w.heap.size w w') : Bru w' := Below.keeps k _ _ h
theorem Tz64_8 (w : World) (h : Bru w) : Calls Tryz.prog 110 #[.int .u64 8] w fun e w' => e = .returned (.int .i64 3) ∧ w = w' := by
  unfold Bru at h
  have h1 : IntKind.u64.wrap (bits .and .u64 8 (IntKind.u64.wrap (-8)) * 285870213051353865) / 288230376151711744 = 7 := by decide +kernel
  go_enter Tryz.func110, Tryz.ntmps110
  go_wp2
  go_ret
  exact ⟨rfl, rfl⟩
theorem Tz_8 (w : World) (h : Bru w) : Calls Tryz.prog 99 #[.int .u64 8] w fun e w' => e = .returned (.int .i64 3) ∧ w = w' := by
  have H := Lib.hid (Tz64_8 w h); clear h
  go_enter Tryz.func99, Tryz.ntmps99
  go_wp2_with (go_at_call 110; (with_reducible refine (H.out).mono ?_); rintro e w1 ⟨rfl, hw⟩; obtain rfl := hw)
  go_ret
  exact ⟨rfl, rfl⟩
theorem Pow2_8 (w : World) : Calls Tryz.prog 98 #[.int .i64 8] w fun e w' => e = .returned (.bool true) ∧ w = w' := by
  have h1 : bits .and .i64 8 7 = 0 := by decide +kernel
  go_enter Tryz.func98, Tryz.ntmps98
  go_wp2
  go_ret
  exact ⟨rfl, rfl⟩
section
variable {P : Program} {ops : Array Oper} {rest : List Oper} {o : Oper} {a : Act} {w : World} {Q : Exit → Act → World → Prop}
/-- s[d] of a string whose byte there is known -/
theorem wpList_index_str (hgd : o.guard = none) (t : TypeId) (y x : Operand) (ho : o.op = .index t y x) (ht : P.underlying t = some .string) {s : ByteArray} (hy : a.eval y = .string s) {k : IntKind} (d : Nat) (hx : a.eval x = .int k (d : Int))
    (b : UInt8) (hb : s.data.toList[d]? = some b) (h : wpList P ops Q rest (a.put o.dst (.int .u8 (b.toNat : Int))) w) : wpList P ops Q (o :: rest) a w := by
  refine wpList_value hgd _ _ ?_ h
  have hr := run_index_string (P := P) (w := w) t s k (d : Int) ht
  obtain ⟨hlt, hv⟩ := List.getElem?_eq_some_iff.1 hb
  have hsz : d < s.size := by rw [Array.length_toList] at hlt; exact hlt
  have hgt : s[d]'hsz = b := by rw [← hv, Array.getElem_toList]; rfl
  have hx2 : (Instr.index t (.string s) (.int k (d : Int))).run P w = .ok (.int .u8 (b.toNat : Int)) w := by
    rw [hr, dif_pos ⟨by omega, by omega⟩]
    have : s[(d : Int).toNat]'(by omega) = b := hgt
    rw [this]
  simp [execOp, ho, hy, hx, hx2, Result.andThen]
end
def digs : ByteArray := ⟨#[48, 49, 50, 51, 52, 53, 54, 55, 56, 57, 97, 98, 99, 100, 101, 102, 103, 104, 105, 106, 107, 108, 109, 110, 111, 112, 113, 114, 115, 116, 117, 118, 119, 120, 121, 122]⟩
theorem digs_at (d : Nat) (h : d < 8) : digs.data.toList[d]? = some (UInt8.ofNat (48 + d)) := by
  have key : ∀ x : Fin 8, digs.data.toList[x.1]? = some (UInt8.ofNat (48 + x.1)) := by decide
  exact key ⟨d, h⟩
def z65 : List UInt8 := List.replicate 65 0
theorem zero65 : (Tryz.prog.info? 113).bind (·.zero) = some (.agg (rowA (z65))) := by kernel_rfl
theorem u64_and7 (n : Nat) (h : n < 18446744073709551616) : bits .and .u64 (n : Int) 7 = ((n % 8 : Nat) : Int) := by
  have e : bits .and .u64 (n : Int) 7 = ((n &&& 7 : Nat) : Int) := u64_and_nat n 7 h (by decide)
  rw [e, show (7 : Nat) = 2 ^ 3 - 1 by rfl, Nat.and_two_pow_sub_one_eq_mod]
theorem nd8_le22 (v : Nat) (h : v ≤ 9223372036854775807) : nd8 v ≤ 21 := nd8_le v 21 (by decide) (by have : (8 : Nat) ^ 21 = 9223372036854775808 := rfl; omega)
/-- what holds while the digits are laid -/
structure Odigs (w : World) (v k : Nat) (wr : World) : Prop where
  bel : Below w.heap.size w wr
  row : wr.heap[w.heap.size]? = some (.cells (rowA (fillRow 0 (octDig v) 65 k [])) 113 (0, 0))
theorem Odigs.start (w : World) (v : Nat) : Odigs w v 0 (w.alloc (.cells (rowA (z65)) 113)) := by
  refine ⟨(Below.refl _ _).alloc (Nat.le_refl _) _, ?_⟩
  rw [heap_alloc_new, fillRow_zero, List.append_nil]; rfl
theorem Odigs.step {w wr : World} {v k : Nat} (h : Odigs w v k wr) (hk : k < 65) (b : UInt8) (hb : b = octDig v k) : Odigs w v (k + 1) (wr.setCell ⟨w.heap.size, 64 - k, none⟩ (.int .u8 (b.toNat : Int))) := by
  subst hb
  refine ⟨h.bel.setCell (by simp) _, ?_⟩
  rw [heap_setCell_same _ _ _ _ _ _ h.row, show (Value.int .u8 ((octDig v k).toNat : Int)) = u8v (octDig v k) from rfl, rowA_set, show 64 - k = 65 - 1 - k by omega, fillRow_set 0 (octDig v) 65 k [] hk]
theorem Odigs.cell {w wr : World} {v k : Nat} (h : Odigs w v k wr) (hk : k < 65) (j : Nat) (hj : j < 65) : ∃ x, wr.cell? ⟨w.heap.size, j, none⟩ = some x :=
  ⟨_, by rw [cell_of_row _ _ _ _ _ _ h.row, rowA_at _ _ (by rw [fillRow_len _ _ _ _ _ (by omega)]; exact hj)]⟩
theorem Odigs.bs {w wr : World} {v k : Nat} (h : Odigs w v k wr) (hk : k ≤ 65) : Bs wr (some ⟨w.heap.size, 65 - k, none⟩) k k (octRow v k) := by
  refine ⟨by rw [List.length_map]; unfold octRow; rw [placeRow_len]; omega, Nat.le_refl _, by unfold maxLen; omega, fun j x hj => ⟨_, rfl, ?_⟩, fun h => by cases h⟩
  rw [Addr.add_lit, cell_of_row _ _ _ _ _ _ h.row]
  have hd := fillRow_drop 0 (octDig v) 65 k []
  rw [List.append_nil] at hd
  have e : (octRow v k) = (fillRow 0 (octDig v) 65 k []).drop (65 - k) := hd.symm
  rw [e, List.map_drop, List.getElem?_drop] at hj
  simpa [rowA] using hj
set_option maxRecDepth 100000 in
set_option maxHeartbeats 1600000 in
theorem FormatBits_8 (v : Nat) (hv : v ≤ 9223372036854775807) (w : World) (hT : Bru w) :
    Calls Tryz.prog 86 #[.slice none 0 0, .int .u64 v, .int .i64 8, .bool false, .bool false] w fun e w' => e = .returned (.tuple #[.slice none 0 0, .string ⟨(octRow v (nd8 v)).toArray⟩]) ∧ Below w.heap.size w w' := by
  have hn := nd8_le22 v hv
  have HT := Lib.hid hT; have HZ := Lib.hid zero65; clear hT
  go_enter Tryz.func86, Tryz.ntmps86
  go_wp2_with (first
    | (with_reducible refine wpList_alloc_z rfl _ rfl (rowA (z65)) HZ.out ?_)
    | (go_at_call 98; (with_reducible refine (Pow2_8 _).mono ?_); rintro e w1 ⟨rfl, hw⟩; obtain rfl := hw)
    | (go_at_call 99; (refine (Tz_8 _ (by exact HT.out.below (Odigs.start w v).bel)).mono ?_); rintro e w1 ⟨rfl, hw⟩; obtain rfl := hw))
  have hS := Odigs.start w v
  have HTW := Lib.hid (HT.out.below hS.bel)
  go_loopw [1, 13] (fun u i wr => ∃ k : Nat, k + nd8 (v / 8 ^ k) = nd8 v ∧ u = .int .u64 ((v / 8 ^ k : Nat) : Int) ∧ i = .int .i64 (65 - (k : Int)) ∧ Odigs w v k wr) (fun u _ _ => (intOf u).toNat)
  case atStart => exact ⟨0, by rw [Nat.pow_zero, Nat.div_one]; omega, by rw [Nat.pow_zero, Nat.div_one], by go_num, hS⟩
  case round =>
    obtain ⟨k, hk, rfl, rfl, hD⟩ := hrel
    have hdp := nd8_pos (v / 8 ^ k)
    have hk21 : k < 21 := by omega
    have hrec : 8 ≤ v / 8 ^ k → nd8 (v / 8 ^ k) = nd8 (v / 8 ^ (k + 1)) + 1 := fun h => by
      rw [Nat.pow_succ, ← Nat.div_div_eq_div_mul]
      conv => lhs; unfold nd8
      rw [if_neg (by omega)]
    have hnext : v / 8 ^ k / 8 = v / 8 ^ (k + 1) := by rw [Nat.pow_succ, ← Nat.div_div_eq_div_mul]
    have hle : v / 8 ^ k ≤ v := Nat.div_le_self _ _
    have hdig : octDig v k = UInt8.ofNat (48 + v / 8 ^ k % 8) := rfl
    have hlast : v / 8 ^ k < 8 → nd8 (v / 8 ^ k) = 1 := fun h => by unfold nd8; rw [if_pos h]
    generalize hU : v / 8 ^ (k + 1) = U' at *
    generalize v / 8 ^ k = U at *
    obtain ⟨j, hj⟩ : ∃ j : Nat, (65 : Int) - (k : Int) - 1 = (j : Int) := ⟨64 - k, by omega⟩
    have hjk : j = 64 - k := by omega
    have hj65 : (j : Int) < 65 := by omega
    obtain ⟨x0, hx0⟩ := hD.cell (by omega) j (by omega)
    have hfz := frozen_of_row _ _ j _ _ hD.row
    have hb := digs_at (U % 8) (Nat.mod_lt _ (by decide))
    have hand := u64_and7 U (by omega)
    have hm8 : U < 8 → U % 8 = U := fun h => Nat.mod_eq_of_lt h
    generalize hB : UInt8.ofNat (48 + U % 8) = B at hb hdig
    have hstep := hD.step (by omega) B hdig.symm
    rw [← hjk] at hstep
    have HBY := Lib.hid hb; have HSTEP := Lib.hid hstep; have HN := Lib.hid hnext; have HREC := Lib.hid hrec; have HLAST := Lib.hid hlast; have HK := Lib.hid hk; have HJK := Lib.hid hjk; have HM8 := Lib.hid hm8; have HU := Lib.hid hU
    clear hb hstep hnext hrec hlast hk hjk hdig hB hm8 hU
    by_cases h8 : 8 ≤ U
    · have h8i : (8 : Int) ≤ (U : Int) := by omega
      go_wp2_with (refine wpList_index_str rfl 9 _ _ rfl Tryz.underlying9 rfl (U % 8) rfl B HBY.out ?_)
      exact ⟨⟨k + 1, by have := HREC.out h8; have := HK.out; rw [HU.out]; omega, by rw [HU.out, ← HN.out]; go_num, by go_num, HSTEP.out⟩, by simp [intOf]; omega⟩
    · have h8i : ¬ (8 : Int) ≤ (U : Int) := by omega
      have h8j : (U : Int) < 8 := by omega
      have hidx := HM8.out (by omega)
      have hb2 := HBY.out
      rw [hidx] at hb2
      have HBY2 := Lib.hid hb2
      clear hb2 hidx hand
      have hk1 : k + 1 = nd8 v := by have := HLAST.out (by omega); have := HK.out; omega
      have hbs : Bs (wr.setCell ⟨w.heap.size, j, none⟩ (.int .u8 (B.toNat : Int))) (some ⟨w.heap.size, j, none⟩) (65 - j) (65 - j) (octRow v (nd8 v)) := by
        have := HSTEP.out.bs (by omega)
        rw [← hk1]
        have e1 : 65 - (k + 1) = j := by have := HJK.out; omega
        have e2 : 65 - j = k + 1 := by omega
        rw [e1] at this
        rw [e2]
        exact this
      have HBS := Lib.hid hbs; have hbel := HSTEP.out.bel
      clear hbs hk1
      have hj2 : j ≤ 65 := by omega
      have hj3 : j < 65 := by omega
      go_wp2_with (first
        | (refine wpList_index_str rfl 9 _ _ rfl Tryz.underlying9 rfl U rfl B HBY2.out ?_)
        | (with_reducible refine wpList_slice_row rfl _ _ _ _ rfl Tryz.underlying113 (by kernel_rfl) w.heap.size rfl j 65 .i64 .i64 rfl rfl hj2 (by decide) hj3 ?_)
        | (with_reducible refine wpList_str_of_bs rfl _ _ _ rfl Tryz.underlying25 Tryz.underlying5 Tryz.underlying9 rfl HBS.out ?_))
      go_ret2
      exact ⟨rfl, hbel⟩
set_option maxHeartbeats 800000 in
theorem FormatInt_8 (v : Nat) (hv : v ≤ 9223372036854775807) (w : World) (hT : Bru w) :
    Calls Tryz.prog 93 #[.int .i64 v, .int .i64 8] w fun e w' => e = .returned (.string ⟨(octRow v (nd8 v)).toArray⟩) ∧ Below w.heap.size w w' := by
  have HF : Hid (Calls Tryz.prog 72 #[.int .i64 v, .int .i64 8] w fun e w' => e = .returned (.string ⟨(octRow v (nd8 v)).toArray⟩) ∧ Below w.heap.size w w') := by
    have H := Lib.hid (FormatBits_8 v hv w hT)
    show Calls _ _ _ _ _
    have hn : ¬ (v : Int) < 0 := by omega
    clear hT
    go_enter Tryz.func72, Tryz.ntmps72
    go_wp2_with (go_at_call 86; (with_reducible refine (H.out).mono ?_); rintro e w1 ⟨rfl, hb⟩)
    go_ret
    exact ⟨rfl, hb⟩
  clear hT
  go_enter Tryz.func93, Tryz.ntmps93
  go_wp2_with (go_at_call 72; (with_reducible refine (HF.out).mono ?_); rintro e w1 ⟨rfl, hb⟩)
  go_ret
  exact ⟨rfl, hb⟩
end Go.Proofs.YtamgiffkhnfpmaaGreatDoor
namespace Go.Proofs.YtamgiffkhnfpmaaGreatDoor
set_option linter.unusedVariables false
set_option linter.unusedSimpArgs false
open Go.ChangeShapes Go.WideShapes Go.ChangeAt Go.RowKit
/-- c cells of a block are there and may be written -/
def FreeAt (w : World) (g c : Nat) : Prop := ∀ k, k < c → (w.cell? ⟨g, k, none⟩).isSome = true ∧ w.frozen? ⟨g, k, none⟩ = false
/-- a slice whose cells, spare ones too, may be written; its block lies from B on -/
def Free (w : World) (B : Nat) (a : Option Addr) (n c : Nat) : Prop := n ≤ c ∧ c ≤ maxLen ∧ ((a = none ∧ c = 0) ∨ ∃ g, a = some ⟨g, 0, none⟩ ∧ B ≤ g ∧ g < w.heap.size ∧ FreeAt w g c)
def blk? (a : Option Addr) : Option Nat := a.map (·.block)
/-- what an append onto a slice changes -/
structure Chg (B : Nat) (a : Option Addr) (n : Nat) (w w' : World) : Prop where
  bel : Below B w w'
  other : ∀ b, b < w.heap.size → blk? a ≠ some b → w'.heap[b]? = w.heap[b]?
  low : ∀ b k, b < w.heap.size → k < n → w'.cell? ⟨b, k, none⟩ = w.cell? ⟨b, k, none⟩
  there : ∀ b k, b < w.heap.size → (w.cell? ⟨b, k, none⟩).isSome = true → (w'.cell? ⟨b, k, none⟩).isSome = true
  froz : ∀ b k, b < w.heap.size → w'.frozen? ⟨b, k, none⟩ = w.frozen? ⟨b, k, none⟩
theorem Free.keep {w w' : World} {B : Nat} {a a1 : Option Addr} {n c n1 : Nat} (h : Free w B a n c) (k : Chg B a1 n1 w w') : Free w' B a n c := by
  obtain ⟨h1, h2, h3⟩ := h
  refine ⟨h1, h2, ?_⟩
  rcases h3 with h3 | ⟨g, rfl, hB, hg, hf⟩
  · exact .inl h3
  · exact .inr ⟨g, rfl, hB, Nat.lt_of_lt_of_le hg k.bel.size, fun j hj => ⟨k.there g j hg (hf j hj).1, by rw [k.froz g j hg]; exact (hf j hj).2⟩⟩
theorem Free.below {w w' : World} {B : Nat} {a : Option Addr} {n c : Nat} (h : Free w B a n c) (k : Below w.heap.size w w') : Free w' B a n c := by
  obtain ⟨h1, h2, h3⟩ := h
  refine ⟨h1, h2, ?_⟩
  rcases h3 with h3 | ⟨g, rfl, hB, hg, hf⟩
  · exact .inl h3
  · exact .inr ⟨g, rfl, hB, Nat.lt_of_lt_of_le hg k.size, fun j hj => ⟨by rw [k.cell (p := ⟨g, j, none⟩) hg]; exact (hf j hj).1, by rw [k.frozen (p := ⟨g, j, none⟩) hg]; exact (hf j hj).2⟩⟩
theorem Free.base {w : World} {B B' : Nat} {a : Option Addr} {n c : Nat} (h : Free w B a n c) (hb : B' ≤ B) : Free w B' a n c := by
  obtain ⟨h1, h2, h3⟩ := h
  refine ⟨h1, h2, ?_⟩
  rcases h3 with h3 | ⟨g, ha, hB, r⟩
  · exact .inl h3
  · exact .inr ⟨g, ha, by omega, r⟩
theorem Free.nil (w : World) (B : Nat) : Free w B none 0 0 := ⟨Nat.le_refl _, by unfold maxLen; omega, .inl ⟨rfl, rfl⟩⟩
/-- what is owned may be written -/
theorem own_free {w : World} {base : Nat} {e : TypeId} {a : Option Addr} {n c : Nat} {xs : List Value} (h : w.ownsRow base e 1 (.slice a n c) n xs) : Free w base a n c := by
  obtain ⟨hl, h⟩ := h
  rcases h with ⟨hv, h0⟩ | ⟨g, cap, cur, hv, hb, hh, hn, hm, hs, ht⟩
  · simp only [Value.slice.injEq] at hv
    obtain ⟨rfl, rfl, rfl⟩ := hv
    exact Free.nil _ _
  · simp only [Value.slice.injEq, true_and] at hv
    obtain ⟨rfl, rfl⟩ := hv
    refine ⟨hn, hm, .inr ⟨g, rfl, hb, (Array.getElem?_eq_some_iff.1 hh).1, fun k hk => ⟨?_, frozen_of_row _ _ _ _ _ hh⟩⟩⟩
    rw [cell_of_row _ _ _ _ _ _ hh]
    have : k < cur.size := by rw [hs]; omega
    simp [this]
/-- new blocks alone -/
theorem chg_grown {B : Nat} {a : Option Addr} {n : Nat} {w w' : World} (hg : w.grownBy w' none) (hB : B ≤ w.heap.size) : Chg B a n w w' := by
  have hb : ∀ b, b < w.heap.size → w'.heap[b]? = w.heap[b]? := fun b hb => hg.block b hb (by simp)
  exact ⟨⟨hg.os, hg.tape, hg.output, hg.size, fun k hk => hb k (by omega)⟩, fun b hb' _ => hb b hb',
    fun b k hb' _ => World.cell?_of_block (a := ⟨b, k, none⟩) (hb b hb'), fun b k hb' h => by rw [World.cell?_of_block (a := ⟨b, k, none⟩) (hb b hb')]; exact h, fun b k hb' => World.frozen?_of_block (a := ⟨b, k, none⟩) (hb b hb')⟩
theorem setCells_size (b : Nat) : ∀ (vs : List Value) (o : Nat) (w : World), (w.setCells b o vs).heap.size = w.heap.size
  | [], _, _ => rfl
  | v :: r, o, w => by rw [World.setCells, setCells_size b r]; simp
theorem setCells_other (b : Nat) : ∀ (vs : List Value) (o : Nat) (w : World) (k : Nat), k ≠ b → (w.setCells b o vs).heap[k]? = w.heap[k]?
  | [], _, _, _, _ => rfl
  | v :: r, o, w, k, h => by rw [World.setCells, setCells_other b r (o + 1) _ k h, heap_setCell_other _ _ _ _ (fun e => h (by simpa using e))]
theorem setCells_below (B b : Nat) (hb : B ≤ b) : ∀ (vs : List Value) (o : Nat) (w : World), Below B w (w.setCells b o vs)
  | [], _, _ => Below.refl _ _
  | v :: r, o, w => ((Below.refl B w).setCell (show B ≤ (⟨b, o, none⟩ : Addr).block from hb) v).trans (setCells_below B b hb r (o + 1) _)
/-- in place -/
theorem chg_place {B g n m : Nat} {w : World} {vs : List Value} (hB : B ≤ g) (hl : vs.length = m) (hv : ∀ j, j < m → (w.cell? ⟨g, n + j, none⟩).isSome = true) : Chg B (some ⟨g, 0, none⟩) n w (w.setCells g n vs) := by
  refine ⟨setCells_below B g hB vs n w, fun b _ h => setCells_other g vs n w b (fun e => h (by rw [e]; rfl)), fun b k _ hk => ?_, fun b k _ h => ?_, fun b k _ => World.frozen?_setCells g vs n w _⟩
  · exact World.cell?_setCells_out g vs n w _ (fun _ _ => .inl hk)
  · exact World.isSome_setCells g vs n w _ h
section
variable {P : Program}
/-- append(x, y...) of bytes, x a slice that may be written -/
theorem run_app_free (w : World) (t ty e : TypeId) (ht : P.underlying t = some (.slice e)) (hi : (P.info? e).map (fun i => (i.zero, i.size, i.bytes)) = some (some (.int .u8 0), 1, 1))
    (B : Nat) (hB : B ≤ w.heap.size) (a : Option Addr) (n c : Nat) (h : Free w B a n c) (ad : Addr) (m c2 : Nat) (news : List Value) (hl : news.length = m) (hnews : ∀ j v, news[j]? = some v → w.cell? (ad.add j) = some v) (h1 : ∀ v ∈ news, v.oneCell' = true)
    (hb : n + m ≤ 140737488355328) :
    ∃ a' c' w', (Builtin.append_ #[t, t] ty #[.slice a n c, .slice (some ad) m c2]).run P w = .ok (.slice a' (n + m) c') w' ∧ Free w' B a' (n + m) c' ∧ Chg B a n w w' ∧ (blk? a' = blk? a ∨ ∃ b, blk? a' = some b ∧ w.heap.size ≤ b) := by
  obtain ⟨i, hi, hz0, hz1, hz2⟩ := info_parts hi
  obtain ⟨hn, hc, hf⟩ := h
  have hml : n + m ≤ maxLen := by unfold maxLen; omega
  rcases hf with ⟨rfl, rfl⟩ | ⟨g, rfl, hg1, hg2, hfr⟩
  · obtain rfl : n = 0 := by omega
    obtain ⟨v', w', hr, ho, hgr, _⟩ := run_append_own (P := P) w w.heap.size t ty e i (.int .u8 0) 1 1 ht hi hz0 hz1 hz2 rfl (by decide) (.slice none 0 0) 0 [] (World.ownsRow_nil w _ e 1) ad m c2 news (by omega) hnews h1 hml (by omega) (Nat.le_refl _)
    obtain ⟨a', c', rfl⟩ := own_slice ho
    refine ⟨a', c', w', hr, (own_free ho).base hB, chg_grown hgr hB, ?_⟩
    obtain ⟨hlen, hh⟩ := ho
    rcases hh with ⟨hv, _⟩ | ⟨g, cap, cur, hv, hbg, hh, _⟩
    · simp only [Value.slice.injEq] at hv
      left; rw [hv.1]
    · simp only [Value.slice.injEq, true_and] at hv
      right
      exact ⟨g, by rw [hv.1]; rfl, hbg⟩
  · have hold : ∀ j u, (((List.range n).map fun j => (w.cell? ⟨g, j, none⟩).getD undef))[j]? = some u → w.cell? ⟨g, 0 + j, none⟩ = some u := by
      intro j u hj
      obtain ⟨hjn, he⟩ := List.getElem?_eq_some_iff.1 hj
      simp only [List.length_map, List.length_range] at hjn
      simp only [List.getElem_map, List.getElem_range] at he
      obtain ⟨v, hv⟩ := Option.isSome_iff_exists.1 (hfr j (by omega)).1
      rw [hv] at he
      simp only [Option.getD_some] at he
      rw [Nat.zero_add, hv, he]
    by_cases hr : n + m ≤ c
    · have hrun := run_append_room_cells (P := P) w t ty e i ht hi g 0 n c ad m c2 news (by rw [hz1]; omega) hnews h1 hr (fun j hj => by rw [hz1, Nat.zero_add, Nat.mul_one]; exact (hfr _ (by omega)).1) (fun j hj => by rw [hz1, Nat.zero_add, Nat.mul_one]; exact (hfr _ (by omega)).2)
      rw [hz1, Nat.zero_add, Nat.mul_one] at hrun
      have hch : Chg B (some ⟨g, 0, none⟩) n w (w.setCells g n news) := chg_place hg1 hl (fun j hj => (hfr _ (by omega)).1)
      refine ⟨_, _, _, hrun, ?_, hch, .inl rfl⟩
      have hF : Free w B (some ⟨g, 0, none⟩) (n + m) c := ⟨hr, hc, .inr ⟨g, rfl, hg1, hg2, hfr⟩⟩
      exact hF.keep hch
    · obtain ⟨v', w', hrun, r1, r2⟩ := run_append_arg_grows (P := P) w t ty e i (.int .u8 0) 1 1 ht hi hz0 hz1 hz2 rfl (by decide) ⟨g, 0, none⟩ n c ((List.range n).map fun j => (w.cell? ⟨g, j, none⟩).getD undef) (by simp) (fun j u hj => by rw [Addr.add_lit]; exact hold j u hj) ad m c2 news (by omega) hnews (by omega) hml (by omega)
      obtain ⟨a', c', rfl⟩ := own_slice r1
      refine ⟨a', c', w', hrun, (own_free r1).base hB, chg_grown r2 hB, .inr ?_⟩
      obtain ⟨hlen, hh⟩ := r1
      rcases hh with ⟨hv, h0⟩ | ⟨g', cap, cur, hv, hbg, hh, _⟩
      · omega
      · simp only [Value.slice.injEq, true_and] at hv
        exact ⟨g', by rw [hv.1]; rfl, hbg⟩
end
end Go.Proofs.YtamgiffkhnfpmaaGreatDoor
