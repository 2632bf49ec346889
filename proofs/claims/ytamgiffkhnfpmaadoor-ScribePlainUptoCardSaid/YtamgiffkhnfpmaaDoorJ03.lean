/-
  J03: HdrMake, HdrForm, SumWalk, BinWalk, BinRef, OctRef, RefOct, Trim2, ParseOct, OctWalk, NumWalk, joined.
-/
import Derived.Test.YtamgiffkhnfpmaaDoorJ02
import Derived.Outline
import Derived.Deep.DeepCutAuto
import Derived.Deep.CutBlock
import Derived.Test.YtamgiffkhnfpmaaDoorJ01
import Derived.Test.YtamgiffkhnfpmaaDoorProg
import Derived.Laws.BitsAllLaws
import Derived.Test.YtamgiffkhnfpmaaDoorShelf
import Derived.Lib.AsciiSet
import Derived.Lib.ConvBytes
import Derived.Lib.AtoiAllMem
import Derived.Laws.Strings3
import Derived.Laws.Closers25
import Derived.Laws.Closers25b
namespace Go.Proofs.YtamgiffkhnfpmaaDoor
set_option linter.unusedVariables false
set_option linter.unusedSimpArgs false
def W16 : List Nat := [100, 8, 8, 8, 12, 12, 8, 1, 100, 8, 32, 32, 8, 8, 155, 12]
theorem fit0 : Fit W16 [[], [], [], [], [], [], [], [], [], [], [], [], [], [], [], []] := by simp [Fit, W16]
theorem zblk_T0 : zblk = blkT W16 [[], [], [], [], [], [], [], [], [], [], [], [], [], [], [], []] := by decide +kernel
theorem chain_prog (r n0 n1 n2 n3 n4 n5 n6 link user group p : List UInt8) (ty : UInt8) (hr : r.length ≤ 100) (h0 : n0.length ≤ 8) (h1 : n1.length ≤ 8) (h2 : n2.length ≤ 8) (h3 : n3.length ≤ 12) (h4 : n4.length ≤ 12) (h5 : n5.length ≤ 8) (h6 : n6.length ≤ 8) (hl : link.length ≤ 100) (hu : user.length ≤ 32) (hg : group.length ≤ 32) (hp : p.length ≤ 155) :
    lay (lay (lay (lay (lay (lay (lay (lay (lay (lay (lay (lay (lay (lay zblk 100 n0) 108 n1) 116 n2) 124 n3) 136 n4) 329 n5) 337 n6) 0 r) 156 [ty]) 157 link) 257 magicU) 265 user) 297 group) 345 p = blkT W16 [r, n0, n1, n2, n3, n4, [], [ty], link, magicU, user, group, n5, n6, p, []] := by
  have f := fit0
  rw [zblk_T0]
  have g := lay_blk W16 [[], [], [], [], [], [], [], [], [], [], [], [], [], [], [], []] 1 n0 f rfl h0
  rw [show lay (blkT W16 [[], [], [], [], [], [], [], [], [], [], [], [], [], [], [], []]) 100 n0 = blkT W16 [[], n0, [], [], [], [], [], [], [], [], [], [], [], [], [], []] from g.1]
  replace f : Fit W16 [[], n0, [], [], [], [], [], [], [], [], [], [], [], [], [], []] := g.2
  clear g
  have g := lay_blk W16 [[], n0, [], [], [], [], [], [], [], [], [], [], [], [], [], []] 2 n1 f rfl h1
  rw [show lay (blkT W16 [[], n0, [], [], [], [], [], [], [], [], [], [], [], [], [], []]) 108 n1 = blkT W16 [[], n0, n1, [], [], [], [], [], [], [], [], [], [], [], [], []] from g.1]
  replace f : Fit W16 [[], n0, n1, [], [], [], [], [], [], [], [], [], [], [], [], []] := g.2
  clear g
  have g := lay_blk W16 [[], n0, n1, [], [], [], [], [], [], [], [], [], [], [], [], []] 3 n2 f rfl h2
  rw [show lay (blkT W16 [[], n0, n1, [], [], [], [], [], [], [], [], [], [], [], [], []]) 116 n2 = blkT W16 [[], n0, n1, n2, [], [], [], [], [], [], [], [], [], [], [], []] from g.1]
  replace f : Fit W16 [[], n0, n1, n2, [], [], [], [], [], [], [], [], [], [], [], []] := g.2
  clear g
  have g := lay_blk W16 [[], n0, n1, n2, [], [], [], [], [], [], [], [], [], [], [], []] 4 n3 f rfl h3
  rw [show lay (blkT W16 [[], n0, n1, n2, [], [], [], [], [], [], [], [], [], [], [], []]) 124 n3 = blkT W16 [[], n0, n1, n2, n3, [], [], [], [], [], [], [], [], [], [], []] from g.1]
  replace f : Fit W16 [[], n0, n1, n2, n3, [], [], [], [], [], [], [], [], [], [], []] := g.2
  clear g
  have g := lay_blk W16 [[], n0, n1, n2, n3, [], [], [], [], [], [], [], [], [], [], []] 5 n4 f rfl h4
  rw [show lay (blkT W16 [[], n0, n1, n2, n3, [], [], [], [], [], [], [], [], [], [], []]) 136 n4 = blkT W16 [[], n0, n1, n2, n3, n4, [], [], [], [], [], [], [], [], [], []] from g.1]
  replace f : Fit W16 [[], n0, n1, n2, n3, n4, [], [], [], [], [], [], [], [], [], []] := g.2
  clear g
  have g := lay_blk W16 [[], n0, n1, n2, n3, n4, [], [], [], [], [], [], [], [], [], []] 12 n5 f rfl h5
  rw [show lay (blkT W16 [[], n0, n1, n2, n3, n4, [], [], [], [], [], [], [], [], [], []]) 329 n5 = blkT W16 [[], n0, n1, n2, n3, n4, [], [], [], [], [], [], n5, [], [], []] from g.1]
  replace f : Fit W16 [[], n0, n1, n2, n3, n4, [], [], [], [], [], [], n5, [], [], []] := g.2
  clear g
  have g := lay_blk W16 [[], n0, n1, n2, n3, n4, [], [], [], [], [], [], n5, [], [], []] 13 n6 f rfl h6
  rw [show lay (blkT W16 [[], n0, n1, n2, n3, n4, [], [], [], [], [], [], n5, [], [], []]) 337 n6 = blkT W16 [[], n0, n1, n2, n3, n4, [], [], [], [], [], [], n5, n6, [], []] from g.1]
  replace f : Fit W16 [[], n0, n1, n2, n3, n4, [], [], [], [], [], [], n5, n6, [], []] := g.2
  clear g
  have g := lay_blk W16 [[], n0, n1, n2, n3, n4, [], [], [], [], [], [], n5, n6, [], []] 0 r f rfl hr
  rw [show lay (blkT W16 [[], n0, n1, n2, n3, n4, [], [], [], [], [], [], n5, n6, [], []]) 0 r = blkT W16 [r, n0, n1, n2, n3, n4, [], [], [], [], [], [], n5, n6, [], []] from g.1]
  replace f : Fit W16 [r, n0, n1, n2, n3, n4, [], [], [], [], [], [], n5, n6, [], []] := g.2
  clear g
  have g := lay_blk W16 [r, n0, n1, n2, n3, n4, [], [], [], [], [], [], n5, n6, [], []] 7 [ty] f rfl (by decide : 1 ≤ 1)
  rw [show lay (blkT W16 [r, n0, n1, n2, n3, n4, [], [], [], [], [], [], n5, n6, [], []]) 156 [ty] = blkT W16 [r, n0, n1, n2, n3, n4, [], [ty], [], [], [], [], n5, n6, [], []] from g.1]
  replace f : Fit W16 [r, n0, n1, n2, n3, n4, [], [ty], [], [], [], [], n5, n6, [], []] := g.2
  clear g
  have g := lay_blk W16 [r, n0, n1, n2, n3, n4, [], [ty], [], [], [], [], n5, n6, [], []] 8 link f rfl hl
  rw [show lay (blkT W16 [r, n0, n1, n2, n3, n4, [], [ty], [], [], [], [], n5, n6, [], []]) 157 link = blkT W16 [r, n0, n1, n2, n3, n4, [], [ty], link, [], [], [], n5, n6, [], []] from g.1]
  replace f : Fit W16 [r, n0, n1, n2, n3, n4, [], [ty], link, [], [], [], n5, n6, [], []] := g.2
  clear g
  have g := lay_blk W16 [r, n0, n1, n2, n3, n4, [], [ty], link, [], [], [], n5, n6, [], []] 9 magicU f rfl (by decide : 8 ≤ 8)
  rw [show lay (blkT W16 [r, n0, n1, n2, n3, n4, [], [ty], link, [], [], [], n5, n6, [], []]) 257 magicU = blkT W16 [r, n0, n1, n2, n3, n4, [], [ty], link, magicU, [], [], n5, n6, [], []] from g.1]
  replace f : Fit W16 [r, n0, n1, n2, n3, n4, [], [ty], link, magicU, [], [], n5, n6, [], []] := g.2
  clear g
  have g := lay_blk W16 [r, n0, n1, n2, n3, n4, [], [ty], link, magicU, [], [], n5, n6, [], []] 10 user f rfl hu
  rw [show lay (blkT W16 [r, n0, n1, n2, n3, n4, [], [ty], link, magicU, [], [], n5, n6, [], []]) 265 user = blkT W16 [r, n0, n1, n2, n3, n4, [], [ty], link, magicU, user, [], n5, n6, [], []] from g.1]
  replace f : Fit W16 [r, n0, n1, n2, n3, n4, [], [ty], link, magicU, user, [], n5, n6, [], []] := g.2
  clear g
  have g := lay_blk W16 [r, n0, n1, n2, n3, n4, [], [ty], link, magicU, user, [], n5, n6, [], []] 11 group f rfl hg
  rw [show lay (blkT W16 [r, n0, n1, n2, n3, n4, [], [ty], link, magicU, user, [], n5, n6, [], []]) 297 group = blkT W16 [r, n0, n1, n2, n3, n4, [], [ty], link, magicU, user, group, n5, n6, [], []] from g.1]
  replace f : Fit W16 [r, n0, n1, n2, n3, n4, [], [ty], link, magicU, user, group, n5, n6, [], []] := g.2
  clear g
  have g := lay_blk W16 [r, n0, n1, n2, n3, n4, [], [ty], link, magicU, user, group, n5, n6, [], []] 14 p f rfl hp
  rw [show lay (blkT W16 [r, n0, n1, n2, n3, n4, [], [ty], link, magicU, user, group, n5, n6, [], []]) 345 p = blkT W16 [r, n0, n1, n2, n3, n4, [], [ty], link, magicU, user, group, n5, n6, p, []] from g.1]
theorem chain_ref (r n0 n1 n2 n3 n4 n5 n6 link user group p : List UInt8) (ty : UInt8) (hr : r.length ≤ 100) (h0 : n0.length ≤ 8) (h1 : n1.length ≤ 8) (h2 : n2.length ≤ 8) (h3 : n3.length ≤ 12) (h4 : n4.length ≤ 12) (h5 : n5.length ≤ 8) (h6 : n6.length ≤ 8) (hl : link.length ≤ 100) (hu : user.length ≤ 32) (hg : group.length ≤ 32) (hp : p.length ≤ 155) :
    lay (lay (lay (lay (lay (lay (lay (lay (lay (lay (lay (lay (lay (lay zblk 0 r) 157 link) 257 magicU) 265 user) 297 group) 345 p) 156 [ty]) 100 n0) 108 n1) 116 n2) 124 n3) 136 n4) 329 n5) 337 n6 = blkT W16 [r, n0, n1, n2, n3, n4, [], [ty], link, magicU, user, group, n5, n6, p, []] := by
  have f := fit0
  rw [zblk_T0]
  have g := lay_blk W16 [[], [], [], [], [], [], [], [], [], [], [], [], [], [], [], []] 0 r f rfl hr
  rw [show lay (blkT W16 [[], [], [], [], [], [], [], [], [], [], [], [], [], [], [], []]) 0 r = blkT W16 [r, [], [], [], [], [], [], [], [], [], [], [], [], [], [], []] from g.1]
  replace f : Fit W16 [r, [], [], [], [], [], [], [], [], [], [], [], [], [], [], []] := g.2
  clear g
  have g := lay_blk W16 [r, [], [], [], [], [], [], [], [], [], [], [], [], [], [], []] 8 link f rfl hl
  rw [show lay (blkT W16 [r, [], [], [], [], [], [], [], [], [], [], [], [], [], [], []]) 157 link = blkT W16 [r, [], [], [], [], [], [], [], link, [], [], [], [], [], [], []] from g.1]
  replace f : Fit W16 [r, [], [], [], [], [], [], [], link, [], [], [], [], [], [], []] := g.2
  clear g
  have g := lay_blk W16 [r, [], [], [], [], [], [], [], link, [], [], [], [], [], [], []] 9 magicU f rfl (by decide : 8 ≤ 8)
  rw [show lay (blkT W16 [r, [], [], [], [], [], [], [], link, [], [], [], [], [], [], []]) 257 magicU = blkT W16 [r, [], [], [], [], [], [], [], link, magicU, [], [], [], [], [], []] from g.1]
  replace f : Fit W16 [r, [], [], [], [], [], [], [], link, magicU, [], [], [], [], [], []] := g.2
  clear g
  have g := lay_blk W16 [r, [], [], [], [], [], [], [], link, magicU, [], [], [], [], [], []] 10 user f rfl hu
  rw [show lay (blkT W16 [r, [], [], [], [], [], [], [], link, magicU, [], [], [], [], [], []]) 265 user = blkT W16 [r, [], [], [], [], [], [], [], link, magicU, user, [], [], [], [], []] from g.1]
  replace f : Fit W16 [r, [], [], [], [], [], [], [], link, magicU, user, [], [], [], [], []] := g.2
  clear g
  have g := lay_blk W16 [r, [], [], [], [], [], [], [], link, magicU, user, [], [], [], [], []] 11 group f rfl hg
  rw [show lay (blkT W16 [r, [], [], [], [], [], [], [], link, magicU, user, [], [], [], [], []]) 297 group = blkT W16 [r, [], [], [], [], [], [], [], link, magicU, user, group, [], [], [], []] from g.1]
  replace f : Fit W16 [r, [], [], [], [], [], [], [], link, magicU, user, group, [], [], [], []] := g.2
  clear g
  have g := lay_blk W16 [r, [], [], [], [], [], [], [], link, magicU, user, group, [], [], [], []] 14 p f rfl hp
  rw [show lay (blkT W16 [r, [], [], [], [], [], [], [], link, magicU, user, group, [], [], [], []]) 345 p = blkT W16 [r, [], [], [], [], [], [], [], link, magicU, user, group, [], [], p, []] from g.1]
  replace f : Fit W16 [r, [], [], [], [], [], [], [], link, magicU, user, group, [], [], p, []] := g.2
  clear g
  have g := lay_blk W16 [r, [], [], [], [], [], [], [], link, magicU, user, group, [], [], p, []] 7 [ty] f rfl (by decide : 1 ≤ 1)
  rw [show lay (blkT W16 [r, [], [], [], [], [], [], [], link, magicU, user, group, [], [], p, []]) 156 [ty] = blkT W16 [r, [], [], [], [], [], [], [ty], link, magicU, user, group, [], [], p, []] from g.1]
  replace f : Fit W16 [r, [], [], [], [], [], [], [ty], link, magicU, user, group, [], [], p, []] := g.2
  clear g
  have g := lay_blk W16 [r, [], [], [], [], [], [], [ty], link, magicU, user, group, [], [], p, []] 1 n0 f rfl h0
  rw [show lay (blkT W16 [r, [], [], [], [], [], [], [ty], link, magicU, user, group, [], [], p, []]) 100 n0 = blkT W16 [r, n0, [], [], [], [], [], [ty], link, magicU, user, group, [], [], p, []] from g.1]
  replace f : Fit W16 [r, n0, [], [], [], [], [], [ty], link, magicU, user, group, [], [], p, []] := g.2
  clear g
  have g := lay_blk W16 [r, n0, [], [], [], [], [], [ty], link, magicU, user, group, [], [], p, []] 2 n1 f rfl h1
  rw [show lay (blkT W16 [r, n0, [], [], [], [], [], [ty], link, magicU, user, group, [], [], p, []]) 108 n1 = blkT W16 [r, n0, n1, [], [], [], [], [ty], link, magicU, user, group, [], [], p, []] from g.1]
  replace f : Fit W16 [r, n0, n1, [], [], [], [], [ty], link, magicU, user, group, [], [], p, []] := g.2
  clear g
  have g := lay_blk W16 [r, n0, n1, [], [], [], [], [ty], link, magicU, user, group, [], [], p, []] 3 n2 f rfl h2
  rw [show lay (blkT W16 [r, n0, n1, [], [], [], [], [ty], link, magicU, user, group, [], [], p, []]) 116 n2 = blkT W16 [r, n0, n1, n2, [], [], [], [ty], link, magicU, user, group, [], [], p, []] from g.1]
  replace f : Fit W16 [r, n0, n1, n2, [], [], [], [ty], link, magicU, user, group, [], [], p, []] := g.2
  clear g
  have g := lay_blk W16 [r, n0, n1, n2, [], [], [], [ty], link, magicU, user, group, [], [], p, []] 4 n3 f rfl h3
  rw [show lay (blkT W16 [r, n0, n1, n2, [], [], [], [ty], link, magicU, user, group, [], [], p, []]) 124 n3 = blkT W16 [r, n0, n1, n2, n3, [], [], [ty], link, magicU, user, group, [], [], p, []] from g.1]
  replace f : Fit W16 [r, n0, n1, n2, n3, [], [], [ty], link, magicU, user, group, [], [], p, []] := g.2
  clear g
  have g := lay_blk W16 [r, n0, n1, n2, n3, [], [], [ty], link, magicU, user, group, [], [], p, []] 5 n4 f rfl h4
  rw [show lay (blkT W16 [r, n0, n1, n2, n3, [], [], [ty], link, magicU, user, group, [], [], p, []]) 136 n4 = blkT W16 [r, n0, n1, n2, n3, n4, [], [ty], link, magicU, user, group, [], [], p, []] from g.1]
  replace f : Fit W16 [r, n0, n1, n2, n3, n4, [], [ty], link, magicU, user, group, [], [], p, []] := g.2
  clear g
  have g := lay_blk W16 [r, n0, n1, n2, n3, n4, [], [ty], link, magicU, user, group, [], [], p, []] 12 n5 f rfl h5
  rw [show lay (blkT W16 [r, n0, n1, n2, n3, n4, [], [ty], link, magicU, user, group, [], [], p, []]) 329 n5 = blkT W16 [r, n0, n1, n2, n3, n4, [], [ty], link, magicU, user, group, n5, [], p, []] from g.1]
  replace f : Fit W16 [r, n0, n1, n2, n3, n4, [], [ty], link, magicU, user, group, n5, [], p, []] := g.2
  clear g
  have g := lay_blk W16 [r, n0, n1, n2, n3, n4, [], [ty], link, magicU, user, group, n5, [], p, []] 13 n6 f rfl h6
  rw [show lay (blkT W16 [r, n0, n1, n2, n3, n4, [], [ty], link, magicU, user, group, n5, [], p, []]) 337 n6 = blkT W16 [r, n0, n1, n2, n3, n4, [], [ty], link, magicU, user, group, n5, n6, p, []] from g.1]
/-- can the header be written? -/
def goodH (h : Hd) : Bool := decide ((Plain.split h.name).2.2 = 0 ∧ h.link.length ≤ 100 ∧ h.user.length ≤ 32 ∧ h.group.length ≤ 32 ∧ (0 : UInt8) ∉ h.link ∧ (0 : UInt8) ∉ h.user ∧ (0 : UInt8) ∉ h.group ∧ h.ty ≠ 0) &&
  decide (0 ≤ h.mode ∧ 0 ≤ h.size ∧ 0 ≤ h.major ∧ 0 ≤ h.minor ∧ 0 ≤ h.uid ∧ h.uid ≤ 2147483647 ∧ 0 ≤ h.gid ∧ h.gid ≤ 2147483647 ∧ -1099511627776 ≤ h.mtime ∧ h.mtime ≤ 1099511627776) &&
  decide ((Plain.put h.mode 8).2 = 0 ∧ (Plain.put h.uid 8).2 = 0 ∧ (Plain.put h.gid 8).2 = 0 ∧ (Plain.put h.size 12).2 = 0 ∧ (Plain.put h.mtime 12).2 = 0 ∧ (Plain.put h.major 8).2 = 0 ∧ (Plain.put h.minor 8).2 = 0)
def partsOf (h : Hd) (s : List UInt8) : List (List UInt8) :=
  [(Plain.split h.name).2.1, (Plain.put h.mode 8).1, (Plain.put h.uid 8).1, (Plain.put h.gid 8).1, (Plain.put h.size 12).1, (Plain.put h.mtime 12).1, s, [h.ty], h.link, magicU, h.user, h.group, (Plain.put h.major 8).1, (Plain.put h.minor 8).1, (Plain.split h.name).1, []]
def blkOf (h : Hd) : List UInt8 := blkT W16 (partsOf h [])
/-- the document's answer -/
def Plain.make (h : Hd) : List UInt8 × Int := if goodH h = true then (Plain.seal (blkOf h), 0) else (zblk, 43)
/-- the numbers lie in the range of int -/
structure HdIn (h : Hd) : Prop where
  mode : inI64 h.mode = true
  uid : inI64 h.uid = true
  gid : inI64 h.gid = true
  size : inI64 h.size = true
  mtime : inI64 h.mtime = true
  major : inI64 h.major = true
  minor : inI64 h.minor = true
/-- what is read again -/
def roundH (h : Hd) : Hd :=
  ⟨h.name, h.link, h.mode, h.uid, h.gid, if 49 ≤ h.ty.toNat ∧ h.ty.toNat ≤ 54 then 0 else h.size, h.mtime, if h.ty = 55 then 48 else h.ty, h.user, h.group, if h.ty = 51 ∨ h.ty = 52 then h.major else 0, if h.ty = 51 ∨ h.ty = 52 then h.minor else 0, 2⟩
theorem put_len (v n : Int) (h63 : inI64 v = true) (h : (Plain.put v n).2 = 0) (m : Nat) (hm : n = m) : (Plain.put v n).1.length = m := by
  have := (put_read v n h63 h).2; omega
theorem number_pad (v n : Int) (h63 : inI64 v = true) (h : (Plain.put v n).2 = 0) (m : Nat) (hm : n = m) : Plain.number (pad m (Plain.put v n).1) = (v, 0) := by
  rw [pad_full m _ (put_len v n h63 h m hm)]; exact (put_read v n h63 h).1
theorem split_nonul (l : List UInt8) (h : (Plain.split l).2.2 = 0) : ∀ x ∈ l, x ≠ 0 := by
  unfold Plain.split at h
  by_cases c1 : l = []
  · subst c1; simp
  · rw [if_neg c1] at h
    by_cases c2 : 0 ≤ Lib.indexByte l 0
    · rw [if_pos c2] at h; cases h
    · intro x hx e
      obtain ⟨k, hk, he⟩ := List.getElem_of_mem hx
      have := Plain.indexByte_none l (by omega) k hk
      rw [← e, ← he] at this
      exact this (by simp [List.getD, List.getElem?_eq_getElem hk])
theorem round_read (h : Hd) (hg : goodH h = true) (hi : HdIn h) : Plain.hread (Plain.seal (blkOf h)) = (roundH h, 0) := by
  unfold goodH at hg
  rw [Bool.and_eq_true, Bool.and_eq_true, decide_eq_true_eq, decide_eq_true_eq, decide_eq_true_eq] at hg
  obtain ⟨⟨⟨g1, g2, g3, g4, g5, g6, g7, g8⟩, m1, m2, m3, m4, m5, m6, m7, m8, m9, m10⟩, p1, p2, p3, p4, p5, p6, p7⟩ := hg
  have hsp : ∃ p s, Plain.split h.name = (p, s, 0) ∧ Plain.Well h.name p s := by
    rcases Plain.split_cases h.name with h1 | ⟨h1, _⟩
    · exact h1
    · rw [h1] at g1; cases g1
  obtain ⟨p, s, hps, hw⟩ := hsp
  obtain ⟨w1, w2, w3, w4⟩ := hw
  have hfit : Fit W16 (partsOf h []) := by
    unfold partsOf W16
    rw [hps]
    have l1 := put_len _ 8 hi.mode p1 8 rfl
    have l2 := put_len _ 8 hi.uid p2 8 rfl
    have l3 := put_len _ 8 hi.gid p3 8 rfl
    have l4 := put_len _ 12 hi.size p4 12 rfl
    have l5 := put_len _ 12 hi.mtime p5 12 rfl
    have l6 := put_len _ 8 hi.major p6 8 rfl
    have l7 := put_len _ 8 hi.minor p7 8 rfl
    refine ⟨w2, ?_, ?_, ?_, ?_, ?_, ?_, ?_, g2, ?_, g3, g4, ?_, ?_, w3, ?_, trivial⟩ <;> first | omega | (simp [magicU])
  have hlen : (blkOf h).length = 512 := blkT_len _ _ hfit
  have hseal : Plain.seal (blkOf h) = blkT W16 (partsOf h (octRow (Plain.sum uby (blkOf h)).toNat 6 ++ [0, 32])) ∧ Fit W16 (partsOf h (octRow (Plain.sum uby (blkOf h)).toNat 6 ++ [0, 32])) := by
    rw [seal_lay]
    exact lay_blk W16 (partsOf h []) 6 _ hfit rfl (by rw [sealRow_len]; decide)
  have hsd := seal_sealed (blkOf h) hlen
  have hsl := seal_len (blkOf h) hlen
  obtain ⟨hse, hf⟩ := hseal
  generalize octRow (Plain.sum uby (blkOf h)).toNat 6 ++ [0, 32] = S at *
  generalize Plain.seal (blkOf h) = L at *
  have b0 : fld L 0 100 = pad 100 (Plain.split h.name).2.1 := by rw [hse]; exact fld_blk W16 _ 0 _ hf rfl
  have b1 : fld L 100 108 = pad 8 (Plain.put h.mode 8).1 := by rw [hse]; exact fld_blk W16 _ 1 _ hf rfl
  have b2 : fld L 108 116 = pad 8 (Plain.put h.uid 8).1 := by rw [hse]; exact fld_blk W16 _ 2 _ hf rfl
  have b3 : fld L 116 124 = pad 8 (Plain.put h.gid 8).1 := by rw [hse]; exact fld_blk W16 _ 3 _ hf rfl
  have b4 : fld L 124 136 = pad 12 (Plain.put h.size 12).1 := by rw [hse]; exact fld_blk W16 _ 4 _ hf rfl
  have b5 : fld L 136 148 = pad 12 (Plain.put h.mtime 12).1 := by rw [hse]; exact fld_blk W16 _ 5 _ hf rfl
  have b7 : fld L 156 157 = pad 1 [h.ty] := by rw [hse]; exact fld_blk W16 _ 7 _ hf rfl
  have b8 : fld L 157 257 = pad 100 h.link := by rw [hse]; exact fld_blk W16 _ 8 _ hf rfl
  have b9 : fld L 257 265 = pad 8 magicU := by rw [hse]; exact fld_blk W16 _ 9 _ hf rfl
  have b10 : fld L 265 297 = pad 32 h.user := by rw [hse]; exact fld_blk W16 _ 10 _ hf rfl
  have b11 : fld L 297 329 = pad 32 h.group := by rw [hse]; exact fld_blk W16 _ 11 _ hf rfl
  have b12 : fld L 329 337 = pad 8 (Plain.put h.major 8).1 := by rw [hse]; exact fld_blk W16 _ 12 _ hf rfl
  have b13 : fld L 337 345 = pad 8 (Plain.put h.minor 8).1 := by rw [hse]; exact fld_blk W16 _ 13 _ hf rfl
  have b14 : fld L 345 500 = pad 155 (Plain.split h.name).1 := by rw [hse]; exact fld_blk W16 _ 14 _ hf rfl
  have n1 : numAt L 100 108 = (h.mode, 0) := by unfold numAt; rw [b1]; exact number_pad _ 8 hi.mode p1 8 rfl
  have n2 : numAt L 108 116 = (h.uid, 0) := by unfold numAt; rw [b2]; exact number_pad _ 8 hi.uid p2 8 rfl
  have n3 : numAt L 116 124 = (h.gid, 0) := by unfold numAt; rw [b3]; exact number_pad _ 8 hi.gid p3 8 rfl
  have n4 : numAt L 124 136 = (h.size, 0) := by unfold numAt; rw [b4]; exact number_pad _ 12 hi.size p4 12 rfl
  have n5 : numAt L 136 148 = (h.mtime, 0) := by unfold numAt; rw [b5]; exact number_pad _ 12 hi.mtime p5 12 rfl
  have n6 : numAt L 329 337 = (h.major, 0) := by unfold numAt; rw [b12]; exact number_pad _ 8 hi.major p6 8 rfl
  have n7 : numAt L 337 345 = (h.minor, 0) := by unfold numAt; rw [b13]; exact number_pad _ 8 hi.minor p7 8 rfl
  have ht : L.getD 156 0 = h.ty := by
    have := fld_getD L 156 157 0 (by decide)
    rw [b7] at this
    rw [← this]; rfl
  have hform : formOf L = 2 := by unfold formOf; rw [b9, pad_full 8 magicU rfl, if_pos rfl]
  have hty : tyOf L = if h.ty = 55 then 48 else h.ty := by
    unfold tyOf; rw [ht]
    by_cases e : h.ty = 55
    · rw [if_pos (.inr e), if_pos e]
    · rw [if_neg (by rintro (a | a); exact g8 a; exact e a), if_neg e]
  have hdev : isDev L = decide (h.ty = 51 ∨ h.ty = 52) := by
    unfold isDev; rw [hform, hty]
    by_cases e : h.ty = 55
    · rw [if_pos e, e]; decide
    · rw [if_neg e]; simp
  have hz : ¬ L = zblk := by
    intro e
    rw [e] at ht
    exact g8 (ht.symm.trans (by decide +kernel))
  unfold Plain.hread
  have mi := inI64_iff h.mode; have si := inI64_iff h.size; have ai := inI64_iff h.major; have ii := inI64_iff h.minor
  have mi := mi.1 hi.mode; have si := si.1 hi.size; have ai := ai.1 hi.major; have ii := ii.1 hi.minor
  rw [if_neg hz, if_neg (by rw [hsd]; decide), if_neg]
  · have hname : nameOf L = h.name := by
      unfold nameOf
      rw [hform, b14, b0, hps]
      have hz := split_nonul h.name g1
      rcases w4 with ⟨e1, e2⟩ | ⟨e1, e2, e3⟩
      · subst e1; subst e2
        rw [text_pad 155 [] (by decide) (by simp), text_pad 100 _ w2 (fun hm => hz _ hm rfl), if_neg (by simp)]
      · rw [text_pad 155 p w3 (fun hm => hz 0 (by rw [← e2]; simp [hm]) rfl), text_pad 100 s w2 (fun hm => hz 0 (by rw [← e2]; simp [hm]) rfl), if_pos ⟨rfl, e1⟩, ← e2]
        simp
    unfold hdOf roundH
    rw [hname, n1, n2, n3, n4, n5, n6, n7, hform, hdev, b8, b10, b11, text_pad 100 _ g2 g5, text_pad 32 _ g3 g6, text_pad 32 _ g4 g7, hty]
    have hsz : (49 ≤ (if h.ty = 55 then (48 : UInt8) else h.ty).toNat ∧ (if h.ty = 55 then (48 : UInt8) else h.ty).toNat ≤ 54) ↔ (49 ≤ h.ty.toNat ∧ h.ty.toNat ≤ 54) := by
      by_cases e : h.ty = 55
      · rw [if_pos e, e]; decide
      · rw [if_neg e]
    simp [hsz]
  · unfold numsOk
    rw [n1, n2, n3, n4, n5, n6, n7]
    simp [numOk]
    omega
end Go.Proofs.YtamgiffkhnfpmaaDoor
namespace Go.Proofs.YtamgiffkhnfpmaaDoor
set_option linter.unusedVariables false
set_option linter.unusedSimpArgs false
open Go.ChangeShapes Go.WideShapes Go.ChangeAt Go.RowKit
theorem formOf_eq (l : List UInt8) : formOf l = if (fld l 257 265 == magicU) = true then 2 else if (fld l 257 265 == magicG) = true then 3 else 1 := by
  unfold formOf; simp only [beq_iff_eq]
set_option maxHeartbeats 800000 in
theorem Form_any (g : Nat) (l : List UInt8) (w : World) (hl : l.length = 512) (hg : w.heap[g]? = some (.cells (rowA l) 45 (0, 0))) :
    Calls Tryd.prog 41 #[.pointer (some ⟨g, 0, none⟩)] w fun e w' => e = .returned (.int .i64 (formOf l)) ∧ w = w' := by
  have hb : Bs w (some ⟨g, 257, none⟩) (265 - 257) (512 - 257) (fld l 257 265) := row_bs hg 257 265 (512 - 257) (by decide) (by omega) (by decide) (by unfold maxLen; omega)
  rw [formOf_eq]
  unfold magicU magicG
  generalize fld l 257 265 = f at *
  have HB := Lib.hid hb; clear hb hg hl
  by_cases h1 : (f == [117, 115, 116, 97, 114, 0, 48, 48]) = true
  · rw [if_pos h1]
    go_enter Tryd.func41, Tryd.ntmps41
    go_wp2_with (first
      | (with_reducible refine wpList_slice_row rfl _ _ _ _ rfl Tryd.underlying45 (by kernel_rfl) g rfl 257 265 .i64 .i64 rfl rfl (by decide) (by decide) (by decide) ?_)
      | (with_reducible refine wpList_str_of_bs rfl _ _ _ rfl Tryd.underlying23 Tryd.underlying5 Tryd.underlying9 rfl HB.out ?_))
    go_ret
    exact ⟨rfl, rfl⟩
  · have h1' : (f == [117, 115, 116, 97, 114, 0, 48, 48]) = false := by simpa using h1
    rw [if_neg h1]
    clear h1
    by_cases h2 : (f == [117, 115, 116, 97, 114, 32, 32, 0]) = true
    · rw [if_pos h2]
      go_enter Tryd.func41, Tryd.ntmps41
      go_wp2_with (first
        | (with_reducible refine wpList_slice_row rfl _ _ _ _ rfl Tryd.underlying45 (by kernel_rfl) g rfl 257 265 .i64 .i64 rfl rfl (by decide) (by decide) (by decide) ?_)
        | (with_reducible refine wpList_str_of_bs rfl _ _ _ rfl Tryd.underlying23 Tryd.underlying5 Tryd.underlying9 rfl HB.out ?_))
      go_ret
      exact ⟨rfl, rfl⟩
    · have h2' : (f == [117, 115, 116, 97, 114, 32, 32, 0]) = false := by simpa using h2
      rw [if_neg h2]
      clear h2
      go_enter Tryd.func41, Tryd.ntmps41
      go_wp2_with (first
        | (with_reducible refine wpList_slice_row rfl _ _ _ _ rfl Tryd.underlying45 (by kernel_rfl) g rfl 257 265 .i64 .i64 rfl rfl (by decide) (by decide) (by decide) ?_)
        | (with_reducible refine wpList_str_of_bs rfl _ _ _ rfl Tryd.underlying23 Tryd.underlying5 Tryd.underlying9 rfl HB.out ?_))
      go_ret
      exact ⟨rfl, rfl⟩
/-- where a number stands, and between what it lies -/
def fieldAt : Nat → Nat × Nat × Int × Int
  | 0 => (100, 108, 0, 9223372036854775807)
  | 1 => (108, 116, 0, 2147483647)
  | 2 => (116, 124, 0, 2147483647)
  | 3 => (124, 136, 0, 9223372036854775807)
  | 4 => (136, 148, -1099511627776, 1099511627776)
  | 5 => (329, 337, 0, 9223372036854775807)
  | _ => (337, 345, 0, 9223372036854775807)
def fieldV (k : Nat) : List Value := [.int .i64 (fieldAt k).1, .int .i64 (fieldAt k).2.1, .int .i64 (fieldAt k).2.2.1, .int .i64 (fieldAt k).2.2.2]
def fieldsA : Array Value := (((List.range 7).flatMap fieldV)).toArray
theorem sizeFields : (Tryd.prog.info? 74).map (·.size) = some fieldsA.size := by kernel_rfl
theorem fields_one : ∀ u ∈ fieldsA.toList, u.oneCell' = true := by
  intro u hu
  simp [fieldsA, fieldV, fieldAt, List.range, List.range.loop] at hu
  rcases hu with h | h | h | h | h | h | h | h | h | h | h | h | h | h | h | h | h | h | h | h | h | h | h | h | h | h | h | h <;> subst h <;> rfl
section
variable {P : Program} {ops : Array Oper} {rest : List Oper} {o : Oper} {a : Act} {w : World} {Q : Exit → Act → World → Prop}
theorem wpList_built (hg : o.guard = none) {t : TypeId} {es : Array (Nat × Operand)} (_ho : o.op = .build t es) (v : Value) (h : (execOp a.eval o).run P w = .ok (.value v) w)
    (hk : wpList P ops Q rest (a.put o.dst v) w) : wpList P ops Q (o :: rest) a w := wpList_value hg v w h hk
end
set_option maxRecDepth 100000 in
set_option maxHeartbeats 800000 in
theorem Fields_any (w : World) : Calls Tryd.prog 39 #[] w fun e w' => e = .returned (.agg fieldsA) ∧ Below w.heap.size w w' := by
  obtain ⟨FA, hFA⟩ : ∃ FA, FA = fieldsA := ⟨_, rfl⟩
  have HI : Hid ((Tryd.prog.info? 74).map (·.size) = some FA.size) := by rw [hFA]; exact Lib.hid sizeFields
  have HO : Hid (∀ u ∈ FA.toList, u.oneCell' = true) := by rw [hFA]; exact Lib.hid fields_one
  have HS : Hid (FA.size = 28) := by rw [hFA]; exact Lib.hid rfl
  rw [← hFA]
  have HFA := Lib.hid hFA
  clear hFA
  go_enter Tryd.func39, Tryd.ntmps39
  go_upto_region 1 with fail
  have hh := heap_alloc_new w (.cells #[.int .i64 0, .int .i64 0, .int .i64 0, .int .i64 0, .int .i64 0, .int .i64 0, .int .i64 0, .int .i64 0, .int .i64 0, .int .i64 0, .int .i64 0, .int .i64 0, .int .i64 0, .int .i64 0, .int .i64 0, .int .i64 0, .int .i64 0, .int .i64 0, .int .i64 0, .int .i64 0, .int .i64 0, .int .i64 0, .int .i64 0, .int .i64 0, .int .i64 0, .int .i64 0, .int .i64 0, .int .i64 0] 74)
  have hb := (Below.refl w.heap.size w).alloc (Nat.le_refl _) (.cells #[.int .i64 0, .int .i64 0, .int .i64 0, .int .i64 0, .int .i64 0, .int .i64 0, .int .i64 0, .int .i64 0, .int .i64 0, .int .i64 0, .int .i64 0, .int .i64 0, .int .i64 0, .int .i64 0, .int .i64 0, .int .i64 0, .int .i64 0, .int .i64 0, .int .i64 0, .int .i64 0, .int .i64 0, .int .i64 0, .int .i64 0, .int .i64 0, .int .i64 0, .int .i64 0, .int .i64 0, .int .i64 0] 74)
  have hz : (#[.int .i64 0, .int .i64 0, .int .i64 0, .int .i64 0, .int .i64 0, .int .i64 0, .int .i64 0, .int .i64 0, .int .i64 0, .int .i64 0, .int .i64 0, .int .i64 0, .int .i64 0, .int .i64 0, .int .i64 0, .int .i64 0, .int .i64 0, .int .i64 0, .int .i64 0, .int .i64 0, .int .i64 0, .int .i64 0, .int .i64 0, .int .i64 0, .int .i64 0, .int .i64 0, .int .i64 0, .int .i64 0] : Array Value).size = FA.size := by rw [HS.out]; rfl
  generalize (#[.int .i64 0, .int .i64 0, .int .i64 0, .int .i64 0, .int .i64 0, .int .i64 0, .int .i64 0, .int .i64 0, .int .i64 0, .int .i64 0, .int .i64 0, .int .i64 0, .int .i64 0, .int .i64 0, .int .i64 0, .int .i64 0, .int .i64 0, .int .i64 0, .int .i64 0, .int .i64 0, .int .i64 0, .int .i64 0, .int .i64 0, .int .i64 0, .int .i64 0, .int .i64 0, .int .i64 0, .int .i64 0] : Array Value) = Z at *
  generalize w.alloc (.cells Z 74) = wa at *
  have HH := Lib.hid hh; have HB := Lib.hid hb; have HZ := Lib.hid hz
  clear hh hb hz
  go_wp2_with (first
    | ((with_reducible refine wpList_built (t := 73) (es := #[(0, .const (.int .i64 100)), (1, .const (.int .i64 108)), (2, .const (.int .i64 0)), (3, .const (.int .i64 9223372036854775807))]) rfl rfl (.agg #[.int .i64 100, .int .i64 108, .int .i64 0, .int .i64 9223372036854775807]) (by kernel_rfl) ?_); simp only [Act.put, List.setIfInBounds_toArray, List.set_cons_zero, List.set_cons_succ])
    | ((with_reducible refine wpList_built (t := 73) (es := #[(0, .const (.int .i64 108)), (1, .const (.int .i64 116)), (2, .const (.int .i64 0)), (3, .const (.int .i64 2147483647))]) rfl rfl (.agg #[.int .i64 108, .int .i64 116, .int .i64 0, .int .i64 2147483647]) (by kernel_rfl) ?_); simp only [Act.put, List.setIfInBounds_toArray, List.set_cons_zero, List.set_cons_succ])
    | ((with_reducible refine wpList_built (t := 73) (es := #[(0, .const (.int .i64 116)), (1, .const (.int .i64 124)), (2, .const (.int .i64 0)), (3, .const (.int .i64 2147483647))]) rfl rfl (.agg #[.int .i64 116, .int .i64 124, .int .i64 0, .int .i64 2147483647]) (by kernel_rfl) ?_); simp only [Act.put, List.setIfInBounds_toArray, List.set_cons_zero, List.set_cons_succ])
    | ((with_reducible refine wpList_built (t := 73) (es := #[(0, .const (.int .i64 124)), (1, .const (.int .i64 136)), (2, .const (.int .i64 0)), (3, .const (.int .i64 9223372036854775807))]) rfl rfl (.agg #[.int .i64 124, .int .i64 136, .int .i64 0, .int .i64 9223372036854775807]) (by kernel_rfl) ?_); simp only [Act.put, List.setIfInBounds_toArray, List.set_cons_zero, List.set_cons_succ])
    | ((with_reducible refine wpList_built (t := 73) (es := #[(0, .const (.int .i64 136)), (1, .const (.int .i64 148)), (2, .const (.int .i64 (-1099511627776))), (3, .const (.int .i64 1099511627776))]) rfl rfl (.agg #[.int .i64 136, .int .i64 148, .int .i64 (-1099511627776), .int .i64 1099511627776]) (by kernel_rfl) ?_); simp only [Act.put, List.setIfInBounds_toArray, List.set_cons_zero, List.set_cons_succ])
    | ((with_reducible refine wpList_built (t := 73) (es := #[(0, .const (.int .i64 329)), (1, .const (.int .i64 337)), (2, .const (.int .i64 0)), (3, .const (.int .i64 9223372036854775807))]) rfl rfl (.agg #[.int .i64 329, .int .i64 337, .int .i64 0, .int .i64 9223372036854775807]) (by kernel_rfl) ?_); simp only [Act.put, List.setIfInBounds_toArray, List.set_cons_zero, List.set_cons_succ])
    | ((with_reducible refine wpList_built (t := 73) (es := #[(0, .const (.int .i64 337)), (1, .const (.int .i64 345)), (2, .const (.int .i64 0)), (3, .const (.int .i64 9223372036854775807))]) rfl rfl (.agg #[.int .i64 337, .int .i64 345, .int .i64 0, .int .i64 9223372036854775807]) (by kernel_rfl) ?_); simp only [Act.put, List.setIfInBounds_toArray, List.set_cons_zero, List.set_cons_succ])
    | ((with_reducible refine wpList_built (t := 74) (es := #[(0, .tmp 1), (1, .tmp 2), (2, .tmp 3), (3, .tmp 4), (4, .tmp 5), (5, .tmp 6), (6, .tmp 7)]) rfl rfl (.agg FA) (by rw [HFA.out]; kernel_rfl) ?_); simp only [Act.put, List.setIfInBounds_toArray, List.set_cons_zero, List.set_cons_succ])
    | (with_reducible refine wpList_store_row rfl 74 _ _ rfl w.heap.size rfl FA rfl Z 74 HH.out HZ.out HI.out HO.out ?_))
  refine bodyPost_ret (results_cell_row rfl _ _ w.heap.size 74 FA (0, 0) _ rfl (setRow_heap _ _ _ _ _ _ HH.out) Tryd.underlying74 rfl HI.out) rfl ⟨rfl, Below.setRow HB.out (Nat.le_refl _) _⟩
end Go.Proofs.YtamgiffkhnfpmaaDoor
namespace Go.Proofs.YtamgiffkhnfpmaaDoor
set_option linter.unusedVariables false
set_option linter.unusedSimpArgs false
open Go.ChangeShapes Go.WideShapes Go.ChangeAt Go.RowKit
section
variable {P : Program} {ops : Array Oper} {rest : List Oper} {o : Oper} {a : Act} {w : World} {Q : Exit → Act → World → Prop}
/-- x[k] of an array of bytes by value -/
theorem wpList_index_row (hgd : o.guard = none) (t : TypeId) (y x : Operand) (ho : o.op = .index t y x) {e : TypeId} {n : Nat} (ht : P.underlying t = some (.array n e)) (he : P.underlying e = some (.int .u8)) (hsz : (P.info? e).map (·.size) = some 1) (l : List UInt8) (hl : l.length = n) (hy : a.eval y = .agg (rowA l)) {k : IntKind} (d : Nat) (hx : a.eval x = .int k (d : Int)) (hd : d < n)
    (h : wpList P ops Q rest (a.put o.dst (.int .u8 ((l.getD d 0).toNat : Int))) w) : wpList P ops Q (o :: rest) a w := by
  refine wpList_value hgd _ _ ?_ h
  have hg : (rowA l)[d]? = some (.int .u8 ((l.getD d 0).toNat : Int)) := rowA_at l d (by omega)
  have hlt : d < (rowA l).size := by rw [rowA_size]; omega
  have hpart := part_u8 (P := P) (w := w) he l d (by omega)
  have hdi : (d : Int) < (n : Int) := by omega
  have hr : (Instr.index t (.agg (rowA l)) (.int k (d : Int))).run P w = .ok (.int .u8 ((l.getD d 0).toNat : Int)) w := by
    simp only [rowA] at *
    obtain ⟨i, hi', hs'⟩ := Option.map_eq_some_iff.1 hsz
    simp [Instr.index, run_underlying ht, asIntOf, Result.andThen, hd, hdi, sizeOf, typeInfo, hi', hs', hpart]
  simp [execOp, ho, hy, hx, hr, Result.andThen]
end
theorem sum_vals (l : List UInt8) (hl : l.length = 512) : (-200000 ≤ Plain.sum uby l ∧ Plain.sum uby l ≤ 200000) ∧ (-200000 ≤ Plain.sum sby l ∧ Plain.sum sby l ≤ 200000) := ⟨sum_bd uby uby_wide l hl, sum_bd sby sby_wide l hl⟩
theorem i8_sby (b : UInt8) : IntKind.i8.wrap (b.toNat : Int) = sby b := by
  unfold sby
  have := u8_lt b
  simp [IntKind.wrap, IntKind.bits, IntKind.signed]
  split <;> split <;> omega
set_option maxRecDepth 100000 in
set_option maxHeartbeats 1600000 in
theorem Sums_any (l : List UInt8) (hl : l.length = 512) (w : World) :
    Calls Tryd.prog 25 #[.agg (rowA l)] w fun e w' => e = .returned (.tuple #[.int .i64 (Plain.sum uby l), .int .i64 (Plain.sum sby l)]) ∧ Below w.heap.size w w' := by
  have HL := Lib.hid hl
  have h0 : RowAt w 45 (blankK l 0) (w.alloc (.cells (rowA l) 45)) := by rw [blankK_zero]; exact RowAt.new w _ _
  have H0 := Lib.hid h0; clear h0 hl
  go_enter Tryd.func25, Tryd.ntmps25
  go_wp2_with (with_reducible refine wpList_box_agg rfl _ _ rfl (rowA l) rfl ?_)
  go_loopw [4] (fun i wr => ∃ k : Nat, k ≤ 8 ∧ i = .int .i64 (148 + (k : Int)) ∧ RowAt w 45 (blankK l k) wr) (fun i _ => 156 - (intOf i).toNat)
  case atStart => exact ⟨0, by omega, by go_num, H0.out⟩
  case round =>
    obtain ⟨k, hk, rfl, hD⟩ := hrel
    have hlen := blankK_len l k (by rw [HL.out]; omega)
    by_cases hlt : k < 8
    · have hset := blankK_set l k (by rw [HL.out]; omega)
      obtain ⟨j, hj⟩ : ∃ j : Nat, 148 + (k : Int) = (j : Int) := ⟨148 + k, by omega⟩
      have hjk : 148 + k = j := by omega
      have hcell := hD.cell j (by rw [hlen, HL.out]; omega)
      have hfz := hD.froz j
      have hD2 := hD.set j 32
      rw [← hjk, hset, hjk] at hD2
      have HD2 := Lib.hid hD2
      have hj5 : (j : Int) < 512 := by omega
      have hj6 : (j : Int) < 156 := by omega
      clear hset hD hD2 hlen
      go_wp2
      exact ⟨⟨k + 1, by omega, by go_num, HD2.out⟩, by simp [intOf]; omega⟩
    · obtain rfl : k = 8 := by omega
      have hrow := hD.row
      have hbel := hD.bel
      have hbl : blankK l 8 = blank l := rfl
      rw [hbl] at hrow hlen
      have hs1 := blank_sum uby l
      have hs2 := blank_sum sby l
      have hll : (blank l).length = 512 := by rw [hlen]; exact HL.out
      have HI := Lib.hid (sizeBlk (blank l) hll)
      have HROW := Lib.hid hrow; have HLL := Lib.hid hll; have HS1 := Lib.hid hs1; have HS2 := Lib.hid hs2
      clear hrow hll hs1 hs2 hlen hbl hD
      generalize blank l = m at *
      have hi : ¬ (148 + ((8 : Nat) : Int)) < 156 := by omega
      go_wp2_with (with_reducible refine wpList_load_row rfl _ _ rfl w.heap.size rfl 45 (rowA m) (0, 0) _ HROW.out Tryd.underlying45 rfl HI.out ?_)
      go_loop [16, 5, 6] (fun i u s => ∃ k : Nat, k ≤ 512 ∧ i = .int .i64 k ∧ u = .int .i64 (sumB uby (m.take k)) ∧ s = .int .i64 (sumB sby (m.take k))) (fun i _ _ => 512 - (intOf i).toNat)
      case atStart => exact ⟨0, by omega, rfl, rfl, rfl⟩
      case round =>
        obtain ⟨k, hk, rfl, rfl, rfl⟩ := hrel
        by_cases hlt : k < 512
        · have hu := sumB_step uby m k (by rw [HLL.out]; exact hlt)
          have hs := sumB_step sby m k (by rw [HLL.out]; exact hlt)
          have b1 := sumTake_bd uby uby_wide m k (by omega)
          have b2 := sumTake_bd sby sby_wide m k (by omega)
          have hw := i8_sby (m.getD k 0)
          have c1 := uby_bd (m.getD k 0)
          have c2 := sby_bd (m.getD k 0)
          have hub : uby (m.getD k 0) = ((m.getD k 0).toNat : Int) := rfl
          rw [hub] at hu c1
          generalize hUU : sumB uby (m.take (k + 1)) = U' at *
          generalize hVV : sumB sby (m.take (k + 1)) = S' at *
          generalize sumB uby (m.take k) = U at *
          generalize sumB sby (m.take k) = S at *
          have hkk : (k : Int) < 512 := by omega
          obtain ⟨b11, b12⟩ := b1; obtain ⟨b21, b22⟩ := b2; obtain ⟨c11, c12⟩ := c1; obtain ⟨c21, c22⟩ := c2
          generalize hX : ((m.getD k 0).toNat : Int) = X at *
          generalize sby (m.getD k 0) = Y at *
          have HU := Lib.hid (hUU.trans hu); have HSS := Lib.hid (hVV.trans hs); have HX := Lib.hid hX
          clear hUU hVV hu hs hub hX
          go_wp2_with (refine wpList_index_row rfl _ _ _ rfl Tryd.underlying45 Tryd.underlying5 (by kernel_rfl) m HLL.out rfl k rfl hlt ?_; rw [HX.out])
          go_round
          case rel => exact ⟨k + 1, by omega, by go_num, by rw [HU.out], by rw [HSS.out]⟩
          case measure => simp [intOf]; omega
        · obtain rfl : k = 512 := by omega
          have e : m.take 512 = m := List.take_of_length_le (by rw [HLL.out]; exact Nat.le_refl _)
          rw [e]
          have hkk : ¬ (512 : Int) < 512 := by omega
          go_wp2
          go_ret2
          exact ⟨by rw [HS1.out, HS2.out]; rfl, hbel⟩
end Go.Proofs.YtamgiffkhnfpmaaDoor
namespace Go.Proofs.YtamgiffkhnfpmaaDoor
set_option linter.unusedVariables false
set_option linter.unusedSimpArgs false
open Go.ChangeShapes Go.WideShapes Go.ChangeAt Go.RowKit
theorem i64_or256 (x y : Int) (h : x % 256 = 0) (h0 : 0 ≤ y) (h1 : y < 256) : bits .or .i64 x y = IntKind.i64.wrap (x + y) := by
  obtain ⟨b, rfl⟩ := Int.eq_ofNat_of_zero_le h0
  have hb : b < 2 ^ 8 := by omega
  obtain ⟨m, hm⟩ : ∃ m : Nat, (x % ((2 ^ 64 : Nat) : Int)).toNat = 2 ^ 8 * m := ⟨(x % ((2 ^ 64 : Nat) : Int)).toNat / 256, by omega⟩
  have key : (BitVec.ofInt 64 x ||| BitVec.ofInt 64 (b : Int)).toNat = 2 ^ 8 * m + b := by
    rw [BitVec.toNat_or, BitVec.toNat_ofInt, BitVec.toNat_ofInt, hm, show ((b : Int) % ((2 ^ 64 : Nat) : Int)).toNat = b by omega, Nat.two_pow_add_eq_or_of_lt hb]
  show IntKind.i64.wrap ((BitVec.ofInt 64 x ||| BitVec.ofInt 64 (b : Int)).toNat : Nat) = _
  rw [key, IntKind.wrap_i64, IntKind.wrap_i64]
  omega
theorem ret_val {k : IntKind} {x y : Int} (h : x = y) : Value.int k x = Value.int k y := by rw [h]
theorem Base256_low (a : Option Addr) (n c : Nat) (l : List UInt8) (w : World) (h : Bs w a n c l) (hlow : l = [] ∨ (l.getD 0 0).toNat < 128) :
    Calls Tryd.prog 68 #[.slice a n c] w fun e w' => e = .returned (decV (Plain.base256 l)) ∧ w = w' := by
  have hl := h.len; have hcap := h.cap; have hmax := h.max
  rw [Plain.base256_low l hlow]
  by_cases h0 : n = 0
  · subst h0
    go_enter Tryd.func68, Tryd.ntmps68
    go_wp2
    go_ret2
    exact ⟨rfl, rfl⟩
  · have hc := h.at 0 (by omega)
    have hg : (l.getD 0 0).toNat < 128 := by
      rcases hlow with h1 | h1
      · subst h1; simp at hl; omega
      · exact h1
    obtain ⟨b, off, rfl, hc⟩ := hc
    rw [Nat.add_zero] at hc
    generalize hG : ((l.getD 0 0).toNat : Int) = G at hc
    have g1 : G < 128 := by omega
    have hn0 : ((n : Int) == 0) = false := by rw [beq_eq_false_iff_ne]; omega
    have hn1 : (0 : Int) < n := by omega
    have hn2 : 0 < n := by omega
    have HL := Lib.hid hl; clear hl hG hlow h0
    go_enter Tryd.func68, Tryd.ntmps68
    go_wp2
    go_ret2
    exact ⟨rfl, rfl⟩
set_option maxRecDepth 100000 in
set_option maxHeartbeats 1600000 in
theorem Base256_high (a : Option Addr) (n c : Nat) (l : List UInt8) (w : World) (h : Bs w a n c l) (hne : 0 < l.length) (hhi : ¬ (l.getD 0 0).toNat < 128) :
    Calls Tryd.prog 68 #[.slice a n c] w fun e w' => e = .returned (decV (Plain.base256 l)) ∧ w = w' := by
  have hl := h.len; have hcap := h.cap; have hmax := h.max
  have hb := Plain.base256_at l hne hhi
  generalize Plain.base256 l = r at *
  obtain ⟨b, off, rfl, hc⟩ := h.at 0 (by omega)
  rw [Nat.add_zero] at hc
  have hbh : 2 * (binHead (l.getD 0 0)) = wrap64 (IntKind.i8.wrap (((l.getD 0 0).toNat : Int) * 2 % 256)) ∧ -64 ≤ binHead (l.getD 0 0) ∧ binHead (l.getD 0 0) ≤ 63 := by
    have := u8_lt (l.getD 0 0)
    unfold binHead
    generalize l.getD 0 0 = x at *
    simp [IntKind.wrap, IntKind.bits, IntKind.signed, wrap64]
    split <;> omega
  generalize binHead (l.getD 0 0) = s at *
  generalize hG : ((l.getD 0 0).toNat : Int) = G at hc hbh
  have g1 : 128 ≤ G := by omega
  have g2 : G < 256 := by have := u8_lt (l.getD 0 0); omega
  have hn0 : ((n : Int) == 0) = false := by rw [beq_eq_false_iff_ne]; omega
  have hn1 : (1 : Int) ≤ n := by omega
  have hn2 : 0 < n := by omega
  have hcut : (l.take n).drop 1 = l.drop 1 := by rw [List.take_of_length_le (by omega)]
  have hml : (l.drop 1).length = n - 1 := by rw [List.length_drop]; omega
  have HC := Lib.hid hcut; have HBH := Lib.hid hbh; have HB := Lib.hid hb; have HML := Lib.hid hml
  clear hl hG hcut hbh hb hml hhi hne
  go_enter Tryd.func68, Tryd.ntmps68
  go_wp2_with (first | ((with_reducible refine wpList_slice_bs rfl _ _ _ _ rfl Tryd.underlying23 (by kernel_rfl) rfl h 1 n .i64 .i64 rfl rfl (by omega) (by omega) ?_); intro a2 hb2; rw [HC.out] at hb2))
  clear h hc
  go_loop [26, 4] (fun i v => ∃ (k : Nat) (V : Int), k ≤ n - 1 ∧ i = .int .i64 k ∧ v = .int .i64 V ∧ -9223372036854775808 ≤ V ∧ V ≤ 9223372036854775807 ∧ Hid (binAcc s ((l.drop 1).take k) = V)) (fun i _ => n - 1 - (intOf i).toNat)
  case atStart =>
    obtain ⟨e1, e2, e3⟩ := HBH.out
    exact ⟨0, s, by omega, rfl, ret_val (by rw [← e1]; omega), by omega, by omega, Lib.hid (by rw [List.take_zero, binAcc_nil])⟩
  case round =>
    obtain ⟨k, V, hk, rfl, rfl, v1, v2, hV⟩ := hrel
    by_cases hlt : k < n - 1
    · obtain ⟨b1, off1, rfl, hc⟩ := hb2.at k hlt
      have hstep := binAcc_step s (l.drop 1) k (by rw [HML.out]; exact hlt)
      have hout : V < -36028797018963968 ∨ 36028797018963967 < V → r = (0, 11) := fun ho => by
        rw [HB.out, binAcc_out s (l.drop 1) k (by rw [HML.out]; exact hlt) (by rw [hV.out]; exact ho)]; rfl
      rw [hV.out] at hstep
      generalize hX : (((l.drop 1).getD k 0).toNat : Int) = X at hc hstep
      have x1 : 0 ≤ X := by omega
      have x2 : X < 256 := by have := u8_lt ((l.drop 1).getD k 0); omega
      have HST := Lib.hid hstep; have HO := Lib.hid hout; clear hstep hout hX hV
      have hi : (k : Int) < ((n - 1 : Nat) : Int) := by omega
      by_cases hin : V < -36028797018963968 ∨ 36028797018963967 < V
      · obtain rfl := HO.out hin
        have q1 : (V / 36028797018963968 != 0) = true := by rw [bne_iff_ne]; omega
        have q2 : (V / 36028797018963968 != -1) = true := by rw [bne_iff_ne]; omega
        clear hin
        go_wp2
        go_ret2
        exact ⟨rfl, rfl⟩
      · have hor : bits .or .i64 (V * 256) X = V * 256 + X := by
          rw [i64_or256 _ _ (by omega) x1 x2, IntKind.wrap_i64]; omega
        have n1 : -36028797018963968 ≤ V := by omega
        have n2 : V ≤ 36028797018963967 := by omega
        have n3 : -9223372036854775808 ≤ V * 256 := by omega
        have n4 : V * 256 ≤ 9223372036854775807 := by omega
        clear hin
        by_cases hneg : V < 0
        · have q1 : (V / 36028797018963968 != 0) = true := by rw [bne_iff_ne]; omega
          have q2 : (V / 36028797018963968 != -1) = false := by rw [bne_eq_false_iff_eq]; omega
          go_wp2
          go_round
          case rel => exact ⟨k + 1, V * 256 + X, by omega, by go_num, rfl, by omega, by omega, HST⟩
          case measure => simp [intOf]; omega
        · have q1 : (V / 36028797018963968 != 0) = false := by rw [bne_eq_false_iff_eq]; omega
          go_wp2
          go_round
          case rel => exact ⟨k + 1, V * 256 + X, by omega, by go_num, rfl, by omega, by omega, HST⟩
          case measure => simp [intOf]; omega
    · obtain rfl : k = n - 1 := by omega
      have hv := hV.out
      rw [List.take_of_length_le (by rw [HML.out]; exact Nat.le_refl _)] at hv
      have hr := HB.out
      rw [hv, if_pos ((inI64_iff V).2 ⟨v1, v2⟩)] at hr
      subst hr
      have hi : ¬ ((n - 1 : Nat) : Int) < ((n - 1 : Nat) : Int) := by omega
      clear hv hV
      go_wp2
      go_ret2
      exact ⟨rfl, rfl⟩
theorem Base256_any (a : Option Addr) (n c : Nat) (l : List UInt8) (w : World) (h : Bs w a n c l) :
    Calls Tryd.prog 68 #[.slice a n c] w fun e w' => e = .returned (decV (Plain.base256 l)) ∧ w = w' := by
  by_cases hlow : l = [] ∨ (l.getD 0 0).toNat < 128
  · exact Base256_low a n c l w h hlow
  · exact Base256_high a n c l w h (by cases l; exact absurd (.inl rfl) hlow; simp) (fun h => hlow (.inr h))
end Go.Proofs.YtamgiffkhnfpmaaDoor
namespace Go.Proofs.YtamgiffkhnfpmaaDoor
set_option linter.unusedVariables false
set_option linter.unusedSimpArgs false
open Go.ChangeShapes Go.WideShapes Go.ChangeAt Go.RowKit
set_option maxRecDepth 100000 in
theorem head_bits (c : UInt8) (h : 128 ≤ c.toNat) : bits .or .u8 (bits .and .u8 (c.toNat : Int) 127) (bits .and .u8 ((fillOf c).toNat : Int) 128) = ((headB c).toNat : Int) := by
  have key : ∀ x : Fin 256, 128 ≤ x.1 → ((x.1 &&& 127) ||| ((if 192 ≤ x.1 then 255 else 0) &&& 128)) = (if 192 ≤ x.1 then x.1 else x.1 - 128) := by decide
  have hx := key ⟨c.toNat, c.toNat_lt⟩ h
  simp only at hx
  have hc := c.toNat_lt
  have e1 : bits .and .u8 (c.toNat : Int) 127 = ((c.toNat &&& 127 : Nat) : Int) := u8_and_nat c.toNat 127 hc (by decide)
  have e2 : bits .and .u8 ((fillOf c).toNat : Int) 128 = (((fillOf c).toNat &&& 128 : Nat) : Int) := u8_and_nat (fillOf c).toNat 128 (fillOf c).toNat_lt (by decide)
  have l1 : c.toNat &&& 127 < 256 := Nat.lt_of_le_of_lt Nat.and_le_left hc
  have l2 : (fillOf c).toNat &&& 128 < 256 := Nat.lt_of_le_of_lt Nat.and_le_left (fillOf c).toNat_lt
  rw [e1, e2, u8_or_nat _ _ l1 l2]
  have e3 : (fillOf c).toNat = if 192 ≤ c.toNat then 255 else 0 := by unfold fillOf; split <;> rfl
  have e4 : (headB c).toNat = if 192 ≤ c.toNat then c.toNat else c.toNat - 128 := by
    unfold headB; split
    · rfl
    · rw [UInt8.toNat_ofNat']; omega
  rw [e3, e4, hx]
theorem farFill_step (l : List UInt8) (k : Nat) (h : farFill l k) (hk : k + 8 < l.length → (binRow l).getD (8 + k) 0 = fillOf (l.getD 0 0)) : farFill l (k + 1) := fun j hj hj2 => by
  by_cases e : j = k
  · subst e; exact hk hj2
  · exact h j (by omega) hj2
set_option maxRecDepth 100000 in
theorem and128 (c : UInt8) : bits .and .u8 (c.toNat : Int) 128 = (if 128 ≤ c.toNat then 128 else 0) := by
  have key : ∀ x : Fin 256, (x.1 &&& 128) = (if 128 ≤ x.1 then 128 else 0) := by decide
  have hx := key ⟨c.toNat, c.toNat_lt⟩
  simp only at hx
  have e1 : bits .and .u8 (c.toNat : Int) 128 = ((c.toNat &&& 128 : Nat) : Int) := u8_and_nat c.toNat 128 c.toNat_lt (by decide)
  rw [e1, hx]
  split <;> rfl
/-- what the last eight bytes say, where the others fill up -/
theorem last_res (l : List UInt8) (r : Int × Int) (h1 : 128 ≤ (l.getD 0 0).toNat) (h : 0 < l.length) (hf : farFill l l.length) (hr : Plain.base256 l = r) :
    ((128 ≤ ((lastK l l.length).getD 0 0).toNat ↔ 192 ≤ (l.getD 0 0).toNat) → r = (IntKind.i64.wrap (binAcc 0 (lastK l l.length)), 0)) ∧ (¬ (128 ≤ ((lastK l l.length).getD 0 0).toNat ↔ 192 ≤ (l.getD 0 0).toNat) → r = (0, 11)) := by
  have hv := far_good l h h1 hf
  have hlen := lastK_len l l.length
  rw [← hr, Plain.base256_at l h (by omega), hv]
  generalize lastK l l.length = m at *
  obtain ⟨c, t, rfl⟩ : ∃ c t, m = c :: t := by
    cases m with
    | nil => simp at hlen
    | cons c t => exact ⟨c, t, rfl⟩
  have hg : (c :: t).getD 0 0 = c := rfl
  have htl : t.length = 7 := by simpa using hlen
  have hb := binAcc_bd t
  rw [htl] at hb
  have e7 : (256 : Int) ^ 7 = 72057594037927936 := by rfl
  rw [hg, binAcc_cons, binAcc_pow, htl]
  rw [e7] at hb ⊢
  have hc := u8_lt c
  generalize binAcc 0 t = u at *
  unfold signOf
  constructor
  · intro he
    rw [if_pos]
    · rw [IntKind.wrap_i64]
      by_cases h2 : 192 ≤ (l.getD 0 0).toNat
      · rw [if_pos h2]
        have := he.2 h2
        congr 1; omega
      · rw [if_neg h2]
        have : ¬ 128 ≤ c.toNat := fun h3 => h2 (he.1 h3)
        congr 1; omega
    · rw [inI64_iff]
      by_cases h2 : 192 ≤ (l.getD 0 0).toNat
      · rw [if_pos h2]
        have := he.2 h2
        omega
      · rw [if_neg h2]
        have : ¬ 128 ≤ c.toNat := fun h3 => h2 (he.1 h3)
        omega
  · intro he
    rw [if_neg]
    rw [inI64_iff]
    by_cases h2 : 192 ≤ (l.getD 0 0).toNat
    · rw [if_pos h2]
      have : ¬ 128 ≤ c.toNat := fun h3 => he ⟨fun _ => h2, fun _ => h3⟩
      omega
    · rw [if_neg h2]
      have : 128 ≤ c.toNat := Classical.byContradiction fun h3 => he ⟨fun h4 => absurd h4 h3, fun h4 => absurd h4 h2⟩
      omega
end Go.Proofs.YtamgiffkhnfpmaaDoor
namespace Go.Proofs.YtamgiffkhnfpmaaDoor
set_option linter.unusedVariables false
set_option linter.unusedSimpArgs false
open Go.ChangeShapes Go.WideShapes Go.ChangeAt Go.RowKit
/-- where a walk from the left stands still -/
theorem while_at {p : UInt8 → Bool} (m : List UInt8) (k : Nat) (hk : k ≤ m.length) (h1 : (m.take k).all p = true) (h2 : k < m.length → p (m.getD k 0) = false) : m.takeWhile p = m.take k ∧ m.dropWhile p = m.drop k := by
  have hd : m.dropWhile p = m.drop k := by
    have e := dropWhile_pass (p := p) (m.take k) (m.drop k) h1
    rw [List.take_append_drop] at e
    rw [e]
    by_cases hlt : k < m.length
    · have hg : m.getD k 0 = m[k] := by simp [List.getD, List.getElem?_eq_getElem hlt]
      rw [List.drop_eq_getElem_cons hlt, List.dropWhile_cons_of_neg]
      have := h2 hlt
      rw [hg] at this
      rw [this]; exact Bool.false_ne_true
    · rw [List.drop_of_length_le (by omega)]; rfl
  refine ⟨?_, hd⟩
  have e1 : m.takeWhile p ++ m.dropWhile p = m := List.takeWhile_append_dropWhile
  have e2 : m.take k ++ m.drop k = m := List.take_append_drop k m
  rw [hd] at e1
  exact List.append_cancel_right (e1.trans e2.symm)
theorem all_step {p : UInt8 → Bool} (l : List UInt8) (k : Nat) (h : k < l.length) (ih : (l.take k).all p = true) (hd : p (l.getD k 0) = true) : (l.take (k + 1)).all p = true := by
  have hg : l.getD k 0 = l[k] := by simp [List.getD, List.getElem?_eq_getElem h]
  rw [List.take_succ_eq_append_getElem h, List.all_append, ih, ← hg, List.all_cons, hd]; rfl
theorem all_no {p : UInt8 → Bool} (l : List UInt8) (k : Nat) (h : k < l.length) (hd : p (l.getD k 0) = false) : l.all p = false := by
  have hg : l.getD k 0 = l[k] := by simp [List.getD, List.getElem?_eq_getElem h]
  cases ha : l.all p with
  | false => rfl
  | true =>
    have := (List.all_eq_true.1 ha) l[k] (List.getElem_mem h)
    rw [← hg, hd] at this
    cases this
/-- the last k digits -/
theorem octAcc_last (D : List UInt8) (k : Nat) (h : k < D.length) : octAcc 0 (D.drop (D.length - (k + 1))) = ((D.getD (D.length - (k + 1)) 0).toNat - 48) * 8 ^ k + octAcc 0 (D.drop (D.length - k)) := by
  have hi : D.length - (k + 1) < D.length := by omega
  have hg : D.getD (D.length - (k + 1)) 0 = D[D.length - (k + 1)] := by simp [List.getD, List.getElem?_eq_getElem hi]
  rw [List.drop_eq_getElem_cons hi, octAcc_cons, octAcc_pow, ← hg, List.length_drop, show D.length - (k + 1) + 1 = D.length - k by omega, show D.length - (D.length - k) = k by omega]
  simp only [Nat.zero_mul, Nat.zero_add]
theorem octAcc_drop_le (D : List UInt8) (k : Nat) : octAcc 0 (D.drop k) ≤ octAcc 0 D := by
  have h := octAcc_app 0 (D.take k) (D.drop k)
  rw [List.take_append_drop, octAcc_pow (D.drop k) (octAcc 0 (D.take k))] at h
  rw [h]
  exact Nat.le_add_left _ _
end Go.Proofs.YtamgiffkhnfpmaaDoor
namespace Go.Proofs.YtamgiffkhnfpmaaDoor
set_option linter.unusedVariables false
set_option linter.unusedSimpArgs false
open Go.ChangeShapes Go.WideShapes Go.ChangeAt Go.RowKit
theorem Plain.octal_at (l : List UInt8) (f e : Nat) (hf : l.dropWhile (· == 32) = l.drop f) (hd : octHead (l.drop f) = (l.drop f).take (e - f)) (ht : octTail (l.drop f) = l.drop e) :
    Plain.octal l = if (l.drop e).all isGap then (if octAcc 0 ((l.drop f).take (e - f)) ≤ 9223372036854775807 then (((octAcc 0 ((l.drop f).take (e - f)) : Nat) : Int), 0) else (0, 11)) else (0, 10) := by
  unfold Plain.octal
  simp only [hf, hd, ht]
/-- a step of the reference's sum: the digit's place is k -/
structure OctStep (D : List UInt8) (e f k A : Nat) (g : UInt8) (r : Int × Int) : Prop where
  dig : 48 ≤ g.toNat ∧ g.toNat ≤ 55
  zero : g.toNat = 48 → octAcc 0 (D.drop (e - f - (k + 1))) = A
  far : g.toNat ≠ 48 → 21 ≤ k → r = (0, 11)
  near : k ≤ 20 → octAcc 0 (D.drop (e - f - (k + 1))) = (g.toNat - 48) * 8 ^ k + A ∧ (g.toNat - 48) * 8 ^ k + A ≤ 9223372036854775807
theorem OctStep.of (D : List UInt8) (e f k A j : Nat) (g : UInt8) (r : Int × Int) (hl : D.length = e - f) (ho : D.all isOct = true) (hk : k < e - f) (hj : j = e - 1 - k) (hg : D.getD (j - f) 0 = g) (hA : octAcc 0 (D.drop (e - f - k)) = A)
    (hr : r = if octAcc 0 D ≤ 9223372036854775807 then (((octAcc 0 D : Nat) : Int), 0) else (0, 11)) : OctStep D e f k A g r := by
  have hlast := octAcc_last D k (by omega)
  rw [hl, show e - f - (k + 1) = j - f by omega, hg, hA] at hlast
  have hd := oct_at D (j - f) (by omega) ho
  rw [hg] at hd
  have hall : (D.drop (j - f)).all isOct = true := by
    rw [List.all_eq_true] at ho ⊢
    exact fun x hx => ho x (List.mem_of_mem_drop hx)
  have hlt := octAcc_lt _ hall
  rw [List.length_drop, hl, show e - f - (j - f) = k + 1 by omega] at hlt
  have hle := octAcc_drop_le D (j - f)
  have ej : e - f - (k + 1) = j - f := by omega
  rw [← ej] at hlast hle hlt
  refine ⟨hd, fun h => by rw [hlast, h, Nat.sub_self, Nat.zero_mul, Nat.zero_add], fun h h21 => ?_, fun h20 => ⟨hlast, ?_⟩⟩
  · rw [hr, if_neg]
    have h1 : 8 ^ 21 ≤ 8 ^ k := Nat.pow_le_pow_right (by decide) h21
    have h2 : 1 * 8 ^ k ≤ (g.toNat - 48) * 8 ^ k := Nat.mul_le_mul_right _ (by omega)
    have h3 : (8 : Nat) ^ 21 = 9223372036854775808 := rfl
    omega
  · have h1 : 8 ^ (k + 1) ≤ 8 ^ 21 := Nat.pow_le_pow_right (by decide) (by omega)
    have h3 : (8 : Nat) ^ 21 = 9223372036854775808 := rfl
    rw [hlast] at hlt
    omega
theorem two_pow8 (k : Nat) (P : Int) (h : P = 3 * k) : (2 : Int) ^ P.toNat = ((8 ^ k : Nat) : Int) := by
  have e : P.toNat = 3 * k := by omega
  rw [e, Int.pow_mul, Int.natCast_pow]; rfl
end Go.Proofs.YtamgiffkhnfpmaaDoor
namespace Go.Proofs.YtamgiffkhnfpmaaDoor
set_option linter.unusedVariables false
set_option linter.unusedSimpArgs false
open Go.ChangeShapes Go.WideShapes Go.ChangeAt Go.RowKit
/-- the set's cells -/
def GapSet (w : World) (b : Nat) : Prop := ∀ x : UInt8, w.cell? ⟨b, x.toNat, none⟩ = some (.bool (isGap x))
theorem gap_contains (x : UInt8) : [32, 0].contains x = isGap x := by
  simp only [isGap, List.contains_cons, List.contains_nil, Bool.or_false]
set_option maxHeartbeats 400000 in
theorem TrimASCII_any (l : List UInt8) (b : Nat) (w : World) (hl : l.length ≤ 140737488355328) (hg : GapSet w b) :
    Calls Tryd.prog 75 #[.string ⟨l.toArray⟩, .pointer (some ⟨b, 0, none⟩)] w fun e w' => e = .returned (.string ⟨(trimR l).toArray⟩) ∧ w' = w := by
  generalize hr : trimR l = R
  have HR := Lib.hid hr; clear hr
  have HG := Lib.hid hg; clear hg
  go_enter Tryd.func75, Tryd.ntmps75
  go_wp2
  go_loop [0] (fun t => ∃ s : List UInt8, t = .string ⟨s.toArray⟩ ∧ s.length ≤ 140737488355328 ∧ Hid (trimR s = R)) (fun t => match t with | .string x => x.size | _ => 0)
  case atStart => exact ⟨l, rfl, hl, HR⟩
  case round =>
    obtain ⟨s, rfl, hs, ht⟩ := hrel
    by_cases h0 : s = []
    · subst h0
      obtain rfl : R = [] := by rw [← ht.out]; rfl
      go_wp2
      go_ret
      exact ⟨rfl, rfl⟩
    · obtain ⟨t, c, rfl⟩ : ∃ t c, s = t ++ [c] := ⟨s.dropLast, s.getLast h0, (List.dropLast_concat_getLast h0).symm⟩
      have hx := str_at (t ++ [c]) t.length (by simp)
      have hgd : (t ++ [c]).getD t.length 0 = c := by simp [List.getD]
      rw [hgd] at hx
      have hlen : (t ++ [c]).length = t.length + 1 := by simp
      have hext : (⟨(t ++ [c]).toArray⟩ : ByteArray).extract 0 t.length = ⟨t.toArray⟩ := by
        apply ByteArray.ext
        simp [ByteArray.data_extract]
      have hst : t.length ≤ 140737488355328 := by omega
      have HEXT := Lib.hid hext
      cases hgap : isGap c with
      | false =>
        have hcon := Tryd.asciiSet_contains b c (isGap c) w (HG.out c)
        rw [hgap] at hcon
        have HC := Lib.hid hcon
        have hRR : t ++ [c] = R := by rw [← trimR_end t c hgap]; exact ht.out
        have HRR := Lib.hid hRR
        clear hcon hRR hgd hext h0 hgap
        go_wp2_with (go_at_call 96; refine (HC.out).mono ?_; rintro e w1 ⟨rfl, hw⟩; obtain rfl := hw.symm)
        go_ret
        exact ⟨by rw [← HRR.out]; rfl, rfl⟩
      | true =>
        have hcon := Tryd.asciiSet_contains b c (isGap c) w (HG.out c)
        rw [hgap] at hcon
        have HC := Lib.hid hcon
        have hRR : trimR t = R := by rw [← trimR_gap t c hgap]; exact ht.out
        have HRR := Lib.hid hRR
        clear hcon hRR hgd hext h0 hgap
        go_wp2_with (go_at_call 96; refine (HC.out).mono ?_; rintro e w1 ⟨rfl, hw⟩; obtain rfl := hw.symm)
        rw [HEXT.out]
        exact ⟨⟨t, rfl, hst, HRR⟩, by simp [ByteArray.size]⟩
theorem gapSet_zero : ∀ w, (zeroValue 110).run Tryd.prog w = .ok (.agg (Array.replicate 256 (.bool false))) w := fun w => by kernel_rfl
theorem gapSize : (Tryd.prog.info? 110).map (·.size) = some (Lib.setCells [32, 0]).size := by rw [Lib.setCells_size]; kernel_rfl
theorem gapZero : (Tryd.prog.info? 110).bind (·.zero) = some (.agg (Array.replicate 256 (.bool false))) := by kernel_rfl
theorem gapOne : ∀ u ∈ (Lib.setCells [32, 0]).toList, u.oneCell' = true := by
  intro u hu
  have h := Lib.setCells_one [32, 0]
  generalize Lib.setCells [32, 0] = A at *
  rw [Array.all_eq_true] at h
  obtain ⟨i, hi, rfl⟩ := List.getElem_of_mem hu
  exact h i (by simpa using hi)
theorem gapSet_new (w1 : World) : GapSet (w1.alloc (.cells (Lib.setCells [32, 0]) 110)) w1.heap.size := fun x => by
  rw [World.cell?_alloc_new, Lib.setCells_at, gap_contains]
set_option maxRecDepth 100000 in
set_option maxHeartbeats 1000000 in
theorem TrimGap_any (l : List UInt8) (w : World) (hl : l.length ≤ 140737488355328) :
    Calls Tryd.prog 44 #[.string ⟨l.toArray⟩, .string ⟨#[32, 0]⟩] w fun e w' => e = .returned (.string ⟨(trimR l).toArray⟩) ∧ Below w.heap.size w w' := by
  by_cases h0 : l = []
  · subst h0
    go_enter Tryd.func44, Tryd.ntmps44
    go_wp2
    go_ret
    exact ⟨rfl, Below.refl _ _⟩
  · have c1b : l.isEmpty = false := by simpa using h0
    have hasc : ∀ (j : Nat) b, [(32 : UInt8), 0][j]? = some b → b.toNat < 128 := by
      intro j b hj
      match j, hj with
      | 0, hj => cases hj; decide
      | 1, hj => cases hj; decide
    have HM := Lib.hid (Tryd.strings_makeASCIISet gapSet_zero ⟨#[32, 0]⟩ w (by decide) hasc)
    generalize hR : trimR l = R
    have HR := Lib.hid hR
    have HZ := Lib.hid gapZero; have HSZ := Lib.hid gapSize
    have HO : Hid (∀ u ∈ (Lib.setCells [32, 0]).toList, u.oneCell' = true) := Lib.hid (gapOne)
    go_enter Tryd.func44, Tryd.ntmps44
    clear hR
    go_wp2_with (first
      | (go_at_call 71; refine (HM.out).mono ?_; rintro e w1 ⟨rfl, hw⟩; have HW := Lib.hid hw; clear hw)
      | (with_reducible refine wpList_alloc_z rfl _ rfl (Array.replicate 256 (.bool false)) HZ.out ?_)
      | ((with_reducible refine wpList_store_new rfl _ _ _ rfl _ rfl (Lib.setCells [32, 0]) rfl ?_ (by rw [Lib.setCells_size, Array.size_replicate]) HSZ.out HO.out ?_); · simp)
      | (go_at_call 75; refine (TrimASCII_any l _ _ hl (by exact gapSet_new w1)).mono ?_; rintro e w3 ⟨rfl, hw⟩; obtain rfl := hw.symm; rw [HR.out]))
    go_ret
    refine ⟨rfl, ?_⟩
    rw [HW.out]
    exact ((Below.refl _ _).alloc (Nat.le_refl _) _).alloc (by simp) _
end Go.Proofs.YtamgiffkhnfpmaaDoor
namespace Go.Proofs.YtamgiffkhnfpmaaDoor
set_option linter.unusedVariables false
set_option linter.unusedSimpArgs false
open Go.ChangeShapes Go.WideShapes Go.ChangeAt Go.RowKit
/-- what ParseUint hands back -/
def octTuple (t : TypeId) (v : Nat) : Value := if v ≤ 18446744073709551615 then .tuple #[.int .u64 (v : Int), .nilIface] else .tuple #[.int .u64 18446744073709551615, .iface t (.int .i64 1)]
set_option maxHeartbeats 8000000 in
set_option maxRecDepth 100000 in
theorem ParseUint8_any (bs : List UInt8) (hne : bs ≠ []) (hmax : bs.length ≤ 140737488355328) (hall : bs.all isOct = true) (w : World) :
    Calls Tryd.prog 100 #[.string ⟨bs.toArray⟩, .int .i64 8, .int .i64 64] w fun e w' => e = .returned (octTuple 135 (octAcc 0 bs)) ∧ w' = Lib.bytesWorld w 5 ⟨bs.toArray⟩ := by
  have c1b : bs.isEmpty = false := by simpa using hne
  have hcv := Lib.run_convert_string_bytes (P := Tryd.prog) w 9 23 5 ⟨bs.toArray⟩ (u := .string) Tryd.underlying9 Tryd.underlying23 Tryd.underlying5
  have hB : ∀ j, j < bs.length → (Lib.bytesWorld w 5 ⟨bs.toArray⟩).cell? ⟨w.heap.size, j, none⟩ = some (.int .u8 (bs.getD j 0).toNat) := fun j hj => Lib.bytesWorld_cell w 5 ⟨bs.toArray⟩ j (by simpa [ByteArray.size] using hj)
  obtain ⟨W1, hW1⟩ : ∃ W1, W1 = Lib.bytesWorld w 5 ⟨bs.toArray⟩ := ⟨_, rfl⟩
  rw [← hW1] at hcv hB ⊢
  clear hW1
  have hmv : IntKind.u64.wrap (IntKind.u64.wrap 18446744073709551616 - 1) = 18446744073709551615 := by
    rw [IntKind.wrap_u64, IntKind.wrap_u64]
    decide
  have HB := Lib.hid hB; have HALL := Lib.hid hall; clear hB hall
  generalize hR : octTuple 135 (octAcc 0 bs) = R
  have HR := Lib.hid hR; clear hR
  have hcut8 : IntKind.u64.wrap (18446744073709551615 / 8 + 1) = 2305843009213693952 := by rw [IntKind.wrap_u64]; decide
  go_enter Tryd.func100, Tryd.ntmps100
  go_wp2
  go_loop [12, 13, 101] (fun vu vn vi => ∃ (k : Nat) (a : Int), vu = .bool false ∧ vn = .int .u64 a ∧ vi = .int .i64 k ∧ k ≤ bs.length ∧ Hid (a = (octAcc 0 (bs.take k) : Nat) ∧ octAcc 0 (bs.take k) < 18446744073709551616))
    (fun _ _ vi => bs.length - (intOf vi).toNat)
  case atStart => exact ⟨0, 0, rfl, rfl, rfl, by omega, Lib.hid (by rw [List.take_zero, octAcc_nil]; decide)⟩
  case round =>
    obtain ⟨k, a, rfl, rfl, rfl, hk, hh⟩ := hrel
    obtain ⟨ha, hacc⟩ := hh.out
    clear hh
    have a0 : 0 ≤ a := by omega
    have a1 : a < 18446744073709551616 := by omega
    by_cases hkn : k < bs.length
    · have hc := HB.out k hkn
      have hdig := oct_at bs k hkn HALL.out
      have hst := octAcc_step bs k hkn
      have hle := octAcc_take_le bs (k + 1)
      generalize bs.getD k 0 = c at hc hdig hst
      have hc256 : c.toNat < 256 := c.toNat_lt
      obtain ⟨hd0, hd1⟩ := hdig
      have e0 : (48 : Int) ≤ c.toNat := by omega
      have e1 : (c.toNat : Int) ≤ 55 := by omega
      by_cases hcut : 2305843009213693952 ≤ a
      · have hf : octTuple 135 (octAcc 0 bs) = .tuple #[.int .u64 18446744073709551615, .iface 135 (.int .i64 1)] := by
          unfold octTuple; rw [if_neg (by omega)]
        obtain rfl := (HR.out.symm.trans hf)
        clear hf ha hacc hst hle
        go_wp2
        go_ret2
        exact ⟨rfl, rfl⟩
      · have HN : Hid (a * 8 + ((c.toNat : Int) - 48) = (octAcc 0 (bs.take (k + 1)) : Nat) ∧ octAcc 0 (bs.take (k + 1)) < 18446744073709551616) := Lib.hid ⟨by omega, by omega⟩
        have icut : a < 2305843009213693952 := by omega
        have iov : a * 8 + ((c.toNat : Int) - 48) < 18446744073709551616 := by omega
        clear hcut ha hacc hst hle
        go_wp2
        exact ⟨⟨k + 1, a * 8 + ((c.toNat : Int) - 48), rfl, (by first | rfl | (congr 1; omega)), (by first | rfl | (congr 1; omega)), by omega, HN⟩, by simp [intOf]; omega⟩
    · obtain rfl : k = bs.length := by omega
      rw [List.take_length] at ha hacc
      have hf : octTuple 135 (octAcc 0 bs) = .tuple #[.int .u64 a, .nilIface] := by
        unfold octTuple; rw [if_pos (by omega), ha]
      obtain rfl := (HR.out.symm.trans hf)
      clear hf ha hacc
      go_wp2
      go_ret2
      exact ⟨rfl, rfl⟩
/-- what the inner ParseInt hands back -/
def octIntV (t : TypeId) (v : Nat) : Value := if v ≤ 9223372036854775807 then .tuple #[.int .i64 (v : Int), .nilIface] else .tuple #[.int .i64 9223372036854775807, .iface t (.int .i64 1)]
set_option maxHeartbeats 8000000 in
set_option maxRecDepth 100000 in
theorem ParseInt8_any (bs : List UInt8) (hne : bs ≠ []) (hmax : bs.length ≤ 140737488355328) (hall : bs.all isOct = true) (w : World) :
    Calls Tryd.prog 77 #[.string ⟨bs.toArray⟩, .int .i64 8, .int .i64 64] w fun e w' => e = .returned (octIntV 135 (octAcc 0 bs)) ∧ Below w.heap.size w w' := by
  have c1b : bs.isEmpty = false := by simpa using hne
  have c0 : 0 < bs.length := List.length_pos_iff.2 hne
  have hx := str_at bs 0 c0
  have hd := oct_at bs 0 c0 hall
  have hU := ParseUint8_any bs hne hmax hall w
  generalize bs.getD 0 0 = g at hx hd
  have h43 : ((g.toNat : Int) == 43) = false := by rw [beq_eq_false_iff_ne]; omega
  have h45 : ((g.toNat : Int) == 45) = false := by rw [beq_eq_false_iff_ne]; omega
  have hq1 : ∀ W, (binOp .neq 82 (.iface 135 (.int .i64 1)) (.iface 135 (.int .i64 1))).run Tryd.prog W = .ok (.bool false) W := fun W => Lib.run_neq_iface_int W 1 1 Tryd.underlying82 (by kernel_rfl) Tryd.underlying135
  clear hd hne hall
  generalize octAcc 0 bs = v at *
  by_cases h1 : v ≤ 9223372036854775807
  · have e1 : octTuple 135 v = .tuple #[.int .u64 (v : Int), .nilIface] := by unfold octTuple; rw [if_pos (by omega)]
    have e2 : octIntV 135 v = .tuple #[.int .i64 (v : Int), .nilIface] := by unfold octIntV; rw [if_pos h1]
    rw [e1] at hU
    rw [e2]
    obtain ⟨a, ha⟩ : ∃ a : Int, a = (v : Int) := ⟨_, rfl⟩
    rw [← ha] at hU ⊢
    have HU := Lib.hid hU
    have i1 : a < 9223372036854775808 := by omega
    have i0 : 0 ≤ a := by omega
    clear e1 e2 hU h1 ha
    go_enter Tryd.func77, Tryd.ntmps77
    go_wp2_with (go_at_call 100; refine (HU.out).mono ?_; rintro e w1 ⟨rfl, hw1⟩; have HW := Lib.hid hw1; clear hw1)
    go_ret2
    exact ⟨rfl, by rw [HW.out]; exact Lib.bytesWorld_below _ _ _⟩
  · have e2 : octIntV 135 v = .tuple #[.int .i64 9223372036854775807, .iface 135 (.int .i64 1)] := by unfold octIntV; rw [if_neg h1]
    rw [e2]
    by_cases h2 : v ≤ 18446744073709551615
    · have e1 : octTuple 135 v = .tuple #[.int .u64 (v : Int), .nilIface] := by unfold octTuple; rw [if_pos h2]
      rw [e1] at hU
      obtain ⟨a, ha⟩ : ∃ a : Int, a = (v : Int) := ⟨_, rfl⟩
      rw [← ha] at hU
      have HU := Lib.hid hU
      have i1 : 9223372036854775808 ≤ a := by omega
      have i2 : a ≤ 18446744073709551615 := by omega
      clear e1 e2 hU h1 h2 ha
      go_enter Tryd.func77, Tryd.ntmps77
      go_wp2_with (go_at_call 100; refine (HU.out).mono ?_; rintro e w1 ⟨rfl, hw1⟩; have HW := Lib.hid hw1; clear hw1)
      go_ret2
      exact ⟨rfl, by rw [HW.out]; exact Lib.bytesWorld_below _ _ _⟩
    · have e1 : octTuple 135 v = .tuple #[.int .u64 18446744073709551615, .iface 135 (.int .i64 1)] := by unfold octTuple; rw [if_neg h2]
      rw [e1] at hU
      have HU := Lib.hid hU
      clear e1 e2 hU h1 h2
      go_enter Tryd.func77, Tryd.ntmps77
      go_wp2_with (go_at_call 100; refine (HU.out).mono ?_; rintro e w1 ⟨rfl, hw1⟩; have HW := Lib.hid hw1; clear hw1)
      go_ret2
      exact ⟨rfl, by rw [HW.out]; exact Lib.bytesWorld_below _ _ _⟩
set_option maxHeartbeats 4000000 in
set_option maxRecDepth 100000 in
theorem ParseIntOct_any (bs : List UInt8) (hne : bs ≠ []) (hmax : bs.length ≤ 140737488355328) (hall : bs.all isOct = true) (w : World) (ev : Value) (hE : ErrIs w ev) :
    Calls Tryd.prog 45 #[.string ⟨bs.toArray⟩, .int .i64 8, .int .i64 64] w fun e w' => ∃ (x : Int) (er : Value), e = .returned (.tuple #[.int .i64 x, er]) ∧ Below w.heap.size w w' ∧
      (octAcc 0 bs ≤ 9223372036854775807 → x = octAcc 0 bs ∧ er = .nilIface) ∧ (¬ octAcc 0 bs ≤ 9223372036854775807 → ∃ t p, er = .iface t p) := by
  have hI := ParseInt8_any bs hne hmax hall w
  generalize octAcc 0 bs = v at *
  by_cases h1 : v ≤ 9223372036854775807
  · have e2 : octIntV 135 v = .tuple #[.int .i64 (v : Int), .nilIface] := by unfold octIntV; rw [if_pos h1]
    rw [e2] at hI
    have HI := Lib.hid hI; clear hI e2
    go_enter Tryd.func45, Tryd.ntmps45
    go_wp2_with (go_at_call 77; refine (HI.out).mono ?_; rintro e w1 ⟨rfl, hb1⟩)
    go_ret2
    exact ⟨_, _, rfl, hb1, fun _ => ⟨rfl, rfl⟩, fun h => absurd h1 h⟩
  · have e2 : octIntV 135 v = .tuple #[.int .i64 9223372036854775807, .iface 135 (.int .i64 1)] := by unfold octIntV; rw [if_neg h1]
    rw [e2] at hI
    have HI := Lib.hid hI
    have HE := Lib.hid hE
    have HH := Lib.hid h1
    clear hI e2 h1 hE
    go_enter Tryd.func45, Tryd.ntmps45
    go_wp2_with (first
      | (go_at_call 77; refine (HI.out).mono ?_; rintro e w1 ⟨rfl, hb1⟩; have HB1 := Lib.hid hb1; clear hb1)
      | (go_at_call 78; refine (Tryd.strconv_toError_range _ _ 8 64 ev _ (by simp [ByteArray.size]; omega) (by exact (HE.out.below HB1.out).1) (Or.inr HE.out.2)).mono ?_; rintro e w2 ⟨N, rfl, hN1, hN2, hb2⟩; have HB2 := Lib.hid hb2; clear hb2 hN1 hN2))
    go_ret2
    exact ⟨_, _, rfl, Below.seq HB1.out HB2.out, fun h => absurd h HH.out, fun _ => ⟨_, _, rfl⟩⟩
end Go.Proofs.YtamgiffkhnfpmaaDoor
namespace Go.Proofs.YtamgiffkhnfpmaaDoor
set_option linter.unusedVariables false
set_option linter.unusedSimpArgs false
open Go.ChangeShapes Go.WideShapes Go.ChangeAt Go.RowKit
theorem oct_step (l : List UInt8) (k : Nat) (h : k < l.length) (ih : (l.take k).all isOct = true) (hd : 48 ≤ (l.getD k 0).toNat ∧ (l.getD k 0).toNat ≤ 55) : (l.take (k + 1)).all isOct = true := by
  have hg : l.getD k 0 = l[k] := by simp [List.getD, List.getElem?_eq_getElem h]
  have h1 : isOct (l.getD k 0) = true := (isOct_iff _).2 hd
  rw [List.take_succ_eq_append_getElem h, List.all_append, ih, ← hg, List.all_cons, h1]; rfl
theorem oct_no (l : List UInt8) (k : Nat) (h : k < l.length) (hd : ¬ (48 ≤ (l.getD k 0).toNat ∧ (l.getD k 0).toNat ≤ 55)) : l.all isOct = false := by
  have hg : l.getD k 0 = l[k] := by simp [List.getD, List.getElem?_eq_getElem h]
  cases ha : l.all isOct with
  | false => rfl
  | true =>
    have := (List.all_eq_true.1 ha) l[k] (List.getElem_mem h)
    rw [isOct_iff, ← hg] at this
    exact absurd this hd
theorem all_dropWhile {p q : UInt8 → Bool} (l : List UInt8) (h : l.all p = true) : (l.dropWhile q).all p = true := by
  rw [List.all_eq_true] at h ⊢
  exact fun x hx => h x ((List.dropWhile_sublist q).subset hx)
theorem Plain.octal_bad (l : List UInt8) (h : (trimR (l.dropWhile (· == 32))).all isOct = false) : Plain.octal l = (0, 10) := by
  have hg : (octTail (l.dropWhile (· == 32))).all isGap = false := by
    cases hg : (octTail (l.dropWhile (· == 32))).all isGap with
    | false => rfl
    | true => rw [trim_good _ hg, octHead_all] at h; cases h
  unfold Plain.octal
  simp only [hg]
  rfl
theorem Plain.octal_good (l : List UInt8) (h : (trimR (l.dropWhile (· == 32))).all isOct = true) :
    Plain.octal l = if octAcc 0 (trimR (l.dropWhile (· == 32))) ≤ 9223372036854775807 then (((octAcc 0 (trimR (l.dropWhile (· == 32))) : Nat) : Int), 0) else (0, 11) := by
  have hg : (octTail (l.dropWhile (· == 32))).all isGap = true := by
    cases hg : (octTail (l.dropWhile (· == 32))).all isGap with
    | true => rfl
    | false => rw [trim_bad _ hg] at h; cases h
  rw [trim_good _ hg]
  unfold Plain.octal
  simp only [hg, if_true]
theorem trimR_len (l : List UInt8) : (trimR l).length ≤ l.length := by
  unfold trimR
  rw [List.length_reverse]
  have := (List.dropWhile_sublist (l := l.reverse) isGap).length_le
  simpa using this
set_option maxRecDepth 100000 in
set_option maxHeartbeats 1600000 in
theorem Octal_any (a : Option Addr) (n c : Nat) (l : List UInt8) (w : World) (ev : Value) (h : Bs w a n c l) (hc : n ≤ 140737488355328) (hE : ErrIs w ev) :
    Calls Tryd.prog 27 #[.slice a n c] w fun e w' => e = .returned (decV (Plain.octal l)) ∧ Below w.heap.size w w' := by
  have hl := h.len; have hcap := h.cap
  have hbad := Plain.octal_bad l
  have hgood := Plain.octal_good l
  have hmlen : (l.dropWhile (· == 32)).length ≤ l.length := (List.dropWhile_sublist _).length_le
  have HTL : Hid (∀ w, Calls Tryd.prog 43 #[.string ⟨l.toArray⟩, .string ⟨#[32]⟩] w fun e w' => e = .returned (.string ⟨(l.dropWhile (· == 32)).toArray⟩) ∧ w' = w) := fun w => Tryd.strings_TrimLeft_one ⟨l.toArray⟩ 32 (by decide) w
  generalize l.dropWhile (· == 32) = m at *
  have hplen := trimR_len m
  have HTR : Hid (∀ w, Calls Tryd.prog 44 #[.string ⟨m.toArray⟩, .string ⟨#[32, 0]⟩] w fun e w' => e = .returned (.string ⟨(trimR m).toArray⟩) ∧ Below w.heap.size w w') := fun w => TrimGap_any m w (by omega)
  generalize trimR m = p at *
  have HTZ : Hid (∀ w, Calls Tryd.prog 43 #[.string ⟨p.toArray⟩, .string ⟨#[48]⟩] w fun e w' => e = .returned (.string ⟨(p.dropWhile (· == 48)).toArray⟩) ∧ w' = w) := fun w => Tryd.strings_TrimLeft_one ⟨p.toArray⟩ 48 (by decide) w
  have hp : p.length ≤ 140737488355328 := by omega
  generalize hr : Plain.octal l = r at *
  have HBAD := Lib.hid hbad; have HGOOD := Lib.hid hgood; have HE := Lib.hid hE
  clear hbad hgood hE hr hplen hmlen
  have hu := Lib.hid Tryd.underlying5
  go_enter Tryd.func27, Tryd.ntmps27
  go_wp2_with (first
    | (with_reducible refine wpList_str_of_bs rfl _ _ _ rfl Tryd.underlying23 hu.out Tryd.underlying9 rfl h ?_)
    | (go_at_call 43; (with_reducible refine (HTL.out _).mono ?_); rintro e w1 ⟨rfl, hw⟩; obtain rfl := hw.symm)
    | (go_at_call 44; (with_reducible refine (HTR.out _).mono ?_); rintro e w2 ⟨rfl, hb2⟩))
  go_loop [6] (fun i => ∃ k : Nat, k ≤ p.length ∧ i = .int .i64 k ∧ Hid ((p.take k).all isOct = true)) (fun i => p.length - (intOf i).toNat)
  case atStart => exact ⟨0, by omega, rfl, (rfl : (p.take 0).all isOct = true)⟩
  case round =>
    obtain ⟨k, hk, rfl, hz⟩ := hrel
    by_cases hlt : k < p.length
    · have hkn : (k : Int) < (p.length : Int) := by omega
      have hx := str_at p k hlt
      have hstep := oct_step p k hlt hz.out
      have hno := oct_no p k hlt
      generalize p.getD k 0 = g at hx hstep hno
      have HS := Lib.hid hstep; have HNO := Lib.hid hno; clear hstep hno
      by_cases d1 : (g.toNat : Int) < 48
      · obtain rfl := HBAD.out (HNO.out (by omega))
        go_wp2
        go_ret2
        exact ⟨rfl, hb2⟩
      · by_cases d2 : (55 : Int) < g.toNat
        · obtain rfl := HBAD.out (HNO.out (by omega))
          go_wp2
          go_ret2
          exact ⟨rfl, hb2⟩
        · have hs := Lib.hid (HS.out (by omega))
          go_wp2
          go_round
          case rel => exact ⟨k + 1, by omega, by go_num, hs⟩
          case measure => simp [intOf]; omega
    · obtain rfl : k = p.length := by omega
      have hall : p.all isOct = true := by have := hz.out; rwa [List.take_length] at this
      have hrr := HGOOD.out hall
      have hz0 := octAcc_zeros p
      have hall2 := all_dropWhile (q := (· == 48)) p hall
      have hlen2 : (p.dropWhile (· == 48)).length ≤ p.length := (List.dropWhile_sublist _).length_le
      generalize p.dropWhile (· == 48) = q at *
      by_cases hq : q = []
      · subst hq
        rw [octAcc_nil] at hz0
        rw [← hz0, if_pos (by decide)] at hrr
        obtain rfl := hrr
        clear hall hall2 hlen2 hz0 hz
        go_wp2_with (go_at_call 43; (with_reducible refine (HTZ.out _).mono ?_); rintro e w3 ⟨rfl, hw⟩; obtain rfl := hw.symm)
        go_ret2
        exact ⟨rfl, hb2⟩
      · have c1b : q.isEmpty = false := by simpa using hq
        have HPI := Lib.hid (fun w hw => ParseIntOct_any q hq (by omega) hall2 w ev hw)
        rw [← hz0] at hrr
        have HRR := Lib.hid hrr
        clear hall hall2 hz0 hz hrr hq
        generalize octAcc 0 q = v at *
        by_cases hv : v ≤ 9223372036854775807
        · have hf := HRR.out
          rw [if_pos hv] at hf
          obtain rfl := hf
          have HV := Lib.hid hv; clear hv
          go_wp2_with (first
            | (go_at_call 43; (with_reducible refine (HTZ.out _).mono ?_); rintro e w3 ⟨rfl, hw⟩; obtain rfl := hw.symm)
            | (go_at_call 45; refine (HPI.out _ (by exact HE.out.below hb2)).mono ?_; rintro e w4 ⟨x, er, rfl, hb4, hx1, _⟩; obtain ⟨rfl, rfl⟩ := hx1 HV.out; clear hx1))
          go_ret2
          exact ⟨rfl, Below.seq hb2 hb4⟩
        · have hf := HRR.out
          rw [if_neg hv] at hf
          obtain rfl := hf
          have HV := Lib.hid hv; clear hv
          go_wp2_with (first
            | (go_at_call 43; (with_reducible refine (HTZ.out _).mono ?_); rintro e w3 ⟨rfl, hw⟩; obtain rfl := hw.symm)
            | (go_at_call 45; refine (HPI.out _ (by exact HE.out.below hb2)).mono ?_; rintro e w4 ⟨x, er, rfl, hb4, _, hx2⟩; obtain ⟨te, pe, rfl⟩ := hx2 HV.out; clear hx2))
          go_ret2
          exact ⟨rfl, Below.seq hb2 hb4⟩
end Go.Proofs.YtamgiffkhnfpmaaDoor
namespace Go.Proofs.YtamgiffkhnfpmaaDoor
set_option linter.unusedVariables false
set_option linter.unusedSimpArgs false
open Go.ChangeShapes Go.WideShapes Go.ChangeAt Go.RowKit
/-- how the test at a field's head answers -/
theorem number_cases {w : World} {a : Option Addr} {n c : Nat} {l : List UInt8} (h : Bs w a n c l) :
    (n = 0 ∧ Plain.number l = Plain.octal l) ∨ (∃ b off, ∃ G : Int, 0 < n ∧ a = some ⟨b, off, none⟩ ∧ w.cell? ⟨b, off, none⟩ = some (.int .u8 G) ∧ ((128 ≤ G ∧ Plain.number l = Plain.base256 l) ∨ (G < 128 ∧ Plain.number l = Plain.octal l))) := by
  have hl := h.len
  by_cases h0 : n = 0
  · exact .inl ⟨h0, by unfold Plain.number; rw [if_neg (by omega)]⟩
  · right
    obtain ⟨b, off, ha, hc⟩ := h.at 0 (by omega)
    rw [Nat.add_zero] at hc
    refine ⟨b, off, _, by omega, ha, hc, ?_⟩
    by_cases hg : 128 ≤ (l.getD 0 0).toNat
    · exact .inl ⟨by omega, by unfold Plain.number; rw [if_pos ⟨by omega, hg⟩]⟩
    · exact .inr ⟨by omega, by unfold Plain.number; rw [if_neg (fun h => hg h.2)]⟩
set_option maxHeartbeats 800000 in
theorem Number_any (a : Option Addr) (n c : Nat) (l : List UInt8) (w : World) (ev : Value) (h : Bs w a n c l) (hc : n ≤ 140737488355328) (hE : ErrIs w ev) :
    Calls Tryd.prog 40 #[.slice a n c] w fun e w' => e = .returned (decV (Plain.number l)) ∧ Below w.heap.size w w' := by
  have hB := Base256_any a n c l w h
  have hO := Octal_any a n c l w ev h hc hE
  have hq := number_cases h
  have HB := Lib.hid hB; have HO := Lib.hid hO; clear hB hO h hE
  rcases hq with ⟨rfl, hq⟩ | ⟨b, off, G, hn, rfl, hcell, ⟨hG, hq⟩ | ⟨hG, hq⟩⟩
  · rw [hq]; clear hq
    go_enter Tryd.func40, Tryd.ntmps40
    go_wp2_with (go_at_call 27; (with_reducible refine (HO.out).mono ?_); rintro e w1 ⟨rfl, hb⟩; unfold decV)
    go_ret2
    exact ⟨rfl, hb⟩
  · rw [hq]; clear hq
    have hn1 : (0 : Int) < n := by omega
    go_enter Tryd.func40, Tryd.ntmps40
    go_wp2_with (go_at_call 68; (with_reducible refine (HB.out).mono ?_); rintro e w1 ⟨rfl, hw⟩; obtain rfl := hw; unfold decV)
    go_ret2
    exact ⟨rfl, Below.refl _ _⟩
  · rw [hq]; clear hq
    have hn1 : (0 : Int) < n := by omega
    have hG2 : ¬ 128 ≤ G := by omega
    go_enter Tryd.func40, Tryd.ntmps40
    go_wp2_with (go_at_call 27; (with_reducible refine (HO.out).mono ?_); rintro e w1 ⟨rfl, hb⟩; unfold decV)
    go_ret2
    exact ⟨rfl, hb⟩
end Go.Proofs.YtamgiffkhnfpmaaDoor
