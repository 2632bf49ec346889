/-
  HdrMake: what Make lays, and that it is read again, in plain Lean.
-/
import Derived.Test.YtjchaogfmnabfaaDoorHdrLaw
namespace Go.Proofs.YtjchaogfmnabfaaDoor
set_option linter.unusedVariables false
set_option linter.unusedSimpArgs false
def W16 : List Nat := [100, 8, 8, 8, 12, 12, 8, 1, 100, 8, 32, 32, 8, 8, 155, 12]
theorem fit0 : Fit W16 [[], [], [], [], [], [], [], [], [], [], [], [], [], [], [], []] := by simp [Fit, W16]
theorem zblk_T0 : zblk = blkT W16 [[], [], [], [], [], [], [], [], [], [], [], [], [], [], [], []] := by decide +kernel
theorem chain_prog (r n0 n1 n2 n3 n4 n5 n6 link user group p : List UInt8) (ty : UInt8) (hr : r.length ≤ 100) (h0 : n0.length ≤ 8) (h1 : n1.length ≤ 8) (h2 : n2.length ≤ 8) (h3 : n3.length ≤ 12) (h4 : n4.length ≤ 12) (h5 : n5.length ≤ 8) (h6 : n6.length ≤ 8) (hl : link.length ≤ 100) (hu : user.length ≤ 32) (hg : group.length ≤ 32) (hp : p.length ≤ 155) :
    lay (lay (lay (lay (lay (lay (lay (lay (lay (lay (lay (lay (lay (lay zblk 100 n0) 108 n1) 116 n2) 124 n3) 136 n4) 329 n5) 337 n6) 0 r) 156 [ty]) 157 link) 257 magicU) 265 user) 297 group) 345 p = blkT W16 [r, n0, n1, n2, n3, n4, [], [ty], link, magicU, user, group, n5, n6, p, []] := by
  have f := fit0
  rw [zblk_T0]
  have g := lay_blk W16 [[], [], [], [], [], [], [], [], [], [], [], [], [], [], [], []] 1 n0 f rfl h0
  rw [show lay (blkT W16 [[], [], [], [], [], [], [], [], [], [], [], [], [], [], [], []]) 100 n0 = blkT W16 [[], n0, [], [], [], [], [], [], [], [], [], [], [], [], [], []] from g.1]
  replace f : Fit W16 [[], n0, [], [], [], [], [], [], [], [], [], [], [], [], [], []] := g.2
  clear g
  have g := lay_blk W16 [[], n0, [], [], [], [], [], [], [], [], [], [], [], [], [], []] 2 n1 f rfl h1
  rw [show lay (blkT W16 [[], n0, [], [], [], [], [], [], [], [], [], [], [], [], [], []]) 108 n1 = blkT W16 [[], n0, n1, [], [], [], [], [], [], [], [], [], [], [], [], []] from g.1]
  replace f : Fit W16 [[], n0, n1, [], [], [], [], [], [], [], [], [], [], [], [], []] := g.2
  clear g
  have g := lay_blk W16 [[], n0, n1, [], [], [], [], [], [], [], [], [], [], [], [], []] 3 n2 f rfl h2
  rw [show lay (blkT W16 [[], n0, n1, [], [], [], [], [], [], [], [], [], [], [], [], []]) 116 n2 = blkT W16 [[], n0, n1, n2, [], [], [], [], [], [], [], [], [], [], [], []] from g.1]
  replace f : Fit W16 [[], n0, n1, n2, [], [], [], [], [], [], [], [], [], [], [], []] := g.2
  clear g
  have g := lay_blk W16 [[], n0, n1, n2, [], [], [], [], [], [], [], [], [], [], [], []] 4 n3 f rfl h3
  rw [show lay (blkT W16 [[], n0, n1, n2, [], [], [], [], [], [], [], [], [], [], [], []]) 124 n3 = blkT W16 [[], n0, n1, n2, n3, [], [], [], [], [], [], [], [], [], [], []] from g.1]
  replace f : Fit W16 [[], n0, n1, n2, n3, [], [], [], [], [], [], [], [], [], [], []] := g.2
  clear g
  have g := lay_blk W16 [[], n0, n1, n2, n3, [], [], [], [], [], [], [], [], [], [], []] 5 n4 f rfl h4
  rw [show lay (blkT W16 [[], n0, n1, n2, n3, [], [], [], [], [], [], [], [], [], [], []]) 136 n4 = blkT W16 [[], n0, n1, n2, n3, n4, [], [], [], [], [], [], [], [], [], []] from g.1]
  replace f : Fit W16 [[], n0, n1, n2, n3, n4, [], [], [], [], [], [], [], [], [], []] := g.2
  clear g
  have g := lay_blk W16 [[], n0, n1, n2, n3, n4, [], [], [], [], [], [], [], [], [], []] 12 n5 f rfl h5
  rw [show lay (blkT W16 [[], n0, n1, n2, n3, n4, [], [], [], [], [], [], [], [], [], []]) 329 n5 = blkT W16 [[], n0, n1, n2, n3, n4, [], [], [], [], [], [], n5, [], [], []] from g.1]
  replace f : Fit W16 [[], n0, n1, n2, n3, n4, [], [], [], [], [], [], n5, [], [], []] := g.2
  clear g
  have g := lay_blk W16 [[], n0, n1, n2, n3, n4, [], [], [], [], [], [], n5, [], [], []] 13 n6 f rfl h6
  rw [show lay (blkT W16 [[], n0, n1, n2, n3, n4, [], [], [], [], [], [], n5, [], [], []]) 337 n6 = blkT W16 [[], n0, n1, n2, n3, n4, [], [], [], [], [], [], n5, n6, [], []] from g.1]
  replace f : Fit W16 [[], n0, n1, n2, n3, n4, [], [], [], [], [], [], n5, n6, [], []] := g.2
  clear g
  have g := lay_blk W16 [[], n0, n1, n2, n3, n4, [], [], [], [], [], [], n5, n6, [], []] 0 r f rfl hr
  rw [show lay (blkT W16 [[], n0, n1, n2, n3, n4, [], [], [], [], [], [], n5, n6, [], []]) 0 r = blkT W16 [r, n0, n1, n2, n3, n4, [], [], [], [], [], [], n5, n6, [], []] from g.1]
  replace f : Fit W16 [r, n0, n1, n2, n3, n4, [], [], [], [], [], [], n5, n6, [], []] := g.2
  clear g
  have g := lay_blk W16 [r, n0, n1, n2, n3, n4, [], [], [], [], [], [], n5, n6, [], []] 7 [ty] f rfl (by decide : 1 ≤ 1)
  rw [show lay (blkT W16 [r, n0, n1, n2, n3, n4, [], [], [], [], [], [], n5, n6, [], []]) 156 [ty] = blkT W16 [r, n0, n1, n2, n3, n4, [], [ty], [], [], [], [], n5, n6, [], []] from g.1]
  replace f : Fit W16 [r, n0, n1, n2, n3, n4, [], [ty], [], [], [], [], n5, n6, [], []] := g.2
  clear g
  have g := lay_blk W16 [r, n0, n1, n2, n3, n4, [], [ty], [], [], [], [], n5, n6, [], []] 8 link f rfl hl
  rw [show lay (blkT W16 [r, n0, n1, n2, n3, n4, [], [ty], [], [], [], [], n5, n6, [], []]) 157 link = blkT W16 [r, n0, n1, n2, n3, n4, [], [ty], link, [], [], [], n5, n6, [], []] from g.1]
  replace f : Fit W16 [r, n0, n1, n2, n3, n4, [], [ty], link, [], [], [], n5, n6, [], []] := g.2
  clear g
  have g := lay_blk W16 [r, n0, n1, n2, n3, n4, [], [ty], link, [], [], [], n5, n6, [], []] 9 magicU f rfl (by decide : 8 ≤ 8)
  rw [show lay (blkT W16 [r, n0, n1, n2, n3, n4, [], [ty], link, [], [], [], n5, n6, [], []]) 257 magicU = blkT W16 [r, n0, n1, n2, n3, n4, [], [ty], link, magicU, [], [], n5, n6, [], []] from g.1]
  replace f : Fit W16 [r, n0, n1, n2, n3, n4, [], [ty], link, magicU, [], [], n5, n6, [], []] := g.2
  clear g
  have g := lay_blk W16 [r, n0, n1, n2, n3, n4, [], [ty], link, magicU, [], [], n5, n6, [], []] 10 user f rfl hu
  rw [show lay (blkT W16 [r, n0, n1, n2, n3, n4, [], [ty], link, magicU, [], [], n5, n6, [], []]) 265 user = blkT W16 [r, n0, n1, n2, n3, n4, [], [ty], link, magicU, user, [], n5, n6, [], []] from g.1]
  replace f : Fit W16 [r, n0, n1, n2, n3, n4, [], [ty], link, magicU, user, [], n5, n6, [], []] := g.2
  clear g
  have g := lay_blk W16 [r, n0, n1, n2, n3, n4, [], [ty], link, magicU, user, [], n5, n6, [], []] 11 group f rfl hg
  rw [show lay (blkT W16 [r, n0, n1, n2, n3, n4, [], [ty], link, magicU, user, [], n5, n6, [], []]) 297 group = blkT W16 [r, n0, n1, n2, n3, n4, [], [ty], link, magicU, user, group, n5, n6, [], []] from g.1]
  replace f : Fit W16 [r, n0, n1, n2, n3, n4, [], [ty], link, magicU, user, group, n5, n6, [], []] := g.2
  clear g
  have g := lay_blk W16 [r, n0, n1, n2, n3, n4, [], [ty], link, magicU, user, group, n5, n6, [], []] 14 p f rfl hp
  rw [show lay (blkT W16 [r, n0, n1, n2, n3, n4, [], [ty], link, magicU, user, group, n5, n6, [], []]) 345 p = blkT W16 [r, n0, n1, n2, n3, n4, [], [ty], link, magicU, user, group, n5, n6, p, []] from g.1]
theorem chain_ref (r n0 n1 n2 n3 n4 n5 n6 link user group p : List UInt8) (ty : UInt8) (hr : r.length ≤ 100) (h0 : n0.length ≤ 8) (h1 : n1.length ≤ 8) (h2 : n2.length ≤ 8) (h3 : n3.length ≤ 12) (h4 : n4.length ≤ 12) (h5 : n5.length ≤ 8) (h6 : n6.length ≤ 8) (hl : link.length ≤ 100) (hu : user.length ≤ 32) (hg : group.length ≤ 32) (hp : p.length ≤ 155) :
    lay (lay (lay (lay (lay (lay (lay (lay (lay (lay (lay (lay (lay (lay zblk 0 r) 157 link) 257 magicU) 265 user) 297 group) 345 p) 156 [ty]) 100 n0) 108 n1) 116 n2) 124 n3) 136 n4) 329 n5) 337 n6 = blkT W16 [r, n0, n1, n2, n3, n4, [], [ty], link, magicU, user, group, n5, n6, p, []] := by
  have f := fit0
  rw [zblk_T0]
  have g := lay_blk W16 [[], [], [], [], [], [], [], [], [], [], [], [], [], [], [], []] 0 r f rfl hr
  rw [show lay (blkT W16 [[], [], [], [], [], [], [], [], [], [], [], [], [], [], [], []]) 0 r = blkT W16 [r, [], [], [], [], [], [], [], [], [], [], [], [], [], [], []] from g.1]
  replace f : Fit W16 [r, [], [], [], [], [], [], [], [], [], [], [], [], [], [], []] := g.2
  clear g
  have g := lay_blk W16 [r, [], [], [], [], [], [], [], [], [], [], [], [], [], [], []] 8 link f rfl hl
  rw [show lay (blkT W16 [r, [], [], [], [], [], [], [], [], [], [], [], [], [], [], []]) 157 link = blkT W16 [r, [], [], [], [], [], [], [], link, [], [], [], [], [], [], []] from g.1]
  replace f : Fit W16 [r, [], [], [], [], [], [], [], link, [], [], [], [], [], [], []] := g.2
  clear g
  have g := lay_blk W16 [r, [], [], [], [], [], [], [], link, [], [], [], [], [], [], []] 9 magicU f rfl (by decide : 8 ≤ 8)
  rw [show lay (blkT W16 [r, [], [], [], [], [], [], [], link, [], [], [], [], [], [], []]) 257 magicU = blkT W16 [r, [], [], [], [], [], [], [], link, magicU, [], [], [], [], [], []] from g.1]
  replace f : Fit W16 [r, [], [], [], [], [], [], [], link, magicU, [], [], [], [], [], []] := g.2
  clear g
  have g := lay_blk W16 [r, [], [], [], [], [], [], [], link, magicU, [], [], [], [], [], []] 10 user f rfl hu
  rw [show lay (blkT W16 [r, [], [], [], [], [], [], [], link, magicU, [], [], [], [], [], []]) 265 user = blkT W16 [r, [], [], [], [], [], [], [], link, magicU, user, [], [], [], [], []] from g.1]
  replace f : Fit W16 [r, [], [], [], [], [], [], [], link, magicU, user, [], [], [], [], []] := g.2
  clear g
  have g := lay_blk W16 [r, [], [], [], [], [], [], [], link, magicU, user, [], [], [], [], []] 11 group f rfl hg
  rw [show lay (blkT W16 [r, [], [], [], [], [], [], [], link, magicU, user, [], [], [], [], []]) 297 group = blkT W16 [r, [], [], [], [], [], [], [], link, magicU, user, group, [], [], [], []] from g.1]
  replace f : Fit W16 [r, [], [], [], [], [], [], [], link, magicU, user, group, [], [], [], []] := g.2
  clear g
  have g := lay_blk W16 [r, [], [], [], [], [], [], [], link, magicU, user, group, [], [], [], []] 14 p f rfl hp
  rw [show lay (blkT W16 [r, [], [], [], [], [], [], [], link, magicU, user, group, [], [], [], []]) 345 p = blkT W16 [r, [], [], [], [], [], [], [], link, magicU, user, group, [], [], p, []] from g.1]
  replace f : Fit W16 [r, [], [], [], [], [], [], [], link, magicU, user, group, [], [], p, []] := g.2
  clear g
  have g := lay_blk W16 [r, [], [], [], [], [], [], [], link, magicU, user, group, [], [], p, []] 7 [ty] f rfl (by decide : 1 ≤ 1)
  rw [show lay (blkT W16 [r, [], [], [], [], [], [], [], link, magicU, user, group, [], [], p, []]) 156 [ty] = blkT W16 [r, [], [], [], [], [], [], [ty], link, magicU, user, group, [], [], p, []] from g.1]
  replace f : Fit W16 [r, [], [], [], [], [], [], [ty], link, magicU, user, group, [], [], p, []] := g.2
  clear g
  have g := lay_blk W16 [r, [], [], [], [], [], [], [ty], link, magicU, user, group, [], [], p, []] 1 n0 f rfl h0
  rw [show lay (blkT W16 [r, [], [], [], [], [], [], [ty], link, magicU, user, group, [], [], p, []]) 100 n0 = blkT W16 [r, n0, [], [], [], [], [], [ty], link, magicU, user, group, [], [], p, []] from g.1]
  replace f : Fit W16 [r, n0, [], [], [], [], [], [ty], link, magicU, user, group, [], [], p, []] := g.2
  clear g
  have g := lay_blk W16 [r, n0, [], [], [], [], [], [ty], link, magicU, user, group, [], [], p, []] 2 n1 f rfl h1
  rw [show lay (blkT W16 [r, n0, [], [], [], [], [], [ty], link, magicU, user, group, [], [], p, []]) 108 n1 = blkT W16 [r, n0, n1, [], [], [], [], [ty], link, magicU, user, group, [], [], p, []] from g.1]
  replace f : Fit W16 [r, n0, n1, [], [], [], [], [ty], link, magicU, user, group, [], [], p, []] := g.2
  clear g
  have g := lay_blk W16 [r, n0, n1, [], [], [], [], [ty], link, magicU, user, group, [], [], p, []] 3 n2 f rfl h2
  rw [show lay (blkT W16 [r, n0, n1, [], [], [], [], [ty], link, magicU, user, group, [], [], p, []]) 116 n2 = blkT W16 [r, n0, n1, n2, [], [], [], [ty], link, magicU, user, group, [], [], p, []] from g.1]
  replace f : Fit W16 [r, n0, n1, n2, [], [], [], [ty], link, magicU, user, group, [], [], p, []] := g.2
  clear g
  have g := lay_blk W16 [r, n0, n1, n2, [], [], [], [ty], link, magicU, user, group, [], [], p, []] 4 n3 f rfl h3
  rw [show lay (blkT W16 [r, n0, n1, n2, [], [], [], [ty], link, magicU, user, group, [], [], p, []]) 124 n3 = blkT W16 [r, n0, n1, n2, n3, [], [], [ty], link, magicU, user, group, [], [], p, []] from g.1]
  replace f : Fit W16 [r, n0, n1, n2, n3, [], [], [ty], link, magicU, user, group, [], [], p, []] := g.2
  clear g
  have g := lay_blk W16 [r, n0, n1, n2, n3, [], [], [ty], link, magicU, user, group, [], [], p, []] 5 n4 f rfl h4
  rw [show lay (blkT W16 [r, n0, n1, n2, n3, [], [], [ty], link, magicU, user, group, [], [], p, []]) 136 n4 = blkT W16 [r, n0, n1, n2, n3, n4, [], [ty], link, magicU, user, group, [], [], p, []] from g.1]
  replace f : Fit W16 [r, n0, n1, n2, n3, n4, [], [ty], link, magicU, user, group, [], [], p, []] := g.2
  clear g
  have g := lay_blk W16 [r, n0, n1, n2, n3, n4, [], [ty], link, magicU, user, group, [], [], p, []] 12 n5 f rfl h5
  rw [show lay (blkT W16 [r, n0, n1, n2, n3, n4, [], [ty], link, magicU, user, group, [], [], p, []]) 329 n5 = blkT W16 [r, n0, n1, n2, n3, n4, [], [ty], link, magicU, user, group, n5, [], p, []] from g.1]
  replace f : Fit W16 [r, n0, n1, n2, n3, n4, [], [ty], link, magicU, user, group, n5, [], p, []] := g.2
  clear g
  have g := lay_blk W16 [r, n0, n1, n2, n3, n4, [], [ty], link, magicU, user, group, n5, [], p, []] 13 n6 f rfl h6
  rw [show lay (blkT W16 [r, n0, n1, n2, n3, n4, [], [ty], link, magicU, user, group, n5, [], p, []]) 337 n6 = blkT W16 [r, n0, n1, n2, n3, n4, [], [ty], link, magicU, user, group, n5, n6, p, []] from g.1]
/-- can the header be written? -/
def goodH (h : Hd) : Bool := decide ((Plain.split h.name).2.2 = 0 ∧ h.link.length ≤ 100 ∧ h.user.length ≤ 32 ∧ h.group.length ≤ 32 ∧ (0 : UInt8) ∉ h.link ∧ (0 : UInt8) ∉ h.user ∧ (0 : UInt8) ∉ h.group ∧ h.ty ≠ 0) &&
  decide (0 ≤ h.mode ∧ 0 ≤ h.size ∧ 0 ≤ h.major ∧ 0 ≤ h.minor ∧ 0 ≤ h.uid ∧ h.uid ≤ 2147483647 ∧ 0 ≤ h.gid ∧ h.gid ≤ 2147483647 ∧ -1099511627776 ≤ h.mtime ∧ h.mtime ≤ 1099511627776) &&
  decide ((Plain.put h.mode 8).2 = 0 ∧ (Plain.put h.uid 8).2 = 0 ∧ (Plain.put h.gid 8).2 = 0 ∧ (Plain.put h.size 12).2 = 0 ∧ (Plain.put h.mtime 12).2 = 0 ∧ (Plain.put h.major 8).2 = 0 ∧ (Plain.put h.minor 8).2 = 0)
def partsOf (h : Hd) (s : List UInt8) : List (List UInt8) :=
  [(Plain.split h.name).2.1, (Plain.put h.mode 8).1, (Plain.put h.uid 8).1, (Plain.put h.gid 8).1, (Plain.put h.size 12).1, (Plain.put h.mtime 12).1, s, [h.ty], h.link, magicU, h.user, h.group, (Plain.put h.major 8).1, (Plain.put h.minor 8).1, (Plain.split h.name).1, []]
def blkOf (h : Hd) : List UInt8 := blkT W16 (partsOf h [])
/-- the document's answer -/
def Plain.make (h : Hd) : List UInt8 × Int := if goodH h = true then (Plain.seal (blkOf h), 0) else (zblk, 43)
/-- the numbers lie in the range of int -/
structure HdIn (h : Hd) : Prop where
  mode : inI64 h.mode = true
  uid : inI64 h.uid = true
  gid : inI64 h.gid = true
  size : inI64 h.size = true
  mtime : inI64 h.mtime = true
  major : inI64 h.major = true
  minor : inI64 h.minor = true
/-- what is read again -/
def roundH (h : Hd) : Hd :=
  ⟨h.name, h.link, h.mode, h.uid, h.gid, if 49 ≤ h.ty.toNat ∧ h.ty.toNat ≤ 54 then 0 else h.size, h.mtime, if h.ty = 55 then 48 else h.ty, h.user, h.group, if h.ty = 51 ∨ h.ty = 52 then h.major else 0, if h.ty = 51 ∨ h.ty = 52 then h.minor else 0, 2⟩
theorem put_len (v n : Int) (h63 : inI64 v = true) (h : (Plain.put v n).2 = 0) (m : Nat) (hm : n = m) : (Plain.put v n).1.length = m := by
  have := (put_read v n h63 h).2; omega
theorem number_pad (v n : Int) (h63 : inI64 v = true) (h : (Plain.put v n).2 = 0) (m : Nat) (hm : n = m) : Plain.number (pad m (Plain.put v n).1) = (v, 0) := by
  rw [pad_full m _ (put_len v n h63 h m hm)]; exact (put_read v n h63 h).1
theorem split_nonul (l : List UInt8) (h : (Plain.split l).2.2 = 0) : ∀ x ∈ l, x ≠ 0 := by
  unfold Plain.split at h
  by_cases c1 : l = []
  · subst c1; simp
  · rw [if_neg c1] at h
    by_cases c2 : 0 ≤ Lib.indexByte l 0
    · rw [if_pos c2] at h; cases h
    · intro x hx e
      obtain ⟨k, hk, he⟩ := List.getElem_of_mem hx
      have := Plain.indexByte_none l (by omega) k hk
      rw [← e, ← he] at this
      exact this (by simp [List.getD, List.getElem?_eq_getElem hk])
theorem round_read (h : Hd) (hg : goodH h = true) (hi : HdIn h) : Plain.hread (Plain.seal (blkOf h)) = (roundH h, 0) := by
  unfold goodH at hg
  rw [Bool.and_eq_true, Bool.and_eq_true, decide_eq_true_eq, decide_eq_true_eq, decide_eq_true_eq] at hg
  obtain ⟨⟨⟨g1, g2, g3, g4, g5, g6, g7, g8⟩, m1, m2, m3, m4, m5, m6, m7, m8, m9, m10⟩, p1, p2, p3, p4, p5, p6, p7⟩ := hg
  have hsp : ∃ p s, Plain.split h.name = (p, s, 0) ∧ Plain.Well h.name p s := by
    rcases Plain.split_cases h.name with h1 | ⟨h1, _⟩
    · exact h1
    · rw [h1] at g1; cases g1
  obtain ⟨p, s, hps, hw⟩ := hsp
  obtain ⟨w1, w2, w3, w4⟩ := hw
  have hfit : Fit W16 (partsOf h []) := by
    unfold partsOf W16
    rw [hps]
    have l1 := put_len _ 8 hi.mode p1 8 rfl
    have l2 := put_len _ 8 hi.uid p2 8 rfl
    have l3 := put_len _ 8 hi.gid p3 8 rfl
    have l4 := put_len _ 12 hi.size p4 12 rfl
    have l5 := put_len _ 12 hi.mtime p5 12 rfl
    have l6 := put_len _ 8 hi.major p6 8 rfl
    have l7 := put_len _ 8 hi.minor p7 8 rfl
    refine ⟨w2, ?_, ?_, ?_, ?_, ?_, ?_, ?_, g2, ?_, g3, g4, ?_, ?_, w3, ?_, trivial⟩ <;> first | omega | (simp [magicU])
  have hlen : (blkOf h).length = 512 := blkT_len _ _ hfit
  have hseal : Plain.seal (blkOf h) = blkT W16 (partsOf h (octRow (Plain.sum uby (blkOf h)).toNat 6 ++ [0, 32])) ∧ Fit W16 (partsOf h (octRow (Plain.sum uby (blkOf h)).toNat 6 ++ [0, 32])) := by
    rw [seal_lay]
    exact lay_blk W16 (partsOf h []) 6 _ hfit rfl (by rw [sealRow_len]; decide)
  have hsd := seal_sealed (blkOf h) hlen
  have hsl := seal_len (blkOf h) hlen
  obtain ⟨hse, hf⟩ := hseal
  generalize octRow (Plain.sum uby (blkOf h)).toNat 6 ++ [0, 32] = S at *
  generalize Plain.seal (blkOf h) = L at *
  have b0 : fld L 0 100 = pad 100 (Plain.split h.name).2.1 := by rw [hse]; exact fld_blk W16 _ 0 _ hf rfl
  have b1 : fld L 100 108 = pad 8 (Plain.put h.mode 8).1 := by rw [hse]; exact fld_blk W16 _ 1 _ hf rfl
  have b2 : fld L 108 116 = pad 8 (Plain.put h.uid 8).1 := by rw [hse]; exact fld_blk W16 _ 2 _ hf rfl
  have b3 : fld L 116 124 = pad 8 (Plain.put h.gid 8).1 := by rw [hse]; exact fld_blk W16 _ 3 _ hf rfl
  have b4 : fld L 124 136 = pad 12 (Plain.put h.size 12).1 := by rw [hse]; exact fld_blk W16 _ 4 _ hf rfl
  have b5 : fld L 136 148 = pad 12 (Plain.put h.mtime 12).1 := by rw [hse]; exact fld_blk W16 _ 5 _ hf rfl
  have b7 : fld L 156 157 = pad 1 [h.ty] := by rw [hse]; exact fld_blk W16 _ 7 _ hf rfl
  have b8 : fld L 157 257 = pad 100 h.link := by rw [hse]; exact fld_blk W16 _ 8 _ hf rfl
  have b9 : fld L 257 265 = pad 8 magicU := by rw [hse]; exact fld_blk W16 _ 9 _ hf rfl
  have b10 : fld L 265 297 = pad 32 h.user := by rw [hse]; exact fld_blk W16 _ 10 _ hf rfl
  have b11 : fld L 297 329 = pad 32 h.group := by rw [hse]; exact fld_blk W16 _ 11 _ hf rfl
  have b12 : fld L 329 337 = pad 8 (Plain.put h.major 8).1 := by rw [hse]; exact fld_blk W16 _ 12 _ hf rfl
  have b13 : fld L 337 345 = pad 8 (Plain.put h.minor 8).1 := by rw [hse]; exact fld_blk W16 _ 13 _ hf rfl
  have b14 : fld L 345 500 = pad 155 (Plain.split h.name).1 := by rw [hse]; exact fld_blk W16 _ 14 _ hf rfl
  have n1 : numAt L 100 108 = (h.mode, 0) := by unfold numAt; rw [b1]; exact number_pad _ 8 hi.mode p1 8 rfl
  have n2 : numAt L 108 116 = (h.uid, 0) := by unfold numAt; rw [b2]; exact number_pad _ 8 hi.uid p2 8 rfl
  have n3 : numAt L 116 124 = (h.gid, 0) := by unfold numAt; rw [b3]; exact number_pad _ 8 hi.gid p3 8 rfl
  have n4 : numAt L 124 136 = (h.size, 0) := by unfold numAt; rw [b4]; exact number_pad _ 12 hi.size p4 12 rfl
  have n5 : numAt L 136 148 = (h.mtime, 0) := by unfold numAt; rw [b5]; exact number_pad _ 12 hi.mtime p5 12 rfl
  have n6 : numAt L 329 337 = (h.major, 0) := by unfold numAt; rw [b12]; exact number_pad _ 8 hi.major p6 8 rfl
  have n7 : numAt L 337 345 = (h.minor, 0) := by unfold numAt; rw [b13]; exact number_pad _ 8 hi.minor p7 8 rfl
  have ht : L.getD 156 0 = h.ty := by
    have := fld_getD L 156 157 0 (by decide)
    rw [b7] at this
    rw [← this]; rfl
  have hform : formOf L = 2 := by unfold formOf; rw [b9, pad_full 8 magicU rfl, if_pos rfl]
  have hty : tyOf L = if h.ty = 55 then 48 else h.ty := by
    unfold tyOf; rw [ht]
    by_cases e : h.ty = 55
    · rw [if_pos (.inr e), if_pos e]
    · rw [if_neg (by rintro (a | a); exact g8 a; exact e a), if_neg e]
  have hdev : isDev L = decide (h.ty = 51 ∨ h.ty = 52) := by
    unfold isDev; rw [hform, hty]
    by_cases e : h.ty = 55
    · rw [if_pos e, e]; decide
    · rw [if_neg e]; simp
  have hz : ¬ L = zblk := by
    intro e
    rw [e] at ht
    exact g8 (ht.symm.trans (by decide +kernel))
  unfold Plain.hread
  have mi := inI64_iff h.mode; have si := inI64_iff h.size; have ai := inI64_iff h.major; have ii := inI64_iff h.minor
  have mi := mi.1 hi.mode; have si := si.1 hi.size; have ai := ai.1 hi.major; have ii := ii.1 hi.minor
  rw [if_neg hz, if_neg (by rw [hsd]; decide), if_neg]
  · have hname : nameOf L = h.name := by
      unfold nameOf
      rw [hform, b14, b0, hps]
      have hz := split_nonul h.name g1
      rcases w4 with ⟨e1, e2⟩ | ⟨e1, e2, e3⟩
      · subst e1; subst e2
        rw [text_pad 155 [] (by decide) (by simp), text_pad 100 _ w2 (fun hm => hz _ hm rfl), if_neg (by simp)]
      · rw [text_pad 155 p w3 (fun hm => hz 0 (by rw [← e2]; simp [hm]) rfl), text_pad 100 s w2 (fun hm => hz 0 (by rw [← e2]; simp [hm]) rfl), if_pos ⟨rfl, e1⟩, ← e2]
        simp
    unfold hdOf roundH
    rw [hname, n1, n2, n3, n4, n5, n6, n7, hform, hdev, b8, b10, b11, text_pad 100 _ g2 g5, text_pad 32 _ g3 g6, text_pad 32 _ g4 g7, hty]
    have hsz : (49 ≤ (if h.ty = 55 then (48 : UInt8) else h.ty).toNat ∧ (if h.ty = 55 then (48 : UInt8) else h.ty).toNat ≤ 54) ↔ (49 ≤ h.ty.toNat ∧ h.ty.toNat ≤ 54) := by
      by_cases e : h.ty = 55
      · rw [if_pos e, e]; decide
      · rw [if_neg e]
    simp [hsz]
  · unfold numsOk
    rw [n1, n2, n3, n4, n5, n6, n7]
    simp [numOk]
    omega
end Go.Proofs.YtjchaogfmnabfaaDoor
