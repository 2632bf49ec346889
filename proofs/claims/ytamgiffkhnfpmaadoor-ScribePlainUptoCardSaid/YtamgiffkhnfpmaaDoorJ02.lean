/-
  J02: PutLaw, SumLaw, SealLaw, Rowl, EqArr, Arrs, Block, UseBytes, Text, Split, IndexB, LawSplit, HdrLaw, joined.
-/
import Derived.Test.YtamgiffkhnfpmaaDoorJ01
import Derived.Test.YtamgiffkhnfpmaaDoorProg
import Derived.Test.YtamgiffkhnfpmaaDoorShelf
import Derived.Lib.Bytealg
namespace Go.Proofs.YtamgiffkhnfpmaaDoor
set_option linter.unusedVariables false
set_option linter.unusedSimpArgs false
open Go.ChangeShapes Go.WideShapes Go.ChangeAt Go.RowKit
/-- the top bit set -/
def top1 (c : UInt8) : UInt8 := if c.toNat < 128 then UInt8.ofNat (c.toNat + 128) else c
theorem top1_val (c : UInt8) : (top1 c).toNat = if c.toNat < 128 then c.toNat + 128 else c.toNat := by
  unfold top1
  have := u8_lt c
  split
  · rw [UInt8.toNat_ofNat']; omega
  · rfl
/-- v in binary form -/
def topRow (l : List UInt8) : List UInt8 := l.set 0 (top1 (l.getD 0 0))
/-- does v fit into a field of fewer than nine bytes? -/
def fits256 (v : Int) (n : Nat) : Prop := -64 ≤ v / 256 ^ (n - 1) ∧ v / 256 ^ (n - 1) ≤ 63
instance (v : Int) (n : Nat) : Decidable (fits256 v n) := by unfold fits256; infer_instance
def Plain.putOctal (v : Int) (n : Int) : List UInt8 × Int :=
  if n < 2 ∨ 64 < n then ([], 12) else if v < 0 then ([], 11) else if v.toNat < 8 ^ (n.toNat - 1) then (octRow v.toNat (n.toNat - 1) ++ [0], 0) else ([], 11)
def Plain.put256 (v : Int) (n : Int) : List UInt8 × Int :=
  if n < 2 ∨ 64 < n then ([], 12) else if n < 9 ∧ ¬ fits256 v n.toNat then ([], 11) else (topRow (bin256 v n.toNat), 0)
def Plain.put (v : Int) (n : Int) : List UInt8 × Int :=
  if (Plain.putOctal v n).2 = 0 then Plain.putOctal v n else Plain.put256 v n
def Plain.number (l : List UInt8) : Int × Int := if 0 < l.length ∧ 128 ≤ (l.getD 0 0).toNat then Plain.base256 l else Plain.octal l
theorem octal_row (v n : Nat) (hn : 1 ≤ n) (hv : v < 8 ^ n) (h63 : v ≤ 9223372036854775807) (tail : List UInt8) (ht : tail.all isGap = true) : Plain.octal (octRow v n ++ tail) = ((v : Int), 0) := by
  have hall := octRow_all v n
  obtain ⟨m, rfl⟩ : ∃ m, n = m + 1 := ⟨n - 1, by omega⟩
  have hd : (octRow v (m + 1) ++ tail).dropWhile (· == 32) = octRow v (m + 1) ++ tail := by
    unfold octRow
    rw [placeRow_succ, List.cons_append, List.dropWhile_cons_of_neg]
    have := (isOct_iff _).1 (octDig_oct v m)
    intro h
    rw [beq_iff_eq] at h
    rw [h] at this
    simp at this
  have htl : octTail (octRow v (m + 1) ++ tail) = tail := by
    unfold octTail
    rw [dropWhile_pass _ _ hall]
    cases tail with
    | nil => rfl
    | cons c r =>
      rw [List.all_cons, Bool.and_eq_true] at ht
      have : isOct c = false := by
        cases h : isOct c with
        | false => rfl
        | true => rw [oct_no_gap c h] at ht; cases ht.1
      exact List.dropWhile_cons_of_neg (by rw [this]; exact Bool.false_ne_true)
  have hhd : octHead (octRow v (m + 1) ++ tail) = octRow v (m + 1) := by
    have := oct_split (octRow v (m + 1) ++ tail)
    rw [htl] at this
    exact List.append_cancel_right this
  unfold Plain.octal
  simp only [hd, htl, hhd, ht, if_true, octRow_val, Nat.mod_eq_of_lt hv, h63]
theorem head256 (v : Int) (m : Nat) (h1 : -64 ≤ v / 256 ^ m) (h2 : v / 256 ^ m ≤ 63) : 128 ≤ (top1 (binByte v m)).toNat ∧ binHead (top1 (binByte v m)) = v / 256 ^ m := by
  have hb := binByte_val v m
  have ht := top1_val (binByte v m)
  generalize binByte v m = c at *
  generalize v / 256 ^ m = t at *
  have hc := u8_lt c
  rcases Int.lt_or_le t 0 with h | h
  · have e : t % 256 = t + 256 := by omega
    rw [e] at hb
    rw [if_neg (by omega)] at ht
    refine ⟨by omega, ?_⟩
    unfold binHead; rw [if_pos (by omega)]; omega
  · have e : t % 256 = t := by omega
    rw [e] at hb
    rw [if_pos (by omega)] at ht
    refine ⟨by omega, ?_⟩
    unfold binHead; rw [if_neg (by omega)]; omega
theorem base256_row (v : Int) (n : Nat) (hn : 1 ≤ n) (hf : fits256 v n) (h63 : inI64 v = true) : Plain.base256 (topRow (bin256 v n)) = (v, 0) ∧ 0 < (topRow (bin256 v n)).length ∧ 128 ≤ ((topRow (bin256 v n)).getD 0 0).toNat := by
  obtain ⟨m, rfl⟩ : ∃ m, n = m + 1 := ⟨n - 1, by omega⟩
  obtain ⟨h1, h2⟩ := hf
  rw [Nat.add_sub_cancel] at h1 h2
  obtain ⟨h3, h4⟩ := head256 v m h1 h2
  have e : topRow (bin256 v (m + 1)) = top1 (binByte v m) :: bin256 v m := by
    unfold topRow bin256; rw [placeRow_succ]; rfl
  rw [e]
  refine ⟨?_, by simp, h3⟩
  show (if _ then _ else _) = _
  have hv : binAcc (binHead (top1 (binByte v m))) (bin256 v m) = v := by
    rw [h4, binAcc_pow, bin256_val, bin256_len]
    have := Int.mul_ediv_add_emod v (256 ^ m)
    rw [Int.mul_comm]; exact this
  rw [if_neg (by omega), hv, if_pos h63]
theorem fits_wide (v : Int) (n : Nat) (h : 9 ≤ n) (h63 : inI64 v = true) : fits256 v n := by
  rw [inI64_iff] at h63
  have hp : (256 : Int) ^ 8 ≤ 256 ^ (n - 1) := by
    have h1 : (256 : Nat) ^ 8 ≤ 256 ^ (n - 1) := Nat.pow_le_pow_right (by decide) (by omega)
    have h2 : (((256 : Nat) ^ 8 : Nat) : Int) ≤ ((256 ^ (n - 1) : Nat) : Int) := Int.ofNat_le.2 h1
    rw [Int.natCast_pow, Int.natCast_pow] at h2
    exact h2
  have h8 : (256 : Int) ^ 8 = 18446744073709551616 := by rfl
  rw [h8] at hp
  unfold fits256
  generalize (256 : Int) ^ (n - 1) = p at *
  constructor
  · have : -1 ≤ v / p := by
      rw [Int.le_ediv_iff_mul_le (by omega)]; omega
    omega
  · have : v / p < 1 := by
      rw [Int.ediv_lt_iff_lt_mul (by omega)]; omega
    omega
theorem putOctal_cases (v n : Int) : ((n < 2 ∨ 64 < n) ∧ Plain.putOctal v n = ([], 12)) ∨ (2 ≤ n ∧ n ≤ 64 ∧ (v < 0 ∨ ¬ v.toNat < 8 ^ (n.toNat - 1)) ∧ Plain.putOctal v n = ([], 11)) ∨ (2 ≤ n ∧ n ≤ 64 ∧ 0 ≤ v ∧ v.toNat < 8 ^ (n.toNat - 1) ∧ Plain.putOctal v n = (octRow v.toNat (n.toNat - 1) ++ [0], 0)) := by
  unfold Plain.putOctal
  by_cases h1 : n < 2 ∨ 64 < n
  · exact .inl ⟨h1, if_pos h1⟩
  · rw [if_neg h1]
    by_cases h2 : v < 0
    · exact .inr (.inl ⟨by omega, by omega, .inl h2, if_pos h2⟩)
    · rw [if_neg h2]
      by_cases h3 : v.toNat < 8 ^ (n.toNat - 1)
      · exact .inr (.inr ⟨by omega, by omega, by omega, h3, if_pos h3⟩)
      · exact .inr (.inl ⟨by omega, by omega, .inr h3, if_neg h3⟩)
theorem put256_cases (v n : Int) : ((n < 2 ∨ 64 < n) ∧ Plain.put256 v n = ([], 12)) ∨ (2 ≤ n ∧ n < 9 ∧ ¬ fits256 v n.toNat ∧ Plain.put256 v n = ([], 11)) ∨ (2 ≤ n ∧ n ≤ 64 ∧ (n < 9 → fits256 v n.toNat) ∧ Plain.put256 v n = (topRow (bin256 v n.toNat), 0)) := by
  unfold Plain.put256
  by_cases h1 : n < 2 ∨ 64 < n
  · exact .inl ⟨h1, if_pos h1⟩
  · rw [if_neg h1]
    by_cases h3 : n < 9 ∧ ¬ fits256 v n.toNat
    · exact .inr (.inl ⟨by omega, h3.1, h3.2, if_pos h3⟩)
    · exact .inr (.inr ⟨by omega, by omega, fun h9 => Classical.byContradiction fun hc => h3 ⟨h9, hc⟩, if_neg h3⟩)
theorem put_code (v n : Int) (h : (Plain.put v n).2 ≠ 0) : (Plain.put v n).1 = [] ∧ (n < 9 ∨ 64 < n) := by
  unfold Plain.put at *
  by_cases h0 : (Plain.putOctal v n).2 = 0
  · rw [if_pos h0] at h; exact absurd h0 h
  · rw [if_neg h0] at h ⊢
    rcases put256_cases v n with ⟨h1, e⟩ | ⟨h1, h2, h3, e⟩ | ⟨h1, h2, h3, e⟩
    · rw [e]; exact ⟨rfl, by omega⟩
    · rw [e]; exact ⟨rfl, .inl h2⟩
    · rw [e] at h; exact absurd rfl h
theorem put_read (v n : Int) (h63 : inI64 v = true) (h : (Plain.put v n).2 = 0) : Plain.number (Plain.put v n).1 = (v, 0) ∧ ((Plain.put v n).1.length : Int) = n := by
  have hI := h63
  rw [inI64_iff] at hI
  unfold Plain.put at *
  rcases putOctal_cases v n with ⟨h1, e⟩ | ⟨h1, h2, h3, e⟩ | ⟨h1, h2, h3, h4, e⟩
  · have e2 : Plain.put256 v n = ([], 12) := if_pos h1
    rw [e, if_neg (by decide), e2] at h
    cases h
  · rw [e, if_neg (by decide)] at h ⊢
    rcases put256_cases v n with ⟨g1, f⟩ | ⟨g1, g2, g3, f⟩ | ⟨g1, g2, g3, f⟩
    · omega
    · rw [f] at h; cases h
    · rw [f]
      have hf : fits256 v n.toNat := by
        by_cases h9 : n < 9
        · exact g3 h9
        · exact fits_wide v n.toNat (by omega) h63
      obtain ⟨a, b, c⟩ := base256_row v n.toNat (by omega) hf h63
      refine ⟨?_, by simp only [topRow, List.length_set, bin256_len]; omega⟩
      unfold Plain.number
      rw [if_pos ⟨b, c⟩, a]
  · rw [e, if_pos rfl]
    have hlen : (octRow v.toNat (n.toNat - 1)).length = n.toNat - 1 := placeRow_len _ _
    have hg : (octRow v.toNat (n.toNat - 1) ++ [0]).getD 0 0 = octDig v.toNat (n.toNat - 1 - 1) := by
      have := placeRow_at (octDig v.toNat) (n.toNat - 1) 0 (by omega)
      rw [Nat.sub_zero] at this
      rw [← this]
      unfold octRow at hlen ⊢
      simp [List.getD, List.getElem?_append_left, hlen, show 0 < n.toNat - 1 by omega]
    have hod := (isOct_iff _).1 (octDig_oct v.toNat (n.toNat - 1 - 1))
    refine ⟨?_, by simp only [List.length_append, hlen, List.length_singleton]; omega⟩
    unfold Plain.number
    rw [if_neg (by rw [hg]; omega), octal_row v.toNat (n.toNat - 1) (by omega) h4 (by omega) [0] (by decide)]
    rw [Int.toNat_of_nonneg (by omega)]
end Go.Proofs.YtamgiffkhnfpmaaDoor
namespace Go.Proofs.YtamgiffkhnfpmaaDoor
set_option linter.unusedVariables false
set_option linter.unusedSimpArgs false
open Go.ChangeShapes Go.WideShapes Go.ChangeAt Go.RowKit
/-- a byte with a sign -/
def sby (b : UInt8) : Int := if b.toNat < 128 then (b.toNat : Int) else (b.toNat : Int) - 256
theorem sby_bd (b : UInt8) : -128 ≤ sby b ∧ sby b ≤ 127 := by unfold sby; have := u8_lt b; split <;> omega
/-- the sum of f over the bytes -/
def sumB (f : UInt8 → Int) (l : List UInt8) : Int := l.foldl (fun s b => s + f b) 0
theorem foldl_sumB (f : UInt8 → Int) : ∀ (l : List UInt8) (s : Int), l.foldl (fun s b => s + f b) s = s + sumB f l
  | [], s => by simp [sumB]
  | b :: l, s => by
    have e : sumB f (b :: l) = f b + sumB f l := by
      show (b :: l).foldl (fun s b => s + f b) 0 = _
      rw [List.foldl_cons, foldl_sumB f l (0 + f b)]; omega
    rw [List.foldl_cons, foldl_sumB f l (s + f b), e]
    omega
theorem sumB_nil (f : UInt8 → Int) : sumB f [] = 0 := rfl
theorem sumB_app (f : UInt8 → Int) (a b : List UInt8) : sumB f (a ++ b) = sumB f a + sumB f b := by
  show (a ++ b).foldl (fun s b => s + f b) 0 = _
  rw [List.foldl_append, foldl_sumB]; rfl
theorem sumB_cons (f : UInt8 → Int) (c : UInt8) (l : List UInt8) : sumB f (c :: l) = f c + sumB f l := by
  show (c :: l).foldl (fun s b => s + f b) 0 = _
  rw [List.foldl_cons, foldl_sumB]; omega
theorem sumB_step (f : UInt8 → Int) (l : List UInt8) (k : Nat) (h : k < l.length) : sumB f (l.take (k + 1)) = sumB f (l.take k) + f (l.getD k 0) := by
  have hg : l.getD k 0 = l[k] := by simp [List.getD, List.getElem?_eq_getElem h]
  rw [List.take_succ_eq_append_getElem h, sumB_app, sumB_cons, sumB_nil, hg]; omega
theorem sumB_bd (f : UInt8 → Int) (h : ∀ b, -256 ≤ f b ∧ f b ≤ 255) : ∀ (l : List UInt8), -256 * (l.length : Int) ≤ sumB f l ∧ sumB f l ≤ 255 * (l.length : Int)
  | [] => by rw [sumB_nil]; simp
  | c :: l => by
    have ih := sumB_bd f h l
    have := h c
    rw [sumB_cons, List.length_cons]
    omega
theorem sumB_nonneg (f : UInt8 → Int) (h : ∀ b, 0 ≤ f b) : ∀ (l : List UInt8), 0 ≤ sumB f l
  | [] => by rw [sumB_nil]; simp
  | c :: l => by
    have ih := sumB_nonneg f h l
    have := h c
    rw [sumB_cons]; omega
theorem sumB_rep (f : UInt8 → Int) (c : UInt8) : ∀ n : Nat, sumB f (List.replicate n c) = n * f c
  | 0 => by simp [sumB_nil]
  | n + 1 => by
    rw [List.replicate_succ, sumB_cons, sumB_rep f c n, Int.natCast_succ, Int.add_mul]; omega
def uby (b : UInt8) : Int := (b.toNat : Int)
theorem uby_bd (b : UInt8) : 0 ≤ uby b ∧ uby b ≤ 255 := by unfold uby; have := u8_lt b; omega
/-- the block with k blanks in its checksum's field -/
def blankK (l : List UInt8) (k : Nat) : List UInt8 := l.take 148 ++ List.replicate k 32 ++ l.drop (148 + k)
def blank (l : List UInt8) : List UInt8 := blankK l 8
theorem blankK_zero (l : List UInt8) : blankK l 0 = l := by unfold blankK; rw [List.replicate_zero, List.append_nil, Nat.add_zero, List.take_append_drop]
theorem blankK_len (l : List UInt8) (k : Nat) (h : 148 + k ≤ l.length) : (blankK l k).length = l.length := by
  unfold blankK; rw [List.length_append, List.length_append, List.length_replicate, List.length_take, List.length_drop]; omega
theorem blankK_set (l : List UInt8) (k : Nat) (h : 148 + k < l.length) : (blankK l k).set (148 + k) 32 = blankK l (k + 1) := by
  have hl : (l.take 148 ++ List.replicate k (32 : UInt8)).length = 148 + k := by rw [List.length_append, List.length_replicate, List.length_take]; omega
  unfold blankK
  rw [List.set_append_right _ _ (by omega), hl, Nat.sub_self, List.drop_eq_getElem_cons h, List.set_cons_zero, List.replicate_succ', show 148 + (k + 1) = 148 + k + 1 by omega]
  simp
theorem blank_len (l : List UInt8) (h : l.length = 512) : (blank l).length = 512 := by rw [blank, blankK_len _ _ (by omega), h]
/-- a sum of the block, its field taken for blanks -/
def Plain.sum (f : UInt8 → Int) (l : List UInt8) : Int := sumB f (l.take 148) + 8 * f 32 + sumB f (l.drop 156)
theorem blank_sum (f : UInt8 → Int) (l : List UInt8) : sumB f (blank l) = Plain.sum f l := by
  unfold blank blankK Plain.sum
  rw [sumB_app, sumB_app, sumB_rep]; rfl
/-- the sum as far as i, the field left out -/
def Plain.sumTo (f : UInt8 → Int) (l : List UInt8) (i : Nat) : Int := sumB f (l.take (min i 148)) + 8 * f 32 + sumB f ((l.take i).drop 156)
theorem sumTo_zero (f : UInt8 → Int) (l : List UInt8) : Plain.sumTo f l 0 = 8 * f 32 := by
  unfold Plain.sumTo; rw [Nat.zero_min, List.take_zero, List.drop_nil, sumB_nil]; omega
theorem sumTo_end (f : UInt8 → Int) (l : List UInt8) (h : l.length = 512) : Plain.sumTo f l 512 = Plain.sum f l := by
  unfold Plain.sumTo Plain.sum; rw [show min 512 148 = 148 by rfl, List.take_of_length_le (by omega : l.length ≤ 512)]
theorem sumTo_skip (f : UInt8 → Int) (l : List UInt8) (i : Nat) (h1 : 148 ≤ i) (h2 : i < 156) : Plain.sumTo f l (i + 1) = Plain.sumTo f l i := by
  unfold Plain.sumTo
  rw [show min (i + 1) 148 = 148 by omega, show min i 148 = 148 by omega, List.drop_of_length_le (l := l.take (i + 1)) (by rw [List.length_take]; omega), List.drop_of_length_le (l := l.take i) (by rw [List.length_take]; omega)]
theorem sumTo_step (f : UInt8 → Int) (l : List UInt8) (i : Nat) (h : i < l.length) (h1 : i < 148 ∨ 156 ≤ i) : Plain.sumTo f l (i + 1) = Plain.sumTo f l i + f (l.getD i 0) := by
  unfold Plain.sumTo
  rcases h1 with h1 | h1
  · rw [show min (i + 1) 148 = i + 1 by omega, show min i 148 = i by omega, sumB_step f l i h, List.drop_of_length_le (l := l.take (i + 1)) (by rw [List.length_take]; omega), List.drop_of_length_le (l := l.take i) (by rw [List.length_take]; omega)]
    omega
  · have hg : l.getD i 0 = l[i] := by simp [List.getD, List.getElem?_eq_getElem h]
    rw [show min (i + 1) 148 = 148 by omega, show min i 148 = 148 by omega, List.take_succ_eq_append_getElem h, List.drop_append_of_le_length (by rw [List.length_take]; omega), sumB_app, sumB_cons, sumB_nil, hg]
    omega
theorem sumTo_bd (f : UInt8 → Int) (hf : ∀ b, -256 ≤ f b ∧ f b ≤ 255) (l : List UInt8) (i : Nat) (h : i ≤ 512) : -200000 ≤ Plain.sumTo f l i ∧ Plain.sumTo f l i ≤ 200000 := by
  unfold Plain.sumTo
  have h1 := sumB_bd f hf (l.take (min i 148))
  have h2 := sumB_bd f hf ((l.take i).drop 156)
  have h3 := hf 32
  have l1 : (l.take (min i 148)).length ≤ 148 := by rw [List.length_take]; omega
  have l2 : ((l.take i).drop 156).length ≤ 356 := by rw [List.length_drop, List.length_take]; omega
  omega
theorem sum_bd (f : UInt8 → Int) (hf : ∀ b, -256 ≤ f b ∧ f b ≤ 255) (l : List UInt8) (h : l.length = 512) : -200000 ≤ Plain.sum f l ∧ Plain.sum f l ≤ 200000 := by
  rw [← sumTo_end f l h]; exact sumTo_bd f hf l 512 (Nat.le_refl _)
theorem sumTake_bd (f : UInt8 → Int) (hf : ∀ b, -256 ≤ f b ∧ f b ≤ 255) (l : List UInt8) (k : Nat) (h : k ≤ 512) : -200000 ≤ sumB f (l.take k) ∧ sumB f (l.take k) ≤ 200000 := by
  have h1 := sumB_bd f hf (l.take k)
  have l1 : (l.take k).length ≤ 512 := by rw [List.length_take]; omega
  omega
theorem uby_wide (b : UInt8) : -256 ≤ uby b ∧ uby b ≤ 255 := by have := uby_bd b; omega
theorem sby_wide (b : UInt8) : -256 ≤ sby b ∧ sby b ≤ 255 := by have := sby_bd b; omega
theorem sum_uby_bd (l : List UInt8) (h : l.length = 512) : 256 ≤ Plain.sum uby l ∧ Plain.sum uby l ≤ 130560 := by
  have h1 := sumB_bd uby uby_wide (l.take 148)
  have h2 := sumB_bd uby uby_wide (l.drop 156)
  have h3 := sumB_nonneg uby (fun b => (uby_bd b).1) (l.take 148)
  have h4 := sumB_nonneg uby (fun b => (uby_bd b).1) (l.drop 156)
  have l1 : (l.take 148).length ≤ 148 := by rw [List.length_take]; omega
  have l2 : (l.drop 156).length = 356 := by rw [List.length_drop]; omega
  have h5 : uby 32 = 32 := rfl
  unfold Plain.sum
  rw [h5]
  omega
end Go.Proofs.YtamgiffkhnfpmaaDoor
namespace Go.Proofs.YtamgiffkhnfpmaaDoor
set_option linter.unusedVariables false
set_option linter.unusedSimpArgs false
open Go.ChangeShapes Go.WideShapes Go.ChangeAt Go.RowKit
/-- the checksum's field -/
def sumField (l : List UInt8) : List UInt8 := (l.take 156).drop 148
def Plain.sealed (l : List UInt8) : Bool := decide ((Plain.number (sumField l)).2 = 0 ∧ ((Plain.number (sumField l)).1 = Plain.sum uby l ∨ (Plain.number (sumField l)).1 = Plain.sum sby l))
/-- the block with its checksum -/
def Plain.seal (l : List UInt8) : List UInt8 := l.take 148 ++ (octRow (Plain.sum uby l).toNat 6 ++ [0, 32]) ++ l.drop 156
theorem sealRow_len (n : Nat) : (octRow n 6 ++ [0, 32]).length = 8 := by rw [List.length_append]; unfold octRow; rw [placeRow_len]; rfl
theorem seal_len (l : List UInt8) (h : l.length = 512) : (Plain.seal l).length = 512 := by
  unfold Plain.seal; rw [List.length_append, List.length_append, sealRow_len, List.length_take, List.length_drop]; omega
theorem seal_take (l : List UInt8) (h : l.length = 512) : (Plain.seal l).take 148 = l.take 148 := by
  unfold Plain.seal
  have : (l.take 148).length = 148 := by rw [List.length_take]; omega
  rw [List.append_assoc, List.take_append_of_le_length (by omega), List.take_of_length_le (by omega)]
theorem seal_drop (l : List UInt8) (h : l.length = 512) : (Plain.seal l).drop 156 = l.drop 156 := by
  unfold Plain.seal
  have h1 : (l.take 148 ++ (octRow (Plain.sum uby l).toNat 6 ++ [0, 32])).length = 156 := by rw [List.length_append, sealRow_len, List.length_take]; omega
  have := List.drop_left (l₁ := l.take 148 ++ (octRow (Plain.sum uby l).toNat 6 ++ [0, 32])) (l₂ := l.drop 156)
  rwa [h1] at this
theorem seal_field (l : List UInt8) (h : l.length = 512) : sumField (Plain.seal l) = octRow (Plain.sum uby l).toNat 6 ++ [0, 32] := by
  unfold sumField Plain.seal
  have h0 : (l.take 148).length = 148 := by rw [List.length_take]; omega
  have h1 : (l.take 148 ++ (octRow (Plain.sum uby l).toNat 6 ++ [0, 32])).length = 156 := by rw [List.length_append, sealRow_len, List.length_take]; omega
  have e1 := List.take_left (l₁ := l.take 148 ++ (octRow (Plain.sum uby l).toNat 6 ++ [0, 32])) (l₂ := l.drop 156)
  rw [h1] at e1
  have e2 := List.drop_left (l₁ := l.take 148) (l₂ := octRow (Plain.sum uby l).toNat 6 ++ [0, 32])
  rw [h0] at e2
  rw [e1, e2]
theorem seal_sum (f : UInt8 → Int) (l : List UInt8) (h : l.length = 512) : Plain.sum f (Plain.seal l) = Plain.sum f l := by
  unfold Plain.sum; rw [seal_take l h, seal_drop l h]
theorem number_row (v : Nat) (hv : v < 8 ^ 6) : Plain.number (octRow v 6 ++ [0, 32]) = ((v : Int), 0) := by
  have hg : (octRow v 6 ++ [0, 32]).getD 0 0 = octDig v 5 := by
    unfold octRow; rw [placeRow_succ]; rfl
  have hod := (isOct_iff _).1 (octDig_oct v 5)
  have h8 : (8 : Nat) ^ 6 = 262144 := rfl
  unfold Plain.number
  rw [if_neg (by rw [hg]; omega)]
  exact octal_row v 6 (by omega) hv (by omega) [0, 32] (by decide)
theorem seal_number (l : List UInt8) (h : l.length = 512) : Plain.number (sumField (Plain.seal l)) = (Plain.sum uby l, 0) := by
  have hb := sum_uby_bd l h
  have h8 : (8 : Nat) ^ 6 = 262144 := rfl
  rw [seal_field l h, number_row _ (by omega), Int.toNat_of_nonneg (by omega)]
/-- what is sealed is sealed -/
theorem seal_sealed (l : List UInt8) (h : l.length = 512) : Plain.sealed (Plain.seal l) = true := by
  unfold Plain.sealed
  rw [seal_number l h, decide_eq_true_eq]
  exact ⟨rfl, .inl (seal_sum uby l h).symm⟩
/-- the two sums are one: no byte bears a sign -/
theorem sums_meet (l : List UInt8) (h : sumB uby l = sumB sby l) : ∀ b ∈ l, b.toNat < 128 := by
  have key : ∀ m : List UInt8, sumB sby m ≤ sumB uby m ∧ (sumB sby m = sumB uby m → ∀ b ∈ m, b.toNat < 128) := by
    intro m
    induction m with
    | nil => exact ⟨by rw [sumB_nil, sumB_nil]; omega, fun _ b hb => by cases hb⟩
    | cons c m ih =>
      rw [sumB_cons, sumB_cons]
      have hc := u8_lt c
      have hs : sby c = uby c ∧ c.toNat < 128 ∨ sby c < uby c := by
        unfold sby uby
        by_cases h1 : c.toNat < 128
        · rw [if_pos h1]; exact .inl ⟨rfl, h1⟩
        · rw [if_neg h1]; exact .inr (by omega)
      refine ⟨by rcases hs with hs | hs <;> omega, fun he b hb => ?_⟩
      rcases hs with ⟨e1, e2⟩ | hs
      · rcases List.mem_cons.1 hb with h1 | h1
        · rw [h1]; exact e2
        · exact ih.2 (by omega) b h1
      · omega
  exact (key l).2 h.symm
theorem sums_low (l : List UInt8) (h : Plain.sum uby l = Plain.sum sby l) (p : Nat) (hp : p < l.length) (hf : p < 148 ∨ 156 ≤ p) : (l.getD p 0).toNat < 128 := by
  have hm : sumB uby (l.take 148 ++ l.drop 156) = sumB sby (l.take 148 ++ l.drop 156) := by
    unfold Plain.sum at h
    have e1 : uby 32 = 32 := rfl
    have e2 : sby 32 = 32 := rfl
    rw [e1, e2] at h
    rw [sumB_app, sumB_app]; omega
  have hg : l.getD p 0 = l[p] := by simp [List.getD, List.getElem?_eq_getElem hp]
  rw [hg]
  refine sums_meet _ hm _ ?_
  rw [List.mem_append]
  rcases hf with hf | hf
  · left
    rw [List.mem_take_iff_getElem]
    exact ⟨p, by omega, rfl⟩
  · right
    rw [List.mem_drop_iff_getElem]
    exact ⟨p - 156, by omega, by simp only [show 156 + (p - 156) = p by omega]⟩
theorem sumB_set (f : UInt8 → Int) (l : List UInt8) (p : Nat) (c : UInt8) (hp : p < l.length) : sumB f (l.set p c) = sumB f l - f (l.getD p 0) + f c := by
  have hg : l.getD p 0 = l[p] := by simp [List.getD, List.getElem?_eq_getElem hp]
  have e : l = l.take p ++ l[p] :: l.drop (p + 1) := by rw [← List.drop_eq_getElem_cons hp, List.take_append_drop]
  have e2 : l.set p c = l.take p ++ c :: l.drop (p + 1) := by rw [List.set_eq_take_append_cons_drop, if_pos hp]
  have h1 : sumB f l = sumB f (l.take p) + (f l[p] + sumB f (l.drop (p + 1))) := by
    have := congrArg (sumB f) e
    rw [sumB_app, sumB_cons] at this
    exact this
  rw [e2, sumB_app, sumB_cons, hg, h1]; omega
theorem sum_set (f : UInt8 → Int) (l : List UInt8) (p : Nat) (c : UInt8) (h : l.length = 512) (hp : p < 512) (hf : p < 148 ∨ 156 ≤ p) : Plain.sum f (l.set p c) = Plain.sum f l - f (l.getD p 0) + f c := by
  unfold Plain.sum
  rcases hf with hf | hf
  · rw [List.take_set, List.drop_set_of_lt (by omega), sumB_set f _ p c (by rw [List.length_take]; omega)]
    have : (l.take 148).getD p 0 = l.getD p 0 := by simp [List.getD, List.getElem?_take, hf]
    rw [this]; omega
  · rw [List.drop_set, if_neg (by omega), List.take_set, List.set_eq_of_length_le (by rw [List.length_take]; omega), sumB_set f _ (p - 156) c (by rw [List.length_drop]; omega)]
    have : (l.drop 156).getD (p - 156) 0 = l.getD p 0 := by simp [List.getD, show 156 + (p - 156) = p by omega]
    rw [this]; omega
theorem field_set (l : List UInt8) (p : Nat) (c : UInt8) (hf : p < 148 ∨ 156 ≤ p) : sumField (l.set p c) = sumField l := by
  unfold sumField
  rw [List.take_set]
  rcases hf with hf | hf
  · rw [List.drop_set_of_lt hf]
  · rw [List.set_eq_of_length_le (by rw [List.length_take]; omega)]
/-- one byte turned breaks the seal -/
theorem seal_turned (l : List UInt8) (h : l.length = 512) (hs : Plain.sum uby l = Plain.sum sby l) (p by' : Nat) (hp : p < 512) (hf : p < 148 ∨ 156 ≤ p) (h0 : 0 < by') (hb : by' < 128) (c : UInt8) (hc : c.toNat = ((Plain.seal l).getD p 0).toNat + by') (hc1 : c.toNat < 128) :
    Plain.sealed ((Plain.seal l).set p c) = false := by
  have hl := seal_len l h
  unfold Plain.sealed
  rw [field_set _ _ _ hf, seal_number l h, sum_set uby _ p c hl hp hf, sum_set sby _ p c hl hp hf, seal_sum uby l h, seal_sum sby l h, decide_eq_false_iff_not]
  rintro ⟨_, h1⟩
  generalize (Plain.seal l).getD p 0 = x at *
  have e1 : uby c = uby x + by' := by unfold uby; omega
  have e2 : sby c = sby x + by' := by unfold sby; rw [if_pos hc1, if_pos (by omega)]; omega
  rcases h1 with h1 | h1
  · simp only at h1; omega
  · simp only at h1; omega
end Go.Proofs.YtamgiffkhnfpmaaDoor
namespace Go.Proofs.YtamgiffkhnfpmaaDoor
set_option linter.unusedVariables false
set_option linter.unusedSimpArgs false
open Go.ChangeShapes Go.WideShapes Go.ChangeAt Go.RowKit
section
variable {P : Program} {ops : Array Oper} {rest : List Oper} {o : Oper} {a : Act} {w : World} {Q : Exit → Act → World → Prop}
theorem wpList_unit (hg : o.guard = none) (w' : World) (h : (execOp a.eval o).run P w = .ok .skip w')
    (hk : wpList P ops Q rest (a.put o.dst undef) w') : wpList P ops Q (o :: rest) a w :=
  wpList_plain hg fun K hK => by unfold Oper.wp; rw [h]; exact hK _ _ hk
/-- an aggregate stored over a whole row -/
theorem wpList_store_row (hgd : o.guard = none) (ty : TypeId) (x y : Operand) (ho : o.op = .store ty x y) (g : Nat) (hx : a.eval x = .pointer (some ⟨g, 0, none⟩)) (cs : Array Value) (hy : a.eval y = .agg cs)
    (old : Array Value) (t : TypeId) (hh : w.heap[g]? = some (.cells old t (0, 0))) (hsz : old.size = cs.size) (hi : (P.info? ty).map (·.size) = some cs.size) (h1 : ∀ u ∈ cs.toList, u.oneCell' = true)
    (h : wpList P ops Q rest (a.put o.dst undef) (w.setRow g cs)) : wpList P ops Q (o :: rest) a w := by
  refine wpList_unit hgd (w.setRow g cs) ?_ h
  obtain ⟨i, hi', hs'⟩ := Option.map_eq_some_iff.1 hi
  have hr := run_storeCells_at (P := P) g 0 t cs.toList 0 old w hh (by simp [hsz]) h1
  have e : (old.toList.take (0 + 0) ++ cs.toList ++ old.toList.drop (0 + 0 + cs.toList.length)).toArray = cs := by
    simp [List.drop_of_length_le, hsz]
  rw [e] at hr
  simp [execOp, ho, hx, hy, Instr.storeAt, Instr.sureAddr, storeVar, sizeOf, typeInfo, hi', hs', Value.cells, hr, Result.andThen]
/-- a variable of a type whose zero is known by name -/
theorem wpList_alloc_z (hgd : o.guard = none) (t : TypeId) (ho : o.op = .alloc t) (z : Array Value) (hz : (P.info? t).bind (·.zero) = some (.agg z))
    (h : wpList P ops Q rest (a.put o.dst (.pointer (some ⟨w.heap.size, 0, none⟩))) (w.alloc (.cells z t))) : wpList P ops Q (o :: rest) a w := by
  refine wpList_value hgd _ _ ?_ h
  obtain ⟨i, hi, h0⟩ := Option.bind_eq_some_iff.1 hz
  simp [execOp, ho, Instr.alloc, zeroValue, typeInfo, hi, h0, newVar, newRow, Value.cells, Result.andThen]
/-- an aggregate without given parts: the zero -/
theorem wpList_build_z (hgd : o.guard = none) (t : TypeId) (ho : o.op = .build t #[]) (z : Array Value) (hz : ∀ w, (Instr.build t #[]).run P w = .ok (.agg z) w)
    (h : wpList P ops Q rest (a.put o.dst (.agg z)) w) : wpList P ops Q (o :: rest) a w := by
  refine wpList_value hgd _ _ ?_ h
  simp [execOp, ho, hz, Result.andThen]
/-- an aggregate boxed: a parameter -/
theorem wpList_box_agg (hgd : o.guard = none) (t : TypeId) (x : Operand) (ho : o.op = .box t x) (cs : Array Value) (hx : a.eval x = .agg cs)
    (h : wpList P ops Q rest (a.put o.dst (.pointer (some ⟨w.heap.size, 0, none⟩))) (w.alloc (.cells cs t))) : wpList P ops Q (o :: rest) a w := by
  refine wpList_value hgd _ _ ?_ h
  simp [execOp, ho, hx, Instr.box, newVar, newRow, Value.cells, Result.andThen]
theorem setRow_alloc (w : World) (z cs : Array Value) (t : TypeId) : (w.alloc (.cells z t)).setRow w.heap.size cs = w.alloc (.cells cs t) := by
  unfold World.setRow World.alloc
  congr 1
  apply Array.ext_getElem?
  intro k
  simp only [Array.getElem?_modify, Array.getElem?_push]
  by_cases hk : w.heap.size = k
  · subst hk; simp
  · have hk2 : ¬ k = w.heap.size := fun h => hk h.symm
    simp [hk, hk2]
/-- an aggregate stored over the whole of the block that was made last -/
theorem wpList_store_new (hgd : o.guard = none) (ty : TypeId) (x y : Operand) (ho : o.op = .store ty x y) {w0 : World} {old : Array Value} {t : TypeId} (b : Nat) (hx : a.eval x = .pointer (some ⟨b, 0, none⟩)) (cs : Array Value) (hy : a.eval y = .agg cs)
    (hb : w0.heap.size = b) (hsz : old.size = cs.size) (hi : (P.info? ty).map (·.size) = some cs.size) (h1 : ∀ u ∈ cs.toList, u.oneCell' = true)
    (h : wpList P ops Q rest (a.put o.dst undef) (w0.alloc (.cells cs t))) : wpList P ops Q (o :: rest) a (w0.alloc (.cells old t)) := by
  subst hb
  refine wpList_store_row hgd ty x y ho w0.heap.size hx cs hy old t (heap_alloc_new w0 _) hsz hi h1 ?_
  rw [setRow_alloc]
  exact h
theorem Below.setRow {B : Nat} {a w : World} (h : Below B a w) {g : Nat} (hg : B ≤ g) (cs : Array Value) : Below B a (w.setRow g cs) :=
  h.trans ⟨rfl, rfl, rfl, by simp, fun k hk => setRow_other w g k cs (by omega)⟩
theorem own_keep {w w' : World} {base : Nat} {e : TypeId} {sz : Nat} {v : Value} {n : Nat} {xs : List Value} (h : w.ownsRow base e sz v n xs) (hk : ∀ k, base ≤ k → k < w.heap.size → w'.heap[k]? = w.heap[k]?) : w'.ownsRow base e sz v n xs := by
  obtain ⟨h1, h2⟩ := h
  refine ⟨h1, ?_⟩
  rcases h2 with h2 | ⟨g, cap, cur, hv, hg, hh, r⟩
  · exact Or.inl h2
  · exact Or.inr ⟨g, cap, cur, hv, hg, by rw [hk g hg (Array.getElem?_eq_some_iff.1 hh).1]; exact hh, r⟩
theorem own_base {w : World} {base base' : Nat} {e : TypeId} {sz : Nat} {v : Value} {n : Nat} {xs : List Value} (h : w.ownsRow base e sz v n xs) (hb : base' ≤ base) : w.ownsRow base' e sz v n xs := by
  obtain ⟨h1, h2⟩ := h
  refine ⟨h1, ?_⟩
  rcases h2 with h2 | ⟨g, cap, cur, hv, hg, hh, r⟩
  · exact Or.inl h2
  · exact Or.inr ⟨g, cap, cur, hv, by omega, hh, r⟩
end
end Go.Proofs.YtamgiffkhnfpmaaDoor
namespace Go.Proofs.YtamgiffkhnfpmaaDoor
set_option linter.unusedVariables false
set_option linter.unusedSimpArgs false
open Go.ChangeShapes Go.WideShapes Go.ChangeAt Go.RowKit
section
variable {P : Program} {w : World}
theorem part_u8 {e : TypeId} (he : P.underlying e = some (.int .u8)) (x : List UInt8) (i : Nat) (hi : i < x.length) : (part e (x.map u8v).toArray i).run P w = .ok (.int .u8 ((x.getD i 0).toNat : Int)) w := by
  simp [part, isAgg, run_underlying he, Result.andThen, hi, u8v, List.getD, List.getElem?_eq_getElem hi]
theorem forIn_eq {e : TypeId} (he : P.underlying e = some (.int .u8)) (d n : Nat) (x y : List UInt8) (hx : x.length = n) (hy : y.length = n) : ∀ (m k : Nat), k + m = n →
    (forIn (List.range' k m) ((none, ()) : Option Bool × Unit) (fun i _ => do
          let a ← part e (List.map u8v x).toArray i
          let b ← part e (List.map u8v y).toArray i
          let r ← Op.equalIn (d + 1) e a b
          if r = false then pure (ForInStep.done (some false, ())) else pure (ForInStep.yield (none, ()))) : Sem (Option Bool × Unit)).run P w = .ok (if x.drop k = y.drop k then (none, ()) else (some false, ())) w
  | 0, k, hk => by
    rw [List.drop_of_length_le (by omega), List.drop_of_length_le (by omega)]
    simp
  | m + 1, k, hk => by
    have ih := forIn_eq he d n x y hx hy m (k + 1) (by omega)
    have hkx : k < x.length := by omega
    have hky : k < y.length := by omega
    have ex : x.getD k 0 = x[k] := by simp [List.getD, List.getElem?_eq_getElem hkx]
    have ey : y.getD k 0 = y[k] := by simp [List.getD, List.getElem?_eq_getElem hky]
    rw [List.range'_succ, List.forIn_cons]
    simp only [Sem.run_bind, part_u8 he x k hkx, part_u8 he y k hky, Result.andThen_ok, run_equalIn_int w d e .u8 .u8 _ _ he, ex, ey]
    rw [List.drop_eq_getElem_cons hkx, List.drop_eq_getElem_cons hky]
    by_cases h : x[k] = y[k]
    · have hb : (((x[k]).toNat : Int) == ((y[k]).toNat : Int)) = true := by rw [h]; simp
      simp only [hb, List.cons.injEq, h, true_and]
      simp only [BEq.rfl, Bool.true_eq_false, if_false, Sem.run_pure, Result.andThen_ok]
      exact ih
    · have hb : (((x[k]).toNat : Int) == ((y[k]).toNat : Int)) = false := by rw [beq_eq_false_iff_ne]; intro h2; exact h (UInt8.toNat_inj.1 (by omega))
      simp only [hb, List.cons.injEq, h, false_and, if_false, if_true, Sem.run_pure, Result.andThen_ok]
theorem equalIn_arr (d n : Nat) (t e : TypeId) (x y : List UInt8) (ht : P.underlying t = some (.array n e)) (he : P.underlying e = some (.int .u8)) (hs : (P.info? e).map (·.size) = some 1) (hx : x.length = n) (hy : y.length = n) :
    (Op.equalIn (d + 2) t (.agg (x.map u8v).toArray) (.agg (y.map u8v).toArray)).run P w = .ok (decide (x = y)) w := by
  obtain ⟨i, hi, h1⟩ := Option.map_eq_some_iff.1 hs
  rw [Op.equalIn]
  simp [run_underlying ht, sizeOf, typeInfo, hi, h1, Result.andThen]
  rw [forIn_eq he d n x y hx hy n 0 (by omega)]
  simp only [List.drop_zero]
  by_cases h : x = y
  · simp [h]
  · simp [h]
end
end Go.Proofs.YtamgiffkhnfpmaaDoor
namespace Go.Proofs.YtamgiffkhnfpmaaDoor
set_option linter.unusedVariables false
set_option linter.unusedSimpArgs false
open Go.ChangeShapes Go.WideShapes Go.ChangeAt Go.RowKit
/-- the cells of a row of bytes -/
def rowA (l : List UInt8) : Array Value := (l.map u8v).toArray
theorem rowA_size (l : List UInt8) : (rowA l).size = l.length := by simp [rowA]
theorem rowA_one (l : List UInt8) : ∀ u ∈ (rowA l).toList, u.oneCell' = true := by simpa [rowA] using bytes_oneCell l
theorem rowA_at (l : List UInt8) (k : Nat) (h : k < l.length) : (rowA l)[k]? = some (.int .u8 ((l.getD k 0).toNat : Int)) := by
  simp [rowA, List.getD, List.getElem?_eq_getElem h, u8v]
theorem rowA_set (l : List UInt8) (k : Nat) (b : UInt8) : (rowA l).setIfInBounds k (u8v b) = rowA (l.set k b) := by
  simp [rowA, List.map_set]
/-- a part of a row of bytes -/
theorem row_bs {w : World} {g : Nat} {l : List UInt8} {e : TypeId} {fr : Nat × Nat} (h : w.heap[g]? = some (.cells (rowA l) e fr)) (L M c : Nat) (h1 : L ≤ M) (h2 : M ≤ l.length) (h3 : M - L ≤ c) (h4 : c ≤ maxLen) : Bs w (some ⟨g, L, none⟩) (M - L) c ((l.take M).drop L) := by
  refine ⟨by simp; omega, h3, h4, fun j x hj => ⟨_, rfl, ?_⟩, fun h => by cases h⟩
  rw [Addr.add_lit, cell_of_row _ _ _ _ _ _ h]
  rw [List.map_drop, List.map_take, List.getElem?_drop, List.getElem?_take] at hj
  split at hj
  · simpa [rowA] using hj
  · cases hj
/-- the block behind w's last one holds a row of bytes; nothing below has changed -/
structure RowAt (w : World) (e : TypeId) (l : List UInt8) (wr : World) : Prop where
  bel : Below w.heap.size w wr
  row : wr.heap[w.heap.size]? = some (.cells (rowA l) e (0, 0))
theorem RowAt.new (w : World) (e : TypeId) (l : List UInt8) : RowAt w e l (w.alloc (.cells (rowA l) e)) := ⟨(Below.refl _ _).alloc (Nat.le_refl _) _, heap_alloc_new w _⟩
theorem RowAt.set {w wr : World} {e : TypeId} {l : List UInt8} (h : RowAt w e l wr) (k : Nat) (b : UInt8) : RowAt w e (l.set k b) (wr.setCell ⟨w.heap.size, k, none⟩ (.int .u8 (b.toNat : Int))) := by
  refine ⟨h.bel.setCell (by simp) _, ?_⟩
  rw [heap_setCell_same _ _ _ _ _ _ h.row, show (Value.int .u8 (b.toNat : Int)) = u8v b from rfl, rowA_set]
theorem RowAt.cell {w wr : World} {e : TypeId} {l : List UInt8} (h : RowAt w e l wr) (k : Nat) (hk : k < l.length) : wr.cell? ⟨w.heap.size, k, none⟩ = some (.int .u8 ((l.getD k 0).toNat : Int)) := by
  rw [cell_of_row _ _ _ _ _ _ h.row, rowA_at _ _ hk]
theorem RowAt.froz {w wr : World} {e : TypeId} {l : List UInt8} (h : RowAt w e l wr) (k : Nat) : wr.frozen? ⟨w.heap.size, k, none⟩ = false := frozen_of_row _ _ _ _ _ h.row
theorem RowAt.bs {w wr : World} {e : TypeId} {l : List UInt8} (h : RowAt w e l wr) (hm : l.length ≤ maxLen) : Bs wr (some ⟨w.heap.size, 0, none⟩) l.length l.length l := by
  have := row_bs h.row 0 l.length l.length (Nat.zero_le _) (Nat.le_refl _) (by omega) hm
  rwa [List.take_length, List.drop_zero, Nat.sub_zero] at this
theorem madeCells_u8 (n : Nat) : madeCells (Value.int .u8 0).cells (n * 1) = rowA (List.replicate n 0) := by
  rw [Nat.mul_one]
  apply Array.ext
  · simp [madeCells, rowA]
  · intro i h1 h2
    simp [madeCells, rowA, u8v, Value.cells, Nat.mod_one]
section
variable {P : Program} {ops : Array Oper} {rest : List Oper} {o : Oper} {a : Act} {w : World} {Q : Exit → Act → World → Prop}
/-- x[lo:hi] of an array of bytes in memory; lo lies below its length -/
theorem wpList_slice_row (hgd : o.guard = none) (t : TypeId) (x : Operand) (lo hi : Option Operand) (ho : o.op = .slice t x lo hi none) {e : TypeId} {n : Nat} (ht : P.underlying t = some (.array n e)) (hsz : (P.info? e).map (·.size) = some 1)
    (g : Nat) (hx : a.eval x = .pointer (some ⟨g, 0, none⟩)) (L M : Nat) (k1 k2 : IntKind)
    (hL : match lo with | some p => a.eval p = .int k1 (L : Int) | none => L = 0) (hM : match hi with | some p => a.eval p = .int k2 (M : Int) | none => M = n) (h1 : L ≤ M) (h2 : M ≤ n) (h3 : L < n)
    (h : wpList P ops Q rest (a.put o.dst (.slice (some ⟨g, L, none⟩) (M - L) (n - L))) w) : wpList P ops Q (o :: rest) a w := by
  refine wpList_value hgd _ _ ?_ h
  obtain ⟨i, hi', hs'⟩ := Option.map_eq_some_iff.1 hsz
  have hne : ¬ n = L := by omega
  have e1 : (L : Int) ≤ M := by omega
  have e2 : (M : Int) ≤ n := by omega
  have e3 : (L : Int) ≤ n := by omega
  have f3 : L ≤ n := by omega
  have ha : (Addr.add ⟨g, 0, none⟩ L) = (⟨g, L, none⟩ : Addr) := by rw [Addr.add_lit, Nat.zero_add]
  cases lo <;> cases hi <;> simp only at hL hM
  all_goals first | subst hL | skip
  all_goals first | subst hM | skip
  all_goals simp [execOp, ho, hx, Instr.sliceAt, Instr.sureAddr, Instr.sliceBounds, Instr.sliceBound, run_underlying ht, sizeOf, typeInfo, hi', hs', asIntOf, hne, Result.andThen, *]
/-- make([]byte, n) -/
theorem wpList_make_bytes (hgd : o.guard = none) (t : TypeId) (x y : Operand) (ho : o.op = .makeSlice t x y) {e : TypeId} (ht : P.underlying t = some (.slice e)) (hi : (P.info? e).map (fun i => (i.zero, i.size, i.bytes)) = some (some (.int .u8 0), 1, 1))
    (n : Nat) {k1 k2 : IntKind} (hx : a.eval x = .int k1 (n : Int)) (hy : a.eval y = .int k2 (n : Int)) (hn : n ≤ 16777216)
    (h : wpList P ops Q rest (a.put o.dst (.slice (some ⟨w.heap.size, 0, none⟩) n n)) (w.alloc (.cells (rowA (List.replicate n 0)) e))) : wpList P ops Q (o :: rest) a w := by
  obtain ⟨i, hi, hz0, hz1, hz2⟩ := info_parts hi
  have hr := run_makeSlice (P := P) (w := w) t e i (.int .u8 0) ht hi hz0 k1 k2 (n : Int) (n : Int) (by omega) (by omega) (by rw [hz1]; omega) (by rw [hz2]; omega) (by omega)
  rw [hz1, Int.toNat_natCast, madeCells_u8] at hr
  refine wpList_value hgd _ _ ?_ h
  simp [execOp, ho, hx, hy, hr, Result.andThen]
end
end Go.Proofs.YtamgiffkhnfpmaaDoor
namespace Go.Proofs.YtamgiffkhnfpmaaDoor
set_option linter.unusedVariables false
set_option linter.unusedSimpArgs false
open Go.ChangeShapes Go.WideShapes Go.ChangeAt Go.RowKit
/-- the block of noughts -/
def zblk : List UInt8 := List.replicate 512 0
theorem zblk_len : zblk.length = 512 := by unfold zblk; rw [List.length_replicate]
/-- k bytes of l, noughts behind them -/
def ofK (l : List UInt8) (k : Nat) : List UInt8 := l.take k ++ List.replicate (512 - k) 0
theorem ofK_zero (l : List UInt8) : ofK l 0 = zblk := by unfold ofK zblk; rw [List.take_zero, List.nil_append, Nat.sub_zero]
theorem ofK_len (l : List UInt8) (k : Nat) (h : k ≤ l.length) (h5 : k ≤ 512) : (ofK l k).length = 512 := by unfold ofK; rw [List.length_append, List.length_replicate, List.length_take]; omega
theorem ofK_set (l : List UInt8) (k : Nat) (h : k < l.length) (h5 : k < 512) : (ofK l k).set k (l.getD k 0) = ofK l (k + 1) := by
  have e : 512 - k = (512 - (k + 1)) + 1 := by omega
  have hl : (l.take k).length = k := by simp; omega
  rw [ofK, ofK, e, List.replicate_succ, List.set_append_right _ _ (by omega), hl, Nat.sub_self, List.set_cons_zero, List.take_succ_eq_append_getElem h, List.append_assoc]
  simp [List.getD, List.getElem?_eq_getElem h]
/-- the first bytes of l as a block -/
def ofL (l : List UInt8) : List UInt8 := ofK l (min 512 l.length)
theorem ofL_len (l : List UInt8) : (ofL l).length = 512 := ofK_len l _ (by omega) (by omega)
theorem zeroBlk : (Tryd.prog.info? 45).bind (·.zero) = some (.agg (rowA zblk)) := by kernel_rfl
theorem buildBlk (w : World) : (Instr.build 45 #[]).run Tryd.prog w = .ok (.agg (rowA zblk)) w := by kernel_rfl
theorem sizeBlk (l : List UInt8) (h : l.length = 512) : (Tryd.prog.info? 45).map (·.size) = some (rowA l).size := by rw [rowA_size, h]; kernel_rfl
theorem eqBlk (x y : List UInt8) (hx : x.length = 512) (hy : y.length = 512) (w : World) : (Op.equalIn 10000 45 (.agg (rowA x)) (.agg (rowA y))).run Tryd.prog w = .ok (decide (x = y)) w :=
  equalIn_arr 9998 512 45 5 x y Tryd.underlying45 Tryd.underlying5 (by kernel_rfl) hx hy
theorem eql_blk (x y : List UInt8) (hx : x.length = 512) (hy : y.length = 512) (w : World) : (binOp .eql 45 (.agg (rowA x)) (.agg (rowA y))).run Tryd.prog w = .ok (.bool (decide (x = y))) w := by
  rw [run_eql_struct, eqBlk x y hx hy]; rfl
theorem neq_blk (x y : List UInt8) (hx : x.length = 512) (hy : y.length = 512) (w : World) : (binOp .neq 45 (.agg (rowA x)) (.agg (rowA y))).run Tryd.prog w = .ok (.bool (!decide (x = y))) w := by
  rw [run_neq_struct, eqBlk x y hx hy]; rfl
theorem guardBlk : Tryd.prog.eqGuardType Tryd.prog.depth 45 = false := by kernel_rfl
set_option maxHeartbeats 400000 in
theorem Zero_any (l : List UInt8) (hl : l.length = 512) (w : World) :
    Calls Tryd.prog 24 #[.agg (rowA l)] w fun e w' => e = .returned (.bool (decide (l = zblk))) ∧ Below w.heap.size w w' := by
  have hq := eql_blk l zblk hl zblk_len
  have hm := guardBlk
  generalize decide (l = zblk) = r at *
  have hi := Lib.hid (sizeBlk l hl)
  go_enter Tryd.func24, Tryd.ntmps24
  go_wp2_with (first | (with_reducible refine wpList_box_agg rfl _ _ rfl (rowA l) rfl ?_) | (with_reducible refine wpList_load_row rfl _ _ rfl w.heap.size rfl 45 (rowA l) (0, 0) _ (heap_alloc_new w _) Tryd.underlying45 rfl hi.out ?_) | (with_reducible refine wpList_build_z rfl _ rfl _ buildBlk ?_))
  go_ret
  exact ⟨rfl, (Below.refl _ _).alloc (Nat.le_refl _) _⟩
/-- a loop that fills a block: what holds of the world at its head -/
structure Filling (w : World) (l : List UInt8) (k : Nat) (wr : World) : Prop where
  bel : Below w.heap.size w wr
  res : wr.heap[w.heap.size]? = some (.cells (rowA zblk) 45 (0, 0))
  var : wr.heap[w.heap.size + 1]? = some (.cells (rowA (ofK l k)) 45 (0, 0))
theorem Filling.start (w : World) (l : List UInt8) : Filling w l 0 ((w.alloc (.cells (rowA zblk) 45)).alloc (.cells (rowA zblk) 45)) := by
  refine ⟨((Below.refl _ _).alloc (Nat.le_refl _) _).alloc (by simp) _, heap_alloc2_old _ _ _, ?_⟩
  rw [ofK_zero]; exact heap_alloc2_new _ _ _
theorem Filling.step {w wr : World} {l : List UInt8} {k : Nat} (h : Filling w l k wr) (hk : k < l.length) (h5 : k < 512) :
    Filling w l (k + 1) (wr.setCell ⟨w.heap.size + 1, k, none⟩ (.int .u8 ((l.getD k 0).toNat : Int))) := by
  refine ⟨h.bel.setCell (by simp) _, ?_, ?_⟩
  · rw [heap_setCell_other _ _ _ _ (by simp)]; exact h.res
  · rw [heap_setCell_same _ _ _ _ _ _ h.var, show (Value.int .u8 ((l.getD k 0).toNat : Int)) = u8v (l.getD k 0) from rfl, rowA_set, ofK_set l k hk h5]
theorem Filling.cell {w wr : World} {l : List UInt8} {k : Nat} (h : Filling w l k wr) (hk : k ≤ l.length) (h5 : k < 512) : ∃ v, wr.cell? ⟨w.heap.size + 1, k, none⟩ = some v := by
  rw [cell_of_row _ _ _ _ _ _ h.var]
  exact ⟨_, rowA_at _ _ (by rw [ofK_len l k hk (by omega)]; exact h5)⟩
theorem Filling.froz {w wr : World} {l : List UInt8} {k : Nat} (h : Filling w l k wr) : wr.frozen? ⟨w.heap.size + 1, k, none⟩ = false := frozen_of_row _ _ _ _ _ h.var
set_option maxRecDepth 100000 in
set_option maxHeartbeats 1000000 in
theorem Of4_any (a : Option Addr) (n c : Nat) (l : List UInt8) (w : World) (h : Bs w a n c l) :
    Calls Tryd.prog 36 #[.slice a n c] w fun e w' => e = .returned (.agg (rowA (ofL l))) ∧ Below w.heap.size w w' := by
  have hl := h.len; have hcap := h.cap; have hmax := h.max
  have hend : ofL l = ofK l (min 512 n) := by rw [ofL, hl]
  rw [hend]
  have HL := Lib.hid hl; clear hl hend
  have hz := zeroBlk
  have HZ := Lib.hid hz; clear hz
  have HI := Lib.hid (sizeBlk zblk zblk_len)
  have HO := Lib.hid (rowA_one zblk)
  go_enter Tryd.func36, Tryd.ntmps36
  go_wp2_with (first
    | (with_reducible refine wpList_alloc_z rfl _ rfl (rowA zblk) HZ.out ?_)
    | (with_reducible refine wpList_build_z rfl _ rfl _ buildBlk ?_)
    | ((with_reducible refine wpList_store_new rfl _ _ _ rfl _ rfl (rowA zblk) rfl ?_ rfl HI.out HO.out ?_); · simp))
  go_loopw [4] (fun j wr => ∃ k : Nat, k ≤ min 512 n ∧ j = .int .i64 k ∧ Filling w l k wr) (fun j _ => 512 - (intOf j).toNat)
  case atStart => exact ⟨0, by omega, rfl, Filling.start w l⟩
  case round =>
    obtain ⟨k, hk, rfl, hF⟩ := hrel
    by_cases hlt : k < min 512 n
    · obtain ⟨b, off, rfl, hc⟩ := (Below.bs hF.bel h).at k (by omega)
      have hs := hF.step (by rw [HL.out]; omega) (by omega)
      obtain ⟨v0, hv0⟩ := hF.cell (by rw [HL.out]; omega) (by omega)
      have hfz := hF.froz (k := k)
      generalize ((l.getD k 0).toNat : Int) = g at hc hs
      have HS := Lib.hid hs; clear hs
      have hk5 : (k : Int) < 512 := by omega
      have hkn : (k : Int) < n := by omega
      clear h
      go_wp2
      exact ⟨⟨k + 1, by omega, by go_num, HS.out⟩, by simp [intOf]; omega⟩
    · obtain rfl : k = min 512 n := by omega
      have hlen : (ofK l (min 512 n)).length = 512 := ofK_len l _ (by rw [HL.out]; omega) (by omega)
      have r1 := Lib.hid hF.var
      have r2 := Lib.hid hF.res
      have hI2 := Lib.hid (sizeBlk (ofK l (min 512 n)) hlen)
      have hO2 := Lib.hid (rowA_one (ofK l (min 512 n)))
      have hs2 : Hid ((rowA zblk).size = (rowA (ofK l (min 512 n))).size) := by show _ = _; rw [rowA_size, rowA_size, zblk_len, hlen]
      clear hlen
      generalize hq : ofK l (min 512 n) = q at *
      have HQ := Lib.hid hq; clear hq
      by_cases h5 : 512 ≤ n
      · have e : min 512 n = 512 := by omega
        rw [e]
        go_wp2_with (first
          | (with_reducible refine wpList_load_row rfl 45 _ rfl (w.heap.size + 1) rfl 45 (rowA q) (0, 0) _ r1.out Tryd.underlying45 rfl hI2.out ?_)
          | (with_reducible refine wpList_store_row rfl 45 _ _ rfl w.heap.size rfl (rowA q) rfl (rowA zblk) 45 r2.out hs2.out hI2.out hO2.out ?_))
        refine bodyPost_ret (results_cell_row rfl _ _ w.heap.size 45 (rowA q) (0, 0) _ rfl (setRow_heap _ _ _ _ _ _ r2.out) Tryd.underlying45 rfl hI2.out) rfl ⟨by rw [HQ.out], Below.setRow hF.bel (Nat.le_refl _) _⟩
      · have e : min 512 n = n := by omega
        rw [e]
        have hn5 : (n : Int) < 512 := by omega
        go_wp2_with (first
          | (with_reducible refine wpList_load_row rfl 45 _ rfl (w.heap.size + 1) rfl 45 (rowA q) (0, 0) _ r1.out Tryd.underlying45 rfl hI2.out ?_)
          | (with_reducible refine wpList_store_row rfl 45 _ _ rfl w.heap.size rfl (rowA q) rfl (rowA zblk) 45 r2.out hs2.out hI2.out hO2.out ?_))
        refine bodyPost_ret (results_cell_row rfl _ _ w.heap.size 45 (rowA q) (0, 0) _ rfl (setRow_heap _ _ _ _ _ _ r2.out) Tryd.underlying45 rfl hI2.out) rfl ⟨by rw [HQ.out], Below.setRow hF.bel (Nat.le_refl _) _⟩
end Go.Proofs.YtamgiffkhnfpmaaDoor
namespace Go.Proofs.YtamgiffkhnfpmaaDoor
set_option linter.unusedVariables false
set_option linter.unusedSimpArgs false
open Go.ChangeShapes Go.WideShapes Go.ChangeAt Go.RowKit
theorem same_no {x y : List UInt8} {k : Nat} (h : ((x.getD k 0).toNat : Int) ≠ ((y.getD k 0).toNat : Int)) : decide (x = y) = false := by
  simp only [decide_eq_false_iff_not]; intro e; subst e; exact h rfl
theorem same_step {x y : List UInt8} {k : Nat} (hk : k < x.length) (hl : y.length = x.length) (ih : x.take k = y.take k) (h : ((x.getD k 0).toNat : Int) = ((y.getD k 0).toNat : Int)) : x.take (k + 1) = y.take (k + 1) := by
  have h1 : k < y.length := by omega
  have he : x[k] = y[k] := by
    have : (x.getD k 0) = (y.getD k 0) := UInt8.toNat_inj.1 (by omega)
    simpa [List.getD, List.getElem?_eq_getElem hk, List.getElem?_eq_getElem h1] using this
  rw [List.take_succ_eq_append_getElem hk, List.take_succ_eq_append_getElem h1, ih, he]
set_option maxHeartbeats 400000 in
theorem SameBytes_any (a b : Option Addr) (n m c d : Nat) (x y : List UInt8) (w : World) (ha : Bs w a n c x) (hb : Bs w b m d y) :
    Calls Tryd.prog 14 #[.slice a n c, .slice b m d] w fun e w' => e = .returned (.bool (decide (x = y))) ∧ Below w.heap.size w w' := by
  have hx := ha.len; have hy := hb.len; have c1 := ha.cap; have c2 := hb.cap; have m1 := ha.max; have m2 := hb.max
  by_cases hnm : n = m
  · subst hnm
    have hn : ((n : Int) != n) = false := by simp
    generalize hr : decide (x = y) = r
    have HR := Lib.hid hr; clear hr
    have HX := Lib.hid hx; have HY := Lib.hid hy; clear hx hy
    go_enter Tryd.func14, Tryd.ntmps14
    go_wp2
    go_loopw [5] (fun i wr => ∃ k : Nat, k ≤ n ∧ i = .int .i64 k ∧ Hid (x.take k = y.take k) ∧ Below w.heap.size w wr) (fun i _ => n - (intOf i).toNat)
    case atStart => exact ⟨0, Nat.zero_le _, rfl, (rfl : x.take 0 = y.take 0), Below.refl _ _⟩
    case round =>
      obtain ⟨k, hk, rfl, heq, hbel⟩ := hrel
      by_cases hlt : k < n
      · obtain ⟨b1, o1, rfl, h1⟩ := (Below.bs hbel ha).at k hlt
        obtain ⟨b2, o2, rfl, h2⟩ := (Below.bs hbel hb).at k hlt
        clear ha hb
        generalize hg1 : ((x.getD k 0).toNat : Int) = g1 at h1
        generalize hg2 : ((y.getD k 0).toNat : Int) = g2 at h2
        have HG1 := Lib.hid hg1; have HG2 := Lib.hid hg2; clear hg1 hg2
        by_cases hne : g1 = g2
        · have hz : (g1 != g2) = false := bne_f hne
          have HE := Lib.hid hne; clear hne
          go_wp2
          go_quiet (fail)
          go_wp2
          exact ⟨⟨k + 1, by omega, by go_num, same_step (by have := HX.out; omega) (by have := HX.out; have := HY.out; omega) heq (by rw [HG1.out, HG2.out, HE.out]), Below.drewN hbel _⟩, by simp [intOf]; omega⟩
        · have hz : (g1 != g2) = true := bne_t hne
          have HE := Lib.hid hne; clear hne
          go_wp2
          go_quiet (fail)
          go_wp2
          go_ret
          exact ⟨ret_bool (by rw [← HR.out]; exact (same_no (k := k) (by rw [HG1.out, HG2.out]; exact HE.out)).symm), Below.drewN hbel _⟩
      · obtain rfl : k = n := by omega
        go_wp2
        go_ret
        refine ⟨ret_bool ?_, hbel⟩
        have h1 := HX.out; have h2 := HY.out; have h3 := heq.out
        rw [List.take_of_length_le (by omega), List.take_of_length_le (by omega)] at h3
        rw [← HR.out]; simp [h3]
  · have hne : decide (x = y) = false := by
      simp only [decide_eq_false_iff_not]; intro h; subst h; omega
    rw [hne]; clear hne
    have hn : ((n : Int) != m) = true := by rw [bne_iff_ne]; omega
    go_enter Tryd.func14, Tryd.ntmps14
    go_wp2
    go_ret
    exact ⟨rfl, Below.refl _ _⟩
end Go.Proofs.YtamgiffkhnfpmaaDoor
namespace Go.Proofs.YtamgiffkhnfpmaaDoor
set_option linter.unusedVariables false
set_option linter.unusedSimpArgs false
open Go.ChangeShapes Go.WideShapes Go.ChangeAt Go.RowKit
theorem IndexByte_bs (a : Option Addr) (n c : Nat) (l : List UInt8) (cv : Int) (w : World) (h : Bs w a n c l) :
    Calls Tryd.prog 69 #[.slice a n c, .int .u8 cv] w fun e w' => e = .returned (.int .i64 (Lib.indexByte l cv.toNat.toUInt8)) ∧ w = w' := by
  cases a with
  | none =>
    obtain ⟨rfl, rfl⟩ := h.2.2.2.2 rfl
    have : l = [] := List.eq_nil_of_length_eq_zero h.len
    subst this
    exact (Tryd.bytes_IndexByte_nil cv w).mono fun e w' ⟨he, hw⟩ => ⟨he, hw.symm⟩
  | some x =>
    have hb : Lib.bytesOf (l.map fun b => (b.toNat : Int)) = l := by simp [Lib.bytesOf, Function.comp_def]
    refine (Tryd.bytes_IndexByte_at x n c (l.map fun b => (b.toNat : Int)) cv w (by simpa using h.len) (fun i hi => ?_)).mono fun e w' ⟨he, hw⟩ => ⟨by rw [hb] at he; exact he, hw.symm⟩
    have hl := h.len
    have hil : i < l.length := by omega
    obtain ⟨y, hy, hc⟩ := h.2.2.2.1 i (u8v l[i]) (by simp [List.getElem?_eq_getElem hil])
    cases hy
    rw [hc]
    simp [List.getD, List.getElem?_eq_getElem hil, u8v]
namespace Plain
/-- the bytes up to the first 0 -/
def text (l : List UInt8) : List UInt8 := l.takeWhile (fun b => b != 0)
theorem text_len (l : List UInt8) : (text l).length ≤ l.length := by
  induction l with
  | nil => simp [text]
  | cons b l ih => by_cases h : b = 0 <;> simp_all [text]
theorem text_take (l : List UInt8) : l.take (text l).length = text l := by
  induction l with
  | nil => simp [text]
  | cons b l ih => by_cases h : b = 0 <;> simp_all [text]
theorem text_at (l : List UInt8) (k : Nat) (h : k < (text l).length) : l.getD k 0 ≠ 0 := by
  induction l generalizing k with
  | nil => simp [text] at h
  | cons b l ih =>
    by_cases hb : b = 0
    · simp [text, hb] at h
    · cases k with
      | zero => simpa using hb
      | succ k =>
        simp [text, hb] at h
        simpa using ih k (by simpa [text] using h)
theorem text_end (l : List UInt8) (h : (text l).length < l.length) : l.getD (text l).length 0 = 0 := by
  induction l with
  | nil => simp at h
  | cons b l ih =>
    by_cases hb : b = 0
    · simp [text, hb]
    · simp [text, hb] at h
      have := ih (by simpa [text] using h)
      simpa [text, List.takeWhile_cons, hb] using this
theorem text_cons (b : UInt8) (l : List UInt8) (hb : ¬ b = 0) : text (b :: l) = b :: text l := by simp [text, hb]
theorem text_zero (b : UInt8) (l : List UInt8) (hb : b = 0) : text (b :: l) = [] := by simp [text, hb]
theorem indexByte_text (l : List UInt8) : Lib.indexByte l 0 = if (text l).length = l.length then -1 else ((text l).length : Int) := by
  induction l with
  | nil => simp [text, Lib.indexByte]
  | cons b l ih =>
    by_cases hb : b = 0
    · rw [text_zero b l hb]
      simp [hb, Lib.indexByte]
    · have h1 : (b == 0) = false := by simpa using hb
      rw [text_cons b l hb]
      simp only [Lib.indexByte, h1, ih, Bool.false_eq_true, if_false, List.length_cons, Nat.add_right_cancel_iff]
      by_cases h3 : (text l).length = l.length
      · rw [if_pos h3, if_pos h3]; rfl
      · have h4 : (((text l).length : Int) == -1) = false := by rw [beq_eq_false_iff_ne]; omega
        rw [if_neg h3, if_neg h3, h4]
        simp
end Plain
set_option maxHeartbeats 400000 in
theorem Text_any (a : Option Addr) (n c : Nat) (l : List UInt8) (w : World) (h : Bs w a n c l) :
    Calls Tryd.prog 42 #[.slice a n c] w fun e w' => e = .returned (.string ⟨(Plain.text l).toArray⟩) ∧ w = w' := by
  have hl := h.len
  have hi := Plain.indexByte_text l
  have h1 := Plain.text_len l
  have h2 := Plain.text_take l
  have h0 : (0 : Int).toNat.toUInt8 = 0 := rfl
  generalize Plain.text l = t at *
  by_cases hz : t.length = l.length
  · rw [if_pos hz] at hi
    have ht : t = l := by rw [← h2, hz, List.take_length]
    clear h1 h2 hz
    subst ht
    have HI := Lib.hid hi; have HL := Lib.hid hl; have H0 := Lib.hid h0; clear hi hl h0
    go_enter Tryd.func42, Tryd.ntmps42
    go_wp2_with (first | (go_at_call 69; refine (IndexByte_bs _ _ _ _ _ _ h).mono ?_; rintro e w1 ⟨rfl, rfl⟩; rw [H0.out, HI.out]) | (with_reducible refine wpList_str_of_bs rfl _ _ _ rfl Tryd.underlying23 Tryd.underlying5 Tryd.underlying9 rfl h ?_))
    go_ret
    exact ⟨rfl, rfl⟩
  · rw [if_neg hz] at hi
    have HI := Lib.hid hi; have HL := Lib.hid hl; have H0 := Lib.hid h0; have H2 := Lib.hid h2; clear hi hl h0 h2
    have hm : t.length ≤ n := by rw [← HL.out]; exact h1
    go_enter Tryd.func42, Tryd.ntmps42
    go_wp2_with (first | (go_at_call 69; refine (IndexByte_bs _ _ _ _ _ _ h).mono ?_; rintro e w1 ⟨rfl, rfl⟩; rw [H0.out, HI.out]) | (with_reducible refine wpList_slice_bs rfl _ _ _ _ rfl Tryd.underlying23 (by kernel_rfl) rfl h 0 t.length .i64 .i64 rfl rfl (by omega) hm ?_; intro a2 hb2) | (with_reducible refine wpList_str_of_bs rfl _ _ _ rfl Tryd.underlying23 Tryd.underlying5 Tryd.underlying9 rfl hb2 ?_))
    go_ret
    refine ⟨ret_str ?_, rfl⟩
    rw [H2.out]
end Go.Proofs.YtamgiffkhnfpmaaDoor
namespace Go.Proofs.YtamgiffkhnfpmaaDoor
set_option linter.unusedVariables false
set_option linter.unusedSimpArgs false
open Go.ChangeShapes Go.WideShapes Go.ChangeAt Go.RowKit
namespace Plain
/-- the place of the last stroke among the first bytes of a name -/
def stroke (l : List UInt8) : Int := Lib.lastIndexByte ⟨(l.take (min 156 (l.length - 1))).toArray⟩ 47
def split (l : List UInt8) : List UInt8 × List UInt8 × Int :=
  if l = [] then ([], [], 43)
  else if 0 ≤ Lib.indexByte l 0 then ([], [], 43)
  else if l.length ≤ 100 then ([], l, 0)
  else if stroke l < 1 then ([], [], 43)
  else if 100 < (l.length : Int) - stroke l - 1 then ([], [], 43)
  else (l.take (stroke l).toNat, l.drop ((stroke l).toNat + 1), 0)
theorem stroke_spec (l : List UInt8) : (stroke l = -1 ∧ ∀ j, j < min 156 (l.length - 1) → l.getD j 0 ≠ 47) ∨
    (∃ i : Nat, i < min 156 (l.length - 1) ∧ stroke l = i ∧ l.getD i 0 = 47 ∧ ∀ j, i < j → j < min 156 (l.length - 1) → l.getD j 0 ≠ 47) := by
  have hsz : ((⟨(l.take (min 156 (l.length - 1))).toArray⟩ : ByteArray)).size = min 156 (l.length - 1) := by simp [ByteArray.size]
  have hat : ∀ j, j < min 156 (l.length - 1) → ((l.take (min 156 (l.length - 1))).toArray[j]!) = l.getD j 0 := by
    intro j hj
    have hjl : j < l.length := by omega
    have h1 : j < (l.take (min 156 (l.length - 1))).length := by simp; omega
    simp [List.getD, List.getElem?_eq_getElem hjl, List.getElem?_take, hj]
  have h := Lib.lastIdx_spec ⟨(l.take (min 156 (l.length - 1))).toArray⟩ 47 (min 156 (l.length - 1))
  have e : Lib.lastIdx ⟨(l.take (min 156 (l.length - 1))).toArray⟩ 47 (min 156 (l.length - 1)) = stroke l := by rw [stroke, Lib.lastIndexByte, hsz]
  rw [e] at h
  have h47 : ∀ b : UInt8, ((b.toNat : Int) = 47) ↔ b = 47 := fun b => ⟨fun hb => UInt8.toNat_inj.1 (by simpa using (by omega : b.toNat = 47)), fun hb => by subst hb; rfl⟩
  rcases h with ⟨h1, h2⟩ | ⟨i, hi, h1, h2, h3⟩
  · exact .inl ⟨h1, fun j hj hc => h2 j hj (by rw [hat j hj]; exact (h47 _).2 hc)⟩
  · exact .inr ⟨i, hi, h1, (h47 _).1 (by rw [← hat i hi]; exact h2), fun j hj hj2 hc => h3 j hj hj2 (by rw [hat j hj2]; exact (h47 _).2 hc)⟩
end Plain
def splitV (r : List UInt8 × List UInt8 × Int) : Value := .tuple #[.string ⟨r.1.toArray⟩, .string ⟨r.2.1.toArray⟩, .int .i64 r.2.2]
set_option maxHeartbeats 800000 in
theorem Split_any (l : List UInt8) (w : World) (hl : l.length ≤ 140737488351232) :
    Calls Tryd.prog 37 #[.string ⟨l.toArray⟩] w fun e w' => e = .returned (splitV (Plain.split l)) ∧ Below w.heap.size w w' := by
  have h0 : (0 : Int).toNat.toUInt8 = 0 := rfl
  have H0 := Lib.hid h0; clear h0
  unfold Plain.split
  by_cases c1 : l = []
  · subst c1
    rw [if_pos rfl]
    go_enter Tryd.func37, Tryd.ntmps37
    go_wp2
    go_ret3
    exact ⟨rfl, Below.refl _ _⟩
  · rw [if_neg c1]
    have c1b : l.isEmpty = false := by simpa using c1
    by_cases c2 : 0 ≤ Lib.indexByte l 0
    · rw [if_pos c2]
      generalize hi : Lib.indexByte l 0 = i at c2
      have HI := Lib.hid hi; clear hi
      go_enter Tryd.func37, Tryd.ntmps37
      go_wp2_with (go_at_call 66; refine (Tryd.strings_IndexByte _ _ _).mono ?_; rintro e w1 ⟨rfl, hw⟩; obtain rfl := hw.symm; rw [H0.out, HI.out])
      go_ret3
      exact ⟨rfl, Below.refl _ _⟩
    · rw [if_neg c2]
      generalize hi : Lib.indexByte l 0 = i at c2
      have HI := Lib.hid hi; clear hi
      have c2' : i < 0 := by omega
      clear c2
      by_cases c3 : l.length ≤ 100
      · rw [if_pos c3]
        go_enter Tryd.func37, Tryd.ntmps37
        go_wp2_with (go_at_call 66; refine (Tryd.strings_IndexByte _ _ _).mono ?_; rintro e w1 ⟨rfl, hw⟩; obtain rfl := hw.symm; rw [H0.out, HI.out])
        go_ret3
        exact ⟨rfl, Below.refl _ _⟩
      · rw [if_neg c3]
        have hst := Plain.stroke_spec l
        have hs1 : Plain.stroke l < 156 ∧ Plain.stroke l < l.length - 1 ∧ -1 ≤ Plain.stroke l := by rcases hst with ⟨h, _⟩ | ⟨i, hi, h, _⟩ <;> omega
        clear hst
        have HS : Hid (Lib.lastIndexByte ⟨(l.take (min 156 (l.length - 1))).toArray⟩ 47 = Plain.stroke l) := rfl
        generalize Plain.stroke l = s at *
        have HE : Hid (((⟨l.toArray⟩ : ByteArray).extract 0 (min 156 ((l.length : Int) - 1)).toNat) = ⟨(l.take (min 156 (l.length - 1))).toArray⟩) := by
          show _ = _
          rw [ByteArray.extract_mk, show (min 156 ((l.length : Int) - 1)).toNat = min 156 (l.length - 1) by omega]; simp
        have hz : ((⟨(l.take (min 156 (l.length - 1))).toArray⟩ : ByteArray)).size < 4611686018427387904 := by simp [ByteArray.size]; omega
        by_cases c4 : s < 1
        · rw [if_pos c4]
          go_enter Tryd.func37, Tryd.ntmps37
          go_wp2_with (go_at_call 66; refine (Tryd.strings_IndexByte _ _ _).mono ?_; rintro e w1 ⟨rfl, hw⟩; obtain rfl := hw.symm; rw [H0.out, HI.out])
          rw [HE.out]
          refine (Tryd.strings_LastIndexByte _ _ hz _).mono ?_; rintro e w1 ⟨rfl, hw⟩; obtain rfl := hw.symm; rw [HS.out]
          generalize (⟨(l.take (min 156 (l.length - 1))).toArray⟩ : ByteArray) = hd at *
          go_wp2
          go_ret3
          exact ⟨rfl, Below.refl _ _⟩
        · rw [if_neg c4]
          obtain ⟨k, rfl⟩ := Int.eq_ofNat_of_zero_le (show 0 ≤ s by omega)
          by_cases c5 : 100 < (l.length : Int) - k - 1
          · rw [if_pos c5]
            go_enter Tryd.func37, Tryd.ntmps37
            go_wp2_with (go_at_call 66; refine (Tryd.strings_IndexByte _ _ _).mono ?_; rintro e w1 ⟨rfl, hw⟩; obtain rfl := hw.symm; rw [H0.out, HI.out])
            rw [HE.out]
            refine (Tryd.strings_LastIndexByte _ _ hz _).mono ?_; rintro e w1 ⟨rfl, hw⟩; obtain rfl := hw.symm; rw [HS.out]
            generalize (⟨(l.take (min 156 (l.length - 1))).toArray⟩ : ByteArray) = hd at *
            go_wp2
            go_ret3
            exact ⟨rfl, Below.refl _ _⟩
          · rw [if_neg c5]
            go_enter Tryd.func37, Tryd.ntmps37
            go_wp2_with (go_at_call 66; refine (Tryd.strings_IndexByte _ _ _).mono ?_; rintro e w1 ⟨rfl, hw⟩; obtain rfl := hw.symm; rw [H0.out, HI.out])
            rw [HE.out]
            refine (Tryd.strings_LastIndexByte _ _ hz _).mono ?_; rintro e w1 ⟨rfl, hw⟩; obtain rfl := hw.symm; rw [HS.out]
            generalize (⟨(l.take (min 156 (l.length - 1))).toArray⟩ : ByteArray) = hd at *
            go_wp2
            go_quiet (fail)
            go_wp2
            go_ret3
            refine ⟨?_, Below.drewN (Below.refl _ _) _⟩
            have e1 : ((⟨l.toArray⟩ : ByteArray).extract 0 k) = ⟨(l.take k).toArray⟩ := by rw [ByteArray.extract_mk]; simp
            have e2 : ((⟨l.toArray⟩ : ByteArray).extract (k + 1) l.length) = ⟨(l.drop (k + 1)).toArray⟩ := by
              rw [ByteArray.extract_mk, List.take_of_length_le (by simp)]
            simp [splitV, e1, e2]
end Go.Proofs.YtamgiffkhnfpmaaDoor
namespace Go.Proofs.YtamgiffkhnfpmaaDoor
set_option linter.unusedVariables false
set_option linter.unusedSimpArgs false
namespace Plain
theorem indexByte_none (l : List UInt8) (h : Lib.indexByte l 0 < 0) : ∀ j, j < l.length → l.getD j 0 ≠ 0 := by
  induction l with
  | nil => simp
  | cons b l ih =>
    intro j hj
    unfold Lib.indexByte at h
    split at h
    · omega
    · rename_i hb
      cases j with
      | zero => simpa using hb
      | succ j =>
        have hl : Lib.indexByte l 0 < 0 := by
          split at h
          · rename_i h1; have := eq_of_beq h1; omega
          · omega
        simpa using ih hl j (by simpa using hj)
theorem indexByte_some (l : List UInt8) (h : 0 ≤ Lib.indexByte l 0) : ∃ j, j < l.length ∧ l.getD j 0 = 0 := by
  induction l with
  | nil => simp [Lib.indexByte] at h
  | cons b l ih =>
    unfold Lib.indexByte at h
    split at h
    · rename_i hb; exact ⟨0, by simp, by simpa using hb⟩
    · split at h
      · omega
      · rename_i h1
        have hge : 0 ≤ Lib.indexByte l 0 := by
          have hm : ∀ m : List UInt8, -1 ≤ Lib.indexByte m 0 := by
            intro m
            induction m with
            | nil => simp [Lib.indexByte]
            | cons c m ihm => unfold Lib.indexByte; split; omega; split <;> omega
          have := hm l
          have : Lib.indexByte l 0 ≠ -1 := by simpa using h1
          omega
        obtain ⟨j, hj, hz⟩ := ih hge
        exact ⟨j + 1, by simpa using hj, by simpa using hz⟩
end Plain
end Go.Proofs.YtamgiffkhnfpmaaDoor
namespace Go.Proofs.YtamgiffkhnfpmaaDoor
set_option linter.unusedVariables false
set_option linter.unusedSimpArgs false
open Go.ChangeShapes Go.WideShapes Go.ChangeAt Go.RowKit
namespace Plain
/-- a name that is split: its parts -/
def Well (l p s : List UInt8) : Prop := 0 < s.length ∧ s.length ≤ 100 ∧ p.length ≤ 155 ∧ ((p = [] ∧ s = l) ∨ (p ≠ [] ∧ p ++ [47] ++ s = l ∧ 100 < l.length))
/-- a name that is refused: why -/
def Ill (l : List UInt8) : Prop := (∃ j, j < l.length ∧ l.getD j 0 = 0) ∨
  ((∀ i, 1 ≤ i → i + 1 < l.length → l.getD i 0 = 47 → i ≤ 155 → l.length - 1 - i ≤ 100 → False) ∧ (l.length = 0 ∨ 100 < l.length))
theorem split_cases (l : List UInt8) : (∃ p s, split l = (p, s, 0) ∧ Well l p s) ∨ (split l = ([], [], 43) ∧ Ill l) := by
  unfold split
  by_cases c1 : l = []
  · rw [if_pos c1]; subst c1
    exact .inr ⟨rfl, .inr ⟨fun i _ h => by simp at h, .inl rfl⟩⟩
  · rw [if_neg c1]
    have hpos : 0 < l.length := List.length_pos_iff.2 c1
    by_cases c2 : 0 ≤ Lib.indexByte l 0
    · rw [if_pos c2]
      exact .inr ⟨rfl, .inl (indexByte_some l c2)⟩
    · rw [if_neg c2]
      by_cases c3 : l.length ≤ 100
      · rw [if_pos c3]
        exact .inl ⟨[], l, rfl, hpos, c3, by simp, .inl ⟨rfl, rfl⟩⟩
      · rw [if_neg c3]
        have hst := stroke_spec l
        by_cases c4 : stroke l < 1
        · rw [if_pos c4]
          refine .inr ⟨rfl, .inr ⟨fun i h1 h2 h3 h4 h5 => ?_, .inr (by omega)⟩⟩
          rcases hst with ⟨_, hn⟩ | ⟨k, hk, hs, _, hn⟩
          · exact hn i (by omega) h3
          · exact hn i (by omega) (by omega) h3
        · rw [if_neg c4]
          by_cases c5 : 100 < (l.length : Int) - stroke l - 1
          · rw [if_pos c5]
            refine .inr ⟨rfl, .inr ⟨fun i h1 h2 h3 h4 h5 => ?_, .inr (by omega)⟩⟩
            rcases hst with ⟨hs, hn⟩ | ⟨k, hk, hs, _, hn⟩
            · omega
            · exact hn i (by omega) (by omega) h3
          · rw [if_neg c5]
            rcases hst with ⟨hs, hn⟩ | ⟨k, hk, hs, h47, hn⟩
            · omega
            · rw [hs] at c4 c5 ⊢
              have hkl : k < l.length := by omega
              simp only [Int.toNat_natCast]
              refine .inl ⟨_, _, rfl, by rw [List.length_drop]; omega, by rw [List.length_drop]; omega, by rw [List.length_take]; omega, .inr ⟨?_, ?_, by omega⟩⟩
              · intro h0; rcases List.take_eq_nil_iff.1 h0 with h | h; omega; subst h; simp at hkl
              · have e : l.getD k 0 = l[k] := by simp [List.getD, List.getElem?_eq_getElem hkl]
                rw [e] at h47
                have := List.take_succ_eq_append_getElem hkl
                rw [← h47, ← this, List.take_append_drop]
end Plain
end Go.Proofs.YtamgiffkhnfpmaaDoor
namespace Go.Proofs.YtamgiffkhnfpmaaDoor
set_option linter.unusedVariables false
set_option linter.unusedSimpArgs false
/-- a header -/
structure Hd where
  name : List UInt8
  link : List UInt8
  mode : Int
  uid : Int
  gid : Int
  size : Int
  mtime : Int
  ty : UInt8
  user : List UInt8
  group : List UInt8
  major : Int
  minor : Int
  form : Int
def Hd.zero : Hd := ⟨[], [], 0, 0, 0, 0, 0, 0, [], [], 0, 0, 0⟩
def hdV (h : Hd) : Value := .agg #[.string ⟨h.name.toArray⟩, .string ⟨h.link.toArray⟩, .int .i64 h.mode, .int .i64 h.uid, .int .i64 h.gid, .int .i64 h.size, .int .i64 h.mtime, .int .u8 (h.ty.toNat : Int), .string ⟨h.user.toArray⟩, .string ⟨h.group.toArray⟩, .int .i64 h.major, .int .i64 h.minor, .int .i64 h.form]
/-- the bytes from s up to e -/
def fld (l : List UInt8) (s e : Nat) : List UInt8 := (l.take e).drop s
def numOk (p : Int × Int) (lo hi : Int) : Bool := decide (p.2 = 0 ∧ lo ≤ p.1 ∧ p.1 ≤ hi)
def magicU : List UInt8 := [117, 115, 116, 97, 114, 0, 48, 48]
def magicG : List UInt8 := [117, 115, 116, 97, 114, 32, 32, 0]
def formOf (l : List UInt8) : Int := if fld l 257 265 = magicU then 2 else if fld l 257 265 = magicG then 3 else 1
def tyOf (l : List UInt8) : UInt8 := if l.getD 156 0 = 0 ∨ l.getD 156 0 = 55 then 48 else l.getD 156 0
def isDev (l : List UInt8) : Bool := decide (formOf l ≠ 1 ∧ (tyOf l = 51 ∨ tyOf l = 52))
def numAt (l : List UInt8) (s e : Nat) : Int × Int := Plain.number (fld l s e)
def numsOk (l : List UInt8) : Bool :=
  numOk (numAt l 100 108) 0 9223372036854775807 && numOk (numAt l 108 116) 0 2147483647 && numOk (numAt l 116 124) 0 2147483647 && numOk (numAt l 124 136) 0 9223372036854775807 && numOk (numAt l 136 148) (-1099511627776) 1099511627776 &&
  (!isDev l || (numOk (numAt l 329 337) 0 9223372036854775807 && numOk (numAt l 337 345) 0 9223372036854775807))
def nameOf (l : List UInt8) : List UInt8 :=
  if formOf l = 2 ∧ Plain.text (fld l 345 500) ≠ [] then Plain.text (fld l 345 500) ++ 47 :: Plain.text (fld l 0 100) else Plain.text (fld l 0 100)
def hdOf (l : List UInt8) : Hd :=
  ⟨nameOf l, Plain.text (fld l 157 257), (numAt l 100 108).1, (numAt l 108 116).1, (numAt l 116 124).1, if 49 ≤ (tyOf l).toNat ∧ (tyOf l).toNat ≤ 54 then 0 else (numAt l 124 136).1, (numAt l 136 148).1, tyOf l,
    if formOf l = 1 then [] else Plain.text (fld l 265 297), if formOf l = 1 then [] else Plain.text (fld l 297 329), if isDev l = true then (numAt l 329 337).1 else 0, if isDev l = true then (numAt l 337 345).1 else 0, formOf l⟩
/-- the document's answer -/
def Plain.hread (l : List UInt8) : Hd × Int :=
  if l = zblk then (Hd.zero, 40) else if Plain.sealed l = false then (Hd.zero, 41) else if numsOk l = false then (Hd.zero, 42) else (hdOf l, 0)
/-- t laid over l from f on -/
def lay (l : List UInt8) (f : Nat) (t : List UInt8) : List UInt8 := l.take f ++ t ++ l.drop (f + t.length)
theorem lay_len (l : List UInt8) (f : Nat) (t : List UInt8) (h : f + t.length ≤ l.length) : (lay l f t).length = l.length := by
  unfold lay; rw [List.length_append, List.length_append, List.length_take, List.length_drop]; omega
theorem lay_nil (l : List UInt8) (f : Nat) : lay l f [] = l := by unfold lay; simp
theorem fld_len (l : List UInt8) (s e : Nat) (h : e ≤ l.length) : (fld l s e).length = e - s := by unfold fld; rw [List.length_drop, List.length_take]; omega
theorem fld_getD (l : List UInt8) (s e k : Nat) (h : s + k < e) : (fld l s e).getD k 0 = l.getD (s + k) 0 := by
  unfold fld; simp [List.getD, List.getElem?_take, h]
theorem lay_getD (l : List UInt8) (f : Nat) (t : List UInt8) (h : f + t.length ≤ l.length) (k : Nat) : (lay l f t).getD k 0 = if f ≤ k ∧ k < f + t.length then t.getD (k - f) 0 else l.getD k 0 := by
  have hf : (l.take f).length = f := by rw [List.length_take]; omega
  unfold lay
  by_cases h1 : k < f
  · rw [if_neg (by omega)]
    simp only [List.getD]
    rw [List.getElem?_append_left (by rw [List.length_append, hf]; omega), List.getElem?_append_left (by rw [hf]; exact h1), List.getElem?_take, if_pos h1]
  · by_cases h2 : k < f + t.length
    · rw [if_pos ⟨by omega, h2⟩]
      simp only [List.getD]
      rw [List.getElem?_append_left (by rw [List.length_append, hf]; omega), List.getElem?_append_right (by omega), hf]
    · rw [if_neg (by omega)]
      simp only [List.getD]
      rw [List.getElem?_append_right (by rw [List.length_append, hf]; omega), List.length_append, hf, List.getElem?_drop, show f + t.length + (k - (f + t.length)) = k by omega]
theorem fld_ext (l m : List UInt8) (s e : Nat) (hl : e ≤ l.length) (hm : e ≤ m.length) (h : ∀ k, s ≤ k → k < e → l.getD k 0 = m.getD k 0) : fld l s e = fld m s e := by
  refine list_ext_getD (by rw [fld_len _ _ _ hl, fld_len _ _ _ hm]) fun k hk => ?_
  rw [fld_len _ _ _ hl] at hk
  rw [fld_getD _ _ _ _ (by omega), fld_getD _ _ _ _ (by omega)]
  exact h _ (by omega) (by omega)
theorem fld_lay (l : List UInt8) (f : Nat) (t : List UInt8) (s e : Nat) (h : f + t.length ≤ l.length) (he : e ≤ l.length) (hd : e ≤ f ∨ f + t.length ≤ s) : fld (lay l f t) s e = fld l s e := by
  refine fld_ext _ _ _ _ (by rw [lay_len _ _ _ h]; exact he) he fun k h1 h2 => ?_
  rw [lay_getD _ _ _ h, if_neg (by omega)]
theorem fld_lay_in (l : List UInt8) (f : Nat) (t : List UInt8) (e : Nat) (h : f + t.length ≤ l.length) (he : e = f + t.length) : fld (lay l f t) f e = t := by
  subst he
  refine list_ext_getD (by rw [fld_len _ _ _ (by rw [lay_len _ _ _ h]; exact h)]; omega) fun k hk => ?_
  rw [fld_len _ _ _ (by rw [lay_len _ _ _ h]; exact h)] at hk
  rw [fld_getD _ _ _ _ (by omega), lay_getD _ _ _ h, if_pos (by omega), show f + k - f = k by omega]
theorem lay_one (l : List UInt8) (k : Nat) (c : UInt8) (h : k < l.length) : l.set k c = lay l k [c] := by
  have h' : k + [c].length ≤ l.length := h
  refine list_ext_getD (by rw [lay_len _ _ _ h']; simp) fun j hj => ?_
  rw [lay_getD _ _ _ h']
  by_cases e : j = k
  · subst e; simp [List.getD, h]
  · rw [if_neg (by simp; omega)]; simp [List.getD, List.getElem?_set, show ¬ k = j from fun h => e h.symm]
theorem seal_lay (l : List UInt8) : Plain.seal l = lay l 148 (octRow (Plain.sum uby l).toNat 6 ++ [0, 32]) := by
  unfold Plain.seal lay
  rw [sealRow_len]
theorem sum_lay (f : UInt8 → Int) (l : List UInt8) (t : List UInt8) (h : l.length = 512) (ht : t.length = 8) : Plain.sum f (lay l 148 t) = Plain.sum f l := by
  have e1 : (lay l 148 t).take 148 = l.take 148 := by
    unfold lay
    rw [List.append_assoc, List.take_append_of_le_length (by rw [List.length_take]; omega), List.take_of_length_le (by rw [List.length_take]; omega)]
  have e2 : (lay l 148 t).drop 156 = l.drop 156 := by
    unfold lay
    have : (l.take 148 ++ t).length = 156 := by rw [List.length_append, List.length_take]; omega
    rw [ht, show 148 + 8 = 156 by rfl]
    rw [List.drop_append_of_le_length (by omega), List.drop_of_length_le (by omega), List.nil_append]
  unfold Plain.sum
  rw [e1, e2]
/-- t with noughts behind it, n bytes in all -/
def pad (n : Nat) (t : List UInt8) : List UInt8 := t ++ (List.replicate n 0).drop t.length
theorem pad_len (n : Nat) (t : List UInt8) (h : t.length ≤ n) : (pad n t).length = n := by unfold pad; rw [List.length_append, List.length_drop, List.length_replicate]; omega
theorem pad_full (n : Nat) (t : List UInt8) (h : t.length = n) : pad n t = t := by unfold pad; simp [h]
theorem pad_nil (n : Nat) : pad n [] = List.replicate n 0 := by unfold pad; simp
theorem text_pad (n : Nat) (t : List UInt8) (h : t.length ≤ n) (h0 : (0 : UInt8) ∉ t) : Plain.text (pad n t) = t := by
  unfold pad Plain.text
  rw [List.takeWhile_append_of_pos (fun x hx => by rw [bne_iff_ne]; intro e; subst e; exact h0 hx)]
  rw [List.drop_replicate]
  cases n - t.length with
  | zero => simp
  | succ m => rw [List.replicate_succ, List.takeWhile_cons_of_neg (by decide), List.append_nil]
/-- parts of fixed widths, one behind the other -/
def blkT : List Nat → List (List UInt8) → List UInt8
  | n :: W, t :: T => pad n t ++ blkT W T
  | _, _ => []
def Fit : List Nat → List (List UInt8) → Prop
  | n :: W, t :: T => t.length ≤ n ∧ Fit W T
  | [], [] => True
  | _, _ => False
theorem blkT_len : ∀ (W : List Nat) (T : List (List UInt8)), Fit W T → (blkT W T).length = W.sum
  | [], [], _ => rfl
  | n :: W, t :: T, h => by
    unfold blkT
    rw [List.length_append, pad_len n t h.1, blkT_len W T h.2, List.sum_cons]
  | [], _ :: _, h => h.elim
  | _ :: _, [], h => h.elim
theorem lay_far (a r : List UInt8) (f : Nat) (t : List UInt8) : lay (a ++ r) (a.length + f) t = a ++ lay r f t := by
  unfold lay
  rw [List.take_append, List.drop_append, List.take_of_length_le (by omega), List.drop_of_length_le (by omega), show a.length + f - a.length = f by omega, show a.length + f + t.length - a.length = f + t.length by omega]
  simp
theorem lay_blk : ∀ (W : List Nat) (T : List (List UInt8)) (k : Nat) (t : List UInt8), Fit W T → T[k]? = some [] → t.length ≤ W.getD k 0 → lay (blkT W T) ((W.take k).sum) t = blkT W (T.set k t) ∧ Fit W (T.set k t)
  | [], [], k, t, _, h, _ => by simp at h
  | [], _ :: _, _, _, h, _, _ => h.elim
  | _ :: _, [], _, _, h, _, _ => h.elim
  | n :: W, u :: T, 0, t, hF, h, ht => by
    simp only [List.getElem?_cons_zero, Option.some.injEq] at h
    subst h
    simp only [List.getD_cons_zero] at ht
    refine ⟨?_, ht, hF.2⟩
    simp only [List.set_cons_zero, List.take_zero, List.sum_nil]
    unfold blkT lay
    rw [pad_nil, List.take_zero, List.nil_append, Nat.zero_add, List.drop_append_of_le_length (by rw [List.length_replicate]; exact ht)]
    unfold pad
    rw [List.append_assoc]
  | n :: W, u :: T, k + 1, t, hF, h, ht => by
    simp only [List.getElem?_cons_succ] at h
    obtain ⟨e, hF2⟩ := lay_blk W T k t hF.2 h (by simpa using ht)
    refine ⟨?_, hF.1, hF2⟩
    simp only [List.set_cons_succ, List.take_succ_cons, List.sum_cons]
    unfold blkT
    rw [show n + (W.take k).sum = (pad n u).length + (W.take k).sum by rw [pad_len n u hF.1], lay_far, e]
theorem fld_far (a r : List UInt8) (s e : Nat) : fld (a ++ r) (a.length + s) (a.length + e) = fld r s e := by
  unfold fld
  rw [List.take_append, List.drop_append, List.take_of_length_le (by omega), List.drop_of_length_le (by omega), show a.length + e - a.length = e by omega, show a.length + s - a.length = s by omega, List.nil_append]
theorem fld_blk : ∀ (W : List Nat) (T : List (List UInt8)) (k : Nat) (t : List UInt8), Fit W T → T[k]? = some t → fld (blkT W T) ((W.take k).sum) ((W.take (k + 1)).sum) = pad (W.getD k 0) t
  | [], [], k, t, _, h => by simp at h
  | [], _ :: _, _, _, h, _ => h.elim
  | _ :: _, [], _, _, h, _ => h.elim
  | n :: W, u :: T, 0, t, hF, h => by
    simp only [List.getElem?_cons_zero, Option.some.injEq] at h
    subst h
    have hl := pad_len n u hF.1
    simp only [List.take_zero, List.sum_nil, List.take_succ_cons, List.sum_cons, List.getD_cons_zero, Nat.add_zero]
    unfold blkT fld
    rw [List.drop_zero, List.take_append_of_le_length (by omega), List.take_of_length_le (by omega)]
  | n :: W, u :: T, k + 1, t, hF, h => by
    simp only [List.getElem?_cons_succ] at h
    have e := fld_blk W T k t hF.2 h
    have hl := pad_len n u hF.1
    simp only [List.take_succ_cons, List.sum_cons, List.getD_cons_succ]
    unfold blkT
    rw [show n + (W.take k).sum = (pad n u).length + (W.take k).sum by rw [hl], show n + (W.take (k + 1)).sum = (pad n u).length + (W.take (k + 1)).sum by rw [hl], fld_far]
    exact e
end Go.Proofs.YtamgiffkhnfpmaaDoor
