/-
  RecWrite: records that are written, in plain Lean.
-/
import Derived.Test.YtjchaogfmnabfaaDoorRecLaw
import Derived.Test.YtjchaogfmnabfaaDoorSizes
namespace Go.Proofs.YtjchaogfmnabfaaDoor
set_option linter.unusedVariables false
set_option linter.unusedSimpArgs false
open Go.ChangeShapes Go.WideShapes Go.ChangeAt Go.RowKit
def sizeF : Nat → Nat → Nat → Nat
  | 0, _, d => d
  | f + 1, base, d => if nd (base + d) = d then d else sizeF f base (d + 1)
theorem sizeF_eq (base d0 : Nat) (h : IsSize base d0) : ∀ f d, d ≤ d0 → d0 ≤ d + f → sizeF f base d = d0
  | 0, d, h1, h2 => by unfold sizeF; omega
  | f + 1, d, h1, h2 => by
    unfold sizeF
    by_cases he : nd (base + d) = d
    · rw [if_pos he]; exact h.here h1 he
    · rw [if_neg he]; exact sizeF_eq base d0 h f (d + 1) (h.next h1 he) (by omega)
abbrev Pt := List UInt8 × List UInt8
def recBase (p : Pt) : Nat := p.1.length + p.2.length + 3
def recSize (p : Pt) : Nat := recBase p + sizeF 22 (recBase p) 0
theorem recSize_is (p : Pt) (h : recBase p + 21 < 100000000000000000000) : ∃ d, d ≤ 20 ∧ IsSize (recBase p) d ∧ recSize p = recBase p + d := by
  obtain ⟨d, h1, h2⟩ := isSize_exists (recBase p) h
  exact ⟨d, h1, h2, by unfold recSize; rw [sizeF_eq (recBase p) d h2 22 0 (by omega) (by omega)]⟩
/-- a record -/
def recBytes (p : Pt) : List UInt8 := Lib.decDigits (recSize p) ++ (32 :: (p.1 ++ (61 :: (p.2 ++ [10]))))
theorem recBytes_len (p : Pt) (h : recBase p + 21 < 100000000000000000000) : (recBytes p).length = recSize p := by
  obtain ⟨d, h1, h2, h3⟩ := recSize_is p h
  have hn : (Lib.decDigits (recSize p)).length = d := by rw [h3]; exact h2.1
  unfold recBytes
  simp only [List.length_append, List.length_cons, List.length_nil, hn]
  rw [h3]; unfold recBase; omega
def badKey (k : List UInt8) : Bool := decide (k = [] ∨ 61 ∈ k)
theorem recText_of (k v : List UInt8) (h : badKey k = false) : recText (k ++ (61 :: v)) = some (k, v) := by
  unfold badKey at h
  rw [decide_eq_false_iff_not] at h
  have h1 : k ≠ [] := fun e => h (.inl e)
  have h2 : ∀ x ∈ k, (x != 61) = true := fun x hx => by
    rw [bne_iff_ne]; intro e; subst e; exact h (.inr hx)
  have ht : (k ++ (61 :: v)).takeWhile (· != 61) = k := by
    rw [List.takeWhile_append_of_pos h2, List.takeWhile_cons_of_neg (by decide), List.append_nil]
  unfold recText
  rw [ht, if_pos ⟨by rw [List.length_append, List.length_cons]; omega, h1⟩, show k.length + 1 = (k ++ [61]).length by simp]
  have e : k ++ (61 :: v) = (k ++ [61]) ++ v := by simp
  rw [e, List.drop_left]
theorem getD_mid (x : List UInt8) (c : UInt8) (y : List UInt8) : (x ++ c :: y).getD x.length 0 = c := by simp [List.getD]
theorem one_rec (p : Pt) (rest : List UInt8) (hk : badKey p.1 = false) (hs : recSize p ≤ 1048576) : Plain.one (recBytes p ++ rest) = some (p, recSize p) := by
  have hb : recBase p + 21 < 100000000000000000000 := by
    have : recBase p ≤ recSize p := by unfold recSize; omega
    omega
  obtain ⟨d, h20, h2, h3⟩ := recSize_is p hb
  have hn : (Lib.decDigits (recSize p)).length = d := by rw [h3]; exact h2.1
  have hlen := recBytes_len p hb
  have hp1 := h2.pos
  have hk1 : p.1 ≠ [] := fun e => by rw [e] at hk; revert hk; decide
  have hkl : 1 ≤ p.1.length := List.length_pos_iff.2 hk1
  have hdn := decDigits_all (recSize p)
  have hda := decAcc_decDigits (recSize p)
  have hdh := decDigits_head (recSize p) (by rw [h3]; unfold recBase; omega)
  have hd9 : d ≤ 9 := by
    have := decDigits_len 6 (recSize p) (by omega)
    omega
  generalize hD : Lib.decDigits (recSize p) = D at *
  have hl : recBytes p ++ rest = D ++ (32 :: (p.1 ++ (61 :: (p.2 ++ (10 :: rest))))) := by
    unfold recBytes; rw [hD]; simp
  have htop : RecTop (recBytes p ++ rest) d := by
    refine ⟨hp1, hd9, ?_, ?_, ?_⟩
    · rw [hl]
      have : (D ++ (32 :: (p.1 ++ (61 :: (p.2 ++ (10 :: rest)))))).getD 0 0 = D.getD 0 0 := by
        simp [List.getD, List.getElem?_append_left (show 0 < D.length by omega)]
      rw [this]; exact hdh
    · rw [List.length_append, hlen]; unfold recSize recBase at *; omega
    · rw [hl]
      simp [List.getD, List.getElem?_append_right (show D.length ≤ d by omega), hn]
  have htake : (recBytes p ++ rest).take d = D := by
    rw [hl, ← hn]; exact List.take_left
  obtain ⟨_, _, ho⟩ := one_top _ d htop (fun k hkd => by
    rw [← take_getD _ d k hkd, htake]
    have hkD : k < D.length := by omega
    have := (List.all_eq_true.1 hdn) _ (List.getElem_mem hkD)
    simpa [List.getD, List.getElem?_eq_getElem hkD] using this)
  rw [htake, hda] at ho
  have hcond : d + 1 < recSize p ∧ recSize p ≤ (recBytes p ++ rest).length := by
    refine ⟨by rw [h3]; unfold recBase; omega, by rw [List.length_append, hlen]; omega⟩
  rw [ho, if_pos hcond, recBody_eq _ _ _ hcond.1 hcond.2]
  have e2 : recBytes p ++ rest = (D ++ (32 :: (p.1 ++ (61 :: p.2)))) ++ (10 :: rest) := by rw [hl]; simp
  have hl2 : (D ++ (32 :: (p.1 ++ (61 :: p.2)))).length = recSize p - 1 := by
    simp only [List.length_append, List.length_cons, hn]; rw [h3]; unfold recBase; omega
  have hlast : (recBytes p ++ rest).getD (recSize p - 1) 0 = 10 := by
    rw [e2, ← hl2]
    exact getD_mid _ _ _
  have htxt : ((recBytes p ++ rest).take (recSize p - 1)).drop (d + 1) = p.1 ++ (61 :: p.2) := by
    rw [e2, ← hl2, List.take_left]
    have : D ++ (32 :: (p.1 ++ (61 :: p.2))) = (D ++ [32]) ++ (p.1 ++ (61 :: p.2)) := by simp
    rw [this, show d + 1 = (D ++ [32]).length by simp [hn], List.drop_left]
  rw [if_pos hlast, htxt, recText_of p.1 p.2 hk]
  rfl
def recSum (ps : List Pt) : Nat := (ps.map recSize).sum
/-- the document's answer -/
def Plain.write (ps : List Pt) : List UInt8 × Int :=
  if ps.any (fun p => badKey p.1) = true then ([], 51) else if 1048576 < recSum ps then ([], 21) else (ps.flatMap recBytes, 0)
theorem write_flat (ps : List Pt) (h : ps.any (fun p => badKey p.1) = false) (hs : recSum ps ≤ 1048576) : Plain.read (ps.flatMap recBytes) = some ps ∧ (ps.flatMap recBytes).length = recSum ps := by
  induction ps with
  | nil => exact ⟨rfl, rfl⟩
  | cons p ps ih =>
    rw [List.any_cons, Bool.or_eq_false_iff] at h
    have hsum : recSum (p :: ps) = recSize p + recSum ps := by simp [recSum]
    obtain ⟨i1, i2⟩ := ih h.2 (by omega)
    have hb : recBase p + 21 < 100000000000000000000 := by
      have : recBase p ≤ recSize p := by unfold recSize; omega
      omega
    have hlen := recBytes_len p hb
    rw [List.flatMap_cons]
    refine ⟨?_, by rw [List.length_append, hlen, i2, hsum]⟩
    rw [read_some _ p (recSize p) (one_rec p _ h.1 (by omega)), ← hlen, List.drop_left, i1]
    rfl
end Go.Proofs.YtjchaogfmnabfaaDoor
