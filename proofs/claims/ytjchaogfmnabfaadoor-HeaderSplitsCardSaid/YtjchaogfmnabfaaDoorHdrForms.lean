/-
  HdrForms: a block whose magic is wiped, and whose type is turned, in plain Lean.
-/
import Derived.Test.YtjchaogfmnabfaaDoorHdrMake
namespace Go.Proofs.YtjchaogfmnabfaaDoor
set_option linter.unusedVariables false
set_option linter.unusedSimpArgs false
def z8 : List UInt8 := [0, 0, 0, 0, 0, 0, 0, 0]
/-- the magic wiped, sealed anew -/
def wiped (l : List UInt8) : List UInt8 := Plain.seal (lay l 257 z8)
theorem wiped_fld (l : List UInt8) (hl : l.length = 512) (s e : Nat) (he : e ≤ 512) (h1 : e ≤ 148 ∨ 156 ≤ s) (h2 : e ≤ 257 ∨ 265 ≤ s) : fld (wiped l) s e = fld l s e := by
  have hl2 : (lay l 257 z8).length = 512 := by rw [lay_len _ _ _ (by rw [hl]; decide), hl]
  unfold wiped
  rw [seal_lay, fld_lay _ _ _ _ _ (by rw [sealRow_len, hl2]; decide) (by omega) (by rw [sealRow_len]; omega), fld_lay _ _ _ _ _ (by rw [hl]; decide) (by omega) h2]
theorem wiped_read (l : List UInt8) (hl : l.length = 512) (h : (Plain.hread l).2 = 0) :
    (Plain.hread (wiped l)).2 = 0 ∧ (Plain.hread (wiped l)).1.form = 1 ∧ (¬ ((Plain.hread l).1.form = 2 ∧ l.getD 345 0 ≠ 0) →
      (Plain.hread (wiped l)).1 = { (Plain.hread l).1 with form := 1, user := [], group := [], major := 0, minor := 0 }) := by
  have hl2 : (lay l 257 z8).length = 512 := by rw [lay_len _ _ _ (by rw [hl]; decide), hl]
  have hsl := seal_len _ hl2
  have hsd := seal_sealed _ hl2
  have f0 := wiped_fld l hl 0 100 (by decide) (by decide) (by decide)
  have f1 := wiped_fld l hl 100 108 (by decide) (by decide) (by decide)
  have f2 := wiped_fld l hl 108 116 (by decide) (by decide) (by decide)
  have f3 := wiped_fld l hl 116 124 (by decide) (by decide) (by decide)
  have f4 := wiped_fld l hl 124 136 (by decide) (by decide) (by decide)
  have f5 := wiped_fld l hl 136 148 (by decide) (by decide) (by decide)
  have f7 := wiped_fld l hl 156 157 (by decide) (by decide) (by decide)
  have f8 := wiped_fld l hl 157 257 (by decide) (by decide) (by decide)
  have f9 : fld (wiped l) 257 265 = z8 := by
    unfold wiped
    rw [seal_lay, fld_lay _ _ _ _ _ (by rw [sealRow_len, hl2]; decide) (by omega) (by rw [sealRow_len]; omega)]
    exact fld_lay_in l 257 z8 265 (by rw [hl]; decide) rfl
  have f6 : (wiped l).getD 148 0 = (octRow (Plain.sum uby (lay l 257 z8)).toNat 6 ++ [0, 32]).getD 0 0 := by
    unfold wiped
    rw [seal_lay, lay_getD _ _ _ (by rw [sealRow_len, hl2]; decide), sealRow_len, if_pos (by decide)]
  have hz : ¬ wiped l = zblk := by
    intro e
    rw [e] at f6
    have h0 : zblk.getD 148 0 = 0 := by decide +kernel
    have h48 : ((octRow (Plain.sum uby (lay l 257 z8)).toNat 6 ++ [0, 32]).getD 0 0) = octDig (Plain.sum uby (lay l 257 z8)).toNat 5 := by
      unfold octRow; rw [placeRow_succ]; rfl
    rw [h0, h48] at f6
    have := (isOct_iff _).1 (octDig_oct (Plain.sum uby (lay l 257 z8)).toNat 5)
    rw [← f6] at this
    simp at this
  have ht : (wiped l).getD 156 0 = l.getD 156 0 := by
    have a := fld_getD (wiped l) 156 157 0 (by decide)
    have b := fld_getD l 156 157 0 (by decide)
    rw [f7] at a
    exact a.symm.trans b
  have hty : tyOf (wiped l) = tyOf l := by unfold tyOf; rw [ht]
  have hform : formOf (wiped l) = 1 := by unfold formOf; rw [f9, if_neg (by decide), if_neg (by decide)]
  have hdev : isDev (wiped l) = false := by unfold isDev; rw [hform]; simp
  have n1 : numAt (wiped l) 100 108 = numAt l 100 108 := by unfold numAt; rw [f1]
  have n2 : numAt (wiped l) 108 116 = numAt l 108 116 := by unfold numAt; rw [f2]
  have n3 : numAt (wiped l) 116 124 = numAt l 116 124 := by unfold numAt; rw [f3]
  have n4 : numAt (wiped l) 124 136 = numAt l 124 136 := by unfold numAt; rw [f4]
  have n5 : numAt (wiped l) 136 148 = numAt l 136 148 := by unfold numAt; rw [f5]
  unfold Plain.hread at h
  by_cases c1 : l = zblk
  · rw [if_pos c1] at h; cases h
  · rw [if_neg c1] at h
    by_cases c2 : Plain.sealed l = false
    · rw [if_pos c2] at h; cases h
    · rw [if_neg c2] at h
      by_cases c3 : numsOk l = false
      · rw [if_pos c3] at h; cases h
      · have e1 : Plain.hread l = (hdOf l, 0) := by unfold Plain.hread; rw [if_neg c1, if_neg c2, if_neg c3]
        have c4 : ¬ numsOk (wiped l) = false := by
          intro e
          apply c3
          unfold numsOk at e ⊢
          rw [n1, n2, n3, n4, n5, hdev] at e
          rw [Bool.not_false, Bool.true_or, Bool.and_true] at e
          rw [e, Bool.false_and]
        have e2 : Plain.hread (wiped l) = (hdOf (wiped l), 0) := by
          unfold Plain.hread; rw [if_neg hz, if_neg (by unfold wiped; rw [hsd]; decide), if_neg c4]
        rw [e1, e2]
        refine ⟨rfl, hform, fun hn => ?_⟩
        have hname : nameOf (wiped l) = nameOf l := by
          unfold nameOf
          rw [hform, f0, if_neg (by rintro ⟨a, _⟩; cases a), if_neg]
          rintro ⟨a, b⟩
          refine hn ⟨a, fun e => b ?_⟩
          have hg := fld_getD l 345 500 0 (by decide)
          rw [Nat.add_zero, e] at hg
          have hlen := fld_len l 345 500 (by omega)
          cases hq : fld l 345 500 with
          | nil => rfl
          | cons c r =>
            rw [hq] at hg
            simp at hg
            exact Plain.text_zero c r hg
        unfold hdOf
        simp only [hname, f8, n1, n2, n3, n4, n5, hty, hform, hdev, if_true, Bool.false_eq_true, if_false]
end Go.Proofs.YtjchaogfmnabfaaDoor
