/-
  Split: what header.Split answers.
-/
import Derived.Test.YtjchaogfmnabfaaDoorBase
import Derived.Test.YtjchaogfmnabfaaDoorShelf
namespace Go.Proofs.YtjchaogfmnabfaaDoor
open Go.ChangeShapes Go.WideShapes Go.ChangeAt Go.RowKit
namespace Plain
/-- the place of the last stroke among the first bytes of a name -/
def stroke (l : List UInt8) : Int := Lib.lastIndexByte ⟨(l.take (min 156 (l.length - 1))).toArray⟩ 47
def split (l : List UInt8) : List UInt8 × List UInt8 × Int :=
  if l = [] then ([], [], 43)
  else if 0 ≤ Lib.indexByte l 0 then ([], [], 43)
  else if l.length ≤ 100 then ([], l, 0)
  else if stroke l < 1 then ([], [], 43)
  else if 100 < (l.length : Int) - stroke l - 1 then ([], [], 43)
  else (l.take (stroke l).toNat, l.drop ((stroke l).toNat + 1), 0)
theorem stroke_spec (l : List UInt8) : (stroke l = -1 ∧ ∀ j, j < min 156 (l.length - 1) → l.getD j 0 ≠ 47) ∨
    (∃ i : Nat, i < min 156 (l.length - 1) ∧ stroke l = i ∧ l.getD i 0 = 47 ∧ ∀ j, i < j → j < min 156 (l.length - 1) → l.getD j 0 ≠ 47) := by
  have hsz : ((⟨(l.take (min 156 (l.length - 1))).toArray⟩ : ByteArray)).size = min 156 (l.length - 1) := by simp [ByteArray.size]
  have hat : ∀ j, j < min 156 (l.length - 1) → ((l.take (min 156 (l.length - 1))).toArray[j]!) = l.getD j 0 := by
    intro j hj
    have hjl : j < l.length := by omega
    have h1 : j < (l.take (min 156 (l.length - 1))).length := by simp; omega
    simp [List.getD, List.getElem?_eq_getElem hjl, List.getElem?_take, hj]
  have h := Lib.lastIdx_spec ⟨(l.take (min 156 (l.length - 1))).toArray⟩ 47 (min 156 (l.length - 1))
  have e : Lib.lastIdx ⟨(l.take (min 156 (l.length - 1))).toArray⟩ 47 (min 156 (l.length - 1)) = stroke l := by rw [stroke, Lib.lastIndexByte, hsz]
  rw [e] at h
  have h47 : ∀ b : UInt8, ((b.toNat : Int) = 47) ↔ b = 47 := fun b => ⟨fun hb => UInt8.toNat_inj.1 (by simpa using (by omega : b.toNat = 47)), fun hb => by subst hb; rfl⟩
  rcases h with ⟨h1, h2⟩ | ⟨i, hi, h1, h2, h3⟩
  · exact .inl ⟨h1, fun j hj hc => h2 j hj (by rw [hat j hj]; exact (h47 _).2 hc)⟩
  · exact .inr ⟨i, hi, h1, (h47 _).1 (by rw [← hat i hi]; exact h2), fun j hj hj2 hc => h3 j hj hj2 (by rw [hat j hj2]; exact (h47 _).2 hc)⟩
end Plain
def splitV (r : List UInt8 × List UInt8 × Int) : Value := .tuple #[.string ⟨r.1.toArray⟩, .string ⟨r.2.1.toArray⟩, .int .i64 r.2.2]
set_option maxHeartbeats 800000 in
theorem Split_any (l : List UInt8) (w : World) (hl : l.length ≤ 140737488351232) :
    Calls Tryd.prog 31 #[.string ⟨l.toArray⟩] w fun e w' => e = .returned (splitV (Plain.split l)) ∧ Below w.heap.size w w' := by
  have h0 : (0 : Int).toNat.toUInt8 = 0 := rfl
  have H0 := Lib.hid h0; clear h0
  unfold Plain.split
  by_cases c1 : l = []
  · subst c1
    rw [if_pos rfl]
    go_enter Tryd.func31, Tryd.ntmps31
    go_wp2
    go_ret3
    exact ⟨rfl, Below.refl _ _⟩
  · rw [if_neg c1]
    have c1b : l.isEmpty = false := by simpa using c1
    by_cases c2 : 0 ≤ Lib.indexByte l 0
    · rw [if_pos c2]
      generalize hi : Lib.indexByte l 0 = i at c2
      have HI := Lib.hid hi; clear hi
      go_enter Tryd.func31, Tryd.ntmps31
      go_wp2_with (go_at_call 52; refine (Tryd.strings_IndexByte _ _ _).mono ?_; rintro e w1 ⟨rfl, hw⟩; obtain rfl := hw.symm; rw [H0.out, HI.out])
      go_ret3
      exact ⟨rfl, Below.refl _ _⟩
    · rw [if_neg c2]
      generalize hi : Lib.indexByte l 0 = i at c2
      have HI := Lib.hid hi; clear hi
      have c2' : i < 0 := by omega
      clear c2
      by_cases c3 : l.length ≤ 100
      · rw [if_pos c3]
        go_enter Tryd.func31, Tryd.ntmps31
        go_wp2_with (go_at_call 52; refine (Tryd.strings_IndexByte _ _ _).mono ?_; rintro e w1 ⟨rfl, hw⟩; obtain rfl := hw.symm; rw [H0.out, HI.out])
        go_ret3
        exact ⟨rfl, Below.refl _ _⟩
      · rw [if_neg c3]
        have hst := Plain.stroke_spec l
        have hs1 : Plain.stroke l < 156 ∧ Plain.stroke l < l.length - 1 ∧ -1 ≤ Plain.stroke l := by rcases hst with ⟨h, _⟩ | ⟨i, hi, h, _⟩ <;> omega
        clear hst
        have HS : Hid (Lib.lastIndexByte ⟨(l.take (min 156 (l.length - 1))).toArray⟩ 47 = Plain.stroke l) := rfl
        generalize Plain.stroke l = s at *
        have HE : Hid (((⟨l.toArray⟩ : ByteArray).extract 0 (min 156 ((l.length : Int) - 1)).toNat) = ⟨(l.take (min 156 (l.length - 1))).toArray⟩) := by
          show _ = _
          rw [ByteArray.extract_mk, show (min 156 ((l.length : Int) - 1)).toNat = min 156 (l.length - 1) by omega]; simp
        have hz : ((⟨(l.take (min 156 (l.length - 1))).toArray⟩ : ByteArray)).size < 4611686018427387904 := by simp [ByteArray.size]; omega
        by_cases c4 : s < 1
        · rw [if_pos c4]
          go_enter Tryd.func31, Tryd.ntmps31
          go_wp2_with (go_at_call 52; refine (Tryd.strings_IndexByte _ _ _).mono ?_; rintro e w1 ⟨rfl, hw⟩; obtain rfl := hw.symm; rw [H0.out, HI.out])
          rw [HE.out]
          refine (Tryd.strings_LastIndexByte _ _ hz _).mono ?_; rintro e w1 ⟨rfl, hw⟩; obtain rfl := hw.symm; rw [HS.out]
          generalize (⟨(l.take (min 156 (l.length - 1))).toArray⟩ : ByteArray) = hd at *
          go_wp2
          go_ret3
          exact ⟨rfl, Below.refl _ _⟩
        · rw [if_neg c4]
          obtain ⟨k, rfl⟩ := Int.eq_ofNat_of_zero_le (show 0 ≤ s by omega)
          by_cases c5 : 100 < (l.length : Int) - k - 1
          · rw [if_pos c5]
            go_enter Tryd.func31, Tryd.ntmps31
            go_wp2_with (go_at_call 52; refine (Tryd.strings_IndexByte _ _ _).mono ?_; rintro e w1 ⟨rfl, hw⟩; obtain rfl := hw.symm; rw [H0.out, HI.out])
            rw [HE.out]
            refine (Tryd.strings_LastIndexByte _ _ hz _).mono ?_; rintro e w1 ⟨rfl, hw⟩; obtain rfl := hw.symm; rw [HS.out]
            generalize (⟨(l.take (min 156 (l.length - 1))).toArray⟩ : ByteArray) = hd at *
            go_wp2
            go_ret3
            exact ⟨rfl, Below.refl _ _⟩
          · rw [if_neg c5]
            go_enter Tryd.func31, Tryd.ntmps31
            go_wp2_with (go_at_call 52; refine (Tryd.strings_IndexByte _ _ _).mono ?_; rintro e w1 ⟨rfl, hw⟩; obtain rfl := hw.symm; rw [H0.out, HI.out])
            rw [HE.out]
            refine (Tryd.strings_LastIndexByte _ _ hz _).mono ?_; rintro e w1 ⟨rfl, hw⟩; obtain rfl := hw.symm; rw [HS.out]
            generalize (⟨(l.take (min 156 (l.length - 1))).toArray⟩ : ByteArray) = hd at *
            go_wp2
            go_quiet (fail)
            go_wp2
            go_ret3
            refine ⟨?_, Below.drewN (Below.refl _ _) _⟩
            have e1 : ((⟨l.toArray⟩ : ByteArray).extract 0 k) = ⟨(l.take k).toArray⟩ := by rw [ByteArray.extract_mk]; simp
            have e2 : ((⟨l.toArray⟩ : ByteArray).extract (k + 1) l.length) = ⟨(l.drop (k + 1)).toArray⟩ := by
              rw [ByteArray.extract_mk, List.take_of_length_le (by simp)]
            simp [splitV, e1, e2]
end Go.Proofs.YtjchaogfmnabfaaDoor
