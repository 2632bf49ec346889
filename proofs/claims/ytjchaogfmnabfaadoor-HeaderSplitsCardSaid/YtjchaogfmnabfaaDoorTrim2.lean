/-
  Trim2: strings.TrimRight with the cutset of a blank and a byte 0.
-/
import Derived.Test.YtjchaogfmnabfaaDoorBase
import Derived.Test.YtjchaogfmnabfaaDoorRowl
import Derived.Test.YtjchaogfmnabfaaDoorOctLaw
import Derived.Test.YtjchaogfmnabfaaDoorShelf
import Derived.Lib.AsciiSet
namespace Go.Proofs.YtjchaogfmnabfaaDoor
open Go.ChangeShapes Go.WideShapes Go.ChangeAt Go.RowKit
/-- the set's cells -/
def GapSet (w : World) (b : Nat) : Prop := ∀ x : UInt8, w.cell? ⟨b, x.toNat, none⟩ = some (.bool (isGap x))
theorem gap_contains (x : UInt8) : [32, 0].contains x = isGap x := by
  simp only [isGap, List.contains_cons, List.contains_nil, Bool.or_false]
set_option maxHeartbeats 400000 in
theorem TrimASCII_any (l : List UInt8) (b : Nat) (w : World) (hl : l.length ≤ 140737488355328) (hg : GapSet w b) :
    Calls Tryd.prog 107 #[.string ⟨l.toArray⟩, .pointer (some ⟨b, 0, none⟩)] w fun e w' => e = .returned (.string ⟨(trimR l).toArray⟩) ∧ w' = w := by
  generalize hr : trimR l = R
  have HR := Lib.hid hr; clear hr
  have HG := Lib.hid hg; clear hg
  go_enter Tryd.func107, Tryd.ntmps107
  go_wp2
  go_loop [0] (fun t => ∃ s : List UInt8, t = .string ⟨s.toArray⟩ ∧ s.length ≤ 140737488355328 ∧ Hid (trimR s = R)) (fun t => match t with | .string x => x.size | _ => 0)
  case atStart => exact ⟨l, rfl, hl, HR⟩
  case round =>
    obtain ⟨s, rfl, hs, ht⟩ := hrel
    by_cases h0 : s = []
    · subst h0
      obtain rfl : R = [] := by rw [← ht.out]; rfl
      go_wp2
      go_ret
      exact ⟨rfl, rfl⟩
    · obtain ⟨t, c, rfl⟩ : ∃ t c, s = t ++ [c] := ⟨s.dropLast, s.getLast h0, (List.dropLast_concat_getLast h0).symm⟩
      have hx := str_at (t ++ [c]) t.length (by simp)
      have hgd : (t ++ [c]).getD t.length 0 = c := by simp [List.getD]
      rw [hgd] at hx
      have hlen : (t ++ [c]).length = t.length + 1 := by simp
      have hext : (⟨(t ++ [c]).toArray⟩ : ByteArray).extract 0 t.length = ⟨t.toArray⟩ := by
        apply ByteArray.ext
        simp [ByteArray.data_extract]
      have hst : t.length ≤ 140737488355328 := by omega
      have HEXT := Lib.hid hext
      cases hgap : isGap c with
      | false =>
        have hcon := Tryd.asciiSet_contains b c (isGap c) w (HG.out c)
        rw [hgap] at hcon
        have HC := Lib.hid hcon
        have hRR : t ++ [c] = R := by rw [← trimR_end t c hgap]; exact ht.out
        have HRR := Lib.hid hRR
        clear hcon hRR hgd hext h0 hgap
        go_wp2_with (go_at_call 125; refine (HC.out).mono ?_; rintro e w1 ⟨rfl, hw⟩; obtain rfl := hw.symm)
        go_ret
        exact ⟨by rw [← HRR.out]; rfl, rfl⟩
      | true =>
        have hcon := Tryd.asciiSet_contains b c (isGap c) w (HG.out c)
        rw [hgap] at hcon
        have HC := Lib.hid hcon
        have hRR : trimR t = R := by rw [← trimR_gap t c hgap]; exact ht.out
        have HRR := Lib.hid hRR
        clear hcon hRR hgd hext h0 hgap
        go_wp2_with (go_at_call 125; refine (HC.out).mono ?_; rintro e w1 ⟨rfl, hw⟩; obtain rfl := hw.symm)
        rw [HEXT.out]
        exact ⟨⟨t, rfl, hst, HRR⟩, by simp [ByteArray.size]⟩
theorem gapSet_zero : ∀ w, (zeroValue 115).run Tryd.prog w = .ok (.agg (Array.replicate 256 (.bool false))) w := fun w => by kernel_rfl
theorem gapSize : (Tryd.prog.info? 115).map (·.size) = some (Lib.setCells [32, 0]).size := by rw [Lib.setCells_size]; kernel_rfl
theorem gapZero : (Tryd.prog.info? 115).bind (·.zero) = some (.agg (Array.replicate 256 (.bool false))) := by kernel_rfl
theorem gapOne : ∀ u ∈ (Lib.setCells [32, 0]).toList, u.oneCell' = true := by
  intro u hu
  have h := Lib.setCells_one [32, 0]
  generalize Lib.setCells [32, 0] = A at *
  rw [Array.all_eq_true] at h
  obtain ⟨i, hi, rfl⟩ := List.getElem_of_mem hu
  exact h i (by simpa using hi)
theorem gapSet_new (w1 : World) : GapSet (w1.alloc (.cells (Lib.setCells [32, 0]) 115)) w1.heap.size := fun x => by
  rw [World.cell?_alloc_new, Lib.setCells_at, gap_contains]
set_option maxRecDepth 100000 in
set_option maxHeartbeats 1000000 in
theorem TrimGap_any (l : List UInt8) (w : World) (hl : l.length ≤ 140737488355328) :
    Calls Tryd.prog 81 #[.string ⟨l.toArray⟩, .string ⟨#[32, 0]⟩] w fun e w' => e = .returned (.string ⟨(trimR l).toArray⟩) ∧ Below w.heap.size w w' := by
  by_cases h0 : l = []
  · subst h0
    go_enter Tryd.func81, Tryd.ntmps81
    go_wp2
    go_ret
    exact ⟨rfl, Below.refl _ _⟩
  · have c1b : l.isEmpty = false := by simpa using h0
    have hasc : ∀ (j : Nat) b, [(32 : UInt8), 0][j]? = some b → b.toNat < 128 := by
      intro j b hj
      match j, hj with
      | 0, hj => cases hj; decide
      | 1, hj => cases hj; decide
    have HM := Lib.hid (Tryd.strings_makeASCIISet gapSet_zero ⟨#[32, 0]⟩ w (by decide) hasc)
    generalize hR : trimR l = R
    have HR := Lib.hid hR
    have HZ := Lib.hid gapZero; have HSZ := Lib.hid gapSize
    have HO : Hid (∀ u ∈ (Lib.setCells [32, 0]).toList, u.oneCell' = true) := Lib.hid (gapOne)
    go_enter Tryd.func81, Tryd.ntmps81
    clear hR
    go_wp2_with (first
      | (go_at_call 103; refine (HM.out).mono ?_; rintro e w1 ⟨rfl, hw⟩; have HW := Lib.hid hw; clear hw)
      | (with_reducible refine wpList_alloc_z rfl _ rfl (Array.replicate 256 (.bool false)) HZ.out ?_)
      | ((with_reducible refine wpList_store_new rfl _ _ _ rfl _ rfl (Lib.setCells [32, 0]) rfl ?_ (by rw [Lib.setCells_size, Array.size_replicate]) HSZ.out HO.out ?_); · simp)
      | (go_at_call 107; refine (TrimASCII_any l _ _ hl (by exact gapSet_new w1)).mono ?_; rintro e w3 ⟨rfl, hw⟩; obtain rfl := hw.symm; rw [HR.out]))
    go_ret
    refine ⟨rfl, ?_⟩
    rw [HW.out]
    exact ((Below.refl _ _).alloc (Nat.le_refl _) _).alloc (by simp) _
end Go.Proofs.YtjchaogfmnabfaaDoor
