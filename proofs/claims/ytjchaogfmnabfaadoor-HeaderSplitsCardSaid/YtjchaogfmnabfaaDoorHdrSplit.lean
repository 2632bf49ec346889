/-
  HdrSplit: the reference's Split; the law HeaderSplits.
-/
import Derived.Test.YtjchaogfmnabfaaDoorLawSplit
namespace Go.Proofs.YtjchaogfmnabfaaDoor
set_option linter.unusedVariables false
set_option linter.unusedSimpArgs false
open Go.ChangeShapes Go.WideShapes Go.ChangeAt Go.RowKit
/-- the stroke as the loop finds it -/
def strokeAt (l : List UInt8) (j : Nat) : Prop := l.getD j 0 = 47 ∧ l.length - j - 1 ≤ 100
def AtI (l : List UInt8) (k : Nat) (A : Int) : Prop :=
  (A = -1 ∧ ∀ j, 1 ≤ j → j < k → ¬ strokeAt l j) ∨ (∃ m : Nat, A = m ∧ 1 ≤ m ∧ m < k ∧ strokeAt l m ∧ ∀ j, m < j → j < k → ¬ strokeAt l j)
theorem AtI.start (l : List UInt8) : AtI l 1 (-1) := .inl ⟨rfl, fun j h1 h2 => by omega⟩
theorem AtI.yes {l : List UInt8} {k : Nat} {A : Int} (h : AtI l k A) (hk : 1 ≤ k) (hs : strokeAt l k) : AtI l (k + 1) k := .inr ⟨k, rfl, hk, by omega, hs, fun j h1 h2 => by omega⟩
theorem AtI.no {l : List UInt8} {k : Nat} {A : Int} (h : AtI l k A) (hs : ¬ strokeAt l k) : AtI l (k + 1) A := by
  rcases h with ⟨h1, h2⟩ | ⟨m, h1, h2, h3, h4, h5⟩
  · exact .inl ⟨h1, fun j a b => by
      by_cases e : j = k
      · subst e; exact hs
      · exact h2 j a (by omega)⟩
  · exact .inr ⟨m, h1, h2, by omega, h4, fun j a b => by
      by_cases e : j = k
      · subst e; exact hs
      · exact h5 j a (by omega)⟩
theorem AtI.bd {l : List UInt8} {k : Nat} {A : Int} (h : AtI l k A) : -1 ≤ A ∧ A < k := by
  rcases h with ⟨h1, h2⟩ | ⟨m, h1, h2, h3, _⟩ <;> omega
theorem AtI.fin {l : List UInt8} {A : Int} (hl : 100 < l.length) (h : AtI l (min 156 (l.length - 1)) A) :
    (A = -1 ∧ (Plain.stroke l < 1 ∨ 100 < (l.length : Int) - Plain.stroke l - 1)) ∨ (1 ≤ A ∧ A = Plain.stroke l ∧ ¬ Plain.stroke l < 1 ∧ ¬ 100 < (l.length : Int) - Plain.stroke l - 1) := by
  have hst := Plain.stroke_spec l
  rcases h with ⟨h1, h2⟩ | ⟨m, h1, h2, h3, h4, h5⟩
  · left
    refine ⟨h1, ?_⟩
    rcases hst with ⟨hs, _⟩ | ⟨i, hi, hs, h47, _⟩
    · left; omega
    · by_cases hi0 : i < 1
      · left; omega
      · right
        have := h2 i (by omega) hi
        unfold strokeAt at this
        have h3 : ¬ (l.length - i - 1 ≤ 100) := fun h => this ⟨h47, h⟩
        omega
  · right
    obtain ⟨h47, h100⟩ := h4
    rcases hst with ⟨hs, hn⟩ | ⟨i, hi, hs, hi47, hn⟩
    · exact absurd h47 (hn m h3)
    · have hmi : m = i := by
        by_cases hlt : m < i
        · exact absurd ⟨hi47, by omega⟩ (h5 i hlt hi)
        · by_cases hgt : i < m
          · exact absurd h47 (hn m hgt h3)
          · omega
      subst hmi
      refine ⟨by omega, by omega, by omega, by omega⟩
theorem nulB_iff (l : List UInt8) : decide ((0 : UInt8) ∈ l) = decide (0 ≤ Lib.indexByte l 0) := by
  rw [decide_eq_decide]
  constructor
  · intro h
    rcases Int.lt_or_le (Lib.indexByte l 0) 0 with h0 | h0
    · exfalso
      obtain ⟨k, hk, he⟩ := List.getElem_of_mem h
      exact Plain.indexByte_none l h0 k hk (by simp [List.getD, List.getElem?_eq_getElem hk, he])
    · exact h0
  · intro h
    obtain ⟨j, hj, h0⟩ := Plain.indexByte_some l h
    have : l[j] = 0 := by simpa [List.getD, List.getElem?_eq_getElem hj] using h0
    rw [← this]; exact List.getElem_mem hj
set_option maxHeartbeats 800000 in
theorem Nul_any (s : List UInt8) (w : World) (hl : s.length ≤ 140737488351232) :
    Calls Tryd.prog 54 #[.string ⟨s.toArray⟩] w fun e w' => e = .returned (.bool (decide (0 ≤ Lib.indexByte s 0))) ∧ w = w' := by
  generalize hr : decide (0 ≤ Lib.indexByte s 0) = r
  have HR := Lib.hid hr; clear hr
  go_enter Tryd.func54, Tryd.ntmps54
  go_wp2
  go_loop [3] (fun i => ∃ k : Nat, k ≤ s.length ∧ i = .int .i64 k ∧ Hid (∀ j, j < k → s.getD j 0 ≠ 0)) (fun i => s.length - (intOf i).toNat)
  case atStart => exact ⟨0, by omega, rfl, (fun j hj => absurd hj (Nat.not_lt_zero j) : ∀ j, j < 0 → s.getD j 0 ≠ 0)⟩
  case round =>
    obtain ⟨k, hk, rfl, hz⟩ := hrel
    by_cases hlt : k < s.length
    · have hkn : (k : Int) < (s.length : Int) := by omega
      have hx := str_at s k hlt
      generalize hg : s.getD k 0 = g at hx
      have HG := Lib.hid hg; clear hg
      by_cases h0 : g = 0
      · subst h0
        have hf : r = true := by
          rw [← HR.out]
          have : 0 ≤ Lib.indexByte s 0 := by
            rcases Int.lt_or_le (Lib.indexByte s 0) 0 with h | h
            · exact absurd HG.out (Plain.indexByte_none s h k hlt)
            · exact h
          simp [this]
        subst hf
        go_wp2
        go_ret
        exact ⟨rfl, rfl⟩
      · have hb : ((g.toNat : Int) == 0) = false := by rw [beq_eq_false_iff_ne]; intro h; exact h0 (UInt8.toNat_inj.1 (by simpa using (by omega : g.toNat = 0)))
        clear h0
        go_wp2
        go_round
        case rel =>
          refine ⟨k + 1, by omega, by go_num, (fun j hj => ?_ : ∀ j, j < k + 1 → s.getD j 0 ≠ 0)⟩
          by_cases hjk : j = k
          · subst hjk; rw [HG.out]; intro h; subst h; simp at hb
          · exact hz.out j (by omega)
        case measure => simp [intOf]; omega
    · obtain rfl : k = s.length := by omega
      have hf : r = false := by
        rw [← HR.out]
        rcases Int.lt_or_le (Lib.indexByte s 0) 0 with h | h
        · exact dec_f (by omega)
        · obtain ⟨j, hj, h0⟩ := Plain.indexByte_some s h; exact absurd h0 (hz.out j hj)
      subst hf
      clear hz
      go_wp2
      go_ret
      exact ⟨rfl, rfl⟩
set_option maxHeartbeats 1600000 in
theorem RefSplit_any (l : List UInt8) (w : World) (hl : l.length ≤ 140737488351232) :
    Calls Tryd.prog 32 #[.string ⟨l.toArray⟩] w fun e w' => e = .returned (splitV (Plain.split l)) ∧ Below w.heap.size w w' := by
  have HN := Lib.hid (fun w => Nul_any l w hl)
  by_cases c1 : l = []
  · subst c1
    rw [show Plain.split [] = ([], [], 43) from rfl]
    go_enter Tryd.func32, Tryd.ntmps32
    go_wp2
    go_ret3
    exact ⟨rfl, Below.refl _ _⟩
  · have c1b : l.isEmpty = false := by simpa using c1
    by_cases c2 : 0 ≤ Lib.indexByte l 0
    · have hsp : Plain.split l = ([], [], 43) := by unfold Plain.split; rw [if_neg c1, if_pos c2]
      rw [hsp]
      have hd : decide (0 ≤ Lib.indexByte l 0) = true := dec_t c2
      rw [hd] at HN
      clear hsp c2 hd c1
      go_enter Tryd.func32, Tryd.ntmps32
      go_wp2_with (go_at_call 54; (with_reducible refine (HN.out _).mono ?_); rintro e w1 ⟨rfl, hw⟩; obtain rfl := hw)
      go_ret3
      exact ⟨rfl, Below.refl _ _⟩
    · have hd : decide (0 ≤ Lib.indexByte l 0) = false := dec_f c2
      rw [hd] at HN
      clear hd
      by_cases c3 : l.length ≤ 100
      · have hsp : Plain.split l = ([], l, 0) := by unfold Plain.split; rw [if_neg c1, if_neg c2, if_pos c3]
        rw [hsp]
        clear hsp c2 c1
        go_enter Tryd.func32, Tryd.ntmps32
        go_wp2_with (go_at_call 54; (with_reducible refine (HN.out _).mono ?_); rintro e w1 ⟨rfl, hw⟩; obtain rfl := hw)
        go_ret3
        exact ⟨rfl, Below.refl _ _⟩
      · have hln : 100 < l.length := by omega
        have HF := Lib.hid (fun A h => AtI.fin (A := A) hln h)
        have hsp : Plain.split l = if Plain.stroke l < 1 then ([], [], 43) else if 100 < (l.length : Int) - Plain.stroke l - 1 then ([], [], 43) else (l.take (Plain.stroke l).toNat, l.drop ((Plain.stroke l).toNat + 1), 0) := by
          unfold Plain.split; rw [if_neg c1, if_neg c2, if_neg c3]
        generalize hs : Plain.split l = r at *
        generalize Plain.stroke l = st at *
        have HSP := Lib.hid hsp
        clear hsp c2 c1 hs
        go_enter Tryd.func32, Tryd.ntmps32
        go_wp2_with (go_at_call 54; (with_reducible refine (HN.out _).mono ?_); rintro e w1 ⟨rfl, hw⟩; obtain rfl := hw)
        go_loop [5, 6] (fun a i => ∃ (k : Nat) (A : Int), 1 ≤ k ∧ k ≤ 156 ∧ k + 1 ≤ l.length ∧ i = .int .i64 k ∧ a = .int .i64 A ∧ Hid (AtI l k A)) (fun _ i => 156 - (intOf i).toNat)
        case atStart => exact ⟨1, -1, by omega, by omega, by omega, rfl, rfl, Lib.hid (AtI.start l)⟩
        case round =>
          obtain ⟨k, A, hk1, hk2, hk3, rfl, rfl, hA⟩ := hrel
          by_cases hlt : k ≤ 155 ∧ k + 1 < l.length
          · obtain ⟨h155, hkl⟩ := hlt
            have hki : (k : Int) ≤ 155 := by omega
            have hkn : (k : Int) < (l.length : Int) - 1 := by omega
            have hkn2 : (k : Int) < (l.length : Int) := by omega
            have hx := str_at l k (by omega)
            have hsa : strokeAt l k ↔ (l.getD k 0 = 47 ∧ l.length - k - 1 ≤ 100) := Iff.rfl
            have HY := Lib.hid (fun h => hA.out.yes hk1 h)
            have HNO := Lib.hid (fun h => hA.out.no h)
            generalize l.getD k 0 = g at *
            generalize strokeAt l k = SA at *
            have ways : ((((g.toNat : Int) == 47) = true ∧ (l.length : Int) - k - 1 ≤ 100) ∧ SA) ∨ (((g.toNat : Int) == 47) = false ∧ ¬ SA) ∨ ((((g.toNat : Int) == 47) = true ∧ ¬ (l.length : Int) - k - 1 ≤ 100) ∧ ¬ SA) := by
              by_cases h47 : g = 47
              · by_cases h100 : l.length - k - 1 ≤ 100
                · exact .inl ⟨⟨by rw [h47]; rfl, by omega⟩, hsa.2 ⟨h47, h100⟩⟩
                · exact .inr (.inr ⟨⟨by rw [h47]; rfl, by omega⟩, fun h => h100 (hsa.1 h).2⟩)
              · exact .inr (.inl ⟨by rw [beq_eq_false_iff_ne]; intro h; exact h47 (UInt8.toNat_inj.1 (by simpa using (by omega : g.toNat = 47))), fun h => h47 (hsa.1 h).1⟩)
            clear hsa hA
            rcases ways with ⟨⟨y1, y2⟩, hs⟩ | ⟨y1, hs⟩ | ⟨⟨y1, y2⟩, hs⟩
            · have HI := Lib.hid (HY.out hs)
              clear hs HY HNO
              go_wp2
              go_round
              case rel => exact ⟨k + 1, k, by omega, by omega, by omega, by go_num, rfl, HI⟩
              case measure => simp [intOf]; omega
            · have HI := Lib.hid (HNO.out hs)
              clear hs HY HNO
              go_wp2
              go_round
              case rel => exact ⟨k + 1, A, by omega, by omega, by omega, by go_num, rfl, HI⟩
              case measure => simp [intOf]; omega
            · have HI := Lib.hid (HNO.out hs)
              clear hs HY HNO
              go_wp2
              go_round
              case rel => exact ⟨k + 1, A, by omega, by omega, by omega, by go_num, rfl, HI⟩
              case measure => simp [intOf]; omega
          · have hmin : k = min 156 (l.length - 1) := by omega
            have hA2 := hA.out
            rw [hmin] at hA2
            have hfin := HF.out A hA2
            have hout : ¬ (k : Int) ≤ 155 ∨ ((k : Int) ≤ 155 ∧ ¬ (k : Int) < (l.length : Int) - 1) := by omega
            obtain ⟨hb1, hb2⟩ := hA.out.bd
            clear hA hA2 HF hmin hlt
            have hr := HSP.out
            rcases hfin with ⟨rfl, hbad⟩ | ⟨h1, rfl, h2, h3⟩
            · have hr2 : r = ([], [], 43) := by
                rw [hr]
                by_cases h4 : st < 1
                · rw [if_pos h4]
                · rw [if_neg h4, if_pos (by omega)]
              subst hr2
              clear hr HSP hbad
              rcases hout with ho | ⟨ho, ho2⟩
              all_goals
                go_wp2
                go_ret3
                exact ⟨rfl, Below.refl _ _⟩
            · rw [if_neg (by omega), if_neg (by omega)] at hr
              obtain ⟨m, rfl⟩ := Int.eq_ofNat_of_zero_le (by omega : 0 ≤ A)
              rw [Int.toNat_natCast] at hr
              subst hr
              have hAlt : (m : Int) < l.length := by omega
              clear HSP
              have hm0 : ¬ (m : Int) < 0 := by omega
              rcases hout with ho | ⟨ho, ho2⟩
              all_goals
                go_wp2
                go_quiet (fail)
                go_wp2
                go_ret3
                refine ⟨?_, Below.drewN (Below.refl _ _) _⟩
                have e1 : ((⟨l.toArray⟩ : ByteArray).extract 0 m) = ⟨(l.take m).toArray⟩ := by rw [ByteArray.extract_mk]; simp
                have e2 : ((⟨l.toArray⟩ : ByteArray).extract (m + 1) l.length) = ⟨(l.drop (m + 1)).toArray⟩ := by
                  rw [ByteArray.extract_mk, List.take_of_length_le (by simp)]
                simp [splitV, e1, e2]
end Go.Proofs.YtjchaogfmnabfaaDoor
