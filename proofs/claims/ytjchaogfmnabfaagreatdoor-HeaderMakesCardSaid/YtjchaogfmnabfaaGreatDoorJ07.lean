/-
  J07: HdrSplit, HdrForms, HdrLaws, HdrRound, joined.
-/
import Derived.Test.YtjchaogfmnabfaaGreatDoorJ02
import Derived.Test.YtjchaogfmnabfaaGreatDoorJ03
import Derived.Test.YtjchaogfmnabfaaGreatDoorHdrGood
import Derived.Test.YtjchaogfmnabfaaGreatDoorHdrRef
import Derived.Test.YtjchaogfmnabfaaGreatDoorJ04
import Derived.Test.YtjchaogfmnabfaaGreatDoorHdrMkWalk
namespace Go.Proofs.YtjchaogfmnabfaaGreatDoor
set_option linter.unusedVariables false
set_option linter.unusedSimpArgs false
open Go.ChangeShapes Go.WideShapes Go.ChangeAt Go.RowKit
/-- the stroke as the loop finds it -/
def strokeAt (l : List UInt8) (j : Nat) : Prop := l.getD j 0 = 47 ∧ l.length - j - 1 ≤ 100
def AtI (l : List UInt8) (k : Nat) (A : Int) : Prop :=
  (A = -1 ∧ ∀ j, 1 ≤ j → j < k → ¬ strokeAt l j) ∨ (∃ m : Nat, A = m ∧ 1 ≤ m ∧ m < k ∧ strokeAt l m ∧ ∀ j, m < j → j < k → ¬ strokeAt l j)
theorem AtI.start (l : List UInt8) : AtI l 1 (-1) := .inl ⟨rfl, fun j h1 h2 => by omega⟩
theorem AtI.yes {l : List UInt8} {k : Nat} {A : Int} (h : AtI l k A) (hk : 1 ≤ k) (hs : strokeAt l k) : AtI l (k + 1) k := .inr ⟨k, rfl, hk, by omega, hs, fun j h1 h2 => by omega⟩
theorem AtI.no {l : List UInt8} {k : Nat} {A : Int} (h : AtI l k A) (hs : ¬ strokeAt l k) : AtI l (k + 1) A := by
  rcases h with ⟨h1, h2⟩ | ⟨m, h1, h2, h3, h4, h5⟩
  · exact .inl ⟨h1, fun j a b => by
      by_cases e : j = k
      · subst e; exact hs
      · exact h2 j a (by omega)⟩
  · exact .inr ⟨m, h1, h2, by omega, h4, fun j a b => by
      by_cases e : j = k
      · subst e; exact hs
      · exact h5 j a (by omega)⟩
theorem AtI.bd {l : List UInt8} {k : Nat} {A : Int} (h : AtI l k A) : -1 ≤ A ∧ A < k := by
  rcases h with ⟨h1, h2⟩ | ⟨m, h1, h2, h3, _⟩ <;> omega
theorem AtI.fin {l : List UInt8} {A : Int} (hl : 100 < l.length) (h : AtI l (min 156 (l.length - 1)) A) :
    (A = -1 ∧ (Plain.stroke l < 1 ∨ 100 < (l.length : Int) - Plain.stroke l - 1)) ∨ (1 ≤ A ∧ A = Plain.stroke l ∧ ¬ Plain.stroke l < 1 ∧ ¬ 100 < (l.length : Int) - Plain.stroke l - 1) := by
  have hst := Plain.stroke_spec l
  rcases h with ⟨h1, h2⟩ | ⟨m, h1, h2, h3, h4, h5⟩
  · left
    refine ⟨h1, ?_⟩
    rcases hst with ⟨hs, _⟩ | ⟨i, hi, hs, h47, _⟩
    · left; omega
    · by_cases hi0 : i < 1
      · left; omega
      · right
        have := h2 i (by omega) hi
        unfold strokeAt at this
        have h3 : ¬ (l.length - i - 1 ≤ 100) := fun h => this ⟨h47, h⟩
        omega
  · right
    obtain ⟨h47, h100⟩ := h4
    rcases hst with ⟨hs, hn⟩ | ⟨i, hi, hs, hi47, hn⟩
    · exact absurd h47 (hn m h3)
    · have hmi : m = i := by
        by_cases hlt : m < i
        · exact absurd ⟨hi47, by omega⟩ (h5 i hlt hi)
        · by_cases hgt : i < m
          · exact absurd h47 (hn m hgt h3)
          · omega
      subst hmi
      refine ⟨by omega, by omega, by omega, by omega⟩
theorem nulB_iff (l : List UInt8) : decide ((0 : UInt8) ∈ l) = decide (0 ≤ Lib.indexByte l 0) := by
  rw [decide_eq_decide]
  constructor
  · intro h
    rcases Int.lt_or_le (Lib.indexByte l 0) 0 with h0 | h0
    · exfalso
      obtain ⟨k, hk, he⟩ := List.getElem_of_mem h
      exact Plain.indexByte_none l h0 k hk (by simp [List.getD, List.getElem?_eq_getElem hk, he])
    · exact h0
  · intro h
    obtain ⟨j, hj, h0⟩ := Plain.indexByte_some l h
    have : l[j] = 0 := by simpa [List.getD, List.getElem?_eq_getElem hj] using h0
    rw [← this]; exact List.getElem_mem hj
set_option maxHeartbeats 800000 in
theorem Nul_any (s : List UInt8) (w : World) (hl : s.length ≤ 140737488351232) :
    Calls Tryz.prog 15 #[.string ⟨s.toArray⟩] w fun e w' => e = .returned (.bool (decide (0 ≤ Lib.indexByte s 0))) ∧ w = w' := by
  generalize hr : decide (0 ≤ Lib.indexByte s 0) = r
  have HR := Lib.hid hr; clear hr
  go_enter Tryz.func15, Tryz.ntmps15
  go_wp2
  go_loop [3] (fun i => ∃ k : Nat, k ≤ s.length ∧ i = .int .i64 k ∧ Hid (∀ j, j < k → s.getD j 0 ≠ 0)) (fun i => s.length - (intOf i).toNat)
  case atStart => exact ⟨0, by omega, rfl, (fun j hj => absurd hj (Nat.not_lt_zero j) : ∀ j, j < 0 → s.getD j 0 ≠ 0)⟩
  case round =>
    obtain ⟨k, hk, rfl, hz⟩ := hrel
    by_cases hlt : k < s.length
    · have hkn : (k : Int) < (s.length : Int) := by omega
      have hx := str_at s k hlt
      generalize hg : s.getD k 0 = g at hx
      have HG := Lib.hid hg; clear hg
      by_cases h0 : g = 0
      · subst h0
        have hf : r = true := by
          rw [← HR.out]
          have : 0 ≤ Lib.indexByte s 0 := by
            rcases Int.lt_or_le (Lib.indexByte s 0) 0 with h | h
            · exact absurd HG.out (Plain.indexByte_none s h k hlt)
            · exact h
          simp [this]
        subst hf
        go_wp2
        go_ret
        exact ⟨rfl, rfl⟩
      · have hb : ((g.toNat : Int) == 0) = false := by rw [beq_eq_false_iff_ne]; intro h; exact h0 (UInt8.toNat_inj.1 (by simpa using (by omega : g.toNat = 0)))
        clear h0
        go_wp2
        go_round
        case rel =>
          refine ⟨k + 1, by omega, by go_num, (fun j hj => ?_ : ∀ j, j < k + 1 → s.getD j 0 ≠ 0)⟩
          by_cases hjk : j = k
          · subst hjk; rw [HG.out]; intro h; subst h; simp at hb
          · exact hz.out j (by omega)
        case measure => simp [intOf]; omega
    · obtain rfl : k = s.length := by omega
      have hf : r = false := by
        rw [← HR.out]
        rcases Int.lt_or_le (Lib.indexByte s 0) 0 with h | h
        · exact dec_f (by omega)
        · obtain ⟨j, hj, h0⟩ := Plain.indexByte_some s h; exact absurd h0 (hz.out j hj)
      subst hf
      clear hz
      go_wp2
      go_ret
      exact ⟨rfl, rfl⟩
set_option maxHeartbeats 1600000 in
theorem RefSplit_any (l : List UInt8) (w : World) (hl : l.length ≤ 140737488351232) :
    Calls Tryz.prog 14 #[.string ⟨l.toArray⟩] w fun e w' => e = .returned (splitV (Plain.split l)) ∧ Below w.heap.size w w' := by
  have HN := Lib.hid (fun w => Nul_any l w hl)
  by_cases c1 : l = []
  · subst c1
    rw [show Plain.split [] = ([], [], 43) from rfl]
    go_enter Tryz.func14, Tryz.ntmps14
    go_wp2
    go_ret3
    exact ⟨rfl, Below.refl _ _⟩
  · have c1b : l.isEmpty = false := by simpa using c1
    by_cases c2 : 0 ≤ Lib.indexByte l 0
    · have hsp : Plain.split l = ([], [], 43) := by unfold Plain.split; rw [if_neg c1, if_pos c2]
      rw [hsp]
      have hd : decide (0 ≤ Lib.indexByte l 0) = true := dec_t c2
      rw [hd] at HN
      clear hsp c2 hd c1
      go_enter Tryz.func14, Tryz.ntmps14
      go_wp2_with (go_at_call 15; (with_reducible refine (HN.out _).mono ?_); rintro e w1 ⟨rfl, hw⟩; obtain rfl := hw)
      go_ret3
      exact ⟨rfl, Below.refl _ _⟩
    · have hd : decide (0 ≤ Lib.indexByte l 0) = false := dec_f c2
      rw [hd] at HN
      clear hd
      by_cases c3 : l.length ≤ 100
      · have hsp : Plain.split l = ([], l, 0) := by unfold Plain.split; rw [if_neg c1, if_neg c2, if_pos c3]
        rw [hsp]
        clear hsp c2 c1
        go_enter Tryz.func14, Tryz.ntmps14
        go_wp2_with (go_at_call 15; (with_reducible refine (HN.out _).mono ?_); rintro e w1 ⟨rfl, hw⟩; obtain rfl := hw)
        go_ret3
        exact ⟨rfl, Below.refl _ _⟩
      · have hln : 100 < l.length := by omega
        have HF := Lib.hid (fun A h => AtI.fin (A := A) hln h)
        have hsp : Plain.split l = if Plain.stroke l < 1 then ([], [], 43) else if 100 < (l.length : Int) - Plain.stroke l - 1 then ([], [], 43) else (l.take (Plain.stroke l).toNat, l.drop ((Plain.stroke l).toNat + 1), 0) := by
          unfold Plain.split; rw [if_neg c1, if_neg c2, if_neg c3]
        generalize hs : Plain.split l = r at *
        generalize Plain.stroke l = st at *
        have HSP := Lib.hid hsp
        clear hsp c2 c1 hs
        go_enter Tryz.func14, Tryz.ntmps14
        go_wp2_with (go_at_call 15; (with_reducible refine (HN.out _).mono ?_); rintro e w1 ⟨rfl, hw⟩; obtain rfl := hw)
        go_loop [5, 6] (fun a i => ∃ (k : Nat) (A : Int), 1 ≤ k ∧ k ≤ 156 ∧ k + 1 ≤ l.length ∧ i = .int .i64 k ∧ a = .int .i64 A ∧ Hid (AtI l k A)) (fun _ i => 156 - (intOf i).toNat)
        case atStart => exact ⟨1, -1, by omega, by omega, by omega, rfl, rfl, Lib.hid (AtI.start l)⟩
        case round =>
          obtain ⟨k, A, hk1, hk2, hk3, rfl, rfl, hA⟩ := hrel
          by_cases hlt : k ≤ 155 ∧ k + 1 < l.length
          · obtain ⟨h155, hkl⟩ := hlt
            have hki : (k : Int) ≤ 155 := by omega
            have hkn : (k : Int) < (l.length : Int) - 1 := by omega
            have hkn2 : (k : Int) < (l.length : Int) := by omega
            have hx := str_at l k (by omega)
            have hsa : strokeAt l k ↔ (l.getD k 0 = 47 ∧ l.length - k - 1 ≤ 100) := Iff.rfl
            have HY := Lib.hid (fun h => hA.out.yes hk1 h)
            have HNO := Lib.hid (fun h => hA.out.no h)
            generalize l.getD k 0 = g at *
            generalize strokeAt l k = SA at *
            have ways : ((((g.toNat : Int) == 47) = true ∧ (l.length : Int) - k - 1 ≤ 100) ∧ SA) ∨ (((g.toNat : Int) == 47) = false ∧ ¬ SA) ∨ ((((g.toNat : Int) == 47) = true ∧ ¬ (l.length : Int) - k - 1 ≤ 100) ∧ ¬ SA) := by
              by_cases h47 : g = 47
              · by_cases h100 : l.length - k - 1 ≤ 100
                · exact .inl ⟨⟨by rw [h47]; rfl, by omega⟩, hsa.2 ⟨h47, h100⟩⟩
                · exact .inr (.inr ⟨⟨by rw [h47]; rfl, by omega⟩, fun h => h100 (hsa.1 h).2⟩)
              · exact .inr (.inl ⟨by rw [beq_eq_false_iff_ne]; intro h; exact h47 (UInt8.toNat_inj.1 (by simpa using (by omega : g.toNat = 47))), fun h => h47 (hsa.1 h).1⟩)
            clear hsa hA
            rcases ways with ⟨⟨y1, y2⟩, hs⟩ | ⟨y1, hs⟩ | ⟨⟨y1, y2⟩, hs⟩
            · have HI := Lib.hid (HY.out hs)
              clear hs HY HNO
              go_wp2
              go_round
              case rel => exact ⟨k + 1, k, by omega, by omega, by omega, by go_num, rfl, HI⟩
              case measure => simp [intOf]; omega
            · have HI := Lib.hid (HNO.out hs)
              clear hs HY HNO
              go_wp2
              go_round
              case rel => exact ⟨k + 1, A, by omega, by omega, by omega, by go_num, rfl, HI⟩
              case measure => simp [intOf]; omega
            · have HI := Lib.hid (HNO.out hs)
              clear hs HY HNO
              go_wp2
              go_round
              case rel => exact ⟨k + 1, A, by omega, by omega, by omega, by go_num, rfl, HI⟩
              case measure => simp [intOf]; omega
          · have hmin : k = min 156 (l.length - 1) := by omega
            have hA2 := hA.out
            rw [hmin] at hA2
            have hfin := HF.out A hA2
            have hout : ¬ (k : Int) ≤ 155 ∨ ((k : Int) ≤ 155 ∧ ¬ (k : Int) < (l.length : Int) - 1) := by omega
            obtain ⟨hb1, hb2⟩ := hA.out.bd
            clear hA hA2 HF hmin hlt
            have hr := HSP.out
            rcases hfin with ⟨rfl, hbad⟩ | ⟨h1, rfl, h2, h3⟩
            · have hr2 : r = ([], [], 43) := by
                rw [hr]
                by_cases h4 : st < 1
                · rw [if_pos h4]
                · rw [if_neg h4, if_pos (by omega)]
              subst hr2
              clear hr HSP hbad
              rcases hout with ho | ⟨ho, ho2⟩
              all_goals
                go_wp2
                go_ret3
                exact ⟨rfl, Below.refl _ _⟩
            · rw [if_neg (by omega), if_neg (by omega)] at hr
              obtain ⟨m, rfl⟩ := Int.eq_ofNat_of_zero_le (by omega : 0 ≤ A)
              rw [Int.toNat_natCast] at hr
              subst hr
              have hAlt : (m : Int) < l.length := by omega
              clear HSP
              have hm0 : ¬ (m : Int) < 0 := by omega
              rcases hout with ho | ⟨ho, ho2⟩
              all_goals
                go_wp2
                go_quiet (fail)
                go_wp2
                go_ret3
                refine ⟨?_, Below.drewN (Below.refl _ _) _⟩
                have e1 : ((⟨l.toArray⟩ : ByteArray).extract 0 m) = ⟨(l.take m).toArray⟩ := by rw [ByteArray.extract_mk]; simp
                have e2 : ((⟨l.toArray⟩ : ByteArray).extract (m + 1) l.length) = ⟨(l.drop (m + 1)).toArray⟩ := by
                  rw [ByteArray.extract_mk, List.take_of_length_le (by simp)]
                simp [splitV, e1, e2]
end Go.Proofs.YtjchaogfmnabfaaGreatDoor
namespace Go.Proofs.YtjchaogfmnabfaaGreatDoor
set_option linter.unusedVariables false
set_option linter.unusedSimpArgs false
def z8 : List UInt8 := [0, 0, 0, 0, 0, 0, 0, 0]
/-- the magic wiped, sealed anew -/
def wiped (l : List UInt8) : List UInt8 := Plain.seal (lay l 257 z8)
theorem wiped_fld (l : List UInt8) (hl : l.length = 512) (s e : Nat) (he : e ≤ 512) (h1 : e ≤ 148 ∨ 156 ≤ s) (h2 : e ≤ 257 ∨ 265 ≤ s) : fld (wiped l) s e = fld l s e := by
  have hl2 : (lay l 257 z8).length = 512 := by rw [lay_len _ _ _ (by rw [hl]; decide), hl]
  unfold wiped
  rw [seal_lay, fld_lay _ _ _ _ _ (by rw [sealRow_len, hl2]; decide) (by omega) (by rw [sealRow_len]; omega), fld_lay _ _ _ _ _ (by rw [hl]; decide) (by omega) h2]
theorem wiped_read (l : List UInt8) (hl : l.length = 512) (h : (Plain.hread l).2 = 0) :
    (Plain.hread (wiped l)).2 = 0 ∧ (Plain.hread (wiped l)).1.form = 1 ∧ (¬ ((Plain.hread l).1.form = 2 ∧ l.getD 345 0 ≠ 0) →
      (Plain.hread (wiped l)).1 = { (Plain.hread l).1 with form := 1, user := [], group := [], major := 0, minor := 0 }) := by
  have hl2 : (lay l 257 z8).length = 512 := by rw [lay_len _ _ _ (by rw [hl]; decide), hl]
  have hsl := seal_len _ hl2
  have hsd := seal_sealed _ hl2
  have f0 := wiped_fld l hl 0 100 (by decide) (by decide) (by decide)
  have f1 := wiped_fld l hl 100 108 (by decide) (by decide) (by decide)
  have f2 := wiped_fld l hl 108 116 (by decide) (by decide) (by decide)
  have f3 := wiped_fld l hl 116 124 (by decide) (by decide) (by decide)
  have f4 := wiped_fld l hl 124 136 (by decide) (by decide) (by decide)
  have f5 := wiped_fld l hl 136 148 (by decide) (by decide) (by decide)
  have f7 := wiped_fld l hl 156 157 (by decide) (by decide) (by decide)
  have f8 := wiped_fld l hl 157 257 (by decide) (by decide) (by decide)
  have f9 : fld (wiped l) 257 265 = z8 := by
    unfold wiped
    rw [seal_lay, fld_lay _ _ _ _ _ (by rw [sealRow_len, hl2]; decide) (by omega) (by rw [sealRow_len]; omega)]
    exact fld_lay_in l 257 z8 265 (by rw [hl]; decide) rfl
  have f6 : (wiped l).getD 148 0 = (octRow (Plain.sum uby (lay l 257 z8)).toNat 6 ++ [0, 32]).getD 0 0 := by
    unfold wiped
    rw [seal_lay, lay_getD _ _ _ (by rw [sealRow_len, hl2]; decide), sealRow_len, if_pos (by decide)]
  have hz : ¬ wiped l = zblk := by
    intro e
    rw [e] at f6
    have h0 : zblk.getD 148 0 = 0 := by decide +kernel
    have h48 : ((octRow (Plain.sum uby (lay l 257 z8)).toNat 6 ++ [0, 32]).getD 0 0) = octDig (Plain.sum uby (lay l 257 z8)).toNat 5 := by
      unfold octRow; rw [placeRow_succ]; rfl
    rw [h0, h48] at f6
    have := (isOct_iff _).1 (octDig_oct (Plain.sum uby (lay l 257 z8)).toNat 5)
    rw [← f6] at this
    simp at this
  have ht : (wiped l).getD 156 0 = l.getD 156 0 := by
    have a := fld_getD (wiped l) 156 157 0 (by decide)
    have b := fld_getD l 156 157 0 (by decide)
    rw [f7] at a
    exact a.symm.trans b
  have hty : tyOf (wiped l) = tyOf l := by unfold tyOf; rw [ht]
  have hform : formOf (wiped l) = 1 := by unfold formOf; rw [f9, if_neg (by decide), if_neg (by decide)]
  have hdev : isDev (wiped l) = false := by unfold isDev; rw [hform]; simp
  have n1 : numAt (wiped l) 100 108 = numAt l 100 108 := by unfold numAt; rw [f1]
  have n2 : numAt (wiped l) 108 116 = numAt l 108 116 := by unfold numAt; rw [f2]
  have n3 : numAt (wiped l) 116 124 = numAt l 116 124 := by unfold numAt; rw [f3]
  have n4 : numAt (wiped l) 124 136 = numAt l 124 136 := by unfold numAt; rw [f4]
  have n5 : numAt (wiped l) 136 148 = numAt l 136 148 := by unfold numAt; rw [f5]
  unfold Plain.hread at h
  by_cases c1 : l = zblk
  · rw [if_pos c1] at h; cases h
  · rw [if_neg c1] at h
    by_cases c2 : Plain.sealed l = false
    · rw [if_pos c2] at h; cases h
    · rw [if_neg c2] at h
      by_cases c3 : numsOk l = false
      · rw [if_pos c3] at h; cases h
      · have e1 : Plain.hread l = (hdOf l, 0) := by unfold Plain.hread; rw [if_neg c1, if_neg c2, if_neg c3]
        have c4 : ¬ numsOk (wiped l) = false := by
          intro e
          apply c3
          unfold numsOk at e ⊢
          rw [n1, n2, n3, n4, n5, hdev] at e
          rw [Bool.not_false, Bool.true_or, Bool.and_true] at e
          rw [e, Bool.false_and]
        have e2 : Plain.hread (wiped l) = (hdOf (wiped l), 0) := by
          unfold Plain.hread; rw [if_neg hz, if_neg (by unfold wiped; rw [hsd]; decide), if_neg c4]
        rw [e1, e2]
        refine ⟨rfl, hform, fun hn => ?_⟩
        have hname : nameOf (wiped l) = nameOf l := by
          unfold nameOf
          rw [hform, f0, if_neg (by rintro ⟨a, _⟩; cases a), if_neg]
          rintro ⟨a, b⟩
          refine hn ⟨a, fun e => b ?_⟩
          have hg := fld_getD l 345 500 0 (by decide)
          rw [Nat.add_zero, e] at hg
          have hlen := fld_len l 345 500 (by omega)
          cases hq : fld l 345 500 with
          | nil => rfl
          | cons c r =>
            rw [hq] at hg
            simp at hg
            exact Plain.text_zero c r hg
        unfold hdOf
        simp only [hname, f8, n1, n2, n3, n4, n5, hty, hform, hdev, if_true, Bool.false_eq_true, if_false]
end Go.Proofs.YtjchaogfmnabfaaGreatDoor
namespace Go.Proofs.YtjchaogfmnabfaaGreatDoor
set_option linter.unusedVariables false
set_option linter.unusedSimpArgs false
open Go.ChangeShapes Go.WideShapes Go.ChangeAt Go.RowKit
theorem HRead_any (l : List UInt8) (hl : l.length = 512) (w : World) (ev : Value) (hE : ErrIs w ev) :
    Calls Tryz.prog 7 #[.agg (rowA l)] w fun e w' => e = .returned (hdRes (Plain.hread l)) ∧ Below w.heap.size w w' := by
  by_cases hz : l = zblk
  · exact HRead_no l hl w ev hE (.inl hz)
  · by_cases hs : Plain.sealed l = false
    · exact HRead_no l hl w ev hE (.inr hs)
    · exact HRead_good l hl w ev hE hz (by simpa using hs)
set_option maxRecDepth 100000 in
theorem eqIn_hd (x : Hd) (w : World) : (Op.equalIn 10000 23 (.agg (hdC x)) (.agg (hdC x))).run Tryz.prog w = .ok true w := by
  rw [run_equalIn_agg w 9999 23 _ _ (by kernel_rfl) (by kernel_rfl)]
  have hs : ∀ (d : Nat) (a b : ByteArray), (Op.equalIn (d + 1) 9 (.string a) (.string b)).run Tryz.prog w = .ok (a.toList == b.toList) w := fun d a b => run_equalIn_string w d 9 a b Tryz.underlying9
  have hi : ∀ (d : Nat) (a b : Int), (Op.equalIn (d + 1) 3 (.int .i64 a) (.int .i64 b)).run Tryz.prog w = .ok (a == b) w := fun d a b => run_equalIn_int w d 3 .i64 .i64 a b Tryz.underlying3
  have hu : ∀ (d : Nat) (a b : Int), (Op.equalIn (d + 1) 5 (.int .u8 a) (.int .u8 b)).run Tryz.prog w = .ok (a == b) w := fun d a b => run_equalIn_int w d 5 .u8 .u8 a b Tryz.underlying5
  have ps : ∀ (cs : Array Value) (k : Nat) (v : Value), cs[k]? = some v → (part 9 cs k).run Tryz.prog w = .ok v w := fun cs k v h => by simp [part, isAgg, run_underlying Tryz.underlying9, h]
  have pi : ∀ (cs : Array Value) (k : Nat) (v : Value), cs[k]? = some v → (part 3 cs k).run Tryz.prog w = .ok v w := fun cs k v h => by simp [part, isAgg, run_underlying Tryz.underlying3, h]
  have pu : ∀ (cs : Array Value) (k : Nat) (v : Value), cs[k]? = some v → (part 5 cs k).run Tryz.prog w = .ok v w := fun cs k v h => by simp [part, isAgg, run_underlying Tryz.underlying5, h]
  have p0 := ps (hdC x) 0 (.string ⟨x.name.toArray⟩) rfl
  have p1 := ps (hdC x) 1 (.string ⟨x.link.toArray⟩) rfl
  have p2 := pi (hdC x) 2 (.int .i64 x.mode) rfl
  have p3 := pi (hdC x) 3 (.int .i64 x.uid) rfl
  have p4 := pi (hdC x) 4 (.int .i64 x.gid) rfl
  have p5 := pi (hdC x) 5 (.int .i64 x.size) rfl
  have p6 := pi (hdC x) 6 (.int .i64 x.mtime) rfl
  have p7 := pu (hdC x) 7 (.int .u8 (x.ty.toNat : Int)) rfl
  have p8 := ps (hdC x) 8 (.string ⟨x.user.toArray⟩) rfl
  have p9 := ps (hdC x) 9 (.string ⟨x.group.toArray⟩) rfl
  have p10 := pi (hdC x) 10 (.int .i64 x.major) rfl
  have p11 := pi (hdC x) 11 (.int .i64 x.minor) rfl
  have p12 := pi (hdC x) 12 (.int .i64 x.form) rfl
  clear ps pi pu
  generalize hdC x = C at *
  simp [Program.fieldsOf, Tryz.underlying23, Op.eqFields, p0, p1, p2, p3, p4, p5, p6, p7, p8, p9, p10, p11, p12, hs 9998, hi 9998, hu 9998]
theorem eql_hd (x : Hd) (w : World) : (binOp .eql 23 (.agg (hdC x)) (.agg (hdC x))).run Tryz.prog w = .ok (.bool true) w := by
  rw [run_eql_struct, eqIn_hd]; rfl
theorem zeroHd : (Tryz.prog.info? 23).bind (·.zero) = some (.agg (hdC Hd.zero)) := by kernel_rfl
theorem guardHd : Tryz.prog.eqGuardType Tryz.prog.depth 23 = false := by kernel_rfl
def oneL : List UInt8 := [111, 110, 101]
theorem alive_read : (Plain.hread (Plain.seal (ofL oneL))).2 = 0 ∧ (Plain.hread (Plain.seal (ofL oneL))).1.name = oneL ∧ (Plain.hread (Plain.seal (ofL oneL))).1.ty = 48 ∧ (Plain.hread (Plain.seal (ofL oneL))).1.form = 1 := by decide +kernel
set_option maxRecDepth 100000 in
set_option maxHeartbeats 1600000 in
theorem Alive4_any (w : World) (ev : Value) (hE : ErrIs w ev) (hT : Bru w) : Calls Tryz.prog 4 #[] w fun e w' => e = .returned (.bool true) ∧ Below w.heap.size w w' := by
  have hv := alive_read
  have hm := ofL_len oneL
  have HS := Lib.hid (fun w hT => Seal_any (ofL oneL) hm w hT)
  have HR := Lib.hid (fun w hE => HRead_any (Plain.seal (ofL oneL)) (seal_len _ hm) w ev hE)
  have hb := (Below.refl w.heap.size w).alloc (Nat.le_refl _) (.cells #[.int .u8 111, .int .u8 110, .int .u8 101] 5 (3, 4))
  have HBS : Hid (Bs (w.alloc (.cells #[.int .u8 111, .int .u8 110, .int .u8 101] 5 (3, 4))) (some ⟨w.heap.size, 0, none⟩) 3 3 oneL) := Lib.hid (isSl_mark w 5 1 3 #[.int .u8 111, .int .u8 110, .int .u8 101] _ rfl (by unfold maxLen; omega))
  have HO := Lib.hid (fun (wx : World) (h : Bs wx (some ⟨w.heap.size, 0, none⟩) 3 3 oneL) => Of4_any _ 3 3 oneL wx h)
  generalize Plain.hread (Plain.seal (ofL oneL)) = r at *
  generalize Plain.seal (ofL oneL) = s at *
  generalize ofL oneL = m at *
  obtain ⟨x, r2⟩ := r
  obtain ⟨e1, e2, e3, e4⟩ := hv
  simp only at e1 e2 e3 e4
  have HB := Lib.hid hb; have HE := Lib.hid hE; have HT := Lib.hid hT
  subst e1
  have hc0 : (hdC x)[0]? = some (.string ⟨#[111, 110, 101]⟩) := by
    have : (hdC x)[0]? = some (.string ⟨x.name.toArray⟩) := rfl
    rw [this, e2]; rfl
  have hc7 : (hdC x)[7]? = some (.int .u8 48) := by
    have : (hdC x)[7]? = some (.int .u8 (x.ty.toNat : Int)) := rfl
    rw [this, e3]; rfl
  have hc12 : (hdC x)[12]? = some (.int .i64 1) := by
    have : (hdC x)[12]? = some (.int .i64 x.form) := rfl
    rw [this, e4]
  have HZ := Lib.hid zeroHd
  have HI := Lib.hid (hdInfo x); have HOC := Lib.hid (hdC_one x); have HSZ : Hid ((hdC Hd.zero).size = (hdC x).size) := Lib.hid rfl
  unfold hdRes at HR
  simp only at HR
  generalize hdC x = C at *
  have C0 := Lib.hid hc0; have C7 := Lib.hid hc7; have C12 := Lib.hid hc12
  clear hb hE hT hm e2 e3 e4 hc0 hc7 hc12
  have kc := fun (w : World) (C : Array Value) (n c : Nat) => Lib.run_convert_bytes_const (P := Tryz.prog) w 35 5 C n c Tryz.underlying35 Tryz.underlying5
  go_enter Tryz.func4, Tryz.ntmps4
  go_wp2_with fail
  refine (HO.out _ (by exact HBS.out)).mono ?_; rintro e w1 ⟨rfl, hb1⟩; have HB1 := Lib.hid (Below.seq HB.out hb1); clear hb1
  go_wp2_with fail
  refine (HS.out w1 (by exact HT.out.below HB1.out)).mono ?_; rintro e w2 ⟨rfl, hb2⟩; have HB2 := Lib.hid (Below.seq HB1.out hb2); clear hb2
  go_wp2_with fail
  refine (HR.out w2 (by exact HE.out.below HB2.out)).mono ?_; rintro e w3 ⟨rfl, hb3⟩; have HB3 := Lib.hid (Below.seq HB2.out hb3); clear hb3
  have hrow : (w3.alloc (.cells C 23)).heap[w3.heap.size]? = some (.cells C 23 (0, 0)) := heap_alloc_new w3 _
  have hc0 : (w3.alloc (.cells C 23)).cell? ⟨w3.heap.size, 0, none⟩ = some (.string ⟨#[111, 110, 101]⟩) := by rw [cell_of_row _ _ _ _ _ _ hrow]; exact C0.out
  have hc7 : (w3.alloc (.cells C 23)).cell? ⟨w3.heap.size, 7, none⟩ = some (.int .u8 48) := by rw [cell_of_row _ _ _ _ _ _ hrow]; exact C7.out
  have hc12 : (w3.alloc (.cells C 23)).cell? ⟨w3.heap.size, 12, none⟩ = some (.int .i64 1) := by rw [cell_of_row _ _ _ _ _ _ hrow]; exact C12.out
  have HB4 := Lib.hid (HB3.out.alloc HB3.out.size (.cells C 23))
  clear hrow
  go_upto_region 2 with (first
    | (with_reducible refine wpList_alloc_z rfl _ rfl (hdC Hd.zero) HZ.out ?_)
    | (with_reducible refine wpList_store_new rfl _ _ _ rfl _ rfl C rfl rfl HSZ.out HI.out HOC.out ?_))
  generalize w3.alloc (.cells C 23) = w4 at *
  generalize w3.heap.size = g at *
  go_wp2
  go_ret
  exact ⟨ret_bool (by rfl), HB4.out⟩
/-- a header in a block of its own -/
structure HdAt (g : Nat) (C : Array Value) (wr : World) : Prop where
  row : wr.heap[g]? = some (.cells C 23 (0, 0))
theorem HdAt.keep {g : Nat} {C : Array Value} {wr w' : World} (h : HdAt g C wr) (k : Below wr.heap.size wr w') : HdAt g C w' := ⟨by rw [k.block _ (Array.getElem?_eq_some_iff.1 h.row).1]; exact h.row⟩
theorem HdAt.new (w : World) (C : Array Value) : HdAt w.heap.size C (w.alloc (.cells C 23)) := ⟨heap_alloc_new w _⟩
end Go.Proofs.YtjchaogfmnabfaaGreatDoor
namespace Go.Proofs.YtjchaogfmnabfaaGreatDoor
set_option linter.unusedVariables false
set_option linter.unusedSimpArgs false
open Go.ChangeShapes Go.WideShapes Go.ChangeAt Go.RowKit
section
variable {P : Program} {ops : Array Oper} {rest : List Oper} {o : Oper} {a : Act} {w : World} {Q : Exit → Act → World → Prop}
/-- a guarded load of an aggregate -/
theorem wpList_load_row_h (hw : Region.wanted o (yielded ops a.tmps) = true) (ty : TypeId) (x : Operand) (ho : o.op = .load ty x)
    (g : Nat) (hx : a.eval x = .pointer (some ⟨g, 0, none⟩)) (t : TypeId) (cs : Array Value) (fr : Nat × Nat) (d : TypeDesc) (hg : w.heap[g]? = some (.cells cs t fr))
    (hu : P.underlying ty = some d) (hd : (match d with | .struct _ | .array _ _ => true | _ => false) = true) (hi : (P.info? ty).map (·.size) = some cs.size)
    (h : wpList P ops Q rest (a.put o.dst (.agg cs)) w) : wpList P ops Q (o :: rest) a w :=
  wpList_step fun _ hK => by rw [if_pos hw]; exact wp_load_row ty x ho g hx t cs fr d hg hu hd hi (hK _ _ h)
end
/-- the argument's variable -/
structure HB (w : World) (x : Hd) (wr : World) : Prop where
  bel : Below w.heap.size w wr
  row : wr.heap[w.heap.size]? = some (.cells (hdC x) 23 (0, 0))
theorem HB.new (w : World) (x : Hd) : HB w x (w.alloc (.cells (hdC x) 23)) := ⟨(Below.refl _ _).alloc (Nat.le_refl _) _, heap_alloc_new w _⟩
theorem HB.keep {w wr w' : World} {x : Hd} (h : HB w x wr) (k : Below wr.heap.size wr w') : HB w x w' := ⟨Below.seq h.bel k, by rw [k.block _ (Array.getElem?_eq_some_iff.1 h.row).1]; exact h.row⟩
theorem HB.cell {w wr : World} {x : Hd} (h : HB w x wr) (k : Nat) : wr.cell? ⟨w.heap.size, k, none⟩ = (hdC x)[k]? := by rw [cell_of_row _ _ _ _ _ _ h.row]
theorem HB.free {w wr : World} {x : Hd} (h : HB w x wr) (k : Nat) : wr.frozen? ⟨w.heap.size, k, none⟩ = false := frozen_of_row _ _ _ _ _ h.row
theorem HB.set {w wr : World} {x x' : Hd} (h : HB w x wr) (k : Nat) (v : Value) (e : (hdC x).setIfInBounds k v = hdC x') : HB w x' (wr.setCell ⟨w.heap.size, k, none⟩ v) :=
  ⟨h.bel.setCell (show w.heap.size ≤ (⟨w.heap.size, k, none⟩ : Addr).block from Nat.le_refl _) _, by rw [heap_setCell_same _ _ _ _ _ _ h.row, e]⟩
theorem HB.lt {w wr : World} {x : Hd} (h : HB w x wr) : w.heap.size < wr.heap.size := (Array.getElem?_eq_some_iff.1 h.row).1
theorem HdAt.setFar {g : Nat} {C : Array Value} {wr : World} (h : HdAt g C wr) {b k : Nat} (v : Value) (hne : g ≠ b) : HdAt g C (wr.setCell ⟨b, k, none⟩ v) := ⟨by rw [heap_setCell_other _ _ _ _ (by simpa using hne)]; exact h.row⟩
theorem blkOf_len (h : Hd) (hi : HdIn h) (hg : goodH h = true) : (blkOf h).length = 512 := by
  obtain ⟨q1, q2, q3, q4, q5⟩ := parts_len h hg
  have l0 := bTo_len h hi 7 (by decide) ((goodH_eq h hi).1 hg).2
  rw [← bAll_eq h hi hg]
  unfold bAll
  have l1 : (lay (bTo h 7) 0 (Plain.split h.name).2.1).length = 512 := by rw [lay_len _ _ _ (by omega), l0]
  have l2 : (lay (lay (bTo h 7) 0 (Plain.split h.name).2.1) 156 [h.ty]).length = 512 := by rw [lay_len _ _ _ (by rw [l1]; simp), l1]
  have l3 : (lay (lay (lay (bTo h 7) 0 (Plain.split h.name).2.1) 156 [h.ty]) 157 h.link).length = 512 := by rw [lay_len _ _ _ (by omega), l2]
  have l4 : (lay (lay (lay (lay (bTo h 7) 0 (Plain.split h.name).2.1) 156 [h.ty]) 157 h.link) 257 magicU).length = 512 := by rw [lay_len _ _ _ (by rw [l3]; decide), l3]
  have l5 : (lay (lay (lay (lay (lay (bTo h 7) 0 (Plain.split h.name).2.1) 156 [h.ty]) 157 h.link) 257 magicU) 265 h.user).length = 512 := by rw [lay_len _ _ _ (by omega), l4]
  have l6 : (lay (lay (lay (lay (lay (lay (bTo h 7) 0 (Plain.split h.name).2.1) 156 [h.ty]) 157 h.link) 257 magicU) 265 h.user) 297 h.group).length = 512 := by rw [lay_len _ _ _ (by omega), l5]
  rw [lay_len _ _ _ (by omega), l6]
theorem make_len (h : Hd) (hi : HdIn h) : (Plain.make h).1.length = 512 := by
  unfold Plain.make
  split
  · rename_i hg; exact seal_len _ (blkOf_len h hi hg)
  · exact zblk_len
theorem ty_ne {a : UInt8} {n : Nat} (hn : n < 256) (h : a ≠ UInt8.ofNat n) : a.toNat ≠ n := fun e => h (UInt8.toNat_inj.1 (by rw [e]; simp; omega))
end Go.Proofs.YtjchaogfmnabfaaGreatDoor
