/-
  RefOct: the reference's Octal.
-/
import Derived.Test.YtjchaogfmnabfaaDoorOctRef
import Derived.Test.YtjchaogfmnabfaaDoorDec
import Derived.Test.YtjchaogfmnabfaaDoorProg
import Derived.Deep.CutBlock
import Derived.Deep.DeepCutAuto
import Derived.Outline
namespace Go.Proofs.YtjchaogfmnabfaaDoor
set_option linter.unusedVariables false
set_option linter.unusedSimpArgs false
open Go.ChangeShapes Go.WideShapes Go.ChangeAt Go.RowKit
theorem Plain.octal_at (l : List UInt8) (f e : Nat) (hf : l.dropWhile (· == 32) = l.drop f) (hd : octHead (l.drop f) = (l.drop f).take (e - f)) (ht : octTail (l.drop f) = l.drop e) :
    Plain.octal l = if (l.drop e).all isGap then (if octAcc 0 ((l.drop f).take (e - f)) ≤ 9223372036854775807 then (((octAcc 0 ((l.drop f).take (e - f)) : Nat) : Int), 0) else (0, 11)) else (0, 10) := by
  unfold Plain.octal
  simp only [hf, hd, ht]
/-- a step of the reference's sum: the digit's place is k -/
structure OctStep (D : List UInt8) (e f k A : Nat) (g : UInt8) (r : Int × Int) : Prop where
  dig : 48 ≤ g.toNat ∧ g.toNat ≤ 55
  zero : g.toNat = 48 → octAcc 0 (D.drop (e - f - (k + 1))) = A
  far : g.toNat ≠ 48 → 21 ≤ k → r = (0, 11)
  near : k ≤ 20 → octAcc 0 (D.drop (e - f - (k + 1))) = (g.toNat - 48) * 8 ^ k + A ∧ (g.toNat - 48) * 8 ^ k + A ≤ 9223372036854775807
theorem OctStep.of (D : List UInt8) (e f k A j : Nat) (g : UInt8) (r : Int × Int) (hl : D.length = e - f) (ho : D.all isOct = true) (hk : k < e - f) (hj : j = e - 1 - k) (hg : D.getD (j - f) 0 = g) (hA : octAcc 0 (D.drop (e - f - k)) = A)
    (hr : r = if octAcc 0 D ≤ 9223372036854775807 then (((octAcc 0 D : Nat) : Int), 0) else (0, 11)) : OctStep D e f k A g r := by
  have hlast := octAcc_last D k (by omega)
  rw [hl, show e - f - (k + 1) = j - f by omega, hg, hA] at hlast
  have hd := oct_at D (j - f) (by omega) ho
  rw [hg] at hd
  have hall : (D.drop (j - f)).all isOct = true := by
    rw [List.all_eq_true] at ho ⊢
    exact fun x hx => ho x (List.mem_of_mem_drop hx)
  have hlt := octAcc_lt _ hall
  rw [List.length_drop, hl, show e - f - (j - f) = k + 1 by omega] at hlt
  have hle := octAcc_drop_le D (j - f)
  have ej : e - f - (k + 1) = j - f := by omega
  rw [← ej] at hlast hle hlt
  refine ⟨hd, fun h => by rw [hlast, h, Nat.sub_self, Nat.zero_mul, Nat.zero_add], fun h h21 => ?_, fun h20 => ⟨hlast, ?_⟩⟩
  · rw [hr, if_neg]
    have h1 : 8 ^ 21 ≤ 8 ^ k := Nat.pow_le_pow_right (by decide) h21
    have h2 : 1 * 8 ^ k ≤ (g.toNat - 48) * 8 ^ k := Nat.mul_le_mul_right _ (by omega)
    have h3 : (8 : Nat) ^ 21 = 9223372036854775808 := rfl
    omega
  · have h1 : 8 ^ (k + 1) ≤ 8 ^ 21 := Nat.pow_le_pow_right (by decide) (by omega)
    have h3 : (8 : Nat) ^ 21 = 9223372036854775808 := rfl
    rw [hlast] at hlt
    omega
theorem two_pow8 (k : Nat) (P : Int) (h : P = 3 * k) : (2 : Int) ^ P.toNat = ((8 ^ k : Nat) : Int) := by
  have e : P.toNat = 3 * k := by omega
  rw [e, Int.pow_mul, Int.natCast_pow]; rfl
set_option maxRecDepth 100000 in
set_option maxHeartbeats 3200000 in
theorem RefOctal_any (a : Option Addr) (n c : Nat) (l : List UInt8) (w : World) (h : Bs w a n c l) :
    Calls Tryd.prog 84 #[.slice a n c] w fun e w' => e = .returned (decV (Plain.octal l)) ∧ w = w' := by
  have hl := h.len; have hcap := h.cap; have hmax := h.max
  have HL := Lib.hid hl; have HH := Lib.hid h; clear hl h
  generalize hr : Plain.octal l = r
  have HR := Lib.hid hr; clear hr
  go_enter Tryd.func84, Tryd.ntmps84
  go_upto_block 0 with fail
  go_cut [4] (fun s4 wx => w = wx ∧ ∃ f : Nat, f ≤ n ∧ s4 = .int .i64 f ∧ Hid (l.dropWhile (· == 32) = l.drop f))
  case first =>
    go_wp2_with fail
    go_loop [4] (fun i => ∃ k : Nat, k ≤ n ∧ i = .int .i64 k ∧ Hid ((l.take k).all (· == 32) = true)) (fun i => n - (intOf i).toNat)
    case atStart => exact ⟨0, by omega, rfl, (rfl : (l.take 0).all (· == 32) = true)⟩
    case round =>
      obtain ⟨f, hf, rfl, hz⟩ := hrel
      have hwa : (f < n → l.getD f 0 ≠ 32) → l.dropWhile (· == 32) = l.drop f := fun hno => (while_at l f (by rw [HL.out]; exact hf) hz.out (fun h1 => by rw [HL.out] at h1; simpa using hno h1)).2
      by_cases hlt : f < n
      · obtain ⟨b, off, rfl, hc⟩ := HH.out.at f hlt
        have hs : l.getD f 0 = 32 → (l.take (f + 1)).all (· == 32) = true := fun e => all_step l f (by rw [HL.out]; exact hlt) hz.out (by rw [e]; rfl)
        have hi : (f : Int) < n := by omega
        generalize l.getD f 0 = g at *
        have HS := Lib.hid hs; have HWA := Lib.hid hwa; clear hs hwa hz
        by_cases hg : g = 32
        · subst hg
          go_wp2
          go_round
          case rel => exact ⟨f + 1, by omega, by go_num, Lib.hid (HS.out rfl)⟩
          case measure => simp [intOf]; omega
        · have hne : ((g.toNat : Int) == 32) = false := by rw [beq_eq_false_iff_ne]; intro e; exact hg (UInt8.toNat_inj.1 (by simpa using (by omega : g.toNat = 32)))
          have HG := Lib.hid hg; clear hg
          go_wp2
          go_meet
          exact ⟨rfl, f, by omega, rfl, Lib.hid (HWA.out fun _ => HG.out)⟩
      · have HWA := Lib.hid (hwa fun h => absurd h hlt)
        clear hwa hz
        have hi : ¬ (f : Int) < n := by omega
        go_wp2
        go_meet
        exact ⟨rfl, f, by omega, rfl, HWA⟩
  case rest =>
    obtain ⟨rfl, f, hf, rfl, HWA⟩ := hcut
    go_upto_block 2 with fail
    go_cut [4, 5] (fun s4 s5 wx => s4 = .int .i64 f ∧ w = wx ∧ ∃ e : Nat, f ≤ e ∧ e ≤ n ∧ s5 = .int .i64 e ∧ Hid (octHead (l.drop f) = (l.drop f).take (e - f) ∧ octTail (l.drop f) = l.drop e))
    case first =>
      go_wp2_with fail
      go_loop [5] (fun i => ∃ e : Nat, f ≤ e ∧ e ≤ n ∧ i = .int .i64 e ∧ Hid (((l.drop f).take (e - f)).all isOct = true)) (fun i => n - (intOf i).toNat)
      case atStart => exact ⟨f, by omega, hf, rfl, Lib.hid (by rw [Nat.sub_self, List.take_zero]; rfl)⟩
      case round =>
        obtain ⟨e, hfe, he, rfl, hz⟩ := hrel
        have hdl : (l.drop f).length = n - f := by rw [List.length_drop, HL.out]
        have hde : (l.drop f).getD (e - f) 0 = l.getD e 0 := by simp [List.getD, show f + (e - f) = e by omega]
        have hwa : (e < n → isOct (l.getD e 0) = false) → octHead (l.drop f) = (l.drop f).take (e - f) ∧ octTail (l.drop f) = l.drop e := fun hno => by
          have := while_at (p := isOct) (l.drop f) (e - f) (by rw [hdl]; omega) hz.out (fun h1 => by rw [hdl] at h1; rw [hde]; exact hno (by omega))
          exact ⟨this.1, by rw [octTail, this.2, List.drop_drop, show f + (e - f) = e by omega]⟩
        by_cases hlt : e < n
        · obtain ⟨b, off, rfl, hc⟩ := HH.out.at e hlt
          have hs : isOct (l.getD e 0) = true → ((l.drop f).take (e + 1 - f)).all isOct = true := fun h1 => by
            have := all_step (l.drop f) (e - f) (by rw [hdl]; omega) hz.out (by rw [hde]; exact h1)
            rwa [show e - f + 1 = e + 1 - f by omega] at this
          have hi : (e : Int) < n := by omega
          have hio := isOct_iff (l.getD e 0)
          generalize l.getD e 0 = g at *
          have HS := Lib.hid hs; have HWA2 := Lib.hid hwa; have HIO := Lib.hid hio; clear hs hwa hz hdl hde hio
          by_cases h1 : (48 : Int) ≤ g.toNat
          · by_cases h2 : (g.toNat : Int) ≤ 55
            · have h3 : (48 : Int) ≤ g.toNat := h1
              go_wp2
              go_round
              case rel => exact ⟨e + 1, by omega, by omega, by go_num, Lib.hid (HS.out (HIO.out.2 (by omega)))⟩
              case measure => simp [intOf]; omega
            · go_wp2
              go_meet
              exact ⟨rfl, rfl, e, by omega, by omega, rfl, Lib.hid (HWA2.out fun _ => by rw [← Bool.not_eq_true, HIO.out]; omega)⟩
          · go_wp2
            go_meet
            exact ⟨rfl, rfl, e, by omega, by omega, rfl, Lib.hid (HWA2.out fun _ => by rw [← Bool.not_eq_true, HIO.out]; omega)⟩
        · have HWA2 := Lib.hid (hwa fun h => absurd h hlt)
          clear hwa hz hdl hde
          have hi : ¬ (e : Int) < n := by omega
          go_wp2
          go_meet
          exact ⟨rfl, rfl, e, by omega, by omega, rfl, HWA2⟩
    case rest =>
      obtain ⟨rfl, rfl, e, hfe, he, rfl, HT⟩ := hcut
      have hpa := Plain.octal_at l f e HWA.out HT.out.1 HT.out.2
      rw [HR.out] at hpa
      have hoa : ((l.drop f).take (e - f)).all isOct = true := by rw [← HT.out.1]; exact octHead_all _
      have hDl : ((l.drop f).take (e - f)).length = e - f := by rw [List.length_take, List.length_drop, HL.out]; omega
      have hDg : ∀ j, f ≤ j → j < e → ((l.drop f).take (e - f)).getD (j - f) 0 = l.getD j 0 := fun j h1 h2 => by
        simp [List.getD, List.getElem?_take, show j - f < e - f by omega, show f + (j - f) = j by omega]
      generalize (l.drop f).take (e - f) = D at *
      have HPA := Lib.hid hpa; have HOA := Lib.hid hoa; have HDl := Lib.hid hDl; have HDg := Lib.hid hDg; clear hpa hoa hDl hDg HT HWA
      go_wp2
      go_loop [6] (fun i => ∃ k : Nat, e ≤ k ∧ k ≤ n ∧ i = .int .i64 k ∧ Hid (((l.drop e).take (k - e)).all isGap = true)) (fun i => n - (intOf i).toNat)
      case atStart => exact ⟨e, by omega, he, rfl, Lib.hid (by rw [Nat.sub_self, List.take_zero]; rfl)⟩
      case round =>
        obtain ⟨k, hek, hk, rfl, hz⟩ := hrel
        have hdl : (l.drop e).length = n - e := by rw [List.length_drop, HL.out]
        by_cases hlt : k < n
        · have hde : (l.drop e).getD (k - e) 0 = l.getD k 0 := by simp [List.getD, show e + (k - e) = k by omega]
          obtain ⟨b, off, rfl, hc⟩ := HH.out.at k hlt
          have hs : isGap (l.getD k 0) = true → ((l.drop e).take (k + 1 - e)).all isGap = true := fun h1 => by
            have := all_step (l.drop e) (k - e) (by rw [hdl]; omega) hz.out (by rw [hde]; exact h1)
            rwa [show k - e + 1 = k + 1 - e by omega] at this
          have hno : isGap (l.getD k 0) = false → r = (0, 10) := fun h1 => by
            have := all_no (p := isGap) (l.drop e) (k - e) (by rw [hdl]; omega) (by rw [hde]; exact h1)
            rw [HPA.out, this]; rfl
          have hi : (k : Int) < n := by omega
          generalize l.getD k 0 = g at *
          have HS := Lib.hid hs; have HNO := Lib.hid hno; clear hs hno hz hdl hde
          by_cases h1 : g = 32
          · subst h1
            go_wp2
            go_round
            case rel => exact ⟨k + 1, by omega, by omega, by go_num, Lib.hid (HS.out rfl)⟩
            case measure => simp [intOf]; omega
          · have hne : ((g.toNat : Int) != 32) = true := by rw [bne_iff_ne]; intro e; exact h1 (UInt8.toNat_inj.1 (by simpa using (by omega : g.toNat = 32)))
            by_cases h2 : g = 0
            · subst h2
              clear h1
              go_wp2
              go_round
              case rel => exact ⟨k + 1, by omega, by omega, by go_num, Lib.hid (HS.out rfl)⟩
              case measure => simp [intOf]; omega
            · have hne2 : ((g.toNat : Int) != 0) = true := by rw [bne_iff_ne]; intro e; exact h2 (UInt8.toNat_inj.1 (by simpa using (by omega : g.toNat = 0)))
              obtain rfl := HNO.out (by simp [isGap, h1, h2])
              clear h1 h2
              go_wp2
              go_ret2
              exact ⟨rfl, rfl⟩
        · obtain rfl : n = k := by omega
          have hall : (l.drop e).all isGap = true := by have := hz.out; rwa [List.take_of_length_le (by omega)] at this
          have hp2 := HPA.out
          rw [hall, if_pos rfl] at hp2
          have HP2 := Lib.hid hp2; clear hp2 hall hz hdl
          go_wp2
          go_loop [7, 8, 9] (fun s p i => ∃ (k A : Nat) (z P : Int), k ≤ e - f ∧ z = (e : Int) - 1 - k ∧ i = .int .i64 z ∧ s = .int .i64 (A : Int) ∧ A ≤ 9223372036854775807 ∧ p = .int .i64 P ∧ (k ≤ 20 ∧ P = 3 * k ∨ 21 ≤ k ∧ P = 63) ∧ Hid (octAcc 0 (D.drop (e - f - k)) = A)) (fun _ _ i => (intOf i + 1).toNat)
          case atStart => exact ⟨0, 0, (e : Int) - 1, 0, by omega, by omega, by go_num, rfl, by omega, rfl, .inl ⟨by omega, rfl⟩, Lib.hid (by rw [Nat.sub_zero, List.drop_of_length_le (by rw [HDl.out]; exact Nat.le_refl _), octAcc_nil])⟩
          case round =>
            obtain ⟨k, A, z, P, hk, hz, rfl, rfl, hA, rfl, hP, hq⟩ := hrel
            by_cases hlt : k < e - f
            · obtain ⟨j, rfl⟩ : ∃ j : Nat, z = j := ⟨e - 1 - k, by omega⟩
              obtain ⟨b, off, rfl, hc⟩ := HH.out.at j (by omega)
              have hst := OctStep.of D e f k A j (l.getD j 0) r HDl.out HOA.out hlt (by omega) (HDg.out j (by omega) (by omega)) hq.out HP2.out
              have hdig := hst.dig
              generalize hG : ((l.getD j 0).toNat : Int) = G at hc
              have g1 : 48 ≤ G := by omega
              have g2 : G ≤ 55 := by omega
              have hfj : (f : Int) ≤ j := by omega
              have hjn : (j : Int) < n := by omega
              have HST := Lib.hid hst; have HG := Lib.hid hG; clear hst hG hdig hq
              by_cases h48 : G = 48
              · subst h48
                have HZ := Lib.hid (HST.out.zero (by have := HG.out; omega))
                rcases hP with ⟨h20, hP⟩ | ⟨h21, hP⟩
                · have p1 : P ≤ 60 := by omega
                  have p0 : 0 ≤ P := by omega
                  have HP := Lib.hid hP; have HJ := Lib.hid hz; clear hP hz
                  go_wp2
                  go_round
                  case rel => exact ⟨k + 1, A, (j : Int) - 1, P + 3, by omega, by have := HJ.out; omega, by go_num, rfl, by omega, by go_num, by have := HP.out; omega, HZ⟩
                  case measure => simp [intOf]
                · obtain rfl := hP
                  have HJ := Lib.hid hz; clear hz
                  go_wp2
                  go_round
                  case rel => exact ⟨k + 1, A, (j : Int) - 1, 63, by omega, by have := HJ.out; omega, by go_num, rfl, by omega, by go_num, .inr ⟨by omega, rfl⟩, HZ⟩
                  case measure => simp [intOf]
              · have hne : (G - 48 != 0) = true := by rw [bne_iff_ne]; omega
                rcases hP with ⟨h20, hP⟩ | ⟨h21, hP⟩
                · have p1 : P ≤ 60 := by omega
                  have p0 : 0 ≤ P := by omega
                  obtain ⟨hn1, hn2⟩ := HST.out.near h20
                  have hx : (G - 48) * 2 ^ P.toNat = ((((l.getD j 0).toNat - 48) * 8 ^ k : Nat) : Int) := by
                    rw [two_pow8 k P hP, Int.natCast_mul]
                    have := HG.out
                    rw [show (((l.getD j 0).toNat - 48 : Nat) : Int) = G - 48 by omega]
                  generalize ((l.getD j 0).toNat - 48) * 8 ^ k = X at hn1 hn2 hx
                  have hxx : (A : Int) + X ≤ 9223372036854775807 := by omega
                  have HP := Lib.hid hP; have HJ := Lib.hid hz; have HN := Lib.hid hn1; clear hP hz hn1 h48
                  go_wp2
                  go_round
                  case rel => exact ⟨k + 1, X + A, (j : Int) - 1, P + 3, by omega, by have := HJ.out; omega, by go_num, by go_num, by omega, by go_num, by have := HP.out; omega, HN⟩
                  case measure => simp [intOf]
                · obtain rfl := hP
                  obtain rfl := HST.out.far (by have := HG.out; omega) h21
                  clear h48 hz
                  go_wp2
                  go_ret2
                  exact ⟨rfl, rfl⟩
            · obtain rfl : k = e - f := by omega
              have hqq := hq.out
              rw [Nat.sub_self, List.drop_zero] at hqq
              have hfin := HP2.out
              rw [hqq, if_pos hA] at hfin
              subst hfin
              have hzf : z < f := by omega
              clear hqq hz hq
              go_wp2
              go_ret2
              exact ⟨rfl, rfl⟩
end Go.Proofs.YtjchaogfmnabfaaDoor
