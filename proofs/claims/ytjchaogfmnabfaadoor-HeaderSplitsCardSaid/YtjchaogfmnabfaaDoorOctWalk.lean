/-
  OctWalk: numeral.Octal.
-/
import Derived.Test.YtjchaogfmnabfaaDoorOctLaw
import Derived.Test.YtjchaogfmnabfaaDoorTrim2
import Derived.Test.YtjchaogfmnabfaaDoorParseOct
namespace Go.Proofs.YtjchaogfmnabfaaDoor
open Go.ChangeShapes Go.WideShapes Go.ChangeAt Go.RowKit
theorem oct_step (l : List UInt8) (k : Nat) (h : k < l.length) (ih : (l.take k).all isOct = true) (hd : 48 ≤ (l.getD k 0).toNat ∧ (l.getD k 0).toNat ≤ 55) : (l.take (k + 1)).all isOct = true := by
  have hg : l.getD k 0 = l[k] := by simp [List.getD, List.getElem?_eq_getElem h]
  have h1 : isOct (l.getD k 0) = true := (isOct_iff _).2 hd
  rw [List.take_succ_eq_append_getElem h, List.all_append, ih, ← hg, List.all_cons, h1]; rfl
theorem oct_no (l : List UInt8) (k : Nat) (h : k < l.length) (hd : ¬ (48 ≤ (l.getD k 0).toNat ∧ (l.getD k 0).toNat ≤ 55)) : l.all isOct = false := by
  have hg : l.getD k 0 = l[k] := by simp [List.getD, List.getElem?_eq_getElem h]
  cases ha : l.all isOct with
  | false => rfl
  | true =>
    have := (List.all_eq_true.1 ha) l[k] (List.getElem_mem h)
    rw [isOct_iff, ← hg] at this
    exact absurd this hd
theorem all_dropWhile {p q : UInt8 → Bool} (l : List UInt8) (h : l.all p = true) : (l.dropWhile q).all p = true := by
  rw [List.all_eq_true] at h ⊢
  exact fun x hx => h x ((List.dropWhile_sublist q).subset hx)
theorem Plain.octal_bad (l : List UInt8) (h : (trimR (l.dropWhile (· == 32))).all isOct = false) : Plain.octal l = (0, 10) := by
  have hg : (octTail (l.dropWhile (· == 32))).all isGap = false := by
    cases hg : (octTail (l.dropWhile (· == 32))).all isGap with
    | false => rfl
    | true => rw [trim_good _ hg, octHead_all] at h; cases h
  unfold Plain.octal
  simp only [hg]
  rfl
theorem Plain.octal_good (l : List UInt8) (h : (trimR (l.dropWhile (· == 32))).all isOct = true) :
    Plain.octal l = if octAcc 0 (trimR (l.dropWhile (· == 32))) ≤ 9223372036854775807 then (((octAcc 0 (trimR (l.dropWhile (· == 32))) : Nat) : Int), 0) else (0, 11) := by
  have hg : (octTail (l.dropWhile (· == 32))).all isGap = true := by
    cases hg : (octTail (l.dropWhile (· == 32))).all isGap with
    | true => rfl
    | false => rw [trim_bad _ hg] at h; cases h
  rw [trim_good _ hg]
  unfold Plain.octal
  simp only [hg, if_true]
theorem trimR_len (l : List UInt8) : (trimR l).length ≤ l.length := by
  unfold trimR
  rw [List.length_reverse]
  have := (List.dropWhile_sublist (l := l.reverse) isGap).length_le
  simpa using this
set_option maxRecDepth 100000 in
set_option maxHeartbeats 1600000 in
theorem Octal_any (a : Option Addr) (n c : Nat) (l : List UInt8) (w : World) (ev : Value) (h : Bs w a n c l) (hc : n ≤ 140737488355328) (hE : ErrIs w ev) :
    Calls Tryd.prog 65 #[.slice a n c] w fun e w' => e = .returned (decV (Plain.octal l)) ∧ Below w.heap.size w w' := by
  have hl := h.len; have hcap := h.cap
  have hbad := Plain.octal_bad l
  have hgood := Plain.octal_good l
  have hmlen : (l.dropWhile (· == 32)).length ≤ l.length := (List.dropWhile_sublist _).length_le
  have HTL : Hid (∀ w, Calls Tryd.prog 80 #[.string ⟨l.toArray⟩, .string ⟨#[32]⟩] w fun e w' => e = .returned (.string ⟨(l.dropWhile (· == 32)).toArray⟩) ∧ w' = w) := fun w => Tryd.strings_TrimLeft_one ⟨l.toArray⟩ 32 (by decide) w
  generalize l.dropWhile (· == 32) = m at *
  have hplen := trimR_len m
  have HTR : Hid (∀ w, Calls Tryd.prog 81 #[.string ⟨m.toArray⟩, .string ⟨#[32, 0]⟩] w fun e w' => e = .returned (.string ⟨(trimR m).toArray⟩) ∧ Below w.heap.size w w') := fun w => TrimGap_any m w (by omega)
  generalize trimR m = p at *
  have HTZ : Hid (∀ w, Calls Tryd.prog 80 #[.string ⟨p.toArray⟩, .string ⟨#[48]⟩] w fun e w' => e = .returned (.string ⟨(p.dropWhile (· == 48)).toArray⟩) ∧ w' = w) := fun w => Tryd.strings_TrimLeft_one ⟨p.toArray⟩ 48 (by decide) w
  have hp : p.length ≤ 140737488355328 := by omega
  generalize hr : Plain.octal l = r at *
  have HBAD := Lib.hid hbad; have HGOOD := Lib.hid hgood; have HE := Lib.hid hE
  clear hbad hgood hE hr hplen hmlen
  have hu := Lib.hid Tryd.underlying5
  go_enter Tryd.func65, Tryd.ntmps65
  go_wp2_with (first
    | (with_reducible refine wpList_str_of_bs rfl _ _ _ rfl Tryd.underlying22 hu.out Tryd.underlying9 rfl h ?_)
    | (go_at_call 80; (with_reducible refine (HTL.out _).mono ?_); rintro e w1 ⟨rfl, hw⟩; obtain rfl := hw.symm)
    | (go_at_call 81; (with_reducible refine (HTR.out _).mono ?_); rintro e w2 ⟨rfl, hb2⟩))
  go_loop [6] (fun i => ∃ k : Nat, k ≤ p.length ∧ i = .int .i64 k ∧ Hid ((p.take k).all isOct = true)) (fun i => p.length - (intOf i).toNat)
  case atStart => exact ⟨0, by omega, rfl, (rfl : (p.take 0).all isOct = true)⟩
  case round =>
    obtain ⟨k, hk, rfl, hz⟩ := hrel
    by_cases hlt : k < p.length
    · have hkn : (k : Int) < (p.length : Int) := by omega
      have hx := str_at p k hlt
      have hstep := oct_step p k hlt hz.out
      have hno := oct_no p k hlt
      generalize p.getD k 0 = g at hx hstep hno
      have HS := Lib.hid hstep; have HNO := Lib.hid hno; clear hstep hno
      by_cases d1 : (g.toNat : Int) < 48
      · obtain rfl := HBAD.out (HNO.out (by omega))
        go_wp2
        go_ret2
        exact ⟨rfl, hb2⟩
      · by_cases d2 : (55 : Int) < g.toNat
        · obtain rfl := HBAD.out (HNO.out (by omega))
          go_wp2
          go_ret2
          exact ⟨rfl, hb2⟩
        · have hs := Lib.hid (HS.out (by omega))
          go_wp2
          go_round
          case rel => exact ⟨k + 1, by omega, by go_num, hs⟩
          case measure => simp [intOf]; omega
    · obtain rfl : k = p.length := by omega
      have hall : p.all isOct = true := by have := hz.out; rwa [List.take_length] at this
      have hrr := HGOOD.out hall
      have hz0 := octAcc_zeros p
      have hall2 := all_dropWhile (q := (· == 48)) p hall
      have hlen2 : (p.dropWhile (· == 48)).length ≤ p.length := (List.dropWhile_sublist _).length_le
      generalize p.dropWhile (· == 48) = q at *
      by_cases hq : q = []
      · subst hq
        rw [octAcc_nil] at hz0
        rw [← hz0, if_pos (by decide)] at hrr
        obtain rfl := hrr
        clear hall hall2 hlen2 hz0 hz
        go_wp2_with (go_at_call 80; (with_reducible refine (HTZ.out _).mono ?_); rintro e w3 ⟨rfl, hw⟩; obtain rfl := hw.symm)
        go_ret2
        exact ⟨rfl, hb2⟩
      · have c1b : q.isEmpty = false := by simpa using hq
        have HPI := Lib.hid (fun w hw => ParseIntOct_any q hq (by omega) hall2 w ev hw)
        rw [← hz0] at hrr
        have HRR := Lib.hid hrr
        clear hall hall2 hz0 hz hrr hq
        generalize octAcc 0 q = v at *
        by_cases hv : v ≤ 9223372036854775807
        · have hf := HRR.out
          rw [if_pos hv] at hf
          obtain rfl := hf
          have HV := Lib.hid hv; clear hv
          go_wp2_with (first
            | (go_at_call 80; (with_reducible refine (HTZ.out _).mono ?_); rintro e w3 ⟨rfl, hw⟩; obtain rfl := hw.symm)
            | (go_at_call 75; refine (HPI.out _ (by exact HE.out.below hb2)).mono ?_; rintro e w4 ⟨x, er, rfl, hb4, hx1, _⟩; obtain ⟨rfl, rfl⟩ := hx1 HV.out; clear hx1))
          go_ret2
          exact ⟨rfl, Below.seq hb2 hb4⟩
        · have hf := HRR.out
          rw [if_neg hv] at hf
          obtain rfl := hf
          have HV := Lib.hid hv; clear hv
          go_wp2_with (first
            | (go_at_call 80; (with_reducible refine (HTZ.out _).mono ?_); rintro e w3 ⟨rfl, hw⟩; obtain rfl := hw.symm)
            | (go_at_call 75; refine (HPI.out _ (by exact HE.out.below hb2)).mono ?_; rintro e w4 ⟨x, er, rfl, hb4, _, hx2⟩; obtain ⟨te, pe, rfl⟩ := hx2 HV.out; clear hx2))
          go_ret2
          exact ⟨rfl, Below.seq hb2 hb4⟩
end Go.Proofs.YtjchaogfmnabfaaDoor
