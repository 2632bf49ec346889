/-
  Decs: the reference's Decimal, and numeral.Decimal.
-/
import Derived.Test.YtjchaogfmnabfaaDoorDec
import Derived.Test.YtjchaogfmnabfaaDoorShelf
namespace Go.Proofs.YtjchaogfmnabfaaDoor
open Go.ChangeShapes Go.WideShapes Go.ChangeAt Go.RowKit
theorem Plain.decimal_bad (l : List UInt8) (h : l = [] ∨ (l.getD 0 0 = 48 ∧ 1 < l.length) ∨ l.all isDig = false) : Plain.decimal l = (0, 10) := if_pos h
theorem Plain.decimal_good (l : List UInt8) (h : ¬ (l = [] ∨ (l.getD 0 0 = 48 ∧ 1 < l.length) ∨ l.all isDig = false)) (h2 : decAcc 0 l ≤ 9223372036854775807) : Plain.decimal l = (((decAcc 0 l : Nat) : Int), 0) := by
  unfold Plain.decimal; rw [if_neg h, if_pos h2]
theorem Plain.decimal_over (l : List UInt8) (h : ¬ (l = [] ∨ (l.getD 0 0 = 48 ∧ 1 < l.length) ∨ l.all isDig = false)) (h2 : ¬ decAcc 0 l ≤ 9223372036854775807) : Plain.decimal l = (0, 11) := by
  unfold Plain.decimal; rw [if_neg h, if_neg h2]
theorem all_dig_step (l : List UInt8) (k : Nat) (h : k < l.length) (ih : (l.take k).all isDig = true) (hd : 48 ≤ (l.getD k 0).toNat ∧ (l.getD k 0).toNat ≤ 57) : (l.take (k + 1)).all isDig = true := by
  have hg : l.getD k 0 = l[k] := by simp [List.getD, List.getElem?_eq_getElem h]
  have h1 : isDig (l.getD k 0) = true := (isDig_iff _).2 hd
  rw [List.take_succ_eq_append_getElem h, List.all_append, ih, ← hg, List.all_cons, h1]; rfl
theorem all_dig_no (l : List UInt8) (k : Nat) (h : k < l.length) (hd : ¬ (48 ≤ (l.getD k 0).toNat ∧ (l.getD k 0).toNat ≤ 57)) : l.all isDig = false := by
  have hg : l.getD k 0 = l[k] := by simp [List.getD, List.getElem?_eq_getElem h]
  cases ha : l.all isDig with
  | false => rfl
  | true =>
    have := (List.all_eq_true.1 ha) l[k] (List.getElem_mem h)
    rw [isDig_iff, ← hg] at this
    exact absurd this hd
theorem decAcc_step (l : List UInt8) (k : Nat) (h : k < l.length) : decAcc 0 (l.take (k + 1)) = decAcc 0 (l.take k) * 10 + ((l.getD k 0).toNat - 48) := by
  have hg : l.getD k 0 = l[k] := by simp [List.getD, List.getElem?_eq_getElem h]
  rw [List.take_succ_eq_append_getElem h, decAcc_one, hg]
theorem decAcc_take_le (l : List UInt8) (k : Nat) : decAcc 0 (l.take k) ≤ decAcc 0 l := by
  have h := decAcc_app 0 (l.take k) (l.drop k)
  rw [List.take_append_drop] at h
  rw [h]
  exact decAcc_le _ _
theorem dig_at (l : List UInt8) (k : Nat) (h : k < l.length) (ha : l.all isDig = true) : 48 ≤ (l.getD k 0).toNat ∧ (l.getD k 0).toNat ≤ 57 := by
  have hg : l.getD k 0 = l[k] := by simp [List.getD, List.getElem?_eq_getElem h]
  rw [hg, ← isDig_iff]
  exact (List.all_eq_true.1 ha) l[k] (List.getElem_mem h)
/-- how a decimal text is tested at its head -/
theorem head_cases (l : List UInt8) (h : ¬ (l.getD 0 0 = 48 ∧ 1 < l.length)) : (((l.getD 0 0).toNat : Int) == 48) = false ∨ (l.getD 0 0 = 48 ∧ ¬ 1 < (l.length : Int)) := by
  by_cases h1 : l.getD 0 0 = 48
  · exact .inr ⟨h1, fun h2 => h ⟨h1, by omega⟩⟩
  · refine .inl ?_
    rw [beq_eq_false_iff_ne]
    intro h2
    exact h1 (UInt8.toNat_inj.1 (by simpa using (by omega : (l.getD 0 0).toNat = 48)))
theorem head_cases2 (l : List UInt8) (h : ¬ (l.getD 0 0 = 48 ∧ 1 < l.length)) : ¬ 1 < (l.length : Int) ∨ (1 < (l.length : Int) ∧ (((l.getD 0 0).toNat : Int) == 48) = false) := by
  rcases head_cases l h with h1 | h1
  · by_cases h2 : 1 < (l.length : Int)
    · exact .inr ⟨h2, h1⟩
    · exact .inl h2
  · exact .inl h1.2
set_option maxHeartbeats 800000 in
theorem RefDecimal_any (l : List UInt8) (w : World) (hl : l.length ≤ 140737488351232) :
    Calls Tryd.prog 61 #[.string ⟨l.toArray⟩] w fun e w' => e = .returned (decV (Plain.decimal l)) ∧ w = w' := by
  by_cases c1 : l = []
  · subst c1
    rw [Plain.decimal_bad [] (.inl rfl)]
    go_enter Tryd.func61, Tryd.ntmps61
    go_wp2
    go_ret2
    exact ⟨rfl, rfl⟩
  · have c1b : l.isEmpty = false := by simpa using c1
    have c0 : 0 < l.length := by cases l; exact absurd rfl c1; simp
    have hx0 := str_at l 0 c0
    by_cases c2 : l.getD 0 0 = 48 ∧ 1 < l.length
    · rw [Plain.decimal_bad l (.inr (.inl c2))]
      have h1 : 1 < (l.length : Int) := by omega
      rw [c2.1] at hx0
      clear c2
      go_enter Tryd.func61, Tryd.ntmps61
      go_wp2
      go_ret2
      exact ⟨rfl, rfl⟩
    · have hbad : l.all isDig = true → ¬ (l = [] ∨ (l.getD 0 0 = 48 ∧ 1 < l.length) ∨ l.all isDig = false) := by
        rintro ha (h | h | h)
        · exact c1 h
        · exact c2 h
        · rw [ha] at h; cases h
      have HBAD := Lib.hid hbad; clear hbad
      have hh := head_cases l c2
      generalize hr : Plain.decimal l = r
      have HR := Lib.hid hr; clear hr
      clear c1 c2
      generalize l.getD 0 0 = g0 at hx0 hh
      rcases hh with hh | ⟨rfl, hh⟩
      all_goals
        go_enter Tryd.func61, Tryd.ntmps61
        go_wp2
        go_loop [4] (fun i => ∃ k : Nat, k ≤ l.length ∧ i = .int .i64 k ∧ Hid ((l.take k).all isDig = true)) (fun i => l.length - (intOf i).toNat)
        case atStart => exact ⟨0, by omega, rfl, (rfl : (l.take 0).all isDig = true)⟩
        case round =>
          obtain ⟨k, hk, rfl, hz⟩ := hrel
          by_cases hlt : k < l.length
          · have hkn : (k : Int) < (l.length : Int) := by omega
            have hx := str_at l k hlt
            have hstep := all_dig_step l k hlt hz.out
            have hno := all_dig_no l k hlt
            generalize l.getD k 0 = g at hx hstep hno
            have HS := Lib.hid hstep; have HNO := Lib.hid hno; clear hstep hno
            by_cases d1 : (g.toNat : Int) < 48
            · have hf := (HR.out.symm.trans (Plain.decimal_bad l (.inr (.inr (HNO.out (by omega))))))
              subst hf
              go_wp2
              go_ret2
              exact ⟨rfl, rfl⟩
            · by_cases d2 : (57 : Int) < g.toNat
              · have hf := (HR.out.symm.trans (Plain.decimal_bad l (.inr (.inr (HNO.out (by omega))))))
                subst hf
                go_wp2
                go_ret2
                exact ⟨rfl, rfl⟩
              · have hs := Lib.hid (HS.out (by omega))
                go_wp2
                go_round
                case rel => exact ⟨k + 1, by omega, by go_num, hs⟩
                case measure => simp [intOf]; omega
          · obtain rfl : k = l.length := by omega
            have hall : l.all isDig = true := by have := hz.out; rwa [List.take_length] at this
            have HALL := Lib.hid hall; clear hall hz
            go_wp2
            go_loop [6, 5] (fun i v => ∃ j : Nat, j ≤ l.length ∧ i = .int .i64 j ∧ v = .int .i64 (decAcc 0 (l.take j) : Nat) ∧ decAcc 0 (l.take j) ≤ 9223372036854775807) (fun i _ => l.length - (intOf i).toNat)
            case atStart => exact ⟨0, by omega, rfl, rfl, by simp [decAcc]⟩
            case round =>
              obtain ⟨j, hj, rfl, rfl, hv⟩ := hrel
              by_cases hlt2 : j < l.length
              · have hjn : (j : Int) < (l.length : Int) := by omega
                have hx := str_at l j hlt2
                have hdig := dig_at l j hlt2 HALL.out
                have hst := decAcc_step l j hlt2
                have hle := decAcc_take_le l (j + 1)
                generalize decAcc 0 (l.take j) = v at *
                generalize hv2e : decAcc 0 (l.take (j + 1)) = v2 at *
                have HV2 := Lib.hid hv2e; clear hv2e
                generalize l.getD j 0 = g at *
                by_cases hov : v2 ≤ 9223372036854775807
                · have hd48 : (48 : Int) ≤ g.toNat := by omega
                  have hd57 : (g.toNat : Int) ≤ 57 := by omega
                  have hno : ¬ (9223372036854775807 - ((g.toNat : Int) - 48)) / 10 < v := by omega
                  have hb1 : (v : Int) * 10 + ((g.toNat : Int) - 48) ≤ 9223372036854775807 := by omega
                  go_wp2
                  exact ⟨⟨j + 1, by omega, by go_num, by rw [HV2.out, hst]; congr 1; omega, by rw [HV2.out]; exact hov⟩, by simp [intOf]; omega⟩
                · have hd48 : (48 : Int) ≤ g.toNat := by omega
                  have hd57 : (g.toNat : Int) ≤ 57 := by omega
                  have hyes : (9223372036854775807 - ((g.toNat : Int) - 48)) / 10 < v := by omega
                  have hf := HR.out.symm.trans (Plain.decimal_over l (HBAD.out HALL.out) (by omega))
                  subst hf
                  go_wp2
                  go_ret2
                  exact ⟨rfl, rfl⟩
              · obtain rfl : j = l.length := by omega
                rw [List.take_length] at hv
                have hf := HR.out.symm.trans (Plain.decimal_good l (HBAD.out HALL.out) hv)
                subst hf
                rw [List.take_length]
                go_wp2
                go_ret2
                exact ⟨rfl, rfl⟩
/-- what strconv.ErrRange holds -/
def ErrIs (w : World) (ev : Value) : Prop := w.cell? ⟨3, 0, none⟩ = some ev ∧ ∃ te pe, ev = .iface te pe
theorem ErrIs.below {w w' : World} {ev : Value} (h : ErrIs w ev) (k : Below w.heap.size w w') : ErrIs w' ev := ⟨Below.keeps k _ _ h.1, h.2⟩
set_option maxHeartbeats 800000 in
theorem Decimal_any (l : List UInt8) (w : World) (ev : Value) (hl : l.length ≤ 140737488351232) (hE : ErrIs w ev) :
    Calls Tryd.prog 58 #[.string ⟨l.toArray⟩] w fun e w' => e = .returned (decV (Plain.decimal l)) ∧ Below w.heap.size w w' := by
  by_cases c1 : l = []
  · subst c1
    rw [Plain.decimal_bad [] (.inl rfl)]
    go_enter Tryd.func58, Tryd.ntmps58
    go_wp2
    go_ret2
    exact ⟨rfl, Below.refl _ _⟩
  · have c1b : l.isEmpty = false := by simpa using c1
    have c0 : 0 < l.length := by cases l; exact absurd rfl c1; simp
    have hx0 := str_at l 0 c0
    by_cases c2 : l.getD 0 0 = 48 ∧ 1 < l.length
    · rw [Plain.decimal_bad l (.inr (.inl c2))]
      have h1 : 1 < (l.length : Int) := by omega
      rw [c2.1] at hx0
      clear c2
      go_enter Tryd.func58, Tryd.ntmps58
      go_wp2
      go_ret2
      exact ⟨rfl, Below.refl _ _⟩
    · have hbad : l.all isDig = true → ¬ (l = [] ∨ (l.getD 0 0 = 48 ∧ 1 < l.length) ∨ l.all isDig = false) := by
        rintro ha (h | h | h)
        · exact c1 h
        · exact c2 h
        · rw [ha] at h; cases h
      have HBAD := Lib.hid hbad; clear hbad
      have HNE := Lib.hid c1
      have hh := head_cases2 l c2
      generalize hr : Plain.decimal l = r
      have HR := Lib.hid hr; clear hr
      clear c1 c2
      generalize l.getD 0 0 = g0 at hx0 hh
      rcases hh with hh | ⟨hh, hh2⟩
      all_goals
        go_enter Tryd.func58, Tryd.ntmps58
        go_wp2
        go_loop [21] (fun i => ∃ k : Nat, k ≤ l.length ∧ i = .int .i64 k ∧ Hid ((l.take k).all isDig = true)) (fun i => l.length - (intOf i).toNat)
        case atStart => exact ⟨0, by omega, rfl, (rfl : (l.take 0).all isDig = true)⟩
        case round =>
          obtain ⟨k, hk, rfl, hz⟩ := hrel
          by_cases hlt : k < l.length
          · have hkn : (k : Int) < (l.length : Int) := by omega
            have hx := str_at l k hlt
            have hstep := all_dig_step l k hlt hz.out
            have hno := all_dig_no l k hlt
            generalize l.getD k 0 = g at hx hstep hno
            have HS := Lib.hid hstep; have HNO := Lib.hid hno; clear hstep hno
            by_cases d1 : (g.toNat : Int) < 48
            · have hf := (HR.out.symm.trans (Plain.decimal_bad l (.inr (.inr (HNO.out (by omega))))))
              subst hf
              go_wp2
              go_ret2
              exact ⟨rfl, Below.refl _ _⟩
            · by_cases d2 : (57 : Int) < g.toNat
              · have hf := (HR.out.symm.trans (Plain.decimal_bad l (.inr (.inr (HNO.out (by omega))))))
                subst hf
                go_wp2
                go_ret2
                exact ⟨rfl, Below.refl _ _⟩
              · have hs := Lib.hid (HS.out (by omega))
                go_wp2
                go_round
                case rel => exact ⟨k + 1, by omega, by go_num, hs⟩
                case measure => simp [intOf]; omega
          · obtain rfl : k = l.length := by omega
            have hall : l.all isDig = true := by have := hz.out; rwa [List.take_length] at this
            have hp := parseIntB_digits l HNE.out hall
            by_cases hov : decAcc 0 l ≤ 9223372036854775807
            · rw [if_pos hov] at hp
              have hf := HR.out.symm.trans (Plain.decimal_good l (HBAD.out hall) hov)
              subst hf
              have HP := Lib.hid hp
              clear hp hall hz
              generalize hv : decAcc 0 l = v at *
              have HV := Lib.hid hv; clear hv
              go_wp2_with (go_at_call 75; refine (Tryd.strconv_ParseInt_10_at64_ok _ (by simp [ByteArray.size]; omega) (v : Int) HP.out _).mono ?_; rintro e w1 ⟨rfl, hw1⟩; have HW := Lib.hid hw1; clear hw1)
              go_ret2
              refine ⟨by rw [HV.out]; rfl, ?_⟩
              rcases HW.out with h | ⟨t, h⟩
              · rw [h]; exact Below.refl _ _
              · rw [h]; exact Lib.bytesWorld_below _ _ _
            · rw [if_neg hov] at hp
              have hf := HR.out.symm.trans (Plain.decimal_over l (HBAD.out hall) hov)
              subst hf
              have HP := Lib.hid hp
              clear hp hall hz
              obtain ⟨he1, te, pe, rfl⟩ := hE
              have HE := Lib.hid he1; clear he1
              generalize hsat : Lib.intSat 64 l = sat
              have HSAT := Lib.hid hsat; clear hsat
              go_wp2_with (go_at_call 75; refine (Tryd.strconv_ParseInt_10_at64_range _ (by simp [ByteArray.size]; omega) HP.out _ _ HE.out (Or.inr ⟨te, pe, rfl⟩)).mono ?_; rintro e w1 ⟨N, rfl, hN1, hN2, hb1⟩; have HN1 := Lib.hid hN1; have HN2 := Lib.hid hN2; clear hN1 hN2; try rw [HSAT.out])
              go_ret2
              exact ⟨rfl, hb1⟩
end Go.Proofs.YtjchaogfmnabfaaDoor
