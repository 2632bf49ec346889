/-
  RecWLaws: the laws RecordWrites and RecordRound, walked.
-/
import Derived.Test.YtjchaogfmnabfaaDoorRefWriteWalk
import Derived.Test.YtjchaogfmnabfaaDoorRecLaws
namespace Go.Proofs.YtjchaogfmnabfaaDoor
set_option linter.unusedVariables false
set_option linter.unusedSimpArgs false
open Go.ChangeShapes Go.WideShapes Go.ChangeAt Go.RowKit
set_option maxRecDepth 100000 in
set_option maxHeartbeats 1600000 in
theorem RecordWrites_walk (a : Option Addr) (n c : Nat) (l : List Pr) (w : World) (ev : Value) (hpow : Pow10 w) (hE : ErrIs w ev) (h : Prs w a n c l) (hq : ∀ x ∈ l, x.1.length ≤ 140737488351232 ∧ x.2.length ≤ 140737488351232) (hc : c * 32 ≤ 140737488351232) :
    Calls Tryd.prog 6 #[.slice a n c] w fun e w' => e = .returned (.bool true) ∧ Below w.heap.size w w' := by
  have hl := h.len; have hcap := h.cap
  have HE := Lib.hid hE; have HH := Lib.hid h; have HP := Lib.hid hpow; have HQ := Lib.hid hq; clear hE h hl hpow hq
  have hn : n * 32 ≤ 140737488355328 := by omega
  generalize hr : Plain.write l = r at *
  obtain ⟨bs, code⟩ := r
  have HR := Lib.hid hr; clear hr
  go_enter Tryd.func6, Tryd.ntmps6
  go_wp2_with (go_at_call 14; refine (Alive5_any w ev HE.out).mono ?_; rintro e w1 ⟨rfl, hb1⟩; have HB1 := Lib.hid hb1; clear hb1)
  refine (CopyPairs_any a n c l w1 (by exact Below.prs HB1.out HH.out) hn).mono ?_; rintro e w2 ⟨a2, n2, c2, rfl, ho2, hb2⟩; obtain rfl : n = n2 := (by rw [← HH.out.len, (own_prs ho2).len]); have HB2 := Lib.hid (Below.seq HB1.out hb2); have HS2 := Lib.hid (own_prs ho2); clear ho2 hb2
  go_wp2_with fail
  refine (Write_any a2 n c2 l w2 (by exact HP.out.below HB2.out) (by exact HS2.out) HQ.out).mono ?_; rintro e w3 ⟨a3, n3, c3, rfl, ho3, hb3⟩; rw [HR.out] at ho3 ⊢; have HO3 := Lib.hid (own_bs ho3); have HB3 := Lib.hid (Below.seq HB2.out hb3); have HS3 := Lib.hid (Below.prs hb3 HS2.out); clear ho3 hb3
  go_wp2_with fail
  refine (RefWrite_any a n c l w3 (by exact Below.prs HB3.out HH.out) HQ.out).mono ?_; rintro e w4 ⟨a4, n4, c4, rfl, ho4, hb4⟩; rw [HR.out] at ho4 ⊢; have HO4 := Lib.hid (own_bs ho4); have HB4 := Lib.hid (Below.seq HB3.out hb4); have HS4 := Lib.hid (Below.prs hb4 HS3.out); have HO3b := Lib.hid (Below.bs hb4 HO3.out); clear ho4 hb4
  go_wp2_with (first
    | (go_at_call 19; (refine (SameBytes_any a3 a4 n3 n4 c3 c4 _ _ w4 (by exact HO3b.out) (by exact HO4.out)).mono ?_); rintro e w5 ⟨rfl, hb5⟩; have HB5 := Lib.hid (Below.seq HB4.out hb5); have HS5 := Lib.hid (Below.prs hb5 HS4.out); clear hb5)
    | (go_at_call 18; (refine (SamePairs_any a2 a n n c2 c l l w5 (by exact HS5.out) (by exact Below.prs HB5.out HH.out)).mono ?_); rintro e w6 ⟨rfl, hb6⟩; have HB6 := Lib.hid (Below.seq HB5.out hb6); clear hb6))
  go_ret
  exact ⟨ret_bool (by simp), HB6.out⟩
/-- what is written of pairs and read again -/
theorem write_cases (l : List Pr) : (∃ code, code ≠ 0 ∧ Plain.write l = ([], code)) ∨ (Plain.write l = (l.flatMap recBytes, 0) ∧ readOut (Plain.read (l.flatMap recBytes)) = (l, 0) ∧ (l.flatMap recBytes).length = recSum l ∧ recSum l ≤ 1048576) := by
  by_cases h1 : l.any (fun p => badKey p.1) = true
  · left; exact ⟨51, by decide, by unfold Plain.write; rw [if_pos h1]⟩
  · have h1' : l.any (fun p => badKey p.1) = false := by simpa using h1
    by_cases h2 : 1048576 < recSum l
    · left; exact ⟨21, by decide, by unfold Plain.write; rw [if_neg h1, if_pos h2]⟩
    · right
      obtain ⟨h3, h4⟩ := write_flat l h1' (by omega)
      exact ⟨by unfold Plain.write; rw [if_neg h1, if_neg h2], by rw [h3]; rfl, h4, by omega⟩
set_option maxRecDepth 100000 in
set_option maxHeartbeats 1600000 in
theorem RecordRound_walk (a : Option Addr) (n c : Nat) (l : List Pr) (w : World) (ev : Value) (hpow : Pow10 w) (hE : ErrIs w ev) (h : Prs w a n c l) (hq : ∀ x ∈ l, x.1.length ≤ 140737488351232 ∧ x.2.length ≤ 140737488351232) (hc : c * 32 ≤ 140737488351232) :
    Calls Tryd.prog 7 #[.slice a n c] w fun e w' => e = .returned (.bool true) ∧ Below w.heap.size w w' := by
  have hl := h.len; have hcap := h.cap; have hmax := h.max
  have hqq : ∀ k, k < n → (l.getD k ([], [])).1.length ≤ 140737488351232 ∧ (l.getD k ([], [])).2.length ≤ 140737488351232 := fun k hk => by
    have hk' : k < l.length := by omega
    have := hq _ (List.getElem_mem hk')
    simpa [List.getD, List.getElem?_eq_getElem hk'] using this
  have HE := Lib.hid hE; have HH := Lib.hid h; have HP := Lib.hid hpow; have HQ := Lib.hid hq; have HQQ := Lib.hid hqq; have HL := Lib.hid hl; clear hE h hpow hq hqq hl
  have hn : n * 32 ≤ 140737488355328 := by omega
  rcases write_cases l with ⟨code, hne, hw⟩ | ⟨hw, hrd, hlen, hs⟩
  · have hce : (code != 0) = true := by rw [bne_iff_ne]; exact hne
    have HR := Lib.hid hw; clear hw hne
    go_enter Tryd.func7, Tryd.ntmps7
    go_wp2_with (go_at_call 14; refine (Alive5_any w ev HE.out).mono ?_; rintro e w1 ⟨rfl, hb1⟩; have HB1 := Lib.hid hb1; clear hb1)
    refine (CopyPairs_any a n c l w1 (by exact Below.prs HB1.out HH.out) hn).mono ?_; rintro e w2 ⟨a2, n2, c2, rfl, ho2, hb2⟩; obtain rfl : n = n2 := (by rw [← HH.out.len, (own_prs ho2).len]); have HB2 := Lib.hid (Below.seq HB1.out hb2); have HS2 := Lib.hid (own_prs ho2); clear ho2 hb2
    go_wp2_with fail
    refine (Write_any a2 n c2 l w2 (by exact HP.out.below HB2.out) (by exact HS2.out) HQ.out).mono ?_; rintro e w3 ⟨a3, n3, c3, rfl, ho3, hb3⟩; rw [HR.out] at ho3 ⊢; obtain rfl : n3 = 0 := (by have := own_len ho3; simpa using this.symm); have HB3 := Lib.hid (Below.seq HB2.out hb3); clear ho3 hb3
    go_wp2
    go_ret
    exact ⟨ret_bool (by simp), HB3.out⟩
  · generalize hB : l.flatMap recBytes = B at *
    have HR := Lib.hid hw; have HRD := Lib.hid hrd; have HLEN := Lib.hid hlen; clear hw hrd hB hlen
    go_enter Tryd.func7, Tryd.ntmps7
    go_wp2_with (go_at_call 14; refine (Alive5_any w ev HE.out).mono ?_; rintro e w1 ⟨rfl, hb1⟩; have HB1 := Lib.hid hb1; clear hb1)
    refine (CopyPairs_any a n c l w1 (by exact Below.prs HB1.out HH.out) hn).mono ?_; rintro e w2 ⟨a2, n2, c2, rfl, ho2, hb2⟩; obtain rfl : n = n2 := (by rw [← HH.out.len, (own_prs ho2).len]); have HB2 := Lib.hid (Below.seq HB1.out hb2); have HS2 := Lib.hid (own_prs ho2); clear ho2 hb2
    go_wp2_with fail
    refine (Write_any a2 n c2 l w2 (by exact HP.out.below HB2.out) (by exact HS2.out) HQ.out).mono ?_; rintro e w3 ⟨a3, n3, c3, rfl, ho3, hb3⟩; rw [HR.out] at ho3 ⊢; have hn3 : n3 = recSum l := (by rw [← own_len ho3, HLEN.out]); have hn3b : n3 ≤ 1048576 := (by rw [hn3]; exact hs); have HN3 := Lib.hid hn3; have HO3 := Lib.hid (own_bs ho3); have HB3 := Lib.hid (Below.seq HB2.out hb3); clear ho3 hb3 hn3
    go_wp2
    go_loopw [5, 6] (fun s i wr => ∃ j : Nat, j ≤ n ∧ i = .int .i64 j ∧ s = .int .i64 (recSum (l.take j) : Int) ∧ recSum (l.take j) ≤ 1048576 ∧ Hid (Below w3.heap.size w3 wr)) (fun _ i _ => n - (intOf i).toNat)
    case atStart => exact ⟨0, Nat.zero_le _, rfl, rfl, by simp [recSum], Lib.hid (Below.refl _ _)⟩
    case round =>
      obtain ⟨j, hj, rfl, rfl, hsj, hbel⟩ := hrel
      have HB4 := Lib.hid (Below.seq HB3.out hbel.out)
      by_cases hlt : j < n
      · have hq2 := HQQ.out j hlt
        have hjl : j < l.length := by rw [HL.out]; exact hlt
        obtain ⟨b1, o1, rfl, h1, h1'⟩ := (Below.prs HB4.out HH.out).at j hlt
        have hsu := recSum_succ l j hjl
        have hle := recSum_le l (j + 1)
        generalize l.getD j ([], []) = g at *
        obtain ⟨g1, g2⟩ := g
        simp only at hq2 h1 h1'
        have HS := Lib.hid (fun w h => SizeR_any (g1, g2) w h hq2.1 hq2.2)
        generalize recSize (g1, g2) = S at *
        generalize hA : recSum (l.take (j + 1)) = A at *
        generalize recSum (l.take j) = B2 at *
        have hA2 : A ≤ 1048576 := by omega
        have HA := Lib.hid hA; have HSU := Lib.hid hsu
        have hji : (j : Int) < n := by omega
        have hS : S ≤ 1048576 := by omega
        clear hA hsu hle
        go_wp2_with (go_at_call 24; (with_reducible refine (HS.out _ (by exact HP.out.below HB4.out)).mono ?_); rintro e w5 ⟨rfl, hb5⟩; have HB5 := Lib.hid (Below.seq hbel.out hb5); clear hb5)
        go_round
        case rel => exact ⟨j + 1, by omega, by go_num, by rw [HA.out, HSU.out]; go_num, by rw [HA.out]; exact hA2, HB5⟩
        case measure => simp [intOf]; omega
      · obtain rfl : j = n := by omega
        have htk : l.take j = l := List.take_of_length_le (by rw [HL.out]; exact Nat.le_refl _)
        rw [htk, ← HN3.out]
        have hji : ¬ (j : Int) < j := by omega
        clear htk
        go_wp2_with (first
          | (go_at_call 16; (refine (ReadOut_any a3 n3 c3 B wr ev (by exact Below.bs hbel.out HO3.out) (by omega) (by exact HE.out.below HB4.out)).mono ?_); rintro e w6 ⟨a6, n6, c6, rfl, hp6, hb6⟩; rw [HRD.out] at hp6 ⊢; have HP6 := Lib.hid hp6; have HB6 := Lib.hid (Below.seq HB4.out hb6); clear hp6 hb6)
          | (go_at_call 18; (refine (SamePairs_any a6 a n6 j c6 c l l w6 (by exact HP6.out) (by exact Below.prs HB6.out HH.out)).mono ?_); rintro e w7 ⟨rfl, hb7⟩; have HB7 := Lib.hid (Below.seq HB6.out hb7); clear hb7))
        go_ret
        exact ⟨ret_bool (by simp), HB7.out⟩
end Go.Proofs.YtjchaogfmnabfaaDoor
