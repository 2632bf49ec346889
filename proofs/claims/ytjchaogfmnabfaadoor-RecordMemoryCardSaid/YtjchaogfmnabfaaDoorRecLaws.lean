/-
  RecLaws: the laws RecordReads, RecordJoins, RecordCuts, walked.
-/
import Derived.Test.YtjchaogfmnabfaaDoorRecPairs
import Derived.Test.YtjchaogfmnabfaaDoorCopy
namespace Go.Proofs.YtjchaogfmnabfaaDoor
set_option linter.unusedVariables false
set_option linter.unusedSimpArgs false
open Go.ChangeShapes Go.WideShapes Go.ChangeAt Go.RowKit
theorem cut_marks5 {w : World} {a2 : Option Addr} {n k : Nat} {l : List UInt8} (hl : l.length = n) (hx : Bs w a2 (n - 0) k (((l ++ marks).take n).drop 0)) : Bs w a2 n k l := by
  rw [List.drop_zero, List.take_append_of_le_length (by rw [hl]; exact Nat.le_refl _), List.take_of_length_le (by rw [hl]; exact Nat.le_refl _)] at hx
  exact hx
set_option maxRecDepth 100000 in
set_option maxHeartbeats 1600000 in
theorem RecordReads_walk (a : Option Addr) (n c : Nat) (l : List UInt8) (w : World) (ev : Value) (hE : ErrIs w ev) (h : Bs w a n c l) (hc : c ≤ 1048576) :
    Calls Tryd.prog 3 #[.slice a n c] w fun e w' => e = .returned (.bool true) ∧ Below w.heap.size w w' := by
  have hl := h.len; have hcap := h.cap
  have HE := Lib.hid hE; have HH := Lib.hid h; have HL := Lib.hid hl; clear hE h hl
  generalize hr : readOut (Plain.read l) = r at *
  obtain ⟨ps, code⟩ := r
  have HR := Lib.hid hr; clear hr
  go_enter Tryd.func3, Tryd.ntmps3
  go_wp2_with (go_at_call 14; refine (Alive5_any w ev HE.out).mono ?_; rintro e w1 ⟨rfl, hb1⟩; have HB1 := Lib.hid hb1; clear hb1)
  refine (Spare_any a n c l w1 (by exact Below.bs HB1.out HH.out) (by omega)).mono ?_; rintro e w2 ⟨a2, m2, c2, rfl, ho2, hb2⟩
  have hF := own_bs ho2
  have HB2 := Lib.hid (Below.seq HB1.out hb2)
  have hM : n + 8 = m2 := by rw [← own_len ho2, List.length_append, HL.out]; rfl
  have hc2 := hF.cap
  have hnm : n ≤ m2 := by omega
  have HF := Lib.hid hF
  clear hM ho2 hb2 hF
  go_wp2_with (first
    | ((with_reducible refine wpList_slice_bs rfl _ _ _ _ rfl Tryd.underlying22 (by kernel_rfl) rfl HF.out 0 n .i64 .i64 rfl rfl (by omega) hnm ?_); intro a3 hb3; have HC3 := Lib.hid (cut_marks5 HL.out hb3); clear hb3)
    | (go_at_call 16; (refine (ReadOut_any a3 n _ l w2 ev (by exact HC3.out) (by omega) (by exact HE.out.below HB2.out)).mono ?_); rintro e w3 ⟨a4, n4, c4, rfl, hp4, hb3⟩; rw [HR.out] at hp4 ⊢; have HP4 := Lib.hid hp4; have HB3 := Lib.hid (Below.seq HB2.out hb3); have HF3 := Lib.hid (Below.bs hb3 HF.out); clear hb3 hp4)
    | (go_at_call 17; (refine (RefReadOut_any a n c l w3 (by exact Below.bs HB3.out HH.out) (by omega)).mono ?_); rintro e w4 ⟨a5, n5, c5, rfl, hp5, hb4⟩; rw [HR.out] at hp5 ⊢; have HP5 := Lib.hid hp5; have HP4b := Lib.hid (Below.prs hb4 HP4.out); have HB4 := Lib.hid (Below.seq HB3.out hb4); have HF4 := Lib.hid (Below.bs hb4 HF3.out); clear hb4 hp5)
    | (go_at_call 18; (refine (SamePairs_any a4 a5 n4 n5 c4 c5 ps ps w4 (by exact HP4b.out) (by exact HP5.out)).mono ?_); rintro e w5 ⟨rfl, hb5⟩; have HB5 := Lib.hid (Below.seq HB4.out hb5); have HF5 := Lib.hid (Below.bs hb5 HF4.out); clear hb5)
    | (go_at_call 15; (refine (Spare_any a n c l w5 (by exact Below.bs HB5.out HH.out) (by omega)).mono ?_); rintro e w6 ⟨a6, m6, c6, rfl, ho6, hb6⟩; have HG := Lib.hid (own_bs ho6); have HB6 := Lib.hid (Below.seq HB5.out hb6); have HF6 := Lib.hid (Below.bs hb6 HF5.out); clear ho6 hb6)
    | (go_at_call 19; (refine (SameBytes_any a2 a6 m2 m6 c2 c6 _ _ w6 (by exact HF6.out) (by exact HG.out)).mono ?_); rintro e w7 ⟨rfl, hb7⟩; have HB7 := Lib.hid (Below.seq HB6.out hb7); clear hb7))
  go_ret
  exact ⟨ret_bool (by simp), HB7.out⟩
theorem readOut_ok (l : List UInt8) (h : (readOut (Plain.read l)).2 = 0) : Plain.read l = some (readOut (Plain.read l)).1 := by
  cases hr : Plain.read l with
  | none => rw [hr] at h; cases h
  | some ps => rfl
theorem readOut_no (l : List UInt8) (h : ¬ (readOut (Plain.read l)).2 = 0) : readOut (Plain.read l) = ([], 50) := by
  cases hr : Plain.read l with
  | none => rfl
  | some ps => rw [hr] at h; exact absurd rfl h
/-- what is read of both -/
theorem readOut_app (x y : List UInt8) (h : (readOut (Plain.read x)).2 = 0) :
    readOut (Plain.read (x ++ y)) = if (readOut (Plain.read y)).2 = 0 then ((readOut (Plain.read x)).1 ++ (readOut (Plain.read y)).1, 0) else ([], 50) := by
  rw [read_join x y _ (readOut_ok x h)]
  cases Plain.read y with
  | none => rfl
  | some q => rfl
theorem readOut_len (l : List UInt8) : 5 * (readOut (Plain.read l)).1.length ≤ l.length := by
  cases hr : Plain.read l with
  | none => simp [readOut]
  | some ps => exact read_len l.length l ps (Nat.le_refl _) hr
set_option maxRecDepth 100000 in
set_option maxHeartbeats 1600000 in
theorem RecordJoins_walk (a : Option Addr) (n c : Nat) (l : List UInt8) (a' : Option Addr) (n' c' : Nat) (l' : List UInt8) (w : World) (ev : Value) (hE : ErrIs w ev) (h : Bs w a n c l) (hc : c ≤ 1048576) (h' : Bs w a' n' c' l') (hc' : c' ≤ 1048576) :
    Calls Tryd.prog 4 #[.slice a n c, .slice a' n' c'] w fun e w' => e = .returned (.bool true) ∧ Below w.heap.size w w' := by
  have hl := h.len; have hcap := h.cap
  have hl' := h'.len; have hcap' := h'.cap
  have HE := Lib.hid hE; have HH := Lib.hid h; have HL := Lib.hid hl; have HH' := Lib.hid h'; have HL' := Lib.hid hl'; clear hE h hl h' hl'
  by_cases hx : (readOut (Plain.read l)).2 = 0
  · have hcase : ((readOut (Plain.read l')).2 = 0 ∧ (readOut (Plain.read (l ++ l'))).2 = 0 ∧ (readOut (Plain.read (l ++ l'))).1 = (readOut (Plain.read l)).1 ++ (readOut (Plain.read l')).1) ∨ ((readOut (Plain.read l')).2 = 50 ∧ (readOut (Plain.read (l ++ l'))).2 = 50 ∧ (readOut (Plain.read (l ++ l'))).1 = []) := by
      have happ := readOut_app l l' hx
      by_cases hy : (readOut (Plain.read l')).2 = 0
      · rw [if_pos hy] at happ; rw [happ]; exact .inl ⟨hy, rfl, rfl⟩
      · rw [if_neg hy] at happ; rw [happ]; refine .inr ⟨?_, rfl, rfl⟩; rw [readOut_no l' hy]
    have hpl := readOut_len l
    have hql := readOut_len l'
    rw [HL.out] at hpl; rw [HL'.out] at hql
    generalize hr : readOut (Plain.read l) = r at *
    obtain ⟨ps, code⟩ := r
    generalize hq : readOut (Plain.read l') = q at *
    obtain ⟨qs, f⟩ := q
    generalize hb : readOut (Plain.read (l ++ l')) = b at *
    obtain ⟨rs, g⟩ := b
    simp only at hx hcase hpl hql
    subst hx
    have HB := Lib.hid hb; have HR := Lib.hid hr; have HQ := Lib.hid hq; have HPL := Lib.hid hpl; have HQL := Lib.hid hql; have HC := Lib.hid hcase
    clear hb hr hq hpl hql hcase
    go_enter Tryd.func4, Tryd.ntmps4
    go_wp2_with (go_at_call 14; refine (Alive5_any w ev HE.out).mono ?_; rintro e w1 ⟨rfl, hb1⟩; have HB1 := Lib.hid hb1; clear hb1)
    refine (CopyBytes_any a n c l w1 (by exact Below.bs HB1.out HH.out) (by omega)).mono ?_; rintro e w2 ⟨a2, n2, c2, rfl, ho2, hb2⟩; obtain rfl : n = n2 := (by rw [← own_len ho2, HL.out]); have HB2 := Lib.hid (Below.seq HB1.out hb2); have HS2 := Lib.hid (own_bs ho2); clear ho2 hb2
    go_wp2_with fail
    refine (ReadOut_any a2 n c2 l w2 ev (by exact HS2.out) (by omega) (by exact HE.out.below HB2.out)).mono ?_; rintro e w3 ⟨a3, n3, c3, rfl, hp3, hb3⟩; rw [HR.out] at hp3 ⊢; have HP3 := Lib.hid hp3; have HB3 := Lib.hid (Below.seq HB2.out hb3); clear hb3 hp3
    go_wp2_with fail
    refine (CopyBytes_any a' n' c' l' w3 (by exact Below.bs HB3.out HH'.out) (by omega)).mono ?_; rintro e w4 ⟨a4, n4, c4, rfl, ho4, hb4⟩; obtain rfl : n' = n4 := (by rw [← own_len ho4, HL'.out]); have HB4 := Lib.hid (Below.seq HB3.out hb4); have HP4 := Lib.hid (Below.prs hb4 HP3.out); have HS4 := Lib.hid (own_bs ho4); clear ho4 hb4
    go_wp2_with fail
    refine (ReadOut_any a4 n' c4 l' w4 ev (by exact HS4.out) (by omega) (by exact HE.out.below HB4.out)).mono ?_; rintro e w5 ⟨a5, n5, c5, rfl, hp5, hb5⟩; rw [HQ.out] at hp5 ⊢; have HQ5 := Lib.hid hp5; have HP5 := Lib.hid (Below.prs hb5 HP4.out); have HB5 := Lib.hid (Below.seq HB4.out hb5); clear hb5 hp5
    go_wp2_with fail
    refine (CopyBytes_any a n c l w5 (by exact Below.bs HB5.out HH.out) (by omega)).mono ?_; rintro e w6 ⟨a6, n6, c6, rfl, ho6, hb6⟩; obtain rfl : n = n6 := (by rw [← own_len ho6, HL.out]); have HB6 := Lib.hid hb6; have HO6 := Lib.hid ho6; have HL6 := Lib.hid (Below.bs (Below.seq HB5.out hb6) HH'.out); clear ho6 hb6
    go_wp2_with (at_builtin; refine wpList_app rfl _ _ 22 rfl w5.heap.size 5 _ 1 1 Tryd.underlying22 infoU8 rfl (by decide) (by decide) rfl HO6.out rfl HL6.out (bytes_oneCell l') (by omega) (by exact HB6.out.size) ?_; intro a7 c7 w7 ho7 hg7; have HB57 := Lib.hid (below_app HB6.out HO6.out hg7 (Nat.le_refl _) HB6.out.size); have HS7 : Hid (Bs w7 a7 (n + n') c7 (l ++ l')) := Lib.hid (by rw [← List.map_append] at ho7; exact own_bs ho7); clear ho7 hg7)
    have HB7 := Lib.hid (Below.seq HB5.out HB57.out); have HP7 := Lib.hid (Below.prs HB57.out HP5.out); have HQ7 := Lib.hid (Below.prs HB57.out HQ5.out)
    refine (ReadOut_any a7 (n + n') c7 (l ++ l') w7 ev (by exact HS7.out) (by omega) (by exact HE.out.below HB7.out)).mono ?_; rintro e w8 ⟨a8, n8, c8, rfl, hp8, hb8⟩; rw [HB.out] at hp8 ⊢; have HR8 := Lib.hid hp8; have HP8 := Lib.hid (Below.prs hb8 HP7.out); have HQ8 := Lib.hid (Below.prs hb8 HQ7.out); have HB8 := Lib.hid (Below.seq HB7.out hb8); clear hb8 hp8
    rcases HC.out with ⟨hf, hg, hrs⟩ | ⟨hf, hg, hrs⟩
    · subst hf; subst hg
      have hn3 := HP8.out.len
      have hn5 := HQ8.out.len
      have b1 := HPL.out; have b2 := HQL.out
      have b3 : n3 * 32 + n5 * 32 ≤ 1073741824 := by omega
      have HRS := Lib.hid hrs
      clear hn3 hn5 b1 b2 hrs
      go_wp2_with fail
      refine (CopyPairs_any a3 n3 c3 ps w8 (by exact HP8.out) (by omega)).mono ?_; rintro e w9 ⟨a9, n9, c9, rfl, ho9, hb9⟩; obtain rfl : n3 = n9 := (by rw [← HP8.out.len, (own_prs ho9).len]); have HB9 := Lib.hid hb9; have HO9 := Lib.hid ho9; have HQ9 := Lib.hid (Below.prs hb9 HQ8.out); clear ho9 hb9
      go_wp2_with (at_builtin; refine wpList_app rfl _ _ 25 rfl w8.heap.size 39 _ 2 32 Tryd.underlying25 infoPair rfl (by decide) (by decide) rfl HO9.out rfl HQ9.out (prs_oneCell qs) (by omega) (by exact HB9.out.size) ?_; intro a10 c10 w10 ho10 hg10; have HB810 := Lib.hid (below_app HB9.out HO9.out hg10 (Nat.le_refl _) HB9.out.size); have HS10 : Hid (Prs w10 a10 (n3 + n5) c10 rs) := Lib.hid (by rw [← List.flatMap_append] at ho10; rw [HRS.out]; exact own_prs ho10); clear ho10 hg10)
      have HR10 := Lib.hid (Below.prs HB810.out HR8.out)
      refine (SamePairs_any a8 a10 n8 (n3 + n5) c8 c10 rs rs w10 (by exact HR10.out) (by exact HS10.out)).mono ?_; rintro e w11 ⟨rfl, hb11⟩; have HB11 := Lib.hid (Below.seq (Below.seq HB8.out HB810.out) hb11); clear hb11
      go_wp2
      go_ret
      exact ⟨ret_bool (by simp), HB11.out⟩
    · subst hf; subst hg; subst hrs
      obtain rfl : n8 = 0 := by have := HR8.out.len; simpa using this.symm
      go_wp2
      go_ret
      exact ⟨ret_bool (by simp), HB8.out⟩
  · have hno := readOut_no l hx
    have HR := Lib.hid hno; clear hno hx
    go_enter Tryd.func4, Tryd.ntmps4
    go_wp2_with (go_at_call 14; refine (Alive5_any w ev HE.out).mono ?_; rintro e w1 ⟨rfl, hb1⟩; have HB1 := Lib.hid hb1; clear hb1)
    refine (CopyBytes_any a n c l w1 (by exact Below.bs HB1.out HH.out) (by omega)).mono ?_; rintro e w2 ⟨a2, n2, c2, rfl, ho2, hb2⟩; obtain rfl : n = n2 := (by rw [← own_len ho2, HL.out]); have HB2 := Lib.hid (Below.seq HB1.out hb2); have HS2 := Lib.hid (own_bs ho2); clear ho2 hb2
    go_wp2_with fail
    refine (ReadOut_any a2 n c2 l w2 ev (by exact HS2.out) (by omega) (by exact HE.out.below HB2.out)).mono ?_; rintro e w3 ⟨a3, n3, c3, rfl, hp3, hb3⟩; rw [HR.out] at hp3 ⊢; obtain rfl : n3 = 0 := (by have := hp3.len; simpa using this.symm); have HB3 := Lib.hid (Below.seq HB2.out hb3); clear hb3 hp3
    go_wp2
    go_ret
    exact ⟨ret_bool (by simp), HB3.out⟩
/-- what is read of cut data -/
theorem readOut_cut (l : List UInt8) (n : Nat) (hn : n < l.length) (h : (readOut (Plain.read l)).2 = 0) (h2 : (readOut (Plain.read (l.take n))).2 = 0) :
    (readOut (Plain.read (l.take n))).1.length < (readOut (Plain.read l)).1.length ∧ (readOut (Plain.read l)).1.take (readOut (Plain.read (l.take n))).1.length = (readOut (Plain.read (l.take n))).1 :=
  read_cut l n hn _ _ (readOut_ok l h) (readOut_ok _ h2)
set_option maxRecDepth 100000 in
set_option maxHeartbeats 1600000 in
theorem RecordCuts_walk (a : Option Addr) (n c : Nat) (l : List UInt8) (N : Int) (w : World) (ev : Value) (hE : ErrIs w ev) (h : Bs w a n c l) (hc : c ≤ 1048576) (hN0 : -9223372036854775808 ≤ N) (hN1 : N < 9223372036854775808) :
    Calls Tryd.prog 5 #[.slice a n c, .int .i64 N] w fun e w' => e = .returned (.bool true) ∧ Below w.heap.size w w' := by
  have hl := h.len; have hcap := h.cap
  have HE := Lib.hid hE; have HH := Lib.hid h; have HL := Lib.hid hl; clear hE h hl
  by_cases hx : (readOut (Plain.read l)).2 = 0
  · by_cases hr : 0 ≤ N ∧ N < n
    · obtain ⟨M, rfl⟩ := Int.eq_ofNat_of_zero_le hr.1
      have hMn : M < n := by omega
      have hN2 : ¬ (M : Int) < 0 := by omega
      have hN3 : ¬ (n : Int) ≤ M := by omega
      clear hN0 hN1
      have hcase : ((readOut (Plain.read (l.take M))).2 = 0 ∧ (readOut (Plain.read (l.take M))).1.length < (readOut (Plain.read l)).1.length ∧ (readOut (Plain.read l)).1.take (readOut (Plain.read (l.take M))).1.length = (readOut (Plain.read (l.take M))).1) ∨ (readOut (Plain.read (l.take M))).2 = 50 := by
        by_cases hy : (readOut (Plain.read (l.take M))).2 = 0
        · exact .inl ⟨hy, readOut_cut l M (by rw [HL.out]; exact hMn) hx hy⟩
        · right; rw [readOut_no _ hy]
      have HTL : Hid ((l.take M).length = M) := by show _ = _; rw [List.length_take, HL.out]; omega
      generalize hr1 : readOut (Plain.read l) = r at *
      obtain ⟨ps, code⟩ := r
      generalize hq : readOut (Plain.read (l.take M)) = q at *
      obtain ⟨qs, f⟩ := q
      simp only at hx hcase
      subst hx
      have HR := Lib.hid hr1; have HQ := Lib.hid hq; have HC := Lib.hid hcase
      clear hr1 hq hcase hr
      go_enter Tryd.func5, Tryd.ntmps5
      go_wp2_with (go_at_call 14; refine (Alive5_any w ev HE.out).mono ?_; rintro e w1 ⟨rfl, hb1⟩; have HB1 := Lib.hid hb1; clear hb1)
      refine (CopyBytes_any a n c l w1 (by exact Below.bs HB1.out HH.out) (by omega)).mono ?_; rintro e w2 ⟨a2, n2, c2, rfl, ho2, hb2⟩; obtain rfl : n = n2 := (by rw [← own_len ho2, HL.out]); have HB2 := Lib.hid (Below.seq HB1.out hb2); have HS2 := Lib.hid (own_bs ho2); clear ho2 hb2
      go_wp2_with fail
      refine (ReadOut_any a2 n c2 l w2 ev (by exact HS2.out) (by omega) (by exact HE.out.below HB2.out)).mono ?_; rintro e w3 ⟨a3, n3, c3, rfl, hp3, hb3⟩; rw [HR.out] at hp3 ⊢; have HP3 := Lib.hid hp3; have HB3 := Lib.hid (Below.seq HB2.out hb3); have HH3 := Lib.hid (Below.bs (Below.seq HB2.out hb3) HH.out); clear hb3 hp3
      go_wp2_with ((with_reducible refine wpList_slice_bs rfl _ _ _ _ rfl Tryd.underlying22 (by kernel_rfl) rfl HH3.out 0 M .i64 .i64 rfl rfl (by omega) (by omega) ?_); intro a4 hb4; rw [List.drop_zero, Nat.sub_zero, Nat.sub_zero] at hb4; rw [Nat.sub_zero, Nat.sub_zero]; have HC4 := Lib.hid hb4; clear hb4)
      refine (CopyBytes_any a4 M c (l.take M) w3 (by exact HC4.out) (by omega)).mono ?_; rintro e w5 ⟨a5, n5, c5, rfl, ho5, hb5⟩; obtain rfl : M = n5 := (by rw [← own_len ho5, HTL.out]); have HB5 := Lib.hid (Below.seq HB3.out hb5); have HP5 := Lib.hid (Below.prs hb5 HP3.out); have HS5 := Lib.hid (own_bs ho5); clear ho5 hb5
      go_wp2_with fail
      refine (ReadOut_any a5 M c5 (l.take M) w5 ev (by exact HS5.out) (by omega) (by exact HE.out.below HB5.out)).mono ?_; rintro e w6 ⟨a6, n6, c6, rfl, hp6, hb6⟩; rw [HQ.out] at hp6 ⊢; have HQ6 := Lib.hid hp6; have HP6 := Lib.hid (Below.prs hb6 HP5.out); have HB6 := Lib.hid (Below.seq HB5.out hb6); clear hb6 hp6
      rcases HC.out with ⟨hf, hlen, htk⟩ | hf
      · subst hf
        have h3 := HP6.out.len; have h6 := HQ6.out.len
        rw [h3, h6] at hlen
        rw [h6] at htk
        have hle : ¬ (n3 : Int) ≤ n6 := by omega
        have HTK := Lib.hid htk
        clear h3 h6 htk
        have h7 := sl_take HP6.out n6 (by omega)
        rw [prs_take, HTK.out] at h7
        have H7 := Lib.hid h7
        have hcp := HP6.out.cap
        have y1 : (n6 : Int) ≤ c3 := by omega
        clear h7
        go_wp2_with fail
        refine (SamePairs_any a6 a3 n6 n6 c6 c3 qs qs w6 (by exact HQ6.out) (by exact H7.out)).mono ?_; rintro e w8 ⟨rfl, hb8⟩; have HB8 := Lib.hid (Below.seq HB6.out hb8); clear hb8
        go_wp2
        go_ret
        exact ⟨ret_bool (by simp), HB8.out⟩
      · subst hf
        go_wp2
        go_ret
        exact ⟨ret_bool (by simp), HB6.out⟩
    · have hway : N < 0 ∨ (¬ N < 0 ∧ (n : Int) ≤ N) := by omega
      generalize hr1 : readOut (Plain.read l) = r at *
      obtain ⟨ps, code⟩ := r
      simp only at hx
      subst hx
      have HR := Lib.hid hr1; clear hr1 hr
      rcases hway with hway | ⟨hway, hway2⟩
      all_goals
        go_enter Tryd.func5, Tryd.ntmps5
        go_wp2_with (go_at_call 14; refine (Alive5_any w ev HE.out).mono ?_; rintro e w1 ⟨rfl, hb1⟩; have HB1 := Lib.hid hb1; clear hb1)
        refine (CopyBytes_any a n c l w1 (by exact Below.bs HB1.out HH.out) (by omega)).mono ?_; rintro e w2 ⟨a2, n2, c2, rfl, ho2, hb2⟩; obtain rfl : n = n2 := (by rw [← own_len ho2, HL.out]); have HB2 := Lib.hid (Below.seq HB1.out hb2); have HS2 := Lib.hid (own_bs ho2); clear ho2 hb2
        go_wp2_with fail
        refine (ReadOut_any a2 n c2 l w2 ev (by exact HS2.out) (by omega) (by exact HE.out.below HB2.out)).mono ?_; rintro e w3 ⟨a3, n3, c3, rfl, hp3, hb3⟩; rw [HR.out] at hp3 ⊢; have HB3 := Lib.hid (Below.seq HB2.out hb3); clear hb3 hp3
        go_wp2
        go_ret
        exact ⟨ret_bool (by simp), HB3.out⟩
  · have hno := readOut_no l hx
    have HR := Lib.hid hno; clear hno hx
    go_enter Tryd.func5, Tryd.ntmps5
    go_wp2_with (go_at_call 14; refine (Alive5_any w ev HE.out).mono ?_; rintro e w1 ⟨rfl, hb1⟩; have HB1 := Lib.hid hb1; clear hb1)
    refine (CopyBytes_any a n c l w1 (by exact Below.bs HB1.out HH.out) (by omega)).mono ?_; rintro e w2 ⟨a2, n2, c2, rfl, ho2, hb2⟩; obtain rfl : n = n2 := (by rw [← own_len ho2, HL.out]); have HB2 := Lib.hid (Below.seq HB1.out hb2); have HS2 := Lib.hid (own_bs ho2); clear ho2 hb2
    go_wp2_with fail
    refine (ReadOut_any a2 n c2 l w2 ev (by exact HS2.out) (by omega) (by exact HE.out.below HB2.out)).mono ?_; rintro e w3 ⟨a3, n3, c3, rfl, hp3, hb3⟩; rw [HR.out] at hp3 ⊢; have HB3 := Lib.hid (Below.seq HB2.out hb3); clear hb3 hp3
    go_wp2
    go_ret
    exact ⟨ret_bool (by simp), HB3.out⟩
end Go.Proofs.YtjchaogfmnabfaaDoor
