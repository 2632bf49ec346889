/-
  Fits: scribe.Fits, its reference, valiseref00.CopyEntry, and the law ScribeFits.
-/
import Derived.Test.YtlmenpfglcigcaaValid
import Derived.Test.YtlmenpfglcigcaaIndexB
import Derived.Test.YtlmenpfglcigcaaCopy
import Derived.Deep.DeepCutAuto
import Derived.Deep.CutBlock
namespace Go.Proofs.Ytlmenpfglcigcaa
open Go.ChangeShapes Go.WideShapes Go.ChangeAt Go.RowKit
namespace Plain
/-- a text of lo to 4096 bytes, none of them 0 -/
def txt (lo : Int) (s : List UInt8) : Bool := !decide ((s.length : Int) < lo) && !decide (4096 < (s.length : Int)) && !decide (0 ≤ Lib.indexByte s 0)
end Plain
def strV (s : List UInt8) : Value := .string ⟨s.toArray⟩
set_option maxHeartbeats 400000 in
theorem ScText_any (lo : Int) (ss : List (List UInt8)) (a : Option Addr) (n c : Nat) (w : World) (h : IsSl w 1 a n c (ss.map strV)) :
    Calls Try.prog 41 #[.int .i64 lo, .slice a n c] w fun e w' => e = .returned (.bool (ss.all (Plain.txt lo))) ∧ w = w' := by
  have hn : ss.length = n := by have := h.1; simpa using this
  have hcap := h.2.1; have hmax : c ≤ 9223372036854775807 := h.2.2.1
  have h0 : (0 : Int).toNat.toUInt8 = 0 := rfl
  generalize hr : ss.all (Plain.txt lo) = r
  have HR := Lib.hid hr; have HN := Lib.hid hn; have H0 := Lib.hid h0; clear hr hn h0
  go_enter Try.func41, Try.ntmps41
  go_wp2
  go_loop [9] (fun i => ∃ k : Nat, k ≤ n ∧ i = .int .i64 k ∧ Hid ((ss.drop k).all (Plain.txt lo) = r)) (fun i => n - (intOf i).toNat)
  case atStart => exact ⟨0, by omega, rfl, HR⟩
  case round =>
    obtain ⟨k, hk, rfl, hq⟩ := hrel
    by_cases hlt : k < n
    · have hks : k < ss.length := by rw [HN.out]; exact hlt
      have hcell := h.2.2.2.1.at k (strV ss[k]) (by simp [List.getElem?_eq_getElem hks])
      obtain ⟨b, off, rfl, hc⟩ := hcell
      have hd := hq.out
      rw [List.drop_eq_getElem_cons hks, List.all_cons] at hd
      generalize ss[k] = s at hc hd
      have hkn : (k : Int) < (n : Int) := by omega
      unfold strV at hc
      unfold Plain.txt at hd
      clear hq
      by_cases t1 : (s.length : Int) < lo
      · have hf : r = false := by rw [← hd]; simp [t1]
        subst hf
        clear hd
        go_wp2
        go_ret
        exact ⟨rfl, rfl⟩
      · by_cases t2 : 4096 < (s.length : Int)
        · have hf : r = false := by rw [← hd]; simp [t2]
          subst hf
          clear hd
          go_wp2
          go_ret
          exact ⟨rfl, rfl⟩
        · generalize hi : Lib.indexByte s 0 = i at hd
          have HI := Lib.hid hi; clear hi
          by_cases t3 : 0 ≤ i
          · have hf : r = false := by rw [← hd]; simp [t3]
            subst hf
            clear hd
            go_wp2_with (go_at_call 38; refine (Try.strings_IndexByte _ _ _).mono ?_; rintro e w1 ⟨rfl, hw⟩; obtain rfl := hw.symm; rw [H0.out, HI.out])
            go_ret
            exact ⟨rfl, rfl⟩
          · have hd' : (ss.drop (k + 1)).all (Plain.txt lo) = r := by
              rw [← hd]
              simp only [t1, t2, t3, decide_false, Bool.not_false, Bool.and_self, Bool.true_and]
              rfl
            have HD := Lib.hid hd'; clear hd hd'
            have t3' : i < 0 := by omega
            clear t3
            go_wp2_with (go_at_call 38; refine (Try.strings_IndexByte _ _ _).mono ?_; rintro e w1 ⟨rfl, hw⟩; obtain rfl := hw.symm; rw [H0.out, HI.out])
            go_round
            case rel => exact ⟨k + 1, by omega, by go_num, HD⟩
            case measure => simp [intOf]; omega
    · obtain rfl : k = n := by omega
      have hf : r = true := by rw [← hq.out, List.drop_of_length_le (by rw [HN.out]; exact Nat.le_refl _)]; rfl
      subst hf
      clear hq
      go_wp2
      go_ret
      exact ⟨rfl, rfl⟩
theorem RefTxt_any (lo : Int) (s : List UInt8) (w : World) (hl : s.length ≤ 140737488351232) :
    Calls Try.prog 43 #[.string ⟨s.toArray⟩, .int .i64 lo] w fun e w' => e = .returned (.bool (Plain.txt lo s)) ∧ w = w' := by
  generalize hr : Plain.txt lo s = r
  have HR := Lib.hid hr; clear hr
  go_enter Try.func43, Try.ntmps43
  go_wp2
  go_loop [5] (fun i => ∃ k : Nat, k ≤ s.length ∧ i = .int .i64 k ∧ Hid (∀ j, j < k → s.getD j 0 ≠ 0)) (fun i => s.length - (intOf i).toNat)
  case atStart => exact ⟨0, by omega, rfl, (fun j hj => absurd hj (Nat.not_lt_zero j) : ∀ j, j < 0 → s.getD j 0 ≠ 0)⟩
  case round =>
    obtain ⟨k, hk, rfl, hz⟩ := hrel
    by_cases hlt : k < s.length
    · have hkn : (k : Int) < (s.length : Int) := by omega
      have hx := str_at s k hlt
      generalize hg : s.getD k 0 = g at hx
      have HG := Lib.hid hg; clear hg
      by_cases h0 : g = 0
      · subst h0
        have hf : r = false := by
          rw [← HR.out]
          have : 0 ≤ Lib.indexByte s 0 := by
            rcases Int.lt_or_le (Lib.indexByte s 0) 0 with h | h
            · exact absurd HG.out (Plain.indexByte_none s h k hlt)
            · exact h
          simp [Plain.txt, this]
        subst hf
        go_wp2
        go_ret
        exact ⟨rfl, rfl⟩
      · have hb : ((g.toNat : Int) == 0) = false := by rw [beq_eq_false_iff_ne]; intro h; exact h0 (UInt8.toNat_inj.1 (by simpa using (by omega : g.toNat = 0)))
        clear h0
        go_wp2
        go_round
        case rel =>
          refine ⟨k + 1, by omega, by go_num, (fun j hj => ?_ : ∀ j, j < k + 1 → s.getD j 0 ≠ 0)⟩
          by_cases hjk : j = k
          · subst hjk; rw [HG.out]; intro h; subst h; simp at hb
          · exact hz.out j (by omega)
        case measure => simp [intOf]; omega
    · obtain rfl : k = s.length := by omega
      have hi : Lib.indexByte s 0 < 0 := by
        rcases Int.lt_or_le (Lib.indexByte s 0) 0 with h | h
        · exact h
        · obtain ⟨j, hj, h0⟩ := Plain.indexByte_some s h; exact absurd h0 (hz.out j hj)
      have hr2 : (!decide ((s.length : Int) < lo) && !decide (4096 < (s.length : Int))) = r := by
        rw [← HR.out]; unfold Plain.txt
        have : decide (0 ≤ Lib.indexByte s 0) = false := dec_f (by omega)
        rw [this]; simp
      clear hz hi
      have HR2 := Lib.hid hr2; clear hr2
      go_wp2
      all_goals
        go_ret
        refine ⟨ret_bool ?_, rfl⟩
        rw [← HR2.out, Bool.eq_iff_iff]
        simp
        try omega
theorem ScText1 (lo : Int) (s : List UInt8) (w : World) (b : Nat) (hb : w.heap.size = b) :
    Calls Try.prog 41 #[.int .i64 lo, .slice (some ⟨b, 0, none⟩) 1 1] (w.alloc (.cells #[.string ⟨s.toArray⟩] 9)) fun e w' => e = .returned (.bool (Plain.txt lo s)) ∧ w.alloc (.cells #[.string ⟨s.toArray⟩] 9) = w' := by
  subst hb
  have h : IsSl (w.alloc (.cells #[.string ⟨s.toArray⟩] 9)) 1 (some ⟨w.heap.size, 0, none⟩) 1 1 ([s].map strV) := isSl_new w 9 1 1 #[.string ⟨s.toArray⟩] rfl (by decide)
  exact (ScText_any lo [s] _ _ _ _ h).mono fun e w' ⟨he, hw⟩ => ⟨by rw [he]; simp, hw⟩
theorem ScText2 (lo : Int) (s t : List UInt8) (w : World) (b : Nat) (hb : w.heap.size = b) :
    Calls Try.prog 41 #[.int .i64 lo, .slice (some ⟨b, 0, none⟩) 2 2] (w.alloc (.cells #[.string ⟨s.toArray⟩, .string ⟨t.toArray⟩] 9)) fun e w' => e = .returned (.bool (Plain.txt lo s && Plain.txt lo t)) ∧ w.alloc (.cells #[.string ⟨s.toArray⟩, .string ⟨t.toArray⟩] 9) = w' := by
  subst hb
  have h : IsSl (w.alloc (.cells #[.string ⟨s.toArray⟩, .string ⟨t.toArray⟩] 9)) 1 (some ⟨w.heap.size, 0, none⟩) 2 2 ([s, t].map strV) := isSl_new w 9 1 2 #[.string ⟨s.toArray⟩, .string ⟨t.toArray⟩] rfl (by decide)
  exact (ScText_any lo [s, t] _ _ _ _ h).mono fun e w' ⟨he, hw⟩ => ⟨by rw [he]; simp, hw⟩
/-- an entry by value -/
abbrev entV (k : Int) (name link : List UInt8) (mode uid gid : Int) (user group : List UInt8) (sec nano : Int) (a : Option Addr) (n c : Nat) : Value :=
  .agg #[.int .i64 k, .string ⟨name.toArray⟩, .string ⟨link.toArray⟩, .int .i64 mode, .int .i64 uid, .int .i64 gid, .string ⟨user.toArray⟩, .string ⟨group.toArray⟩, .int .i64 sec, .int .i64 nano, .slice a n c]
namespace Plain
def own (i : Int) : Bool := decide (0 ≤ i) && decide (i ≤ 2147483647)
def fitB (k : Int) (T1 T2 T3 T4 T5 T6 : Bool) (link : List UInt8) (mode uid gid : Int) (n : Nat) : Bool :=
  decide (1 ≤ k) && decide (k ≤ 4) && T1 && T2 && T3 && !(decide (k = 1) && T6) && (decide (k = 1) || decide (n = 0)) &&
    (if 3 ≤ k then T4 else link.isEmpty) && decide (0 ≤ mode) && decide (mode ≤ 4095) && own uid && own gid && T5
/-- can the entry be written? -/
def fits (k : Int) (name link : List UInt8) (mode uid gid : Int) (user group : List UInt8) (sec nano : Int) (n : Nat) : Bool :=
  fitB k (txt 1 name) (txt 0 user) (txt 0 group) (txt 1 link) (valid sec nano) (Lib.hasSuffix name [47]) link mode uid gid n
section
variable {k : Int} {T1 T2 T3 T4 T5 T6 r : Bool} {link : List UInt8} {mode uid gid : Int} {n : Nat}
theorem fitB_true : fitB k T1 T2 T3 T4 T5 T6 link mode uid gid n = true ↔ (1 ≤ k ∧ k ≤ 4) ∧ (T1 = true ∧ T2 = true ∧ T3 = true) ∧ (k = 1 → T6 = false) ∧ (k ≠ 1 → n = 0) ∧ (3 ≤ k → T4 = true) ∧ (k < 3 → link.isEmpty = true) ∧
    (0 ≤ mode ∧ mode ≤ 4095) ∧ (own uid = true ∧ own gid = true) ∧ T5 = true := by
  unfold fitB
  by_cases h3 : 3 ≤ k
  · have h1 : ¬ k = 1 := by omega
    have h2 : ¬ k < 3 := by omega
    simp [h3, h1, h2, and_assoc]
  · have h2 : k < 3 := by omega
    by_cases h1 : k = 1
    · subst h1; simp [and_assoc]
    · simp [h3, h1, h2, and_assoc]
theorem fit_no (hr : Hid (fitB k T1 T2 T3 T4 T5 T6 link mode uid gid n = r)) (h : fitB k T1 T2 T3 T4 T5 T6 link mode uid gid n = true → False) : false = r := by
  rw [← hr.out]; cases hf : fitB k T1 T2 T3 T4 T5 T6 link mode uid gid n with
  | false => rfl
  | true => exact absurd hf h
theorem fit_a (hr : Hid (fitB k T1 T2 T3 T4 T5 T6 link mode uid gid n = r)) (h1 : (k == 1) = true) (h2 : T6 = true) : false = r :=
  fit_no hr fun h => by have := (fitB_true.1 h).2.2.1 (by simpa using h1); rw [h2] at this; cases this
theorem fit_b (hr : Hid (fitB k T1 T2 T3 T4 T5 T6 link mode uid gid n = r)) (h1 : (k == 1) = false) (h2 : 0 < n) : false = r :=
  fit_no hr fun h => by have := (fitB_true.1 h).2.2.2.1 (by simpa using h1); omega
theorem fit_c (hr : Hid (fitB k T1 T2 T3 T4 T5 T6 link mode uid gid n = r)) (h1 : (k == 1) = false) (h2 : (k == 2) = false) (h3 : (k == 3) = false) (h4 : (k == 4) = false) : false = r :=
  fit_no hr fun h => by have := (fitB_true.1 h).1; simp only [beq_eq_false_iff_ne] at h1 h2 h3 h4; omega
/-- what the switch leaves -/
def Kind (k : Int) (T6 : Bool) (n : Nat) (L : Bool) : Prop := 1 ≤ k ∧ k ≤ 4 ∧ (k = 1 → T6 = false) ∧ (k ≠ 1 → n = 0) ∧ L = decide (3 ≤ k)
theorem kind_1 (h1 : (k == 1) = true) (h : T6 = false) : Kind k T6 n false := by
  have : k = 1 := by simpa using h1
  subst this; exact ⟨by omega, by omega, fun _ => h, fun h => absurd rfl h, rfl⟩
theorem kind_34 (h1 : (k == 1) = false) (h3 : (k == 3) = true ∨ (k == 4) = true) (h : ¬ 0 < n) : Kind k T6 n true := by
  simp only [beq_iff_eq, beq_eq_false_iff_ne] at h1 h3
  exact ⟨by omega, by omega, fun h => absurd h h1, fun _ => by omega, by simp; omega⟩
theorem kind_2 (h1 : (k == 1) = false) (h3 : (k == 2) = true) (h : ¬ 0 < n) : Kind k T6 n false := by
  simp only [beq_iff_eq, beq_eq_false_iff_ne] at h1 h3
  exact ⟨by omega, by omega, fun h => absurd h h1, fun _ => by omega, by simp; omega⟩
variable {L O : Bool}
/-- what is asked of the link -/
def LinkOk (k : Int) (T4 : Bool) (link : List UInt8) : Prop := (3 ≤ k → T4 = true) ∧ (k < 3 → link.isEmpty = true)
theorem fit_z (hr : Hid (fitB k T1 T2 T3 T4 T5 T6 link mode uid gid n = r)) (hk : Kind k T6 n L) (hl : LinkOk k T4 link) (h1 : T1 = true) (h2 : T2 = true ∧ T3 = true) (m1 : 0 ≤ mode) (m2 : mode ≤ 4095)
    (hO : Hid ((own uid && own gid) = O)) (ho : O = true) : T5 = r := by
  have h := hO.out
  rw [ho, Bool.and_eq_true] at h
  obtain ⟨k1, k2, k3, k4, _⟩ := hk
  cases T5 with
  | true => rw [← hr.out]; exact (fitB_true.2 ⟨⟨k1, k2⟩, ⟨h1, h2.1, h2.2⟩, k3, k4, hl.1, hl.2, ⟨m1, m2⟩, h, rfl⟩).symm
  | false => exact fit_no hr fun h => by have := (fitB_true.1 h).2.2.2.2.2.2.2.2; cases this
theorem fit_o (hr : Hid (fitB k T1 T2 T3 T4 T5 T6 link mode uid gid n = r)) (hO : Hid ((own uid && own gid) = O)) (ho : ¬ O = true) : false = r :=
  fit_no hr fun h => ho (by rw [← hO.out, Bool.and_eq_true]; exact (fitB_true.1 h).2.2.2.2.2.2.2.1)
theorem fit_m (hr : Hid (fitB k T1 T2 T3 T4 T5 T6 link mode uid gid n = r)) (hm : mode < 0 ∨ 4095 < mode) : false = r :=
  fit_no hr fun h => by have := (fitB_true.1 h).2.2.2.2.2.2.1; omega
theorem fit_t (hr : Hid (fitB k T1 T2 T3 T4 T5 T6 link mode uid gid n = r)) (h2 : ¬ (T2 = true ∧ T3 = true)) : false = r :=
  fit_no hr fun h => h2 (fitB_true.1 h).2.1.2
theorem fit_1 (hr : Hid (fitB k T1 T2 T3 T4 T5 T6 link mode uid gid n = r)) (h2 : ¬ T1 = true) : false = r :=
  fit_no hr fun h => h2 (fitB_true.1 h).2.1.1
end
end Plain
set_option maxRecDepth 100000 in
set_option maxHeartbeats 2000000 in
theorem Fits_any (k : Int) (name link : List UInt8) (mode uid gid : Int) (user group : List UInt8) (sec nano : Int) (a : Option Addr) (n c : Nat) (w : World) (hl : name.length ≤ 140737488351232) :
    Calls Try.prog 33 #[entV k name link mode uid gid user group sec nano a n c] w fun e w' => e = .returned (.bool (Plain.fits k name link mode uid gid user group sec nano n)) ∧ Below w.heap.size w w' := by
  generalize hr : Plain.fits k name link mode uid gid user group sec nano n = r
  unfold Plain.fits at hr
  generalize h1 : Plain.txt 1 name = T1 at hr
  generalize h2 : Plain.txt 0 user = T2 at hr
  generalize h3 : Plain.txt 0 group = T3 at hr
  generalize h4 : Plain.txt 1 link = T4 at hr
  generalize h5 : Plain.valid sec nano = T5 at hr
  generalize h6 : Lib.hasSuffix name [47] = T6 at hr
  have H1 := Lib.hid h1; have H2 := Lib.hid h2; have H3 := Lib.hid h3; have H4 := Lib.hid h4; have H5 := Lib.hid h5; have H6 := Lib.hid h6; have HR := Lib.hid hr
  clear h1 h2 h3 h4 h5 h6 hr
  have hz : (⟨name.toArray⟩ : ByteArray).size ≤ 9223372036854775807 := by simp [ByteArray.size]; omega
  go_enter Try.func33, Try.ntmps33
  go_upto_region 1 with fail
  iterate 8 go_step
  have b0 : Below w.heap.size w (w.alloc (.cells #[.int .i64 k, .string ⟨name.toArray⟩, .string ⟨link.toArray⟩, .int .i64 mode, .int .i64 uid, .int .i64 gid, .string ⟨user.toArray⟩, .string ⟨group.toArray⟩, .int .i64 sec, .int .i64 nano, .slice a n c] 58)) := (Below.refl _ _).alloc (Nat.le_refl _) _
  go_cut [3] (fun s3 wx => ∃ L : Bool, s3 = .bool L ∧ wx = (w.alloc (.cells #[.int .i64 k, .string ⟨name.toArray⟩, .string ⟨link.toArray⟩, .int .i64 mode, .int .i64 uid, .int .i64 gid, .string ⟨user.toArray⟩, .string ⟨group.toArray⟩, .int .i64 sec, .int .i64 nano, .slice a n c] 58)) ∧ Plain.Kind k T6 n L)
  case first =>
    go_wp2_with (go_at_call 40; refine (Try.strings_HasSuffix _ _ _ hz).mono ?_; rintro e w1 ⟨rfl, hw⟩; obtain rfl := hw.symm; rw [H6.out])
    all_goals first
      | (go_meet; exact ⟨_, rfl, rfl, Plain.kind_1 ‹_› ‹_›⟩)
      | (go_meet; exact ⟨_, rfl, rfl, Plain.kind_34 ‹_› (by first | exact Or.inl ‹_› | exact Or.inr ‹_›) ‹_›⟩)
      | (go_meet; exact ⟨_, rfl, rfl, Plain.kind_2 ‹_› ‹_› ‹_›⟩)
      | (go_ret; exact ⟨ret_bool (Plain.fit_a HR ‹_› ‹_›), b0⟩)
      | (go_ret; exact ⟨ret_bool (Plain.fit_b HR ‹_› ‹_›), b0⟩)
      | (go_ret; exact ⟨ret_bool (Plain.fit_c HR ‹_› ‹_› ‹_› ‹_›), b0⟩)
  case rest =>
    obtain ⟨L, rfl, rfl, hk⟩ := hcut
    cases L with
    | true =>
      cases T4 with
      | false =>
        go_wp2_with (go_at_call 41; refine (ScText1 1 link _ _ (by simp)).mono ?_; rintro e w1 ⟨rfl, rfl⟩; rw [H4.out])
        go_ret
        exact ⟨ret_bool (Plain.fit_no HR fun h => by have h4 := (Plain.fitB_true.1 h).2.2.2.2.1 (of_decide_eq_true hk.2.2.2.2.symm); cases h4), Below.alloc b0 (by simp) _⟩
      | true =>
        have hlk : Plain.LinkOk k true link := ⟨fun _ => rfl, fun h => by have := of_decide_eq_true hk.2.2.2.2.symm; omega⟩
        go_upto_region 15 with (go_at_call 41; refine (ScText1 1 link _ _ (by simp)).mono ?_; rintro e w1 ⟨rfl, rfl⟩; rw [H4.out])
        go_cut [4] (fun s4 wx => s4 = .bool (Plain.own uid && Plain.own gid) ∧ wx = ((w.alloc (.cells #[.int .i64 k, .string ⟨name.toArray⟩, .string ⟨link.toArray⟩, .int .i64 mode, .int .i64 uid, .int .i64 gid, .string ⟨user.toArray⟩, .string ⟨group.toArray⟩, .int .i64 sec, .int .i64 nano, .slice a n c] 58)).alloc (.cells #[.string ⟨link.toArray⟩] 9)))
        case first =>
          go_wp2
          all_goals
            go_meet
            refine ⟨congrArg Value.bool ?_, rfl⟩
            rw [Bool.eq_iff_iff]
            simp [Plain.own]
            try omega
        case rest =>
          obtain ⟨rfl, rfl⟩ := hcut
          generalize hO : (Plain.own uid && Plain.own gid) = O
          have HO := Lib.hid hO; clear hO
          go_wp2_with (first | (go_at_call 41; first | ((with_reducible refine (ScText1 1 name _ _ ?hb1).mono ?_); (case hb1 => simp); rintro e w1 ⟨rfl, rfl⟩; rw [H1.out]) | ((with_reducible refine (ScText2 0 user group _ _ ?hb2).mono ?_); (case hb2 => simp); rintro e w1 ⟨rfl, rfl⟩; rw [H2.out, H3.out])) | (go_at_call 42; refine (Valid_any _ _ _).mono ?_; rintro e w1 ⟨rfl, hv⟩; rw [H5.out]))
          all_goals
            go_ret
            refine ⟨ret_bool (by first | exact Plain.fit_z HR hk hlk ‹_› ‹_› ‹_› ‹_› HO ‹_› | exact Plain.fit_o HR HO ‹_› | exact Plain.fit_m HR (by first | exact Or.inl ‹_› | exact Or.inr ‹_›) | exact Plain.fit_t HR ‹_› | exact Plain.fit_1 HR ‹_›), ?_⟩
            try refine Below.seq ?_ hv
            repeat (first | exact b0 | refine Below.alloc ?_ (by simp <;> omega) _)
    | false =>
      cases hle : link.isEmpty with
      | false =>
        go_wp2
        go_ret
        exact ⟨ret_bool (Plain.fit_no HR fun h => by have h4 := (Plain.fitB_true.1 h).2.2.2.2.2.1 (by have := of_decide_eq_false hk.2.2.2.2.symm; omega); rw [hle] at h4; cases h4), b0⟩
      | true =>
        have hlk : Plain.LinkOk k T4 link := ⟨fun h => by have := of_decide_eq_false hk.2.2.2.2.symm; omega, fun _ => hle⟩
        go_upto_region 15 with fail
        go_cut [4] (fun s4 wx => s4 = .bool (Plain.own uid && Plain.own gid) ∧ wx = (w.alloc (.cells #[.int .i64 k, .string ⟨name.toArray⟩, .string ⟨link.toArray⟩, .int .i64 mode, .int .i64 uid, .int .i64 gid, .string ⟨user.toArray⟩, .string ⟨group.toArray⟩, .int .i64 sec, .int .i64 nano, .slice a n c] 58)))
        case first =>
          go_wp2
          all_goals
            go_meet
            refine ⟨congrArg Value.bool ?_, rfl⟩
            rw [Bool.eq_iff_iff]
            simp [Plain.own]
            try omega
        case rest =>
          obtain ⟨rfl, rfl⟩ := hcut
          generalize hO : (Plain.own uid && Plain.own gid) = O
          have HO := Lib.hid hO; clear hO
          go_wp2_with (first | (go_at_call 41; first | ((with_reducible refine (ScText1 1 name _ _ ?hb1).mono ?_); (case hb1 => simp); rintro e w1 ⟨rfl, rfl⟩; rw [H1.out]) | ((with_reducible refine (ScText2 0 user group _ _ ?hb2).mono ?_); (case hb2 => simp); rintro e w1 ⟨rfl, rfl⟩; rw [H2.out, H3.out])) | (go_at_call 42; refine (Valid_any _ _ _).mono ?_; rintro e w1 ⟨rfl, hv⟩; rw [H5.out]))
          all_goals
            go_ret
            refine ⟨ret_bool (by first | exact Plain.fit_z HR hk hlk ‹_› ‹_› ‹_› ‹_› HO ‹_› | exact Plain.fit_o HR HO ‹_› | exact Plain.fit_m HR (by first | exact Or.inl ‹_› | exact Or.inr ‹_›) | exact Plain.fit_t HR ‹_› | exact Plain.fit_1 HR ‹_›), ?_⟩
            try refine Below.seq ?_ hv
            repeat (first | exact b0 | refine Below.alloc ?_ (by simp <;> omega) _)
end Go.Proofs.Ytlmenpfglcigcaa
