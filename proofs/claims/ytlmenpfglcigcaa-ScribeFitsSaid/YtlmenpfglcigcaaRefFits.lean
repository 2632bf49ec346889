/-
  RefFits: the reference's Fits.
-/
import Derived.Test.YtlmenpfglcigcaaFits
namespace Go.Proofs.Ytlmenpfglcigcaa
open Go.ChangeShapes Go.WideShapes Go.ChangeAt Go.RowKit
namespace Plain
theorem suffix_last (l : List UInt8) (h : 0 < l.length) : Lib.hasSuffix l [47] = (l.getD (l.length - 1) 0 == 47) := by
  rw [Bool.eq_iff_iff]
  unfold Lib.hasSuffix
  rw [List.isSuffixOf_iff_suffix, beq_iff_eq]
  have hne : l ≠ [] := List.length_pos_iff.1 h
  have e : l.getD (l.length - 1) 0 = l.getLast hne := by
    rw [List.getLast_eq_getElem]; simp [List.getD, List.getElem?_eq_getElem (show l.length - 1 < l.length by omega)]
  rw [e]
  constructor
  · rintro ⟨m, rfl⟩; simp
  · intro hl; exact ⟨l.dropLast, by rw [← hl]; exact List.dropLast_concat_getLast hne⟩
variable {k : Int} {T1 T2 T3 T4 T5 T6 r : Bool} {link : List UInt8} {mode uid gid : Int} {n : Nat}
def C1 (k : Int) (T1 T2 T3 : Bool) : Prop := 1 ≤ k ∧ k ≤ 4 ∧ T1 = true ∧ T2 = true ∧ T3 = true
def C2 (k : Int) (T6 : Bool) (n : Nat) : Prop := (k = 1 → T6 = false) ∧ (k ≠ 1 → n = 0)
theorem ref_1 (hr : Hid (fitB k T1 T2 T3 T4 T5 T6 link mode uid gid n = r)) (h : (k < 1 ∨ 4 < k) ∨ ¬ T1 = true ∨ ¬ T2 = true) : false = r :=
  fit_no hr fun hf => by
    obtain ⟨h1, ⟨h2, h3, _⟩, _⟩ := fitB_true.1 hf
    rcases h with h | h | h
    · omega
    · exact h h2
    · exact h h3
theorem ref_3 (hr : Hid (fitB k T1 T2 T3 T4 T5 T6 link mode uid gid n = r)) (h : (k < 1 ∨ 4 < k) ∨ (!T3) = true) : false = r :=
  fit_no hr fun hf => by
    obtain ⟨h1, ⟨_, _, h3⟩, _⟩ := fitB_true.1 hf
    rcases h with h | h
    · omega
    · rw [h3] at h; cases h
theorem ref_c1 (h1 : T1 = true) (h2 : T2 = true) (h3 : (1 ≤ k ∧ k ≤ 4) ∧ (!T3) = false) : C1 k T1 T2 T3 := ⟨h3.1.1, h3.1.2, h1, h2, by simpa using h3.2⟩
theorem ref_b (hr : Hid (fitB k T1 T2 T3 T4 T5 T6 link mode uid gid n = r)) (h : (k != 1) = true ∧ 0 < n) : false = r :=
  fit_no hr fun hf => by have := (fitB_true.1 hf).2.2.2.1 (by simpa using h.1); omega
theorem ref_c2 (hk : ¬ k = 1) (h : (k != 1) = false ∨ ¬ 0 < n) : C2 k T6 n := ⟨fun h => absurd h hk, fun _ => by rcases h with h | h; simp at h; exact absurd h hk; omega⟩
theorem ref_4 (hr : Hid (fitB k T1 T2 T3 T4 T5 T6 link mode uid gid n = r)) (h : 3 ≤ k) (h4 : ¬ T4 = true) : false = r :=
  fit_no hr fun hf => h4 ((fitB_true.1 hf).2.2.2.2.1 h)
theorem ref_l (hr : Hid (fitB k T1 T2 T3 T4 T5 T6 link mode uid gid n = r)) (h : k < 3) (h4 : (!link.isEmpty) = true) : false = r :=
  fit_no hr fun hf => by have := (fitB_true.1 hf).2.2.2.2.2.1 h; rw [this] at h4; cases h4
theorem ref_own (hr : Hid (fitB k T1 T2 T3 T4 T5 T6 link mode uid gid n = r)) (h : uid < 0 ∨ 2147483647 < uid ∨ gid < 0 ∨ 2147483647 < gid) : false = r :=
  fit_no hr fun hf => by
    have := (fitB_true.1 hf).2.2.2.2.2.2.2.1
    simp only [own, Bool.and_eq_true, decide_eq_true_eq] at this
    omega
theorem ref_z (hr : Hid (fitB k T1 T2 T3 T4 T5 T6 link mode uid gid n = r)) (h1 : C1 k T1 T2 T3) (h2 : C2 k T6 n) (h3 : LinkOk k T4 link) (m1 : 0 ≤ mode) (m2 : mode ≤ 4095) (o1 : 0 ≤ uid) (o2 : uid ≤ 2147483647) (o3 : 0 ≤ gid) (o4 : gid ≤ 2147483647) : T5 = r :=
  fit_z (L := decide (3 ≤ k)) hr ⟨h1.1, h1.2.1, h2.1, h2.2, rfl⟩ h3 h1.2.2.1 h1.2.2.2 m1 m2 (O := true) (by show _ = _; simp [own, o1, o2, o3, o4]) rfl
end Plain
set_option maxRecDepth 100000 in
set_option maxHeartbeats 2000000 in
theorem RefFits_any (k : Int) (name link : List UInt8) (mode uid gid : Int) (user group : List UInt8) (sec nano : Int) (a : Option Addr) (n c : Nat) (w : World) (hl : name.length ≤ 140737488351232) (hu : user.length ≤ 140737488351232) (hg : group.length ≤ 140737488351232) (hk : link.length ≤ 140737488351232) :
    Calls Try.prog 35 #[entV k name link mode uid gid user group sec nano a n c] w fun e w' => e = .returned (.bool (Plain.fits k name link mode uid gid user group sec nano n)) ∧ Below w.heap.size w w' := by
  generalize hr : Plain.fits k name link mode uid gid user group sec nano n = r
  unfold Plain.fits at hr
  have hsf := Plain.suffix_last name
  generalize h1 : Plain.txt 1 name = T1 at hr
  generalize h2 : Plain.txt 0 user = T2 at hr
  generalize h3 : Plain.txt 0 group = T3 at hr
  generalize h4 : Plain.txt 1 link = T4 at hr
  generalize h5 : Plain.valid sec nano = T5 at hr
  generalize h6 : Lib.hasSuffix name [47] = T6 at hr hsf
  have H1 := Lib.hid h1; have H2 := Lib.hid h2; have H3 := Lib.hid h3; have H4 := Lib.hid h4; have H5 := Lib.hid h5; have H6 := Lib.hid h6; have HR := Lib.hid hr; have HSF := Lib.hid hsf
  clear h1 h2 h3 h4 h5 h6 hr hsf
  have b0 : Below w.heap.size w (w.alloc (.cells #[.int .i64 k, .string ⟨name.toArray⟩, .string ⟨link.toArray⟩, .int .i64 mode, .int .i64 uid, .int .i64 gid, .string ⟨user.toArray⟩, .string ⟨group.toArray⟩, .int .i64 sec, .int .i64 nano, .slice a n c] 58)) := (Below.refl _ _).alloc (Nat.le_refl _) _
  go_enter Try.func35, Try.ntmps35
  go_upto_region 0 with fail
  iterate 11 go_step
  go_cut [2] (fun s2 wx => s2 = .bool false ∧ wx = (w.alloc (.cells #[.int .i64 k, .string ⟨name.toArray⟩, .string ⟨link.toArray⟩, .int .i64 mode, .int .i64 uid, .int .i64 gid, .string ⟨user.toArray⟩, .string ⟨group.toArray⟩, .int .i64 sec, .int .i64 nano, .slice a n c] 58)) ∧ Plain.C1 k T1 T2 T3)
  case first =>
    go_wp2_with (go_at_call 43; first | ((with_reducible refine (RefTxt_any 1 name _ hl).mono ?_); rintro e w1 ⟨rfl, rfl⟩; rw [H1.out]) | ((with_reducible refine (RefTxt_any 0 user _ hu).mono ?_); rintro e w1 ⟨rfl, rfl⟩; rw [H2.out]) | ((with_reducible refine (RefTxt_any 0 group _ hg).mono ?_); rintro e w1 ⟨rfl, rfl⟩; rw [H3.out]))
    all_goals first
      | (go_meet; exact ⟨rfl, rfl, Plain.ref_c1 ‹_› ‹_› ‹_›⟩)
      | (go_ret; exact ⟨ret_bool (Plain.ref_3 HR ‹_›), b0⟩)
      | (go_ret; exact ⟨ret_bool (Plain.ref_1 HR (.inr (.inr ‹_›))), b0⟩)
      | (go_ret; exact ⟨ret_bool (Plain.ref_1 HR (.inr (.inl ‹_›))), b0⟩)
      | (go_ret; exact ⟨ret_bool (Plain.ref_1 HR (.inl (by omega))), b0⟩)
  case rest =>
    obtain ⟨rfl, rfl, hc1⟩ := hcut
    iterate 2 go_step
    · go_cut [2] (fun s2 wx => s2 = .bool false ∧ wx = (w.alloc (.cells #[.int .i64 k, .string ⟨name.toArray⟩, .string ⟨link.toArray⟩, .int .i64 mode, .int .i64 uid, .int .i64 gid, .string ⟨user.toArray⟩, .string ⟨group.toArray⟩, .int .i64 sec, .int .i64 nano, .slice a n c] 58)) ∧ Plain.C2 k T6 n)
      case first =>
        by_cases e1 : k = 1
        · have hpos : 0 < name.length := by
            have h1 := hc1.2.2.1
            rw [← H1.out] at h1
            simp [Plain.txt] at h1
            omega
          have hsf := HSF.out hpos
          obtain ⟨j, hj⟩ : ∃ j, name.length = j + 1 := ⟨name.length - 1, by omega⟩
          have hx := str_at name j (by omega)
          rw [hj, Nat.add_sub_cancel] at hsf
          generalize hg : name.getD j 0 = g at hx hsf
          have HE := Lib.hid e1
          clear hg hpos
          subst e1
          cases T6 with
          | true =>
            have h47 : ((g.toNat : Int) == 47) = true := by have : g = 47 := by simpa using hsf.symm
                                                            rw [this]; rfl
            clear hsf
            go_wp2
            go_ret
            exact ⟨ret_bool (Plain.fit_a HR rfl rfl), b0⟩
          | false =>
            have h47 : ((g.toNat : Int) == 47) = false := by
              rw [beq_eq_false_iff_ne]; intro h; have : g = 47 := UInt8.toNat_inj.1 (by simpa using (by omega : g.toNat = 47))
              subst this; simp at hsf
            clear hsf
            go_wp2
            go_meet
            exact ⟨rfl, rfl, fun _ => rfl, fun h => absurd rfl h⟩
        · go_wp2
          all_goals first
            | (go_meet; exact ⟨rfl, rfl, Plain.ref_c2 e1 ‹_›⟩)
            | (go_ret; exact ⟨ret_bool (Plain.ref_b HR ‹_›), b0⟩)
      case rest =>
        obtain ⟨rfl, rfl, hc2⟩ := hcut
        iterate 2 go_step
        go_cut [2] (fun s2 wx => s2 = .bool false ∧ wx = (w.alloc (.cells #[.int .i64 k, .string ⟨name.toArray⟩, .string ⟨link.toArray⟩, .int .i64 mode, .int .i64 uid, .int .i64 gid, .string ⟨user.toArray⟩, .string ⟨group.toArray⟩, .int .i64 sec, .int .i64 nano, .slice a n c] 58)) ∧ Plain.LinkOk k T4 link)
        case first =>
          go_wp2_with (go_at_call 43; ((with_reducible refine (RefTxt_any 1 link _ hk).mono ?_); rintro e w1 ⟨rfl, rfl⟩; rw [H4.out]))
          all_goals first
            | (go_meet; exact ⟨rfl, rfl, fun _ => ‹T4 = true›, fun h => by omega⟩)
            | (go_meet; exact ⟨rfl, rfl, fun h => by omega, fun _ => by simpa using ‹(!link.isEmpty) = false›⟩)
            | (go_ret; exact ⟨ret_bool (Plain.ref_4 HR ‹_› ‹_›), b0⟩)
            | (go_ret; exact ⟨ret_bool (Plain.ref_l HR ‹_› ‹_›), b0⟩)
        case rest =>
          obtain ⟨rfl, rfl, hc3⟩ := hcut
          go_wp2_with (go_at_call 44; refine (RefValid_any _ _ _).mono ?_; rintro e w1 ⟨rfl, hv⟩; rw [H5.out])
          all_goals
            go_ret
            refine ⟨ret_bool (by first | exact Plain.ref_z HR hc1 hc2 hc3 ‹_› ‹_› ‹_› ‹_› ‹_› ‹_› | exact Plain.ref_own HR (by omega) | exact Plain.fit_m HR (by omega)), ?_⟩
            first | exact b0 | exact Below.seq b0 hv
end Go.Proofs.Ytlmenpfglcigcaa
