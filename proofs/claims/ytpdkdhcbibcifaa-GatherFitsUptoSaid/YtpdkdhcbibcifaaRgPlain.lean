/-
  RgPlain: the reference's plain: a node by itself.
-/
import Derived.Test.YtpdkdhcbibcifaaJ09
namespace Go.Proofs.Ytpdkdhcbibcifaa
set_option linter.unusedVariables false
set_option linter.unusedSimpArgs false
open Go.ChangeShapes Go.WideShapes Go.ChangeAt Go.RowKit
namespace Gr
/-- a node's cells -/
def ndW (x : NdS) : Array Value := #[.int .i64 x.1.id, .int .i64 x.1.kind, .int .i64 x.1.mode, .int .i64 x.1.uid, .int .i64 x.1.gid, .int .i64 x.1.sec, .int .i64 x.1.nano, .slice x.2.1.1 x.2.1.2.1 x.2.1.2.2, .string ⟨x.1.target.toArray⟩, .slice x.2.2.1 x.2.2.2.1 x.2.2.2.2]
theorem ndW_list (x : NdS) : (ndW x).toList = ndCells x := rfl
theorem valid_eq (sec nano : Int) : validT sec nano = Plain.valid sec nano := by
  rw [Bool.eq_iff_iff]
  simp only [validT, Plain.valid, Bool.and_eq_true, decide_eq_true_eq, Bool.not_eq_true', Bool.and_eq_false_iff, decide_eq_false_iff_not]
  omega
set_option maxRecDepth 100000 in
set_option maxHeartbeats 4000000 in
theorem plain_any (x : NdS) (w : World) (hd : x.1.data.length = x.2.1.2.1) (he : x.1.ents.length = x.2.2.2.1) (ht : x.1.target.length ≤ 9223372036854775807) (hd2 : x.2.1.2.1 ≤ 9223372036854775807) :
    Calls Try.prog 66 #[.agg (ndW x)] w fun r w' => r = .returned (.bool (sound x.1)) ∧ Below w.heap.size w w' := by
  have hb1 : Below w.heap.size w (w.alloc (.cells (ndW x) 75)) := (Below.refl _ _).alloc (Nat.le_refl _) _
  have HB1 := Lib.hid hb1
  obtain ⟨⟨id, kind, mode, uid, gid, sec, nano, data, target, ents⟩, ⟨da, dn, dc⟩, ⟨ea, en, ec⟩⟩ := x
  simp only at hd he ht hd2
  have HM : Hid ((w.alloc (.cells (ndW (⟨id, kind, mode, uid, gid, sec, nano, data, target, ents⟩, (da, dn, dc), (ea, en, ec))) 75)).rangeAt w.heap.size 5 [.int .i64 sec, .int .i64 nano]) := Lib.hid (fun j v hj => by
    rw [World.cell?_alloc_new]
    rcases j with _ | _ | j
    · simp at hj; subst hj; rfl
    · simp at hj; subst hj; rfl
    · simp at hj)
  have hde : (data == []) = decide (dn = 0) := by
    rw [← hd]; cases data <;> simp
  have hee : ents.isEmpty = decide (en = 0) := by
    rw [← he]; cases ents <;> simp
  have hlen : (⟨target.toArray⟩ : ByteArray).size = target.length := rfl
  have HV := Lib.hid (RefValid_any sec nano)
  generalize hr : sound _ = r
  simp only [sound, valid_eq, hde, hee] at hr
  generalize Plain.valid sec nano = bv at *
  have HR := Lib.hid hr
  clear hr hde hee hb1
  simp only [ndW] at HB1 HM ⊢
  go_enter Try.func66, Try.ntmps66
  go_wp2_with (first
    | (refine wpList_load_mid rfl _ _ rfl w.heap.size 5 rfl _ _ HM.out Try.underlying36 rfl (by kernel_rfl) ?_)
    | (go_at_call 69; (refine (HV.out _).mono ?_); rintro r w1 ⟨rfl, hb2⟩; have c1 := box_cell hb2 1 rfl; have c7 := box_cell hb2 7 rfl; have c8 := box_cell hb2 8 rfl; have c9 := box_cell hb2 9 rfl))
  all_goals try (
    go_ret
    refine ⟨ret_bool ?_, by first | exact HB1.out | exact Below.seq HB1.out hb2⟩
    rw [← HR.out]
    clear HR HM HV HB1
    try clear c1 c7 c8 c9 hb2
    simp only [textOk] at *
    simp_all
    try omega
    done)
  · rename_i h
    go_ret
    refine ⟨ret_bool ?_, by first | exact HB1.out | exact Below.seq HB1.out hb2⟩
    rw [← HR.out]
    cases bv with
    | false => simp
    | true =>
      exfalso
      simp only [Bool.not_true, Bool.false_eq_true, or_false] at h
      omega
  · rename_i h1 h2 h3 h4 h5 h6 h7 h8 hb hk1 hd0 hk2 he0 hk3 Kx ax
    have hbv : bv = true := by
      have := hb.2
      cases bv with
      | true => rfl
      | false => cases this
    have hk : kind = 3 := by
      have : ¬ (kind != 3) = true := by rw [hk3]; decide
      simpa using this
    have he1 : en = 0 := by
      rcases he0 with he0 | he0
      · have : ¬ (kind != 2) = true := by rw [he0]; decide
        simp at this
        omega
      · omega
    have hr2 : Hid (r = (target != [] && decide (target.length ≤ 4096) && !(target.contains 0))) := by
      refine Lib.hid ?_
      rw [← HR.out]
      subst hbv hk he1 hd0
      simp [textOk]
      omega
    clear HR HM HV h1 h2 h3 h4 h5 h6 h7 h8 hb hk1 hk2 he0 hk3 hbv he1
    have HB2 := Lib.hid (Below.seq HB1.out hb2)
    clear hb2 HB1
    go_loop [3] (fun i => ∃ k : Nat, k ≤ target.length ∧ i = .int .i64 k ∧ Hid (∀ j, j < k → target.getD j 0 ≠ 0)) (fun i => target.length - (intOf i).toNat)
    case atStart => exact ⟨0, by omega, rfl, (fun j hj => absurd hj (Nat.not_lt_zero j) : ∀ j, j < 0 → target.getD j 0 ≠ 0)⟩
    case round =>
      obtain ⟨k, hkn, rfl, hz⟩ := hrel
      by_cases hlt : k < target.length
      · have hx := str_at target k hlt
        generalize hg : target.getD k 0 = g at hx
        have HG := Lib.hid hg; clear hg
        by_cases h0 : g = 0
        · subst h0
          have hf : r = false := by
            rw [hr2.out]
            have : target.contains 0 = true := by
              rw [List.contains_iff_mem]
              have h1 : target[k] = 0 := by simpa [List.getD, List.getElem?_eq_getElem hlt] using HG.out
              rw [← h1]; exact List.getElem_mem hlt
            rw [this]; simp
          subst hf
          go_wp2
          go_ret
          exact ⟨rfl, HB2.out⟩
        · have hb : ((g.toNat : Int) == 0) = false := by rw [beq_eq_false_iff_ne]; intro h; exact h0 (UInt8.toNat_inj.1 (by simpa using (by omega : g.toNat = 0)))
          have H0 := Lib.hid h0
          clear h0
          go_wp2
          go_round
          case rel =>
            refine ⟨k + 1, by omega, by go_num, (fun j hj => ?_ : ∀ j, j < k + 1 → target.getD j 0 ≠ 0)⟩
            by_cases hjk : j = k
            · subst hjk; rw [HG.out]; exact H0.out
            · exact hz.out j (by omega)
          case measure => simp [intOf]; omega
      · obtain rfl : k = target.length := by omega
        have hnz : target.contains 0 = false := by
          rw [Bool.eq_false_iff]
          intro h
          rw [List.contains_iff_mem] at h
          obtain ⟨j, hj, he⟩ := List.getElem_of_mem h
          exact hz.out j hj (by simp [List.getD, List.getElem?_eq_getElem hj, he])
        have hr3 : r = (decide (1 ≤ target.length) && decide (target.length ≤ 4096)) := by
          rw [hr2.out, hnz]
          cases target <;> simp
        have HR3 := Lib.hid hr3
        clear hr2 hnz hr3 hz
        go_wp2
        all_goals
          go_ret
          refine ⟨ret_bool ?_, HB2.out⟩
          rw [HR3.out]
          clear HR3
          rw [Bool.eq_iff_iff]
          simp only [Bool.and_eq_true, decide_eq_true_eq, Bool.false_eq_true, false_iff]
          omega
end Gr
end Go.Proofs.Ytpdkdhcbibcifaa
