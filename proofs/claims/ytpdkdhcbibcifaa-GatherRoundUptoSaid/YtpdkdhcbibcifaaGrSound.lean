/-
  GrSound: within, text, sound of graph.
-/
import Derived.Test.YtpdkdhcbibcifaaGrMem
import Derived.Test.YtpdkdhcbibcifaaValid
import Derived.Test.YtpdkdhcbibcifaaShelf
import Derived.BigQuiet
namespace Go.Proofs.Ytpdkdhcbibcifaa
set_option linter.unusedVariables false
set_option linter.unusedSimpArgs false
open Go.ChangeShapes Go.WideShapes Go.ChangeAt Go.RowKit
namespace Gr
def wi (v lo hi : Int) : Bool := decide (lo ≤ v) && decide (v ≤ hi)
set_option maxRecDepth 100000 in
theorem within_any (v lo hi : Int) (w : World) : Calls Try.prog 62 #[.int .i64 v, .int .i64 lo, .int .i64 hi] w fun r w' => r = .returned (.bool (wi v lo hi)) ∧ w = w' := by
  generalize hr : wi v lo hi = r
  have HR := Lib.hid hr; clear hr
  go_enter Try.func62, Try.ntmps62
  go_wp2
  all_goals
    go_ret
    refine ⟨ret_bool ?_, rfl⟩
    rw [← HR.out]
    simp [wi]
    try omega
theorem index0 : ∀ (l : Bt) (c : UInt8), (Lib.indexByte l c < 0) ↔ c ∉ l
  | [], c => by simp [Lib.indexByte]
  | b :: l, c => by
    have ih := index0 l c
    unfold Lib.indexByte
    by_cases h : b = c
    · subst h; simp
    · rw [if_neg (by simpa using h)]
      have h' : ¬ c = b := fun e => h e.symm
      simp only [List.mem_cons, h', false_or]
      rw [← ih]
      have := Lib.indexByte_ge l c
      split
      · rename_i h1; simp at h1; omega
      · rename_i h1; simp at h1; omega
set_option maxRecDepth 100000 in
set_option maxHeartbeats 800000 in
theorem text_any (b o : Nat) (x : NdS) (w : World) (h : w.rangeAt b o (ndCells x)) :
    Calls Try.prog 63 #[.pointer (some ⟨b, o, none⟩)] w fun r w' => r = .returned (.bool (textOk x.1.kind x.1.target)) ∧ w = w' := by
  obtain ⟨⟨id, kind, mode, uid, gid, sec, nano, data, target, ents⟩, d, e⟩ := x
  have c1 := range_cell h 1 rfl
  have c8 := range_cell h 8 rfl
  simp only at c1 c8 ⊢
  have hi := Try.strings_IndexByte ⟨target.toArray⟩ 0
  have hz := index0 target 0
  have hlen : (⟨target.toArray⟩ : ByteArray).size = target.length := rfl
  simp only [List.toList_toArray] at hi
  have hz0 : (Int.toNat 0).toUInt8 = 0 := rfl
  rw [hz0] at hi
  generalize Lib.indexByte target 0 = j at *
  generalize hr : textOk kind target = r
  have HR := Lib.hid hr
  have HZ := Lib.hid hz
  have HI := Lib.hid hi
  clear hr hz hi h
  go_enter Try.func63, Try.ntmps63
  go_wp2_with (go_at_call 48; (refine (HI.out _).mono ?_); rintro r w1 ⟨rfl, rfl⟩)
  all_goals
    go_ret
    refine ⟨ret_bool ?_, rfl⟩
    rw [← HR.out, Bool.eq_iff_iff]
    have hz := HZ.out
    clear HR HZ HI c1 c8
    rcases Decidable.em (kind = 3) with hk | hk <;> simp_all [textOk] <;> omega
set_option maxRecDepth 100000 in
set_option maxHeartbeats 3200000 in
theorem sound_any (b o : Nat) (x : NdS) (w : World) (h : w.rangeAt b o (ndCells x)) (hd : Dat w x.2.1 x.1.data) (he : Ets w x.2.2 x.1.ents) :
    Calls Try.prog 56 #[.pointer (some ⟨b, o, none⟩)] w fun r w' => r = .returned (.bool (sound x.1)) ∧ Below w.heap.size w w' := by
  have HR2 := Lib.hid h
  have HT := Lib.hid (fun w' h => text_any b o x w' h)
  have hdl := hd.len
  have hel := he.len
  obtain ⟨⟨id, kind, mode, uid, gid, sec, nano, data, target, ents⟩, ⟨da, dn, dc⟩, ⟨ea, en, ec⟩⟩ := x
  have c1 := range_cell h 1 rfl
  have c2 := range_cell h 2 rfl
  have c3 := range_cell h 3 rfl
  have c4 := range_cell h 4 rfl
  have c5 := range_cell h 5 rfl
  have c6 := range_cell h 6 rfl
  have c7 := range_cell h 7 rfl
  have c9 := range_cell h 9 rfl
  have hv : validT sec nano = Plain.valid sec nano := by
    rw [Bool.eq_iff_iff]
    simp only [validT, Plain.valid, Bool.and_eq_true, decide_eq_true_eq, Bool.not_eq_true', Bool.and_eq_false_iff, decide_eq_false_iff_not]
    omega
  have hm : w.rangeAt b (o + 5) [.int .i64 sec, .int .i64 nano] := fun j v hj => by
    rcases j with _ | _ | j
    · simp at hj; subst hj; exact c5
    · simp at hj; subst hj; exact c6
    · simp at hj
  simp only at c1 c2 c3 c4 c5 c6 c7 c9 hdl hel HT ⊢
  have HV := Lib.hid (Valid_any sec nano w)
  have HM := Lib.hid hm
  have HW := Lib.hid (fun v lo hi w => within_any v lo hi w)
  generalize hr : sound _ = r
  simp only [sound, hv] at hr
  have hde : (data == []) = decide (dn = 0) := by
    rw [← hdl]; cases data <;> simp
  have hee : ents.isEmpty = decide (en = 0) := by
    rw [← hel]; cases ents <;> simp
  have hwi : decide (1 ≤ kind ∧ kind ≤ 3 ∧ 0 ≤ mode ∧ mode ≤ 4095 ∧ 0 ≤ uid ∧ uid ≤ 2147483647 ∧ 0 ≤ gid ∧ gid ≤ 2147483647) = (wi kind 1 3 && wi mode 0 4095 && wi uid 0 2147483647 && wi gid 0 2147483647) := by
    rw [Bool.eq_iff_iff]
    simp only [wi, Bool.and_eq_true, decide_eq_true_eq]
    constructor
    · rintro ⟨a, b, c, d, e, f, g, h⟩; exact ⟨⟨⟨⟨a, b⟩, c, d⟩, e, f⟩, g, h⟩
    · rintro ⟨⟨⟨⟨a, b⟩, c, d⟩, e, f⟩, g, h⟩; exact ⟨a, b, c, d, e, f, g, h⟩
  rw [hwi, hde, hee] at hr
  clear hde hee hwi
  have HR := Lib.hid hr
  have HDL := Lib.hid hdl; have HEL := Lib.hid hel
  clear hr hv hm h hd he c5 c6 hdl hel
  have HT2 := Lib.hid (fun w' (hb : Below w.heap.size w w') => HT.out w' (range_keep HR2.out (Below.keeps hb)))
  generalize textOk kind target = bt at *
  generalize Plain.valid sec nano = bv at *
  go_enter Try.func56, Try.ntmps56
  go_wp2_with (first
    | (go_at_call 62; (refine (HW.out _ _ _ _).mono ?_); rintro r w1 ⟨rfl, rfl⟩)
    | (refine wpList_load_mid rfl _ _ rfl b (o + 5) rfl _ _ HM.out Try.underlying36 rfl (by kernel_rfl) ?_)
    | (go_at_call 36; (refine (HV.out).mono ?_); rintro r w1 ⟨rfl, hb1⟩)
    | (go_at_call 63; (refine (HT2.out _ hb1).mono ?_); rintro r w2 ⟨rfl, rfl⟩))
  all_goals
    go_ret
    refine ⟨ret_bool ?_, by first | exact Below.refl _ _ | assumption⟩
    rw [← HR.out]
    clear HR HDL HEL HT HT2 HV HM HW HR2
    simp_all
  all_goals try omega
end Gr
end Go.Proofs.Ytpdkdhcbibcifaa
