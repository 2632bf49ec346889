/-
  Text: bytes.IndexByte on a slice of bytes; block.Text and the reference's Text: the bytes up to the first 0.
-/
import Derived.Test.YtjchaogfmnabfaaDoorBase
import Derived.Test.YtjchaogfmnabfaaDoorShelf
import Derived.Test.YtjchaogfmnabfaaDoorUseBytes
import Derived.Test.YtjchaogfmnabfaaDoorCopy
namespace Go.Proofs.YtjchaogfmnabfaaDoor
open Go.ChangeShapes Go.WideShapes Go.ChangeAt Go.RowKit
theorem IndexByte_bs (a : Option Addr) (n c : Nat) (l : List UInt8) (cv : Int) (w : World) (h : Bs w a n c l) :
    Calls Tryd.prog 66 #[.slice a n c, .int .u8 cv] w fun e w' => e = .returned (.int .i64 (Lib.indexByte l cv.toNat.toUInt8)) ∧ w = w' := by
  cases a with
  | none =>
    obtain ⟨rfl, rfl⟩ := h.2.2.2.2 rfl
    have : l = [] := List.eq_nil_of_length_eq_zero h.len
    subst this
    exact (Tryd.bytes_IndexByte_nil cv w).mono fun e w' ⟨he, hw⟩ => ⟨he, hw.symm⟩
  | some x =>
    have hb : Lib.bytesOf (l.map fun b => (b.toNat : Int)) = l := by simp [Lib.bytesOf, Function.comp_def]
    refine (Tryd.bytes_IndexByte_at x n c (l.map fun b => (b.toNat : Int)) cv w (by simpa using h.len) (fun i hi => ?_)).mono fun e w' ⟨he, hw⟩ => ⟨by rw [hb] at he; exact he, hw.symm⟩
    have hl := h.len
    have hil : i < l.length := by omega
    obtain ⟨y, hy, hc⟩ := h.2.2.2.1 i (u8v l[i]) (by simp [List.getElem?_eq_getElem hil])
    cases hy
    rw [hc]
    simp [List.getD, List.getElem?_eq_getElem hil, u8v]
namespace Plain
/-- the bytes up to the first 0 -/
def text (l : List UInt8) : List UInt8 := l.takeWhile (fun b => b != 0)
theorem text_len (l : List UInt8) : (text l).length ≤ l.length := by
  induction l with
  | nil => simp [text]
  | cons b l ih => by_cases h : b = 0 <;> simp_all [text]
theorem text_take (l : List UInt8) : l.take (text l).length = text l := by
  induction l with
  | nil => simp [text]
  | cons b l ih => by_cases h : b = 0 <;> simp_all [text]
theorem text_at (l : List UInt8) (k : Nat) (h : k < (text l).length) : l.getD k 0 ≠ 0 := by
  induction l generalizing k with
  | nil => simp [text] at h
  | cons b l ih =>
    by_cases hb : b = 0
    · simp [text, hb] at h
    · cases k with
      | zero => simpa using hb
      | succ k =>
        simp [text, hb] at h
        simpa using ih k (by simpa [text] using h)
theorem text_end (l : List UInt8) (h : (text l).length < l.length) : l.getD (text l).length 0 = 0 := by
  induction l with
  | nil => simp at h
  | cons b l ih =>
    by_cases hb : b = 0
    · simp [text, hb]
    · simp [text, hb] at h
      have := ih (by simpa [text] using h)
      simpa [text, List.takeWhile_cons, hb] using this
theorem text_cons (b : UInt8) (l : List UInt8) (hb : ¬ b = 0) : text (b :: l) = b :: text l := by simp [text, hb]
theorem text_zero (b : UInt8) (l : List UInt8) (hb : b = 0) : text (b :: l) = [] := by simp [text, hb]
theorem indexByte_text (l : List UInt8) : Lib.indexByte l 0 = if (text l).length = l.length then -1 else ((text l).length : Int) := by
  induction l with
  | nil => simp [text, Lib.indexByte]
  | cons b l ih =>
    by_cases hb : b = 0
    · rw [text_zero b l hb]
      simp [hb, Lib.indexByte]
    · have h1 : (b == 0) = false := by simpa using hb
      rw [text_cons b l hb]
      simp only [Lib.indexByte, h1, ih, Bool.false_eq_true, if_false, List.length_cons, Nat.add_right_cancel_iff]
      by_cases h3 : (text l).length = l.length
      · rw [if_pos h3, if_pos h3]; rfl
      · have h4 : (((text l).length : Int) == -1) = false := by rw [beq_eq_false_iff_ne]; omega
        rw [if_neg h3, if_neg h3, h4]
        simp
end Plain
set_option maxHeartbeats 400000 in
theorem Text_any (a : Option Addr) (n c : Nat) (l : List UInt8) (w : World) (h : Bs w a n c l) :
    Calls Tryd.prog 46 #[.slice a n c] w fun e w' => e = .returned (.string ⟨(Plain.text l).toArray⟩) ∧ w = w' := by
  have hl := h.len
  have hi := Plain.indexByte_text l
  have h1 := Plain.text_len l
  have h2 := Plain.text_take l
  have h0 : (0 : Int).toNat.toUInt8 = 0 := rfl
  generalize Plain.text l = t at *
  by_cases hz : t.length = l.length
  · rw [if_pos hz] at hi
    have ht : t = l := by rw [← h2, hz, List.take_length]
    clear h1 h2 hz
    subst ht
    have HI := Lib.hid hi; have HL := Lib.hid hl; have H0 := Lib.hid h0; clear hi hl h0
    go_enter Tryd.func46, Tryd.ntmps46
    go_wp2_with (first | (go_at_call 66; refine (IndexByte_bs _ _ _ _ _ _ h).mono ?_; rintro e w1 ⟨rfl, rfl⟩; rw [H0.out, HI.out]) | (with_reducible refine wpList_str_of_bs rfl _ _ _ rfl Tryd.underlying22 Tryd.underlying5 Tryd.underlying9 rfl h ?_))
    go_ret
    exact ⟨rfl, rfl⟩
  · rw [if_neg hz] at hi
    have HI := Lib.hid hi; have HL := Lib.hid hl; have H0 := Lib.hid h0; have H2 := Lib.hid h2; clear hi hl h0 h2
    have hm : t.length ≤ n := by rw [← HL.out]; exact h1
    go_enter Tryd.func46, Tryd.ntmps46
    go_wp2_with (first | (go_at_call 66; refine (IndexByte_bs _ _ _ _ _ _ h).mono ?_; rintro e w1 ⟨rfl, rfl⟩; rw [H0.out, HI.out]) | (with_reducible refine wpList_slice_bs rfl _ _ _ _ rfl Tryd.underlying22 (by kernel_rfl) rfl h 0 t.length .i64 .i64 rfl rfl (by omega) hm ?_; intro a2 hb2) | (with_reducible refine wpList_str_of_bs rfl _ _ _ rfl Tryd.underlying22 Tryd.underlying5 Tryd.underlying9 rfl hb2 ?_))
    go_ret
    refine ⟨ret_str ?_, rfl⟩
    rw [H2.out]
/-- the reference's Text -/
theorem RefText_any (a : Option Addr) (n c : Nat) (l : List UInt8) (w : World) (h : Bs w a n c l) :
    Calls Tryd.prog 49 #[.slice a n c] w fun e w' => e = .returned (.string ⟨(Plain.text l).toArray⟩) ∧ Below w.heap.size w w' := by
  have hl := h.len; have hcap := h.cap; have hmax := h.max
  have t1 := Plain.text_len l
  have t2 := Plain.text_take l
  have t3 := Plain.text_at l
  have t4 := Plain.text_end l
  generalize Plain.text l = t at *
  have HL := Lib.hid hl; have T2 := Lib.hid t2; have T3 := Lib.hid t3; have T4 := Lib.hid t4; clear hl t2 t3 t4
  have T1 : t.length ≤ n := by rw [← HL.out]; exact t1
  clear t1
  go_enter Tryd.func49, Tryd.ntmps49
  go_wp2
  go_loop [3] (fun i => ∃ k : Nat, k ≤ t.length ∧ i = .int .i64 k) (fun i => n - (intOf i).toNat)
  case atStart => exact ⟨0, by omega, rfl⟩
  case round =>
    obtain ⟨k, hk, rfl⟩ := hrel
    by_cases hlt : k < t.length
    · obtain ⟨b1, o1, rfl, h1⟩ := h.at k (by omega)
      have h2 := T3.out k hlt
      have hz : (((l.getD k 0).toNat : Int) != 0) = true := by
        rw [bne_iff_ne]; intro h0; exact h2 (UInt8.toNat_inj.1 (by simpa using h0))
      generalize ((l.getD k 0).toNat : Int) = g at h1 hz
      clear h2
      have hkn : (k : Int) < n := by omega
      go_wp2
      go_round
      case rel => exact ⟨k + 1, by omega, by go_num⟩
      case measure => simp [intOf]; omega
    · obtain rfl : k = t.length := by omega
      by_cases hn : t.length < n
      · obtain ⟨b1, o1, rfl, h1⟩ := h.at _ hn
        have h2 := T4.out (by rw [HL.out]; exact hn)
        rw [h2] at h1
        clear h2
        have hkn : (t.length : Int) < n := by omega
        go_wp2_with (first | (with_reducible refine wpList_slice_bs rfl _ _ _ _ rfl Tryd.underlying22 (by kernel_rfl) rfl h 0 t.length .i64 .i64 rfl rfl (by omega) T1 ?_; intro a2 hb2) | (with_reducible refine wpList_str_of_bs rfl _ _ _ rfl Tryd.underlying22 Tryd.underlying5 Tryd.underlying9 rfl hb2 ?_))
        go_ret
        exact ⟨ret_str (by first | rw [T2.out] | rw [List.drop_zero, T2.out]), Below.refl _ _⟩
      · have hkn : ¬ (t.length : Int) < n := by omega
        go_wp2_with (first | (with_reducible refine wpList_slice_bs rfl _ _ _ _ rfl Tryd.underlying22 (by kernel_rfl) rfl h 0 t.length .i64 .i64 rfl rfl (by omega) T1 ?_; intro a2 hb2) | (with_reducible refine wpList_str_of_bs rfl _ _ _ rfl Tryd.underlying22 Tryd.underlying5 Tryd.underlying9 rfl hb2 ?_))
        go_ret
        exact ⟨ret_str (by first | rw [T2.out] | rw [List.drop_zero, T2.out]), Below.refl _ _⟩
end Go.Proofs.YtjchaogfmnabfaaDoor
