/-
  CutOne: bytes.Cut and strings.Cut at one byte.
-/
import Derived.Test.YtjchaogfmnabfaaDoorBase
import Derived.Test.YtjchaogfmnabfaaDoorShelf
import Derived.Lib.Bytealg
namespace Go.Proofs.YtjchaogfmnabfaaDoor
set_option linter.unusedVariables false
set_option linter.unusedSimpArgs false
open Go.ChangeShapes Go.WideShapes Go.ChangeAt Go.RowKit
theorem indexByte_while : ∀ (l : List UInt8) (c : UInt8), Lib.indexByte l c = if (l.takeWhile (· != c)).length < l.length then (((l.takeWhile (· != c)).length : Nat) : Int) else -1
  | [], c => by simp [Lib.indexByte]
  | b :: l, c => by
    have ih := indexByte_while l c
    unfold Lib.indexByte
    by_cases h : b = c
    · subst h
      rw [if_pos (by simp), List.takeWhile_cons_of_neg (by simp)]
      simp
    · rw [if_neg (by simpa using h), List.takeWhile_cons_of_pos (by simpa using h), ih]
      by_cases h2 : (l.takeWhile (· != c)).length < l.length
      · rw [if_pos h2, if_neg (by simp), if_pos (by simp; omega)]; simp
      · rw [if_neg h2, if_pos (by simp), if_neg (by simp; omega)]
theorem BIndexByte_any (a : Option Addr) (n c : Nat) (l : List UInt8) (cv : UInt8) (w : World) (h : Bs w a n c l) :
    Calls Tryd.prog 66 #[.slice a n c, .int .u8 (cv.toNat : Int)] w fun e w' => e = .returned (.int .i64 (Lib.indexByte l cv)) ∧ w = w' := by
  have hcv : ((cv.toNat : Int).toNat).toUInt8 = cv := by simp
  cases a with
  | none =>
    obtain ⟨rfl, rfl⟩ := h.2.2.2.2 rfl
    have : l = [] := List.eq_nil_of_length_eq_zero h.len
    subst this
    exact (Tryd.bytes_IndexByte_nil (cv.toNat : Int) w).mono fun e w' ⟨he, hw⟩ => ⟨he, hw.symm⟩
  | some x =>
    have hb : Lib.bytesOf (l.map fun b => (b.toNat : Int)) = l := by simp [Lib.bytesOf, Function.comp_def]
    refine (Tryd.bytes_IndexByte_at x n c (l.map fun b => (b.toNat : Int)) (cv.toNat : Int) w (by simpa using h.len) (fun i hi => ?_)).mono fun e w' ⟨he, hw⟩ => ⟨by rw [hb, hcv] at he; exact he, hw.symm⟩
    have hl := h.len
    have hil : i < l.length := by omega
    obtain ⟨y, hy, hc⟩ := h.2.2.2.1 i (u8v l[i]) (by simp [List.getElem?_eq_getElem hil])
    cases hy
    rw [hc]
    simp [List.getD, List.getElem?_eq_getElem hil, u8v]
set_option maxRecDepth 100000 in
set_option maxHeartbeats 800000 in
theorem BIndexOne_any (a : Option Addr) (n c : Nat) (l : List UInt8) (b2 : Nat) (c2 : Nat) (cv : UInt8) (w : World) (h : Bs w a n c l) (hs : w.cell? ⟨b2, 0, none⟩ = some (.int .u8 (cv.toNat : Int))) :
    Calls Tryd.prog 74 #[.slice a n c, .slice (some ⟨b2, 0, none⟩) 1 c2] w fun e w' => e = .returned (.int .i64 (Lib.indexByte l cv)) ∧ w = w' := by
  have H := Lib.hid (BIndexByte_any a n c l cv w h)
  have hcap := h.cap; have hmax := h.max
  generalize Lib.indexByte l cv = i at *
  generalize (cv.toNat : Int) = v at *
  clear h
  go_enter Tryd.func74, Tryd.ntmps74
  go_wp2_with (go_at_call 66; (with_reducible refine (H.out).mono ?_); rintro e w1 ⟨rfl, hw⟩; obtain rfl := hw)
  go_ret
  exact ⟨rfl, rfl⟩
/-- bytes.Cut at one byte: what it hands back -/
def BCutRes (w : World) (a : Option Addr) (n c : Nat) (l : List UInt8) (cv : UInt8) (e : Ending) (w' : World) : Prop :=
  Below w.heap.size w w' ∧ if (l.takeWhile (· != cv)).length < n then ∃ a1 a2, e = .returned (.tuple #[.slice a1 (l.takeWhile (· != cv)).length c, .slice a2 (n - ((l.takeWhile (· != cv)).length + 1)) (c - ((l.takeWhile (· != cv)).length + 1)), .bool true]) ∧ Bs w' a1 (l.takeWhile (· != cv)).length c (l.takeWhile (· != cv))
    else ∃ v1 v2, e = .returned (.tuple #[v1, v2, .bool false])
theorem bs_take {w : World} {a : Option Addr} {n c : Nat} {l : List UInt8} (h : Bs w a n c l) (i : Nat) (hi : i ≤ n) : Bs w a i c (l.take i) := by
  have hl := h.len; have hcap := h.cap; have hm := h.max
  refine ⟨by simp; omega, by omega, by unfold maxLen; omega, fun j v hj => ?_, fun ha => ?_⟩
  · rw [List.map_take, List.getElem?_take] at hj
    split at hj
    · exact h.2.2.2.1 j v hj
    · cases hj
  · have := h.2.2.2.2 ha
    omega
theorem while_take (l : List UInt8) (p : UInt8 → Bool) : l.takeWhile p = l.take (l.takeWhile p).length := List.prefix_iff_eq_take.1 (List.takeWhile_prefix _)
theorem bcut_yes {w w' : World} {a : Option Addr} {n c i : Nat} {l : List UInt8} {cv : UInt8} (hi : (l.takeWhile (· != cv)).length = i) (hf : i < n) (a1 a2 : Option Addr) (m k : Nat) (hm : m = n - (i + 1)) (hk : k = c - (i + 1)) (hb : Below w.heap.size w w') (h : Bs w' a1 i c (l.take i)) :
    BCutRes w a n c l cv (.returned (.tuple #[.slice a1 i c, .slice a2 m k, .bool true])) w' := by
  subst hm; subst hk
  have ht := while_take l (· != cv)
  rw [hi] at ht
  unfold BCutRes
  rw [hi, if_pos hf, ht]
  exact ⟨hb, a1, a2, rfl, h⟩
theorem bcut_no {w w' : World} {a : Option Addr} {n c i : Nat} {l : List UInt8} {cv : UInt8} (hi : (l.takeWhile (· != cv)).length = i) (hf : ¬ i < n) (v1 v2 : Value) (hb : Below w.heap.size w w') :
    BCutRes w a n c l cv (.returned (.tuple #[v1, v2, .bool false])) w' := by
  unfold BCutRes
  rw [hi, if_neg hf]
  exact ⟨hb, v1, v2, rfl⟩
set_option maxHeartbeats 800000 in
theorem BCut_any (a : Option Addr) (n c : Nat) (l : List UInt8) (b2 : Nat) (c2 : Nat) (cv : UInt8) (w : World) (h : Bs w a n c l) (hs : w.cell? ⟨b2, 0, none⟩ = some (.int .u8 (cv.toNat : Int))) :
    Calls Tryd.prog 57 #[.slice a n c, .slice (some ⟨b2, 0, none⟩) 1 c2] w (BCutRes w a n c l cv) := by
  have H := BIndexOne_any a n c l b2 c2 cv w h hs
  have hcap := h.cap; have hmax := h.max; have hl := h.len
  rw [indexByte_while, hl] at H
  obtain ⟨i, hi⟩ : ∃ i, (l.takeWhile (· != cv)).length = i := ⟨_, rfl⟩
  rw [hi] at H
  have HI := Lib.hid hi
  by_cases hf : i < n
  · rw [if_pos hf] at H
    have HH := Lib.hid H
    have hif : (0 : Int) ≤ (i : Int) := by omega
    obtain ⟨b, off, rfl, _⟩ := h.at 0 (by omega)
    have hb1 := bs_take h i (by omega)
    have i1 : (i : Int) ≤ c := by omega
    have i2 : (i : Int) + 1 ≤ n := by omega
    have i3 : (n : Int) ≤ c := by omega
    have i4 : (i : Int) + 1 ≤ c := by omega
    have n1 : i + 1 ≤ n := by omega
    have n2 : i ≤ c := by omega
    have n3 : i + 1 ≤ c := by omega
    clear H hi hs hl
    by_cases hci : c = i + 1
    · subst hci
      have HB1 := Lib.hid hb1; clear hb1
      go_enter Tryd.func57, Tryd.ntmps57
      go_wp2_with (go_at_call 74; (with_reducible refine (HH.out).mono ?_); rintro e w1 ⟨rfl, hw⟩; obtain rfl := hw)
      go_quiet (fail)
      go_wp2
      go_ret3
      exact bcut_yes HI.out hf _ _ _ _ (by omega) (by omega) (Below.drewN (Below.refl _ _) _) ((Keeps.drewN _ _).bs HB1.out)
    · have HB1 := Lib.hid hb1; clear hb1
      go_enter Tryd.func57, Tryd.ntmps57
      go_wp2_with (go_at_call 74; (with_reducible refine (HH.out).mono ?_); rintro e w1 ⟨rfl, hw⟩; obtain rfl := hw)
      go_quiet (fail)
      go_wp2
      go_ret3
      exact bcut_yes HI.out hf _ _ _ _ (by omega) (by omega) (Below.drewN (Below.refl _ _) _) ((Keeps.drewN _ _).bs HB1.out)
  · rw [if_neg hf] at H
    have HH := Lib.hid H
    clear H hi hs hl
    go_enter Tryd.func57, Tryd.ntmps57
    go_wp2_with (go_at_call 74; (with_reducible refine (HH.out).mono ?_); rintro e w1 ⟨rfl, hw⟩; obtain rfl := hw)
    go_ret3
    exact bcut_no HI.out hf _ _ (Below.refl _ _)
end Go.Proofs.YtjchaogfmnabfaaDoor
