/-
  LawOct: 'alive', and the law NumeralBlanks, walked.
-/
import Derived.Test.YtccochopiaojnaaDoorOctWalk
import Derived.Test.YtccochopiaojnaaDoorCopy
namespace Go.Proofs.YtccochopiaojnaaDoor
open Go.ChangeShapes Go.WideShapes Go.ChangeAt Go.RowKit
theorem bs17 (w : World) : Bs (w.alloc (.cells #[.int .u8 32, .int .u8 49, .int .u8 55, .int .u8 32] 5 (4, 5))) (some ⟨w.heap.size, 0, none⟩) 4 4 [32, 49, 55, 32] :=
  isSl_mark w 5 1 4 #[.int .u8 32, .int .u8 49, .int .u8 55, .int .u8 32] _ rfl (by unfold maxLen; omega)
set_option maxHeartbeats 400000 in
theorem Alive_any (w : World) (ev : Value) (hE : ErrIs w ev) : Calls Tryd.prog 20 #[] w fun e w' => e = .returned (.bool true) ∧ Below w.heap.size w w' := by
  have hv : Plain.octal [32, 49, 55, 32] = (15, 0) := by decide +kernel
  have HV := Lib.hid hv; have HE := Lib.hid hE; clear hv hE
  have kc := fun (w : World) (C : Array Value) (n c : Nat) => Lib.run_convert_bytes_const (P := Tryd.prog) w 29 5 C n c Tryd.underlying29 Tryd.underlying5
  have hb := (Below.refl w.heap.size w).alloc (Nat.le_refl _) (.cells #[.int .u8 32, .int .u8 49, .int .u8 55, .int .u8 32] 5 (4, 5))
  have HB := Lib.hid hb; clear hb
  go_enter Tryd.func20, Tryd.ntmps20
  go_wp2_with (go_at_call 19; refine (Octal_any _ 4 4 [32, 49, 55, 32] _ ev (by exact bs17 w) (by decide) (by exact HE.out.below HB.out)).mono ?_; rintro e w1 ⟨rfl, hb1⟩; rw [HV.out]; unfold decV)
  go_ret
  exact ⟨ret_bool (by rfl), Below.seq HB.out hb1⟩
theorem dropWhile_snoc {p : UInt8 → Bool} (l : List UInt8) (c : UInt8) (hc : p c = false) : (l ++ [c]).dropWhile p = l.dropWhile p ++ [c] := by
  cases h : l.all p with
  | true => rw [dropWhile_pass l [c] h, dropWhile_all l h, List.dropWhile_cons_of_neg (by rw [hc]; exact Bool.false_ne_true)]; rfl
  | false => exact dropWhile_join l [c] h
theorem octHead_snoc (m : List UInt8) (c : UInt8) (hc : isOct c = false) : octHead (m ++ [c]) = octHead m := by
  have h1 := oct_split (m ++ [c])
  have h2 : octTail (m ++ [c]) = octTail m ++ [c] := dropWhile_snoc m c hc
  rw [h2, ← List.append_assoc] at h1
  have h3 := List.append_cancel_right h1
  have h4 := oct_split m
  rw [← h4] at h3
  rw [oct_split m] at h3
  exact List.append_cancel_right (by rw [h3, h4] : octHead (m ++ [c]) ++ octTail m = octHead m ++ octTail m)
/-- a blank ahead and a byte 0 behind change nothing -/
theorem octal_wide (l : List UInt8) : Plain.octal ([32] ++ l ++ [0]) = Plain.octal l := by
  have e : ([32] ++ l ++ [0]).dropWhile (· == 32) = l.dropWhile (· == 32) ++ [0] := by
    rw [List.append_assoc, List.singleton_append, List.dropWhile_cons_of_pos (by rfl), dropWhile_snoc l 0 (by rfl)]
  have h2 : octTail (l.dropWhile (· == 32) ++ [0]) = octTail (l.dropWhile (· == 32)) ++ [0] := dropWhile_snoc _ 0 (by decide)
  unfold Plain.octal
  simp only [e, h2, octHead_snoc _ 0 (by decide), List.all_append]
  have h0 : ([0] : List UInt8).all isGap = true := by decide
  rw [h0, Bool.and_true]
set_option maxRecDepth 100000 in
set_option maxHeartbeats 1600000 in
theorem NumeralBlanks_walk (a : Option Addr) (n c : Nat) (l : List UInt8) (w : World) (ev : Value) (hE : ErrIs w ev) (h : Bs w a n c l) (hc : c ≤ 140737488351232) :
    Calls Tryd.prog 7 #[.slice a n c] w fun e w' => e = .returned (.bool true) ∧ Below w.heap.size w w' := by
  have hl := h.len; have hcap := h.cap
  have hw := octal_wide l
  have HE := Lib.hid hE; have HH := Lib.hid h; have HL := Lib.hid hl; clear hE h hl
  generalize hr : Plain.octal l = r at *
  obtain ⟨r1, r2⟩ := r
  have HW := Lib.hid hw; have HR := Lib.hid hr; clear hw hr
  go_enter Tryd.func7, Tryd.ntmps7
  go_wp2_with (first
    | (go_at_call 20; refine (Alive_any w ev HE.out).mono ?_; rintro e w1 ⟨rfl, hb1⟩; have HB1 := Lib.hid hb1; clear hb1)
    | (go_at_call 24; refine (CopyBytes_any a n c l w1 (by exact Below.bs HB1.out HH.out) (by omega)).mono ?_; rintro e w2 ⟨a2, n2, c2, rfl, ho2, hb2⟩; have HO2 := Lib.hid ho2; have HB2 := Lib.hid (Below.seq HB1.out hb2); have hn2 : n = n2 := (by rw [← own_len ho2, HL.out]); subst hn2; clear ho2 hb2)
    | (go_at_call 19; first
        | ((with_reducible refine (Octal_any a2 n c2 l w2 ev (by exact own_bs HO2.out) (by omega) (by exact HE.out.below HB2.out)).mono ?_); rintro e w3 ⟨rfl, hb3⟩; rw [HR.out]; unfold decV; have HB3 := Lib.hid (Below.seq HB2.out hb3); clear hb3)
        | ((with_reducible refine (Octal_any _ _ _ ([32] ++ l ++ [0]) _ ev (by exact own_bs HO6.out) (by omega) (by exact HE.out.below HB6.out)).mono ?_); rintro e w7 ⟨rfl, hb7⟩; rw [HW.out]; unfold decV; have HB7 := Lib.hid (Below.seq HB6.out hb7); clear hb7))
    | (at_builtin; first
        | (refine wpList_app rfl _ _ 29 rfl w.heap.size 5 _ 1 1 Tryd.underlying29 infoU8 rfl (by decide) (by decide) rfl (World.ownsRow_lit (base := w.heap.size) (e := 5) (size := 1) w3 #[.int .u8 32] 1 (HB3.out.size) (by decide) rfl) rfl (by exact (Below.bs ((Below.refl _ _).alloc (Nat.le_refl _) _) (Below.bs HB3.out HH.out))) (bytes_oneCell l) (by omega) (by have := HB3.out.size; simp; omega) ?_; intro a5 c5 w5 ho5 hg5; have HB5 := Lib.hid (below_app (HB3.out.alloc HB3.out.size (.cells #[.int .u8 32] 5)) (World.ownsRow_lit (base := w.heap.size) (e := 5) (size := 1) w3 #[.int .u8 32] 1 (HB3.out.size) (by decide) rfl) hg5 (Nat.le_refl _) (by have := HB3.out.size; simp; omega)))
        | (refine wpList_app rfl _ _ 29 rfl w.heap.size 5 _ 1 1 Tryd.underlying29 infoU8 rfl (by decide) (by decide) rfl (World.ownsRow.alloc ho5 _) rfl (isSl_new w5 5 1 1 #[.int .u8 0] rfl (by unfold maxLen; omega)) (by simp [Value.oneCell']) (by omega) (by have := HB5.out.size; simp; omega) ?_; intro a6 c6 w6 ho6 hg6; have HB6 := Lib.hid (below_app (HB5.out.alloc HB5.out.size (.cells #[.int .u8 0] 5)) (World.ownsRow.alloc ho5 _) hg6 (Nat.le_refl _) (by have := HB5.out.size; simp; omega)); have HO6 : Hid (w6.ownsRow w.heap.size 5 1 (.slice a6 (1 + n + 1) c6) (1 + n + 1) (([32] ++ l ++ [0]).map u8v)) := Lib.hid (by rw [List.map_append, List.map_append]; exact ho6))))
  go_ret
  exact ⟨ret_bool (by simp), HB7.out⟩
end Go.Proofs.YtccochopiaojnaaDoor
