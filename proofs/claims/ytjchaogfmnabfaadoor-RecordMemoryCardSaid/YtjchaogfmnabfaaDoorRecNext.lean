/-
  RecNext: record.next.
-/
import Derived.Test.YtjchaogfmnabfaaDoorRecLaw
import Derived.Test.YtjchaogfmnabfaaDoorCutOne
import Derived.Test.YtjchaogfmnabfaaDoorDecs
import Derived.Test.YtjchaogfmnabfaaDoorRowl
namespace Go.Proofs.YtjchaogfmnabfaaDoor
set_option linter.unusedVariables false
set_option linter.unusedSimpArgs false
open Go.ChangeShapes Go.WideShapes Go.ChangeAt Go.RowKit
theorem suffix_one (t : List UInt8) (c : UInt8) : Lib.hasSuffix t [c] = decide (t.getLast? = some c) ∧ (Lib.hasSuffix t [c] = true → Lib.trimSuffix t [c] = t.dropLast) := by
  have h1 : Lib.hasSuffix t [c] = decide (t.getLast? = some c) := by
    unfold Lib.hasSuffix
    rw [Bool.eq_iff_iff]
    simp only [decide_eq_true_eq]
    constructor
    · intro h
      have := h
      simp [List.isSuffixOf_iff_suffix] at this
      obtain ⟨s, rfl⟩ := this
      simp
    · intro h
      obtain ⟨s, rfl⟩ := List.getLast?_eq_some_iff.1 h
      simp [List.isSuffixOf_iff_suffix]
  refine ⟨h1, fun h => ?_⟩
  unfold Lib.trimSuffix
  rw [if_pos h, List.dropLast_eq_take]
  rfl
/-- what strings.Cut answers at one byte -/
def cutV (l : List UInt8) (cv : UInt8) : Value := if (l.takeWhile (· != cv)).length < l.length then .tuple #[.string ⟨(l.takeWhile (· != cv)).toArray⟩, .string ⟨(l.drop ((l.takeWhile (· != cv)).length + 1)).toArray⟩, .bool true] else .tuple #[.string ⟨l.toArray⟩, .string ⟨#[]⟩, .bool false]
set_option maxHeartbeats 800000 in
theorem LCut_any (l : List UInt8) (cv : UInt8) (w : World) (hm : l.length ≤ 140737488355328) :
    Calls Tryd.prog 77 #[.string ⟨l.toArray⟩, .string ⟨#[cv]⟩] w fun e w' => e = .returned (cutV l cv) ∧ Below w.heap.size w w' := by
  have H0 := Tryd.stringslite_Index_one ⟨l.toArray⟩ cv w
  have e0 : (⟨l.toArray⟩ : ByteArray).data.toList = l := rfl
  rw [e0, indexByte_while] at H0
  have htk := while_take l (· != cv)
  unfold cutV
  generalize hi : (l.takeWhile (· != cv)).length = i at *
  by_cases hf : i < l.length
  · rw [if_pos hf] at H0 ⊢
    have HH := Lib.hid H0
    have e1 : ((⟨l.toArray⟩ : ByteArray).extract 0 i) = ⟨(l.take i).toArray⟩ := by rw [ByteArray.extract_mk]; simp
    have e2 : ((⟨l.toArray⟩ : ByteArray).extract (i + 1) l.length) = ⟨(l.drop (i + 1)).toArray⟩ := by
      rw [ByteArray.extract_mk]; simp; rw [List.take_of_length_le (by simp)]
    rw [htk]
    have hif : (i : Int) < (l.length : Int) := by omega
    clear H0 htk hi e0
    have hif2 : (i : Int) + 1 ≤ (l.length : Int) := by omega
    have hif3 : i + 1 ≤ l.length := by omega
    go_enter Tryd.func77, Tryd.ntmps77
    go_wp2_with (go_at_call 78; (with_reducible refine (HH.out).mono ?_); rintro e w1 ⟨rfl, hw⟩; obtain rfl := hw.symm)
    go_quiet (fail)
    go_wp2
    go_ret3
    exact ⟨rfl, Below.drewN (Below.refl _ _) _⟩
  · rw [if_neg hf] at H0 ⊢
    have HH := Lib.hid H0
    clear H0 htk hi e0
    go_enter Tryd.func77, Tryd.ntmps77
    go_wp2_with (go_at_call 78; (with_reducible refine (HH.out).mono ?_); rintro e w1 ⟨rfl, hw⟩; obtain rfl := hw.symm)
    go_ret3
    exact ⟨rfl, Below.refl _ _⟩
theorem SCut_any (l : List UInt8) (cv : UInt8) (w : World) (hm : l.length ≤ 140737488355328) :
    Calls Tryd.prog 60 #[.string ⟨l.toArray⟩, .string ⟨#[cv]⟩] w fun e w' => e = .returned (cutV l cv) ∧ Below w.heap.size w w' := by
  have H := LCut_any l cv w hm
  unfold cutV at *
  by_cases hf : (l.takeWhile (· != cv)).length < l.length
  · rw [if_pos hf] at H ⊢
    have HH := Lib.hid H; clear H hf
    go_enter Tryd.func60, Tryd.ntmps60
    go_wp2_with (go_at_call 77; (with_reducible refine (HH.out).mono ?_); rintro e w1 ⟨rfl, hw⟩)
    go_ret3
    exact ⟨rfl, hw⟩
  · rw [if_neg hf] at H ⊢
    have HH := Lib.hid H; clear H hf
    go_enter Tryd.func60, Tryd.ntmps60
    go_wp2_with (go_at_call 77; (with_reducible refine (HH.out).mono ?_); rintro e w1 ⟨rfl, hw⟩)
    go_ret3
    exact ⟨rfl, hw⟩
/-- what 'next' hands back -/
def NextRes (w : World) (n c : Nat) (l : List UInt8) (r : Option ((List UInt8 × List UInt8) × Nat)) (e : Ending) (w' : World) : Prop :=
  Below w.heap.size w w' ∧ match r with
    | none => e = .returned (.tuple #[.agg #[.string ⟨#[]⟩, .string ⟨#[]⟩], .slice none 0 0, .bool false])
    | some (p, m) => ∃ a', e = .returned (.tuple #[.agg #[.string ⟨p.1.toArray⟩, .string ⟨p.2.toArray⟩], .slice a' (n - m) (c - m), .bool true]) ∧ Bs w' a' (n - m) (c - m) (l.drop m)
/-- the world in which bytes.Cut is called: the result's variable, the blank -/
def nextW (w : World) : World := (w.alloc (.cells #[.string ⟨#[]⟩, .string ⟨#[]⟩] 39)).alloc (.cells #[.int .u8 32] 5 (1, 2))
theorem nextW_below (w : World) : Below w.heap.size w (nextW w) := ((Below.refl _ _).alloc (Nat.le_refl _) _).alloc (by simp) _
theorem nextW_blank (w : World) : (nextW w).cell? ⟨w.heap.size + 1, 0, none⟩ = some (.int .u8 ((32 : UInt8).toNat : Int)) := by
  have e : (w.alloc (.cells #[.string ⟨#[]⟩, .string ⟨#[]⟩] 39)).heap.size = w.heap.size + 1 := by simp
  rw [nextW, ← e, World.cell?_alloc_mark]; rfl
theorem nextW_size (w : World) : (nextW w).heap.size = w.heap.size + 2 := by unfold nextW; simp
theorem nextW_row (w : World) : (nextW w).heap[w.heap.size]? = some (.cells #[.string ⟨#[]⟩, .string ⟨#[]⟩] 39 (0, 0)) := heap_alloc2_old _ _ _
/-- what holds of the result's variable behind a call -/
structure NextAt (w wr : World) : Prop where
  bel : Below w.heap.size w wr
  lt : w.heap.size + 1 < wr.heap.size
  c0 : wr.cell? ⟨w.heap.size, 0, none⟩ = some (.string ⟨#[]⟩)
  c1 : wr.cell? ⟨w.heap.size, 1, none⟩ = some (.string ⟨#[]⟩)
  f0 : wr.frozen? ⟨w.heap.size, 0, none⟩ = false
  f1 : wr.frozen? ⟨w.heap.size, 1, none⟩ = false
theorem NextAt.of {w wr : World} (h : Below (nextW w).heap.size (nextW w) wr) : NextAt w wr := by
  have hs := nextW_size w
  have hz := h.size
  have hr : wr.heap[w.heap.size]? = some (.cells #[.string ⟨#[]⟩, .string ⟨#[]⟩] 39 (0, 0)) := by
    rw [h.block _ (by omega)]; exact nextW_row w
  exact ⟨Below.seq (nextW_below w) h, by omega, by rw [cell_of_row _ _ _ _ _ _ hr]; rfl, by rw [cell_of_row _ _ _ _ _ _ hr]; rfl, frozen_of_row _ _ _ _ _ hr, frozen_of_row _ _ _ _ _ hr⟩
theorem NextAt.keep {w wr w' : World} (h : NextAt w wr) (k : Below wr.heap.size wr w') : NextAt w w' := by
  have hl := h.lt
  have hz := k.size
  refine ⟨Below.seq h.bel k, by omega, Below.keeps k _ _ h.c0, Below.keeps k _ _ h.c1, ?_, ?_⟩
  · rw [k.frozen (p := ⟨w.heap.size, 0, none⟩) (by simp only; omega)]; exact h.f0
  · rw [k.frozen (p := ⟨w.heap.size, 1, none⟩) (by simp only; omega)]; exact h.f1
theorem nextW_conv (w : World) : (convert 22 22 (.slice (some ⟨w.heap.size + 1, 0, none⟩) 1 1)).run Tryd.prog ((w.alloc (.cells #[.string ⟨#[]⟩, .string ⟨#[]⟩] 39)).alloc (.cells #[.int .u8 32] 5)) = .ok (.slice (some ⟨w.heap.size + 1, 0, none⟩) 1 1) (nextW w) := by
  have e : (w.alloc (.cells #[.string ⟨#[]⟩, .string ⟨#[]⟩] 39)).heap.size = w.heap.size + 1 := by simp
  have := Lib.run_convert_bytes_const (P := Tryd.prog) (w.alloc (.cells #[.string ⟨#[]⟩, .string ⟨#[]⟩] 39)) 22 5 #[.int .u8 32] 1 1 Tryd.underlying22 Tryd.underlying5
  rw [e] at this
  exact this
theorem one_unfound (l : List UInt8) (h : ¬ (recHead l).length < l.length) : Plain.one l = none := by
  unfold Plain.one; rw [if_neg (fun hc => h hc.1)]
set_option maxRecDepth 100000 in
set_option maxHeartbeats 1600000 in
theorem Next_unfound (a : Option Addr) (n c : Nat) (l : List UInt8) (w : World) (h : Bs w a n c l) (hf : ¬ (l.takeWhile (· != 32)).length < n) :
    Calls Tryd.prog 34 #[.slice a n c] w fun e w' => e = .returned (.tuple #[.agg #[.string ⟨#[]⟩, .string ⟨#[]⟩], .slice none 0 0, .bool false]) ∧ Below w.heap.size w w' := by
  have kc := nextW_conv w
  have HB := Lib.hid (BCut_any a n c l (w.heap.size + 1) 1 32 (nextW w) (Below.bs (nextW_below w) h) (nextW_blank w))
  clear h
  go_enter Tryd.func34, Tryd.ntmps34
  go_wp2_with (go_at_call 57; (refine (HB.out).mono ?_); rintro e w3 hres; unfold BCutRes at hres; rw [if_neg hf] at hres; obtain ⟨hb3, v1, v2, rfl⟩ := hres; have hN := NextAt.of hb3; have hc0 := hN.c0; have hc1 := hN.c1; have hf0 := hN.f0; have hf1 := hN.f1; have hbel := hN.bel; have hlt := hN.lt; clear hb3)
  refine bodyPost_ret (v := .tuple #[.agg #[.string ⟨#[]⟩, .string ⟨#[]⟩], .slice none 0 0, .bool false]) (by simp [results, Tryd.results34, go_sem, hc0, hc1]) rfl ⟨rfl, ?_⟩
  first | exact hbel | exact hbel.setCell (by simp) _ | exact (hbel.setCell (by simp) _).setCell (by simp) _
set_option maxRecDepth 100000 in
set_option maxHeartbeats 1600000 in
theorem Next_long (a : Option Addr) (n c : Nat) (l : List UInt8) (w : World) (h : Bs w a n c l) (hf : (l.takeWhile (· != 32)).length < n) (h9 : 9 < (l.takeWhile (· != 32)).length) :
    Calls Tryd.prog 34 #[.slice a n c] w fun e w' => e = .returned (.tuple #[.agg #[.string ⟨#[]⟩, .string ⟨#[]⟩], .slice none 0 0, .bool false]) ∧ Below w.heap.size w w' := by
  have kc := nextW_conv w
  have HB := Lib.hid (BCut_any a n c l (w.heap.size + 1) 1 32 (nextW w) (Below.bs (nextW_below w) h) (nextW_blank w))
  have h9i : (9 : Int) < ((l.takeWhile (· != 32)).length : Int) := by omega
  clear h
  go_enter Tryd.func34, Tryd.ntmps34
  go_wp2_with (go_at_call 57; (refine (HB.out).mono ?_); rintro e w3 hres; unfold BCutRes at hres; rw [if_pos hf] at hres; obtain ⟨hb3, a1, a2, rfl, hs3⟩ := hres; have hN := NextAt.of hb3; have hc0 := hN.c0; have hc1 := hN.c1; have hf0 := hN.f0; have hf1 := hN.f1; have hbel := hN.bel; have hlt := hN.lt; clear hb3 hs3)
  refine bodyPost_ret (v := .tuple #[.agg #[.string ⟨#[]⟩, .string ⟨#[]⟩], .slice none 0 0, .bool false]) (by simp [results, Tryd.results34, go_sem, hc0, hc1]) rfl ⟨rfl, ?_⟩
  first | exact hbel | exact hbel.setCell (by simp) _ | exact (hbel.setCell (by simp) _).setCell (by simp) _
set_option maxRecDepth 100000 in
set_option maxHeartbeats 1600000 in
theorem Next_num (a : Option Addr) (n c : Nat) (l : List UInt8) (w : World) (ev : Value) (h : Bs w a n c l) (hn : n ≤ 140737488351232) (hE : ErrIs w ev) (hf : (l.takeWhile (· != 32)).length < n) (h9 : (l.takeWhile (· != 32)).length ≤ 9)
    (hbad : (Plain.decimal (l.takeWhile (· != 32))).2 ≠ 0 ∨ ((Plain.decimal (l.takeWhile (· != 32))).2 = 0 ∧ ((Plain.decimal (l.takeWhile (· != 32))).1 ≤ ((l.takeWhile (· != 32)).length : Int) + 1 ∨ (¬ (Plain.decimal (l.takeWhile (· != 32))).1 ≤ ((l.takeWhile (· != 32)).length : Int) + 1 ∧ (n : Int) < (Plain.decimal (l.takeWhile (· != 32))).1)))) :
    Calls Tryd.prog 34 #[.slice a n c] w fun e w' => e = .returned (.tuple #[.agg #[.string ⟨#[]⟩, .string ⟨#[]⟩], .slice none 0 0, .bool false]) ∧ Below w.heap.size w w' := by
  have kc := nextW_conv w
  have HB := Lib.hid (BCut_any a n c l (w.heap.size + 1) 1 32 (nextW w) (Below.bs (nextW_below w) h) (nextW_blank w))
  have HD := Lib.hid (fun w hE => Decimal_any (l.takeWhile (· != 32)) w ev (by omega) hE)
  generalize hd : Plain.decimal (l.takeWhile (· != 32)) = d at *
  obtain ⟨x, k⟩ := d
  have HE := Lib.hid hE
  have h9i : ¬ (9 : Int) < ((l.takeWhile (· != 32)).length : Int) := by omega
  simp only at hbad
  clear h hd hE
  rcases hbad with hk | ⟨hk, hx | ⟨hx, hy⟩⟩
  · have hk2 : (k != 0) = true := by rw [bne_iff_ne]; exact hk
    clear hk
    go_enter Tryd.func34, Tryd.ntmps34
    go_wp2_with (first
      | (go_at_call 57; (refine (HB.out).mono ?_); rintro e w3 hres; unfold BCutRes at hres; rw [if_pos hf] at hres; obtain ⟨hb3, a1, a2, rfl, hs3⟩ := hres; have hN := NextAt.of hb3; have HN := Lib.hid hN; have HS3 := Lib.hid hs3; clear hb3 hs3 hN)
      | (with_reducible refine wpList_str_of_bs rfl _ _ _ rfl Tryd.underlying22 Tryd.underlying5 Tryd.underlying9 rfl HS3.out ?_)
      | (go_at_call 58; (refine (HD.out _ (by exact HE.out.below HN.out.bel)).mono ?_); rintro e w4 ⟨rfl, hb4⟩; unfold decV; have hN := HN.out.keep hb4; have hc0 := hN.c0; have hc1 := hN.c1; have hf0 := hN.f0; have hf1 := hN.f1; have hbel := hN.bel; have hlt := hN.lt; clear hb4))
    refine bodyPost_ret (v := .tuple #[.agg #[.string ⟨#[]⟩, .string ⟨#[]⟩], .slice none 0 0, .bool false]) (by simp [results, Tryd.results34, go_sem, hc0, hc1]) rfl ⟨rfl, ?_⟩
    first | exact hbel | exact hbel.setCell (by simp) _ | exact (hbel.setCell (by simp) _).setCell (by simp) _
  · subst hk
    go_enter Tryd.func34, Tryd.ntmps34
    go_wp2_with (first
      | (go_at_call 57; (refine (HB.out).mono ?_); rintro e w3 hres; unfold BCutRes at hres; rw [if_pos hf] at hres; obtain ⟨hb3, a1, a2, rfl, hs3⟩ := hres; have hN := NextAt.of hb3; have HN := Lib.hid hN; have HS3 := Lib.hid hs3; clear hb3 hs3 hN)
      | (with_reducible refine wpList_str_of_bs rfl _ _ _ rfl Tryd.underlying22 Tryd.underlying5 Tryd.underlying9 rfl HS3.out ?_)
      | (go_at_call 58; (refine (HD.out _ (by exact HE.out.below HN.out.bel)).mono ?_); rintro e w4 ⟨rfl, hb4⟩; unfold decV; have hN := HN.out.keep hb4; have hc0 := hN.c0; have hc1 := hN.c1; have hf0 := hN.f0; have hf1 := hN.f1; have hbel := hN.bel; have hlt := hN.lt; clear hb4))
    refine bodyPost_ret (v := .tuple #[.agg #[.string ⟨#[]⟩, .string ⟨#[]⟩], .slice none 0 0, .bool false]) (by simp [results, Tryd.results34, go_sem, hc0, hc1]) rfl ⟨rfl, ?_⟩
    first | exact hbel | exact hbel.setCell (by simp) _ | exact (hbel.setCell (by simp) _).setCell (by simp) _
  · subst hk
    go_enter Tryd.func34, Tryd.ntmps34
    go_wp2_with (first
      | (go_at_call 57; (refine (HB.out).mono ?_); rintro e w3 hres; unfold BCutRes at hres; rw [if_pos hf] at hres; obtain ⟨hb3, a1, a2, rfl, hs3⟩ := hres; have hN := NextAt.of hb3; have HN := Lib.hid hN; have HS3 := Lib.hid hs3; clear hb3 hs3 hN)
      | (with_reducible refine wpList_str_of_bs rfl _ _ _ rfl Tryd.underlying22 Tryd.underlying5 Tryd.underlying9 rfl HS3.out ?_)
      | (go_at_call 58; (refine (HD.out _ (by exact HE.out.below HN.out.bel)).mono ?_); rintro e w4 ⟨rfl, hb4⟩; unfold decV; have hN := HN.out.keep hb4; have hc0 := hN.c0; have hc1 := hN.c1; have hf0 := hN.f0; have hf1 := hN.f1; have hbel := hN.bel; have hlt := hN.lt; clear hb4))
    refine bodyPost_ret (v := .tuple #[.agg #[.string ⟨#[]⟩, .string ⟨#[]⟩], .slice none 0 0, .bool false]) (by simp [results, Tryd.results34, go_sem, hc0, hc1]) rfl ⟨rfl, ?_⟩
    first | exact hbel | exact hbel.setCell (by simp) _ | exact (hbel.setCell (by simp) _).setCell (by simp) _
set_option maxRecDepth 100000 in
set_option maxHeartbeats 3200000 in
theorem Next_textno (a : Option Addr) (n c : Nat) (l : List UInt8) (w : World) (ev : Value) (i X : Nat) (t u : List UInt8) (en fo : Bool) (k v : List UInt8) (h : Bs w a n c l) (hn : n ≤ 140737488351232) (hE : ErrIs w ev) (hi : (l.takeWhile (· != 32)).length = i) (hf : i < n) (h9 : i ≤ 9)
    (hd : Plain.decimal (l.takeWhile (· != 32)) = ((X : Int), 0)) (h1 : i + 1 < X) (h2 : X ≤ n) (ht : (l.take X).drop (i + 1) = t) (hcs : ∀ w, Calls Tryd.prog 59 #[.string ⟨t.toArray⟩, .string ⟨#[10]⟩] w fun e w' => e = .returned (.tuple #[.string ⟨u.toArray⟩, .bool en]) ∧ w = w')
    (hsc : ∀ w, Calls Tryd.prog 60 #[.string ⟨u.toArray⟩, .string ⟨#[61]⟩] w fun e w' => e = .returned (.tuple #[.string ⟨k.toArray⟩, .string ⟨v.toArray⟩, .bool fo]) ∧ Below w.heap.size w w') (hno : en = false ∨ (en = true ∧ fo = false) ∨ (en = true ∧ fo = true ∧ k = [])) :
    Calls Tryd.prog 34 #[.slice a n c] w fun e w' => e = .returned (.tuple #[.agg #[.string ⟨#[]⟩, .string ⟨#[]⟩], .slice none 0 0, .bool false]) ∧ Below w.heap.size w w' := by
  have kc := nextW_conv w
  have HB := Lib.hid (BCut_any a n c l (w.heap.size + 1) 1 32 (nextW w) (Below.bs (nextW_below w) h) (nextW_blank w))
  have HD := Lib.hid (fun w hE => Decimal_any (l.takeWhile (· != 32)) w ev (by omega) hE)
  rw [hd] at HD
  have hcap := h.cap; have hmax := h.max; have hl := h.len
  have htl : t.length ≤ 140737488351232 := by rw [← ht, List.length_drop, List.length_take]; omega
  have HE := Lib.hid hE; have HH := Lib.hid h; have HT := Lib.hid ht; have HCS := Lib.hid hcs; have HSC := Lib.hid hsc
  have HI := Lib.hid hi
  have h9i : ¬ (9 : Int) < (i : Int) := by omega
  have x1 : ¬ (X : Int) ≤ (i : Int) + 1 := by omega
  have x2 : ¬ (n : Int) < (X : Int) := by omega
  clear h hd hE ht hcs hsc hi hl
  rcases hno with rfl | ⟨rfl, rfl⟩ | ⟨rfl, rfl, rfl⟩
  all_goals
    go_enter Tryd.func34, Tryd.ntmps34
    go_wp2_with (first
      | (go_at_call 57; (refine (HB.out).mono ?_); rintro e w3 hres; unfold BCutRes at hres; rw [HI.out, if_pos hf] at hres; obtain ⟨hb3, a1, a2, rfl, hs3⟩ := hres; have hN := NextAt.of hb3; have HN := Lib.hid hN; have HS3 := Lib.hid hs3; clear hb3 hs3 hN)
      | (with_reducible refine wpList_str_of_bs rfl _ _ _ rfl Tryd.underlying22 Tryd.underlying5 Tryd.underlying9 rfl HS3.out ?_)
      | (go_at_call 58; (refine (HD.out _ (by exact HE.out.below HN.out.bel)).mono ?_); rintro e w4 ⟨rfl, hb4⟩; unfold decV; have HN4 := Lib.hid (HN.out.keep hb4); have HA := Lib.hid (Below.bs HN4.out.bel HH.out); clear hb4)
      | ((refine wpList_slice_bs rfl _ _ _ _ rfl Tryd.underlying22 (by kernel_rfl) rfl HA.out (i + 1) X .i64 .i64 rfl rfl (by omega) (by omega) ?_); intro a5 hb5; rw [HT.out] at hb5; have HS5 := Lib.hid hb5; clear hb5)
      | (with_reducible refine wpList_str_of_bs rfl _ _ _ rfl Tryd.underlying22 Tryd.underlying5 Tryd.underlying9 rfl HS5.out ?_)
      | (go_at_call 59; (with_reducible refine (HCS.out _).mono ?_); rintro e w6 ⟨rfl, hw6⟩; obtain rfl := hw6)
      | (go_at_call 60; (with_reducible refine (HSC.out _).mono ?_); rintro e w7 ⟨rfl, hb7⟩; have hN := HN4.out.keep hb7; have hc0 := hN.c0; have hc1 := hN.c1; have hf0 := hN.f0; have hf1 := hN.f1; have hbel := hN.bel; have hlt := hN.lt; clear hb7))
    refine bodyPost_ret (v := .tuple #[.agg #[.string ⟨#[]⟩, .string ⟨#[]⟩], .slice none 0 0, .bool false]) (by simp [results, Tryd.results34, go_sem, hc0, hc1]) rfl ⟨rfl, ?_⟩
    first | exact hbel | exact hbel.setCell (by simp) _ | exact (hbel.setCell (by simp) _).setCell (by simp) _
end Go.Proofs.YtjchaogfmnabfaaDoor
