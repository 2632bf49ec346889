/-
  WriteWalk: record.Write.
-/
import Derived.Test.YtjchaogfmnabfaaDoorWriteAdd
import Derived.Test.YtjchaogfmnabfaaDoorRecLoop
import Derived.Deep.DeepCutAuto
import Derived.Deep.CutBlock
namespace Go.Proofs.YtjchaogfmnabfaaDoor
set_option linter.unusedVariables false
set_option linter.unusedSimpArgs false
open Go.ChangeShapes Go.WideShapes Go.ChangeAt Go.RowKit
/-- what Write hands back: bytes in new memory -/
def WriteRes (w : World) (r : List UInt8 × Int) (e : Ending) (w' : World) : Prop :=
  ∃ a n c, e = .returned (.tuple #[.slice a n c, .int .i64 r.2]) ∧ w'.ownsRow w.heap.size 5 1 (.slice a n c) n (r.1.map u8v) ∧ Below w.heap.size w w'
theorem WriteRes.no {w w' : World} {x : Int} (h : Below w.heap.size w w') : WriteRes w ([], x) (.returned (.tuple #[.slice none 0 0, .int .i64 x])) w' := ⟨none, 0, 0, rfl, World.ownsRow_nil _ _ _ _, h⟩
theorem recSum_succ (l : List Pr) (k : Nat) (h : k < l.length) : recSum (l.take (k + 1)) = recSum (l.take k) + recSize (l.getD k ([], [])) := by
  unfold recSum
  rw [List.take_succ_eq_append_getElem h, List.map_append, List.sum_append]
  simp [List.getD, List.getElem?_eq_getElem h]
theorem recSum_le (l : List Pr) (k : Nat) : recSum (l.take k) ≤ recSum l := by
  unfold recSum
  conv => rhs; rw [← List.take_append_drop k l, List.map_append, List.sum_append]
  omega
theorem any_bad (l : List Pr) (k : Nat) (h : k < l.length) (hb : badKey (l.getD k ([], [])).1 = true) : l.any (fun p => badKey p.1) = true := by
  rw [List.any_eq_true]
  exact ⟨l[k], List.getElem_mem h, by simpa [List.getD, List.getElem?_eq_getElem h] using hb⟩
theorem any_good (l : List Pr) (h : ∀ k, k < l.length → badKey (l.getD k ([], [])).1 = false) : l.any (fun p => badKey p.1) = false := by
  rw [List.any_eq_false]
  intro x hx
  obtain ⟨k, hk, rfl⟩ := List.getElem_of_mem hx
  have := h k hk
  simp only [List.getD, List.getElem?_eq_getElem hk, Option.getD_some] at this
  simp [this]
theorem write_bad (l : List Pr) (k : Nat) (h : k < l.length) (hb : badKey (l.getD k ([], [])).1 = true) : Plain.write l = ([], 51) := by
  unfold Plain.write; rw [if_pos (any_bad l k h hb)]
theorem write_long (l : List Pr) (h : ∀ k, k < l.length → badKey (l.getD k ([], [])).1 = false) (hs : 1048576 < recSum l) : Plain.write l = ([], 21) := by
  unfold Plain.write; rw [if_neg (by rw [any_good l h]; exact Bool.false_ne_true), if_pos hs]
theorem write_good (l : List Pr) (h : ∀ k, k < l.length → badKey (l.getD k ([], [])).1 = false) (hs : recSum l ≤ 1048576) : Plain.write l = (l.flatMap recBytes, 0) := by
  unfold Plain.write; rw [if_neg (by rw [any_good l h]; exact Bool.false_ne_true), if_neg (by omega)]
theorem badKey_eq (k : List UInt8) : badKey k = (k.isEmpty || decide (61 ∈ k)) := by
  unfold badKey
  cases k with
  | nil => rfl
  | cons c r => simp
theorem recs_len (l : List Pr) (n : Nat) (hl : l.length = n) (hq : ∀ k, k < n → (l.getD k ([], [])).1.length ≤ 140737488351232 ∧ (l.getD k ([], [])).2.length ≤ 140737488351232) : ∀ k, k ≤ n → ((l.take k).flatMap recBytes).length = recSum (l.take k)
  | 0, _ => by simp [recSum]
  | k + 1, hk => by
    have ih := recs_len l n hl hq k (by omega)
    have hk' : k < l.length := by omega
    have hb := hq k (by omega)
    rw [recSum_succ l k hk', List.take_succ_eq_append_getElem hk', List.flatMap_append, List.length_append, ih]
    have e : l.getD k ([], []) = l[k] := by simp [List.getD, List.getElem?_eq_getElem hk']
    rw [e] at hb ⊢
    have := recBytes_len l[k] (by unfold recBase; omega)
    simp [this]
theorem recs_succ (l : List Pr) (k : Nat) (h : k < l.length) : (l.take (k + 1)).flatMap recBytes = (l.take k).flatMap recBytes ++ recBytes (l.getD k ([], [])) := by
  rw [List.take_succ_eq_append_getElem h, List.flatMap_append]
  simp [List.getD, List.getElem?_eq_getElem h]
theorem rec_text (D k v : List UInt8) : ((⟨D.toArray⟩ : ByteArray) ++ ⟨#[32]⟩ ++ ⟨k.toArray⟩ ++ ⟨#[61]⟩ ++ ⟨v.toArray⟩ ++ ⟨#[10]⟩).data.toList = D ++ (32 :: (k ++ (61 :: (v ++ [10])))) := by
  simp [ByteArray.data_append]
theorem cell_app {w0 w w' : World} {base : Nat} {e : TypeId} {sz : Nat} {v : Value} {n : Nat} {xs : List Value} (ho : w0.ownsRow base e sz v n xs) (hg : w.grownBy w' v.ownBlock) {b off : Nat} (hb : w0.heap.size ≤ b) (hlt : b < w.heap.size) {x : Value} (hc : w.cell? ⟨b, off, none⟩ = some x) : w'.cell? ⟨b, off, none⟩ = some x := by
  rw [World.cell?_of_block (a := ⟨b, off, none⟩) (hg.block b hlt (fun e => by have := (ho.lt b e.symm).2; omega))]; exact hc
/-- how far the first loop has come: the sum while there is room -/
def Room (l : List Pr) (k : Nat) (b : Bool) (T : Int) : Prop := (b = true ∧ T = (recSum (l.take k) : Int) ∧ T ≤ 1048576) ∨ (b = false ∧ 1048576 < recSum (l.take k))
theorem Room.step {l : List Pr} {k : Nat} {T : Int} (h : Room l k true T) (hk : k < l.length) : Room l (k + 1) (decide (T + min (recSize (l.getD k ([], [])) : Int) 1048577 ≤ 1048576)) (T + min (recSize (l.getD k ([], [])) : Int) 1048577) := by
  rcases h with ⟨_, h1, h2⟩ | ⟨h1, _⟩
  · have hs := recSum_succ l k hk
    by_cases hc : T + min (recSize (l.getD k ([], [])) : Int) 1048577 ≤ 1048576
    · left
      refine ⟨dec_t hc, ?_, hc⟩
      rw [hs]; omega
    · right
      refine ⟨dec_f hc, ?_⟩
      rw [hs]; omega
  · cases h1
theorem Room.stay {l : List Pr} {k : Nat} {T : Int} (h : Room l k false T) (hk : k < l.length) : Room l (k + 1) false T := by
  rcases h with ⟨h1, _⟩ | ⟨_, h2⟩
  · cases h1
  · right; refine ⟨rfl, ?_⟩; rw [recSum_succ l k hk]; omega
set_option maxRecDepth 100000 in
set_option maxHeartbeats 3200000 in
theorem Write_any (a : Option Addr) (n c : Nat) (l : List Pr) (w : World) (ht : Pow10 w) (h : Prs w a n c l) (hq : ∀ x ∈ l, x.1.length ≤ 140737488351232 ∧ x.2.length ≤ 140737488351232) :
    Calls Tryd.prog 22 #[.slice a n c] w (WriteRes w (Plain.write l)) := by
  have hl := h.len; have hcap := h.cap; have hmax := h.max
  have hqq : ∀ k, k < n → (l.getD k ([], [])).1.length ≤ 140737488351232 ∧ (l.getD k ([], [])).2.length ≤ 140737488351232 := fun k hk => by
    have hk' : k < l.length := by omega
    have := hq _ (List.getElem_mem hk')
    simpa [List.getD, List.getElem?_eq_getElem hk'] using this
  have HL := Lib.hid hl; have HH := Lib.hid h; have HQ := Lib.hid hqq; have HT := Lib.hid ht; clear hl h hq hqq ht
  generalize hr : Plain.write l = r
  have HR := Lib.hid hr; clear hr
  have hs0 : SumAt w.heap.size 0 (w.alloc (.cells #[.int .i64 0] 3)) := heap_alloc_new w _
  have hb0 := (Below.refl w.heap.size w).alloc (Nat.le_refl _) (.cells #[.int .i64 0] 3)
  have HS0 := Lib.hid hs0; have HB0 := Lib.hid hb0; clear hs0 hb0
  go_enter Tryd.func22, Tryd.ntmps22
  go_wp2
  go_loopw [6, 15] (fun b i wr => ∃ (k : Nat) (rb : Bool) (T : Int), k ≤ n ∧ i = .int .i64 k ∧ b = .bool rb ∧ Hid (∀ j, j < k → badKey (l.getD j ([], [])).1 = false) ∧ Hid (Room l k rb T) ∧ 0 ≤ T ∧ T ≤ 2097153 ∧ (rb = true → T ≤ 1048576) ∧ Hid (SumAt w.heap.size T wr) ∧ Hid (Below w.heap.size w wr)) (fun _ i _ => n - (intOf i).toNat)
  case atStart => exact ⟨0, true, 0, Nat.zero_le _, rfl, rfl, Lib.hid (fun j hj => absurd hj (Nat.not_lt_zero j)), Lib.hid (.inl ⟨rfl, rfl, by decide⟩), by decide, by decide, fun _ => by decide, HS0, HB0⟩
  case round =>
    obtain ⟨k, rb, T, hk, rfl, rfl, hgood, hroom, hT0, hT1, hT2, hsum, hbel⟩ := hrel
    by_cases hlt : k < n
    · have hq2 := HQ.out k hlt
      have hkl : k < l.length := by rw [HL.out]; exact hlt
      obtain ⟨b1, o1, rfl, h1, h1'⟩ := (Below.prs hbel.out HH.out).at k hlt
      have hbk := badKey_eq (l.getD k ([], [])).1
      have hst := fun (e : rb = true) => Room.step (T := T) (by rw [← e]; exact hroom.out) hkl
      have hstay := fun (e : rb = false) => Room.stay (T := T) (by rw [← e]; exact hroom.out) hkl
      have hnx : badKey (l.getD k ([], [])).1 = false → ∀ j, j < k + 1 → badKey (l.getD j ([], [])).1 = false := fun hb j hj => by
        by_cases e : j = k
        · subst e; exact hb
        · exact hgood.out j (by omega)
      have hbad := fun hb => write_bad l k hkl hb
      generalize l.getD k ([], []) = g at *
      obtain ⟨g1, g2⟩ := g
      simp only at *
      have HAdd := Lib.hid (fun (wx : World) (ht : Pow10 wx) (hs : SumAt w.heap.size T wx) (h1 : T ≤ 1048576) => Add_any (g1, g2) w.heap.size T wx ht hq2.1 hq2.2 hs hT0 h1)
      have HBK := Lib.hid hbk; have HST := Lib.hid hst; have HSTAY := Lib.hid hstay; have HNX := Lib.hid hnx; have HBAD := Lib.hid hbad
      clear hbk hst hstay hnx hbad hkl
      have hb1 := hbel.out.alloc hbel.out.size (.cells #[.string ⟨g1.toArray⟩, .string ⟨g2.toArray⟩] 39)
      have hs1 := hsum.out.keep ((Below.refl _ _).alloc (Nat.le_refl _) (.cells #[.string ⟨g1.toArray⟩, .string ⟨g2.toArray⟩] 39))
      have HB1 := Lib.hid hb1; have HS1 := Lib.hid hs1; clear hb1 hs1
      have hki : (k : Int) < n := by omega
      by_cases hb : badKey g1 = true
      · have HRR := Lib.hid (HR.out.symm.trans (HBAD.out hb))
        by_cases he : g1 = []
        · subst he
          clear hb
          go_wp2
          go_ret2
          rw [HRR.out]
          exact WriteRes.no HB1.out
        · have he2 : g1.isEmpty = false := by simpa using he
          have hc : decide (61 ∈ g1) = true := by
            have := HBK.out; rw [hb, he2, Bool.false_or] at this; exact this.symm
          clear hb he
          go_wp2_with (go_at_call 37; (with_reducible refine (Contains_any g1 61 _).mono ?_); rintro e w3 ⟨rfl, hw3⟩; obtain rfl := hw3)
          go_ret2
          rw [HRR.out]
          exact WriteRes.no HB1.out
      · have hg : badKey g1 = false := by simpa using hb
        have he2 : g1.isEmpty = false := by
          have := HBK.out; rw [hg] at this
          cases h : g1.isEmpty with
          | false => rfl
          | true => rw [h] at this; simp at this
        have hc : decide (61 ∈ g1) = false := by
          have := HBK.out; rw [hg, he2, Bool.false_or] at this; exact this.symm
        have HNX2 := Lib.hid (HNX.out hg)
        clear hb hg HNX
        cases rb with
        | true =>
          have hT3 := hT2 rfl
          have HSTEP := Lib.hid (HST.out rfl)
          clear hT2
          have hmin := Int.min_def (recSize (g1, g2) : Int) 1048577
          have hM0 : 0 ≤ min (recSize (g1, g2) : Int) 1048577 ∧ min (recSize (g1, g2) : Int) 1048577 ≤ 1048577 := by rw [hmin]; split <;> omega
          clear hmin
          generalize min (recSize (g1, g2) : Int) 1048577 = M at *
          go_wp2_with (first
            | (go_at_call 37; (with_reducible refine (Contains_any g1 61 _).mono ?_); rintro e w3 ⟨rfl, hw3⟩; obtain rfl := hw3)
            | (go_at_call 36; (refine (HAdd.out _ (by exact HT.out.below HB1.out) (by exact HS1.out) hT3).mono ?_); rintro e w4 ⟨rfl, hs4, hb4⟩; have HS4 := Lib.hid hs4; have HB4 := Lib.hid (HB1.out.trans hb4); clear hs4 hb4))
          go_round
          case rel => exact ⟨k + 1, _, T + M, by omega, by go_num, rfl, HNX2, HSTEP, by omega, by omega, fun h => by simpa using h, HS4, HB4⟩
          case measure => simp [intOf]; omega
        | false =>
          have HSTAY2 := Lib.hid (HSTAY.out rfl)
          go_wp2_with (go_at_call 37; (with_reducible refine (Contains_any g1 61 _).mono ?_); rintro e w3 ⟨rfl, hw3⟩; obtain rfl := hw3)
          go_round
          case rel => exact ⟨k + 1, false, T, by omega, by go_num, rfl, HNX2, HSTAY2, by omega, by omega, (fun h => by cases h), HS1, HB1⟩
          case measure => simp [intOf]; omega
    · obtain rfl : k = n := by omega
      have hgoodl : ∀ j, j < l.length → badKey (l.getD j ([], [])).1 = false := fun j hj => hgood.out j (by rw [← HL.out]; exact hj)
      have htk : l.take k = l := List.take_of_length_le (by rw [HL.out]; exact Nat.le_refl _)
      have hrm := hroom.out
      have hki : ¬ (k : Int) < k := by omega
      have hc0 := hsum.out.cell
      rcases hrm with ⟨rfl, hT, hT3⟩ | ⟨rfl, hover⟩
      · rw [htk] at hT
        have hle : recSum l ≤ 1048576 := by omega
        have HRR := Lib.hid (HR.out.symm.trans (write_good l hgoodl hle))
        obtain ⟨m, hm⟩ : ∃ m : Nat, T = (m : Int) := ⟨T.toNat, by omega⟩
        have hml : m = recSum l := by omega
        have HML := Lib.hid hml
        have hmb : m ≤ 1048576 := by omega
        subst hm
        clear hgoodl htk hT hle hml hT0 hT1 hT2 hT3 hgood hroom
        obtain ⟨i0, hi0, hz0, hz1, hz2⟩ := info_parts infoU8
        have hby : i0.bytes * m ≤ 281474976710656 := by rw [hz2]; omega
        go_wp2_with (at_make; refine wpList_make_own _ rfl _ _ 22 rfl w.heap.size 5 i0 _ 1 Tryd.underlying22 hi0 hz0 hz1 .i64 .i64 _ m rfl rfl (by omega) hby (by unfold maxLen; omega) hbel.out.size ?_; intro w1 ho1 hg1)
        have hb1 : Below w.heap.size w w1 := below_app hbel.out (World.ownsRow_nil wr w.heap.size 5 1) hg1 (Nat.le_refl _) hbel.out.size
        have HB1 := Lib.hid hb1; have HO1 := Lib.hid ho1
        clear hb1 ho1 hg1 hc0 hsum hbel
        go_loopw [9, 40] (fun v i wr => ∃ (j m2 : Nat) (a2 : Option Addr) (c2 : Nat), j ≤ k ∧ i = .int .i64 j ∧ v = .slice a2 m2 c2 ∧ Hid (wr.ownsRow w.heap.size 5 1 (.slice a2 m2 c2) m2 (((l.take j).flatMap recBytes).map u8v)) ∧ Hid (Below w.heap.size w wr)) (fun _ i _ => k - (intOf i).toNat)
        case atStart => exact ⟨0, 0, _, _, Nat.zero_le _, rfl, rfl, Lib.hid (by simpa using HO1.out), HB1⟩
        case round =>
          obtain ⟨j, m2, a2, c2, hj, rfl, rfl, hown, hbel⟩ := hrel
          have hm2 : m2 = recSum (l.take j) := by rw [← own_len hown.out]; exact recs_len l k HL.out HQ.out j hj
          have hm3 : m2 ≤ 1048576 := by rw [hm2]; have := recSum_le l j; rw [← HML.out] at this; omega
          clear hm2
          by_cases hlt : j < k
          · have hq2 := HQ.out j hlt
            have hjl : j < l.length := by rw [HL.out]; exact hlt
            obtain ⟨b1, o1, rfl, h1, h1'⟩ := (Below.prs hbel.out HH.out).at j hlt
            have hap := recs_succ l j hjl
            have hrs := recSum_succ l j hjl
            have hrl := recSum_le l (j + 1)
            have hjl2 := recs_len l k HL.out HQ.out j hj
            generalize l.getD j ([], []) = g at *
            obtain ⟨g1, g2⟩ := g
            simp only at hq2 h1 h1'
            have hsz : (recBytes (g1, g2)).length ≤ 1048576 := by
              rw [recBytes_len (g1, g2) (by unfold recBase; simp only; omega)]
              rw [← HML.out] at hrl; omega
            have hsz2 : recSize (g1, g2) ≤ 1048576 := by rw [← HML.out] at hrl; omega
            have HS := Lib.hid (fun w h => SizeR_any (g1, g2) w h hq2.1 hq2.2)
            have HSH := Lib.hid (fun w h => Show_any (recSize (g1, g2) : Int) (by omega) (by omega) w h)
            have hit : Lib.itoa (recSize (g1, g2) : Int) = Lib.decDigits (recSize (g1, g2)) := Lib.itoa_nonneg _
            rw [hit] at HSH
            have hrec : ((⟨(Lib.decDigits (recSize (g1, g2))).toArray⟩ : ByteArray) ++ ⟨#[32]⟩ ++ ⟨g1.toArray⟩ ++ ⟨#[61]⟩ ++ ⟨g2.toArray⟩ ++ ⟨#[10]⟩).data.toList = recBytes (g1, g2) := rec_text _ g1 g2
            have hparts : (Lib.decDigits (recSize (g1, g2))).length ≤ 1048576 ∧ g1.length ≤ 1048576 ∧ g2.length ≤ 1048576 := by
              have := hsz
              unfold recBytes at this
              simp only [List.length_append, List.length_cons] at this
              omega
            obtain ⟨hp1, hp2, hp3⟩ := hparts
            have HREC := Lib.hid hrec; have HAP := Lib.hid hap
            clear hit hrec hap hrs hrl hjl2 hjl
            generalize recBytes (g1, g2) = R at *
            generalize Lib.decDigits (recSize (g1, g2)) = D at *
            generalize recSize (g1, g2) = S at *
            have hji : (j : Int) < k := by omega
            have q1 : ¬ 9223372036854775807 < D.length + 1 := by omega
            have q2 : ¬ 9223372036854775807 < D.length + 1 + g1.length := by omega
            have q3 : ¬ 9223372036854775807 < D.length + 1 + g1.length + 1 := by omega
            have q4 : ¬ 9223372036854775807 < D.length + 1 + g1.length + 1 + g2.length := by omega
            have q5 : ¬ 9223372036854775807 < D.length + 1 + g1.length + 1 + g2.length + 1 := by omega
            go_wp2_with fail
            have hbA := hbel.out.alloc hbel.out.size (.cells #[.string ⟨g1.toArray⟩, .string ⟨g2.toArray⟩] 39)
            have hoA := (hown.out).alloc (.cells #[.string ⟨g1.toArray⟩, .string ⟨g2.toArray⟩] 39)
            have hsA : wr.heap.size < (wr.alloc (.cells #[.string ⟨g1.toArray⟩, .string ⟨g2.toArray⟩] 39)).heap.size := by simp
            have hc1 : (wr.alloc (.cells #[.string ⟨g1.toArray⟩, .string ⟨g2.toArray⟩] 39)).cell? ⟨wr.heap.size, 0, none⟩ = some (.string ⟨g1.toArray⟩) := by rw [World.cell?_alloc_new]; rfl
            have hc2 : (wr.alloc (.cells #[.string ⟨g1.toArray⟩, .string ⟨g2.toArray⟩] 39)).cell? ⟨wr.heap.size, 1, none⟩ = some (.string ⟨g2.toArray⟩) := by rw [World.cell?_alloc_new]; rfl
            have HBA := Lib.hid hbA; have HOA := Lib.hid hoA; have HSA := Lib.hid hsA; have HD := Lib.hid (And.intro hc1 hc2)
            clear hbA hoA hsA
            generalize wr.alloc (.cells #[.string ⟨g1.toArray⟩, .string ⟨g2.toArray⟩] 39) = wa at *
            go_region_held3 (fun w' => w'.cell? ⟨wr.heap.size, 0, none⟩ = some (.string ⟨g1.toArray⟩) ∧ w'.cell? ⟨wr.heap.size, 1, none⟩ = some (.string ⟨g2.toArray⟩)) (first | exact HD.out | exact HD5.out | exact HD6.out | exact HD7.out) (first
              | (go_at_call 24; (with_reducible refine (HS.out _ (by exact (HT.out.below HBA.out).below ((Below.refl _ _).drew))).mono ?_); rintro e w5 ⟨rfl, hb5⟩; have hd5 := Below.seq ((Below.refl wa.heap.size wa).drew) hb5; have HB5 := Lib.hid (Below.seq HBA.out hd5); have HO5 := Lib.hid (own_below2 HOA.out hd5); have HS5 := Lib.hid (Nat.lt_of_lt_of_le HSA.out hd5.size); have HD5 := Lib.hid (And.intro (Below.keeps hd5 _ _ HD.out.1) (Below.keeps hd5 _ _ HD.out.2)); clear hb5 hd5)
              | (go_at_call 38; (with_reducible refine (HSH.out _ (by exact HT.out.below HB5.out)).mono ?_); rintro e w6 ⟨rfl, hb6⟩; have HB6 := Lib.hid (Below.seq HB5.out hb6); have HO6 := Lib.hid (own_below2 HO5.out hb6); have HS6 := Lib.hid (Nat.lt_of_lt_of_le HS5.out hb6.size); have HD6 := Lib.hid (And.intro (Below.keeps hb6 _ _ HD5.out.1) (Below.keeps hb6 _ _ HD5.out.2)); clear hb6)
              | (refine step_app_str rfl _ _ 22 9 rfl w.heap.size 5 Tryd.underlying22 Tryd.underlying9 infoU8 rfl (by exact HO6.out) _ rfl R (by exact HREC.out) (by omega) (by exact HB6.out.size) ?_; intro a7 c7 w7 ho7 hg7; have HB7 := Lib.hid (below_app HB6.out HO6.out hg7 (Nat.le_refl _) HB6.out.size); have HO7 := Lib.hid ho7; have HD7 := Lib.hid (And.intro (cell_app hown.out hg7 (Nat.le_refl _) HS6.out HD6.out.1) (cell_app hown.out hg7 (Nat.le_refl _) HS6.out HD6.out.2)); clear ho7 hg7))
            go_wp2
            go_round
            case rel => exact ⟨j + 1, _, _, _, by omega, by go_num, rfl, Lib.hid (by rw [HAP.out]; exact HO7.out), HB7⟩
            case measure => simp [intOf]; omega
          · obtain rfl : j = k := by omega
            have hji : ¬ (j : Int) < j := by omega
            have htk : l.take j = l := List.take_of_length_le (by rw [HL.out]; exact Nat.le_refl _)
            have ho := hown.out
            rw [htk] at ho
            have HO := Lib.hid ho
            clear htk ho
            go_wp2
            go_ret2
            rw [HRR.out]
            exact ⟨a2, m2, c2, rfl, HO.out, hbel.out⟩
      · rw [htk] at hover
        have HRR := Lib.hid (HR.out.symm.trans (write_long l hgoodl hover))
        clear hgoodl htk hover
        go_wp2
        go_ret2
        rw [HRR.out]
        exact WriteRes.no hbel.out
end Go.Proofs.YtjchaogfmnabfaaDoor
