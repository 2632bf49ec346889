/-
  Show: numeral.Show and the reference's Show.
-/
import Derived.Test.YtjchaogfmnabfaaDoorDec
import Derived.Test.YtjchaogfmnabfaaDoorCopy
import Derived.Test.YtjchaogfmnabfaaDoorRev
import Derived.Test.YtjchaogfmnabfaaDoorShelf
import Derived.Lib.SmallJoins
namespace Go.Proofs.YtjchaogfmnabfaaDoor
open Go.ChangeShapes Go.WideShapes Go.ChangeAt Go.RowKit
/-- the table that the library's numerals want -/
def Pow10 (w : World) : Prop := Lib.TabIs Tryd.prog w "internal/strconv.uint64pow10" .u64 Lib.pow10Tab
theorem grow_below (B : Nat) (w : World) (q : Nat) (os : Array Obj) (hB : B ≤ w.heap.size) : Below B w (Sort.grow (w.drewN q) os) :=
  ⟨rfl, rfl, rfl, by first | (simp [Sort.grow]; done) | (simp [Sort.grow]; omega), fun i hi => by
    show ((w.drewN q).heap ++ os)[i]? = _
    rw [Array.getElem?_append_left (by show i < w.heap.size; omega)]
    rfl⟩
theorem gPow10 : Tryd.prog.globalNamed "internal/strconv.uint64pow10" = some 1 := by kernel_rfl
theorem Pow10.below {w w' : World} (h : Pow10 w) (k : Below w.heap.size w w') : Pow10 w' := Joins.tab_stays gPow10 h k (Nat.le_refl _)
theorem Show_any (v : Int) (h0 : -9223372036854775808 ≤ v) (h1 : v ≤ 9223372036854775807) (w : World) (ht : Pow10 w) :
    Calls Tryd.prog 38 #[.int .i64 v] w fun e w' => e = .returned (.string ⟨(Lib.itoa v).toArray⟩) ∧ Below w.heap.size w w' := by
  have HT := Lib.hid ht; clear ht
  have hi := Lib.hid (Tryd.strconv_Itoa v h0 h1 w HT.out)
  generalize Lib.itoa v = s at *
  go_enter Tryd.func38, Tryd.ntmps38
  go_wp2_with (go_at_call 63; refine (hi.out).mono ?_; rintro e w1 ⟨rfl, k, os, hw⟩; have HW := Lib.hid hw; clear hw)
  go_ret
  exact ⟨rfl, by rw [HW.out]; exact grow_below _ _ _ _ (Nat.le_refl _)⟩
theorem decDigits_len : ∀ (k u : Nat), u < 10 ^ (k + 1) → (Lib.decDigits u).length ≤ k + 1
  | 0, u, h => by rw [Lib.decDigits, dif_pos (by simpa using h)]; simp
  | k + 1, u, h => by
    rw [Lib.decDigits]
    by_cases h1 : u < 10
    · rw [dif_pos h1]; simp
    · have := decDigits_len k (u / 10) (by rw [Nat.pow_succ] at h; omega)
      rw [dif_neg h1, List.length_append]; simp; omega
/-- the digits that are written, the last one first: what is left of u, and what stands in D -/
def Digs (N u : Nat) (D : List UInt8) : Prop := (u = 0 ∧ D.reverse = Lib.decDigits N) ∨ (u ≠ 0 ∧ Lib.decDigits N = Lib.decDigits u ++ D.reverse)
theorem Digs.start (N : Nat) (h : N ≠ 0) : Digs N N [] := .inr ⟨h, by simp⟩
theorem Digs.step {N u : Nat} {D : List UInt8} (h : Digs N u D) (hu : u ≠ 0) : Digs N (u / 10) (D ++ [UInt8.ofNat (48 + u % 10)]) := by
  rcases h with ⟨h, _⟩ | ⟨_, h⟩
  · exact absurd h hu
  · have e : Lib.decDigits u = if h : u < 10 then [UInt8.ofNat (48 + u)] else Lib.decDigits (u / 10) ++ [UInt8.ofNat (48 + u % 10)] := by rw [Lib.decDigits]
    rw [e] at h
    by_cases h1 : u < 10
    · rw [dif_pos h1] at h
      refine .inl ⟨by omega, ?_⟩
      rw [h, List.reverse_append, Nat.mod_eq_of_lt h1]; rfl
    · rw [dif_neg h1] at h
      refine .inr ⟨by omega, ?_⟩
      rw [h, List.reverse_append, List.append_assoc]; rfl
theorem Digs.len {N u : Nat} {D : List UInt8} (h : Digs N u D) (hN : N ≤ 9223372036854775808) : D.length ≤ 20 := by
  have h1 := decDigits_len 19 N (by omega)
  rcases h with ⟨_, h⟩ | ⟨_, h⟩
  · rw [← h] at h1; simpa using h1
  · rw [h] at h1; simp at h1; omega
theorem Digs.end {N : Nat} {D : List UInt8} (h : Digs N 0 D) : D.reverse = Lib.decDigits N := by
  rcases h with ⟨_, h⟩ | ⟨h, _⟩
  · exact h
  · exact absurd rfl h
theorem digit_val (u : Nat) : (.int .u8 (48 + ((u % 10 : Nat) : Int)) : Value) = u8v (UInt8.ofNat (48 + u % 10)) := by
  unfold u8v
  have e : (UInt8.ofNat (48 + u % 10)).toNat = 48 + u % 10 := by simp; omega
  rw [e]; congr 1
set_option maxRecDepth 100000 in
set_option maxHeartbeats 1600000 in
theorem RefShow_any (v : Int) (h0 : -9223372036854775808 ≤ v) (h1 : v ≤ 9223372036854775807) (w : World) :
    Calls Tryd.prog 40 #[.int .i64 v] w fun e w' => e = .returned (.string ⟨(Lib.itoa v).toArray⟩) ∧ Below w.heap.size w w' := by
  have ho0 := World.ownsRow_lit (base := w.heap.size) (e := 5) (size := 1) w #[] 0 (Nat.le_refl _) (by decide) rfl
  have hu := Lib.hid Tryd.underlying5
  by_cases hv0 : v = 0
  · subst hv0
    have e : Lib.itoa 0 = [48] := by decide +kernel
    rw [e]
    go_enter Tryd.func40, Tryd.ntmps40
    go_wp2
    go_ret
    exact ⟨rfl, Below.refl _ _⟩
  · rcases Int.lt_or_lt_of_ne hv0 with hs | hs
    · obtain ⟨N, rfl, hN1⟩ : ∃ N : Nat, v = -(N : Int) ∧ 1 ≤ N := ⟨v.natAbs, by omega, by omega⟩
      rw [Lib.itoa_neg N hN1]
      have hd0 := Lib.hid (Digs.start N (by omega))
      generalize hR : (45 :: Lib.decDigits N) = R
      have HRR := Lib.hid hR; clear hR
      go_enter Tryd.func40, Tryd.ntmps40
      go_wp2
      go_loopw [0, 3, 5] (fun x s d wr => ∃ (u : Nat) (a : Option Addr) (c : Nat) (D : List UInt8), x = .int .i64 (-(u : Int)) ∧ s = .slice a D.length c ∧ u ≤ N ∧ Hid (Digs N u D) ∧
        wr.ownsRow w.heap.size 5 1 (.slice a D.length c) D.length (D.map u8v) ∧ Below w.heap.size w wr) (fun x _ _ _ => (intOf x).natAbs)
      case atStart => exact ⟨N, _, _, [], rfl, rfl, Nat.le_refl _, hd0, ho0, (Below.refl _ _).alloc (Nat.le_refl _) _⟩
      case round =>
        obtain ⟨u, a, c, D, rfl, rfl, hu0, hD, ho, hb⟩ := hrel
        by_cases hu1 : u = 0
        · subst hu1
          have hrev := hD.out.end
          have hlen := hD.out.len (by omega)
          have hs2 := hb.size
          have HREV : Hid ((D ++ [45]).reverse = R) := by show _ = _; rw [← HRR.out, List.reverse_append, hrev]; rfl
          clear hrev
          go_wp2_with (at_builtin; refine wpList_app rfl _ _ 22 rfl w.heap.size 5 _ 1 1 Tryd.underlying22 infoU8 rfl (by decide) (by decide) rfl (World.ownsRow.alloc ho _) rfl (isSl_new _ 5 1 1 _ rfl (by unfold maxLen; omega)) (by simp [Value.oneCell']) (by omega) (by simp; omega) ?_; intro a6 c6 w6 ho6 hg6)
          have hO : w6.ownsRow w.heap.size 5 1 (.slice a6 (D.length + 1) c6) (D.length + 1) ((D ++ [45]).map u8v) := by rw [List.map_append]; exact ho6
          obtain ⟨g, rfl, hg⟩ := own_block hO (by omega)
          have hB := below_app (hb.alloc hs2 (.cells #[.int .u8 45] 5)) (World.ownsRow.alloc ho _) hg6 (Nat.le_refl _) (by simp; omega)
          have HN : Hid ((D ++ [45]).length = D.length + 1) := by show _ = _; simp
          have hn0 := HN.out
          go_loopw [6, 7, 8] (fun i j t wr => ∃ (k m : Nat), i = .int .i64 k ∧ j = .int .i64 m ∧ Hid (m + k + 1 = (D ++ [45]).length) ∧
            wr.ownsRow w.heap.size 5 1 (.slice (some ⟨g, 0, none⟩) (D.length + 1) c6) (D.length + 1) ((swapK (D ++ [45]) k).map u8v) ∧ Below w.heap.size w wr) (fun _ j _ _ => (intOf j).toNat)
          case atStart => exact ⟨0, (D.length + 1) - 1, rfl, by go_num, Lib.hid (by rw [HN.out]; omega), by rw [swapK_zero]; exact hO, hB⟩
          case round =>
            obtain ⟨k, m, rfl, rfl, hkm, ho8, hb8⟩ := hrel
            have hs8 := hb8.size
            have hkm2 := hkm.out
            rw [HN.out] at hkm2
            by_cases hlt : k < m
            · have h1 := own_cell ho8 k (by rw [swapK_len, HN.out]; omega)
              have h2 := own_cell ho8 m (by rw [swapK_len, HN.out]; omega)
              rw [swapK_lo (D ++ [45]) k m hkm.out hlt] at h1
              rw [swapK_hi (D ++ [45]) k m hkm.out hlt] at h2
              have f1 := ho8.frozenAt k
              have f2 := ho8.frozenAt m
              have st1 := ho8.stored k (u8v ((D ++ [45]).getD m 0))
              have st2 := st1.1.stored m (u8v ((D ++ [45]).getD k 0))
              have hso := swapK_one (D ++ [45]) k m hkm.out hlt
              have hmap : (((swapK (D ++ [45]) k).map u8v).set k (u8v ((D ++ [45]).getD m 0))).set m (u8v ((D ++ [45]).getD k 0)) = (swapK (D ++ [45]) (k + 1)).map u8v := by rw [← hso, List.map_set, List.map_set]
              rw [hmap] at st2
              simp only [u8v] at st1 st2
              have hb9 := below_app (below_app hb8 ho8 st1.2 (Nat.le_refl _) hs8) st1.1 st2.2 (Nat.le_refl _) (by have := st1.2.size; omega)
              generalize (((D ++ [45]).getD k 0).toNat : Int) = x1 at *
              generalize (((D ++ [45]).getD m 0).toNat : Int) = x2 at *
              have ST2 := Lib.hid st2.1; have HB9 := Lib.hid hb9
              clear st1 st2 hso hmap hb9 hO hB ho6 hg6 hn0
              have i1 : (k : Int) < m := by omega
              have i2 : (m : Int) < ((D.length : Int) + 1) := by omega
              have i3 : (k : Int) < ((D.length : Int) + 1) := by omega
              go_wp2
              exact ⟨⟨k + 1, m - 1, by go_num, by congr 1; omega, Lib.hid (by have := hkm.out; omega), ST2.out, HB9.out⟩, by simp [intOf]; omega⟩
            · have he := swapK_end (D ++ [45]) k m hkm.out hlt
              rw [HREV.out] at he
              rw [he] at ho8
              have hge : ¬ (k : Int) < m := by omega
              clear hO hB ho6 hg6 hn0
              go_wp2_with (with_reducible refine wpList_str_of_bs rfl _ _ _ rfl Tryd.underlying22 hu.out Tryd.underlying9 rfl (by exact own_bs ho8) ?_)
              go_ret
              exact ⟨rfl, hb8⟩
        · have hlen := hD.out.len (by omega)
          have hst := Lib.hid (hD.out.step hu1)
          have hs2 := hb.size
          have hdv := digit_val u
          have hu2 : (u : Int) ≠ 0 := by omega
          have hm : (-(u : Int)).tmod 10 = -((u % 10 : Nat) : Int) := by rw [Int.neg_tmod]; rfl
          have hq : (-(u : Int)).tdiv 10 = -((u / 10 : Nat) : Int) := by rw [Int.neg_tdiv]; rfl
          have hu3 : u % 10 < 10 := by omega
          by_cases hz : u % 10 = 0
          · rw [hz] at hdv
            go_wp2_with (at_builtin; refine wpList_app rfl _ _ 22 rfl w.heap.size 5 _ 1 1 Tryd.underlying22 infoU8 rfl (by decide) (by decide) rfl (World.ownsRow.alloc ho _) rfl (isSl_new _ 5 1 1 _ rfl (by unfold maxLen; omega)) (by simp [Value.oneCell']) (by omega) (by simp; omega) ?_; intro a6 c6 w6 ho6 hg6)
            exact ⟨⟨u / 10, a6, c6, D ++ [UInt8.ofNat (48 + u % 10)], rfl, by simp, by omega, hst, by rw [hz, List.map_append, List.map_singleton, ← hdv]; simpa using ho6, below_app (hb.alloc hs2 _) (World.ownsRow.alloc ho _) hg6 (Nat.le_refl _) (by simp; omega)⟩, by simp [intOf]; omega⟩
          · have hlow : -((u % 10 : Nat) : Int) < 0 := by omega
            go_wp2_with (at_builtin; refine wpList_app rfl _ _ 22 rfl w.heap.size 5 _ 1 1 Tryd.underlying22 infoU8 rfl (by decide) (by decide) rfl (World.ownsRow.alloc ho _) rfl (isSl_new _ 5 1 1 _ rfl (by unfold maxLen; omega)) (by simp [Value.oneCell']) (by omega) (by simp; omega) ?_; intro a6 c6 w6 ho6 hg6)
            exact ⟨⟨u / 10, a6, c6, D ++ [UInt8.ofNat (48 + u % 10)], rfl, by simp, by omega, hst, by rw [List.map_append, List.map_singleton, ← hdv]; simpa using ho6, below_app (hb.alloc hs2 _) (World.ownsRow.alloc ho _) hg6 (Nat.le_refl _) (by simp; omega)⟩, by simp [intOf]; omega⟩
    · obtain ⟨N, rfl⟩ : ∃ N : Nat, v = N := ⟨v.toNat, by omega⟩
      rw [Lib.itoa_nonneg]
      have hd0 := Lib.hid (Digs.start N (by omega))
      generalize hR : Lib.decDigits N = R
      have HRR := Lib.hid hR; clear hR
      go_enter Tryd.func40, Tryd.ntmps40
      go_wp2
      go_loopw [0, 3, 5] (fun x s d wr => ∃ (u : Nat) (a : Option Addr) (c : Nat) (D : List UInt8), x = .int .i64 u ∧ s = .slice a D.length c ∧ u ≤ N ∧ Hid (Digs N u D) ∧
        wr.ownsRow w.heap.size 5 1 (.slice a D.length c) D.length (D.map u8v) ∧ Below w.heap.size w wr) (fun x _ _ _ => (intOf x).toNat)
      case atStart => exact ⟨N, _, _, [], rfl, rfl, Nat.le_refl _, hd0, ho0, (Below.refl _ _).alloc (Nat.le_refl _) _⟩
      case round =>
        obtain ⟨u, a, c, D, rfl, rfl, hu0, hD, ho, hb⟩ := hrel
        by_cases hu1 : u = 0
        · subst hu1
          have hrev := hD.out.end
          have hpos : 0 < D.length := by
            have h3 : Lib.decDigits N ≠ [] := decDigits_ne N
            rw [← hrev] at h3
            have : D ≠ [] := fun h => h3 (by rw [h]; rfl)
            exact List.length_pos_iff.2 this
          rw [HRR.out] at hrev
          have HREV := Lib.hid hrev; clear hrev
          obtain ⟨g, rfl, hg⟩ := own_block ho hpos
          have hlen := hD.out.len (by omega)
          generalize hDL : D.length = n at *
          have HN := Lib.hid hDL; clear hDL
          have hneg : ¬ (N : Int) < 0 := by omega
          go_wp2
          go_loopw [6, 7, 8] (fun i j t wr => ∃ (k m : Nat), i = .int .i64 k ∧ j = .int .i64 m ∧ Hid (m + k + 1 = D.length) ∧
            wr.ownsRow w.heap.size 5 1 (.slice (some ⟨g, 0, none⟩) n c) n ((swapK D k).map u8v) ∧ Below w.heap.size w wr) (fun _ j _ _ => (intOf j).toNat)
          case atStart => exact ⟨0, n - 1, rfl, by go_num, Lib.hid (by rw [HN.out]; omega), by rw [swapK_zero]; exact ho, hb⟩
          case round =>
            obtain ⟨k, m, rfl, rfl, hkm, ho8, hb8⟩ := hrel
            have hs8 := hb8.size
            have hkm2 := hkm.out
            rw [HN.out] at hkm2
            by_cases hlt : k < m
            · have h1 := own_cell ho8 k (by rw [swapK_len, HN.out]; omega)
              have h2 := own_cell ho8 m (by rw [swapK_len, HN.out]; omega)
              rw [swapK_lo D k m hkm.out hlt] at h1
              rw [swapK_hi D k m hkm.out hlt] at h2
              have f1 := ho8.frozenAt k
              have f2 := ho8.frozenAt m
              have st1 := ho8.stored k (u8v (D.getD m 0))
              have st2 := st1.1.stored m (u8v (D.getD k 0))
              have hso := swapK_one D k m hkm.out hlt
              have hmap : (((swapK D k).map u8v).set k (u8v (D.getD m 0))).set m (u8v (D.getD k 0)) = (swapK D (k + 1)).map u8v := by rw [← hso, List.map_set, List.map_set]
              rw [hmap] at st2
              simp only [u8v] at st1 st2
              have hb9 := below_app (below_app hb8 ho8 st1.2 (Nat.le_refl _) hs8) st1.1 st2.2 (Nat.le_refl _) (by have := st1.2.size; omega)
              generalize ((D.getD k 0).toNat : Int) = x1 at *
              generalize ((D.getD m 0).toNat : Int) = x2 at *
              have ST2 := Lib.hid st2.1; have HB9 := Lib.hid hb9
              clear st1 st2 hso hmap hb9 ho hb
              have i1 : (k : Int) < m := by omega
              have i2 : (m : Int) < (n : Int) := by omega
              have i3 : (k : Int) < (n : Int) := by omega
              go_wp2
              exact ⟨⟨k + 1, m - 1, by go_num, by congr 1; omega, Lib.hid (by have := hkm.out; omega), ST2.out, HB9.out⟩, by simp [intOf]; omega⟩
            · have he := swapK_end D k m hkm.out hlt
              rw [HREV.out] at he
              rw [he] at ho8
              have hge : ¬ (k : Int) < m := by omega
              clear ho hb
              go_wp2_with (with_reducible refine wpList_str_of_bs rfl _ _ _ rfl Tryd.underlying22 hu.out Tryd.underlying9 rfl (by exact own_bs ho8) ?_)
              go_ret
              exact ⟨rfl, hb8⟩
        · have hlen := hD.out.len (by omega)
          have hst := Lib.hid (hD.out.step hu1)
          have hs2 := hb.size
          have hdv := digit_val u
          have hu2 : (u : Int) ≠ 0 := by omega
          have hm : ¬ ((u % 10 : Nat) : Int) < 0 := by omega
          have hmap : D.map u8v ++ [.int .u8 (48 + (u : Int) % 10)] = (D ++ [UInt8.ofNat (48 + u % 10)]).map u8v := by rw [List.map_append, List.map_singleton, ← hdv]; rfl
          have HMAP := Lib.hid hmap; clear hmap hdv
          go_wp2_with (at_builtin; refine wpList_app rfl _ _ 22 rfl w.heap.size 5 _ 1 1 Tryd.underlying22 infoU8 rfl (by decide) (by decide) rfl (World.ownsRow.alloc ho _) rfl (isSl_new _ 5 1 1 _ rfl (by unfold maxLen; omega)) (by simp [Value.oneCell']) (by omega) (by simp; omega) ?_; intro a6 c6 w6 ho6 hg6)
          exact ⟨⟨u / 10, a6, c6, D ++ [UInt8.ofNat (48 + u % 10)], by go_num, by simp, by omega, hst, by rw [← HMAP.out]; simpa using ho6, below_app (hb.alloc hs2 _) (World.ownsRow.alloc ho _) hg6 (Nat.le_refl _) (by simp; omega)⟩, by simp [intOf]; omega⟩
end Go.Proofs.YtjchaogfmnabfaaDoor
