/-
  JoinYes: what block.Join answers where the blocks reach.
-/
import Derived.Test.YtbioidbbijmnjaaJoin
namespace Go.Proofs.Ytbioidbbijmnjaa
open Go.ChangeShapes Go.WideShapes Go.ChangeAt Go.RowKit
set_option maxRecDepth 100000 in
set_option maxHeartbeats 2000000 in
theorem Join_yes (a : Option Addr) (n c : Nat) (ls : List (List UInt8)) (m : Nat) (w : World) (h : Blks w a n c ls) (hn : n * 512 ≤ 140737488355328) (hm : m ≤ n * 512) :
    Calls Try.prog 11 #[.slice a n c, .int .i64 m] w fun e w' => ∃ a' c', e = .returned (.tuple #[.slice a' m c', .int .i64 0]) ∧ w'.ownsRow w.heap.size 5 1 (.slice a' m c') m ((ls.flatten.take m).map u8v) ∧ Below w.heap.size w w' := by
  have hl := h.len; have hcap := h.1.2.1; have hmax : c ≤ 9223372036854775807 := h.1.2.2.1
  have HL := Lib.hid hl; clear hl
  have hb : (n : Int) * 512 ≤ 140737488355328 := by omega
  have hm2 : (m : Int) ≤ (n : Int) * 512 := by omega
  obtain ⟨i0, hi0, hz0, hz1, hz2⟩ := info_parts infoU8
  have hby : i0.bytes * m ≤ 281474976710656 := by rw [hz2]; omega
  go_enter Try.func11, Try.ntmps11
  go_wp2_with (at_make; refine wpList_make_own _ rfl _ _ 22 rfl w.heap.size 5 i0 _ 1 Try.underlying22 hi0 hz0 hz1 .i64 .i64 _ m rfl rfl (by omega) hby (by unfold maxLen; omega) (Nat.le_refl _) ?_; intro w1 ho1 hg1)
  have hbel1 : Below w.heap.size w w1 := below_app (Below.refl _ _) (World.ownsRow_nil w w.heap.size 5 1) hg1 (Nat.le_refl _) (Nat.le_refl _)
  go_loopw [6, 21] (fun v j wr => ∃ (i L : Nat) (a2 : Option Addr) (c2 : Nat), i ≤ n ∧ j = .int .i64 i ∧ v = .slice a2 L c2 ∧ L ≤ m ∧ Hid (L = i * 512) ∧ Hid (i = 0 ∨ L < m) ∧
    wr.ownsRow w.heap.size 5 1 (.slice a2 L c2) L ((ls.flatten.take (i * 512)).map u8v) ∧ Below w.heap.size w wr) (fun _ j _ => n - (intOf j).toNat)
  case atStart => exact ⟨0, 0, _, _, by omega, rfl, rfl, by omega, (rfl : 0 = 0 * 512), (.inl rfl : (0 = 0 ∨ 0 < m)), by simpa using ho1, hbel1⟩
  case round =>
    obtain ⟨i, L, a2, c2, hi, rfl, rfl, hLm, hLi, hLt, ho2, hb2⟩ := hrel
    by_cases hlt : i < n
    · obtain ⟨b, off, rfl, hlen, hc⟩ := (Below.blks hb2 h).at i hlt
      have hs2 := hb2.size
      have htk := flat512_take ls h.2 i (by rw [HL.out]; exact hlt)
      have e : ls.getD i [] = ls[i]'(by rw [HL.out]; exact hlt) := by simp [List.getD, List.getElem?_eq_getElem (show i < ls.length by rw [HL.out]; exact hlt)]
      rw [← e] at htk
      generalize ls.getD i [] = q at *
      have hin : (i : Int) < n := by omega
      have hsrc : ∀ M, M ≤ 512 → Bs wr (some ⟨b, off + i * 512, none⟩) M 512 (q.take M) := fun M hM =>
        ⟨by simp; omega, hM, by decide, fun j v hj => ⟨_, rfl, hc j v (by
          rw [List.map_take, List.getElem?_take] at hj
          split at hj
          · exact hj
          · cases hj)⟩, fun h => by cases h⟩
      clear e hc hlen
      have HTK := Lib.hid htk; have HSRC := Lib.hid hsrc; clear htk hsrc
      have hcl := hb2
      rcases Nat.lt_trichotomy (m - L) 512 with hfin | hfin | hfin
      · have h1 : (m : Int) - L < 512 := by omega
        have hend := HTK.out (m - L) (by omega)
        rw [← hLi.out, show L + (m - L) = m by omega] at hend
        have HE := Lib.hid hend; clear hend
        go_wp2_with (first
          | (with_reducible refine wpList_slice_arr rfl 29 _ _ rfl Try.underlying29 (by kernel_rfl) (by decide) _ rfl (m - L) .i64 _ rfl (by omega) (by omega) ?_)
          | (at_builtin; refine wpList_app rfl _ _ 22 rfl w.heap.size 5 _ 1 1 Try.underlying22 infoU8 rfl (by decide) (by decide) rfl ho2 rfl (HSRC.out (m - L) (by omega)) (bytes_oneCell _) (by omega) hs2 ?_; intro a3 c3 w3 ho3 hg3))
        go_ret2
        refine ⟨a3, c3, rfl, ?_, below_app hb2 ho2 hg3 (by omega) hs2⟩
        have e : L + (m - L) = m := by omega
        rw [e] at ho3
        rw [HE.out, List.map_append, hLi.out]
        rw [hLi.out] at ho3
        exact ho3
      · have h1 : ¬ (m : Int) - L < 512 := by omega
        have hend := HTK.out 512 (by omega)
        rw [← hLi.out, show L + 512 = m by omega] at hend
        have HE := Lib.hid hend; clear hend
        go_wp2_with (first
          | (with_reducible refine wpList_slice_arr rfl 29 _ _ rfl Try.underlying29 (by kernel_rfl) (by decide) _ rfl 512 .i64 _ rfl (by omega) (by omega) ?_)
          | (at_builtin; refine wpList_app rfl _ _ 22 rfl w.heap.size 5 _ 1 1 Try.underlying22 infoU8 rfl (by decide) (by decide) rfl ho2 rfl (HSRC.out 512 (by omega)) (bytes_oneCell _) (by omega) hs2 ?_; intro a3 c3 w3 ho3 hg3))
        go_ret2
        have e : L + 512 = m := by omega
        rw [e] at ho3
        refine ⟨a3, c3, by rw [← e]; rfl, ?_, below_app hb2 ho2 hg3 (by omega) hs2⟩
        rw [← List.map_flatten, ← List.map_take, HE.out, List.map_append, hLi.out]
        exact ho3
      · have h1 : ¬ (m : Int) - L < 512 := by omega
        have hend := HTK.out 512 (by omega)
        rw [show i * 512 + 512 = (i + 1) * 512 by omega] at hend
        have HE := Lib.hid hend; clear hend
        go_wp2_with (first
          | (with_reducible refine wpList_slice_arr rfl 29 _ _ rfl Try.underlying29 (by kernel_rfl) (by decide) _ rfl 512 .i64 _ rfl (by omega) (by omega) ?_)
          | (at_builtin; refine wpList_app rfl _ _ 22 rfl w.heap.size 5 _ 1 1 Try.underlying22 infoU8 rfl (by decide) (by decide) rfl ho2 rfl (HSRC.out 512 (by omega)) (bytes_oneCell _) (by omega) hs2 ?_; intro a3 c3 w3 ho3 hg3))
        refine ⟨⟨i + 1, L + 512, a3, c3, by omega, by go_num, rfl, by omega, (show L + 512 = (i + 1) * 512 by have := hLi.out; omega), (show _ ∨ _ from .inr (by omega)), ?_, below_app hb2 ho2 hg3 (by omega) hs2⟩, by simp [intOf]; omega⟩
        rw [HE.out, List.map_append]
        exact ho3
    · obtain rfl : i = n := by omega
      go_wp2
      have e : L = m := by have := hLi.out; have := hLt.out; omega
      rw [e] at ho2
      rw [← hLi.out, e] at ho2
      go_ret2
      exact ⟨a2, c2, by rw [← e]; rfl, ho2, hb2⟩
/-- block.Join at every number -/
theorem Join_all (a : Option Addr) (n c : Nat) (ls : List (List UInt8)) (N : Int) (w : World) (h : Blks w a n c ls) (hn : n * 512 ≤ 140737488355328) :
    Calls Try.prog 11 #[.slice a n c, .int .i64 N] w fun e w' => ∃ (a' : Option Addr) (m c' : Nat) (er : Int), e = .returned (.tuple #[.slice a' m c', .int .i64 er]) ∧ Below w.heap.size w w' ∧
      (N < 0 ∨ (n : Int) * 512 < N → m = 0 ∧ er = 11) ∧ (¬ (N < 0 ∨ (n : Int) * 512 < N) → er = 0 ∧ Bs w' a' m c' (ls.flatten.take N.toNat)) := by
  by_cases hbad : N < 0 ∨ (n : Int) * 512 < N
  · refine (Join_no a n c N w hn hbad).mono ?_
    rintro e w' ⟨rfl, rfl⟩
    exact ⟨_, _, _, _, rfl, Below.refl _ _, fun _ => ⟨rfl, rfl⟩, fun h => absurd hbad h⟩
  · have e : N = ((N.toNat : Nat) : Int) := by omega
    rw [e]
    refine (Join_yes a n c ls N.toNat w h hn (by omega)).mono ?_
    rintro e w' ⟨a', c', rfl, ho, hb⟩
    exact ⟨_, _, _, _, rfl, hb, fun h => absurd (e ▸ h) hbad, fun _ => ⟨rfl, own_bs ho⟩⟩
end Go.Proofs.Ytbioidbbijmnjaa
