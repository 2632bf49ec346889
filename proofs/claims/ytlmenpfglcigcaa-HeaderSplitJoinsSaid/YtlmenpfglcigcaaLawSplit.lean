/-
  LawSplit: the law HeaderSplitJoins, walked.
-/
import Derived.Test.YtlmenpfglcigcaaSplit
namespace Go.Proofs.Ytlmenpfglcigcaa
open Go.ChangeShapes Go.WideShapes Go.ChangeAt Go.RowKit
namespace Plain
theorem indexByte_none (l : List UInt8) (h : Lib.indexByte l 0 < 0) : ∀ j, j < l.length → l.getD j 0 ≠ 0 := by
  induction l with
  | nil => simp
  | cons b l ih =>
    intro j hj
    unfold Lib.indexByte at h
    split at h
    · omega
    · rename_i hb
      cases j with
      | zero => simpa using hb
      | succ j =>
        have hl : Lib.indexByte l 0 < 0 := by
          split at h
          · rename_i h1; have := eq_of_beq h1; omega
          · omega
        simpa using ih hl j (by simpa using hj)
theorem indexByte_some (l : List UInt8) (h : 0 ≤ Lib.indexByte l 0) : ∃ j, j < l.length ∧ l.getD j 0 = 0 := by
  induction l with
  | nil => simp [Lib.indexByte] at h
  | cons b l ih =>
    unfold Lib.indexByte at h
    split at h
    · rename_i hb; exact ⟨0, by simp, by simpa using hb⟩
    · split at h
      · omega
      · rename_i h1
        have hge : 0 ≤ Lib.indexByte l 0 := by
          have hm : ∀ m : List UInt8, -1 ≤ Lib.indexByte m 0 := by
            intro m
            induction m with
            | nil => simp [Lib.indexByte]
            | cons c m ihm => unfold Lib.indexByte; split; omega; split <;> omega
          have := hm l
          have : Lib.indexByte l 0 ≠ -1 := by simpa using h1
          omega
        obtain ⟨j, hj, hz⟩ := ih hge
        exact ⟨j + 1, by simpa using hj, by simpa using hz⟩
/-- a name that is split: its parts -/
def Well (l p s : List UInt8) : Prop := 0 < s.length ∧ s.length ≤ 100 ∧ p.length ≤ 155 ∧ ((p = [] ∧ s = l) ∨ (p ≠ [] ∧ p ++ [47] ++ s = l ∧ 100 < l.length))
/-- a name that is refused: why -/
def Ill (l : List UInt8) : Prop := (∃ j, j < l.length ∧ l.getD j 0 = 0) ∨
  ((∀ i, 1 ≤ i → i + 1 < l.length → l.getD i 0 = 47 → i ≤ 155 → l.length - 1 - i ≤ 100 → False) ∧ (l.length = 0 ∨ 100 < l.length))
theorem split_cases (l : List UInt8) : (∃ p s, split l = (p, s, 0) ∧ Well l p s) ∨ (split l = ([], [], 43) ∧ Ill l) := by
  unfold split
  by_cases c1 : l = []
  · rw [if_pos c1]; subst c1
    exact .inr ⟨rfl, .inr ⟨fun i _ h => by simp at h, .inl rfl⟩⟩
  · rw [if_neg c1]
    have hpos : 0 < l.length := List.length_pos_iff.2 c1
    by_cases c2 : 0 ≤ Lib.indexByte l 0
    · rw [if_pos c2]
      exact .inr ⟨rfl, .inl (indexByte_some l c2)⟩
    · rw [if_neg c2]
      by_cases c3 : l.length ≤ 100
      · rw [if_pos c3]
        exact .inl ⟨[], l, rfl, hpos, c3, by simp, .inl ⟨rfl, rfl⟩⟩
      · rw [if_neg c3]
        have hst := stroke_spec l
        by_cases c4 : stroke l < 1
        · rw [if_pos c4]
          refine .inr ⟨rfl, .inr ⟨fun i h1 h2 h3 h4 h5 => ?_, .inr (by omega)⟩⟩
          rcases hst with ⟨_, hn⟩ | ⟨k, hk, hs, _, hn⟩
          · exact hn i (by omega) h3
          · exact hn i (by omega) (by omega) h3
        · rw [if_neg c4]
          by_cases c5 : 100 < (l.length : Int) - stroke l - 1
          · rw [if_pos c5]
            refine .inr ⟨rfl, .inr ⟨fun i h1 h2 h3 h4 h5 => ?_, .inr (by omega)⟩⟩
            rcases hst with ⟨hs, hn⟩ | ⟨k, hk, hs, _, hn⟩
            · omega
            · exact hn i (by omega) (by omega) h3
          · rw [if_neg c5]
            rcases hst with ⟨hs, hn⟩ | ⟨k, hk, hs, h47, hn⟩
            · omega
            · rw [hs] at c4 c5 ⊢
              have hkl : k < l.length := by omega
              simp only [Int.toNat_natCast]
              refine .inl ⟨_, _, rfl, by rw [List.length_drop]; omega, by rw [List.length_drop]; omega, by rw [List.length_take]; omega, .inr ⟨?_, ?_, by omega⟩⟩
              · intro h0; rcases List.take_eq_nil_iff.1 h0 with h | h; omega; subst h; simp at hkl
              · have e : l.getD k 0 = l[k] := by simp [List.getD, List.getElem?_eq_getElem hkl]
                rw [e] at h47
                have := List.take_succ_eq_append_getElem hkl
                rw [← h47, ← this, List.take_append_drop]
end Plain
set_option maxHeartbeats 800000 in
theorem HeaderSplitJoins_walk (l : List UInt8) (w : World) (hl : l.length ≤ 140737488351232) :
    Calls Try.prog 11 #[.string ⟨l.toArray⟩] w fun e w' => e = .returned (.bool true) ∧ Below w.heap.size w w' := by
  have hc : Plain.split [97, 47, 98] = ([], [97, 47, 98], 0) := by decide
  have HC := Lib.hid hc; clear hc
  rcases Plain.split_cases l with ⟨p, s, hsp, h1, h2, h3, h4⟩ | ⟨hsp, hill⟩
  · have HS := Lib.hid hsp; clear hsp
    rcases h4 with ⟨rfl, rfl⟩ | ⟨hp, hj, hlen⟩
    · have hself : (s == s) = true := beq_t rfl
      have hz : ((s.length : Int) == 0) = false := by rw [beq_eq_false_iff_ne]; omega
      have h2' : (s.length : Int) ≤ 100 := by omega
      clear h1 h3
      go_enter Try.func11, Try.ntmps11
      go_wp2_with fail
      refine (Split_any [97, 47, 98] _ (by simp)).mono ?_; rintro e w1 ⟨rfl, hb1⟩; rw [HC.out]; simp only [splitV]
      go_wp2_with fail
      refine (Split_any s _ hl).mono ?_; rintro e w2 ⟨rfl, hb2⟩; rw [HS.out]; simp only [splitV]
      go_wp2
      go_ret
      exact ⟨ret_bool (by simp), Below.seq hb1 hb2⟩
    · have hb : (p ++ [47] ++ s == l) = true := beq_t hj
      have hp0 : p.isEmpty = false := by simpa using hp
      have hz : ((s.length : Int) == 0) = false := by rw [beq_eq_false_iff_ne]; omega
      have h2' : (s.length : Int) ≤ 100 := by omega
      have h3' : (p.length : Int) ≤ 155 := by omega
      have hln : 100 < (l.length : Int) := by omega
      clear hj
      have hcat : ((⟨p.toArray⟩ : ByteArray) ++ ⟨#[47]⟩ ++ ⟨s.toArray⟩).toList = l := by
        have e : (⟨#[47]⟩ : ByteArray) = ⟨([47] : List UInt8).toArray⟩ := rfl
        rw [e, ByteArray.mk_append_mk, ByteArray.mk_append_mk, ByteArray.toList_mk]
        exact eq_of_beq hb
      clear h1 hb
      go_enter Try.func11, Try.ntmps11
      go_wp2_with fail
      refine (Split_any [97, 47, 98] _ (by simp)).mono ?_; rintro e w1 ⟨rfl, hb1⟩; rw [HC.out]; simp only [splitV]
      go_wp2_with fail
      refine (Split_any l _ hl).mono ?_; rintro e w2 ⟨rfl, hb2⟩; rw [HS.out]; simp only [splitV]
      go_wp2
      go_ret
      exact ⟨ret_bool (by simp), Below.seq hb1 hb2⟩
  · have HS := Lib.hid hsp; clear hsp
    have HI := Lib.hid hill; clear hill
    go_enter Try.func11, Try.ntmps11
    go_wp2_with fail
    refine (Split_any [97, 47, 98] _ (by simp)).mono ?_; rintro e w1 ⟨rfl, hb1⟩; rw [HC.out]; simp only [splitV]
    go_wp2_with fail
    refine (Split_any l _ hl).mono ?_; rintro e w2 ⟨rfl, hb2⟩; rw [HS.out]; simp only [splitV]
    go_wp2
    go_loop [6] (fun i => ∃ k : Nat, k ≤ l.length ∧ i = .int .i64 k ∧ Hid (∀ j, j < k → l.getD j 0 ≠ 0)) (fun i => l.length - (intOf i).toNat)
    case atStart => exact ⟨0, by omega, rfl, (fun j hj => absurd hj (Nat.not_lt_zero j) : ∀ j, j < 0 → l.getD j 0 ≠ 0)⟩
    case round =>
      obtain ⟨k, hk, rfl, hz⟩ := hrel
      by_cases hlt : k < l.length
      · have hkn : (k : Int) < (l.length : Int) := by omega
        have hx := str_at l k hlt
        generalize hg : l.getD k 0 = g at hx
        have HG := Lib.hid hg; clear hg
        by_cases h0 : g = 0
        · subst h0
          go_wp2
          go_ret
          exact ⟨ret_bool (by simp), Below.seq hb1 hb2⟩
        · have hb : ((g.toNat : Int) == 0) = false := by rw [beq_eq_false_iff_ne]; intro h; exact h0 (UInt8.toNat_inj.1 (by simpa using (by omega : g.toNat = 0)))
          clear h0
          go_wp2
          go_round
          case rel =>
            refine ⟨k + 1, by omega, by go_num, (fun j hj => ?_ : ∀ j, j < k + 1 → l.getD j 0 ≠ 0)⟩
            by_cases hjk : j = k
            · subst hjk; rw [HG.out]; intro h; subst h; simp at hb
            · exact hz.out j (by omega)
          case measure => simp [intOf]; omega
      · obtain rfl : k = l.length := by omega
        have hno : (∀ i, 1 ≤ i → i + 1 < l.length → l.getD i 0 = 47 → i ≤ 155 → l.length - 1 - i ≤ 100 → False) ∧ (l.length = 0 ∨ 100 < l.length) := by
          rcases HI.out with ⟨j, hj, h0⟩ | h
          · exact absurd h0 (hz.out j hj)
          · exact h
        obtain ⟨hn1, hn2⟩ := hno
        have HN := Lib.hid hn1; clear hn1
        clear hz HI
        have hfin : (((l.length : Int) == 0) = true ∨ 100 < (l.length : Int)) := by rcases hn2 with h | h; left; rw [h]; rfl; right; omega
        clear hn2
        have HF := Lib.hid hfin; clear hfin
        go_wp2
        go_loop [7] (fun i => ∃ k : Nat, 1 ≤ k ∧ i = .int .i64 k) (fun i => l.length - (intOf i).toNat)
        case atStart => exact ⟨1, by omega, rfl⟩
        case round =>
          obtain ⟨k, hk, rfl⟩ := hrel
          by_cases hlt : k + 1 < l.length
          · have hkn : (k : Int) < (l.length : Int) - 1 := by omega
            have hkn2 : (k : Int) < (l.length : Int) := by omega
            have hx := str_at l k (by omega)
            generalize hg : l.getD k 0 = g at hx
            have HG := Lib.hid hg; clear hg
            have step : ((g.toNat : Int) == 47) = false ∨ (((g.toNat : Int) == 47) = true ∧ (155 < (k : Int) ∨ ((k : Int) ≤ 155 ∧ 100 < (l.length : Int) - 1 - k))) := by
              by_cases h47 : g = 47
              · refine .inr ⟨by rw [h47]; rfl, ?_⟩
                by_cases h155 : k ≤ 155
                · right
                  refine ⟨by omega, ?_⟩
                  rcases Nat.lt_or_ge 100 (l.length - 1 - k) with h | h
                  · omega
                  · exact absurd (HN.out k hk hlt (by rw [HG.out]; exact h47) h155 h) id
                · left; omega
              · refine .inl ?_
                rw [beq_eq_false_iff_ne]; intro h; exact h47 (UInt8.toNat_inj.1 (by simpa using (by omega : g.toNat = 47)))
            clear HG
            rcases step with h | ⟨h, h2 | ⟨h2, h3⟩⟩
            all_goals
              go_wp2
              go_round
              case rel => exact ⟨k + 1, by omega, by go_num⟩
              case measure => simp [intOf]; omega
          · have hkn : ¬ (k : Int) < (l.length : Int) - 1 := by omega
            rcases HF.out with h | h
            · go_wp2
              go_ret
              exact ⟨ret_bool (by simp), Below.seq hb1 hb2⟩
            · have hne : ((l.length : Int) == 0) = false := by rw [beq_eq_false_iff_ne]; omega
              go_wp2
              go_ret
              exact ⟨ret_bool (by simp), Below.seq hb1 hb2⟩
end Go.Proofs.Ytlmenpfglcigcaa
