/-
  Latest: record.Latest, its reference, and the law RecordLatests.
-/
import Derived.Test.YtlmenpfglcigcaaPairs
namespace Go.Proofs.Ytlmenpfglcigcaa
open Go.ChangeShapes Go.WideShapes Go.ChangeAt Go.RowKit
namespace Plain
/-- the last value of a key -/
def latest (l : List Pr) (key : List UInt8) : Option (List UInt8) := l.foldl (fun o p => if p.1 == key then some p.2 else o) none
theorem latest_snoc (l : List Pr) (p : Pr) (key : List UInt8) : latest (l ++ [p]) key = if p.1 == key then some p.2 else latest l key := by
  simp [latest, List.foldl_append]
theorem latest_take (l : List Pr) (k : Nat) (h : k < l.length) (key : List UInt8) : latest (l.take (k + 1)) key = if (l.getD k ([], [])).1 == key then some (l.getD k ([], [])).2 else latest (l.take k) key := by
  rw [List.take_succ_eq_append_getElem h, latest_snoc]
  simp [List.getD, List.getElem?_eq_getElem h]
end Plain
set_option maxHeartbeats 400000 in
theorem Latest_any (a : Option Addr) (n c : Nat) (l : List Pr) (key : List UInt8) (w : World) (h : Prs w a n c l) :
    Calls Try.prog 15 #[.slice a n c, .string ⟨key.toArray⟩] w fun e w' => e = .returned (.tuple #[.string ⟨((Plain.latest l key).getD []).toArray⟩, .bool (Plain.latest l key).isSome]) ∧ w = w' := by
  have hl := h.len; have hc := h.cap; have hm := h.max
  have HL := Lib.hid hl; clear hl
  generalize hr : Plain.latest l key = r
  have HR := Lib.hid hr; clear hr
  go_enter Try.func15, Try.ntmps15
  go_wp2
  go_loop [6] (fun i => ∃ k : Nat, k ≤ n ∧ i = .int .i64 ((k : Int) - 1) ∧ Hid (Plain.latest (l.take k) key = r)) (fun i => (intOf i + 1).toNat)
  case atStart => exact ⟨n, Nat.le_refl _, rfl, (by rw [List.take_of_length_le (by rw [HL.out]; exact Nat.le_refl _)]; exact HR.out : Plain.latest (l.take n) key = r)⟩
  case round =>
    obtain ⟨k, hk, rfl, hr⟩ := hrel
    cases k with
    | zero =>
      have hr0 : r = none := by rw [← hr.out]; rfl
      subst hr0
      go_wp2
      go_ret2
      exact ⟨rfl, rfl⟩
    | succ k =>
      have e : ((k + 1 : Nat) : Int) - 1 = (k : Int) := by omega
      rw [e]
      clear e
      obtain ⟨b, off, rfl, h0, h1⟩ := h.at k (by omega)
      have ht := Plain.latest_take l k (by rw [HL.out]; omega) key
      rw [hr.out] at ht
      generalize hg : l.getD k ([], []) = g at h0 h1 ht
      clear hg hr
      by_cases hkey : g.1 == key
      · rw [if_pos hkey] at ht
        subst ht
        go_wp2
        go_ret2
        exact ⟨rfl, rfl⟩
      · have hkf : (g.1 == key) = false := by simpa using hkey
        rw [if_neg hkey] at ht
        clear hkey
        have HT := Lib.hid ht.symm; clear ht
        go_wp2
        go_round
        case rel => exact ⟨k, by omega, rfl, HT.out⟩
        case measure => simp [intOf]
set_option maxHeartbeats 400000 in
theorem RefLatest_any (a : Option Addr) (n c : Nat) (l : List Pr) (key : List UInt8) (w : World) (h : Prs w a n c l) :
    Calls Try.prog 17 #[.slice a n c, .string ⟨key.toArray⟩] w fun e w' => e = .returned (.tuple #[.string ⟨((Plain.latest l key).getD []).toArray⟩, .bool (Plain.latest l key).isSome]) ∧ w = w' := by
  have hl := h.len; have hc := h.cap; have hm := h.max
  have HL := Lib.hid hl; clear hl
  generalize hr : Plain.latest l key = r
  have HR := Lib.hid hr; clear hr
  go_enter Try.func17, Try.ntmps17
  go_wp2
  go_loop [6, 7, 8] (fun v ok i => ∃ (k : Nat) (o : Option (List UInt8)), k ≤ n ∧ i = .int .i64 k ∧ v = .string ⟨(o.getD []).toArray⟩ ∧ ok = .bool o.isSome ∧ Hid (Plain.latest (l.take k) key = o)) (fun _ _ i => n - (intOf i).toNat)
  case atStart => exact ⟨0, none, by omega, rfl, rfl, rfl, (rfl : Plain.latest (l.take 0) key = none)⟩
  case round =>
    obtain ⟨k, o, hk, rfl, rfl, rfl, hr⟩ := hrel
    by_cases hlt : k < n
    · obtain ⟨b, off, rfl, h0, h1⟩ := h.at k (by omega)
      have ht := Plain.latest_take l k (by rw [HL.out]; omega) key
      rw [hr.out] at ht
      generalize hg : l.getD k ([], []) = g at h0 h1 ht
      clear hg hr
      have hkn : (k : Int) < n := by omega
      by_cases hkey : g.1 == key
      · rw [if_pos hkey] at ht
        have HT := Lib.hid ht; clear ht
        go_wp2
        go_round
        case rel => exact ⟨k + 1, some g.2, by omega, by go_num, rfl, rfl, HT.out⟩
        case measure => simp [intOf]; omega
      · have hkf : (g.1 == key) = false := by simpa using hkey
        rw [if_neg hkey] at ht
        clear hkey
        have HT := Lib.hid ht; clear ht
        go_wp2
        go_round
        case rel => exact ⟨k + 1, o, by omega, by go_num, rfl, rfl, HT.out⟩
        case measure => simp [intOf]; omega
    · obtain rfl : k = n := by omega
      have ho : o = r := by
        have := hr.out
        rw [List.take_of_length_le (by rw [HL.out]; exact Nat.le_refl _)] at this
        rw [← this]; exact HR.out
      subst ho
      clear hr
      go_wp2
      go_ret2
      exact ⟨rfl, rfl⟩
set_option maxHeartbeats 400000 in
theorem RecordLatests_walk (a : Option Addr) (n c : Nat) (l : List Pr) (key : List UInt8) (w : World) (h : Prs w a n c l) (_hq : ∀ x ∈ l, x.1.length ≤ 140737488351232 ∧ x.2.length ≤ 140737488351232) (hc : c * 32 ≤ 140737488351232) (_hk : key.length ≤ 140737488351232) :
   
    Calls Try.prog 4 #[.slice a n c, .string ⟨key.toArray⟩] w fun e w' => e = .returned (.bool true) ∧ Below w.heap.size w w' := by
  have hcap := h.cap
  have hn : n * 32 ≤ 140737488355328 := by omega
  have hB : Prs (w.alloc (.cells #[.string ⟨#[97]⟩, .string ⟨#[98]⟩] 32)) (some ⟨w.heap.size, 0, none⟩) 1 1 [([97], [98])] := isSl_new w 32 2 1 _ rfl (by decide)
  have b1 : Below w.heap.size w (w.alloc (.cells #[.string ⟨#[97]⟩, .string ⟨#[98]⟩] 32)) := (Below.refl _ _).alloc (Nat.le_refl _) _
  have hL : Plain.latest [([97], [98])] [97] = some [98] := by decide
  have HL := Lib.hid hL; clear hL
  go_enter Try.func4, Try.ntmps4
  go_wp2_with fail
  refine (Latest_any _ _ _ [([97], [98])] [97] _ hB).mono ?_; rintro e w1 ⟨rfl, rfl⟩; rw [HL.out]; simp only [Option.getD_some, Option.isSome_some]
  go_wp2_with fail
  refine (CopyPairs_any _ _ _ l _ (Below.prs b1 h) hn).mono ?_; rintro e w1 ⟨a1, n1, c1, rfl, ho1, hb1⟩
  have hC := own_prs ho1
  have hh := Below.prs hb1 (Below.prs b1 h)
  go_wp2_with fail
  refine (Latest_any _ _ _ l key _ hC).mono ?_; rintro e w2 ⟨rfl, rfl⟩
  go_wp2_with fail
  refine (RefLatest_any _ _ _ l key _ hh).mono ?_; rintro e w2 ⟨rfl, rfl⟩
  have hd : decide (l = l) = true := dec_t rfl
  generalize Plain.latest l key = o
  go_wp2_with fail
  refine (SamePairs_any _ _ _ _ _ _ _ _ _ hC hh).mono ?_; rintro e w2 ⟨rfl, hb2⟩
  go_wp2
  go_ret
  exact ⟨ret_bool (by simp), Below.seq (Below.seq b1 hb1) hb2⟩
end Go.Proofs.Ytlmenpfglcigcaa
