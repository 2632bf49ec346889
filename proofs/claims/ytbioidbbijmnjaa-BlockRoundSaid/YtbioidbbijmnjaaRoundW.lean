/-
  RoundW: the law BlockRound, from its entry to the end of the run.
-/
import Derived.Test.YtbioidbbijmnjaaCcReg2
import Derived.Test.YtbioidbbijmnjaaLawRound
namespace Go.Proofs.Ytbioidbbijmnjaa
set_option linter.unusedVariables false
set_option linter.unusedSimpArgs false
open Go.Conc Go.ChangeShapes Go.WideShapes Go.ChangeAt Go.RowKit
namespace Cc
theorem enterR (a : Option Addr) (n c : Nat) : Frame.enter Try.prog 4 #[.slice a n c] .normal = (base 4).at ⟨#[.slice a n c, undef, undef, undef, undef, undef, undef, undef, undef, undef, undef, undef, undef, undef, undef, undef, undef, undef, undef, undef, undef, undef, undef, undef, undef, undef, undef, undef, undef, undef, undef, undef, undef, undef, undef, undef, undef, undef, undef, undef, undef, undef, undef, undef, undef, undef, undef, undef, undef, undef, undef, undef, undef, undef, undef, undef, undef, undef, undef, undef, undef, undef, undef, undef, undef, undef, undef, undef, undef, undef], []⟩ [.code bodyR] := by
  have h : (#[.slice a n c] : Array Value) ++ Array.replicate (Try.f4.ntmps - (#[.slice a n c] : Array Value).size) undef = #[.slice a n c, undef, undef, undef, undef, undef, undef, undef, undef, undef, undef, undef, undef, undef, undef, undef, undef, undef, undef, undef, undef, undef, undef, undef, undef, undef, undef, undef, undef, undef, undef, undef, undef, undef, undef, undef, undef, undef, undef, undef, undef, undef, undef, undef, undef, undef, undef, undef, undef, undef, undef, undef, undef, undef, undef, undef, undef, undef, undef, undef, undef, undef, undef, undef, undef, undef, undef, undef, undef, undef] := by
    simp only [Try.f4, List.size_toArray, List.length_cons, List.length_nil, Nat.reduceAdd, Nat.reduceSub, Array.replicate_succ, Array.replicate_zero, List.push_toArray, List.append_toArray, List.nil_append, List.cons_append]
  have hbody : Try.f4.body = some bodyR := by simp only [bodyR, Try.f4, Option.getD_some]
  rw [← h]
  simp [Frame.enter, Frame.at, base, Try.func4, hbody]
set_option maxRecDepth 100000 in
set_option maxHeartbeats 2000000 in
theorem BlockRound_bw (a : Option Addr) (n c : Nat) (l : List UInt8) (w : World) (h : Bs w a n c l) (hc : c ≤ 140737488351232) :
    BW Try.prog (G (Frame.enter Try.prog 4 #[.slice a n c] .normal) []) w (Ends Try.prog fun v w' => v = .bool true ∧ Bel w w') := by
  have hl := h.len; have hcap := h.cap
  have HR := @Round_rest
  rw [enterR]
  simp only [RR, bodyR, Try.f4, Option.getD_some] at HR ⊢
  refine BW.seq ?_
  refine BW.region ?_
  simp only [List.size_toArray, List.length_cons, List.length_nil, Nat.reduceAdd, Nat.zero_add, List.range']
  refine BW.move rfl rfl (by decide) (.inr rfl) ?_
  walk_nrm
  refine BW.rend ?_
  refine BW.seq ?_
  refine BW.region ?_
  simp only [List.size_toArray, List.length_cons, List.length_nil, Nat.reduceAdd, Nat.zero_add, List.range']
  refine BW.move rfl rfl (by decide) (.inl rfl) ?_
  walk_nrm
  refine BW.call (Rr := NewB w l) rfl rfl (by decide) rfl okp (by kernel_rfl) Try.func10 rfl (vs := #[.slice a n c]) (by simp [Act.eval]) (fun τ d => (CopyBytes_any a n c l (tp w τ d) h (by omega)).mono fun e w' hq => newB_of hq) (fun v w' τ d hq => hq.tp τ d) fun v w1 hv => ?_
  obtain ⟨a1, n1, c1, rfl, ho1, hbel1⟩ := hv
  obtain rfl : n1 = n := by have := own_len ho1; omega
  walk_nrm
  refine bw_cut rfl rfl (by decide) rfl rfl (own_bs ho1) (by omega) fun v w2 hv => ?_
  obtain ⟨x2, cp2, rfl, ho2, hbel2⟩ := hv
  walk_nrm
  refine BW.move rfl rfl (by decide) (.inl rfl) ?_
  walk_nrm
  refine BW.still1 rfl rfl (by decide) _ (fun w₁ => rn_extract rfl rfl rfl w₁) ?_
  walk_nrm
  refine BW.still1 rfl rfl (by decide) _ (fun w₁ => rn_extract rfl rfl rfl w₁) ?_
  walk_nrm
  refine BW.move rfl rfl (by decide) (.inr rfl) ?_
  walk_nrm
  refine BW.move rfl rfl (by decide) (.inr rfl) ?_
  walk_nrm
  refine BW.rend ?_
  have hbel3 := hbel1.seq hbel2
  have hB : Blks w2 x2 (n1 / 512) cp2 (chunks l (n1 / 512)) := ⟨by rw [chunks_flat]; exact own_isSl ho2, chunks_512 l _ (by rw [hl]; exact Nat.div_mul_le_self n1 512)⟩
  refine BW.seq ?_
  refine BW.seq ?_
  apply BW.regionStill (hP := okp) (hk := by decide) (hok := by kernel_rfl)
  · intro τ d
    go_wp2
    exact rfl
  by_cases hn0 : n1 = 0
  · refine BW.cond (t := true) (by simp [Act.eval, hn0]) ?_
    simp only [if_true]
    refine BW.seq ?_
    refine BW.region ?_
    simp only [List.size_toArray, List.length_cons, List.length_nil, Nat.reduceAdd, Nat.zero_add, List.range']
    refine BW.opv (.slice (some ⟨w2.heap.size, 0, none⟩) 1030 1030) (Rw := fun w' => Bs w' (some ⟨w2.heap.size, 0, none⟩) 1030 1030 (List.replicate 1030 0) ∧ Bel w2 w') okp rfl (by decide) rfl (fun τ d => wpList_make_bytes rfl 22 _ _ rfl Try.underlying22 (by kernel_rfl) 1030 rfl rfl (by decide) ⟨rfl, rfl, zeros_bs w2 1030 (by decide) τ d, ?_⟩) (fun w' τ d hr => ⟨hr.1, hr.2.tp τ d⟩) fun w3 hr3 => ?_
    · exact .of_tp (τ := τ) (d := d) ((Below.refl w2.heap.size (tp w2 τ d)).alloc (show w2.heap.size ≤ (tp w2 τ d).heap.size from Nat.le_refl _) _)
    obtain ⟨hb3, hbel4⟩ := hr3
    walk_nrm
    have hlz : (List.replicate 1030 (0 : UInt8)).length = 1030 := List.length_replicate
    generalize List.replicate 1030 (0 : UInt8) = z at hb3 hlz ⊢
    refine BW.opv (.string ⟨z.toArray⟩) (Rw := fun w' => Bel w3 w') okp rfl (by decide) (by kernel_rfl) (fun τ d => wpList_str_of_bs rfl _ _ _ rfl Try.underlying22 Try.underlying5 Try.underlying9 rfl (show Bs (tp w3 τ d) _ _ _ _ from hb3) ⟨rfl, rfl, (Bel.refl w3).tp τ d⟩) (fun w' τ d hr => hr.tp τ d) fun w4 hbel5 => ?_
    walk_nrm
    refine BW.ope (Rv := fun v w' => ∃ a' c', v = .slice a' 1030 c' ∧ Bs w' a' 1030 c' z ∧ Bel w4 w') okp rfl (by decide) (by kernel_rfl) (fun τ d => wpList_bs_of_str rfl _ _ _ rfl Try.underlying9 Try.underlying22 Try.underlying5 rfl (by omega) fun a' c' w' g1 g2 => ⟨rfl, _, rfl, a', c', by rw [hlz], by rw [hlz] at g1; exact g1, .of_tp (τ := τ) (d := d) g2⟩) (fun v w' τ d hr => by obtain ⟨a', c', g1, g2, g3⟩ := hr; exact ⟨a', c', g1, g2, g3.tp τ d⟩) fun v w5 hv => ?_
    obtain ⟨a5, c5, rfl, hb5, hbel6⟩ := hv
    walk_nrm
    refine bw_cut rfl rfl (by decide) rfl rfl hb5 (by decide) fun v w6 hv => ?_
    obtain ⟨x6, cp6, rfl, ho6, hbel7⟩ := hv
    walk_nrm
    refine BW.move rfl rfl (by decide) (.inl rfl) ?_
    walk_nrm
    refine BW.still1 rfl rfl (by decide) _ (fun w₁ => rn_extract rfl rfl rfl w₁) ?_
    walk_nrm
    refine BW.still1 rfl rfl (by decide) _ (fun w₁ => rn_extract rfl rfl rfl w₁) ?_
    walk_nrm
    refine BW.move rfl rfl (by decide) (.inr rfl) ?_
    walk_nrm
    refine BW.move rfl rfl (by decide) (.inr rfl) ?_
    walk_nrm
    refine BW.rend ?_
    refine BW.seq ?_
    apply BW.regionStill (hP := okp) (hk := by decide) (hok := by kernel_rfl)
    · intro τ d
      go_wp2
      exact rfl
    refine BW.ret ?_
    exact BW.ends Try.func4 (by kernel_rfl) (fun w => results_tmp rfl _ _ w) fun d => ⟨rfl, ((((hbel3.seq hbel4).seq hbel5).seq hbel6).seq hbel7).tp _ _⟩
  · refine BW.cond (t := false) (by simp [Act.eval]; omega) ?_
    simp only [Bool.false_eq_true, if_false]
    refine BW.skip ?_
    refine BW.last okp Try.func4 (by kernel_rfl) (by kernel_rfl) (fun τ d => Code.wp_mono (fun e x y hq => bodyPost_mono (fun v w' hv => ⟨hv.1, hbel3.seq (.of_tp hv.2)⟩) hq) (HR a n1 c l x2 cp2 (n1 / 512) (n1 % 512) _ _ _ _ _ _ _ _ _ _ _ _ _ _ _ _ _ _ _ _ _ _ _ _ _ _ _ _ _ _ _ _ _ _ _ _ _ _ _ _ _ _ _ _ _ _ _ _ _ _ _ _ _ _ _ _ _ _ _ _ _ _ _ _ _ _ (tp w2 τ d) ((hbel3.tp τ d).keeps.bs h) hc rfl rfl hB)) fun v w' τ d hv => ⟨hv.1, hv.2.tp τ d⟩
end Cc
end Go.Proofs.Ytbioidbbijmnjaa
