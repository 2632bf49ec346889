/-
  CutsW: the law BlockCuts, from its entry to the end of the run.
-/
import Derived.Test.YtbioidbbijmnjaaCcReg
import Derived.Test.YtbioidbbijmnjaaLawCuts
namespace Go.Proofs.Ytbioidbbijmnjaa
set_option linter.unusedVariables false
set_option linter.unusedSimpArgs false
open Go.Conc Go.ChangeShapes Go.WideShapes Go.ChangeAt Go.RowKit
namespace Cc
theorem enterK (a : Option Addr) (n c : Nat) : Frame.enter Try.prog 3 #[.slice a n c] .normal = (base 3).at ⟨#[.slice a n c, undef, undef, undef, undef, undef, undef, undef, undef, undef, undef, undef, undef, undef, undef, undef, undef, undef, undef, undef, undef, undef, undef, undef, undef, undef, undef, undef, undef, undef, undef, undef, undef, undef, undef, undef, undef, undef, undef, undef, undef, undef, undef, undef, undef, undef, undef, undef, undef, undef, undef, undef, undef, undef, undef, undef, undef, undef, undef, undef, undef, undef, undef, undef], []⟩ [.code bodyK] := by
  have h : (#[.slice a n c] : Array Value) ++ Array.replicate (Try.f3.ntmps - (#[.slice a n c] : Array Value).size) undef = #[.slice a n c, undef, undef, undef, undef, undef, undef, undef, undef, undef, undef, undef, undef, undef, undef, undef, undef, undef, undef, undef, undef, undef, undef, undef, undef, undef, undef, undef, undef, undef, undef, undef, undef, undef, undef, undef, undef, undef, undef, undef, undef, undef, undef, undef, undef, undef, undef, undef, undef, undef, undef, undef, undef, undef, undef, undef, undef, undef, undef, undef, undef, undef, undef, undef] := by
    simp only [Try.f3, List.size_toArray, List.length_cons, List.length_nil, Nat.reduceAdd, Nat.reduceSub, Array.replicate_succ, Array.replicate_zero, List.push_toArray, List.append_toArray, List.nil_append, List.cons_append]
  have hbody : Try.f3.body = some bodyK := by simp only [bodyK, Try.f3, Option.getD_some]
  rw [← h]
  simp [Frame.enter, Frame.at, base, Try.func3, hbody]
set_option maxRecDepth 100000 in
set_option maxHeartbeats 2000000 in
theorem BlockCuts_bw (a : Option Addr) (n c : Nat) (l : List UInt8) (w : World) (h : Bs w a n c l) (hc : c ≤ 140737488351232) :
    BW Try.prog (G (Frame.enter Try.prog 3 #[.slice a n c] .normal) []) w (Ends Try.prog fun v w' => v = .bool true ∧ Bel w w') := by
  have hl := h.len; have hcap := h.cap
  have HR := @Cuts_rest
  rw [enterK]
  simp only [RK, bodyK, Try.f3, Option.getD_some] at HR ⊢
  refine BW.seq ?_
  refine BW.region ?_
  simp only [List.size_toArray, List.length_cons, List.length_nil, Nat.reduceAdd, Nat.zero_add, List.range']
  refine BW.move rfl rfl (by decide) (.inr rfl) ?_
  walk_nrm
  refine BW.rend ?_
  refine BW.seq ?_
  refine BW.region ?_
  simp only [List.size_toArray, List.length_cons, List.length_nil, Nat.reduceAdd, Nat.zero_add, List.range']
  refine BW.opv (.slice (some ⟨w.heap.size, 0, none⟩) 513 513) (Rw := fun w' => Bs w' (some ⟨w.heap.size, 0, none⟩) 513 513 (List.replicate 513 0) ∧ Bel w w') okp rfl (by decide) rfl (fun τ d => wpList_make_bytes rfl 22 _ _ rfl Try.underlying22 (by kernel_rfl) 513 rfl rfl (by decide) ⟨rfl, rfl, ?_, ?_⟩) (fun w' τ d hr => ⟨hr.1, hr.2.tp τ d⟩) fun w1 hr1 => ?_
  · have := isSl_new (tp w τ d) 5 1 513 (rowA (List.replicate 513 0)) (by rw [rowA_size, List.length_replicate]) (by decide)
    rw [show (rowA (List.replicate 513 0)).toList = (List.replicate 513 0).map u8v from rfl] at this
    exact this
  · exact .of_tp (τ := τ) (d := d) ((Below.refl w.heap.size (tp w τ d)).alloc (show w.heap.size ≤ (tp w τ d).heap.size from Nat.le_refl _) _)
  · obtain ⟨hb1, hbel1⟩ := hr1
    walk_nrm
    refine bw_cut rfl rfl (by decide) rfl rfl hb1 (by decide) fun v w2 hv => ?_
    obtain ⟨x2, cp2, rfl, _, hbel2⟩ := hv
    walk_nrm
    refine BW.move rfl rfl (by decide) (.inl rfl) ?_
    walk_nrm
    refine BW.still1 rfl rfl (by decide) _ (fun w₁ => rn_extract rfl rfl rfl w₁) ?_
    walk_nrm
    refine BW.still1 rfl rfl (by decide) _ (fun w₁ => rn_extract rfl rfl rfl w₁) ?_
    walk_nrm
    refine BW.move rfl rfl (by decide) (.inr rfl) ?_
    walk_nrm
    refine BW.move rfl rfl (by decide) (.inr rfl) ?_
    walk_nrm
    refine BW.rend ?_
    refine BW.seq ?_
    refine BW.seq ?_
    apply BW.regionStill (hP := okp) (hk := by decide) (hok := by kernel_rfl)
    · intro τ d
      go_wp2
      exact rfl
    refine BW.cond (t := false) rfl ?_
    simp only [Bool.false_eq_true, if_false]
    refine BW.skip ?_
    refine BW.seq ?_
    refine BW.region ?_
    simp only [List.size_toArray, List.length_cons, List.length_nil, Nat.reduceAdd, Nat.zero_add, List.range']
    refine BW.move rfl rfl (by decide) (.inl rfl) ?_
    walk_nrm
    have hbel3 := hbel1.seq hbel2
    refine BW.call (Rr := NewB w2 (l ++ marks)) rfl rfl (by decide) rfl okp (by kernel_rfl) Try.func7 rfl (vs := #[.slice a n c]) (by simp [Act.eval]) (fun τ d => (Spare_any a n c l (tp w2 τ d) ((hbel3.tp τ d).keeps.bs h) (by omega)).mono fun e w' hq => newB_of hq) (fun v w' τ d hq => hq.tp τ d) fun v w4 hv => ?_
    obtain ⟨a5, m5, c5, rfl, ho5, hbel4⟩ := hv
    have hm5 : m5 = n + 8 := by have := own_len ho5; rw [List.length_append, hl] at this; exact this.symm
    subst hm5
    walk_nrm
    refine BW.move rfl rfl (by decide) (.inr rfl) ?_
    walk_nrm
    refine BW.rend ?_
    refine BW.seq ?_
    refine BW.region ?_
    simp only [List.size_toArray, List.length_cons, List.length_nil, Nat.reduceAdd, Nat.zero_add, List.range']
    refine BW.move rfl rfl (by decide) (.inl rfl) ?_
    walk_nrm
    refine BW.move rfl rfl (by decide) (.inl rfl) ?_
    walk_nrm
    refine BW.still1 rfl rfl (by decide) _ (fun w₁ => rn_len rfl rfl Try.underlying22 w₁) ?_
    walk_nrm
    have hF := own_bs ho5
    have hcut := bs_cut hF 0 n (Nat.zero_le _) (by omega)
    rw [show ((l ++ marks).take n).drop 0 = l by rw [List.drop_zero, ← hl, List.take_left]] at hcut
    refine BW.still1 rfl rfl (by decide) _ (fun w₁ => rn_slice rfl Try.underlying22 (by kernel_rfl) rfl 0 n .i64 .i64 rfl rfl (Nat.zero_le _) (by omega) hF.cap rfl w₁) ?_
    walk_nrm
    refine bw_cut rfl rfl (by decide) rfl rfl hcut (by omega) fun v w6 hv => ?_
    obtain ⟨x6, cp6, rfl, ho6, hbel5⟩ := hv
    walk_nrm
    refine BW.move rfl rfl (by decide) (.inl rfl) ?_
    walk_nrm
    refine BW.still1 rfl rfl (by decide) _ (fun w₁ => rn_extract rfl rfl rfl w₁) ?_
    walk_nrm
    refine BW.still1 rfl rfl (by decide) _ (fun w₁ => rn_extract rfl rfl rfl w₁) ?_
    walk_nrm
    refine BW.move rfl rfl (by decide) (.inr rfl) ?_
    walk_nrm
    refine BW.move rfl rfl (by decide) (.inr rfl) ?_
    walk_nrm
    refine BW.rend ?_
    rw [Nat.sub_zero] at ho6 ⊢
    have hbel6 := (hbel3.seq hbel4).seq hbel5
    have hB6 : Blks w6 x6 (n / 512) cp6 (chunks l (n / 512)) := ⟨by rw [chunks_flat]; exact own_isSl ho6, chunks_512 l _ (by rw [hl]; exact Nat.div_mul_le_self n 512)⟩
    refine BW.last okp Try.func3 (by kernel_rfl) (by kernel_rfl) (fun τ d => Code.wp_mono (fun e x y hq => bodyPost_mono (fun v w' hv => ⟨hv.1, hbel6.seq (.of_tp hv.2)⟩) hq) (HR a n c l a5 c5 x6 cp6 (n / 512) (n % 512) _ _ _ _ _ _ _ _ _ _ _ _ _ _ _ _ _ _ _ _ _ _ _ _ _ _ _ _ _ _ _ _ _ _ _ _ _ _ _ _ _ _ _ _ _ _ _ _ _ _ _ _ _ _ _ _ _ _ _ (tp w6 τ d) ((hbel6.tp τ d).keeps.bs h) hc ((hbel5.tp τ d).keeps.bs hF) rfl rfl hB6)) fun v w' τ d hv => ⟨hv.1, hv.2.tp τ d⟩
end Cc
end Go.Proofs.Ytbioidbbijmnjaa
