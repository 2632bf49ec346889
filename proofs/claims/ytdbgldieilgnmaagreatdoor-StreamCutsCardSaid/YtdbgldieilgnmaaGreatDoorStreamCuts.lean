/-
  StreamCuts holds: the law returns true at every input, and leaves what it was handed as it was.
  Its conditions: none beyond the row's own.
-/
import Derived.Test.YtdbgldieilgnmaaGreatDoorCards
import Derived.Test.YtdbgldieilgnmaaGreatDoorTie
import Derived.Test.YtdbgldieilgnmaaGreatDoorJC
namespace Go.Proofs.YtdbgldieilgnmaaGreatDoor.lawStreamCuts
set_option linter.unusedVariables false
set_option linter.unusedSimpArgs false
open Go.Conc
open Go.ChangeShapes Go.WideShapes Go.ChangeAt Go.RowKit
set_option linter.unusedVariables false
theorem own : ownKnob Tryz.prog.godebug = none := by kernel_rfl
theorem laidOut : laidOutB Tryz.prog = true := by kernel_rfl
theorem YR (os : Os) : laidMet Tryz.prog Rows.streamCutsRow.laid ((yX os).forCall (fun _ _ => 0) ⟨#[], #[.slice none 0 0, .int .i64 0, .agg #[.int .i64 0, .int .i64 0]], []⟩).memory :=
  laidMet_of_run' 8 (by kernel_rfl) (by kernel_rfl)
set_option maxRecDepth 100000 in
theorem lifted (os : Os) (started : os.Started) (H : Type) (enc : TypeId × Value → H) (F : Stop.Interp) :
    ReturnsInLeavingWide {} Tryz.checked os 4 .any ((OpenSpec.ofChange Rows.streamCutsSpec).preRow enc Tryz.prog Tryz.f4 Rows.streamCutsRow.domain false Rows.streamCutsRow.laid) (((OpenSpec.ofChange Rows.streamCutsSpec).at F).post enc Tryz.prog Tryz.f4 false true false false) := by
  refine EL (C := Tryz.checked) (s := (OpenSpec.ofChange Rows.streamCutsSpec)) own started Tryz.func4
    (witness_row_at (enc := enc) (C := Tryz.checked) false (yX os) #[.slice none 0 0, .int .i64 0, .agg #[.int .i64 0, .int .i64 0]] rfl (by kernel_rfl) (by kernel_rfl) (by kernel_rfl)
      (OpenSpec.preRow_of_B rfl 8 (by kernel_rfl) (by kernel_rfl) (YR os))) ?_
  intro W base args ds gs before hval0 hW hcnd _ hsz0 hL ahy _
  have hsz : (DataW.weightsEach Tryz.prog (Tryz.f4.params.toList ++ Rows.streamCutsSpec.plain.varTypes Tryz.prog) (ds ++ gs)).all (· ≤ reachBytes) = true := hsz0
  clear hsz0
  have ag6 : lV W := YH hL (by kernel_rfl)
  have agQ : EZ W := acU hL (by kernel_rfl)
  obtain ⟨⟨ε, hst⟩, hmax, ev, hev⟩ := St.aeI ahy hL (by kernel_rfl) (by kernel_rfl)
  have hval : ∀ (j : Nat) t v, Tryz.f4.params[j]? = some t → args[j]? = some v → Value.okWide Tryz.prog W .any base t v := hval0
  have hW' := hW
  obtain ⟨p, q, hA0, hV, rfl, hfz, hnd⟩ := hW
  have hA : DataW.TrodAll enc Tryz.prog W 0 (fun _ => true) true Tryz.f4.params.toList args.toList ds p := hA0
  rw [Tryz.params4] at hA hval hsz
  obtain ⟨v0, vs0, d0, ds0, p0, q0, hargs, rfl, rfl, h0, r0⟩ := trodAll_cons hA
  obtain ⟨v1, vs1, d1, ds1, p1, q1, rfl, rfl, rfl, h1, r1⟩ := trodAll_cons r0
  obtain ⟨v2, vs2, d2, ds2, p2, q2, rfl, rfl, rfl, h2, r2⟩ := trodAll_cons r1
  obtain ⟨rfl, rfl, rfl⟩ := trodAll_nil r2
  obtain rfl : args = #[v0, v1, v2] := by cases args; simp_all
  obtain ⟨rfl, rfl⟩ := trodVars_none hV
  have k0 := h0
  have lt0 : ∀ x ∈ p0, x.block < W.heap.size := by obtain ⟨m, hm⟩ := k0; exact DataW.trod_lt m _ _ _ hm
  have k1 := h1
  have lt1 : ∀ x ∈ p1, x.block < W.heap.size := by obtain ⟨m, hm⟩ := k1; exact DataW.trod_lt m _ _ _ hm
  have k2 := h2
  have lt2 : ∀ x ∈ p2, x.block < W.heap.size := by obtain ⟨m, hm⟩ := k2; exact DataW.trod_lt m _ _ _ hm
  obtain ⟨a0, n0, c0, l0, rfl, x0, y0⟩ := aii Tryz.underlying22 Tryz.underlying5 (by kernel_rfl) (by kernel_rfl) (hval 0 22 v0 rfl rfl) k0 (aiy hsz 0 rfl rfl)
  obtain ⟨z1, rfl, x1, y1⟩ := akn Tryz.underlying3 (hval 1 3 v1 rfl rfl) k1
  obtain ⟨m2, rfl, x2, y2⟩ := VI (hval 2 24 v2 rfl rfl) k2
  clear hA0 hval0
  obtain ⟨M, last, o, w', t', g1, g2, g3, g4⟩ := Cc.BW.finish (St.akw (ε := ε) a0 n0 c0 l0 z1 m2 W ev x0 y0   hmax hev ag6 agQ hst)
  refine ⟨M, last, o, w', t', g1, g2, g3, g4.mono fun v hv => ?_⟩
  obtain ⟨rfl, bJ⟩ := hv
  exact ⟨_, _, _, [], _, [], hW', trodAll_mk1 (shut_bool Tryz.underlying4 _), (trodAll_cons_mk (Cc.fI.trod laidOut (by kernel_rfl) (of_decide_eq_true (by kernel_rfl)) k0 bJ lt0) (trodAll_cons_mk (Cc.fI.trod laidOut (by kernel_rfl) (of_decide_eq_true (by kernel_rfl)) k1 bJ lt1) (trodAll_cons_mk (Cc.fI.trod laidOut (by kernel_rfl) (of_decide_eq_true (by kernel_rfl)) k2 bJ lt2) trodAll_mk0))), rfl, Cc.fI.frame bJ _, fun h => by cases h⟩
theorem closed : joinedFacts Tryz.pinned.checked.prog 4 Tryz.f4 (OpenSpec.ofChange Rows.streamCutsSpec).bare Rows.streamCutsRow = true := by kernel_rfl
theorem named : Tryz.pinned.checked.prog.funcNamed Rows.streamCutsRow.func = some 4 := by kernel_rfl
theorem inst : Tryz.f4.isInstance Tryz.pinned.checked.prog Rows.streamCutsRow.origin Rows.streamCutsRow.targs := of_decide_eq_true (by kernel_rfl)
theorem wrap : Tryz.f4.isWrapper Tryz.pinned.checked.prog Rows.streamCutsRow.wrapper Rows.streamCutsRow.mainSum := by unfold Func.isWrapper; first | (rw [if_pos (by decide +kernel)]; kernel_rfl) | (rw [if_neg (by decide +kernel)]; exact ⟨rfl, rfl⟩)
theorem aa1 (os : Os) (started : os.Started) (H : Type) (enc : TypeId × Value → H) (F : Stop.Interp) : ReturnsInLeavingWide Rows.streamCutsRow.assume Tryz.pinned.checked os 4 .any (Rows.streamCutsRow.pre enc Tryz.pinned.checked.prog Tryz.f4 (OpenSpec.ofChange Rows.streamCutsSpec)) (((OpenSpec.ofChange Rows.streamCutsSpec).at F).post enc Tryz.pinned.checked.prog Tryz.f4 Rows.streamCutsRow.apart Rows.streamCutsRow.fresh Rows.streamCutsRow.handsOn Rows.streamCutsRow.again) := by
  rw [OpenClaim.pre_eq_preRow]; exact lifted os started H enc F
theorem said : Rows.StreamCutsSaid :=
  zN 4 Tryz.f4 rfl rfl rfl rfl rfl rfl rfl ⟨rfl, rfl, rfl, rfl, rfl⟩ rfl rfl rfl rfl rfl named Tryz.func4 closed inst wrap
    (fun os started H enc _ F => aa1 os started H enc F)
theorem goes : true = Rows.streamCutsRow.goesBy Tryz.pinned.checked.prog := by kernel_rfl
theorem adu : Rows.streamCutsRow.wfByText (OpenSpec.ofChange Rows.streamCutsSpec) = true := by kernel_rfl
theorem plain (f : FuncId) (fn : Func) (hf : Tryz.pinned.checked.prog.funcNamed "valise/valiselaw07.StreamCuts" = some f) (hfn : Tryz.pinned.checked.prog.funcs[f]? = some fn) :
    true = Tryz.pinned.checked.prog.looks [] ∧ ∀ (j : Nat) t, fn.params[j]? = some t → Tryz.pinned.checked.prog.wantsStandIn t = false := by
  obtain rfl : f = 4 := Option.some.inj ((show Tryz.prog.funcNamed "valise/valiselaw07.StreamCuts" = some 4 by kernel_rfl).symm.trans hf) |>.symm
  obtain rfl : fn = Tryz.f4 := (Option.some.inj (Tryz.func4.symm.trans hfn)).symm
  refine ⟨by kernel_rfl, fun j t ht => ?_⟩
  rw [Tryz.params4] at ht
  have hm := Array.mem_of_getElem? ht
  simp only [List.mem_toArray, List.mem_cons, List.not_mem_nil, or_false] at hm
  rcases hm with rfl | rfl | rfl
  · exact (show Tryz.prog.wantsStandIn 22 = false by kernel_rfl)
  · exact (show Tryz.prog.wantsStandIn 3 = false by kernel_rfl)
  · exact (show Tryz.prog.wantsStandIn 24 = false by kernel_rfl)
/-- the statement -/
theorem proved : Rows.StreamCutsCardSaid :=
  vI .later _ _ _ _ _ said adu streamCuts_row_tie rfl ⟨rfl, rfl⟩ (by kernel_rfl) rfl plain goes
#print axioms proved
end Go.Proofs.YtdbgldieilgnmaaGreatDoor.lawStreamCuts

