/-
  StreamBounds holds: the law returns true at every input, and leaves what it was handed as it was.
  Its conditions: the second form's bound on the arguments' bulk.
-/
import Derived.Test.YtdbgldieilgnmaaGreatDoorCards
import Derived.Test.YtdbgldieilgnmaaGreatDoorTie
import Derived.Test.YtdbgldieilgnmaaGreatDoorJ01
import Derived.Test.YtdbgldieilgnmaaGreatDoorJ20
import Derived.Test.YtdbgldieilgnmaaGreatDoorJ22
namespace Go.Proofs.YtdbgldieilgnmaaGreatDoor.lawStreamBounds
set_option linter.unusedVariables false
set_option linter.unusedSimpArgs false
open Go.Conc
open Go.ChangeShapes Go.WideShapes Go.ChangeAt Go.RowKit
set_option linter.unusedVariables false
theorem own : ownKnob Tryz.prog.godebug = none := by kernel_rfl
theorem laidOut : laidOutB Tryz.prog = true := by kernel_rfl
theorem YR (os : Os) : laidMet Tryz.prog Rows.streamBoundsRow.laid ((yX os).forCall (fun _ _ => 0) ⟨#[], #[.slice none 0 0, .agg #[.int .i64 0, .int .i64 0]], []⟩).memory :=
  laidMet_of_run' 8 (by kernel_rfl) (by kernel_rfl)
theorem reads (os : Os) {H : Type} (enc : TypeId × Value → H) : ∃ places, DataW.whole enc Tryz.prog ((yX os).forCall (fun _ _ => 0) ⟨#[], #[.slice none 0 0, .agg #[.int .i64 0, .int .i64 0]], []⟩).memory Tryz.f7.params.toList Rows.streamBoundsSpec.vars false (#[.slice none 0 0, .agg #[.int .i64 0, .int .i64 0]] : Array Value).toList 8 = some ([.nil, .agg [.lit (.int .i64 0), .lit (.int .i64 0)]], [], places) :=
  ⟨[], by kernel_rfl⟩
set_option maxRecDepth 100000 in
theorem lifted (os : Os) (started : os.Started) (H : Type) (enc : TypeId × Value → H) (F : Stop.Interp) :
    ReturnsInLeavingWide {} Tryz.checked os 7 .any ((Rows.OpenSpec.upto Rows.streamBoundsSpec).preRow enc Tryz.prog Tryz.f7 Rows.streamBoundsUptoRow.domain false Rows.streamBoundsUptoRow.laid) (((Rows.OpenSpec.upto Rows.streamBoundsSpec).at F).post enc Tryz.prog Tryz.f7 false true false false) := by
  obtain ⟨places, hx⟩ := reads os enc
  refine EL (C := Tryz.checked) (s := (Rows.OpenSpec.upto Rows.streamBoundsSpec)) own started Tryz.func7
    (witness_row_at (enc := enc) (C := Tryz.checked) false (yX os) #[.slice none 0 0, .agg #[.int .i64 0, .int .i64 0]] rfl (by kernel_rfl) (by kernel_rfl) (by kernel_rfl)
      (OpenSpec.preRow_of_cond 8 hx (by kernel_rfl) (fun k hk => by cases hk; kernel_rfl) (by kernel_rfl) (YR os))) ?_
  intro W base args ds gs before hval0 hW _ hcnd hsz0 hL ahy _
  have hsz : (DataW.weightsEach Tryz.prog (Tryz.f7.params.toList ++ Rows.streamBoundsSpec.plain.varTypes Tryz.prog) (ds ++ gs)).all (· ≤ reachBytes) = true := hsz0
  clear hsz0
  have ahg : Rows.uptoSmall H (ds ++ gs) = true := hcnd _ rfl
  have ag6 : lV W := YH hL (by kernel_rfl)
  have agQ : EZ W := acU hL (by kernel_rfl)
  obtain ⟨⟨ε, hst⟩, hmax, ev, hev⟩ := St.aeI ahy hL (by kernel_rfl) (by kernel_rfl)
  have hval : ∀ (j : Nat) t v, Tryz.f7.params[j]? = some t → args[j]? = some v → Value.okWide Tryz.prog W .any base t v := hval0
  have hW' := hW
  obtain ⟨p, q, hA0, hV, rfl, hfz, hnd⟩ := hW
  have hA : DataW.TrodAll enc Tryz.prog W 0 (fun _ => true) true Tryz.f7.params.toList args.toList ds p := hA0
  rw [Tryz.params7] at hA hval hsz
  obtain ⟨v0, vs0, d0, ds0, p0, q0, hargs, rfl, rfl, h0, r0⟩ := trodAll_cons hA
  obtain ⟨v1, vs1, d1, ds1, p1, q1, rfl, rfl, rfl, h1, r1⟩ := trodAll_cons r0
  obtain ⟨rfl, rfl, rfl⟩ := trodAll_nil r1
  obtain rfl : args = #[v0, v1] := by cases args; simp_all
  obtain ⟨rfl, rfl⟩ := trodVars_none hV
  have hsm : Rows.uptoSmall H [d0, d1] = true := by simpa using ahg
  have k0 := h0
  have lt0 : ∀ x ∈ p0, x.block < W.heap.size := by obtain ⟨m, hm⟩ := k0; exact DataW.trod_lt m _ _ _ hm
  have k1 := h1
  have lt1 : ∀ x ∈ p1, x.block < W.heap.size := by obtain ⟨m, hm⟩ := k1; exact DataW.trod_lt m _ _ _ hm
  obtain ⟨a0, n0, c0, l0, rfl, x0, y0⟩ := AJ Tryz.underlying22 Tryz.underlying5 (by kernel_rfl) (hval 0 22 v0 rfl rfl) k0 (R6 hsm (by simp))
  obtain ⟨m1, rfl, x1, y1⟩ := VI (hval 1 24 v1 rfl rfl) k1
  clear hA0 hval0
  obtain ⟨M, last, o, w', t', g1, g2, g3, g4⟩ := Cc.BW.finish (St.Uw (ε := ε) a0 n0 c0 l0 m1 W ev x0 (Nat.le_trans y0 (by decide))  hmax hev ag6 agQ hst)
  refine ⟨M, last, o, w', t', g1, g2, g3, g4.mono fun v hv => ?_⟩
  obtain ⟨rfl, bJ⟩ := hv
  exact ⟨_, _, _, [], _, [], hW', trodAll_mk1 (shut_bool Tryz.underlying4 _), (trodAll_cons_mk (Cc.fI.trod laidOut (by kernel_rfl) (of_decide_eq_true (by kernel_rfl)) k0 bJ lt0) (trodAll_cons_mk (Cc.fI.trod laidOut (by kernel_rfl) (of_decide_eq_true (by kernel_rfl)) k1 bJ lt1) trodAll_mk0)), rfl, Cc.fI.frame bJ _, fun h => by cases h⟩
theorem closed : joinedFacts Tryz.pinned.checked.prog 7 Tryz.f7 (Rows.OpenSpec.upto Rows.streamBoundsSpec).bare Rows.streamBoundsUptoRow = true := by kernel_rfl
theorem named : Tryz.pinned.checked.prog.funcNamed Rows.streamBoundsUptoRow.func = some 7 := by kernel_rfl
theorem inst : Tryz.f7.isInstance Tryz.pinned.checked.prog Rows.streamBoundsUptoRow.origin Rows.streamBoundsUptoRow.targs := of_decide_eq_true (by kernel_rfl)
theorem wrap : Tryz.f7.isWrapper Tryz.pinned.checked.prog Rows.streamBoundsUptoRow.wrapper Rows.streamBoundsUptoRow.mainSum := by unfold Func.isWrapper; first | (rw [if_pos (by decide +kernel)]; kernel_rfl) | (rw [if_neg (by decide +kernel)]; exact ⟨rfl, rfl⟩)
theorem aa1 (os : Os) (started : os.Started) (H : Type) (enc : TypeId × Value → H) (F : Stop.Interp) : ReturnsInLeavingWide Rows.streamBoundsUptoRow.assume Tryz.pinned.checked os 7 .any (Rows.streamBoundsUptoRow.pre enc Tryz.pinned.checked.prog Tryz.f7 (Rows.OpenSpec.upto Rows.streamBoundsSpec)) (((Rows.OpenSpec.upto Rows.streamBoundsSpec).at F).post enc Tryz.pinned.checked.prog Tryz.f7 Rows.streamBoundsUptoRow.apart Rows.streamBoundsUptoRow.fresh Rows.streamBoundsUptoRow.handsOn Rows.streamBoundsUptoRow.again) := by
  rw [OpenClaim.pre_eq_preRow]; exact lifted os started H enc F
theorem said : Rows.StreamBoundsUptoSaid :=
  zN 7 Tryz.f7 rfl rfl rfl rfl rfl rfl rfl ⟨rfl, rfl, rfl, rfl, rfl⟩ rfl rfl rfl rfl rfl named Tryz.func7 closed inst wrap
    (fun os started H enc _ F => aa1 os started H enc F)
theorem goes : true = Rows.streamBoundsUptoRow.goesBy Tryz.pinned.checked.prog := by kernel_rfl
theorem adu : Rows.streamBoundsUptoRow.wfByText (Rows.OpenSpec.upto Rows.streamBoundsSpec) = true := by kernel_rfl
theorem plain (f : FuncId) (fn : Func) (hf : Tryz.pinned.checked.prog.funcNamed "valise/valiselaw07.StreamBounds" = some f) (hfn : Tryz.pinned.checked.prog.funcs[f]? = some fn) :
    true = Tryz.pinned.checked.prog.looks [] ∧ ∀ (j : Nat) t, fn.params[j]? = some t → Tryz.pinned.checked.prog.wantsStandIn t = false := by
  obtain rfl : f = 7 := Option.some.inj ((show Tryz.prog.funcNamed "valise/valiselaw07.StreamBounds" = some 7 by kernel_rfl).symm.trans hf) |>.symm
  obtain rfl : fn = Tryz.f7 := (Option.some.inj (Tryz.func7.symm.trans hfn)).symm
  refine ⟨by kernel_rfl, fun j t ht => ?_⟩
  rw [Tryz.params7] at ht
  have hm := Array.mem_of_getElem? ht
  simp only [List.mem_toArray, List.mem_cons, List.not_mem_nil, or_false] at hm
  rcases hm with rfl | rfl
  · exact (show Tryz.prog.wantsStandIn 22 = false by kernel_rfl)
  · exact (show Tryz.prog.wantsStandIn 24 = false by kernel_rfl)
/-- the statement -/
theorem proved : Rows.StreamBoundsUptoCardSaid :=
  vI .later _ _ _ _ _ said adu streamBoundsUpto_row_tie rfl ⟨rfl, rfl⟩ (by kernel_rfl) rfl plain goes
#print axioms proved
end Go.Proofs.YtdbgldieilgnmaaGreatDoor.lawStreamBounds

