/-
  CcCutC: block.Cut's contract, from frame to frame.
-/
import Derived.Test.YtbioidbbijmnjaaCcCut
import Derived.Conc.SmallLaws
namespace Go.Proofs.Ytbioidbbijmnjaa
set_option linter.unusedVariables false
set_option linter.unusedSimpArgs false
open Go.Conc Go.ChangeShapes Go.WideShapes Go.ChangeAt Go.RowKit
namespace Cc
section
variable {P : Program} {w : World} {Φ : Goroutine → World → Prop} {b : Frame} {a : Act} {k : List Item} {cs : List Frame} {ops : Array Oper} {i : Nat} {rest : List Nat} {o : Oper}
theorem BW.still1 (ho : ops[i]? = some o) (hw : Region.wanted o (yielded ops a.tmps) = true) (hk : b.kind ≠ .early) (v : Value) (h : ∀ w₁, (execOp a.eval o).run P w₁ = .ok (.value v) w₁ ∧ (execOp a.eval o).events P w₁ #[] = #[])
    (hn : BW P (G (b.at (a.put o.dst v) (.inRegion ops rest :: k)) cs) w Φ) : BW P (G (b.at a (.inRegion ops (i :: rest) :: k)) cs) w Φ :=
  .ctl rfl (fun w₁ => by
    rw [stepG_value ho hw hk (h w₁).1]
    unfold listed
    rw [(h w₁).2, seen_none]) hn
theorem BW.move (ho : ops[i]? = some o) (hw : Region.wanted o (yielded ops a.tmps) = true) (hk : b.kind ≠ .early) {x : Operand} (hop : o.op = .move x ∨ o.op = .assign x) (hn : BW P (G (b.at (a.put o.dst (a.eval x)) (.inRegion ops rest :: k)) cs) w Φ) : BW P (G (b.at a (.inRegion ops (i :: rest) :: k)) cs) w Φ :=
  .still1 ho hw hk _ (fun w₁ => hop.elim (fun h => rn_move h w₁) fun h => rn_assign h w₁) hn
theorem BW.leave {fn : Func} {todo : List Item} {c : Frame} {v : Value} (hn : b.kind = .normal) (hd : a.defers = []) (hf : P.funcs[b.fn]? = some fn) (hr : ∀ w, (results fn a.tmps).run P w = .ok v w) (he : ∀ w, (results fn a.tmps).events P w #[] = #[])
    (h : BW P (G (c.finish v) cs) w Φ) : BW P (G { b.at a todo with mode := .returning } (c :: cs)) w Φ := .ctl rfl (fun w => stepG_leave hn hd hf (hr w) (he w)) h
theorem BW.ret (h : BW P (G { b.at a (.code .ret :: k) with mode := .returning } cs) w Φ) : BW P (G (b.at a (.code .ret :: k)) cs) w Φ := .ctl rfl (fun _ => by rw [stepG_ret']) h
theorem BW.makeChan (ho : ops[i]? = some o) (hw : Region.wanted o (yielded ops a.tmps) = true) (hk : b.kind ≠ .early) {t e : TypeId} {dir : ChanDir} {x : Operand} (hop : o.op = .makeChan t x) (ht : P.underlying t = some (.chan dir e)) {inf : TypeInfo} (hi : P.info? e = some inf) (n : Nat) (hx : a.eval x = .int .i64 n) (hn : (n : Int) ≤ 9223372036854775807) (hb : (inf.bytes : Int) * n ≤ 281474976710544)
    (h : BW P (G (b.at (a.put o.dst (.chan (some w.heap.size))) (.inRegion ops rest :: k)) cs) (w.alloc (.chan n #[] false 0 0 false)) Φ) : BW P (G (b.at a (.inRegion ops (i :: rest) :: k)) cs) w Φ := by
  refine BW.step rfl fun d => ?_
  have hr : (execOp a.eval o).run P (w.at d) = .ok (.value (.chan (some w.heap.size))) ((w.at d).alloc (.chan n #[] false 0 0 false)) := by
    simp [execOp, hop, hx, run_makeChan (P := P) (w := w.at d) ht hi .i64 n hn hb, Result.andThen]
    rfl
  have he : (execOp a.eval o).events P (w.at d) #[] = #[] := by
    simp [execOp, hop, hx, events_makeChan (P := P) (w := w.at d) ht hi .i64 n hn hb, run_makeChan (P := P) (w := w.at d) ht hi .i64 n hn hb, Result.evThen]
  refine ⟨_, (w.at d).alloc (.chan n #[] false 0 0 false), #[], ?_, by simp; exact Nat.le_succ _, by simp, h.at d⟩
  rw [stepG_value ho hw hk hr]
  unfold listed
  rw [he, seen_none]
theorem rn_rem {x y : Operand} {t t' : TypeId} {p : Nat} (hop : o.op = .binOp .rem t x y t') (hx : a.eval x = .int .i64 p) (hy : a.eval y = .int .i64 512) (ht : P.underlying t = some (.int .i64)) (hp : p ≤ 140737488355328) (w : World) :
    (execOp a.eval o).run P w = .ok (.value (.int .i64 ((p % 512 : Nat) : Int))) w ∧ (execOp a.eval o).events P w #[] = #[] := by
  simp only [Act.eval, Array.getD_eq_getD_getElem?] at hx hy
  unfold execOp; simp [go_sem, hop, hx, hy, ht]
  exact Int.tmod_eq_emod_of_nonneg (by omega)
theorem run_go {f : FuncId} {args : Array Operand} {ats : Array TypeId} (hop : o.op = .go { callee := .value (.func f), args, argTypes := ats }) (w : World) : (execOp a.eval o).run P w = .ok (.spawn { target := .fn (.func f) #[], args := args.map a.eval }) w ∧ (execOp a.eval o).events P w #[] = #[] := by
  simp [execOp, hop, resolve, Deferred.ofValue, Act.eval]
end
/-- as it was below, but for the tape -/
def Bel (w w' : World) : Prop := Below w.heap.size (tp w w'.tape w'.drawn) w'
theorem Bel.tp {w w' : World} (h : Bel w w') (τ : Nat → Question → Nat) (d : Nat) : Bel w (tp w' τ d) := ⟨h.os, rfl, h.output, h.size, h.block⟩
theorem Bel.of {w w' : World} (h : Below w.heap.size w w') : Bel w w' := ⟨h.os, rfl, h.output, h.size, h.block⟩
theorem Bel.of_tp {w w' : World} {τ : Nat → Question → Nat} {d : Nat} (h : Below w.heap.size (Cc.tp w τ d) w') : Bel w w' := ⟨h.os, rfl, h.output, h.size, h.block⟩
theorem Bel.seq {w w' w'' : World} (h : Bel w w') (h' : Bel w' w'') : Bel w w'' := ⟨h'.os.trans h.os, rfl, h'.output.trans h.output, Nat.le_trans h.size h'.size, fun k hk => (h'.block k (Nat.lt_of_lt_of_le hk h.size)).trans (h.block k hk)⟩
theorem Bel.refl (w : World) : Bel w w := ⟨rfl, rfl, rfl, Nat.le_refl _, fun _ _ => rfl⟩
theorem Bel.keeps {w w' : World} (h : Bel w w') : Keeps w w' := fun p v hv => by
  have hlt := World.block_lt_of_cell? (w := w) (a := p) hv
  rw [World.cell?_of_block (w := w) (h.block p.block hlt)]; exact hv
/-- what Cut answers -/
def CutOk (w : World) (n : Nat) (l : List UInt8) (v : Value) (w' : World) : Prop :=
  ∃ x cp, v = .tuple #[.slice x (n / 512) cp, .int .i64 ((n % 512 : Nat) : Int)] ∧ w'.ownsRow w.heap.size 29 512 (.slice x (n / 512) cp) (n / 512) ((l.take (n / 512 * 512)).map u8v) ∧ Bel w w'
section
variable {w : World} {Φ : Goroutine → World → Prop} {b : Frame} {a : Act} {k : List Item} {cs : List Frame} {ops : Array Oper} {i : Nat} {rest : List Nat} {o : Oper}
set_option maxRecDepth 100000 in
set_option maxHeartbeats 1000000 in
theorem bw_cut {x : Operand} {ats : Array TypeId} (ho : ops[i]? = some o) (hw : Region.wanted o (yielded ops a.tmps) = true) (hk : b.kind ≠ .early) (hop : o.op = .call { callee := .value (.func 6), args := #[x], argTypes := ats })
    {ao : Option Addr} {n cp : Nat} {l : List UInt8} (hx : a.eval x = .slice ao n cp) (hb : Bs w ao n cp l) (hlim : n ≤ 140737488355328)
    (hn : ∀ v w', CutOk w n l v w' → BW Try.prog (G (b.at (a.put o.dst v) (.inRegion ops rest :: k)) cs) w' Φ) : BW Try.prog (G (b.at a (.inRegion ops (i :: rest) :: k)) cs) w Φ := by
  have hl := hb.len
  have hfin : ∀ v, (b.at a (.inRegion ops (i :: rest) :: k)).finish v = b.at (a.put o.dst v) (.inRegion ops rest :: k) := fun v => by rw [Frame.finish_at, ho]; rfl
  have harg : (#[x] : Array Operand).map a.eval = #[.slice ao n cp] := by simp [← hx]
  refine BW.ctl rfl (fun w => ?_) (g' := G (bC.at ⟨#[.slice ao n cp, undef, undef, undef, undef, undef, undef, undef, undef, undef, undef, undef, undef, undef, undef, undef, undef, undef, undef, undef, undef, undef], []⟩ [.code bodyC]) (b.at a (.inRegion ops (i :: rest) :: k) :: cs)) ?_
  · have henter : (({ tmps := (#[x] : Array Operand).map a.eval ++ Array.replicate (Try.f6.ntmps - ((#[x] : Array Operand).map a.eval).size) undef, defers := [] }) : Act) = ⟨#[.slice ao n cp, undef, undef, undef, undef, undef, undef, undef, undef, undef, undef, undef, undef, undef, undef, undef, undef, undef, undef, undef, undef, undef], []⟩ := by
      rw [harg]
      simp only [Try.f6, List.size_toArray, List.length_cons, List.length_nil, Nat.reduceAdd, Nat.reduceSub, Array.replicate_succ, Array.replicate_zero, List.push_toArray, List.append_toArray, List.nil_append, List.cons_append]
    have hbody : Try.f6.body = some bodyC := by simp only [bodyC, Try.f6, Option.getD_some]
    have hname : (Try.f6.name == "runtime.NumGoroutine") = false := by simp only [Try.f6]; decide
    have := goes_call (main := true) (w := w) (c := bodyC) (K := fun g' w' es => g' = G (bC.at ⟨#[.slice ao n cp, undef, undef, undef, undef, undef, undef, undef, undef, undef, undef, undef, undef, undef, undef, undef, undef, undef, undef, undef, undef, undef], []⟩ [.code bodyC]) (b.at a (.inRegion ops (i :: rest) :: k) :: cs) ∧ w' = w ∧ es = #[]) (cs := cs) (k := k) (rest := rest) ho hw hk hop Try.func6 hname hbody ⟨by rw [henter]; rfl, rfl, rfl⟩
    obtain ⟨g', w', es, h1, rfl, rfl, rfl⟩ := goes_elim this
    exact h1
  · generalize hcl : b.at a (.inRegion ops (i :: rest) :: k) = cl at hfin
    simp only [bodyC, Try.f6, Option.getD_some]
    refine BW.seq ?_
    refine BW.region ?_
    simp only [List.size_toArray, List.length_cons, List.length_nil, Nat.reduceAdd, Nat.zero_add, List.range']
    refine BW.move rfl rfl (by decide) (.inr rfl) ?_
    walk_nrm
    refine BW.move rfl rfl (by decide) (.inr rfl) ?_
    walk_nrm
    refine BW.rend ?_
    refine BW.seq ?_
    refine BW.region ?_
    simp only [List.size_toArray, List.length_cons, List.length_nil, Nat.reduceAdd, Nat.zero_add, List.range']
    obtain ⟨inf, hinf, hbytes⟩ : ∃ inf, Try.prog.info? 29 = some inf ∧ inf.bytes = 512 := by
      have h := infoBlk
      obtain ⟨inf, h1, h2⟩ := Option.map_eq_some_iff.1 h
      simp only [Prod.mk.injEq] at h2
      exact ⟨inf, h1, h2.2.2⟩
    refine BW.makeChan rfl rfl (by decide) rfl Try.underlying39 hinf 4 rfl (by decide) (by rw [hbytes]; decide) ?_
    walk_nrm
    refine BW.move rfl rfl (by decide) (.inr rfl) ?_
    walk_nrm
    refine BW.rend ?_
    refine BW.seq ?_
    refine BW.region ?_
    simp only [List.size_toArray, List.length_cons, List.length_nil, Nat.reduceAdd, Nat.zero_add, List.range']
    refine BW.move rfl rfl (by decide) (.inl rfl) ?_
    walk_nrm
    refine BW.move rfl rfl (by decide) (.inl rfl) ?_
    walk_nrm
    have h1s : (w.alloc (.chan 4 #[] false 0 0 false)).heap.size = w.heap.size + 1 := by simp
    have hc1 : (w.alloc (.chan 4 #[] false 0 0 false)).heap[w.heap.size]? = some (.chan 4 #[] false 0 0 false) := heap_alloc_new w _
    have hb1 : Bs (w.alloc (.chan 4 #[] false 0 0 false)) ao n cp l := (Keeps.alloc w _).bs hb
    have hbel1 : Below w.heap.size w (w.alloc (.chan 4 #[] false 0 0 false)) := (Below.refl _ _).alloc (Nat.le_refl _) _
    generalize w.alloc (.chan 4 #[] false 0 0 false) = w1 at h1s hc1 hb1 hbel1 ⊢
    have hkl : n / 512 * 512 ≤ l.length := by rw [hl]; exact Nat.div_mul_le_self n 512
    refine BW.bind (BW.fork (S := Sw w1 w.heap.size) (c := w.heap.size) (z := .agg (rowA zblk)) (Φ := FinC w w1 (cl :: cs) (.slice ao n cp) (n / 512) (l.take (n / 512 * 512))) rfl Sw.aside fun d' => ?_) fun g' w' hF => ?_
    · refine ⟨G (bC.at ⟨#[.slice ao n cp, undef, .slice none 0 0, .int .i64 0, .chan (some w.heap.size), undef, undef, .chan (some w.heap.size), .slice ao n cp, .chan (some w.heap.size), undef, undef, undef, undef, undef, undef, undef, undef, undef, undef, undef, undef], []⟩ [.inRegion opsC2 [], .code RC]) (cl :: cs), born Try.prog (callS w.heap.size (.slice ao n cp)), w1.at d', #[], 0, 0, false, blks (n / 512) l, ?_, Nat.le_refl _, by simp, hc1, fun _ _ _ => rfl, ?_, sends_all w1 w.heap.size hc1 hb1⟩
      · simp only [opsC2, RC, bodyC, Try.f6, Option.getD_some]
        rw [stepG_spawn rfl rfl (by decide) (run_go rfl _).1 rfl, listed_none (run_go rfl _).2]
        simp only [callS]
        walk_nrm
      · have T := termsA w.heap.size w1.heap.size (Sw w1 w.heap.size)
        have hr0 : RF w w1 (w1.at d') none 0 0 [] := ⟨⟨by simp, .inl ⟨rfl, rfl⟩⟩, ⟨hbel1.os, hbel1.tape, hbel1.output, hbel1.size, hbel1.block⟩, Nat.le_refl _⟩
        have next := fun w₅ (h₅ : Aside w.heap.size (w1.at d') w₅) (u11 u1 u2 u3 u4 u6 u7 u8 u9 u12 u13 u14 u15 u16 u17 u18 u19 u20 u21 : Value) => recvs_from w w1 (cl :: cs) (.slice ao n cp) h1s (n / 512) (l.take (n / 512 * 512)) (by omega) (n / 512) l hkl none 0 0 [] u11 u1 u2 u3 u4 u6 u7 u8 u9 u12 u13 u14 u15 u16 u17 u18 u19 u20 u21 w₅ (hr0.aside h1s h₅) (by omega) (by simp)
        refine (recvs4_iff ..).2 ⟨14, ?_⟩
        simp only [opsC2, atC, opsC5, LC2, LC, YC, RC, bodyC, Try.f6, Option.getD_some] at next ⊢
        refine goes_ctl T rfl (fun _ => stepG_region_end) ?_
        refine goes_ctl T rfl (fun _ => stepG_seq) ?_
        refine goes_ctl T rfl (fun _ => stepG_region) ?_
        simp only [List.size_toArray, List.length_cons, List.length_nil, Nat.reduceAdd, Nat.zero_add, List.range, List.range.loop]
        refine goes_still T rfl rfl (by decide) _ (fun w₁ => rn_assign rfl w₁) ?_
        walk_nrm
        refine goes_ctl T rfl (fun _ => stepG_region_end) ?_
        refine goes_ctl T rfl (fun _ => stepG_seq) ?_
        refine goes_ctl T rfl (fun _ => stepG_seq) ?_
        refine goes_ctl T rfl (fun _ => stepG_region) ?_
        simp only [List.size_toArray, List.length_cons, List.length_nil, Nat.reduceAdd, Nat.zero_add, List.range, List.range.loop]
        refine goes_still T rfl rfl (by decide) _ (fun w₁ => rn_move rfl w₁) ?_
        walk_nrm
        refine goes_ctl T rfl (fun _ => stepG_region_end) ?_
        refine goes_ctl T rfl (fun _ => stepG_block) ?_
        refine goes_ctl T rfl (fun _ => stepG_loop) ?_
        refine goes_ctl T rfl (fun _ => stepG_seq) ?_
        refine goes_ctl T rfl (fun _ => stepG_region) ?_
        simp only [List.size_toArray, List.length_cons, List.length_nil, Nat.reduceAdd, Nat.zero_add, List.range, List.range.loop]
        exact Goes.stop fun w₅ h₅ => next w₅ h₅ _ _ _ _ _ _ _ _ _ _ _ _ _ _ _ _ _ _ _
    · obtain ⟨x', cp', u1, u2, u3, u4, u6, u7, u8, u9, u12, u13, u14, u15, u16, u17, u18, u19, u20, u21, rfl, hr⟩ := hF
      simp only [atC, opsC5, LC2, LC, YC, RC, bodyC, Try.f6, Option.getD_some]
      refine BW.still1 rfl rfl (by decide) _ (fun w₁ => rn_extract rfl rfl rfl w₁) ?_
      walk_nrm
      refine BW.rend ?_
      refine BW.seq ?_
      refine BW.cond (t := false) rfl ?_
      simp only [Bool.false_eq_true, if_false]
      refine BW.ctl rfl (fun _ => stepG_exit rfl) ?_
      refine BW.seq ?_
      refine BW.region ?_
      simp only [List.size_toArray, List.length_cons, List.length_nil, Nat.reduceAdd, Nat.zero_add, List.range']
      refine BW.move rfl rfl (by decide) (.inl rfl) ?_
      walk_nrm
      refine BW.move rfl rfl (by decide) (.inl rfl) ?_
      walk_nrm
      refine BW.still1 rfl rfl (by decide) _ (fun w₁ => rn_len rfl rfl Try.underlying22 w₁) ?_
      walk_nrm
      refine BW.still1 rfl rfl (by decide) _ (fun w₁ => rn_rem rfl rfl rfl Try.underlying3 hlim w₁) ?_
      walk_nrm
      refine BW.move rfl rfl (by decide) (.inr rfl) ?_
      walk_nrm
      refine BW.move rfl rfl (by decide) (.inr rfl) ?_
      walk_nrm
      refine BW.rend ?_
      refine BW.ret ?_
      refine BW.leave rfl rfl Try.func6 (fun w => results_tmp2 rfl _ _ w) (fun w => events_results_tmp2 rfl _ _) ?_
      rw [hfin]
      exact hn _ _ ⟨x', cp', rfl, own_base hr.own (by omega), Bel.of hr.bel⟩
end
end Cc
end Go.Proofs.Ytbioidbbijmnjaa
