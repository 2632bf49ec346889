/-
  CcCode: goroutine 0's way through its own text, between frames: moves of control, operations, calls, and the text's end.
-/
import Derived.Test.YtbioidbbijmnjaaCcBW
import Derived.Conc.Own5
namespace Go.Proofs.Ytbioidbbijmnjaa
set_option linter.unusedVariables false
set_option linter.unusedSimpArgs false
open Go.Conc
namespace Cc
section
variable {P : Program} {L : List FuncId} {w : World} {Φ : Goroutine → World → Prop} {b : Frame} {a : Act} {k : List Item} {cs : List Frame}
theorem BW.ctl {g g' : Goroutine} (hr : g.status = .running) (h : ∀ w, stepG P true g w = .go g' w #[]) (hn : BW P g' w Φ) : BW P g w Φ :=
  BW.step hr fun d => ⟨g', w.at d, #[], h _, Nat.le_refl _, by simp, hn.at d⟩
theorem BW.seq {x y : Code} (h : BW P (G (b.at a (.code x :: .code y :: k)) cs) w Φ) : BW P (G (b.at a (.code (.seq x y) :: k)) cs) w Φ := .ctl rfl (fun _ => stepG_seq) h
theorem BW.skip (h : BW P (G (b.at a k) cs) w Φ) : BW P (G (b.at a (.code .skip :: k)) cs) w Φ := .ctl rfl (fun _ => stepG_skip) h
theorem BW.cond {c : Operand} {x y : Code} {t : Bool} (hc : a.eval c = .bool t) (h : BW P (G (b.at a (.code (if t then x else y) :: k)) cs) w Φ) : BW P (G (b.at a (.code (.cond c x y) :: k)) cs) w Φ := .ctl rfl (fun _ => stepG_cond hc) h
theorem BW.region {id : Nat} {ops : Array Oper} (h : BW P (G (b.at a (.inRegion ops (List.range' 0 ops.size) :: k)) cs) w Φ) : BW P (G (b.at a (.code (.region id ops false) :: k)) cs) w Φ := .ctl rfl (fun _ => by rw [stepG_region, List.range_eq_range']) h
theorem BW.rend {ops : Array Oper} (h : BW P (G (b.at a k) cs) w Φ) : BW P (G (b.at a (.inRegion ops [] :: k)) cs) w Φ := .ctl rfl (fun _ => stepG_region_end) h
/-- the same operations, carried out as the lone walk tells -/
theorem BW.opsAux {ops : Array Oper} {Q : Exit → Act → World → Prop} {Rr : Act → World → Prop} (hk : b.kind ≠ .early) (hP : OkProg P L) (hQ : ∀ e a w, Q e a w → e = .normal ∧ Rr a w) (hR : ∀ a w τ d, Rr a w → Rr a (tp w τ d)) {rest : List Nat} {T0 : Nat → Question → Nat}
    (hn : ∀ a' w', w'.tape = T0 → Rr a' w' → BW P (G (b.at a' (.inRegion ops rest :: k)) cs) w' Φ) :
    ∀ (l : List Oper) (i D : Nat) (h : Nat → Question → Nat) (a : Act) (w : World), w.tape = T0 → (∀ j, j < l.length → l[j]? = ops[i + j]?) → (∀ o ∈ l, okOp P [] o.op = true) → (∀ τ d, (∀ x, x < D → τ (d + x) = h x) → wpList P ops Q l a (tp w τ (d + D))) →
      BW P (G (b.at a (.inRegion ops (List.range' i l.length ++ rest) :: k)) cs) w Φ
  | [], i, D, h, a, w, hT, _, _, hw => by
    have h1 := (hQ _ _ _ (hw h 0 (fun x _ => by rw [Nat.zero_add]))).2
    have h2 := hR _ _ w.tape w.drawn h1
    rw [tp_tp, tp_self] at h2
    simpa using hn a w hT h2
  | o :: l, i, D, h, a, w, hT, hl, hok, hw => by
    have ho : ops[i]? = some o := by simpa using (hl 0 (by simp)).symm
    have hl' : ∀ j, j < l.length → l[j]? = ops[i + 1 + j]? := fun j hj => by
      have := hl (j + 1) (by simp; omega)
      simpa [Nat.add_assoc, Nat.add_comm 1 j] using this
    have hok' : ∀ o ∈ l, okOp P [] o.op = true := fun x hx => hok x (List.mem_cons_of_mem _ hx)
    simp only [List.length_cons, List.range'_succ, List.cons_append]
    by_cases hwt : Region.wanted o (yielded ops a.tmps) = true
    · refine BW.step rfl fun d => ?_
      obtain ⟨n, r, es', hr⟩ := ok_run (ok_execOp (P := P) (L := []) (ρ := a.eval) (o := o) (fun f => rfl) (hok o (by simp))) (w.at d) #[]
      have hlow := low_of hr.low
      have hrun : (execOp a.eval o).run P (w.at d) = r := by rw [← Sem.runT_fst, hr.eq]
      have hev : (execOp a.eval o).events P (w.at d) #[] = es' := by unfold Sem.events; rw [hr.eq]
      have hnat : ∀ (τ : Nat → Question → Nat) (e : Nat), (∀ x, x < n → τ (e + x) = w.tape (d + x)) → (execOp a.eval o).run P (tp w τ e) = tpR τ (e + n) r := fun τ e ht => by
        rw [← Sem.runT_fst]
        have := hr.nat τ e ht
        rw [show tp (w.at d) τ e = tp w τ e from rfl] at this
        rw [this]
      -- what the lone walk tells of the rest
      have hup : ∀ (τ : Nat → Question → Nat) (e : Nat), (∀ x, x < D → τ (e + x) = h x) → (∀ x, x < n → τ (e + D + x) = w.tape (d + x)) → o.upon P a (wpList P ops Q l) Q (tpR τ (e + D + n) r) := fun τ e h1 h2 => by
        have := hw τ e h1
        unfold wpList at this
        rw [if_pos hwt] at this
        rcases this with h3 | ⟨_, x, y, h3⟩
        · unfold Oper.wp at h3
          rw [hnat τ (e + D) h2] at h3
          exact h3
        · have := (hQ _ _ _ h3).1; cases this
      let h' : Nat → Question → Nat := fun x => if x < D then h x else w.tape (d + (x - D))
      have hsplit : ∀ (τ : Nat → Question → Nat) (e : Nat), (∀ x, x < D + n → τ (e + x) = h' x) → (∀ x, x < D → τ (e + x) = h x) ∧ ∀ x, x < n → τ (e + D + x) = w.tape (d + x) := fun τ e ht => by
        refine ⟨fun x hx => ?_, fun x hx => ?_⟩
        · rw [ht x (by omega)]; simp [h', hx]
        · rw [Nat.add_assoc, ht (D + x) (by omega)]
          simp only [h']
          rw [if_neg (by omega), show D + x - D = x by omega]
      have hex : ∀ x, x < D + n → (fun y => h' y) (0 + x) = h' x := fun x _ => by rw [Nat.zero_add]
      cases r with
      | ok nx w' =>
        have hg := hr.good nx w' rfl
        cases nx with
        | value v =>
          refine ⟨_, w', seen P b.fn es', ?_, hr.size, seen_low hlow, BW.opsAux hk hP hQ hR hn l (i + 1) (D + n) h' (a.put o.dst v) w' (hr.tape.trans hT) hl' hok' fun τ e ht => ?_⟩
          · rw [stepG_value ho hwt hk hrun]; unfold listed; rw [hev]
          · have := hsplit τ e ht
            have := hup τ e this.1 this.2
            rw [Nat.add_assoc] at this
            exact this
        | skip =>
          refine ⟨_, w', seen P b.fn es', ?_, hr.size, seen_low hlow, BW.opsAux hk hP hQ hR hn l (i + 1) (D + n) h' (a.put o.dst undef) w' (hr.tape.trans hT) hl' hok' fun τ e ht => ?_⟩
          · rw [stepG_none ho hwt hk hrun]; unfold listed; rw [hev]
          · have := hsplit τ e ht
            have := hup τ e this.1 this.2
            rw [Nat.add_assoc] at this
            exact this
        | enter f args => simp [OutN, okFun] at hg
        | _ => exact hg.elim
      | halt x w' =>
        have h1 := hsplit (fun y => h' y) 0 hex
        have h2 := hup (fun y => h' y) 0 h1.1 h1.2
        cases x with
        | panic v => have := (hQ _ _ _ h2).1; cases this
        | _ => exact h2.elim
    · have hwf : Region.wanted o (yielded ops a.tmps) = false := by simpa using hwt
      refine BW.ctl rfl (fun _ => stepG_unwanted ho hwf) (BW.opsAux hk hP hQ hR hn l (i + 1) D h (a.put o.dst undef) w hT hl' hok' fun τ d ht => ?_)
      have := hw τ d ht
      unfold wpList at this
      rw [if_neg hwt] at this
      exact this
theorem BW.ops {ops : Array Oper} {Rr : Act → World → Prop} {rest : List Nat} (l : List Oper) (i : Nat) (hk : b.kind ≠ .early) (hP : OkProg P L) (hl : ∀ j, j < l.length → l[j]? = ops[i + j]?) (hok : (l.all fun o => okOp P [] o.op) = true)
    (hw : ∀ τ d, wpList P ops (fun e a w => e = .normal ∧ Rr a w) l a (tp w τ d)) (hR : ∀ a w τ d, Rr a w → Rr a (tp w τ d))
    (hn : ∀ a' w', Rr a' w' → BW P (G (b.at a' (.inRegion ops rest :: k)) cs) w' Φ) : BW P (G (b.at a (.inRegion ops (List.range' i l.length ++ rest) :: k)) cs) w Φ :=
  BW.opsAux hk hP (fun _ _ _ h => h) hR (fun a' w' _ h => hn a' w' h) l i 0 (fun _ _ => 0) a w rfl hl (by simpa using hok) fun τ d _ => hw τ d
theorem wp_weak {o : Oper} {Q Q' : Exit → Act → World → Prop} {K K' : Act → World → Prop} (hq : ∀ e a w, Q e a w → Q' e a w) (h : ∀ a w, K a w → K' a w) (hh : o.wp P a w K Q) : o.wp P a w K' Q' := by
  unfold Oper.wp at *
  generalize (execOp a.eval o).run P w = r at *
  cases r with
  | ok n w' =>
    cases n <;> simp only [Oper.upon] at hh ⊢ <;>
      first
        | exact h _ _ hh
        | exact Calls.mono hh (fun e w'' he => by
            cases e with
            | returned v => exact h _ _ he
            | panicked ch => exact hq _ _ _ he
            | outgrown => obtain ⟨x, y, he⟩ := he; exact ⟨x, y, hq _ _ _ he⟩)
        | exact Rows.mono hh (fun _ _ he => h _ _ he)
  | halt x w' => cases x <;> simp only [Oper.upon] at hh ⊢ <;> first | exact hq _ _ _ hh | exact hh
theorem wpList_weak {ops : Array Oper} {Q Q' : Exit → Act → World → Prop} (hq : ∀ e a w, Q e a w → Q' e a w) : ∀ (l : List Oper) (a : Act) (w : World), wpList P ops Q l a w → wpList P ops Q' l a w
  | [], a, w, h => hq _ _ _ h
  | o :: l, a, w, h => by
    unfold wpList at h ⊢
    split
    · rename_i hw
      rw [if_pos hw] at h
      rcases h with h | ⟨h1, x, y, h2⟩
      · exact .inl (wp_weak hq (wpList_weak hq l) h)
      · exact .inr ⟨h1, x, y, hq _ _ _ h2⟩
    · rename_i hw
      rw [if_neg hw] at h
      exact wpList_weak hq l _ _ h
/-- the world stands -/
theorem BW.still {ops : Array Oper} {rest : List Nat} (a' : Act) (l : List Oper) (i : Nat) (hk : b.kind ≠ .early) (hP : OkProg P L) (hl : ∀ j, j < l.length → l[j]? = ops[i + j]?) (hok : (l.all fun o => okOp P [] o.op) = true)
    (hw : ∀ τ d, wpList P ops (fun e x y => e = .normal ∧ x = a' ∧ y = tp w τ d) l a (tp w τ d))
    (hn : BW P (G (b.at a' (.inRegion ops rest :: k)) cs) w Φ) : BW P (G (b.at a (.inRegion ops (List.range' i l.length ++ rest) :: k)) cs) w Φ := by
  refine BW.opsAux (Q := fun e x y => e = .normal ∧ x = a' ∧ ∃ τ d, y = tp w τ d) (Rr := fun x y => x = a' ∧ ∃ τ d, y = tp w τ d) hk hP (fun _ _ _ h => h) (fun x y τ d h => ⟨h.1, τ, d, by obtain ⟨_, τ', d', rfl⟩ := h; rfl⟩) (fun x y hT h => ?_) l i 0 (fun _ _ => 0) a w rfl hl (by simpa using hok) fun τ d _ => wpList_weak (fun e x y h => ⟨h.1, h.2.1, τ, d, h.2.2⟩) l a _ (hw τ d)
  obtain ⟨rfl, τ, d, rfl⟩ := h
  have hT' : τ = w.tape := hT
  subst hT'
  exact hn.at d
/-- a call of an ordinary function, by its lone contract -/
theorem BW.call {ops : Array Oper} {i : Nat} {rest : List Nat} {o : Oper} {f : FuncId} {fn : Func} {c : Code} {args : Array Operand} {ats : Array TypeId} {Rr : Value → World → Prop}
    (ho : ops[i]? = some o) (hw : Region.wanted o (yielded ops a.tmps) = true) (hk : b.kind ≠ .early) (hop : o.op = .call { callee := .value (.func f), args, argTypes := ats }) (hP : OkProg P L) (hL : okFun P L f = true) (hf : P.funcs[f]? = some fn) (hb : fn.body = some c)
    {vs : Array Value} (ha : args.map a.eval = vs) (hC : ∀ τ d, Calls P f vs (tp w τ d) fun e w' => ∃ v, e = .returned v ∧ Rr v w') (hR : ∀ v w' τ d, Rr v w' → Rr v (tp w' τ d))
    (hn : ∀ v w', Rr v w' → BW P (G (b.at (a.put o.dst v) (.inRegion ops rest :: k)) cs) w' Φ) : BW P (G (b.at a (.inRegion ops (i :: rest) :: k)) cs) w Φ := by
  subst ha
  have hname : (fn.name == "runtime.NumGoroutine") = false := by
    unfold okFun at hL
    rw [hf] at hL
    simp only [Bool.and_eq_true, bne_iff_ne, ne_eq] at hL
    simpa using hL.2.1
  have hfin : ∀ v, (b.at a (.inRegion ops (i :: rest) :: k)).finish v = b.at (a.put o.dst v) (.inRegion ops rest :: k) := fun v => by rw [Frame.finish_at, ho]; rfl
  have henter : Frame.enter P f (args.map a.eval) .normal = (base f).at { tmps := args.map a.eval ++ Array.replicate (fn.ntmps - (args.map a.eval).size) undef, defers := [] } [.code c] := by
    simp [Frame.enter, Frame.at, hf, hb, base]
  refine BW.ctl rfl (fun w => ?_) (g' := G (Frame.enter P f (args.map a.eval) .normal) (b.at a (.inRegion ops (i :: rest) :: k) :: cs)) ?_
  · have := goes_call (main := true) (w := w) (K := fun g' w' es => g' = G (Frame.enter P f (args.map a.eval) .normal) (b.at a (.inRegion ops (i :: rest) :: k) :: cs) ∧ w' = w ∧ es = #[]) (cs := cs) (k := k) (rest := rest) ho hw hk hop hf hname hb ⟨by rw [henter], rfl, rfl⟩
    obtain ⟨g', w', es, h1, rfl, rfl, rfl⟩ := goes_elim this
    exact h1
  · have ht := tree_of_calls hP hL hC hR
    refine BW.tree (cs := []) (base := b.at a (.inRegion ops (i :: rest) :: k) :: cs) ht fun fr' w' hok hq => ?_
    obtain ⟨g, tmps, todo, rfl, hg⟩ := hok
    refine BW.step rfl fun d => ?_
    obtain ⟨gn, v, hgn, hres, hRr, _⟩ := hq d
    obtain ⟨n, r, es', hr⟩ := ok_run (ok_results (P := P) gn tmps) (w'.at d) #[]
    have hlow := low_of hr.low
    have h1 : r = .ok v (w'.at d) := by
      have : ((results gn tmps).runT P (w'.at d) #[]).1 = .ok v (w'.at d) := by rw [Sem.runT_fst]; exact hres
      rw [hr.eq] at this
      exact this
    subst h1
    refine ⟨_, w'.at d, seen P g es', ?_, Nat.le_refl _, seen_low hlow, hn v _ hRr⟩
    rw [← hfin]
    have hun : stepG P true (G (R g tmps todo) (b.at a (.inRegion ops (i :: rest) :: k) :: cs)) (w'.at d) = unwind P true (R g tmps todo) (b.at a (.inRegion ops (i :: rest) :: k) :: cs) none (w'.at d) := by simp [stepG, R, G]
    rw [hun]
    have hgn' : P.funcs[g]? = some gn := hgn
    unfold unwind
    simp only [R, hgn', hr.eq]
    simp [GStep.after, doReturn, G]
/-- goroutine 0 stands at its return -/
def Ends (P : Program) (Post : Value → World → Prop) (g : Goroutine) (w : World) : Prop :=
  ∃ f tmps todo fn v, g = G (R f tmps todo) [] ∧ P.funcs[f]? = some fn ∧ P.inits.idxOf? f = none ∧ (∀ d, (results fn tmps).run P (w.at d) = .ok v (w.at d) ∧ Post v (w.at d))
/-- what is left of the text, as the lone walk tells -/
theorem BW.last {f : FuncId} {fn : Func} {c : Code} {tmps : Array Value} {Post : Value → World → Prop} (hP : OkProg P L) (hf : P.funcs[f]? = some fn) (hi : P.inits.idxOf? f = none) (hc : okCode P L c = true)
    (hC : ∀ τ d, c.wp P (bodyPost P fn fun e w' => ∃ v, e = .returned v ∧ Post v w') { tmps, defers := [] } (tp w τ d)) (hR : ∀ v w' τ d, Post v w' → Post v (tp w' τ d)) : BW P (G ((base f).at ⟨tmps, []⟩ [.code c]) []) w (Ends P Post) := by
  have ht := tree_of_wp (f := f) hP hf hc hC hR
  refine BW.tree (cs := []) (base := []) (fr := F f tmps [.code c]) ht fun fr' w' hok hq => .done fun d => ?_
  obtain ⟨g, tm, todo, rfl, _⟩ := hok
  obtain ⟨gn, v, hgn, hres, hv, hfn⟩ := hq 0
  have hfn' : g = f := hfn
  subst hfn'
  refine ⟨g, tm, todo, gn, v, rfl, hgn, hi, fun d' => ?_⟩
  have h1 := final_leaves (f := 0) hres w'.tape d'
  obtain ⟨gn', v', hgn', hres', hv', _⟩ := hq d'
  have hgn'' : P.funcs[g]? = some gn' := hgn'
  have hgn0 : P.funcs[g]? = some gn := hgn
  rw [hgn0] at hgn''
  cases hgn''
  have h2 : (results gn tm).run P (w'.at d') = .ok v (w'.at d') := h1
  have h3 : (results gn tm).run P (w'.at d') = .ok v' (w'.at d') := hres'
  rw [h2] at h3
  simp only [Result.ok.injEq, and_true] at h3
  subst h3
  exact ⟨h2, hv'⟩
/-- ████ from the entry to the end of the run, on every tape ████ -/
theorem BW.finish {g : Goroutine} {Post : Value → World → Prop} (h : BW P g w (Ends P Post)) :
    ∃ N last o w' t', runNT P (N + 1) (solo g w) #[] = (.ended o w', t') ∧ runN P N (solo g w) = .next last ∧ Go.step P last = .ended o w' ∧ Good P Post last o w' t' := by
  obtain ⟨N, m', t', hr, gs, a, w', sl', q', B', rfl, h0, ⟨f, tmps, todo, fn, v, rfl, hf, hi, hd⟩, hL, hP, hB⟩ := h w.drawn #[g] none #[] (fun _ => 0) w.heap.size (by simp) (leavers_one P g) ((past_nil).mono (Nat.zero_le _)) (Nat.le_refl _)
  have hend : ∀ d, ∃ es, stepG P true (G (R f tmps todo) []) (w'.at d) = .ended (.done v) (w'.at d) es ∧ ∀ e ∈ es, Low w'.heap.size e := fun d => by
    obtain ⟨n, r, es', hr⟩ := ok_run (ok_results (P := P) fn tmps) (w'.at d) #[]
    have hlow := low_of hr.low
    have h1 : r = .ok v (w'.at d) := by
      have : ((results fn tmps).runT P (w'.at d) #[]).1 = .ok v (w'.at d) := by rw [Sem.runT_fst]; exact (hd d).1
      rw [hr.eq] at this
      exact this
    subst h1
    refine ⟨seen P f es', ?_, seen_low hlow⟩
    have hun : stepG P true (G (R f tmps todo) []) (w'.at d) = unwind P true (R f tmps todo) [] none (w'.at d) := by simp [stepG, R, G]
    rw [hun]
    unfold unwind
    simp only [R, hf, hr.eq]
    simp [GStep.after, doReturn, hi]
  have hG : Goes P true AtRel (fun _ _ es => ∀ e ∈ es, EvL NoS B' e) (AtEnd P NoS B' Post) 0 (G (R f tmps todo) []) w' := fun w₁ hw₁ => by
    obtain ⟨d, rfl⟩ := hw₁
    obtain ⟨es, h1, h2⟩ := hend d
    exact ⟨rfl, v, es, h1, fun e he => low_evL (h2 e he) hB, (hd d).2⟩
  obtain ⟨M, last, o, w'', t'', h1, h2, h3, h4⟩ := beside_ends (sl := sl') (fun _ _ _ h => h) h0 hL hP hG
  have hr' : runNT P N (solo g w) #[] = (.next (crowd gs w' sl'), t') := hr
  refine ⟨N + M, last, o, w'', t'', ?_, ?_, h3, h4⟩
  · rw [Nat.add_assoc, runNT_add, hr']; exact h1
  · have e : runN P N (solo g w) = .next (crowd gs w' sl') := by rw [← runNT_fst _ _ _ #[], hr']
    rw [runN_add, e]; exact h2
end
end Cc
end Go.Proofs.Ytbioidbbijmnjaa
