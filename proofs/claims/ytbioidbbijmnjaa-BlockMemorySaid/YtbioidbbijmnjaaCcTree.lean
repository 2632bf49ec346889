/-
  CcTree: a lone contract that holds on every tape is a tree of steps, whatever the count of draws between them.
-/
import Derived.Test.YtbioidbbijmnjaaCcRun
namespace Go.Proofs.Ytbioidbbijmnjaa
set_option linter.unusedVariables false
set_option linter.unusedSimpArgs false
open Go.Conc
namespace Cc
inductive Tree (P : Program) (Q : Frame → World → Prop) : Frame → List Frame → World → Prop
  | stop (fr : Frame) (w : World) (h : OkR P fr) (hq : ∀ d, Q fr (w.at d)) : Tree P Q fr [] w
  | step (fr : Frame) (cs : List Frame) (w : World) (n : Nat → Nat) (fr' : Nat → Frame) (cs' : Nat → List Frame) (w' : Nat → World) (es : Nat → Array Event) (h : ∀ d, Goes1 P fr cs (w.at d) (n d) (fr' d) (cs' d) (w' d) (es d)) (ht : ∀ d, Tree P Q (fr' d) (cs' d) (w' d)) : Tree P Q fr cs w
theorem Tree.step' {P : Program} {Q : Frame → World → Prop} {fr : Frame} {cs : List Frame} {w : World} (h : ∀ d, ∃ n fr' cs' w' es, Goes1 P fr cs (w.at d) n fr' cs' w' es ∧ Tree P Q fr' cs' w') : Tree P Q fr cs w := by
  have h' : ∀ d, ∃ r : Nat × Frame × List Frame × World × Array Event, Goes1 P fr cs (w.at d) r.1 r.2.1 r.2.2.1 r.2.2.2.1 r.2.2.2.2 ∧ Tree P Q r.2.1 r.2.2.1 r.2.2.2.1 := fun d => by
    obtain ⟨n, fr', cs', w', es, h1, h2⟩ := h d
    exact ⟨(n, fr', cs', w', es), h1, h2⟩
  obtain ⟨g, hg⟩ := Classical.skolem.1 h'
  exact .step fr cs w (fun d => (g d).1) (fun d => (g d).2.1) (fun d => (g d).2.2.1) (fun d => (g d).2.2.2.1) (fun d => (g d).2.2.2.2) (fun d => (hg d).1) (fun d => (hg d).2)
abbrev St := Frame × List Frame × World
section
variable (P : Program) (L : List FuncId) (Q : Frame → World → Prop) (T0 : Nat → Question → Nat)
def Final (s : St) : Prop := s.2.1 = [] ∧ OkR P s.1
structure Stuck (s : St) : Prop where
  fr : OkF P L s.1 ∨ OkR P s.1
  cs : ∀ c ∈ s.2.1, OkF P L c
  tape : s.2.2.tape = T0
  no : ¬ Tree P Q s.1 s.2.1 s.2.2
def Spec (x : {s // Stuck P L Q T0 s}) (r : Nat × Nat × Option {s // Stuck P L Q T0 s}) : Prop :=
  match r.2.2 with
  | some y => ¬ Final P x.1 ∧ ∃ es, Goes1 P x.1.1 x.1.2.1 (x.1.2.2.at r.1) r.2.1 y.1.1 y.1.2.1 y.1.2.2 es
  | none => (Final P x.1 ∧ ¬ Q x.1.1 (x.1.2.2.at r.1)) ∨
      (¬ Final P x.1 ∧ ((∃ fr' w' es, Goes1 P x.1.1 x.1.2.1 (x.1.2.2.at r.1) r.2.1 fr' x.1.2.1 w' es ∧ Pan P fr') ∨
        ∀ B τ d, (∀ i, i < r.2.1 → τ (d + i) = (x.1.2.2.at r.1).tape ((x.1.2.2.at r.1).drawn + i)) → ∃ o w' es, stepG P true (G x.1.1 (x.1.2.1 ++ B)) (tp (x.1.2.2.at r.1) τ d) = .ended o w' es))
end
section
variable {P : Program} {L : List FuncId} {Q : Frame → World → Prop} {T0 : Nat → Question → Nat}
theorem mode_F (fn : FuncId) (tmps : Array Value) (todo : List Item) : (F fn tmps todo).mode = .run := rfl
theorem spec_ex (hP : OkProg P L) (x : {s // Stuck P L Q T0 s}) : ∃ r, Spec P L Q T0 x r := by
  obtain ⟨⟨fr, cs, w⟩, hx⟩ := x
  obtain ⟨h1, h2, h3, h4⟩ := hx
  simp only at h1 h2 h3 h4
  by_cases hf : Final P (fr, cs, w)
  · obtain ⟨hc, hr⟩ := hf
    simp only at hc hr
    subst hc
    have : ¬ ∀ d, Q fr (w.at d) := fun hq => h4 (.stop fr w hr hq)
    obtain ⟨d, hd⟩ := Classical.not_forall.1 this
    exact ⟨(d, 0, none), .inl ⟨⟨rfl, hr⟩, hd⟩⟩
  · have hst : ¬ ∀ d, ∃ n fr' cs' w' es, Goes1 P fr cs (w.at d) n fr' cs' w' es ∧ Tree P Q fr' cs' w' := fun h => h4 (Tree.step' h)
    obtain ⟨d, hd⟩ := Classical.not_forall.1 hst
    have hs : Step1 P L fr cs (w.at d) := by
      rcases h1 with ⟨fn, tmps, todo, rfl, hfn, hi⟩ | ⟨fn, tmps, todo, rfl, hfn⟩
      · exact run_step hP hfn hi h2
      · cases cs with
        | nil => exact absurd ⟨rfl, fn, tmps, todo, rfl, hfn⟩ hf
        | cons c cs => exact ret_step hfn h2
    cases hs with
    | go n fr' cs' w' es hg k1 k2 =>
      refine ⟨(d, n, some ⟨(fr', cs', w'), ⟨k1, k2, ?_, fun ht => hd ⟨n, fr', cs', w', es, hg, ht⟩⟩⟩), hf, es, hg⟩
      exact hg.tape.trans h3
    | panic n fr' w' es hg k1 => exact ⟨(d, n, none), .inr ⟨hf, .inl ⟨fr', w', es, hg, k1⟩⟩⟩
    | ended n h => exact ⟨(d, n, none), .inr ⟨hf, .inr h⟩⟩
/-- the tape along a path -/
theorem tape_ex (n d : Nat → Nat) : ∃ (D : Nat → Nat) (τ : Nat → Question → Nat), D 0 = 0 ∧ (∀ k, D (k + 1) = D k + n k) ∧ ∀ k i, i < n k → τ (D k + i) = T0 (d k + i) := by
  let D : Nat → Nat := fun k => Nat.rec 0 (fun k a => a + n k) k
  have hD : ∀ k, D (k + 1) = D k + n k := fun k => rfl
  have mono : ∀ k j, k ≤ j → D k ≤ D j := by
    intro k j h
    induction h with
    | refl => exact Nat.le_refl _
    | step _ ih => rw [hD]; omega
  classical
  refine ⟨D, fun x => if h : ∃ k, D k ≤ x ∧ x < D (k + 1) then T0 (d h.choose + (x - D h.choose)) else T0 x, rfl, hD, fun k i hi => ?_⟩
  have hex : ∃ j, D j ≤ D k + i ∧ D k + i < D (j + 1) := ⟨k, by omega, by rw [hD]; omega⟩
  have huni : hex.choose = k := by
    obtain ⟨h1, h2⟩ := hex.choose_spec
    rcases Nat.lt_trichotomy hex.choose k with h | h | h
    · have := mono (hex.choose + 1) k h; omega
    · exact h
    · have := mono (k + 1) hex.choose h; rw [hD] at this; omega
  dsimp only
  rw [dif_pos hex, huni, Nat.add_sub_cancel_left]
theorem final_leaves {f : FuncId} {fn : Func} {tmps : Array Value} {w : World} {v : Value} (h : (results fn tmps).run P w = .ok v w) : ∀ τ d, (results fn tmps).run P (tp w τ d) = .ok v (tp w τ d) := by
  intro τ d
  obtain ⟨n, r, es', hr⟩ := ok_run (ok_results (P := P) fn tmps) w #[]
  have h1 : ((results fn tmps).runT P w #[]).1 = .ok v w := by rw [Sem.runT_fst]; exact h
  rw [hr.eq] at h1
  simp only at h1
  subst h1
  have hn : n = 0 := by have := hr.drawn; simp only [rw] at this; omega
  subst hn
  have h2 := hr.nat τ d (fun i hi => by omega)
  have h3 : ((results fn tmps).runT P (tp w τ d) #[]).1 = .ok v (tp w τ d) := by rw [h2]; rfl
  rw [Sem.runT_fst] at h3
  exact h3
end
/-- ████ the transfer ████ -/
theorem tree_of_comes {P : Program} {L : List FuncId} (hP : OkProg P L) {fr0 : Frame} {w : World} (h0 : OkF P L fr0) {Rr : Value → World → Prop}
    (hC : ∀ τ d, ∃ v w' fr, Rr v w' ∧ Steps P (lone fr0 [c0] (tp w τ d)) (lone fr [c0] w') ∧ fr.leaving P w' (.returned v) ∧ fr.fn = fr0.fn) (hR : ∀ v w' τ d, Rr v w' → Rr v (tp w' τ d)) :
    Tree P (fun fr w' => ∃ fn v, P.funcs[fr.fn]? = some fn ∧ (results fn fr.tmps).run P w' = .ok v w' ∧ Rr v w' ∧ fr.fn = fr0.fn) fr0 [] w := by
  apply Classical.byContradiction
  intro hno
  let Q : Frame → World → Prop := fun fr w' => ∃ fn v, P.funcs[fr.fn]? = some fn ∧ (results fn fr.tmps).run P w' = .ok v w' ∧ Rr v w' ∧ fr.fn = fr0.fn
  have hs0 : Stuck P L Q w.tape (fr0, [], w) := ⟨.inl h0, by simp, rfl, hno⟩
  obtain ⟨g, hg⟩ := Classical.skolem.1 (fun x : {s // Stuck P L Q w.tape s} => spec_ex hP x)
  let p : Nat → Option {s // Stuck P L Q w.tape s} := fun k => Nat.rec (some ⟨_, hs0⟩) (fun _ o => o.bind fun x => (g x).2.2) k
  have hp0 : p 0 = some ⟨_, hs0⟩ := rfl
  have hp1 : ∀ k, p (k + 1) = (p k).bind fun x => (g x).2.2 := fun k => rfl
  obtain ⟨D, τ, hD0, hD, hτ⟩ := tape_ex (T0 := w.tape) (fun k => ((p k).map fun x => (g x).2.1).getD 0) (fun k => ((p k).map fun x => (g x).1).getD 0)
  have hagree : ∀ k x, p k = some x → ∀ i, i < (g x).2.1 → τ (D k + i) = (x.1.2.2.at (g x).1).tape ((x.1.2.2.at (g x).1).drawn + i) := by
    intro k x hk i hi
    have h1 := hτ k i (by simp only [hk, Option.map_some, Option.getD_some]; exact hi)
    simp only [hk, Option.map_some, Option.getD_some] at h1
    rw [h1]
    exact (congrFun x.2.tape ((g x).1 + i)).symm
  have hA : ∀ k x, p k = some x → runN P k (lone fr0 [c0] (tp w τ 0)) = .next (lone x.1.1 (x.1.2.1 ++ [c0]) (tp x.1.2.2 τ (D k))) := by
    intro k
    induction k with
    | zero =>
      intro x hk
      rw [hp0] at hk
      cases hk
      rw [hD0]
      rfl
    | succ k ih =>
      intro y hk
      rw [hp1] at hk
      cases hpk : p k with
      | none => rw [hpk] at hk; cases hk
      | some x =>
        rw [hpk] at hk
        simp only [Option.bind_some] at hk
        have hsp := hg x
        unfold Spec at hsp
        rw [hk] at hsp
        obtain ⟨_, es, hgo⟩ := hsp
        have hst := hgo.eq [c0] τ (D k) (hagree k x hpk)
        have hDk : D (k + 1) = D k + (g x).2.1 := by rw [hD]; simp only [hpk, Option.map_some, Option.getD_some]
        rw [runN_add, ih x hpk, hDk]
        simp only [runN]
        have := step_of hst
        rw [show tp (x.1.2.2.at (g x).1) τ (D k) = tp x.1.2.2 τ (D k) from rfl] at this
        rw [this]
  obtain ⟨v, w', fr, hRr, hcomes, hleave, hfn0⟩ := hC τ 0
  obtain ⟨N, hN⟩ := hcomes
  obtain ⟨hm, hdf, hkd, fn, hfn2, hres⟩ := hleave
  cases hpN : p N with
  | some x =>
    have h1 := hA N x hpN
    rw [hN] at h1
    simp only [Stepped.next.injEq] at h1
    obtain ⟨e1, e2, e3⟩ := lone_inj h1
    have hcs : x.1.2.1 = [] := by
      cases hx : x.1.2.1 with
      | nil => rfl
      | cons a l => rw [hx] at e2; simp at e2
    have hok : OkR P x.1.1 := by
      rcases x.2.fr with ⟨fn, tmps, todo, h, _⟩ | h
      · rw [e1, h] at hm; cases hm
      · exact h
    have hfin : Final P x.1 := ⟨hcs, hok⟩
    have hsp := hg x
    unfold Spec at hsp
    cases hn : (g x).2.2 with
    | some y => rw [hn] at hsp; exact hsp.1 hfin
    | none =>
      rw [hn] at hsp
      rcases hsp with ⟨_, hq⟩ | ⟨h, _⟩
      · refine hq ⟨fn, v, by rw [← e1]; exact hfn2, ?_, ?_⟩
        · have := final_leaves (f := 0) hres x.1.2.2.tape (g x).1
          rw [← e1, e3] at *
          exact this
        · have := hR v w' x.1.2.2.tape (g x).1 hRr
          rw [e3] at this
          exact ⟨this, by rw [← e1]; exact hfn0⟩
      · exact h hfin
  | none =>
    -- the path has ended ahead of N
    have hlast : ∃ k x, k < N ∧ p k = some x ∧ (g x).2.2 = none := by
      have : ∀ M, p M = none → ∃ k x, k < M ∧ p k = some x ∧ (g x).2.2 = none := by
        intro M
        induction M with
        | zero => intro h; rw [hp0] at h; cases h
        | succ M ih =>
          intro h
          cases hpM : p M with
          | none => obtain ⟨k, x, h1, h2⟩ := ih hpM; exact ⟨k, x, by omega, h2⟩
          | some x => rw [hp1, hpM] at h; exact ⟨M, x, by omega, hpM, h⟩
      exact this N hpN
    obtain ⟨k, x, hkN, hpk, hgx⟩ := hlast
    have hk := hA k x hpk
    obtain ⟨M, rfl⟩ : ∃ M, N = k + (M + 1) := ⟨N - k - 1, by omega⟩
    rw [runN_add, hk] at hN
    simp only [runN] at hN
    have hsp := hg x
    unfold Spec at hsp
    rw [hgx] at hsp
    have hag := hagree k x hpk
    rcases hsp with ⟨⟨hcs, fn', tmps, todo, hfr, hfi⟩, _⟩ | ⟨hnf, ⟨fr', w'', es, hgo, hpan⟩ | hend⟩
    · obtain ⟨n, hret⟩ := ret_any (P := P) (tmps := tmps) (todo := todo) (w := tp x.1.2.2 τ (D k)) hfi
      rw [hcs, hfr] at hN
      rcases hret with ⟨v', w'', es, _, _, _, _, h5⟩ | h5
      · have := step_of (h5 c0 [] τ (D k) (fun i _ => rfl))
        rw [tp_tp] at this
        simp only [List.nil_append] at hN
        rw [this] at hN
        exact nofin_c0 v' _ M fr w' hN hm
      · obtain ⟨o, w'', es, h6⟩ := h5 c0 [] τ (D k) (fun i _ => rfl)
        rw [tp_tp] at h6
        simp only [List.nil_append] at hN
        rw [step_end_of h6] at hN
        cases hN
    · have := step_of (hgo.eq [c0] τ (D k) hag)
      rw [show tp (x.1.2.2.at (g x).1) τ (D k) = tp x.1.2.2 τ (D k) from rfl] at this
      rw [this] at hN
      exact nofin_pan hpan x.2.cs M fr w' hN hm
    · obtain ⟨o, w'', es, h6⟩ := hend [c0] τ (D k) hag
      rw [show tp (x.1.2.2.at (g x).1) τ (D k) = tp x.1.2.2 τ (D k) from rfl] at h6
      rw [step_end_of h6] at hN
      cases hN
theorem tree_of_calls {P : Program} {L : List FuncId} (hP : OkProg P L) {f : FuncId} {args : Array Value} {w : World} (hf : okFun P L f = true) {Rr : Value → World → Prop}
    (hC : ∀ τ d, Calls P f args (tp w τ d) fun e w' => ∃ v, e = .returned v ∧ Rr v w') (hR : ∀ v w' τ d, Rr v w' → Rr v (tp w' τ d)) :
    Tree P (fun fr w' => ∃ fn v, P.funcs[fr.fn]? = some fn ∧ (results fn fr.tmps).run P w' = .ok v w' ∧ Rr v w' ∧ fr.fn = (Frame.enter P f args .normal).fn) (Frame.enter P f args .normal) [] w :=
  tree_of_comes hP (enter_F hP hf args) (fun τ d => by
    obtain ⟨e, w', fr, ⟨v, rfl, hRr⟩, hcomes, hfn, hleave⟩ := hC τ d [c0]
    exact ⟨v, w', fr, hRr, hcomes, hleave, hfn.trans rfl⟩) hR
/-- the same of what is left of a function's text -/
theorem tree_of_wp {P : Program} {L : List FuncId} (hP : OkProg P L) {f : FuncId} {fn : Func} {c : Code} {tmps : Array Value} {w : World} (hf : P.funcs[f]? = some fn) (hc : okCode P L c = true) {Rr : Value → World → Prop}
    (hC : ∀ τ d, c.wp P (bodyPost P fn fun e w' => ∃ v, e = .returned v ∧ Rr v w') { tmps, defers := [] } (tp w τ d)) (hR : ∀ v w' τ d, Rr v w' → Rr v (tp w' τ d)) :
    Tree P (fun fr w' => ∃ fn v, P.funcs[fr.fn]? = some fn ∧ (results fn fr.tmps).run P w' = .ok v w' ∧ Rr v w' ∧ fr.fn = f) (F f tmps [.code c]) [] w :=
  tree_of_comes hP ⟨f, tmps, [.code c], rfl, by rw [hf]; rfl, fun x hx => by rw [List.mem_singleton] at hx; subst hx; exact hc⟩ (fun τ d => by
    obtain ⟨e, a', w', hq, harr⟩ := hC τ d (F f #[] []) [] [c0]
    cases e with
    | normal =>
      obtain ⟨hd, v, hr, v', hv, hR⟩ := hq
      cases hv
      exact ⟨v, w', _, hR, Steps.trans harr (.one step_end), ⟨rfl, hd, rfl, fn, hf, hr⟩, rfl⟩
    | ret =>
      obtain ⟨hd, v, hr, v', hv, hR⟩ := hq
      cases hv
      obtain ⟨todo, hs⟩ := harr
      exact ⟨v, w', _, hR, hs, ⟨rfl, hd, rfl, fn, hf, hr⟩, rfl⟩
    | panic chain => obtain ⟨_, v, h, _⟩ := hq; cases h
    | exit id => exact hq.elim
    | goto l => exact hq.elim
    | outgrown => obtain ⟨v, h, _⟩ := hq; cases h) hR
end Cc
end Go.Proofs.Ytbioidbbijmnjaa
