/-
  CcRun: returns; panics that end the run; a lone contract, for every tape, as a tree of steps whatever the count of draws between them.
-/
import Derived.Test.YtbioidbbijmnjaaCcStep
import Derived.Laws.Sem
namespace Go.Proofs.Ytbioidbbijmnjaa
set_option linter.unusedVariables false
set_option linter.unusedSimpArgs false
open Go.Conc
namespace Cc
section
variable {P : Program} {L : List FuncId}
theorem ok_asAddr' (v : Value) : ok P T (asAddr v) := by
  unfold asAddr
  split
  · exact ok_pure _
  · exact ok_rtPanic _
  · exact ok_stuck _
theorem ok_mapML {α β : Type} {f : α → Sem β} (h : ∀ a, ok P T (f a)) : ∀ l : List α, ok P T (l.mapM f)
  | [] => by rw [List.mapM_nil]; exact ok_pure _
  | a :: l => by
    rw [List.mapM_cons]
    exact ok_bd (h a) fun b => ok_bd (ok_mapML h l) fun bs => ok_pure _
theorem ok_results (fn : Func) (tmps : Array Value) : ok P T (results fn tmps) := by
  unfold results
  rw [Array.mapM_eq_mapM_toList]
  refine ok_bd (ok_map (ok_mapML (fun r => ?_) _)) fun vs => ok_pure _
  cases r with
  | tmp t => exact ok_pure _
  | cell a t => exact ok_bd (ok_asAddr' _) fun a => ok_loadVar _ _
/-- a return, whatever the caller -/
theorem ret_any {fn : FuncId} {tmps : Array Value} {todo : List Item} {w : World} (hfn : (P.funcs[fn]?).isSome = true) :
    ∃ n, (∃ v w' es, w'.drawn = w.drawn + n ∧ w'.tape = w.tape ∧ w.heap.size ≤ w'.heap.size ∧ (∀ e ∈ es, Low w'.heap.size e) ∧ ∀ c B τ d, (∀ i, i < n → τ (d + i) = w.tape (w.drawn + i)) → stepG P true (G (R fn tmps todo) (c :: B)) (tp w τ d) = .go (G (c.finish v) B) (tp w' τ (d + n)) es) ∨
      (∀ c B τ d, (∀ i, i < n → τ (d + i) = w.tape (w.drawn + i)) → ∃ o w' es, stepG P true (G (R fn tmps todo) (c :: B)) (tp w τ d) = .ended o w' es) := by
  obtain ⟨f, hf⟩ := Option.isSome_iff_exists.1 hfn
  obtain ⟨n, r, es', hr⟩ := ok_run (ok_results (P := P) f tmps) w #[]
  have hlow := low_of hr.low
  have hun : ∀ c B w, stepG P true (G (R fn tmps todo) (c :: B)) w = unwind P true (R fn tmps todo) (c :: B) none w := fun c B w => by simp [stepG, R, G]
  refine ⟨n, ?_⟩
  cases r with
  | ok v w' =>
    refine .inl ⟨v, w', seen P fn es', hr.drawn, hr.tape, hr.size, seen_low hlow, fun c B τ d ht => ?_⟩
    have e : (results f tmps).runT P (tp w τ d) #[] = (.ok v (tp w' τ (d + n)), es') := hr.nat τ d ht
    rw [hun]
    unfold unwind
    simp only [R, hf, e]
    simp [GStep.after, doReturn, G]
  | halt h w' =>
    refine .inr fun c B τ d ht => ?_
    have e : (results f tmps).runT P (tp w τ d) #[] = (.halt h (tp w' τ (d + n)), es') := hr.nat τ d ht
    rw [hun]
    unfold unwind
    simp only [R, hf, e]
    cases h <;> exact ⟨_, _, _, rfl⟩
theorem ret_step {fn : FuncId} {tmps : Array Value} {todo : List Item} {c : Frame} {cs : List Frame} {w : World} (hfn : (P.funcs[fn]?).isSome = true) (hcs : ∀ x ∈ c :: cs, OkF P L x) : Step1 P L (R fn tmps todo) (c :: cs) w := by
  obtain ⟨n, h⟩ := ret_any (P := P) (tmps := tmps) (todo := todo) (w := w) hfn
  rcases h with ⟨v, w', es, h1, h2, h3, h4, h5⟩ | h
  · obtain ⟨g, t, k, rfl, hg, hk⟩ := hcs c (by simp)
    obtain ⟨t', k', e1, e2⟩ := finish_F (L := L) g t hk v
    exact .go n _ cs w' es ⟨fun B τ d ht => h5 _ _ τ d ht, h1, h2, h3, h4⟩ (.inl ⟨g, t', k', e1, hg, e2⟩) fun x hx => hcs x (by simp [hx])
  · exact .ended n fun B τ d ht => h _ _ τ d ht
/-- a panic goes to the caller -/
theorem pan_step {fr c : Frame} {B : List Frame} {w : World} (h : Pan P fr) : ∃ ch, stepG P true (G fr (c :: B)) w = .go (G (c.raise ch) B) w #[] := by
  obtain ⟨⟨ch, h1⟩, h2, h3⟩ := h
  obtain ⟨f, hf⟩ := Option.isSome_iff_exists.1 h3
  refine ⟨ch, ?_⟩
  obtain ⟨fn, tmps, todo, defers, mode, kind, ro⟩ := fr
  simp only at h1 h2 h3 hf
  subst h1 h2
  have hc : Frame.catches P { fn := fn, tmps := tmps, todo := todo, defers := [], mode := .panicking ch, kind := kind, roundOf := ro } = false := by
    unfold Frame.catches
    simp only [hf]
  simp [stepG, G, unwind, hc]
theorem raise_pan {c : Frame} (h : OkF P L c) (ch : List PanicEntry) : Pan P (c.raise ch) := by
  obtain ⟨fn, tmps, todo, rfl, h1, _⟩ := h
  exact ⟨⟨ch, rfl⟩, rfl, h1⟩
/-- the lone run's caller: a return to it, a panic to it end the run -/
def c0 : Frame := { fn := 0, tmps := #[], todo := [.code (.refuse "")], defers := [{ target := .nil, args := #[] }], mode := .run, kind := .normal }
theorem step_of {fr fr' : Frame} {cs cs' : List Frame} {w w' : World} {es : Array Event} (h : stepG P true (G fr cs) w = .go (G fr' cs') w' es) : step P (lone fr cs w) = .next (lone fr' cs' w') :=
  step_lone_go (by rw [show ({ frame := fr, callers := cs, status := .running, dying := none } : Goroutine) = G fr cs from rfl, h]; rfl)
theorem step_end_of {fr : Frame} {cs : List Frame} {w w' : World} {o : Outcome} {es : Array Event} (h : stepG P true (G fr cs) w = .ended o w' es) : step P (lone fr cs w) = .ended o w' :=
  step_lone_ended (by rw [show ({ frame := fr, callers := cs, status := .running, dying := none } : Goroutine) = G fr cs from rfl, h]; rfl)
/-- from here the lone run does not come back to the contract's end -/
def NoFin (P : Program) (m : Machine) : Prop := ∀ N fr w', runN P N m = .next (lone fr [c0] w') → fr.mode = .returning → False
theorem lone_inj {fr fr' : Frame} {cs cs' : List Frame} {w w' : World} (h : lone fr cs w = lone fr' cs' w') : fr = fr' ∧ cs = cs' ∧ w = w' := by
  simp only [lone, Machine.mk.injEq, Array.mk.injEq, List.cons.injEq, Goroutine.mk.injEq, and_true] at h
  exact ⟨h.2.1, h.2.2, h.1⟩
theorem nofin_step {fr : Frame} {cs : List Frame} {w : World} {m : Machine} (hne : cs ≠ [c0] ∨ fr.mode ≠ .returning) (h : step P (lone fr cs w) = .next m) (hm : NoFin P m) : NoFin P (lone fr cs w) := by
  intro N fr' w' hN hr
  cases N with
  | zero =>
    simp only [runN, Stepped.next.injEq] at hN
    obtain ⟨rfl, rfl, _⟩ := lone_inj hN
    rcases hne with h | h
    · exact h rfl
    · exact h hr
  | succ N =>
    simp only [runN, h] at hN
    exact hm N fr' w' hN hr
theorem nofin_end {fr : Frame} {cs : List Frame} {w w' : World} {o : Outcome} (hne : cs ≠ [c0] ∨ fr.mode ≠ .returning) (h : step P (lone fr cs w) = .ended o w') : NoFin P (lone fr cs w) := by
  intro N fr' w' hN hr
  cases N with
  | zero =>
    simp only [runN, Stepped.next.injEq] at hN
    obtain ⟨rfl, rfl, _⟩ := lone_inj hN
    rcases hne with h | h
    · exact h rfl
    · exact h hr
  | succ N => simp only [runN, h] at hN; cases hN
theorem nofin_c0 (v : Value) (w : World) : NoFin P (lone (c0.finish v) [] w) := by
  refine nofin_end (.inl (by simp)) (step_end_of (es := #[]) (o := .unsupported (.elab "") ((c0.finish v).pos P)) (w' := w) ?_)
  simp [stepG, stepG.exec, G, c0, Frame.finish]
theorem nofin_c0p (ch : List PanicEntry) (w : World) : NoFin P (lone (c0.raise ch) [] w) := by
  refine nofin_end (.inl (by simp)) (step_end_of (es := #[]) (o := .unsupported (.noEntry "machine/Return: a deferred call of a nil function value, made while the frame is unwinding") (({ c0 with mode := .panicking ch, defers := [] } : Frame).pos P)) (w' := w) ?_)
  simp [stepG, G, c0, Frame.raise, unwind, callDeferred]
theorem nofin_pan {w : World} : ∀ {cs : List Frame} {fr : Frame}, Pan P fr → (∀ c ∈ cs, OkF P L c) → NoFin P (lone fr (cs ++ [c0]) w)
  | [], fr, h, _ => by
    obtain ⟨ch, hs⟩ := pan_step (c := c0) (B := []) (w := w) h
    refine nofin_step (.inr ?_) (step_of hs) (nofin_c0p ch w)
    obtain ⟨⟨ch, h1⟩, _⟩ := h
    rw [h1]; simp
  | c :: cs, fr, h, hcs => by
    obtain ⟨ch, hs⟩ := pan_step (c := c) (B := cs ++ [c0]) (w := w) h
    refine nofin_step (.inl (by simp)) (step_of hs) (nofin_pan (raise_pan (hcs c (by simp)) ch) fun x hx => hcs x (by simp [hx]))
end
end Cc
end Go.Proofs.Ytbioidbbijmnjaa
