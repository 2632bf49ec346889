/-
  CcStep: a step of an ordinary frame: it goes on, or panics, or ends the run: whatever the callers below, whatever the tape but for the answers taken.
-/
import Derived.Test.YtbioidbbijmnjaaCcTab
import Derived.Conc.Listed
namespace Go.Proofs.Ytbioidbbijmnjaa
set_option linter.unusedVariables false
set_option linter.unusedSimpArgs false
open Go.Conc
namespace Cc
def okCode (P : Program) (L : List FuncId) : Code → Bool
  | .skip | .exit _ | .label _ | .goto _ | .ret => true
  | .region _ ops _ => ops.all fun o => okOp P L o.op
  | .seq a b => okCode P L a && okCode P L b
  | .cond _ a b => okCode P L a && okCode P L b
  | .block _ a | .loop a | .scope a => okCode P L a
  | .rangeFunc .. | .refuse _ => false
def okItem (P : Program) (L : List FuncId) : Item → Bool
  | .code c | .inLoop c | .inScope c => okCode P L c
  | .inBlock _ => true
  | .inRegion ops _ => ops.all fun o => okOp P L o.op
  | _ => false
structure OkProg (P : Program) (L : List FuncId) : Prop where
  code : ∀ f, okFun P L f = true → ∀ fn c, P.funcs[f]? = some fn → fn.body = some c → okCode P L c = true
  step : ∀ g, P.stepOf g = none
/-- an ordinary frame, running -/
def F (fn : FuncId) (tmps : Array Value) (todo : List Item) : Frame := { fn, tmps, todo, defers := [], mode := .run, kind := .normal }
/-- .. at its return -/
def R (fn : FuncId) (tmps : Array Value) (todo : List Item) : Frame := { fn, tmps, todo, defers := [], mode := .returning, kind := .normal }
def Items (P : Program) (L : List FuncId) (todo : List Item) : Prop := ∀ x ∈ todo, okItem P L x = true
def OkF (P : Program) (L : List FuncId) (fr : Frame) : Prop := ∃ fn tmps todo, fr = F fn tmps todo ∧ (P.funcs[fn]?).isSome = true ∧ Items P L todo
def OkR (P : Program) (fr : Frame) : Prop := ∃ fn tmps todo, fr = R fn tmps todo ∧ (P.funcs[fn]?).isSome = true
def Pan (P : Program) (fr : Frame) : Prop := (∃ ch, fr.mode = .panicking ch) ∧ fr.defers = [] ∧ (P.funcs[fr.fn]?).isSome = true
structure Goes1 (P : Program) (fr : Frame) (cs : List Frame) (w : World) (n : Nat) (fr' : Frame) (cs' : List Frame) (w' : World) (es : Array Event) : Prop where
  eq : ∀ B τ d, (∀ i, i < n → τ (d + i) = w.tape (w.drawn + i)) → stepG P true (G fr (cs ++ B)) (tp w τ d) = .go (G fr' (cs' ++ B)) (tp w' τ (d + n)) es
  drawn : w'.drawn = w.drawn + n
  tape : w'.tape = w.tape
  size : w.heap.size ≤ w'.heap.size
  low : ∀ e ∈ es, Low w'.heap.size e
inductive Step1 (P : Program) (L : List FuncId) (fr : Frame) (cs : List Frame) (w : World) : Prop
  | go (n : Nat) (fr' : Frame) (cs' : List Frame) (w' : World) (es : Array Event) (h : Goes1 P fr cs w n fr' cs' w' es) (h1 : OkF P L fr' ∨ OkR P fr') (h2 : ∀ c ∈ cs', OkF P L c)
  | panic (n : Nat) (fr' : Frame) (w' : World) (es : Array Event) (h : Goes1 P fr cs w n fr' cs w' es) (h1 : Pan P fr')
  | ended (n : Nat) (h : ∀ B τ d, (∀ i, i < n → τ (d + i) = w.tape (w.drawn + i)) → ∃ o w' es, stepG P true (G fr (cs ++ B)) (tp w τ d) = .ended o w' es)
section
variable {P : Program} {L : List FuncId}
theorem items_cons {x : Item} {k : List Item} : Items P L (x :: k) ↔ okItem P L x = true ∧ Items P L k := by simp [Items]
theorem items_exit {id : Nat} : ∀ {k k' : List Item}, exitTo id k = some k' → Items P L k → Items P L k'
  | [], k', h, _ => by simp [exitTo] at h
  | x :: k, k', h, hk => by
    rw [items_cons] at hk
    cases x <;> simp only [exitTo] at h <;> first | exact items_exit h hk.2 | skip
    split at h
    · cases h; exact hk.2
    · exact items_exit h hk.2
theorem label_ok : ∀ {c : Code} {l : Nat} {r : Code}, findLabel c l = some r → okCode P L c = true → okCode P L r = true
  | .seq a b, l, r, h, hc => by
    simp only [okCode, Bool.and_eq_true] at hc
    simp only [findLabel] at h
    cases ha : findLabel a l with
    | some x => rw [ha] at h; cases h; simp only [okCode, Bool.and_eq_true]; exact ⟨label_ok ha hc.1, hc.2⟩
    | none => rw [ha] at h; exact label_ok h hc.2
  | .label m, l, r, h, hc => by
    simp only [findLabel] at h
    split at h
    · cases h; rfl
    · cases h
  | .skip, _, _, h, _ | .exit _, _, _, h, _ | .goto _, _, _, h, _ | .ret, _, _, h, _ | .region .., _, _, h, _ | .cond .., _, _, h, _ | .block .., _, _, h, _ | .loop _, _, _, h, _ | .scope _, _, _, h, _ | .rangeFunc .., _, _, h, _ | .refuse _, _, _, h, _ => by simp [findLabel] at h
theorem items_goto {l : Nat} : ∀ {k k' : List Item}, gotoIn l k = some k' → Items P L k → Items P L k'
  | [], k', h, _ => by simp [gotoIn] at h
  | x :: k, k', h, hk => by
    rw [items_cons] at hk
    cases x <;> simp only [gotoIn] at h <;> first | exact items_goto h hk.2 | skip
    rename_i body
    cases hb : findLabel body l with
    | none => rw [hb] at h; exact items_goto h hk.2
    | some r =>
      rw [hb] at h; cases h
      rw [items_cons, items_cons]
      exact ⟨label_ok hb hk.1, hk.1, hk.2⟩
theorem finish_F (fn : FuncId) (tmps : Array Value) {todo : List Item} (h : Items P L todo) (v : Value) : ∃ tmps' todo', (F fn tmps todo).finish v = F fn tmps' todo' ∧ Items P L todo' := by
  cases todo with
  | nil => exact ⟨tmps, [], rfl, h⟩
  | cons x k =>
    have hh := items_cons.1 h
    cases x with
    | inRegion ops l =>
      cases l with
      | nil => exact ⟨tmps, _, rfl, h⟩
      | cons i l => exact ⟨_, .inRegion ops l :: k, rfl, items_cons.2 ⟨hh.1, hh.2⟩⟩
    | code c => exact ⟨tmps, _, rfl, h⟩
    | inBlock id => exact ⟨tmps, _, rfl, h⟩
    | inLoop c => exact ⟨tmps, _, rfl, h⟩
    | inScope c => exact ⟨tmps, _, rfl, h⟩
    | _ => exact absurd hh.1 (by simp [okItem])
/-- a move of control -/
theorem goes_pure {fr fr' : Frame} {cs cs' : List Frame} {w : World} (h : ∀ B w, stepG P true (G fr (cs ++ B)) w = .go (G fr' (cs' ++ B)) w #[]) : Goes1 P fr cs w 0 fr' cs' w #[] :=
  ⟨fun B τ d _ => h B _, rfl, rfl, Nat.le_refl _, by simp⟩
theorem moves {fn : FuncId} {tmps : Array Value} {todo todo' : List Item} {cs : List Frame} {w : World} (hfn : (P.funcs[fn]?).isSome = true) (hcs : ∀ c ∈ cs, OkF P L c) (hi : Items P L todo') (h : ∀ B w, stepG P true (G (F fn tmps todo) (cs ++ B)) w = .go (G (F fn tmps todo') (cs ++ B)) w #[]) : Step1 P L (F fn tmps todo) cs w :=
  .go 0 _ cs w #[] (goes_pure h) (.inl ⟨fn, tmps, todo', rfl, hfn, hi⟩) hcs
theorem seen_low {m : Nat} {fn : FuncId} {es : Array Event} (h : ∀ e ∈ es, Low m e) : ∀ e ∈ seen P fn es, Low m e := fun e he => h e (mem_seen he)
theorem low_of {m : Nat} {es' : Array Event} (h : ∃ u, es' = #[] ++ u ∧ ∀ e ∈ u, Low m e) : ∀ e ∈ es', Low m e := by
  obtain ⟨u, h1, h2⟩ := h
  rw [h1]
  simpa using h2
theorem enter_F (hP : OkProg P L) {f : FuncId} (hf : okFun P L f = true) (args : Array Value) : OkF P L (Frame.enter P f args .normal) := by
  have h0 := hf
  unfold okFun at h0
  rw [Bool.and_eq_true] at h0
  cases hfn : P.funcs[f]? with
  | none => rw [hfn] at h0; simp at h0
  | some fn =>
    rw [hfn] at h0
    simp only [Bool.and_eq_true] at h0
    cases hb : fn.body with
    | none => rw [hb] at h0; simp at h0
    | some c =>
      refine ⟨f, args ++ Array.replicate (fn.ntmps - args.size) undef, [.code c], by simp [Frame.enter, F, hfn, hb], by rw [hfn]; rfl, ?_⟩
      intro x hx
      rw [List.mem_singleton] at hx
      subst hx
      exact hP.code f hf fn c hfn hb
theorem early_step (hP : OkProg P L) (fr : Frame) (g : Nat) (w : World) :
    (∃ c e, w.heap[g]? = some (.pending c e) ∧ ∀ cs τ d, early P fr cs none g (tp w τ d) = .go (G fr cs) (tp { w with heap := w.heap.setIfInBounds g (.cells c e) } τ d) #[]) ∨ ∀ cs τ d, ∃ o, early P fr cs none g (tp w τ d) = .ended o (tp w τ d) #[] := by
  by_cases hf : P.follows .staticDataAhead = true
  · refine .inr fun cs τ d => ?_
    unfold early
    simp only [hf, hP.step g, Bool.not_true, Bool.false_eq_true, if_false]
    exact ⟨_, rfl⟩
  · have hf' : P.follows .staticDataAhead = false := by simpa using hf
    by_cases hc : ∃ c e, w.heap[g]? = some (.pending c e)
    · obtain ⟨c, e, hc⟩ := hc
      refine .inl ⟨c, e, hc, fun cs τ d => ?_⟩
      have h1 : (tp w τ d).heap[g]? = some (.pending c e) := hc
      unfold early
      simp only [hf', Bool.not_false, if_true, h1]
      rfl
    · refine .inr fun cs τ d => ?_
      unfold early
      simp only [hf', Bool.not_false, if_true]
      split
      · rename_i c e h; exact absurd ⟨c, e, h⟩ hc
      · exact ⟨_, rfl⟩
set_option maxHeartbeats 1000000 in
theorem apply_step (hP : OkProg P L) {fn : FuncId} {tmps : Array Value} {todo : List Item} {cs : List Frame} {w : World} {s : Sem Next} (hfn : (P.funcs[fn]?).isSome = true) (hi : Items P L todo) (hcs : ∀ c ∈ cs, OkF P L c) (hs : ok P (OutN P L) s)
    (hst : ∀ B w, stepG P true (G (F fn tmps todo) (cs ++ B)) w = stepG.apply P true (F fn tmps todo) (cs ++ B) none s w) : Step1 P L (F fn tmps todo) cs w := by
  obtain ⟨n, r, es', hr⟩ := ok_run hs w #[]
  have hlow := low_of hr.low
  have hself : OkF P L (F fn tmps todo) := ⟨fn, tmps, todo, rfl, hfn, hi⟩
  have hkind : (match (F fn tmps todo).todo with | .call _ true _ _ :: _ => CallKind.wrapped | _ => CallKind.normal) = CallKind.normal := by
    cases todo with
    | nil => rfl
    | cons x k => cases x <;> first | rfl | exact absurd (items_cons.1 hi).1 (by simp [okItem])
  have hk2 : ((F fn tmps todo).kind == CallKind.early) = false := rfl
  cases r with
  | ok a w' =>
    have ha := hr.good a w' rfl
    have e : ∀ τ d, (∀ i, i < n → τ (d + i) = w.tape (w.drawn + i)) → s.runT P (tp w τ d) #[] = (.ok a (tp w' τ (d + n)), es') := fun τ d ht => hr.nat τ d ht
    cases a <;> first | exact ha.elim | skip
    · rename_i v
      obtain ⟨tmps', todo', h1, h2⟩ := finish_F (L := L) fn tmps hi v
      refine .go n _ cs w' (seen P fn es') ⟨fun B τ d ht => ?_, hr.drawn, hr.tape, hr.size, seen_low hlow⟩ (.inl ⟨fn, tmps', todo', h1, hfn, h2⟩) hcs
      rw [hst]
      unfold stepG.apply
      simp only [e τ d ht, if_true, hk2, Bool.false_eq_true, if_false]
      show GStep.after _ _ = _
      simp [GStep.after, G, F]
    · obtain ⟨tmps', todo', h1, h2⟩ := finish_F (L := L) fn tmps hi undef
      refine .go n _ cs w' (seen P fn es') ⟨fun B τ d ht => ?_, hr.drawn, hr.tape, hr.size, seen_low hlow⟩ (.inl ⟨fn, tmps', todo', h1, hfn, h2⟩) hcs
      rw [hst]
      unfold stepG.apply
      simp only [e τ d ht, if_true, hk2, Bool.false_eq_true, if_false]
      show GStep.after _ _ = _
      simp [GStep.after, G, F]
    · rename_i f args
      refine .go n (Frame.enter P f args .normal) (F fn tmps todo :: cs) w' (seen P fn es') ⟨fun B τ d ht => ?_, hr.drawn, hr.tape, hr.size, seen_low hlow⟩ (.inl (enter_F hP ha args)) (fun c hc => ?_)
      · rw [hst]
        unfold stepG.apply
        simp only [e τ d ht, if_true, hk2, Bool.false_eq_true, if_false]
        show GStep.after _ _ = _
        simp [GStep.after, G, F]
        clear hst hself hkind hk2 hr hlow e
        cases todo with
        | nil => rfl
        | cons x k => cases x <;> first | rfl | exact absurd (items_cons.1 hi).1 (by simp [okItem])
      · rcases List.mem_cons.1 hc with rfl | hc
        · exact hself
        · exact hcs c hc
  | halt h w' =>
    have hc := hr.calm h w' rfl
    have e : ∀ τ d, (∀ i, i < n → τ (d + i) = w.tape (w.drawn + i)) → s.runT P (tp w τ d) #[] = (.halt h (tp w' τ (d + n)), es') := fun τ d ht => hr.nat τ d ht
    cases h <;> first | exact hc.elim | skip
    · rename_i v
      refine .panic n ((F fn tmps todo).raise [{ v, recovered := false }]) w' (seen P fn es') ⟨fun B τ d ht => ?_, hr.drawn, hr.tape, hr.size, seen_low hlow⟩ ⟨⟨_, rfl⟩, rfl, hfn⟩
      rw [hst]
      unfold stepG.apply
      simp only [e τ d ht, if_true, hk2, Bool.false_eq_true, if_false]
      show GStep.after _ _ = _
      simp [GStep.after, G, F]
    · rename_i u
      by_cases hu : ∃ g, u = .initOrder g
      · obtain ⟨g, rfl⟩ := hu
        have hap : ∀ B τ d, (∀ i, i < n → τ (d + i) = w.tape (w.drawn + i)) → stepG P true (G (F fn tmps todo) (cs ++ B)) (tp w τ d) = early P (F fn tmps todo) (cs ++ B) none g (tp w' τ (d + n)) := fun B τ d ht => by
          rw [hst]
          unfold stepG.apply
          simp only [e τ d ht, if_true, hk2, Bool.false_eq_true, if_false]
          show GStep.after _ _ = _
          have hs0 : seen P (F fn tmps todo).fn #[] = #[] := rfl
          rw [hs0]
          cases early P (F fn tmps todo) (cs ++ B) none g (tp w' τ (d + n)) <;> simp [GStep.after]
        rcases early_step hP (F fn tmps todo) g w' with ⟨c, t, hc, h0⟩ | h0
        · refine .go n (F fn tmps todo) cs { w' with heap := w'.heap.setIfInBounds g (.cells c t) } #[] ⟨fun B τ d ht => ?_, hr.drawn, hr.tape, ?_, by simp⟩ (.inl hself) hcs
          · rw [hap B τ d ht, h0]
          · have := hr.size
            simpa [rw] using this
        · refine .ended n fun B τ d ht => ?_
          rw [hap B τ d ht]
          obtain ⟨o, ho⟩ := h0 (cs ++ B) τ (d + n)
          exact ⟨_, _, _, ho⟩
      · refine .ended n fun B τ d ht => ?_
        rw [hst]
        unfold stepG.apply
        simp only [e τ d ht, if_true, hk2, Bool.false_eq_true, if_false]
        cases u <;> first | exact ⟨_, _, _, rfl⟩ | exact absurd ⟨_, rfl⟩ hu
    · refine .ended n fun B τ d ht => ?_
      rw [hst]
      unfold stepG.apply
      simp only [e τ d ht, if_true, hk2, Bool.false_eq_true, if_false]
      exact ⟨_, _, _, rfl⟩
theorem to_ret {fn : FuncId} {tmps : Array Value} {todo : List Item} {cs : List Frame} {w : World} (hfn : (P.funcs[fn]?).isSome = true) (hcs : ∀ c ∈ cs, OkF P L c) (h : ∀ B w, stepG P true (G (F fn tmps todo) (cs ++ B)) w = .go (G (R fn tmps todo) (cs ++ B)) w #[]) : Step1 P L (F fn tmps todo) cs w :=
  .go 0 _ cs w #[] (goes_pure h) (.inr ⟨fn, tmps, todo, rfl, hfn⟩) hcs
theorem eval_func (fr : Frame) (f : FuncId) : fr.eval (.func f) = .func (.func f) #[] #[] := rfl
set_option maxHeartbeats 1000000 in
theorem run_step (hP : OkProg P L) {fn : FuncId} {tmps : Array Value} {todo : List Item} {cs : List Frame} {w : World} (hfn : (P.funcs[fn]?).isSome = true) (hi : Items P L todo) (hcs : ∀ c ∈ cs, OkF P L c) : Step1 P L (F fn tmps todo) cs w := by
  cases todo with
  | nil => exact to_ret hfn hcs fun B w => by simp [stepG, stepG.exec, F, R, G]
  | cons x k =>
    obtain ⟨hx, hk⟩ := items_cons.1 hi
    cases x with
    | inBlock id => exact moves hfn hcs hk fun B w => by simp [stepG, stepG.exec, F, G]
    | inScope c => exact moves hfn hcs hk fun B w => by simp [stepG, stepG.exec, F, G]
    | inLoop c => exact moves hfn hcs (todo' := .code c :: .inLoop c :: k) (items_cons.2 ⟨hx, items_cons.2 ⟨hx, hk⟩⟩) fun B w => by simp [stepG, stepG.exec, F, G]
    | code c =>
      cases c with
      | skip => exact moves hfn hcs hk fun B w => by simp [stepG, stepG.exec, F, G]
      | label l => exact moves hfn hcs hk fun B w => by simp [stepG, stepG.exec, F, G]
      | ret => exact to_ret hfn hcs fun B w => by simp [stepG, stepG.exec, F, R, G]
      | seq a b =>
        simp only [okItem, okCode, Bool.and_eq_true] at hx
        exact moves hfn hcs (todo' := .code a :: .code b :: k) (items_cons.2 ⟨hx.1, items_cons.2 ⟨hx.2, hk⟩⟩) fun B w => by simp [stepG, stepG.exec, F, G]
      | block id a => exact moves hfn hcs (todo' := .code a :: .inBlock id :: k) (items_cons.2 ⟨hx, items_cons.2 ⟨rfl, hk⟩⟩) fun B w => by simp [stepG, stepG.exec, F, G]
      | loop a => exact moves hfn hcs (todo' := .code a :: .inLoop a :: k) (items_cons.2 ⟨hx, items_cons.2 ⟨hx, hk⟩⟩) fun B w => by simp [stepG, stepG.exec, F, G]
      | scope a => exact moves hfn hcs (todo' := .code a :: .inScope a :: k) (items_cons.2 ⟨hx, items_cons.2 ⟨hx, hk⟩⟩) fun B w => by simp [stepG, stepG.exec, F, G]
      | cond c a b =>
        simp only [okItem, okCode, Bool.and_eq_true] at hx
        by_cases hc : ∃ t, (F fn tmps (.code (.cond c a b) :: k)).eval c = .bool t
        · obtain ⟨t, ht⟩ := hc
          refine moves hfn hcs (todo' := .code (if t then a else b) :: k) (items_cons.2 ⟨by cases t <;> simp [okItem, hx], hk⟩) fun B w => ?_
          simp only [F] at ht
          simp [stepG, stepG.exec, F, G, ht]
        · refine .ended 0 fun B τ d _ => ?_
          simp only [stepG, stepG.exec, F, G]
          split
          · rename_i t ht; exact absurd ⟨t, ht⟩ hc
          · exact ⟨_, _, _, rfl⟩
      | exit id =>
        cases he : exitTo id k with
        | some k' => exact moves hfn hcs (items_exit he hk) fun B w => by simp [stepG, stepG.exec, F, G, he]
        | none => exact .ended 0 fun B τ d _ => ⟨_, _, _, by simp [stepG, stepG.exec, F, G, he]; exact ⟨rfl, rfl, rfl⟩⟩
      | goto l =>
        cases he : gotoIn l k with
        | some k' => exact moves hfn hcs (items_goto he hk) fun B w => by simp [stepG, stepG.exec, F, G, he]
        | none => exact .ended 0 fun B τ d _ => ⟨_, _, _, by simp [stepG, stepG.exec, F, G, he]; exact ⟨rfl, rfl, rfl⟩⟩
      | region id ops draw =>
        cases draw with
        | false => exact moves hfn hcs (todo' := .inRegion ops (List.range ops.size) :: k) (items_cons.2 ⟨hx, hk⟩) fun B w => by simp [stepG, stepG.exec, F, G]
        | true =>
          refine .go 1 (F fn tmps (.inRegion ops (Region.schedule (P.follows .mixedOrders) ops (w.tape w.drawn (.order fn id))) :: k)) cs { w with drawn := w.drawn + 1 } #[] ⟨fun B τ d ht => ?_, rfl, rfl, Nat.le_refl _, by simp⟩ (.inl ⟨fn, tmps, _, rfl, hfn, items_cons.2 ⟨hx, hk⟩⟩) hcs
          have h1 : τ d (.order fn id) = w.tape w.drawn (.order fn id) := by have := ht 0 (by omega); simp only [Nat.add_zero] at this; rw [this]
          simp [stepG, stepG.exec, F, G, choose, Sem.run, Question.forced, Question.cut, tp, h1]
      | rangeFunc a b c d => exact absurd hx (by simp [okItem, okCode])
      | refuse m => exact absurd hx (by simp [okItem, okCode])
    | inRegion ops l =>
      cases l with
      | nil => exact moves hfn hcs hk fun B w => by simp [stepG, stepG.exec, F, G]
      | cons i l =>
        by_cases hw : ((ops[i]?).map (Region.wanted · (yielded ops tmps))).getD false = true
        · cases ho : ops[i]? with
          | none => rw [ho] at hw; cases hw
          | some o =>
            have hok : okOp P L o.op = true := by
              simp only [okItem, Array.all_eq_true] at hx
              obtain ⟨hlt, he⟩ := Array.getElem?_eq_some_iff.1 ho
              have := hx i hlt
              rw [he] at this; exact this
            refine apply_step hP hfn hi hcs (ok_execOp (ρ := (F fn tmps (.inRegion ops (i :: l) :: k)).eval) (o := o) (eval_func _) hok) fun B w => ?_
            have hw2 : Region.wanted o (yielded ops tmps) = true := by rw [ho] at hw; simpa using hw
            simp [stepG, stepG.exec, stepG.oper, Frame.oper?, F, G, hw2, ho]
        · have hw' : ((ops[i]?).map (Region.wanted · (yielded ops tmps))).getD false = false := by simpa using hw
          obtain ⟨tmps', todo', h1, h2⟩ := finish_F (L := L) fn tmps hi undef
          refine .go 0 _ cs w #[] (goes_pure fun B w => ?_) (.inl ⟨fn, tmps', todo', rfl, hfn, h2⟩) hcs
          rw [← h1]
          simp [stepG, stepG.exec, F, G, hw']
    | inRangeFunc l => exact absurd hx (by simp [okItem])
    | endRangeFunc l => exact absurd hx (by simp [okItem])
    | beginRound => exact absurd hx (by simp [okItem])
    | call d b r s => exact absurd hx (by simp [okItem])
    | extern r a => exact absurd hx (by simp [okItem])
end
end Cc
end Go.Proofs.Ytbioidbbijmnjaa
