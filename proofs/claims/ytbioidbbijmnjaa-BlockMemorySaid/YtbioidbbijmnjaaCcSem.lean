/-
  CcSem: what an entry does hangs on the tape by the answers that it takes alone; what it lists lies in the heap.
-/
import Derived.Conc.Beside
namespace Go.Proofs.Ytbioidbbijmnjaa
set_option linter.unusedVariables false
set_option linter.unusedSimpArgs false
open Go.Conc
namespace Cc
/-- a way out that is a panic or the run's end -/
def Calmh : Halt → Prop
  | .panic _ | .stuck _ | .unsupported _ => True
  | _ => False
/-- an entry that asks no system, says no word of the library's, reads and writes plainly; its ways out satisfy C -/
def ok {α : Type} (P : Program) (C : α → Prop) : Sem α → Prop
  | .pure a => C a
  | .load m _ k => m = .plain ∧ ∀ v, ok P C (k v)
  | .store m _ _ k => m = .plain ∧ ok P C k
  | .new _ k => ∀ n, ok P C (k n)
  | .shape _ k => ∀ s, ok P C (k s)
  | .freeze _ _ k => ok P C k
  | .frozen _ k => ∀ b, ok P C (k b)
  | .getObj _ k => ∀ o, ok P C (k o)
  | .setObj _ _ _ => False
  | .choose _ k => ∀ n, ok P C (k n)
  | .sys _ _ => False
  | .program k => ok P C (k P)
  | .mark m k => m = .noRoom ∧ ok P C k
  | .halt h => Calmh h
theorem ok_mono {α : Type} {P : Program} {C D : α → Prop} (h : ∀ a, C a → D a) : ∀ {s : Sem α}, ok P C s → ok P D s
  | .pure a, hs => h a hs
  | .load m a k, hs => ⟨hs.1, fun v => ok_mono h (hs.2 v)⟩
  | .store m a v k, hs => ⟨hs.1, ok_mono h hs.2⟩
  | .new o k, hs => fun n => ok_mono h (hs n)
  | .shape r k, hs => fun s => ok_mono h (hs s)
  | .freeze a n k, hs => ok_mono (s := k) h hs
  | .frozen a k, hs => fun b => ok_mono h (hs b)
  | .getObj r k, hs => fun o => ok_mono h (hs o)
  | .choose q k, hs => fun n => ok_mono h (hs n)
  | .program k, hs => ok_mono (s := k P) h hs
  | .mark m k, hs => ⟨hs.1, ok_mono h hs.2⟩
  | .halt h', hs => hs
theorem ok_bind {α β : Type} {P : Program} {C : α → Prop} {D : β → Prop} {f : α → Sem β} (hf : ∀ a, C a → ok P D (f a)) : ∀ {s : Sem α}, ok P C s → ok P D (s.bind f)
  | .pure a, hs => hf a hs
  | .load m a k, hs => ⟨hs.1, fun v => ok_bind hf (hs.2 v)⟩
  | .store m a v k, hs => ⟨hs.1, ok_bind hf hs.2⟩
  | .new o k, hs => fun n => ok_bind hf (hs n)
  | .shape r k, hs => fun s => ok_bind hf (hs s)
  | .freeze a n k, hs => ok_bind (s := k) hf hs
  | .frozen a k, hs => fun b => ok_bind hf (hs b)
  | .getObj r k, hs => fun o => ok_bind hf (hs o)
  | .choose q k, hs => fun n => ok_bind hf (hs n)
  | .program k, hs => ok_bind (s := k P) hf hs
  | .mark m k, hs => ⟨hs.1, ok_bind hf hs.2⟩
  | .halt h', hs => hs
/-- the world with another tape -/
def tp (w : World) (τ : Nat → Question → Nat) (d : Nat) : World := { w with tape := τ, drawn := d }
theorem tp_heap (w : World) (τ : Nat → Question → Nat) (d : Nat) : (tp w τ d).heap = w.heap := rfl
theorem tp_tp (w : World) (τ σ : Nat → Question → Nat) (d e : Nat) : tp (tp w τ d) σ e = tp w σ e := rfl
theorem tp_self (w : World) : tp w w.tape w.drawn = w := rfl
def tpR {α : Type} (τ : Nat → Question → Nat) (d : Nat) : Result α → Result α
  | .ok a w => .ok a (tp w τ d)
  | .halt h w => .halt h (tp w τ d)
def rw {α : Type} : Result α → World
  | .ok _ w => w
  | .halt _ w => w
/-- what a step may have listed -/
def Low (n : Nat) (e : Event) : Prop := (∃ a, e.loc = .cell a ∧ a.block < n ∧ e.sync = false) ∨ (∃ r, e.loc = .obj r ∧ r < n ∧ e.write = false) ∨ e.loc = .mark .noRoom
theorem Low.mono {n m : Nat} {e : Event} (h : Low n e) (hm : n ≤ m) : Low m e := by
  rcases h with ⟨a, h1, h2, h3⟩ | ⟨r, h1, h2, h3⟩ | h
  · exact .inl ⟨a, h1, by omega, h3⟩
  · exact .inr (.inl ⟨r, h1, by omega, h3⟩)
  · exact .inr (.inr h)
theorem cell_lt {w : World} {a : Addr} {v : Value} (h : w.cell? a = some v) : a.block < w.heap.size := by
  unfold World.cell? at h
  split at h
  · rename_i c e f hc; exact (Array.getElem?_eq_some_iff.1 hc).1
  · cases h
theorem setCell_size' (w : World) (a : Addr) (v : Value) : (w.setCell a v).heap.size = w.heap.size := by simp [World.setCell]
theorem freeze_size (w : World) (a : Addr) (n : Nat) : (w.freeze a n).heap.size = w.heap.size := by unfold World.freeze; split <;> simp
theorem noCell_tp (w : World) (τ : Nat → Question → Nat) (d : Nat) (a : Addr) (what : String) : (tp w τ d).noCell a what = w.noCell a what := rfl
theorem noCell_calm (w : World) (a : Addr) (what : String) : Calmh (w.noCell a what) := by
  unfold World.noCell
  split <;> trivial
theorem seen_lt {P : Program} {w : World} {at_ k : Addr} {u : TypeId} {b : Bool} {r : Array Value × TypeId × (Nat × Nat) × Nat × Value × List (Nat × Nat × List UInt8)} (h : w.seen P at_ u k b = .ok r) : at_.block < w.heap.size := by
  apply Classical.byContradiction
  intro hn
  have h0 : w.heap[at_.block]? = none := Array.getElem?_eq_none (by omega)
  unfold World.seen at h
  simp only [h0, bind, Except.bind, pure, Except.pure, throw, throwThe, MonadExceptOf.throw] at h
  repeat' (first | (cases h; done) | split at h)
theorem viewLoad_low {P : Program} {w : World} {at_ k : Addr} {u : TypeId} {b : Bool} {v : Value} {l : List Addr} (h : w.viewLoad P at_ u k b = .ok (v, l)) : ∀ a ∈ l, a.block < w.heap.size := by
  unfold World.viewLoad at h
  cases hs : w.seen P at_ u k b with
  | error e => rw [hs] at h; cases h
  | ok r =>
    have hlt := seen_lt hs
    rw [hs] at h
    obtain ⟨_, _, _, first, like, cells⟩ := r
    simp only [bind, Except.bind, pure, Except.pure, throw, throwThe, MonadExceptOf.throw] at h
    split at h
    · simp only [Except.ok.injEq, Prod.mk.injEq] at h
      obtain ⟨_, rfl⟩ := h
      intro a ha
      obtain ⟨c, _, rfl⟩ := List.mem_map.1 ha
      exact hlt
    · cases h
theorem viewStore_tp (P : Program) (w : World) (at_ k : Addr) (u : TypeId) (b : Bool) (v : Value) (τ : Nat → Question → Nat) (d : Nat) : (tp w τ d).viewStore P at_ u k v b = (w.viewStore P at_ u k v b).map fun x => (tp x.1 τ d, x.2) := by
  have hs' : (tp w τ d).seen P at_ u k b = w.seen P at_ u k b := rfl
  unfold World.viewStore
  rw [hs']
  simp only [bind, Except.bind, pure, Except.pure, throw, throwThe, MonadExceptOf.throw, Bool.not_true, Bool.false_eq_true, if_false]
  repeat' (first | rfl | split)
theorem viewStore_low {P : Program} {w w' : World} {at_ k : Addr} {u : TypeId} {b : Bool} {v : Value} {l : List Addr} (h : w.viewStore P at_ u k v b = .ok (w', l)) :
    (∀ a ∈ l, a.block < w.heap.size) ∧ w'.heap.size = w.heap.size ∧ w'.tape = w.tape ∧ w'.drawn = w.drawn ∧ ∀ τ d, (tp w τ d).viewStore P at_ u k v b = .ok (tp w' τ d, l) := by
  have h0 := h
  unfold World.viewStore at h
  cases ht : tight P P.depth u with
  | false => rw [ht] at h; simp [bind, Except.bind, throw, throwThe, MonadExceptOf.throw] at h
  | true =>
    cases hs : w.seen P at_ u k b with
    | error e =>
      rw [ht, hs] at h
      simp [bind, Except.bind, pure, Except.pure, throw, throwThe, MonadExceptOf.throw] at h
    | ok r =>
      have hlt := seen_lt hs
      rw [ht, hs] at h
      obtain ⟨c, e, frozen, first, like, cells⟩ := r
      have h2 := h
      simp only [bind, Except.bind, pure, Except.pure, throw, throwThe, MonadExceptOf.throw, Bool.not_true, Bool.false_eq_true, if_false] at h2
      refine (fun hx : _ ∧ _ ∧ _ ∧ _ => ⟨hx.1, hx.2.1, hx.2.2.1, hx.2.2.2, fun τ d => by rw [viewStore_tp, h0]; rfl⟩) ?_
      clear h h0 hs
      repeat' (first | (cases h2; done) | split at h2)
      all_goals
        simp only [Except.ok.injEq, Prod.mk.injEq] at h2
        obtain ⟨rfl, rfl⟩ := h2
        refine ⟨fun a ha => ?_, by simp, rfl, rfl⟩
        obtain ⟨c, _, rfl⟩ := List.mem_map.1 ha
        exact hlt
theorem far_load (P : Program) (w : World) (a : Addr) (b : Bool) :
    (∃ v l, w.farLoad P a b = .ok (v, l) ∧ (∀ x ∈ l, x.block < w.heap.size) ∧ ∀ τ d, (tp w τ d).farLoad P a b = .ok (v, l)) ∨
    (∃ h, w.farLoad P a b = .error h ∧ Calmh h ∧ ∀ τ d, (tp w τ d).farLoad P a b = .error h) := by
  unfold World.farLoad
  cases hb : w.heap[a.block]? with
  | none => exact .inr ⟨_, rfl, noCell_calm _ _ _, fun τ d => by rw [show (tp w τ d).heap[a.block]? = none from hb]; rfl⟩
  | some o =>
    cases o with
    | view at_ u =>
      cases hl : w.viewLoad P at_ u a b with
      | ok r => exact .inl ⟨r.1, r.2, by simp only [hl], viewLoad_low hl, fun τ d => by
          have h1 : (tp w τ d).heap[a.block]? = some (.view at_ u) := hb
          have h2 : (tp w τ d).viewLoad P at_ u a b = .ok r := hl
          simp only [h1, h2]⟩
      | error e => exact .inr ⟨.unsupported (.unsafePointer e), by simp only [hl], trivial, fun τ d => by
          have h1 : (tp w τ d).heap[a.block]? = some (.view at_ u) := hb
          have h2 : (tp w τ d).viewLoad P at_ u a b = .error e := hl
          simp only [h1, h2]⟩
    | _ => exact .inr ⟨_, rfl, noCell_calm _ _ _, fun τ d => by
        have h1 := show (tp w τ d).heap[a.block]? = _ from hb
        simp only [h1]; rfl⟩
theorem far_store (P : Program) (w : World) (a : Addr) (v : Value) (b : Bool) :
    (∃ w' l, w.farStore P a v b = .ok (w', l) ∧ (∀ x ∈ l, x.block < w.heap.size) ∧ w'.heap.size = w.heap.size ∧ w'.tape = w.tape ∧ w'.drawn = w.drawn ∧ ∀ τ d, (tp w τ d).farStore P a v b = .ok (tp w' τ d, l)) ∨
    (∃ h, w.farStore P a v b = .error h ∧ Calmh h ∧ ∀ τ d, (tp w τ d).farStore P a v b = .error h) := by
  unfold World.farStore
  cases hb : w.heap[a.block]? with
  | none => exact .inr ⟨_, rfl, noCell_calm _ _ _, fun τ d => by rw [show (tp w τ d).heap[a.block]? = none from hb]; rfl⟩
  | some o =>
    cases o with
    | view at_ u =>
      cases hl : w.viewStore P at_ u a v b with
      | ok r =>
        obtain ⟨h1, h2, h3, h4, h5⟩ := viewStore_low (w' := r.1) (l := r.2) hl
        exact .inl ⟨r.1, r.2, by simp only [hl], h1, h2, h3, h4, fun τ d => by
          have e1 : (tp w τ d).heap[a.block]? = some (.view at_ u) := hb
          simp only [e1, h5]⟩
      | error e => exact .inr ⟨.unsupported (.unsafePointer e), by simp only [hl], trivial, fun τ d => by
          have e1 : (tp w τ d).heap[a.block]? = some (.view at_ u) := hb
          have e2 : (tp w τ d).viewStore P at_ u a v b = .error e := by
            rw [viewStore_tp, hl]; rfl
          simp only [e1, e2]⟩
    | _ => exact .inr ⟨_, rfl, noCell_calm _ _ _, fun τ d => by
        have h1 := show (tp w τ d).heap[a.block]? = _ from hb
        simp only [h1]; rfl⟩
/-- what is known of an entry's run -/
structure Ran {α : Type} (P : Program) (C : α → Prop) (s : Sem α) (w : World) (es : Array Event) (n : Nat) (r : Result α) (es' : Array Event) : Prop where
  eq : s.runT P w es = (r, es')
  drawn : (rw r).drawn = w.drawn + n
  tape : (rw r).tape = w.tape
  nat : ∀ τ d, (∀ i, i < n → τ (d + i) = w.tape (w.drawn + i)) → s.runT P (tp w τ d) es = (tpR τ (d + n) r, es')
  size : w.heap.size ≤ (rw r).heap.size
  low : ∃ u, es' = es ++ u ∧ ∀ e ∈ u, Low (rw r).heap.size e
  good : ∀ a w', r = .ok a w' → C a
  calm : ∀ h w', r = .halt h w' → Calmh h
theorem Ran.push {α : Type} {P : Program} {C : α → Prop} {s : Sem α} {w : World} {es : Array Event} {e : Event} {r : Result α} {es' : Array Event} (he : Low (rw r).heap.size e) (h : ∃ u, es' = es.push e ++ u ∧ ∀ x ∈ u, Low (rw r).heap.size x) :
    ∃ u, es' = es ++ u ∧ ∀ x ∈ u, Low (rw r).heap.size x := by
  obtain ⟨u, h1, h2⟩ := h
  refine ⟨#[e] ++ u, by rw [h1]; apply Array.ext'; simp, fun x hx => ?_⟩
  rcases Array.mem_append.1 hx with hx | hx
  · have : x = e := by simpa using hx
    rw [this]; exact he
  · exact h2 x hx
theorem low_app {n : Nat} {es x es' : Array Event} (hx : ∀ e ∈ x, Low n e) (h : ∃ u, es' = es ++ x ++ u ∧ ∀ e ∈ u, Low n e) : ∃ u, es' = es ++ u ∧ ∀ e ∈ u, Low n e := by
  obtain ⟨u, h1, h2⟩ := h
  refine ⟨x ++ u, by rw [h1, Array.append_assoc], fun e he => ?_⟩
  rcases Array.mem_append.1 he with he | he
  · exact hx e he
  · exact h2 e he
theorem ran_halt {α : Type} {P : Program} {C : α → Prop} {s : Sem α} {w : World} {es : Array Event} {h : Halt} (hh : Calmh h) (e : ∀ τ d, s.runT P (tp w τ d) es = (.halt h (tp w τ d), es)) : ∃ n r es', Ran P C s w es n r es' :=
  ⟨0, .halt h w, es, e w.tape w.drawn, rfl, rfl, fun τ d _ => e τ d, Nat.le_refl _, ⟨#[], by simp, by simp⟩, fun a w' h => (by cases h), fun h' w' e => (by cases e; exact hh)⟩
theorem ok_run {α : Type} {P : Program} {C : α → Prop} : ∀ {s : Sem α}, ok P C s → ∀ (w : World) (es : Array Event), ∃ n r es', Ran P C s w es n r es'
  | .pure a, hs, w, es => ⟨0, .ok a w, es, rfl, rfl, rfl, fun τ d _ => rfl, Nat.le_refl _, ⟨#[], by simp, by simp⟩, fun b w' e => by cases e; exact hs, fun h w' e => by cases e⟩
  | .load m a k, hs, w, es => by
    cases hc : w.cell? a with
    | none =>
      rcases far_load P w a (m == .atomic) with ⟨v, l, e1, e2, e3⟩ | ⟨hh, e1, e2, e3⟩
      · obtain ⟨n, r, es', h⟩ := ok_run (hs.2 v) w (es ++ l.toArray.map (⟨.cell ·, false, m == .atomic⟩))
        have e0 : ∀ τ d, (Sem.load m a k).runT P (tp w τ d) es = (k v).runT P (tp w τ d) (es ++ l.toArray.map (⟨.cell ·, false, m == .atomic⟩)) := fun τ d => by
          have h1 : (tp w τ d).cell? a = none := hc
          simp only [Sem.runT, h1, e3]
        exact ⟨n, r, es', (e0 w.tape w.drawn).trans h.eq, h.drawn, h.tape, fun τ d ht => (e0 τ d).trans (h.nat τ d ht), h.size, low_app (fun x hx => by
          obtain ⟨y, hy, rfl⟩ := Array.mem_map.1 hx
          exact .inl ⟨y, rfl, Nat.lt_of_lt_of_le (e2 y (by simpa using hy)) h.size, by rw [hs.1]; rfl⟩) h.low, h.good, h.calm⟩
      · refine ran_halt (h := hh) e2 fun τ d => ?_
        have h1 : (tp w τ d).cell? a = none := hc
        simp only [Sem.runT, h1, e3]
    | some v =>
      obtain ⟨n, r, es', h⟩ := ok_run (hs.2 v) w (es.push ⟨.cell a, false, m == .atomic⟩)
      have e0 : ∀ τ d, (Sem.load m a k).runT P (tp w τ d) es = (k v).runT P (tp w τ d) (es.push ⟨.cell a, false, m == .atomic⟩) := fun τ d => by
        have h1 : (tp w τ d).cell? a = some v := hc
        simp only [Sem.runT, h1]
      refine ⟨n, r, es', (e0 w.tape w.drawn).trans h.eq, h.drawn, h.tape, fun τ d ht => (e0 τ d).trans (h.nat τ d ht), h.size, Ran.push (P := P) (C := C) (s := k v) (w := w) (.inl ⟨a, rfl, Nat.lt_of_lt_of_le (cell_lt hc) h.size, by rw [hs.1]; rfl⟩) h.low, h.good, h.calm⟩
  | .store m a v k, hs, w, es => by
    by_cases hagg : (∃ x, v = .agg x) ∨ ∃ x, v = .tuple x
    · refine ran_halt (h := .stuck "store: not the value of one cell") trivial fun τ d => ?_
      rcases hagg with ⟨x, rfl⟩ | ⟨x, rfl⟩ <;> simp only [Sem.runT]
    · have e1 : ∀ w : World, (Sem.store m a v k).runT P w es = (match w.cell? a with
          | some _ => if w.frozen? a then (.halt (.unsupported (.unsafePointer "a write to bytes that a string shares")) w, es) else k.runT P (w.setCell a v) (es.push ⟨.cell a, true, m == .atomic⟩)
          | none => match w.farStore P a v (m == .atomic) with
            | .ok (w, touched) => k.runT P w (es ++ touched.toArray.map (⟨.cell ·, true, m == .atomic⟩))
            | .error h => (.halt h w, es)) := fun w => by
        cases v <;> first | rfl | exact absurd (.inl ⟨_, rfl⟩) hagg | exact absurd (.inr ⟨_, rfl⟩) hagg
      cases hc : w.cell? a with
      | none =>
        rcases far_store P w a v (m == .atomic) with ⟨w', l, e2, e3, e4, e5, e6, e7⟩ | ⟨hh, e2, e3, e4⟩
        · obtain ⟨n, r, es', h⟩ := ok_run hs.2 w' (es ++ l.toArray.map (⟨.cell ·, true, m == .atomic⟩))
          have e0 : ∀ τ d, (Sem.store m a v k).runT P (tp w τ d) es = k.runT P (tp w' τ d) (es ++ l.toArray.map (⟨.cell ·, true, m == .atomic⟩)) := fun τ d => by
            have h1 : (tp w τ d).cell? a = none := hc
            rw [e1]
            simp only [h1, e7]
          have hsz : w.heap.size ≤ (rw r).heap.size := by have := h.size; rw [e4] at this; exact this
          have hw : tp w' w.tape w.drawn = w' := by rw [← e5, ← e6]; rfl
          refine ⟨n, r, es', (e0 w.tape w.drawn).trans (by rw [hw]; exact h.eq), by rw [h.drawn, e6], h.tape.trans e5, fun τ d ht => (e0 τ d).trans (h.nat τ d (by rw [e5, e6]; exact ht)), hsz, low_app (fun x hx => by
            obtain ⟨y, hy, rfl⟩ := Array.mem_map.1 hx
            exact .inl ⟨y, rfl, Nat.lt_of_lt_of_le (e3 y (by simpa using hy)) hsz, by rw [hs.1]; rfl⟩) h.low, h.good, h.calm⟩
        · refine ran_halt (h := hh) e3 fun τ d => ?_
          have h1 : (tp w τ d).cell? a = none := hc
          rw [e1]
          simp only [h1, e4]
      | some u =>
        by_cases hf : w.frozen? a = true
        · refine ran_halt (h := .unsupported (.unsafePointer "a write to bytes that a string shares")) trivial fun τ d => ?_
          have h1 : (tp w τ d).cell? a = some u := hc
          have h2 : (tp w τ d).frozen? a = true := hf
          rw [e1]
          simp only [h1, h2, if_true]
        · obtain ⟨n, r, es', h⟩ := ok_run hs.2 (w.setCell a v) (es.push ⟨.cell a, true, m == .atomic⟩)
          have e0 : ∀ τ d, (Sem.store m a v k).runT P (tp w τ d) es = k.runT P (tp (w.setCell a v) τ d) (es.push ⟨.cell a, true, m == .atomic⟩) := fun τ d => by
            have h1 : (tp w τ d).cell? a = some u := hc
            have h2 : (tp w τ d).frozen? a = false := by have h3 : w.frozen? a = false := (by simpa using hf); exact h3
            rw [e1]
            simp only [h1, h2, Bool.false_eq_true, if_false]
            rfl
          have hsz : w.heap.size ≤ (rw r).heap.size := by have := h.size; rw [setCell_size'] at this; exact this
          refine ⟨n, r, es', (e0 w.tape w.drawn).trans h.eq, h.drawn, h.tape, fun τ d ht => (e0 τ d).trans (h.nat τ d ht), hsz, Ran.push (P := P) (C := C) (s := k) (w := w) (.inl ⟨a, rfl, Nat.lt_of_lt_of_le (cell_lt hc) hsz, by rw [hs.1]; rfl⟩) h.low, h.good, h.calm⟩
  | .new o k, hs, w, es => by
    obtain ⟨n, r, es', h⟩ := ok_run (hs w.heap.size) { w with heap := w.heap.push o } es
    exact ⟨n, r, es', h.eq, h.drawn, h.tape, fun τ d ht => h.nat τ d ht, Nat.le_trans (by simp) h.size, h.low, h.good, h.calm⟩
  | .shape a k, hs, w, es => by
    obtain ⟨n, r, es', h⟩ := ok_run (hs (w.shape? a)) w es
    exact ⟨n, r, es', h.eq, h.drawn, h.tape, fun τ d ht => h.nat τ d ht, h.size, h.low, h.good, h.calm⟩
  | .freeze a m k, hs, w, es => by
    obtain ⟨n, r, es', h⟩ := ok_run (s := k) hs (w.freeze a m) es
    have e1 : ∀ τ d, (tp w τ d).freeze a m = tp (w.freeze a m) τ d := fun τ d => by unfold World.freeze; split <;> rfl
    have e2 : (w.freeze a m).drawn = w.drawn := by unfold World.freeze; split <;> rfl
    have e3 : (w.freeze a m).tape = w.tape := by unfold World.freeze; split <;> rfl
    refine ⟨n, r, es', h.eq, by rw [h.drawn, e2], h.tape.trans e3, fun τ d ht => ?_, by have := h.size; rw [freeze_size] at this; exact this, h.low, h.good, h.calm⟩
    show k.runT P ((tp w τ d).freeze a m) es = _
    rw [e1]
    exact h.nat τ d (by rw [e2, e3]; exact ht)
  | .frozen a k, hs, w, es => by
    obtain ⟨n, r, es', h⟩ := ok_run (hs (w.frozen? a)) w es
    exact ⟨n, r, es', h.eq, h.drawn, h.tape, fun τ d ht => h.nat τ d ht, h.size, h.low, h.good, h.calm⟩
  | .getObj a k, hs, w, es => by
    cases hc : w.heap[a]? with
    | none =>
      refine ran_halt (h := .stuck "getObj: no such block") trivial fun τ d => ?_
      have h1 : (tp w τ d).heap[a]? = none := hc
      simp only [Sem.runT, h1]
    | some o =>
      by_cases hcell : ∃ c t f, o = .cells c t f
      · obtain ⟨c, t, f, rfl⟩ := hcell
        refine ran_halt (h := .stuck "getObj: a row of cells") trivial fun τ d => ?_
        have h1 : (tp w τ d).heap[a]? = some (.cells c t f) := hc
        simp only [Sem.runT, h1]
      · obtain ⟨n, r, es', h⟩ := ok_run (hs o) w (es.push ⟨.obj a, false, o.isChan⟩)
        have e0 : ∀ τ d, (Sem.getObj a k).runT P (tp w τ d) es = (k o).runT P (tp w τ d) (es.push ⟨.obj a, false, o.isChan⟩) := fun τ d => by
          have h1 : (tp w τ d).heap[a]? = some o := hc
          simp only [Sem.runT, h1]
          split
          · rename_i x y z hx; cases hx; exact absurd ⟨_, _, _, rfl⟩ hcell
          · rename_i x hx hy; cases hy; rfl
          · rename_i hx; cases hx
        refine ⟨n, r, es', (e0 w.tape w.drawn).trans h.eq, h.drawn, h.tape, fun τ d ht => (e0 τ d).trans (h.nat τ d ht), h.size, Ran.push (P := P) (C := C) (s := k o) (w := w) (.inr (.inl ⟨a, rfl, Nat.lt_of_lt_of_le (Array.getElem?_eq_some_iff.1 hc).1 h.size, rfl⟩)) h.low, h.good, h.calm⟩
  | .choose q k, hs, w, es => by
    by_cases hf : q.forced = true
    · obtain ⟨n, r, es', h⟩ := ok_run (hs 0) w es
      have e0 : ∀ τ d, (Sem.choose q k).runT P (tp w τ d) es = (k 0).runT P (tp w τ d) es := fun τ d => by simp only [Sem.runT, hf, if_true]
      exact ⟨n, r, es', (e0 w.tape w.drawn).trans h.eq, h.drawn, h.tape, fun τ d ht => (e0 τ d).trans (h.nat τ d ht), h.size, h.low, h.good, h.calm⟩
    · obtain ⟨n, r, es', h⟩ := ok_run (hs (q.cut (w.tape w.drawn q))) { w with drawn := w.drawn + 1 } es
      have e0 : ∀ τ d, τ d = w.tape w.drawn → (Sem.choose q k).runT P (tp w τ d) es = (k (q.cut (w.tape w.drawn q))).runT P (tp { w with drawn := w.drawn + 1 } τ (d + 1)) es := fun τ d ht => by
        have h1 : (tp w τ d).tape (tp w τ d).drawn = w.tape w.drawn := ht
        simp only [Sem.runT, hf, if_false, Bool.false_eq_true, h1]
        rfl
      refine ⟨n + 1, r, es', (e0 w.tape w.drawn rfl).trans h.eq, by rw [h.drawn]; show w.drawn + 1 + n = _; omega, h.tape, fun τ d ht => ?_, h.size, h.low, h.good, h.calm⟩
      rw [e0 τ d (ht 0 (by omega)), h.nat τ (d + 1) (fun i hi => by
        have := ht (i + 1) (by omega)
        rw [show d + 1 + i = d + (i + 1) by omega, this]
        show w.tape _ = w.tape (w.drawn + 1 + i)
        rw [show w.drawn + 1 + i = w.drawn + (i + 1) by omega])]
      rw [show d + 1 + n = d + (n + 1) by omega]
  | .program k, hs, w, es => by
    obtain ⟨n, r, es', h⟩ := ok_run (s := k P) hs w es
    exact ⟨n, r, es', h.eq, h.drawn, h.tape, fun τ d ht => h.nat τ d ht, h.size, h.low, h.good, h.calm⟩
  | .mark m k, hs, w, es => by
    obtain ⟨n, r, es', h⟩ := ok_run hs.2 w (es.push ⟨.mark m, false, true⟩)
    exact ⟨n, r, es', h.eq, h.drawn, h.tape, fun τ d ht => h.nat τ d ht, h.size, Ran.push (P := P) (C := C) (s := k) (w := w) (.inr (.inr (by rw [hs.1]))) h.low, h.good, h.calm⟩
  | .halt h', hs, w, es => ran_halt hs fun τ d => rfl
end Cc
end Go.Proofs.Ytbioidbbijmnjaa
