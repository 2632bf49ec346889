/-
  CcScript: a sender's script and a receiver's script over a channel with a buffer; the crowd around them.
-/
import Derived.Test.YtbioidbbijmnjaaCcMeet
import Derived.Conc.FxBegin
import Derived.Conc.Pipeline
import Derived.Conc.TokenWalk
namespace Go.Proofs.Ytbioidbbijmnjaa
set_option linter.unusedVariables false
set_option linter.unusedSimpArgs false
open Go.Conc
open Go.ConcN (sumTo upd sumTo_upd upd_ne upd_same)
namespace Cc
/-- the cells that are the receiver's own: those made behind the fork -/
def MineL (Lw : Nat) : Loc → Prop := fun l => ∃ a, l = .cell a ∧ Lw ≤ a.block
def EvS (Lw : Nat) (e : Event) : Prop := Low Lw e ∧ e.write = false
def EvR (Lw n : Nat) (e : Event) : Prop := Low n e ∧ ∀ a, e.loc = .cell a → e.write = true → Lw ≤ a.block
theorem low_touch {n : Nat} {e : Event} {b : Touch} (h : Low n e) (hb : (MemAct.ofEvent e).touch? = some b) : (b.loc = e.loc ∧ b.write = e.write) ∧ ((∃ a, e.loc = .cell a ∧ a.block < n) ∨ (∃ r, e.loc = .obj r) ∧ e.write = false) := by
  obtain ⟨loc, wr, sy⟩ := e
  rcases h with ⟨a, h1, h2, h3⟩ | ⟨r, h1, h2, h3⟩ | h1
  · simp only at h1 h3
    subst h1 h3
    cases wr <;> simp [MemAct.ofEvent, MemAct.touch?] at hb <;> subst hb <;> exact ⟨⟨rfl, rfl⟩, .inl ⟨a, rfl, h2⟩⟩
  · simp only at h1 h3
    subst h1 h3
    cases sy <;> simp [MemAct.ofEvent, MemAct.touch?] at hb <;> subst hb <;> exact ⟨⟨rfl, rfl⟩, .inr ⟨⟨r, rfl⟩, rfl⟩⟩
  · simp only at h1
    subst h1
    cases wr <;> cases sy <;> simp [MemAct.ofEvent, MemAct.touch?] at hb
theorem low_act {n : Nat} {e : Event} (h : Low n e) : (MemAct.ofEvent e).low n := (low_evL h (Nat.le_refl _)).2.2.2
section
variable {k Lw B : Nat} {t : Trace}
theorem Mid.own0 (h : Mid (MineL Lw) k B t) (hk0 : k ≠ 0) {fn : FuncId} {pos : String} {es : Array Event} (hes : ∀ e ∈ es, EvR Lw B e) : Mid (MineL Lw) k B (t ++ MemOp.ofEvents 0 fn pos es) := by
  refine h.app0 hk0 (fun op hop => by obtain ⟨e, _, rfl⟩ := Go.Conc.mem_ofEvents hop; rfl) (fun op hop b hb hw => ?_) ?_ (fun op hop => by obtain ⟨e, he, rfl⟩ := Go.Conc.mem_ofEvents hop; exact low_act (hes e he).1)
  · obtain ⟨e, he, rfl⟩ := Go.Conc.mem_ofEvents hop
    obtain ⟨⟨h2, h3⟩, ⟨a, h1, _⟩ | ⟨_, h4⟩⟩ := low_touch (hes e he).1 hb
    · exact ⟨a, h2.trans h1, (hes e he).2 a h1 (by rw [← h3]; exact hw)⟩
    · rw [h3, h4] at hw; cases hw
  · rw [Deaf_own]
    exact deafBehind_still (fun e he => ⟨(low_evL (hes e he).1 (Nat.le_refl _)).2.1, (low_evL (hes e he).1 (Nat.le_refl _)).2.2.1⟩) _
theorem Mid.ownk (h : Mid (MineL Lw) k B t) (hk0 : k ≠ 0) (hB : Lw ≤ B) {fn : FuncId} {pos : String} {es : Array Event} (hes : ∀ e ∈ es, EvS Lw e) : Mid (MineL Lw) k B (t ++ MemOp.ofEvents k fn pos es) := by
  refine h.appk hk0 (fun op hop => by obtain ⟨e, _, rfl⟩ := Go.Conc.mem_ofEvents hop; rfl) (fun op hop b hb => ?_) ?_ (fun op hop => by obtain ⟨e, he, rfl⟩ := Go.Conc.mem_ofEvents hop; exact MemAct.low_mono hB (low_act (hes e he).1))
  · obtain ⟨e, he, rfl⟩ := Go.Conc.mem_ofEvents hop
    obtain ⟨⟨h2, h3⟩, h4⟩ := low_touch (hes e he).1 hb
    refine ⟨h3.trans (hes e he).2, ?_⟩
    rintro ⟨a', e1, e2⟩
    rw [h2] at e1
    rcases h4 with ⟨a, h1, h5⟩ | ⟨⟨r, h1⟩, _⟩
    · rw [h1] at e1; cases e1; omega
    · rw [h1] at e1; cases e1
  · rw [Deaf_own]
    exact deafBehind_still (fun e he => ⟨(low_evL (hes e he).1 (Nat.le_refl _)).2.1, (low_evL (hes e he).1 (Nat.le_refl _)).2.2.1⟩) _
/-- an operation on the channel -/
def Comm (k c : Nat) (op : MemOp) : Prop := (op.g = 0 ∨ op.g = k) ∧ ((∃ n, op.act = .send c n) ∨ (∃ n, op.act = .sendDone c n) ∨ (∃ n m, op.act = .recv c n m) ∨ (∃ n, op.act = .recvDone c n) ∨ op.act = .close c)
theorem Comm.touch {c : Nat} {op : MemOp} (h : Comm k c op) : op.act.touch? = none := by
  rcases h.2 with ⟨n, h⟩ | ⟨n, h⟩ | ⟨n, m, h⟩ | ⟨n, h⟩ | h <;> rw [h] <;> rfl
theorem Comm.low {c : Nat} {op : MemOp} (h : Comm k c op) (hc : c < B) : op.act.low B := by
  rcases h.2 with ⟨n, h⟩ | ⟨n, h⟩ | ⟨n, m, h⟩ | ⟨n, h⟩ | h <;> rw [h] <;> exact hc
theorem Comm.deaf {c : Nat} {op : MemOp} (h : Comm k c op) (g d : Nat) : deafStep g d op = d := by
  rcases h.2 with ⟨n, h⟩ | ⟨n, h⟩ | ⟨n, m, h⟩ | ⟨n, h⟩ | h <;> simp [deafStep, h]
theorem Mid.comm1 (h : Mid (MineL Lw) k B t) (hk0 : k ≠ 0) {c : Nat} (hc : c < B) {op : MemOp} (ho : Comm k c op) : Mid (MineL Lw) k B (t ++ #[op]) := by
  rcases ho.1 with h0 | h0
  · exact h.app0 hk0 (by simp [h0]) (by intro x hx b hb; simp at hx; subst hx; rw [ho.touch] at hb; cases hb) (by rw [Deaf_push, ho.deaf]) (by intro x hx; simp at hx; subst hx; exact ho.low hc)
  · exact h.appk hk0 (by simp [h0]) (by intro x hx b hb; simp at hx; subst hx; rw [ho.touch] at hb; cases hb) (by rw [Deaf_push, ho.deaf]) (by intro x hx; simp at hx; subst hx; exact ho.low hc)
theorem Mid.comms (hk0 : k ≠ 0) {c : Nat} (hc : c < B) : ∀ {u : List MemOp} {t : Trace}, Mid (MineL Lw) k B t → (∀ op ∈ u, Comm k c op) → Mid (MineL Lw) k B (t ++ u.toArray)
  | [], t, h, _ => by simpa using h
  | x :: u, t, h, hu => by
    have e : t ++ (x :: u).toArray = t ++ #[x] ++ u.toArray := by simp
    rw [e]
    exact Mid.comms hk0 hc (h.comm1 hk0 hc (hu x (by simp))) fun op hop => hu op (by simp [hop])
theorem comms_deaf {c : Nat} : ∀ {u : List MemOp} {t : Trace}, (∀ op ∈ u, Comm k c op) → ∀ g, Deaf (t ++ u.toArray) g = Deaf t g
  | [], t, _, g => by simp
  | x :: u, t, hu, g => by
    have e : t ++ (x :: u).toArray = t ++ #[x] ++ u.toArray := by simp
    rw [e, comms_deaf (fun op hop => hu op (by simp [hop])), Deaf_push, (hu x (by simp)).deaf]
theorem Mid.mute (h : Mid (MineL Lw) k B t) {g : Nat} (hg : g ≠ 0) (hgk : g ≠ k) {fn : FuncId} {pos : String} {es : Array Event} (hm : ∀ e ∈ es, e.mute = true) : Mid (MineL Lw) k B (t ++ MemOp.ofEvents g fn pos es) :=
  h.appMute hg hgk (fun op hop => by obtain ⟨e, _, rfl⟩ := Go.Conc.mem_ofEvents hop; rfl) (fun op hop => by obtain ⟨e, he, rfl⟩ := Go.Conc.mem_ofEvents hop; exact touch_mute (hm e he)) (fun op hop => by obtain ⟨e, he, rfl⟩ := Go.Conc.mem_ofEvents hop; exact low_mute (hm e he) B)
/-- the crowd: goroutine 0, goroutine k, the last one, and leavers between them -/
structure Crew (P : Program) (t : Trace) (gs : Array Goroutine) (k : Nat) (q : Nat → Nat) : Prop where
  pos : 0 < k
  size : gs.size = k + 1
  old : ∀ i g, 0 < i → i < k → gs[i]? = some g → QuitsD P (q i) (Deaf t i) g
  above : ∀ j, k < j → Deaf t j = 0
theorem Crew.keep {P : Program} {t t' : Trace} {gs gs' : Array Goroutine} {q : Nat → Nat} (h : Crew P t gs k q) (hs : gs'.size = gs.size) (hg : ∀ i, 0 < i → i < k → gs'[i]? = gs[i]?) (hd : ∀ i, i ≠ 0 → i ≠ k → Deaf t' i = Deaf t i) : Crew P t' gs' k q :=
  ⟨h.pos, hs.trans h.size, fun i g h0 hk hi => by rw [hd i (by omega) (by omega)]; exact h.old i g h0 hk (by rw [← hg i h0 hk]; exact hi), fun j hj => by rw [hd j (by have := h.pos; omega) (by omega)]; exact h.above j hj⟩
theorem Crew.own {P : Program} {gs : Array Goroutine} {q : Nat → Nat} (h : Crew P t gs k q) {i : Nat} (hi : i = 0 ∨ i = k) (x y z : Goroutine) (w' : World) (fn : FuncId) (pos : String) (es : Array Event) :
    Crew P (t ++ MemOp.ofEvents i fn pos es) ((gs.map (woken P x y w')).setIfInBounds i z) k q := by
  refine h.keep (by simp) (fun j h0 hk => ?_) fun j h0 hk => Deaf_other t (g' := i) (by omega) _ (fun op hop => by obtain ⟨e, _, rfl⟩ := Go.Conc.mem_ofEvents hop; rfl)
  rw [Array.getElem?_setIfInBounds_ne (by omega), Array.getElem?_map]
  cases hj : gs[j]? with
  | none => rfl
  | some y => simp [woken_quitsD (h.old j y h0 hk hj)]
theorem Crew.slip {P : Program} {gs : Array Goroutine} {q : Nat → Nat} (h : Crew P t gs k q) {i m : Nat} (h0 : 0 < i) (hk : i < k) {x y : Goroutine} {w' : World} {fn : FuncId} {pos : String} {es : Array Event} (hq : QuitsD P m (deafBehind (Deaf t i) es) y) :
    Crew P (t ++ MemOp.ofEvents i fn pos es) ((gs.map (woken P x y w')).setIfInBounds i y) k (upd q i m) := by
  have hlt : i < gs.size := by rw [h.size]; omega
  refine ⟨h.pos, by simp [h.size], fun j g hj0 hjk hj => ?_, fun j hj => ?_⟩
  · by_cases hji : i = j
    · subst hji
      rw [Array.getElem?_setIfInBounds_self_of_lt (by simpa using hlt)] at hj
      obtain rfl := Option.some.inj hj
      rw [upd_same, Deaf_own]
      exact hq
    · rw [Array.getElem?_setIfInBounds_ne hji, Array.getElem?_map] at hj
      obtain ⟨y', hy, rfl⟩ := Option.map_eq_some_iff.1 hj
      have hqj := h.old j y' hj0 hjk hy
      rw [woken_quitsD hqj, upd_ne q m (Ne.symm hji), Deaf_other t hji _ (fun op hop => by obtain ⟨e, _, rfl⟩ := Go.Conc.mem_ofEvents hop; rfl)]
      exact hqj
  · rw [Deaf_other t (g' := i) (by omega) _ (fun op hop => by obtain ⟨e, _, rfl⟩ := Go.Conc.mem_ofEvents hop; rfl)]
    exact h.above j hj
theorem Crew.awake {P : Program} {gs : Array Goroutine} {q : Nat → Nat} (h : Crew P t gs k q) {a b : Goroutine} (ha : gs[0]? = some a) (hb : gs[k]? = some b) (sa : a.status = .running ∨ a.status = .blocked ∨ a.status = .finished) (sb : b.status = .running ∨ b.status = .blocked ∨ b.status = .finished) : ∀ g ∈ gs, awake g := by
  intro g hg
  obtain ⟨i, hi, rfl⟩ := Array.mem_iff_getElem.1 hg
  rcases Nat.eq_zero_or_pos i with rfl | hp
  · have : gs[0] = a := by simpa [Array.getElem?_eq_getElem hi] using ha
    rw [this]; exact awake_of sa
  · by_cases hk : i = k
    · subst hk
      have : gs[i] = b := by simpa [Array.getElem?_eq_getElem hi] using hb
      rw [this]; exact awake_of sb
    · exact awake_of ((h.old i _ hp (by have := h.size; omega) (Array.getElem?_eq_getElem hi)).status.elim .inl fun x => .inr (.inr x))
/-- the leavers offer nothing -/
theorem Crew.offers {P : Program} {gs : Array Goroutine} {q : Nat → Nat} (h : Crew P t gs k q) {i : Nat} {g : Goroutine} (h0 : 0 < i) (hk : i < k) (hi : gs[i]? = some g) (c : Nat) (s : Bool) : offersAt g c s = [] :=
  offersAt_of_not_blocked (by rcases (h.old i g h0 hk hi).status with x | x <;> rw [x] <;> simp) c s
/-- nobody offers -/
theorem Crew.partners_nil {P : Program} {gs : Array Goroutine} {q : Nat → Nat} (h : Crew P t gs k q) {i : Nat} {a b : Goroutine} {c : Nat} {s : Bool} (ha : gs[0]? = some a) (hb : gs[k]? = some b) (oa : i ≠ 0 → offersAt a c s = []) (ob : i ≠ k → offersAt b c s = []) : partners (gs.setIfInBounds i ph) c s = [] := by
  refine Go.Conc.partners_nil fun j g hj => ?_
  rcases getElem?_stand gs i j g hj with ⟨_, rfl⟩ | ⟨hne, hj'⟩
  · exact offersAt_ph c s
  · rcases Nat.eq_zero_or_pos j with rfl | hp
    · rw [ha] at hj'; cases hj'; exact oa (Ne.symm hne)
    · by_cases hk : j = k
      · subst hk; rw [hb] at hj'; cases hj'; exact ob (Ne.symm hne)
      · exact h.offers hp (by have := (Array.getElem?_eq_some_iff.1 hj').1; have := h.size; omega) hj' c s
/-- the other one alone offers -/
theorem Crew.partners_one {P : Program} {gs : Array Goroutine} {q : Nat → Nat} (h : Crew P t gs k q) {i j : Nat} (hij : (i = 0 ∧ j = k) ∨ (i = k ∧ j = 0)) {x : Goroutine} {c : Nat} {s : Bool} (hx : gs[j]? = some x) (ox : offersAt x c s = [0]) : partners (gs.setIfInBounds i ph) c s = [(j, 0)] := by
  have hne : j ≠ i := by have := h.pos; omega
  rw [Go.Conc.partners_one (stand_get hne hx) fun m y hm hy => ?_, ox]
  · rfl
  · rcases getElem?_stand gs i m y hy with ⟨_, rfl⟩ | ⟨hne', hy'⟩
    · exact offersAt_ph c s
    · exact h.offers (by omega) (by have := (Array.getElem?_eq_some_iff.1 hy').1; have := h.size; omega) hy' c s
end
/-! ### the scripts -/
section
variable (P : Program) (c Lw : Nat) (S : World → Prop)
def AtSend4 (v : Value) (Next : Goroutine → Prop) (g : Goroutine) : Prop :=
  g.status = .running ∧ ∃ g₂ z es, (∀ w, S w → stepG P false g w = .comm g₂ #[scase c v z] true .send w es) ∧ (∀ e ∈ es, EvS Lw e) ∧ Next (Go.Conc.served g₂ undef)
def AtClose4 (g : Goroutine) : Prop :=
  g.status = .running ∧ mayWake P g = true ∧ ∃ (g₂ : Goroutine) (es : Array Event) (n : Nat), (∀ w buf s r tm, S w → w.heap[c]? = some (.chan 4 buf false s r tm) → stepG P false g w = .go g₂ (w.setChan c 4 buf true s r tm) (es.push ⟨.obj c, true, true⟩)) ∧
    (∀ e ∈ es, EvS Lw e) ∧ QuitsIn P n g₂
def DB4 (w w' : World) (es : Array Event) : Prop := w' = w ∧ ∀ e ∈ es, EvS Lw e
def Sends4 : List Value → Goroutine → Prop
  | [], g => ∃ n, Goes P false (fun _ w₁ => S w₁) (DB4 Lw) (fun g₁ _ => AtClose4 P c Lw S g₁) n g default
  | v :: vs, g => ∃ n, Goes P false (fun _ w₁ => S w₁) (DB4 Lw) (fun g₁ _ => AtSend4 P c Lw S v (Sends4 vs) g₁) n g default
def StopB4 : List Value → Goroutine → World → Prop
  | [] => fun g₁ _ => AtClose4 P c Lw S g₁
  | v :: vs => fun g₁ _ => AtSend4 P c Lw S v (Sends4 P c Lw S vs) g₁
theorem sends4_iff (vs : List Value) (g : Goroutine) : Sends4 P c Lw S vs g ↔ ∃ n, Goes P false (fun _ w₁ => S w₁) (DB4 Lw) (StopB4 P c Lw S vs) n g default := by
  cases vs <;> exact Iff.rfl
def DA4 (w w' : World) (es : Array Event) : Prop := (S w → S w') ∧ w'.heap[c]? = w.heap[c]? ∧ w.heap.size ≤ w'.heap.size ∧ ∀ e ∈ es, EvR Lw w'.heap.size e
def AtRecv4 (z : Value) (Next : Goroutine → World → Prop) (g : Goroutine) (w : World) : Prop :=
  g.status = .running ∧ ∃ es, stepG P true g w = .comm (core g) #[rcase c z] true (.recv true) w es ∧ (∀ e ∈ es, EvR Lw w.heap.size e) ∧ ∀ w₂, Aside c w w₂ → Next (core g) w₂
def Recvs4 (z : Value) (Fin : Goroutine → World → Prop) : List Value → Goroutine → World → Prop
  | [], g, w => ∃ n, Goes P true (Aside c) (DA4 c Lw S) (AtRecv4 P c Lw z fun g₂ w₂ => Fin (Go.Conc.served g₂ (.tuple #[z, .bool false])) w₂) n g w
  | v :: vs, g, w => ∃ n, Goes P true (Aside c) (DA4 c Lw S) (AtRecv4 P c Lw z fun g₂ w₂ => Recvs4 z Fin vs (Go.Conc.served g₂ (.tuple #[v, .bool true])) w₂) n g w
def StopA4 (z : Value) (Fin : Goroutine → World → Prop) : List Value → Goroutine → World → Prop
  | [] => AtRecv4 P c Lw z fun g₂ w₂ => Fin (Go.Conc.served g₂ (.tuple #[z, .bool false])) w₂
  | v :: vs => AtRecv4 P c Lw z fun g₂ w₂ => Recvs4 P c Lw S z Fin vs (Go.Conc.served g₂ (.tuple #[v, .bool true])) w₂
theorem recvs4_iff (z : Value) (Fin : Goroutine → World → Prop) (vs : List Value) (g : Goroutine) (w : World) : Recvs4 P c Lw S z Fin vs g w ↔ ∃ n, Goes P true (Aside c) (DA4 c Lw S) (StopA4 P c Lw S z Fin vs) n g w := by
  cases vs <;> exact Iff.rfl
/-- where the receiver stands -/
def SitA4 (z : Value) (Fin : Goroutine → World → Prop) (vs : List Value) (ra : Nat) (a : Goroutine) (w : World) : Prop :=
  (∃ n, ra = n + 1 ∧ Goes P true (Aside c) (DA4 c Lw S) (StopA4 P c Lw S z Fin vs) n a w) ∨
  (ra = 0 ∧ ∃ g, a = parked (core g) #[rcase c z] (.recv true) ∧ ∀ w₁, Aside c w w₁ → StopA4 P c Lw S z Fin vs g w₁)
def SitB4 (vs : List Value) (rb : Nat) (b : Goroutine) : Prop :=
  (∃ n, rb = n + 1 ∧ Goes P false (fun _ w₁ => S w₁) (DB4 Lw) (StopB4 P c Lw S vs) n b default) ∨
  (rb = 0 ∧ ∃ v vs' g₂ z', vs = v :: vs' ∧ b = parked g₂ #[scase c v z'] .send ∧ Sends4 P c Lw S vs' (Go.Conc.served g₂ undef))
end
section
variable {P : Program} {c Lw : Nat} {S : World → Prop} {z : Value} {Fin : Goroutine → World → Prop}
theorem StopA4.running {vs : List Value} {g : Goroutine} {w : World} (h : StopA4 P c Lw S z Fin vs g w) : g.status = .running := by cases vs <;> exact h.1
theorem StopB4.running {vs : List Value} {g : Goroutine} {w : World} (h : StopB4 P c Lw S vs g w) : g.status = .running := by cases vs <;> exact h.1
theorem StopA4.comm {vs : List Value} {g : Goroutine} {w : World} (h : StopA4 P c Lw S z Fin vs g w) : ∃ es, stepG P true g w = .comm (core g) #[rcase c z] true (.recv true) w es ∧ ∀ e ∈ es, EvR Lw w.heap.size e := by
  cases vs <;> exact let ⟨_, es, h1, h2, _⟩ := h; ⟨es, h1, h2⟩
theorem StopA4.cons {v : Value} {vs : List Value} {g : Goroutine} {w : World} (h : StopA4 P c Lw S z Fin (v :: vs) g w) : ∀ w₂, Aside c w w₂ → Recvs4 P c Lw S z Fin vs (Go.Conc.served (core g) (.tuple #[v, .bool true])) w₂ :=
  let ⟨_, _, _, _, h3⟩ := h; h3
theorem StopA4.nil {g : Goroutine} {w : World} (h : StopA4 P c Lw S z Fin [] g w) : ∀ w₂, Aside c w w₂ → Fin (Go.Conc.served (core g) (.tuple #[z, .bool false])) w₂ :=
  let ⟨_, _, _, _, h3⟩ := h; h3
theorem StopA4.again {vs : List Value} {g : Goroutine} {w : World} (h : StopA4 P c Lw S z Fin vs g w) : StopA4 P c Lw S z Fin vs { parked (core g) #[rcase c z] (.recv true) with status := .running } w := by
  have e : stepG P true { parked (core g) #[rcase c z] (.recv true) with status := .running } w = stepG P true g w := stepG_same rfl rfl rfl w
  cases vs <;> exact let ⟨_, es, h1, h2, h3⟩ := h; ⟨rfl, es, by rw [e]; exact h1, h2, h3⟩
theorem SitA4.rely {vs : List Value} {ra : Nat} {a : Goroutine} {w w₁ : World} (h : SitA4 P c Lw S z Fin vs ra a w) (hr : Aside c w w₁) : SitA4 P c Lw S z Fin vs ra a w₁ := by
  rcases h with ⟨n, e, hg⟩ | ⟨e, g, ea, hs⟩
  · exact .inl ⟨n, e, Goes.rely (R := Aside c) (fun _ _ _ h h' => Aside.trans h h') hg hr⟩
  · exact .inr ⟨e, g, ea, fun w₂ h₂ => hs w₂ (hr.trans h₂)⟩
theorem SitA4.status {vs : List Value} {ra : Nat} {a : Goroutine} {w : World} (h : SitA4 P c Lw S z Fin vs ra a w) : (a.status = .running ∧ 0 < ra) ∨ (a.status = .blocked ∧ ra = 0) := by
  rcases h with ⟨n, e, hg⟩ | ⟨e, g, rfl, _⟩
  · exact .inl ⟨hg.running (fun _ _ => StopA4.running) w (Aside.refl c w), by omega⟩
  · exact .inr ⟨rfl, e⟩
theorem SitB4.status {vs : List Value} {rb : Nat} {b : Goroutine} {w : World} (hS : S w) (h : SitB4 P c Lw S vs rb b) : (b.status = .running ∧ 0 < rb) ∨ (b.status = .blocked ∧ rb = 0) := by
  rcases h with ⟨n, e, hg⟩ | ⟨e, v, vs', g, z', _, rfl, _⟩
  · exact .inl ⟨hg.running (fun _ _ => StopB4.running) w hS, by omega⟩
  · exact .inr ⟨rfl, e⟩
theorem SitA4.woken {vs : List Value} {ra : Nat} {a g g' : Goroutine} {w w' : World} {cap s r : Nat} {buf : Array Value} {tm : Bool} (h : SitA4 P c Lw S z Fin vs ra a w) (hc : w'.heap[c]? = some (.chan cap buf false s r tm)) : woken P g g' w' a = a := by
  rcases h with ⟨n, e, hg⟩ | ⟨e, g, rfl, _⟩
  · exact woken_run (hg.running (fun _ _ => StopA4.running) w (Aside.refl c w))
  · exact woken_recv_open _ _ hc
theorem SitB4.woken {vs : List Value} {rb : Nat} {b g g' : Goroutine} {w w' : World} {cap s r : Nat} {buf : Array Value} {tm : Bool} (hS : S w) (h : SitB4 P c Lw S vs rb b) (hc : w'.heap[c]? = some (.chan cap buf false s r tm)) : woken P g g' w' b = b := by
  rcases h with ⟨n, e, hg⟩ | ⟨e, v, vs', g, z', _, rfl, _⟩
  · exact woken_run (hg.running (fun _ _ => StopB4.running) w hS)
  · exact woken_send_open _ _ hc
end
end Cc
end Go.Proofs.Ytbioidbbijmnjaa
