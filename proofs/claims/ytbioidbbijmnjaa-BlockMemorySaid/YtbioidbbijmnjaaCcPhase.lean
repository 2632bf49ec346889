/-
  CcPhase: one child sends over a channel with room for four and closes it, goroutine 0 receives until it is closed: on every tape, beside leavers.
-/
import Derived.Test.YtbioidbbijmnjaaCcScript
namespace Go.Proofs.Ytbioidbbijmnjaa
set_option linter.unusedVariables false
set_option linter.unusedSimpArgs false
open Go.Conc
open Go.ConcN (sumTo upd sumTo_upd upd_ne upd_same)
namespace Cc
theorem arr_tail (v : Value) (l : List Value) : (⟨v :: l⟩ : Array Value).extract 1 (⟨v :: l⟩ : Array Value).size = ⟨l⟩ := by
  apply Array.ext_getElem?
  intro i
  simp [Array.getElem?_extract]
theorem ofEvents_push (g : Nat) (fn : FuncId) (pos : String) (es : Array Event) (e : Event) : MemOp.ofEvents g fn pos (es.push e) = MemOp.ofEvents g fn pos es ++ #[{ g, fn, pos, act := .ofEvent e }] := by
  rw [ofEvents_eq, ofEvents_eq]; simp
section
variable {P : Program} {k Lw B c : Nat} {t : Trace}
theorem Mid.commsA (h : Mid (MineL Lw) k B t) (hk0 : k ≠ 0) (hc : c < B) {u : Trace} (hu : ∀ op ∈ u, Comm k c op) : Mid (MineL Lw) k B (t ++ u) := by
  obtain ⟨l⟩ := u
  exact Mid.comms hk0 hc h fun op hop => hu op (by simpa using hop)
theorem comms_deafA {u : Trace} (hu : ∀ op ∈ u, Comm k c op) (g : Nat) : Deaf (t ++ u) g = Deaf t g := by
  obtain ⟨l⟩ := u
  exact comms_deaf (fun op hop => hu op (by simpa using hop)) g
theorem Crew.comm {gs gs' : Array Goroutine} {q : Nat → Nat} (h : Crew P t gs k q) {i : Nat} (hi : i = 0 ∨ i = k) (hs : gs'.size = gs.size) (hg : ∀ j, 0 < j → j < k → gs'[j]? = gs[j]?) {fn : FuncId} {pos : String} {es : Array Event} {u : Trace} (hu : ∀ op ∈ u, Comm k c op) :
    Crew P (t ++ (MemOp.ofEvents i fn pos es ++ u)) gs' k q := by
  refine h.keep hs hg fun j h0 hk => ?_
  rw [← Array.append_assoc, comms_deafA hu]
  exact Deaf_other t (g' := i) (by omega) _ (fun op hop => by obtain ⟨e, _, rfl⟩ := Go.Conc.mem_ofEvents hop; rfl)
theorem EvR.mono {n m : Nat} {e : Event} (h : EvR Lw n e) (hm : n ≤ m) : EvR Lw m e := ⟨h.1.mono hm, h.2⟩
end
section
variable (P : Program) (c Lw : Nat) (S : World → Prop) (z : Value) (Fin : Goroutine → World → Prop) (k : Nat)
inductive PInv : Nat × Nat → Machine → Trace → Prop
  | opn (gs : Array Goroutine) (a b : Goroutine) (w : World) (sl : Option (Nat × Nat)) (t : Trace) (q : Nat → Nat) (B : Nat) (buf : Array Value) (vs : List Value) (ra rb s r : Nat) (tm : Bool)
      (crew : Crew P t gs k q) (ha : gs[0]? = some a) (hb : gs[k]? = some b) (hc : w.heap[c]? = some (.chan 4 buf false s r tm)) (h4 : buf.size ≤ 4) (hS : S w)
      (sa : SitA4 P c Lw S z Fin (buf.toList ++ vs) ra a w) (sb : SitB4 P c Lw S vs rb b) (pa : ra = 0 → buf = #[]) (pb : rb = 0 → buf.size = 4) (mid : Mid (MineL Lw) k B t) (hB : w.heap.size ≤ B) (hL : Lw ≤ B) :
      PInv (2 * vs.length + buf.size + 1, ra + rb + sumTo k q) (crowd gs w sl) t
  | shut (gs : Array Goroutine) (a b : Goroutine) (w : World) (sl : Option (Nat × Nat)) (t : Trace) (q : Nat → Nat) (B : Nat) (buf : Array Value) (na nb s r pc : Nat) (tm : Bool)
      (crew : Crew P t gs k q) (ha : gs[0]? = some a) (hb : gs[k]? = some b) (hc : w.heap[c]? = some (.chan 4 buf true s r tm))
      (sa : Goes P true (Aside c) (DA4 c Lw S) (StopA4 P c Lw S z Fin buf.toList) na a w) (sb : QuitsIn P nb b) (mid : Mid (MineL Lw) k B t) (sh : Shut k c pc t) (hB : w.heap.size ≤ B) (hL : Lw ≤ B) :
      PInv (buf.size, na + nb + sumTo k q) (crowd gs w sl) t
def PDone (m : Machine) (t : Trace) : Prop :=
  ∃ (gs : Array Goroutine) (a : Goroutine) (w : World) (sl : Option (Nat × Nat)) (q : Nat → Nat) (B : Nat), m = crowd gs w sl ∧ gs[0]? = some a ∧ Fin a w ∧ Leavers P t gs q ∧ Past NoS B t ∧ w.heap.size ≤ B
abbrev PLt (a b : Nat × Nat) : Prop := Prod.Lex (· < ·) (· < ·) a b
def PNext (μ : Nat × Nat) (t : Trace) (x : Stepped × Array MemOp) : Prop :=
  ∃ m' ops, x = (.next m', ops) ∧ (PDone P Fin m' (t ++ ops) ∨ ∃ μ', PLt μ' μ ∧ PInv P c Lw S z Fin k μ' m' (t ++ ops))
end
section
variable {P : Program} {c Lw : Nat} {S : World → Prop} {z : Value} {Fin : Goroutine → World → Prop} {k : Nat}
variable {gs : Array Goroutine} {a b : Goroutine} {w : World} {sl : Option (Nat × Nat)} {t : Trace} {q : Nat → Nat} {B : Nat} {buf : Array Value} {vs : List Value} {ra rb s r : Nat} {tm : Bool}
theorem lt_c {w : World} {o : Obj} (hc : w.heap[c]? = some o) (hB : w.heap.size ≤ B) : c < B := Nat.lt_of_lt_of_le (Array.getElem?_eq_some_iff.1 hc).1 hB
theorem set_get0 {gs : Array Goroutine} {k : Nat} {x : Goroutine} (hs : gs.size = k + 1) : (gs.setIfInBounds 0 x)[0]? = some x := by
  rw [Array.getElem?_setIfInBounds_self_of_lt (by omega)]
theorem set_getk {gs : Array Goroutine} {k : Nat} {x : Goroutine} (hs : gs.size = k + 1) : (gs.setIfInBounds k x)[k]? = some x := by
  rw [Array.getElem?_setIfInBounds_self_of_lt (by omega)]
set_option maxHeartbeats 1000000 in
/-- the receiver moves, the channel open -/
theorem openA (hSA : ∀ w w₁, Aside c w w₁ → S w → S w₁) (crew : Crew P t gs k q) (ha : gs[0]? = some a) (hb : gs[k]? = some b) (hc : w.heap[c]? = some (.chan 4 buf false s r tm)) (h4 : buf.size ≤ 4) (hS : S w)
    {n : Nat} (sa : Goes P true (Aside c) (DA4 c Lw S) (StopA4 P c Lw S z Fin (buf.toList ++ vs)) n a w) (sb : SitB4 P c Lw S vs rb b) (pb : rb = 0 → buf.size = 4) (mid : Mid (MineL Lw) k B t) (hB : w.heap.size ≤ B) (hL : Lw ≤ B) :
    PNext P c Lw S z Fin k (2 * vs.length + buf.size + 1, n + 1 + rb + sumTo k q) t (runT P (crowd gs w sl) 0) := by
  have hk0 : k ≠ 0 := by have := crew.pos; omega
  have hcB : c < B := lt_c hc hB
  rcases Goes.cases sa with hstop | ⟨n', rfl, hstep⟩
  · have hst := hstop w (Aside.refl c w)
    obtain ⟨es, hcomm, hes⟩ := hst.comm
    have hes' : ∀ e ∈ es, EvR Lw B e := fun e he => (hes e he).mono hB
    have hcomm' : stepG P (0 == 0) a w = .comm (core a) #[rcase c z] true (.recv true) w es := hcomm
    have hmid := mid.own0 (fn := a.frame.fn) (pos := a.frame.place) hk0 hes'
    obtain ⟨l⟩ := buf
    cases l with
    | nil =>
      have hrb : 0 < rb := by
        rcases Nat.eq_zero_or_pos rb with h | h
        · have := pb h; simp at this
        · exact h
      have hbr : b.status = .running := by
        rcases sb.status hS with ⟨h, _⟩ | ⟨_, h⟩
        · exact h
        · omega
      have hp : partners (gs.setIfInBounds 0 ph) c true = [] := crew.partners_nil ha hb (fun h => absurd rfl h) fun _ => offersAt_of_not_blocked (by rw [hbr]; simp) c true
      refine ⟨_, _, crowd_waits ha hcomm' (fun cc hcc => by simp at hcc; subst hcc; exact ways_recv_none hc hp), .inr ⟨_, ?_, .opn (gs.setIfInBounds 0 (parked (core a) #[rcase c z] (.recv true))) (parked (core a) #[rcase c z] (.recv true)) b w sl _ q B #[] vs 0 rb s r tm ?_ (set_get0 crew.size) ?_ hc (by simp) hS (.inr ⟨rfl, a, rfl, hstop⟩) sb (fun _ => rfl) pb hmid hB hL⟩⟩
      · exact Prod.Lex.right _ (by omega)
      · have := crew.comm (c := c) (i := 0) (.inl rfl) (gs' := gs.setIfInBounds 0 (parked (core a) #[rcase c z] (.recv true))) (by simp) (fun j h0 _ => by rw [Array.getElem?_setIfInBounds_ne (by omega)]) (fn := a.frame.fn) (pos := a.frame.place) (es := es) (u := #[]) (by simp)
        simpa using this
      · rw [Array.getElem?_setIfInBounds_ne (by omega)]; exact hb
    | cons v l =>
      have hfin : (core a).finishComm P #[rcase c z] (.recv true) 0 v true = Go.Conc.served (core a) (.tuple #[v, .bool true]) := finishComm_recv P _ _ true 0 v true
      have hnext := hst.cons (v := v) (vs := l ++ vs)
      rcases Nat.eq_zero_or_pos rb with h0 | h0
      · subst h0
        rcases sb with ⟨m, e, _⟩ | ⟨_, v', vs', g₂, z', rfl, rfl, hsb⟩
        · omega
        have hp : partners (gs.setIfInBounds 0 ph) c true = [(k, 0)] := crew.partners_one (.inl ⟨rfl, rfl⟩) hb (by rw [offersAt_parked_send, if_pos rfl])
        have hrun := crowd_recv_full (sl := sl) ha hcomm' hc (by simp) (by omega) hb hp
        rw [show ((⟨v :: l⟩ : Array Value).getD 0 undef) = v from rfl, arr_tail, hfin, finishComm_send] at hrun
        obtain ⟨n₁, hn₁⟩ := (recvs4_iff ..).1 (hnext (w.setChan c 4 ((⟨l⟩ : Array Value).push v') false (s + 1) (r + 1) tm) (Aside.put c w _))
        obtain ⟨m₁, hm₁⟩ := (sends4_iff ..).1 hsb
        have hu : ∀ op ∈ (#[{ g := 0, fn := (core a).frame.fn, pos := (core a).frame.place, act := .recv c r 4 }, { g := 0, fn := (core a).frame.fn, pos := (core a).frame.place, act := .recvDone c r }, { g := k, fn := g₂.frame.fn, pos := g₂.frame.place, act := .send c s }, { g := k, fn := g₂.frame.fn, pos := g₂.frame.place, act := .sendDone c s }] : Array MemOp), Comm k c op := by
          intro op hop
          simp only [List.mem_toArray, List.mem_cons, List.not_mem_nil, or_false] at hop
          rcases hop with rfl | rfl | rfl | rfl
          · exact ⟨.inl rfl, .inr (.inr (.inl ⟨_, _, rfl⟩))⟩
          · exact ⟨.inl rfl, .inr (.inr (.inr (.inl ⟨_, rfl⟩)))⟩
          · exact ⟨.inr rfl, .inl ⟨_, rfl⟩⟩
          · exact ⟨.inr rfl, .inr (.inl ⟨_, rfl⟩)⟩
        refine ⟨_, _, hrun, .inr ⟨_, ?_, .opn ((gs.setIfInBounds k (Go.Conc.served g₂ undef)).setIfInBounds 0 (Go.Conc.served (core a) (.tuple #[v, .bool true]))) (Go.Conc.served (core a) (.tuple #[v, .bool true])) (Go.Conc.served g₂ undef) (w.setChan c 4 ((⟨l⟩ : Array Value).push v') false (s + 1) (r + 1) tm) sl _ q B ((⟨l⟩ : Array Value).push v') vs' (n₁ + 1) (m₁ + 1) (s + 1) (r + 1) tm ?_ (set_get0 (k := k) (by simp [crew.size])) ?_ (heap_put hc) (by simp at h4 ⊢; omega) (hSA _ _ (Aside.put c w _) hS) (.inl ⟨n₁, rfl, ?_⟩) (.inl ⟨m₁, rfl, hm₁⟩) (by omega) (by omega) ?_ (by rw [size_setChan]; exact hB) hL⟩⟩
        · exact Prod.Lex.left _ _ (by simp)
        · exact crew.comm (.inl rfl) (by simp) (fun j h0 hk => by rw [Array.getElem?_setIfInBounds_ne (by omega), Array.getElem?_setIfInBounds_ne (by omega)]) hu
        · rw [Array.getElem?_setIfInBounds_ne (by omega)]; exact set_getk crew.size
        · have e : ((⟨l⟩ : Array Value).push v').toList ++ vs' = l ++ v' :: vs' := by simp
          rw [e]; exact hn₁
        · rw [← Array.append_assoc]; exact hmid.commsA hk0 hcB hu
      · have hbr : b.status = .running := by
          rcases sb.status hS with ⟨h, _⟩ | ⟨_, h⟩
          · exact h
          · omega
        have hp : partners (gs.setIfInBounds 0 ph) c true = [] := crew.partners_nil ha hb (fun h => absurd rfl h) fun _ => offersAt_of_not_blocked (by rw [hbr]; simp) c true
        have hrun := crowd_recv_buf (sl := sl) ha hcomm' hc (by simp) hp
        rw [show ((⟨v :: l⟩ : Array Value).getD 0 undef) = v from rfl, arr_tail, hfin] at hrun
        obtain ⟨n₁, hn₁⟩ := (recvs4_iff ..).1 (hnext (w.setChan c 4 ⟨l⟩ false s (r + 1) tm) (Aside.put c w _))
        have hu : ∀ op ∈ (#[{ g := 0, fn := (core a).frame.fn, pos := (core a).frame.place, act := .recv c r 4 }, { g := 0, fn := (core a).frame.fn, pos := (core a).frame.place, act := .recvDone c r }] : Array MemOp), Comm k c op := by
          intro op hop
          simp only [List.mem_toArray, List.mem_cons, List.not_mem_nil, or_false] at hop
          rcases hop with rfl | rfl
          · exact ⟨.inl rfl, .inr (.inr (.inl ⟨_, _, rfl⟩))⟩
          · exact ⟨.inl rfl, .inr (.inr (.inr (.inl ⟨_, rfl⟩)))⟩
        refine ⟨_, _, hrun, .inr ⟨_, ?_, .opn (gs.setIfInBounds 0 (Go.Conc.served (core a) (.tuple #[v, .bool true]))) (Go.Conc.served (core a) (.tuple #[v, .bool true])) b (w.setChan c 4 ⟨l⟩ false s (r + 1) tm) sl _ q B ⟨l⟩ vs (n₁ + 1) rb s (r + 1) tm ?_ (set_get0 crew.size) ?_ (heap_put hc) (by simp at h4 ⊢; omega) (hSA _ _ (Aside.put c w _) hS) (.inl ⟨n₁, rfl, hn₁⟩) sb (by omega) (by omega) ?_ (by rw [size_setChan]; exact hB) hL⟩⟩
        · exact Prod.Lex.left _ _ (by simp)
        · exact crew.comm (.inl rfl) (by simp) (fun j h0 hk => by rw [Array.getElem?_setIfInBounds_ne (by omega)]) hu
        · rw [Array.getElem?_setIfInBounds_ne (by omega)]; exact hb
        · rw [← Array.append_assoc]; exact hmid.commsA hk0 hcB hu
  · obtain ⟨a', w', es, hgo, ⟨hd1, hd2, hd3, hd4⟩, hG⟩ := hstep w (Aside.refl c w)
    have hc' : w'.heap[c]? = some (.chan 4 buf false s r tm) := hd2.trans hc
    have hrun := runT_crowd_go (P := P) (sl := sl) (i := 0) ha (show stepG P (0 == 0) a w = _ from hgo)
    refine ⟨_, _, hrun, .inr ⟨_, ?_, .opn ((gs.map (woken P a a' w')).setIfInBounds 0 a') a' b w' sl _ q (max B w'.heap.size) buf vs (n' + 1) rb s r tm (crew.own (.inl rfl) a a' a' w' _ _ es) (set_get0 (k := k) (by simp [crew.size])) ?_ hc' h4 (hd1 hS) (.inl ⟨n', rfl, hG⟩) sb (by omega) pb
      ((mid.mono (Nat.le_max_left _ _)).own0 hk0 fun e he => (hd4 e he).mono (Nat.le_max_right _ _)) (Nat.le_max_right _ _) (Nat.le_trans hL (Nat.le_max_left _ _))⟩⟩
    · exact Prod.Lex.right _ (by omega)
    · rw [Array.getElem?_setIfInBounds_ne (by omega), Array.getElem?_map, hb]
      simp [sb.woken hS hc']
set_option maxHeartbeats 1000000 in
/-- the sender moves, the channel open -/
theorem openB (hSA : ∀ w w₁, Aside c w w₁ → S w → S w₁) (crew : Crew P t gs k q) (ha : gs[0]? = some a) (hb : gs[k]? = some b) (hc : w.heap[c]? = some (.chan 4 buf false s r tm)) (h4 : buf.size ≤ 4) (hS : S w)
    {n : Nat} (sa : SitA4 P c Lw S z Fin (buf.toList ++ vs) ra a w) (sb : Goes P false (fun _ w₁ => S w₁) (DB4 Lw) (StopB4 P c Lw S vs) n b default) (pa : ra = 0 → buf = #[]) (mid : Mid (MineL Lw) k B t) (hB : w.heap.size ≤ B) (hL : Lw ≤ B) :
    PNext P c Lw S z Fin k (2 * vs.length + buf.size + 1, ra + (n + 1) + sumTo k q) t (runT P (crowd gs w sl) k) := by
  have hk0 : k ≠ 0 := by have := crew.pos; omega
  have hkf : (k == 0) = false := by simp [hk0]
  have hcB : c < B := lt_c hc hB
  rcases Goes.cases sb with hstop | ⟨n', rfl, hstep⟩
  · have hst := hstop w hS
    cases vs with
    | nil =>
      obtain ⟨hbr, hmay, g₂, es, m, hcl, hes, hq⟩ := hst
      have hgo := hcl w buf s r tm hS hc
      have hrun := runT_crowd_go (P := P) (sl := sl) (i := k) hb (by rw [hkf]; exact hgo)
      have hg2 : g₂.status = .running ∨ g₂.status = .finished := hq.status
      have hc' : (w.setChan c 4 buf true s r tm).heap[c]? = some (.chan 4 buf true s r tm) := heap_put hc
      have hasd : Aside c w (w.setChan c 4 buf true s r tm) := Aside.put c w _
      have hmid : Mid (MineL Lw) k B (t ++ MemOp.ofEvents k b.frame.fn b.frame.place es) := mid.ownk hk0 hL hes
      have hco : Comm k c { g := k, fn := b.frame.fn, pos := b.frame.place, act := .close c } := ⟨.inr rfl, .inr (.inr (.inr (.inr rfl)))⟩
      have heq : t ++ MemOp.ofEvents k b.frame.fn b.frame.place (es.push ⟨.obj c, true, true⟩) = t ++ MemOp.ofEvents k b.frame.fn b.frame.place es ++ #[{ g := k, fn := b.frame.fn, pos := b.frame.place, act := .close c }] := by
        rw [ofEvents_push, ← Array.append_assoc]; rfl
      -- the receiver, perhaps let try again
      obtain ⟨a', na, ha', hna, hG⟩ : ∃ a' na, woken P b g₂ (w.setChan c 4 buf true s r tm) a = a' ∧ na ≤ ra ∧ Goes P true (Aside c) (DA4 c Lw S) (StopA4 P c Lw S z Fin buf.toList) na a' (w.setChan c 4 buf true s r tm) := by
        rw [List.append_nil] at sa
        rcases sa with ⟨m', e, hg⟩ | ⟨e, g, rfl, hs⟩
        · exact ⟨a, m', woken_run (hg.running (fun _ _ => StopA4.running) w (Aside.refl c w)), by omega, Goes.rely (R := Aside c) (fun _ _ _ h h' => Aside.trans h h') hg hasd⟩
        · refine ⟨{ parked (core g) #[rcase c z] (.recv true) with status := .running }, 0, ?_, Nat.zero_le _, fun w₁ h₁ => (hs w₁ (hasd.trans h₁)).again⟩
          unfold woken
          rw [if_pos (by rcases hg2 with h | h <;> simp [hmay, h])]
          exact again_recv_closed hc'
      refine ⟨_, _, hrun, .inr ⟨_, ?_, .shut ((gs.map (woken P b g₂ (w.setChan c 4 buf true s r tm))).setIfInBounds k g₂) a' g₂ (w.setChan c 4 buf true s r tm) sl _ q B buf na m s r (t ++ MemOp.ofEvents k b.frame.fn b.frame.place es).size tm (crew.own (.inr rfl) b g₂ g₂ _ _ _ _) ?_ (set_getk (by simp [crew.size])) hc' hG hq ?_ ?_ (by rw [size_setChan]; exact hB) hL⟩⟩
      · exact Prod.Lex.left _ _ (by simp)
      · rw [Array.getElem?_setIfInBounds_ne hk0, Array.getElem?_map, ha]
        simp [ha']
      · rw [heq]; exact hmid.comm1 hk0 hcB hco
      · rw [heq]
        have hlast := last_get (t ++ MemOp.ofEvents k b.frame.fn b.frame.place es) { g := k, fn := b.frame.fn, pos := b.frame.place, act := .close c }
        refine ⟨⟨_, hlast, rfl, rfl⟩, heard_new hmid.hearsk, fun i op hi _ _ => ?_⟩
        have := lt_size_of_getElem? hi
        simp at this ⊢
        omega
    | cons v vs =>
      obtain ⟨hbr, g₂, z', es, hcm, hes, hnx⟩ := hst
      have hcomm := hcm w hS
      have hcomm' : stepG P (k == 0) b w = .comm g₂ #[scase c v z'] true .send w es := by rw [hkf]; exact hcomm
      have hmid : Mid (MineL Lw) k B (t ++ MemOp.ofEvents k b.frame.fn b.frame.place es) := mid.ownk hk0 hL hes
      rcases Nat.eq_zero_or_pos ra with h0 | h0
      · -- the receiver waits
        subst h0
        obtain rfl := pa rfl
        rcases sa with ⟨m, e, _⟩ | ⟨_, g, rfl, hs⟩
        · omega
        obtain ⟨m₁, hm₁⟩ := (sends4_iff ..).1 hnx
        have hp : partners (gs.setIfInBounds k ph) c false = [(0, 0)] := crew.partners_one (.inr ⟨rfl, rfl⟩) ha (by rw [offersAt_parked_recv, if_pos rfl])
        have hrun := crowd_send_meets (sl := sl) hb hcomm' hc (Ne.symm hk0) ha hp
        rw [finishComm_recv, finishComm_send] at hrun
        have hasd : Aside c w (w.setChan c 4 #[] false (s + 1) (r + 1) tm) := Aside.put c w _
        obtain ⟨n₁, hn₁⟩ := (recvs4_iff ..).1 ((hs w (Aside.refl c w)).cons (v := v) (vs := vs) _ hasd)
        have hu : ∀ op ∈ (#[{ g := k, fn := g₂.frame.fn, pos := g₂.frame.place, act := .send c s }, { g := 0, fn := (core g).frame.fn, pos := (core g).frame.place, act := .recv c r 4 }, { g := k, fn := g₂.frame.fn, pos := g₂.frame.place, act := .sendDone c s }, { g := 0, fn := (core g).frame.fn, pos := (core g).frame.place, act := .recvDone c r }] : Array MemOp), Comm k c op := by
          intro op hop
          simp only [List.mem_toArray, List.mem_cons, List.not_mem_nil, or_false] at hop
          rcases hop with rfl | rfl | rfl | rfl
          · exact ⟨.inr rfl, .inl ⟨_, rfl⟩⟩
          · exact ⟨.inl rfl, .inr (.inr (.inl ⟨_, _, rfl⟩))⟩
          · exact ⟨.inr rfl, .inr (.inl ⟨_, rfl⟩)⟩
          · exact ⟨.inl rfl, .inr (.inr (.inr (.inl ⟨_, rfl⟩)))⟩
        refine ⟨_, _, hrun, .inr ⟨_, ?_, .opn ((gs.setIfInBounds 0 (Go.Conc.served (core g) (.tuple #[v, .bool true]))).setIfInBounds k (Go.Conc.served g₂ undef)) (Go.Conc.served (core g) (.tuple #[v, .bool true])) (Go.Conc.served g₂ undef) (w.setChan c 4 #[] false (s + 1) (r + 1) tm) sl _ q B #[] vs (n₁ + 1) (m₁ + 1) (s + 1) (r + 1) tm ?_ ?_ (set_getk (by simp [crew.size])) (heap_put hc) (by simp) (hSA _ _ hasd hS) (.inl ⟨n₁, rfl, hn₁⟩) (.inl ⟨m₁, rfl, hm₁⟩) (by omega) (by omega) ?_ (by rw [size_setChan]; exact hB) hL⟩⟩
        · exact Prod.Lex.left _ _ (by simp)
        · exact crew.comm (.inr rfl) (by simp) (fun j h0 hk => by rw [Array.getElem?_setIfInBounds_ne (by omega), Array.getElem?_setIfInBounds_ne (by omega)]) hu
        · rw [Array.getElem?_setIfInBounds_ne hk0]; exact set_get0 crew.size
        · rw [← Array.append_assoc]; exact hmid.commsA hk0 hcB hu
      · have har : a.status = .running := by
          rcases sa.status with ⟨h, _⟩ | ⟨_, h⟩
          · exact h
          · omega
        have hp : partners (gs.setIfInBounds k ph) c false = [] := crew.partners_nil ha hb (fun _ => offersAt_of_not_blocked (by rw [har]; simp) c false) fun h => absurd rfl h
        by_cases hroom : buf.size < 4
        · have hrun := crowd_send_room (sl := sl) hb hcomm' hc hroom hp
          rw [finishComm_send] at hrun
          have hasd : Aside c w (w.setChan c 4 (buf.push v) false (s + 1) r tm) := Aside.put c w _
          obtain ⟨m₁, hm₁⟩ := (sends4_iff ..).1 hnx
          have hu : ∀ op ∈ (#[{ g := k, fn := g₂.frame.fn, pos := g₂.frame.place, act := .send c s }, { g := k, fn := g₂.frame.fn, pos := g₂.frame.place, act := .sendDone c s }] : Array MemOp), Comm k c op := by
            intro op hop
            simp only [List.mem_toArray, List.mem_cons, List.not_mem_nil, or_false] at hop
            rcases hop with rfl | rfl
            · exact ⟨.inr rfl, .inl ⟨_, rfl⟩⟩
            · exact ⟨.inr rfl, .inr (.inl ⟨_, rfl⟩)⟩
          refine ⟨_, _, hrun, .inr ⟨_, ?_, .opn (gs.setIfInBounds k (Go.Conc.served g₂ undef)) a (Go.Conc.served g₂ undef) (w.setChan c 4 (buf.push v) false (s + 1) r tm) sl _ q B (buf.push v) vs ra (m₁ + 1) (s + 1) r tm ?_ ?_ (set_getk crew.size) (heap_put hc) (by simp; omega) (hSA _ _ hasd hS) ?_ (.inl ⟨m₁, rfl, hm₁⟩) (by omega) (by omega) ?_ (by rw [size_setChan]; exact hB) hL⟩⟩
          · exact Prod.Lex.left _ _ (by simp; omega)
          · exact crew.comm (.inr rfl) (by simp) (fun j h0 hk => by rw [Array.getElem?_setIfInBounds_ne (by omega)]) hu
          · rw [Array.getElem?_setIfInBounds_ne hk0]; exact ha
          · have e : (buf.push v).toList ++ vs = buf.toList ++ v :: vs := by simp
            rw [e]; exact sa.rely hasd
          · rw [← Array.append_assoc]; exact hmid.commsA hk0 hcB hu
        · refine ⟨_, _, crowd_waits hb hcomm' (fun cc hcc => by simp at hcc; subst hcc; exact ways_send_none hc (by omega) hp), .inr ⟨_, ?_, .opn (gs.setIfInBounds k (parked g₂ #[scase c v z'] .send)) a (parked g₂ #[scase c v z'] .send) w sl _ q B buf (v :: vs) ra 0 s r tm ?_ ?_ (set_getk crew.size) hc h4 hS sa (.inr ⟨rfl, v, vs, g₂, z', rfl, rfl, hnx⟩) pa (fun _ => by omega) hmid hB hL⟩⟩
          · exact Prod.Lex.right _ (by omega)
          · have := crew.comm (c := c) (i := k) (.inr rfl) (gs' := gs.setIfInBounds k (parked g₂ #[scase c v z'] .send)) (by simp) (fun j h0 _ => by rw [Array.getElem?_setIfInBounds_ne (by omega)]) (fn := b.frame.fn) (pos := b.frame.place) (es := es) (u := #[]) (by simp)
            simpa using this
          · rw [Array.getElem?_setIfInBounds_ne hk0]; exact ha
  · obtain ⟨b', w', es, hgo, ⟨hw, hes⟩, hG⟩ := hstep w hS
    rw [hw] at hgo
    have hrun := runT_crowd_go (P := P) (sl := sl) (i := k) hb (by rw [hkf]; exact hgo)
    have hG' : Goes P false (fun _ w₁ => S w₁) (DB4 Lw) (StopB4 P c Lw S vs) n' b' default := by cases n' <;> exact hG
    refine ⟨_, _, hrun, .inr ⟨_, ?_, .opn ((gs.map (woken P b b' w)).setIfInBounds k b') a b' w sl _ q B buf vs ra (n' + 1) s r tm (crew.own (.inr rfl) b b' b' w _ _ es) ?_ (set_getk (by simp [crew.size])) hc h4 hS sa (.inl ⟨n', rfl, hG'⟩) pa (by omega) (mid.ownk hk0 hL hes) hB hL⟩⟩
    · exact Prod.Lex.right _ (by omega)
    · rw [Array.getElem?_setIfInBounds_ne hk0, Array.getElem?_map, ha]
      simp [sa.woken hc]
/-- a leaver slips -/
theorem slip_ex {i : Nat} {g : Goroutine} (crew : Crew P t gs k q) (h0 : 0 < i) (hk : i < k) (hi : gs[i]? = some g) (hr : g.status = .running) :
    ∃ m g' es, (∀ e ∈ es, Event.mute e = true) ∧ sumTo k (upd q i m) + 1 = sumTo k q ∧ (∀ w sl, runT P (crowd gs w sl) i = (.next (crowd ((gs.map (woken P g g' w)).setIfInBounds i g') w sl), MemOp.ofEvents i g.frame.fn g.frame.place es)) ∧ (∀ w, Crew P (t ++ MemOp.ofEvents i g.frame.fn g.frame.place es) ((gs.map (woken P g g' w)).setIfInBounds i g') k (upd q i m)) := by
  have hq := crew.old i g h0 hk hi
  have hi0 : (i == 0) = false := by simp; omega
  cases hqi : q i with
  | zero => rw [hqi] at hq; rw [hq.1] at hr; cases hr
  | succ m =>
    rw [hqi] at hq
    rcases hq with ⟨hf, _⟩ | ⟨_, g', es, hm, hstp, hq'⟩
    · rw [hf] at hr; cases hr
    refine ⟨m, g', es, hm, ?_, fun w sl => runT_crowd_go hi (by rw [hi0]; exact hstp w), fun w => crew.slip h0 hk hq'⟩
    have hs : sumTo k (upd q i m) + (m + 1) = sumTo k q + m := by
      have := sumTo_upd q m id hk
      simpa [hqi] using this
    omega
theorem openL {i : Nat} {g : Goroutine} (h0 : 0 < i) (hk : i < k) (hi : gs[i]? = some g) (hr : g.status = .running) (crew : Crew P t gs k q) (ha : gs[0]? = some a) (hb : gs[k]? = some b) (hc : w.heap[c]? = some (.chan 4 buf false s r tm)) (h4 : buf.size ≤ 4) (hS : S w)
    (sa : SitA4 P c Lw S z Fin (buf.toList ++ vs) ra a w) (sb : SitB4 P c Lw S vs rb b) (pa : ra = 0 → buf = #[]) (pb : rb = 0 → buf.size = 4) (mid : Mid (MineL Lw) k B t) (hB : w.heap.size ≤ B) (hL : Lw ≤ B) :
    PNext P c Lw S z Fin k (2 * vs.length + buf.size + 1, ra + rb + sumTo k q) t (runT P (crowd gs w sl) i) := by
  obtain ⟨m, g', es, hm, hsum, hrun, hcrew⟩ := slip_ex crew h0 hk hi hr
  refine ⟨_, _, hrun w sl, .inr ⟨_, ?_, .opn ((gs.map (woken P g g' w)).setIfInBounds i g') a b w sl _ (upd q i m) B buf vs ra rb s r tm (hcrew w) ?_ ?_ hc h4 hS sa sb pa pb (mid.mute (by omega) (by omega) hm) hB hL⟩⟩
  · exact Prod.Lex.right _ (by omega)
  · rw [Array.getElem?_setIfInBounds_ne (by omega), Array.getElem?_map, ha]
    simp [sa.woken hc]
  · rw [Array.getElem?_setIfInBounds_ne (by omega), Array.getElem?_map, hb]
    simp [sb.woken hS hc]
theorem mute_shut {c pc : Nat} {u : Trace} (sh : Shut k c pc t) (hu : ∀ op ∈ u, op.act.touch? = none) : Shut k c pc (t ++ u) := sh.app fun op hop _ => hu op hop
theorem woken_quits {nb : Nat} {x y : Goroutine} {w' : World} (hq : QuitsIn P nb b) : woken P x y w' b = b := woken_quitsD (QuitsD.of_quitsIn hq)
theorem goes_run {n : Nat} (sa : Goes P true (Aside c) (DA4 c Lw S) (StopA4 P c Lw S z Fin vs) n a w) : a.status = .running := sa.running (fun _ _ => StopA4.running) w (Aside.refl c w)
theorem shutL {i pc na nb : Nat} {g : Goroutine} (h0 : 0 < i) (hk : i < k) (hi : gs[i]? = some g) (hr : g.status = .running) (crew : Crew P t gs k q) (ha : gs[0]? = some a) (hb : gs[k]? = some b) (hc : w.heap[c]? = some (.chan 4 buf true s r tm))
    (sa : Goes P true (Aside c) (DA4 c Lw S) (StopA4 P c Lw S z Fin buf.toList) na a w) (sb : QuitsIn P nb b) (mid : Mid (MineL Lw) k B t) (sh : Shut k c pc t) (hB : w.heap.size ≤ B) (hL : Lw ≤ B) :
    PNext P c Lw S z Fin k (buf.size, na + nb + sumTo k q) t (runT P (crowd gs w sl) i) := by
  obtain ⟨m, g', es, hm, hsum, hrun, hcrew⟩ := slip_ex crew h0 hk hi hr
  refine ⟨_, _, hrun w sl, .inr ⟨_, ?_, .shut ((gs.map (woken P g g' w)).setIfInBounds i g') a b w sl _ (upd q i m) B buf na nb s r pc tm (hcrew w) ?_ ?_ hc sa sb (mid.mute (by omega) (by omega) hm) (mute_shut sh fun op hop => by obtain ⟨e, he, rfl⟩ := Go.Conc.mem_ofEvents hop; exact touch_mute (hm e he)) hB hL⟩⟩
  · exact Prod.Lex.right _ (by omega)
  · rw [Array.getElem?_setIfInBounds_ne (by omega), Array.getElem?_map, ha]
    simp [woken_run (goes_run sa)]
  · rw [Array.getElem?_setIfInBounds_ne (by omega), Array.getElem?_map, hb]
    simp [woken_quits sb]
theorem shutB {pc na nb : Nat} (hr : b.status = .running) (crew : Crew P t gs k q) (ha : gs[0]? = some a) (hb : gs[k]? = some b) (hc : w.heap[c]? = some (.chan 4 buf true s r tm))
    (sa : Goes P true (Aside c) (DA4 c Lw S) (StopA4 P c Lw S z Fin buf.toList) na a w) (sb : QuitsIn P nb b) (mid : Mid (MineL Lw) k B t) (sh : Shut k c pc t) (hB : w.heap.size ≤ B) (hL : Lw ≤ B) :
    PNext P c Lw S z Fin k (buf.size, na + nb + sumTo k q) t (runT P (crowd gs w sl) k) := by
  have hk0 : k ≠ 0 := by have := crew.pos; omega
  have hkf : (k == 0) = false := by simp [hk0]
  cases nb with
  | zero => have : b.status = .finished := sb; rw [this] at hr; cases hr
  | succ nb =>
    rcases sb with h | ⟨_, b', hstp, hq⟩
    · rw [h] at hr; cases hr
    have hrun := runT_crowd_go (P := P) (sl := sl) (i := k) hb (by rw [hkf]; exact hstp w)
    have hnil : MemOp.ofEvents k b.frame.fn b.frame.place #[] = #[] := by rw [ofEvents_eq]; simp
    refine ⟨_, _, hrun, .inr ⟨_, ?_, .shut ((gs.map (woken P b b' w)).setIfInBounds k b') a b' w sl _ q B buf na nb s r pc tm (crew.own (.inr rfl) b b' b' w _ _ #[]) ?_ (set_getk (by simp [crew.size])) hc sa hq (by rw [hnil]; simpa using mid) (by rw [hnil]; simpa using sh) hB hL⟩⟩
    · exact Prod.Lex.right _ (by omega)
    · rw [Array.getElem?_setIfInBounds_ne hk0, Array.getElem?_map, ha]
      simp [woken_run (goes_run sa)]
set_option maxHeartbeats 1000000 in
theorem shutA {pc na nb : Nat} (crew : Crew P t gs k q) (ha : gs[0]? = some a) (hb : gs[k]? = some b) (hc : w.heap[c]? = some (.chan 4 buf true s r tm))
    (sa : Goes P true (Aside c) (DA4 c Lw S) (StopA4 P c Lw S z Fin buf.toList) na a w) (sb : QuitsIn P nb b) (mid : Mid (MineL Lw) k B t) (sh : Shut k c pc t) (hB : w.heap.size ≤ B) (hL : Lw ≤ B) :
    PNext P c Lw S z Fin k (buf.size, na + nb + sumTo k q) t (runT P (crowd gs w sl) 0) := by
  have hk0 : k ≠ 0 := by have := crew.pos; omega
  have hcB : c < B := lt_c hc hB
  have hbn : ∀ s, offersAt b c s = [] := fun s => offersAt_of_not_blocked (by rcases sb.status with x | x <;> rw [x] <;> simp) c s
  have hp : partners (gs.setIfInBounds 0 ph) c true = [] := crew.partners_nil ha hb (fun h => absurd rfl h) fun _ => hbn _
  rcases Goes.cases sa with hstop | ⟨n', rfl, hstep⟩
  · have hst := hstop w (Aside.refl c w)
    obtain ⟨es, hcomm, hes⟩ := hst.comm
    have hes' : ∀ e ∈ es, EvR Lw B e := fun e he => (hes e he).mono hB
    have hcomm' : stepG P (0 == 0) a w = .comm (core a) #[rcase c z] true (.recv true) w es := hcomm
    have hmid := mid.own0 (fn := a.frame.fn) (pos := a.frame.place) hk0 hes'
    obtain ⟨l⟩ := buf
    cases l with
    | nil =>
      have hrun := crowd_recv_closed (sl := sl) ha hcomm' hc hp
      rw [show (core a).finishComm P #[rcase c z] (.recv true) 0 z false = Go.Conc.served (core a) (.tuple #[z, .bool false]) from finishComm_recv P _ _ true 0 z false] at hrun
      have hsh : Shut k c pc (t ++ MemOp.ofEvents 0 a.frame.fn a.frame.place es) := sh.app fun op hop hg => by obtain ⟨e, _, rfl⟩ := Go.Conc.mem_ofEvents hop; exact absurd hg (by simpa using hk0.symm)
      have hpast := hmid.past hk0 hsh (y := { g := 0, fn := (core a).frame.fn, pos := (core a).frame.place, act := .recvClosed c }) rfl rfl hcB
      have hdeaf : ∀ j, j ≠ 0 → Deaf (t ++ (MemOp.ofEvents 0 a.frame.fn a.frame.place es ++ #[{ g := 0, fn := (core a).frame.fn, pos := (core a).frame.place, act := .recvClosed c }])) j = Deaf t j := fun j hj => by
        refine Deaf_other t (g' := 0) (Ne.symm hj) _ fun op hop => ?_
        rcases Array.mem_append.1 hop with h | h
        · obtain ⟨e, _, rfl⟩ := Go.Conc.mem_ofEvents h; rfl
        · simp at h; subst h; rfl
      refine ⟨_, _, hrun, .inl ⟨_, Go.Conc.served (core a) (.tuple #[z, .bool false]), w, sl, upd q k nb, B, rfl, set_get0 crew.size, hst.nil w (Aside.refl c w), ⟨fun i g h0 hi => ?_, fun j hj => ?_⟩, by rw [← Array.append_assoc]; exact hpast, hB⟩⟩
      · rw [hdeaf i (by omega)]
        rw [Array.getElem?_setIfInBounds_ne (by omega)] at hi
        by_cases hik : i = k
        · subst hik
          rw [hb] at hi; cases hi
          rw [upd_same, mid.hearsk]
          exact QuitsD.of_quitsIn sb
        · rw [upd_ne q nb hik]
          exact crew.old i g h0 (by have := (Array.getElem?_eq_some_iff.1 hi).1; have := crew.size; omega) hi
      · have hj' : k + 1 ≤ j := by simpa [crew.size] using hj
        rw [hdeaf j (by omega)]
        exact crew.above j (by omega)
    | cons v l =>
      have hrun := crowd_recv_buf (sl := sl) ha hcomm' hc (by simp) hp
      rw [show ((⟨v :: l⟩ : Array Value).getD 0 undef) = v from rfl, arr_tail, show (core a).finishComm P #[rcase c z] (.recv true) 0 v true = Go.Conc.served (core a) (.tuple #[v, .bool true]) from finishComm_recv P _ _ true 0 v true] at hrun
      obtain ⟨n₁, hn₁⟩ := (recvs4_iff ..).1 (hst.cons (v := v) (vs := l) (w.setChan c 4 ⟨l⟩ true s (r + 1) tm) (Aside.put c w _))
      have hu : ∀ op ∈ (#[{ g := 0, fn := (core a).frame.fn, pos := (core a).frame.place, act := .recv c r 4 }, { g := 0, fn := (core a).frame.fn, pos := (core a).frame.place, act := .recvDone c r }] : Array MemOp), Comm k c op := by
        intro op hop
        simp only [List.mem_toArray, List.mem_cons, List.not_mem_nil, or_false] at hop
        rcases hop with rfl | rfl
        · exact ⟨.inl rfl, .inr (.inr (.inl ⟨_, _, rfl⟩))⟩
        · exact ⟨.inl rfl, .inr (.inr (.inr (.inl ⟨_, rfl⟩)))⟩
      refine ⟨_, _, hrun, .inr ⟨_, ?_, .shut (gs.setIfInBounds 0 (Go.Conc.served (core a) (.tuple #[v, .bool true]))) (Go.Conc.served (core a) (.tuple #[v, .bool true])) b (w.setChan c 4 ⟨l⟩ true s (r + 1) tm) sl _ q B ⟨l⟩ n₁ nb s (r + 1) pc tm ?_ (set_get0 crew.size) ?_ (heap_put hc) hn₁ sb ?_ ?_ (by rw [size_setChan]; exact hB) hL⟩⟩
      · exact Prod.Lex.left _ _ (by simp)
      · exact crew.comm (.inl rfl) (by simp) (fun j h0 hk => by rw [Array.getElem?_setIfInBounds_ne (by omega)]) hu
      · rw [Array.getElem?_setIfInBounds_ne (by omega)]; exact hb
      · rw [← Array.append_assoc]; exact hmid.commsA hk0 hcB hu
      · refine sh.app fun op hop hg => ?_
        rcases Array.mem_append.1 hop with h | h
        · obtain ⟨e, _, rfl⟩ := Go.Conc.mem_ofEvents h; exact absurd hg (by simpa using hk0.symm)
        · exact (hu op h).touch
  · obtain ⟨a', w', es, hgo, ⟨hd1, hd2, hd3, hd4⟩, hG⟩ := hstep w (Aside.refl c w)
    have hc' : w'.heap[c]? = some (.chan 4 buf true s r tm) := hd2.trans hc
    have hrun := runT_crowd_go (P := P) (sl := sl) (i := 0) ha (show stepG P (0 == 0) a w = _ from hgo)
    refine ⟨_, _, hrun, .inr ⟨_, ?_, .shut ((gs.map (woken P a a' w')).setIfInBounds 0 a') a' b w' sl _ q (max B w'.heap.size) buf n' nb s r pc tm (crew.own (.inl rfl) a a' a' w' _ _ es) (set_get0 (k := k) (by simp [crew.size])) ?_ hc' hG sb
      ((mid.mono (Nat.le_max_left _ _)).own0 hk0 fun e he => (hd4 e he).mono (Nat.le_max_right _ _)) (sh.app fun op hop hg => by obtain ⟨e, _, rfl⟩ := Go.Conc.mem_ofEvents hop; exact absurd hg (by simpa using hk0.symm)) (Nat.le_max_right _ _) (Nat.le_trans hL (Nat.le_max_left _ _))⟩⟩
    · exact Prod.Lex.right _ (by omega)
    · rw [Array.getElem?_setIfInBounds_ne (by omega), Array.getElem?_map, hb]
      simp [woken_quits sb]
/-- every step of the machine -/
theorem pstep (hSA : ∀ w w₁, Aside c w w₁ → S w → S w₁) {μ : Nat × Nat} {m : Machine} (h : PInv P c Lw S z Fin k μ m t) : PNext P c Lw S z Fin k μ t (stepT P m) := by
  cases h with
  | opn gs a b w sl _ q B buf vs ra rb s r tm crew ha hb hc h4 hS sa sb pa pb mid hB hL =>
    have st1 := sa.status
    have st2 := sb.status hS
    have haw := crew.awake ha hb (st1.elim (fun x => .inl x.1) fun x => .inr (.inl x.1)) (st2.elim (fun x => .inl x.1) fun x => .inr (.inl x.1))
    have hsome : ∃ (i : Nat) (g : Goroutine), gs[i]? = some g ∧ g.status = .running := by
      rcases st1 with ⟨h1, _⟩ | ⟨_, h1⟩
      · exact ⟨0, a, ha, h1⟩
      · rcases st2 with ⟨h2, _⟩ | ⟨_, h2⟩
        · exact ⟨k, b, hb, h2⟩
        · have := pa h1; have := pb h2; simp_all
    obtain ⟨i, g, d, sl', hi, hg, hst⟩ := crowd_pick (P := P) (w := w) (sl := sl) haw hsome
    rw [hst]
    have hSd := hSA _ _ (Aside.at c w d) hS
    have sad := sa.rely (Aside.at c w d)
    rcases Nat.eq_zero_or_pos i with rfl | hp
    · rw [ha] at hi; cases hi
      rcases sad with ⟨n, rfl, hG⟩ | ⟨e, g', rfl, _⟩
      · exact openA (w := w.at d) hSA crew ha hb hc h4 hSd hG sb pb mid hB hL
      · cases hg
    · by_cases hik : i = k
      · subst hik
        rw [hb] at hi; cases hi
        rcases sb with ⟨n, rfl, hG⟩ | ⟨_, v, vs', g₂, z', _, rfl, _⟩
        · exact openB (w := w.at d) hSA crew ha hb hc h4 hSd sad hG pa mid hB hL
        · cases hg
      · exact openL (w := w.at d) hp (by have := (Array.getElem?_eq_some_iff.1 hi).1; have := crew.size; omega) hi hg crew ha hb hc h4 hSd sad sb pa pb mid hB hL
  | shut gs a b w sl _ q B buf na nb s r pc tm crew ha hb hc sa sb mid sh hB hL =>
    have haw := crew.awake ha hb (.inl (goes_run sa)) (sb.status.elim .inl fun x => .inr (.inr x))
    obtain ⟨i, g, d, sl', hi, hg, hst⟩ := crowd_pick (P := P) (w := w) (sl := sl) haw ⟨0, a, ha, goes_run sa⟩
    rw [hst]
    have sad := Goes.rely (R := Aside c) (fun _ _ _ h h' => Aside.trans h h') sa (Aside.at c w d)
    rcases Nat.eq_zero_or_pos i with rfl | hp
    · exact shutA (w := w.at d) crew ha hb hc sad sb mid sh hB hL
    · by_cases hik : i = k
      · subst hik
        rw [hb] at hi; cases hi
        exact shutB (w := w.at d) hg crew ha hb hc sad sb mid sh hB hL
      · exact shutL (w := w.at d) hp (by have := (Array.getElem?_eq_some_iff.1 hi).1; have := crew.size; omega) hi hg crew ha hb hc sad sb mid sh hB hL
/-- ████ the phase ████ -/
theorem phase4 (hSA : ∀ w w₁, Aside c w w₁ → S w → S w₁) : ∀ (μ : Nat × Nat) (m : Machine) (t : Trace), PInv P c Lw S z Fin k μ m t → ∃ N m' t', runNT P N m t = (.next m', t') ∧ PDone P Fin m' t' := by
  intro μ
  induction μ using (Prod.lex Nat.lt_wfRel Nat.lt_wfRel).wf.induction with
  | _ μ ih =>
    intro m t h
    obtain ⟨m', ops, hs, h' | ⟨μ', hlt, h'⟩⟩ := pstep hSA h
    · exact ⟨1, m', t ++ ops, by simp only [runNT, hs], h'⟩
    · obtain ⟨N, m'', t'', hr, hd⟩ := ih μ' hlt m' (t ++ ops) h'
      exact ⟨N + 1, m'', t'', by simp only [runNT, hs]; exact hr, hd⟩
end
end Cc
end Go.Proofs.Ytbioidbbijmnjaa
