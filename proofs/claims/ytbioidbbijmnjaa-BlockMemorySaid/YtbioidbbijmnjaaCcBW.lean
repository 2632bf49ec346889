/-
  CcBW: from any frame to a frame: goroutine 0's way beside leavers, with trees of lone calls and phases with a child.
-/
import Derived.Test.YtbioidbbijmnjaaCcPhase
namespace Go.Proofs.Ytbioidbbijmnjaa
set_option linter.unusedVariables false
set_option linter.unusedSimpArgs false
open Go.Conc
open Go.ConcN (sumTo upd sumTo_upd upd_ne upd_same)
namespace Cc
def BW (P : Program) (g : Goroutine) (w : World) (Φ : Goroutine → World → Prop) : Prop :=
  ∀ (d : Nat) (gs : Array Goroutine) (sl : Option (Nat × Nat)) (t : Trace) (q : Nat → Nat) (B : Nat), gs[0]? = some g → Leavers P t gs q → Past NoS B t → w.heap.size ≤ B →
    ∃ N m' t', runNT P N (crowd gs (w.at d) sl) t = (.next m', t') ∧ PDone P Φ m' t'
section
variable {P : Program} {g : Goroutine} {w : World} {Φ Ψ : Goroutine → World → Prop}
theorem BW.done (h : ∀ d, Φ g (w.at d)) : BW P g w Φ := fun d gs sl t q B h0 hL hP hB => ⟨0, _, t, rfl, gs, g, w.at d, sl, q, B, rfl, h0, h d, hL, hP, hB⟩
theorem BW.bind (h : BW P g w Φ) (hn : ∀ g' w', Φ g' w' → BW P g' w' Ψ) : BW P g w Ψ := fun d gs sl t q B h0 hL hP hB => by
  obtain ⟨N, m', t', hr, gs', g', w', sl', q', B', rfl, h0', hΦ, hL', hP', hB'⟩ := h d gs sl t q B h0 hL hP hB
  obtain ⟨M, m'', t'', hr', hd⟩ := hn g' w' hΦ w'.drawn gs' sl' t' q' B' h0' hL' hP' hB'
  exact ⟨N + M, m'', t'', by rw [runNT_add, hr]; exact hr', hd⟩
theorem BW.mono (h : BW P g w Φ) (hn : ∀ g' w', Φ g' w' → Ψ g' w') : BW P g w Ψ := fun d gs sl t q B h0 hL hP hB => by
  obtain ⟨N, m', t', hr, gs', g', w', sl', q', B', rfl, h0', hΦ, hL', hP', hB'⟩ := h d gs sl t q B h0 hL hP hB
  exact ⟨N, _, t', hr, gs', g', w', sl', q', B', rfl, h0', hn _ _ hΦ, hL', hP', hB'⟩
theorem BW.at (h : BW P g w Φ) (d : Nat) : BW P g (w.at d) Φ := fun d' gs sl t q B h0 hL hP hB => h d' gs sl t q B h0 hL hP hB
/-- the leavers slip until goroutine 0 is picked -/
theorem pick0 (hrun : g.status = .running) : ∀ (M : Nat) (d : Nat) (gs : Array Goroutine) (sl : Option (Nat × Nat)) (t : Trace) (q : Nat → Nat) (B : Nat), sumTo gs.size q = M → gs[0]? = some g → Leavers P t gs q → Past NoS B t →
    ∃ N gs' d' sl' t' q' d2 sl2, runNT P N (crowd gs (w.at d) sl) t = (.next (crowd gs' (w.at d') sl'), t') ∧ gs'[0]? = some g ∧ Leavers P t' gs' q' ∧ Past NoS B t' ∧ stepT P (crowd gs' (w.at d') sl') = runT P (crowd gs' (w.at d2) sl2) 0 := by
  intro M
  induction M using Nat.strongRecOn with
  | _ M ihM =>
    intro d0 gs sl t q B hM h0 hL hP
    have hpos : 0 < gs.size := (Array.getElem?_eq_some_iff.1 h0).1
    have haw : ∀ g ∈ gs, awake g := by
      intro g' hg
      obtain ⟨i, hi, rfl⟩ := Array.mem_iff_getElem.1 hg
      rcases Nat.eq_zero_or_pos i with rfl | hp
      · have : gs[0] = g := by simpa [Array.getElem?_eq_getElem hi] using h0
        rw [this]; exact awake_of (.inl hrun)
      · exact awake_of ((hL.old i _ hp (Array.getElem?_eq_getElem hi)).status.elim .inl fun x => .inr (.inr x))
    obtain ⟨i, g', d, sl', hi, hg, hst⟩ := crowd_pick (P := P) (w := w.at d0) (sl := sl) haw ⟨0, _, h0, hrun⟩
    rcases Nat.eq_zero_or_pos i with rfl | hp
    · exact ⟨0, gs, d0, sl, t, q, d, sl', rfl, h0, hL, hP, hst⟩
    · have hq := hL.old i g' hp hi
      have hi0 : (i == 0) = false := by simp; omega
      have hlt : i < gs.size := (Array.getElem?_eq_some_iff.1 hi).1
      cases hqi : q i with
      | zero => rw [hqi] at hq; rw [hq.1] at hg; cases hg
      | succ k =>
        rw [hqi] at hq
        rcases hq with ⟨hf, _⟩ | ⟨_, g2, es', hm, hstp, hq'⟩
        · rw [hf] at hg; cases hg
        have hrunT := runT_crowd_go (P := P) (sl := sl') (i := i) hi (by rw [hi0]; exact hstp ((w.at d0).at d))
        have hsz : ((gs.map (woken P g' g2 ((w.at d0).at d))).setIfInBounds i g2).size = gs.size := by simp
        have hsum : sumTo gs.size (upd q i k) + (k + 1) = sumTo gs.size q + k := by
          have := sumTo_upd q k id hlt
          simpa [hqi] using this
        obtain ⟨N, gs', d', sl'', t', q', d2, sl2, hr, h0', hL', hP', hst'⟩ := ihM (sumTo gs.size (upd q i k)) (by omega) d ((gs.map (woken P g' g2 ((w.at d0).at d))).setIfInBounds i g2) sl' (t ++ MemOp.ofEvents i g'.frame.fn g'.frame.place es') (upd q i k) B (by rw [hsz])
          (by rw [Array.getElem?_setIfInBounds_ne (by omega), Array.getElem?_map, h0]; simp [woken_run hrun])
          ⟨fun j x hj hx => by
            by_cases hji : i = j
            · subst hji
              rw [Array.getElem?_setIfInBounds_self_of_lt (by simpa using hlt)] at hx
              obtain rfl := Option.some.inj hx
              rw [upd_same, Deaf_own]
              exact hq'
            · rw [Array.getElem?_setIfInBounds_ne hji, Array.getElem?_map] at hx
              obtain ⟨y, hy, rfl⟩ := Option.map_eq_some_iff.1 hx
              have hqj := hL.old j y hj hy
              rw [woken_quitsD hqj, upd_ne q k (Ne.symm hji), Deaf_other t hji _ (fun op hop => by obtain ⟨e, _, rfl⟩ := Go.Conc.mem_ofEvents hop; rfl)]
              exact hqj,
           fun j hj => by
            rw [Deaf_other t (g' := i) (by simp at hj; omega) _ (fun op hop => by obtain ⟨e, _, rfl⟩ := Go.Conc.mem_ofEvents hop; rfl)]
            exact hL.above j (by simpa using hj)⟩
          (hP.mute (by omega) hm)
        refine ⟨N + 1, gs', d', sl'', t', q', d2, sl2, ?_, h0', hL', hP', hst'⟩
        simp only [runNT, hst, hrunT]
        exact hr
/-- one own step -/
theorem BW.step (hrun : g.status = .running) (h : ∀ d, ∃ g' w' es, stepG P true g (w.at d) = .go g' w' es ∧ w.heap.size ≤ w'.heap.size ∧ (∀ e ∈ es, Low w'.heap.size e) ∧ BW P g' w' Φ) : BW P g w Φ := fun d0 gs sl t q B h0 hL hP hB => by
  obtain ⟨N, gs1, d1, sl1, t1, q1, d2, sl2, hr, h01, hL1, hP1, hst⟩ := pick0 (w := w) hrun _ d0 gs sl t q B rfl h0 hL hP
  have hpos : 0 < gs1.size := (Array.getElem?_eq_some_iff.1 h01).1
  obtain ⟨g', w', es, hgo, hsz, hlow, hbw⟩ := h d2
  have hrunT := runT_crowd_go (P := P) (sl := sl2) (i := 0) h01 (show stepG P (0 == 0) g (w.at d2) = _ from hgo)
  obtain ⟨M, m', t', hr', hd⟩ := hbw w'.drawn ((gs1.map (woken P g g' w')).setIfInBounds 0 g') sl2 (t1 ++ MemOp.ofEvents 0 g.frame.fn g.frame.place es) q1 (max B w'.heap.size) (by rw [Array.getElem?_setIfInBounds_self_of_lt (by simpa using hpos)]) (hL1.own hpos _ _ es)
    ((hP1.mono (Nat.le_max_left _ _)).own fun e he => low_evL (hlow e he) (Nat.le_max_right _ _)) (Nat.le_max_right _ _)
  refine ⟨N + (1 + M), m', t', ?_, hd⟩
  rw [runNT_add, hr]
  show runNT P (1 + M) _ _ = _
  rw [runNT_add]
  simp only [runNT, hst, hrunT]
  exact hr'
/-- a tree of lone steps -/
theorem BW.tree {Q : Frame → World → Prop} {fr : Frame} {cs base : List Frame} (ht : Tree P Q fr cs w) (h : ∀ fr' w', OkR P fr' → (∀ d, Q fr' (w'.at d)) → BW P (G fr' base) w' Φ) : BW P (G fr (cs ++ base)) w Φ := fun d0 gs sl t q B h0 hL hP hB => by
  obtain ⟨N, gs', fr', w', sl', t', q', B', hr, _, h0', hok, hQ, hL', hP', hB'⟩ := walk_tree ht base _ d0 gs sl t q B rfl h0 hL hP hB
  obtain ⟨M, m', t'', hr', hd⟩ := h fr' w' hok hQ w'.drawn gs' sl' t' q' B' h0' hL' hP' hB'
  exact ⟨N + M, m', t'', by rw [runNT_add, hr]; exact hr', hd⟩
/-- a go statement, and the phase that it begins -/
theorem BW.fork {S : World → Prop} {c : Nat} {z : Value} (hrun : g.status = .running) (hSA : ∀ w w₁, Aside c w w₁ → S w → S w₁)
    (h : ∀ d, ∃ g' child w' es s r tm vs, stepG P true g (w.at d) = .spawn g' child w' es ∧ w.heap.size ≤ w'.heap.size ∧ (∀ e ∈ es, Low w'.heap.size e) ∧ w'.heap[c]? = some (.chan 4 #[] false s r tm) ∧ S w' ∧ Recvs4 P c w'.heap.size S z Φ vs g' w' ∧ Sends4 P c w'.heap.size S vs child) : BW P g w Φ := fun d0 gs sl t q B h0 hL hP hB => by
  obtain ⟨N, gs1, d1, sl1, t1, q1, d2, sl2, hr, h01, hL1, hP1, hst⟩ := pick0 (w := w) hrun _ d0 gs sl t q B rfl h0 hL hP
  have hpos : 0 < gs1.size := (Array.getElem?_eq_some_iff.1 h01).1
  obtain ⟨g', child, w', es, s, r, tm, vs, hgo, hsz, hlow, hc, hS, hR, hC⟩ := h d2
  have hrunT := runT_crowd_spawn (P := P) (sl := sl2) (i := 0) h01 (show stepG P (0 == 0) g (w.at d2) = _ from hgo)
  obtain ⟨na, hna⟩ := (recvs4_iff ..).1 hR
  obtain ⟨nb, hnb⟩ := (sends4_iff ..).1 hC
  have hP2 := (hP1.mono (Nat.le_max_left B w'.heap.size)).own (fn := g.frame.fn) (pos := g.frame.place) fun e he => low_evL (hlow e he) (Nat.le_max_right _ _)
  have hk0 : gs1.size ≠ 0 := by omega
  have hdes : ∀ j, j ≠ 0 → Deaf (t1 ++ MemOp.ofEvents 0 g.frame.fn g.frame.place es) j = Deaf t1 j := fun j hj => Deaf_other t1 (g' := 0) (Ne.symm hj) _ (fun op hop => by obtain ⟨e, _, rfl⟩ := Go.Conc.mem_ofEvents hop; rfl)
  have hmid := Mid.start (Mine := MineL w'.heap.size) (x := { g := 0, fn := g.frame.fn, pos := g.frame.place, act := .go gs1.size }) (y := { g := gs1.size, fn := child.frame.fn, pos := g.frame.place, act := .start }) hP2 hk0 (by rw [hdes _ hk0]; exact hL1.above _ (Nat.le_refl _)) rfl rfl rfl rfl
  have hT : t1 ++ ((MemOp.ofEvents 0 g.frame.fn g.frame.place es).push { g := 0, fn := g.frame.fn, pos := g.frame.place, act := .go gs1.size }).push { g := gs1.size, fn := child.frame.fn, pos := g.frame.place, act := .start } = t1 ++ MemOp.ofEvents 0 g.frame.fn g.frame.place es ++ #[{ g := 0, fn := g.frame.fn, pos := g.frame.place, act := .go gs1.size }] ++ #[{ g := gs1.size, fn := child.frame.fn, pos := g.frame.place, act := .start }] := by simp
  have hD2 : ∀ j, j ≠ 0 → Deaf (t1 ++ MemOp.ofEvents 0 g.frame.fn g.frame.place es ++ #[{ g := 0, fn := g.frame.fn, pos := g.frame.place, act := .go gs1.size }] ++ #[{ g := gs1.size, fn := child.frame.fn, pos := g.frame.place, act := .start }]) j = Deaf t1 j := fun j hj => by
    rw [Deaf_push, Deaf_push, hdes j hj]; rfl
  have hinv : PInv P c w'.heap.size S z Φ gs1.size (2 * vs.length + (#[] : Array Value).size + 1, (na + 1) + (nb + 1) + sumTo gs1.size q1) (crowd ((gs1.setIfInBounds 0 g').push child) w' sl2) (t1 ++ MemOp.ofEvents 0 g.frame.fn g.frame.place es ++ #[{ g := 0, fn := g.frame.fn, pos := g.frame.place, act := .go gs1.size }] ++ #[{ g := gs1.size, fn := child.frame.fn, pos := g.frame.place, act := .start }]) := by
    refine .opn _ g' child w' sl2 _ q1 (max B w'.heap.size) #[] vs (na + 1) (nb + 1) s r tm ⟨hpos, by simp, fun i x hi0 hik hi => ?_, fun j hj => ?_⟩ ?_ ?_ hc (by simp) hS (.inl ⟨na, rfl, by simpa using hna⟩) (.inl ⟨nb, rfl, hnb⟩) (by omega) (by omega) hmid (Nat.le_max_right _ _) (Nat.le_max_right _ _)
    · have hi' : gs1[i]? = some x := by
        rw [Array.getElem?_push, if_neg (by simp; omega), Array.getElem?_setIfInBounds_ne (by omega)] at hi
        exact hi
      rw [hD2 i (by omega)]
      exact hL1.old i x hi0 hi'
    · rw [hD2 j (by omega)]
      exact hL1.above j (by omega)
    · rw [Array.getElem?_push_lt (by simpa using hpos)]; simp
    · have e : gs1.size = (gs1.setIfInBounds 0 g').size := by simp
      rw [e, Array.getElem?_push_size]
  obtain ⟨M, m', t', hr', hd⟩ := phase4 hSA _ _ _ hinv
  refine ⟨N + (1 + M), m', t', ?_, hd⟩
  rw [runNT_add, hr]
  show runNT P (1 + M) _ _ = _
  rw [runNT_add]
  simp only [runNT, hst, hrunT, hT]
  exact hr'
end
end Cc
end Go.Proofs.Ytbioidbbijmnjaa
