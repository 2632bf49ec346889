/-
  CcBeside: a tree of steps is carried out by a machine in which all others only leave, on whatever tape.
-/
import Derived.Test.YtbioidbbijmnjaaCcTree
import Derived.Conc.FxBegin
namespace Go.Proofs.Ytbioidbbijmnjaa
set_option linter.unusedVariables false
set_option linter.unusedSimpArgs false
open Go.Conc
open Go.ConcN (sumTo upd sumTo_upd upd_ne upd_same)
namespace Cc
def NoS : Loc → Prop := fun _ => False
theorem low_evL {B n : Nat} {e : Event} (h : Low n e) (hB : n ≤ B) : EvL NoS B e := by
  obtain ⟨loc, wr, sy⟩ := e
  rcases h with ⟨a, h1, h2, h3⟩ | ⟨r, h1, h2, h3⟩ | h1
  · simp only at h1 h3
    subst h1 h3
    exact ⟨fun x _ hs => hs.elim, by simp, by simp, show a.block < B by omega⟩
  · simp only at h1 h3
    subst h1 h3
    refine ⟨fun x _ hs => hs.elim, by simp, by simp, ?_⟩
    cases sy
    · show r < B; omega
    · show r < B; omega
  · simp only at h1
    subst h1
    refine ⟨fun x _ hs => hs.elim, by simp, by simp, ?_⟩
    cases wr <;> cases sy <;> trivial
theorem Tree.at {P : Program} {Q : Frame → World → Prop} {fr : Frame} {cs : List Frame} {w : World} (h : Tree P Q fr cs w) (d : Nat) : Tree P Q fr cs (w.at d) := by
  cases h with
  | stop _ _ h hq => exact .stop fr (w.at d) h fun d' => hq d'
  | step _ _ _ n fr' cs' w' es h ht => exact .step fr cs (w.at d) n fr' cs' w' es (fun d' => h d') ht
theorem tp_at (w : World) (d : Nat) : tp w w.tape d = w.at d := rfl
theorem walk_tree {P : Program} {Q : Frame → World → Prop} {fr : Frame} {cs : List Frame} {w : World} (ht : Tree P Q fr cs w) : ∀ (base : List Frame) (M : Nat) (d0 : Nat) (gs : Array Goroutine) (sl : Option (Nat × Nat)) (t : Trace) (q : Nat → Nat) (B : Nat),
    sumTo gs.size q = M → gs[0]? = some (G fr (cs ++ base)) → Leavers P t gs q → Past NoS B t → w.heap.size ≤ B →
    ∃ (N : Nat) (gs' : Array Goroutine) (fr' : Frame) (w' : World) (sl' : Option (Nat × Nat)) (t' : Trace) (q' : Nat → Nat) (B' : Nat),
      runNT P N (crowd gs (w.at d0) sl) t = (.next (crowd gs' w' sl'), t') ∧ gs'.size = gs.size ∧ gs'[0]? = some (G fr' base) ∧ OkR P fr' ∧ (∀ d, Q fr' (w'.at d)) ∧ Leavers P t' gs' q' ∧ Past NoS B' t' ∧ w'.heap.size ≤ B' := by
  induction ht with
  | stop fr w h hq =>
    intro base M d0 gs sl t q B hM h0 hL hP hB
    exact ⟨0, gs, fr, w.at d0, sl, t, q, B, rfl, rfl, by simpa using h0, h, fun d => hq d, hL, hP, hB⟩
  | step fr cs w n fr' cs' w' es h ht ih =>
    intro base M
    induction M using Nat.strongRecOn with
    | _ M ihM =>
      intro d0 gs sl t q B hM h0 hL hP hB
      have hrun : (G fr (cs ++ base)).status = .running := rfl
      have hpos : 0 < gs.size := (Array.getElem?_eq_some_iff.1 h0).1
      have haw : ∀ g ∈ gs, awake g := by
        intro g hg
        obtain ⟨i, hi, rfl⟩ := Array.mem_iff_getElem.1 hg
        rcases Nat.eq_zero_or_pos i with rfl | hp
        · have : gs[0] = G fr (cs ++ base) := by simpa [Array.getElem?_eq_getElem hi] using h0
          rw [this]; exact awake_of (.inl hrun)
        · exact awake_of ((hL.old i _ hp (Array.getElem?_eq_getElem hi)).status.elim .inl fun x => .inr (.inr x))
      obtain ⟨i, g, d, sl', hi, hg, hst⟩ := crowd_pick (P := P) (w := w.at d0) (sl := sl) haw ⟨0, _, h0, hrun⟩
      rcases Nat.eq_zero_or_pos i with rfl | hp
      · obtain rfl : g = G fr (cs ++ base) := by rw [h0] at hi; exact (Option.some.inj hi).symm
        have hd := h d
        have hgo : stepG P true (G fr (cs ++ base)) (w.at d) = .go (G (fr' d) (cs' d ++ base)) (w' d) (es d) := by
          have := hd.eq base (w.at d).tape (w.at d).drawn (fun i _ => rfl)
          have e1 : tp (w' d) (w.at d).tape ((w.at d).drawn + n d) = w' d := by rw [← hd.drawn, ← hd.tape]; rfl
          rw [e1] at this
          exact this
        have hrunT := runT_crowd_go (P := P) (sl := sl') (i := 0) hi (show stepG P (0 == 0) (G fr (cs ++ base)) ((w.at d0).at d) = _ from hgo)
        have hsz : ((gs.map (woken P (G fr (cs ++ base)) (G (fr' d) (cs' d ++ base)) (w' d))).setIfInBounds 0 (G (fr' d) (cs' d ++ base))).size = gs.size := by simp
        have hP' : Past NoS (max B (w' d).heap.size) (t ++ MemOp.ofEvents 0 (G fr (cs ++ base)).frame.fn (G fr (cs ++ base)).frame.place (es d)) :=
          (hP.mono (Nat.le_max_left _ _)).own fun e he => low_evL (hd.low e he) (Nat.le_max_right _ _)
        obtain ⟨N, gs', fr'', w'', sl'', t', q', B', hr, hs', h0', hok, hQ, hL', hP'', hB'⟩ := ih d base (sumTo gs.size q) (w' d).drawn ((gs.map (woken P (G fr (cs ++ base)) (G (fr' d) (cs' d ++ base)) (w' d))).setIfInBounds 0 (G (fr' d) (cs' d ++ base))) sl' _ q _ (by rw [hsz]) (by simp [hpos]) (hL.own hpos _ _ (es d)) hP' (Nat.le_max_right _ _)
        refine ⟨N + 1, gs', fr'', w'', sl'', t', q', B', ?_, hs'.trans hsz, h0', hok, hQ, hL', hP'', hB'⟩
        simp only [runNT, hst, hrunT]
        exact hr
      · have hq := hL.old i g hp hi
        have hi0 : (i == 0) = false := by simp; omega
        have hlt : i < gs.size := (Array.getElem?_eq_some_iff.1 hi).1
        cases hqi : q i with
        | zero => rw [hqi] at hq; rw [hq.1] at hg; cases hg
        | succ k =>
          rw [hqi] at hq
          rcases hq with ⟨hf, _⟩ | ⟨_, g', es', hm, hstp, hq'⟩
          · rw [hf] at hg; cases hg
          have hrunT := runT_crowd_go (P := P) (sl := sl') (i := i) hi (by rw [hi0]; exact hstp ((w.at d0).at d))
          have hsz : ((gs.map (woken P g g' ((w.at d0).at d))).setIfInBounds i g').size = gs.size := by simp
          have hsum : sumTo gs.size (upd q i k) + (k + 1) = sumTo gs.size q + k := by
            have := sumTo_upd q k id hlt
            simpa [hqi] using this
          obtain ⟨N, gs', fr'', w'', sl'', t', q', B', hr, hs', h0', hok, hQ, hL', hP'', hB'⟩ := ihM (sumTo gs.size (upd q i k)) (by omega) d ((gs.map (woken P g g' ((w.at d0).at d))).setIfInBounds i g') sl' (t ++ MemOp.ofEvents i g.frame.fn g.frame.place es') (upd q i k) B (by rw [hsz])
            (by rw [Array.getElem?_setIfInBounds_ne (by omega), Array.getElem?_map, h0]; simp [woken_run hrun])
            ⟨fun j x hj hx => by
              by_cases hji : i = j
              · subst hji
                rw [Array.getElem?_setIfInBounds_self_of_lt (by simpa using hlt)] at hx
                obtain rfl := Option.some.inj hx
                rw [upd_same, Deaf_own]
                exact hq'
              · rw [Array.getElem?_setIfInBounds_ne hji, Array.getElem?_map] at hx
                obtain ⟨y, hy, rfl⟩ := Option.map_eq_some_iff.1 hx
                have hqj := hL.old j y hj hy
                rw [woken_quitsD hqj, upd_ne q k (Ne.symm hji), Deaf_other t hji _ (fun op hop => by obtain ⟨e, _, rfl⟩ := Go.Conc.mem_ofEvents hop; rfl)]
                exact hqj,
             fun j hj => by
              rw [Deaf_other t (g' := i) (by simp at hj; omega) _ (fun op hop => by obtain ⟨e, _, rfl⟩ := Go.Conc.mem_ofEvents hop; rfl)]
              exact hL.above j (by simpa using hj)⟩
            (hP.mute (by omega) hm) hB
          refine ⟨N + 1, gs', fr'', w'', sl'', t', q', B', ?_, hs'.trans hsz, h0', hok, hQ, hL', hP'', hB'⟩
          simp only [runNT, hst, hrunT]
          exact hr
end Cc
end Go.Proofs.Ytbioidbbijmnjaa
