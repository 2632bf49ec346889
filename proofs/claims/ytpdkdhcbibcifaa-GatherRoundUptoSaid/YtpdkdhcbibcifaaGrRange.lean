/-
  GrRange: a range over an iterator that hands on entries in memory of their own.
-/
import Derived.Test.YtpdkdhcbibcifaaGrEntry
import Derived.RangeFuncNested
import Derived.RangeFuncBound
import Derived.RangeFuncCalls
import Derived.RangeFuncLeaves
import Derived.RangeFuncBox
import Derived.Shelf.Abstract
import Derived.OwnWalkIn
import Derived.TacticsInMore
import Derived.LoopNIn
import Derived.LoopIn
import Derived.Maps.AppendAt
namespace Go.Proofs.Ytpdkdhcbibcifaa
set_option linter.unusedVariables false
set_option linter.unusedSimpArgs false
open Go.ChangeShapes Go.WideShapes Go.ChangeAt Go.RowKit Go.Shelf
namespace Gr
/-- an iterator: each entry comes with data that were made since the round before -/
def SeqE (n : Nat) (P : Program) (g : Nat) (lb : Array Value) (S Sp : List EnS → Prop) (N n₀ : Nat) (w : World) : Prop :=
  ∀ (l : Nat) (J Jx : List EnS → World → Prop) (W : World), Below w.heap.size w W → (∀ s A B, J s A → Below A.heap.size A B → J s B) →
    (∀ pre x W0 W1, J pre W0 → pre.length < N → Below W0.heap.size W0 W1 → Own W1 W0.heap.size x.2 x.1.data → YieldAt Fence.wide (n - 1) P l #[.agg (enV x)] W1 fun e W' =>
      (e = .returned (.bool true) ∧ J (pre ++ [x]) W' ∧ Below n₀ W1 W') ∨ (e = .returned (.bool false) ∧ Jx (pre ++ [x]) W')) →
    J [] W →
    CallsIn Fence.wide n P g (#[.func (.yield l) #[] #[]] ++ lb) W fun e W' => (∃ v, e = .returned v) ∧ ((∃ xs, S xs ∧ J xs W') ∨ (∃ pre, Sp pre ∧ Jx pre W'))
theorem below_putObj {B : Nat} {w W : World} (h : Below B w W) {l : Nat} (o : Obj) (hl : B ≤ l) (hB : B ≤ W.heap.size) : Below B w (W.putObj l o) :=
  h.grown (grownBy_putObj' W l o) hB (fun k e => by cases e; exact hl)
set_option maxHeartbeats 1000000 in
/-- the caller's law -/
theorem wpIn_rangeE {P : Program} {n : Nat} {g : Operand} {p : Tmp} {assign body : Code} {Q : Exit → Act → World → Prop} {a : Act} {w : World} (h1 : 1 ≤ n)
    {gf : Nat} {lb : Array Value} (hg : a.eval g = .func (.func gf) #[] lb) (eg : ∀ args w, (callFunc gf args).run P w = .ok (.enter gf args) w)
    {S Sp : List EnS → Prop} {N n₀ : Nat} (hseq : SeqE (n - 1) P gf lb S Sp N n₀ w) (hn₀ : n₀ ≤ w.heap.size)
    (I : List EnS → World → Prop) (Ix : Code → List EnS → World → Prop) (A : EnS → Act → World → Prop)
    (hI : ∀ s U V, I s U → Below U.heap.size U V → I s V) (hI2 : OwnFrom w.heap.size I) (hIx : ∀ c, OwnFrom w.heap.size (Ix c)) (hA : ∀ x a₁ (U : World) l o o', U.heap[l]? = some (.loop o) → A x a₁ U → A x a₁ (U.putObj l (.loop o')))
    (h0 : I [] w)
    (hassign : ∀ (l : Nat) (pre : List EnS) (x : EnS) (W : World), I pre W →
      assign.wpIn (Fence.wide.inRound l) (n - 1 - 1) P (Exit.then (fun a₁ w₁ => Below W.heap.size W w₁ ∧ A x a₁ w₁) (fun _ _ _ => False)) { tmps := a.tmps.setIfInBounds p (.agg (enV x)), defers := [] } W)
    (hbody : ∀ (l : Nat) (pre : List EnS) (x : EnS) (a₁ : Act) (W0 W1 : World), pre.length < N → I pre W0 → I pre W1 → Own W1 W0.heap.size x.2 x.1.data → W0.heap.size ≤ W1.heap.size → A x a₁ W1 →
      body.wpIn (Fence.wide.inRound l) (n - 1 - 1) P (ownPostK (Below n₀) I Ix (pre ++ [x]) W1) a₁ W1)
    (hdone : ∀ (D : Nat) (xs : List EnS) (W : World), w.heap.size ≤ D → S xs → I xs W → W.heap[D]? = some (.deferred (some [])) → Q .normal { a with defers := { target := .collected D, args := #[] } :: a.defers } W)
    (hstop : ∀ (D : Nat) (c : Code) (pre : List EnS) (W : World), w.heap.size ≤ D → Sp pre → Ix c pre W → W.heap[D]? = some (.deferred (some [])) → c.wpIn Fence.wide n P Q { a with defers := { target := .collected D, args := #[] } :: a.defers } W) :
    (Code.rangeFunc g #[p] assign body).wpIn Fence.wide n P Q a w := by
  refine wpIn_rangeFunc fun fn hfn => ?_
  -- the record of the loop, in its states
  obtain ⟨rec, hrec⟩ : ∃ rec : LoopState → Option Code → Loop, rec = fun st pe => { state := st, pending := pe, fn, tmps := a.tmps, params := #[p], assign, body, defers := w.heap.size } := ⟨_, rfl⟩
  obtain ⟨W1, hW1⟩ : ∃ W1, (w.alloc (.deferred (some []))).alloc (.loop (rec .ready none)) = W1 := ⟨_, rfl⟩
  have hb1 : Below w.heap.size w W1 := by rw [← hW1]; exact ((Below.refl _ w).alloc (Nat.le_refl _) _).alloc (by simp) _
  have hL1 : W1.heap[w.heap.size + 1]? = some (.loop (rec .ready none)) := by
    rw [← hW1]; have := heap_alloc_new (w.alloc (.deferred (some []))) (.loop (rec .ready none)); rwa [World.size_alloc] at this
  have hK1 : W1.heap[w.heap.size]? = some (.deferred (some [])) := by
    rw [← hW1, heap_alloc_old _ _ (by simp)]; exact heap_alloc_new w _
  refine ⟨w.heap.size + 1, [{ target := .collected w.heap.size, args := #[] }], W1, { target := .fn (.func gf) lb, args := #[.func (.yield (w.heap.size + 1)) #[] #[]] }, W1, gf,
    #[.func (.yield (w.heap.size + 1)) #[] #[]] ++ lb, W1, ?_, ?_, fun _ _ => trivial, ?_, fun _ => h1, ?_⟩
  · rw [← hW1, hrec]; exact run_enterLoop_outer _ _ _ _ _
  · simp only [resolve, hg]
    simp [go_sem]
  · simp [invoke, go_sem, eg]
  · refine (hseq (w.heap.size + 1)
      (fun pre W => I pre W ∧ W.heap[w.heap.size + 1]? = some (.loop (rec .ready none)) ∧ W.heap[w.heap.size]? = some (.deferred (some [])))
      (fun pre W => ∃ c, Ix c pre W ∧ W.heap[w.heap.size + 1]? = some (.loop (rec .done (some c))) ∧ W.heap[w.heap.size]? = some (.deferred (some [])))
      W1 hb1 (fun s U V hs hb => ⟨hI s U V hs.1 hb, row_below hs.2.1 hb, row_below hs.2.2 hb⟩) ?_ ⟨hI [] w W1 h0 hb1, hL1, hK1⟩).mono ?_
    · rintro pre x W0 U ⟨hi0, hl0, hk0⟩ hlen hbU hown
      have hi := hI pre W0 U hi0 hbU
      have hl := row_below hl0 hbU
      have hk := row_below hk0 hbU
      have hy := run_yield (P := P) (args := #[.agg (enV x)]) hl (by rw [hrec]; rfl)
      rw [hrec] at hy
      refine ⟨fn, _, assign, body, hy, roundIn_of_wpIn hfn ?_⟩
      have hzip : ((#[p].zip #[Value.agg (enV x)]).foldl (fun tmps (t, a) => tmps.setIfInBounds t a) a.tmps) = a.tmps.setIfInBounds p (.agg (enV x)) := by simp
      show assign.wpIn _ _ P _ { tmps := (#[p].zip #[Value.agg (enV x)]).foldl (fun tmps (t, a) => tmps.setIfInBounds t a) a.tmps, defers := [] } U
      rw [hzip]
      refine wpIn_mono (hassign (w.heap.size + 1) pre x U hi) ?_
      rintro e a₁ V hV
      cases e with
      | normal =>
        obtain ⟨hbV, hAV⟩ := hV
        have hlV := row_below hl hbV
        have hkV := row_below hk hbV
        refine ⟨_, run_beginRound hlV (by rw [hrec]), ?_⟩
        have hlt := row_lt hlV
        have hl2 : (V.putObj (w.heap.size + 1) (.loop { rec .ready none with state := .busy })).heap[w.heap.size + 1]? = some (.loop { rec .ready none with state := .busy }) := World.putObj_heap_same hlt
        have hk2 : (V.putObj (w.heap.size + 1) (.loop { rec .ready none with state := .busy })).heap[w.heap.size]? = some (.deferred (some [])) := (World.putObj_heap_other (by omega)).trans hkV
        have hi2 := hI2.putObj (.loop { rec .ready none with state := .busy }) (hI pre U V hi hbV) (by omega) hlV rfl
        have ho2 : Own (V.putObj (w.heap.size + 1) (.loop { rec .ready none with state := .busy })) W0.heap.size x.2 x.1.data :=
          own_stay (own_keep hown (fun j _ hj => hbV.block j hj)) (fun k hk' => World.putObj_heap_other (fun e => by
            obtain ⟨cur, hc⟩ := own_row (own_keep hown (fun j _ hj => hbV.block j hj)) hk'
            first | rw [← e, hlV] at hc | rw [e, hlV] at hc
            cases hc))
        have hsz : W0.heap.size ≤ (V.putObj (w.heap.size + 1) (.loop { rec .ready none with state := .busy })).heap.size := by
          have h2 := (grownBy_putObj' V (w.heap.size + 1) (.loop { rec .ready none with state := .busy })).size
          have h3 := hbU.size; have h4 := hbV.size; omega
        refine wpIn_mono (hbody (w.heap.size + 1) pre x a₁ W0 _ hlen hi0 hi2 ho2 hsz (hA _ _ _ _ _ _ hlV hAV)) ?_
        have hbp : Below n₀ U (V.putObj (w.heap.size + 1) (.loop { rec .ready none with state := .busy })) :=
          below_putObj (hbV.mono (by have := row_lt hk; omega)) _ (by omega) (by have := row_lt hkV; omega)
        have fin : ∀ (jump : Option Code) (W3 : World), KeepsOthers (V.putObj (w.heap.size + 1) (.loop { rec .ready none with state := .busy })) W3 →
            (Instr.endRound (w.heap.size + 1) jump).run P W3 = .ok (.bool jump.isNone) (W3.putObj (w.heap.size + 1) (.loop (rec (if jump.isNone then .ready else .done) jump))) ∧
            W3.heap[w.heap.size + 1]? = some (.loop { rec .ready none with state := .busy }) ∧
            (W3.putObj (w.heap.size + 1) (.loop (rec (if jump.isNone then .ready else .done) jump))).heap[w.heap.size + 1]? = some (.loop (rec (if jump.isNone then .ready else .done) jump)) ∧
            (W3.putObj (w.heap.size + 1) (.loop (rec (if jump.isNone then .ready else .done) jump))).heap[w.heap.size]? = some (.deferred (some [])) := fun jump W3 hk3 => by
          have hl3 := hk3.same _ _ hl2 rfl
          have hr3 := run_endRound (P := P) jump hl3
          rw [hrec] at hr3 ⊢
          exact ⟨hr3, by rw [hrec] at hl3; exact hl3, World.putObj_heap_same (row_lt hl3), (World.putObj_heap_other (by omega)).trans (hk3.same _ _ hk2 rfl)⟩
        rintro e a3 W3 hp
        cases e with
        | normal =>
          obtain ⟨hk3, hb3, hi3⟩ := hp
          obtain ⟨hr, hl3, hl4, hk4⟩ := fin none W3 hk3
          exact ⟨_, _, hr, .inl ⟨rfl, ⟨hI2.putObj _ hi3 (by omega) hl3 rfl, hl4, hk4⟩, below_putObj (hbp.trans hb3) _ (by omega) (by have := row_lt hl3; omega)⟩⟩
        | ret =>
          obtain ⟨hk3, hi3⟩ := hp
          obtain ⟨hr, hl3, hl4, hk4⟩ := fin (some .ret) W3 hk3
          exact ⟨_, _, hr, .inr ⟨rfl, .ret, (hIx _).putObj _ hi3 (by omega) hl3 rfl, hl4, hk4⟩⟩
        | exit id =>
          obtain ⟨hk3, hi3⟩ := hp
          obtain ⟨hr, hl3, hl4, hk4⟩ := fin (some (.exit id)) W3 hk3
          exact ⟨_, _, hr, .inr ⟨rfl, .exit id, (hIx _).putObj _ hi3 (by omega) hl3 rfl, hl4, hk4⟩⟩
        | goto t =>
          obtain ⟨hk3, hi3⟩ := hp
          obtain ⟨hr, hl3, hl4, hk4⟩ := fin (some (.goto t)) W3 hk3
          exact ⟨_, _, hr, .inr ⟨rfl, .goto t, (hIx _).putObj _ hi3 (by omega) hl3 rfl, hl4, hk4⟩⟩
        | panic ch => exact hp.elim
        | outgrown => exact hp.elim
      | ret => exact hV.elim
      | exit id => exact hV.elim
      | goto t => exact hV.elim
      | panic ch => exact hV.elim
      | outgrown => exact hV.elim
    · rintro e W2 ⟨⟨v, rfl⟩, (⟨xs, hS, hi, hl, hk⟩ | ⟨pre, hSp, c, hi, hl, hk⟩)⟩
      · exact ⟨none, _, by have := run_endLoop (P := P) hl (by rw [hrec]; simp); rw [hrec] at this; exact this, hdone _ xs _ (Nat.le_refl _) hS (hI2.putObj _ hi (by omega) hl rfl) ((World.putObj_heap_other (by omega)).trans hk)⟩
      · exact ⟨some c, _, by have := run_endLoop (P := P) hl (by rw [hrec]; simp); rw [hrec] at this; exact this, hstop _ c pre _ (Nat.le_refl _) hSp ((hIx c).putObj _ hi (by omega) hl rfl) ((World.putObj_heap_other (by omega)).trans hk)⟩
end Gr
end Go.Proofs.Ytpdkdhcbibcifaa
