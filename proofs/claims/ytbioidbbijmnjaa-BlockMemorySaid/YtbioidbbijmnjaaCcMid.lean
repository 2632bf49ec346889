/-
  CcMid: the trace while one child works beside goroutine 0, all others only leaving: what each of the two knows; from a frame, back to a frame.
-/
import Derived.Test.YtbioidbbijmnjaaCcBeside
namespace Go.Proofs.Ytbioidbbijmnjaa
set_option linter.unusedVariables false
set_option linter.unusedSimpArgs false
open Go.Conc
namespace Cc
theorem last_get (t : Trace) (y : MemOp) : (t ++ #[y])[t.size]? = some y := by simp
theorem g?_of {t : Trace} {i : Nat} {op : MemOp} (h : t[i]? = some op) : t.g? i = some op.g := by unfold Trace.g?; rw [h]; rfl
theorem heard_app {t u : Trace} {i : Nat} (h : t.heard i) : (t ++ u).heard i := by
  obtain ⟨g, hg, hd⟩ := h
  have hi : i < t.size := by
    unfold Trace.g? at hg
    obtain ⟨z, hz, _⟩ := Option.map_eq_some_iff.1 hg
    exact lt_size_of_getElem? hz
  exact ⟨g, by simpa [Trace.g?, getElem?_append_old hi] using hg, by rw [deaf_old (Nat.le_of_lt hi)]; exact hd⟩
theorem heard_new {t : Trace} {y : MemOp} (h : Deaf t y.g = 0) : (t ++ #[y]).heard t.size := by
  have hy : (t ++ #[y])[t.size]? = some y := by simp
  exact ⟨y.g, by simp [Trace.g?, hy], by rw [deaf_old (Nat.le_refl _)]; exact h⟩
structure Mid (Mine : Loc → Prop) (k B : Nat) (t : Trace) : Prop where
  clean : ∀ said, ¬ Race said t
  known0 : ∀ i a, touchAt t i = some a → a.loc.isMemory = true → Knows t 0 i ∨ ∃ op, t[i]? = some op ∧ op.g = k ∧ a.write = false ∧ ¬ Mine a.loc
  knownk : ∀ i a, touchAt t i = some a → a.loc.isMemory = true → Knows t k i ∨ ∃ op, t[i]? = some op ∧ op.g = 0 ∧ (a.write = true → Mine a.loc)
  over : ∀ i op, t[i]? = some op → op.g ≠ 0 → op.g ≠ k → t.counts i → ∃ j, t.g? j = some 0 ∧ HappensBefore t i j
  hears : Deaf t 0 = 0
  hearsk : Deaf t k = 0
  seen : ∀ op ∈ t, op.act.low B
section
variable {Mine : Loc → Prop} {k B : Nat} {t u : Trace}
theorem over_app (h : ∀ i op, t[i]? = some op → op.g ≠ 0 → op.g ≠ k → t.counts i → ∃ j, t.g? j = some 0 ∧ HappensBefore t i j) (hu : ∀ op ∈ u, op.g = 0 ∨ op.g = k ∨ op.act.touch? = none) :
    ∀ i op, (t ++ u)[i]? = some op → op.g ≠ 0 → op.g ≠ k → (t ++ u).counts i → ∃ j, (t ++ u).g? j = some 0 ∧ HappensBefore (t ++ u) i j := by
  intro i op hi h0 hk hc
  rcases getElem?_append_cases hi with ⟨hlt, hi'⟩ | ⟨_, hm⟩
  · obtain ⟨j, hj, hb⟩ := h i op hi' h0 hk ((counts_old hlt).1 hc)
    have hjl : j < t.size := by
      unfold Trace.g? at hj
      obtain ⟨z, hz, _⟩ := Option.map_eq_some_iff.1 hj
      exact lt_size_of_getElem? hz
    exact ⟨j, by simpa [Trace.g?, getElem?_append_old hjl] using hj, hb_app u hb⟩
  · obtain ⟨x, hx, _⟩ := hc
    obtain ⟨op', hop, hox⟩ := touch_of hx
    rw [hi] at hop
    cases hop
    rcases hu op hm with h | h | h
    · exact absurd h h0
    · exact absurd h hk
    · rw [h] at hox; cases hox
theorem Mid.mono {B' : Nat} (h : Mid Mine k B t) (hB : B ≤ B') : Mid Mine k B' t := ⟨h.clean, h.known0, h.knownk, h.over, h.hears, h.hearsk, fun op hop => MemAct.low_mono hB (h.seen op hop)⟩
theorem old_op {op : MemOp} {i : Nat} (hi : t[i]? = some op) : (t ++ u)[i]? = some op := by rw [getElem?_append_old (lt_size_of_getElem? hi)]; exact hi
/-- goroutine 0's own operations -/
theorem Mid.app0 (h : Mid Mine k B t) (hk0 : k ≠ 0) (hu : ∀ op ∈ u, op.g = 0) (hw : ∀ op ∈ u, ∀ b, op.act.touch? = some b → b.write = true → Mine b.loc) (hd : Deaf (t ++ u) 0 = Deaf t 0) (hl : ∀ op ∈ u, op.act.low B) : Mid Mine k B (t ++ u) := by
  refine ⟨fun said => noRace_append (h.clean said) hu fun i a ha op hop b hb hc => ?_, fun i a ha hm => ?_, fun i a ha hm => ?_, over_app h.over fun op hop => .inl (hu op hop), hd.trans h.hears, (Deaf_other t (by omega) u hu).trans h.hearsk, seen_app h.seen hl⟩
  · rcases h.known0 i a ha hc.2.1 with hk | ⟨_, _, _, ha2, ha3⟩
    · exact hk
    · rcases hc.2.2.1 with x | x
      · rw [ha2] at x; cases x
      · exact absurd (hc.1 ▸ hw op hop b hb x) ha3
  · obtain ⟨x, hx, hxa⟩ := touch_of ha
    rcases getElem?_append_cases hx with ⟨_, hx'⟩ | ⟨_, hxu⟩
    · rcases h.known0 i a (by rw [touchAt_of hx']; exact hxa) hm with k1 | ⟨op, k1, k2⟩
      · exact .inl (k1.app u)
      · exact .inr ⟨op, old_op k1, k2⟩
    · have := knows_own hx
      rw [hu x hxu] at this
      exact .inl this
  · obtain ⟨x, hx, hxa⟩ := touch_of ha
    rcases getElem?_append_cases hx with ⟨_, hx'⟩ | ⟨_, hxu⟩
    · rcases h.knownk i a (by rw [touchAt_of hx']; exact hxa) hm with k1 | ⟨op, k1, k2⟩
      · exact .inl (k1.app u)
      · exact .inr ⟨op, old_op k1, k2⟩
    · exact .inr ⟨x, hx, hu x hxu, hw x hxu a hxa⟩
/-- the child's own operations -/
theorem Mid.appk (h : Mid Mine k B t) (hk0 : k ≠ 0) (hu : ∀ op ∈ u, op.g = k) (hw : ∀ op ∈ u, ∀ b, op.act.touch? = some b → b.write = false ∧ ¬ Mine b.loc) (hd : Deaf (t ++ u) k = Deaf t k) (hl : ∀ op ∈ u, op.act.low B) : Mid Mine k B (t ++ u) := by
  refine ⟨fun said => noRace_append (h.clean said) hu fun i a ha op hop b hb hc => ?_, fun i a ha hm => ?_, fun i a ha hm => ?_, over_app h.over fun op hop => .inr (.inl (hu op hop)), (Deaf_other t (by omega) u hu).trans h.hears, hd.trans h.hearsk, seen_app h.seen hl⟩
  · rcases h.knownk i a ha hc.2.1 with hk | ⟨_, _, _, ha2⟩
    · exact hk
    · obtain ⟨b1, b2⟩ := hw op hop b hb
      rcases hc.2.2.1 with x | x
      · exact absurd (ha2 x) (by rw [hc.1]; exact b2)
      · rw [b1] at x; cases x
  · obtain ⟨x, hx, hxa⟩ := touch_of ha
    rcases getElem?_append_cases hx with ⟨_, hx'⟩ | ⟨_, hxu⟩
    · rcases h.known0 i a (by rw [touchAt_of hx']; exact hxa) hm with k1 | ⟨op, k1, k2⟩
      · exact .inl (k1.app u)
      · exact .inr ⟨op, old_op k1, k2⟩
    · exact .inr ⟨x, hx, hu x hxu, hw x hxu a hxa⟩
  · obtain ⟨x, hx, hxa⟩ := touch_of ha
    rcases getElem?_append_cases hx with ⟨_, hx'⟩ | ⟨_, hxu⟩
    · rcases h.knownk i a (by rw [touchAt_of hx']; exact hxa) hm with k1 | ⟨op, k1, k2⟩
      · exact .inl (k1.app u)
      · exact .inr ⟨op, old_op k1, k2⟩
    · have := knows_own hx
      rw [hu x hxu] at this
      exact .inl this
/-- operations that touch nothing, of one goroutine that is neither -/
theorem Mid.appMute {g : Nat} (h : Mid Mine k B t) (hg : g ≠ 0) (hgk : g ≠ k) (hu : ∀ op ∈ u, op.g = g) (hn : ∀ op ∈ u, op.act.touch? = none) (hl : ∀ op ∈ u, op.act.low B) : Mid Mine k B (t ++ u) := by
  refine ⟨fun said => noRace_append (h.clean said) hu fun i a _ op hop b hb _ => (by rw [hn op hop] at hb; cases hb), fun i a ha hm => ?_, fun i a ha hm => ?_, over_app h.over fun op hop => .inr (.inr (hn op hop)), (Deaf_other t hg u hu).trans h.hears, (Deaf_other t hgk u hu).trans h.hearsk, seen_app h.seen hl⟩
  all_goals
    obtain ⟨x, hx, hxa⟩ := touch_of ha
    rcases getElem?_append_cases hx with ⟨_, hx'⟩ | ⟨_, hxu⟩
  · rcases h.known0 i a (by rw [touchAt_of hx']; exact hxa) hm with k1 | ⟨op, k1, k2⟩
    · exact .inl (k1.app u)
    · exact .inr ⟨op, old_op k1, k2⟩
  · rw [hn x hxu] at hxa; cases hxa
  · rcases h.knownk i a (by rw [touchAt_of hx']; exact hxa) hm with k1 | ⟨op, k1, k2⟩
    · exact .inl (k1.app u)
    · exact .inr ⟨op, old_op k1, k2⟩
  · rw [hn x hxu] at hxa; cases hxa
/-- the fork -/
theorem Mid.start {x y : MemOp} (h : Past NoS B t) (hk0 : k ≠ 0) (hk : Deaf t k = 0) (hx : x.g = 0) (hxa : x.act = .go k) (hy : y.g = k) (hya : y.act = .start) : Mid Mine k B (t ++ #[x] ++ #[y]) := by
  have hxt : x.act.touch? = none := by rw [hxa]; rfl
  have hyt : y.act.touch? = none := by rw [hya]; rfl
  have hs1 : (t ++ #[x]).size = t.size + 1 := by simp
  have ex : (t ++ #[x] ++ #[y])[t.size]? = some x := by rw [getElem?_append_old (by simp)]; exact last_get _ _
  have ey : (t ++ #[x] ++ #[y])[t.size + 1]? = some y := by rw [← hs1]; exact last_get _ _
  have d1 : Deaf (t ++ #[x]) 0 = Deaf t 0 := by rw [Deaf_push]; simp [deafStep, hxa]
  have d2 : Deaf (t ++ #[x]) k = 0 := by rw [Deaf_other t (g' := 0) (by omega) #[x] (by simp [hx])]; exact hk
  have hp1 : Past NoS B (t ++ #[x]) := h.app0 (by simp [hx]) (by intro op hop b hb; simp at hop; subst hop; rw [hxt] at hb; cases hb) d1 (by intro op hop; simp at hop; subst hop; rw [hxa]; trivial)
  have hp2 : Past NoS B (t ++ #[x] ++ #[y]) := hp1.appMute (g := k) hk0 (by simp [hy]) (by intro op hop; simp at hop; subst hop; exact hyt) (by intro op hop; simp at hop; subst hop; rw [hya]; trivial)
  have hhx : (t ++ #[x] ++ #[y]).heard t.size := heard_app (heard_new (by rw [hx]; exact h.hears))
  have hhy : (t ++ #[x] ++ #[y]).heard (t.size + 1) := by rw [← hs1]; exact heard_new (by rw [hy]; exact d2)
  have hfork : HappensBefore (t ++ #[x] ++ #[y]) t.size (t.size + 1) := .single (.inr ⟨.spawn (child := k) (by rw [act?_of ex, hxa]) (by rw [act?_of ey, hya]) (by rw [g?_of ey, hy]), hhx, hhy⟩)
  have hknow : ∀ i a, touchAt (t ++ #[x] ++ #[y]) i = some a → a.loc.isMemory = true → Knows (t ++ #[x] ++ #[y]) 0 i ∧ Knows (t ++ #[x] ++ #[y]) k i := by
    intro i a ha hm
    obtain ⟨z, hz, hza⟩ := touch_of ha
    have hzt : t[i]? = some z := by
      rcases getElem?_append_cases hz with ⟨_, hz'⟩ | ⟨_, hm'⟩
      · rcases getElem?_append_cases hz' with ⟨_, hz''⟩ | ⟨_, hm'⟩
        · exact hz''
        · simp at hm'; subst hm'; rw [hxt] at hza; cases hza
      · simp at hm'; subst hm'; rw [hyt] at hza; cases hza
    rcases h.known i a (by rw [touchAt_of hzt]; exact hza) hm with hk | ⟨hf, _⟩
    · refine ⟨(hk.app _).app _, t.size + 1, y, ey, hy, .inr ?_⟩
      exact (hb_app #[y] (hk.hb_new (u := #[x]) (Nat.le_refl _) (by simp) hx)).trans hfork
    · exact hf.elim
  refine ⟨hp2.clean, fun i a ha hm => .inl (hknow i a ha hm).1, fun i a ha hm => .inl (hknow i a ha hm).2, fun i op hi h0 hk hc => hp2.over i op.g (g?_of hi) h0 hc, hp2.hears, ?_, hp2.seen⟩
  rw [Deaf_push, d2]
  simp [deafStep, hya]
/-- the child's touches lie ahead of its close -/
structure Shut (k c pc : Nat) (t : Trace) : Prop where
  close : ∃ op, t[pc]? = some op ∧ op.g = k ∧ op.act = .close c
  heard : t.heard pc
  last : ∀ i op, t[i]? = some op → op.g = k → op.act.touch? ≠ none → i ≤ pc
theorem Shut.app {c pc : Nat} (h : Shut k c pc t) (hu : ∀ op ∈ u, op.g = k → op.act.touch? = none) : Shut k c pc (t ++ u) := by
  obtain ⟨op, h1, h2, h3⟩ := h.close
  refine ⟨⟨op, old_op h1, h2, h3⟩, heard_app h.heard, fun i op hi hg ht => ?_⟩
  rcases getElem?_append_cases hi with ⟨_, hi'⟩ | ⟨_, hm⟩
  · exact h.last i op hi' hg ht
  · exact absurd (hu op hm hg) ht
/-- goroutine 0 has found the channel closed: all is known to it -/
theorem Mid.past {c pc : Nat} {y : MemOp} (h : Mid Mine k B t) (hk0 : k ≠ 0) (hs : Shut k c pc t) (hy : y.g = 0) (hya : y.act = .recvClosed c) (hc : c < B) : Past NoS B (t ++ #[y]) := by
  have hyt : y.act.touch? = none := by rw [hya]; rfl
  have ey : (t ++ #[y])[t.size]? = some y := last_get _ _
  have h1 : Mid Mine k B (t ++ #[y]) := h.app0 hk0 (by simp [hy]) (by intro op hop b hb; simp at hop; subst hop; rw [hyt] at hb; cases hb) (by rw [Deaf_push]; simp [deafStep, hya]) (by intro op hop; simp at hop; subst hop; rw [hya]; exact hc)
  have hs1 : Shut k c pc (t ++ #[y]) := hs.app (by intro op hop hg; simp at hop; subst hop; exact hyt)
  obtain ⟨op, e1, e2, e3⟩ := hs1.close
  have hedge : HappensBefore (t ++ #[y]) pc t.size := .single (.inr ⟨.closed (c := c) (by rw [act?_of e1, e3]) (by rw [act?_of ey, hya]), hs1.heard, heard_new (by rw [hy]; exact h.hears)⟩)
  have hk : ∀ i z, (t ++ #[y])[i]? = some z → z.g = k → z.act.touch? ≠ none → HappensBefore (t ++ #[y]) i t.size := by
    intro i z hz hg ht
    have hle := hs1.last i z hz hg ht
    rcases Nat.lt_or_ge i pc with hlt | hge
    · exact (hb_po hlt hz e1 (by rw [hg, e2])).trans hedge
    · obtain rfl : i = pc := by omega
      exact hedge
  refine ⟨h1.clean, fun i a ha hm => ?_, fun i g hg h0 hc => ?_, h1.hears, h1.seen⟩
  · rcases h1.known0 i a ha hm with h2 | ⟨z, hz, hg, _⟩
    · exact .inl h2
    · obtain ⟨z', hz', hza⟩ := touch_of ha
      rw [hz] at hz'; cases hz'
      exact .inl ⟨t.size, y, ey, hy, .inr (hk i z hz hg (by rw [hza]; simp))⟩
  · obtain ⟨z, hz, hzg⟩ := Option.map_eq_some_iff.1 hg
    by_cases hgk : g = k
    · obtain ⟨x, hx, _⟩ := hc
      obtain ⟨z', hz', hza⟩ := touch_of hx
      rw [hz] at hz'; cases hz'
      exact ⟨t.size, by rw [g?_of ey, hy], hk i z hz (by rw [hzg, hgk]) (by rw [hza]; simp)⟩
    · exact h1.over i z hz (by rw [hzg]; exact h0) (by rw [hzg]; exact hgk) hc
end
end Cc
end Go.Proofs.Ytbioidbbijmnjaa
