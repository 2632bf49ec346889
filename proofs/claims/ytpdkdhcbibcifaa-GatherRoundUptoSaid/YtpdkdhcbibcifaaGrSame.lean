/-
  GrSame: the two plantings agree where they come through; what a planted tree's lines look like: no program.
-/
import Derived.Test.YtpdkdhcbibcifaaGrTree
namespace Go.Proofs.Ytpdkdhcbibcifaa
namespace Gr
theorem planted_same (ls : List Ln) : Planted true ls ↔ Planted false ls := by
  have key : ∀ {g : List Nd}, TreeOk g 1 ls → plant true [] [] ls = plant false [] [] ls := by
    intro g h
    obtain ⟨h1, h2, h3⟩ := tree_distinct h
    exact plant_same [46] ls [] [] (by simpa using h1) (by simpa using h2) (by simpa using h3)
  constructor
  · rintro ⟨g, h1, h2⟩
    exact ⟨g, by rw [← key h2]; exact h1, h2⟩
  · rintro ⟨g, h1, h2⟩
    exact ⟨g, by rw [key h2]; exact h1, h2⟩
/-- what a line of a tree is -/
structure LineOk (l : Ln) : Prop where
  path : l.path ≠ []
  kind : 1 ≤ l.kind ∧ l.kind ≤ 3
  mode : 0 ≤ l.mode ∧ l.mode ≤ 4095
  uid : 0 ≤ l.uid ∧ l.uid ≤ 2147483647
  gid : 0 ≤ l.gid ∧ l.gid ≤ 2147483647
  time : validT l.sec l.nano = true
  data : l.kind ≠ 1 → l.data = []
  targ : l.peer = [] → textOk l.kind l.target = true
  pdat : l.peer ≠ [] → l.data = [] ∧ l.target = []
/-- the kind of the line at a peer's path is the line's own -/
def PeersOk : List (Bt × Int) → List Ln → Prop
  | _, [] => True
  | seen, l :: ls => (l.peer ≠ [] → (l.peer, l.kind) ∈ seen) ∧ PeersOk (seen ++ [(l.path, l.kind)]) ls
theorem PeersOk.snoc : ∀ {ls : List Ln} {seen : List (Bt × Int)} {l : Ln}, PeersOk seen ls → (l.peer ≠ [] → (l.peer, l.kind) ∈ seen ++ ls.map fun m => (m.path, m.kind)) → PeersOk seen (ls ++ [l])
  | [], seen, l, _, h => ⟨by simpa using h, trivial⟩
  | m :: ls, seen, l, h, hl => ⟨h.1, PeersOk.snoc h.2 (by simpa using hl)⟩
theorem lookup_append_some {α β : Type} [BEq α] [LawfulBEq α] {l m : List (α × β)} {k : α} {v : β} (h : l.lookup k = some v) : (l ++ m).lookup k = some v := by
  rw [List.lookup_append, h]; rfl
/-- the walk's lines: each is sound, and its peer was said before with the same kind -/
theorem tree_lines {g : List Nd} {root : Int} {ls : List Ln} (h : TreeOk g root ls) : (∀ l ∈ ls, LineOk l) ∧ PeersOk [] ls := by
  have hd := tree_distinct h
  obtain ⟨hc, ⟨n0, hn0, _⟩, st, hw, rfl⟩ := h
  obtain ⟨p, hp⟩ := hc.ok
  have hnd := hc.2.1.nodup
  have huniq : ∀ {n m : Nd}, n ∈ g → m ∈ g → n.id = m.id → n = m := by
    intro n m hn hm e
    have : ∀ {l : List Nd}, l.Pairwise (fun a b => a.id < b.id) → n ∈ l → m ∈ l → n = m := by
      intro l hl
      induction l with
      | nil => intro h; simp at h
      | cons a l ih =>
        intro h1 h2
        rw [List.pairwise_cons] at hl
        rcases List.mem_cons.1 h1 with k1 | k1 <;> rcases List.mem_cons.1 h2 with k2 | k2
        · rw [k1, k2]
        · have := hl.1 m k2; rw [k1] at e; omega
        · have := hl.1 n k1; rw [k2] at e; omega
        · exact ih hl.2 k1 k2
    exact this hnd hn hm
  have := Wk.inv (I := fun s st => (∀ l ∈ st.out, LineOk l) ∧ PeersOk [] st.out ∧ (∀ x ∈ s, x.2 ≠ []) ∧
      ∀ id q, st.first.lookup id = some q → ∃ n ∈ g, n.id = id ∧ (q, n.kind) ∈ st.out.map fun m => (m.path, m.kind))
    (fun id path r st n hi hb hn => by
      obtain ⟨h1, h2, h3, h4⟩ := hi
      obtain ⟨hng, hnid⟩ := nodeOf_mem hn
      have hpne := h3 (id, path) (by simp)
      simp only at hpne
      have hs := hp.sound n hng
      simp only [sound, Bool.and_eq_true, decide_eq_true_eq, Bool.or_eq_true] at hs
      obtain ⟨⟨⟨⟨hk, hda⟩, hen⟩, hva⟩, htx⟩ := hs
      have hpeer : st.peer n.id ≠ [] → (st.peer n.id, n.kind) ∈ st.out.map fun m => (m.path, m.kind) := by
        intro hne
        unfold TS.peer at hne ⊢
        cases hl : st.first.lookup n.id with
        | none => rw [hl] at hne; exact absurd rfl hne
        | some q =>
          obtain ⟨m, hm, hmi, hq⟩ := h4 n.id q hl
          obtain rfl := huniq hm hng hmi
          exact hq
      refine ⟨?_, ?_, ?_, ?_⟩
      · intro l hl
        simp only [TS.next, List.mem_append, List.mem_singleton] at hl
        rcases hl with hl | rfl
        · exact h1 l hl
        · refine ⟨hpne, ⟨hk.1, hk.2.1⟩, ⟨hk.2.2.1, hk.2.2.2.1⟩, ⟨hk.2.2.2.2.1, hk.2.2.2.2.2.1⟩, ⟨hk.2.2.2.2.2.2.1, hk.2.2.2.2.2.2.2⟩, hva, ?_, ?_, ?_⟩
          · intro hk1
            simp only [mkLine] at hk1 ⊢
            split
            · rcases hda with h | h
              · exact absurd h hk1
              · simpa using h
            · rfl
          · intro hpe
            simp only [mkLine] at hpe ⊢
            rw [if_pos hpe]; exact htx
          · intro hpe
            simp only [mkLine] at hpe ⊢
            simp [hpe]
      · simp only [TS.next]
        exact PeersOk.snoc h2 (fun hne => by have := hpeer hne; simpa [mkLine] using this)
      · intro x hx
        rcases List.mem_append.1 hx with hx | hx
        · simp only [kids, List.mem_map] at hx
          obtain ⟨e, he, rfl⟩ := hx
          have hg := (good_parts ((hp.ents n hng).good e he)).1
          simp only [below]
          split
          · exact hg
          · simp
        · exact h3 x (by simp [hx])
      · intro i q hl
        simp only [TS.next] at hl ⊢
        split at hl
        · rw [List.lookup_append] at hl
          cases ho : st.first.lookup i with
          | some v =>
            rw [ho] at hl
            simp only [Option.some_or, Option.some.injEq] at hl
            subst hl
            obtain ⟨m, hm, hmi, hq⟩ := h4 i v ho
            exact ⟨m, hm, hmi, by rw [List.map_append]; exact List.mem_append_left _ hq⟩
          | none =>
            rw [ho] at hl
            simp only [Option.none_or, List.lookup_cons] at hl
            by_cases hi2 : i = n.id
            · subst hi2
              simp only [BEq.rfl, Option.some.injEq] at hl
              subst hl
              exact ⟨n, hng, rfl, by simp [mkLine]⟩
            · rw [beq_f hi2] at hl
              simp at hl
        · obtain ⟨m, hm, hmi, hq⟩ := h4 i q hl
          exact ⟨m, hm, hmi, by rw [List.map_append]; exact List.mem_append_left _ hq⟩)
    hw ⟨by simp [st0], trivial, by simp, by simp [st0]⟩ st rfl
  exact ⟨this.1, this.2.1⟩
end Gr
end Go.Proofs.Ytpdkdhcbibcifaa
