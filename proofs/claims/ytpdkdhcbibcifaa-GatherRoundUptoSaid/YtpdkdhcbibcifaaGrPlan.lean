/-
  GrPlan: the planting step by step, in plain lists: no program.
-/
import Derived.Test.YtpdkdhcbibcifaaGrPl
import Derived.Lib.LastIndexByte
namespace Go.Proofs.Ytpdkdhcbibcifaa
set_option linter.unusedVariables false
set_option linter.unusedSimpArgs false
open Go.ChangeShapes Go.WideShapes Go.ChangeAt Go.RowKit
namespace Gr
theorem lastIndex_cut (l : Bt) : Lib.lastIndexByte ⟨l.toArray⟩ 47 = match cutOf l with | none => -1 | some k => (k : Int) := by
  have hsz : (⟨l.toArray⟩ : ByteArray).size = l.length := rfl
  have hget : ∀ j, (⟨l.toArray⟩ : ByteArray).data[j]! = l.getD j 0 := fun j => by
    simp [getElem!_def, List.getD]
    cases l[j]? <;> rfl
  rcases Lib.lastIndexByte_spec ⟨l.toArray⟩ 47 with ⟨h1, h2⟩ | ⟨i, hi, h1, h2, h3⟩
  · have : cutOf l = none := by
      rw [cutOf_none]
      intro hm
      obtain ⟨j, hj, he⟩ := List.mem_iff_getElem.1 hm
      refine h2 j hj ?_
      rw [hget, List.getD_eq_getElem?_getD, List.getElem?_eq_getElem hj, Option.getD_some, he]
      rfl
    rw [h1, this]
  · rw [hsz] at hi h3
    have hc : cutOf l = some i := by
      rw [cutOf_some]
      refine ⟨l.take i, l.drop (i + 1), ?_, by simp; omega, ?_⟩
      · have : l[i] = 47 := by
          rw [hget, List.getD_eq_getElem?_getD, List.getElem?_eq_getElem hi, Option.getD_some] at h2
          exact UInt8.toNat_inj.1 (by simpa using (by omega : (l[i]).toNat = 47))
        rw [← this, ← List.drop_eq_getElem_cons hi, List.take_append_drop]
      · intro hm
        obtain ⟨j, hj, he⟩ := List.mem_iff_getElem.1 hm
        rw [List.getElem_drop] at he
        simp only [List.length_drop] at hj
        refine h3 (i + 1 + j) (by omega) (by omega) ?_
        rw [hget, List.getD_eq_getElem?_getD, List.getElem?_eq_getElem (by omega), Option.getD_some, he]
        rfl
    rw [h1, hc]
theorem plant_cons (R : Bool) (pi : List (Bt × Int)) (g : List Nd) (l : Ln) (ls : List Ln) : plant R pi g (l :: ls) =
    if (R = false ∧ (pi.lookup l.path).isSome = true) ∨ idOf pi g l = 0 then none
    else if pi = [] then plant R (pi ++ [(l.path, idOf pi g l)]) (nodes1 g l) ls
    else if parOf R pi l = 0 then none
    else plant R (pi ++ [(l.path, idOf pi g l)]) (addEnt (nodes1 g l) ((parOf R pi l).toNat - 1) (nameOf l, idOf pi g l)) ls := rfl
/-- what holds between two lines -/
structure PlInv (LS : List Ln) (k : Nat) (pi : List (Bt × Int)) (g : List Nd) : Prop where
  eq : plant false [] [] LS = plant false pi g (LS.drop k)
  len : pi.length = k
  val : ∀ q ∈ pi, 1 ≤ q.2 ∧ q.2 ≤ g.length
  gl : g.length ≤ k
  ids : ∀ x ∈ g, 1 ≤ x.id ∧ x.id ≤ k
  ents : ∀ x ∈ g, x.ents.length ≤ k ∧ ∀ e ∈ x.ents, 1 ≤ e.2 ∧ e.2 ≤ k
  non : 0 < k → g ≠ []
  dat : ∀ x ∈ g, ∃ l ∈ LS, x.data = l.data
theorem PlInv.nil (LS : List Ln) : PlInv LS 0 [] [] := ⟨by simp, rfl, by simp, by simp, by simp, by simp, by simp, by simp⟩
theorem lookup_val {pi : List (Bt × Int)} {g : List Nd} (h : ∀ q ∈ pi, 1 ≤ q.2 ∧ q.2 ≤ g.length) (p : Bt) : 0 ≤ (pi.lookup p).getD 0 ∧ (pi.lookup p).getD 0 ≤ g.length := by
  cases hl : pi.lookup p with
  | none => simp
  | some v => have := h _ (lookup_mem hl); simp only [Option.getD_some] at this ⊢; omega
section
variable {LS : List Ln} {k : Nat} {pi : List (Bt × Int)} {g : List Nd} {l : Ln}
theorem PlInv.idOf (h : PlInv LS k pi g) : 0 ≤ idOf pi g l ∧ Gr.idOf pi g l ≤ k + 1 ∧ Gr.idOf pi g l ≤ (nodes1 g l).length := by
  unfold Gr.idOf nodes1
  have hg := h.gl
  split
  · simp; omega
  · have := lookup_val h.val l.peer
    omega
theorem PlInv.parOf (h : PlInv LS k pi g) (hk : 0 < k) : 0 ≤ parOf false pi l ∧ Gr.parOf false pi l ≤ g.length := by
  unfold Gr.parOf
  split
  · have := h.non hk
    have := List.length_pos_iff.2 this
    omega
  · rename_i c _
    simp only [Bool.false_eq_true, if_false]
    exact lookup_val h.val _
theorem nodes1_len (g : List Nd) (l : Ln) : g.length ≤ (nodes1 g l).length ∧ (nodes1 g l).length ≤ g.length + 1 := by
  unfold nodes1; split <;> simp
theorem addEnt_len (g : List Nd) (k : Nat) (e : Bt × Int) : (addEnt g k e).length = g.length := by simp [addEnt]
/-- the planting is refused at this line -/
theorem PlInv.bad (h : PlInv LS k pi g) (hl : LS[k]? = some l) (hb : (pi.lookup l.path).isSome = true ∨ Gr.idOf pi g l = 0 ∨ (0 < k ∧ Gr.parOf false pi l = 0)) : ¬ Planted false LS := by
  rintro ⟨G, hG, _⟩
  rw [h.eq, drop_get hl] at hG
  rw [plant_cons] at hG
  rcases hb with hb | hb | ⟨hk, hb⟩
  · rw [if_pos (Or.inl ⟨rfl, hb⟩)] at hG; cases hG
  · rw [if_pos (Or.inr hb)] at hG; cases hG
  · have hpi : ¬ pi = [] := by intro e; have := h.len; rw [e] at this; simp at this; omega
    rw [if_neg hpi, if_pos hb] at hG
    split at hG <;> cases hG
theorem mem_addEnt {g : List Nd} {k : Nat} {e : Bt × Int} {y : Nd} (hy : y ∈ addEnt g k e) : ∃ x ∈ g, y = x ∨ y = { x with ents := x.ents ++ [e] } := by
  unfold addEnt at hy
  obtain ⟨i, hi, rfl⟩ := List.mem_iff_getElem.1 hy
  rw [List.getElem_modify]
  simp only [List.length_modify] at hi
  split
  · exact ⟨g[i], List.getElem_mem hi, Or.inr rfl⟩
  · exact ⟨g[i], List.getElem_mem hi, Or.inl rfl⟩
theorem nodes1_facts (h : PlInv LS k pi g) : (∀ x ∈ nodes1 g l, 1 ≤ x.id ∧ x.id ≤ (k : Int) + 1) ∧ ∀ x ∈ nodes1 g l, x.ents.length ≤ k ∧ ∀ e ∈ x.ents, 1 ≤ e.2 ∧ e.2 ≤ (k : Int) + 1 := by
  have hg := h.gl
  unfold nodes1
  constructor
  · intro x hx
    split at hx
    · rcases List.mem_append.1 hx with hx | hx
      · have := h.ids x hx; omega
      · rw [List.mem_singleton] at hx; subst hx; simp [mkNode]; omega
    · have := h.ids x hx; omega
  · intro x hx
    split at hx
    · rcases List.mem_append.1 hx with hx | hx
      · have := h.ents x hx; exact ⟨this.1, fun e he => by have := this.2 e he; omega⟩
      · rw [List.mem_singleton] at hx; subst hx; simp [mkNode]
    · have := h.ents x hx; exact ⟨this.1, fun e he => by have := this.2 e he; omega⟩
theorem nodes1_dat (h : PlInv LS k pi g) (hl : LS[k]? = some l) : ∀ x ∈ nodes1 g l, ∃ m ∈ LS, x.data = m.data := by
  unfold nodes1
  intro x hx
  split at hx
  · rcases List.mem_append.1 hx with hx | hx
    · exact h.dat x hx
    · rw [List.mem_singleton] at hx; subst hx; exact ⟨l, mem_get hl, rfl⟩
  · exact h.dat x hx
theorem PlInv.first (h : PlInv LS k pi g) (hl : LS[k]? = some l) (h1 : (pi.lookup l.path).isSome = false) (h2 : Gr.idOf pi g l ≠ 0) (hk : k = 0) : PlInv LS (k + 1) (pi ++ [(l.path, Gr.idOf pi g l)]) (nodes1 g l) := by
  have hpi : pi = [] := List.eq_nil_of_length_eq_zero (by rw [h.len, hk])
  have hid := h.idOf (l := l)
  have hg := h.gl
  have hn := nodes1_len g l
  obtain ⟨f1, f2⟩ := nodes1_facts (l := l) h
  refine ⟨?_, by simp [h.len], ?_, by omega, ?_, ?_, ?_, ?_⟩
  · rw [h.eq, drop_get hl]
    rw [plant_cons, if_neg (by rintro (⟨_, h3⟩ | h3); rw [h1] at h3; cases h3; exact h2 h3), if_pos hpi]
  · intro q hq
    rcases List.mem_append.1 hq with hq | hq
    · have := h.val q hq; omega
    · rw [List.mem_singleton] at hq; subst hq; simp only; omega
  · intro x hx; have := f1 x hx; push_cast; exact this
  · intro x hx; have := f2 x hx; push_cast; exact ⟨by omega, this.2⟩
  · intro _ e
    have : (nodes1 g l).length = 0 := by rw [e]; rfl
    omega
  · exact nodes1_dat h hl
theorem PlInv.step (h : PlInv LS k pi g) (hl : LS[k]? = some l) (h1 : (pi.lookup l.path).isSome = false) (h2 : Gr.idOf pi g l ≠ 0) (hk : 0 < k) (h3 : Gr.parOf false pi l ≠ 0) :
    PlInv LS (k + 1) (pi ++ [(l.path, Gr.idOf pi g l)]) (addEnt (nodes1 g l) ((Gr.parOf false pi l).toNat - 1) (nameOf l, Gr.idOf pi g l)) := by
  have hpi : ¬ pi = [] := by intro e; have := h.len; rw [e] at this; simp at this; omega
  have hid := h.idOf (l := l)
  have hg := h.gl
  have hn := nodes1_len g l
  obtain ⟨f1, f2⟩ := nodes1_facts (l := l) h
  have hlen := addEnt_len (nodes1 g l) ((Gr.parOf false pi l).toNat - 1) (nameOf l, Gr.idOf pi g l)
  refine ⟨?_, by simp [h.len], ?_, by omega, ?_, ?_, ?_, ?_⟩
  · rw [h.eq, drop_get hl]
    rw [plant_cons, if_neg (by rintro (⟨_, h4⟩ | h4); rw [h1] at h4; cases h4; exact h2 h4), if_neg hpi, if_neg h3]
  · intro q hq
    rcases List.mem_append.1 hq with hq | hq
    · have := h.val q hq; omega
    · rw [List.mem_singleton] at hq; subst hq; simp only; omega
  · intro x hx
    obtain ⟨y, hy, rfl | rfl⟩ := mem_addEnt hx
    · have := f1 x hy; push_cast; exact this
    · have := f1 y hy; push_cast; exact this
  · intro x hx
    obtain ⟨y, hy, rfl | rfl⟩ := mem_addEnt hx
    · have := f2 x hy; push_cast; exact ⟨by omega, this.2⟩
    · have := f2 y hy
      refine ⟨by simp; omega, fun e he => ?_⟩
      rcases List.mem_append.1 he with he | he
      · have := this.2 e he; push_cast; exact this
      · rw [List.mem_singleton] at he; subst he; simp only; push_cast; omega
  · intro _ e
    have : (addEnt (nodes1 g l) ((Gr.parOf false pi l).toNat - 1) (nameOf l, Gr.idOf pi g l)).length = 0 := by rw [e]; rfl
    omega
  · intro x hx
    obtain ⟨y, hy, rfl | rfl⟩ := mem_addEnt hx
    · exact nodes1_dat h hl x hy
    · exact nodes1_dat h hl y hy
theorem addEnt_set {NS : List NdS} {q : Nat} {y : NdS} {e : Bt × Int} {d : Sl} (h : NS[q]? = some y) : addEnt (NS.map (·.1)) (((q : Int) + 1).toNat - 1) e = (NS.set q ({ y.1 with ents := y.1.ents ++ [e] }, y.2.1, d)).map (·.1) := by
  obtain ⟨hq, hy⟩ := List.getElem?_eq_some_iff.1 h
  have e1 : ((q : Int) + 1).toNat - 1 = q := by omega
  rw [e1]
  unfold addEnt
  apply List.ext_getElem
  · simp
  · intro i h1 h2
    rw [List.getElem_modify, List.getElem_map, List.getElem_map, List.getElem_set]
    split
    · rename_i hqi
      subst hqi
      simp [hy]
    · rfl
/-- all lines are planted -/
theorem PlInv.done (h : PlInv LS LS.length pi g) : Planted false LS ↔ TreeOk g 1 LS := by
  have he := h.eq
  rw [List.drop_length] at he
  have h2 : plant false pi g [] = some g := rfl
  rw [h2] at he
  constructor
  · rintro ⟨G, hG, ht⟩
    rw [he] at hG; cases hG; exact ht
  · intro ht; exact ⟨g, he, ht⟩
end
end Gr
end Go.Proofs.Ytpdkdhcbibcifaa
