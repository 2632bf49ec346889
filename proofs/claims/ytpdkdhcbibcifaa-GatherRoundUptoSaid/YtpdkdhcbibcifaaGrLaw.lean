/-
  GrLaw: a graph's tree and the planting of lines, in plain lists: no program.
-/
import Derived.Test.YtpdkdhcbibcifaaBase
namespace Go.Proofs.Ytpdkdhcbibcifaa
namespace Gr
abbrev Bt := List UInt8
/-- a line -/
structure Ln where
  path : Bt
  kind : Int
  mode : Int
  uid : Int
  gid : Int
  sec : Int
  nano : Int
  data : Bt
  target : Bt
  peer : Bt
/-- a node -/
structure Nd where
  id : Int
  kind : Int
  mode : Int
  uid : Int
  gid : Int
  sec : Int
  nano : Int
  data : Bt
  target : Bt
  ents : List (Bt × Int)
def good (p : Bt) : Bool := p != [] && p != [46] && p != [46, 46] && decide (p.length ≤ 255) && !(p.contains 0) && !(p.contains 47)
def validT (sec nano : Int) : Bool := decide (0 ≤ nano ∧ nano < 1000000000 ∧ (sec = -1099511627777 → 0 < nano) ∧ -1099511627777 ≤ sec ∧ sec ≤ 1099511627776)
def textOk (kind : Int) (t : Bt) : Bool := if kind = 3 then t != [] && decide (t.length ≤ 4096) && !(t.contains 0) else t == []
def sound (n : Nd) : Bool :=
  decide (1 ≤ n.kind ∧ n.kind ≤ 3 ∧ 0 ≤ n.mode ∧ n.mode ≤ 4095 ∧ 0 ≤ n.uid ∧ n.uid ≤ 2147483647 ∧ 0 ≤ n.gid ∧ n.gid ≤ 2147483647) &&
  (decide (n.kind = 1) || n.data == []) && (decide (n.kind = 2) || n.ents.isEmpty) && validT n.sec n.nano && textOk n.kind n.target
def nodeOf (g : List Nd) (id : Int) : Option Nd := g.find? fun n => n.id == id
def look (p : List (Int × Int)) (id : Int) : Option Int := p.lookup id
def enterE (g : List Nd) (pid : Int) : List (Bt × Int) → Bt → List (Int × Int) → Option (List (Int × Int))
  | [], _, p => some p
  | (nm, id) :: es, last, p =>
    match nodeOf g id with
    | none => none
    | some t =>
      if good nm = false ∨ (Op.bytesLess nm last || nm == last) = true then none
      else if t.kind ≠ 2 then enterE g pid es nm p
      else if (p.lookup id).isSome then none else enterE g pid es nm (p ++ [(id, pid)])
def enterN (g : List Nd) : List Nd → List (Int × Int) → Option (List (Int × Int))
  | [], p => some p
  | n :: ns, p =>
    match enterE g n.id n.ents [] p with
    | none => none
    | some p' => enterN g ns p'
/-- k steps upwards -/
def climb (p : List (Int × Int)) : Nat → Int → Option Int
  | 0, id => some id
  | k + 1, id => match p.lookup id with | none => none | some u => climb p k u
def Ends (p : List (Int × Int)) (id : Int) : Prop := ∃ k, climb p k id = none
def Acy (p : List (Int × Int)) : Prop := ∀ id, Ends p id
def Rising : Int → List Nd → Prop
  | _, [] => True
  | last, n :: ns => last < n.id ∧ n.id ≤ 1099511627776 ∧ sound n = true ∧ Rising n.id ns
def entSum : List Nd → Nat
  | [] => 0
  | n :: ns => n.ents.length + entSum ns
/-- a graph that is well-formed -/
def Chk (g : List Nd) : Prop := g.length ≤ 4096 ∧ Rising 0 g ∧ entSum g ≤ 8192 ∧ ∃ p, enterN g g [] = some p ∧ Acy p
/-- the state of the walk through a tree -/
structure TS where
  out : List Ln
  first : List (Int × Bt)
  bytes : Nat
def TS.peer (st : TS) (id : Int) : Bt := (st.first.lookup id).getD []
def mkLine (n : Nd) (path peer : Bt) : Ln := ⟨path, n.kind, n.mode, n.uid, n.gid, n.sec, n.nano, if peer = [] then n.data else [], if peer = [] then n.target else [], peer⟩
def below (path : Bt) (top : Bool) (nm : Bt) : Bt := if top then nm else path ++ 47 :: nm
def kids (n : Nd) (path : Bt) (top : Bool) : List (Int × Bt) := n.ents.map fun e => (e.2, below path top e.1)
def TS.next (st : TS) (n : Nd) (path : Bt) : TS := ⟨st.out ++ [mkLine n path (st.peer n.id)], if st.peer n.id = [] then st.first ++ [(n.id, path)] else st.first, st.bytes + path.length⟩
inductive Wk (g : List Nd) : List (Int × Bt) → TS → Option TS → Prop
  | done (st : TS) : Wk g [] st (some st)
  | big (id : Int) (path : Bt) (r : List (Int × Bt)) (st : TS) (h : 4194304 < st.bytes + path.length) : Wk g ((id, path) :: r) st none
  | step (id : Int) (path : Bt) (r : List (Int × Bt)) (st : TS) (n : Nd) (res : Option TS) (h : st.bytes + path.length ≤ 4194304) (hn : nodeOf g id = some n) (hk : Wk g (kids n path st.out.isEmpty ++ r) (st.next n path) res) : Wk g ((id, path) :: r) st res
theorem Wk.det {g : List Nd} {s : List (Int × Bt)} {st : TS} {x y : Option TS} (hx : Wk g s st x) (hy : Wk g s st y) : x = y := by
  induction hx with
  | done st => cases hy; rfl
  | big id path r st h =>
    cases hy with
    | big => rfl
    | step _ _ _ _ n res h' => omega
  | step id path r st n res h hn hk ih =>
    cases hy with
    | big _ _ _ _ h' => omega
    | step _ _ _ _ n' res' h' hn' hk' =>
      rw [hn] at hn'
      cases hn'
      exact ih hk'
def st0 : TS := ⟨[], [], 0⟩
def TreeOk (g : List Nd) (root : Int) (ls : List Ln) : Prop := Chk g ∧ (∃ n, nodeOf g root = some n ∧ n.kind = 2) ∧ ∃ st, Wk g [(root, [46])] st0 (some st) ∧ st.out = ls
theorem TreeOk.det {g : List Nd} {root : Int} {x y : List Ln} (hx : TreeOk g root x) (hy : TreeOk g root y) : x = y := by
  obtain ⟨_, _, s, hs, rfl⟩ := hx
  obtain ⟨_, _, t, ht, rfl⟩ := hy
  have := hs.det ht
  cases this
  rfl
/-! ### nodes of a checked graph -/
theorem Rising.ids : ∀ {g : List Nd} {last : Int}, Rising last g → ∀ n ∈ g, last < n.id
  | n :: ns, last, h, m, hm => by
    rcases List.mem_cons.1 hm with rfl | hm
    · exact h.1
    · have := Rising.ids h.2.2.2 m hm
      have := h.1
      omega
theorem Rising.nodup : ∀ {g : List Nd} {last : Int}, Rising last g → g.Pairwise fun a b => a.id < b.id
  | [], _, _ => List.Pairwise.nil
  | n :: ns, last, h => List.Pairwise.cons (fun m hm => Rising.ids h.2.2.2 m hm) (Rising.nodup h.2.2.2)
theorem Rising.sound : ∀ {g : List Nd} {last : Int}, Rising last g → ∀ n ∈ g, sound n = true
  | n :: ns, last, h, m, hm => by
    rcases List.mem_cons.1 hm with rfl | hm
    · exact h.2.2.1
    · exact Rising.sound h.2.2.2 m hm
theorem nodeOf_mem {g : List Nd} {id : Int} {n : Nd} (h : nodeOf g id = some n) : n ∈ g ∧ n.id = id := by
  unfold nodeOf at h
  exact ⟨List.mem_of_find?_eq_some h, by simpa using List.find?_some h⟩
/-! ### the planting -/
/-- the last stroke -/
def cutOf : Bt → Option Nat
  | [] => none
  | b :: l => match cutOf l with
    | some k => some (k + 1)
    | none => if b = 47 then some 0 else none
theorem cutOf_none : ∀ {l : Bt}, cutOf l = none ↔ 47 ∉ l
  | [] => by simp [cutOf]
  | b :: l => by
    have ih := @cutOf_none l
    cases h : cutOf l with
    | some k =>
      have : 47 ∈ l := by
        apply Classical.byContradiction
        intro hn
        rw [ih.2 hn] at h; cases h
      simp [cutOf, h, this]
    | none =>
      have := ih.1 h
      by_cases hb : b = 47
      · simp [cutOf, h, hb]
      · simp only [cutOf, h, if_neg hb, true_iff, List.mem_cons, not_or]
        exact ⟨fun e => hb e.symm, this⟩
theorem cutOf_some : ∀ {l : Bt} {k : Nat}, cutOf l = some k ↔ ∃ a b, l = a ++ 47 :: b ∧ a.length = k ∧ 47 ∉ b
  | [], k => by simp [cutOf]
  | c :: l, k => by
    have ih := fun k => @cutOf_some l k
    constructor
    · intro h
      cases hc : cutOf l with
      | some j =>
        simp only [cutOf, hc, Option.some.injEq] at h
        obtain ⟨a, b, rfl, rfl, hb⟩ := (ih j).1 hc
        exact ⟨c :: a, b, rfl, by simp; omega, hb⟩
      | none =>
        simp only [cutOf, hc] at h
        split at h
        · rename_i he
          subst he
          simp only [Option.some.injEq] at h
          subst h
          exact ⟨[], l, rfl, rfl, cutOf_none.1 hc⟩
        · cases h
    · rintro ⟨a, b, he, rfl, hb⟩
      cases a with
      | nil =>
        simp only [List.nil_append, List.cons.injEq] at he
        obtain ⟨rfl, rfl⟩ := he
        simp [cutOf, cutOf_none.2 hb]
      | cons x a =>
        simp only [List.cons_append, List.cons.injEq] at he
        obtain ⟨rfl, rfl⟩ := he
        have := (ih a.length).2 ⟨a, b, rfl, rfl, hb⟩
        simp [cutOf, this]
theorem cutOf_lt {l : Bt} {k : Nat} (h : cutOf l = some k) : k < l.length := by
  obtain ⟨a, b, rfl, rfl, _⟩ := cutOf_some.1 h
  simp
/-- the last pair of that key -/
def lastOf (p : List (Bt × Int)) (k : Bt) : Option Int := p.reverse.lookup k
def mkNode (id : Int) (l : Ln) : Nd := ⟨id, l.kind, l.mode, l.uid, l.gid, l.sec, l.nano, l.data, l.target, []⟩
def addEnt (g : List Nd) (k : Nat) (e : Bt × Int) : List Nd := g.modify k fun n => { n with ents := n.ents ++ [e] }
/-- the number of a line's node; 0: none -/
def idOf (pi : List (Bt × Int)) (g : List Nd) (l : Ln) : Int := if l.peer = [] then (g.length : Int) + 1 else (pi.lookup l.peer).getD 0
def nodes1 (g : List Nd) (l : Ln) : List Nd := if l.peer = [] then g ++ [mkNode ((g.length : Int) + 1) l] else g
def nameOf (l : Ln) : Bt := match cutOf l.path with | none => l.path | some c => l.path.drop (c + 1)
/-- the number of the parent; 0: none (R: the reference's way) -/
def parOf (R : Bool) (pi : List (Bt × Int)) (l : Ln) : Int :=
  match cutOf l.path with
  | none => 1
  | some c => if R then (lastOf (pi.drop 1) (l.path.take c)).getD 0 else (pi.lookup (l.path.take c)).getD 0
def plant (R : Bool) (pi : List (Bt × Int)) (g : List Nd) : List Ln → Option (List Nd)
  | [] => some g
  | l :: ls =>
    if (R = false ∧ (pi.lookup l.path).isSome = true) ∨ idOf pi g l = 0 then none
    else if pi = [] then plant R (pi ++ [(l.path, idOf pi g l)]) (nodes1 g l) ls
    else if parOf R pi l = 0 then none
    else plant R (pi ++ [(l.path, idOf pi g l)]) (addEnt (nodes1 g l) ((parOf R pi l).toNat - 1) (nameOf l, idOf pi g l)) ls
def Planted (R : Bool) (ls : List Ln) : Prop := ∃ g, plant R [] [] ls = some g ∧ TreeOk g 1 ls
theorem lookup_none_iff {α β : Type} [BEq α] [LawfulBEq α] {k : α} : ∀ {l : List (α × β)}, l.lookup k = none ↔ k ∉ l.map (·.1)
  | [] => by simp
  | (x, y) :: l => by
    have ih := @lookup_none_iff α β _ _ k l
    by_cases h : k = x
    · subst h; simp [List.lookup_cons]
    · rw [List.lookup_cons, beq_f h]
      simp only [ih, List.map_cons, List.mem_cons, not_or]
      exact ⟨fun h2 => ⟨h, h2⟩, fun h2 => h2.2⟩
theorem lookup_mem {α β : Type} [BEq α] [LawfulBEq α] {k : α} {v : β} : ∀ {l : List (α × β)}, l.lookup k = some v → (k, v) ∈ l
  | [], h => by simp at h
  | (x, y) :: l, h => by
    rw [List.lookup_cons] at h
    by_cases e : k = x
    · subst e
      simp only [BEq.rfl, Option.some.injEq] at h
      subst h; simp
    · rw [beq_f e] at h
      exact List.mem_cons_of_mem _ (lookup_mem h)
theorem lookup_nodup {α β : Type} [BEq α] [LawfulBEq α] {k : α} {v : β} : ∀ {l : List (α × β)}, (l.map (·.1)).Nodup → (k, v) ∈ l → l.lookup k = some v
  | [], _, h => by simp at h
  | (x, y) :: l, hn, h => by
    rw [List.lookup_cons]
    rcases List.mem_cons.1 h with h | h
    · cases h; simp
    · simp only [List.map_cons, List.nodup_cons] at hn
      have : ¬ k = x := fun e => hn.1 (List.mem_map.2 ⟨(k, v), h, e⟩)
      rw [beq_f this]
      exact lookup_nodup hn.2 h
theorem lastOf_nodup {p : List (Bt × Int)} (h : (p.map (·.1)).Nodup) (k : Bt) : lastOf p k = p.lookup k := by
  unfold lastOf
  cases hl : p.lookup k with
  | none =>
    rw [lookup_none_iff] at hl ⊢
    simpa using hl
  | some v =>
    refine lookup_nodup (by rw [List.map_reverse]; exact (List.reverse_perm _).nodup_iff.2 h) ?_
    simpa using lookup_mem hl
/-- where no path stands twice and none lies straight below the first line's own path, the two plantings are one -/
theorem plant_same (x : Bt) : ∀ (ls : List Ln) (pi : List (Bt × Int)) (g : List Nd), (pi.map (·.1) ++ ls.map (·.path)).Nodup → (pi.map (·.1) ++ ls.map (·.path)).head? = some x →
    (∀ l ∈ ls.drop (if pi = [] then 1 else 0), ∀ c, cutOf l.path = some c → l.path.take c ≠ x) → plant true pi g ls = plant false pi g ls
  | [], pi, g, _, _, _ => rfl
  | l :: ls, pi, g, hn, hx, hc => by
    have hn' : ((pi ++ [(l.path, idOf pi g l)]).map (·.1) ++ ls.map (·.path)).Nodup := by simpa using hn
    have hx' : ((pi ++ [(l.path, idOf pi g l)]).map (·.1) ++ ls.map (·.path)).head? = some x := by simpa using hx
    have hc' : ∀ m ∈ ls.drop (if pi ++ [(l.path, idOf pi g l)] = [] then 1 else 0), ∀ c, cutOf m.path = some c → m.path.take c ≠ x := by
      intro m hm
      rw [if_neg (by simp)] at hm
      refine hc m ?_
      split
      · simpa using hm
      · simp only [List.drop_zero] at hm ⊢
        exact List.mem_cons_of_mem _ hm
    have ih := fun g' => plant_same x ls (pi ++ [(l.path, idOf pi g l)]) g' hn' hx' hc'
    have htw : (pi.lookup l.path).isSome = false := by
      rw [Option.isSome_eq_false_iff, Option.isNone_iff_eq_none, lookup_none_iff]
      intro hm
      have h1 := List.nodup_append.1 hn
      exact h1.2.2 _ hm l.path (by simp) rfl
    by_cases hp : pi = []
    · simp only [plant, htw, hp, if_true]
      subst hp
      simp only [ih]
      simp
    · have hpar : parOf true pi l = parOf false pi l := by
        unfold parOf
        cases hq : cutOf l.path with
        | none => rfl
        | some c =>
          simp only [if_true]
          have hne : l.path.take c ≠ x := hc l (by rw [if_neg hp]; simp) c hq
          have hnd : (pi.map (·.1)).Nodup := (List.nodup_append.1 hn).1
          cases pi with
          | nil => exact absurd rfl hp
          | cons y ys =>
            simp only [List.map_cons, List.cons_append, List.head?_cons, Option.some.injEq] at hx
            simp only [List.drop_one, List.tail_cons]
            simp only [List.map_cons, List.nodup_cons] at hnd
            rw [lastOf_nodup hnd.2]
            obtain ⟨y1, y2⟩ := y
            simp only at hx
            rw [List.lookup_cons, beq_f (by rw [hx]; exact hne)]
            rfl
      simp only [plant, htw, hpar, ih]
      simp
end Gr
end Go.Proofs.Ytpdkdhcbibcifaa
