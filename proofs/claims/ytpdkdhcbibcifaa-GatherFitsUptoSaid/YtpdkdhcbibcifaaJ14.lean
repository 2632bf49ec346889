/-
  J14: FtRen, FtPlant, IndexB, Fits, RefFits, FtPar, joined.
-/
import Derived.Test.YtpdkdhcbibcifaaJ13
import Derived.Test.YtpdkdhcbibcifaaJ01
import Derived.Lib.Bytealg
import Derived.Test.YtpdkdhcbibcifaaJ02
import Derived.Deep.DeepCutAuto
import Derived.Deep.CutBlock
namespace Go.Proofs.Ytpdkdhcbibcifaa
set_option linter.unusedVariables false
set_option linter.unusedSimpArgs false
namespace Gr
/-- a number's place in the list, from 1 -/
def rnk (R : List Int) (id : Int) : Int := (R.idxOf id : Int) + 1
theorem rnk_inj {R : List Int} {a b : Int} (ha : a ∈ R) (h : rnk R a = rnk R b) : a = b := by
  unfold rnk at h
  have h1 : R.idxOf a = R.idxOf b := by omega
  have h2 := List.idxOf_lt_length_of_mem ha
  have h3 := List.getElem_idxOf h2
  have h4 := List.getElem_idxOf (h1 ▸ h2 : R.idxOf b < R.length)
  rw [← h3, ← h4]
  simp only [h1]
def renE (R : List Int) (e : Bt × Int) : Bt × Int := (e.1, rnk R e.2)
def renN (R : List Int) (n : Nd) : Nd := { n with id := rnk R n.id, ents := n.ents.map (renE R) }
def TS.ren (R : List Int) (st : TS) : TS := ⟨st.out, st.first.map fun x => (rnk R x.1, x.2), st.bytes⟩
theorem lookup_ren {R : List Int} {id : Int} (hid : id ∈ R) : ∀ {l : List (Int × Bt)}, (∀ x ∈ l, x.1 ∈ R) → (l.map fun x => (rnk R x.1, x.2)).lookup (rnk R id) = l.lookup id
  | [], _ => rfl
  | (a, b) :: l, h => by
    have ih := lookup_ren hid (l := l) (fun x hx => h x (by simp [hx]))
    rw [List.map_cons, List.lookup_cons, List.lookup_cons, ih]
    by_cases e : id = a
    · subst e; simp
    · rw [beq_f e, beq_f (fun e2 => e (rnk_inj hid e2))]
theorem peer_ren {R : List Int} {st : TS} {id : Int} (hid : id ∈ R) (h : ∀ x ∈ st.first, x.1 ∈ R) : (st.ren R).peer (rnk R id) = st.peer id := by
  unfold TS.peer TS.ren
  simp only
  rw [lookup_ren hid h]
/-- the walk under other numbers -/
theorem Wk.ren {g g' : List Nd} {R : List Int} (hno : ∀ id ∈ R, ∀ n, nodeOf g id = some n → nodeOf g' (rnk R id) = some (renN R n)) (hcl : ∀ id ∈ R, ∀ n, nodeOf g id = some n → ∀ e ∈ n.ents, e.2 ∈ R)
    {s : List (Int × Bt)} {st : TS} {res : Option TS} (h : Wk g s st res) : (∀ x ∈ s, x.1 ∈ R) → (∀ x ∈ st.first, x.1 ∈ R) → Wk g' (s.map fun x => (rnk R x.1, x.2)) (st.ren R) (res.map (TS.ren R)) := by
  induction h with
  | done st => intro _ _; exact Wk.done _
  | big id path r st h => intro _ _; exact Wk.big _ _ _ _ h
  | step id path r st n res h hn _ ih =>
    intro h1 h2
    have hid : id ∈ R := h1 (id, path) (by simp)
    obtain ⟨hng, rfl⟩ := nodeOf_mem hn
    have hp : (st.ren R).peer (rnk R n.id) = st.peer n.id := peer_ren hid h2
    have hnx : (st.ren R).next (renN R n) path = (st.next n path).ren R := by
      have e1 : (renN R n).id = rnk R n.id := rfl
      unfold TS.next
      rw [e1, hp]
      unfold TS.ren
      simp only [mkLine, renN]
      split <;> simp
    have hk : kids (renN R n) path (st.ren R).out.isEmpty ++ r.map (fun x => (rnk R x.1, x.2)) = (kids n path st.out.isEmpty ++ r).map fun x => (rnk R x.1, x.2) := by
      simp [kids, renN, renE, TS.ren, List.map_append, Function.comp_def]
    refine Wk.step _ _ _ _ (renN R n) _ h (hno _ hid n hn) ?_
    rw [hk, hnx]
    refine ih ?_ ?_
    · intro x hx
      rcases List.mem_append.1 hx with hx | hx
      · obtain ⟨e, he, rfl⟩ := List.mem_map.1 hx
        exact hcl _ hid n hn e he
      · exact h1 x (by simp [hx])
    · intro x hx
      unfold TS.next at hx
      simp only at hx
      split at hx
      · rcases List.mem_append.1 hx with hx | hx
        · exact h2 x hx
        · rw [List.mem_singleton] at hx; subst hx; exact hid
      · exact h2 x hx
/-! ### sums over a part -/
theorem sub_sum {α : Type} (f : α → Nat) : ∀ {N g : List α}, N.Nodup → (∀ n ∈ N, n ∈ g) → (N.map f).sum ≤ (g.map f).sum
  | [], g, _, _ => by simp
  | n :: N, g, hn, hs => by
    obtain ⟨a, b, rfl⟩ := List.append_of_mem (hs n (by simp))
    rw [List.nodup_cons] at hn
    have ih := sub_sum f (N := N) (g := a ++ b) hn.2 (fun m hm => by
      have h1 := hs m (by simp [hm])
      have h2 : m ≠ n := fun e => hn.1 (e ▸ hm)
      simpa [h2] using h1)
    simp only [List.map_append, List.map_cons, List.sum_append, List.sum_cons] at ih ⊢
    omega
theorem entSum_sum : ∀ g : List Nd, entSum g = (g.map fun n => n.ents.length).sum
  | [] => rfl
  | n :: g => by simp [entSum, entSum_sum g]
theorem length_sum {α : Type} : ∀ g : List α, g.length = (g.map fun _ => 1).sum
  | [] => rfl
  | n :: g => by simp [length_sum g]; omega
/-! ### entering -/
theorem enterE_go {g : List Nd} {pid : Int} : ∀ {es : List (Bt × Int)} {last : Bt} {p : List (Int × Int)}, EntsOk g es → (∀ e ∈ es, Op.bytesLess last e.1 = true) → (∀ e ∈ es, isDir g e.2 = true → e.2 ∉ p.map (·.1)) →
    es.Pairwise (fun a b => isDir g a.2 = true → isDir g b.2 = true → a.2 ≠ b.2) → ∃ q, enterE g pid es last p = some (p ++ q) ∧ ∀ x ∈ q, ∃ e ∈ es, isDir g e.2 = true ∧ x = (e.2, pid)
  | [], _, p, _, _, _, _ => ⟨[], by simp [enterE], by simp⟩
  | (nm, id) :: es, last, p, hk, hl, hp, hpw => by
    rw [List.pairwise_cons] at hpw
    obtain ⟨t, ht⟩ := Option.isSome_iff_exists.1 (hk.there (nm, id) (by simp))
    simp only at ht
    have hgood := hk.good (nm, id) (by simp)
    have hlt := hl (nm, id) (by simp)
    simp only at hgood hlt
    have hri := hk.rise
    rw [List.pairwise_cons] at hri
    have hk' : EntsOk g es := ⟨fun e he => hk.good e (by simp [he]), fun e he => hk.there e (by simp [he]), hri.2⟩
    have hno : ¬ (good nm = false ∨ (Op.bytesLess nm last || nm == last) = true) := by
      rw [not_or]
      refine ⟨by simp [hgood], ?_⟩
      rw [Bool.or_eq_true, not_or]
      refine ⟨fun h => ?_, fun h => ?_⟩
      · have := less_trans hlt h; rw [less_irrefl] at this; cases this
      · have : nm = last := by simpa using h
        rw [this, less_irrefl] at hlt; cases hlt
    have hdr : isDir g id = true ↔ t.kind = 2 := by simp [isDir, ht]
    unfold enterE
    rw [ht]
    simp only
    rw [if_neg hno]
    by_cases hkd : t.kind ≠ 2
    · rw [if_pos hkd]
      obtain ⟨q, h1, h2⟩ := enterE_go (pid := pid) (last := nm) (p := p) hk' (fun e he => hri.1 e he) (fun e he => hp e (by simp [he])) hpw.2
      refine ⟨q, h1, fun x hx => ?_⟩
      obtain ⟨e, he, h3⟩ := h2 x hx
      exact ⟨e, by simp [he], h3⟩
    · rw [if_neg hkd]
      have hd : isDir g id = true := hdr.2 (by simpa using hkd)
      have hni := hp (nm, id) (by simp) hd
      simp only at hni
      have hls : ¬ (p.lookup id).isSome = true := by
        rw [lookup_none_iff.2 hni]; simp
      rw [if_neg hls]
      obtain ⟨q, h1, h2⟩ := enterE_go (pid := pid) (last := nm) (p := p ++ [(id, pid)]) hk' (fun e he => hri.1 e he) (fun e he hd' => by
        have h3 := hp e (by simp [he]) hd'
        have h4 := hpw.1 e he hd hd'
        simp only at h4
        simp only [List.map_append, List.mem_append, not_or, List.map_cons, List.map_nil, List.mem_singleton]
        exact ⟨h3, fun e1 => h4 e1.symm⟩) hpw.2
      refine ⟨(id, pid) :: q, by rw [h1]; simp, fun x hx => ?_⟩
      rcases List.mem_cons.1 hx with rfl | hx
      · exact ⟨(nm, id), by simp, hd, rfl⟩
      · obtain ⟨e, he, h3⟩ := h2 x hx
        exact ⟨e, by simp [he], h3⟩
theorem enterN_go {g : List Nd} : ∀ {ns : List Nd} {p : List (Int × Int)}, (∀ n ∈ ns, EntsOk g n.ents) → (∀ n ∈ ns, n.ents.Pairwise (fun a b => isDir g a.2 = true → isDir g b.2 = true → a.2 ≠ b.2)) →
    ns.Pairwise (fun a b => ∀ e ∈ a.ents, ∀ f ∈ b.ents, isDir g e.2 = true → e.2 ≠ f.2) → (∀ n ∈ ns, ∀ e ∈ n.ents, isDir g e.2 = true → e.2 ∉ p.map (·.1)) →
    ∃ q, enterN g ns p = some (p ++ q) ∧ ∀ x ∈ q, ∃ n ∈ ns, ∃ e ∈ n.ents, isDir g e.2 = true ∧ x = (e.2, n.id)
  | [], p, _, _, _, _ => ⟨[], by simp [enterN], by simp⟩
  | n :: ns, p, hk, ho, hpw, hp => by
    rw [List.pairwise_cons] at hpw
    have hkn := hk n (by simp)
    obtain ⟨q, h1, h2⟩ := enterE_go (pid := n.id) (last := []) (p := p) hkn (fun e he => by
      have := (good_parts (hkn.good e he)).1
      cases h : e.1 with
      | nil => exact absurd h this
      | cons => rfl) (hp n (by simp)) (ho n (by simp))
    obtain ⟨q2, h3, h4⟩ := enterN_go (ns := ns) (p := p ++ q) (fun m hm => hk m (by simp [hm])) (fun m hm => ho m (by simp [hm])) hpw.2 (fun m hm f hf hd => by
      simp only [List.map_append, List.mem_append, not_or]
      refine ⟨hp m (by simp [hm]) f hf hd, fun hm2 => ?_⟩
      obtain ⟨x, hx, hxf⟩ := List.mem_map.1 hm2
      obtain ⟨e, he, hd2, rfl⟩ := h2 x hx
      exact hpw.1 m hm e he f hf hd2 hxf)
    refine ⟨q ++ q2, ?_, fun x hx => ?_⟩
    · unfold enterN
      rw [h1]
      simp only
      rw [h3, List.append_assoc]
    · rcases List.mem_append.1 hx with hx | hx
      · obtain ⟨e, he, hd, rfl⟩ := h2 x hx
        exact ⟨n, by simp, e, he, hd, rfl⟩
      · obtain ⟨m, hm, h5⟩ := h4 x hx
        exact ⟨m, by simp [hm], h5⟩
/-! ### the part -/
structure Part (g : List Nd) (R : List Int) (N : List Nd) : Prop where
  ids : N.map (·.id) = R
  nd : R.Nodup
  sub : ∀ n ∈ N, n ∈ g
  cl : ∀ n ∈ N, ∀ e ∈ n.ents, e.2 ∈ R
theorem rnk_at {R A : List Int} {x : Int} {B : List Int} (h : R = A ++ x :: B) (hn : R.Nodup) : rnk R x = (A.length : Int) + 1 := by
  subst h
  unfold rnk
  have hx : x ∉ A := fun hm => (List.nodup_append.1 hn).2.2 x hm x (by simp) rfl
  rw [List.idxOf_append, if_neg hx]
  simp
theorem sound_ren (R : List Int) (n : Nd) : sound (renN R n) = sound n := by
  unfold sound renN
  simp only [List.isEmpty_map]
theorem Part.rising {g : List Nd} {R : List Int} {N : List Nd} (hP : Part g R N) (hs : ∀ n ∈ g, sound n = true) (hl : N.length ≤ 4096) : ∀ {B A : List Nd}, N = A ++ B → Rising (A.length : Int) (B.map (renN R))
  | [], A, _ => trivial
  | n :: B, A, h => by
    have hr : (renN R n).id = (A.length : Int) + 1 := by
      have := rnk_at (R := R) (A := A.map (·.id)) (x := n.id) (B := B.map (·.id)) (by rw [← hP.ids, h]; simp) hP.nd
      simpa [renN] using this
    have hle : A.length + 1 ≤ 4096 := by rw [h] at hl; simp at hl; omega
    refine ⟨by rw [hr]; omega, by rw [hr]; omega, by rw [sound_ren]; exact hs n (hP.sub n (by rw [h]; simp)), ?_⟩
    have ih := Part.rising hP hs hl (B := B) (A := A ++ [n]) (by rw [h]; simp)
    rw [hr]
    simpa using ih
theorem Part.node {g : List Nd} {R : List Int} {N : List Nd} (hP : Part g R N) (hg : Inc g) (hI : Inc (N.map (renN R))) {id : Int} (hid : id ∈ R) {n : Nd} (hn : nodeOf g id = some n) : n ∈ N ∧ nodeOf (N.map (renN R)) (rnk R id) = some (renN R n) := by
  rw [← hP.ids] at hid
  obtain ⟨m, hm, rfl⟩ := List.mem_map.1 hid
  obtain ⟨k, hk⟩ := List.mem_iff_getElem?.1 (hP.sub m hm)
  rw [nodeOf_at hg hk] at hn
  cases hn
  refine ⟨hm, ?_⟩
  obtain ⟨j, hj⟩ := List.mem_iff_getElem?.1 hm
  have := nodeOf_at hI (k := j) (x := renN R n) (by simp [hj])
  exact this
theorem Part.chk {g : List Nd} {R : List Int} {N : List Nd} (hP : Part g R N) (hC : Chk g) : Chk (N.map (renN R)) := by
  obtain ⟨p, hp⟩ := hC.ok
  have hg : Inc g := hC.2.1.inc
  have hNn : N.Nodup := by
    have h1 := hP.nd
    rw [← hP.ids] at h1
    exact (List.pairwise_map.1 h1).imp fun {a b} hab e => hab (by rw [e])
  have hlen : N.length ≤ 4096 := by
    have := sub_sum (fun _ => 1) hNn hP.sub
    rw [← length_sum, ← length_sum] at this
    exact Nat.le_trans this hC.1
  have hR := hP.rising hp.sound hlen (B := N) (A := []) rfl
  have hI := hR.inc
  have hdir : ∀ id ∈ R, isDir (N.map (renN R)) (rnk R id) = isDir g id := by
    intro id hid
    have hid2 := hid
    rw [← hP.ids] at hid2
    obtain ⟨m, hm, rfl⟩ := List.mem_map.1 hid2
    obtain ⟨k, hk⟩ := List.mem_iff_getElem?.1 (hP.sub m hm)
    have h1 := nodeOf_at hg hk
    have h2 := (hP.node hg hI hid h1).2
    simp [isDir, h1, h2, renN]
  have hent : ∀ n ∈ N, EntsOk (N.map (renN R)) (renN R n).ents := by
    intro n hn
    have h1 := hp.ents n (hP.sub n hn)
    refine ⟨fun e he => ?_, fun e he => ?_, ?_⟩
    · obtain ⟨f, hf, rfl⟩ := List.mem_map.1 he
      exact h1.good f hf
    · obtain ⟨f, hf, rfl⟩ := List.mem_map.1 he
      obtain ⟨t, ht⟩ := Option.isSome_iff_exists.1 (h1.there f hf)
      have h2 := (hP.node hg hI (hP.cl n hn f hf) ht).2
      show (nodeOf _ (rnk R f.2)).isSome = true
      rw [h2]; rfl
    · exact List.pairwise_map.2 h1.rise
  refine ⟨by simpa using hlen, by simpa using hR, ?_, ?_⟩
  · rw [entSum_sum, List.map_map]
    have h1 := sub_sum (fun n : Nd => n.ents.length) hNn hP.sub
    rw [← entSum_sum g] at h1
    have h2 : (N.map ((fun n : Nd => n.ents.length) ∘ renN R)) = N.map fun n => n.ents.length := by
      refine List.map_congr_left fun n _ => ?_
      simp [renN]
    rw [h2]
    exact Nat.le_trans h1 hC.2.2.1
  · obtain ⟨q, h1, h2⟩ := enterN_go (g := N.map (renN R)) (ns := N.map (renN R)) (p := []) (fun m hm => by
        obtain ⟨n, hn, rfl⟩ := List.mem_map.1 hm
        exact hent n hn) (fun m hm => by
        obtain ⟨n, hn, rfl⟩ := List.mem_map.1 hm
        show List.Pairwise _ (n.ents.map (renE R))
        rw [List.pairwise_map]
        refine List.Pairwise.imp_of_mem (fun {a b} ha hb hab hd1 hd2 e => ?_) (hp.once n (hP.sub n hn))
        simp only [renE] at hd1 hd2 e
        rw [hdir _ (hP.cl n hn a ha)] at hd1
        rw [hdir _ (hP.cl n hn b hb)] at hd2
        exact hab hd1 hd2 (rnk_inj (hP.cl n hn a ha) e)) (by
        rw [List.pairwise_map]
        refine List.Pairwise.imp_of_mem (fun {a b} ha hb hab => ?_) (by have h1 := hP.nd; rw [← hP.ids, List.nodup_iff_pairwise_ne, List.pairwise_map] at h1; exact h1)
        intro e he f hf hd e1
        obtain ⟨e', he', rfl⟩ := List.mem_map.1 he
        obtain ⟨f', hf', rfl⟩ := List.mem_map.1 hf
        simp only [renE] at hd e1
        rw [hdir _ (hP.cl a ha e' he')] at hd
        have e2 := rnk_inj (hP.cl a ha e' he') e1
        have k1 := hp.par a (hP.sub a ha) e' he' hd
        have k2 := hp.par b (hP.sub b hb) f' hf' (by rw [← e2]; exact hd)
        rw [e2, k2] at k1
        exact hab (Option.some.inj k1).symm) (by simp)
    simp only [List.nil_append] at h1
    refine ⟨q, h1, ?_⟩
    have hq : ∀ id ∈ R, ∀ y, q.lookup (rnk R id) = some y → ∃ u ∈ R, p.lookup id = some u ∧ y = rnk R u := by
      intro id hid y hy
      obtain ⟨m, hm, e, he, hd, hx⟩ := h2 _ (lookup_mem hy)
      obtain ⟨n, hn, rfl⟩ := List.mem_map.1 hm
      obtain ⟨f, hf, rfl⟩ := List.mem_map.1 he
      simp only [renE, renN, Prod.mk.injEq] at hd hx
      obtain ⟨hx1, rfl⟩ := hx
      have hfR := hP.cl n hn f hf
      rw [hdir _ hfR] at hd
      have e3 := rnk_inj hid hx1
      subst e3
      exact ⟨n.id, by rw [← hP.ids]; exact List.mem_map.2 ⟨n, hn, rfl⟩, hp.par n (hP.sub n hn) f hf hd, rfl⟩
    have hup : ∀ k id, id ∈ R → climb p k id = none → Ends q (rnk R id) := by
      intro k
      induction k with
      | zero => intro id _ h; simp [climb] at h
      | succ k ih =>
        intro id hid h
        cases hl : q.lookup (rnk R id) with
        | none => exact ⟨1, by simp [climb, hl]⟩
        | some y =>
          obtain ⟨u, hu, e1, rfl⟩ := hq id hid y hl
          simp only [climb, e1] at h
          obtain ⟨j, hj⟩ := ih u hu h
          exact ⟨j + 1, by simp only [climb, hl]; exact hj⟩
    intro x
    cases hl : q.lookup x with
    | none => exact ⟨1, by simp [climb, hl]⟩
    | some y =>
      obtain ⟨m, hm, e, he, hd, hx⟩ := h2 _ (lookup_mem hl)
      obtain ⟨n, hn, rfl⟩ := List.mem_map.1 hm
      obtain ⟨f, hf, rfl⟩ := List.mem_map.1 he
      simp only [renE, renN, Prod.mk.injEq] at hd hx
      obtain ⟨rfl, _⟩ := hx
      obtain ⟨k, hk⟩ := hp.acy f.2
      exact hup k f.2 (hP.cl n hn f hf) hk
end Gr
end Go.Proofs.Ytpdkdhcbibcifaa
namespace Go.Proofs.Ytpdkdhcbibcifaa
set_option linter.unusedVariables false
set_option linter.unusedSimpArgs false
namespace Gr
abbrev PtI := List Bt × Int
/-- what waits straight below the path x -/
def pend (R : List Int) (x : List Bt) (S : List PtI) : List (Bt × Int) := S.filterMap fun y => if y.1 ≠ [] ∧ y.1.dropLast = x then some (y.1.getLast?.getD [], rnk R y.2) else none
theorem pend_append (R : List Int) (x : List Bt) (S T : List PtI) : pend R x (S ++ T) = pend R x S ++ pend R x T := by simp [pend]
theorem pend_nil {R : List Int} {x : List Bt} {S : List PtI} (h : ∀ y ∈ S, y.1 ≠ [] → y.1.dropLast ≠ x) : pend R x S = [] := by
  unfold pend
  rw [List.filterMap_eq_nil_iff]
  intro y hy
  rw [if_neg (fun h2 => h y hy h2.1 h2.2)]
theorem pend_kids (R : List Int) (x : List Bt) (n : Nd) : pend R x (n.ents.map fun e => (x ++ [e.1], e.2)) = (renN R n).ents := by
  simp only [pend, renN, List.filterMap_map]
  induction n.ents with
  | nil => rfl
  | cons e es ih => simp [ih, renE]
structure PlI (g : List Nd) (p : List (Int × Int)) (root : Int) (R : List Int) (O S : List PtI) (s : List (Int × Bt)) (st : TS) (pi : List (Bt × Int)) (gp : List Nd) : Prop where
  stack : s = S.map fun y => (y.2, shw y.1)
  paths : PInv (O.map (·.1)) (S.map (·.1))
  pi : pi = O.map fun y => (shw y.1, rnk R y.2)
  out : st.out.map (·.path) = O.map fun y => shw y.1
  first : ∀ x ∈ st.first, ∃ y ∈ O, y.2 = x.1 ∧ shw y.1 = x.2
  met : ∀ y ∈ O, y.2 ∈ st.first.map (·.1)
  pre : ∃ t, R = st.first.map (·.1) ++ t
  len : gp.length = st.first.length
  node : ∀ y ∈ O, ∀ n, nodeOf g y.2 = some n → ∃ D, gp[R.idxOf y.2]? = some { renN R n with ents := D } ∧ (renN R n).ents = D ++ pend R y.1 S
  there : ∀ y ∈ O, (nodeOf g y.2).isSome = true
  dir : DInv g p root (O.map (·.2)) (S.map (·.2))
  rt : ∀ y ∈ O, y.1 = [] → R.idxOf y.2 = 0
  start : O = [] → S.map (·.2) = [root]
  top : ∀ y ∈ O.head?, y.2 = root
  cl : ∀ y ∈ O, ∀ n, nodeOf g y.2 = some n → ∀ e ∈ n.ents, e.2 ∈ (O ++ S).map (·.2)
theorem Wk.first_pre {g : List Nd} {s : List (Int × Bt)} {st : TS} {res : Option TS} (h : Wk g s st res) : ∀ fin, res = some fin → ∃ t, fin.first = st.first ++ t := by
  induction h with
  | done st => intro fin e; cases e; exact ⟨[], by simp⟩
  | big => intro fin e; cases e
  | step id path r st n res h hn hk ih =>
    intro fin e
    obtain ⟨t, ht⟩ := ih fin e
    unfold TS.next at ht
    simp only at ht
    split at ht
    · exact ⟨(n.id, path) :: t, by rw [ht]; simp⟩
    · exact ⟨t, ht⟩
theorem Wk.first_nodup {g : List Nd} {root : Int} {fin : TS} (h : Wk g [(root, [46])] st0 (some fin)) (hg : ∀ n ∈ g, ∀ e ∈ n.ents, e.1 ≠ []) : (fin.first.map (·.1)).Nodup := by
  refine (Wk.inv (I := fun s st => (∀ x ∈ s, x.2 ≠ []) ∧ (∀ x ∈ st.first, x.2 ≠ []) ∧ (st.first.map (·.1)).Nodup) (fun id path r st n hi hb hn => ?_) h ⟨by simp, by simp [st0], by simp [st0]⟩ fin rfl).2.2
  obtain ⟨h1, h2, h3⟩ := hi
  have hpn := h1 (id, path) (by simp)
  simp only at hpn
  obtain ⟨hng, rfl⟩ := nodeOf_mem hn
  refine ⟨fun x hx => ?_, ?_⟩
  · rcases List.mem_append.1 hx with hx | hx
    · simp only [kids, List.mem_map] at hx
      obtain ⟨e, he, rfl⟩ := hx
      simp only [Gr.below]
      split
      · exact hg n hng e he
      · simp
    · exact h1 x (by simp [hx])
  · unfold TS.next
    simp only
    split
    · rename_i hpe
      have hl : st.first.lookup n.id = none := by
        unfold TS.peer at hpe
        cases hl : st.first.lookup n.id with
        | none => rfl
        | some q =>
          rw [hl] at hpe
          exact absurd hpe (h2 _ (lookup_mem hl))
      rw [lookup_none_iff] at hl
      refine ⟨fun x hx => ?_, ?_⟩
      · rcases List.mem_append.1 hx with hx | hx
        · exact h2 x hx
        · rw [List.mem_singleton] at hx; subst hx; exact hpn
      · rw [List.map_append, List.nodup_append]
        exact ⟨h3, by simp, fun a ha b hb e => by
          simp only [List.map_cons, List.map_nil, List.mem_singleton] at hb
          subst hb; subst e; exact hl ha⟩
    · exact ⟨h2, h3⟩
theorem idx_of {R A : List Int} {x : Int} {B : List Int} (h : R = A ++ x :: B) (hx : x ∉ A) : R.idxOf x = A.length := by
  subst h
  rw [List.idxOf_append, if_neg hx]
  simp
theorem shw_keys {O : List PtI} {R : List Int} (hn : (O.map (·.1)).Nodup) (hg : ∀ y ∈ O, goods y.1) : ((O.map fun y => (shw y.1, rnk R y.2)).map (·.1)).Nodup := by
  rw [List.map_map]
  rw [List.nodup_iff_pairwise_ne, List.pairwise_map] at hn ⊢
  exact List.Pairwise.imp_of_mem (fun {a b} ha hb hab e => hab (shw_inj _ (Nat.le_refl _) (hg a ha) (hg b hb) e)) hn
set_option maxHeartbeats 2000000 in
theorem plant_go {g : List Nd} {p : List (Int × Int)} {root : Int} {R : List Int} (hp : ChkOk g p) (hR : R.Nodup) {s : List (Int × Bt)} {st : TS} {res : Option TS} (h : Wk g s st res) :
    ∀ fin, res = some fin → fin.first.map (·.1) = R → ∀ O S pi gp, PlI g p root R O S s st pi gp → ∃ rest g', fin.out = st.out ++ rest ∧ plant false pi gp rest = some g' ∧ ∃ O' pi', PlI g p root R O' [] [] fin pi' g' := by
  induction h with
  | done st =>
    intro fin e _ O S pi gp hI
    cases e
    have hS : S = [] := by
      have := hI.stack
      cases S with
      | nil => rfl
      | cons => simp at this
    subst hS
    exact ⟨[], gp, by simp, by simp [plant], O, pi, hI⟩
  | big => intro fin e; cases e
  | step id path r st n res h hn hk ih =>
    intro fin e hfin O S pi gp hI
    obtain ⟨hng, rfl⟩ := nodeOf_mem hn
    obtain ⟨tf, htf⟩ := Wk.first_pre hk fin e
    cases S with
    | nil => have := hI.stack; simp at this
    | cons y S =>
      obtain ⟨x0, i0⟩ := y
      have hst := hI.stack
      simp only [List.map_cons, List.cons.injEq, Prod.mk.injEq] at hst
      obtain ⟨⟨rfl, rfl⟩, rfl⟩ := hst
      have hP := hI.paths
      simp only [List.map_cons] at hP
      have hnd := List.nodup_append.1 hP.nodup
      have hxO : x0 ∉ O.map (·.1) := fun hm => hnd.2.2 x0 hm x0 (by simp) rfl
      have hxS : x0 ∉ S.map (·.1) := (List.nodup_cons.1 hnd.2.1).1
      have hgO : ∀ y ∈ O, goods y.1 := fun y hy => hP.good y.1 (List.mem_append_left _ (List.mem_map.2 ⟨y, hy, rfl⟩))
      have hgx : goods x0 := hP.good x0 (by simp)
      have hkeys := shw_keys (R := R) hnd.1 hgO
      have hlook : ∀ y ∈ O, (O.map fun y => (shw y.1, rnk R y.2)).lookup (shw y.1) = some (rnk R y.2) := fun y hy => lookup_nodup hkeys (List.mem_map.2 ⟨y, hy, rfl⟩)
      have hdone := hI.dir
      simp only [List.map_cons] at hdone
      have honce := List.pairwise_append.1 hdone.once
      have htop : st.out.isEmpty = true ↔ x0 = [] := by
        have hO : st.out = [] ↔ O = [] := by
          rw [← List.map_eq_nil_iff (f := fun l : Ln => l.path), hI.out, List.map_eq_nil_iff]
        rw [List.isEmpty_iff, hO]
        refine ⟨fun h => hP.top (by simp [h]) x0 (by simp), fun h => Classical.byContradiction fun hn => hP.low (by simpa using hn) ?_⟩
        subst h; simp
      have hents := hp.ents n hng
      -- the new stack
      have hkids : kids n (shw x0) st.out.isEmpty ++ S.map (fun y => (y.2, shw y.1)) = ((n.ents.map fun e => (x0 ++ [e.1], e.2)) ++ S).map fun y => (y.2, shw y.1) := by
        simp only [kids, List.map_append, List.map_map]
        congr 1
        refine List.map_congr_left fun e _ => ?_
        simp only [Function.comp]
        rw [shw_below (O := O.map (·.1)) e.1 htop]
      have hpaths : PInv ((O ++ [(x0, n.id)]).map (·.1)) (((n.ents.map fun e => (x0 ++ [e.1], e.2)) ++ S).map (·.1)) := by
        have h1 := hP.step (ents_nodup hents) (fun m hm => by
          obtain ⟨e, he, rfl⟩ := List.mem_map.1 hm
          exact hents.good e he)
        simpa [List.map_append, List.map_map, Function.comp_def] using h1
      have hleaf : n.kind ≠ 2 → n.ents = [] := fun hk2 => by
        have hs := hp.sound n hng
        simp only [sound, Bool.and_eq_true, decide_eq_true_eq, Bool.or_eq_true, hk2, false_or] at hs
        exact List.isEmpty_iff.1 hs.1.1.2
      have hdir : DInv g p root ((O ++ [(x0, n.id)]).map (·.2)) (((n.ents.map fun e => (x0 ++ [e.1], e.2)) ++ S).map (·.2)) := by
        by_cases hk2 : n.kind = 2
        · have h1 := hdone.step hp hn hk2
          simpa [List.map_append, List.map_map, Function.comp_def] using h1
        · have h1 := hdone.stay
          simpa [hleaf hk2] using h1
      -- the line's number
      have hfirstR : ∀ x ∈ st.first, ∃ y ∈ O, y.2 = x.1 ∧ shw y.1 = x.2 := hI.first
      have hpR : ∃ t, R = (st.next n (shw x0)).first.map (·.1) ++ t := ⟨tf.map (·.1), by rw [← hfin, htf, List.map_append]⟩
      have hO0 : O = [] ↔ x0 = [] := by
        rw [← htop, List.isEmpty_iff, ← List.map_eq_nil_iff (f := fun l : Ln => l.path), hI.out, List.map_eq_nil_iff]
      have hroot0 : O = [] → n.id = root := fun h0 => by
        have := hI.start h0
        simp only [List.map_cons, List.cons.injEq] at this
        exact this.1
      -- the line's own number and the nodes with it
      have hnum : idOf pi gp (mkLine n (shw x0) (st.peer n.id)) = rnk R n.id ∧ (nodes1 gp (mkLine n (shw x0) (st.peer n.id))).length = (st.next n (shw x0)).first.length ∧
          (∀ (k : Nat) (v : Nd), gp[k]? = some v → (nodes1 gp (mkLine n (shw x0) (st.peer n.id)))[k]? = some v) ∧
          (∃ D, (nodes1 gp (mkLine n (shw x0) (st.peer n.id)))[R.idxOf n.id]? = some { renN R n with ents := D } ∧ (renN R n).ents = D ++ (renN R n).ents) ∧
          (∀ x ∈ (st.next n (shw x0)).first, ∃ y ∈ O ++ [(x0, n.id)], y.2 = x.1 ∧ shw y.1 = x.2) ∧ n.id ∈ (st.next n (shw x0)).first.map (·.1) ∧ (O = [] → R.idxOf n.id = 0) ∧
          (∀ y ∈ O, isDir g y.2 = true → y.2 ≠ n.id) := by
        have hdif : ∀ y ∈ O, isDir g y.2 = true → y.2 ≠ n.id := fun y hy hd => honce.2.2 y.2 (List.mem_map.2 ⟨y, hy, rfl⟩) n.id (by simp) hd
        by_cases hpe : st.peer n.id = []
        · have hni : n.id ∉ st.first.map (·.1) := by
            intro hm
            obtain ⟨x, hx, hxi⟩ := List.mem_map.1 hm
            obtain ⟨q, hq⟩ : ∃ q, st.first.lookup n.id = some q := by
              cases hl : st.first.lookup n.id with
              | none => exact absurd hm (lookup_none_iff.1 hl)
              | some q => exact ⟨q, rfl⟩
            obtain ⟨y, hy, e1, e2⟩ := hfirstR _ (lookup_mem hq)
            unfold TS.peer at hpe
            rw [hq] at hpe
            simp only [Option.getD_some] at hpe
            rw [hpe] at e2
            exact shw_ne y.1 (hgO y hy) e2
          have hfx : (st.next n (shw x0)).first = st.first ++ [(n.id, shw x0)] := by unfold TS.next; simp only; rw [if_pos hpe]
          obtain ⟨t, ht⟩ := hpR
          rw [hfx] at ht
          have hix : R.idxOf n.id = gp.length := by
            rw [idx_of (A := st.first.map (·.1)) (x := n.id) (B := t) (by rw [ht]; simp) hni, List.length_map, hI.len]
          have hn1 : nodes1 gp (mkLine n (shw x0) (st.peer n.id)) = gp ++ [mkNode ((gp.length : Int) + 1) (mkLine n (shw x0) (st.peer n.id))] := by unfold nodes1; rw [if_pos (by simpa [mkLine] using hpe)]
          refine ⟨?_, ?_, ?_, ?_, ?_, ?_, ?_, hdif⟩
          · unfold idOf rnk
            rw [if_pos (by simpa [mkLine] using hpe), hix]
          · rw [hn1, hfx]; simp [hI.len]
          · intro k v hk
            rw [hn1, List.getElem?_append_left (List.getElem?_eq_some_iff.1 hk).1]; exact hk
          · refine ⟨[], ?_, rfl⟩
            rw [hn1, hix, List.getElem?_append_right (Nat.le_refl _)]
            simp only [Nat.sub_self, List.getElem?_cons_zero, Option.some.injEq]
            simp [mkNode, mkLine, hpe, renN, rnk, hix]
          · intro x hx
            rw [hfx] at hx
            rcases List.mem_append.1 hx with hx | hx
            · obtain ⟨y, hy, h2⟩ := hfirstR x hx
              exact ⟨y, List.mem_append_left _ hy, h2⟩
            · rw [List.mem_singleton] at hx; subst hx
              exact ⟨(x0, n.id), by simp, rfl, rfl⟩
          · rw [hfx]; simp
          · intro h0
            have hf0 : st.first = [] := by
              cases hf : st.first with
              | nil => rfl
              | cons a l =>
                obtain ⟨y, hy, _⟩ := hfirstR a (by rw [hf]; simp)
                rw [h0] at hy; cases hy
            rw [hix, hI.len, hf0]; rfl
        · obtain ⟨q, hq⟩ : ∃ q, st.first.lookup n.id = some q := by
            cases hl : st.first.lookup n.id with
            | none => exact absurd (by unfold TS.peer; rw [hl]; rfl) hpe
            | some q => exact ⟨q, rfl⟩
          have hpq : st.peer n.id = q := by unfold TS.peer; rw [hq]; rfl
          obtain ⟨y, hy, e1, e2⟩ := hfirstR _ (lookup_mem hq)
          simp only at e1 e2
          have hnk : n.kind ≠ 2 := fun hk2 => hdif y hy (by rw [e1]; simp [isDir, hn, hk2]) e1
          have hfx : (st.next n (shw x0)).first = st.first := by unfold TS.next; simp only; rw [if_neg hpe]
          have hn1 : nodes1 gp (mkLine n (shw x0) (st.peer n.id)) = gp := by unfold nodes1; rw [if_neg (by simpa [mkLine] using hpe)]
          have he0 : (renN R n).ents = [] := by simp [renN, hleaf hnk]
          refine ⟨?_, ?_, ?_, ?_, ?_, ?_, ?_, hdif⟩
          · unfold idOf
            rw [if_neg (by simpa [mkLine] using hpe), hI.pi]
            show (List.lookup (st.peer n.id) _).getD 0 = _
            rw [hpq, ← e2, hlook y hy, e1]; rfl
          · rw [hn1, hfx]; exact hI.len
          · intro k v hk; rw [hn1]; exact hk
          · obtain ⟨D, k1, k2⟩ := hI.node y hy n (by rw [e1]; exact hn)
            rw [he0] at k2
            have hD : D = [] := (List.append_eq_nil_iff.1 k2.symm).1
            subst hD
            rw [hn1, ← e1]
            exact ⟨[], k1, rfl⟩
          · intro x hx
            rw [hfx] at hx
            obtain ⟨y, hy, h2⟩ := hfirstR x hx
            exact ⟨y, List.mem_append_left _ hy, h2⟩
          · rw [hfx]; exact List.mem_map.2 ⟨_, lookup_mem hq, rfl⟩
          · intro h0; rw [h0] at hy; cases hy
      obtain ⟨hid, hlen1, hold, ⟨D0, hnew, hD0⟩, hfirst1, hmet1, hidx0, hdif⟩ := hnum
      have hD0' : D0 = [] := by
        have := congrArg List.length hD0
        rw [List.length_append] at this
        exact List.eq_nil_of_length_eq_zero (by omega)
      subst hD0'
      generalize hl : mkLine n (shw x0) (st.peer n.id) = l at *
      have hlp : l.path = shw x0 := by rw [← hl]; rfl
      have hrk : rnk R n.id ≠ 0 := by unfold rnk; omega
      have hkeyx : pi.lookup l.path = none := by
        rw [lookup_none_iff, hI.pi, hlp, List.map_map]
        intro hm
        obtain ⟨y, hy, e1⟩ := List.mem_map.1 hm
        have := shw_inj _ (Nat.le_refl _) (hgO y hy) hgx e1
        exact hxO (List.mem_map.2 ⟨y, hy, this⟩)
      have hcond : ¬ ((True ∧ (pi.lookup l.path).isSome = true) ∨ idOf pi gp l = 0) := by
        rw [hkeyx, hid]; simp [hrk]
      have hout : (st.next n (shw x0)).out = st.out ++ [l] := by rw [← hl]; rfl
      have hpi1 : pi ++ [(l.path, idOf pi gp l)] = (O ++ [(x0, n.id)]).map fun y => (shw y.1, rnk R y.2) := by rw [hid, hlp, hI.pi]; simp
      -- the rest of the new invariant, over the graph g1 with the line's entry in it
      have hfresh : ∀ y ∈ S, y.1 ≠ [] → y.1.dropLast ≠ x0 := by
        intro y hy hne e1
        have := hP.par y.1 (by simp; exact Or.inr ⟨y.2, hy⟩) hne
        rw [e1] at this
        exact hxO this
      have hpk : ∀ x, x ≠ x0 → pend R x ((n.ents.map fun e => (x0 ++ [e.1], e.2)) ++ S) = pend R x S := by
        intro x hx
        rw [pend_append, pend_nil (S := n.ents.map fun e => (x0 ++ [e.1], e.2)), List.nil_append]
        intro y hy _ e1
        obtain ⟨e, he, rfl⟩ := List.mem_map.1 hy
        simp at e1
        exact hx e1.symm
      have hpx : pend R x0 ((n.ents.map fun e => (x0 ++ [e.1], e.2)) ++ S) = (renN R n).ents := by
        rw [pend_append, pend_kids, pend_nil hfresh, List.append_nil]
      have finish : ∀ g1 : List Nd, g1.length = (nodes1 gp l).length → 
          (∀ y ∈ O, ∀ m, nodeOf g y.2 = some m → ∃ D, g1[R.idxOf y.2]? = some { renN R m with ents := D } ∧ (renN R m).ents = D ++ pend R y.1 S) →
          g1[R.idxOf n.id]? = some { renN R n with ents := [] } →
          plant false pi gp (l :: fin.out.drop (st.out.length + 1)) = plant false (pi ++ [(l.path, idOf pi gp l)]) g1 (fin.out.drop (st.out.length + 1)) → 
          ∃ rest g', fin.out = st.out ++ rest ∧ plant false pi gp rest = some g' ∧ ∃ O' pi', PlI g p root R O' [] [] fin pi' g' := by
        intro g1 h1 h2 h3 h4
        obtain ⟨rest, g', k1, k2, k3⟩ := ih fin e hfin (O ++ [(x0, n.id)]) ((n.ents.map fun e => (x0 ++ [e.1], e.2)) ++ S) (pi ++ [(l.path, idOf pi gp l)]) g1
          ⟨hkids, hpaths, hpi1, by rw [hout]; simp [hI.out, hlp], hfirst1, fun y hy => by
            rcases List.mem_append.1 hy with hy | hy
            · have := hI.met y hy
              unfold TS.next
              simp only
              split
              · rw [List.map_append]; exact List.mem_append_left _ this
              · exact this
            · rw [List.mem_singleton] at hy; subst hy; exact hmet1, hpR, by rw [h1, hlen1], fun y hy m hm => by
            rcases List.mem_append.1 hy with hy | hy
            · obtain ⟨D, q1, q2⟩ := h2 y hy m hm
              exact ⟨D, q1, by rw [hpk y.1 (fun e1 => hxO (e1 ▸ List.mem_map.2 ⟨y, hy, rfl⟩))]; exact q2⟩
            · rw [List.mem_singleton] at hy; subst hy
              simp only at hm
              rw [hn] at hm; cases hm
              exact ⟨[], h3, by rw [hpx]; rfl⟩, fun y hy => by
            rcases List.mem_append.1 hy with hy | hy
            · exact hI.there y hy
            · rw [List.mem_singleton] at hy; subst hy; simp [hn], hdir, fun y hy h0 => by
            rcases List.mem_append.1 hy with hy | hy
            · exact hI.rt y hy h0
            · rw [List.mem_singleton] at hy; subst hy
              exact hidx0 (hO0.2 h0), fun h0 => by simp at h0, fun y hy => by
            cases O with
            | nil =>
              simp only [List.nil_append, List.head?_cons, Option.mem_def, Option.some.injEq] at hy
              subst hy
              exact hroot0 rfl
            | cons a O => exact hI.top y (by simpa using hy), fun y hy m hm e he => by
            rcases List.mem_append.1 hy with hy | hy
            · have := hI.cl y hy m hm e he
              simp only [List.map_append, List.map_cons, List.mem_append, List.mem_cons] at this ⊢
              rcases this with h | h | h
              · exact Or.inl (Or.inl h)
              · exact Or.inl (Or.inr (by simp [h]))
              · exact Or.inr (Or.inr h)
            · rw [List.mem_singleton] at hy; subst hy
              simp only at hm
              rw [hn] at hm; cases hm
              simp only [List.map_append, List.map_map, List.mem_append]
              exact Or.inr (Or.inl (List.mem_map.2 ⟨e, he, rfl⟩))⟩
        rw [hout] at k1
        have hdrop : fin.out.drop (st.out.length + 1) = rest := by
          rw [k1, List.drop_append, List.length_append]
          simp
        rw [hdrop] at h4
        exact ⟨l :: rest, g', by rw [k1]; simp, by rw [h4]; exact k2, k3⟩
      by_cases h0 : O = []
      · have hp0 : pi = [] := by rw [hI.pi, h0]; rfl
        refine finish (nodes1 gp l) rfl (fun y hy => by rw [h0] at hy; cases hy) hnew ?_
        simp only [plant]
        rw [if_neg hcond, if_pos hp0]
      · have hp0 : pi ≠ [] := by rw [hI.pi]; simpa using h0
        have hx0 : x0 ≠ [] := fun e1 => h0 (hO0.2 e1)
        obtain ⟨ps, nm, rfl⟩ : ∃ ps nm, x0 = ps ++ [nm] := by
          rcases snoc_cases x0 with h | h
          · exact absurd h hx0
          · exact h
        have hpsO := hP.par (ps ++ [nm]) (by simp) (by simp)
        rw [List.dropLast_concat] at hpsO
        obtain ⟨yq, hyq, hyq1⟩ := List.mem_map.1 hpsO
        have hnm : good nm = true := hgx nm (by simp)
        have hcut := cut_shw (ps := ps) hnm
        have hpar : parOf false pi l = rnk R yq.2 := by
          unfold parOf
          rw [hlp, hcut]
          by_cases hps : ps = []
          · rw [if_pos hps]
            simp only
            unfold rnk
            rw [hI.rt yq hyq (by rw [hyq1]; exact hps)]; rfl
          · rw [if_neg hps]
            simp only
            have h1 := hlook yq hyq
            rw [hyq1] at h1
            rw [hI.pi, shw_snoc, if_neg hps, List.take_left, h1]
            rfl
        have hname : nameOf l = nm := by
          unfold nameOf
          rw [hlp, hcut, shw_snoc]
          by_cases hps : ps = []
          · rw [if_pos hps, if_pos hps]
          · rw [if_neg hps, if_neg hps]
            simp only
            rw [List.drop_append]
            simp
        have hj : (rnk R yq.2).toNat - 1 = R.idxOf yq.2 := by unfold rnk; omega
        obtain ⟨tq, htq⟩ := Option.isSome_iff_exists.1 (hI.there yq hyq)
        obtain ⟨Dq, q1, q2⟩ := hI.node yq hyq tq htq
        have hpq : pend R yq.1 ((ps ++ [nm], n.id) :: S) = (nm, rnk R n.id) :: pend R yq.1 S := by
          rw [hyq1]
          simp [pend]
        rw [hpq] at q2
        have hqd : isDir g yq.2 = true := by
          have h1 : tq.kind = 2 := by
            apply Classical.byContradiction
            intro hk2
            have hs := hp.sound tq (nodeOf_mem htq).1
            simp only [sound, Bool.and_eq_true, decide_eq_true_eq, Bool.or_eq_true, hk2, false_or] at hs
            have he := List.isEmpty_iff.1 hs.1.1.2
            have := congrArg List.length q2
            simp [renN, he] at this
          simp [isDir, htq, h1]
        have hRmem : ∀ y ∈ O, y.2 ∈ R := fun y hy => by
          obtain ⟨t, ht⟩ := hI.pre
          rw [ht]; exact List.mem_append_left _ (hI.met y hy)
        have hidx_inj : ∀ y ∈ O, ∀ i, R.idxOf i = R.idxOf y.2 → i = y.2 := fun y hy i h => (rnk_inj (hRmem y hy) (by unfold rnk; rw [h])).symm
        refine finish (addEnt (nodes1 gp l) ((rnk R yq.2).toNat - 1) (nm, rnk R n.id)) (by simp [addEnt]) (fun y hy m hm => ?_) ?_ ?_
        · obtain ⟨D, k1, k2⟩ := hI.node y hy m hm
          have k1' := hold _ _ k1
          by_cases hyy : y.2 = yq.2
          · have hy1 : y.1 = yq.1 := by
              apply Classical.byContradiction
              intro hne
              have hpw := honce.1
              rw [List.pairwise_map] at hpw
              have : ∀ {l : List PtI}, l.Pairwise (fun a b => isDir g a.2 = true → a.2 ≠ b.2) → y ∈ l → yq ∈ l → False := by
                intro l hl
                induction l with
                | nil => intro h; simp at h
                | cons a l ihl =>
                  intro h1 h2
                  rw [List.pairwise_cons] at hl
                  rcases List.mem_cons.1 h1 with z1 | z1 <;> rcases List.mem_cons.1 h2 with z2 | z2
                  · exact hne (by rw [z1, z2])
                  · exact hl.1 yq z2 (by rw [← z1, hyy]; exact hqd) (by rw [← z1]; exact hyy)
                  · exact hl.1 y z1 (by rw [← z2]; exact hqd) (by rw [← z2]; exact hyy.symm)
                  · exact ihl hl.2 z1 z2
              exact this hpw hy hyq
            rw [hyy, htq] at hm
            cases hm
            rw [hyy, q1] at k1
            simp only [Option.some.injEq] at k1
            have hDD : Dq = D := by
              have := congrArg Nd.ents k1
              exact this
            subst hDD
            refine ⟨Dq ++ [(nm, rnk R n.id)], ?_, ?_⟩
            · unfold addEnt
              rw [hj, hyy, List.getElem?_modify, hold _ _ q1]
              simp
            · rw [q2, hy1]; simp
          · have hy1 : y.1 ≠ ps := fun e1 => by
              have hpw := hnd.1
              rw [List.nodup_iff_pairwise_ne, List.pairwise_map] at hpw
              have : ∀ {l : List PtI}, l.Pairwise (fun a b => a.1 ≠ b.1) → y ∈ l → yq ∈ l → y = yq := by
                intro l hl
                induction l with
                | nil => intro h; simp at h
                | cons a l ihl =>
                  intro h1 h2
                  rw [List.pairwise_cons] at hl
                  rcases List.mem_cons.1 h1 with z1 | z1 <;> rcases List.mem_cons.1 h2 with z2 | z2
                  · rw [z1, z2]
                  · exact absurd (by rw [← z1, e1, hyq1]) (hl.1 yq z2)
                  · exact absurd (by rw [← z2, e1, hyq1]) (hl.1 y z1)
                  · exact ihl hl.2 z1 z2
              exact hyy (by rw [this hpw hy hyq])
            refine ⟨D, ?_, ?_⟩
            · unfold addEnt
              have hne : R.idxOf yq.2 ≠ R.idxOf y.2 := fun e1 => hyy (hidx_inj yq hyq _ e1.symm)
              rw [hj, List.getElem?_modify, k1']
              simp only [if_neg hne]
              rfl
            · have : pend R y.1 ((ps ++ [nm], n.id) :: S) = pend R y.1 S := by
                unfold pend
                rw [List.filterMap_cons]
                have : ¬ ((ps ++ [nm], n.id).1 ≠ [] ∧ (ps ++ [nm], n.id).1.dropLast = y.1) := by
                  intro h2
                  have := h2.2
                  simp only [List.dropLast_concat] at this
                  exact hy1 this.symm
                rw [if_neg this]
              rw [this] at k2
              exact k2
        · unfold addEnt
          have hne : R.idxOf yq.2 ≠ R.idxOf n.id := fun e1 => hdif yq hyq hqd (hidx_inj yq hyq _ e1.symm).symm
          rw [hj, List.getElem?_modify, hnew]
          simp only [if_neg hne]
          rfl
        · simp only [plant]
          rw [if_neg hcond, if_neg hp0, hpar, hname, hid]
          rw [if_neg (by unfold rnk; omega)]
/-- a checked graph's tree is planted again -/
theorem tree_planted {g : List Nd} {root : Int} {ls : List Ln} (h : TreeOk g root ls) : Planted false ls := by
  obtain ⟨hc, ⟨n0, hn0, hk0⟩, fin, hw, rfl⟩ := h
  obtain ⟨p, hp⟩ := hc.ok
  have hnd := hw.first_nodup (fun n hn e he => (good_parts ((hp.ents n hn).good e he)).1)
  obtain ⟨rest, g', k1, k2, O, pi, hI⟩ := plant_go hp hnd hw fin rfl rfl [] [([], root)] [] []
    ⟨rfl, ⟨by simp, by simp, by simp [goods], by simp, by simp, by simp⟩, rfl, rfl, by simp [st0], by simp, ⟨_, rfl⟩, rfl, by simp, by simp, ⟨by simp, by simp, fun x hx hd => ⟨0, by simp at hx; simp [climb, hx]⟩⟩, by simp, fun _ => rfl, by simp, by simp⟩
  have e0 : fin.out = rest := by rw [k1]; rfl
  rw [← e0] at k2
  refine ⟨g', k2, ?_⟩
  have hg : Inc g := hc.2.1.inc
  generalize hR : fin.first.map (·.1) = R at *
  obtain ⟨tR, htR⟩ := hI.pre
  have hfR : ∀ x ∈ fin.first, x.1 ∈ R := fun x hx => by rw [← hR]; exact List.mem_map.2 ⟨x, hx, rfl⟩
  have hRO : ∀ id ∈ R, ∃ y ∈ O, y.2 = id := fun id hid => by
    rw [← hR] at hid
    obtain ⟨x, hx, rfl⟩ := List.mem_map.1 hid
    obtain ⟨y, hy, e1, _⟩ := hI.first x hx
    exact ⟨y, hy, e1⟩
  have hOR : ∀ y ∈ O, y.2 ∈ R := fun y hy => by rw [← hR]; exact hI.met y hy
  have hget : ∀ id ∈ R, ∃ n, nodeOf g id = some n ∧ g'[R.idxOf id]? = some (renN R n) := fun id hid => by
    obtain ⟨y, hy, rfl⟩ := hRO id hid
    obtain ⟨n, hn⟩ := Option.isSome_iff_exists.1 (hI.there y hy)
    obtain ⟨D, q1, q2⟩ := hI.node y hy n hn
    refine ⟨n, hn, ?_⟩
    rw [q1, Option.some.injEq]
    have : D = (renN R n).ents := by rw [q2]; simp [pend]
    rw [this]
  let N := R.map fun id => (nodeOf g id).getD n0
  have hN : ∀ id ∈ R, ∀ n, nodeOf g id = some n → n ∈ N := fun id hid n hn => List.mem_map.2 ⟨id, hid, by rw [hn]; rfl⟩
  have hNm : ∀ n ∈ N, n.id ∈ R ∧ nodeOf g n.id = some n := fun n hn => by
    obtain ⟨id, hid, rfl⟩ := List.mem_map.1 hn
    obtain ⟨m, hm, _⟩ := hget id hid
    rw [hm]
    have := (nodeOf_mem hm).2
    subst this
    exact ⟨hid, hm⟩
  have hP : Part g R N := ⟨by
      simp only [N, List.map_map]
      conv => rhs; rw [← List.map_id R]
      refine List.map_congr_left fun id hid => ?_
      obtain ⟨m, hm, _⟩ := hget id hid
      simp [hm, (nodeOf_mem hm).2], hnd, fun n hn => (nodeOf_mem (hNm n hn).2).1, fun n hn e he => by
      obtain ⟨h1, h2⟩ := hNm n hn
      obtain ⟨y, hy, e1⟩ := hRO _ h1
      have := hI.cl y hy n (by rw [e1]; exact h2) e he
      simp only [List.append_nil] at this
      obtain ⟨z, hz, e2⟩ := List.mem_map.1 this
      rw [← e2]; exact hOR z hz⟩
  have hg' : g' = N.map (renN R) := by
    have hlen : g'.length = R.length := by rw [hI.len, ← hR, List.length_map]
    apply List.ext_getElem?
    intro k
    by_cases hk : k < R.length
    · have hk2 : R[k] ∈ R := List.getElem_mem hk
      obtain ⟨n, hn, h2⟩ := hget _ hk2
      rw [hnd.idxOf_getElem k hk] at h2
      rw [h2]
      simp only [N, List.getElem?_map, List.getElem?_eq_getElem hk, Option.map_some, hn, Option.getD_some]
    · rw [List.getElem?_eq_none (by omega), List.getElem?_eq_none (by simp [N]; omega)]
  have hC : Chk g' := by rw [hg']; exact hP.chk hc
  have hI' : Inc (N.map (renN R)) := by rw [← hg']; exact hC.2.1.inc
  have hno : ∀ id ∈ R, ∀ n, nodeOf g id = some n → nodeOf g' (rnk R id) = some (renN R n) := fun id hid n hn => by rw [hg']; exact (hP.node hg hI' hid hn).2
  have hcl : ∀ id ∈ R, ∀ n, nodeOf g id = some n → ∀ e ∈ n.ents, e.2 ∈ R := fun id hid n hn => hP.cl n (hN id hid n hn)
  have hrO : ∃ y, O.head? = some y ∧ y.2 = root ∧ y.1 = [] := by
    cases hO : O with
    | nil => have := hI.start hO; simp at this
    | cons y O' =>
      refine ⟨y, rfl, hI.top y (by rw [hO]; rfl), ?_⟩
      obtain ⟨O2, e1, _, hgd, hh, _⟩ := tree_paths ⟨hc, ⟨n0, hn0, hk0⟩, fin, hw, rfl⟩
      have h1 := hI.out
      rw [hO] at h1
      rw [← e1] at h1
      cases O2 with
      | nil => simp at hh
      | cons z O2 =>
        simp only [List.head?_cons, Option.some.injEq] at hh
        subst hh
        simp only [List.map_cons, List.cons.injEq] at h1
        have hg1 : goods y.1 := hI.paths.good y.1 (by rw [hO]; simp)
        exact shw_dot hg1 h1.1.symm
  obtain ⟨y0, hy0, hy1, hy2⟩ := hrO
  have hy0m : y0 ∈ O := List.mem_of_mem_head? hy0
  have hrootR : root ∈ R := by rw [← hy1]; exact hOR y0 hy0m
  have hr1 : rnk R root = 1 := by unfold rnk; rw [← hy1, hI.rt y0 hy0m hy2]; rfl
  refine ⟨hC, ⟨renN R n0, by rw [← hr1]; exact hno root hrootR n0 hn0, hk0⟩, fin.ren R, ?_, rfl⟩
  have := Wk.ren hno hcl hw (by simpa using hrootR) (by simp [st0])
  simp only [List.map_cons, List.map_nil, hr1, Option.map_some] at this
  exact this
end Gr
end Go.Proofs.Ytpdkdhcbibcifaa
namespace Go.Proofs.Ytpdkdhcbibcifaa
set_option linter.unusedVariables false
set_option linter.unusedSimpArgs false
namespace Plain
theorem indexByte_none (l : List UInt8) (h : Lib.indexByte l 0 < 0) : ∀ j, j < l.length → l.getD j 0 ≠ 0 := by
  induction l with
  | nil => simp
  | cons b l ih =>
    intro j hj
    unfold Lib.indexByte at h
    split at h
    · omega
    · rename_i hb
      cases j with
      | zero => simpa using hb
      | succ j =>
        have hl : Lib.indexByte l 0 < 0 := by
          split at h
          · rename_i h1; have := eq_of_beq h1; omega
          · omega
        simpa using ih hl j (by simpa using hj)
theorem indexByte_some (l : List UInt8) (h : 0 ≤ Lib.indexByte l 0) : ∃ j, j < l.length ∧ l.getD j 0 = 0 := by
  induction l with
  | nil => simp [Lib.indexByte] at h
  | cons b l ih =>
    unfold Lib.indexByte at h
    split at h
    · rename_i hb; exact ⟨0, by simp, by simpa using hb⟩
    · split at h
      · omega
      · rename_i h1
        have hge : 0 ≤ Lib.indexByte l 0 := by
          have hm : ∀ m : List UInt8, -1 ≤ Lib.indexByte m 0 := by
            intro m
            induction m with
            | nil => simp [Lib.indexByte]
            | cons c m ihm => unfold Lib.indexByte; split; omega; split <;> omega
          have := hm l
          have : Lib.indexByte l 0 ≠ -1 := by simpa using h1
          omega
        obtain ⟨j, hj, hz⟩ := ih hge
        exact ⟨j + 1, by simpa using hj, by simpa using hz⟩
end Plain
end Go.Proofs.Ytpdkdhcbibcifaa
namespace Go.Proofs.Ytpdkdhcbibcifaa
set_option linter.unusedVariables false
set_option linter.unusedSimpArgs false
open Go.ChangeShapes Go.WideShapes Go.ChangeAt Go.RowKit
namespace Plain
/-- a text of lo to 4096 bytes, none of them 0 -/
def txt (lo : Int) (s : List UInt8) : Bool := !decide ((s.length : Int) < lo) && !decide (4096 < (s.length : Int)) && !decide (0 ≤ Lib.indexByte s 0)
end Plain
def strV (s : List UInt8) : Value := .string ⟨s.toArray⟩
set_option maxHeartbeats 400000 in
theorem ScText_any (lo : Int) (ss : List (List UInt8)) (a : Option Addr) (n c : Nat) (w : World) (h : IsSl w 1 a n c (ss.map strV)) :
    Calls Try.prog 35 #[.int .i64 lo, .slice a n c] w fun e w' => e = .returned (.bool (ss.all (Plain.txt lo))) ∧ w = w' := by
  have hn : ss.length = n := by have := h.1; simpa using this
  have hcap := h.2.1; have hmax : c ≤ 9223372036854775807 := h.2.2.1
  have h0 : (0 : Int).toNat.toUInt8 = 0 := rfl
  generalize hr : ss.all (Plain.txt lo) = r
  have HR := Lib.hid hr; have HN := Lib.hid hn; have H0 := Lib.hid h0; clear hr hn h0
  go_enter Try.func35, Try.ntmps35
  go_wp2
  go_loop [9] (fun i => ∃ k : Nat, k ≤ n ∧ i = .int .i64 k ∧ Hid ((ss.drop k).all (Plain.txt lo) = r)) (fun i => n - (intOf i).toNat)
  case atStart => exact ⟨0, by omega, rfl, HR⟩
  case round =>
    obtain ⟨k, hk, rfl, hq⟩ := hrel
    by_cases hlt : k < n
    · have hks : k < ss.length := by rw [HN.out]; exact hlt
      have hcell := h.2.2.2.1.at k (strV ss[k]) (by simp [List.getElem?_eq_getElem hks])
      obtain ⟨b, off, rfl, hc⟩ := hcell
      have hd := hq.out
      rw [List.drop_eq_getElem_cons hks, List.all_cons] at hd
      generalize ss[k] = s at hc hd
      have hkn : (k : Int) < (n : Int) := by omega
      unfold strV at hc
      unfold Plain.txt at hd
      clear hq
      by_cases t1 : (s.length : Int) < lo
      · have hf : r = false := by rw [← hd]; simp [t1]
        subst hf
        clear hd
        go_wp2
        go_ret
        exact ⟨rfl, rfl⟩
      · by_cases t2 : 4096 < (s.length : Int)
        · have hf : r = false := by rw [← hd]; simp [t2]
          subst hf
          clear hd
          go_wp2
          go_ret
          exact ⟨rfl, rfl⟩
        · generalize hi : Lib.indexByte s 0 = i at hd
          have HI := Lib.hid hi; clear hi
          by_cases t3 : 0 ≤ i
          · have hf : r = false := by rw [← hd]; simp [t3]
            subst hf
            clear hd
            go_wp2_with (go_at_call 48; refine (Try.strings_IndexByte _ _ _).mono ?_; rintro e w1 ⟨rfl, hw⟩; obtain rfl := hw.symm; rw [H0.out, HI.out])
            go_ret
            exact ⟨rfl, rfl⟩
          · have hd' : (ss.drop (k + 1)).all (Plain.txt lo) = r := by
              rw [← hd]
              simp only [t1, t2, t3, decide_false, Bool.not_false, Bool.and_self, Bool.true_and]
              rfl
            have HD := Lib.hid hd'; clear hd hd'
            have t3' : i < 0 := by omega
            clear t3
            go_wp2_with (go_at_call 48; refine (Try.strings_IndexByte _ _ _).mono ?_; rintro e w1 ⟨rfl, hw⟩; obtain rfl := hw.symm; rw [H0.out, HI.out])
            go_round
            case rel => exact ⟨k + 1, by omega, by go_num, HD⟩
            case measure => simp [intOf]; omega
    · obtain rfl : k = n := by omega
      have hf : r = true := by rw [← hq.out, List.drop_of_length_le (by rw [HN.out]; exact Nat.le_refl _)]; rfl
      subst hf
      clear hq
      go_wp2
      go_ret
      exact ⟨rfl, rfl⟩
theorem ScText1 (lo : Int) (s : List UInt8) (w : World) (b : Nat) (hb : w.heap.size = b) :
    Calls Try.prog 35 #[.int .i64 lo, .slice (some ⟨b, 0, none⟩) 1 1] (w.alloc (.cells #[.string ⟨s.toArray⟩] 9)) fun e w' => e = .returned (.bool (Plain.txt lo s)) ∧ w.alloc (.cells #[.string ⟨s.toArray⟩] 9) = w' := by
  subst hb
  have h : IsSl (w.alloc (.cells #[.string ⟨s.toArray⟩] 9)) 1 (some ⟨w.heap.size, 0, none⟩) 1 1 ([s].map strV) := isSl_new w 9 1 1 #[.string ⟨s.toArray⟩] rfl (by decide)
  exact (ScText_any lo [s] _ _ _ _ h).mono fun e w' ⟨he, hw⟩ => ⟨by rw [he]; simp, hw⟩
theorem ScText2 (lo : Int) (s t : List UInt8) (w : World) (b : Nat) (hb : w.heap.size = b) :
    Calls Try.prog 35 #[.int .i64 lo, .slice (some ⟨b, 0, none⟩) 2 2] (w.alloc (.cells #[.string ⟨s.toArray⟩, .string ⟨t.toArray⟩] 9)) fun e w' => e = .returned (.bool (Plain.txt lo s && Plain.txt lo t)) ∧ w.alloc (.cells #[.string ⟨s.toArray⟩, .string ⟨t.toArray⟩] 9) = w' := by
  subst hb
  have h : IsSl (w.alloc (.cells #[.string ⟨s.toArray⟩, .string ⟨t.toArray⟩] 9)) 1 (some ⟨w.heap.size, 0, none⟩) 2 2 ([s, t].map strV) := isSl_new w 9 1 2 #[.string ⟨s.toArray⟩, .string ⟨t.toArray⟩] rfl (by decide)
  exact (ScText_any lo [s, t] _ _ _ _ h).mono fun e w' ⟨he, hw⟩ => ⟨by rw [he]; simp, hw⟩
/-- an entry by value -/
abbrev entV (k : Int) (name link : List UInt8) (mode uid gid : Int) (user group : List UInt8) (sec nano : Int) (a : Option Addr) (n c : Nat) : Value :=
  .agg #[.int .i64 k, .string ⟨name.toArray⟩, .string ⟨link.toArray⟩, .int .i64 mode, .int .i64 uid, .int .i64 gid, .string ⟨user.toArray⟩, .string ⟨group.toArray⟩, .int .i64 sec, .int .i64 nano, .slice a n c]
namespace Plain
def own (i : Int) : Bool := decide (0 ≤ i) && decide (i ≤ 2147483647)
def fitB (k : Int) (T1 T2 T3 T4 T5 T6 : Bool) (link : List UInt8) (mode uid gid : Int) (n : Nat) : Bool :=
  decide (1 ≤ k) && decide (k ≤ 4) && T1 && T2 && T3 && !(decide (k = 1) && T6) && (decide (k = 1) || decide (n = 0)) &&
    (if 3 ≤ k then T4 else link.isEmpty) && decide (0 ≤ mode) && decide (mode ≤ 4095) && own uid && own gid && T5
/-- can the entry be written? -/
def fits (k : Int) (name link : List UInt8) (mode uid gid : Int) (user group : List UInt8) (sec nano : Int) (n : Nat) : Bool :=
  fitB k (txt 1 name) (txt 0 user) (txt 0 group) (txt 1 link) (valid sec nano) (Lib.hasSuffix name [47]) link mode uid gid n
section
variable {k : Int} {T1 T2 T3 T4 T5 T6 r : Bool} {link : List UInt8} {mode uid gid : Int} {n : Nat}
theorem fitB_true : fitB k T1 T2 T3 T4 T5 T6 link mode uid gid n = true ↔ (1 ≤ k ∧ k ≤ 4) ∧ (T1 = true ∧ T2 = true ∧ T3 = true) ∧ (k = 1 → T6 = false) ∧ (k ≠ 1 → n = 0) ∧ (3 ≤ k → T4 = true) ∧ (k < 3 → link.isEmpty = true) ∧
    (0 ≤ mode ∧ mode ≤ 4095) ∧ (own uid = true ∧ own gid = true) ∧ T5 = true := by
  unfold fitB
  by_cases h3 : 3 ≤ k
  · have h1 : ¬ k = 1 := by omega
    have h2 : ¬ k < 3 := by omega
    simp [h3, h1, h2, and_assoc]
  · have h2 : k < 3 := by omega
    by_cases h1 : k = 1
    · subst h1; simp [and_assoc]
    · simp [h3, h1, h2, and_assoc]
theorem fit_no (hr : Hid (fitB k T1 T2 T3 T4 T5 T6 link mode uid gid n = r)) (h : fitB k T1 T2 T3 T4 T5 T6 link mode uid gid n = true → False) : false = r := by
  rw [← hr.out]; cases hf : fitB k T1 T2 T3 T4 T5 T6 link mode uid gid n with
  | false => rfl
  | true => exact absurd hf h
theorem fit_a (hr : Hid (fitB k T1 T2 T3 T4 T5 T6 link mode uid gid n = r)) (h1 : (k == 1) = true) (h2 : T6 = true) : false = r :=
  fit_no hr fun h => by have := (fitB_true.1 h).2.2.1 (by simpa using h1); rw [h2] at this; cases this
theorem fit_b (hr : Hid (fitB k T1 T2 T3 T4 T5 T6 link mode uid gid n = r)) (h1 : (k == 1) = false) (h2 : 0 < n) : false = r :=
  fit_no hr fun h => by have := (fitB_true.1 h).2.2.2.1 (by simpa using h1); omega
theorem fit_c (hr : Hid (fitB k T1 T2 T3 T4 T5 T6 link mode uid gid n = r)) (h1 : (k == 1) = false) (h2 : (k == 2) = false) (h3 : (k == 3) = false) (h4 : (k == 4) = false) : false = r :=
  fit_no hr fun h => by have := (fitB_true.1 h).1; simp only [beq_eq_false_iff_ne] at h1 h2 h3 h4; omega
/-- what the switch leaves -/
def Kind (k : Int) (T6 : Bool) (n : Nat) (L : Bool) : Prop := 1 ≤ k ∧ k ≤ 4 ∧ (k = 1 → T6 = false) ∧ (k ≠ 1 → n = 0) ∧ L = decide (3 ≤ k)
theorem kind_1 (h1 : (k == 1) = true) (h : T6 = false) : Kind k T6 n false := by
  have : k = 1 := by simpa using h1
  subst this; exact ⟨by omega, by omega, fun _ => h, fun h => absurd rfl h, rfl⟩
theorem kind_34 (h1 : (k == 1) = false) (h3 : (k == 3) = true ∨ (k == 4) = true) (h : ¬ 0 < n) : Kind k T6 n true := by
  simp only [beq_iff_eq, beq_eq_false_iff_ne] at h1 h3
  exact ⟨by omega, by omega, fun h => absurd h h1, fun _ => by omega, by simp; omega⟩
theorem kind_2 (h1 : (k == 1) = false) (h3 : (k == 2) = true) (h : ¬ 0 < n) : Kind k T6 n false := by
  simp only [beq_iff_eq, beq_eq_false_iff_ne] at h1 h3
  exact ⟨by omega, by omega, fun h => absurd h h1, fun _ => by omega, by simp; omega⟩
variable {L O : Bool}
/-- what is asked of the link -/
def LinkOk (k : Int) (T4 : Bool) (link : List UInt8) : Prop := (3 ≤ k → T4 = true) ∧ (k < 3 → link.isEmpty = true)
theorem fit_z (hr : Hid (fitB k T1 T2 T3 T4 T5 T6 link mode uid gid n = r)) (hk : Kind k T6 n L) (hl : LinkOk k T4 link) (h1 : T1 = true) (h2 : T2 = true ∧ T3 = true) (m1 : 0 ≤ mode) (m2 : mode ≤ 4095)
    (hO : Hid ((own uid && own gid) = O)) (ho : O = true) : T5 = r := by
  have h := hO.out
  rw [ho, Bool.and_eq_true] at h
  obtain ⟨k1, k2, k3, k4, _⟩ := hk
  cases T5 with
  | true => rw [← hr.out]; exact (fitB_true.2 ⟨⟨k1, k2⟩, ⟨h1, h2.1, h2.2⟩, k3, k4, hl.1, hl.2, ⟨m1, m2⟩, h, rfl⟩).symm
  | false => exact fit_no hr fun h => by have := (fitB_true.1 h).2.2.2.2.2.2.2.2; cases this
theorem fit_o (hr : Hid (fitB k T1 T2 T3 T4 T5 T6 link mode uid gid n = r)) (hO : Hid ((own uid && own gid) = O)) (ho : ¬ O = true) : false = r :=
  fit_no hr fun h => ho (by rw [← hO.out, Bool.and_eq_true]; exact (fitB_true.1 h).2.2.2.2.2.2.2.1)
theorem fit_m (hr : Hid (fitB k T1 T2 T3 T4 T5 T6 link mode uid gid n = r)) (hm : mode < 0 ∨ 4095 < mode) : false = r :=
  fit_no hr fun h => by have := (fitB_true.1 h).2.2.2.2.2.2.1; omega
theorem fit_t (hr : Hid (fitB k T1 T2 T3 T4 T5 T6 link mode uid gid n = r)) (h2 : ¬ (T2 = true ∧ T3 = true)) : false = r :=
  fit_no hr fun h => h2 (fitB_true.1 h).2.1.2
theorem fit_1 (hr : Hid (fitB k T1 T2 T3 T4 T5 T6 link mode uid gid n = r)) (h2 : ¬ T1 = true) : false = r :=
  fit_no hr fun h => h2 (fitB_true.1 h).2.1.1
end
end Plain
set_option maxRecDepth 100000 in
set_option maxHeartbeats 2000000 in
theorem Fits_any (k : Int) (name link : List UInt8) (mode uid gid : Int) (user group : List UInt8) (sec nano : Int) (a : Option Addr) (n c : Nat) (w : World) (hl : name.length ≤ 140737488351232) :
    Calls Try.prog 18 #[entV k name link mode uid gid user group sec nano a n c] w fun e w' => e = .returned (.bool (Plain.fits k name link mode uid gid user group sec nano n)) ∧ Below w.heap.size w w' := by
  generalize hr : Plain.fits k name link mode uid gid user group sec nano n = r
  unfold Plain.fits at hr
  generalize h1 : Plain.txt 1 name = T1 at hr
  generalize h2 : Plain.txt 0 user = T2 at hr
  generalize h3 : Plain.txt 0 group = T3 at hr
  generalize h4 : Plain.txt 1 link = T4 at hr
  generalize h5 : Plain.valid sec nano = T5 at hr
  generalize h6 : Lib.hasSuffix name [47] = T6 at hr
  have H1 := Lib.hid h1; have H2 := Lib.hid h2; have H3 := Lib.hid h3; have H4 := Lib.hid h4; have H5 := Lib.hid h5; have H6 := Lib.hid h6; have HR := Lib.hid hr
  clear h1 h2 h3 h4 h5 h6 hr
  have hz : (⟨name.toArray⟩ : ByteArray).size ≤ 9223372036854775807 := by simp [ByteArray.size]; omega
  go_enter Try.func18, Try.ntmps18
  go_upto_region 1 with fail
  iterate 8 go_step
  have b0 : Below w.heap.size w (w.alloc (.cells #[.int .i64 k, .string ⟨name.toArray⟩, .string ⟨link.toArray⟩, .int .i64 mode, .int .i64 uid, .int .i64 gid, .string ⟨user.toArray⟩, .string ⟨group.toArray⟩, .int .i64 sec, .int .i64 nano, .slice a n c] 39)) := (Below.refl _ _).alloc (Nat.le_refl _) _
  go_cut [3] (fun s3 wx => ∃ L : Bool, s3 = .bool L ∧ wx = (w.alloc (.cells #[.int .i64 k, .string ⟨name.toArray⟩, .string ⟨link.toArray⟩, .int .i64 mode, .int .i64 uid, .int .i64 gid, .string ⟨user.toArray⟩, .string ⟨group.toArray⟩, .int .i64 sec, .int .i64 nano, .slice a n c] 39)) ∧ Plain.Kind k T6 n L)
  case first =>
    go_wp2_with (go_at_call 34; refine (Try.strings_HasSuffix _ _ _ hz).mono ?_; rintro e w1 ⟨rfl, hw⟩; obtain rfl := hw.symm; rw [H6.out])
    all_goals first
      | (go_meet; exact ⟨_, rfl, rfl, Plain.kind_1 ‹_› ‹_›⟩)
      | (go_meet; exact ⟨_, rfl, rfl, Plain.kind_34 ‹_› (by first | exact Or.inl ‹_› | exact Or.inr ‹_›) ‹_›⟩)
      | (go_meet; exact ⟨_, rfl, rfl, Plain.kind_2 ‹_› ‹_› ‹_›⟩)
      | (go_ret; exact ⟨ret_bool (Plain.fit_a HR ‹_› ‹_›), b0⟩)
      | (go_ret; exact ⟨ret_bool (Plain.fit_b HR ‹_› ‹_›), b0⟩)
      | (go_ret; exact ⟨ret_bool (Plain.fit_c HR ‹_› ‹_› ‹_› ‹_›), b0⟩)
  case rest =>
    obtain ⟨L, rfl, rfl, hk⟩ := hcut
    cases L with
    | true =>
      cases T4 with
      | false =>
        go_wp2_with (go_at_call 35; refine (ScText1 1 link _ _ (by simp)).mono ?_; rintro e w1 ⟨rfl, rfl⟩; rw [H4.out])
        go_ret
        exact ⟨ret_bool (Plain.fit_no HR fun h => by have h4 := (Plain.fitB_true.1 h).2.2.2.2.1 (of_decide_eq_true hk.2.2.2.2.symm); cases h4), Below.alloc b0 (by simp) _⟩
      | true =>
        have hlk : Plain.LinkOk k true link := ⟨fun _ => rfl, fun h => by have := of_decide_eq_true hk.2.2.2.2.symm; omega⟩
        go_upto_region 15 with (go_at_call 35; refine (ScText1 1 link _ _ (by simp)).mono ?_; rintro e w1 ⟨rfl, rfl⟩; rw [H4.out])
        go_cut [4] (fun s4 wx => s4 = .bool (Plain.own uid && Plain.own gid) ∧ wx = ((w.alloc (.cells #[.int .i64 k, .string ⟨name.toArray⟩, .string ⟨link.toArray⟩, .int .i64 mode, .int .i64 uid, .int .i64 gid, .string ⟨user.toArray⟩, .string ⟨group.toArray⟩, .int .i64 sec, .int .i64 nano, .slice a n c] 39)).alloc (.cells #[.string ⟨link.toArray⟩] 9)))
        case first =>
          go_wp2
          all_goals
            go_meet
            refine ⟨congrArg Value.bool ?_, rfl⟩
            rw [Bool.eq_iff_iff]
            simp [Plain.own]
            try omega
        case rest =>
          obtain ⟨rfl, rfl⟩ := hcut
          generalize hO : (Plain.own uid && Plain.own gid) = O
          have HO := Lib.hid hO; clear hO
          go_wp2_with (first | (go_at_call 35; first | ((with_reducible refine (ScText1 1 name _ _ ?hb1).mono ?_); (case hb1 => simp); rintro e w1 ⟨rfl, rfl⟩; rw [H1.out]) | ((with_reducible refine (ScText2 0 user group _ _ ?hb2).mono ?_); (case hb2 => simp); rintro e w1 ⟨rfl, rfl⟩; rw [H2.out, H3.out])) | (go_at_call 36; refine (Valid_any _ _ _).mono ?_; rintro e w1 ⟨rfl, hv⟩; rw [H5.out]))
          all_goals
            go_ret
            refine ⟨ret_bool (by first | exact Plain.fit_z HR hk hlk ‹_› ‹_› ‹_› ‹_› HO ‹_› | exact Plain.fit_o HR HO ‹_› | exact Plain.fit_m HR (by first | exact Or.inl ‹_› | exact Or.inr ‹_›) | exact Plain.fit_t HR ‹_› | exact Plain.fit_1 HR ‹_›), ?_⟩
            try refine Below.seq ?_ hv
            repeat (first | exact b0 | refine Below.alloc ?_ (by simp <;> omega) _)
    | false =>
      cases hle : link.isEmpty with
      | false =>
        go_wp2
        go_ret
        exact ⟨ret_bool (Plain.fit_no HR fun h => by have h4 := (Plain.fitB_true.1 h).2.2.2.2.2.1 (by have := of_decide_eq_false hk.2.2.2.2.symm; omega); rw [hle] at h4; cases h4), b0⟩
      | true =>
        have hlk : Plain.LinkOk k T4 link := ⟨fun h => by have := of_decide_eq_false hk.2.2.2.2.symm; omega, fun _ => hle⟩
        go_upto_region 15 with fail
        go_cut [4] (fun s4 wx => s4 = .bool (Plain.own uid && Plain.own gid) ∧ wx = (w.alloc (.cells #[.int .i64 k, .string ⟨name.toArray⟩, .string ⟨link.toArray⟩, .int .i64 mode, .int .i64 uid, .int .i64 gid, .string ⟨user.toArray⟩, .string ⟨group.toArray⟩, .int .i64 sec, .int .i64 nano, .slice a n c] 39)))
        case first =>
          go_wp2
          all_goals
            go_meet
            refine ⟨congrArg Value.bool ?_, rfl⟩
            rw [Bool.eq_iff_iff]
            simp [Plain.own]
            try omega
        case rest =>
          obtain ⟨rfl, rfl⟩ := hcut
          generalize hO : (Plain.own uid && Plain.own gid) = O
          have HO := Lib.hid hO; clear hO
          go_wp2_with (first | (go_at_call 35; first | ((with_reducible refine (ScText1 1 name _ _ ?hb1).mono ?_); (case hb1 => simp); rintro e w1 ⟨rfl, rfl⟩; rw [H1.out]) | ((with_reducible refine (ScText2 0 user group _ _ ?hb2).mono ?_); (case hb2 => simp); rintro e w1 ⟨rfl, rfl⟩; rw [H2.out, H3.out])) | (go_at_call 36; refine (Valid_any _ _ _).mono ?_; rintro e w1 ⟨rfl, hv⟩; rw [H5.out]))
          all_goals
            go_ret
            refine ⟨ret_bool (by first | exact Plain.fit_z HR hk hlk ‹_› ‹_› ‹_› ‹_› HO ‹_› | exact Plain.fit_o HR HO ‹_› | exact Plain.fit_m HR (by first | exact Or.inl ‹_› | exact Or.inr ‹_›) | exact Plain.fit_t HR ‹_› | exact Plain.fit_1 HR ‹_›), ?_⟩
            try refine Below.seq ?_ hv
            repeat (first | exact b0 | refine Below.alloc ?_ (by simp <;> omega) _)
end Go.Proofs.Ytpdkdhcbibcifaa
namespace Go.Proofs.Ytpdkdhcbibcifaa
set_option linter.unusedVariables false
set_option linter.unusedSimpArgs false
open Go.ChangeShapes Go.WideShapes Go.ChangeAt Go.RowKit
namespace Plain
theorem suffix_last (l : List UInt8) (h : 0 < l.length) : Lib.hasSuffix l [47] = (l.getD (l.length - 1) 0 == 47) := by
  rw [Bool.eq_iff_iff]
  unfold Lib.hasSuffix
  rw [List.isSuffixOf_iff_suffix, beq_iff_eq]
  have hne : l ≠ [] := List.length_pos_iff.1 h
  have e : l.getD (l.length - 1) 0 = l.getLast hne := by
    rw [List.getLast_eq_getElem]; simp [List.getD, List.getElem?_eq_getElem (show l.length - 1 < l.length by omega)]
  rw [e]
  constructor
  · rintro ⟨m, rfl⟩; simp
  · intro hl; exact ⟨l.dropLast, by rw [← hl]; exact List.dropLast_concat_getLast hne⟩
variable {k : Int} {T1 T2 T3 T4 T5 T6 r : Bool} {link : List UInt8} {mode uid gid : Int} {n : Nat}
def C1 (k : Int) (T1 T2 T3 : Bool) : Prop := 1 ≤ k ∧ k ≤ 4 ∧ T1 = true ∧ T2 = true ∧ T3 = true
def C2 (k : Int) (T6 : Bool) (n : Nat) : Prop := (k = 1 → T6 = false) ∧ (k ≠ 1 → n = 0)
theorem ref_1 (hr : Hid (fitB k T1 T2 T3 T4 T5 T6 link mode uid gid n = r)) (h : (k < 1 ∨ 4 < k) ∨ ¬ T1 = true ∨ ¬ T2 = true) : false = r :=
  fit_no hr fun hf => by
    obtain ⟨h1, ⟨h2, h3, _⟩, _⟩ := fitB_true.1 hf
    rcases h with h | h | h
    · omega
    · exact h h2
    · exact h h3
theorem ref_3 (hr : Hid (fitB k T1 T2 T3 T4 T5 T6 link mode uid gid n = r)) (h : (k < 1 ∨ 4 < k) ∨ (!T3) = true) : false = r :=
  fit_no hr fun hf => by
    obtain ⟨h1, ⟨_, _, h3⟩, _⟩ := fitB_true.1 hf
    rcases h with h | h
    · omega
    · rw [h3] at h; cases h
theorem ref_c1 (h1 : T1 = true) (h2 : T2 = true) (h3 : (1 ≤ k ∧ k ≤ 4) ∧ (!T3) = false) : C1 k T1 T2 T3 := ⟨h3.1.1, h3.1.2, h1, h2, by simpa using h3.2⟩
theorem ref_b (hr : Hid (fitB k T1 T2 T3 T4 T5 T6 link mode uid gid n = r)) (h : (k != 1) = true ∧ 0 < n) : false = r :=
  fit_no hr fun hf => by have := (fitB_true.1 hf).2.2.2.1 (by simpa using h.1); omega
theorem ref_c2 (hk : ¬ k = 1) (h : (k != 1) = false ∨ ¬ 0 < n) : C2 k T6 n := ⟨fun h => absurd h hk, fun _ => by rcases h with h | h; simp at h; exact absurd h hk; omega⟩
theorem ref_4 (hr : Hid (fitB k T1 T2 T3 T4 T5 T6 link mode uid gid n = r)) (h : 3 ≤ k) (h4 : ¬ T4 = true) : false = r :=
  fit_no hr fun hf => h4 ((fitB_true.1 hf).2.2.2.2.1 h)
theorem ref_l (hr : Hid (fitB k T1 T2 T3 T4 T5 T6 link mode uid gid n = r)) (h : k < 3) (h4 : (!link.isEmpty) = true) : false = r :=
  fit_no hr fun hf => by have := (fitB_true.1 hf).2.2.2.2.2.1 h; rw [this] at h4; cases h4
theorem ref_own (hr : Hid (fitB k T1 T2 T3 T4 T5 T6 link mode uid gid n = r)) (h : uid < 0 ∨ 2147483647 < uid ∨ gid < 0 ∨ 2147483647 < gid) : false = r :=
  fit_no hr fun hf => by
    have := (fitB_true.1 hf).2.2.2.2.2.2.2.1
    simp only [own, Bool.and_eq_true, decide_eq_true_eq] at this
    omega
theorem ref_z (hr : Hid (fitB k T1 T2 T3 T4 T5 T6 link mode uid gid n = r)) (h1 : C1 k T1 T2 T3) (h2 : C2 k T6 n) (h3 : LinkOk k T4 link) (m1 : 0 ≤ mode) (m2 : mode ≤ 4095) (o1 : 0 ≤ uid) (o2 : uid ≤ 2147483647) (o3 : 0 ≤ gid) (o4 : gid ≤ 2147483647) : T5 = r :=
  fit_z (L := decide (3 ≤ k)) hr ⟨h1.1, h1.2.1, h2.1, h2.2, rfl⟩ h3 h1.2.2.1 h1.2.2.2 m1 m2 (O := true) (by show _ = _; simp [own, o1, o2, o3, o4]) rfl
end Plain
end Go.Proofs.Ytpdkdhcbibcifaa
namespace Go.Proofs.Ytpdkdhcbibcifaa
set_option linter.unusedVariables false
set_option linter.unusedSimpArgs false
namespace Gr
theorem Wk.out_pre {g : List Nd} {s : List (Int × Bt)} {st : TS} {res : Option TS} (h : Wk g s st res) : ∀ fin, res = some fin → ∃ t, fin.out = st.out ++ t := by
  induction h with
  | done st => intro fin e; cases e; exact ⟨[], by simp⟩
  | big => intro fin e; cases e
  | step id path r st n res h hn hk ih =>
    intro fin e
    obtain ⟨t, ht⟩ := ih fin e
    exact ⟨mkLine n path (st.peer n.id) :: t, by rw [ht]; simp [TS.next]⟩
theorem tree_head {g : List Nd} {root : Int} {ls : List Ln} (h : TreeOk g root ls) : ∃ l rest, ls = l :: rest ∧ l.path = [46] ∧ l.kind = 2 := by
  obtain ⟨hc, ⟨n0, hn0, hk0⟩, fin, hw, rfl⟩ := h
  cases hw with
  | step _ _ _ _ n _ h hn hk =>
    obtain ⟨t, ht⟩ := hk.out_pre fin rfl
    refine ⟨mkLine n [46] (st0.peer n.id), t, by rw [ht]; rfl, rfl, ?_⟩
    rw [hn0] at hn; cases hn
    exact hk0
/-- a directory stands ahead of what lies in it -/
theorem tree_parents {g : List Nd} {root : Int} {ls : List Ln} (h : TreeOk g root ls) : ∀ a l b, ls = a ++ l :: b → ∀ c, cutOf l.path = some c → ∃ m ∈ a, m.path = l.path.take c ∧ m.kind = 2 := by
  obtain ⟨hc, ⟨n0, hn0, hk0⟩, fin, hw, rfl⟩ := h
  obtain ⟨p, hp⟩ := hc.ok
  refine (Wk.inv (I := fun s st => (∀ x ∈ s, ∀ c, cutOf x.2 = some c → ∃ m ∈ st.out, m.path = x.2.take c ∧ m.kind = 2) ∧ ∀ a l b, st.out = a ++ l :: b → ∀ c, cutOf l.path = some c → ∃ m ∈ a, m.path = l.path.take c ∧ m.kind = 2) (fun id path r st n hi hb hn => ?_) hw ⟨?_, ?_⟩ fin rfl).2
  · obtain ⟨h1, h2⟩ := hi
    obtain ⟨hng, rfl⟩ := nodeOf_mem hn
    have hout : (st.next n path).out = st.out ++ [mkLine n path (st.peer n.id)] := rfl
    refine ⟨fun x hx c hcut => ?_, fun a l b he c hcut => ?_⟩
    · rw [hout]
      rcases List.mem_append.1 hx with hx | hx
      · simp only [kids, List.mem_map] at hx
        obtain ⟨e, he, rfl⟩ := hx
        have hgd := hp.ents n hng
        have h7 := (good_parts (hgd.good e he)).2.2.2.2.2
        have hk2 : n.kind = 2 := by
          apply Classical.byContradiction
          intro hk2
          have hs := hp.sound n hng
          simp only [sound, Bool.and_eq_true, decide_eq_true_eq, Bool.or_eq_true, hk2, false_or] at hs
          rw [List.isEmpty_iff.1 hs.1.1.2] at he
          cases he
        simp only [Gr.below] at hcut ⊢
        split at hcut
        · rw [cutOf_none.2 h7] at hcut; cases hcut
        · rename_i ht
          rw [if_neg ht]
          have := cutOf_some.2 ⟨path, e.1, rfl, rfl, h7⟩
          rw [this] at hcut
          cases hcut
          exact ⟨mkLine n path (st.peer n.id), by simp, by rw [List.take_left]; rfl, hk2⟩
      · obtain ⟨m, hm, h3⟩ := h1 x (by simp [hx]) c hcut
        exact ⟨m, List.mem_append_left _ hm, h3⟩
    · rw [hout] at he
      rcases snoc_cases b with rfl | ⟨b, y, rfl⟩
      · obtain ⟨e3, e4⟩ := List.append_inj' he rfl
        simp only [List.cons.injEq, and_true] at e4
        subst e3; subst e4
        exact h1 (n.id, path) (by simp) c hcut
      · have he' : st.out ++ [mkLine n path (st.peer n.id)] = (a ++ l :: b) ++ [y] := by simpa using he
        exact h2 a l b (List.append_inj' he' rfl).1 c hcut
  · intro x hx c hcut
    simp only [List.mem_singleton] at hx
    subst hx
    simp [cutOf] at hcut
  · intro a l b he
    simp [st0] at he
theorem peers_there : ∀ {ls : List Ln} {seen : List (Bt × Int)}, PeersOk seen ls → ∀ l ∈ ls, l.peer ≠ [] → (l.peer, l.kind) ∈ seen ++ ls.map fun m => (m.path, m.kind)
  | m :: ls, seen, h, l, hl, hne => by
    rcases List.mem_cons.1 hl with rfl | hl
    · exact List.mem_append_left _ (h.1 hne)
    · have := peers_there h.2 l hl hne
      simpa using this
theorem txt_of {lo : Int} {s : Bt} (h1 : lo ≤ (s.length : Int)) (h2 : s.length ≤ 4096) (h3 : 0 ∉ s) : Plain.txt lo s = true := by
  unfold Plain.txt
  have e1 : decide ((s.length : Int) < lo) = false := dec_f (by omega)
  have e2 : decide (4096 < (s.length : Int)) = false := dec_f (by omega)
  have e3 : decide (0 ≤ Lib.indexByte s 0) = false := dec_f (fun h => by
    obtain ⟨j, hj, h0⟩ := Plain.indexByte_some s h
    refine h3 ?_
    rw [← h0]
    simp [List.getD, List.getElem?_eq_getElem hj])
  rw [e1, e2, e3]; rfl
theorem shw_zero {ps : List Bt} (h : goods ps) : 0 ∉ shw ps := by
  rcases snoc_cases ps with rfl | ⟨qs, q, rfl⟩
  · simp [shw]
  · induction qs generalizing q with
    | nil => exact (by simpa [shw] using (good_parts (h q (by simp))).2.2.2.2.1)
    | cons a qs ih =>
      have hs : ∀ ps : List Bt, goods ps → 0 ∉ ps.flatMap fun q => 47 :: q := by
        intro ps hps hm
        obtain ⟨x, hx, hm⟩ := List.mem_flatMap.1 hm
        rcases List.mem_cons.1 hm with h | h
        · cases h
        · exact (good_parts (hps x hx)).2.2.2.2.1 h
      intro hm
      simp only [List.cons_append, shw, List.mem_append] at hm
      rcases hm with hm | hm
      · exact (good_parts (h a (by simp))).2.2.2.2.1 hm
      · exact hs _ (fun x hx => h x (by simp at hx ⊢; exact Or.inr hx)) hm
theorem shw_last {ps : List Bt} (h : goods ps) : (shw ps).getLast? ≠ some 47 := by
  rcases snoc_cases ps with rfl | ⟨qs, q, rfl⟩
  · simp [shw]
  · have hq := good_parts (h q (by simp))
    have h1 : q.getLast? ≠ some 47 := fun e => hq.2.2.2.2.2 (List.mem_of_getLast? e)
    have h2 : q ≠ [] := hq.1
    rw [shw_snoc]
    split
    · exact h1
    · rw [List.getLast?_append]
      cases q with
      | nil => exact absurd rfl h2
      | cons b q =>
        rw [show (47 :: b :: q).getLast? = (b :: q).getLast? from rfl]
        cases hl : (b :: q).getLast? with
        | none => simp at hl
        | some v => rw [hl] at h1; simpa using h1
theorem cut_init {p : Bt} (h : p.getLast? ≠ some 47) : cutOf (p.take (p.length - 1)) = cutOf p := by
  rcases snoc_cases p with rfl | ⟨q, b, rfl⟩
  · rfl
  · have hb : b ≠ 47 := fun e => h (by simp [e])
    have : (q ++ [b]).take ((q ++ [b]).length - 1) = q := by simp
    rw [this]
    cases hc : cutOf q with
    | none =>
      have h1 := cutOf_none.1 hc
      exact (cutOf_none.2 (by simp [h1]; exact fun e => hb e.symm)).symm
    | some k =>
      obtain ⟨a, c, rfl, rfl, hn⟩ := cutOf_some.1 hc
      exact (cutOf_some.2 ⟨a, c ++ [b], by simp, rfl, by simp [hn]; exact fun e => hb e.symm⟩).symm
def fitE (e : En) : Bool := Plain.fits e.kind e.name e.link e.mode e.uid e.gid e.user e.group e.sec e.nano e.data.length
/-- what the statement says of the entries -/
structure FitOk (es : List En) : Prop where
  fits : ∀ e ∈ es, fitE e = true
  par : ∀ (i : Nat) (e : En), es[i]? = some e → ∀ c, cutOf (e.name.take (e.name.length - 1)) = some c → ∃ (j : Nat) (m : En), j < i ∧ es[j]? = some m ∧ m.name = e.name.take (c + 1) ∧ m.kind = 2
  head : ∃ e, es[0]? = some e ∧ e.name = [46, 47]
theorem fitE_of {e : En} (hk : 1 ≤ e.kind ∧ e.kind ≤ 4) (hn : 1 ≤ e.name.length ∧ e.name.length ≤ 4096 ∧ 0 ∉ e.name) (hu : e.user = []) (hg : e.group = []) (h1 : e.kind = 1 → e.name.getLast? ≠ some 47) (hd : e.kind ≠ 1 → e.data = [])
    (hl : 3 ≤ e.kind → 1 ≤ e.link.length ∧ e.link.length ≤ 4096 ∧ 0 ∉ e.link) (hl2 : e.kind < 3 → e.link = []) (hm : 0 ≤ e.mode ∧ e.mode ≤ 4095) (ho : 0 ≤ e.uid ∧ e.uid ≤ 2147483647) (hq : 0 ≤ e.gid ∧ e.gid ≤ 2147483647) (ht : validT e.sec e.nano = true) : fitE e = true := by
  unfold fitE Plain.fits
  refine Plain.fitB_true.2 ⟨hk, ⟨txt_of (by omega) hn.2.1 hn.2.2, by rw [hu]; exact txt_of (by simp) (by simp) (by simp), by rw [hg]; exact txt_of (by simp) (by simp) (by simp)⟩, fun e1 => ?_, fun e1 => by rw [hd e1]; rfl, fun e1 => ?_, fun e1 => by rw [hl2 e1]; rfl, hm, ⟨by simp [Plain.own, ho], by simp [Plain.own, hq]⟩, ?_⟩
  · rw [Plain.suffix_last _ (by omega)]
    have h2 := h1 e1
    have : e.name.getD (e.name.length - 1) 0 ≠ 47 := by
      intro e2
      refine h2 ?_
      rw [List.getLast?_eq_getElem?]
      have h3 : e.name.length - 1 < e.name.length := by omega
      rw [List.getD_eq_getElem?_getD, List.getElem?_eq_getElem h3] at e2
      rw [List.getElem?_eq_getElem h3]
      exact congrArg some e2
    exact beq_f this
  · have := hl e1
    exact txt_of (by omega) this.2.1 this.2.2
  · have h2 := ht
    simp only [validT, decide_eq_true_eq] at h2
    unfold Plain.valid
    simp only [Bool.and_eq_true, decide_eq_true_eq, Bool.not_eq_true', Bool.and_eq_false_iff, decide_eq_false_iff_not]
    refine ⟨⟨⟨⟨h2.1, h2.2.1⟩, h2.2.2.2.1⟩, h2.2.2.2.2⟩, ?_⟩
    by_cases e2 : e.sec = -1099511627777
    · have := h2.2.2.1 e2
      exact Or.inr (by omega)
    · exact Or.inl e2
theorem entOf_name (l : Ln) : (entOf l).name = if l.peer = [] ∧ l.kind = 2 then l.path ++ [47] else l.path := by
  unfold entOf
  by_cases h1 : l.peer = []
  · by_cases h2 : l.kind = 2
    · simp [h1, h2]
    · simp only [h1, h2, ne_eq, not_true, if_false, true_and]
      split <;> rfl
  · simp [h1]
theorem tree_fits {g : List Nd} {root : Int} {ls : List Ln} (h : TreeOk g root ls) (hr : ∀ l ∈ ls, l.path.length ≤ room l) : FitOk (ls.map entOf) := by
  obtain ⟨hlo, hpe⟩ := tree_lines h
  have hpar := tree_parents h
  have hnd := tree_nodir h
  obtain ⟨l0, rest, hls, hl0, hk0⟩ := tree_head h
  obtain ⟨O, eO, _, hgO, _, _⟩ := tree_paths h
  have hshw : ∀ l ∈ ls, ∃ ps, goods ps ∧ shw ps = l.path := fun l hl => by
    have : l.path ∈ O.map shw := by rw [eO]; exact List.mem_map.2 ⟨l, hl, rfl⟩
    obtain ⟨ps, hps, e⟩ := List.mem_map.1 this
    exact ⟨ps, hgO ps hps, e⟩
  have hz : ∀ l ∈ ls, 0 ∉ l.path := fun l hl => by obtain ⟨ps, h1, h2⟩ := hshw l hl; rw [← h2]; exact shw_zero h1
  have hlast : ∀ l ∈ ls, l.path.getLast? ≠ some 47 := fun l hl => by obtain ⟨ps, h1, h2⟩ := hshw l hl; rw [← h2]; exact shw_last h1
  have hpos : ∀ l ∈ ls, 1 ≤ l.path.length := fun l hl => List.length_pos_iff.2 (hlo l hl).path
  have hroom : ∀ l ∈ ls, l.path.length ≤ 4096 := fun l hl => by
    have := hr l hl
    unfold room at this
    split at this <;> omega
  have hinit : ∀ l ∈ ls, cutOf ((entOf l).name.take ((entOf l).name.length - 1)) = cutOf l.path := fun l hl => by
    rw [entOf_name]
    split
    · simp
    · exact cut_init (hlast l hl)
  refine ⟨?_, ?_, ?_⟩
  · intro e he
    obtain ⟨l, hl, rfl⟩ := List.mem_map.1 he
    obtain ⟨_, h2, h3, h4, h5, h6, h7, h8, h9⟩ := hlo l hl
    by_cases hp : l.peer = []
    · by_cases hk2 : l.kind = 2
      · have e1 : entOf l = ⟨2, l.path ++ [47], [], l.mode, l.uid, l.gid, [], [], l.sec, l.nano, []⟩ := by simp [entOf, hp, hk2]
        have hrm := hr l hl
        unfold room at hrm
        rw [if_pos hk2] at hrm
        rw [e1]
        exact fitE_of (by simp) ⟨by simp, by simp; omega, by simp [hz l hl]⟩ rfl rfl (by simp) (fun _ => rfl) (by simp) (fun _ => rfl) h3 h4 h5 h6
      · by_cases hk3 : l.kind = 3
        · have e1 : entOf l = ⟨3, l.path, l.target, l.mode, l.uid, l.gid, [], [], l.sec, l.nano, []⟩ := by simp [entOf, hp, hk3]
          have ht := h8 hp
          rw [hk3] at ht
          simp only [textOk, if_true, Bool.and_eq_true, bne_iff_ne, ne_eq, decide_eq_true_eq, Bool.not_eq_true', List.contains_eq_mem, decide_eq_false_iff_not] at ht
          rw [e1]
          exact fitE_of (by simp) ⟨hpos l hl, hroom l hl, hz l hl⟩ rfl rfl (by simp) (fun _ => rfl) (fun _ => ⟨List.length_pos_iff.2 ht.1.1, ht.1.2, ht.2⟩) (by simp) h3 h4 h5 h6
        · have e1 : entOf l = ⟨l.kind, l.path, [], l.mode, l.uid, l.gid, [], [], l.sec, l.nano, l.data⟩ := by simp [entOf, hp, hk2, hk3]
          have hk1 : l.kind = 1 := by omega
          rw [e1, hk1]
          exact fitE_of (by simp) ⟨hpos l hl, hroom l hl, hz l hl⟩ rfl rfl (fun _ => hlast l hl) (by simp) (by simp) (fun _ => rfl) h3 h4 h5 h6
    · have e1 : entOf l = ⟨4, l.path, l.peer, l.mode, l.uid, l.gid, [], [], l.sec, l.nano, []⟩ := by simp [entOf, hp]
      have hm := peers_there hpe l hl hp
      simp only [List.nil_append, List.mem_map, Prod.mk.injEq] at hm
      obtain ⟨m, hm, e2, _⟩ := hm
      rw [e1, ← e2]
      exact fitE_of (by simp) ⟨hpos l hl, hroom l hl, hz l hl⟩ rfl rfl (by simp) (fun _ => rfl) (fun _ => ⟨hpos m hm, hroom m hm, hz m hm⟩) (by simp) h3 h4 h5 h6
  · intro i e he c hc
    rw [List.getElem?_map] at he
    cases hi : ls[i]? with
    | none => rw [hi] at he; cases he
    | some l =>
      rw [hi] at he
      simp only [Option.map_some, Option.some.injEq] at he
      subst he
      have hl : l ∈ ls := List.mem_of_getElem? hi
      rw [hinit l hl] at hc
      obtain ⟨hi1, hi2⟩ := List.getElem?_eq_some_iff.1 hi
      have hsplit : ls = ls.take i ++ l :: ls.drop (i + 1) := by
        rw [← hi2, ← List.drop_eq_getElem_cons hi1, List.take_append_drop]
      obtain ⟨m, hm, e1, e2⟩ := hpar _ l _ hsplit c hc
      have hml : m ∈ ls := List.mem_of_mem_take hm
      have hmp : m.peer = [] := Classical.byContradiction fun h => hnd m hml h e2
      obtain ⟨j, hj⟩ := List.mem_iff_getElem?.1 hm
      rw [List.getElem?_take] at hj
      split at hj
      · rename_i hji
        refine ⟨j, entOf m, hji, by rw [List.getElem?_map, hj]; rfl, ?_, ?_⟩
        · rw [entOf_name, if_pos ⟨hmp, e2⟩, e1, entOf_name]
          obtain ⟨a, b, hab, hac, _⟩ := cutOf_some.1 hc
          subst hac
          have e4 : ∀ t : Bt, ((a ++ 47 :: b) ++ t).take (a.length + 1) = a ++ [47] := by
            intro t
            rw [List.append_assoc, List.take_append]
            simp
            exact List.take_of_length_le (by omega)
          rw [hab, List.take_left]
          split
          · exact (e4 [47]).symm
          · have := e4 []
            rw [List.append_nil] at this
            exact this.symm
        · simp [entOf, hmp, e2]
      · cases hj
  · refine ⟨entOf l0, by rw [hls]; rfl, ?_⟩
    have hp0 : l0.peer = [] := Classical.byContradiction fun h => hnd l0 (by rw [hls]; simp) h hk0
    rw [entOf_name, if_pos ⟨hp0, hk0⟩, hl0]
    rfl
end Gr
end Go.Proofs.Ytpdkdhcbibcifaa
