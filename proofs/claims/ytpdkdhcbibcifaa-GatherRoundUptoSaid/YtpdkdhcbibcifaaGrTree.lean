/-
  GrTree: what is known of the lines of a well-formed graph's tree: no program.
-/
import Derived.Test.YtpdkdhcbibcifaaGrLaw
namespace Go.Proofs.Ytpdkdhcbibcifaa
namespace Gr
/-! ### the order of names -/
theorem less_irrefl : ∀ x : Bt, Op.bytesLess x x = false
  | [] => rfl
  | a :: x => by simp [Op.bytesLess, less_irrefl x, UInt8.lt_irrefl]
theorem less_trans : ∀ {x y z : Bt}, Op.bytesLess x y = true → Op.bytesLess y z = true → Op.bytesLess x z = true
  | [], [], _, h, _ => by simp [Op.bytesLess] at h
  | [], _ :: _, [], _, h => by simp [Op.bytesLess] at h
  | [], _ :: _, _ :: _, _, _ => rfl
  | _ :: _, [], _, h, _ => by simp [Op.bytesLess] at h
  | _ :: _, _ :: _, [], _, h => by simp [Op.bytesLess] at h
  | a :: x, b :: y, c :: z, h, k => by
    simp only [Op.bytesLess, Bool.or_eq_true, decide_eq_true_eq, Bool.and_eq_true, beq_iff_eq] at h k ⊢
    rcases h with h | ⟨rfl, h⟩
    · rcases k with k | ⟨rfl, k⟩
      · exact Or.inl (UInt8.lt_trans h k)
      · exact Or.inl h
    · rcases k with k | ⟨rfl, k⟩
      · exact Or.inl k
      · exact Or.inr ⟨rfl, less_trans h k⟩
theorem less_total : ∀ (x y : Bt), Op.bytesLess x y = true ∨ x = y ∨ Op.bytesLess y x = true
  | [], [] => Or.inr (Or.inl rfl)
  | [], _ :: _ => Or.inl rfl
  | _ :: _, [] => Or.inr (Or.inr rfl)
  | a :: x, b :: y => by
    simp only [Op.bytesLess, Bool.or_eq_true, decide_eq_true_eq, Bool.and_eq_true, beq_iff_eq, List.cons.injEq]
    by_cases h1 : a < b
    · exact Or.inl (Or.inl h1)
    · by_cases h2 : b < a
      · exact Or.inr (Or.inr (Or.inl h2))
      · have : a = b := by
          apply UInt8.toNat_inj.1
          rw [UInt8.lt_iff_toNat_lt] at h1 h2
          omega
        subst this
        rcases less_total x y with h | rfl | h
        · exact Or.inl (Or.inr ⟨rfl, h⟩)
        · exact Or.inr (Or.inl ⟨rfl, rfl⟩)
        · exact Or.inr (Or.inr (Or.inr ⟨rfl, h⟩))
theorem after_of {nm last : Bt} (h : ¬ (Op.bytesLess nm last || nm == last) = true) : Op.bytesLess last nm = true := by
  simp only [Bool.or_eq_true, beq_iff_eq, not_or] at h
  rcases less_total last nm with h1 | h1 | h1
  · exact h1
  · exact absurd h1.symm h.2
  · exact absurd h1 h.1
/-! ### the entries of a checked graph -/
def isDir (g : List Nd) (id : Int) : Bool := match nodeOf g id with | some n => n.kind == 2 | none => false
structure EntsOk (g : List Nd) (es : List (Bt × Int)) : Prop where
  good : ∀ e ∈ es, good e.1 = true
  there : ∀ e ∈ es, (nodeOf g e.2).isSome = true
  rise : es.Pairwise fun a b => Op.bytesLess a.1 b.1 = true
theorem enterE_ok {g : List Nd} {pid : Int} : ∀ {es : List (Bt × Int)} {last : Bt} {p p' : List (Int × Int)}, enterE g pid es last p = some p' → EntsOk g es ∧ ∀ e ∈ es, Op.bytesLess last e.1 = true
  | [], _, _, _, _ => ⟨⟨by simp, by simp, List.Pairwise.nil⟩, by simp⟩
  | (nm, id) :: es, last, p, p', h => by
    unfold enterE at h
    cases hn : nodeOf g id with
    | none => rw [hn] at h; cases h
    | some t =>
      rw [hn] at h
      simp only at h
      split at h
      · cases h
      · rename_i hg
        rw [not_or] at hg
        have hgood : good nm = true := by simpa using hg.1
        have hlt := after_of hg.2
        have hrest : ∃ q, enterE g pid es nm q = some p' := by
          split at h
          · exact ⟨_, h⟩
          · split at h
            · cases h
            · exact ⟨_, h⟩
        obtain ⟨q, hq⟩ := hrest
        obtain ⟨h1, h2⟩ := enterE_ok hq
        refine ⟨⟨fun e he => ?_, fun e he => ?_, List.Pairwise.cons (fun e he => h2 e he) h1.rise⟩, fun e he => ?_⟩
        · rcases List.mem_cons.1 he with rfl | he
          · exact hgood
          · exact h1.good e he
        · rcases List.mem_cons.1 he with rfl | he
          · simp [hn]
          · exact h1.there e he
        · rcases List.mem_cons.1 he with rfl | he
          · exact hlt
          · exact less_trans hlt (h2 e he)
theorem enterE_par {g : List Nd} {pid : Int} : ∀ {es : List (Bt × Int)} {last : Bt} {p p' : List (Int × Int)}, enterE g pid es last p = some p' → (p.map (·.1)).Nodup →
    (p'.map (·.1)).Nodup ∧ (∀ x ∈ p, x ∈ p') ∧ (∀ e ∈ es, isDir g e.2 = true → (e.2, pid) ∈ p' ∧ e.2 ∉ p.map (·.1)) ∧ es.Pairwise (fun a b => isDir g a.2 = true → isDir g b.2 = true → a.2 ≠ b.2)
  | [], _, p, p', h, hn => by simp only [enterE, Option.some.injEq] at h; subst h; exact ⟨hn, fun _ h => h, by simp, List.Pairwise.nil⟩
  | (nm, id) :: es, last, p, p', h, hnd => by
    unfold enterE at h
    cases hn : nodeOf g id with
    | none => rw [hn] at h; cases h
    | some t =>
      rw [hn] at h
      simp only at h
      split at h
      · cases h
      · split at h
        · rename_i hk
          obtain ⟨h1, h2, h3, h4⟩ := enterE_par h hnd
          have hnd : isDir g id = false := by simp [isDir, hn, hk]
          refine ⟨h1, h2, fun e he hd => ?_, List.Pairwise.cons (fun e he hd => by rw [hnd] at hd; cases hd) h4⟩
          rcases List.mem_cons.1 he with rfl | he
          · rw [hnd] at hd; cases hd
          · exact h3 e he hd
        · rename_i hk
          split at h
          · cases h
          · rename_i htw
            have hni : id ∉ p.map (·.1) := by
              rw [← lookup_none_iff]
              exact Option.not_isSome_iff_eq_none.1 htw
            have hnd' : ((p ++ [(id, pid)]).map (·.1)).Nodup := by
              rw [List.map_append, List.nodup_append]
              refine ⟨hnd, by simp, fun a ha b hb => ?_⟩
              simp at hb
              subst hb
              rintro rfl
              exact hni ha
            obtain ⟨h1, h2, h3, h4⟩ := enterE_par h hnd'
            refine ⟨h1, fun x hx => h2 x (by simp [hx]), fun e he hd => ?_, List.Pairwise.cons (fun e he _ hd => ?_) h4⟩
            · rcases List.mem_cons.1 he with rfl | he
              · exact ⟨h2 _ (by simp), hni⟩
              · obtain ⟨a, b⟩ := h3 e he hd
                refine ⟨a, fun hm => b ?_⟩
                rw [List.map_append]
                exact List.mem_append_left _ hm
            · obtain ⟨a, b⟩ := h3 e he hd
              intro e1
              refine b ?_
              simp only at e1
              rw [← e1]
              simp
theorem enterN_ok {g : List Nd} : ∀ {ns : List Nd} {p p' : List (Int × Int)}, enterN g ns p = some p' → (p.map (·.1)).Nodup →
    (p'.map (·.1)).Nodup ∧ (∀ x ∈ p, x ∈ p') ∧ ∀ n ∈ ns, EntsOk g n.ents ∧ (∀ e ∈ n.ents, isDir g e.2 = true → (e.2, n.id) ∈ p') ∧ n.ents.Pairwise (fun a b => isDir g a.2 = true → isDir g b.2 = true → a.2 ≠ b.2)
  | [], p, p', h, hn => by simp only [enterN, Option.some.injEq] at h; subst h; exact ⟨hn, fun _ h => h, by simp⟩
  | n :: ns, p, p', h, hn => by
    unfold enterN at h
    cases he : enterE g n.id n.ents [] p with
    | none => rw [he] at h; cases h
    | some q =>
      rw [he] at h
      obtain ⟨h1, h2, h3, h4⟩ := enterE_par he hn
      obtain ⟨k1, k2, k3⟩ := enterN_ok h h1
      refine ⟨k1, fun x hx => k2 x (h2 x hx), fun m hm => ?_⟩
      rcases List.mem_cons.1 hm with rfl | hm
      · exact ⟨(enterE_ok he).1, fun e he hd => k2 _ (h3 e he hd).1, h4⟩
      · exact k3 m hm
/-- what is known of a checked graph -/
structure ChkOk (g : List Nd) (p : List (Int × Int)) : Prop where
  ents : ∀ n ∈ g, EntsOk g n.ents
  par : ∀ n ∈ g, ∀ e ∈ n.ents, isDir g e.2 = true → p.lookup e.2 = some n.id
  once : ∀ n ∈ g, n.ents.Pairwise (fun a b => isDir g a.2 = true → isDir g b.2 = true → a.2 ≠ b.2)
  acy : Acy p
  sound : ∀ n ∈ g, sound n = true
theorem Chk.ok {g : List Nd} (h : Chk g) : ∃ p, ChkOk g p := by
  obtain ⟨_, h2, _, p, h4, h5⟩ := h
  obtain ⟨k1, _, k3⟩ := enterN_ok h4 (by simp)
  exact ⟨p, fun n hn => (k3 n hn).1, fun n hn e he hd => lookup_nodup k1 ((k3 n hn).2.1 e he hd), fun n hn => (k3 n hn).2.2, h5, h2.sound⟩
/-! ### the walk's invariants -/
theorem Wk.inv {g : List Nd} {I : List (Int × Bt) → TS → Prop} (hs : ∀ id path r st n, I ((id, path) :: r) st → st.bytes + path.length ≤ 4194304 → nodeOf g id = some n → I (kids n path st.out.isEmpty ++ r) (st.next n path))
    {s : List (Int × Bt)} {st : TS} {res : Option TS} (h : Wk g s st res) : I s st → ∀ fin, res = some fin → I [] fin := by
  induction h with
  | done st => intro hi fin hf; cases hf; exact hi
  | big => intro _ _ hf; cases hf
  | step id path r st n res h hn _ ih => intro hi fin hf; exact ih (hs _ _ _ _ _ hi h hn) fin hf
theorem snoc_cases {α : Type} (l : List α) : l = [] ∨ ∃ a b, l = a ++ [b] := by
  rcases List.eq_nil_or_concat l with h | ⟨a, b, h⟩
  · exact Or.inl h
  · exact Or.inr ⟨a, b, by rw [h]; simp⟩
/-! ### paths as parts -/
def shw : List Bt → Bt
  | [] => [46]
  | p :: r => p ++ r.flatMap fun q => 47 :: q
theorem shw_snoc (ps : List Bt) (nm : Bt) : shw (ps ++ [nm]) = if ps = [] then nm else shw ps ++ 47 :: nm := by
  cases ps with
  | nil => simp [shw]
  | cons p r => simp [shw]
theorem good_parts {p : Bt} (h : good p = true) : p ≠ [] ∧ p ≠ [46] ∧ p ≠ [46, 46] ∧ p.length ≤ 255 ∧ 0 ∉ p ∧ 47 ∉ p := by
  simp only [good, Bool.and_eq_true, bne_iff_ne, ne_eq, decide_eq_true_eq, Bool.not_eq_true', List.contains_eq_mem, decide_eq_false_iff_not] at h
  exact ⟨h.1.1.1.1.1, h.1.1.1.1.2, h.1.1.1.2, h.1.1.2, h.1.2, h.2⟩
def goods (ps : List Bt) : Prop := ∀ p ∈ ps, good p = true
theorem shw_ne (ps : List Bt) (h : goods ps) : shw ps ≠ [] := by
  cases ps with
  | nil => simp [shw]
  | cons p r =>
    have := (good_parts (h p (by simp))).1
    simp [shw, this]
theorem cut_shw {ps : List Bt} {nm : Bt} (h : good nm = true) : cutOf (shw (ps ++ [nm])) = if ps = [] then none else some (shw ps).length := by
  have h7 := (good_parts h).2.2.2.2.2
  rw [shw_snoc]
  split
  · exact cutOf_none.2 h7
  · exact cutOf_some.2 ⟨_, _, rfl, rfl, h7⟩
theorem shw_dot {ps : List Bt} (h : goods ps) (e : shw ps = [46]) : ps = [] := by
  rcases snoc_cases ps with rfl | ⟨qs, q, rfl⟩
  · rfl
  · have hq := good_parts (h q (by simp))
    rw [shw_snoc] at e
    split at e
    · exact absurd e hq.2.1
    · have : (shw qs ++ 47 :: q).length = 1 := by rw [e]; rfl
      have h2 : 0 < (shw qs).length := List.length_pos_iff.2 (shw_ne qs fun p hp => h p (by simp [hp]))
      simp at this
      omega
theorem shw_inj : ∀ (k : Nat) {ps qs : List Bt}, ps.length ≤ k → goods ps → goods qs → shw ps = shw qs → ps = qs
  | 0, ps, qs, hk, hp, hq, e => by
    obtain rfl : ps = [] := List.eq_nil_of_length_eq_zero (by omega)
    exact (shw_dot hq e.symm).symm
  | k + 1, ps, qs, hk, hp, hq, e => by
    rcases snoc_cases ps with rfl | ⟨ps, p, rfl⟩
    · exact (shw_dot hq e.symm).symm
    · rcases snoc_cases qs with rfl | ⟨qs, q, rfl⟩
      · exact shw_dot hp e
      · have hp1 := hp p (by simp)
        have hq1 := hq q (by simp)
        have c1 := cut_shw (ps := ps) hp1
        have c2 := cut_shw (ps := qs) hq1
        rw [e, c2] at c1
        by_cases h1 : ps = []
        · by_cases h2 : qs = []
          · subst h1; subst h2
            have e' : p = q := by simpa [shw] using e
            rw [e']
          · rw [if_pos h1, if_neg h2] at c1; cases c1
        · by_cases h2 : qs = []
          · rw [if_neg h1, if_pos h2] at c1; cases c1
          · rw [if_neg h1, if_neg h2] at c1
            rw [shw_snoc, shw_snoc, if_neg h1, if_neg h2] at e
            obtain ⟨e1, e2⟩ := List.append_inj e (by simpa using c1.symm)
            have := shw_inj k (by simp at hk; omega) (fun p hp' => hp p (by simp [hp'])) (fun p hp' => hq p (by simp [hp'])) e1
            subst this
            simp only [List.cons.injEq, true_and] at e2
            rw [e2]
/-- the parts of what is out, and of what waits -/
structure PInv (O S : List (List Bt)) : Prop where
  nodup : (O ++ S).Nodup
  pre : ∀ s ∈ S, ∀ t ∈ O ++ S, s <+: t → s = t
  good : ∀ x ∈ O ++ S, goods x
  par : ∀ x ∈ S, x ≠ [] → x.dropLast ∈ O
  top : O = [] → ∀ x ∈ S, x = []
  low : O ≠ [] → [] ∉ S
theorem prefix_snoc {r s : List Bt} {n : Bt} (h : r <+: s ++ [n]) : r = s ++ [n] ∨ r <+: s := by
  obtain ⟨t, ht⟩ := h
  rcases snoc_cases t with rfl | ⟨t, m, rfl⟩
  · left; simpa using ht
  · right
    rw [← List.append_assoc] at ht
    exact ⟨t, (List.append_inj' ht rfl).1⟩
theorem PInv.step {O S : List (List Bt)} {s : List Bt} {ns : List Bt} (h : PInv O (s :: S)) (hd : ns.Nodup) (hg : ∀ n ∈ ns, Gr.good n = true) : PInv (O ++ [s]) (ns.map (fun n => s ++ [n]) ++ S) := by
  have hnd := h.nodup
  rw [List.nodup_append] at hnd
  obtain ⟨n1, n2, n3⟩ := hnd
  rw [List.nodup_cons] at n2
  have hsO : s ∉ O := fun hm => n3 s hm s (by simp) rfl
  -- a kid is none of what was there
  have hkid : ∀ n ∈ ns, ∀ t ∈ O ++ s :: S, s ++ [n] ≠ t := by
    rintro n _ t ht rfl
    have h1 := h.pre s (by simp) _ ht ⟨[n], rfl⟩
    have h2 := congrArg List.length h1
    simp only [List.length_append, List.length_cons, List.length_nil] at h2
    omega
  have hkp : ∀ n ∈ ns, ∀ t ∈ O ++ s :: S, ¬ s ++ [n] <+: t := by
    intro n hn t ht hp
    have h1 : s <+: t := List.IsPrefix.trans ⟨[n], rfl⟩ hp
    have := h.pre s (by simp) t ht h1
    subst this
    have h2 := hp.length_le
    simp only [List.length_append, List.length_cons, List.length_nil] at h2
    omega
  have mem : ∀ t ∈ (O ++ [s]) ++ (ns.map (fun n => s ++ [n]) ++ S), t ∈ O ++ s :: S ∨ ∃ n ∈ ns, t = s ++ [n] := by
    intro t ht
    simp only [List.mem_append, List.mem_cons, List.not_mem_nil, or_false, List.mem_map] at ht ⊢
    rcases ht with (h | h) | (⟨n, hn, rfl⟩ | h)
    · exact Or.inl (Or.inl h)
    · exact Or.inl (Or.inr (Or.inl h))
    · exact Or.inr ⟨n, hn, rfl⟩
    · exact Or.inl (Or.inr (Or.inr h))
  refine ⟨?_, ?_, ?_, ?_, ?_, ?_⟩
  · have hk : (ns.map fun n => s ++ [n]).Nodup := by
      refine List.Pairwise.map _ (fun a b hab e => hab ?_) hd
      simpa using e
    rw [List.nodup_append]
    refine ⟨?_, ?_, ?_⟩
    · rw [List.nodup_append]
      exact ⟨n1, by simp, fun a ha b hb => by simp at hb; subst hb; rintro rfl; exact hsO ha⟩
    · rw [List.nodup_append]
      refine ⟨hk, n2.2, fun a ha b hb e => ?_⟩
      obtain ⟨n, hn, rfl⟩ := List.mem_map.1 ha
      exact hkid n hn b (by simp [hb]) e
    · intro a ha b hb e
      subst e
      rcases List.mem_append.1 hb with hb1 | hb1
      · obtain ⟨n, hn, rfl⟩ := List.mem_map.1 hb1
        refine hkid n hn _ ?_ rfl
        simp only [List.mem_append, List.mem_cons, List.not_mem_nil, or_false] at ha ⊢
        rcases ha with ha | ha
        · exact Or.inl ha
        · exact Or.inr (Or.inl ha)
      · rcases List.mem_append.1 ha with ha | ha
        · exact n3 a ha a (by simp [hb1]) rfl
        · simp at ha
          rw [ha] at hb1
          exact n2.1 hb1
  · intro r hr t ht hp
    rcases List.mem_append.1 hr with hr1 | hr1
    · obtain ⟨n, hn, rfl⟩ := List.mem_map.1 hr1
      rcases mem t ht with ht | ⟨m, hm, rfl⟩
      · exact absurd hp (hkp n hn t ht)
      · exact hp.eq_of_length (by simp)
    · rcases mem t ht with ht | ⟨m, hm, rfl⟩
      · exact h.pre r (by simp [hr1]) t ht hp
      · rcases prefix_snoc hp with e | e
        · exact e
        · have h2 := h.pre r (by simp [hr1]) s (by simp) e
          rw [h2] at hr1
          exact absurd hr1 n2.1
  · intro x hx
    rcases mem x hx with hx | ⟨n, hn, rfl⟩
    · exact h.good x hx
    · intro p hp
      rcases List.mem_append.1 hp with hp | hp
      · exact h.good s (by simp) p hp
      · simp at hp; subst hp; exact hg p hn
  · intro x hx hne
    rcases List.mem_append.1 hx with hx | hx
    · obtain ⟨n, hn, rfl⟩ := List.mem_map.1 hx
      simp
    · exact List.mem_append_left _ (h.par x (by simp [hx]) hne)
  · intro e; simp at e
  · intro _ hm
    rcases List.mem_append.1 hm with hm1 | hm1
    · obtain ⟨n, hn, e⟩ := List.mem_map.1 hm1
      simp at e
    · by_cases hO : O = []
      · have h2 := h.top hO s (by simp)
        rw [h2] at n2
        exact n2.1 hm1
      · exact h.low hO (by simp [hm1])
theorem shw_below {s : List Bt} {O : List (List Bt)} {b : Bool} (nm : Bt) (h1 : b = true ↔ s = []) : below (shw s) b nm = shw (s ++ [nm]) := by
  rw [shw_snoc]
  unfold below
  by_cases h : s = []
  · rw [if_pos (h1.2 h), if_pos h]
  · rw [if_neg (fun e => h (h1.1 e)), if_neg h]
theorem ents_nodup {g : List Nd} {es : List (Bt × Int)} (h : EntsOk g es) : (es.map (·.1)).Nodup :=
  List.Pairwise.map _ (fun a b hab e => by rw [e, less_irrefl] at hab; cases hab) h.rise
/-- the lines' paths -/
theorem tree_paths {g : List Nd} {root : Int} {ls : List Ln} (h : TreeOk g root ls) : ∃ O : List (List Bt), O.map shw = ls.map (·.path) ∧ O.Nodup ∧ (∀ x ∈ O, goods x) ∧ O.head? = some [] ∧
    ∀ a x b, O = a ++ x :: b → x ≠ [] → x.dropLast ∈ a := by
  obtain ⟨hc, ⟨n0, hn0, _⟩, st, hw, rfl⟩ := h
  obtain ⟨p, hp⟩ := hc.ok
  have := Wk.inv (I := fun s st => ∃ O S, O.map shw = st.out.map (·.path) ∧ S.map shw = s.map (·.2) ∧ PInv O S ∧ (O = [] → s ≠ []) ∧ (O ≠ [] → O.head? = some []) ∧ ∀ a x b, O = a ++ x :: b → x ≠ [] → x.dropLast ∈ a)
    (fun id path r st n hi hb hn => by
      obtain ⟨O, S, e1, e2, hI, h0, hh, hpar⟩ := hi
      cases S with
      | nil => simp at e2
      | cons s S =>
        simp only [List.map_cons, List.cons.injEq] at e2
        obtain ⟨rfl, e2⟩ := e2
        have hne := hp.ents n (nodeOf_mem hn).1
        have htop : st.out.isEmpty = true ↔ s = [] := by
          have hO : st.out = [] ↔ O = [] := by
            rw [← List.map_eq_nil_iff (f := fun l : Ln => l.path), ← e1, List.map_eq_nil_iff]
          rw [List.isEmpty_iff, hO]
          refine ⟨fun h => hI.top h s (by simp), fun h => Classical.byContradiction fun hn => hI.low hn ?_⟩
          subst h; simp
        refine ⟨O ++ [s], (n.ents.map (·.1)).map (fun m => s ++ [m]) ++ S, ?_, ?_, hI.step (ents_nodup hne) (fun m hm => ?_), by simp, fun _ => ?_, ?_⟩
        · simp [TS.next, mkLine, e1]
        · simp only [kids, List.map_append, List.map_map, e2]
          congr 1
          exact List.map_congr_left fun e he => (shw_below (O := O) e.1 htop).symm
        · obtain ⟨e, he, rfl⟩ := List.mem_map.1 hm
          exact hne.good e he
        · by_cases hO : O = []
          · subst hO
            simp [hI.top rfl s (by simp)]
          · rw [List.head?_append, hh hO]; rfl
        · intro a x b he hx
          rcases snoc_cases b with rfl | ⟨b, y, rfl⟩
          · obtain ⟨e3, e4⟩ := List.append_inj' he rfl
            simp only [List.cons.injEq, and_true] at e4
            subst e3; subst e4
            exact hI.par s (by simp) hx
          · have he' : O ++ [s] = (a ++ x :: b) ++ [y] := by simpa using he
            exact hpar a x b (List.append_inj' he' rfl).1 hx)
    hw ⟨[], [[]], rfl, rfl, ⟨by simp, by simp, by simp [goods], by simp, by simp, by simp⟩, by simp, by simp, by simp⟩ st rfl
  obtain ⟨O, S, e1, e2, hI, h0, hh, hpar⟩ := this
  cases S with
  | cons => simp at e2
  | nil =>
    have hO : O ≠ [] := fun e => by simpa using h0 e
    exact ⟨O, e1, by simpa using hI.nodup, fun x hx => hI.good x (by simp [hx]), hh hO, hpar⟩
/-- no path twice; the first is the dot; none lies straight below the dot -/
theorem tree_distinct {g : List Nd} {root : Int} {ls : List Ln} (h : TreeOk g root ls) : (ls.map (·.path)).Nodup ∧ (ls.map (·.path)).head? = some [46] ∧ ∀ l ∈ ls.drop 1, ∀ c, cutOf l.path = some c → l.path.take c ≠ [46] := by
  obtain ⟨O, e1, hn, hg, hh, hpar⟩ := tree_paths h
  refine ⟨?_, ?_, fun l hl c hc => ?_⟩
  · rw [← e1]
    refine List.pairwise_map.2 (List.Pairwise.imp_of_mem (fun {a b} ha hb hab e => hab ?_) hn)
    exact shw_inj _ (Nat.le_refl _) (hg a ha) (hg b hb) e
  · rw [← e1, List.head?_map, hh]; rfl
  · have hm : l.path ∈ O.map shw := by rw [e1]; exact List.mem_map.2 ⟨l, List.mem_of_mem_drop hl, rfl⟩
    obtain ⟨x, hx, ex⟩ := List.mem_map.1 hm
    rcases snoc_cases x with rfl | ⟨ps, nm, rfl⟩
    · rw [← ex] at hc
      simp [shw, cutOf] at hc
    · have hgx := hg _ hx
      have hc' := hc
      rw [← ex, cut_shw (hgx nm (by simp))] at hc
      split at hc
      · cases hc
      · rename_i hps
        cases hc
        rw [← ex, shw_snoc, if_neg hps, List.take_left]
        exact fun e => hps (shw_dot (fun p hp => hgx p (by simp [hp])) e)
end Gr
end Go.Proofs.Ytpdkdhcbibcifaa
