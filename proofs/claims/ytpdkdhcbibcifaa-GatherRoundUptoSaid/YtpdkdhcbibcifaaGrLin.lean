/-
  GrLin: the tree of entries, in plain lists; lines that are gathered come back.
-/
import Derived.Test.YtpdkdhcbibcifaaGrEn
import Derived.Lib.Strings
namespace Go.Proofs.Ytpdkdhcbibcifaa
namespace Gr
def trimS (p : Bt) : Bt := Lib.trimSuffix p [47]
/-- an entry as a line -/
def linOf (ks : List (Bt × Int)) (e : En) : Ln :=
  ⟨if e.kind = 2 then trimS e.name else e.name, if e.kind = 4 then (lastOf ks e.link).getD 0 else e.kind, e.mode, e.uid, e.gid, e.sec, e.nano, e.data, if e.kind = 3 then e.link else [], if e.kind = 4 then e.link else []⟩
def linesGo : List (Bt × Int) → List En → List Ln
  | _, [] => []
  | ks, e :: es => linOf ks e :: linesGo (ks ++ [((linOf ks e).path, (linOf ks e).kind)]) es
/-- the entries are those of a tree -/
def LinOk (es : List En) : Prop := Gath (linesGo [] es) ∧ (linesGo [] es).map entOf = es
theorem lastOf_snoc (ks : List (Bt × Int)) (p : Bt) (v : Int) (x : Bt) : lastOf (ks ++ [(p, v)]) x = if x = p then some v else lastOf ks x := by
  unfold lastOf
  rw [List.reverse_append]
  simp only [List.reverse_cons, List.reverse_nil, List.nil_append, List.singleton_append, List.lookup_cons]
  by_cases h : x = p
  · subst h; simp
  · rw [beq_f h, if_neg h]
theorem trimS_snoc (p : Bt) : trimS (p ++ [47]) = p := by
  have h : Lib.hasSuffix (p ++ [47]) [47] = true := by
    unfold Lib.hasSuffix
    rw [List.isSuffixOf_iff_suffix]
    exact ⟨p, rfl⟩
  unfold trimS Lib.trimSuffix
  rw [h]
  simp
theorem trimS_len (p : Bt) : (trimS p).length ≤ p.length := by
  unfold trimS Lib.trimSuffix
  split
  · rw [List.length_take]; omega
  · exact Nat.le_refl _
theorem linOf_len {ks : List (Bt × Int)} {e : En} {m : Nat} (h1 : e.name.length ≤ m) (h2 : e.link.length ≤ m) : (linOf ks e).path.length ≤ m ∧ (linOf ks e).peer.length ≤ m ∧ (linOf ks e).data = e.data := by
  have := trimS_len e.name
  unfold linOf
  refine ⟨?_, ?_, rfl⟩
  · simp only; split <;> omega
  · simp only; split
    · exact h2
    · simp
/-- a gathered line comes back -/
theorem linOf_entOf {ks : List (Bt × Int)} {l : Ln} (h : LineOk l) (hk : l.peer ≠ [] → lastOf ks l.peer = some l.kind) : linOf ks (entOf l) = l := by
  obtain ⟨path, kind, mode, uid, gid, sec, nano, data, target, peer⟩ := l
  have h1 := h.kind; have h2 := h.data; have h3 := h.targ; have h4 := h.pdat
  simp only at h1 h2 h3 h4 hk
  unfold linOf entOf
  by_cases hp : peer = []
  · subst hp
    simp only [ne_eq, not_true_eq_false, if_false]
    have h3' := h3 rfl
    unfold textOk at h3'
    by_cases hk2 : kind = 2
    · subst hk2
      simp at h3'
      simp [trimS_snoc, h2, h3']
    · by_cases hk3 : kind = 3
      · subst hk3
        simp [h2]
      · simp only [hk2, hk3, if_false] at h3' ⊢
        have hk4 : ¬ kind = 4 := by omega
        simp at h3'
        simp [hk2, hk3, hk4, h3']
  · obtain ⟨h5, h6⟩ := h4 hp
    simp [hp, hk hp, h5, h6]
theorem lines_back : ∀ (ls : List Ln) (ks : List (Bt × Int)), (∀ l ∈ ls, LineOk l) → PeersOk ks ls → (ks.map (·.1) ++ ls.map (·.path)).Nodup → linesGo ks (ls.map entOf) = ls
  | [], _, _, _, _ => rfl
  | l :: ls, ks, h1, h2, h3 => by
    have hl := h1 l (by simp)
    have hks : (ks.map (·.1)).Nodup := (List.nodup_append.1 h3).1
    have hlo : linOf ks (entOf l) = l := linOf_entOf hl (fun hne => by
      rw [lastOf_nodup hks]
      exact lookup_nodup hks (h2.1 hne))
    simp only [List.map_cons, linesGo, hlo]
    rw [lines_back ls (ks ++ [(l.path, l.kind)]) (fun m hm => h1 m (by simp [hm])) h2.2 (by simpa using h3)]
/-- what is gathered is read again -/
theorem gath_back {ls : List Ln} (h : Gath ls) : LinOk (ls.map entOf) ∧ linesGo [] (ls.map entOf) = ls := by
  obtain ⟨g, hg, ht⟩ := h.1
  obtain ⟨a, b⟩ := tree_lines ht
  have e := lines_back ls [] a b (by simpa using (tree_distinct ht).1)
  refine ⟨⟨?_, ?_⟩, e⟩
  · rw [e]; exact h
  · rw [e]
theorem linesGo_len : ∀ (es : List En) (ks : List (Bt × Int)), (linesGo ks es).length = es.length
  | [], _ => rfl
  | e :: es, ks => by simp only [linesGo, List.length_cons, linesGo_len es]
/-- a tree of two directories -/
def twoLines : List Ln := [⟨[46], 2, 0, 0, 0, 0, 0, [], [], []⟩, ⟨[100], 2, 0, 0, 0, 0, 0, [], [], []⟩]
def twoNodes : List Nd := [⟨1, 2, 0, 0, 0, 0, 0, [], [], [([100], 2)]⟩, ⟨2, 2, 0, 0, 0, 0, 0, [], [], []⟩]
theorem two_chk : Chk twoNodes := by
  refine ⟨by decide, ⟨by decide, by decide, by decide, ⟨by decide, by decide, by decide, trivial⟩⟩, by decide, [(2, 1)], by decide, fun id => ⟨2, ?_⟩⟩
  simp only [climb, List.lookup_cons, List.lookup_nil]
  by_cases h : id = 2
  · subst h; rfl
  · rw [beq_f h]
theorem two_tree : TreeOk twoNodes 1 twoLines := by
  refine ⟨two_chk, ⟨_, rfl, rfl⟩, _, Wk.step 1 [46] [] st0 ⟨1, 2, 0, 0, 0, 0, 0, [], [], [([100], 2)]⟩ _ (by decide) rfl (Wk.step 2 [100] [] _ ⟨2, 2, 0, 0, 0, 0, 0, [], [], []⟩ _ (by decide) rfl (Wk.done _)), rfl⟩
theorem two_gath : Gath twoLines := ⟨⟨twoNodes, rfl, two_tree⟩, by decide⟩
end Gr
end Go.Proofs.Ytpdkdhcbibcifaa
