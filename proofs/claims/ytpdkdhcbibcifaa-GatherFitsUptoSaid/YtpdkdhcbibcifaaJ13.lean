/-
  J13: RgDir, RgOne, RgEnts, RgEnt, RgLawE, RgRangeB, RgLawEach, joined.
-/
import Derived.Test.YtpdkdhcbibcifaaJ10
import Derived.Test.YtpdkdhcbibcifaaJ06
import Derived.Test.YtpdkdhcbibcifaaJ08
import Derived.Test.YtpdkdhcbibcifaaRgPlant
import Derived.LoopNIn
import Derived.Sort.CutIn
import Derived.Stop.RegionWithIn
namespace Go.Proofs.Ytpdkdhcbibcifaa
set_option linter.unusedVariables false
set_option linter.unusedSimpArgs false
namespace Gr
structure DInv (g : List Nd) (p : List (Int × Int)) (root : Int) (O S : List Int) : Prop where
  once : (O ++ S).Pairwise fun a b => isDir g a = true → a ≠ b
  par : ∀ x ∈ O ++ S, isDir g x = true → x ≠ root → ∃ u ∈ O, p.lookup x = some u
  up : ∀ x ∈ O ++ S, isDir g x = true → ∃ k, climb p k x = some root
theorem DInv.stay {g : List Nd} {p : List (Int × Int)} {root s : Int} {O S : List Int} (h : DInv g p root O (s :: S)) : DInv g p root (O ++ [s]) S :=
  ⟨by simpa using h.once, fun x hx hd hr => by
    obtain ⟨u, hu, e⟩ := h.par x (by simpa using hx) hd hr
    exact ⟨u, List.mem_append_left _ hu, e⟩, fun x hx => h.up x (by simpa using hx)⟩
theorem DInv.step {g : List Nd} {p : List (Int × Int)} {root : Int} {O S : List Int} {n : Nd} (hp : ChkOk g p) (h : DInv g p root O (n.id :: S)) (hn : nodeOf g n.id = some n) (hk : n.kind = 2) : DInv g p root (O ++ [n.id]) (n.ents.map (·.2) ++ S) := by
  have hng := (nodeOf_mem hn).1
  have hdn : isDir g n.id = true := by simp [isDir, hn, hk]
  obtain ⟨k0, hk0⟩ := h.up n.id (by simp) hdn
  have hnO : n.id ∉ O := fun hm => (List.pairwise_append.1 h.once).2.2 n.id hm n.id (by simp) hdn rfl
  have hnew : ∀ e ∈ n.ents, isDir g e.2 = true → e.2 ∉ O ++ n.id :: S := by
    intro e he hd hm
    have hl := hp.par n hng e he hd
    by_cases hr : e.2 = root
    · refine loop_not (p := p) (x := root) (k := k0) ?_ (hp.acy root)
      simp only [climb]
      rw [← hr, hl]
      simp only
      rw [hk0, hr]
    · obtain ⟨u, hu, e1⟩ := h.par e.2 hm hd hr
      rw [hl] at e1
      cases e1
      exact hnO hu
  have hst := h.stay
  have hon : (n.ents.map (·.2)).Pairwise fun a b => isDir g a = true → a ≠ b := by
    rw [List.pairwise_map]
    refine (hp.once n hng).imp fun {a b} hab hd e => hab hd (by rw [← e]; exact hd) e
  refine ⟨?_, ?_, ?_⟩
  · have h1 := List.pairwise_append.1 hst.once
    rw [List.pairwise_append]
    refine ⟨h1.1, ?_, ?_⟩
    · rw [List.pairwise_append]
      refine ⟨hon, h1.2.1, ?_⟩
      intro a ha b hb hd e
      obtain ⟨x, hx, rfl⟩ := List.mem_map.1 ha
      exact hnew x hx hd (by rw [e]; simp [hb])
    · intro a ha b hb hd e
      rcases List.mem_append.1 hb with hb | hb
      · obtain ⟨x, hx, rfl⟩ := List.mem_map.1 hb
        rw [e] at hd
        refine hnew x hx hd ?_
        rw [← e]
        rcases List.mem_append.1 ha with h3 | h3
        · simp [h3]
        · rw [List.mem_singleton] at h3; simp [h3]
      · exact h1.2.2 a ha b hb hd e
  · intro x hx hd hr
    have : x ∈ O ++ n.id :: S ∨ x ∈ n.ents.map (·.2) := by
      simp only [List.mem_append, List.mem_cons, List.not_mem_nil, or_false] at hx ⊢
      rcases hx with (hx | hx) | (hx | hx)
      · exact Or.inl (Or.inl hx)
      · exact Or.inl (Or.inr (Or.inl hx))
      · exact Or.inr hx
      · exact Or.inl (Or.inr (Or.inr hx))
    rcases this with hx | hx
    · obtain ⟨u, hu, e⟩ := h.par x hx hd hr
      exact ⟨u, List.mem_append_left _ hu, e⟩
    · obtain ⟨y, hy, rfl⟩ := List.mem_map.1 hx
      exact ⟨n.id, by simp, hp.par n hng y hy hd⟩
  · intro x hx hd
    have : x ∈ O ++ n.id :: S ∨ x ∈ n.ents.map (·.2) := by
      simp only [List.mem_append, List.mem_cons, List.not_mem_nil, or_false] at hx ⊢
      rcases hx with (hx | hx) | (hx | hx)
      · exact Or.inl (Or.inl hx)
      · exact Or.inl (Or.inr (Or.inl hx))
      · exact Or.inr hx
      · exact Or.inl (Or.inr (Or.inr hx))
    rcases this with hx | hx
    · exact h.up x hx hd
    · obtain ⟨y, hy, rfl⟩ := List.mem_map.1 hx
      refine ⟨k0 + 1, ?_⟩
      simp only [climb]
      rw [hp.par n hng y hy hd]
      exact hk0
theorem tree_nodir {g : List Nd} {root : Int} {ls : List Ln} (h : TreeOk g root ls) : ∀ l ∈ ls, l.peer ≠ [] → l.kind ≠ 2 := by
  obtain ⟨hc, ⟨n0, hn0, hk0⟩, st, hw, rfl⟩ := h
  obtain ⟨p, hp⟩ := hc.ok
  have hI := hc.2.1.inc
  have := Wk.inv (I := fun s st => ∃ O : List Int, DInv g p root O (s.map (·.1)) ∧ (∀ id q, st.first.lookup id = some q → id ∈ O) ∧ ∀ l ∈ st.out, l.peer ≠ [] → l.kind ≠ 2)
    (fun id path r st n hi hb hn => by
      obtain ⟨O, h1, h2, h3⟩ := hi
      obtain ⟨hng, hnid⟩ := nodeOf_mem hn
      subst hnid
      simp only [List.map_cons] at h1
      refine ⟨O ++ [n.id], ?_, ?_, ?_⟩
      · by_cases hk : n.kind = 2
        · have := h1.step hp hn hk
          have hkk : (kids n path st.out.isEmpty ++ r).map (·.1) = n.ents.map (·.2) ++ r.map (·.1) := by
            rw [List.map_append]; congr 1; unfold kids; rw [List.map_map]; rfl
          rw [hkk]
          exact this
        · have hs := hp.sound n hng
          simp only [sound, Bool.and_eq_true, decide_eq_true_eq, Bool.or_eq_true, hk, false_or] at hs
          have he : n.ents = [] := List.isEmpty_iff.1 hs.1.1.2
          simpa [kids, he] using h1.stay
      · intro i q hl
        unfold TS.next at hl
        simp only at hl
        split at hl
        · rw [List.lookup_append] at hl
          cases hq : st.first.lookup i with
          | some v => exact List.mem_append_left _ (h2 i v hq)
          | none =>
            rw [hq] at hl
            simp only [Option.none_or, List.lookup_cons] at hl
            by_cases hi : i = n.id
            · subst hi; simp
            · rw [beq_f hi] at hl; simp at hl
        · exact List.mem_append_left _ (h2 i q hl)
      · intro l hl hpe hk
        simp only [TS.next, List.mem_append, List.mem_singleton] at hl
        rcases hl with hl | rfl
        · exact h3 l hl hpe hk
        · simp only [mkLine] at hpe hk
          have hm : n.id ∈ O := by
            unfold TS.peer at hpe
            cases hq : st.first.lookup n.id with
            | none => rw [hq] at hpe; exact absurd rfl hpe
            | some q => exact h2 _ q hq
          have hdn : isDir g n.id = true := by simp [isDir, hn, hk]
          exact (List.pairwise_append.1 h1.once).2.2 n.id hm n.id (by simp) hdn rfl)
    hw ⟨[], ⟨by simp, by simp, fun x hx _ => by simp at hx; subst hx; exact ⟨0, rfl⟩⟩, by simp [st0], by simp [st0]⟩ st rfl
  obtain ⟨_, _, _, h⟩ := this
  exact h
/-! ### the reference's entry of a line -/
def entR (l : Ln) : En :=
  if l.peer ≠ [] then ⟨4, l.path, l.peer, l.mode, l.uid, l.gid, [], [], l.sec, l.nano, []⟩
  else ⟨l.kind, l.path ++ (if l.kind = 2 then [47] else []), l.target, l.mode, l.uid, l.gid, [], [], l.sec, l.nano, l.data⟩
theorem entR_ok {l : Ln} (h : LineOk l) : entR l = entOf l := by
  unfold entR entOf
  split
  · rfl
  · rename_i hp
    have hp' : l.peer = [] := Classical.not_not.1 hp
    have ht := h.targ hp'
    unfold textOk at ht
    by_cases h2 : l.kind = 2
    · have hd := h.data (by omega)
      rw [if_neg (by omega)] at ht
      have : l.target = [] := by simpa using ht
      simp [h2, hd, this]
    · rw [if_neg h2, if_neg h2]
      by_cases h3 : l.kind = 3
      · have hd := h.data (by omega)
        simp [h3, hd]
      · rw [if_neg h3] at ht
        have : l.target = [] := by simpa using ht
        simp [h3, this]
theorem entR_name {l : Ln} (h : l.peer ≠ [] → l.kind ≠ 2) : (entR l).name.length ≤ 4096 ↔ l.path.length ≤ room l := by
  unfold entR room
  by_cases hp : l.peer = []
  · by_cases hk : l.kind = 2 <;> simp [hp, hk] <;> omega
  · simp [hp, h hp]
theorem planted_facts {ls : List Ln} (h : Planted true ls) : (∀ l ∈ ls, LineOk l) ∧ (∀ l ∈ ls, l.peer ≠ [] → l.kind ≠ 2) := by
  obtain ⟨g, _, ht⟩ := h
  exact ⟨(tree_lines ht).1, tree_nodir ht⟩
theorem gath_ref {ls : List Ln} : Gath ls ↔ Planted true ls ∧ ∀ l ∈ ls, (entR l).name.length ≤ 4096 := by
  unfold Gath
  rw [← planted_same]
  constructor
  · rintro ⟨h1, h2⟩
    have hf := planted_facts h1
    exact ⟨h1, fun l hl => (entR_name (hf.2 l hl)).2 (h2 l hl)⟩
  · rintro ⟨h1, h2⟩
    have hf := planted_facts h1
    exact ⟨h1, fun l hl => (entR_name (hf.2 l hl)).1 (h2 l hl)⟩
theorem gath_entR {ls : List Ln} (h : Gath ls) : ls.map entR = ls.map entOf := by
  have hf := planted_facts (gath_ref.1 h).1
  exact List.map_congr_left fun l hl => entR_ok (hf.1 l hl)
/-! ### the reference's lines of entries -/
def linR (ks : List (Bt × Int)) (e : En) : Ln :=
  ⟨if e.kind = 2 ∧ e.name ≠ [] then e.name.dropLast else e.name, if e.kind = 4 then (lastOf ks e.link).getD 4 else e.kind, e.mode, e.uid, e.gid, e.sec, e.nano, e.data, if e.kind = 4 then [] else e.link, if e.kind = 4 then e.link else []⟩
def linesR : List (Bt × Int) → List En → List Ln
  | _, [] => []
  | ks, e :: es => linR ks e :: linesR (ks ++ [((linR ks e).path, (linR ks e).kind)]) es
theorem linesR_len : ∀ (es : List En) (ks : List (Bt × Int)), (linesR ks es).length = es.length
  | [], _ => rfl
  | e :: es, ks => by simp [linesR, linesR_len es]
theorem linR_entOf {ks : List (Bt × Int)} {l : Ln} (h : LineOk l) (hk : l.peer ≠ [] → lastOf ks l.peer = some l.kind) : linR ks (entOf l) = l := by
  obtain ⟨path, kind, mode, uid, gid, sec, nano, data, target, peer⟩ := l
  have h1 := h.path
  have h2 := h.kind
  have h5 := h.data
  have h6 := h.targ
  have h7 := h.pdat
  simp only at h1 h2 h5 h6 h7 hk
  unfold entOf
  by_cases hp : peer = []
  · subst hp
    have ht := h6 rfl
    unfold textOk at ht
    by_cases hk2 : kind = 2
    · subst hk2
      have := h5 (by decide)
      rw [if_neg (by decide)] at ht
      have ht' : target = [] := by simpa using ht
      simp [linR, this, ht']
    · by_cases hk3 : kind = 3
      · subst hk3
        have := h5 (by decide)
        simp [linR, this]
      · have hk1 : kind = 1 := by omega
        subst hk1
        rw [if_neg (by decide)] at ht
        have ht' : target = [] := by simpa using ht
        simp [linR, ht']
  · obtain ⟨hd, ht⟩ := h7 hp
    subst hd ht
    simp [linR, hp, hk hp]
theorem linesR_back : ∀ (ls : List Ln) (ks : List (Bt × Int)), (∀ l ∈ ls, LineOk l) → PeersOk ks ls → (ks.map (·.1) ++ ls.map (·.path)).Nodup → linesR ks (ls.map entOf) = ls
  | [], _, _, _, _ => rfl
  | l :: ls, ks, h1, h2, h3 => by
    have hk : l.peer ≠ [] → lastOf ks l.peer = some l.kind := fun hp => by
      have hnd : (ks.map (·.1)).Nodup := (List.nodup_append.1 h3).1
      rw [lastOf_nodup hnd]
      exact lookup_nodup hnd (h2.1 hp)
    have he := linR_entOf (h1 l (by simp)) hk
    simp only [List.map_cons, linesR, he]
    rw [linesR_back ls (ks ++ [(l.path, l.kind)]) (fun m hm => h1 m (by simp [hm])) h2.2 (by simpa using h3)]
theorem linesR_gath {ls : List Ln} (h : Gath ls) : linesR [] (ls.map entOf) = ls := by
  obtain ⟨⟨g, h1, h2⟩, _⟩ := h
  obtain ⟨h3, h4⟩ := tree_lines h2
  exact linesR_back ls [] h3 h4 (by simpa using (tree_distinct h2).1)
/-- what the reference accepts -/
def LinR (es : List En) : Prop := Gath (linesR [] es) ∧ (linesR [] es).map entR = es
theorem linR_iff {es : List En} : LinR es ↔ LinOk es := by
  constructor
  · rintro ⟨h1, h2⟩
    rw [gath_entR h1] at h2
    have := (gath_back h1).1
    rwa [h2] at this
  · rintro ⟨h1, h2⟩
    have h3 := linesR_gath h1
    rw [h2] at h3
    unfold LinR
    rw [h3]
    exact ⟨h1, by rw [gath_entR h1]; exact h2⟩
theorem linR_same {es : List En} (h : LinOk es) : linesR [] es = linesGo [] es := by
  have h3 := linesR_gath h.1
  rwa [h.2] at h3
end Gr
end Go.Proofs.Ytpdkdhcbibcifaa
namespace Go.Proofs.Ytpdkdhcbibcifaa
set_option linter.unusedVariables false
set_option linter.unusedSimpArgs false
open Go.ChangeShapes Go.WideShapes Go.ChangeAt Go.RowKit
namespace Gr
/-- an entry in its box, and the box of the result -/
structure Ex (w w' : World) (lb eb rb : Nat) (l : LnS) (e : En) (s : Sl) : Prop where
  bel : Below w.heap.size w w'
  lin : w'.heap[lb]? = some (.cells (lnV l) 51)
  row : w'.heap[eb]? = some (.cells (enV (e, s)) 39)
  res : w'.heap[rb]? = some (.cells enZ 39)
  own : Own w' w.heap.size s e.data
  ne : rb ≠ eb
  eb : w.heap.size ≤ eb
  rb : w.heap.size ≤ rb
section
variable {w w' w2 : World} {lb eb rb : Nat} {l : LnS} {e e' : En} {s s' : Sl}
theorem Ex.lne (h : Ex w w' lb eb rb l e s) : lb ≠ eb := by
  intro hh
  subst hh
  have h1 := h.lin
  rw [h.row] at h1
  simp only [Option.some.injEq, Obj.cells.injEq] at h1
  exact absurd h1.2.1 (by decide)
theorem Ex.set (h : Ex w w' lb eb rb l e s) (j : Nat) (v : Value) (he : (enV (e, s)).setIfInBounds j v = enV (e', s)) (hd : e'.data = e.data) : Ex w (w'.setCell ⟨eb, j, none⟩ v) lb eb rb l e' s := by
  have hr := setCell_row h.row (j := j) v
  rw [he] at hr
  exact ⟨h.bel.setCell (p := ⟨eb, j, none⟩) h.eb _, row_grown h.lin (setCell_grown w' eb j v) (fun e1 => h.lne (Option.some.inj e1)), hr, row_grown h.res (setCell_grown w' eb j v) (fun e1 => h.ne (Option.some.inj e1)), by rw [hd]; exact own_cell h.own h.row (by decide), h.ne, h.eb, h.rb⟩
theorem Ex.dat (h : Ex w w' lb eb rb l e s) (hb : Below w'.heap.size w' w2) {x : Bt} (ho : Own w2 w'.heap.size s' x) (he : (enV (e, s)).setIfInBounds 10 (.slice s'.1 s'.2.1 s'.2.2) = enV (e', s')) (hd : e'.data = x) : Ex w (w2.setCell ⟨eb, 10, none⟩ (.slice s'.1 s'.2.1 s'.2.2)) lb eb rb l e' s' := by
  have h2 := row_below h.row hb
  have hr := setCell_row h2 (j := 10) (.slice s'.1 s'.2.1 s'.2.2)
  rw [he] at hr
  exact ⟨(h.bel.trans (hb.mono h.bel.size)).setCell (p := ⟨eb, 10, none⟩) h.eb _, row_grown (row_below h.lin hb) (setCell_grown w2 eb 10 _) (fun e1 => h.lne (Option.some.inj e1)), hr, row_grown (row_below h.res hb) (setCell_grown w2 eb 10 _) (fun e1 => h.ne (Option.some.inj e1)), by rw [hd]; exact own_base (own_cell ho h2 (by decide)) h.bel.size, h.ne, h.eb, h.rb⟩
end
theorem Ex.start (w : World) (l : LnS) (e : En) (he : e.data = []) : Ex w (((w.alloc (.cells (lnV l) 51)).alloc (.cells enZ 39)).alloc (.cells (enV (e, (none, 0, 0))) 39)) w.heap.size (w.heap.size + 2) (w.heap.size + 1) l e (none, 0, 0) := by
  have e1 : (w.alloc (.cells (lnV l) 51)).heap.size = w.heap.size + 1 := by simp
  have e2 : ((w.alloc (.cells (lnV l) 51)).alloc (.cells enZ 39)).heap.size = w.heap.size + 2 := by simp
  have h0 := heap_alloc_new w (.cells (lnV l) 51)
  have h1 := heap_alloc_new (w.alloc (.cells (lnV l) 51)) (.cells enZ 39)
  have h2 := heap_alloc_new ((w.alloc (.cells (lnV l) 51)).alloc (.cells enZ 39)) (.cells (enV (e, (none, 0, 0))) 39)
  rw [e1] at h1
  rw [e2] at h2
  refine ⟨(((Below.refl _ _).alloc (Nat.le_refl _) _).alloc (by simp) _).alloc (by simp; omega) _, ?_, h2, ?_, by rw [he]; exact World.ownsRow_nil _ _ _ _, by omega, by omega, by omega⟩
  · rw [heap_alloc_old _ _ (by simp; omega), heap_alloc_old _ _ (by simp)]; exact h0
  · rw [heap_alloc_old _ _ (by simp)]; exact h1
def OneRes (w : World) (l : Ln) (r : Ending) (w' : World) : Prop := ∃ s : Sl, r = .returned (.agg (enV (entR l, s))) ∧ Below w.heap.size w w' ∧ Own w' w.heap.size s (entR l).data
/-- the end: the box is handed on -/
theorem Ex.res_ok {w w' : World} {lb eb rb : Nat} {l : LnS} {e : En} {s : Sl} (h : Ex w w' lb eb rb l e s) (he : e = entR l.1) : OneRes w l.1 (.returned (.agg (enV (e, s)))) (w'.setRow rb (enV (e, s))) := by
  subst he
  exact ⟨s, rfl, Below.setRow h.bel h.rb _, setRow_own h.own h.res (by decide)⟩
set_option maxRecDepth 100000 in
set_option maxHeartbeats 4000000 in
theorem ROne_any (x : LnS) (w : World) (hd : Dat w x.2 x.1.data) (hn : x.2.2.1 ≤ 140737488355328) (hp : x.1.path.length ≤ 2000000) :
    Calls Try.prog 26 #[.agg (lnV x)] w (OneRes w x.1) := by
  have HD := Lib.hid hd; have HN := Lib.hid hn
  clear hd hn
  obtain ⟨⟨path, kind, mode, uid, gid, sec, nano, data, target, peer⟩, ⟨da, dn, dc⟩⟩ := x
  simp only at hp HN
  simp only [lnV]
  go_enter Try.func26, Try.ntmps26
  go_upto_region 2 with fail
  have HE := Lib.hid (Ex.start w (⟨path, kind, mode, uid, gid, sec, nano, data, target, peer⟩, (da, dn, dc)) ⟨0, path, [], mode, uid, gid, [], [], sec, nano, []⟩ rfl)
  simp only [lnV, enV, enZ] at HE
  have hcat : ((⟨path.toArray⟩ : ByteArray) ++ ⟨#[47]⟩) = ⟨(path ++ [47]).toArray⟩ := by apply ByteArray.ext; simp [ByteArray.data_append]
  have hsz : (⟨path.toArray⟩ : ByteArray).size = path.length := rfl
  generalize ((w.alloc (.cells #[.string ⟨path.toArray⟩, .int .i64 kind, .int .i64 mode, .int .i64 uid, .int .i64 gid, .int .i64 sec, .int .i64 nano, .slice da dn dc, .string ⟨target.toArray⟩, .string ⟨peer.toArray⟩] 51)).alloc _).alloc _ = w3 at *
  generalize heb : w.heap.size + 1 + 1 = eb at *
  generalize hrb : w.heap.size + 1 = rb at *
  have c9 : w3.cell? ⟨w.heap.size, 9, none⟩ = some (.string ⟨peer.toArray⟩) := by rw [row_cell HE.out.lin]; rfl
  by_cases hpe : peer = []
  · subst hpe
    have HEN : Hid (entR ⟨path, kind, mode, uid, gid, sec, nano, data, target, []⟩ = ⟨kind, path ++ (if kind = 2 then [47] else []), target, mode, uid, gid, [], [], sec, nano, data⟩) := Lib.hid (by simp [entR])
    go_upto_region 6 with fail
    clear c9
    have HE1 := Lib.hid (HE.out.set (e' := ⟨kind, path, [], mode, uid, gid, [], [], sec, nano, []⟩) 0 (.int .i64 kind) rfl rfl)
    have c1 : w3.cell? ⟨w.heap.size, 1, none⟩ = some (.int .i64 kind) := by rw [row_cell HE.out.lin]; rfl
    have d0 : w3.cell? ⟨eb, 0, none⟩ = some (.int .i64 0) := by rw [row_cell HE.out.row]; rfl
    have d0f : w3.frozen? ⟨eb, 0, none⟩ = false := row_froz HE.out.row 0
    go_upto_region 7 with fail
    clear c1 d0 d0f HE
    generalize w3.setCell ⟨eb, 0, none⟩ (.int .i64 kind) = w4 at *
    have HE2 := Lib.hid (HE1.out.set (e' := ⟨kind, path, target, mode, uid, gid, [], [], sec, nano, []⟩) 2 (.string ⟨target.toArray⟩) rfl rfl)
    have c1 : w4.cell? ⟨w.heap.size, 8, none⟩ = some (.string ⟨target.toArray⟩) := by rw [row_cell HE1.out.lin]; rfl
    have d0 : w4.cell? ⟨eb, 2, none⟩ = some (.string ⟨#[]⟩) := by rw [row_cell HE1.out.row]; rfl
    have d0f : w4.frozen? ⟨eb, 2, none⟩ = false := row_froz HE1.out.row 2
    go_upto_region 8 with fail
    clear c1 d0 d0f HE1
    generalize w4.setCell ⟨eb, 2, none⟩ (.string ⟨target.toArray⟩) = w5 at *
    have HDA : Hid (Dat w5 (da, dn, dc) data) := Lib.hid (Below.bs HE2.out.bel HD.out)
    have c1 : w5.cell? ⟨w.heap.size, 7, none⟩ = some (.slice da dn dc) := by rw [row_cell HE2.out.lin]; rfl
    go_upto_region 9 with (go_at_call 42; (refine (CopyBytes_any da dn dc data w5 HDA.out HN.out).mono ?_); rintro r w6 ⟨a5, n5, c5, rfl, ho5, hb5⟩; have HO5 : Hid (Own w6 w5.heap.size (a5, n5, c5) data) := Lib.hid ho5; have HB5 := Lib.hid hb5; have R25 := Lib.hid (row_below HE2.out.row HB5.out); have d1 : w6.cell? ⟨eb, 10, none⟩ = some (.slice none 0 0) := (by rw [row_cell R25.out]; rfl); have d1f : w6.frozen? ⟨eb, 10, none⟩ = false := row_froz R25.out 10; clear ho5 hb5)
    have HE3 := Lib.hid (HE2.out.dat (s' := (a5, n5, c5)) (e' := ⟨kind, path, target, mode, uid, gid, [], [], sec, nano, data⟩) HB5.out HO5.out rfl rfl)
    clear c1 d1 d1f HE2 HB5 HO5 R25
    generalize w6.setCell ⟨eb, 10, none⟩ (.slice a5 n5 c5) = w7 at *
    have c1 : w7.cell? ⟨w.heap.size, 1, none⟩ = some (.int .i64 kind) := by rw [row_cell HE3.out.lin]; rfl
    by_cases hk2 : kind = 2
    · subst hk2
      have d1 : w7.cell? ⟨eb, 1, none⟩ = some (.string ⟨path.toArray⟩) := by rw [row_cell HE3.out.row]; rfl
      have d1f : w7.frozen? ⟨eb, 1, none⟩ = false := row_froz HE3.out.row 1
      have HF := Lib.hid (HE3.out.set (e' := ⟨2, path ++ [47], target, mode, uid, gid, [], [], sec, nano, data⟩) 1 (.string ⟨(path ++ [47]).toArray⟩) rfl rfl)
      go_upto_region 11 with (rw [hcat])
      clear c1 d1 d1f HE3
      generalize w7.setCell ⟨eb, 1, none⟩ (.string ⟨(path ++ [47]).toArray⟩) = w8 at *
      go_wp2_with (first | (refine wpList_load_rowA rfl _ _ rfl eb rfl (enV (⟨2, path ++ [47], target, mode, uid, gid, [], [], sec, nano, data⟩, (a5, n5, c5))) 39 _ HF.out.row Try.underlying39 rfl (sizeEn _) ?_) | (refine wpList_store_row rfl _ _ _ rfl rb rfl (enV (⟨2, path ++ [47], target, mode, uid, gid, [], [], sec, nano, data⟩, (a5, n5, c5))) rfl enZ 39 HF.out.res rfl (sizeEn _) (by simpa [enCells] using en_one [(⟨2, path ++ [47], target, mode, uid, gid, [], [], sec, nano, data⟩, (a5, n5, c5))]) ?_))
      refine bodyPost_ret (results_cell_row rfl _ _ rb 39 _ (0, 0) _ rfl (setRow_heap _ _ _ _ _ _ HF.out.res) Try.underlying39 rfl (sizeEn _)) rfl ?_
      exact HF.out.res_ok HEN.out.symm
    · have hkb : (kind == 2) = false := beq_f hk2
      have HF := HE3
      rw [if_neg hk2, List.append_nil] at HEN
      clear hk2
      go_wp2_with (first | (refine wpList_load_rowA rfl _ _ rfl eb rfl (enV (⟨kind, path, target, mode, uid, gid, [], [], sec, nano, data⟩, (a5, n5, c5))) 39 _ HF.out.row Try.underlying39 rfl (sizeEn _) ?_) | (refine wpList_store_row rfl _ _ _ rfl rb rfl (enV (⟨kind, path, target, mode, uid, gid, [], [], sec, nano, data⟩, (a5, n5, c5))) rfl enZ 39 HF.out.res rfl (sizeEn _) (by simpa [enCells] using en_one [(⟨kind, path, target, mode, uid, gid, [], [], sec, nano, data⟩, (a5, n5, c5))]) ?_))
      refine bodyPost_ret (results_cell_row rfl _ _ rb 39 _ (0, 0) _ rfl (setRow_heap _ _ _ _ _ _ HF.out.res) Try.underlying39 rfl (sizeEn _)) rfl ?_
      exact HF.out.res_ok HEN.out.symm
  · have hpb : (peer != []) = true := bne_t hpe
    have hpc : peer.isEmpty = false := by simpa using hpe
    have HEN : Hid (entR ⟨path, kind, mode, uid, gid, sec, nano, data, target, peer⟩ = ⟨4, path, peer, mode, uid, gid, [], [], sec, nano, []⟩) := Lib.hid (by simp [entR, hpe])
    clear hpe
    go_upto_region 3 with fail
    have HE1 := Lib.hid (HE.out.set (e' := ⟨4, path, [], mode, uid, gid, [], [], sec, nano, []⟩) 0 (.int .i64 4) rfl rfl)
    have d0 : w3.cell? ⟨eb, 0, none⟩ = some (.int .i64 0) := by rw [row_cell HE.out.row]; rfl
    have d0f : w3.frozen? ⟨eb, 0, none⟩ = false := row_froz HE.out.row 0
    go_upto_region 4 with fail
    clear c9 d0 d0f HE
    generalize w3.setCell ⟨eb, 0, none⟩ (.int .i64 4) = w4 at *
    have HF := Lib.hid (HE1.out.set (e' := ⟨4, path, peer, mode, uid, gid, [], [], sec, nano, []⟩) 2 (.string ⟨peer.toArray⟩) rfl rfl)
    have c1 : w4.cell? ⟨w.heap.size, 9, none⟩ = some (.string ⟨peer.toArray⟩) := by rw [row_cell HE1.out.lin]; rfl
    have d0 : w4.cell? ⟨eb, 2, none⟩ = some (.string ⟨#[]⟩) := by rw [row_cell HE1.out.row]; rfl
    have d0f : w4.frozen? ⟨eb, 2, none⟩ = false := row_froz HE1.out.row 2
    go_upto_region 5 with fail
    clear c1 d0 d0f HE1
    generalize w4.setCell ⟨eb, 2, none⟩ (.string ⟨peer.toArray⟩) = w5 at *
    go_wp2_with (first | (refine wpList_load_rowA rfl _ _ rfl eb rfl (enV (⟨4, path, peer, mode, uid, gid, [], [], sec, nano, []⟩, (none, 0, 0))) 39 _ HF.out.row Try.underlying39 rfl (sizeEn _) ?_) | (refine wpList_store_row rfl _ _ _ rfl rb rfl (enV (⟨4, path, peer, mode, uid, gid, [], [], sec, nano, []⟩, (none, 0, 0))) rfl enZ 39 HF.out.res rfl (sizeEn _) (by simpa [enCells] using en_one [(⟨4, path, peer, mode, uid, gid, [], [], sec, nano, []⟩, (none, 0, 0))]) ?_))
    refine bodyPost_ret (results_cell_row rfl _ _ rb 39 _ (0, 0) _ rfl (setRow_heap _ _ _ _ _ _ HF.out.res) Try.underlying39 rfl (sizeEn _)) rfl ?_
    exact HF.out.res_ok HEN.out.symm
end Gr
end Go.Proofs.Ytpdkdhcbibcifaa
namespace Go.Proofs.Ytpdkdhcbibcifaa
set_option linter.unusedVariables false
set_option linter.unusedSimpArgs false
open Go.ChangeShapes Go.WideShapes Go.ChangeAt Go.RowKit
namespace Gr
theorem EntriesRes.no {w w' : World} {ls : List Ln} (code : Int) (hb : Below w.heap.size w w') (h0 : ¬ Gath ls) (hc : code = 160 ∧ ¬ Planted false ls ∨ code = 93 ∧ Planted false ls) : EntriesRes w ls (.returned (.tuple #[.slice none 0 0, .int .i64 code])) w' := by
  refine ⟨none, 0, 0, code, [], rfl, hb, NewEn.nil _ _, ?_, ?_, ?_, ?_, fun _ => rfl⟩
  · constructor
    · intro e; rcases hc with ⟨h, _⟩ | ⟨h, _⟩ <;> omega
    · exact fun h => absurd h h0
  · rcases hc with ⟨h, hp⟩ | ⟨h, hp⟩
    · exact ⟨fun _ => hp, fun _ => h⟩
    · exact ⟨fun e => by omega, fun e => absurd hp e⟩
  · rcases hc with ⟨h, _⟩ | ⟨h, _⟩
    · exact Or.inr (Or.inl h)
    · exact Or.inr (Or.inr h)
  · intro e; rcases hc with ⟨h, _⟩ | ⟨h, _⟩ <;> omega
set_option maxRecDepth 100000 in
set_option maxHeartbeats 4000000 in
theorem REntries_of (a : Option Addr) (n c : Nat) (T : List LnS) (w : World) (hL : Lns w a n c T) (hN : LnNum T)
    (hPL : Calls Try.prog 25 #[.slice a n c] w (PlantRes w (lOf T))) :
    Calls Try.prog 12 #[.slice a n c] w (EntriesRes w (lOf T)) := by
  have HL := Lib.hid hL; have HN := Lib.hid hN; have HPL := Lib.hid hPL
  have hl := hL.len
  have hn2 := hN.num
  rw [hl] at hn2
  have hcap := hL.cap; have hmax := hL.max
  have HLE := Lib.hid hl
  clear hL hN hl hPL
  go_enter Try.func12, Try.ntmps12
  go_upto_region 2 with (go_at_call 25; (refine (HPL.out).mono ?_); rintro r w1 ⟨ga, gn, gc, code, rfl, hb1, hcode⟩; have HB1 := Lib.hid hb1; have HCO := Lib.hid hcode; clear hb1 hcode)
  have HBX : Hid (Below w.heap.size w (w1.alloc (.cells #[.slice ga gn gc] 43))) := Lib.hid (HB1.out.alloc HB1.out.size _)
  by_cases hc : code = 0
  · subst hc
    have HPT := Lib.hid (HCO.out.1 rfl)
    have HPR : Hid (Planted true (lOf T)) := Lib.hid ((planted_same _).2 HPT.out)
    clear HCO HPL HB1
    generalize w1.alloc (.cells #[.slice ga gn gc] 43) = w2 at *
    go_wp2
    have HB2 := Lib.hid (HBX.out.alloc HBX.out.size (.cells #[] 39))
    have HN0 : Hid (NewEn (w2.alloc (.cells #[] 39)) w.heap.size (some ⟨w2.heap.size, 0, none⟩) 0 0 []) := Lib.hid ⟨World.ownsRow_lit (base := w.heap.size) (e := 39) (size := 11) w2 #[] 0 HBX.out.size (by decide) rfl, by simp, List.Pairwise.nil⟩
    clear HBX
    go_loopw [6, 7] (fun v i wr => ∃ (k : Nat) (a1 : Option Addr) (c1 : Nat) (S1 : List EnS), k ≤ n ∧ i = .int .i64 k ∧ v = .slice a1 k c1 ∧ Hid (NewEn wr w.heap.size a1 k c1 S1) ∧ Hid (S1.map (·.1) = ((lOf T).take k).map entR) ∧ Hid (∀ l ∈ (lOf T).take k, (entR l).name.length ≤ 4096) ∧ Hid (Below w.heap.size w wr)) (fun _ i _ => n - (intOf i).toNat)
    case atStart => exact ⟨0, _, 0, [], Nat.zero_le _, rfl, rfl, HN0, Lib.hid (by simp), Lib.hid (by simp), HB2⟩
    case round =>
      clear HN0 HB2
      obtain ⟨k, a1, c1, S1, hk, rfl, rfl, hI, hM, hE, hB⟩ := hrel
      by_cases hlt : k < n
      · obtain ⟨x, hxk⟩ := get_some (S := T) (k := k) (by have := HLE.out; omega)
        have hLw := HL.out.below hB.out
        obtain ⟨b, off, rfl, hr⟩ := hLw.at k x hxk
        have hdk := hLw.dat x (mem_get hxk)
        have hx2 := HN.out.dat x (mem_get hxk)
        have hx3 := (HN.out.str x (mem_get hxk)).1
        have HTK : Hid ((lOf T).take (k + 1) = (lOf T).take k ++ [x.1]) := Lib.hid (by
          have hg := mapfst_get hxk
          obtain ⟨h1, h2⟩ := List.getElem?_eq_some_iff.1 hg
          rw [List.take_succ_eq_append_getElem h1, h2])
        have HMT : Hid (x.1 ∈ lOf T) := Lib.hid (List.mem_map.2 ⟨x, mem_get hxk, rfl⟩)
        have HR := Lib.hid hr
        have hone := ROne_any x wr hdk hx2 hx3
        unfold OneRes at hone
        obtain ⟨e, he⟩ : ∃ e, e = entR x.1 := ⟨_, rfl⟩
        rw [← he] at hone
        have HE := Lib.hid he
        obtain ⟨kd, name, link, mode, uid, gid, user, group, sec, nano, data⟩ := e
        simp only [enV] at hone
        have HONE := Lib.hid hone
        have HNS : Hid ((⟨name.toArray⟩ : ByteArray).size = name.length) := Lib.hid rfl
        clear hr hdk hx2 hxk hLw hone he
        go_upto_region 9 with (first
          | (refine wpList_load_midA rfl _ _ rfl b (off + k * 10) rfl (lnV x) _ (by exact HR.out) Try.underlying51 rfl (by exact sizeL2 x) ?_)
          | (go_at_call 26; (refine HONE.out.mono ?_); rintro r w3 ⟨⟨sa, sn, sc⟩, rfl, hb3, ho3⟩; have HO3 := Lib.hid ho3; have HB3 := Lib.hid hb3; clear ho3 hb3))
        have hrow := heap_alloc_new w3 (.cells #[.int .i64 kd, .string ⟨name.toArray⟩, .string ⟨link.toArray⟩, .int .i64 mode, .int .i64 uid, .int .i64 gid, .string ⟨user.toArray⟩, .string ⟨group.toArray⟩, .int .i64 sec, .int .i64 nano, .slice sa sn sc] 39)
        have hb4 : Below wr.heap.size wr (w3.alloc (.cells #[.int .i64 kd, .string ⟨name.toArray⟩, .string ⟨link.toArray⟩, .int .i64 mode, .int .i64 uid, .int .i64 gid, .string ⟨user.toArray⟩, .string ⟨group.toArray⟩, .int .i64 sec, .int .i64 nano, .slice sa sn sc] 39)) := HB3.out.alloc HB3.out.size _
        have ho4 := own_keep (w' := w3.alloc (.cells #[.int .i64 kd, .string ⟨name.toArray⟩, .string ⟨link.toArray⟩, .int .i64 mode, .int .i64 uid, .int .i64 gid, .string ⟨user.toArray⟩, .string ⟨group.toArray⟩, .int .i64 sec, .int .i64 nano, .slice sa sn sc] 39) ) HO3.out (fun j _ hj => heap_alloc_old _ _ hj)
        have HRW : Hid ((w3.alloc (.cells #[.int .i64 kd, .string ⟨name.toArray⟩, .string ⟨link.toArray⟩, .int .i64 mode, .int .i64 uid, .int .i64 gid, .string ⟨user.toArray⟩, .string ⟨group.toArray⟩, .int .i64 sec, .int .i64 nano, .slice sa sn sc] 39)).heap[w3.heap.size]? = some (.cells (enV (⟨kd, name, link, mode, uid, gid, user, group, sec, nano, data⟩, (sa, sn, sc))) 39)) := Lib.hid hrow
        have HB4 := Lib.hid hb4
        have HO4 : Hid (Own _ wr.heap.size (sa, sn, sc) data) := Lib.hid ho4
        clear hrow hb4 ho4 HB3 HO3 HONE
        generalize hbn : w3.heap.size = bn at *
        generalize w3.alloc (.cells #[.int .i64 kd, .string ⟨name.toArray⟩, .string ⟨link.toArray⟩, .int .i64 mode, .int .i64 uid, .int .i64 gid, .string ⟨user.toArray⟩, .string ⟨group.toArray⟩, .int .i64 sec, .int .i64 nano, .slice sa sn sc] 39) = w4 at *
        have d1 : w4.cell? ⟨bn, 1, none⟩ = some (.string ⟨name.toArray⟩) := by rw [row_cell HRW.out]; rfl
        have hsz : (⟨name.toArray⟩ : ByteArray).size = name.length := rfl
        by_cases hlen : 4096 < name.length
        · have HNG : Hid (¬ Gath (lOf T)) := Lib.hid (fun h => by
            have := (gath_ref.1 h).2 _ HMT.out
            rw [← HE.out] at this
            simp only at this
            omega)
          go_wp2
          go_ret2
          exact EntriesRes.no 93 (hB.out.trans (HB4.out.mono hB.out.size)) HNG.out (Or.inr ⟨rfl, HPT.out⟩)
        · have HEK : Hid (∀ l ∈ (lOf T).take (k + 1), (entR l).name.length ≤ 4096) := Lib.hid (fun l hl => by
            rw [HTK.out] at hl
            rcases List.mem_append.1 hl with hl | hl
            · exact hE.out l hl
            · rw [List.mem_singleton] at hl
              rw [hl, ← HE.out]
              simp only
              omega)
          have HOW := Lib.hid (own_keep (w' := w4.alloc (.cells (enV (⟨kd, name, link, mode, uid, gid, user, group, sec, nano, data⟩, (sa, sn, sc))) 39)) hI.out.own fun j _ hj => by rw [heap_alloc_old _ _ (Nat.lt_of_lt_of_le hj HB4.out.size)]; exact HB4.out.block j hj)
          have HSZ : Hid (w.heap.size ≤ (w4.alloc (.cells (enV (⟨kd, name, link, mode, uid, gid, user, group, sec, nano, data⟩, (sa, sn, sc))) 39)).heap.size) := Lib.hid (by have := hB.out.size; have := HB4.out.size; simp; omega)
          go_wp2_with (first
            | (refine wpList_load_rowA rfl _ _ rfl bn rfl (enV (⟨kd, name, link, mode, uid, gid, user, group, sec, nano, data⟩, (sa, sn, sc))) 39 _ HRW.out Try.underlying39 rfl (sizeEn _) ?_)
            | (with_reducible refine wpList_slice_one rfl 25 _ rfl Try.underlying25 (enV (⟨kd, name, link, mode, uid, gid, user, group, sec, nano, data⟩, (sa, sn, sc))) (infoEn2 _) (enZ_sz _) (enV_pos _) (enV_lim _) rfl ?_)
            | (at_builtin; refine wpList_app rfl _ _ 25 rfl w.heap.size 39 _ 11 136 Try.underlying25 infoEntry rfl (by decide) (by decide) rfl HOW.out rfl (en_new w4 (⟨kd, name, link, mode, uid, gid, user, group, sec, nano, data⟩, (sa, sn, sc))) (en_one [(⟨kd, name, link, mode, uid, gid, user, group, sec, nano, data⟩, (sa, sn, sc))]) (by omega) HSZ.out ?_; intro a5 c5 w5 ho5 hg5))
          have hN := hI.out.app hB.out.size HO4.out HB4.out hg5 ho5
          refine ⟨⟨k + 1, a5, c5, _, by omega, by go_num, rfl, Lib.hid hN, Lib.hid (by rw [List.map_append, hM.out, HTK.out, List.map_append, List.map_singleton, List.map_singleton, ← HE.out]), HEK, Lib.hid ?_⟩, by simp [intOf]; omega⟩
          exact (((hB.out.trans (HB4.out.mono hB.out.size)).alloc (by have := hB.out.size; have := HB4.out.size; omega) _).grown hg5 HSZ.out (fun j hj => (HOW.out.lt j hj).1))
      · obtain rfl : k = n := by omega
        have hm := hM.out
        have he := hE.out
        rw [List.take_of_length_le (by rw [List.length_map]; have := HLE.out; omega)] at hm he
        have HG : Hid (Gath (lOf T)) := Lib.hid (gath_ref.2 ⟨HPR.out, he⟩)
        rw [gath_entR HG.out] at hm
        have HM := Lib.hid hm
        clear hm he
        go_wp2
        go_ret2
        refine ⟨a1, k, c1, 0, S1, rfl, hB.out, hI.out, ⟨fun _ => HG.out, fun _ => rfl⟩, ⟨fun e => absurd e (by decide), fun e => absurd HPT.out e⟩, Or.inl rfl, fun _ => HM.out, fun e => absurd rfl e⟩
  · have hne : (code != 0) = true := bne_t hc
    have HNP : Hid (¬ Planted false (lOf T)) := Lib.hid (fun h => hc (HCO.out.2 h))
    clear hc HCO
    go_wp2
    go_ret2
    exact EntriesRes.no 160 HBX.out (fun h => HNP.out h.1) (Or.inl ⟨rfl, HNP.out⟩)
end Gr
end Go.Proofs.Ytpdkdhcbibcifaa
namespace Go.Proofs.Ytpdkdhcbibcifaa
set_option linter.unusedVariables false
set_option linter.unusedSimpArgs false
open Go.ChangeShapes Go.WideShapes Go.ChangeAt Go.RowKit
namespace Gr
theorem REntries_any (a : Option Addr) (n c : Nat) (T : List LnS) (w : World) (hL : Lns w a n c T) (hN : LnNum T) (hTg : ∀ x ∈ T, x.1.target.length ≤ 2000000) :
    Calls Try.prog 12 #[.slice a n c] w (EntriesRes w (lOf T)) :=
  REntries_of a n c T w hL hN (RPlant_any a n c T w hL hN hTg)
end Gr
end Go.Proofs.Ytpdkdhcbibcifaa
namespace Go.Proofs.Ytpdkdhcbibcifaa
set_option linter.unusedVariables false
set_option linter.unusedSimpArgs false
open Go.ChangeShapes Go.WideShapes Go.ChangeAt Go.RowKit
namespace Gr
theorem lns_tg {m : Nat} {S : List LnS} (h : LnsSm m (lOf S)) (hm : m ≤ 1900000 := by decide) : ∀ x ∈ S, x.1.target.length ≤ 2000000 := fun x hx => by
  have := (h.2 x.1 (List.mem_map.2 ⟨x, hx, rfl⟩)).2.2.2
  omega
theorem lns_num {w : World} {a : Option Addr} {n c m : Nat} {S : List LnS} {LS : List Ln} (h : Lns w a n c S) (hm : S.map (·.1) = LS) (hs : LnsSm m LS) (hm2 : m ≤ 1900000 := by decide) : LnNum S :=
  lnNum_of h hm hs.1 (fun l hl => ⟨(hs.2 l hl).1, (hs.2 l hl).2.1, (hs.2 l hl).2.2.1⟩) hm2
/-- two calls that leave EntriesRes of the same lines say the same -/
structure EntsOut (w' : World) (B : Nat) (ls : List Ln) (a : Option Addr) (n c : Nat) (code : Int) (S : List EnS) : Prop where
  new : NewEn w' B a n c S
  ok : code = 0 ↔ Gath ls
  bad : code = 160 ↔ ¬ Planted false ls
  codes : code = 0 ∨ code = 160 ∨ code = 93
  yes : code = 0 → S.map (·.1) = ls.map entOf
  no : code ≠ 0 → S = []
theorem EntsOut.same {w1 w2 : World} {B1 B2 : Nat} {ls : List Ln} {a1 a2 : Option Addr} {n1 n2 c1 c2 : Nat} {k1 k2 : Int} {S1 S2 : List EnS} (h1 : EntsOut w1 B1 ls a1 n1 c1 k1 S1) (h2 : EntsOut w2 B2 ls a2 n2 c2 k2 S2) : k1 = k2 ∧ S1.map (·.1) = S2.map (·.1) := by
  have hk : k1 = k2 := by
    rcases h1.codes with e | e | e <;> rcases h2.codes with e' | e' | e'
    · omega
    · exact absurd (h1.ok.1 e).1 (h2.bad.1 e')
    · have := h2.ok.2 (h1.ok.1 e); omega
    · exact absurd (h2.ok.1 e').1 (h1.bad.1 e)
    · omega
    · have := h2.bad.2 (h1.bad.1 e); omega
    · have := h1.ok.2 (h2.ok.1 e'); omega
    · have := h1.bad.2 (h2.bad.1 e'); omega
    · omega
  refine ⟨hk, ?_⟩
  by_cases h0 : k1 = 0
  · rw [h1.yes h0, h2.yes (by omega)]
  · rw [h1.no h0, h2.no (by omega)]
set_option maxRecDepth 100000 in
set_option maxHeartbeats 4000000 in
theorem GatherEntries_walk (a0 : Option Addr) (n0 c0 : Nat) (S0 : List LnS) (w : World) (h0 : Lns w a0 n0 c0 S0) (hs0 : LnsSm 1048576 (lOf S0)) :
    Calls Try.prog 3 #[.slice a0 n0 c0] w fun r w' => r = .returned (.bool true) ∧ Below w.heap.size w w' := by
  have hl0 := h0.len
  have hn0 : n0 ≤ 2000000 := by have := hs0.1; rw [List.length_map] at this; omega
  have hd0 : ∀ x ∈ S0, x.2.2.1 ≤ 140737488355328 := fun x hx => by
    have e1 := (h0.dat x hx).len
    have e2 := (hs0.2 x.1 (List.mem_map.2 ⟨x, hx, rfl⟩)).1
    omega
  have HL0 := Lib.hid hs0
  go_enter Try.func3, Try.ntmps3
  go_upto_region 6 with (first
    | (go_at_call 9; (refine (alive_any w).mono ?_); rintro r w1 ⟨rfl, hb1⟩; have HB1 := Lib.hid hb1; clear hb1)
    | (go_at_call 10; (refine (CopyLs_any a0 n0 c0 S0 w1 (h0.below HB1.out) (by omega) hd0).mono ?_); rintro r w2 ⟨a2, n2, c2, S2, rfl, hn2, hm2, hb2⟩; have HN2 := Lib.hid hn2; have HM2 := Lib.hid hm2; have HB2 := Lib.hid (HB1.out.trans (hb2.mono HB1.out.size)); clear hn2 hm2 hb2)
    | (go_at_call 11; (refine (Entries_any a2 n2 c2 S2 w2 HN2.out.lns (lns_num HN2.out.lns HM2.out HL0.out)).mono ?_); rintro r w3 ⟨a3, n3, c3, k3, S3, rfl, hb3, hn3, hc3, hd3, he3, hf3, hg3⟩; have HO3 := Lib.hid (EntsOut.mk hn3 hc3 hd3 he3 hf3 hg3); have HB3 := Lib.hid (HB2.out.trans (hb3.mono HB2.out.size)); have HB23 := Lib.hid hb3; clear hb3 hn3 hc3 hd3 he3 hf3 hg3)
    | (go_at_call 12; (refine (REntries_any a0 n0 c0 S0 w3 (h0.below HB3.out) (lns_num (h0.below HB3.out) rfl HL0.out) (lns_tg HL0.out)).mono ?_); rintro r w4 ⟨a4, n4, c4, k4, S4, rfl, hb4, hn4, hc4, hd4, he4, hf4, hg4⟩; have HO4 := Lib.hid (EntsOut.mk hn4 hc4 hd4 he4 hf4 hg4); have HB4 := Lib.hid (HB3.out.trans (hb4.mono HB3.out.size)); have HB34 := Lib.hid hb4; clear hb4 hn4 hc4 hd4 he4 hf4 hg4))
  have ho3 := HO3.out
  have hlo2 : lOf S2 = lOf S0 := HM2.out
  rw [hlo2] at ho3
  obtain ⟨rfl, hss⟩ := ho3.same HO4.out
  have HSE := Lib.hid (SameEs_yes a3 a4 n3 n4 c3 c4 S3 S4 w4 (HO3.out.new.below HB34.out).ens HO4.out.new.ens hss)
  have HSL := Lib.hid (fun w5 (hb : Below w4.heap.size w4 w5) => SameLs_yes a2 a0 n2 n0 c2 c0 S2 S0 w5 (((HN2.out.lns.below HB23.out).below HB34.out).below hb) ((h0.below HB4.out).below hb) HM2.out)
  clear ho3 hss hlo2
  go_wp2_with (first
    | (go_at_call 13; (refine (HSE.out).mono ?_); rintro r w5 ⟨rfl, hb5⟩; have HB5 := Lib.hid hb5; clear hb5)
    | (go_at_call 14; (refine (HSL.out _ HB5.out).mono ?_); rintro r w6 ⟨rfl, hb6⟩; have HB6 := Lib.hid hb6; clear hb6))
  go_ret
  exact ⟨rfl, Below.seq (Below.seq HB4.out HB5.out) HB6.out⟩
end Gr
end Go.Proofs.Ytpdkdhcbibcifaa
namespace Go.Proofs.Ytpdkdhcbibcifaa
set_option linter.unusedVariables false
set_option linter.unusedSimpArgs false
open Go.ChangeShapes Go.WideShapes Go.ChangeAt Go.RowKit Go.Shelf
namespace Gr
theorem wpIn_rangeEB {P : Program} {n : Nat} {g : Operand} {p q : Tmp} {assign body : Code} {bk : Nat} {K : Act → World → Prop} {Q' : Exit → Act → World → Prop} {a : Act} {w : World} (h1 : 1 ≤ n)
    {gf : Nat} {lb : Array Value} (hg : a.eval g = .func (.func gf) #[] lb) (eg : ∀ args w, (callFunc gf args).run P w = .ok (.enter gf args) w)
    {S Sp : List EnS → Prop} {N n₀ : Nat} (hseq : SeqE (n - 1) P gf lb S Sp N n₀ w) (hn₀ : n₀ ≤ w.heap.size)
    (I Ix : List EnS → World → Prop)
    (hI : ∀ s U V, I s U → Below U.heap.size U V → I s V) (hI2 : OwnFrom w.heap.size I) (hIx : OwnFrom w.heap.size Ix)
    (h0 : I [] w)
    (hassign : ∀ (l : Nat) (pre : List EnS) (x : EnS) (W : World), I pre W →
      assign.wpIn (Fence.wide.inRound l) (n - 1 - 1) P (Exit.then (fun a₁ w₁ => Below W.heap.size W w₁ ∧ ∃ bx, w₁.heap[bx]? = some (.cells (enV x) 39) ∧ a₁ = { tmps := (a.tmps.setIfInBounds p (.agg (enV x))).setIfInBounds q (.pointer (some ⟨bx, 0, none⟩)), defers := [] }) (fun _ _ _ => False)) { tmps := a.tmps.setIfInBounds p (.agg (enV x)), defers := [] } W)
    (hbody : ∀ (l : Nat) (pre : List EnS) (x : EnS) (bx : Nat) (W0 W1 : World), pre.length < N → I pre W0 → I pre W1 → Own W1 W0.heap.size x.2 x.1.data → W0.heap.size ≤ W1.heap.size → W1.heap[bx]? = some (.cells (enV x) 39) →
      body.wpIn (Fence.wide.inRound l) (n - 1 - 1) P (ownPostK (Below n₀) I (fun c s W => c = Code.exit bk ∧ Ix s W) (pre ++ [x]) W1) { tmps := (a.tmps.setIfInBounds p (.agg (enV x))).setIfInBounds q (.pointer (some ⟨bx, 0, none⟩)), defers := [] } W1)
    (hend : ∀ (D : Nat) (xs : List EnS) (W : World), w.heap.size ≤ D → (S xs ∧ I xs W ∨ Sp xs ∧ Ix xs W) → W.heap[D]? = some (.deferred (some [])) → K { a with defers := { target := .collected D, args := #[] } :: a.defers } W) :
    (Code.rangeFunc g #[p] assign body).wpIn Fence.wide n P (Exit.inBlock bk (Exit.then K Q')) a w := by
  refine wpIn_rangeE h1 hg eg hseq hn₀ I (fun c s W => c = Code.exit bk ∧ Ix s W) (fun x a₁ U => ∃ bx, U.heap[bx]? = some (.cells (enV x) 39) ∧ a₁ = { tmps := (a.tmps.setIfInBounds p (.agg (enV x))).setIfInBounds q (.pointer (some ⟨bx, 0, none⟩)), defers := [] }) hI hI2 ?_ ?_ h0 hassign ?_ ?_ ?_
  · rintro c s U V row ⟨hc, h⟩ hg' hr
    exact ⟨hc, hIx s U V row h hg' hr⟩
  · rintro x a₁ U l o o' hl ⟨bx, h1, h2⟩
    exact ⟨bx, by rw [World.putObj_heap_other (fun e => by first | (rw [← e, hl] at h1; cases h1) | (rw [e, hl] at h1; cases h1))]; exact h1, h2⟩
  · rintro l pre x a₁ W0 W1 hlen hi0 hi1 hown hsz ⟨bx, hbx, rfl⟩
    exact hbody l pre x bx W0 W1 hlen hi0 hi1 hown hsz hbx
  · intro D xs W hD hS hi hk
    exact hend D xs W hD (Or.inl ⟨hS, hi⟩) hk
  · rintro D c pre W hD hSp ⟨rfl, hix⟩ hk
    refine wpIn_exit ?_
    show Exit.inBlock bk (Exit.then K Q') (.exit bk) _ _
    simp only [Exit.inBlock, if_true]
    exact hend D pre W hD (Or.inr ⟨hSp, hix⟩) hk
end Gr
end Go.Proofs.Ytpdkdhcbibcifaa
namespace Go.Proofs.Ytpdkdhcbibcifaa
set_option linter.unusedVariables false
set_option linter.unusedSimpArgs false
open Go.ChangeShapes Go.WideShapes Go.ChangeAt Go.RowKit Go.Shelf
attribute [local go_sem] Oper.semAt_some
namespace Gr
/-- the boxes at a round; the blocks of the rounds' deferred calls lie as they were made -/
structure EB (w3 W : World) (RB : Nat) (rd : Int) (a3 : Option Addr) (n3 c3 : Nat) (ds : List Nat) : Prop where
  bel : Below w3.heap.size w3 W
  lin : W.heap[w3.heap.size]? = some (.cells #[.slice a3 n3 c3] 22)
  rnd : W.heap[RB]? = some (.cells #[.int .i64 rd] 3)
  rb : w3.heap.size ≤ RB
  dfr : ∀ d ∈ ds, W.heap[d]? = some (.deferred (some []))
theorem EB.below {w3 W W' : World} {RB : Nat} {rd : Int} {a3 : Option Addr} {n3 c3 : Nat} {ds : List Nat} (h : EB w3 W RB rd a3 n3 c3 ds) (k : Below W.heap.size W W') : EB w3 W' RB rd a3 n3 c3 ds :=
  ⟨h.bel.trans (k.mono h.bel.size), row_below h.lin k, row_below h.rnd k, h.rb, fun d hd => row_below (h.dfr d hd) k⟩
theorem EB.grown {w3 W W' : World} {RB : Nat} {rd : Int} {a3 : Option Addr} {n3 c3 : Nat} {ds : List Nat} (h : EB w3 W RB rd a3 n3 c3 ds) {row : Option Nat} (hg : W.grownBy W' row) (hb : ∀ k, row = some k → w3.heap.size ≤ k) (h1 : some w3.heap.size ≠ row) (h2 : some RB ≠ row)
    (h3 : ∀ d ∈ ds, some d ≠ row) : EB w3 W' RB rd a3 n3 c3 ds :=
  ⟨h.bel.grown hg h.bel.size hb, row_grown h.lin hg h1, row_grown h.rnd hg h2, h.rb, fun d hd => row_grown (h.dfr d hd) hg (h3 d hd)⟩
theorem EB.nrow {w3 W : World} {RB : Nat} {rd : Int} {a3 : Option Addr} {n3 c3 : Nat} {ds : List Nat} (h : EB w3 W RB rd a3 n3 c3 ds) {row : Option Nat} (hr : ∀ k, row = some k → ∃ cs t, W.heap[k]? = some (.cells cs t)) : ∀ d ∈ ds, some d ≠ row := fun d hd e => by
  obtain ⟨cs, t, hc⟩ := hr d e.symm
  rw [h.dfr d hd] at hc; cases hc
/-- what was got -/
def GotE (w3 W : World) (GB : Nat) (pre : List EnS) : Prop := ∃ (a' : Option Addr) (c' : Nat), W.heap[GB]? = some (.cells #[.slice a' pre.length c'] 25) ∧ NewEn W w3.heap.size a' pre.length c' pre
theorem GotE.below {w3 W W' : World} {GB : Nat} {pre : List EnS} (h : GotE w3 W GB pre) (k : Below W.heap.size W W') : GotE w3 W' GB pre := by
  obtain ⟨a', c', h1, h2⟩ := h
  exact ⟨a', c', row_below h1 k, h2.below k⟩
/-- turned blocks that are no cells -/
theorem eb_own {w3 : World} {base RB GB : Nat} {rd : Int} {a3 : Option Addr} {n3 c3 : Nat} {ds : List Nat} (hb : w3.heap.size ≤ base) (hds : ∀ d ∈ ds, d < base) (X : List EnS → Prop) : OwnFrom base (fun pre W => EB w3 W RB rd a3 n3 c3 ds ∧ GotE w3 W GB pre ∧ X pre) := by
  rintro s U V row ⟨h1, ⟨a', c', h2, h3⟩, h4⟩ hg hr
  have no : ∀ {b : Nat} {cs : Array Value} {t : TypeId}, U.heap[b]? = some (.cells cs t) → some b ≠ row := fun hbb e => by
    obtain ⟨_, o, ho, hc⟩ := hr _ e.symm
    rw [hbb] at ho; cases ho; cases hc
  refine ⟨h1.grown hg (fun k e => by have := (hr k e).1; omega) (no h1.lin) (no h1.rnd) (fun d hd e => by have := (hr d e.symm).1; have := hds d hd; omega), ⟨a', c', row_grown h2 hg (no h2), h3.grown hg (fun r e cs => ?_)⟩, h4⟩
  obtain ⟨_, o, ho, hc⟩ := hr r e
  constructor <;> (intro h; rw [h] at ho; cases ho; cases hc)
/-- a statement that runs to its end: what follows an early exit is not asked -/
theorem wpIn_noexit {F : Fence} {rm : Nat} {P : Program} {s : Code} {K : Act → World → Prop} {Q' : Exit → Act → World → Prop} {a : Act} {w : World} (h : s.wpIn F rm P (Exit.then K (fun _ _ _ => False)) a w) : s.wpIn F rm P (Exit.then K Q') a w := by
  refine wpIn_mono h ?_
  intro e a' w' hq
  cases e with
  | normal => exact hq
  | exit id => exact hq.elim
  | goto l => exact hq.elim
  | ret => exact hq.elim
  | panic ch => exact hq.elim
  | outgrown => exact hq.elim
theorem undef_bool {b : Bool} (h : some undef = some (Value.bool b)) : False := by cases h
theorem ens_take {w : World} {a : Option Addr} {n c m : Nat} {S : List EnS} (h : Ens w a n c S) (hm : m ≤ n) : Ens w a m c (S.take m) := by
  have hl := h.len
  refine ⟨?_, fun x hx => h.dat x (List.mem_of_mem_take hx)⟩
  obtain ⟨h1, h2, h3, h4, h5⟩ := h.sl
  have hm1 : min m S.length = m := by omega
  have hfl : ((S.take m).flatMap enCells).length = m * 11 := by rw [flat_len enCells_len, List.length_take, hm1]
  have hflat : (S.take m).flatMap enCells = (S.flatMap enCells).take (m * 11) := by
    have h9 : S.flatMap enCells = (S.take m).flatMap enCells ++ (S.drop m).flatMap enCells := by
      rw [← List.flatMap_append, List.take_append_drop]
    rw [h9, List.take_append_of_le_length (Nat.le_of_eq hfl.symm), List.take_of_length_le (Nat.le_of_eq hfl)]
  refine ⟨hfl, by omega, h3, fun j v hj => h4 j v ?_, fun ha => ?_⟩
  · rw [hflat, List.getElem?_take] at hj
    split at hj
    · exact hj
    · cases hj
  · obtain ⟨e1, e2⟩ := h5 ha
    subst e1
    exact ⟨by omega, e2⟩
def goesOn (ls : List Ln) (rd stop : Int) (pre : List EnS) : Prop := Gath ls → rd = 0 → 0 < stop → (pre.length : Int) < stop
def stopped (ls : List Ln) (rd stop : Int) (pre : List EnS) : Prop := Gath ls → rd = 0 ∧ 0 < stop ∧ (pre.length : Int) = stop
set_option maxRecDepth 100000 in
set_option maxHeartbeats 4000000 in
theorem GatherEach_walk (a0 : Option Addr) (n0 c0 : Nat) (S0 : List LnS) (stop : Int) (w : World) (h0 : Lns w a0 n0 c0 S0) (hs0 : LnsSm 1048576 (lOf S0)) :
    Calls Try.prog 4 #[.slice a0 n0 c0, .int .i64 stop] w fun r w' => r = .returned (.bool true) ∧ Below w.heap.size w w' := by
  have hl0 := h0.len
  have hn0 : n0 ≤ 2000000 := by have := hs0.1; rw [List.length_map] at this; omega
  have hd0 : ∀ x ∈ S0, x.2.2.1 ≤ 140737488355328 := fun x hx => by
    have e1 := (h0.dat x hx).len
    have e2 := (hs0.2 x.1 (List.mem_map.2 ⟨x, hx, rfl⟩)).1
    omega
  have HL0 := Lib.hid hs0
  refine (callsIn_wide (n := 8)).1 ?_
  refine callsIn_of_wp_marks Try.func4 rfl trivial ?_ rfl
  simp only [Try.ntmps4, List.size_toArray, List.length_cons, List.length_nil, Nat.reduceAdd, Nat.reduceSub, Array.replicate_succ, Array.replicate_zero, List.push_toArray, List.append_toArray, List.nil_append, List.cons_append]
  gi_wp2_with (first
    | (refine ⟨trivial, ?_⟩; gi_at_call 9; refine (callsIn_wide.2 (alive_any _)).mono ?_; rintro r w1 ⟨rfl, hb1⟩; have HB1 := Lib.hid hb1; clear hb1)
    | (refine ⟨trivial, ?_⟩; gi_at_call 12; refine (callsIn_wide.2 (REntries_any a0 n0 c0 S0 w1 (h0.below (Below.seq ((Below.refl w.heap.size w).alloc (Nat.le_refl _) (.cells #[.int .i64 stop] 3)) HB1.out)) (lns_num h0 rfl HL0.out) (lns_tg HL0.out))).mono ?_; rintro r w2 ⟨a2, n2, c2, k2, S2, rfl, hb2, hn2, hc2, hd2, he2, hf2, hg2⟩; have HO2 := Lib.hid (EntsOut.mk hn2 hc2 hd2 he2 hf2 hg2); have HB2 := Lib.hid hb2; clear hb2 hn2 hc2 hd2 he2 hf2 hg2; have HB2X : Hid (Below w.heap.size w w2) := Lib.hid (Below.seq (Below.seq ((Below.refl w.heap.size w).alloc (Nat.le_refl _) (.cells #[.int .i64 stop] 3)) HB1.out) HB2.out); have HB2Y : Hid (Below w.heap.size w (w2.alloc (.cells #[.slice a2 n2 c2] 25))) := Lib.hid (HB2X.out.alloc HB2X.out.size _))
    | (refine ⟨trivial, ?_⟩; gi_at_call 10; refine (callsIn_wide.2 (CopyLs_any a0 n0 c0 S0 _ (h0.below HB2Y.out) (by omega) hd0)).mono ?_; rintro r w3 ⟨a3, n3, c3, S3, rfl, hn3, hm3, hb3⟩; have HN3 := Lib.hid hn3; have HM3 := Lib.hid hm3; have HB3 := Lib.hid hb3; clear hn3 hm3 hb3)
    | (refine ⟨trivial, ?_⟩; gi_at_call 15; refine (callsIn_wide.2 (Each_any a3 n3 c3 _)).mono ?_; rintro r w4 ⟨rfl, rfl⟩))
  have he1 : (w3.alloc (.cells #[.slice a3 n3 c3] 22)).heap.size = w3.heap.size + 1 := by simp
  have hEB : EB w3 ((w3.alloc (.cells #[.slice a3 n3 c3] 22)).alloc (.cells #[.int .i64 0] 3)) (w3.heap.size + 1) 0 a3 n3 c3 [] := by
    have h0' := heap_alloc_new w3 (.cells #[.slice a3 n3 c3] 22)
    have h1' := heap_alloc_new (w3.alloc (.cells #[.slice a3 n3 c3] 22)) (.cells #[.int .i64 0] 3)
    rw [he1] at h1'
    exact ⟨((Below.refl _ _).alloc (Nat.le_refl _) _).alloc (by simp) _, by rw [heap_alloc_old _ _ (by simp)]; exact h0', h1', by omega, fun d hd => by cases hd⟩
  have HEB := Lib.hid hEB
  have HB3X : Hid (Below w.heap.size w w3) := Lib.hid (Below.seq HB2Y.out HB3.out)
  have hstop : w3.cell? ⟨w.heap.size, 0, none⟩ = some (.int .i64 stop) := Below.keeps (Below.seq (Below.seq (Below.seq HB1.out HB2.out) ((Below.refl _ _).alloc (Nat.le_refl _) _)) HB3.out) _ _ (box_cell (Below.refl _ _) 0 rfl)
  have hwant : w3.cell? ⟨w2.heap.size, 0, none⟩ = some (.slice a2 n2 c2) := Below.keeps HB3.out _ _ (by rw [World.cell?_alloc_new]; rfl)
  have HST := Lib.hid hstop; have HWA := Lib.hid hwant
  generalize (w3.alloc (.cells #[.slice a3 n3 c3] 22)).alloc (.cells #[.int .i64 0] 3) = W0 at *
  generalize hRB : w3.heap.size + 1 = RB at *
  clear hEB he1 hstop hwant
  refine wpIn_loop_rounds 3 ?_
  rw [roundsIn_succ]
  have c8 : W0.cell? ⟨RB, 0, none⟩ = some (.int .i64 0) := by rw [row_cell HEB.out.rnd]; rfl
  gi_wp2
  have HW1 : Hid (Below W0.heap.size W0 ((W0.alloc (.cells #[] 39)).alloc (.cells #[.slice (some ⟨W0.heap.size, 0, none⟩) 0 0] 25))) := Lib.hid (((Below.refl _ _).alloc (Nat.le_refl _) _).alloc (by simp) _)
  have HEB1 := Lib.hid (HEB.out.below HW1.out)
  have HG1 : Hid (GotE w3 ((W0.alloc (.cells #[] 39)).alloc (.cells #[.slice (some ⟨W0.heap.size, 0, none⟩) 0 0] 25)) (W0.heap.size + 1) []) := Lib.hid (by
    have e1 : (W0.alloc (.cells #[] 39)).heap.size = W0.heap.size + 1 := by simp
    have h1 := heap_alloc_new (W0.alloc (.cells #[] 39)) (.cells #[.slice (some ⟨W0.heap.size, 0, none⟩) 0 0] 25)
    rw [e1] at h1
    have h2 := World.ownsRow_lit (base := w3.heap.size) (e := 39) (size := 11) W0 #[] 0 HEB.out.bel.size (by decide) rfl
    exact ⟨_, _, h1, h2.alloc _, by simp, List.Pairwise.nil⟩)
  have hgb : w3.heap.size ≤ W0.heap.size := HEB.out.bel.size
  generalize (W0.alloc (.cells #[] 39)).alloc (.cells #[.slice (some ⟨W0.heap.size, 0, none⟩) 0 0] 25) = W1 at *
  generalize hGB : W0.heap.size + 1 = GB at *
  have hcl : W1.cell? ⟨w3.heap.size, 0, none⟩ = some (.slice a3 n3 c3) := by rw [row_cell HEB1.out.lin]; rfl
  have hlo : lOf S3 = lOf S0 := HM3.out
  have hnum : LnNum S3 := lns_num HN3.out.lns HM3.out HL0.out
  have hgw : GB < W1.heap.size := by obtain ⟨_, _, h, _⟩ := HG1.out; exact row_lt h
  have hRBl : RB < W0.heap.size := row_lt HEB.out.rnd
  have hn3 : n3 ≤ 2000000 := by have := hnum.num; have h2 := HN3.out.len; omega
  have HDS : Hid (∀ d ∈ ([] : List Nat), d < W1.heap.size) := Lib.hid (fun d hd => by cases hd)
  refine wpIn_rangeEB (q := 10) (by decide) (gf := 29) (lb := #[.pointer (some ⟨w3.heap.size, 0, none⟩)]) rfl (enters_of Try.func29 (by kernel_rfl) rfl)
    (each1_stops 7 (by decide) w3.heap.size a3 n3 c3 S3 w3 W1 hcl HN3.out.lns hnum HEB1.out.bel) HEB1.out.bel.size
    (fun pre W => EB w3 W RB 0 a3 n3 c3 [] ∧ GotE w3 W GB pre ∧ goesOn (lOf S3) 0 stop pre)
    (fun pre W => EB w3 W RB 0 a3 n3 c3 [] ∧ GotE w3 W GB pre ∧ stopped (lOf S3) 0 stop pre)
    ?hI (eb_own HEB1.out.bel.size HDS.out _) (eb_own HEB1.out.bel.size HDS.out _) ⟨HEB1.out, HG1.out, fun _ _ h => by simpa using h⟩ ?assign ?body ?hend
  case hI =>
    rintro s U V ⟨h1, h2, h3⟩ hb
    exact ⟨h1.below hb, h2.below hb, h3⟩
  case assign =>
    rintro l pre x W _
    simp only [List.setIfInBounds_toArray, List.set_cons_zero, List.set_cons_succ]
    gi_wp2_with (refine wpListIn_store_row rfl _ _ _ rfl W.heap.size rfl (enV x) rfl enZ 39 (heap_alloc_new W _) rfl (sizeEn _) (by simpa [enCells] using en_one [x]) ?_)
    refine ⟨?_, W.heap.size, ?_, rfl⟩
    · rw [setRow_alloc]; exact (Below.refl _ _).alloc (Nat.le_refl _) _
    · rw [setRow_alloc]; exact heap_alloc_new W _
  case body =>
    rintro l pre x bx W2 W3 hlen ⟨e0, ⟨ga, gc, _, g0⟩, s0⟩ ⟨e1, ⟨a', c', h1, h2⟩, s1⟩ hown hsz hbx
    simp only [List.setIfInBounds_toArray, List.set_cons_zero, List.set_cons_succ]
    have hc1 : W3.cell? ⟨GB, 0, none⟩ = some (.slice a' pre.length c') := by rw [row_cell h1]; rfl
    have HOW := Lib.hid (own_keep (w' := W3.alloc (.cells (enV x) 39)) h2.own (fun j _ hj => by rw [heap_alloc_old _ _ hj]))
    have HBS : Hid (w3.heap.size ≤ (W3.alloc (.cells (enV x) 39)).heap.size) := Lib.hid (by have := e1.bel.size; simp; omega)
    have HLN : Hid ((pre.length + 1) * 136 ≤ 140737488355328) := Lib.hid (by omega)
    have HFIN : Hid (∀ a7 c7 w7, w7.ownsRow w3.heap.size 39 11 (.slice a7 (pre.length + 1) c7) (pre.length + 1) (pre.flatMap enCells ++ [x].flatMap enCells) → (W3.alloc (.cells (enV x) 39)).grownBy w7 (Value.slice a' pre.length c').ownBlock →
        w7.cell? ⟨GB, 0, none⟩ = some (.slice a' pre.length c') ∧ w7.frozen? ⟨GB, 0, none⟩ = false ∧ Hid (Below w3.heap.size W3 (w7.setCell ⟨GB, 0, none⟩ (.slice a7 (pre.length + 1) c7))) ∧ Hid (KeepsOthers W3 (w7.setCell ⟨GB, 0, none⟩ (.slice a7 (pre.length + 1) c7))) ∧
        Hid (EB w3 (w7.setCell ⟨GB, 0, none⟩ (.slice a7 (pre.length + 1) c7)) RB 0 a3 n3 c3 []) ∧ Hid (GotE w3 (w7.setCell ⟨GB, 0, none⟩ (.slice a7 (pre.length + 1) c7)) GB (pre ++ [x])) ∧ (w7.setCell ⟨GB, 0, none⟩ (.slice a7 (pre.length + 1) c7)).cell? ⟨GB, 0, none⟩ = some (.slice a7 (pre.length + 1) c7)) := Lib.hid (fun a7 c7 w7 ho7 hg7 => by
      have hA : Below W3.heap.size W3 (W3.alloc (.cells (enV x) 39)) := (Below.refl _ _).alloc (Nat.le_refl _) _
      have hr1 := row_below h1 hA
      have h2A := h2.below hA
      have e1A := e1.below hA
      have hr7 := row_grown hr1 hg7 (fun e => own_ne_row h2A.own hr1 (by decide) e.symm)
      have e7 := e1A.grown hg7 (fun k e => (h2A.own.lt k e).1) (fun e => own_ne_row h2A.own e1A.lin (by decide) e.symm) (fun e => own_ne_row h2A.own e1A.rnd (by decide) e.symm) (e1A.nrow (fun k hk => by obtain ⟨cur, hc⟩ := own_row h2A.own hk; exact ⟨_, _, hc⟩))
      have hsn := NewEn.snoc (a' := a7) (c' := c7) g0 h2 hown e0.bel.size h1 (by decide) (by decide) hg7 ho7
      have hbf : Below w3.heap.size W3 (w7.setCell ⟨GB, 0, none⟩ (.slice a7 (pre.length + 1) c7)) := (((Below.refl w3.heap.size W3).alloc e1.bel.size _).grown hg7 (by have := e1.bel.size; simp; omega) (fun k hk => (h2A.own.lt k hk).1)).setCell (p := ⟨GB, 0, none⟩) (by simp only; omega) _
      refine ⟨by rw [row_cell hr7]; rfl, row_froz hr7 0, Lib.hid hbf, Lib.hid ?_, Lib.hid ?_, Lib.hid ⟨_, _, hsn.2, hsn.1⟩, ?_⟩
      · refine ((KeepsOthers.alloc W3 _).trans (KeepsOthers.of_grownBy hg7 (fun j o hj ho => ?_))).trans (KeepsOthers.setCell _ _ _)
        obtain ⟨cur, hc⟩ := own_row h2A.own hj
        rw [hc] at ho; cases ho; rfl
      · exact e7.grown (setCell_grown w7 GB 0 _) (fun k e => by cases e; omega) (by simp only [ne_eq, Option.some.injEq]; omega) (by simp only [ne_eq, Option.some.injEq]; omega) (e7.nrow (fun k hk => by cases hk; exact ⟨_, _, hr7⟩))
      · rw [row_cell (setCell_row hr7 (.slice a7 (pre.length + 1) c7))]; rfl)
    have HBX := Lib.hid hbx; have HS1 := Lib.hid s1; have HE1 := Lib.hid e1
    clear hbx h1 h2 e0 e1 g0 s0 s1 hown hsz
    gi_upto_region 12 with (first
      | (refine wpListIn_load_rowA rfl _ _ rfl bx rfl (enV x) 39 _ HBX.out Try.underlying39 rfl (sizeEn _) ?_)
      | (refine wpListIn_slice_one rfl 25 _ rfl Try.underlying25 (enV x) (infoEn2 x) rfl (by show 0 < 11; decide) (by show 11 ≤ _; decide) rfl ?_)
      | (gi_at_builtin; refine wpListIn_app rfl _ _ 25 rfl w3.heap.size 39 _ 11 136 Try.underlying25 infoEntry rfl (by decide) (by decide) rfl HOW.out rfl (en_new W3 x) (en_one [x]) HLN.out HBS.out ?_; intro a7 c7 w7 ho7 hg7; obtain ⟨k1, k2, HB7, HK7, HE7, HG7, k3⟩ := HFIN.out a7 c7 w7 ho7 hg7; clear ho7 hg7))
    clear k1 k2 hc1 HFIN HOW HBS HLN HBX
    generalize w7.setCell ⟨GB, 0, none⟩ (.slice a7 (pre.length + 1) c7) = W4 at *
    have cst : W4.cell? ⟨w.heap.size, 0, none⟩ = some (.int .i64 stop) := Below.keeps HE7.out.bel _ _ HST.out
    have cwa : W4.cell? ⟨w2.heap.size, 0, none⟩ = some (.slice a2 n2 c2) := Below.keeps HE7.out.bel _ _ HWA.out
    have crd : W4.cell? ⟨RB, 0, none⟩ = some (.int .i64 0) := by rw [row_cell HE7.out.rnd]; rfl
    have HGN : Hid (Gath (lOf S3) → n2 = n3) := Lib.hid (fun hG => by
      have h1 := congrArg List.length (HO2.out.yes (HO2.out.ok.2 (by rw [← hlo]; exact hG)))
      rw [List.length_map, List.length_map, ← hlo, List.length_map] at h1
      have h2 := HO2.out.new.len; have h3 := HN3.out.len
      omega)
    by_cases hb1 : n2 < pre.length + 1
    · have hd1 : decide ((n2 : Int) < (pre.length : Int) + 1) = true := by simp; omega
      gi_wp2
      all_goals first | exact (undef_bool (by assumption)).elim | skip
      exact ⟨HK7.out, rfl, HE7.out, HG7.out, fun hG => by have := HGN.out hG; omega⟩
    · have hd1 : decide ((n2 : Int) < (pre.length : Int) + 1) = false := by simp; omega
      by_cases hb2 : 0 < stop
      · have hd2 : decide ((0 : Int) < stop) = true := by simp [hb2]
        by_cases hb3 : stop ≤ (pre.length : Int) + 1
        · have hd3 : decide (stop ≤ (pre.length : Int) + 1) = true := by simp [hb3]
          gi_wp2
          all_goals first | exact (undef_bool (by assumption)).elim | skip
          exact ⟨HK7.out, rfl, HE7.out, HG7.out, fun hG => ⟨rfl, hb2, by have := HS1.out hG rfl hb2; simp only [List.length_append, List.length_singleton]; push_cast; omega⟩⟩
        · have hd3 : decide (stop ≤ (pre.length : Int) + 1) = false := by simp; omega
          gi_wp2
          all_goals first | exact (undef_bool (by assumption)).elim | skip
          exact ⟨HK7.out, HB7.out, HE7.out, HG7.out, fun hG _ _ => by simp only [List.length_append, List.length_singleton]; push_cast; omega⟩
      · have hd2 : decide ((0 : Int) < stop) = false := by simp; omega
        gi_wp2
        all_goals first | exact (undef_bool (by assumption)).elim | skip
        exact ⟨HK7.out, HB7.out, HE7.out, HG7.out, fun hG _ h => by omega⟩
  case hend =>
    rintro D0 xs W hD hcs hk
    obtain ⟨MO, hMO⟩ : ∃ MO : Nat, MO = if 0 < stop ∧ stop < (n2 : Int) then stop.toNat else n2 := ⟨_, rfl⟩
    have hgot : EB w3 W RB 0 a3 n3 c3 [] ∧ GotE w3 W GB xs ∧ xs.length = MO ∧ xs.map (·.1) = (S2.take MO).map (·.1) ∧ MO ≤ n2 := by
      have h2l := HO2.out.new.len
      have hwant : Gath (lOf S3) → S2.map (·.1) = (lOf S3).map entOf ∧ n2 = n3 := fun hG => by
        have h1 := HO2.out.yes (HO2.out.ok.2 (by rw [← hlo]; exact hG))
        rw [← hlo] at h1
        refine ⟨h1, ?_⟩
        have h4 := congrArg List.length h1
        rw [List.length_map, List.length_map, List.length_map] at h4
        have h3 := HN3.out.len
        omega
      have hno : ¬ Gath (lOf S3) → S2 = [] := fun hG => HO2.out.no (fun e => hG (by rw [hlo]; exact HO2.out.ok.1 e))
      rcases hcs with ⟨hS, hE, hg, hgo⟩ | ⟨⟨hG, kk, hSp, hkk⟩, hE, hg, hst⟩
      · refine ⟨hE, hg, ?_⟩
        by_cases hG : Gath (lOf S3)
        · obtain ⟨h1, h2⟩ := hwant hG
          have h3 := hS.1 hG
          rw [← h1] at h3
          have h5 := congrArg List.length h3
          rw [List.length_map, List.length_map] at h5
          have hno2 : ¬ (0 < stop ∧ stop < (n2 : Int)) := fun ⟨q1, q2⟩ => by have := hgo hG rfl q1; omega
          rw [if_neg hno2] at hMO
          subst hMO
          exact ⟨by omega, by rw [h3, List.map_take, List.take_of_length_le (by rw [List.length_map]; omega)], Nat.le_refl _⟩
        · have h1 := hno hG
          have h3 := hS.2 hG
          subst h3
          have hn20 : n2 = 0 := by rw [h1] at h2l; simpa using h2l.symm
          have hM0 : MO = 0 := by rw [hMO]; split <;> omega
          subst hM0
          exact ⟨rfl, by simp, by omega⟩
      · refine ⟨hE, hg, ?_⟩
        obtain ⟨h1, h2⟩ := hwant hG
        obtain ⟨_, q1, q2⟩ := hst hG
        rw [← h1] at hSp
        subst hkk
        have h5 := congrArg List.length hSp
        rw [List.length_map, List.length_take, List.length_map] at h5
        have hM : MO = xs.length := by rw [hMO]; split <;> omega
        rw [hM]
        exact ⟨rfl, by rw [hSp, List.map_take], by omega⟩
    obtain ⟨hE, ⟨ga, gc, hgr, hgn⟩, hgl, hgm, hle⟩ := hgot
    have cst : W.cell? ⟨w.heap.size, 0, none⟩ = some (.int .i64 stop) := Below.keeps hE.bel _ _ HST.out
    have cwa : W.cell? ⟨w2.heap.size, 0, none⟩ = some (.slice a2 n2 c2) := Below.keeps hE.bel _ _ HWA.out
    have crd : W.cell? ⟨RB, 0, none⟩ = some (.int .i64 0) := by rw [row_cell hE.rnd]; rfl
    have cgo : W.cell? ⟨GB, 0, none⟩ = some (.slice ga MO gc) := by rw [row_cell hgr, ← hgl]; rfl
    have HEW : Hid (Ens w3 a2 n2 c2 S2) := Lib.hid ((HO2.out.new.ens.below ((Below.refl _ _).alloc (Nat.le_refl _) (.cells #[.slice a2 n2 c2] 25))).below HB3.out)
    have HSE : Hid (∀ W', Below W.heap.size W W' → Calls Try.prog 13 #[.slice ga MO gc, .slice a2 MO c2] W' fun r w' => r = .returned (.bool true) ∧ Below W'.heap.size W' w') := Lib.hid (fun W' hb => by
      have h1 := (hgn.ens.below hb)
      rw [hgl] at h1
      exact SameEs_yes ga a2 MO MO gc c2 xs (S2.take MO) W' h1 (ens_take (HEW.out.keep (Below.keeps (hE.bel.trans (hb.mono hE.bel.size)))) hle) hgm)
    have HE := Lib.hid hE; have HGR := Lib.hid hgr; have HK := Lib.hid hk; have HMO := Lib.hid hMO
    have hlec : n2 ≤ c2 := HO2.out.new.ens.cap
    clear hE hgr hgn hgm hk hcs hMO
    have hfr : W.frozen? ⟨GB, 0, none⟩ = false := row_froz HGR.out 0
    have hle' : (MO : Int) ≤ (n2 : Int) := by omega
    gi_upto_region 14 with fail
    gi_cut [64] from 54 (fun v wx => ∃ B : Bool, v = .bool B ∧ Hid (B = decide (0 < stop ∧ stop < (n2 : Int))) ∧ W = wx)
    case first =>
      by_cases hq1 : 0 < stop
      · have hd1 : decide ((0 : Int) < stop) = true := by simp [hq1]
        gi_wp2
        all_goals first | exact (undef_bool (by assumption)).elim | skip
        gi_meet
        case rel => exact ⟨_, rfl, Lib.hid (by simp [hq1]), rfl⟩
      · have hd1 : decide ((0 : Int) < stop) = false := by simp; omega
        gi_wp2
        all_goals first | exact (undef_bool (by assumption)).elim | skip
        gi_meet
        case rel => exact ⟨_, rfl, Lib.hid (by simp; omega), rfl⟩
    obtain ⟨B, rfl, HB, rfl⟩ := hcut
    gi_upto_if 64 with fail
    gi_cut [11] from 65 (fun v wx => v = .int .i64 (MO : Int) ∧ W = wx)
    case first =>
      cases B
      · gi_wp2
        gi_meet
        case rel => exact ⟨by have := HMO.out; have hB := of_decide_eq_false HB.out.symm; rw [if_neg hB] at this; rw [this], rfl⟩
      · gi_wp2
        gi_meet
        case rel => exact ⟨by have := HMO.out; have hB := of_decide_eq_true HB.out.symm; rw [if_pos hB] at this; rw [this, Int.toNat_of_nonneg (by omega)], rfl⟩
    obtain ⟨rfl, rfl⟩ := hcut
    have hle2 : (n2 : Int) ≤ (c2 : Int) := by omega
    gi_upto_region 16 with fail
    gi_cut [77] from 66 (fun v wx => v = .bool false ∧ Hid (Below W.heap.size W wx))
    case first =>
      refine wpIn_noexit ?_
      gi_region_with (refine ⟨trivial, ?_⟩; gi_at_call 13; refine (callsIn_wide.2 (HSE.out _ (Below.refl _ _).drew)).mono ?_; rintro r w5 ⟨rfl, hb5⟩; have HB5 := Lib.hid hb5; clear hb5)
      all_goals gi_wp2
      all_goals gi_meet
      all_goals exact ⟨rfl, Lib.hid (Below.seq (Below.refl _ _).drew HB5.out)⟩
    obtain ⟨rfl, HBW⟩ := hcut
    have HE3 := Lib.hid (HE.out.below HBW.out)
    have crd3 : wc.cell? ⟨RB, 0, none⟩ = some (.int .i64 0) := by rw [row_cell HE3.out.rnd]; rfl
    gi_upto_region 6 with fail
    have HEBn : Hid (EB w3 (wc.alloc (.cells #[.int .i64 1] 3)) wc.heap.size 1 a3 n3 c3 [D0]) := Lib.hid (by
      have e := HE3.out.below ((Below.refl wc.heap.size wc).alloc (Nat.le_refl _) (.cells #[.int .i64 1] 3))
      refine ⟨e.bel, e.lin, heap_alloc_new _ _, HE3.out.bel.size, fun d hd => ?_⟩
      obtain rfl : d = D0 := by simpa using hd
      exact row_below (row_below HK.out HBW.out) ((Below.refl _ _).alloc (Nat.le_refl _) _))
    have hD0 : w3.heap.size ≤ D0 := Nat.le_trans HEB1.out.bel.size hD
    have hgbn : w3.heap.size ≤ (wc.alloc (.cells #[.int .i64 1] 3)).heap.size := HEBn.out.bel.size
    clear HE HE3 HGR HK HBW HMO HSE HEW HB1 HB crd crd3 cgo cst cwa hfr hle hle' hle2 hlec hgl HEB1 HG1 hcl hgw hRBl HEB HDS HW1 hgb hn3 hnum hlo hRB hGB hD
    generalize wc.alloc (.cells #[.int .i64 1] 3) = W0 at *
    generalize wc.heap.size = RB at *
    have HEB := HEBn; have hgb := hgbn
    clear HEBn hgbn
    rw [roundsIn_succ]
    have c8 : W0.cell? ⟨RB, 0, none⟩ = some (.int .i64 1) := by rw [row_cell HEB.out.rnd]; rfl
    gi_wp2
    have HW1 : Hid (Below W0.heap.size W0 ((W0.alloc (.cells #[] 39)).alloc (.cells #[.slice (some ⟨W0.heap.size, 0, none⟩) 0 0] 25))) := Lib.hid (((Below.refl _ _).alloc (Nat.le_refl _) _).alloc (by simp) _)
    have HEB1 := Lib.hid (HEB.out.below HW1.out)
    have HG1 : Hid (GotE w3 ((W0.alloc (.cells #[] 39)).alloc (.cells #[.slice (some ⟨W0.heap.size, 0, none⟩) 0 0] 25)) (W0.heap.size + 1) []) := Lib.hid (by
      have e1 : (W0.alloc (.cells #[] 39)).heap.size = W0.heap.size + 1 := by simp
      have h1 := heap_alloc_new (W0.alloc (.cells #[] 39)) (.cells #[.slice (some ⟨W0.heap.size, 0, none⟩) 0 0] 25)
      rw [e1] at h1
      have h2 := World.ownsRow_lit (base := w3.heap.size) (e := 39) (size := 11) W0 #[] 0 HEB.out.bel.size (by decide) rfl
      exact ⟨_, _, h1, h2.alloc _, by simp, List.Pairwise.nil⟩)
    have hgb : w3.heap.size ≤ W0.heap.size := HEB.out.bel.size
    generalize (W0.alloc (.cells #[] 39)).alloc (.cells #[.slice (some ⟨W0.heap.size, 0, none⟩) 0 0] 25) = W1 at *
    generalize hGB : W0.heap.size + 1 = GB at *
    have hcl : W1.cell? ⟨w3.heap.size, 0, none⟩ = some (.slice a3 n3 c3) := by rw [row_cell HEB1.out.lin]; rfl
    have hlo : lOf S3 = lOf S0 := HM3.out
    have hnum : LnNum S3 := lns_num HN3.out.lns HM3.out HL0.out
    have hgw : GB < W1.heap.size := by obtain ⟨_, _, h, _⟩ := HG1.out; exact row_lt h
    have hRBl : RB < W0.heap.size := row_lt HEB.out.rnd
    have hn3 : n3 ≤ 2000000 := by have := hnum.num; have h2 := HN3.out.len; omega
    have HDS : Hid (∀ d ∈ [D0], d < W1.heap.size) := Lib.hid (fun d hd => row_lt (HEB1.out.dfr d hd))
    refine wpIn_rangeEB (q := 10) (by decide) (gf := 29) (lb := #[.pointer (some ⟨w3.heap.size, 0, none⟩)]) rfl (enters_of Try.func29 (by kernel_rfl) rfl)
      (each1_stops 7 (by decide) w3.heap.size a3 n3 c3 S3 w3 W1 hcl HN3.out.lns hnum HEB1.out.bel) HEB1.out.bel.size
      (fun pre W => EB w3 W RB 1 a3 n3 c3 [D0] ∧ GotE w3 W GB pre ∧ goesOn (lOf S3) 1 stop pre)
      (fun pre W => EB w3 W RB 1 a3 n3 c3 [D0] ∧ GotE w3 W GB pre ∧ stopped (lOf S3) 1 stop pre)
      ?hI (eb_own HEB1.out.bel.size HDS.out _) (eb_own HEB1.out.bel.size HDS.out _) ⟨HEB1.out, HG1.out, fun _ h _ => by omega⟩ ?assign ?body ?hend
    case hI =>
      rintro s U V ⟨h1, h2, h3⟩ hb
      exact ⟨h1.below hb, h2.below hb, h3⟩
    case assign =>
      rintro l pre x W _
      simp only [List.setIfInBounds_toArray, List.set_cons_zero, List.set_cons_succ]
      gi_wp2_with (refine wpListIn_store_row rfl _ _ _ rfl W.heap.size rfl (enV x) rfl enZ 39 (heap_alloc_new W _) rfl (sizeEn _) (by simpa [enCells] using en_one [x]) ?_)
      refine ⟨?_, W.heap.size, ?_, rfl⟩
      · rw [setRow_alloc]; exact (Below.refl _ _).alloc (Nat.le_refl _) _
      · rw [setRow_alloc]; exact heap_alloc_new W _
    case body =>
      rintro l pre x bx W2 W3 hlen ⟨e0, ⟨ga, gc, _, g0⟩, s0⟩ ⟨e1, ⟨a', c', h1, h2⟩, s1⟩ hown hsz hbx
      simp only [List.setIfInBounds_toArray, List.set_cons_zero, List.set_cons_succ]
      have hc1 : W3.cell? ⟨GB, 0, none⟩ = some (.slice a' pre.length c') := by rw [row_cell h1]; rfl
      have HOW := Lib.hid (own_keep (w' := W3.alloc (.cells (enV x) 39)) h2.own (fun j _ hj => by rw [heap_alloc_old _ _ hj]))
      have HBS : Hid (w3.heap.size ≤ (W3.alloc (.cells (enV x) 39)).heap.size) := Lib.hid (by have := e1.bel.size; simp; omega)
      have HLN : Hid ((pre.length + 1) * 136 ≤ 140737488355328) := Lib.hid (by omega)
      have HFIN : Hid (∀ a7 c7 w7, w7.ownsRow w3.heap.size 39 11 (.slice a7 (pre.length + 1) c7) (pre.length + 1) (pre.flatMap enCells ++ [x].flatMap enCells) → (W3.alloc (.cells (enV x) 39)).grownBy w7 (Value.slice a' pre.length c').ownBlock →
          w7.cell? ⟨GB, 0, none⟩ = some (.slice a' pre.length c') ∧ w7.frozen? ⟨GB, 0, none⟩ = false ∧ Hid (Below w3.heap.size W3 (w7.setCell ⟨GB, 0, none⟩ (.slice a7 (pre.length + 1) c7))) ∧ Hid (KeepsOthers W3 (w7.setCell ⟨GB, 0, none⟩ (.slice a7 (pre.length + 1) c7))) ∧
          Hid (EB w3 (w7.setCell ⟨GB, 0, none⟩ (.slice a7 (pre.length + 1) c7)) RB 1 a3 n3 c3 [D0]) ∧ Hid (GotE w3 (w7.setCell ⟨GB, 0, none⟩ (.slice a7 (pre.length + 1) c7)) GB (pre ++ [x])) ∧ (w7.setCell ⟨GB, 0, none⟩ (.slice a7 (pre.length + 1) c7)).cell? ⟨GB, 0, none⟩ = some (.slice a7 (pre.length + 1) c7)) := Lib.hid (fun a7 c7 w7 ho7 hg7 => by
        have hA : Below W3.heap.size W3 (W3.alloc (.cells (enV x) 39)) := (Below.refl _ _).alloc (Nat.le_refl _) _
        have hr1 := row_below h1 hA
        have h2A := h2.below hA
        have e1A := e1.below hA
        have hr7 := row_grown hr1 hg7 (fun e => own_ne_row h2A.own hr1 (by decide) e.symm)
        have e7 := e1A.grown hg7 (fun k e => (h2A.own.lt k e).1) (fun e => own_ne_row h2A.own e1A.lin (by decide) e.symm) (fun e => own_ne_row h2A.own e1A.rnd (by decide) e.symm) (e1A.nrow (fun k hk => by obtain ⟨cur, hc⟩ := own_row h2A.own hk; exact ⟨_, _, hc⟩))
        have hsn := NewEn.snoc (a' := a7) (c' := c7) g0 h2 hown e0.bel.size h1 (by decide) (by decide) hg7 ho7
        have hbf : Below w3.heap.size W3 (w7.setCell ⟨GB, 0, none⟩ (.slice a7 (pre.length + 1) c7)) := (((Below.refl w3.heap.size W3).alloc e1.bel.size _).grown hg7 (by have := e1.bel.size; simp; omega) (fun k hk => (h2A.own.lt k hk).1)).setCell (p := ⟨GB, 0, none⟩) (by simp only; omega) _
        refine ⟨by rw [row_cell hr7]; rfl, row_froz hr7 0, Lib.hid hbf, Lib.hid ?_, Lib.hid ?_, Lib.hid ⟨_, _, hsn.2, hsn.1⟩, ?_⟩
        · refine ((KeepsOthers.alloc W3 _).trans (KeepsOthers.of_grownBy hg7 (fun j o hj ho => ?_))).trans (KeepsOthers.setCell _ _ _)
          obtain ⟨cur, hc⟩ := own_row h2A.own hj
          rw [hc] at ho; cases ho; rfl
        · exact e7.grown (setCell_grown w7 GB 0 _) (fun k e => by cases e; omega) (by simp only [ne_eq, Option.some.injEq]; omega) (by simp only [ne_eq, Option.some.injEq]; omega) (e7.nrow (fun k hk => by cases hk; exact ⟨_, _, hr7⟩))
        · rw [row_cell (setCell_row hr7 (.slice a7 (pre.length + 1) c7))]; rfl)
      have HBX := Lib.hid hbx; have HS1 := Lib.hid s1; have HE1 := Lib.hid e1
      clear hbx h1 h2 e0 e1 g0 s0 s1 hown hsz
      gi_upto_region 12 with (first
        | (refine wpListIn_load_rowA rfl _ _ rfl bx rfl (enV x) 39 _ HBX.out Try.underlying39 rfl (sizeEn _) ?_)
        | (refine wpListIn_slice_one rfl 25 _ rfl Try.underlying25 (enV x) (infoEn2 x) rfl (by show 0 < 11; decide) (by show 11 ≤ _; decide) rfl ?_)
        | (gi_at_builtin; refine wpListIn_app rfl _ _ 25 rfl w3.heap.size 39 _ 11 136 Try.underlying25 infoEntry rfl (by decide) (by decide) rfl HOW.out rfl (en_new W3 x) (en_one [x]) HLN.out HBS.out ?_; intro a7 c7 w7 ho7 hg7; obtain ⟨k1, k2, HB7, HK7, HE7, HG7, k3⟩ := HFIN.out a7 c7 w7 ho7 hg7; clear ho7 hg7))
      clear k1 k2 hc1 HFIN HOW HBS HLN HBX
      generalize w7.setCell ⟨GB, 0, none⟩ (.slice a7 (pre.length + 1) c7) = W4 at *
      have cst : W4.cell? ⟨w.heap.size, 0, none⟩ = some (.int .i64 stop) := Below.keeps HE7.out.bel _ _ HST.out
      have cwa : W4.cell? ⟨w2.heap.size, 0, none⟩ = some (.slice a2 n2 c2) := Below.keeps HE7.out.bel _ _ HWA.out
      have crd : W4.cell? ⟨RB, 0, none⟩ = some (.int .i64 1) := by rw [row_cell HE7.out.rnd]; rfl
      have HGN : Hid (Gath (lOf S3) → n2 = n3) := Lib.hid (fun hG => by
        have h1 := congrArg List.length (HO2.out.yes (HO2.out.ok.2 (by rw [← hlo]; exact hG)))
        rw [List.length_map, List.length_map, ← hlo, List.length_map] at h1
        have h2 := HO2.out.new.len; have h3 := HN3.out.len
        omega)
      by_cases hb1 : n2 < pre.length + 1
      · have hd1 : decide ((n2 : Int) < (pre.length : Int) + 1) = true := by simp; omega
        gi_wp2
        all_goals first | exact (undef_bool (by assumption)).elim | skip
        exact ⟨HK7.out, rfl, HE7.out, HG7.out, fun hG => by have := HGN.out hG; omega⟩
      · have hd1 : decide ((n2 : Int) < (pre.length : Int) + 1) = false := by simp; omega
        gi_wp2
        all_goals first | exact (undef_bool (by assumption)).elim | skip
        exact ⟨HK7.out, HB7.out, HE7.out, HG7.out, fun hG h _ => by omega⟩
    case hend =>
      rintro D xs W hD hcs hk
      obtain ⟨MO, hMO⟩ : ∃ MO : Nat, MO = n2 := ⟨_, rfl⟩
      have hgot : EB w3 W RB 1 a3 n3 c3 [D0] ∧ GotE w3 W GB xs ∧ xs.length = MO ∧ xs.map (·.1) = (S2.take MO).map (·.1) ∧ MO ≤ n2 := by
        have h2l := HO2.out.new.len
        have hwant : Gath (lOf S3) → S2.map (·.1) = (lOf S3).map entOf ∧ n2 = n3 := fun hG => by
          have h1 := HO2.out.yes (HO2.out.ok.2 (by rw [← hlo]; exact hG))
          rw [← hlo] at h1
          refine ⟨h1, ?_⟩
          have h4 := congrArg List.length h1
          rw [List.length_map, List.length_map, List.length_map] at h4
          have h3 := HN3.out.len
          omega
        have hno : ¬ Gath (lOf S3) → S2 = [] := fun hG => HO2.out.no (fun e => hG (by rw [hlo]; exact HO2.out.ok.1 e))
        rcases hcs with ⟨hS, hE, hg, hgo⟩ | ⟨⟨hG, kk, hSp, hkk⟩, hE, hg, hst⟩
        · refine ⟨hE, hg, ?_⟩
          by_cases hG : Gath (lOf S3)
          · obtain ⟨h1, h2⟩ := hwant hG
            have h3 := hS.1 hG
            rw [← h1] at h3
            have h5 := congrArg List.length h3
            rw [List.length_map, List.length_map] at h5
            subst hMO
            exact ⟨by omega, by rw [h3, List.map_take, List.take_of_length_le (by rw [List.length_map]; omega)], Nat.le_refl _⟩
          · have h1 := hno hG
            have h3 := hS.2 hG
            subst h3
            have hn20 : n2 = 0 := by rw [h1] at h2l; simpa using h2l.symm
            have hM0 : MO = 0 := by omega
            subst hM0
            exact ⟨rfl, by simp, by omega⟩
        · have := (hst hG).1
          omega
      obtain ⟨hE, ⟨ga, gc, hgr, hgn⟩, hgl, hgm, hle⟩ := hgot
      have cst : W.cell? ⟨w.heap.size, 0, none⟩ = some (.int .i64 stop) := Below.keeps hE.bel _ _ HST.out
      have cwa : W.cell? ⟨w2.heap.size, 0, none⟩ = some (.slice a2 n2 c2) := Below.keeps hE.bel _ _ HWA.out
      have crd : W.cell? ⟨RB, 0, none⟩ = some (.int .i64 1) := by rw [row_cell hE.rnd]; rfl
      have cgo : W.cell? ⟨GB, 0, none⟩ = some (.slice ga MO gc) := by rw [row_cell hgr, ← hgl]; rfl
      have HEW : Hid (Ens w3 a2 n2 c2 S2) := Lib.hid ((HO2.out.new.ens.below ((Below.refl _ _).alloc (Nat.le_refl _) (.cells #[.slice a2 n2 c2] 25))).below HB3.out)
      have HSE : Hid (∀ W', Below W.heap.size W W' → Calls Try.prog 13 #[.slice ga MO gc, .slice a2 MO c2] W' fun r w' => r = .returned (.bool true) ∧ Below W'.heap.size W' w') := Lib.hid (fun W' hb => by
        have h1 := (hgn.ens.below hb)
        rw [hgl] at h1
        exact SameEs_yes ga a2 MO MO gc c2 xs (S2.take MO) W' h1 (ens_take (HEW.out.keep (Below.keeps (hE.bel.trans (hb.mono hE.bel.size)))) hle) hgm)
      have HE := Lib.hid hE; have HGR := Lib.hid hgr; have HK := Lib.hid hk; have HMO := Lib.hid hMO
      have hlec : n2 ≤ c2 := HO2.out.new.ens.cap
      clear hE hgr hgn hgm hk hcs hMO
      have hfr : W.frozen? ⟨GB, 0, none⟩ = false := row_froz HGR.out 0
      have hle' : (MO : Int) ≤ (n2 : Int) := by omega
      have hx := HMO.out.symm
      subst hx
      have hle2 : (n2 : Int) ≤ (c2 : Int) := by omega
      gi_upto_region 16 with fail
      all_goals first | exact (undef_bool (by assumption)).elim | skip
      gi_cut [77] from 66 (fun v wx => v = .bool false ∧ Hid (Below W.heap.size W wx))
      case first =>
        refine wpIn_noexit ?_
        gi_region_with (refine ⟨trivial, ?_⟩; gi_at_call 13; refine (callsIn_wide.2 (HSE.out _ (Below.refl _ _).drew)).mono ?_; rintro r w5 ⟨rfl, hb5⟩; have HB5 := Lib.hid hb5; clear hb5)
        all_goals gi_wp2
        all_goals gi_meet
        all_goals exact ⟨rfl, Lib.hid (Below.seq (Below.refl _ _).drew HB5.out)⟩
      obtain ⟨rfl, HBW⟩ := hcut
      have HE3 := Lib.hid (HE.out.below HBW.out)
      have crd3 : wc.cell? ⟨RB, 0, none⟩ = some (.int .i64 1) := by rw [row_cell HE3.out.rnd]; rfl
      gi_upto_region 6 with fail
      have HW5 : Hid (EB w3 (wc.alloc (.cells #[.int .i64 2] 3)) RB 1 a3 n3 c3 [D0]) := Lib.hid (HE3.out.below ((Below.refl _ _).alloc (Nat.le_refl _) _))
      have HDD : Hid ((wc.alloc (.cells #[.int .i64 2] 3)).heap[D]? = some (.deferred (some []))) := Lib.hid (row_below (row_below HK.out HBW.out) ((Below.refl _ _).alloc (Nat.le_refl _) _))
      have HDl : Hid (w3.heap.size ≤ D ∧ D0 < D) := Lib.hid ⟨Nat.le_trans HEB1.out.bel.size hD, Nat.lt_of_lt_of_le (HDS.out D0 (by simp)) hD⟩
      have c8e : (wc.alloc (.cells #[.int .i64 2] 3)).cell? ⟨wc.heap.size, 0, none⟩ = some (.int .i64 2) := by rw [World.cell?_alloc_new]; rfl
      generalize wc.alloc (.cells #[.int .i64 2] 3) = W5 at *
      rw [roundsIn_succ]
      gi_wp2
      have h0D : (W5.putObj D (.deferred none)).heap[D0]? = some (.deferred (some [])) := by
        rw [World.putObj_heap_other (by have := HDl.out.2; omega)]; exact HW5.out.dfr D0 (by simp)
      refine ⟨by simp, .inl ⟨_, _, rfl, run_takeDeferred HDD.out, by simp, .inl ⟨_, _, rfl, run_takeDeferred h0D, ?_⟩⟩⟩
      refine ⟨_, results_tmp rfl _ _ _, rfl, ?_⟩
      have hbf : Below w.heap.size w W5 := HB3X.out.trans (HW5.out.bel.mono HB3X.out.size)
      have hs3 : w.heap.size ≤ w3.heap.size := HB3X.out.size
      have := HDl.out.1
      exact below_putObj (below_putObj hbf _ (by omega) hbf.size) _ (by omega) (by have := hbf.size; simpa using this)
end Gr
end Go.Proofs.Ytpdkdhcbibcifaa
