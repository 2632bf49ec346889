/-
  J15: FtNum, FtCopy, ArgsEntry, FtArgs, FtWalk, joined.
-/
import Derived.Test.YtpdkdhcbibcifaaJ14
import Derived.Test.YtpdkdhcbibcifaaJ07
import Derived.Test.YtpdkdhcbibcifaaJ05
import Derived.Test.YtpdkdhcbibcifaaJ01
import Derived.Test.YtpdkdhcbibcifaaJ09
import Derived.Test.YtpdkdhcbibcifaaJ03
import Derived.Test.YtpdkdhcbibcifaaJ08
namespace Go.Proofs.Ytpdkdhcbibcifaa
set_option linter.unusedVariables false
set_option linter.unusedSimpArgs false
namespace Gr
theorem entSum_append : ∀ a b : List Nd, entSum (a ++ b) = entSum a + entSum b
  | [], b => by simp [entSum]
  | n :: a, b => by simp [entSum, entSum_append a b]; omega
theorem entSum_add : ∀ (g : List Nd) (k : Nat) (e : Bt × Int), k < g.length → entSum (addEnt g k e) = entSum g + 1
  | [], k, e, h => by simp at h
  | n :: g, 0, e, _ => by simp [addEnt, entSum]; omega
  | n :: g, k + 1, e, h => by
    have ih := entSum_add g k e (by simpa using h)
    simp only [addEnt] at ih ⊢
    simp only [List.modify_succ_cons, entSum]
    omega
theorem nodes1_sum (g : List Nd) (l : Ln) : entSum (nodes1 g l) = entSum g := by
  unfold nodes1
  split
  · rw [entSum_append]; simp [entSum, mkNode]
  · rfl
theorem nodes1_le (g : List Nd) (l : Ln) : g.length ≤ (nodes1 g l).length := by
  unfold nodes1
  split <;> simp
theorem look_val {pi : List (Bt × Int)} {m : Nat} (h : ∀ q ∈ pi, 1 ≤ q.2 ∧ q.2 ≤ (m : Int)) (k : Bt) : (pi.lookup k).getD 0 = 0 ∨ (1 ≤ (pi.lookup k).getD 0 ∧ (pi.lookup k).getD 0 ≤ (m : Int)) := by
  cases hl : pi.lookup k with
  | none => exact Or.inl rfl
  | some v => exact Or.inr (h _ (lookup_mem hl))
theorem plant_sum : ∀ (ls : List Ln) (pi : List (Bt × Int)) (g g' : List Nd), plant false pi g ls = some g' → (∀ q ∈ pi, 1 ≤ q.2 ∧ q.2 ≤ (g.length : Int)) → (pi ≠ [] → 1 ≤ g.length) → entSum g + ls.length ≤ entSum g' + (if pi = [] then 1 else 0)
  | [], pi, g, g', h, _, _ => by
    simp only [plant, Option.some.injEq] at h
    subst h; simp
  | l :: ls, pi, g, g', h, hv, hp => by
    simp only [plant] at h
    split at h
    · cases h
    · rename_i hc
      rw [not_or] at hc
      have hn1 := nodes1_le g l
      have hid : 1 ≤ idOf pi g l ∧ idOf pi g l ≤ ((nodes1 g l).length : Int) := by
        have h0 := hc.2
        unfold idOf nodes1 at *
        split
        · simp; omega
        · rename_i hpe
          rw [if_neg hpe] at h0
          rcases look_val hv l.peer with h1 | h1
          · exact absurd h1 h0
          · exact h1
      have hv' : ∀ q ∈ pi ++ [(l.path, idOf pi g l)], 1 ≤ q.2 ∧ q.2 ≤ ((nodes1 g l).length : Int) := by
        intro q hq
        rcases List.mem_append.1 hq with hq | hq
        · have := hv q hq; omega
        · rw [List.mem_singleton] at hq; subst hq; exact hid
      have hne : pi ++ [(l.path, idOf pi g l)] ≠ [] := by simp
      split at h
      · have ih := plant_sum ls _ _ g' h hv' (fun _ => by omega)
        rw [if_neg hne, nodes1_sum] at ih
        rename_i hp0
        rw [if_pos hp0]
        simp only [List.length_cons]
        omega
      · rename_i hp0
        split at h
        · cases h
        · rename_i hpar
          have hpv : 1 ≤ parOf false pi l ∧ parOf false pi l ≤ (g.length : Int) := by
            unfold parOf at hpar ⊢
            split
            · have := hp hp0; omega
            · rename_i c hcut
              rw [hcut] at hpar
              simp only [if_false] at hpar ⊢
              rcases look_val hv (l.path.take c) with h1 | h1
              · exact absurd h1 hpar
              · exact h1
          have hlt : (parOf false pi l).toNat - 1 < (nodes1 g l).length := by omega
          have hlen : (addEnt (nodes1 g l) ((parOf false pi l).toNat - 1) (nameOf l, idOf pi g l)).length = (nodes1 g l).length := by simp [addEnt]
          have ih := plant_sum ls _ _ g' h (by rw [hlen]; exact hv') (fun _ => by rw [hlen]; omega)
          rw [if_neg hne, entSum_add _ _ _ hlt, nodes1_sum] at ih
          rw [if_neg hp0]
          simp only [List.length_cons]
          omega
theorem tree_num {g : List Nd} {root : Int} {ls : List Ln} (h : TreeOk g root ls) : ls.length ≤ 8193 := by
  obtain ⟨g', h1, h2⟩ := tree_planted h
  have h3 := plant_sum ls [] [] g' h1 (by simp) (by simp)
  have h4 := h2.1.2.2.1
  simp only [entSum, if_true] at h3
  omega
theorem tree_sum {g : List Nd} {root : Int} {ls : List Ln} (h : TreeOk g root ls) : (ls.map fun l => l.path.length).sum ≤ 4194304 := by
  obtain ⟨hc, _, fin, hw, rfl⟩ := h
  have := Wk.inv (I := fun s st => (st.out.map fun l => l.path.length).sum = st.bytes ∧ st.bytes ≤ 4194304) (fun id path r st n hi hb hn => by
    obtain ⟨h1, h2⟩ := hi
    have e1 : (st.next n path).out = st.out ++ [mkLine n path (st.peer n.id)] := rfl
    have e2 : (st.next n path).bytes = st.bytes + path.length := rfl
    have e3 : (mkLine n path (st.peer n.id)).path = path := rfl
    rw [e1, e2]
    simp only [List.map_append, List.sum_append, List.map_cons, List.map_nil, List.sum_cons, List.sum_nil, h1, e3]
    omega) hw ⟨rfl, by simp [st0]⟩ fin rfl
  omega
theorem tree_cut {g : List Nd} {root : Int} {ls : List Ln} (h : TreeOk g root ls) : ∀ l ∈ ls, l.path.length ≤ 255 ∨ ∃ c, cutOf l.path = some c ∧ l.path.length ≤ c + 256 := by
  obtain ⟨O, eO, _, hgO, _, _⟩ := tree_paths h
  intro l hl
  have : l.path ∈ O.map shw := by rw [eO]; exact List.mem_map.2 ⟨l, hl, rfl⟩
  obtain ⟨ps, hps, e⟩ := List.mem_map.1 this
  have hg := hgO ps hps
  rw [← e]
  rcases snoc_cases ps with rfl | ⟨qs, q, rfl⟩
  · exact Or.inl (by simp [shw])
  · have hq := hg q (by simp)
    have hlq := (good_parts hq).2.2.2.1
    have hc := cut_shw (ps := qs) hq
    by_cases h0 : qs = []
    · subst h0
      exact Or.inl (by simpa [shw] using hlq)
    · rw [if_neg h0] at hc
      refine Or.inr ⟨_, hc, ?_⟩
      rw [shw_snoc, if_neg h0]
      simp
      omega
theorem tree_path {g : List Nd} {root : Int} {ls : List Ln} (h : TreeOk g root ls) : ∀ l ∈ ls, l.path.length ≤ 2000000 := by
  have hs := tree_sum h
  have hp := tree_parents h
  have hc := tree_cut h
  intro l hl
  apply Classical.byContradiction
  intro hlt
  obtain ⟨a, b, rfl⟩ := List.append_of_mem hl
  rcases hc l hl with h1 | ⟨c, hc1, hc2⟩
  · omega
  · obtain ⟨m, hm, e1, _⟩ := hp a l b rfl c hc1
    have hml : m.path.length = c := by rw [e1, List.length_take]; have := cutOf_lt hc1; omega
    obtain ⟨a', b', rfl⟩ := List.append_of_mem hm
    rcases hc m (by simp) with h2 | ⟨d, hd1, hd2⟩
    · omega
    · obtain ⟨m', hm', e2, _⟩ := hp a' m (b' ++ l :: b) (by simp) d hd1
      have hml' : m'.path.length = d := by rw [e2, List.length_take]; have := cutOf_lt hd1; omega
      obtain ⟨a2, b2, rfl⟩ := List.append_of_mem hm'
      simp only [List.map_append, List.map_cons, List.sum_append, List.sum_cons] at hs
      omega
theorem tree_data {g : List Nd} {root : Int} {ls : List Ln} (h : TreeOk g root ls) : ∀ l ∈ ls, l.data = [] ∨ ∃ n ∈ g, l.data = n.data := by
  obtain ⟨hc, _, fin, hw, rfl⟩ := h
  refine Wk.inv (I := fun s st => ∀ l ∈ st.out, l.data = [] ∨ ∃ n ∈ g, l.data = n.data) (fun id path r st n hi hb hn => ?_) hw (by simp [st0]) fin rfl
  intro l hl
  have e1 : (st.next n path).out = st.out ++ [mkLine n path (st.peer n.id)] := rfl
  rw [e1] at hl
  rcases List.mem_append.1 hl with hl | hl
  · exact hi l hl
  · rw [List.mem_singleton] at hl
    subst hl
    unfold mkLine
    simp only
    split
    · exact Or.inr ⟨n, (nodeOf_mem hn).1, rfl⟩
    · exact Or.inl rfl
theorem tree_peer {g : List Nd} {root : Int} {ls : List Ln} (h : TreeOk g root ls) : ∀ l ∈ ls, l.peer.length ≤ 2000000 := by
  obtain ⟨_, hpe⟩ := tree_lines h
  have hp := tree_path h
  intro l hl
  by_cases h0 : l.peer = []
  · rw [h0]; simp
  · have hm := peers_there hpe l hl h0
    simp only [List.nil_append, List.mem_map, Prod.mk.injEq] at hm
    obtain ⟨m, hm, e2, _⟩ := hm
    rw [← e2]; exact hp m hm
end Gr
end Go.Proofs.Ytpdkdhcbibcifaa
namespace Go.Proofs.Ytpdkdhcbibcifaa
set_option linter.unusedVariables false
set_option linter.unusedSimpArgs false
open Go.ChangeShapes Go.WideShapes Go.ChangeAt Go.RowKit
namespace Gr
theorem sizeN2 (x : NdS) : (Try.prog.info? 75).map (·.size) = some (ndV x).toList.length := by show _ = some 10; kernel_rfl
theorem sizeNd (x : NdS) : (Try.prog.info? 75).map (·.size) = some (ndV x).size := by show _ = some 10; kernel_rfl
theorem sizeGr (v : Value) : (Try.prog.info? 43).map (·.size) = some #[v].size := by show _ = some 1; kernel_rfl
theorem nd_newc (w : World) (x : NdS) : IsSl (w.alloc (.cells (ndV x) 75)) 10 (some ⟨w.heap.size, 0, none⟩) 1 1 ([x].flatMap ndCells) := by
  have := isSl_new w 75 10 1 (ndV x) rfl (by decide)
  simpa [ndV, ndCells] using this
theorem ndZ_sz (x : NdS) : ndZ.size = (ndV x).size := rfl
theorem ndV_pos (x : NdS) : 0 < (ndV x).size := by show 0 < 10; decide
theorem ndV_lim (x : NdS) : (ndV x).size ≤ 16777216 := by show 10 ≤ _; decide
/-- a directory's entries in memory of their own -/
def OwnT (w : World) (B : Nat) (s : Sl) (l : List (Bt × Int)) : Prop := w.ownsRow B 87 2 (.slice s.1 s.2.1 s.2.2) s.2.1 (l.flatMap etCells)
/-- nodes in memory of their own -/
structure NewNd (w : World) (B : Nat) (a : Option Addr) (n c : Nat) (S : List NdS) : Prop where
  own : w.ownsRow B 75 10 (.slice a n c) n (S.flatMap ndCells)
  dat : ∀ x ∈ S, Own w B x.2.1 x.1.data
  ent : ∀ x ∈ S, OwnT w B x.2.2 x.1.ents
theorem NewNd.nds {w : World} {B : Nat} {a : Option Addr} {n c : Nat} {S : List NdS} (h : NewNd w B a n c S) : Nds w a n c S := ⟨own_isSl h.own, fun x hx => (h.dat x hx).dat, fun x hx => own_isSl (h.ent x hx)⟩
theorem NewNd.below {w w' : World} {B : Nat} {a : Option Addr} {n c : Nat} {S : List NdS} (h : NewNd w B a n c S) (k : Below w.heap.size w w') : NewNd w' B a n c S :=
  ⟨own_keep h.own (fun j _ hj => k.block j hj), fun x hx => own_keep (h.dat x hx) (fun j _ hj => k.block j hj), fun x hx => own_keep (h.ent x hx) (fun j _ hj => k.block j hj)⟩
theorem NewNd.app {w w3 w4 : World} {B : Nat} {a a4 : Option Addr} {n c c4 : Nat} {S : List NdS} {x : NdS} (h : NewNd w B a n c S) (hB : B ≤ w.heap.size) (ho : Own w3 w.heap.size x.2.1 x.1.data) (he : OwnT w3 w.heap.size x.2.2 x.1.ents) (k : Below w.heap.size w w3)
    (hg : (w3.alloc (.cells (ndV x) 75)).grownBy w4 (Value.slice a n c).ownBlock) (ho4 : w4.ownsRow B 75 10 (.slice a4 (n + 1) c4) (n + 1) (S.flatMap ndCells ++ [x].flatMap ndCells)) : NewNd w4 B a4 (n + 1) c4 (S ++ [x]) := by
  have h3 := h.below k
  have hA : Below w3.heap.size w3 (w3.alloc (.cells (ndV x) 75)) := (Below.refl _ _).alloc (Nat.le_refl _) _
  have hA3 := h3.below hA
  have hd : ∀ {B' : Nat} {s : Sl} {l : Bt}, Own w3 B' s l → Own w4 B' s l := fun hs => own_other (own_keep hs (fun j _ hj => hA.block j hj)) hA3.own (by decide) hg
  have ht : ∀ {B' : Nat} {s : Sl} {l : List (Bt × Int)}, OwnT w3 B' s l → OwnT w4 B' s l := fun hs => own_other (own_keep hs (fun j _ hj => hA.block j hj)) hA3.own (by decide) hg
  refine ⟨by rw [List.flatMap_append]; exact ho4, fun y hy => ?_, fun y hy => ?_⟩
  · rcases List.mem_append.1 hy with hy | hy
    · exact hd (h3.dat y hy)
    · rw [List.mem_singleton] at hy
      subst hy
      exact hd (own_base ho hB)
  · rcases List.mem_append.1 hy with hy | hy
    · exact ht (h3.ent y hy)
    · rw [List.mem_singleton] at hy
      subst hy
      exact ht (own_base he hB)
set_option maxRecDepth 100000 in
set_option maxHeartbeats 1600000 in
theorem CopyN_any (x : NdS) (w : World) (h : Dat w x.2.1 x.1.data) (he : Ets w x.2.2 x.1.ents) (hn : x.2.1.2.1 ≤ 1000000000000) (hm : x.2.2.2.1 ≤ 1000000000000) :
    Calls Try.prog 33 #[.agg (ndV x)] w fun r w' => ∃ s t : Sl, r = .returned (.agg (ndV (x.1, s, t))) ∧ Own w' w.heap.size s x.1.data ∧ OwnT w' w.heap.size t x.1.ents ∧ Below w.heap.size w w' := by
  have HD := Lib.hid h; have HN := Lib.hid hn; have HE := Lib.hid he
  have hel := he.len
  clear h hn he
  obtain ⟨⟨id, kind, mode, uid, gid, sec, nano, data, target, ents⟩, ⟨a, n, c⟩, ⟨ea, en, ec⟩⟩ := x
  simp only at HN HD HE hm hel
  simp only [ndV]
  go_enter Try.func33, Try.ntmps33
  go_upto_region 1 with fail
  have HB2 : Hid (Below w.heap.size w ((w.alloc (.cells #[.int .i64 id, .int .i64 kind, .int .i64 mode, .int .i64 uid, .int .i64 gid, .int .i64 sec, .int .i64 nano, .slice a n c, .string ⟨target.toArray⟩, .slice ea en ec] 75)).alloc (.cells #[.int .i64 0, .int .i64 0, .int .i64 0, .int .i64 0, .int .i64 0, .int .i64 0, .int .i64 0, .slice none 0 0, .string ⟨#[]⟩, .slice none 0 0] 75))) := Lib.hid (((Below.refl _ _).alloc (Nat.le_refl _) _).alloc (by simp) _)
  have h0 := heap_alloc_new w (.cells #[.int .i64 id, .int .i64 kind, .int .i64 mode, .int .i64 uid, .int .i64 gid, .int .i64 sec, .int .i64 nano, .slice a n c, .string ⟨target.toArray⟩, .slice ea en ec] 75)
  have h1 := heap_alloc_new (w.alloc (.cells #[.int .i64 id, .int .i64 kind, .int .i64 mode, .int .i64 uid, .int .i64 gid, .int .i64 sec, .int .i64 nano, .slice a n c, .string ⟨target.toArray⟩, .slice ea en ec] 75)) (.cells #[.int .i64 0, .int .i64 0, .int .i64 0, .int .i64 0, .int .i64 0, .int .i64 0, .int .i64 0, .slice none 0 0, .string ⟨#[]⟩, .slice none 0 0] 75)
  have e1 : (w.alloc (.cells #[.int .i64 id, .int .i64 kind, .int .i64 mode, .int .i64 uid, .int .i64 gid, .int .i64 sec, .int .i64 nano, .slice a n c, .string ⟨target.toArray⟩, .slice ea en ec] 75)).heap.size = w.heap.size + 1 := by simp
  rw [e1] at h1
  have R0 : Hid (((w.alloc (.cells #[.int .i64 id, .int .i64 kind, .int .i64 mode, .int .i64 uid, .int .i64 gid, .int .i64 sec, .int .i64 nano, .slice a n c, .string ⟨target.toArray⟩, .slice ea en ec] 75)).alloc (.cells #[.int .i64 0, .int .i64 0, .int .i64 0, .int .i64 0, .int .i64 0, .int .i64 0, .int .i64 0, .slice none 0 0, .string ⟨#[]⟩, .slice none 0 0] 75)).heap[w.heap.size]? = some (.cells #[.int .i64 id, .int .i64 kind, .int .i64 mode, .int .i64 uid, .int .i64 gid, .int .i64 sec, .int .i64 nano, .slice a n c, .string ⟨target.toArray⟩, .slice ea en ec] 75)) := Lib.hid (by rw [heap_alloc_old _ _ (by simp)]; exact h0)
  have R1 : Hid (((w.alloc (.cells #[.int .i64 id, .int .i64 kind, .int .i64 mode, .int .i64 uid, .int .i64 gid, .int .i64 sec, .int .i64 nano, .slice a n c, .string ⟨target.toArray⟩, .slice ea en ec] 75)).alloc (.cells #[.int .i64 0, .int .i64 0, .int .i64 0, .int .i64 0, .int .i64 0, .int .i64 0, .int .i64 0, .slice none 0 0, .string ⟨#[]⟩, .slice none 0 0] 75)).heap[w.heap.size + 1]? = some (.cells ndZ 75)) := Lib.hid h1
  clear h0 h1 e1
  generalize (w.alloc (.cells #[.int .i64 id, .int .i64 kind, .int .i64 mode, .int .i64 uid, .int .i64 gid, .int .i64 sec, .int .i64 nano, .slice a n c, .string ⟨target.toArray⟩, .slice ea en ec] 75)).alloc (.cells #[.int .i64 0, .int .i64 0, .int .i64 0, .int .i64 0, .int .i64 0, .int .i64 0, .int .i64 0, .slice none 0 0, .string ⟨#[]⟩, .slice none 0 0] 75) = w2 at *
  have c0 : w2.cell? ⟨w.heap.size, 7, none⟩ = some (.slice a n c) := by rw [row_cell R0.out]; rfl
  have HDA : Hid (Dat w2 (a, n, c) data) := Lib.hid (Below.bs HB2.out HD.out)
  have HEA : Hid (Ets w2 (ea, en, ec) ents) := Lib.hid (HE.out.keep (Below.keeps HB2.out))
  have HN2 : Hid (n ≤ 140737488355328) := Lib.hid (by have := HN.out; omega)
  go_upto_region 2 with (go_at_call 42; (refine (CopyBytes_any a n c data w2 HDA.out HN2.out).mono ?_); rintro r w5 ⟨a5, n5, c5, rfl, ho5, hb5⟩; have HO5 : Hid (Own w5 w2.heap.size (a5, n5, c5) data) := Lib.hid ho5; have HB5 := Lib.hid hb5; have R25 := Lib.hid (row_below R0.out HB5.out); have R15 := Lib.hid (row_below R1.out HB5.out); have d1 : w5.cell? ⟨w.heap.size, 7, none⟩ = some (.slice a n c) := (by rw [row_cell R25.out]; rfl); have d1f : w5.frozen? ⟨w.heap.size, 7, none⟩ = false := row_froz R25.out 7; clear ho5 hb5)
  have hF := setCell_row R25.out (j := 7) (.slice a5 n5 c5)
  have HF : Hid ((w5.setCell ⟨w.heap.size, 7, none⟩ (.slice a5 n5 c5)).heap[w.heap.size]? = some (.cells #[.int .i64 id, .int .i64 kind, .int .i64 mode, .int .i64 uid, .int .i64 gid, .int .i64 sec, .int .i64 nano, .slice a5 n5 c5, .string ⟨target.toArray⟩, .slice ea en ec] 75)) := Lib.hid (by simpa using hF)
  have HG : Hid ((w5.setCell ⟨w.heap.size, 7, none⟩ (.slice a5 n5 c5)).heap[w.heap.size + 1]? = some (.cells ndZ 75)) := Lib.hid (row_grown R15.out (setCell_grown w5 w.heap.size 7 _) (by simp))
  have HOF : Hid (Own (w5.setCell ⟨w.heap.size, 7, none⟩ (.slice a5 n5 c5)) w.heap.size (a5, n5, c5) data) := Lib.hid (own_base (own_cell HO5.out R25.out (by decide)) HB2.out.size)
  have HBF : Hid (Below w.heap.size w (w5.setCell ⟨w.heap.size, 7, none⟩ (.slice a5 n5 c5))) := Lib.hid ((HB2.out.trans (HB5.out.mono HB2.out.size)).setCell (p := ⟨w.heap.size, 7, none⟩) (Nat.le_refl _) _)
  have HEF : Hid (Ets (w5.setCell ⟨w.heap.size, 7, none⟩ (.slice a5 n5 c5)) (ea, en, ec) ents) := Lib.hid (HE.out.keep (Below.keeps HBF.out))
  clear hF d1 d1f c0 HO5 HB5 R25 R15 HDA HEA R0 R1
  generalize w5.setCell ⟨w.heap.size, 7, none⟩ (.slice a5 n5 c5) = w6 at *
  go_upto_region 3 with fail
  have hA : Below w6.heap.size w6 (w6.alloc (.cells #[] 87)) := (Below.refl _ _).alloc (Nat.le_refl _) _
  have HOW : Hid ((w6.alloc (.cells #[] 87)).ownsRow w.heap.size 87 2 (.slice (some ⟨w6.heap.size, 0, none⟩) 0 0) 0 []) := Lib.hid (World.ownsRow_lit (base := w.heap.size) (e := 87) (size := 2) w6 #[] 0 HBF.out.size (by decide) rfl)
  have HF7 := Lib.hid (row_below HF.out hA); have HG7 := Lib.hid (row_below HG.out hA); have HO7 : Hid (Own (w6.alloc (.cells #[] 87)) w.heap.size (a5, n5, c5) data) := Lib.hid (own_keep HOF.out (fun j _ hj => hA.block j hj))
  have HB7 : Hid (Below w.heap.size w (w6.alloc (.cells #[] 87))) := Lib.hid (HBF.out.alloc HBF.out.size _)
  have HE7 : Hid (Ets (w6.alloc (.cells #[] 87)) (ea, en, ec) ents) := Lib.hid (HE.out.keep (Below.keeps HB7.out))
  clear hA HF HG HOF HBF HEF
  generalize w6.alloc (.cells #[] 87) = w7 at *
  have c9 : w7.cell? ⟨w.heap.size, 9, none⟩ = some (.slice ea en ec) := by rw [row_cell HF7.out]; rfl
  have HLN : Hid ((0 + en) * 24 ≤ 140737488355328) := Lib.hid (by omega)
  have HSZ : Hid (w.heap.size ≤ w7.heap.size) := Lib.hid HB7.out.size
  go_upto_region 4 with (at_builtin; refine wpList_app rfl _ _ 73 rfl w.heap.size 87 _ 2 24 Try.underlying73 infoEnt rfl (by decide) (by decide) rfl HOW.out rfl HE7.out (et_one ents) HLN.out HSZ.out ?_; intro a8 c8 w8 ho8 hg8)
  simp only [Nat.zero_add, List.nil_append] at ho8 ⊢
  have HF8 := Lib.hid (row_grown HF7.out hg8 (fun e => own_ne_row HOW.out HF7.out (by decide) e.symm))
  have HG8 := Lib.hid (row_grown HG7.out hg8 (fun e => own_ne_row HOW.out HG7.out (by decide) e.symm))
  have HO8 : Hid (Own w8 w.heap.size (a5, n5, c5) data) := Lib.hid (own_other HO7.out HOW.out (by decide) hg8)
  have HB8 : Hid (Below w.heap.size w w8) := Lib.hid (HB7.out.grown hg8 HSZ.out (fun j hj => (HOW.out.lt j hj).1))
  have HT8 : Hid (OwnT w8 w.heap.size (a8, en, c8) ents) := Lib.hid ho8
  clear ho8 hg8 HF7 HG7 HO7 HB7 HE7 c9 HOW
  have d9 : w8.cell? ⟨w.heap.size, 9, none⟩ = some (.slice ea en ec) := by rw [row_cell HF8.out]; rfl
  have d9f : w8.frozen? ⟨w.heap.size, 9, none⟩ = false := row_froz HF8.out 9
  have hF9 := setCell_row HF8.out (j := 9) (.slice a8 en c8)
  have HF9 : Hid ((w8.setCell ⟨w.heap.size, 9, none⟩ (.slice a8 en c8)).heap[w.heap.size]? = some (.cells (ndV (⟨id, kind, mode, uid, gid, sec, nano, data, target, ents⟩, (a5, n5, c5), (a8, en, c8))) 75)) := Lib.hid (by simpa [ndV] using hF9)
  have HG9 : Hid ((w8.setCell ⟨w.heap.size, 9, none⟩ (.slice a8 en c8)).heap[w.heap.size + 1]? = some (.cells ndZ 75)) := Lib.hid (row_grown HG8.out (setCell_grown w8 w.heap.size 9 _) (by simp))
  have HO9 : Hid (Own (w8.setCell ⟨w.heap.size, 9, none⟩ (.slice a8 en c8)) w.heap.size (a5, n5, c5) data) := Lib.hid (own_cell HO8.out HF8.out (by decide))
  have HT9 : Hid (OwnT (w8.setCell ⟨w.heap.size, 9, none⟩ (.slice a8 en c8)) w.heap.size (a8, en, c8) ents) := Lib.hid (own_cell HT8.out HF8.out (by decide))
  have HB9 : Hid (Below w.heap.size w (w8.setCell ⟨w.heap.size, 9, none⟩ (.slice a8 en c8))) := Lib.hid (HB8.out.setCell (p := ⟨w.heap.size, 9, none⟩) (Nat.le_refl _) _)
  clear hF9 HF8 HG8 HO8 HT8 HB8
  go_wp2_with (first
    | (refine wpList_load_rowA rfl _ _ rfl w.heap.size rfl (ndV (⟨id, kind, mode, uid, gid, sec, nano, data, target, ents⟩, (a5, n5, c5), (a8, en, c8))) 75 _ HF9.out Try.underlying75 rfl (sizeNd _) ?_)
    | (refine wpList_store_row rfl _ _ _ rfl (w.heap.size + 1) rfl (ndV (⟨id, kind, mode, uid, gid, sec, nano, data, target, ents⟩, (a5, n5, c5), (a8, en, c8))) rfl ndZ 75 HG9.out rfl (sizeNd _) (by simpa [ndCells, ndV] using nd_one [(⟨id, kind, mode, uid, gid, sec, nano, data, target, ents⟩, (a5, n5, c5), (a8, en, c8))]) ?_))
  refine bodyPost_ret (results_cell_row rfl _ _ (w.heap.size + 1) 75 _ (0, 0) _ rfl (setRow_heap _ _ _ _ _ _ HG9.out) Try.underlying75 rfl (sizeNd _)) rfl ?_
  exact ⟨(a5, n5, c5), (a8, en, c8), rfl, setRow_own HO9.out HG9.out (by decide), setRow_own HT9.out HG9.out (by decide), Below.setRow HB9.out (by omega) _⟩
set_option maxRecDepth 100000 in
set_option maxHeartbeats 1600000 in
theorem CopyG_any (a : Option Addr) (n c : Nat) (S : List NdS) (w : World) (h : Nds w a n c S) (hn : n ≤ 1000000000000) (hd : ∀ x ∈ S, x.2.1.2.1 ≤ 1000000000000 ∧ x.2.2.2.1 ≤ 1000000000000) :
    Calls Try.prog 17 #[.agg #[.slice a n c]] w fun r w' => ∃ (a' : Option Addr) (n' c' : Nat) (S' : List NdS), r = .returned (.agg #[.slice a' n' c']) ∧ NewNd w' w.heap.size a' n' c' S' ∧ S'.map (·.1) = S.map (·.1) ∧ Below w.heap.size w w' := by
  have hl := h.len; have hcap := h.cap; have hmax := h.max
  have HB2 : Hid (Below w.heap.size w ((w.alloc (.cells #[.slice a n c] 43)).alloc (.cells #[.slice none 0 0] 43))) := Lib.hid (((Below.refl _ _).alloc (Nat.le_refl _) _).alloc (by simp) _)
  have HL := Lib.hid hl; have HH := Lib.hid h; have HD := Lib.hid hd
  have e1 : (w.alloc (.cells #[.slice a n c] 43)).heap.size = w.heap.size + 1 := by simp
  have h1 := heap_alloc_new (w.alloc (.cells #[.slice a n c] 43)) (.cells #[.slice none 0 0] 43)
  rw [e1] at h1
  have HR0 : Hid (((w.alloc (.cells #[.slice a n c] 43)).alloc (.cells #[.slice none 0 0] 43)).heap[w.heap.size]? = some (.cells #[.slice a n c] 43)) := Lib.hid (by rw [heap_alloc_old _ _ (by simp)]; exact heap_alloc_new _ _)
  have HR1 : Hid (((w.alloc (.cells #[.slice a n c] 43)).alloc (.cells #[.slice none 0 0] 43)).heap[w.heap.size + 1]? = some (.cells #[.slice none 0 0] 43)) := Lib.hid h1
  clear hl h hd h1
  go_enter Try.func17, Try.ntmps17
  go_upto_region 1 with fail
  generalize (w.alloc (.cells #[.slice a n c] 43)).alloc (.cells #[.slice none 0 0] 43) = w0 at *
  clear e1
  have hw0 : w.heap.size + 1 < w0.heap.size := row_lt HR1.out
  go_wp2
  go_loopw [3, 4] (fun v i wr => ∃ (k : Nat) (a1 : Option Addr) (c1 : Nat) (S1 : List NdS), k ≤ n ∧ i = .int .i64 k ∧ v = .slice a1 k c1 ∧ Hid (NewNd wr w.heap.size a1 k c1 S1) ∧ Hid (S1.map (·.1) = (S.take k).map (·.1)) ∧ Hid (Below w.heap.size w wr) ∧ Hid (wr.heap[w.heap.size]? = some (.cells #[.slice a n c] 43)) ∧ Hid (wr.heap[w.heap.size + 1]? = some (.cells #[.slice none 0 0] 43))) (fun _ i _ => n - (intOf i).toNat)
  case atStart =>
    have hA : Below w0.heap.size w0 (w0.alloc (.cells #[] 75)) := (Below.refl _ _).alloc (Nat.le_refl _) _
    exact ⟨0, some ⟨w0.heap.size, 0, none⟩, 0, [], Nat.zero_le _, rfl, rfl, Lib.hid ⟨World.ownsRow_lit (base := w.heap.size) (e := 75) (size := 10) w0 #[] 0 HB2.out.size (by decide) rfl, by simp, by simp⟩, Lib.hid (by simp), Lib.hid (HB2.out.alloc HB2.out.size _), Lib.hid (row_below HR0.out hA), Lib.hid (row_below HR1.out hA)⟩
  case round =>
    obtain ⟨k, a1, c1, S1, hk, rfl, rfl, hI, hM, hB, hr0, hr1⟩ := hrel
    have cg : wr.cell? ⟨w.heap.size, 0, none⟩ = some (.slice a n c) := by rw [row_cell hr0.out]; rfl
    by_cases hlt : k < n
    · obtain ⟨x, hxk⟩ := get_some (S := S) (k := k) (by have := HL.out; omega)
      obtain ⟨b, off, rfl, hr⟩ := (HH.out.below hB.out).at k x hxk
      have hdk := (HH.out.below hB.out).dat x (mem_get hxk)
      have hek := (HH.out.below hB.out).ent x (mem_get hxk)
      have hx2 := HD.out x (mem_get hxk)
      have HMP : Hid ((S.take (k + 1)).map (·.1) = (S.take k).map (·.1) ++ [x.1]) := Lib.hid (by
        obtain ⟨h1, h2⟩ := List.getElem?_eq_some_iff.1 hxk
        rw [List.take_succ_eq_append_getElem h1, List.map_append, h2]; rfl)
      have HR := Lib.hid hr; have HDK := Lib.hid hdk; have HX2 := Lib.hid hx2; have HEK := Lib.hid hek
      clear hr hdk hx2 hxk hek
      go_wp2_with (first
        | (refine wpList_load_midA rfl _ _ rfl b (off + k * 10) rfl (ndV x) _ (by exact HR.out) Try.underlying75 rfl (by exact sizeN2 x) ?_)
        | (go_at_call 33; (refine (CopyN_any x wr HDK.out HEK.out HX2.out.1 HX2.out.2).mono ?_); rintro r w3 ⟨s, t, rfl, ho3, ht3, hb3⟩; have HO3 := Lib.hid ho3; have HT3 := Lib.hid ht3; have HB3 := Lib.hid hb3; clear ho3 hb3 ht3; have HOW := Lib.hid (own_keep (w' := w3.alloc (.cells (ndV (x.1, s, t)) 75)) hI.out.own fun j _ hj => by rw [heap_alloc_old _ _ (Nat.lt_of_lt_of_le hj HB3.out.size)]; exact HB3.out.block j hj); have HSZ : Hid (w.heap.size ≤ (w3.alloc (.cells (ndV (x.1, s, t)) 75)).heap.size) := Lib.hid (by have := hB.out.size; have := HB3.out.size; simp; omega))
        | (with_reducible refine wpList_slice_one rfl 41 _ rfl Try.underlying41 (ndV (x.1, s, t)) (infoNode2 (x.1, s, t)) (ndZ_sz (x.1, s, t)) (ndV_pos (x.1, s, t)) (ndV_lim (x.1, s, t)) rfl ?_)
        | (at_builtin; refine wpList_app rfl _ _ 41 rfl w.heap.size 75 _ 10 120 Try.underlying41 infoNode rfl (by decide) (by decide) rfl HOW.out rfl (nd_newc w3 (x.1, s, t)) (nd_one [(x.1, s, t)]) (by omega) HSZ.out ?_; intro a4 c4 w4 ho4 hg4))
      have hN := hI.out.app (x := (x.1, s, t)) hB.out.size HO3.out HT3.out HB3.out hg4 ho4
      have hA3 : Below w3.heap.size w3 (w3.alloc (.cells (ndV (x.1, s, t)) 75)) := (Below.refl _ _).alloc (Nat.le_refl _) _
      have q0 := row_below (row_below hr0.out HB3.out) hA3
      have q1 := row_below (row_below hr1.out HB3.out) hA3
      refine ⟨⟨k + 1, a4, c4, _, by omega, by go_num, rfl, Lib.hid hN, Lib.hid (by rw [List.map_append, hM.out, HMP.out]; rfl), Lib.hid ?_, Lib.hid (row_grown q0 hg4 (fun e => own_ne_row HOW.out q0 (by decide) e.symm)), Lib.hid (row_grown q1 hg4 (fun e => own_ne_row HOW.out q1 (by decide) e.symm))⟩, by simp [intOf]; omega⟩
      exact (((hB.out.trans (HB3.out.mono hB.out.size)).alloc (by have := hB.out.size; have := HB3.out.size; omega) _).grown hg4 HSZ.out (fun j hj => (HOW.out.lt j hj).1))
    · obtain rfl : k = n := by omega
      go_wp2_with (refine wpList_store_row rfl _ _ _ rfl (w.heap.size + 1) rfl #[.slice a1 k c1] rfl #[.slice none 0 0] 43 hr1.out rfl (sizeGr _) (by simp [Value.oneCell']) ?_)
      have := hM.out
      rw [List.take_of_length_le (by have := HL.out; omega)] at this
      refine bodyPost_ret (results_cell_row rfl _ _ (w.heap.size + 1) 43 _ (0, 0) _ rfl (setRow_heap _ _ _ _ _ _ hr1.out) Try.underlying43 rfl (sizeGr _)) rfl ?_
      have hq : NewNd (wr.setRow (w.heap.size + 1) #[.slice a1 k c1]) w.heap.size a1 k c1 S1 := ⟨setRow_own hI.out.own hr1.out (by decide), fun x hx => setRow_own (hI.out.dat x hx) hr1.out (by decide), fun x hx => setRow_own (hI.out.ent x hx) hr1.out (by decide)⟩
      have hq2 : Below w.heap.size w (wr.setRow (w.heap.size + 1) #[.slice a1 k c1]) := Below.setRow hB.out (by omega) _
      refine ⟨a1, k, c1, ?_⟩
      first | exact ⟨S1, rfl, hq, this, hq2⟩ | exact ⟨rfl, S1, hq, this, hq2⟩ | exact ⟨rfl, ⟨S1, hq, this⟩, hq2⟩
end Gr
end Go.Proofs.Ytpdkdhcbibcifaa
namespace Go.Proofs.Ytpdkdhcbibcifaa
set_option linter.unusedVariables false
set_option linter.unusedSimpArgs false
open Go.ChangeShapes Go.WideShapes Go.ChangeAt Go.RowKit
set_option maxRecDepth 100000
variable {H : Type} {enc : TypeId × Value → H} {w : World}
theorem readE_str {P : Program} {t : TypeId} {fuel : Nat} {cs : List Value} {d : DataW H} {p : List MemPlace} (ht : P.underlying t = some .string) (h : DataW.trod enc P w 0 (fun _ => true) true fuel t cs = some (d, p)) (hs : Sized P t d) :
    ∃ l : List UInt8, cs = [.string ⟨l.toArray⟩] ∧ l.length ≤ 140737488351232 := by
  obtain ⟨s, rfl, hx, _⟩ := DataW.trod_string ht h
  simp only [Prod.mk.injEq] at hx
  obtain ⟨rfl, rfl⟩ := hx
  refine ⟨s.data.toList, rfl, ?_⟩
  have := hs s.data.toList.length (by simp only [DataW.weights]; exact List.mem_cons_self)
  simpa only [reachBytes] using this
theorem readE_int {P : Program} {t : TypeId} {fuel : Nat} {cs : List Value} {d : DataW H} {p : List MemPlace} (ht : P.underlying t = some (.int .i64)) (h : DataW.trod enc P w 0 (fun _ => true) true fuel t cs = some (d, p)) :
    ∃ z, cs = [.int .i64 z] ∧ -9223372036854775808 ≤ z ∧ z < 9223372036854775808 := by
  obtain ⟨z, rfl, _, hz⟩ := DataW.trod_int ht h
  exact ⟨z, rfl, wf_i64 hz⟩
theorem eachE_mem {P : Program} {ts : List TypeId} {ds : List (DataW H)} {t : TypeId} {d : DataW H} (j : Nat) (ht : ts[j]? = some t) (hd : ds[j]? = some d) (h : ∀ m ∈ DataW.weightsEach P ts ds, m ≤ reachBytes) : Sized P t d :=
  fun m hm => h m (DataW.weights_mem_each ht hd m hm)
/-- a slice of bytes among the cells -/
theorem readE_bytes {P : Program} {t e : TypeId} {fuel : Nat} {cs : List Value} {d : DataW H} {p : List MemPlace} (ht : P.underlying t = some (.slice e)) (he : P.underlying e = some (.int .u8)) (hc : P.cellsOf e = 1) (hby : P.bytesOf e = 1)
    (h : DataW.trod enc P w 0 (fun _ => true) true fuel t cs = some (d, p)) (hs : Sized P t d) : ∃ a n c l, cs = [.slice a n c] ∧ Bs w a n c l ∧ c ≤ 140737488351232 := by
  have hcs : ∃ a n c, cs = [.slice a n c] := by
    rcases open_ints ht he hc h with ⟨hcs, _⟩ | ⟨x, l, c', zs, hcs, _⟩
    · exact ⟨_, _, _, hcs⟩
    · exact ⟨_, _, _, hcs⟩
  obtain ⟨a, n, c, rfl⟩ := hcs
  obtain ⟨a', n', c', l, hv, hb, hr⟩ := open_bytes_trod (_hv := rfl) ht he hc hby h hs
  cases hv
  exact ⟨a, n, c, l, rfl, hb, hr⟩
theorem read_entry {fuel : Nat} {cs : List Value} {d : DataW H} {p : List MemPlace} (h : DataW.trod enc Try.prog w 0 (fun _ => true) true fuel 39 cs = some (d, p)) (hs : Sized Try.prog 39 d) :
    ∃ (k : Int) (name link : List UInt8) (mode uid gid : Int) (user group : List UInt8) (sec nano : Int) (a : Option Addr) (n c : Nat) (x : List UInt8),
      cs = [.int .i64 k, .string ⟨name.toArray⟩, .string ⟨link.toArray⟩, .int .i64 mode, .int .i64 uid, .int .i64 gid, .string ⟨user.toArray⟩, .string ⟨group.toArray⟩, .int .i64 sec, .int .i64 nano, .slice a n c] ∧
      Bs w a n c x ∧ name.length ≤ 140737488351232 ∧ link.length ≤ 140737488351232 ∧ user.length ≤ 140737488351232 ∧ group.length ≤ 140737488351232 ∧ c ≤ 140737488351232 := by
  obtain ⟨ys, n, _, hx, hlen, hyl, hf⟩ := DataW.trod_struct Try.underlying39 h
  simp only [Prod.mk.injEq] at hx
  obtain ⟨rfl, rfl⟩ := hx
  have hc : Try.prog.cellsOf 39 = 11 := by kernel_rfl
  have hcs : Try.prog.cellsOf 9 = 1 := by kernel_rfl
  have hci : Try.prog.cellsOf 3 = 1 := by kernel_rfl
  have hcb : Try.prog.cellsOf 37 = 1 := by kernel_rfl
  have hct : Try.prog.cellsOf 36 = 2 := by kernel_rfl
  rw [hc] at hlen
  have hs' : ∀ m ∈ DataW.weightsEach Try.prog [3, 9, 9, 3, 3, 3, 9, 9, 36, 37] (ys.map (·.1)), m ≤ reachBytes := fun m hm => hs m (by simp only [DataW.weights, Try.underlying39]; exact hm)
  match cs, hlen, ys, hyl, hf, hs' with
  | [c0, c1, c2, c3, c4, c5, c6, c7, c8, c9, c10], _, [y0, y1, y2, y3, y4, y5, y6, y7, y8, y9], _, hf, hs' =>
    have h0 : DataW.trod enc Try.prog w 0 (fun _ => true) true n 3 [c0] = some y0 := by have := hf 0 _ rfl; simpa [hci] using this
    have h1 : DataW.trod enc Try.prog w 0 (fun _ => true) true n 9 [c1] = some y1 := by have := hf 1 _ rfl; simpa [hcs] using this
    have h2 : DataW.trod enc Try.prog w 0 (fun _ => true) true n 9 [c2] = some y2 := by have := hf 2 _ rfl; simpa [hcs] using this
    have h3 : DataW.trod enc Try.prog w 0 (fun _ => true) true n 3 [c3] = some y3 := by have := hf 3 _ rfl; simpa [hci] using this
    have h4 : DataW.trod enc Try.prog w 0 (fun _ => true) true n 3 [c4] = some y4 := by have := hf 4 _ rfl; simpa [hci] using this
    have h5 : DataW.trod enc Try.prog w 0 (fun _ => true) true n 3 [c5] = some y5 := by have := hf 5 _ rfl; simpa [hci] using this
    have h6 : DataW.trod enc Try.prog w 0 (fun _ => true) true n 9 [c6] = some y6 := by have := hf 6 _ rfl; simpa [hcs] using this
    have h7 : DataW.trod enc Try.prog w 0 (fun _ => true) true n 9 [c7] = some y7 := by have := hf 7 _ rfl; simpa [hcs] using this
    have h8 : DataW.trod enc Try.prog w 0 (fun _ => true) true n 36 [c8, c9] = some y8 := by have := hf 8 _ rfl; simpa [hct] using this
    have h9 : DataW.trod enc Try.prog w 0 (fun _ => true) true n 37 [c10] = some y9 := by have := hf 9 _ rfl; simpa [hcb] using this
    obtain ⟨zs, n', _, hx, _, hzl, hg⟩ := DataW.trod_struct Try.underlying36 h8
    match zs, hzl, hg with
    | [z0, z1], _, hg =>
      have g0 : DataW.trod enc Try.prog w 0 (fun _ => true) true n' 3 [c8] = some z0 := by have := hg 0 _ rfl; simpa [hci] using this
      have g1 : DataW.trod enc Try.prog w 0 (fun _ => true) true n' 3 [c9] = some z1 := by have := hg 1 _ rfl; simpa [hci] using this
      obtain ⟨k, e0, _⟩ := readE_int Try.underlying3 h0
      obtain ⟨name, e1, l1⟩ := readE_str Try.underlying9 h1 (eachE_mem 1 rfl rfl hs')
      obtain ⟨link, e2, l2⟩ := readE_str Try.underlying9 h2 (eachE_mem 2 rfl rfl hs')
      obtain ⟨mode, e3, _⟩ := readE_int Try.underlying3 h3
      obtain ⟨uid, e4, _⟩ := readE_int Try.underlying3 h4
      obtain ⟨gid, e5, _⟩ := readE_int Try.underlying3 h5
      obtain ⟨user, e6, l6⟩ := readE_str Try.underlying9 h6 (eachE_mem 6 rfl rfl hs')
      obtain ⟨group, e7, l7⟩ := readE_str Try.underlying9 h7 (eachE_mem 7 rfl rfl hs')
      obtain ⟨sec, e8, _⟩ := readE_int Try.underlying3 g0
      obtain ⟨nano, e9, _⟩ := readE_int Try.underlying3 g1
      obtain ⟨a, m, c, x, e10, hb, hr⟩ := readE_bytes Try.underlying37 Try.underlying5 (by kernel_rfl) (by kernel_rfl) h9 (eachE_mem 9 rfl rfl hs')
      simp only [List.cons.injEq, and_true] at e0 e1 e2 e3 e4 e5 e6 e7 e8 e9 e10
      subst e0 e1 e2 e3 e4 e5 e6 e7 e8 e9 e10
      exact ⟨k, name, link, mode, uid, gid, user, group, sec, nano, a, m, c, x, rfl, hb, l1, l2, l6, l7, hr⟩
theorem open_entry {v : Value} {d : DataW H} {p : List MemPlace} {r : Reach} {b0 : Nat} (hv : Value.okWide Try.prog w r b0 39 v) (h : DataW.Trod enc Try.prog w 0 (fun _ => true) true 39 v d p) (hs : Sized Try.prog 39 d) :
    ∃ (k : Int) (name link : List UInt8) (mode uid gid : Int) (user group : List UInt8) (sec nano : Int) (a : Option Addr) (n c : Nat) (x : List UInt8), v = entV k name link mode uid gid user group sec nano a n c ∧
      Bs w a n c x ∧ name.length ≤ 140737488351232 ∧ link.length ≤ 140737488351232 ∧ user.length ≤ 140737488351232 ∧ group.length ≤ 140737488351232 ∧ c ≤ 140737488351232 := by
  obtain ⟨cs, rfl, _⟩ := okWide_struct Try.underlying39 hv
  obtain ⟨fuel, hf⟩ := h
  obtain ⟨k, name, link, mode, uid, gid, user, group, sec, nano, a, n, c, x, e, r⟩ := read_entry hf hs
  refine ⟨k, name, link, mode, uid, gid, user, group, sec, nano, a, n, c, x, congrArg Value.agg ?_, r⟩
  exact Array.ext' e
end Go.Proofs.Ytpdkdhcbibcifaa
namespace Go.Proofs.Ytpdkdhcbibcifaa
set_option linter.unusedVariables false
set_option linter.unusedSimpArgs false
set_option maxRecDepth 100000
open Go.ChangeShapes Go.WideShapes Go.ChangeAt Go.RowKit
namespace Gr
variable {H : Type} {enc : TypeId × Value → H} {w : World}
/-- a slice of aggregates among the cells -/
theorem open_rows {α : Type} {f : α → List Value} {sz : Nat} {tS tE : TypeId} (hu : Try.prog.underlying tS = some (.slice tE)) (hc : Try.prog.cellsOf tE = sz) (hf : ∀ x, (f x).length = sz) (hpos : 0 < sz) (Ok : α → Prop) (x0 : α)
    (each : ∀ fuel cs d p, DataW.trod enc Try.prog w 0 (fun _ => true) true fuel tE cs = some (d, p) → Rows.uptoBulk d ≤ 1048576 → ∃ x, cs = f x ∧ Ok x)
    {fuel : Nat} {cs : List Value} {d : DataW H} {p : List MemPlace} (h : DataW.trod enc Try.prog w 0 (fun _ => true) true fuel tS cs = some (d, p)) (hs : Rows.uptoBulk d ≤ 1048576) :
    ∃ (a : Option Addr) (n c : Nat) (S : List α), cs = [.slice a n c] ∧ IsSl w sz a n c (S.flatMap f) ∧ (∀ x ∈ S, Ok x) ∧ n ≤ 1048576 := by
  rcases Go.Deep.open_slice hu h with ⟨hcs, _⟩ | ⟨x, l, c', m, k, D, Pl, hcs, _, hl, hm, hmm, hx, hi⟩
  · subst hcs
    exact ⟨none, 0, 0, [], rfl, ⟨by simp, Nat.le_refl _, by decide, fun j v hj => by simp at hj, fun _ => ⟨rfl, rfl⟩⟩, by simp, by omega⟩
  · subst hcs
    simp only [if_true] at hmm
    subst hmm
    simp only [Prod.mk.injEq] at hx
    obtain ⟨rfl, rfl⟩ := hx
    simp only [Rows.uptoBulk] at hs
    have hcnt : l ≤ 1048576 := by
      have h1 := bulk_len ((List.range l).map D)
      simp only [List.length_map, List.length_range] at h1
      omega
    have hel : ∀ i, ∃ y : α, i < l → (∀ j v, (f y)[j]? = some v → w.cell? ((x.add (i * sz)).add j) = some v) ∧ Ok y := by
      intro i
      by_cases hin : i < l
      · obtain ⟨cs, hcell, htr⟩ := hi i (by omega)
        have hsd : Rows.uptoBulk (D i) ≤ 1048576 := by
          have := bulk_mem (List.mem_map.2 ⟨i, List.mem_range.2 hin, rfl⟩ : D i ∈ (List.range l).map D)
          omega
        obtain ⟨y, rfl, hq⟩ := each _ _ _ _ htr hsd
        obtain ⟨_, hlen, hat⟩ := World.cells?_some hcell
        rw [hc] at hat hlen
        refine ⟨y, fun _ => ⟨fun j v hj => ?_, hq⟩⟩
        have hjl : j < sz := by have := (List.getElem?_eq_some_iff.1 hj).1; rw [hf] at this; exact this
        rw [hat j hjl]; exact hj
      · exact ⟨x0, fun h => absurd h hin⟩
    obtain ⟨g, hg⟩ := Classical.skolem.1 hel
    refine ⟨some x, l, m, (List.range l).map g, rfl, ⟨by rw [flat_len hf]; simp, hl, hm, fun j v hj => ⟨x, rfl, ?_⟩, fun h => by cases h⟩, fun y hy => ?_, hcnt⟩
    · have hjl : j < l * sz := by
        have := (List.getElem?_eq_some_iff.1 hj).1
        rw [flat_len hf] at this; simpa using this
      have hq : j / sz < l := by rw [Nat.div_lt_iff_lt_mul hpos]; exact hjl
      have e : j = j / sz * sz + j % sz := by rw [Nat.mul_comm]; exact (Nat.div_add_mod j sz).symm
      rw [e] at hj
      rw [flat_at hf _ _ _ (by simpa using hq) (Nat.mod_lt _ hpos)] at hj
      simp only [List.getElem_map, List.getElem_range] at hj
      have := (hg (j / sz) hq).1 (j % sz) v hj
      rw [Go.Deep.add_add] at this
      rw [e]; exact this
    · obtain ⟨i, hi', rfl⟩ := List.mem_map.1 hy
      exact (hg i (List.mem_range.1 hi')).2
theorem upto_intR {P : Program} {t : TypeId} {fuel : Nat} {cs : List Value} {d : DataW H} {p : List MemPlace} (ht : P.underlying t = some (.int .i64)) (h : DataW.trod enc P w 0 (fun _ => true) true fuel t cs = some (d, p)) :
    ∃ z, cs = [.int .i64 z] ∧ inI z := by
  obtain ⟨z, h1, h2, h3⟩ := readE_int ht h
  exact ⟨z, h1, by unfold inI; omega⟩
theorem upto_ent {fuel : Nat} {cs : List Value} {d : DataW H} {p : List MemPlace} (h : DataW.trod enc Try.prog w 0 (fun _ => true) true fuel 87 cs = some (d, p)) (hs : Rows.uptoBulk d ≤ 1048576) :
    ∃ e : Bt × Int, cs = etCells e ∧ inI e.2 := by
  obtain ⟨ys, n, _, hx, hlen, hyl, hf⟩ := DataW.trod_struct Try.underlying87 h
  simp only [Prod.mk.injEq] at hx
  obtain ⟨rfl, rfl⟩ := hx
  have hc : Try.prog.cellsOf 87 = 2 := by kernel_rfl
  have hcs : Try.prog.cellsOf 9 = 1 := by kernel_rfl
  have hci : Try.prog.cellsOf 3 = 1 := by kernel_rfl
  rw [hc] at hlen
  have hs' : ∀ y ∈ ys, Rows.uptoBulk y.1 ≤ 1048576 := fun y hy => by
    have h1 := bulk_mem (List.mem_map.2 ⟨y, hy, rfl⟩ : y.1 ∈ ys.map (·.1))
    simp only [Rows.uptoBulk] at hs
    omega
  match cs, hlen, ys, hyl, hf, hs' with
  | [c0, c1], _, [y0, y1], _, hf, hs' =>
    have h0 : DataW.trod enc Try.prog w 0 (fun _ => true) true n 9 [c0] = some y0 := by have := hf 0 _ rfl; simpa [hcs] using this
    have h1 : DataW.trod enc Try.prog w 0 (fun _ => true) true n 3 [c1] = some y1 := by have := hf 1 _ rfl; simpa [hci] using this
    obtain ⟨nm, e0, _⟩ := upto_str Try.underlying9 h0 (hs' y0 (by simp))
    obtain ⟨id, e1, hid⟩ := upto_intR Try.underlying3 h1
    simp only [List.cons.injEq, and_true] at e0 e1
    subst e0 e1
    exact ⟨(nm, id), rfl, hid⟩
/-- what is known of a node that was read -/
structure NdOk (w : World) (x : NdS) : Prop where
  dat : Dat w x.2.1 x.1.data
  ent : Ets w x.2.2 x.1.ents
  id : inI x.1.id
  ids : ∀ e ∈ x.1.ents, inI e.2
  cap : x.2.1.2.1 ≤ 1048576
  len : x.2.2.2.1 ≤ 1048576
theorem upto_node {fuel : Nat} {cs : List Value} {d : DataW H} {p : List MemPlace} (h : DataW.trod enc Try.prog w 0 (fun _ => true) true fuel 75 cs = some (d, p)) (hs : Rows.uptoBulk d ≤ 1048576) :
    ∃ x : NdS, cs = ndCells x ∧ NdOk w x := by
  obtain ⟨ys, n, _, hx, hlen, hyl, hf⟩ := DataW.trod_struct Try.underlying75 h
  simp only [Prod.mk.injEq] at hx
  obtain ⟨rfl, rfl⟩ := hx
  have hc : Try.prog.cellsOf 75 = 10 := by kernel_rfl
  have hcs : Try.prog.cellsOf 9 = 1 := by kernel_rfl
  have hci : Try.prog.cellsOf 3 = 1 := by kernel_rfl
  have hcb : Try.prog.cellsOf 37 = 1 := by kernel_rfl
  have hce : Try.prog.cellsOf 73 = 1 := by kernel_rfl
  have hct : Try.prog.cellsOf 36 = 2 := by kernel_rfl
  rw [hc] at hlen
  have hs' : ∀ y ∈ ys, Rows.uptoBulk y.1 ≤ 1048576 := fun y hy => by
    have h1 := bulk_mem (List.mem_map.2 ⟨y, hy, rfl⟩ : y.1 ∈ ys.map (·.1))
    simp only [Rows.uptoBulk] at hs
    omega
  match cs, hlen, ys, hyl, hf, hs' with
  | [c0, c1, c2, c3, c4, c5, c6, c7, c8, c9], _, [y0, y1, y2, y3, y4, y5, y6, y7, y8], _, hf, hs' =>
    have h0 : DataW.trod enc Try.prog w 0 (fun _ => true) true n 3 [c0] = some y0 := by have := hf 0 _ rfl; simpa [hci] using this
    have h1 : DataW.trod enc Try.prog w 0 (fun _ => true) true n 3 [c1] = some y1 := by have := hf 1 _ rfl; simpa [hci] using this
    have h2 : DataW.trod enc Try.prog w 0 (fun _ => true) true n 3 [c2] = some y2 := by have := hf 2 _ rfl; simpa [hci] using this
    have h3 : DataW.trod enc Try.prog w 0 (fun _ => true) true n 3 [c3] = some y3 := by have := hf 3 _ rfl; simpa [hci] using this
    have h4 : DataW.trod enc Try.prog w 0 (fun _ => true) true n 3 [c4] = some y4 := by have := hf 4 _ rfl; simpa [hci] using this
    have h5 : DataW.trod enc Try.prog w 0 (fun _ => true) true n 36 [c5, c6] = some y5 := by have := hf 5 _ rfl; simpa [hct] using this
    have h6 : DataW.trod enc Try.prog w 0 (fun _ => true) true n 37 [c7] = some y6 := by have := hf 6 _ rfl; simpa [hcb] using this
    have h7 : DataW.trod enc Try.prog w 0 (fun _ => true) true n 9 [c8] = some y7 := by have := hf 7 _ rfl; simpa [hcs] using this
    have h8 : DataW.trod enc Try.prog w 0 (fun _ => true) true n 73 [c9] = some y8 := by have := hf 8 _ rfl; simpa [hce] using this
    obtain ⟨zs, n', _, hx, _, hzl, hg⟩ := DataW.trod_struct Try.underlying36 h5
    match zs, hzl, hg with
    | [z0, z1], _, hg =>
      have g0 : DataW.trod enc Try.prog w 0 (fun _ => true) true n' 3 [c5] = some z0 := by have := hg 0 _ rfl; simpa [hci] using this
      have g1 : DataW.trod enc Try.prog w 0 (fun _ => true) true n' 3 [c6] = some z1 := by have := hg 1 _ rfl; simpa [hci] using this
      obtain ⟨id, e0, hid⟩ := upto_intR Try.underlying3 h0
      obtain ⟨kind, e1⟩ := upto_int Try.underlying3 h1
      obtain ⟨mode, e2⟩ := upto_int Try.underlying3 h2
      obtain ⟨uid, e3⟩ := upto_int Try.underlying3 h3
      obtain ⟨gid, e4⟩ := upto_int Try.underlying3 h4
      obtain ⟨sec, e5⟩ := upto_int Try.underlying3 g0
      obtain ⟨nano, e6⟩ := upto_int Try.underlying3 g1
      obtain ⟨a, m, c, x, e7, hb, hr⟩ := upto_bytes Try.underlying37 Try.underlying5 (by kernel_rfl) h6 (hs' y6 (by simp))
      obtain ⟨target, e8, l8⟩ := upto_str Try.underlying9 h7 (hs' y7 (by simp))
      obtain ⟨ea, en, ec, es, e9, he, hei, hel⟩ := open_rows (f := etCells) (sz := 2) Try.underlying73 (by kernel_rfl) etCells_len (by decide) (fun e => inI e.2) ([], 0) (fun _ _ _ _ ht hb => upto_ent ht hb) h8 (hs' y8 (by simp))
      simp only [List.cons.injEq, and_true] at e0 e1 e2 e3 e4 e5 e6 e7 e8 e9
      subst e0 e1 e2 e3 e4 e5 e6 e7 e8 e9
      have hn := hb.cap
      exact ⟨(⟨id, kind, mode, uid, gid, sec, nano, x, target, es⟩, (a, m, c), (ea, en, ec)), rfl, hb, he, hid, hei, by simp only; omega, hel⟩
/-- a graph that was read -/
structure GrOk (w : World) (a : Option Addr) (n c : Nat) (S : List NdS) : Prop where
  nds : Nds w a n c S
  num : n ≤ 1048576
  ok : ∀ x ∈ S, NdOk w x
theorem open_graph {v : Value} {d : DataW H} {p : List MemPlace} {r : Reach} {b0 : Nat} (hv : Value.okWide Try.prog w r b0 43 v) (h : DataW.Trod enc Try.prog w 0 (fun _ => true) true 43 v d p) (hs : Rows.uptoBulk d ≤ 1048576) :
    ∃ (a : Option Addr) (n c : Nat) (S : List NdS), v = .agg #[.slice a n c] ∧ GrOk w a n c S := by
  obtain ⟨cs, rfl, _⟩ := okWide_struct Try.underlying43 hv
  obtain ⟨fuel, hf⟩ := h
  obtain ⟨ys, n, _, hx, hlen, hyl, hg⟩ := DataW.trod_struct Try.underlying43 hf
  simp only [Prod.mk.injEq] at hx
  obtain ⟨rfl, rfl⟩ := hx
  have hc : Try.prog.cellsOf 43 = 1 := by kernel_rfl
  have hcn : Try.prog.cellsOf 41 = 1 := by kernel_rfl
  rw [hc] at hlen
  have hs' : ∀ y ∈ ys, Rows.uptoBulk y.1 ≤ 1048576 := fun y hy => by
    have h1 := bulk_mem (List.mem_map.2 ⟨y, hy, rfl⟩ : y.1 ∈ ys.map (·.1))
    simp only [Rows.uptoBulk] at hs
    omega
  have e0 : (Value.agg cs).cells.toList = cs.toList := rfl
  rw [e0] at hlen hg
  generalize hcs : cs.toList = l at hlen hg
  match l, hlen, ys, hyl, hg, hs' with
  | [c0], _, [y0], _, hg, hs' =>
    have h0 : DataW.trod enc Try.prog w 0 (fun _ => true) true n 41 [c0] = some y0 := by have := hg 0 _ rfl; simpa [hcn] using this
    obtain ⟨a, m, c, S, e1, hS, hok, hm⟩ := open_rows (f := ndCells) (sz := 10) Try.underlying41 (by kernel_rfl) ndCells_len (by decide) (NdOk w) (⟨0, 0, 0, 0, 0, 0, 0, [], [], []⟩, (none, 0, 0), (none, 0, 0)) (fun _ _ _ _ ht hb => upto_node ht hb) h0 (hs' y0 (by simp))
    simp only [List.cons.injEq, and_true] at e1
    subst e1
    exact ⟨a, m, c, S, congrArg Value.agg (Array.ext' hcs), ⟨hS, fun x hx => (hok x hx).dat, fun x hx => (hok x hx).ent⟩, hm, hok⟩
end Gr
end Go.Proofs.Ytpdkdhcbibcifaa
namespace Go.Proofs.Ytpdkdhcbibcifaa
set_option linter.unusedVariables false
set_option linter.unusedSimpArgs false
open Go.ChangeShapes Go.WideShapes Go.ChangeAt Go.RowKit
namespace Gr
/-- what Tree leaves where it comes through -/
structure TreeGot (g : List Nd) (root : Int) (w' : World) (B : Nat) (a : Option Addr) (n c : Nat) (SL : List LnS) : Prop where
  tree : TreeOk g root (lOf SL)
  lns : Lns w' a n c SL
  num : LnNum SL
theorem TreeGot.mk' {g : List Nd} {root : Int} {w' : World} {B : Nat} {a : Option Addr} {n c : Nat} {SL : List LnS} (hd : ∀ x ∈ g, x.data.length ≤ 140737488355328) (h : TreeOk g root (SL.map (·.1)) ∧ w'.ownsRow B 51 10 (.slice a n c) n (SL.flatMap lnCells) ∧ (∀ x ∈ SL, Own w' B x.2 x.1.data) ∧ n ≤ 4194304) : TreeGot g root w' B a n c SL := by
  obtain ⟨h1, h2, h3, _⟩ := h
  refine ⟨h1, ⟨own_isSl h2, fun x hx => (h3 x hx).dat⟩, ⟨?_, fun x hx => ?_, fun x hx => ?_⟩⟩
  · have := tree_num h1
    rw [List.length_map] at this; omega
  · have e1 := (h3 x hx).dat.len
    rcases tree_data h1 x.1 (List.mem_map.2 ⟨x, hx, rfl⟩) with h4 | ⟨n, hn, h4⟩
    · rw [h4] at e1; simp at e1; omega
    · have := hd n hn
      rw [h4] at e1; omega
  · have hm : x.1 ∈ SL.map (·.1) := List.mem_map.2 ⟨x, hx, rfl⟩
    exact ⟨tree_path h1 _ hm, tree_peer h1 _ hm⟩
theorem take_getD {l : Bt} {m q : Nat} (h : q < m) : (l.take m).getD q 0 = l.getD q 0 := by
  rw [List.getD_eq_getElem?_getD, List.getElem?_take, if_pos h, ← List.getD_eq_getElem?_getD]
theorem cutT_no {l : Bt} {m : Nat} (h : ∀ q, q < m → l.getD q 0 ≠ 47) : cutOf (l.take m) = none := by
  refine cutOf_none.2 fun hm => ?_
  obtain ⟨q, hq⟩ := List.mem_iff_getElem?.1 hm
  have hlt : q < m := by have := (List.getElem?_eq_some_iff.1 hq).1; rw [List.length_take] at this; omega
  refine h q hlt ?_
  rw [← take_getD hlt, List.getD_eq_getElem?_getD, hq]; rfl
theorem cutT_at {l : Bt} {m c : Nat} (hc : c < m) (hm : m ≤ l.length) (h1 : l.getD c 0 = 47) (h2 : ∀ q, c < q → q < m → l.getD q 0 ≠ 47) : cutOf (l.take m) = some c := by
  have hlen : (l.take m).length = m := by rw [List.length_take]; omega
  refine cutOf_some.2 ⟨(l.take m).take c, (l.take m).drop (c + 1), ?_, by rw [List.length_take, hlen]; omega, fun hx => ?_⟩
  · have hcl : c < (l.take m).length := by omega
    have : (l.take m)[c] = 47 := by
      have h3 := take_getD (l := l) hc
      rw [h1, List.getD_eq_getElem?_getD, List.getElem?_eq_getElem hcl] at h3
      exact h3
    rw [← this, ← List.drop_eq_getElem_cons hcl, List.take_append_drop]
  · obtain ⟨q, hq⟩ := List.mem_iff_getElem?.1 hx
    rw [List.getElem?_drop] at hq
    have hlt : c + 1 + q < m := by have := (List.getElem?_eq_some_iff.1 hq).1; omega
    refine h2 (c + 1 + q) (by omega) hlt ?_
    rw [← take_getD hlt, List.getD_eq_getElem?_getD, hq]; rfl
theorem fits_en (x : EnS) (w : World) (hd : Dat w x.2 x.1.data) (h : fitE x.1 = true) : Calls Try.prog 18 #[.agg (enV x)] w fun r w' => r = .returned (.bool true) ∧ Below w.heap.size w w' := by
  have hl := hd.len
  have hn : x.1.name.length ≤ 140737488351232 := by
    have h2 := (Plain.fitB_true.1 h).2.1.1
    simp only [Plain.txt, Bool.and_eq_true, Bool.not_eq_true', decide_eq_false_iff_not] at h2
    omega
  have := Fits_any x.1.kind x.1.name x.1.link x.1.mode x.1.uid x.1.gid x.1.user x.1.group x.1.sec x.1.nano x.2.1 x.2.2.1 x.2.2.2 w hn
  refine this.mono ?_
  rintro e w' ⟨rfl, hb⟩
  refine ⟨?_, hb⟩
  unfold fitE at h
  rw [hl] at h
  rw [h]
theorem nds_addr {w : World} {a : Option Addr} {n c : Nat} {S : List NdS} (h : Nds w a n c S) : ∃ b off, S ≠ [] → a = some ⟨b, off, none⟩ := by
  cases S with
  | nil => exact ⟨0, 0, fun h => absurd rfl h⟩
  | cons x S =>
    obtain ⟨b, off, ha, _⟩ := h.at 0 x rfl
    exact ⟨b, off, fun _ => ha⟩
/-- what the copy of a graph is known to be -/
structure GrCp (w : World) (a : Option Addr) (n c : Nat) (S : List NdS) : Prop where
  nds : Nds w a n c S
  num : NdNum S
  dat : ∀ x ∈ S, x.2.1.2.1 ≤ 140737488355328
theorem GrCp.mk' {w w' : World} {B : Nat} {a a' : Option Addr} {n n' c c' : Nat} {S S' : List NdS} (h : GrOk w a n c S) (hn : NewNd w' B a' n' c' S') (hm : S'.map (·.1) = S.map (·.1)) : GrCp w' a' n' c' S' := by
  have hof : ∀ x ∈ S', ∃ y ∈ S, x.1 = y.1 := fun x hx => by
    have : x.1 ∈ S.map (·.1) := by rw [← hm]; exact List.mem_map.2 ⟨x, hx, rfl⟩
    obtain ⟨y, hy, e⟩ := List.mem_map.1 this
    exact ⟨y, hy, e.symm⟩
  refine ⟨hn.nds, ⟨fun x hx => ?_, fun x hx => ?_, fun x hx => ?_⟩, fun x hx => ?_⟩ <;> obtain ⟨y, hy, e⟩ := hof x hx
  · rw [e]; exact (h.ok y hy).id
  · rw [e]; exact (h.ok y hy).ids
  · have h1 := (hn.nds.ent x hx).len; have h2 := (h.ok y hy).ent.len; have h3 := (h.ok y hy).len
    rw [e] at h1; omega
  · have h1 := (hn.nds.dat x hx).len; have h2 := (h.ok y hy).dat.len; have h3 := (h.ok y hy).cap
    rw [e] at h1; omega
set_option maxRecDepth 100000 in
set_option maxHeartbeats 4000000 in
theorem GatherFits_walk (a0 : Option Addr) (n0 c0 : Nat) (S0 : List NdS) (root : Int) (w : World) (hG : GrOk w a0 n0 c0 S0) (hr1 : -9223372036854775808 ≤ root) (hr2 : root < 9223372036854775808) :
    Calls Try.prog 5 #[.agg #[.slice a0 n0 c0], .int .i64 root] w fun r w' => r = .returned (.bool true) ∧ Below w.heap.size w w' := by
  have hl0 := hG.nds.len
  have hB1 : Below w.heap.size w (w.alloc (.cells #[.slice a0 n0 c0] 43)) := (Below.refl _ _).alloc (Nat.le_refl _) _
  have hbx := heap_alloc_new w (.cells #[.slice a0 n0 c0] 43)
  have HBW := Lib.hid hB1; have HBX := Lib.hid hbx; have HG := Lib.hid hG
  clear hB1 hbx hG hl0
  go_enter Try.func5, Try.ntmps5
  go_upto_region 1 with fail
  generalize w.alloc (.cells #[.slice a0 n0 c0] 43) = w0 at *
  go_upto_region 3 with (go_at_call 9; (refine (alive_any _).mono ?_); rintro r w1 ⟨rfl, hb1⟩; have HB1 := Lib.hid (Below.seq HBW.out hb1); have HX1 := Lib.hid (row_below HBX.out hb1); clear hb1)
  have cg : w1.cell? ⟨w.heap.size, 0, none⟩ = some (.slice a0 n0 c0) := by rw [row_cell HX1.out]; rfl
  have HCG : Hid (Calls Try.prog 17 #[.agg #[.slice a0 n0 c0]] w1 fun r w' => ∃ (a' : Option Addr) (n' c' : Nat) (S' : List NdS), r = .returned (.agg #[.slice a' n' c']) ∧ NewNd w' w1.heap.size a' n' c' S' ∧ S'.map (·.1) = S0.map (·.1) ∧ Below w1.heap.size w1 w') := Lib.hid (CopyG_any a0 n0 c0 S0 w1 (HG.out.nds.below HB1.out) (by have := HG.out.num; omega) (fun x hx => ⟨by have := (HG.out.ok x hx).cap; omega, by have := (HG.out.ok x hx).len; omega⟩))
  go_upto_region 4 with (first
    | (go_at_call 17; (refine (HCG.out).mono ?_); rintro r w2 ⟨a2, n2, c2, S2, rfl, hn2, hm2, hb2⟩; have HCP := Lib.hid (GrCp.mk' HG.out hn2 hm2); have HM2 := Lib.hid hm2; have HB2 := Lib.hid (Below.seq HB1.out hb2); clear hn2 hm2 hb2; obtain ⟨b2, off2, hadr⟩ := nds_addr HCP.out.nds; have HAD := Lib.hid hadr; clear hadr; dsimp only)
    | (go_at_call 16; (refine (Tree_any a2 n2 c2 b2 off2 S2 root w2 HCP.out.nds HAD.out HCP.out.num ⟨hr1, by omega⟩ HCP.out.dat).mono ?_); rintro r w3 ⟨a3, n3, c3, k3, SL, rfl, hb3, hyes, hno⟩; have HY := Lib.hid hyes; have HB3 := Lib.hid (Below.seq HB2.out hb3); clear hyes hno hb3; dsimp only))
  by_cases hk3 : k3 = 0
  · subst hk3
    have HTG : Hid (TreeGot (gOf S2) root w3 w2.heap.size a3 n3 c3 SL) := Lib.hid (TreeGot.mk' (fun x hx => by
      obtain ⟨y, hy, rfl⟩ := List.mem_map.1 hx
      have h1 := (HCP.out.nds.dat y hy).len; have h2 := HCP.out.dat y hy
      omega) (HY.out rfl))
    have HPL : Hid (Planted false (lOf SL)) := Lib.hid (tree_planted HTG.out.tree)
    clear HY HCP HM2 HAD HG HCG HX1 HBX cg
    go_upto_region 7 with (go_at_call 11; (refine (Entries_any a3 n3 c3 SL w3 HTG.out.lns HTG.out.num).mono ?_); rintro r w4 ⟨a4, n4, c4, k4, S4, rfl, hb4, hn4, hc4, hd4, he4, hf4, hg4⟩; have HN4 := Lib.hid hn4; have HB4 := Lib.hid (Below.seq HB3.out hb4); have HK4 : Hid ((k4 = 0 ∧ Gath (lOf SL) ∧ S4.map (·.1) = (lOf SL).map entOf) ∨ (k4 = 93 ∧ n4 = 0)) := Lib.hid (by
        rcases he4 with e | e | e
        · exact Or.inl ⟨e, hc4.1 e, hf4 e⟩
        · exact absurd HPL.out (hd4.1 e)
        · refine Or.inr ⟨e, ?_⟩
          have h1 := hg4 (by omega)
          have h2 := hn4.len
          rw [h1] at h2; simpa using h2.symm); clear hb4 hn4 hc4 hd4 he4 hf4 hg4; dsimp only)
    rcases HK4.out with ⟨rfl, hGa, hS4⟩ | ⟨rfl, rfl⟩
    · have hlen4 : n4 = n3 := by
        have h1 := HN4.out.len; have h2 := HTG.out.lns.len
        have h3 := congrArg List.length hS4
        rw [List.length_map, List.length_map, List.length_map] at h3
        omega
      have HFO : Hid (FitOk (S4.map (·.1))) := Lib.hid (by rw [hS4]; exact tree_fits HTG.out.tree hGa.2)
      clear hS4 hGa HK4
      obtain ⟨e0, he0, hne0⟩ := HFO.out.head
      obtain ⟨x0, hx0, rfl⟩ : ∃ x0, S4[0]? = some x0 ∧ x0.1 = e0 := by
        rw [List.getElem?_map] at he0
        cases h : S4[0]? with
        | none => rw [h] at he0; cases he0
        | some x => rw [h] at he0; exact ⟨x, rfl, Option.some.inj he0⟩
      have hl4 := HN4.out.len
      have hpos : 0 < n4 := by have := (List.getElem?_eq_some_iff.1 hx0).1; omega
      have HL4 := Lib.hid hl4; have HLE := Lib.hid hlen4
      clear hlen4
      have HH0 := Lib.hid hx0; have HE0 := Lib.hid hne0
      have hcap := HN4.out.ens.cap; have hmax := HN4.out.ens.max
      clear he0 hne0 hx0 hl4
      go_wp2
      go_loopw [8] (fun i wr => ∃ k : Nat, k ≤ n4 ∧ i = .int .i64 k ∧ Hid (Below w4.heap.size w4 wr)) (fun i _ => n4 - (intOf i).toNat)
      case atStart => exact ⟨0, Nat.zero_le _, rfl, Lib.hid (Below.refl _ _)⟩
      case round =>
        obtain ⟨k, hk, rfl, hbel⟩ := hrel
        by_cases hlt : k < n4
        · obtain ⟨x, hxk⟩ := get_some (S := S4) (k := k) (by have := HL4.out; omega)
          obtain ⟨b, off, rfl, hr⟩ := (HN4.out.ens.below hbel.out).at k x hxk
          have hek : (S4.map (·.1))[k]? = some x.1 := mapfst_get hxk
          have hfit : fitE x.1 = true := HFO.out.fits x.1 (mem_get hek)
          have HFT := Lib.hid (fits_en x wr ((HN4.out.ens.below hbel.out).dat x (mem_get hxk)) hfit)
          have hnm : 1 ≤ x.1.name.length ∧ x.1.name.length ≤ 4096 := by
            have h2 := (Plain.fitB_true.1 hfit).2.1.1
            simp only [Plain.txt, Bool.and_eq_true, Bool.not_eq_true', decide_eq_false_iff_not] at h2
            omega
          have HPAR := Lib.hid (HFO.out.par k x.1 hek)
          have HR := Lib.hid hr
          clear hr hek hfit hxk
          go_upto_region 14 with (first
            | (refine wpList_load_midA rfl _ _ rfl b (off + k * 11) rfl (enV x) _ (by exact HR.out) Try.underlying39 rfl (by exact sizeE2 x) ?_)
            | (go_at_call 18; (refine (HFT.out).mono ?_); rintro r w5 ⟨rfl, hb5⟩; have HB5 := Lib.hid (Below.seq hbel.out hb5); have HRN := Lib.hid (range_keep HR.out (Below.keeps hb5)); clear hb5))
          have cN : w5.cell? ⟨b, off + k * 11 + 1, none⟩ = some (.string ⟨x.1.name.toArray⟩) := range_cell HRN.out 1 rfl
          clear HFT HR HRN hbel
          generalize x.1.name = name at *
          have hsz : (⟨name.toArray⟩ : ByteArray).size = name.length := rfl
          obtain ⟨m, hm⟩ : ∃ m, name.length = m + 1 := ⟨name.length - 1, by omega⟩
          go_wp2
          go_loopw [10] (fun v wx => ∃ (c : Nat) (i : Int), v = .int .i64 i ∧ i + 1 = (c : Int) ∧ c ≤ m ∧ Hid (∀ q, c ≤ q → q < m → name.getD q 0 ≠ 47) ∧ wx = w5) (fun v _ => (intOf v + 1).toNat)
          case atStart => exact ⟨m, _, rfl, by omega, Nat.le_refl _, Lib.hid (fun q h1 h2 => by omega), by first | trivial | rfl⟩
          case round =>
            obtain ⟨c', i, rfl, hi, hc, hz, rfl⟩ := hrel
            go_upto_region 16 with fail
            go_cut [65] from 58 to 64 (fun v wx => v = .bool (decide (0 < c') && name.getD (c' - 1) 0 != 47) ∧ wx = wr)
            case first =>
              rcases c' with _ | c'
              · obtain rfl : i = -1 := by omega
                go_wp2_with fail
                go_meet
                exact ⟨rfl, rfl⟩
              · obtain rfl : i = (c' : Int) := by omega
                have hx := str_at name c' (by omega)
                have hge : decide ((0 : Int) ≤ (c' : Int)) = true := by simp
                cases hb : (name.getD c' 0 != 47) with
                | false =>
                  have h47 : name.getD c' 0 = 47 := by simpa using hb
                  rw [h47] at hx
                  go_wp2_with fail
                  go_meet
                  exact ⟨by rw [show decide (0 < c' + 1) = true by simp, Bool.true_and, Nat.add_sub_cancel, hb], rfl⟩
                | true =>
                  generalize hg : name.getD c' 0 = g at *
                  have hbb : ((g.toNat : Int) != 47) = true := by
                    rw [bne_iff_ne] at hb ⊢; intro h; exact hb (UInt8.toNat_inj.1 (by simpa using (by omega : g.toNat = 47)))
                  go_wp2_with fail
                  go_meet
                  exact ⟨by rw [show decide (0 < c' + 1) = true by simp, Bool.true_and, Nat.add_sub_cancel, hg, hb], rfl⟩
            obtain ⟨rfl, hwc⟩ := hcut
            subst hwc
            generalize hB : (decide (0 < c') && name.getD (c' - 1) 0 != 47) = B at *
            have HB := Lib.hid hB
            clear hB
            cases B with
            | true =>
              have hb := HB.out
              simp only [Bool.and_eq_true, decide_eq_true_eq, bne_iff_ne] at hb
              obtain ⟨c2, rfl⟩ : ∃ c2, c' = c2 + 1 := ⟨c' - 1, by omega⟩
              obtain rfl : i = (c2 : Int) := by omega
              have HZ : Hid (∀ q, c2 ≤ q → q < m → name.getD q 0 ≠ 47) := Lib.hid (fun q h1 h2 => by
                by_cases e : q = c2
                · subst e; exact hb.2
                · exact hz.out q (by omega) h2)
              clear hz hb HB
              go_wp2_with fail
              exact ⟨⟨c2, (c2 : Int) - 1, by go_num, by omega, by omega, HZ, by first | trivial | rfl⟩, by simp [intOf]⟩
            | false =>
              have HCU : Hid (cutOf (name.take (name.length - 1)) = if c' = 0 then none else some (c' - 1)) := Lib.hid (by
                rw [hm, Nat.add_sub_cancel]
                by_cases h0 : c' = 0
                · subst h0
                  rw [if_pos rfl]
                  exact cutT_no (fun q hq => hz.out q (Nat.zero_le _) hq)
                · rw [if_neg h0]
                  have hb := HB.out
                  rw [decide_eq_true (show 0 < c' by omega), Bool.true_and, bne_eq_false_iff_eq] at hb
                  exact cutT_at (by omega) (by omega) hb (fun q h1 h2 => hz.out q (by omega) h2))
              clear hz HB
              rcases c' with _ | c'
              · obtain rfl : i = -1 := by omega
                go_wp2_with fail
                first
                  | exact ⟨⟨k + 1, by omega, by go_num, HB5⟩, by simp [intOf]; omega⟩
                  | exact ⟨⟨k + 1, by omega, by omega⟩, by simp [intOf]; omega⟩
              · obtain rfl : i = (c' : Int) := by omega
                obtain ⟨J, mE, hJk, hJe, hJn, hJk2⟩ := HPAR.out c' (by rw [HCU.out, if_neg (by omega), Nat.add_sub_cancel])
                have HJE := Lib.hid hJe; have HJN := Lib.hid hJn; have HJ2 := Lib.hid hJk2
                clear hJe hJn hJk2
                have hcn : decide ((c' : Int) < 0) = false := dec_f (by omega)
                go_wp2_with fail
                go_loopw [11, 12] (fun fv jv wx => ∃ (j : Nat) (f : Bool), fv = .bool f ∧ jv = .int .i64 j ∧ j ≤ k ∧ Hid (J < j → f = true) ∧ Hid (Below w4.heap.size w4 wx)) (fun _ jv _ => k - (intOf jv).toNat)
                case atStart => exact ⟨0, false, rfl, rfl, Nat.zero_le _, Lib.hid (fun h => by omega), HB5⟩
                case round =>
                  obtain ⟨j, f, rfl, rfl, hjk, hf, hbx⟩ := hrel
                  by_cases hjl : j < k
                  · obtain ⟨y, hyj⟩ := get_some (S := S4) (k := j) (by have := HL4.out; omega)
                    obtain ⟨b', off', hb', hr'⟩ := (HN4.out.ens.below hbx.out).at j y hyj
                    simp only [Option.some.injEq, Addr.mk.injEq, and_true] at hb'
                    obtain ⟨rfl, rfl⟩ := hb'
                    have c1 := range_cell hr' 1 (v := .string ⟨y.1.name.toArray⟩) rfl
                    have c2 : wr.cell? ⟨b, off + j * 11, none⟩ = some (.int .i64 y.1.kind) := range_cell hr' 0 rfl
                    have e1 : ((⟨name.toArray⟩ : ByteArray).extract 0 (c' + 1)) = ⟨(name.take (c' + 1)).toArray⟩ := by rw [ByteArray.extract_mk]; simp
                    have HFN : Hid (J < j + 1 → (f || (y.1.name == name.take (c' + 1) && y.1.kind == 2)) = true) := Lib.hid (fun h => by
                      by_cases hJj : J < j
                      · rw [hf.out hJj]; rfl
                      · obtain rfl : J = j := by omega
                        have h1 := HJE.out
                        rw [mapfst_get hyj] at h1
                        cases h1
                        rw [HJN.out, HJ2.out]; simp)
                    have HC1 : Hid (∀ w', Below wr.heap.size wr w' → w'.cell? ⟨b, off + j * 11 + 1, none⟩ = some (.string ⟨y.1.name.toArray⟩)) := Lib.hid (fun w' h => Below.keeps h _ _ c1)
                    generalize y.1.name = yn at *
                    generalize y.1.kind = yk at *
                    clear hr' hyj hf hi
                    go_upto_region 23 with fail
                    go_cut [92] from 75 to 91 (fun u wx => u = .bool (yn == name.take (c' + 1) && yk == 2) ∧ Hid (Below w4.heap.size w4 wx))
                    case first =>
                      cases hb1 : (yn == name.take (c' + 1)) with
                      | false =>
                        go_quiet (fail)
                        go_wp2_with fail
                        go_meet
                        exact ⟨by rw [hb1]; rfl, Lib.hid (Below.drewN hbx.out _)⟩
                      | true =>
                        go_quiet (fail)
                        go_wp2_with fail
                        go_meet
                        exact ⟨by rw [hb1]; rfl, Lib.hid (Below.drewN hbx.out _)⟩
                    obtain ⟨rfl, hb5⟩ := hcut
                    generalize (yn == name.take (c' + 1) && yk == 2) = bb at *
                    clear c1 c2 e1 HC1 hbx
                    cases bb with
                    | false =>
                      have HF2 : Hid (J < j + 1 → f = true) := Lib.hid (fun h => by have := HFN.out h; simpa using this)
                      clear HFN
                      go_wp2_with fail
                      exact ⟨⟨j + 1, f, rfl, by go_num, by omega, HF2, hb5⟩, by simp [intOf]; omega⟩
                    | true =>
                      clear HFN
                      go_wp2_with fail
                      exact ⟨⟨j + 1, true, rfl, by go_num, by omega, Lib.hid (fun _ => rfl), hb5⟩, by simp [intOf]; omega⟩
                  · obtain rfl : j = k := by omega
                    have hft : f = true := hf.out hJk
                    subst hft
                    go_wp2_with fail
                    first
                      | exact ⟨⟨j + 1, by omega, by go_num, hbx⟩, by simp [intOf]; omega⟩
                      | exact ⟨⟨j + 1, by omega, by omega⟩, by simp [intOf]; omega⟩
        · obtain rfl : k = n4 := by omega
          obtain ⟨b, off, rfl, hr⟩ := (HN4.out.ens.below hbel.out).at 0 x0 HH0.out
          have c1 : wr.cell? ⟨b, off + 1, none⟩ = some (.string ⟨x0.1.name.toArray⟩) := by simpa using range_cell hr 1 (v := .string ⟨x0.1.name.toArray⟩) rfl
          rw [HE0.out] at c1
          have hll : ((k : Int) == (n3 : Int)) = true := by rw [HLE.out]; simp
          clear hr
          go_wp2_with fail
          go_ret
          exact ⟨rfl, Below.seq HB4.out hbel.out⟩
    · go_wp2
      all_goals first | (go_ret; exact ⟨rfl, HB4.out⟩) | skip
  · have hz : (k3 != 0) = true := bne_t hk3
    go_wp2
    go_ret
    exact ⟨rfl, HB3.out⟩
end Gr
end Go.Proofs.Ytpdkdhcbibcifaa
