/-
  J12: RgSames, RgPs, joined.
-/
import Derived.Test.YtpdkdhcbibcifaaRgSame
import Derived.Test.YtpdkdhcbibcifaaJ07
import Derived.Test.YtpdkdhcbibcifaaJ02
import Derived.Test.YtpdkdhcbibcifaaGrSame1
import Derived.Test.YtpdkdhcbibcifaaJ08
import Derived.Test.YtpdkdhcbibcifaaJ09
import Derived.Test.YtpdkdhcbibcifaaRgTree
import Derived.Test.YtpdkdhcbibcifaaJ05
import Derived.Test.YtpdkdhcbibcifaaGrPlant
namespace Go.Proofs.Ytpdkdhcbibcifaa
set_option linter.unusedVariables false
set_option linter.unusedSimpArgs false
open Go.ChangeShapes Go.WideShapes Go.ChangeAt Go.RowKit
namespace Gr
set_option maxRecDepth 100000 in
set_option maxHeartbeats 1600000 in
theorem SameLs_any (a b : Option Addr) (n m c d : Nat) (S T : List LnS) (w : World) (ha : Lns w a n c S) (hb : Lns w b m d T) :
    Calls Try.prog 14 #[.slice a n c, .slice b m d] w (RetB w (S.map (·.1) = T.map (·.1))) := by
  have hx := ha.len; have hy := hb.len; have c1 := ha.cap; have c2 := hb.cap; have m1 := ha.max; have m2 := hb.max
  by_cases hnm : n = m
  case neg =>
    have hn : ((n : Int) != m) = true := by simp; omega
    have HNE : Hid (S.map (·.1) ≠ T.map (·.1)) := Lib.hid (fun e => hnm (by rw [← hx, ← hy]; have := congrArg List.length e; simpa using this))
    clear hx hy ha hb hnm
    go_enter Try.func14, Try.ntmps14
    go_wp2
    go_ret
    exact RetB.no HNE.out (Below.refl _ _)
  subst hnm
  have hn : ((n : Int) != n) = false := by simp
  have HX := Lib.hid hx; have HY := Lib.hid hy; have HA := Lib.hid ha; have HB := Lib.hid hb
  clear hx hy ha hb
  go_enter Try.func14, Try.ntmps14
  go_wp2
  go_loopw [5] (fun i wr => ∃ k : Nat, k ≤ n ∧ i = .int .i64 k ∧ Hid ((S.map (·.1)).take k = (T.map (·.1)).take k) ∧ Hid (Below w.heap.size w wr)) (fun i _ => n - (intOf i).toNat)
  case atStart => exact ⟨0, Nat.zero_le _, rfl, Lib.hid (by simp), Lib.hid (Below.refl _ _)⟩
  case round =>
    obtain ⟨k, hk, rfl, heq, hbel⟩ := hrel
    by_cases hlt : k < n
    · obtain ⟨x, hxk⟩ := get_some (S := S) (k := k) (by have := HX.out; omega)
      obtain ⟨y, hyk⟩ := get_some (S := T) (k := k) (by have := HY.out; omega)
      obtain ⟨b1, o1, rfl, h1⟩ := (HA.out.below hbel.out).at k x hxk
      obtain ⟨b2, o2, rfl, h2⟩ := (HB.out.below hbel.out).at k y hyk
      have hd1 := (HA.out.below hbel.out).dat x (mem_get hxk)
      have hd2 := (HB.out.below hbel.out).dat y (mem_get hyk)
      have hgx := mapfst_get hxk
      have hgy := mapfst_get hyk
      obtain ⟨e, s⟩ := x
      obtain ⟨e', t⟩ := y
      simp only at hgx hgy hd1 hd2
      have HC := Lib.hid (fun w' (hb : Below wr.heap.size wr w') => SameL_any (e, s) (e', t) w' (Below.bs hb hd1) (Below.bs hb hd2))
      generalize hcmp : eqL e e' = cmp at HC
      have HGX := Lib.hid hgx; have HGY := Lib.hid hgy; have HCMP := Lib.hid hcmp
      clear hd1 hd2 hxk hyk hgx hgy hcmp
      have g0 := range_cell h1 0 rfl
      have f0 := range_cell h2 0 rfl
      have g1 := range_cell h1 1 rfl
      have f1 := range_cell h2 1 rfl
      have g2 := range_cell h1 2 rfl
      have f2 := range_cell h2 2 rfl
      have g3 := range_cell h1 3 rfl
      have f3 := range_cell h2 3 rfl
      have g4 := range_cell h1 4 rfl
      have f4 := range_cell h2 4 rfl
      have g5 := range_cell h1 5 rfl
      have f5 := range_cell h2 5 rfl
      have g6 := range_cell h1 6 rfl
      have f6 := range_cell h2 6 rfl
      have g7 := range_cell h1 7 rfl
      have f7 := range_cell h2 7 rfl
      have g8 := range_cell h1 8 rfl
      have f8 := range_cell h2 8 rfl
      have g9 := range_cell h1 9 rfl
      have f9 := range_cell h2 9 rfl
      simp only [Nat.add_zero] at g0 f0
      obtain ⟨path, kind, mode, uid, gid, sec, nano, data, target, peer⟩ := e
      obtain ⟨path', kind', mode', uid', gid', sec', nano', data', target', peer'⟩ := e'
      obtain ⟨sa, sn, sc⟩ := s
      obtain ⟨ta, tn, tc⟩ := t
      simp only [lnV] at HC
      clear h1 h2
      go_wp2
      go_still_tail 8, (by kernel_rfl)
      change wpList _ _ _ _ _ wr.drew
      clear g0 f0 g1 f1 g2 f2 g3 f3 g4 f4 g5 f5 g6 f6 g7 f7 g8 f8 g9 f9
      cases cmp with
      | true =>
        have HEK := Lib.hid (eq_take HGX.out HGY.out heq.out ((eqL_iff _ _).1 HCMP.out))
        go_wp2_with (go_at_call 28; (refine (HC.out _ ((Below.refl _ _).drew)).mono ?_); rintro r w3 ⟨rfl, hb3⟩)
        exact ⟨⟨k + 1, by omega, by go_num, HEK, Lib.hid (Below.seq hbel.out (Below.trans ((Below.refl _ _).drew) hb3))⟩, by simp [intOf]; omega⟩
      | false =>
        have HNE : Hid (S.map (·.1) ≠ T.map (·.1)) := Lib.hid (fun h => by
          have h1 := HGX.out
          rw [h, HGY.out] at h1
          have h2 := HCMP.out
          rw [Option.some.inj h1, (eqL_iff _ _).2 rfl] at h2
          cases h2)
        go_wp2_with (go_at_call 28; (refine (HC.out _ ((Below.refl _ _).drew)).mono ?_); rintro r w3 ⟨rfl, hb3⟩)
        go_ret
        exact RetB.no HNE.out (Below.seq hbel.out (Below.trans ((Below.refl _ _).drew) hb3))
    · obtain rfl : k = n := by omega
      go_wp2
      go_ret
      refine RetB.yes ?_ hbel.out
      have h3 := heq.out
      rw [List.take_of_length_le (by rw [List.length_map]; have := HX.out; omega), List.take_of_length_le (by rw [List.length_map]; have := HY.out; omega)] at h3
      exact h3
set_option maxRecDepth 100000 in
set_option maxHeartbeats 1600000 in
theorem SameEs_any (a b : Option Addr) (n m c d : Nat) (S T : List EnS) (w : World) (ha : Ens w a n c S) (hb : Ens w b m d T) :
    Calls Try.prog 13 #[.slice a n c, .slice b m d] w (RetB w (S.map (·.1) = T.map (·.1))) := by
  have hx := ha.len; have hy := hb.len; have c1 := ha.cap; have c2 := hb.cap; have m1 := ha.max; have m2 := hb.max
  by_cases hnm : n = m
  case neg =>
    have hn : ((n : Int) != m) = true := by simp; omega
    have HNE : Hid (S.map (·.1) ≠ T.map (·.1)) := Lib.hid (fun e => hnm (by rw [← hx, ← hy]; have := congrArg List.length e; simpa using this))
    clear hx hy ha hb hnm
    go_enter Try.func13, Try.ntmps13
    go_wp2
    go_ret
    exact RetB.no HNE.out (Below.refl _ _)
  subst hnm
  have hn : ((n : Int) != n) = false := by simp
  have HX := Lib.hid hx; have HY := Lib.hid hy; have HA := Lib.hid ha; have HB := Lib.hid hb
  clear hx hy ha hb
  go_enter Try.func13, Try.ntmps13
  go_wp2
  go_loopw [5] (fun i wr => ∃ k : Nat, k ≤ n ∧ i = .int .i64 k ∧ Hid ((S.map (·.1)).take k = (T.map (·.1)).take k) ∧ Hid (Below w.heap.size w wr)) (fun i _ => n - (intOf i).toNat)
  case atStart => exact ⟨0, Nat.zero_le _, rfl, Lib.hid (by simp), Lib.hid (Below.refl _ _)⟩
  case round =>
    obtain ⟨k, hk, rfl, heq, hbel⟩ := hrel
    by_cases hlt : k < n
    · obtain ⟨x, hxk⟩ := get_some (S := S) (k := k) (by have := HX.out; omega)
      obtain ⟨y, hyk⟩ := get_some (S := T) (k := k) (by have := HY.out; omega)
      obtain ⟨b1, o1, rfl, h1⟩ := (HA.out.below hbel.out).at k x hxk
      obtain ⟨b2, o2, rfl, h2⟩ := (HB.out.below hbel.out).at k y hyk
      have hd1 := (HA.out.below hbel.out).dat x (mem_get hxk)
      have hd2 := (HB.out.below hbel.out).dat y (mem_get hyk)
      have hgx := mapfst_get hxk
      have hgy := mapfst_get hyk
      obtain ⟨e, s⟩ := x
      obtain ⟨e', t⟩ := y
      simp only at hgx hgy hd1 hd2
      have HC := Lib.hid (fun w' (hb : Below wr.heap.size wr w') => SameE_any (e, s) (e', t) w' (Below.bs hb hd1) (Below.bs hb hd2))
      generalize hcmp : eqE e e' = cmp at HC
      have HGX := Lib.hid hgx; have HGY := Lib.hid hgy; have HCMP := Lib.hid hcmp
      clear hd1 hd2 hxk hyk hgx hgy hcmp
      have g0 := range_cell h1 0 rfl
      have f0 := range_cell h2 0 rfl
      have g1 := range_cell h1 1 rfl
      have f1 := range_cell h2 1 rfl
      have g2 := range_cell h1 2 rfl
      have f2 := range_cell h2 2 rfl
      have g3 := range_cell h1 3 rfl
      have f3 := range_cell h2 3 rfl
      have g4 := range_cell h1 4 rfl
      have f4 := range_cell h2 4 rfl
      have g5 := range_cell h1 5 rfl
      have f5 := range_cell h2 5 rfl
      have g6 := range_cell h1 6 rfl
      have f6 := range_cell h2 6 rfl
      have g7 := range_cell h1 7 rfl
      have f7 := range_cell h2 7 rfl
      have g8 := range_cell h1 8 rfl
      have f8 := range_cell h2 8 rfl
      have g9 := range_cell h1 9 rfl
      have f9 := range_cell h2 9 rfl
      have g10 := range_cell h1 10 rfl
      have f10 := range_cell h2 10 rfl
      simp only [Nat.add_zero] at g0 f0
      obtain ⟨k0, name, link, mode, uid, gid, user, group, sec, nano, data⟩ := e
      obtain ⟨k0', name', link', mode', uid', gid', user', group', sec', nano', data'⟩ := e'
      obtain ⟨sa, sn, sc⟩ := s
      obtain ⟨ta, tn, tc⟩ := t
      simp only [enV] at HC
      clear h1 h2
      go_wp2
      go_still_tail 8, (by kernel_rfl)
      change wpList _ _ _ _ _ wr.drew
      clear g0 f0 g1 f1 g2 f2 g3 f3 g4 f4 g5 f5 g6 f6 g7 f7 g8 f8 g9 f9 g10 f10
      cases cmp with
      | true =>
        have HEK := Lib.hid (eq_take HGX.out HGY.out heq.out ((eqE_iff _ _).1 HCMP.out))
        go_wp2_with (go_at_call 27; (refine (HC.out _ ((Below.refl _ _).drew)).mono ?_); rintro r w3 ⟨rfl, hb3⟩)
        exact ⟨⟨k + 1, by omega, by go_num, HEK, Lib.hid (Below.seq hbel.out (Below.trans ((Below.refl _ _).drew) hb3))⟩, by simp [intOf]; omega⟩
      | false =>
        have HNE : Hid (S.map (·.1) ≠ T.map (·.1)) := Lib.hid (fun h => by
          have h1 := HGX.out
          rw [h, HGY.out] at h1
          have h2 := HCMP.out
          rw [Option.some.inj h1, (eqE_iff _ _).2 rfl] at h2
          cases h2)
        go_wp2_with (go_at_call 27; (refine (HC.out _ ((Below.refl _ _).drew)).mono ?_); rintro r w3 ⟨rfl, hb3⟩)
        go_ret
        exact RetB.no HNE.out (Below.seq hbel.out (Below.trans ((Below.refl _ _).drew) hb3))
    · obtain rfl : k = n := by omega
      go_wp2
      go_ret
      refine RetB.yes ?_ hbel.out
      have h3 := heq.out
      rw [List.take_of_length_le (by rw [List.length_map]; have := HX.out; omega), List.take_of_length_le (by rw [List.length_map]; have := HY.out; omega)] at h3
      exact h3
end Gr
end Go.Proofs.Ytpdkdhcbibcifaa
namespace Go.Proofs.Ytpdkdhcbibcifaa
set_option linter.unusedVariables false
set_option linter.unusedSimpArgs false
open Go.ChangeShapes Go.WideShapes Go.ChangeAt Go.RowKit
namespace Gr
/-- the ids, by lines -/
def idsOf (pi : List (Bt × Int)) (n : Nat) : List Int := pi.map (·.2) ++ List.replicate (n - pi.length) 0
theorem idsOf_len {pi : List (Bt × Int)} {n : Nat} (h : pi.length ≤ n) : (idsOf pi n).length = n := by simp [idsOf]; omega
theorem idsOf_get {pi : List (Bt × Int)} {n k : Nat} {q : Bt × Int} (h : pi[k]? = some q) : (idsOf pi n)[k]? = some q.2 := by
  have hk := (List.getElem?_eq_some_iff.1 h).1
  unfold idsOf
  rw [List.getElem?_append_left (by simpa using hk), List.getElem?_map, h]; rfl
theorem idsOf_next {pi : List (Bt × Int)} {n : Nat} (h : pi.length < n) : (idsOf pi n)[pi.length]? = some 0 := by
  unfold idsOf
  rw [List.getElem?_append_right (by simp)]
  simp only [List.length_map, Nat.sub_self]
  rw [List.getElem?_replicate, if_pos (by omega)]
theorem idsOf_set {pi : List (Bt × Int)} {n : Nat} (h : pi.length < n) (p : Bt) (v : Int) : (idsOf pi n).set pi.length v = idsOf (pi ++ [(p, v)]) n := by
  unfold idsOf
  rw [List.set_append_right _ _ (by simp)]
  simp only [List.length_map, Nat.sub_self, List.map_append, List.map_cons, List.map_nil, List.length_append, List.length_singleton, List.append_assoc]
  congr 1
  obtain ⟨m, hm⟩ : ∃ m, n - pi.length = m + 1 := ⟨n - pi.length - 1, by omega⟩
  rw [hm, List.replicate_succ, List.set_cons_zero, show n - (pi.length + 1) = m by omega]
  rfl
structure PsR (w0 w : World) (a : Option Addr) (n c : Nat) (NS : List NdS) (I : List Int) : Prop where
  bel : Below w0.heap.size w0 w
  rb : w.heap[w0.heap.size]? = some (.cells #[.slice none 0 0] 43)
  pls : Pls w w0.heap.size (w0.heap.size + 1) a n c NS
  ids : RowE w (w0.heap.size + 2) 3 (I.map (Value.int .i64))
section
variable {w0 w : World} {a : Option Addr} {n c : Nat} {NS : List NdS} {I : List Int}
theorem PsR.below {w' : World} (h : PsR w0 w a n c NS I) (k : Below w.heap.size w w') : PsR w0 w' a n c NS I :=
  ⟨h.bel.trans (k.mono h.bel.size), row_below h.rb k, h.pls.below k, h.ids.below k⟩
theorem PsR.node {wA wB : World} {a' : Option Addr} {c' : Nat} {x : NdS} (h : PsR w0 w a n c NS I) (hA : Below w.heap.size w wA) (hg : wA.grownBy wB (Value.slice a n c).ownBlock) (ho : wB.ownsRow w0.heap.size 75 10 (.slice a' (n + 1) c') (n + 1) (NS.flatMap ndCells ++ ndCells x))
    (hd : Own wA w0.heap.size x.2.1 x.1.data) (he : x.2.2 = (none, 0, 0)) (he2 : x.1.ents = []) : PsR w0 (wB.setCell ⟨w0.heap.size + 1, 0, none⟩ (.slice a' (n + 1) c')) a' (n + 1) c' (NS ++ [x]) I := by
  have h1 := h.below hA
  have hr := row_grown h1.pls.row hg (fun e => own_ne_row h1.pls.own h1.pls.row (by decide) e.symm)
  have hrb := row_grown h1.rb hg (fun e => own_ne_row h1.pls.own h1.rb (by decide) e.symm)
  have hm := h1.ids.grown hg (fun e => own_ne_row h1.pls.own h1.ids (by decide) e.symm)
  have hgs := setCell_grown wB (w0.heap.size + 1) 0 (.slice a' (n + 1) c')
  refine ⟨?_, row_grown hrb hgs (by simp), h.pls.node hA hg ho hd he he2, hm.grown hgs (by simp)⟩
  have hb2 : Below w0.heap.size w0 wB := h1.bel.grown hg h1.bel.size (fun k hk => (h1.pls.own.lt k hk).1)
  exact hb2.setCell (p := ⟨w0.heap.size + 1, 0, none⟩) (by simp) _
theorem PsR.entry {wA wB : World} {a' : Option Addr} {m' c' : Nat} {x : NdS} {k nb : Nat} {e : Bt × Int} (h : PsR w0 w a n c NS I) (hk : NS[k]? = some x) (hA : Below w.heap.size w wA) (hnb : a = some ⟨nb, 0, none⟩) (hg : wA.grownBy wB (Value.slice x.2.2.1 x.2.2.2.1 x.2.2.2.2).ownBlock)
    (ho : wB.ownsRow w0.heap.size 87 2 (.slice a' m' c') m' (x.1.ents.flatMap etCells ++ etCells e))
    (hat : (Value.slice a' m' c').ownBlock = (Value.slice x.2.2.1 x.2.2.2.1 x.2.2.2.2).ownBlock ∨ ∃ b, (Value.slice a' m' c').ownBlock = some b ∧ w.heap.size ≤ b) :
    PsR w0 (wB.setCell ⟨nb, k * 10 + 9, none⟩ (.slice a' m' c')) a n c (NS.set k ({ x.1 with ents := x.1.ents ++ [e] }, x.2.1, (a', m', c'))) I := by
  have h1 := h.below hA
  have hxe := h1.pls.ent x (mem_get hk)
  have hrb := row_grown h1.rb hg (fun e => own_ne_row hxe h1.rb (by decide) e.symm)
  have hm := h1.ids.grown hg (fun e => own_ne_row hxe h1.ids (by decide) e.symm)
  have ho2 : wB.ownsRow w0.heap.size 75 10 (.slice a n c) n (NS.flatMap ndCells) := own_other h1.pls.own hxe (by decide) hg
  have hgs := setCell_grown wB nb (k * 10 + 9) (.slice a' m' c')
  have hb2 : Below w0.heap.size w0 wB := h1.bel.grown hg h1.bel.size (fun k hk => (hxe.lt k hk).1)
  have hob : (Value.slice a n c).ownBlock = some nb := by rw [hnb]; rfl
  obtain ⟨cur, hcur⟩ := own_row ho2 hob
  refine ⟨hb2.setCell (p := ⟨nb, k * 10 + 9, none⟩) (ho2.lt nb hob).1 _, row_grown hrb hgs (fun e => own_ne_row ho2 hrb (by decide) (by rw [hob]; exact e.symm)), h.pls.entry hk hA hnb hg ho hat, hm.grown hgs (fun e => own_ne_row ho2 hm (by decide) (by rw [hob]; exact e.symm))⟩
theorem PsR.put (h : PsR w0 w a n c NS I) (j : Nat) (v : Int) : PsR w0 (w.setCell ⟨w0.heap.size + 2, j, none⟩ (.int .i64 v)) a n c NS (I.set j v) :=
  ⟨h.bel.setCell (p := ⟨w0.heap.size + 2, j, none⟩) (by simp) _, row_grown h.rb (setCell_grown w _ j _) (by simp), ⟨row_grown h.pls.row (setCell_grown w _ j _) (by simp), own_cell h.pls.own h.ids (by decide), fun x hx => own_cell (h.pls.dat x hx) h.ids (by decide), fun x hx => own_cell (h.pls.ent x hx) h.ids (by decide), h.pls.apart, h.pls.gb⟩, by rw [List.map_set]; exact h.ids.set j _⟩
theorem PsR.cell (h : PsR w0 w a n c NS I) {j : Nat} {v : Int} (hj : I[j]? = some v) : w.cell? ⟨w0.heap.size + 2, j, none⟩ = some (.int .i64 v) := h.ids.cell (by rw [List.getElem?_map, hj]; rfl)
end
theorem PsR.start (w : World) (n : Nat) : PsR w (((w.alloc (.cells #[.slice none 0 0] 43)).alloc (.cells #[.slice none 0 0] 43)).alloc (.cells (Array.replicate n (.int .i64 0)) 3)) none 0 0 [] (idsOf [] n) := by
  have e1 : (w.alloc (.cells #[.slice none 0 0] 43)).heap.size = w.heap.size + 1 := by simp
  have e2 : ((w.alloc (.cells #[.slice none 0 0] 43)).alloc (.cells #[.slice none 0 0] 43)).heap.size = w.heap.size + 2 := by simp
  have h0 := heap_alloc_new w (.cells #[.slice none 0 0] 43)
  have h1 := heap_alloc_new (w.alloc (.cells #[.slice none 0 0] 43)) (.cells #[.slice none 0 0] 43)
  rw [e1] at h1
  refine ⟨(((Below.refl _ _).alloc (Nat.le_refl _) _).alloc (by simp) _).alloc (by simp; omega) _, ?_, ⟨?_, World.ownsRow_nil _ _ _ _, by simp, by simp, by simp, by omega⟩, ?_⟩
  · rw [heap_alloc_old _ _ (by simp; omega), heap_alloc_old _ _ (by simp)]; exact h0
  · rw [heap_alloc_old _ _ (by simp)]; exact h1
  · have := RowE.made ((w.alloc (.cells #[.slice none 0 0] 43)).alloc (.cells #[.slice none 0 0] 43)) n (.int .i64 0) 3
    rw [e2] at this
    simpa [idsOf] using this
/-! ### the loops -/
/-- the first of the paths ahead -/
theorem look_step {pi : List (Bt × Int)} {j : Nat} {q : Bt × Int} (h : pi[j]? = some q) (x : Bt) : (pi.take (j + 1)).lookup x = ((pi.take j).lookup x).or (if x = q.1 then some q.2 else none) := by
  obtain ⟨hj, rfl⟩ := List.getElem?_eq_some_iff.1 h
  rw [List.take_succ_eq_append_getElem hj, List.lookup_append]
  congr 1
  rw [List.lookup_cons]
  by_cases e : x = (pi[j]).1
  · subst e; simp
  · rw [beq_f e, if_neg e]; rfl
theorem look_next {pi : List (Bt × Int)} {j : Nat} {q : Bt × Int} {peer : Bt} {v : Int} (h : pi[j]? = some q) (hval : ∀ q ∈ pi, 1 ≤ q.2) (hv : v = ((pi.take j).lookup peer).getD 0) : ((pi.take (j + 1)).lookup peer).getD 0 = if (q.1 == peer && v == 0) then q.2 else v := by
  rw [look_step h]
  cases hl : (pi.take j).lookup peer with
  | some u =>
    have hu := hval _ (List.mem_of_mem_take (lookup_mem hl))
    rw [hl] at hv
    simp only [Option.getD_some] at hv hu
    have : (v == 0) = false := by rw [beq_eq_false_iff_ne]; omega
    rw [this, Bool.and_false]
    simp [hv]
  | none =>
    rw [hl] at hv
    simp only [Option.getD_none] at hv
    subst hv
    by_cases e : peer = q.1
    · subst e; simp
    · have : (q.1 == peer) = false := by rw [beq_eq_false_iff_ne]; exact fun h => e h.symm
      rw [this, Bool.false_and, if_neg e]
      simp
theorem set_same {α : Type} {l : List α} {k : Nat} {v : α} (h : l[k]? = some v) : l.set k v = l := by
  apply List.ext_getElem?
  intro i
  rw [List.getElem?_set]
  by_cases e : k = i
  · subst e; rw [if_pos rfl, if_pos (List.getElem?_eq_some_iff.1 h).1, h]
  · rw [if_neg e]
theorem last_step {pi : List (Bt × Int)} {j : Nat} {q : Bt × Int} (h : pi[j]? = some q) (h1 : 1 ≤ j) (x : Bt) : lastOf ((pi.take (j + 1)).drop 1) x = if x = q.1 then some q.2 else lastOf ((pi.take j).drop 1) x := by
  obtain ⟨hj, rfl⟩ := List.getElem?_eq_some_iff.1 h
  rw [List.take_succ_eq_append_getElem hj, List.drop_append_of_le_length (by simp; omega)]
  have := lastOf_snoc ((pi.take j).drop 1) (pi[j]).1 (pi[j]).2 x
  exact this
/-- the last stroke, met from behind -/
theorem cut_at {l : Bt} {c : Nat} (hc : c < l.length) (h1 : l.getD c 0 = 47) (h2 : ∀ q, c < q → q < l.length → l.getD q 0 ≠ 47) : cutOf l = some c := by
  rw [cutOf_some]
  refine ⟨l.take c, l.drop (c + 1), ?_, by simp; omega, fun hm => ?_⟩
  · have : l[c] = 47 := by simpa [List.getD, List.getElem?_eq_getElem hc] using h1
    rw [← this, ← List.drop_eq_getElem_cons hc, List.take_append_drop]
  · obtain ⟨i, hi, he⟩ := List.getElem_of_mem hm
    simp only [List.length_drop] at hi
    rw [List.getElem_drop] at he
    exact h2 (c + 1 + i) (by omega) (by omega) (by simp [List.getD, List.getElem?_eq_getElem (show c + 1 + i < l.length by omega), he])
theorem cut_no {l : Bt} (h : ∀ q, q < l.length → l.getD q 0 ≠ 47) : cutOf l = none := by
  rw [cutOf_none]
  intro hm
  obtain ⟨i, hi, he⟩ := List.getElem_of_mem hm
  exact h i hi (by simp [List.getD, List.getElem?_eq_getElem hi, he])
end Gr
end Go.Proofs.Ytpdkdhcbibcifaa
