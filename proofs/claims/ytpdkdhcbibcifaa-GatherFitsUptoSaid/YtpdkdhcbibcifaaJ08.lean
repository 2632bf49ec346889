/-
  J08: GrSameE, GrLinesW, GrAlive, GrRoundW, joined.
-/
import Derived.Test.YtpdkdhcbibcifaaGrSame1
import Derived.Test.YtpdkdhcbibcifaaJ06
import Derived.Test.YtpdkdhcbibcifaaJ07
import Derived.Deep.RegionHeld3
import Derived.Deep.CutRange
import Derived.Deep.DeepCutAuto
import Derived.BigRegion
namespace Go.Proofs.Ytpdkdhcbibcifaa
set_option linter.unusedVariables false
set_option linter.unusedSimpArgs false
open Go.ChangeShapes Go.WideShapes Go.ChangeAt Go.RowKit
namespace Gr
theorem eq_take {α : Type} {X Y : List α} {k : Nat} {x y : α} (hx : X[k]? = some x) (hy : Y[k]? = some y) (h : X.take k = Y.take k) (e : x = y) : X.take (k + 1) = Y.take (k + 1) := by
  obtain ⟨h1, e1⟩ := List.getElem?_eq_some_iff.1 hx
  obtain ⟨h2, e2⟩ := List.getElem?_eq_some_iff.1 hy
  rw [List.take_succ_eq_append_getElem h1, List.take_succ_eq_append_getElem h2, h, e1, e2, e]
set_option maxRecDepth 100000 in
set_option maxHeartbeats 1600000 in
theorem EqualEntries_any (a b : Option Addr) (n m c d : Nat) (S T : List EnS) (w : World) (ha : Ens w a n c S) (hb : Ens w b m d T) :
    Calls Try.prog 39 #[.slice a n c, .slice b m d, .func (.func 40) #[] #[]] w (RetB w (S.map (·.1) = T.map (·.1))) := by
  have hx := ha.len; have hy := hb.len; have c1 := ha.cap; have c2 := hb.cap; have m1 := ha.max; have m2 := hb.max
  by_cases hnm : n = m
  · subst hnm
    have hn : ((n : Int) != n) = false := by simp
    have HX := Lib.hid hx; have HY := Lib.hid hy; have HA := Lib.hid ha; have HB := Lib.hid hb
    clear hx hy ha hb
    go_enter Try.func39, Try.ntmps39
    go_wp2
    go_loopw [17] (fun i wr => ∃ k : Nat, k ≤ n ∧ i = .int .i64 k ∧ Hid (Below w.heap.size w wr) ∧ Hid ((S.map (·.1)).take k = (T.map (·.1)).take k)) (fun i _ => n - (intOf i).toNat)
    case atStart => exact ⟨0, Nat.zero_le _, rfl, Lib.hid (Below.refl _ _), Lib.hid (by simp)⟩
    case round =>
      obtain ⟨k, hk, rfl, hbel, heq⟩ := hrel
      by_cases hlt : k < n
      · obtain ⟨x, hxk⟩ := get_some (S := S) (k := k) (by have := HX.out; omega)
        obtain ⟨y, hyk⟩ := get_some (S := T) (k := k) (by have := HY.out; omega)
        obtain ⟨b1, o1, rfl, h1⟩ := (HA.out.below hbel.out).at k x hxk
        obtain ⟨b2, o2, rfl, h2⟩ := (HB.out.below hbel.out).at k y hyk
        have hd1 := (HA.out.below hbel.out).dat x (mem_get hxk)
        have hd2 := (HB.out.below hbel.out).dat y (mem_get hyk)
        have HEQ := Lib.hid (eqE_iff x.1 y.1)
        have HSL := Lib.hid (fun w' h k => same_any x y w' h k)
        generalize eqE x.1 y.1 = e at *
        have HSX := Lib.hid (fun (e1 : x.1 = y.1) => eq_take (mapfst_get hxk) (mapfst_get hyk) heq.out e1)
        have HNX : Hid (x.1 ≠ y.1 → ¬ S.map (·.1) = T.map (·.1)) := Lib.hid (fun hne e2 => hne (by have h1 := mapfst_get hxk; have h2 := mapfst_get hyk; rw [e2, h2] at h1; exact (Option.some.inj h1).symm))
        have hB2 : Below wr.heap.size wr ((wr.alloc (.cells (enV x) 39)).alloc (.cells (enV y) 39)) := ((Below.refl _ _).alloc (Nat.le_refl _) _).alloc (by simp) _
        have h2' := range_keep h2 (Keeps.alloc wr (.cells (enV x) 39))
        clear hxk hyk h2 heq
        obtain ⟨⟨kind, name, link, mode, uid, gid, user, group, sec, nano, data⟩, sa, sn, sc⟩ := x
        obtain ⟨⟨kind', name', link', mode', uid', gid', user', group', sec', nano', data'⟩, ta, tn, tc⟩ := y
        simp only [enCells, enV] at h1 h2' HSL hB2
        have HR1 := Lib.hid h1; have HR2 := Lib.hid h2'; have HD1 := Lib.hid hd1; have HD2 := Lib.hid hd2; have HB2 := Lib.hid hB2
        clear h1 h2' hd1 hd2 hB2
        cases e with
        | true =>
          have HT := Lib.hid (HSX.out (HEQ.out.1 rfl))
          clear HSX HNX HEQ
          go_wp2_with (first
            | (refine wpList_load_mid rfl _ _ rfl b1 (o1 + k * 11) rfl _ _ HR1.out Try.underlying39 rfl (by kernel_rfl) ?_)
            | (refine wpList_load_mid rfl _ _ rfl b2 (o2 + k * 11) rfl _ _ HR2.out Try.underlying39 rfl (by kernel_rfl) ?_)
            | (go_at_call 40; (refine (HSL.out _ (by exact Below.bs HB2.out HD1.out) (by exact Below.bs HB2.out HD2.out)).mono ?_); rintro r w3 ⟨rfl, hb3⟩))
          exact ⟨⟨k + 1, by omega, by go_num, Lib.hid (Below.seq hbel.out (Below.seq HB2.out hb3)), HT⟩, by simp [intOf]; omega⟩
        | false =>
          have HT := Lib.hid (HNX.out (fun e1 => by have := HEQ.out.2 e1; cases this))
          clear HSX HNX HEQ
          go_wp2_with (first
            | (refine wpList_load_mid rfl _ _ rfl b1 (o1 + k * 11) rfl _ _ HR1.out Try.underlying39 rfl (by kernel_rfl) ?_)
            | (refine wpList_load_mid rfl _ _ rfl b2 (o2 + k * 11) rfl _ _ HR2.out Try.underlying39 rfl (by kernel_rfl) ?_)
            | (go_at_call 40; (refine (HSL.out _ (by exact Below.bs HB2.out HD1.out) (by exact Below.bs HB2.out HD2.out)).mono ?_); rintro r w3 ⟨rfl, hb3⟩))
          go_ret
          exact RetB.no HT.out (Below.seq hbel.out (Below.seq HB2.out hb3))
      · obtain rfl : k = n := by omega
        go_wp2
        go_ret
        refine RetB.yes ?_ hbel.out
        have h := heq.out
        rw [List.take_of_length_le (by rw [List.length_map]; have := HX.out; omega), List.take_of_length_le (by rw [List.length_map]; have := HY.out; omega)] at h
        exact h
  · have hn : ((n : Int) != m) = true := by rw [bne_iff_ne]; omega
    have HX := Lib.hid hx; have HY := Lib.hid hy; clear hx hy ha hb
    go_enter Try.func39, Try.ntmps39
    go_wp2
    go_ret
    refine RetB.no ?_ (Below.refl _ _)
    intro e
    have := congrArg List.length e
    rw [List.length_map, List.length_map, HX.out, HY.out] at this
    exact hnm this
end Gr
end Go.Proofs.Ytpdkdhcbibcifaa
namespace Go.Proofs.Ytpdkdhcbibcifaa
set_option linter.unusedVariables false
set_option linter.unusedSimpArgs false
open Go.ChangeShapes Go.WideShapes Go.ChangeAt Go.RowKit
open Go.Maps (Keyed)
namespace Gr
/-- a whole row stored, at a step of a region that draws -/
theorem step_store_row {P : Program} {ops : Array Oper} {o : Oper} {a : Act} {w : World} {K : Act → World → Prop} {Q : Exit → Act → World → Prop} {E : Prop} (hgd : o.guard = none) (ty : TypeId) (x y : Operand) (ho : o.op = .store ty x y) (g : Nat) (hx : a.eval x = .pointer (some ⟨g, 0, none⟩)) (cs : Array Value) (hy : a.eval y = .agg cs)
    (old : Array Value) (t : TypeId) (hh : w.heap[g]? = some (.cells old t (0, 0))) (hsz : old.size = cs.size) (hi : (P.info? ty).map (·.size) = some cs.size) (h1 : ∀ u ∈ cs.toList, u.oneCell' = true)
    (h : K (a.put o.dst undef) (w.setRow g cs)) : if Region.wanted o (yielded ops a.tmps) = true then Oper.wp P o a w K Q else E := by
  have hw : Region.wanted o (yielded ops a.tmps) = true := by simp [Region.wanted, hgd]
  rw [if_pos hw]
  obtain ⟨i, hi', hs'⟩ := Option.map_eq_some_iff.1 hi
  have hr := run_storeCells_at (P := P) g 0 t cs.toList 0 old w hh (by simp [hsz]) h1
  have e : (old.toList.take (0 + 0) ++ cs.toList ++ old.toList.drop (0 + 0 + cs.toList.length)).toArray = cs := by
    simp [List.drop_of_length_le, hsz]
  rw [e] at hr
  unfold Oper.wp
  simp [execOp, ho, hx, hy, Instr.storeAt, Instr.sureAddr, storeVar, sizeOf, typeInfo, hi', hs', Value.cells, hr, Result.andThen]
  exact h
section
variable {w w4 w' w0 : World} {B n0 : Nat} {a a0 a4 : Option Addr} {n c c0 c4 : Nat} {S : List LnS} {x : LnS}
theorem NewLn.app2 (h0 : NewLn w0 B a0 n0 c0 S) (hB : B ≤ w0.heap.size) (h : NewLn w B a n c S) (ho : Own w w0.heap.size x.2 x.1.data)
    (hg : (w.alloc (.cells (lnV x) 51)).grownBy w4 (Value.slice a n c).ownBlock) (ho4 : w4.ownsRow B 51 10 (.slice a4 (n + 1) c4) (n + 1) (S.flatMap lnCells ++ [x].flatMap lnCells)) : NewLn w4 B a4 (n + 1) c4 (S ++ [x]) := by
  have hA : Below w.heap.size w (w.alloc (.cells (lnV x) 51)) := (Below.refl _ _).alloc (Nat.le_refl _) _
  have hA3 := h.below hA
  have hd : ∀ {B' : Nat} {s : Sl} {l : Bt}, Own w B' s l → Own w4 B' s l := fun hs => own_other (own_keep hs (fun j _ hj => hA.block j hj)) hA3.own (by decide) hg
  refine ⟨by rw [List.flatMap_append]; exact ho4, fun y hy => ?_, ?_⟩
  · rcases List.mem_append.1 hy with hy | hy
    · exact hd (h.dat y hy)
    · rw [List.mem_singleton] at hy
      subst hy
      exact hd (own_base ho hB)
  · rw [List.pairwise_append]
    refine ⟨h.rise, List.pairwise_singleton _ _, fun y hy z hz b b' hb hb' => ?_⟩
    rw [List.mem_singleton] at hz
    subst hz
    have e1 := ((h0.dat y hy).lt b hb).2
    have e2 := (ho.lt b' hb').1
    omega
theorem NewLn.put (h : NewLn w B a n c S) {mb s : Nat} {f : Bt → Option Value} (hm : MpS w mb s f) (hg : w.grownBy w' (some mb)) : NewLn w' B a n c S :=
  ⟨own_grown h.own hg (Or.inr (fun e => hm.ne_own h.own e.symm)), fun y hy => own_grown (h.dat y hy) hg (Or.inr (fun e => hm.ne_own (h.dat y hy) e.symm)), h.rise⟩
theorem NewLn.box (h : NewLn w B a n c S) {lb : Nat} {cs : Array Value} (hr : w.heap[lb]? = some (.cells cs 51)) (hne : (Value.slice a n c).ownBlock ≠ some lb) (j : Nat) (v : Value) : NewLn (w.setCell ⟨lb, j, none⟩ v) B a n c S :=
  ⟨own_grown h.own (setCell_grown w lb j v) (Or.inr hne), fun y hy => own_cell (h.dat y hy) hr (by decide), h.rise⟩
/-- what the walk holds of a line in its box -/
structure Bx (w w' : World) (B lb mb s : Nat) (a : Option Addr) (n c : Nat) (S : List LnS) (f : Bt → Option Value) (l : Ln) (d : Sl) (D : Nat) : Prop where
  bel : Below B w w'
  new : NewLn w' B a n c S
  mp : MpS w' mb s f
  row : w'.heap[lb]? = some (.cells (lnV (l, d)) 51)
  own : Own w' D d l.data
  ne : (Value.slice a n c).ownBlock ≠ some lb
  lb : B ≤ lb
theorem Bx.drew {lb mb s D : Nat} {f : Bt → Option Value} {l : Ln} {d : Sl} (h : Bx w w' B lb mb s a n c S f l d D) : Bx w w'.drew B lb mb s a n c S f l d D :=
  ⟨h.bel.drew, h.new.below ((Below.refl _ _).drew), h.mp.block rfl, h.row, h.own, h.ne, h.lb⟩
theorem Bx.set {lb mb s D : Nat} {f : Bt → Option Value} {l l' : Ln} {d : Sl} (h : Bx w w' B lb mb s a n c S f l d D) (j : Nat) (v : Value) (he : (lnV (l, d)).setIfInBounds j v = lnV (l', d)) (hd : l'.data = l.data) : Bx w (w'.setCell ⟨lb, j, none⟩ v) B lb mb s a n c S f l' d D := by
  have hr := setCell_row h.row (j := j) v
  rw [he] at hr
  exact ⟨h.bel.setCell (p := ⟨lb, j, none⟩) h.lb _, h.new.box h.row h.ne j v, h.mp.kept (setCell_grown w' lb j v) (h.mp.ne_row h.row), hr, by rw [hd]; exact own_cell h.own h.row (by decide), h.ne, h.lb⟩
end
/-- what is asked of the entries in memory -/
structure EnNum (S : List EnS) : Prop where
  num : S.length ≤ 2000000
  dat : ∀ x ∈ S, x.2.2.1 ≤ 140737488355328
  str : ∀ x ∈ S, x.1.name.length ≤ 1900000 ∧ x.1.link.length ≤ 1900000
abbrev eOf (S : List EnS) : List En := S.map (·.1)
def kF (ks : List (Bt × Int)) (p : Bt) : Option Value := (lastOf ks p).map fun v => .int .i64 v
theorem kF_upd (ks : List (Bt × Int)) (p : Bt) (v : Int) (x : Bt) : upd (kF ks) p (.int .i64 v) x = kF (ks ++ [(p, v)]) x := by
  unfold upd kF
  rw [lastOf_snoc]
  split <;> rfl
theorem kF_val (ks : List (Bt × Int)) (p : Bt) : (kF ks p).getD (.int .i64 0) = .int .i64 ((lastOf ks p).getD 0) := by
  unfold kF; cases lastOf ks p <;> rfl
def LinesRes (w : World) (es : List En) (r : Ending) (w' : World) : Prop :=
  ∃ (a : Option Addr) (n c : Nat) (code : Int) (S : List LnS), r = .returned (.tuple #[.slice a n c, .int .i64 code]) ∧ Below w.heap.size w w' ∧ NewLn w' w.heap.size a n c S ∧
    (code = 0 ↔ LinOk es) ∧ (code = 0 ∨ code = 160) ∧ (code = 0 → S.map (·.1) = linesGo [] es) ∧ (code ≠ 0 → S = [])
/-- the line of an entry, ahead of what its kind asks -/
def lin0 (e : En) : Ln := ⟨e.name, e.kind, e.mode, e.uid, e.gid, e.sec, e.nano, e.data, [], []⟩
set_option maxRecDepth 100000 in
set_option maxHeartbeats 8000000 in
theorem Lines_any (a : Option Addr) (n c : Nat) (T : List EnS) (w : World) (hL : Ens w a n c T) (hN : EnNum T) :
    Calls Try.prog 19 #[.slice a n c] w (LinesRes w (eOf T)) := by
  have hl := hL.len; have hcap := hL.cap; have hmax := hL.max
  have hn2 := hN.num
  have HL := Lib.hid hl; have HT := Lib.hid hL; have HN := Lib.hid hN
  have hmm := @run_makeMap Try.prog
  rw [hl] at hn2
  clear hL hN hl
  go_enter Try.func19, Try.ntmps19
  go_upto_region 2 with fail
  have HM0 : Hid (MpS (w.alloc (.map #[] 0)) w.heap.size 0 (kF [])) := Lib.hid ((Mp.made mkS w Try.prog 9).congr (fun x => by simp [kF, lastOf]))
  have HB0 : Hid (Below w.heap.size w (w.alloc (.map #[] 0))) := Lib.hid ((Below.refl _ _).alloc (Nat.le_refl _) _)
  clear hmm
  generalize w.alloc (.map #[] 0) = w1 at *
  go_wp2_with fail
  go_loopw [5, 14] (fun v i wr => ∃ (k : Nat) (la : Option Addr) (lc s : Nat) (LS : List LnS) (ks : List (Bt × Int)), k ≤ n ∧ i = .int .i64 k ∧ v = .slice la k lc ∧ Hid (NewLn wr w.heap.size la k lc LS) ∧ Hid (MpS wr w.heap.size s (kF ks)) ∧ s ≤ k ∧ Hid (Below w.heap.size w wr) ∧
    Hid (LS.map (·.1) ++ linesGo ks ((eOf T).drop k) = linesGo [] (eOf T)) ∧ Hid (∀ l ∈ LS.map (·.1), (∃ e ∈ eOf T, l.data = e.data) ∧ l.path.length ≤ 1900000 ∧ l.peer.length ≤ 1900000)) (fun _ i _ => n - (intOf i).toNat)
  case atStart => exact ⟨0, none, 0, 0, [], [], Nat.zero_le _, rfl, rfl, Lib.hid (NewLn.nil _ _), HM0, Nat.le_refl _, HB0, Lib.hid (by simp), Lib.hid (by simp)⟩
  case round =>
    obtain ⟨k, la, lc, s, LS, ks, hk, rfl, rfl, hI, hM, hs, hB, hG, hX⟩ := hrel
    by_cases hlt : k < n
    · obtain ⟨x, hxk⟩ := get_some (S := T) (k := k) (by have := HL.out; omega)
      obtain ⟨b, off, rfl, hr⟩ := (HT.out.below hB.out).at k x hxk
      have hdx := (HT.out.below hB.out).dat x (mem_get hxk)
      have hnd := HN.out.dat x (mem_get hxk)
      obtain ⟨hns1, hns2⟩ := HN.out.str x (mem_get hxk)
      have hlk : (eOf T)[k]? = some x.1 := mapfst_get hxk
      have hdr := drop_get hlk
      have hGG := hG.out
      rw [hdr] at hGG
      simp only [linesGo] at hGG
      have HGG := Lib.hid hGG
      have HMEM : Hid (x.1 ∈ eOf T) := Lib.hid (mem_get hlk)
      have hb1 : Below wr.heap.size wr (wr.alloc (.cells (enV x) 39)) := (Below.refl _ _).alloc (Nat.le_refl _) _
      have HB1 := Lib.hid (hB.out.trans (hb1.mono hB.out.size))
      have HI1 := Lib.hid (hI.out.below hb1)
      have HM1 := Lib.hid (hM.out.below hb1 hM.out.lt)
      have HBX := Lib.hid (heap_alloc_new wr (.cells (enV x) 39))
      have HDX := Lib.hid (Below.bs hb1 hdx)
      have HND := Lib.hid hnd
      have hmw := hM.out.lt
      have HR := Lib.hid hr
      clear hdx hnd hxk hlk hdr hGG hb1 hr hI hM hG hB
      obtain ⟨⟨kind, name, link, mode, uid, gid, user, group, sec, nano, data⟩, ⟨da, dn, dc⟩⟩ := x
      simp only at hns1 hns2 HND HDX
      simp only [enCells, enV] at HR
      simp only [enV] at HBX HB1 HI1 HM1 HDX
      go_upto_region 6 with (refine wpList_load_mid rfl _ _ rfl b (off + k * 11) rfl _ _ HR.out Try.underlying39 rfl (by kernel_rfl) ?_)
      generalize wr.alloc (.cells #[.int .i64 kind, .string ⟨name.toArray⟩, .string ⟨link.toArray⟩, .int .i64 mode, .int .i64 uid, .int .i64 gid, .string ⟨user.toArray⟩, .string ⟨group.toArray⟩, .int .i64 sec, .int .i64 nano, .slice da dn dc] 39) = w2 at *
      generalize wr.heap.size = ex at *
      go_cut [8] from 18 to 33 (fun v wx => ∃ (lb : Nat) (d : Sl), v = .pointer (some ⟨lb, 0, none⟩) ∧ Hid (Below w2.heap.size w2 wx) ∧ Hid (wx.heap[lb]? = some (.cells (lnV (lin0 ⟨kind, name, link, mode, uid, gid, user, group, sec, nano, data⟩, d)) 51)) ∧ Hid (Own wx w2.heap.size d data) ∧ w2.heap.size ≤ lb)
      case first =>
        -- @done
        have HS : Hid (∀ w' : World, w'.heap[ex]? = some (.cells #[.int .i64 kind, .string ⟨name.toArray⟩, .string ⟨link.toArray⟩, .int .i64 mode, .int .i64 uid, .int .i64 gid, .string ⟨user.toArray⟩, .string ⟨group.toArray⟩, .int .i64 sec, .int .i64 nano, .slice da dn dc] 39) → w'.cell? ⟨ex, 1, none⟩ = some (.string ⟨name.toArray⟩) ∧ w'.cell? ⟨ex, 0, none⟩ = some (.int .i64 kind) ∧ w'.cell? ⟨ex, 3, none⟩ = some (.int .i64 mode) ∧ w'.cell? ⟨ex, 4, none⟩ = some (.int .i64 uid) ∧ w'.cell? ⟨ex, 5, none⟩ = some (.int .i64 gid) ∧ w'.cell? ⟨ex, 8, none⟩ = some (.int .i64 sec) ∧ w'.cell? ⟨ex, 8 + 1, none⟩ = some (.int .i64 nano) ∧ w'.cell? ⟨ex, 10, none⟩ = some (.slice da dn dc)) := Lib.hid (fun w' h2 => by
          refine ⟨?_, ?_, ?_, ?_, ?_, ?_, ?_, ?_⟩ <;> (rw [row_cell h2]; rfl))
        have HCLN : Hid (∀ w' : World, Dat w' (da, dn, dc) data → _) := Lib.hid (fun w' h => Clone_any (da, dn, dc) data w' h HND.out)
        refine wp_region_held_drew (S := fun w' : World => w'.cell? ⟨ex, 1, none⟩ = some (.string ⟨name.toArray⟩) ∧ w'.cell? ⟨ex, 0, none⟩ = some (.int .i64 kind) ∧ w'.cell? ⟨ex, 3, none⟩ = some (.int .i64 mode) ∧ w'.cell? ⟨ex, 4, none⟩ = some (.int .i64 uid) ∧ w'.cell? ⟨ex, 5, none⟩ = some (.int .i64 gid) ∧ w'.cell? ⟨ex, 8, none⟩ = some (.int .i64 sec) ∧ w'.cell? ⟨ex, 8 + 1, none⟩ = some (.int .i64 nano) ∧ w'.cell? ⟨ex, 10, none⟩ = some (.slice da dn dc)) (by kernel_rfl) (HS.out _ HBX.out) (fun hHeld => ?_)
        refine wpAnyH_take (i := 0) (oi := { dst := some 18, op := Op.fieldAddr 39 (Operand.tmp 7) 1, type := 0, pos := "gather.go:81", after := #[], guard := none }) (v := (.pointer (some ⟨ex, 1, none⟩))) rfl (by kernel_rfl) (by kernel_rfl) (by kernel_rfl) (fun _ _ _ h => h) (Or.inl ⟨by rfl, ?_⟩) (by assumption) ?_
        · intro wz hSw
          (try dsimp only at hSw)
          obtain ⟨s1, s2, s3, s4, s5, s6, s7, s8⟩ := hSw
          go_simp
        (try simp only [Act.put, List.setIfInBounds_toArray, List.set_cons_zero, List.set_cons_succ, List.toList_toArray])
        refine wpAnyH_take (i := 1) (oi := { dst := some 19, op := Op.load 9 (Operand.tmp 18), type := 9, pos := "gather.go:81", after := #[{ on := 0, ground := Ground.data }], guard := none }) (v := (.string ⟨name.toArray⟩)) rfl (by kernel_rfl) (by kernel_rfl) (by kernel_rfl) (fun _ _ _ h => h) (Or.inl ⟨by rfl, ?_⟩) (by assumption) ?_
        · intro wz hSw
          (try dsimp only at hSw)
          obtain ⟨s1, s2, s3, s4, s5, s6, s7, s8⟩ := hSw
          go_simp
        (try simp only [Act.put, List.setIfInBounds_toArray, List.set_cons_zero, List.set_cons_succ, List.toList_toArray])
        refine wpAnyH_take (i := 2) (oi := { dst := some 20, op := Op.fieldAddr 39 (Operand.tmp 7) 0, type := 0, pos := "gather.go:81", after := #[], guard := none }) (v := (.pointer (some ⟨ex, 0, none⟩))) rfl (by kernel_rfl) (by kernel_rfl) (by kernel_rfl) (fun _ _ _ h => h) (Or.inl ⟨by rfl, ?_⟩) (by assumption) ?_
        · intro wz hSw
          (try dsimp only at hSw)
          obtain ⟨s1, s2, s3, s4, s5, s6, s7, s8⟩ := hSw
          go_simp
        (try simp only [Act.put, List.setIfInBounds_toArray, List.set_cons_zero, List.set_cons_succ, List.toList_toArray])
        refine wpAnyH_take (i := 3) (oi := { dst := some 21, op := Op.load 3 (Operand.tmp 20), type := 3, pos := "gather.go:81", after := #[{ on := 2, ground := Ground.data }], guard := none }) (v := (.int .i64 kind)) rfl (by kernel_rfl) (by kernel_rfl) (by kernel_rfl) (fun _ _ _ h => h) (Or.inl ⟨by rfl, ?_⟩) (by assumption) ?_
        · intro wz hSw
          (try dsimp only at hSw)
          obtain ⟨s1, s2, s3, s4, s5, s6, s7, s8⟩ := hSw
          go_simp
        (try simp only [Act.put, List.setIfInBounds_toArray, List.set_cons_zero, List.set_cons_succ, List.toList_toArray])
        refine wpAnyH_take (i := 4) (oi := { dst := some 22, op := Op.fieldAddr 39 (Operand.tmp 7) 3, type := 0, pos := "gather.go:81", after := #[], guard := none }) (v := (.pointer (some ⟨ex, 3, none⟩))) rfl (by kernel_rfl) (by kernel_rfl) (by kernel_rfl) (fun _ _ _ h => h) (Or.inl ⟨by rfl, ?_⟩) (by assumption) ?_
        · intro wz hSw
          (try dsimp only at hSw)
          obtain ⟨s1, s2, s3, s4, s5, s6, s7, s8⟩ := hSw
          go_simp
        (try simp only [Act.put, List.setIfInBounds_toArray, List.set_cons_zero, List.set_cons_succ, List.toList_toArray])
        refine wpAnyH_take (i := 5) (oi := { dst := some 23, op := Op.load 3 (Operand.tmp 22), type := 3, pos := "gather.go:81", after := #[{ on := 4, ground := Ground.data }], guard := none }) (v := (.int .i64 mode)) rfl (by kernel_rfl) (by kernel_rfl) (by kernel_rfl) (fun _ _ _ h => h) (Or.inl ⟨by rfl, ?_⟩) (by assumption) ?_
        · intro wz hSw
          (try dsimp only at hSw)
          obtain ⟨s1, s2, s3, s4, s5, s6, s7, s8⟩ := hSw
          go_simp
        (try simp only [Act.put, List.setIfInBounds_toArray, List.set_cons_zero, List.set_cons_succ, List.toList_toArray])
        refine wpAnyH_take (i := 6) (oi := { dst := some 24, op := Op.fieldAddr 39 (Operand.tmp 7) 4, type := 0, pos := "gather.go:81", after := #[], guard := none }) (v := (.pointer (some ⟨ex, 4, none⟩))) rfl (by kernel_rfl) (by kernel_rfl) (by kernel_rfl) (fun _ _ _ h => h) (Or.inl ⟨by rfl, ?_⟩) (by assumption) ?_
        · intro wz hSw
          (try dsimp only at hSw)
          obtain ⟨s1, s2, s3, s4, s5, s6, s7, s8⟩ := hSw
          go_simp
        (try simp only [Act.put, List.setIfInBounds_toArray, List.set_cons_zero, List.set_cons_succ, List.toList_toArray])
        refine wpAnyH_take (i := 7) (oi := { dst := some 25, op := Op.load 3 (Operand.tmp 24), type := 3, pos := "gather.go:81", after := #[{ on := 6, ground := Ground.data }], guard := none }) (v := (.int .i64 uid)) rfl (by kernel_rfl) (by kernel_rfl) (by kernel_rfl) (fun _ _ _ h => h) (Or.inl ⟨by rfl, ?_⟩) (by assumption) ?_
        · intro wz hSw
          (try dsimp only at hSw)
          obtain ⟨s1, s2, s3, s4, s5, s6, s7, s8⟩ := hSw
          go_simp
        (try simp only [Act.put, List.setIfInBounds_toArray, List.set_cons_zero, List.set_cons_succ, List.toList_toArray])
        refine wpAnyH_take (i := 8) (oi := { dst := some 26, op := Op.fieldAddr 39 (Operand.tmp 7) 5, type := 0, pos := "gather.go:81", after := #[], guard := none }) (v := (.pointer (some ⟨ex, 5, none⟩))) rfl (by kernel_rfl) (by kernel_rfl) (by kernel_rfl) (fun _ _ _ h => h) (Or.inl ⟨by rfl, ?_⟩) (by assumption) ?_
        · intro wz hSw
          (try dsimp only at hSw)
          obtain ⟨s1, s2, s3, s4, s5, s6, s7, s8⟩ := hSw
          go_simp
        (try simp only [Act.put, List.setIfInBounds_toArray, List.set_cons_zero, List.set_cons_succ, List.toList_toArray])
        refine wpAnyH_take (i := 9) (oi := { dst := some 27, op := Op.load 3 (Operand.tmp 26), type := 3, pos := "gather.go:81", after := #[{ on := 8, ground := Ground.data }], guard := none }) (v := (.int .i64 gid)) rfl (by kernel_rfl) (by kernel_rfl) (by kernel_rfl) (fun _ _ _ h => h) (Or.inl ⟨by rfl, ?_⟩) (by assumption) ?_
        · intro wz hSw
          (try dsimp only at hSw)
          obtain ⟨s1, s2, s3, s4, s5, s6, s7, s8⟩ := hSw
          go_simp
        (try simp only [Act.put, List.setIfInBounds_toArray, List.set_cons_zero, List.set_cons_succ, List.toList_toArray])
        refine wpAnyH_take (i := 10) (oi := { dst := some 28, op := Op.fieldAddr 39 (Operand.tmp 7) 8, type := 0, pos := "gather.go:81", after := #[], guard := none }) (v := (.pointer (some ⟨ex, 8, none⟩))) rfl (by kernel_rfl) (by kernel_rfl) (by kernel_rfl) (fun _ _ _ h => h) (Or.inl ⟨by rfl, ?_⟩) (by assumption) ?_
        · intro wz hSw
          (try dsimp only at hSw)
          obtain ⟨s1, s2, s3, s4, s5, s6, s7, s8⟩ := hSw
          go_simp
        (try simp only [Act.put, List.setIfInBounds_toArray, List.set_cons_zero, List.set_cons_succ, List.toList_toArray])
        refine wpAnyH_take (i := 11) (oi := { dst := some 29, op := Op.load 36 (Operand.tmp 28), type := 36, pos := "gather.go:81", after := #[{ on := 10, ground := Ground.data }], guard := none }) (v := (.agg #[.int .i64 sec, .int .i64 nano])) rfl (by kernel_rfl) (by kernel_rfl) (by kernel_rfl) (fun _ _ _ h => h) (Or.inl ⟨by rfl, ?_⟩) (by assumption) ?_
        · intro wz hSw
          (try dsimp only at hSw)
          obtain ⟨s1, s2, s3, s4, s5, s6, s7, s8⟩ := hSw
          go_simp
        (try simp only [Act.put, List.setIfInBounds_toArray, List.set_cons_zero, List.set_cons_succ, List.toList_toArray])
        refine wpAnyH_take (i := 12) (oi := { dst := some 30, op := Op.fieldAddr 39 (Operand.tmp 7) 9, type := 0, pos := "gather.go:81", after := #[], guard := none }) (v := (.pointer (some ⟨ex, 10, none⟩))) rfl (by kernel_rfl) (by kernel_rfl) (by kernel_rfl) (fun _ _ _ h => h) (Or.inl ⟨by rfl, ?_⟩) (by assumption) ?_
        · intro wz hSw
          (try dsimp only at hSw)
          obtain ⟨s1, s2, s3, s4, s5, s6, s7, s8⟩ := hSw
          go_simp
        (try simp only [Act.put, List.setIfInBounds_toArray, List.set_cons_zero, List.set_cons_succ, List.toList_toArray])
        refine wpAnyH_take (i := 13) (oi := { dst := some 31, op := Op.load 37 (Operand.tmp 30), type := 37, pos := "gather.go:81", after := #[{ on := 12, ground := Ground.data }], guard := none }) (v := (.slice da dn dc)) rfl (by kernel_rfl) (by kernel_rfl) (by kernel_rfl) (fun _ _ _ h => h) (Or.inl ⟨by rfl, ?_⟩) (by assumption) ?_
        · intro wz hSw
          (try dsimp only at hSw)
          obtain ⟨s1, s2, s3, s4, s5, s6, s7, s8⟩ := hSw
          go_simp
        (try simp only [Act.put, List.setIfInBounds_toArray, List.set_cons_zero, List.set_cons_succ, List.toList_toArray])
        refine wpAnyH_ready (rs := [14, 16]) (by kernel_rfl) (by simp) ?_
        refine AllReadyH.cons (o := { dst := some 32, op := Op.call { callee := Callee.value (Operand.func 37), args := #[Operand.tmp 31], argTypes := #[37] }, type := 37, pos := "gather.go:81", after := #[{ on := 13, ground := Ground.data }], guard := none }) rfl (fun K hK => ?_) ?_
        · skip
          go_simp
          (go_at_call 37; refine (HCLN.out _ (Below.bs ((Below.refl w2.heap.size w2).drew) HDX.out)).mono ?_; rintro r w5 ⟨a5, n5, c5, rfl, ho5, hb5⟩)
          have HO5 : Hid (Own w5 w2.heap.size (a5, n5, c5) data) := Lib.hid (own_base ho5 ((Below.refl w2.heap.size w2).drew).size)
          have HB5 : Hid (Below w2.heap.size w2 w5) := Lib.hid (((Below.refl w2.heap.size w2).drew).trans (hb5.mono ((Below.refl w2.heap.size w2).drew).size))
          have HX5 := Lib.hid (row_below HBX.out HB5.out)
          clear ho5 hb5
          (try go_wp2_with fail)
          refine hK.out _ _ (HS.out _ HX5.out) (fun hH5 => ?_)
          clear hK K hHeld
          (try simp only [Act.put, List.setIfInBounds_toArray, List.set_cons_zero, List.set_cons_succ, List.toList_toArray])
          refine wpAnyH_take (i := 15) (oi := { dst := some 33, op := Op.build 51 #[(0, Operand.tmp 19), (1, Operand.tmp 21), (2, Operand.tmp 23), (3, Operand.tmp 25), (4, Operand.tmp 27), (5, Operand.tmp 29), (6, Operand.tmp 32)], type := 51, pos := "gather.go:81", after := #[{ on := 1, ground := Ground.data }, { on := 3, ground := Ground.data }, { on := 5, ground := Ground.data }, { on := 7, ground := Ground.data }, { on := 9, ground := Ground.data }, { on := 11, ground := Ground.data }, { on := 14, ground := Ground.data }], guard := none }) (v := (.agg #[.string ⟨name.toArray⟩, .int .i64 kind, .int .i64 mode, .int .i64 uid, .int .i64 gid, .int .i64 sec, .int .i64 nano, .slice a5 n5 c5, .string ⟨#[]⟩, .string ⟨#[]⟩])) rfl (by kernel_rfl) (by kernel_rfl) (by kernel_rfl) (fun _ _ _ h => h) (Or.inl ⟨by rfl, ?_⟩) (by assumption) ?_
          · intro wz hSw
            (try dsimp only at hSw)
            obtain ⟨s1, s2, s3, s4, s5, s6, s7, s8⟩ := hSw
            go_simp
          (try simp only [Act.put, List.setIfInBounds_toArray, List.set_cons_zero, List.set_cons_succ, List.toList_toArray])
          refine wpAnyH_ready (rs := [16]) (by kernel_rfl) (by simp) ?_
          refine AllReadyH.cons (o := { dst := some 8, op := Op.alloc 51, type := 0, pos := "gather.go:81", after := #[], guard := none }) rfl (fun K hK => ?_) AllReadyH.nil
          have HXW : Hid ((w5.alloc (.cells #[.string ⟨#[]⟩, .int .i64 0, .int .i64 0, .int .i64 0, .int .i64 0, .int .i64 0, .int .i64 0, .slice none 0 0, .string ⟨#[]⟩, .string ⟨#[]⟩] 51)).heap[ex]? = _) := Lib.hid ((heap_alloc_old w5 _ (row_lt HX5.out)).trans HX5.out)
          go_simp
          refine hK.out _ _ (HS.out _ HXW.out) (fun hH6 => ?_)
          clear hK K hH5
          (try simp only [Act.put, List.setIfInBounds_toArray, List.set_cons_zero, List.set_cons_succ, List.toList_toArray])
          have RO := Lib.hid (heap_alloc_new w5 (.cells #[.string ⟨#[]⟩, .int .i64 0, .int .i64 0, .int .i64 0, .int .i64 0, .int .i64 0, .int .i64 0, .slice none 0 0, .string ⟨#[]⟩, .string ⟨#[]⟩] 51))
          have HXS : Hid (((w5.alloc (.cells #[.string ⟨#[]⟩, .int .i64 0, .int .i64 0, .int .i64 0, .int .i64 0, .int .i64 0, .int .i64 0, .slice none 0 0, .string ⟨#[]⟩, .string ⟨#[]⟩] 51)).setRow w5.heap.size (lnV (lin0 ⟨kind, name, link, mode, uid, gid, user, group, sec, nano, data⟩, (a5, n5, c5)))).heap[ex]? = _) := Lib.hid ((setRow_other _ _ _ _ (fun e => by have h1 := HXW.out; rw [e] at h1; have h2 := RO.out; rw [h1] at h2; simp at h2)).trans HXW.out)
          refine wpAnyH_ready (rs := [17]) (by kernel_rfl) (by simp) ?_
          refine AllReadyH.cons (o := { dst := none, op := Op.store 51 (Operand.tmp 8) (Operand.tmp 33), type := 0, pos := "gather.go:81", after := #[{ on := 16, ground := Ground.data }, { on := 15, ground := Ground.data }, { on := 14, ground := Ground.chain }, { on := 0, ground := Ground.phase }, { on := 1, ground := Ground.phase }, { on := 2, ground := Ground.phase }, { on := 3, ground := Ground.phase }, { on := 4, ground := Ground.phase }, { on := 5, ground := Ground.phase }, { on := 6, ground := Ground.phase }, { on := 7, ground := Ground.phase }, { on := 8, ground := Ground.phase }, { on := 9, ground := Ground.phase }, { on := 10, ground := Ground.phase }, { on := 11, ground := Ground.phase }, { on := 12, ground := Ground.phase }, { on := 13, ground := Ground.phase }, { on := 14, ground := Ground.phase }, { on := 15, ground := Ground.phase }, { on := 16, ground := Ground.phase }], guard := none }) rfl (fun K hK => ?_) AllReadyH.nil
          refine step_store_row rfl _ _ _ rfl w5.heap.size rfl (lnV (lin0 ⟨kind, name, link, mode, uid, gid, user, group, sec, nano, data⟩, (a5, n5, c5))) rfl _ 51 RO.out rfl (sizeLn _) (by simpa [lnCells, lnV, lin0] using ln_one [(lin0 ⟨kind, name, link, mode, uid, gid, user, group, sec, nano, data⟩, (a5, n5, c5))]) ?_
          refine hK.out _ _ (HS.out _ HXS.out) (fun hH7 => ?_)
          clear hK K
          (try simp only [Act.put, List.setIfInBounds_toArray, List.set_cons_zero, List.set_cons_succ, List.toList_toArray])
          refine wpAnyH_done (by kernel_rfl) ?_ _
          go_wp2_with fail
          go_meet
          exact ⟨w5.heap.size, (a5, n5, c5), rfl, Lib.hid (Below.setRow (HB5.out.alloc HB5.out.size _) (by first | exact Nat.le_refl _ | exact HB5.out.size) _), Lib.hid (setRow_heap _ _ _ _ _ _ RO.out), Lib.hid (setRow_own (own_keep HO5.out (fun j _ hj => by rw [heap_alloc_old _ _ hj])) RO.out (by decide)), by first | exact Nat.le_refl _ | exact HB5.out.size⟩
        refine AllReadyH.cons (o := { dst := some 8, op := Op.alloc 51, type := 0, pos := "gather.go:81", after := #[], guard := none }) rfl (fun K hK => ?_) AllReadyH.nil
        have HX3 : Hid (((w2.alloc (.cells #[.string ⟨#[]⟩, .int .i64 0, .int .i64 0, .int .i64 0, .int .i64 0, .int .i64 0, .int .i64 0, .slice none 0 0, .string ⟨#[]⟩, .string ⟨#[]⟩] 51)).drew).heap[ex]? = _) := Lib.hid ((heap_alloc_old w2 _ (row_lt HBX.out)).trans HBX.out)
        go_simp
        refine hK.out _ _ (HS.out _ HX3.out) (fun hH6 => ?_)
        clear hK K hHeld
        (try simp only [Act.put, List.setIfInBounds_toArray, List.set_cons_zero, List.set_cons_succ, List.toList_toArray])
        refine wpAnyH_ready (rs := [14]) (by kernel_rfl) (by simp) ?_
        refine AllReadyH.cons (o := { dst := some 32, op := Op.call { callee := Callee.value (Operand.func 37), args := #[Operand.tmp 31], argTypes := #[37] }, type := 37, pos := "gather.go:81", after := #[{ on := 13, ground := Ground.data }], guard := none }) rfl (fun K hK => ?_) AllReadyH.nil
        go_simp
        (go_at_call 37; refine (HCLN.out _ (Below.bs (((Below.refl w2.heap.size w2).alloc (Nat.le_refl _) (.cells #[.string ⟨#[]⟩, .int .i64 0, .int .i64 0, .int .i64 0, .int .i64 0, .int .i64 0, .int .i64 0, .slice none 0 0, .string ⟨#[]⟩, .string ⟨#[]⟩] 51)).drew) HDX.out)).mono ?_; rintro r w5 ⟨a5, n5, c5, rfl, ho5, hb5⟩)
        have HO5 : Hid (Own w5 w2.heap.size (a5, n5, c5) data) := Lib.hid (own_base ho5 (((Below.refl w2.heap.size w2).alloc (Nat.le_refl _) (.cells #[.string ⟨#[]⟩, .int .i64 0, .int .i64 0, .int .i64 0, .int .i64 0, .int .i64 0, .int .i64 0, .slice none 0 0, .string ⟨#[]⟩, .string ⟨#[]⟩] 51)).drew).size)
        have HB5 : Hid (Below w2.heap.size w2 w5) := Lib.hid ((((Below.refl w2.heap.size w2).alloc (Nat.le_refl _) (.cells #[.string ⟨#[]⟩, .int .i64 0, .int .i64 0, .int .i64 0, .int .i64 0, .int .i64 0, .int .i64 0, .slice none 0 0, .string ⟨#[]⟩, .string ⟨#[]⟩] 51)).drew).trans (hb5.mono (((Below.refl w2.heap.size w2).alloc (Nat.le_refl _) (.cells #[.string ⟨#[]⟩, .int .i64 0, .int .i64 0, .int .i64 0, .int .i64 0, .int .i64 0, .int .i64 0, .slice none 0 0, .string ⟨#[]⟩, .string ⟨#[]⟩] 51)).drew).size))
        have HX5 := Lib.hid (row_below HBX.out HB5.out)
        have R5 := row_below (show ((w2.alloc (.cells #[.string ⟨#[]⟩, .int .i64 0, .int .i64 0, .int .i64 0, .int .i64 0, .int .i64 0, .int .i64 0, .slice none 0 0, .string ⟨#[]⟩, .string ⟨#[]⟩] 51)).drew).heap[w2.heap.size]? = _ from heap_alloc_new w2 (.cells #[.string ⟨#[]⟩, .int .i64 0, .int .i64 0, .int .i64 0, .int .i64 0, .int .i64 0, .int .i64 0, .slice none 0 0, .string ⟨#[]⟩, .string ⟨#[]⟩] 51)) hb5
        have HXW := HX5
        clear ho5 hb5
        (try go_wp2_with fail)
        refine hK.out _ _ (HS.out _ HX5.out) (fun hH5 => ?_)
        clear hK K hH6
        (try simp only [Act.put, List.setIfInBounds_toArray, List.set_cons_zero, List.set_cons_succ, List.toList_toArray])
        refine wpAnyH_take (i := 15) (oi := { dst := some 33, op := Op.build 51 #[(0, Operand.tmp 19), (1, Operand.tmp 21), (2, Operand.tmp 23), (3, Operand.tmp 25), (4, Operand.tmp 27), (5, Operand.tmp 29), (6, Operand.tmp 32)], type := 51, pos := "gather.go:81", after := #[{ on := 1, ground := Ground.data }, { on := 3, ground := Ground.data }, { on := 5, ground := Ground.data }, { on := 7, ground := Ground.data }, { on := 9, ground := Ground.data }, { on := 11, ground := Ground.data }, { on := 14, ground := Ground.data }], guard := none }) (v := (.agg #[.string ⟨name.toArray⟩, .int .i64 kind, .int .i64 mode, .int .i64 uid, .int .i64 gid, .int .i64 sec, .int .i64 nano, .slice a5 n5 c5, .string ⟨#[]⟩, .string ⟨#[]⟩])) rfl (by kernel_rfl) (by kernel_rfl) (by kernel_rfl) (fun _ _ _ h => h) (Or.inl ⟨by rfl, ?_⟩) (by assumption) ?_
        · intro wz hSw
          (try dsimp only at hSw)
          obtain ⟨s1, s2, s3, s4, s5, s6, s7, s8⟩ := hSw
          go_simp
        (try simp only [Act.put, List.setIfInBounds_toArray, List.set_cons_zero, List.set_cons_succ, List.toList_toArray])
        have RO := Lib.hid (R5)
        have HXS : Hid (((w5).setRow w2.heap.size (lnV (lin0 ⟨kind, name, link, mode, uid, gid, user, group, sec, nano, data⟩, (a5, n5, c5)))).heap[ex]? = _) := Lib.hid ((setRow_other _ _ _ _ (fun e => by have h1 := HXW.out; rw [e] at h1; have h2 := RO.out; rw [h1] at h2; simp at h2)).trans HXW.out)
        refine wpAnyH_ready (rs := [17]) (by kernel_rfl) (by simp) ?_
        refine AllReadyH.cons (o := { dst := none, op := Op.store 51 (Operand.tmp 8) (Operand.tmp 33), type := 0, pos := "gather.go:81", after := #[{ on := 16, ground := Ground.data }, { on := 15, ground := Ground.data }, { on := 14, ground := Ground.chain }, { on := 0, ground := Ground.phase }, { on := 1, ground := Ground.phase }, { on := 2, ground := Ground.phase }, { on := 3, ground := Ground.phase }, { on := 4, ground := Ground.phase }, { on := 5, ground := Ground.phase }, { on := 6, ground := Ground.phase }, { on := 7, ground := Ground.phase }, { on := 8, ground := Ground.phase }, { on := 9, ground := Ground.phase }, { on := 10, ground := Ground.phase }, { on := 11, ground := Ground.phase }, { on := 12, ground := Ground.phase }, { on := 13, ground := Ground.phase }, { on := 14, ground := Ground.phase }, { on := 15, ground := Ground.phase }, { on := 16, ground := Ground.phase }], guard := none }) rfl (fun K hK => ?_) AllReadyH.nil
        refine step_store_row rfl _ _ _ rfl w2.heap.size rfl (lnV (lin0 ⟨kind, name, link, mode, uid, gid, user, group, sec, nano, data⟩, (a5, n5, c5))) rfl _ 51 RO.out rfl (sizeLn _) (by simpa [lnCells, lnV, lin0] using ln_one [(lin0 ⟨kind, name, link, mode, uid, gid, user, group, sec, nano, data⟩, (a5, n5, c5))]) ?_
        refine hK.out _ _ (HS.out _ HXS.out) (fun hH7 => ?_)
        clear hK K
        (try simp only [Act.put, List.setIfInBounds_toArray, List.set_cons_zero, List.set_cons_succ, List.toList_toArray])
        refine wpAnyH_done (by kernel_rfl) ?_ _
        go_wp2_with fail
        go_meet
        exact ⟨w2.heap.size, (a5, n5, c5), rfl, Lib.hid (Below.setRow HB5.out (by first | exact Nat.le_refl _ | exact HB5.out.size) _), Lib.hid (setRow_heap _ _ _ _ _ _ RO.out), Lib.hid (setRow_own HO5.out RO.out (by decide)), by first | exact Nat.le_refl _ | exact HB5.out.size⟩
        -- @end
      obtain ⟨lb, d, rfl, hc1, hc2, hc3, hc4⟩ := hcut
      obtain ⟨w3, hw3⟩ : ∃ w3, w3 = wc := ⟨_, rfl⟩
      subst hw3
      have HX3 := Lib.hid (row_below HBX.out hc1.out)
      have hb3 : Below w.heap.size w w3 := HB1.out.trans (hc1.out.mono HB1.out.size)
      have HX0 : Hid (Bx w w3 w.heap.size lb w.heap.size s la k lc LS (kF ks) (lin0 ⟨kind, name, link, mode, uid, gid, user, group, sec, nano, data⟩) d w2.heap.size) := Lib.hid ⟨hb3, HI1.out.below hc1.out, HM1.out.below hc1.out HM1.out.lt, hc2.out, hc3.out, fun e => by have := (HI1.out.own.lt _ e).2; omega, by have := HB1.out.size; omega⟩
      have k0 : w3.cell? ⟨ex, 0, none⟩ = some (.int .i64 kind) := by rw [row_cell HX3.out]; rfl
      have k1 : w3.cell? ⟨ex, 1, none⟩ = some (.string ⟨name.toArray⟩) := by rw [row_cell HX3.out]; rfl
      have k2 : w3.cell? ⟨ex, 2, none⟩ = some (.string ⟨link.toArray⟩) := by rw [row_cell HX3.out]; rfl
      clear hc1 hc2 hc3 hc4 HBX HDX HND hb3
      by_cases hk2 : kind = 2
      · subst hk2
        have d0 : w3.cell? ⟨lb, 0, none⟩ = some (.string ⟨name.toArray⟩) := by rw [row_cell HX0.out.row]; rfl
        have d0f : w3.frozen? ⟨lb, 0, none⟩ = false := row_froz HX0.out.row 0
        have hts := Try.strings_TrimSuffix ⟨name.toArray⟩ ⟨#[47]⟩ w3 (by show name.length ≤ _; omega)
        have hte : (Lib.trimSuffix (⟨name.toArray⟩ : ByteArray).data.toList (⟨#[47]⟩ : ByteArray).data.toList) = trimS name := rfl
        rw [hte] at hts
        have HTS := Lib.hid hts
        have HX4 := Lib.hid (HX0.out.set (l' := linOf ks ⟨2, name, link, mode, uid, gid, user, group, sec, nano, data⟩) 0 (.string ⟨(trimS name).toArray⟩) rfl rfl)
        clear hts hte
        obtain ⟨L, hLe⟩ : ∃ L, linOf ks ⟨2, name, link, mode, uid, gid, user, group, sec, nano, data⟩ = L := ⟨_, rfl⟩
        rw [hLe] at HX4 HGG
        have HLP : Hid (L.path.length ≤ 1900000 ∧ L.peer.length ≤ 1900000 ∧ L.data = data) := Lib.hid (by rw [← hLe]; exact linOf_len hns1 hns2)
        have HKL := Lib.hid (key_str (P := Try.prog) Try.underlying9 (x := L.path) (by have := HLP.out.1; omega))
        have HSM : Hid (s < maxLen) := Lib.hid (by unfold maxLen; omega)
        have HXX : Hid (∀ l ∈ (LS ++ [(L, d)]).map (·.1), (∃ e ∈ eOf T, l.data = e.data) ∧ l.path.length ≤ 1900000 ∧ l.peer.length ≤ 1900000) := Lib.hid (fun l hl => by
          rw [List.map_append] at hl
          rcases List.mem_append.1 hl with h | h
          · exact hX.out l h
          · simp only [List.map_cons, List.map_nil, List.mem_singleton] at h
            subst h
            exact ⟨⟨_, HMEM.out, HLP.out.2.2⟩, HLP.out.1, HLP.out.2.1⟩)
        clear hLe
        go_upto_region 14 with (go_at_call 38; (refine (HTS.out).mono ?_); rintro r w5 ⟨rfl, hw5⟩; obtain rfl := hw5.symm)
        clear d0 d0f HX0 k0 k1 k2
        generalize w3.setCell ⟨lb, 0, none⟩ (.string ⟨(trimS name).toArray⟩) = w4 at *
        have c0 : w4.cell? ⟨lb, 0, none⟩ = some (.string ⟨L.path.toArray⟩) := by rw [row_cell HX4.out.row]; rfl
        have c1 : w4.cell? ⟨lb, 1, none⟩ = some (.int .i64 L.kind) := by rw [row_cell HX4.out.row]; rfl
        have HPUT : Hid (∀ w5, MpS w5 w.heap.size (if (kF ks L.path).isSome then s else s + 1) (upd (kF ks) L.path (.int .i64 L.kind)) → w4.grownBy w5 (some w.heap.size) → Hid (w5.heap[lb]? = some (.cells (lnV (L, d)) 51)) ∧ Hid (NewLn w5 w.heap.size la k lc LS) ∧ Hid (Own w5 w2.heap.size d L.data) ∧ Hid (Below w.heap.size w w5) ∧ Hid (MpS w5 w.heap.size (if (kF ks L.path).isSome then s else s + 1) (kF (ks ++ [(L.path, L.kind)]))) ∧
            Hid ((w5.alloc (.cells (lnV (L, d)) 51)).ownsRow w.heap.size 51 10 (.slice la k lc) k (LS.flatMap lnCells)) ∧ Hid (w.heap.size ≤ (w5.alloc (.cells (lnV (L, d)) 51)).heap.size)) := Lib.hid (fun w5 hm5 hg5 => by
          have hr := row_grown HX4.out.row hg5 (fun e => HX4.out.mp.ne_row HX4.out.row e.symm)
          have hn := HX4.out.new.put HX4.out.mp hg5
          have hb := HX4.out.bel.grown hg5 HX4.out.bel.size (fun j hj => by cases hj; exact Nat.le_refl _)
          exact ⟨Lib.hid hr, Lib.hid hn, Lib.hid (own_grown HX4.out.own hg5 (Or.inr (fun e => HX4.out.mp.ne_own HX4.out.own e.symm))), Lib.hid hb, Lib.hid (hm5.congr (kF_upd ks L.path L.kind)), Lib.hid (own_keep hn.own (fun j _ hj => by rw [heap_alloc_old _ _ hj])), Lib.hid (by have := hb.size; simp; omega)⟩)
        go_wp2_with (first
          | (at_mapUpdate; refine wpList_mp_put rfl _ _ _ 80 rfl 3 lawS Try.underlying80 rfl HX4.out.mp HSM.out _ L.path rfl HKL.out _ rfl mkS_inj ?_; intro w5 hm5 hg5; obtain ⟨R5, HI5, HO5, HB5, HM5, HOW, HSZ⟩ := HPUT.out w5 hm5 hg5; clear hm5 hg5)
          | (refine wpList_load_rowA rfl _ _ rfl lb rfl (lnV (L, d)) 51 _ R5.out Try.underlying51 rfl (sizeLn _) ?_)
          | (with_reducible refine wpList_slice_one rfl 22 _ rfl Try.underlying22 (lnV (L, d)) (infoLine2 (L, d)) (lnZ_sz (L, d)) (lnV_pos (L, d)) (lnV_lim (L, d)) rfl ?_)
          | (at_builtin; refine wpList_app rfl _ _ 22 rfl w.heap.size 51 _ 10 120 Try.underlying22 infoLine rfl (by decide) (by decide) rfl HOW.out rfl (ln_newc w5 (L, d)) (ln_one [(L, d)]) (by omega) HSZ.out ?_; intro a9 c9 w9 ho9 hg9))
        have hN9 := NewLn.app2 HI1.out HB1.out.size HI5.out HO5.out hg9 ho9
        have hA9 : Below w5.heap.size w5 (w5.alloc (.cells (lnV (L, d)) 51)) := (Below.refl _ _).alloc (Nat.le_refl _) _
        have hM9 := (HM5.out.below hA9 HM5.out.lt).kept hg9 ((HM5.out.below hA9 HM5.out.lt).ne_own HOW.out)
        have hB9 : Below w.heap.size w w9 := (HB5.out.alloc HB5.out.size _).grown hg9 HSZ.out (fun j hj => (HOW.out.lt j hj).1)
        refine ⟨⟨k + 1, a9, c9, _, LS ++ [(L, d)], ks ++ [(L.path, L.kind)], by omega, by go_num, rfl, Lib.hid hN9, Lib.hid hM9, by split <;> omega, Lib.hid hB9, Lib.hid (by rw [List.map_append, List.append_assoc]; exact HGG.out), HXX⟩, by simp [intOf]; omega⟩
      · by_cases hk3 : kind = 3
        · subst hk3
          have d0 : w3.cell? ⟨lb, 8, none⟩ = some (.string ⟨#[]⟩) := by rw [row_cell HX0.out.row]; rfl
          have d0f : w3.frozen? ⟨lb, 8, none⟩ = false := row_froz HX0.out.row 8
          have HX4 := Lib.hid (HX0.out.set (l' := linOf ks ⟨3, name, link, mode, uid, gid, user, group, sec, nano, data⟩) 8 (.string ⟨link.toArray⟩) rfl rfl)
          obtain ⟨L, hLe⟩ : ∃ L, linOf ks ⟨3, name, link, mode, uid, gid, user, group, sec, nano, data⟩ = L := ⟨_, rfl⟩
          rw [hLe] at HX4 HGG
          have HLP : Hid (L.path.length ≤ 1900000 ∧ L.peer.length ≤ 1900000 ∧ L.data = data) := Lib.hid (by rw [← hLe]; exact linOf_len hns1 hns2)
          have HKL := Lib.hid (key_str (P := Try.prog) Try.underlying9 (x := L.path) (by have := HLP.out.1; omega))
          have HSM : Hid (s < maxLen) := Lib.hid (by unfold maxLen; omega)
          have HXX : Hid (∀ l ∈ (LS ++ [(L, d)]).map (·.1), (∃ e ∈ eOf T, l.data = e.data) ∧ l.path.length ≤ 1900000 ∧ l.peer.length ≤ 1900000) := Lib.hid (fun l hl => by
            rw [List.map_append] at hl
            rcases List.mem_append.1 hl with h | h
            · exact hX.out l h
            · simp only [List.map_cons, List.map_nil, List.mem_singleton] at h
              subst h
              exact ⟨⟨_, HMEM.out, HLP.out.2.2⟩, HLP.out.1, HLP.out.2.1⟩)
          clear hLe
          go_upto_region 14 with fail
          clear d0 d0f HX0 k0 k1 k2
          generalize w3.setCell ⟨lb, 8, none⟩ (.string ⟨link.toArray⟩) = w4 at *
          have c0 : w4.cell? ⟨lb, 0, none⟩ = some (.string ⟨L.path.toArray⟩) := by rw [row_cell HX4.out.row]; rfl
          have c1 : w4.cell? ⟨lb, 1, none⟩ = some (.int .i64 L.kind) := by rw [row_cell HX4.out.row]; rfl
          have HPUT : Hid (∀ w5, MpS w5 w.heap.size (if (kF ks L.path).isSome then s else s + 1) (upd (kF ks) L.path (.int .i64 L.kind)) → w4.grownBy w5 (some w.heap.size) → Hid (w5.heap[lb]? = some (.cells (lnV (L, d)) 51)) ∧ Hid (NewLn w5 w.heap.size la k lc LS) ∧ Hid (Own w5 w2.heap.size d L.data) ∧ Hid (Below w.heap.size w w5) ∧ Hid (MpS w5 w.heap.size (if (kF ks L.path).isSome then s else s + 1) (kF (ks ++ [(L.path, L.kind)]))) ∧
              Hid ((w5.alloc (.cells (lnV (L, d)) 51)).ownsRow w.heap.size 51 10 (.slice la k lc) k (LS.flatMap lnCells)) ∧ Hid (w.heap.size ≤ (w5.alloc (.cells (lnV (L, d)) 51)).heap.size)) := Lib.hid (fun w5 hm5 hg5 => by
            have hr := row_grown HX4.out.row hg5 (fun e => HX4.out.mp.ne_row HX4.out.row e.symm)
            have hn := HX4.out.new.put HX4.out.mp hg5
            have hb := HX4.out.bel.grown hg5 HX4.out.bel.size (fun j hj => by cases hj; exact Nat.le_refl _)
            exact ⟨Lib.hid hr, Lib.hid hn, Lib.hid (own_grown HX4.out.own hg5 (Or.inr (fun e => HX4.out.mp.ne_own HX4.out.own e.symm))), Lib.hid hb, Lib.hid (hm5.congr (kF_upd ks L.path L.kind)), Lib.hid (own_keep hn.own (fun j _ hj => by rw [heap_alloc_old _ _ hj])), Lib.hid (by have := hb.size; simp; omega)⟩)
          go_wp2_with (first
            | (at_mapUpdate; refine wpList_mp_put rfl _ _ _ 80 rfl 3 lawS Try.underlying80 rfl HX4.out.mp HSM.out _ L.path rfl HKL.out _ rfl mkS_inj ?_; intro w5 hm5 hg5; obtain ⟨R5, HI5, HO5, HB5, HM5, HOW, HSZ⟩ := HPUT.out w5 hm5 hg5; clear hm5 hg5)
            | (refine wpList_load_rowA rfl _ _ rfl lb rfl (lnV (L, d)) 51 _ R5.out Try.underlying51 rfl (sizeLn _) ?_)
            | (with_reducible refine wpList_slice_one rfl 22 _ rfl Try.underlying22 (lnV (L, d)) (infoLine2 (L, d)) (lnZ_sz (L, d)) (lnV_pos (L, d)) (lnV_lim (L, d)) rfl ?_)
            | (at_builtin; refine wpList_app rfl _ _ 22 rfl w.heap.size 51 _ 10 120 Try.underlying22 infoLine rfl (by decide) (by decide) rfl HOW.out rfl (ln_newc w5 (L, d)) (ln_one [(L, d)]) (by omega) HSZ.out ?_; intro a9 c9 w9 ho9 hg9))
          have hN9 := NewLn.app2 HI1.out HB1.out.size HI5.out HO5.out hg9 ho9
          have hA9 : Below w5.heap.size w5 (w5.alloc (.cells (lnV (L, d)) 51)) := (Below.refl _ _).alloc (Nat.le_refl _) _
          have hM9 := (HM5.out.below hA9 HM5.out.lt).kept hg9 ((HM5.out.below hA9 HM5.out.lt).ne_own HOW.out)
          have hB9 : Below w.heap.size w w9 := (HB5.out.alloc HB5.out.size _).grown hg9 HSZ.out (fun j hj => (HOW.out.lt j hj).1)
          refine ⟨⟨k + 1, a9, c9, _, LS ++ [(L, d)], ks ++ [(L.path, L.kind)], by omega, by go_num, rfl, Lib.hid hN9, Lib.hid hM9, by split <;> omega, Lib.hid hB9, Lib.hid (by rw [List.map_append, List.append_assoc]; exact HGG.out), HXX⟩, by simp [intOf]; omega⟩
        · by_cases hk4 : kind = 4
          · subst hk4
            have d0 : w3.cell? ⟨lb, 9, none⟩ = some (.string ⟨#[]⟩) := by rw [row_cell HX0.out.row]; rfl
            have d0f : w3.frozen? ⟨lb, 9, none⟩ = false := row_froz HX0.out.row 9
            have d1 : w3.cell? ⟨lb, 1, none⟩ = some (.int .i64 4) := by rw [row_cell HX0.out.row]; rfl
            have d1f : w3.frozen? ⟨lb, 1, none⟩ = false := row_froz HX0.out.row 1
            have hkc := key_str (P := Try.prog) Try.underlying9 (x := link) (by omega)
            have hlk2 := (HX0.out.drew.mp).run_look (e := 3) (t := 80) lawS Try.underlying80 (zeroInt _) link hkc
            rw [kF_val] at hlk2
            have hlk3 := ((HX0.out.set (l' := ⟨name, 4, mode, uid, gid, sec, nano, data, [], link⟩) 9 (.string ⟨link.toArray⟩) rfl rfl).drew.mp).run_look (e := 3) (t := 80) lawS Try.underlying80 (zeroInt _) link hkc
            rw [kF_val] at hlk3
            have HXA := Lib.hid ((HX0.out.set (l' := ⟨name, 4, mode, uid, gid, sec, nano, data, [], link⟩) 9 (.string ⟨link.toArray⟩) rfl rfl).set (l' := linOf ks ⟨4, name, link, mode, uid, gid, user, group, sec, nano, data⟩) 1 (.int .i64 ((lastOf ks link).getD 0)) rfl rfl).drew
            have HXB := Lib.hid ((HX0.out.set (l' := ⟨name, (lastOf ks link).getD 0, mode, uid, gid, sec, nano, data, [], []⟩) 1 (.int .i64 ((lastOf ks link).getD 0)) rfl rfl).set (l' := linOf ks ⟨4, name, link, mode, uid, gid, user, group, sec, nano, data⟩) 9 (.string ⟨link.toArray⟩) rfl rfl).drew
            clear hkc
            go_upto_region 13 with fail
            go_region
            clear d0 d0f d1 d1f hlk2 hlk3 HX0 k0 k1 k2 HXB
            have HX4 := HXA
            clear HXA
            generalize ((w3.setCell ⟨lb, 9, none⟩ (.string ⟨link.toArray⟩)).setCell ⟨lb, 1, none⟩ (.int .i64 ((lastOf ks link).getD 0))).drew = w4 at *
            obtain ⟨L, hLe⟩ : ∃ L, linOf ks ⟨4, name, link, mode, uid, gid, user, group, sec, nano, data⟩ = L := ⟨_, rfl⟩
            rw [hLe] at HX4 HGG
            have HLP : Hid (L.path.length ≤ 1900000 ∧ L.peer.length ≤ 1900000 ∧ L.data = data) := Lib.hid (by rw [← hLe]; exact linOf_len hns1 hns2)
            have HKL := Lib.hid (key_str (P := Try.prog) Try.underlying9 (x := L.path) (by have := HLP.out.1; omega))
            have HSM : Hid (s < maxLen) := Lib.hid (by unfold maxLen; omega)
            have HXX : Hid (∀ l ∈ (LS ++ [(L, d)]).map (·.1), (∃ e ∈ eOf T, l.data = e.data) ∧ l.path.length ≤ 1900000 ∧ l.peer.length ≤ 1900000) := Lib.hid (fun l hl => by
              rw [List.map_append] at hl
              rcases List.mem_append.1 hl with h | h
              · exact hX.out l h
              · simp only [List.map_cons, List.map_nil, List.mem_singleton] at h
                subst h
                exact ⟨⟨_, HMEM.out, HLP.out.2.2⟩, HLP.out.1, HLP.out.2.1⟩)
            clear hLe
            have c0 : w4.cell? ⟨lb, 0, none⟩ = some (.string ⟨L.path.toArray⟩) := by rw [row_cell HX4.out.row]; rfl
            have c1 : w4.cell? ⟨lb, 1, none⟩ = some (.int .i64 L.kind) := by rw [row_cell HX4.out.row]; rfl
            have HPUT : Hid (∀ w5, MpS w5 w.heap.size (if (kF ks L.path).isSome then s else s + 1) (upd (kF ks) L.path (.int .i64 L.kind)) → w4.grownBy w5 (some w.heap.size) → Hid (w5.heap[lb]? = some (.cells (lnV (L, d)) 51)) ∧ Hid (NewLn w5 w.heap.size la k lc LS) ∧ Hid (Own w5 w2.heap.size d L.data) ∧ Hid (Below w.heap.size w w5) ∧ Hid (MpS w5 w.heap.size (if (kF ks L.path).isSome then s else s + 1) (kF (ks ++ [(L.path, L.kind)]))) ∧
                Hid ((w5.alloc (.cells (lnV (L, d)) 51)).ownsRow w.heap.size 51 10 (.slice la k lc) k (LS.flatMap lnCells)) ∧ Hid (w.heap.size ≤ (w5.alloc (.cells (lnV (L, d)) 51)).heap.size)) := Lib.hid (fun w5 hm5 hg5 => by
              have hr := row_grown HX4.out.row hg5 (fun e => HX4.out.mp.ne_row HX4.out.row e.symm)
              have hn := HX4.out.new.put HX4.out.mp hg5
              have hb := HX4.out.bel.grown hg5 HX4.out.bel.size (fun j hj => by cases hj; exact Nat.le_refl _)
              exact ⟨Lib.hid hr, Lib.hid hn, Lib.hid (own_grown HX4.out.own hg5 (Or.inr (fun e => HX4.out.mp.ne_own HX4.out.own e.symm))), Lib.hid hb, Lib.hid (hm5.congr (kF_upd ks L.path L.kind)), Lib.hid (own_keep hn.own (fun j _ hj => by rw [heap_alloc_old _ _ hj])), Lib.hid (by have := hb.size; simp; omega)⟩)
            go_wp2_with (first
              | (at_mapUpdate; refine wpList_mp_put rfl _ _ _ 80 rfl 3 lawS Try.underlying80 rfl HX4.out.mp HSM.out _ L.path rfl HKL.out _ rfl mkS_inj ?_; intro w5 hm5 hg5; obtain ⟨R5, HI5, HO5, HB5, HM5, HOW, HSZ⟩ := HPUT.out w5 hm5 hg5; clear hm5 hg5)
              | (refine wpList_load_rowA rfl _ _ rfl lb rfl (lnV (L, d)) 51 _ R5.out Try.underlying51 rfl (sizeLn _) ?_)
              | (with_reducible refine wpList_slice_one rfl 22 _ rfl Try.underlying22 (lnV (L, d)) (infoLine2 (L, d)) (lnZ_sz (L, d)) (lnV_pos (L, d)) (lnV_lim (L, d)) rfl ?_)
              | (at_builtin; refine wpList_app rfl _ _ 22 rfl w.heap.size 51 _ 10 120 Try.underlying22 infoLine rfl (by decide) (by decide) rfl HOW.out rfl (ln_newc w5 (L, d)) (ln_one [(L, d)]) (by omega) HSZ.out ?_; intro a9 c9 w9 ho9 hg9))
            have hN9 := NewLn.app2 HI1.out HB1.out.size HI5.out HO5.out hg9 ho9
            have hA9 : Below w5.heap.size w5 (w5.alloc (.cells (lnV (L, d)) 51)) := (Below.refl _ _).alloc (Nat.le_refl _) _
            have hM9 := (HM5.out.below hA9 HM5.out.lt).kept hg9 ((HM5.out.below hA9 HM5.out.lt).ne_own HOW.out)
            have hB9 : Below w.heap.size w w9 := (HB5.out.alloc HB5.out.size _).grown hg9 HSZ.out (fun j hj => (HOW.out.lt j hj).1)
            refine ⟨⟨k + 1, a9, c9, _, LS ++ [(L, d)], ks ++ [(L.path, L.kind)], by omega, by go_num, rfl, Lib.hid hN9, Lib.hid hM9, by split <;> omega, Lib.hid hB9, Lib.hid (by rw [List.map_append, List.append_assoc]; exact HGG.out), HXX⟩, by simp [intOf]; omega⟩
          · have hb2 : (kind == 2) = false := beq_f hk2
            have hb3 : (kind == 3) = false := beq_f hk3
            have hb4 : (kind == 4) = false := beq_f hk4
            have hlin : lin0 ⟨kind, name, link, mode, uid, gid, user, group, sec, nano, data⟩ = linOf ks ⟨kind, name, link, mode, uid, gid, user, group, sec, nano, data⟩ := by simp [linOf, lin0, hk2, hk3, hk4]
            have HX4 := HX0
            rw [hlin] at HX4
            clear hlin hk2 hk3 hk4
            obtain ⟨L, hLe⟩ : ∃ L, linOf ks ⟨kind, name, link, mode, uid, gid, user, group, sec, nano, data⟩ = L := ⟨_, rfl⟩
            rw [hLe] at HX4 HGG
            have HLP : Hid (L.path.length ≤ 1900000 ∧ L.peer.length ≤ 1900000 ∧ L.data = data) := Lib.hid (by rw [← hLe]; exact linOf_len hns1 hns2)
            have HKL := Lib.hid (key_str (P := Try.prog) Try.underlying9 (x := L.path) (by have := HLP.out.1; omega))
            have HSM : Hid (s < maxLen) := Lib.hid (by unfold maxLen; omega)
            have HXX : Hid (∀ l ∈ (LS ++ [(L, d)]).map (·.1), (∃ e ∈ eOf T, l.data = e.data) ∧ l.path.length ≤ 1900000 ∧ l.peer.length ≤ 1900000) := Lib.hid (fun l hl => by
              rw [List.map_append] at hl
              rcases List.mem_append.1 hl with h | h
              · exact hX.out l h
              · simp only [List.map_cons, List.map_nil, List.mem_singleton] at h
                subst h
                exact ⟨⟨_, HMEM.out, HLP.out.2.2⟩, HLP.out.1, HLP.out.2.1⟩)
            clear hLe HX0
            go_upto_region 14 with fail
            clear k0 k1 k2
            have c0 : w3.cell? ⟨lb, 0, none⟩ = some (.string ⟨L.path.toArray⟩) := by rw [row_cell HX4.out.row]; rfl
            have c1 : w3.cell? ⟨lb, 1, none⟩ = some (.int .i64 L.kind) := by rw [row_cell HX4.out.row]; rfl
            have HPUT : Hid (∀ w5, MpS w5 w.heap.size (if (kF ks L.path).isSome then s else s + 1) (upd (kF ks) L.path (.int .i64 L.kind)) → w3.grownBy w5 (some w.heap.size) → Hid (w5.heap[lb]? = some (.cells (lnV (L, d)) 51)) ∧ Hid (NewLn w5 w.heap.size la k lc LS) ∧ Hid (Own w5 w2.heap.size d L.data) ∧ Hid (Below w.heap.size w w5) ∧ Hid (MpS w5 w.heap.size (if (kF ks L.path).isSome then s else s + 1) (kF (ks ++ [(L.path, L.kind)]))) ∧
                Hid ((w5.alloc (.cells (lnV (L, d)) 51)).ownsRow w.heap.size 51 10 (.slice la k lc) k (LS.flatMap lnCells)) ∧ Hid (w.heap.size ≤ (w5.alloc (.cells (lnV (L, d)) 51)).heap.size)) := Lib.hid (fun w5 hm5 hg5 => by
              have hr := row_grown HX4.out.row hg5 (fun e => HX4.out.mp.ne_row HX4.out.row e.symm)
              have hn := HX4.out.new.put HX4.out.mp hg5
              have hb := HX4.out.bel.grown hg5 HX4.out.bel.size (fun j hj => by cases hj; exact Nat.le_refl _)
              exact ⟨Lib.hid hr, Lib.hid hn, Lib.hid (own_grown HX4.out.own hg5 (Or.inr (fun e => HX4.out.mp.ne_own HX4.out.own e.symm))), Lib.hid hb, Lib.hid (hm5.congr (kF_upd ks L.path L.kind)), Lib.hid (own_keep hn.own (fun j _ hj => by rw [heap_alloc_old _ _ hj])), Lib.hid (by have := hb.size; simp; omega)⟩)
            go_wp2_with (first
              | (at_mapUpdate; refine wpList_mp_put rfl _ _ _ 80 rfl 3 lawS Try.underlying80 rfl HX4.out.mp HSM.out _ L.path rfl HKL.out _ rfl mkS_inj ?_; intro w5 hm5 hg5; obtain ⟨R5, HI5, HO5, HB5, HM5, HOW, HSZ⟩ := HPUT.out w5 hm5 hg5; clear hm5 hg5)
              | (refine wpList_load_rowA rfl _ _ rfl lb rfl (lnV (L, d)) 51 _ R5.out Try.underlying51 rfl (sizeLn _) ?_)
              | (with_reducible refine wpList_slice_one rfl 22 _ rfl Try.underlying22 (lnV (L, d)) (infoLine2 (L, d)) (lnZ_sz (L, d)) (lnV_pos (L, d)) (lnV_lim (L, d)) rfl ?_)
              | (at_builtin; refine wpList_app rfl _ _ 22 rfl w.heap.size 51 _ 10 120 Try.underlying22 infoLine rfl (by decide) (by decide) rfl HOW.out rfl (ln_newc w5 (L, d)) (ln_one [(L, d)]) (by omega) HSZ.out ?_; intro a9 c9 w9 ho9 hg9))
            have hN9 := NewLn.app2 HI1.out HB1.out.size HI5.out HO5.out hg9 ho9
            have hA9 : Below w5.heap.size w5 (w5.alloc (.cells (lnV (L, d)) 51)) := (Below.refl _ _).alloc (Nat.le_refl _) _
            have hM9 := (HM5.out.below hA9 HM5.out.lt).kept hg9 ((HM5.out.below hA9 HM5.out.lt).ne_own HOW.out)
            have hB9 : Below w.heap.size w w9 := (HB5.out.alloc HB5.out.size _).grown hg9 HSZ.out (fun j hj => (HOW.out.lt j hj).1)
            refine ⟨⟨k + 1, a9, c9, _, LS ++ [(L, d)], ks ++ [(L.path, L.kind)], by omega, by go_num, rfl, Lib.hid hN9, Lib.hid hM9, by split <;> omega, Lib.hid hB9, Lib.hid (by rw [List.map_append, List.append_assoc]; exact HGG.out), HXX⟩, by simp [intOf]; omega⟩
    · obtain rfl : k = n := by omega
      have hG2 := hG.out
      rw [List.drop_of_length_le (by rw [List.length_map]; have := HL.out; omega)] at hG2
      simp only [linesGo, List.append_nil] at hG2
      have HLG := Lib.hid hG2
      have hlen := hI.out.len
      have hnum : LnNum LS := ⟨by omega, fun x hx => by
        obtain ⟨⟨e, he, hd⟩, _⟩ := hX.out x.1 (List.mem_map.2 ⟨x, hx, rfl⟩)
        obtain ⟨z, hz, rfl⟩ := List.mem_map.1 he
        have h1 := HN.out.dat z hz
        have h2 := (HT.out.dat z hz).len
        have h3 := ((hI.out.dat x hx).dat).len
        rw [hd, h2] at h3
        omega, fun x hx => by
        have := hX.out x.1 (List.mem_map.2 ⟨x, hx, rfl⟩)
        omega⟩
      have HEN := Lib.hid (Entries_any la k lc LS wr hI.out.lns hnum)
      clear hG2 hlen hnum hG hX
      go_upto_region 18 with (go_at_call 11; (refine (HEN.out).mono ?_); rintro r w6 ⟨a6, n6, c6, code, S6, rfl, hb6, hn6, hc1, hc2, hc3, hc4, hc5⟩; have HB6 := Lib.hid (hB.out.trans (hb6.mono hB.out.size)); have HI6 := Lib.hid (hI.out.below hb6); have HN6 := Lib.hid hn6; have HC1 := Lib.hid hc1; have HC4 := Lib.hid hc4; clear hb6 hn6 hc1 hc2 hc3 hc4 hc5 HEN)
      by_cases hc0 : code = 0
      · subst hc0
        have HGA := Lib.hid (HC1.out.1 rfl)
        have HS6 := Lib.hid (HC4.out rfl)
        have HEQ := Lib.hid (EqualEntries_any a6 a n6 k c6 c S6 T w6 HN6.out.ens (HT.out.below HB6.out))
        clear HC1 HC4
        go_upto_if 79 with (go_at_call 39; (refine (HEQ.out).mono ?_); rintro r w7 ⟨ok, rfl, hok, hb7⟩; have HOK := Lib.hid hok; have HB7 := Lib.hid (HB6.out.trans (hb7.mono HB6.out.size)); have HI7 := Lib.hid (HI6.out.below hb7); clear hok hb7 HEQ)
        have HLO : Hid (LinOk (eOf T) ↔ S6.map (·.1) = T.map (·.1)) := Lib.hid (by
          unfold LinOk
          have h1 : lOf LS = linesGo [] (eOf T) := HLG.out
          have h2 := HGA.out
          have h3 := HS6.out
          rw [h1] at h2 h3
          rw [h3]
          exact ⟨fun h => h.2, fun h => ⟨h2, h⟩⟩)
        cases ok with
        | true =>
          have HYES := Lib.hid (HLO.out.2 (HOK.out.1 rfl))
          go_wp2_with fail
          go_ret2
          exact ⟨la, k, lc, 0, LS, rfl, HB7.out, HI7.out, by simp [HYES.out], Or.inl rfl, fun _ => HLG.out, fun h => absurd rfl h⟩
        | false =>
          have HNO : Hid (¬ LinOk (eOf T)) := Lib.hid (fun h => by have := HOK.out.2 (HLO.out.1 h); cases this)
          go_wp2_with fail
          go_ret2
          exact ⟨none, 0, 0, 160, [], rfl, HB7.out, NewLn.nil _ _, ⟨fun h => (by cases h), fun h => absurd h HNO.out⟩, Or.inr rfl, fun h => (by cases h), fun _ => rfl⟩
      · have hcb : (code != 0) = true := bne_t hc0
        have HNO : Hid (¬ LinOk (eOf T)) := Lib.hid (fun h => hc0 (HC1.out.2 (by have h1 : lOf LS = linesGo [] (eOf T) := HLG.out; rw [h1]; exact h.1)))
        clear hc0
        go_wp2_with fail
        go_ret2
        exact ⟨none, 0, 0, 160, [], rfl, HB6.out, NewLn.nil _ _, ⟨fun h => (by cases h), fun h => absurd h HNO.out⟩, Or.inr rfl, fun h => (by cases h), fun _ => rfl⟩
end Gr
end Go.Proofs.Ytpdkdhcbibcifaa
namespace Go.Proofs.Ytpdkdhcbibcifaa
set_option linter.unusedVariables false
set_option linter.unusedSimpArgs false
open Go.ChangeShapes Go.WideShapes Go.ChangeAt Go.RowKit
namespace Gr
def twoS : List LnS := twoLines.map fun l => (l, (none, 0, 0))
theorem twoS_lof : lOf twoS = twoLines := rfl
theorem twoS_num : LnNum twoS := ⟨by decide, by simp [twoS, twoLines], by simp [twoS, twoLines]⟩
def twoV : Array Value := #[.string ⟨#[46]⟩, .int .i64 2, .int .i64 0, .int .i64 0, .int .i64 0, .int .i64 0, .int .i64 0, .slice none 0 0, .string ⟨#[]⟩, .string ⟨#[]⟩, .string ⟨#[100]⟩, .int .i64 2, .int .i64 0, .int .i64 0, .int .i64 0, .int .i64 0, .int .i64 0, .slice none 0 0, .string ⟨#[]⟩, .string ⟨#[]⟩]
theorem two_lns (w : World) : Lns (w.alloc (.cells twoV 51)) (some ⟨w.heap.size, 0, none⟩) 2 2 twoS := by
  refine ⟨?_, ?_⟩
  · have := isSl_new w 51 10 2 twoV rfl (by decide)
    exact this
  · intro x hx
    have hd : x.2 = (none, 0, 0) ∧ x.1.data = [] := by
      simp only [twoS, twoLines, List.map_cons, List.map_nil, List.mem_cons, List.not_mem_nil, or_false] at hx
      rcases hx with rfl | rfl <;> exact ⟨rfl, rfl⟩
    unfold Dat
    rw [hd.1, hd.2]
    exact ⟨rfl, Nat.le_refl _, by decide, fun j v hj => by simp at hj, fun _ => ⟨rfl, rfl⟩⟩
theorem two_mem {w : World} {B : Nat} {a : Option Addr} {n c : Nat} {S : List EnS} (h : NewEn w B a n c S) (hs : S.map (·.1) = twoLines.map entOf) :
    n = 2 ∧ 2 ≤ c ∧ ∃ g, a = some ⟨g, 0, none⟩ ∧ w.cell? ⟨g, 1, none⟩ = some (.string ⟨#[46, 47]⟩) ∧ w.cell? ⟨g, 12, none⟩ = some (.string ⟨#[100, 47]⟩) ∧ w.cell? ⟨g, 11, none⟩ = some (.int .i64 2) := by
  have hl := h.len
  have hl2 : S.length = 2 := by have := congrArg List.length hs; simpa [twoLines] using this
  obtain rfl : n = 2 := by omega
  have hcap := h.ens.cap
  refine ⟨rfl, hcap, ?_⟩
  match S, hl2, hs with
  | [x, y], _, hs =>
    simp only [List.map_cons, List.map_nil, twoLines, List.cons.injEq, and_true] at hs
    obtain ⟨hx, hy⟩ := hs
    obtain ⟨b, off, ha, h0⟩ := h.ens.at 0 x rfl
    obtain ⟨b', off', ha', h1⟩ := h.ens.at 1 y rfl
    obtain rfl : off = 0 := by
      rcases h.own.2 with ⟨h, _⟩ | ⟨g', cap, cur, h, _⟩
      · rw [ha] at h; cases h
      · rw [ha] at h; cases h; rfl
    rw [ha] at ha'
    cases ha'
    refine ⟨b, ha, ?_, ?_, ?_⟩
    · have := range_cell h0 1 (v := .string ⟨x.1.name.toArray⟩) rfl
      rw [hx] at this
      exact this
    · have := range_cell h1 1 (v := .string ⟨y.1.name.toArray⟩) rfl
      rw [hy] at this
      exact this
    · have := range_cell h1 0 (v := .int .i64 y.1.kind) rfl
      rw [hy] at this
      exact this
set_option maxRecDepth 100000 in
set_option maxHeartbeats 4000000 in
theorem alive_any (w : World) : Calls Try.prog 9 #[] w fun r w' => r = .returned (.bool true) ∧ Below w.heap.size w w' := by
  have HEN : Hid (Calls Try.prog 11 #[.slice (some ⟨w.heap.size, 0, none⟩) 2 2] (w.alloc (.cells twoV 51)) (EntriesRes (w.alloc (.cells twoV 51)) (lOf twoS))) := Lib.hid (Entries_any _ _ _ twoS _ (two_lns w) twoS_num)
  have HB : Hid (Below w.heap.size w (w.alloc (.cells twoV 51))) := Lib.hid ((Below.refl _ _).alloc (Nat.le_refl _) _)
  simp only [twoV] at HEN HB
  go_enter Try.func9, Try.ntmps9
  go_wp2_with (go_at_call 11; (refine (HEN.out).mono ?_); rintro r w1 ⟨a1, n1, c1, code, S, rfl, hb1, hn1, hc1, _, _, hc4, _⟩; obtain rfl : code = 0 := hc1.2 two_gath; obtain ⟨rfl, hcap, g, rfl, k1, k2, k3⟩ := two_mem hn1 (hc4 rfl); have HB1 := Lib.hid (Below.seq HB.out hb1); clear hb1 hn1 hc1 hc4)
  go_ret
  exact ⟨rfl, HB1.out⟩
end Gr
end Go.Proofs.Ytpdkdhcbibcifaa
namespace Go.Proofs.Ytpdkdhcbibcifaa
set_option linter.unusedVariables false
set_option linter.unusedSimpArgs false
open Go.ChangeShapes Go.WideShapes Go.ChangeAt Go.RowKit
namespace Gr
/-- small lines, small entries -/
def LnSm (m : Nat) (l : Ln) : Prop := l.data.length ≤ m ∧ l.path.length ≤ m ∧ l.peer.length ≤ m ∧ l.target.length ≤ m
def EnSm (m : Nat) (e : En) : Prop := e.data.length ≤ m ∧ e.name.length ≤ m ∧ e.link.length ≤ m
def LnsSm (m : Nat) (ls : List Ln) : Prop := ls.length ≤ 2000000 ∧ ∀ l ∈ ls, LnSm m l
def EnsSm (m : Nat) (es : List En) : Prop := es.length ≤ 2000000 ∧ ∀ e ∈ es, EnSm m e
theorem entOf_sm {m : Nat} {l : Ln} (h : LnSm m l) : EnSm (m + 1) (entOf l) := by
  obtain ⟨h1, h2, h3, h4⟩ := h
  unfold entOf
  split
  · exact ⟨by simp, by simp only; omega, by simp only; omega⟩
  · split
    · exact ⟨by simp, by simp; omega, by simp⟩
    · split
      · exact ⟨by simp, by simp only; omega, by simp only; omega⟩
      · exact ⟨by simp only; omega, by simp only; omega, by simp⟩
theorem linesGo_sm {m : Nat} : ∀ {es : List En} {ks : List (Bt × Int)}, (∀ e ∈ es, EnSm m e) → ∀ l ∈ linesGo ks es, l.data.length ≤ m ∧ l.path.length ≤ m ∧ l.peer.length ≤ m
  | [], _, _, l, hl => by simp [linesGo] at hl
  | e :: es, ks, h, l, hl => by
    simp only [linesGo] at hl
    rcases List.mem_cons.1 hl with rfl | hl
    · obtain ⟨h1, h2, h3⟩ := h e (by simp)
      obtain ⟨k1, k2, k3⟩ := linOf_len (ks := ks) h2 h3
      exact ⟨by rw [k3]; exact h1, k1, k2⟩
    · exact linesGo_sm (fun e he => h e (by simp [he])) l hl
theorem lnNum_of {w : World} {a : Option Addr} {n c m : Nat} {S : List LnS} {LS : List Ln} (h : Lns w a n c S) (hm : S.map (·.1) = LS) (hn : LS.length ≤ 2000000) (hd : ∀ l ∈ LS, l.data.length ≤ m ∧ l.path.length ≤ m ∧ l.peer.length ≤ m) (hm2 : m ≤ 1900000 := by decide) : LnNum S := by
  have hx : ∀ x ∈ S, x.1 ∈ LS := fun x hx => by rw [← hm]; exact List.mem_map.2 ⟨x, hx, rfl⟩
  refine ⟨by rw [← hm, List.length_map] at hn; exact hn, fun x hxm => ?_, fun x hxm => ?_⟩
  · have h1 := (h.dat x hxm).len
    have h2 := hd _ (hx x hxm)
    omega
  · have h2 := hd _ (hx x hxm)
    omega
theorem enNum_of {w : World} {a : Option Addr} {n c m : Nat} {S : List EnS} {ES : List En} (h : Ens w a n c S) (hm : S.map (·.1) = ES) (hd : EnsSm m ES) (hm2 : m ≤ 1900000 := by decide) : EnNum S := by
  have hx : ∀ x ∈ S, x.1 ∈ ES := fun x hx => by rw [← hm]; exact List.mem_map.2 ⟨x, hx, rfl⟩
  have hn := hd.1
  refine ⟨by rw [← hm, List.length_map] at hn; exact hn, fun x hxm => ?_, fun x hxm => ?_⟩
  · have h1 := (h.dat x hxm).len
    have h2 := hd.2 _ (hx x hxm)
    have h3 := h2.1
    omega
  · have h2 := hd.2 _ (hx x hxm)
    have h3 := h2.2
    omega
set_option maxRecDepth 100000 in
set_option maxHeartbeats 4000000 in
theorem GatherRound_walk (a0 : Option Addr) (n0 c0 : Nat) (S0 : List LnS) (a1 : Option Addr) (n1 c1 : Nat) (S1 : List EnS) (w : World) (h0 : Lns w a0 n0 c0 S0) (hs0 : LnsSm 1048576 (lOf S0)) (h1 : Ens w a1 n1 c1 S1) (hs1 : EnsSm 1048576 (eOf S1)) :
    Calls Try.prog 7 #[.slice a0 n0 c0, .slice a1 n1 c1] w fun r w' => r = .returned (.bool true) ∧ Below w.heap.size w w' := by
  have hl0 := h0.len; have hl1 := h1.len
  have hn0 : n0 ≤ 2000000 := by have := hs0.1; rw [List.length_map] at this; omega
  have hn1 : n1 ≤ 2000000 := by have := hs1.1; rw [List.length_map] at this; omega
  have hd0 : ∀ x ∈ S0, x.2.2.1 ≤ 140737488355328 := fun x hx => by
    have e1 := (h0.dat x hx).len
    have e2 := (hs0.2 x.1 (List.mem_map.2 ⟨x, hx, rfl⟩)).1
    omega
  have hd1 : ∀ x ∈ S1, x.2.2.1 ≤ 140737488355328 := fun x hx => by
    have e1 := (h1.dat x hx).len
    have e2 := (hs1.2 x.1 (List.mem_map.2 ⟨x, hx, rfl⟩)).1
    omega
  have HE1 := Lib.hid hs1
  have HL0 := Lib.hid hs0
  go_enter Try.func7, Try.ntmps7
  go_upto_region 4 with (first
    | (go_at_call 9; (refine (alive_any w).mono ?_); rintro r w1 ⟨rfl, hb1⟩; have HB1 := Lib.hid hb1; clear hb1)
    | (go_at_call 10; (refine (CopyLs_any a0 n0 c0 S0 w1 (h0.below HB1.out) (by omega) hd0).mono ?_); rintro r w2 ⟨a2, n2, c2, S2, rfl, hn2, hm2, hb2⟩; have HN2 := Lib.hid hn2; have HM2 := Lib.hid hm2; have HB2 := Lib.hid (HB1.out.trans (hb2.mono HB1.out.size)); clear hn2 hm2 hb2)
    | (go_at_call 11; (refine (Entries_any a2 n2 c2 S2 w2 HN2.out.lns (lnNum_of HN2.out.lns HM2.out HL0.out.1 (fun l hl => ⟨(HL0.out.2 l hl).1, (HL0.out.2 l hl).2.1, (HL0.out.2 l hl).2.2.1⟩))).mono ?_); rintro r w3 ⟨a3, n3, c3, code, S3, rfl, hb3, hn3, hc3, _, _, hc3c, _⟩; have HN3 := Lib.hid hn3; have HB3 := Lib.hid (HB2.out.trans (hb3.mono HB2.out.size)); have HC3 := Lib.hid hc3; have HC3C := Lib.hid hc3c; clear hb3 hn3 hc3 hc3c))
  have hlo2 : lOf S2 = lOf S0 := HM2.out
  rw [hlo2] at HC3 HC3C
  clear hlo2
  by_cases hc0 : code = 0
  · subst hc0
    have HGA := Lib.hid (HC3.out.1 rfl)
    have HM3 := Lib.hid (HC3C.out rfl)
    obtain ⟨hgb1, hgb2⟩ := gath_back HGA.out
    have HG1 := Lib.hid hgb1; have HG2 := Lib.hid hgb2
    have hsm3 : EnsSm 1048577 (S3.map (·.1)) := by
      rw [HM3.out]
      refine ⟨by rw [List.length_map]; exact HL0.out.1, fun e he => ?_⟩
      obtain ⟨l, hl, rfl⟩ := List.mem_map.1 he
      exact entOf_sm (HL0.out.2 l hl)
    have hd3 : ∀ x ∈ S3, x.2.2.1 ≤ 140737488355328 := fun x hx => by
      have e1 := (HN3.out.ens.dat x hx).len
      have e2 := (hsm3.2 x.1 (List.mem_map.2 ⟨x, hx, rfl⟩)).1
      omega
    have hn3 : n3 = n0 := by
      have e1 := HN3.out.len
      have e2 := congrArg List.length HM3.out
      rw [List.length_map, List.length_map, List.length_map] at e2
      omega
    have HSM3 := Lib.hid hsm3
    subst hn3
    clear HC3 HC3C hgb1 hgb2 hsm3
    go_upto_region 6 with (first
      | (go_at_call 20; (refine (CopyEs_any a3 n3 c3 S3 w3 HN3.out.ens (by omega) hd3).mono ?_); rintro r w4 ⟨a4, n4, c4, S4, rfl, hn4, hm4, hb4⟩; have HN4 := Lib.hid hn4; have HM4 := Lib.hid hm4; have HB4 := Lib.hid (HB3.out.trans (hb4.mono HB3.out.size)); clear hn4 hm4 hb4)
      | (go_at_call 19; (refine (Lines_any a4 n4 c4 S4 w4 HN4.out.ens (enNum_of HN4.out.ens HM4.out HSM3.out)).mono ?_); rintro r w5 ⟨a5, n5, c5, code2, S5, rfl, hb5, hn5, hc5, _, hc5c, _⟩; have HN5 := Lib.hid hn5; have HB5 := Lib.hid (HB4.out.trans (hb5.mono HB4.out.size)); have HC5 := Lib.hid hc5; have HC5C := Lib.hid hc5c; clear hb5 hn5 hc5 hc5c))
    have heo : eOf S4 = (lOf S0).map entOf := HM4.out.trans HM3.out
    rw [heo] at HC5 HC5C
    obtain rfl : code2 = 0 := HC5.out.2 HG1.out
    have hm5 : S5.map (·.1) = S0.map (·.1) := (HC5C.out rfl).trans HG2.out
    have HSL := Lib.hid (SameLs_yes a5 a0 n5 n3 c5 c0 S5 S0 w5 HN5.out.lns (h0.below HB5.out) hm5)
    clear heo hm5 HC5 HC5C hd3
    go_upto_region 8 with (go_at_call 14; (refine (HSL.out).mono ?_); rintro r w10 ⟨rfl, hb10⟩; have HB10 := Lib.hid (HB5.out.trans (hb10.mono HB5.out.size)); clear hb10)
    go_upto_region 9 with (first
      | (go_at_call 20; (refine (CopyEs_any a1 n1 c1 S1 w10 (h1.below HB10.out) (by omega) hd1).mono ?_); rintro r w6 ⟨a6, n6, c6, S6, rfl, hn6, hm6, hb6⟩; have HN6 := Lib.hid hn6; have HM6 := Lib.hid hm6; have HB6 := Lib.hid (HB10.out.trans (hb6.mono HB10.out.size)); clear hn6 hm6 hb6)
      | (go_at_call 19; (refine (Lines_any a6 n6 c6 S6 w6 HN6.out.ens (enNum_of HN6.out.ens HM6.out HE1.out)).mono ?_); rintro r w7 ⟨a7, n7, c7, code3, S7, rfl, hb7, hn7, hc7, hc7b, hc7c, hc7d⟩; have HN7 := Lib.hid hn7; have HB7 := Lib.hid (HB6.out.trans (hb7.mono HB6.out.size)); have HC7 := Lib.hid hc7; have HC7B := Lib.hid hc7b; have HC7C := Lib.hid hc7c; have HC7D := Lib.hid hc7d; clear hb7 hn7 hc7 hc7b hc7c hc7d))
    have heo : eOf S6 = eOf S1 := HM6.out
    rw [heo] at HC7 HC7C
    by_cases hc3 : code3 = 0
    · subst hc3
      have HLO := Lib.hid (HC7.out.1 rfl)
      have HM7 := Lib.hid (HC7C.out rfl)
      have hes := HLO.out.2
      have HES := Lib.hid hes
      have hga := HLO.out.1
      have hlo7 : lOf S7 = linesGo [] (eOf S1) := HM7.out
      rw [← hlo7] at hga
      have HGA := Lib.hid hga
      have HNU := Lib.hid (lnNum_of HN7.out.lns HM7.out (by rw [linesGo_len]; exact HE1.out.1) (linesGo_sm HE1.out.2))
      clear HC7 HC7B HC7C HC7D hes hga
      go_upto_region 12 with (go_at_call 11; (refine (Entries_any a7 n7 c7 S7 w7 HN7.out.lns HNU.out).mono ?_); rintro r w8 ⟨a8, n8, c8, code4, S8, rfl, hb8, hn8, hc8, _, _, hc8c, _⟩; obtain rfl : code4 = 0 := hc8.2 HGA.out; have HN8 := Lib.hid hn8; have HM8 := Lib.hid (hc8c rfl); have HB8 := Lib.hid (HB7.out.trans (hb8.mono HB7.out.size)); clear hb8 hn8 hc8 hc8c)
      have hsame : S8.map (·.1) = S1.map (·.1) := by
        have e1 := HM8.out
        rw [hlo7, HES.out] at e1
        exact e1
      have HSA := Lib.hid (SameEs_yes a8 a1 n8 n1 c8 c1 S8 S1 w8 HN8.out.ens (h1.below HB8.out) hsame)
      clear hsame hlo7 heo
      go_wp2_with (go_at_call 13; (refine (HSA.out).mono ?_); rintro r w9 ⟨rfl, hb9⟩; have HB9 := Lib.hid (HB8.out.trans (hb9.mono HB8.out.size)); clear hb9)
      go_ret
      exact ⟨rfl, HB9.out⟩
    · obtain rfl : code3 = 160 := by
        rcases HC7B.out with h | h
        · exact absurd h hc3
        · exact h
      obtain rfl : S7 = [] := HC7D.out hc3
      obtain rfl : n7 = 0 := by have := HN7.out.len; simpa using this.symm
      clear hc3 HC7 HC7C HC7D heo
      go_wp2_with fail
      go_ret
      exact ⟨rfl, HB7.out⟩
  · have hcb : (code == 0) = false := beq_f hc0
    clear hc0
    go_upto_region 8 with fail
    go_upto_region 9 with (first
      | (go_at_call 20; (refine (CopyEs_any a1 n1 c1 S1 w3 (h1.below HB3.out) (by omega) hd1).mono ?_); rintro r w6 ⟨a6, n6, c6, S6, rfl, hn6, hm6, hb6⟩; have HN6 := Lib.hid hn6; have HM6 := Lib.hid hm6; have HB6 := Lib.hid (HB3.out.trans (hb6.mono HB3.out.size)); clear hn6 hm6 hb6)
      | (go_at_call 19; (refine (Lines_any a6 n6 c6 S6 w6 HN6.out.ens (enNum_of HN6.out.ens HM6.out HE1.out)).mono ?_); rintro r w7 ⟨a7, n7, c7, code3, S7, rfl, hb7, hn7, hc7, hc7b, hc7c, hc7d⟩; have HN7 := Lib.hid hn7; have HB7 := Lib.hid (HB6.out.trans (hb7.mono HB6.out.size)); have HC7 := Lib.hid hc7; have HC7B := Lib.hid hc7b; have HC7C := Lib.hid hc7c; have HC7D := Lib.hid hc7d; clear hb7 hn7 hc7 hc7b hc7c hc7d))
    have heo : eOf S6 = eOf S1 := HM6.out
    rw [heo] at HC7 HC7C
    by_cases hc3 : code3 = 0
    · subst hc3
      have HLO := Lib.hid (HC7.out.1 rfl)
      have HM7 := Lib.hid (HC7C.out rfl)
      have hes := HLO.out.2
      have HES := Lib.hid hes
      have hga := HLO.out.1
      have hlo7 : lOf S7 = linesGo [] (eOf S1) := HM7.out
      rw [← hlo7] at hga
      have HGA := Lib.hid hga
      have HNU := Lib.hid (lnNum_of HN7.out.lns HM7.out (by rw [linesGo_len]; exact HE1.out.1) (linesGo_sm HE1.out.2))
      clear HC7 HC7B HC7C HC7D hes hga
      go_upto_region 12 with (go_at_call 11; (refine (Entries_any a7 n7 c7 S7 w7 HN7.out.lns HNU.out).mono ?_); rintro r w8 ⟨a8, n8, c8, code4, S8, rfl, hb8, hn8, hc8, _, _, hc8c, _⟩; obtain rfl : code4 = 0 := hc8.2 HGA.out; have HN8 := Lib.hid hn8; have HM8 := Lib.hid (hc8c rfl); have HB8 := Lib.hid (HB7.out.trans (hb8.mono HB7.out.size)); clear hb8 hn8 hc8 hc8c)
      have hsame : S8.map (·.1) = S1.map (·.1) := by
        have e1 := HM8.out
        rw [hlo7, HES.out] at e1
        exact e1
      have HSA := Lib.hid (SameEs_yes a8 a1 n8 n1 c8 c1 S8 S1 w8 HN8.out.ens (h1.below HB8.out) hsame)
      clear hsame hlo7 heo
      go_wp2_with (go_at_call 13; (refine (HSA.out).mono ?_); rintro r w9 ⟨rfl, hb9⟩; have HB9 := Lib.hid (HB8.out.trans (hb9.mono HB8.out.size)); clear hb9)
      go_ret
      exact ⟨rfl, HB9.out⟩
    · obtain rfl : code3 = 160 := by
        rcases HC7B.out with h | h
        · exact absurd h hc3
        · exact h
      obtain rfl : S7 = [] := HC7D.out hc3
      obtain rfl : n7 = 0 := by have := HN7.out.len; simpa using this.symm
      clear hc3 HC7 HC7C HC7D heo
      go_wp2_with fail
      go_ret
      exact ⟨rfl, HB7.out⟩
end Gr
end Go.Proofs.Ytpdkdhcbibcifaa
