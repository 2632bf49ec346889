/-
  GrEach: the iterator that gather.Each hands back.
-/
import Derived.Test.YtpdkdhcbibcifaaGrRange
namespace Go.Proofs.Ytpdkdhcbibcifaa
set_option linter.unusedVariables false
set_option linter.unusedSimpArgs false
open Go.ChangeShapes Go.WideShapes Go.ChangeAt Go.RowKit Go.Shelf
attribute [local go_sem] Oper.semAt_some
namespace Gr
/-- all entries -/
def eachS (ls : List Ln) (xs : List EnS) : Prop := (Gath ls → xs.map (·.1) = ls.map entOf) ∧ (¬ Gath ls → xs = [])
def eachSp (ls : List Ln) (xs : List EnS) : Prop := Gath ls ∧ ∃ k, xs.map (·.1) = (ls.map entOf).take k ∧ k = xs.length
set_option maxRecDepth 100000 in
set_option maxHeartbeats 4000000 in
theorem each1_stops (n : Nat) (hn : 1 ≤ n) (bx : Nat) (a : Option Addr) (m c : Nat) (T : List LnS) (w₀ w : World) (hbx : w.cell? ⟨bx, 0, none⟩ = some (.slice a m c)) (hL : Lns w₀ a m c T) (hN : LnNum T) (hb0 : Below w₀.heap.size w₀ w) :
    SeqE n Try.prog 29 #[.pointer (some ⟨bx, 0, none⟩)] (eachS (lOf T)) (eachSp (lOf T)) m w₀.heap.size w := by
  intro l J Jx W hW hJ hY h0
  have HL := Lib.hid hL; have HN := Lib.hid hN
  have hl := hL.len; have hcap := hL.cap; have hmax := hL.max
  have hn2 := hN.num
  rw [hl] at hn2
  have HLE := Lib.hid hl
  have hcb : W.cell? ⟨bx, 0, none⟩ = some (.slice a m c) := Below.keeps hW _ _ hbx
  have hW0 : Below w₀.heap.size w₀ W := hb0.trans (hW.mono hb0.size)
  have HCK := Lib.hid (check_any a m c T W (hL.below hW0) hN)
  have HW0 := Lib.hid hW0
  clear hW0
  have HJ := Lib.hid hJ; have HY := Lib.hid hY; have HW := Lib.hid hW; have HBX := Lib.hid hbx
  clear hL hN hl hJ hY hW hbx
  refine callsIn_of_wp Try.func29 rfl trivial ?_ rfl
  simp only [Try.ntmps29, List.size_toArray, List.length_cons, List.length_nil, Nat.reduceAdd, Nat.reduceSub, Array.replicate_succ, Array.replicate_zero, List.push_toArray, List.append_toArray, List.nil_append, List.cons_append]
  by_cases hG : Gath (lOf T)
  · have HG := Lib.hid hG
    clear hG
    gi_wp2_with (refine ⟨trivial, ?_⟩; gi_at_call 24; refine (callsIn_wide.2 HCK.out).mono ?_; rintro r w1 ⟨code, rfl, hb1, hc0, hc1, _⟩; obtain rfl : code = 0 := hc0.2 HG.out; have hcb1 : w1.cell? ⟨bx, 0, none⟩ = some (.slice a m c) := Below.keeps (HW.out.trans (hb1.mono HW.out.size)) _ _ HBX.out; have HB1 := Lib.hid (HW0.out.trans (hb1.mono HW0.out.size)); have HJ1 := Lib.hid (HJ.out [] W w1 h0 hb1); clear hb1 hc0 hc1)
    clear HCK hcb hcb1 h0
    gi_loopw [10] (fun i wr => ∃ (k : Nat) (pre : List EnS), k ≤ m ∧ i = .int .i64 k ∧ Hid (J pre wr) ∧ Hid (pre.map (·.1) = ((lOf T).map entOf).take k) ∧ Hid (Below w₀.heap.size w₀ wr)) (fun i _ => m - (intOf i).toNat)
    case atStart => exact ⟨0, [], Nat.zero_le _, rfl, HJ1, Lib.hid (by simp), HB1⟩
    case round =>
      obtain ⟨k, pre, hk, rfl, hJp, hpre, hbel⟩ := hrel
      by_cases hlt : k < m
      · obtain ⟨x, hxk⟩ := get_some (S := T) (k := k) (by have := HLE.out; omega)
        obtain ⟨b, off, rfl, hr⟩ := (HL.out.below hbel.out).at k x hxk
        have hdx := (HL.out.below hbel.out).dat x (mem_get hxk)
        have hnd := HN.out.dat x (mem_get hxk)
        have hns := (HN.out.str x (mem_get hxk)).1
        have hlk : (lOf T)[k]? = some x.1 := mapfst_get hxk
        have HPX : Hid (((lOf T).map entOf).take (k + 1) = ((lOf T).map entOf).take k ++ [entOf x.1]) := Lib.hid (by
          obtain ⟨h1, h2⟩ := List.getElem?_eq_some_iff.1 hlk
          rw [List.take_succ_eq_append_getElem (by rw [List.length_map]; exact h1), List.getElem_map, h2])
        have hb1 : Below wr.heap.size wr (wr.alloc (.cells (lnV x) 51)) := (Below.refl _ _).alloc (Nat.le_refl _) _
        have HEN := Lib.hid (entry_any x (wr.alloc (.cells (lnV x) 51)) (Below.bs hb1 hdx) hnd hns)
        have hpl : pre.length < m := by
          have h := congrArg List.length hpre.out
          rw [List.length_map, List.length_take, List.length_map, List.length_map, HLE.out] at h
          omega
        have HYY : Hid (∀ s w5, Below (wr.alloc (.cells (lnV x) 51)).heap.size (wr.alloc (.cells (lnV x) 51)) w5 → Own w5 (wr.alloc (.cells (lnV x) 51)).heap.size s (entOf x.1).data → YieldAt Fence.wide (n - 1) Try.prog l #[.agg (enV (entOf x.1, s))] w5 fun e W' =>
            (e = .returned (.bool true) ∧ J (pre ++ [(entOf x.1, s)]) W' ∧ Below w₀.heap.size w5 W') ∨ (e = .returned (.bool false) ∧ Jx (pre ++ [(entOf x.1, s)]) W')) := Lib.hid (fun s w5 hb5 ho5 => HY.out pre (entOf x.1, s) wr w5 hJp.out hpl (hb1.trans (hb5.mono hb1.size)) (own_base ho5 hb1.size))
        have HB2 : Hid (∀ w5, Below (wr.alloc (.cells (lnV x) 51)).heap.size (wr.alloc (.cells (lnV x) 51)) w5 → Below w₀.heap.size w₀ w5) := Lib.hid (fun w5 hb5 => hbel.out.trans ((hb1.trans (hb5.mono hb1.size)).mono hbel.out.size))
        clear hdx hnd hxk hlk hb1
        obtain ⟨⟨path, kind, mode, uid, gid, sec, nano, data, target, peer⟩, ⟨da, dn, dc⟩⟩ := x
        simp only [lnCells] at hr
        simp only [lnV] at HEN HYY HB2
        simp only at HPX
        have q0 : wr.cell? ⟨b, off + k * 10, none⟩ = some (.string ⟨path.toArray⟩) := range_cell hr 0 rfl
        have q1 : wr.cell? ⟨b, off + k * 10 + 1, none⟩ = some (.int .i64 kind) := range_cell hr 1 rfl
        have q2 : wr.cell? ⟨b, off + k * 10 + 2, none⟩ = some (.int .i64 mode) := range_cell hr 2 rfl
        have q3 : wr.cell? ⟨b, off + k * 10 + 3, none⟩ = some (.int .i64 uid) := range_cell hr 3 rfl
        have q4 : wr.cell? ⟨b, off + k * 10 + 4, none⟩ = some (.int .i64 gid) := range_cell hr 4 rfl
        have q5 : wr.cell? ⟨b, off + k * 10 + 5, none⟩ = some (.int .i64 sec) := range_cell hr 5 rfl
        have q6 : wr.cell? ⟨b, off + k * 10 + 6, none⟩ = some (.int .i64 nano) := range_cell hr 6 rfl
        have q7 : wr.cell? ⟨b, off + k * 10 + 7, none⟩ = some (.slice da dn dc) := range_cell hr 7 rfl
        have q8 : wr.cell? ⟨b, off + k * 10 + 8, none⟩ = some (.string ⟨target.toArray⟩) := range_cell hr 8 rfl
        have q9 : wr.cell? ⟨b, off + k * 10 + 9, none⟩ = some (.string ⟨peer.toArray⟩) := range_cell hr 9 rfl
        clear hr
        generalize hen : entOf ⟨path, kind, mode, uid, gid, sec, nano, data, target, peer⟩ = en at *
        have HENE := Lib.hid hen; clear hen
        gi_wp2_with (refine ⟨trivial, ?_⟩; gi_at_call 30; refine (callsIn_wide.2 HEN.out).mono ?_; rintro r w5 ⟨s, rfl, hb5, ho5⟩; rw [HENE.out] at ho5 ⊢; obtain ⟨fn, tmps, assign, body, hy, hR⟩ := HYY.out s w5 hb5 ho5; have HB5 := Lib.hid (HB2.out w5 hb5); clear hb5 ho5)
        refine hR.mono ?_
        rintro e W3 (⟨rfl, hJ3, hk3⟩ | ⟨rfl, hJx3⟩)
        · gi_wp2
          exact ⟨⟨k + 1, pre ++ [(en, s)], by omega, by go_num, Lib.hid hJ3, Lib.hid (by rw [List.map_append, hpre.out, HPX.out]; rfl), Lib.hid (HB5.out.trans hk3)⟩, by simp [intOf]; omega⟩
        · gi_wp2
          refine bodyPost_ret (results_none rfl _ _ _) rfl ?_
          refine ⟨⟨_, rfl⟩, .inr ⟨pre ++ [(en, s)], ⟨HG.out, k + 1, by rw [List.map_append, hpre.out, HPX.out]; rfl, ?_⟩, hJx3⟩⟩
          have h := congrArg List.length hpre.out
          rw [List.length_map, List.length_take, List.length_map, List.length_map, HLE.out] at h
          rw [List.length_append]
          simp only [List.length_cons, List.length_nil]
          omega
      · obtain rfl : k = m := by omega
        gi_wp2
        go_end0
        refine ⟨⟨_, rfl⟩, .inl ⟨pre, ⟨fun _ => ?_, fun h => absurd HG.out h⟩, hJp.out⟩⟩
        have h := hpre.out
        rw [List.take_of_length_le (by rw [List.length_map, List.length_map]; have := HLE.out; omega)] at h
        exact h
  · have HG := Lib.hid hG
    clear hG
    gi_wp2_with (refine ⟨trivial, ?_⟩; gi_at_call 24; refine (callsIn_wide.2 HCK.out).mono ?_; rintro r w1 ⟨code, rfl, hb1, hc0, hc1, _⟩; have hcb : (code != 0) = true := bne_t (fun e => HG.out (hc0.1 e)); have HJ1 := Lib.hid (HJ.out [] W w1 h0 hb1); clear hb1 hc0 hc1)
    refine bodyPost_ret (results_none rfl _ _ _) rfl ?_
    exact ⟨⟨_, rfl⟩, .inl ⟨[], ⟨fun h => absurd h HG.out, fun _ => rfl⟩, HJ1.out⟩⟩
end Gr
end Go.Proofs.Ytpdkdhcbibcifaa
