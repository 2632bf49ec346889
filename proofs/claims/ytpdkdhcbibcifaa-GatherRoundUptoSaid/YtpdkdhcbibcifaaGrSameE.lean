/-
  GrSameE: slices.EqualFunc over entries.
-/
import Derived.Test.YtpdkdhcbibcifaaGrSame1
namespace Go.Proofs.Ytpdkdhcbibcifaa
set_option linter.unusedVariables false
set_option linter.unusedSimpArgs false
open Go.ChangeShapes Go.WideShapes Go.ChangeAt Go.RowKit
namespace Gr
theorem eq_take {α : Type} {X Y : List α} {k : Nat} {x y : α} (hx : X[k]? = some x) (hy : Y[k]? = some y) (h : X.take k = Y.take k) (e : x = y) : X.take (k + 1) = Y.take (k + 1) := by
  obtain ⟨h1, e1⟩ := List.getElem?_eq_some_iff.1 hx
  obtain ⟨h2, e2⟩ := List.getElem?_eq_some_iff.1 hy
  rw [List.take_succ_eq_append_getElem h1, List.take_succ_eq_append_getElem h2, h, e1, e2, e]
set_option maxRecDepth 100000 in
set_option maxHeartbeats 1600000 in
theorem EqualEntries_any (a b : Option Addr) (n m c d : Nat) (S T : List EnS) (w : World) (ha : Ens w a n c S) (hb : Ens w b m d T) :
    Calls Try.prog 39 #[.slice a n c, .slice b m d, .func (.func 40) #[] #[]] w (RetB w (S.map (·.1) = T.map (·.1))) := by
  have hx := ha.len; have hy := hb.len; have c1 := ha.cap; have c2 := hb.cap; have m1 := ha.max; have m2 := hb.max
  by_cases hnm : n = m
  · subst hnm
    have hn : ((n : Int) != n) = false := by simp
    have HX := Lib.hid hx; have HY := Lib.hid hy; have HA := Lib.hid ha; have HB := Lib.hid hb
    clear hx hy ha hb
    go_enter Try.func39, Try.ntmps39
    go_wp2
    go_loopw [17] (fun i wr => ∃ k : Nat, k ≤ n ∧ i = .int .i64 k ∧ Hid (Below w.heap.size w wr) ∧ Hid ((S.map (·.1)).take k = (T.map (·.1)).take k)) (fun i _ => n - (intOf i).toNat)
    case atStart => exact ⟨0, Nat.zero_le _, rfl, Lib.hid (Below.refl _ _), Lib.hid (by simp)⟩
    case round =>
      obtain ⟨k, hk, rfl, hbel, heq⟩ := hrel
      by_cases hlt : k < n
      · obtain ⟨x, hxk⟩ := get_some (S := S) (k := k) (by have := HX.out; omega)
        obtain ⟨y, hyk⟩ := get_some (S := T) (k := k) (by have := HY.out; omega)
        obtain ⟨b1, o1, rfl, h1⟩ := (HA.out.below hbel.out).at k x hxk
        obtain ⟨b2, o2, rfl, h2⟩ := (HB.out.below hbel.out).at k y hyk
        have hd1 := (HA.out.below hbel.out).dat x (mem_get hxk)
        have hd2 := (HB.out.below hbel.out).dat y (mem_get hyk)
        have HEQ := Lib.hid (eqE_iff x.1 y.1)
        have HSL := Lib.hid (fun w' h k => same_any x y w' h k)
        generalize eqE x.1 y.1 = e at *
        have HSX := Lib.hid (fun (e1 : x.1 = y.1) => eq_take (mapfst_get hxk) (mapfst_get hyk) heq.out e1)
        have HNX : Hid (x.1 ≠ y.1 → ¬ S.map (·.1) = T.map (·.1)) := Lib.hid (fun hne e2 => hne (by have h1 := mapfst_get hxk; have h2 := mapfst_get hyk; rw [e2, h2] at h1; exact (Option.some.inj h1).symm))
        have hB2 : Below wr.heap.size wr ((wr.alloc (.cells (enV x) 39)).alloc (.cells (enV y) 39)) := ((Below.refl _ _).alloc (Nat.le_refl _) _).alloc (by simp) _
        have h2' := range_keep h2 (Keeps.alloc wr (.cells (enV x) 39))
        clear hxk hyk h2 heq
        obtain ⟨⟨kind, name, link, mode, uid, gid, user, group, sec, nano, data⟩, sa, sn, sc⟩ := x
        obtain ⟨⟨kind', name', link', mode', uid', gid', user', group', sec', nano', data'⟩, ta, tn, tc⟩ := y
        simp only [enCells, enV] at h1 h2' HSL hB2
        have HR1 := Lib.hid h1; have HR2 := Lib.hid h2'; have HD1 := Lib.hid hd1; have HD2 := Lib.hid hd2; have HB2 := Lib.hid hB2
        clear h1 h2' hd1 hd2 hB2
        cases e with
        | true =>
          have HT := Lib.hid (HSX.out (HEQ.out.1 rfl))
          clear HSX HNX HEQ
          go_wp2_with (first
            | (refine wpList_load_mid rfl _ _ rfl b1 (o1 + k * 11) rfl _ _ HR1.out Try.underlying39 rfl (by kernel_rfl) ?_)
            | (refine wpList_load_mid rfl _ _ rfl b2 (o2 + k * 11) rfl _ _ HR2.out Try.underlying39 rfl (by kernel_rfl) ?_)
            | (go_at_call 40; (refine (HSL.out _ (by exact Below.bs HB2.out HD1.out) (by exact Below.bs HB2.out HD2.out)).mono ?_); rintro r w3 ⟨rfl, hb3⟩))
          exact ⟨⟨k + 1, by omega, by go_num, Lib.hid (Below.seq hbel.out (Below.seq HB2.out hb3)), HT⟩, by simp [intOf]; omega⟩
        | false =>
          have HT := Lib.hid (HNX.out (fun e1 => by have := HEQ.out.2 e1; cases this))
          clear HSX HNX HEQ
          go_wp2_with (first
            | (refine wpList_load_mid rfl _ _ rfl b1 (o1 + k * 11) rfl _ _ HR1.out Try.underlying39 rfl (by kernel_rfl) ?_)
            | (refine wpList_load_mid rfl _ _ rfl b2 (o2 + k * 11) rfl _ _ HR2.out Try.underlying39 rfl (by kernel_rfl) ?_)
            | (go_at_call 40; (refine (HSL.out _ (by exact Below.bs HB2.out HD1.out) (by exact Below.bs HB2.out HD2.out)).mono ?_); rintro r w3 ⟨rfl, hb3⟩))
          go_ret
          exact RetB.no HT.out (Below.seq hbel.out (Below.seq HB2.out hb3))
      · obtain rfl : k = n := by omega
        go_wp2
        go_ret
        refine RetB.yes ?_ hbel.out
        have h := heq.out
        rw [List.take_of_length_le (by rw [List.length_map]; have := HX.out; omega), List.take_of_length_le (by rw [List.length_map]; have := HY.out; omega)] at h
        exact h
  · have hn : ((n : Int) != m) = true := by rw [bne_iff_ne]; omega
    have HX := Lib.hid hx; have HY := Lib.hid hy; clear hx hy ha hb
    go_enter Try.func39, Try.ntmps39
    go_wp2
    go_ret
    refine RetB.no ?_ (Below.refl _ _)
    intro e
    have := congrArg List.length e
    rw [List.length_map, List.length_map, HX.out, HY.out] at this
    exact hnm this
end Gr
end Go.Proofs.Ytpdkdhcbibcifaa
