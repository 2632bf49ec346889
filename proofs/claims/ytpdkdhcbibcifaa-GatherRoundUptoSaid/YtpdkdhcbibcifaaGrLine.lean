/-
  GrLine: sameLine, and slices.EqualFunc over lines.
-/
import Derived.Test.YtpdkdhcbibcifaaGrMem
import Derived.BigQuiet
namespace Go.Proofs.Ytpdkdhcbibcifaa
set_option linter.unusedVariables false
set_option linter.unusedSimpArgs false
open Go.ChangeShapes Go.WideShapes Go.ChangeAt Go.RowKit
namespace Gr
def eqL (x y : Ln) : Bool := x.path == y.path && x.kind == y.kind && x.mode == y.mode && x.uid == y.uid && x.gid == y.gid && (x.sec == y.sec && x.nano == y.nano) && x.target == y.target && x.peer == y.peer && x.data == y.data
theorem eqL_iff (x y : Ln) : eqL x y = true ↔ x = y := by
  cases x; cases y
  simp only [eqL, Bool.and_eq_true, beq_iff_eq, Ln.mk.injEq]
  constructor
  · rintro ⟨⟨⟨⟨⟨⟨⟨⟨rfl, rfl⟩, rfl⟩, rfl⟩, rfl⟩, rfl, rfl⟩, rfl⟩, rfl⟩, rfl⟩
    simp
  · rintro ⟨rfl, rfl, rfl, rfl, rfl, rfl, rfl, rfl, rfl, rfl⟩
    simp
theorem eql_time2 (s n s' n' : Int) (w : World) : (binOp .eql 36 (.agg #[.int .i64 s, .int .i64 n]) (.agg #[.int .i64 s', .int .i64 n'])).run Try.prog w = .ok (.bool (s == s' && n == n')) w := by
  rw [run_eql_struct, run_equalIn_agg w 9999 36 _ _ (by kernel_rfl) (by kernel_rfl)]
  have hs : ∀ (d : Nat) (a b : Int), (Op.equalIn (d + 1) 3 (.int .i64 a) (.int .i64 b)).run Try.prog w = .ok (a == b) w := fun d a b => run_equalIn_int w d 3 .i64 .i64 a b Try.underlying3
  have hp0 : ∀ (u v : Value), (part 3 #[u, v] 0).run Try.prog w = .ok u w := fun u v => by simp [part, isAgg, run_underlying Try.underlying3]
  have hp1 : ∀ (u v : Value), (part 3 #[u, v] 1).run Try.prog w = .ok v w := fun u v => by simp [part, isAgg, run_underlying Try.underlying3]
  simp [Program.fieldsOf, Try.underlying36, Op.eqFields, hs, hp0, hp1, hs 9998]
  cases h : (s == s')
  · have : ¬ s = s' := by simpa using h
    simp [this, hs, hp0, hp1]
  · have : s = s' := by simpa using h
    by_cases hn : n = n' <;> simp [this, hs, hp0, hp1, hn]
set_option maxRecDepth 100000 in
set_option maxHeartbeats 3200000 in
theorem sameLine_any (x y : LnS) (w : World) (h : Dat w x.2 x.1.data) (k : Dat w y.2 y.1.data) :
    Calls Try.prog 53 #[.agg (lnV x), .agg (lnV y)] w fun r w' => r = .returned (.bool (eqL x.1 y.1)) ∧ Below w.heap.size w w' := by
  obtain ⟨⟨path, kind, mode, uid, gid, sec, nano, data, target, peer⟩, a, n, c⟩ := x
  obtain ⟨⟨path', kind', mode', uid', gid', sec', nano', data', target', peer'⟩, b, m, d⟩ := y
  simp only [Dat] at h k
  have hq := eql_time2 sec nano sec' nano'
  have hb2 := (((Below.refl w.heap.size w).alloc (Nat.le_refl _) (.cells (lnV (⟨path, kind, mode, uid, gid, sec, nano, data, target, peer⟩, (a, n, c))) 51)).alloc (by simp) (.cells (lnV (⟨path', kind', mode', uid', gid', sec', nano', data', target', peer'⟩, (b, m, d))) 51))
  simp only [lnV] at hb2 ⊢
  generalize hr : eqL _ _ = r
  have hr' := hr
  simp only [eqL] at hr
  have hts : (sec == sec' && nano == nano') = true ∨ (sec == sec' && nano == nano') = false := by cases (sec == sec' && nano == nano') <;> simp
  have HB := Lib.hid hb2; have HH := Lib.hid h; have HK := Lib.hid k
  have HSB : Hid (∀ w, Bs w a n c data → Bs w b m d data' → Calls Try.prog 50 #[.slice a n c, .slice b m d] w fun e w' => e = .returned (.bool (decide (data = data'))) ∧ Below w.heap.size w w') := Lib.hid (fun w h1 h2 => Equal_any (a, n, c) (b, m, d) data data' w h1 h2)
  have hde : decide (data = data') = (data == data') := by by_cases e : data = data' <;> simp [e]
  rw [hde] at HSB
  clear hb2 h k hde hr'
  generalize (sec == sec' && nano == nano') = bt at *
  generalize hb : (data == data') = bd at *
  generalize hc1 : (path == path') = b1 at *
  generalize hc2 : (target == target') = b2 at *
  generalize hc3 : (peer == peer') = b3 at *
  generalize hc4 : (kind == kind') = b4 at *
  generalize hc5 : (mode == mode') = b5 at *
  generalize hc6 : (uid == uid') = b6 at *
  generalize hc7 : (gid == gid') = b7 at *
  have HR := Lib.hid hr
  clear hr hb
  go_enter Try.func53, Try.ntmps53
  cases b1 with
  | false => (go_wp2; go_ret; exact ⟨by rw [← HR.out]; simp, HB.out⟩)
  | true =>
  cases b4 with
  | false => (go_wp2; go_ret; exact ⟨by rw [← HR.out]; simp, HB.out⟩)
  | true =>
  cases b5 with
  | false => (go_wp2; go_ret; exact ⟨by rw [← HR.out]; simp, HB.out⟩)
  | true =>
  cases b6 with
  | false => (go_wp2; go_ret; exact ⟨by rw [← HR.out]; simp, HB.out⟩)
  | true =>
  cases b7 with
  | false => (go_wp2; go_ret; exact ⟨by rw [← HR.out]; simp, HB.out⟩)
  | true =>
  cases bt with
  | false => (go_wp2; go_ret; exact ⟨by rw [← HR.out]; simp, HB.out⟩)
  | true =>
  cases b2 with
  | false => (go_wp2; go_ret; exact ⟨by rw [← HR.out]; simp, HB.out⟩)
  | true =>
  cases b3 with
  | false => (go_wp2; go_ret; exact ⟨by rw [← HR.out]; simp, HB.out⟩)
  | true =>
  go_wp2_with (go_at_call 50; (refine (HSB.out _ (by exact Below.bs HB.out HH.out) (by exact Below.bs HB.out HK.out)).mono ?_); rintro r w1 ⟨rfl, hb1⟩)
  go_ret
  exact ⟨by rw [← HR.out]; simp, Below.seq HB.out hb1⟩
theorem eqL_take {X Y : List Ln} {k : Nat} {x y : Ln} (hx : X[k]? = some x) (hy : Y[k]? = some y) (h : X.take k = Y.take k) (e : x = y) : X.take (k + 1) = Y.take (k + 1) := by
  obtain ⟨h1, e1⟩ := List.getElem?_eq_some_iff.1 hx
  obtain ⟨h2, e2⟩ := List.getElem?_eq_some_iff.1 hy
  rw [List.take_succ_eq_append_getElem h1, List.take_succ_eq_append_getElem h2, h, e1, e2, e]
/-- a call that answers whether p holds -/
def RetB (w : World) (p : Prop) (r : Ending) (w' : World) : Prop := ∃ v, r = .returned (.bool v) ∧ (v = true ↔ p) ∧ Below w.heap.size w w'
theorem RetB.yes {w w' : World} {p : Prop} (h : p) (hb : Below w.heap.size w w') : RetB w p (.returned (.bool true)) w' := ⟨true, rfl, by simp [h], hb⟩
theorem RetB.no {w w' : World} {p : Prop} (h : ¬ p) (hb : Below w.heap.size w w') : RetB w p (.returned (.bool false)) w' := ⟨false, rfl, by simp [h], hb⟩
theorem mapfst_get {α β : Type} {S : List (α × β)} {k : Nat} {x : α × β} (h : S[k]? = some x) : (S.map (·.1))[k]? = some x.1 := by simp [h]
set_option maxRecDepth 100000 in
set_option maxHeartbeats 1600000 in
theorem EqualLines_any (a b : Option Addr) (n m c d : Nat) (S T : List LnS) (w : World) (ha : Lns w a n c S) (hb : Lns w b m d T) :
    Calls Try.prog 52 #[.slice a n c, .slice b m d, .func (.func 53) #[] #[]] w (RetB w (S.map (·.1) = T.map (·.1))) := by
  have hx := ha.len; have hy := hb.len; have c1 := ha.cap; have c2 := hb.cap; have m1 := ha.max; have m2 := hb.max
  by_cases hnm : n = m
  · subst hnm
    have hn : ((n : Int) != n) = false := by simp
    have HX := Lib.hid hx; have HY := Lib.hid hy; have HA := Lib.hid ha; have HB := Lib.hid hb
    clear hx hy ha hb
    go_enter Try.func52, Try.ntmps52
    go_wp2
    go_loopw [17] (fun i wr => ∃ k : Nat, k ≤ n ∧ i = .int .i64 k ∧ Hid (Below w.heap.size w wr) ∧ Hid ((S.map (·.1)).take k = (T.map (·.1)).take k)) (fun i _ => n - (intOf i).toNat)
    case atStart => exact ⟨0, Nat.zero_le _, rfl, Lib.hid (Below.refl _ _), Lib.hid (by simp)⟩
    case round =>
      obtain ⟨k, hk, rfl, hbel, heq⟩ := hrel
      by_cases hlt : k < n
      · obtain ⟨x, hxk⟩ := get_some (S := S) (k := k) (by have := HX.out; omega)
        obtain ⟨y, hyk⟩ := get_some (S := T) (k := k) (by have := HY.out; omega)
        have HXK := Lib.hid hxk; have HYK := Lib.hid hyk
        obtain ⟨b1, o1, rfl, h1⟩ := (HA.out.below hbel.out).at k x hxk
        obtain ⟨b2, o2, rfl, h2⟩ := (HB.out.below hbel.out).at k y hyk
        have hd1 := (HA.out.below hbel.out).dat x (mem_get hxk)
        have hd2 := (HB.out.below hbel.out).dat y (mem_get hyk)
        have HEQ := Lib.hid (eqL_iff x.1 y.1)
        have HSL := Lib.hid (fun w' h k => sameLine_any x y w' h k)
        generalize eqL x.1 y.1 = e at *
        have HSX := Lib.hid (fun (e1 : x.1 = y.1) => eqL_take (mapfst_get hxk) (mapfst_get hyk) heq.out e1)
        have HNX : Hid (x.1 ≠ y.1 → ¬ S.map (·.1) = T.map (·.1)) := Lib.hid (fun hne e2 => hne (by have h1 := mapfst_get hxk; have h2 := mapfst_get hyk; rw [e2, h2] at h1; exact (Option.some.inj h1).symm))
        have hB2 : Below wr.heap.size wr ((wr.alloc (.cells (lnV x) 51)).alloc (.cells (lnV y) 51)) := ((Below.refl _ _).alloc (Nat.le_refl _) _).alloc (by simp) _
        have h2' := range_keep h2 (Keeps.alloc wr (.cells (lnV x) 51))
        clear hxk hyk HXK HYK h2 heq
        obtain ⟨⟨path, kind, mode, uid, gid, sec, nano, data, target, peer⟩, a1, n1, c1⟩ := x
        obtain ⟨⟨path', kind', mode', uid', gid', sec', nano', data', target', peer'⟩, a2, n2, c2⟩ := y
        simp only [lnCells, lnV] at h1 h2' HSL hB2
        have HR1 := Lib.hid h1; have HR2 := Lib.hid h2'; have HD1 := Lib.hid hd1; have HD2 := Lib.hid hd2; have HB2 := Lib.hid hB2
        clear h1 h2' hd1 hd2 hB2
        cases e with
        | true =>
          have HT := Lib.hid (HSX.out (HEQ.out.1 rfl))
          clear HSX HNX HEQ
          go_wp2_with (first
            | (refine wpList_load_mid rfl _ _ rfl b1 (o1 + k * 10) rfl _ _ HR1.out Try.underlying51 rfl (by kernel_rfl) ?_)
            | (refine wpList_load_mid rfl _ _ rfl b2 (o2 + k * 10) rfl _ _ HR2.out Try.underlying51 rfl (by kernel_rfl) ?_)
            | (go_at_call 53; (refine (HSL.out _ (by exact Below.bs HB2.out HD1.out) (by exact Below.bs HB2.out HD2.out)).mono ?_); rintro r w3 ⟨rfl, hb3⟩))
          exact ⟨⟨k + 1, by omega, by go_num, Lib.hid (Below.seq hbel.out (Below.seq HB2.out hb3)), HT⟩, by simp [intOf]; omega⟩
        | false =>
          have HT := Lib.hid (HNX.out (fun e1 => by have := HEQ.out.2 e1; cases this))
          clear HSX HNX HEQ
          go_wp2_with (first
            | (refine wpList_load_mid rfl _ _ rfl b1 (o1 + k * 10) rfl _ _ HR1.out Try.underlying51 rfl (by kernel_rfl) ?_)
            | (refine wpList_load_mid rfl _ _ rfl b2 (o2 + k * 10) rfl _ _ HR2.out Try.underlying51 rfl (by kernel_rfl) ?_)
            | (go_at_call 53; (refine (HSL.out _ (by exact Below.bs HB2.out HD1.out) (by exact Below.bs HB2.out HD2.out)).mono ?_); rintro r w3 ⟨rfl, hb3⟩))
          go_ret
          exact RetB.no HT.out (Below.seq hbel.out (Below.seq HB2.out hb3))
      · obtain rfl : k = n := by omega
        go_wp2
        go_ret
        refine RetB.yes ?_ hbel.out
        have h := heq.out
        rw [List.take_of_length_le (by rw [List.length_map]; have := HX.out; omega), List.take_of_length_le (by rw [List.length_map]; have := HY.out; omega)] at h
        exact h
  · have hn : ((n : Int) != m) = true := by rw [bne_iff_ne]; omega
    have HX := Lib.hid hx; have HY := Lib.hid hy; clear hx hy ha hb
    go_enter Try.func52, Try.ntmps52
    go_wp2
    go_ret
    refine RetB.no ?_ (Below.refl _ _)
    intro e
    have := congrArg List.length e
    rw [List.length_map, List.length_map, HX.out, HY.out] at this
    exact hnm this
end Gr
end Go.Proofs.Ytpdkdhcbibcifaa
