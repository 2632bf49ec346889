/-
  RgSame: SameLine and SameEntry, both answers.
-/
import Derived.Test.YtpdkdhcbibcifaaJ07
import Derived.Test.YtpdkdhcbibcifaaJ02
import Derived.Test.YtpdkdhcbibcifaaGrSame1
import Derived.Test.YtpdkdhcbibcifaaJ08
namespace Go.Proofs.Ytpdkdhcbibcifaa
set_option linter.unusedVariables false
set_option linter.unusedSimpArgs false
open Go.ChangeShapes Go.WideShapes Go.ChangeAt Go.RowKit
namespace Gr
set_option maxRecDepth 100000 in
set_option maxHeartbeats 3200000 in
theorem SameL_any (x y : LnS) (w : World) (h : Dat w x.2 x.1.data) (k : Dat w y.2 y.1.data) :
    Calls Try.prog 28 #[.agg (lnV x), .agg (lnV y)] w fun r w' => r = .returned (.bool (eqL x.1 y.1)) ∧ Below w.heap.size w w' := by
  obtain ⟨⟨path, kind, mode, uid, gid, sec, nano, data, target, peer⟩, a, n, c⟩ := x
  obtain ⟨⟨path', kind', mode', uid', gid', sec', nano', data', target', peer'⟩, b, m, d⟩ := y
  simp only [Dat] at h k
  have hq := eql_time2 sec nano sec' nano'
  have hb2 := (((Below.refl w.heap.size w).alloc (Nat.le_refl _) (.cells (lnV (⟨path, kind, mode, uid, gid, sec, nano, data, target, peer⟩, (a, n, c))) 51)).alloc (by simp) (.cells (lnV (⟨path', kind', mode', uid', gid', sec', nano', data', target', peer'⟩, (b, m, d))) 51))
  simp only [lnV] at hb2 ⊢
  generalize hr : eqL _ _ = r
  have hr' := hr
  simp only [eqL] at hr
  have hts : (sec == sec' && nano == nano') = true ∨ (sec == sec' && nano == nano') = false := by cases (sec == sec' && nano == nano') <;> simp
  have HB := Lib.hid hb2; have HH := Lib.hid h; have HK := Lib.hid k
  have HSB : Hid (∀ w, Bs w a n c data → Bs w b m d data' → Calls Try.prog 45 #[.slice a n c, .slice b m d] w fun e w' => e = .returned (.bool (decide (data = data'))) ∧ Below w.heap.size w w') := Lib.hid (fun w h1 h2 => SameBytes_any a b n m c d data data' w h1 h2)
  have hde : decide (data = data') = (data == data') := by by_cases e : data = data' <;> simp [e]
  rw [hde] at HSB
  clear hb2 h k hde hr'
  generalize (sec == sec' && nano == nano') = bt at *
  generalize hb : (data == data') = bd at *
  generalize hc1 : (path == path') = b1 at *
  generalize hc2 : (target == target') = b2 at *
  generalize hc3 : (peer == peer') = b3 at *
  generalize hc4 : (kind == kind') = b4 at *
  generalize hc5 : (mode == mode') = b5 at *
  generalize hc6 : (uid == uid') = b6 at *
  generalize hc7 : (gid == gid') = b7 at *
  have HR := Lib.hid hr
  clear hr hb
  go_enter Try.func28, Try.ntmps28
  cases b1 with
  | false => (go_wp2; go_ret; exact ⟨by rw [← HR.out]; simp, HB.out⟩)
  | true =>
  cases b4 with
  | false => (go_wp2; go_ret; exact ⟨by rw [← HR.out]; simp, HB.out⟩)
  | true =>
  cases b5 with
  | false => (go_wp2; go_ret; exact ⟨by rw [← HR.out]; simp, HB.out⟩)
  | true =>
  cases b6 with
  | false => (go_wp2; go_ret; exact ⟨by rw [← HR.out]; simp, HB.out⟩)
  | true =>
  cases b7 with
  | false => (go_wp2; go_ret; exact ⟨by rw [← HR.out]; simp, HB.out⟩)
  | true =>
  cases bt with
  | false => (go_wp2; go_ret; exact ⟨by rw [← HR.out]; simp, HB.out⟩)
  | true =>
  cases b2 with
  | false => (go_wp2; go_ret; exact ⟨by rw [← HR.out]; simp, HB.out⟩)
  | true =>
  cases b3 with
  | false => (go_wp2; go_ret; exact ⟨by rw [← HR.out]; simp, HB.out⟩)
  | true =>
  go_wp2_with (go_at_call 45; (refine (HSB.out _ (by exact Below.bs HB.out HH.out) (by exact Below.bs HB.out HK.out)).mono ?_); rintro r w1 ⟨rfl, hb1⟩)
  go_ret
  exact ⟨by rw [← HR.out]; simp, Below.seq HB.out hb1⟩
set_option maxRecDepth 100000 in
set_option maxHeartbeats 3200000 in
theorem SameE_any (x y : EnS) (w : World) (h : Dat w x.2 x.1.data) (k : Dat w y.2 y.1.data) :
    Calls Try.prog 27 #[.agg (enV x), .agg (enV y)] w fun r w' => r = .returned (.bool (eqE x.1 y.1)) ∧ Below w.heap.size w w' := by
  obtain ⟨⟨k0, name, link, mode, uid, gid, user, group, sec, nano, data⟩, a, n, c⟩ := x
  obtain ⟨⟨k0', name', link', mode', uid', gid', user', group', sec', nano', data'⟩, b, m, d⟩ := y
  simp only [Dat] at h k
  have hq := eql_time2 sec nano sec' nano'
  have hb2 := (((Below.refl w.heap.size w).alloc (Nat.le_refl _) (.cells (enV (⟨k0, name, link, mode, uid, gid, user, group, sec, nano, data⟩, (a, n, c))) 39)).alloc (by simp) (.cells (enV (⟨k0', name', link', mode', uid', gid', user', group', sec', nano', data'⟩, (b, m, d))) 39))
  simp only [enV] at hb2 ⊢
  generalize hr : eqE _ _ = r
  simp only [eqE] at hr
  have HB := Lib.hid hb2; have HH := Lib.hid h; have HK := Lib.hid k
  have HSB : Hid (∀ w, Bs w a n c data → Bs w b m d data' → Calls Try.prog 45 #[.slice a n c, .slice b m d] w fun e w' => e = .returned (.bool (decide (data = data'))) ∧ Below w.heap.size w w') := Lib.hid (fun w h1 h2 => SameBytes_any a b n m c d data data' w h1 h2)
  have hde : decide (data = data') = (data == data') := by by_cases e : data = data' <;> simp [e]
  rw [hde] at HSB
  clear hb2 h k hde
  generalize (sec == sec' && nano == nano') = bt at *
  generalize hb : (data == data') = bd at *
  generalize hc0 : (k0 == k0') = b0 at *
  generalize hc1 : (name == name') = b1 at *
  generalize hc2 : (link == link') = b2 at *
  generalize hc3 : (mode == mode') = b3 at *
  generalize hc4 : (uid == uid') = b4 at *
  generalize hc5 : (gid == gid') = b5 at *
  generalize hc6 : (user == user') = b6 at *
  generalize hc7 : (group == group') = b7 at *
  have HR := Lib.hid hr
  clear hr hb
  go_enter Try.func27, Try.ntmps27
  cases b0 with
  | false => (go_wp2; go_ret; exact ⟨by rw [← HR.out]; simp, HB.out⟩)
  | true =>
  cases b1 with
  | false => (go_wp2; go_ret; exact ⟨by rw [← HR.out]; simp, HB.out⟩)
  | true =>
  cases b2 with
  | false => (go_wp2; go_ret; exact ⟨by rw [← HR.out]; simp, HB.out⟩)
  | true =>
  cases b3 with
  | false => (go_wp2; go_ret; exact ⟨by rw [← HR.out]; simp, HB.out⟩)
  | true =>
  cases b4 with
  | false => (go_wp2; go_ret; exact ⟨by rw [← HR.out]; simp, HB.out⟩)
  | true =>
  cases b5 with
  | false => (go_wp2; go_ret; exact ⟨by rw [← HR.out]; simp, HB.out⟩)
  | true =>
  cases b6 with
  | false => (go_wp2; go_ret; exact ⟨by rw [← HR.out]; simp, HB.out⟩)
  | true =>
  cases b7 with
  | false => (go_wp2; go_ret; exact ⟨by rw [← HR.out]; simp, HB.out⟩)
  | true =>
  cases bt with
  | false => (go_wp2; go_ret; exact ⟨by rw [← HR.out]; simp, HB.out⟩)
  | true =>
  go_wp2_with (go_at_call 45; (refine (HSB.out _ (by exact Below.bs HB.out HH.out) (by exact Below.bs HB.out HK.out)).mono ?_); rintro r w1 ⟨rfl, hb1⟩)
  go_ret
  exact ⟨by rw [← HR.out]; simp, Below.seq HB.out hb1⟩
end Gr
end Go.Proofs.Ytpdkdhcbibcifaa
