/-
  GrSame1: gather.same.
-/
import Derived.Test.YtpdkdhcbibcifaaJ06
import Derived.Test.YtpdkdhcbibcifaaJ02
import Derived.BigRegion
namespace Go.Proofs.Ytpdkdhcbibcifaa
set_option linter.unusedVariables false
set_option linter.unusedSimpArgs false
open Go.ChangeShapes Go.WideShapes Go.ChangeAt Go.RowKit
namespace Gr
def eqE (x y : En) : Bool := x.kind == y.kind && x.name == y.name && x.link == y.link && x.mode == y.mode && x.uid == y.uid && x.gid == y.gid && x.user == y.user && x.group == y.group && (x.sec == y.sec && x.nano == y.nano) && x.data == y.data
theorem eqE_iff (x y : En) : eqE x y = true ↔ x = y := by
  cases x; cases y
  simp only [eqE, Bool.and_eq_true, beq_iff_eq, En.mk.injEq]
  constructor
  · rintro ⟨⟨⟨⟨⟨⟨⟨⟨⟨rfl, rfl⟩, rfl⟩, rfl⟩, rfl⟩, rfl⟩, rfl⟩, rfl⟩, rfl, rfl⟩, rfl⟩
    simp
  · rintro ⟨rfl, rfl, rfl, rfl, rfl, rfl, rfl, rfl, rfl, rfl, rfl⟩
    simp
set_option maxRecDepth 100000 in
set_option maxHeartbeats 3200000 in
theorem same_any (x y : EnS) (w : World) (h : Dat w x.2 x.1.data) (k : Dat w y.2 y.1.data) :
    Calls Try.prog 40 #[.agg (enV x), .agg (enV y)] w fun r w' => r = .returned (.bool (eqE x.1 y.1)) ∧ Below w.heap.size w w' := by
  obtain ⟨⟨kind, name, link, mode, uid, gid, user, group, sec, nano, data⟩, a, n, c⟩ := x
  obtain ⟨⟨kind', name', link', mode', uid', gid', user', group', sec', nano', data'⟩, b, m, d⟩ := y
  simp only [Dat] at h k
  have hq := eql_time2 sec nano sec' nano'
  simp only [enV]
  generalize hr : eqE _ _ = r
  simp only [eqE] at hr
  have HH := Lib.hid h; have HK := Lib.hid k
  have HSB : Hid (∀ w, Bs w a n c data → Bs w b m d data' → Calls Try.prog 50 #[.slice a n c, .slice b m d] w fun e w' => e = .returned (.bool (decide (data = data'))) ∧ Below w.heap.size w w') := Lib.hid (fun w h1 h2 => Equal_any (a, n, c) (b, m, d) data data' w h1 h2)
  have hde : decide (data = data') = (data == data') := by by_cases e : data = data' <;> simp [e]
  rw [hde] at HSB
  clear h k hde
  generalize (sec == sec' && nano == nano') = bt at *
  generalize hb : (data == data') = bd at *
  generalize hc1 : (name == name') = b1 at *
  generalize hc2 : (link == link') = b2 at *
  generalize hc3 : (user == user') = b3 at *
  generalize hc8 : (group == group') = b8 at *
  generalize hc4 : (kind == kind') = b4 at *
  generalize hc5 : (mode == mode') = b5 at *
  generalize hc6 : (uid == uid') = b6 at *
  generalize hc7 : (gid == gid') = b7 at *
  have HR := Lib.hid hr
  clear hr hb
  go_enter Try.func40, Try.ntmps40
  go_upto_region 1 with fail
  go_region
  go_upto_region 2 with fail
  have e1 : (w.alloc (.cells #[.int .i64 kind, .string ⟨name.toArray⟩, .string ⟨link.toArray⟩, .int .i64 mode, .int .i64 uid, .int .i64 gid, .string ⟨user.toArray⟩, .string ⟨group.toArray⟩, .int .i64 sec, .int .i64 nano, .slice a n c] 39)).heap.size = w.heap.size + 1 := by simp
  have HB0 : Hid (Below w.heap.size w (((w.alloc (.cells #[.int .i64 kind, .string ⟨name.toArray⟩, .string ⟨link.toArray⟩, .int .i64 mode, .int .i64 uid, .int .i64 gid, .string ⟨user.toArray⟩, .string ⟨group.toArray⟩, .int .i64 sec, .int .i64 nano, .slice a n c] 39)).alloc (.cells #[.int .i64 kind', .string ⟨name'.toArray⟩, .string ⟨link'.toArray⟩, .int .i64 mode', .int .i64 uid', .int .i64 gid', .string ⟨user'.toArray⟩, .string ⟨group'.toArray⟩, .int .i64 sec', .int .i64 nano', .slice b m d] 39)).drew)) := Lib.hid ((((Below.refl _ _).alloc (Nat.le_refl _) _).alloc (by simp) _).drew)
  have h0 := heap_alloc_new w (.cells #[.int .i64 kind, .string ⟨name.toArray⟩, .string ⟨link.toArray⟩, .int .i64 mode, .int .i64 uid, .int .i64 gid, .string ⟨user.toArray⟩, .string ⟨group.toArray⟩, .int .i64 sec, .int .i64 nano, .slice a n c] 39)
  have h1 := heap_alloc_new (w.alloc (.cells #[.int .i64 kind, .string ⟨name.toArray⟩, .string ⟨link.toArray⟩, .int .i64 mode, .int .i64 uid, .int .i64 gid, .string ⟨user.toArray⟩, .string ⟨group.toArray⟩, .int .i64 sec, .int .i64 nano, .slice a n c] 39)) (.cells #[.int .i64 kind', .string ⟨name'.toArray⟩, .string ⟨link'.toArray⟩, .int .i64 mode', .int .i64 uid', .int .i64 gid', .string ⟨user'.toArray⟩, .string ⟨group'.toArray⟩, .int .i64 sec', .int .i64 nano', .slice b m d] 39)
  rw [e1] at h1
  have r0 : (((w.alloc (.cells #[.int .i64 kind, .string ⟨name.toArray⟩, .string ⟨link.toArray⟩, .int .i64 mode, .int .i64 uid, .int .i64 gid, .string ⟨user.toArray⟩, .string ⟨group.toArray⟩, .int .i64 sec, .int .i64 nano, .slice a n c] 39)).alloc (.cells #[.int .i64 kind', .string ⟨name'.toArray⟩, .string ⟨link'.toArray⟩, .int .i64 mode', .int .i64 uid', .int .i64 gid', .string ⟨user'.toArray⟩, .string ⟨group'.toArray⟩, .int .i64 sec', .int .i64 nano', .slice b m d] 39)).drew).heap[w.heap.size]? = some (.cells #[.int .i64 kind, .string ⟨name.toArray⟩, .string ⟨link.toArray⟩, .int .i64 mode, .int .i64 uid, .int .i64 gid, .string ⟨user.toArray⟩, .string ⟨group.toArray⟩, .int .i64 sec, .int .i64 nano, .slice a n c] 39) := by
    show ((w.alloc (.cells #[.int .i64 kind, .string ⟨name.toArray⟩, .string ⟨link.toArray⟩, .int .i64 mode, .int .i64 uid, .int .i64 gid, .string ⟨user.toArray⟩, .string ⟨group.toArray⟩, .int .i64 sec, .int .i64 nano, .slice a n c] 39)).alloc (.cells #[.int .i64 kind', .string ⟨name'.toArray⟩, .string ⟨link'.toArray⟩, .int .i64 mode', .int .i64 uid', .int .i64 gid', .string ⟨user'.toArray⟩, .string ⟨group'.toArray⟩, .int .i64 sec', .int .i64 nano', .slice b m d] 39)).heap[w.heap.size]? = _
    rw [heap_alloc_old _ _ (by simp)]; exact h0
  have r1 : (((w.alloc (.cells #[.int .i64 kind, .string ⟨name.toArray⟩, .string ⟨link.toArray⟩, .int .i64 mode, .int .i64 uid, .int .i64 gid, .string ⟨user.toArray⟩, .string ⟨group.toArray⟩, .int .i64 sec, .int .i64 nano, .slice a n c] 39)).alloc (.cells #[.int .i64 kind', .string ⟨name'.toArray⟩, .string ⟨link'.toArray⟩, .int .i64 mode', .int .i64 uid', .int .i64 gid', .string ⟨user'.toArray⟩, .string ⟨group'.toArray⟩, .int .i64 sec', .int .i64 nano', .slice b m d] 39)).drew).heap[w.heap.size + 1]? = some (.cells #[.int .i64 kind', .string ⟨name'.toArray⟩, .string ⟨link'.toArray⟩, .int .i64 mode', .int .i64 uid', .int .i64 gid', .string ⟨user'.toArray⟩, .string ⟨group'.toArray⟩, .int .i64 sec', .int .i64 nano', .slice b m d] 39) := h1
  clear h0 h1 e1
  generalize ((w.alloc (.cells #[.int .i64 kind, .string ⟨name.toArray⟩, .string ⟨link.toArray⟩, .int .i64 mode, .int .i64 uid, .int .i64 gid, .string ⟨user.toArray⟩, .string ⟨group.toArray⟩, .int .i64 sec, .int .i64 nano, .slice a n c] 39)).alloc (.cells #[.int .i64 kind', .string ⟨name'.toArray⟩, .string ⟨link'.toArray⟩, .int .i64 mode', .int .i64 uid', .int .i64 gid', .string ⟨user'.toArray⟩, .string ⟨group'.toArray⟩, .int .i64 sec', .int .i64 nano', .slice b m d] 39)).drew = w2 at *
  have hL : w.heap.size < w2.heap.size := row_lt r0
  have s0 : (w2.setCell ⟨w.heap.size, 10, none⟩ (.slice none 0 0)).heap[w.heap.size]? = _ := setCell_row r0 (j := 10) (.slice none 0 0)
  have s1 : (w2.setCell ⟨w.heap.size, 10, none⟩ (.slice none 0 0)).heap[w.heap.size + 1]? = _ := row_grown r1 (setCell_grown w2 w.heap.size 10 _) (by simp)
  have u0 : ((w2.setCell ⟨w.heap.size, 10, none⟩ (.slice none 0 0)).setCell ⟨w.heap.size + 1, 10, none⟩ (.slice none 0 0)).heap[w.heap.size]? = _ := row_grown s0 (setCell_grown _ (w.heap.size + 1) 10 _) (by simp)
  have u1 : ((w2.setCell ⟨w.heap.size, 10, none⟩ (.slice none 0 0)).setCell ⟨w.heap.size + 1, 10, none⟩ (.slice none 0 0)).heap[w.heap.size + 1]? = _ := setCell_row s1 (j := 10) (.slice none 0 0)
  have k0 : w2.cell? ⟨w.heap.size, 10, none⟩ = some (.slice a n c) := by rw [row_cell r0]; rfl
  have k1 : w2.frozen? ⟨w.heap.size, 10, none⟩ = false := row_froz r0 10
  have k2 : (w2.setCell ⟨w.heap.size, 10, none⟩ (.slice none 0 0)).cell? ⟨w.heap.size + 1, 10, none⟩ = some (.slice b m d) := by rw [row_cell s1]; rfl
  have k3 : (w2.setCell ⟨w.heap.size, 10, none⟩ (.slice none 0 0)).frozen? ⟨w.heap.size + 1, 10, none⟩ = false := row_froz s1 10
  have g0 : ((w2.setCell ⟨w.heap.size, 10, none⟩ (.slice none 0 0)).setCell ⟨w.heap.size + 1, 10, none⟩ (.slice none 0 0)).cell? ⟨w.heap.size, 0, none⟩ = some (.int .i64 kind) := by rw [row_cell u0]; rfl
  have f0 : ((w2.setCell ⟨w.heap.size, 10, none⟩ (.slice none 0 0)).setCell ⟨w.heap.size + 1, 10, none⟩ (.slice none 0 0)).cell? ⟨w.heap.size + 1, 0, none⟩ = some (.int .i64 kind') := by rw [row_cell u1]; rfl
  have g1 : ((w2.setCell ⟨w.heap.size, 10, none⟩ (.slice none 0 0)).setCell ⟨w.heap.size + 1, 10, none⟩ (.slice none 0 0)).cell? ⟨w.heap.size, 1, none⟩ = some (.string ⟨name.toArray⟩) := by rw [row_cell u0]; rfl
  have f1 : ((w2.setCell ⟨w.heap.size, 10, none⟩ (.slice none 0 0)).setCell ⟨w.heap.size + 1, 10, none⟩ (.slice none 0 0)).cell? ⟨w.heap.size + 1, 1, none⟩ = some (.string ⟨name'.toArray⟩) := by rw [row_cell u1]; rfl
  have g2 : ((w2.setCell ⟨w.heap.size, 10, none⟩ (.slice none 0 0)).setCell ⟨w.heap.size + 1, 10, none⟩ (.slice none 0 0)).cell? ⟨w.heap.size, 2, none⟩ = some (.string ⟨link.toArray⟩) := by rw [row_cell u0]; rfl
  have f2 : ((w2.setCell ⟨w.heap.size, 10, none⟩ (.slice none 0 0)).setCell ⟨w.heap.size + 1, 10, none⟩ (.slice none 0 0)).cell? ⟨w.heap.size + 1, 2, none⟩ = some (.string ⟨link'.toArray⟩) := by rw [row_cell u1]; rfl
  have g3 : ((w2.setCell ⟨w.heap.size, 10, none⟩ (.slice none 0 0)).setCell ⟨w.heap.size + 1, 10, none⟩ (.slice none 0 0)).cell? ⟨w.heap.size, 3, none⟩ = some (.int .i64 mode) := by rw [row_cell u0]; rfl
  have f3 : ((w2.setCell ⟨w.heap.size, 10, none⟩ (.slice none 0 0)).setCell ⟨w.heap.size + 1, 10, none⟩ (.slice none 0 0)).cell? ⟨w.heap.size + 1, 3, none⟩ = some (.int .i64 mode') := by rw [row_cell u1]; rfl
  have g4 : ((w2.setCell ⟨w.heap.size, 10, none⟩ (.slice none 0 0)).setCell ⟨w.heap.size + 1, 10, none⟩ (.slice none 0 0)).cell? ⟨w.heap.size, 4, none⟩ = some (.int .i64 uid) := by rw [row_cell u0]; rfl
  have f4 : ((w2.setCell ⟨w.heap.size, 10, none⟩ (.slice none 0 0)).setCell ⟨w.heap.size + 1, 10, none⟩ (.slice none 0 0)).cell? ⟨w.heap.size + 1, 4, none⟩ = some (.int .i64 uid') := by rw [row_cell u1]; rfl
  have g5 : ((w2.setCell ⟨w.heap.size, 10, none⟩ (.slice none 0 0)).setCell ⟨w.heap.size + 1, 10, none⟩ (.slice none 0 0)).cell? ⟨w.heap.size, 5, none⟩ = some (.int .i64 gid) := by rw [row_cell u0]; rfl
  have f5 : ((w2.setCell ⟨w.heap.size, 10, none⟩ (.slice none 0 0)).setCell ⟨w.heap.size + 1, 10, none⟩ (.slice none 0 0)).cell? ⟨w.heap.size + 1, 5, none⟩ = some (.int .i64 gid') := by rw [row_cell u1]; rfl
  have g6 : ((w2.setCell ⟨w.heap.size, 10, none⟩ (.slice none 0 0)).setCell ⟨w.heap.size + 1, 10, none⟩ (.slice none 0 0)).cell? ⟨w.heap.size, 6, none⟩ = some (.string ⟨user.toArray⟩) := by rw [row_cell u0]; rfl
  have f6 : ((w2.setCell ⟨w.heap.size, 10, none⟩ (.slice none 0 0)).setCell ⟨w.heap.size + 1, 10, none⟩ (.slice none 0 0)).cell? ⟨w.heap.size + 1, 6, none⟩ = some (.string ⟨user'.toArray⟩) := by rw [row_cell u1]; rfl
  have g7 : ((w2.setCell ⟨w.heap.size, 10, none⟩ (.slice none 0 0)).setCell ⟨w.heap.size + 1, 10, none⟩ (.slice none 0 0)).cell? ⟨w.heap.size, 7, none⟩ = some (.string ⟨group.toArray⟩) := by rw [row_cell u0]; rfl
  have f7 : ((w2.setCell ⟨w.heap.size, 10, none⟩ (.slice none 0 0)).setCell ⟨w.heap.size + 1, 10, none⟩ (.slice none 0 0)).cell? ⟨w.heap.size + 1, 7, none⟩ = some (.string ⟨group'.toArray⟩) := by rw [row_cell u1]; rfl
  have g8 : ((w2.setCell ⟨w.heap.size, 10, none⟩ (.slice none 0 0)).setCell ⟨w.heap.size + 1, 10, none⟩ (.slice none 0 0)).cell? ⟨w.heap.size, 8, none⟩ = some (.int .i64 sec) := by rw [row_cell u0]; rfl
  have f8 : ((w2.setCell ⟨w.heap.size, 10, none⟩ (.slice none 0 0)).setCell ⟨w.heap.size + 1, 10, none⟩ (.slice none 0 0)).cell? ⟨w.heap.size + 1, 8, none⟩ = some (.int .i64 sec') := by rw [row_cell u1]; rfl
  have g9 : ((w2.setCell ⟨w.heap.size, 10, none⟩ (.slice none 0 0)).setCell ⟨w.heap.size + 1, 10, none⟩ (.slice none 0 0)).cell? ⟨w.heap.size, 9, none⟩ = some (.int .i64 nano) := by rw [row_cell u0]; rfl
  have f9 : ((w2.setCell ⟨w.heap.size, 10, none⟩ (.slice none 0 0)).setCell ⟨w.heap.size + 1, 10, none⟩ (.slice none 0 0)).cell? ⟨w.heap.size + 1, 9, none⟩ = some (.int .i64 nano') := by rw [row_cell u1]; rfl
  have HB : Hid (Below w.heap.size w ((w2.setCell ⟨w.heap.size, 10, none⟩ (.slice none 0 0)).setCell ⟨w.heap.size + 1, 10, none⟩ (.slice none 0 0))) := Lib.hid ((HB0.out.setCell (p := ⟨w.heap.size, 10, none⟩) (Nat.le_refl _) _).setCell (p := ⟨w.heap.size + 1, 10, none⟩) (by simp) _)
  clear r0 r1 s0 s1 u0 u1 HB0 hL
  cases b4 with
  | false => (go_wp2; go_ret; exact ⟨by rw [← HR.out]; simp, HB.out⟩)
  | true =>
  cases b1 with
  | false => (go_wp2; go_ret; exact ⟨by rw [← HR.out]; simp, HB.out⟩)
  | true =>
  cases b2 with
  | false => (go_wp2; go_ret; exact ⟨by rw [← HR.out]; simp, HB.out⟩)
  | true =>
  cases b5 with
  | false => (go_wp2; go_ret; exact ⟨by rw [← HR.out]; simp, HB.out⟩)
  | true =>
  cases b6 with
  | false => (go_wp2; go_ret; exact ⟨by rw [← HR.out]; simp, HB.out⟩)
  | true =>
  cases b7 with
  | false => (go_wp2; go_ret; exact ⟨by rw [← HR.out]; simp, HB.out⟩)
  | true =>
  cases b3 with
  | false => (go_wp2; go_ret; exact ⟨by rw [← HR.out]; simp, HB.out⟩)
  | true =>
  cases b8 with
  | false => (go_wp2; go_ret; exact ⟨by rw [← HR.out]; simp, HB.out⟩)
  | true =>
  cases bt with
  | false => (go_wp2; go_ret; exact ⟨by rw [← HR.out]; simp, HB.out⟩)
  | true =>
  go_wp2_with (go_at_call 50; (refine (HSB.out _ (by exact Below.bs HB.out HH.out) (by exact Below.bs HB.out HK.out)).mono ?_); rintro r w1 ⟨rfl, hb1⟩)
  go_ret
  exact ⟨by rw [← HR.out]; simp, HB.out.trans (hb1.mono (by have := HB.out.size; omega))⟩
end Gr
end Go.Proofs.Ytpdkdhcbibcifaa
