/-
  GrAlive: the law's first call.
-/
import Derived.Test.YtpdkdhcbibcifaaGrLinesW
namespace Go.Proofs.Ytpdkdhcbibcifaa
set_option linter.unusedVariables false
set_option linter.unusedSimpArgs false
open Go.ChangeShapes Go.WideShapes Go.ChangeAt Go.RowKit
namespace Gr
def twoS : List LnS := twoLines.map fun l => (l, (none, 0, 0))
theorem twoS_lof : lOf twoS = twoLines := rfl
theorem twoS_num : LnNum twoS := ⟨by decide, by simp [twoS, twoLines], by simp [twoS, twoLines]⟩
def twoV : Array Value := #[.string ⟨#[46]⟩, .int .i64 2, .int .i64 0, .int .i64 0, .int .i64 0, .int .i64 0, .int .i64 0, .slice none 0 0, .string ⟨#[]⟩, .string ⟨#[]⟩, .string ⟨#[100]⟩, .int .i64 2, .int .i64 0, .int .i64 0, .int .i64 0, .int .i64 0, .int .i64 0, .slice none 0 0, .string ⟨#[]⟩, .string ⟨#[]⟩]
theorem two_lns (w : World) : Lns (w.alloc (.cells twoV 51)) (some ⟨w.heap.size, 0, none⟩) 2 2 twoS := by
  refine ⟨?_, ?_⟩
  · have := isSl_new w 51 10 2 twoV rfl (by decide)
    exact this
  · intro x hx
    have hd : x.2 = (none, 0, 0) ∧ x.1.data = [] := by
      simp only [twoS, twoLines, List.map_cons, List.map_nil, List.mem_cons, List.not_mem_nil, or_false] at hx
      rcases hx with rfl | rfl <;> exact ⟨rfl, rfl⟩
    unfold Dat
    rw [hd.1, hd.2]
    exact ⟨rfl, Nat.le_refl _, by decide, fun j v hj => by simp at hj, fun _ => ⟨rfl, rfl⟩⟩
theorem two_mem {w : World} {B : Nat} {a : Option Addr} {n c : Nat} {S : List EnS} (h : NewEn w B a n c S) (hs : S.map (·.1) = twoLines.map entOf) :
    n = 2 ∧ 2 ≤ c ∧ ∃ g, a = some ⟨g, 0, none⟩ ∧ w.cell? ⟨g, 1, none⟩ = some (.string ⟨#[46, 47]⟩) ∧ w.cell? ⟨g, 12, none⟩ = some (.string ⟨#[100, 47]⟩) ∧ w.cell? ⟨g, 11, none⟩ = some (.int .i64 2) := by
  have hl := h.len
  have hl2 : S.length = 2 := by have := congrArg List.length hs; simpa [twoLines] using this
  obtain rfl : n = 2 := by omega
  have hcap := h.ens.cap
  refine ⟨rfl, hcap, ?_⟩
  match S, hl2, hs with
  | [x, y], _, hs =>
    simp only [List.map_cons, List.map_nil, twoLines, List.cons.injEq, and_true] at hs
    obtain ⟨hx, hy⟩ := hs
    obtain ⟨b, off, ha, h0⟩ := h.ens.at 0 x rfl
    obtain ⟨b', off', ha', h1⟩ := h.ens.at 1 y rfl
    obtain rfl : off = 0 := by
      rcases h.own.2 with ⟨h, _⟩ | ⟨g', cap, cur, h, _⟩
      · rw [ha] at h; cases h
      · rw [ha] at h; cases h; rfl
    rw [ha] at ha'
    cases ha'
    refine ⟨b, ha, ?_, ?_, ?_⟩
    · have := range_cell h0 1 (v := .string ⟨x.1.name.toArray⟩) rfl
      rw [hx] at this
      exact this
    · have := range_cell h1 1 (v := .string ⟨y.1.name.toArray⟩) rfl
      rw [hy] at this
      exact this
    · have := range_cell h1 0 (v := .int .i64 y.1.kind) rfl
      rw [hy] at this
      exact this
set_option maxRecDepth 100000 in
set_option maxHeartbeats 4000000 in
theorem alive_any (w : World) : Calls Try.prog 9 #[] w fun r w' => r = .returned (.bool true) ∧ Below w.heap.size w w' := by
  have HEN : Hid (Calls Try.prog 11 #[.slice (some ⟨w.heap.size, 0, none⟩) 2 2] (w.alloc (.cells twoV 51)) (EntriesRes (w.alloc (.cells twoV 51)) (lOf twoS))) := Lib.hid (Entries_any _ _ _ twoS _ (two_lns w) twoS_num)
  have HB : Hid (Below w.heap.size w (w.alloc (.cells twoV 51))) := Lib.hid ((Below.refl _ _).alloc (Nat.le_refl _) _)
  simp only [twoV] at HEN HB
  go_enter Try.func9, Try.ntmps9
  go_wp2_with (go_at_call 11; (refine (HEN.out).mono ?_); rintro r w1 ⟨a1, n1, c1, code, S, rfl, hb1, hn1, hc1, _, _, hc4, _⟩; obtain rfl : code = 0 := hc1.2 two_gath; obtain ⟨rfl, hcap, g, rfl, k1, k2, k3⟩ := two_mem hn1 (hc4 rfl); have HB1 := Lib.hid (Below.seq HB.out hb1); clear hb1 hn1 hc1 hc4)
  go_ret
  exact ⟨rfl, HB1.out⟩
end Gr
end Go.Proofs.Ytpdkdhcbibcifaa
