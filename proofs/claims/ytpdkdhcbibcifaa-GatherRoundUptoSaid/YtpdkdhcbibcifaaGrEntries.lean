/-
  GrEntries: gather.Each, gather.Entries.
-/
import Derived.Test.YtpdkdhcbibcifaaGrIn
namespace Go.Proofs.Ytpdkdhcbibcifaa
set_option linter.unusedVariables false
set_option linter.unusedSimpArgs false
open Go.ChangeShapes Go.WideShapes Go.ChangeAt Go.RowKit Go.Shelf
attribute [local go_sem] Oper.semAt_some
namespace Gr
set_option maxRecDepth 100000 in
theorem Each_any (a : Option Addr) (n c : Nat) (w : World) : Calls Try.prog 15 #[.slice a n c] w fun r w' => r = .returned (.func (.func 29) #[] #[.pointer (some ⟨w.heap.size, 0, none⟩)]) ∧ w' = w.alloc (.cells #[.slice a n c] 22) := by
  go_enter Try.func15, Try.ntmps15
  go_wp2
  go_ret
  exact ⟨rfl, rfl⟩
/-- what Entries leaves -/
def EntriesRes (w : World) (ls : List Ln) (r : Ending) (w' : World) : Prop :=
  ∃ (a : Option Addr) (n c : Nat) (code : Int) (S : List EnS), r = .returned (.tuple #[.slice a n c, .int .i64 code]) ∧ Below w.heap.size w w' ∧ NewEn w' w.heap.size a n c S ∧
    (code = 0 ↔ Gath ls) ∧ (code = 160 ↔ ¬ Planted false ls) ∧ (code = 0 ∨ code = 160 ∨ code = 93) ∧ (code = 0 → S.map (·.1) = ls.map entOf) ∧ (code ≠ 0 → S = [])
set_option maxRecDepth 100000 in
set_option maxHeartbeats 4000000 in
theorem Entries_any (a : Option Addr) (n c : Nat) (T : List LnS) (w : World) (hL : Lns w a n c T) (hN : LnNum T) :
    Calls Try.prog 11 #[.slice a n c] w (EntriesRes w (lOf T)) := by
  have HL := Lib.hid hL; have HN := Lib.hid hN
  have hl := hL.len
  have hn2 := hN.num
  rw [hl] at hn2
  have HLE := Lib.hid hl
  have HCK := Lib.hid (check_any a n c T w hL hN)
  clear hL hN hl
  refine (callsIn_wide (n := 8)).1 ?_
  refine callsIn_of_wp_marks Try.func11 rfl trivial ?_ rfl
  simp only [Try.ntmps11, List.size_toArray, List.length_cons, List.length_nil, Nat.reduceAdd, Nat.reduceSub, Array.replicate_succ, Array.replicate_zero, List.push_toArray, List.append_toArray, List.nil_append, List.cons_append]
  by_cases hG : Gath (lOf T)
  · have HG := Lib.hid hG
    clear hG
    gi_wp2_with (first
      | (refine ⟨trivial, ?_⟩; gi_at_call 24; refine (callsIn_wide.2 HCK.out).mono ?_; rintro r w1 ⟨code, rfl, hb1, hc0, hc1, _⟩; obtain rfl : code = 0 := hc0.2 HG.out; have HB1 := Lib.hid hb1; clear hb1 hc0 hc1)
      | (refine ⟨trivial, ?_⟩; gi_at_call 15; refine (callsIn_wide.2 (Each_any a n c _)).mono ?_; rintro r w2 ⟨rfl, rfl⟩))
    have e1 : (w1.alloc (.cells #[.slice none 0 0] 25)).heap.size = w1.heap.size + 1 := by simp
    have hO := heap_alloc_new w1 (.cells #[.slice none 0 0] 25)
    have hLB := heap_alloc_new (w1.alloc (.cells #[.slice none 0 0] 25)) (.cells #[.slice a n c] 22)
    rw [e1] at hLB
    have hO2 := row_below hO ((Below.refl (w1.alloc (.cells #[.slice none 0 0] 25)).heap.size _).alloc (Nat.le_refl _) (.cells #[.slice a n c] 22))
    have hb2 : Below w.heap.size w ((w1.alloc (.cells #[.slice none 0 0] 25)).alloc (.cells #[.slice a n c] 22)) := (HB1.out.alloc HB1.out.size _).alloc (by have := HB1.out.size; simp; omega) _
    have hOB : w.heap.size ≤ w1.heap.size := HB1.out.size
    generalize (w1.alloc (.cells #[.slice none 0 0] 25)).alloc (.cells #[.slice a n c] 22) = W2 at *
    generalize w1.heap.size = OB at *
    have hOW : OB < W2.heap.size := row_lt hO2
    have hcl : W2.cell? ⟨OB + 1, 0, none⟩ = some (.slice a n c) := by rw [row_cell hLB]; rfl
    refine wpIn_rangeE (p := 14) (by decide) (gf := 29) (lb := #[.pointer (some ⟨OB + 1, 0, none⟩)]) rfl (enters_of Try.func29 (by kernel_rfl) rfl)
      (each1_stops 7 (by decide) (OB + 1) a n c T w W2 hcl HL.out HN.out hb2) (by omega)
      (fun pre W => ∃ (a' : Option Addr) (c' : Nat), W.heap[OB]? = some (.cells #[.slice a' pre.length c'] 25) ∧ NewEn W w.heap.size a' pre.length c' pre ∧ Below w.heap.size w W)
      (fun _ _ _ => False)
      (fun x a₁ U => ∃ bx, U.heap[bx]? = some (.cells (enV x) 39) ∧ ∃ v14, a₁ = { tmps := #[.slice a n c, undef, .slice none 0 0, .int .i64 0, .int .i64 0, .pointer (some ⟨OB, 0, none⟩), .pointer (some ⟨bx, 0, none⟩), .slice a n c, .int .i64 0, .int .i64 0, .bool false, undef, .slice a n c, .func (.func 29) #[] #[.pointer (some ⟨OB + 1, 0, none⟩)], v14, undef, undef, undef, undef, undef], defers := [] })
      ?hI ?hI2 (fun _ _ _ _ _ h _ _ => h) ?hA ⟨none, 0, hO2, NewEn.nil _ _, hb2⟩ ?assign ?body ?done ?stop
    case hI =>
      rintro s U V ⟨a', c', h1, h2, h3⟩ hb
      exact ⟨a', c', row_below h1 hb, h2.below hb, h3.trans (hb.mono h3.size)⟩
    case hI2 =>
      rintro s U V row ⟨a', c', h1, h2, h3⟩ hg hr
      refine ⟨a', c', row_grown h1 hg (fun e => ?_), h2.grown hg (fun r e cs => ?_), h3.grown hg h3.size (fun k e => by have := (hr k e).1; omega)⟩
      · obtain ⟨_, o, ho, hc⟩ := hr OB e.symm
        rw [h1] at ho; cases ho; cases hc
      · obtain ⟨_, o, ho, hc⟩ := hr r e
        constructor <;> (intro h; rw [h] at ho; cases ho; cases hc)
    case hA =>
      rintro x a₁ U l o o' hl ⟨bx, h1, h2⟩
      exact ⟨bx, by rw [World.putObj_heap_other (fun e => by first | (rw [← e, hl] at h1; cases h1) | (rw [e, hl] at h1; cases h1))]; exact h1, h2⟩
    case assign =>
      rintro l pre x W ⟨a', c', h1, h2, h3⟩
      simp only [List.setIfInBounds_toArray, List.set_cons_zero, List.set_cons_succ]
      gi_wp2_with (refine wpListIn_store_row rfl _ _ _ rfl W.heap.size rfl (enV x) rfl enZ 39 (heap_alloc_new W _) rfl (sizeEn _) (by simpa [enCells] using en_one [x]) ?_)
      refine ⟨?_, W.heap.size, ?_, _, rfl⟩
      · rw [setRow_alloc]; exact (Below.refl _ _).alloc (Nat.le_refl _) _
      · rw [setRow_alloc]; exact heap_alloc_new W _
    case body =>
      rintro l pre x a₁ W0 W1 hlen ⟨a0, c0, g1, g2, g3⟩ ⟨a', c', h1, h2, h3⟩ hown hsz ⟨bx, hbx, v14, rfl⟩
      have hc1 : W1.cell? ⟨OB, 0, none⟩ = some (.slice a' pre.length c') := by rw [row_cell h1]; rfl
      have HOW := Lib.hid (own_keep (w' := W1.alloc (.cells (enV x) 39)) h2.own (fun j _ hj => by rw [heap_alloc_old _ _ hj]))
      have HBS : Hid (w.heap.size ≤ (W1.alloc (.cells (enV x) 39)).heap.size) := Lib.hid (by have := h3.size; simp; omega)
      have HLN : Hid ((pre.length + 1) * 136 ≤ 140737488355328) := Lib.hid (by omega)
      have HST : Hid (∀ a7 c7 w7, w7.ownsRow w.heap.size 39 11 (.slice a7 (pre.length + 1) c7) (pre.length + 1) (pre.flatMap enCells ++ [x].flatMap enCells) → (W1.alloc (.cells (enV x) 39)).grownBy w7 (Value.slice a' pre.length c').ownBlock →
          w7.cell? ⟨OB, 0, none⟩ = some (.slice a' pre.length c') ∧ w7.frozen? ⟨OB, 0, none⟩ = false ∧ Hid (Below w.heap.size W1 w7) ∧ Hid (KeepsOthers W1 (w7.setCell ⟨OB, 0, none⟩ (.slice a7 (pre.length + 1) c7))) ∧
          Hid (NewEn (w7.setCell ⟨OB, 0, none⟩ (.slice a7 (pre.length + 1) c7)) w.heap.size a7 (pre ++ [x]).length c7 (pre ++ [x]) ∧ (w7.setCell ⟨OB, 0, none⟩ (.slice a7 (pre.length + 1) c7)).heap[OB]? = some (.cells #[.slice a7 (pre ++ [x]).length c7] 25))) := Lib.hid (fun a7 c7 w7 ho7 hg7 => by
        have hA : Below W1.heap.size W1 (W1.alloc (.cells (enV x) 39)) := (Below.refl _ _).alloc (Nat.le_refl _) _
        have hr1 := row_below h1 hA
        have h2A := h2.below hA
        have hr7 := row_grown hr1 hg7 (fun e => own_ne_row h2A.own hr1 (by decide) e.symm)
        refine ⟨by rw [row_cell hr7]; rfl, row_froz hr7 0, Lib.hid ?_, Lib.hid ?_, Lib.hid ?_⟩
        · exact (((Below.refl w.heap.size W1).alloc h3.size _).grown hg7 (by have := h3.size; simp; omega) (fun k hk => (h2A.own.lt k hk).1))
        · refine ((KeepsOthers.alloc W1 _).trans (KeepsOthers.of_grownBy hg7 (fun j o hj ho => ?_))).trans (KeepsOthers.setCell _ _ _)
          obtain ⟨cur, hc⟩ := own_row h2A.own hj
          rw [hc] at ho; cases ho; rfl
        · exact NewEn.snoc g2 h2 hown g3.size h1 (by decide) (by decide) hg7 ho7)
      have HBX := Lib.hid hbx; have H3 := Lib.hid h3
      clear hbx h1 h2 h3 g1 g2 g3 hown hsz hlen
      gi_wp2_with (first
        | (refine wpListIn_load_rowA rfl _ _ rfl bx rfl (enV x) 39 _ HBX.out Try.underlying39 rfl (sizeEn _) ?_)
        | (refine wpListIn_slice_one rfl 25 _ rfl Try.underlying25 (enV x) (infoEn2 x) rfl (by show 0 < 11; decide) (by show 11 ≤ _; decide) rfl ?_)
        | (gi_at_builtin; refine wpListIn_app rfl _ _ 25 rfl w.heap.size 39 _ 11 136 Try.underlying25 infoEntry rfl (by decide) (by decide) rfl HOW.out rfl (en_new W1 x) (en_one [x]) HLN.out HBS.out ?_; intro a7 c7 w7 ho7 hg7; obtain ⟨k1, k2, HB7, HK7, HN7⟩ := HST.out a7 c7 w7 ho7 hg7; clear ho7 hg7))
      exact ⟨HK7.out, HB7.out.setCell (p := ⟨OB, 0, none⟩) hOB _, a7, c7, HN7.out.2, HN7.out.1, (H3.out.trans HB7.out).setCell (p := ⟨OB, 0, none⟩) hOB _⟩
    case done =>
      rintro D xs W hD hS ⟨a', c', h1, h2, h3⟩ hK
      have hc1 : W.cell? ⟨OB, 0, none⟩ = some (.slice a' xs.length c') := by rw [row_cell h1]; rfl
      gi_wp2
      refine ⟨by simp, .inl ⟨_, _, rfl, run_takeDeferred hK, ?_⟩⟩
      refine ⟨_, results_tmp2 rfl _ _ _, a', xs.length, c', 0, xs, rfl, ?_, ?_, ?_, ?_, by simp, fun _ => hS.1 HG.out, fun h => absurd rfl h⟩
      · exact below_putObj h3 _ (by omega) h3.size
      · exact h2.grown (grownBy_putObj' W D _) (fun r e cs => by cases e; rw [hK]; constructor <;> (intro h; cases h))
      · simp [HG.out]
      · simp [HG.out.1]
    case stop =>
      rintro D c pre W _ _ h _
      exact h.elim
  · have HG := Lib.hid hG
    clear hG
    gi_wp2_with (refine ⟨trivial, ?_⟩; gi_at_call 24; refine (callsIn_wide.2 HCK.out).mono ?_; rintro r w1 ⟨code, rfl, hb1, hc0, hc1, hc2⟩; have hcb : (code != 0) = true := bne_t (fun e => HG.out (hc0.1 e)); have HB1 := Lib.hid hb1; have HC0 := Lib.hid hc0; have HC1 := Lib.hid hc1; have HC2 := Lib.hid hc2; clear hb1 hc0 hc1 hc2)
    refine ⟨_, results_tmp2 rfl _ _ _, none, 0, 0, code, [], rfl, HB1.out, NewEn.nil _ _, HC0.out, HC1.out, HC2.out, fun h => ?_, fun _ => rfl⟩
    exact absurd (HC0.out.1 h) HG.out
end Gr
end Go.Proofs.Ytpdkdhcbibcifaa
