/-
  GrTreeW: graph.Tree.
-/
import Derived.Test.YtpdkdhcbibcifaaGrAdd
namespace Go.Proofs.Ytpdkdhcbibcifaa
set_option linter.unusedVariables false
set_option linter.unusedSimpArgs false
open Go.ChangeShapes Go.WideShapes Go.ChangeAt Go.RowKit
open Go.Maps (Keyed)
namespace Gr
/-- what Tree leaves -/
def TreeRes (g : List Nd) (w : World) (root : Int) (r : Ending) (w' : World) : Prop :=
  ∃ (a : Option Addr) (n c : Nat) (code : Int) (SL : List LnS), r = .returned (.tuple #[.slice a n c, .int .i64 code]) ∧ Below w.heap.size w w' ∧
    (code = 0 → TreeOk g root (SL.map (·.1)) ∧ w'.ownsRow w.heap.size 51 10 (.slice a n c) n (SL.flatMap lnCells) ∧ (∀ x ∈ SL, Own w' w.heap.size x.2 x.1.data) ∧ n ≤ 4194304) ∧ (code ≠ 0 → ∀ ls, ¬ TreeOk g root ls)
theorem TreeRes.no {g : List Nd} {w w' : World} {root : Int} (code : Int) (hc : code ≠ 0) (h : ∀ ls, ¬ TreeOk g root ls) (hb : Below w.heap.size w w') : TreeRes g w root (.returned (.tuple #[.slice none 0 0, .int .i64 code])) w' :=
  ⟨none, 0, 0, code, [], rfl, hb, fun e => absurd e hc, fun _ => h⟩
set_option maxRecDepth 100000 in
set_option maxHeartbeats 4000000 in
theorem Tree_any (a : Option Addr) (n c b off : Nat) (S : List NdS) (root : Int) (w : World) (hS : Nds w a n c S) (ha : S ≠ [] → a = some ⟨b, off, none⟩) (hN : NdNum S) (hr : inI root) (hd : ∀ x ∈ S, x.2.1.2.1 ≤ 140737488355328) :
    Calls Try.prog 16 #[.agg #[.slice a n c], .int .i64 root] w (TreeRes (gOf S) w root) := by
  have HS := Lib.hid hS; have HA := Lib.hid ha; have HN := Lib.hid hN; have HD := Lib.hid hd
  have hb1 : Below w.heap.size w (w.alloc (.cells #[.slice a n c] 43)) := (Below.refl _ _).alloc (Nat.le_refl _) _
  have HB1 := Lib.hid hb1
  have HBG := Lib.hid (begin_any a n c b off S root (w.alloc (.cells #[.slice a n c] 43)) (hS.below hb1) ha hN hr)
  have hmm := @run_makeMap Try.prog
  clear hS ha hN hd hb1
  by_cases hB : Begin (gOf S) root
  · have HBE := Lib.hid hB
    clear hB
    go_enter Try.func16, Try.ntmps16
    go_upto_region 2 with (go_at_call 31; (refine (HBG.out).mono ?_); rintro r w2 ⟨bm, np, code, rfl, hb2, hcode, hok⟩; have HCO := Lib.hid (hcode.2 HBE.out); have HOK := Lib.hid hok; have HB2 := Lib.hid hb2; clear hb2 hcode hok)
    obtain rfl := HCO.out
    obtain ⟨bb, v, rfl, hbb, hm2, hpt, rfl⟩ := HOK.out rfl
    obtain ⟨hchk, t, hnode, hkind⟩ := HBE.out
    obtain ⟨kk, x, hkk, rfl, hidt, hpt2⟩ := ptr_some (b := b) (off := off) hnode
    rw [hpt] at hpt2
    cases hpt2
    have hB2 : Below w.heap.size w w2 := Below.seq HB1.out HB2.out
    obtain ⟨p, hp⟩ := hchk.ok
    have hG : GCtx w2 bb a n c b off S := ⟨HS.out.below hB2, HA.out, HN.out, hm2, HD.out, fun y hy e he => by
      have h1 := hp.ents y.1 (List.mem_map.2 ⟨y, hy, rfl⟩)
      have h2 := good_parts (h1.good e he)
      exact ⟨h2.2.2.2.1, h2.1, Option.isSome_iff_exists.1 (h1.there e he)⟩⟩
    have hmB : bb < w2.heap.size := hm2.lt
    have HG := Lib.hid hG
    have HTO : Hid (∀ st, Wk (gOf S) [(root, [46])] st0 (some st) → TreeOk (gOf S) root st.out) := Lib.hid (fun st h => ⟨hchk, ⟨x.1, hnode, hkind⟩, st, h, rfl⟩)
    have HKK := Lib.hid hkk; have HNO := Lib.hid hnode; have HBW := Lib.hid hB2
    have HNT : Hid (Wk (gOf S) [(root, [46])] st0 none → ∀ ls, ¬ TreeOk (gOf S) root ls) := Lib.hid (fun h ls ⟨_, _, st, hw, _⟩ => by have := hw.det h; cases this)
    clear HCO HOK HBE HBG hbb hm2 hpt hnode hkind hkk hidt hchk hp hG hB2 HB1 HB2 p
    go_upto_region 5 with fail
    have hlst : Lst ((w2.alloc (.map #[] 0)).alloc (.cells #[.map (some bb), .slice none 0 0, .map (some w2.heap.size), .int .i64 0] 71)) w2.heap.size (w2.heap.size + 1) bb w2.heap.size none 0 0 [] st0 := by
      have e1 : (w2.alloc (Obj.map #[] 0)).heap.size = w2.heap.size + 1 := by simp
      refine ⟨?_, World.ownsRow_nil _ _ _ _, rfl, by simp, ?_, by omega, Nat.le_refl _, Nat.zero_le _, Nat.zero_le _, by simp [st0]⟩
      · have := heap_alloc_new (w2.alloc (Obj.map #[] 0)) (.cells #[.map (some bb), .slice none 0 0, .map (some w2.heap.size), .int .i64 0] 71)
        rw [e1] at this
        exact this
      · have h1 := Mp.made mkI w2 Try.prog 3
        have h2 := h1.kept (World.grownBy_alloc _ (.cells #[.map (some bb), .slice none 0 0, .map (some w2.heap.size), .int .i64 0] 71) none) (by simp)
        exact h2.congr (fun x => by simp [whF, st0])
    have hb4 : Below w2.heap.size w2 ((w2.alloc (.map #[] 0)).alloc (.cells #[.map (some bb), .slice none 0 0, .map (some w2.heap.size), .int .i64 0] 71)) := ((Below.refl _ _).alloc (Nat.le_refl _) _).alloc (by simp) _
    have HADD := Lib.hid (add_any w2 (w2.heap.size + 1) bb w2.heap.size a n c b off S HG 4194305 st0 root [46] kk x none 0 0 [] _ (by decide) HKK.out HNO.out (by decide) (by decide) (by decide) hb4 hlst)
    have HB4 := Lib.hid (HBW.out.trans (hb4.mono HBW.out.size))
    clear hlst hmm
    generalize (w2.alloc (.map #[] 0)).alloc (.cells #[.map (some bb), .slice none 0 0, .map (some w2.heap.size), .int .i64 0] 71) = w4 at *
    have HW2 : Hid (w.heap.size ≤ w2.heap.size) := Lib.hid HBW.out.size
    clear hb4 HG HKK HNO HS HA HN HD HBW hmB
    go_upto_if 25 with (go_at_call 32; (refine (HADD.out).mono ?_); rintro r w5 ⟨ok, rfl, hb5, hy, hn⟩; have HY := Lib.hid hy; have HNN := Lib.hid hn; have HB5 := Lib.hid (HB4.out.trans (hb5.mono HW2.out)); clear hy hn hb5 HADD)
    cases ok with
    | true =>
      obtain ⟨a5, n5, c5, SL, st5, hL, hy1, hy2, hW⟩ := HY.out rfl
      have hc1 : w5.cell? ⟨w2.heap.size + 1, 1, none⟩ = some (.slice a5 n5 c5) := by rw [row_cell hL.row]; rfl
      have HL := Lib.hid hL
      have HTR : Hid (TreeOk (gOf S) root (SL.map (·.1))) := Lib.hid (by rw [hL.map]; exact HTO.out _ (hW [] _ (Wk.done _)))
      have HNB : Hid (n5 ≤ 4194304) := Lib.hid (Nat.le_trans hL.num hy2)
      clear hL hW HTO HNT HY HNN
      go_wp2_with fail
      go_ret2
      exact ⟨a5, n5, c5, 0, SL, rfl, HB5.out, fun _ => ⟨HTR.out, own_base HL.out.own HW2.out, fun y hy => own_base (HL.out.dat y hy) HW2.out, HNB.out⟩, fun h => absurd rfl h⟩
    | false =>
      have HNO : Hid (∀ ls, ¬ TreeOk (gOf S) root ls) := Lib.hid (HNT.out (HNN.out rfl []))
      clear HTO HNT HY HNN
      go_wp2_with fail
      go_ret2
      exact TreeRes.no _ (by decide) HNO.out HB5.out
  · have HNB : Hid (∀ ls, ¬ TreeOk (gOf S) root ls) := Lib.hid (fun ls h => hB ⟨h.1, h.2.1⟩)
    have HBE := Lib.hid hB
    clear hB
    go_enter Try.func16, Try.ntmps16
    go_upto_region 2 with (go_at_call 31; (refine (HBG.out).mono ?_); rintro r w2 ⟨bm, np, code, rfl, hb2, hcode, _⟩; have HCO : Hid (code ≠ 0) := Lib.hid (fun e => HBE.out (hcode.1 e)); have HB2 := Lib.hid hb2; clear hb2 hcode)
    have hne : (code != 0) = true := bne_t HCO.out
    go_wp2_with fail
    go_ret2
    exact TreeRes.no _ HCO.out HNB.out (Below.seq HB1.out HB2.out)
end Gr
end Go.Proofs.Ytpdkdhcbibcifaa
