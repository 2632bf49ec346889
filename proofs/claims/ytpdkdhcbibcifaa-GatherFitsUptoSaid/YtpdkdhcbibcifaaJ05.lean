/-
  J05: GrTreeW, GrPs, joined.
-/
import Derived.Test.YtpdkdhcbibcifaaGrAdd
import Derived.Test.YtpdkdhcbibcifaaJ03
namespace Go.Proofs.Ytpdkdhcbibcifaa
set_option linter.unusedVariables false
set_option linter.unusedSimpArgs false
open Go.ChangeShapes Go.WideShapes Go.ChangeAt Go.RowKit
open Go.Maps (Keyed)
namespace Gr
/-- what Tree leaves -/
def TreeRes (g : List Nd) (w : World) (root : Int) (r : Ending) (w' : World) : Prop :=
  ∃ (a : Option Addr) (n c : Nat) (code : Int) (SL : List LnS), r = .returned (.tuple #[.slice a n c, .int .i64 code]) ∧ Below w.heap.size w w' ∧
    (code = 0 → TreeOk g root (SL.map (·.1)) ∧ w'.ownsRow w.heap.size 51 10 (.slice a n c) n (SL.flatMap lnCells) ∧ (∀ x ∈ SL, Own w' w.heap.size x.2 x.1.data) ∧ n ≤ 4194304) ∧ (code ≠ 0 → ∀ ls, ¬ TreeOk g root ls)
theorem TreeRes.no {g : List Nd} {w w' : World} {root : Int} (code : Int) (hc : code ≠ 0) (h : ∀ ls, ¬ TreeOk g root ls) (hb : Below w.heap.size w w') : TreeRes g w root (.returned (.tuple #[.slice none 0 0, .int .i64 code])) w' :=
  ⟨none, 0, 0, code, [], rfl, hb, fun e => absurd e hc, fun _ => h⟩
set_option maxRecDepth 100000 in
set_option maxHeartbeats 4000000 in
theorem Tree_any (a : Option Addr) (n c b off : Nat) (S : List NdS) (root : Int) (w : World) (hS : Nds w a n c S) (ha : S ≠ [] → a = some ⟨b, off, none⟩) (hN : NdNum S) (hr : inI root) (hd : ∀ x ∈ S, x.2.1.2.1 ≤ 140737488355328) :
    Calls Try.prog 16 #[.agg #[.slice a n c], .int .i64 root] w (TreeRes (gOf S) w root) := by
  have HS := Lib.hid hS; have HA := Lib.hid ha; have HN := Lib.hid hN; have HD := Lib.hid hd
  have hb1 : Below w.heap.size w (w.alloc (.cells #[.slice a n c] 43)) := (Below.refl _ _).alloc (Nat.le_refl _) _
  have HB1 := Lib.hid hb1
  have HBG := Lib.hid (begin_any a n c b off S root (w.alloc (.cells #[.slice a n c] 43)) (hS.below hb1) ha hN hr)
  have hmm := @run_makeMap Try.prog
  clear hS ha hN hd hb1
  by_cases hB : Begin (gOf S) root
  · have HBE := Lib.hid hB
    clear hB
    go_enter Try.func16, Try.ntmps16
    go_upto_region 2 with (go_at_call 31; (refine (HBG.out).mono ?_); rintro r w2 ⟨bm, np, code, rfl, hb2, hcode, hok⟩; have HCO := Lib.hid (hcode.2 HBE.out); have HOK := Lib.hid hok; have HB2 := Lib.hid hb2; clear hb2 hcode hok)
    obtain rfl := HCO.out
    obtain ⟨bb, v, rfl, hbb, hm2, hpt, rfl⟩ := HOK.out rfl
    obtain ⟨hchk, t, hnode, hkind⟩ := HBE.out
    obtain ⟨kk, x, hkk, rfl, hidt, hpt2⟩ := ptr_some (b := b) (off := off) hnode
    rw [hpt] at hpt2
    cases hpt2
    have hB2 : Below w.heap.size w w2 := Below.seq HB1.out HB2.out
    obtain ⟨p, hp⟩ := hchk.ok
    have hG : GCtx w2 bb a n c b off S := ⟨HS.out.below hB2, HA.out, HN.out, hm2, HD.out, fun y hy e he => by
      have h1 := hp.ents y.1 (List.mem_map.2 ⟨y, hy, rfl⟩)
      have h2 := good_parts (h1.good e he)
      exact ⟨h2.2.2.2.1, h2.1, Option.isSome_iff_exists.1 (h1.there e he)⟩⟩
    have hmB : bb < w2.heap.size := hm2.lt
    have HG := Lib.hid hG
    have HTO : Hid (∀ st, Wk (gOf S) [(root, [46])] st0 (some st) → TreeOk (gOf S) root st.out) := Lib.hid (fun st h => ⟨hchk, ⟨x.1, hnode, hkind⟩, st, h, rfl⟩)
    have HKK := Lib.hid hkk; have HNO := Lib.hid hnode; have HBW := Lib.hid hB2
    have HNT : Hid (Wk (gOf S) [(root, [46])] st0 none → ∀ ls, ¬ TreeOk (gOf S) root ls) := Lib.hid (fun h ls ⟨_, _, st, hw, _⟩ => by have := hw.det h; cases this)
    clear HCO HOK HBE HBG hbb hm2 hpt hnode hkind hkk hidt hchk hp hG hB2 HB1 HB2 p
    go_upto_region 5 with fail
    have hlst : Lst ((w2.alloc (.map #[] 0)).alloc (.cells #[.map (some bb), .slice none 0 0, .map (some w2.heap.size), .int .i64 0] 71)) w2.heap.size (w2.heap.size + 1) bb w2.heap.size none 0 0 [] st0 := by
      have e1 : (w2.alloc (Obj.map #[] 0)).heap.size = w2.heap.size + 1 := by simp
      refine ⟨?_, World.ownsRow_nil _ _ _ _, rfl, by simp, ?_, by omega, Nat.le_refl _, Nat.zero_le _, Nat.zero_le _, by simp [st0]⟩
      · have := heap_alloc_new (w2.alloc (Obj.map #[] 0)) (.cells #[.map (some bb), .slice none 0 0, .map (some w2.heap.size), .int .i64 0] 71)
        rw [e1] at this
        exact this
      · have h1 := Mp.made mkI w2 Try.prog 3
        have h2 := h1.kept (World.grownBy_alloc _ (.cells #[.map (some bb), .slice none 0 0, .map (some w2.heap.size), .int .i64 0] 71) none) (by simp)
        exact h2.congr (fun x => by simp [whF, st0])
    have hb4 : Below w2.heap.size w2 ((w2.alloc (.map #[] 0)).alloc (.cells #[.map (some bb), .slice none 0 0, .map (some w2.heap.size), .int .i64 0] 71)) := ((Below.refl _ _).alloc (Nat.le_refl _) _).alloc (by simp) _
    have HADD := Lib.hid (add_any w2 (w2.heap.size + 1) bb w2.heap.size a n c b off S HG 4194305 st0 root [46] kk x none 0 0 [] _ (by decide) HKK.out HNO.out (by decide) (by decide) (by decide) hb4 hlst)
    have HB4 := Lib.hid (HBW.out.trans (hb4.mono HBW.out.size))
    clear hlst hmm
    generalize (w2.alloc (.map #[] 0)).alloc (.cells #[.map (some bb), .slice none 0 0, .map (some w2.heap.size), .int .i64 0] 71) = w4 at *
    have HW2 : Hid (w.heap.size ≤ w2.heap.size) := Lib.hid HBW.out.size
    clear hb4 HG HKK HNO HS HA HN HD HBW hmB
    go_upto_if 25 with (go_at_call 32; (refine (HADD.out).mono ?_); rintro r w5 ⟨ok, rfl, hb5, hy, hn⟩; have HY := Lib.hid hy; have HNN := Lib.hid hn; have HB5 := Lib.hid (HB4.out.trans (hb5.mono HW2.out)); clear hy hn hb5 HADD)
    cases ok with
    | true =>
      obtain ⟨a5, n5, c5, SL, st5, hL, hy1, hy2, hW⟩ := HY.out rfl
      have hc1 : w5.cell? ⟨w2.heap.size + 1, 1, none⟩ = some (.slice a5 n5 c5) := by rw [row_cell hL.row]; rfl
      have HL := Lib.hid hL
      have HTR : Hid (TreeOk (gOf S) root (SL.map (·.1))) := Lib.hid (by rw [hL.map]; exact HTO.out _ (hW [] _ (Wk.done _)))
      have HNB : Hid (n5 ≤ 4194304) := Lib.hid (Nat.le_trans hL.num hy2)
      clear hL hW HTO HNT HY HNN
      go_wp2_with fail
      go_ret2
      exact ⟨a5, n5, c5, 0, SL, rfl, HB5.out, fun _ => ⟨HTR.out, own_base HL.out.own HW2.out, fun y hy => own_base (HL.out.dat y hy) HW2.out, HNB.out⟩, fun h => absurd rfl h⟩
    | false =>
      have HNO : Hid (∀ ls, ¬ TreeOk (gOf S) root ls) := Lib.hid (HNT.out (HNN.out rfl []))
      clear HTO HNT HY HNN
      go_wp2_with fail
      go_ret2
      exact TreeRes.no _ (by decide) HNO.out HB5.out
  · have HNB : Hid (∀ ls, ¬ TreeOk (gOf S) root ls) := Lib.hid (fun ls h => hB ⟨h.1, h.2.1⟩)
    have HBE := Lib.hid hB
    clear hB
    go_enter Try.func16, Try.ntmps16
    go_upto_region 2 with (go_at_call 31; (refine (HBG.out).mono ?_); rintro r w2 ⟨bm, np, code, rfl, hb2, hcode, _⟩; have HCO : Hid (code ≠ 0) := Lib.hid (fun e => HBE.out (hcode.1 e)); have HB2 := Lib.hid hb2; clear hb2 hcode)
    have hne : (code != 0) = true := bne_t HCO.out
    go_wp2_with fail
    go_ret2
    exact TreeRes.no _ HCO.out HNB.out (Below.seq HB1.out HB2.out)
end Gr
end Go.Proofs.Ytpdkdhcbibcifaa
namespace Go.Proofs.Ytpdkdhcbibcifaa
set_option linter.unusedVariables false
set_option linter.unusedSimpArgs false
open Go.ChangeShapes Go.WideShapes Go.ChangeAt Go.RowKit
open Go.Maps (Keyed)
namespace Gr
abbrev MpS (w : World) (b s : Nat) (f : Bt → Option Value) : Prop := Mp mkS Try.prog 9 w b s f
def idF (pi : List (Bt × Int)) (p : Bt) : Option Value := (pi.lookup p).map fun v => .int .i64 v
theorem idF_val (pi : List (Bt × Int)) (p : Bt) : (idF pi p).getD (.int .i64 0) = .int .i64 ((pi.lookup p).getD 0) := by
  unfold idF; cases pi.lookup p <;> rfl
theorem idF_some (pi : List (Bt × Int)) (p : Bt) : (idF pi p).isSome = (pi.lookup p).isSome := by simp [idF]
theorem idF_upd (pi : List (Bt × Int)) (p : Bt) (u : Int) (h : pi.lookup p = none) (x : Bt) : upd (idF pi) p (.int .i64 u) x = idF (pi ++ [(p, u)]) x := by
  unfold upd idF
  rw [List.lookup_append]
  by_cases hx : x = p
  · subst hx; rw [if_pos rfl, h]; simp [List.lookup_cons]
  · rw [if_neg hx]
    have : [(p, u)].lookup x = none := by rw [List.lookup_cons, beq_f hx]; rfl
    rw [this]; simp
structure Ps (w0 w : World) (a : Option Addr) (n c : Nat) (NS : List NdS) (pi : List (Bt × Int)) : Prop where
  bel : Below w0.heap.size w0 w
  rb : w.heap[w0.heap.size]? = some (.cells #[.slice none 0 0] 43)
  pls : Pls w w0.heap.size (w0.heap.size + 1) a n c NS
  mp : MpS w (w0.heap.size + 2) pi.length (idF pi)
section
variable {w0 w : World} {a : Option Addr} {n c : Nat} {NS : List NdS} {pi : List (Bt × Int)}
theorem Ps.below {w' : World} (h : Ps w0 w a n c NS pi) (k : Below w.heap.size w w') : Ps w0 w' a n c NS pi :=
  ⟨h.bel.trans (k.mono h.bel.size), row_below h.rb k, h.pls.below k, h.mp.below k h.mp.lt⟩
theorem Ps.node {wA wB : World} {a' : Option Addr} {c' : Nat} {x : NdS} (h : Ps w0 w a n c NS pi) (hA : Below w.heap.size w wA) (hg : wA.grownBy wB (Value.slice a n c).ownBlock) (ho : wB.ownsRow w0.heap.size 75 10 (.slice a' (n + 1) c') (n + 1) (NS.flatMap ndCells ++ ndCells x))
    (hd : Own wA w0.heap.size x.2.1 x.1.data) (he : x.2.2 = (none, 0, 0)) (he2 : x.1.ents = []) : Ps w0 (wB.setCell ⟨w0.heap.size + 1, 0, none⟩ (.slice a' (n + 1) c')) a' (n + 1) c' (NS ++ [x]) pi := by
  have h1 := h.below hA
  have hr := row_grown h1.pls.row hg (fun e => own_ne_row h1.pls.own h1.pls.row (by decide) e.symm)
  have hrb := row_grown h1.rb hg (fun e => own_ne_row h1.pls.own h1.rb (by decide) e.symm)
  have hm := h1.mp.kept hg (h1.mp.ne_own h1.pls.own)
  have hgs := setCell_grown wB (w0.heap.size + 1) 0 (.slice a' (n + 1) c')
  refine ⟨?_, row_grown hrb hgs (by simp), h.pls.node hA hg ho hd he he2, hm.kept hgs (hm.ne_row hr)⟩
  have hb2 : Below w0.heap.size w0 wB := h1.bel.grown hg h1.bel.size (fun k hk => (h1.pls.own.lt k hk).1)
  exact hb2.setCell (p := ⟨w0.heap.size + 1, 0, none⟩) (by simp) _
theorem Ps.entry {wA wB : World} {a' : Option Addr} {m' c' : Nat} {x : NdS} {k nb : Nat} {e : Bt × Int} (h : Ps w0 w a n c NS pi) (hk : NS[k]? = some x) (hA : Below w.heap.size w wA) (hnb : a = some ⟨nb, 0, none⟩) (hg : wA.grownBy wB (Value.slice x.2.2.1 x.2.2.2.1 x.2.2.2.2).ownBlock)
    (ho : wB.ownsRow w0.heap.size 87 2 (.slice a' m' c') m' (x.1.ents.flatMap etCells ++ etCells e))
    (hat : (Value.slice a' m' c').ownBlock = (Value.slice x.2.2.1 x.2.2.2.1 x.2.2.2.2).ownBlock ∨ ∃ b, (Value.slice a' m' c').ownBlock = some b ∧ w.heap.size ≤ b) :
    Ps w0 (wB.setCell ⟨nb, k * 10 + 9, none⟩ (.slice a' m' c')) a n c (NS.set k ({ x.1 with ents := x.1.ents ++ [e] }, x.2.1, (a', m', c'))) pi := by
  have h1 := h.below hA
  have hxe := h1.pls.ent x (mem_get hk)
  have hrb := row_grown h1.rb hg (fun e => own_ne_row hxe h1.rb (by decide) e.symm)
  have hm := h1.mp.kept hg (h1.mp.ne_own hxe)
  have ho2 : wB.ownsRow w0.heap.size 75 10 (.slice a n c) n (NS.flatMap ndCells) := own_other h1.pls.own hxe (by decide) hg
  have hgs := setCell_grown wB nb (k * 10 + 9) (.slice a' m' c')
  have hb2 : Below w0.heap.size w0 wB := h1.bel.grown hg h1.bel.size (fun k hk => (hxe.lt k hk).1)
  have hob : (Value.slice a n c).ownBlock = some nb := by rw [hnb]; rfl
  obtain ⟨cur, hcur⟩ := own_row ho2 hob
  refine ⟨hb2.setCell (p := ⟨nb, k * 10 + 9, none⟩) (ho2.lt nb hob).1 _, row_grown hrb hgs (fun e => own_ne_row ho2 hrb (by decide) (by rw [hob]; exact e.symm)), h.pls.entry hk hA hnb hg ho hat, hm.kept hgs (hm.ne_row hcur)⟩
theorem Ps.put {w' : World} {p : Bt} {u : Int} (h : Ps w0 w a n c NS pi) (hl : pi.lookup p = none) (hm : MpS w' (w0.heap.size + 2) (if (idF pi p).isSome then pi.length else pi.length + 1) (upd (idF pi) p (.int .i64 u))) (hg : w.grownBy w' (some (w0.heap.size + 2))) :
    Ps w0 w' a n c NS (pi ++ [(p, u)]) := by
  have hno : (idF pi p).isSome = false := by simp [idF, hl]
  rw [hno] at hm
  have hot : ∀ {t sz n' v xs} , w.ownsRow w0.heap.size t sz v n' xs → w'.ownsRow w0.heap.size t sz v n' xs := fun ho => own_grown ho hg (Or.inr (fun e => h.mp.ne_own ho e.symm))
  refine ⟨h.bel.grown hg h.bel.size (fun k hk => by cases hk; simp), row_grown h.rb hg (by simp), ⟨row_grown h.pls.row hg (by simp), hot h.pls.own, fun x hx => hot (h.pls.dat x hx), fun x hx => hot (h.pls.ent x hx), h.pls.apart, h.pls.gb⟩, ?_⟩
  rw [List.length_append]
  exact hm.congr (idF_upd pi p u hl)
end
def ndZ : Array Value := #[.int .i64 0, .int .i64 0, .int .i64 0, .int .i64 0, .int .i64 0, .int .i64 0, .int .i64 0, .slice none 0 0, .string ⟨#[]⟩, .slice none 0 0]
theorem infoNode : (Try.prog.info? 75).map (fun i => (i.zero, i.size, i.bytes)) = some (some (.agg ndZ), 10, 120) := by kernel_rfl
def ndV (x : NdS) : Array Value := #[.int .i64 x.1.id, .int .i64 x.1.kind, .int .i64 x.1.mode, .int .i64 x.1.uid, .int .i64 x.1.gid, .int .i64 x.1.sec, .int .i64 x.1.nano, .slice x.2.1.1 x.2.1.2.1 x.2.1.2.2, .string ⟨x.1.target.toArray⟩, .slice x.2.2.1 x.2.2.2.1 x.2.2.2.2]
theorem infoNode2 (x : NdS) : (Try.prog.info? 75).map (fun i => (i.zero, i.size)) = some (some (Value.agg ndZ), (ndV x).size) := by show _ = some (some (Value.agg ndZ), 10); kernel_rfl
theorem nd_one (S : List NdS) : ∀ u ∈ S.flatMap ndCells, u.oneCell' = true := by
  intro u hu
  obtain ⟨x, _, hu⟩ := List.mem_flatMap.1 hu
  simp only [ndCells, List.mem_cons, List.not_mem_nil, or_false] at hu
  rcases hu with rfl | rfl | rfl | rfl | rfl | rfl | rfl | rfl | rfl | rfl <;> rfl
theorem nd_new (w : World) (x : NdS) : IsSl ((w.alloc (.cells (ndV x) 75)).drew) 10 (some ⟨w.heap.size, 0, none⟩) 1 1 ([x].flatMap ndCells) := by
  have := isSl_new w 75 10 1 (ndV x) rfl (by decide)
  have h2 := (Keeps.drew _).sl this
  simpa [ndV, ndCells] using h2
def etZ : Array Value := #[.string ⟨#[]⟩, .int .i64 0]
theorem infoEnt : (Try.prog.info? 87).map (fun i => (i.zero, i.size, i.bytes)) = some (some (.agg etZ), 2, 24) := by kernel_rfl
def etV (e : Bt × Int) : Array Value := #[.string ⟨e.1.toArray⟩, .int .i64 e.2]
theorem infoEnt2 (e : Bt × Int) : (Try.prog.info? 87).map (fun i => (i.zero, i.size)) = some (some (Value.agg etZ), (etV e).size) := by show _ = some (some (Value.agg etZ), 2); kernel_rfl
theorem et_one (S : List (Bt × Int)) : ∀ u ∈ S.flatMap etCells, u.oneCell' = true := by
  intro u hu
  obtain ⟨x, _, hu⟩ := List.mem_flatMap.1 hu
  simp only [etCells, List.mem_cons, List.not_mem_nil, or_false] at hu
  rcases hu with rfl | rfl <;> rfl
theorem et_new (w : World) (e : Bt × Int) : IsSl (w.alloc (.cells (etV e) 87)) 2 (some ⟨w.heap.size, 0, none⟩) 1 1 ([e].flatMap etCells) := by
  have := isSl_new w 87 2 1 (etV e) rfl (by decide)
  simpa [etV, etCells] using this
end Gr
end Go.Proofs.Ytpdkdhcbibcifaa
