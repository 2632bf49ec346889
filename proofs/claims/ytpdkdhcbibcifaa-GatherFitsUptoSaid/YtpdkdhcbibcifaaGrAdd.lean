/-
  GrAdd: lister.add: the walk through a tree.
-/
import Derived.Test.YtpdkdhcbibcifaaJ04
namespace Go.Proofs.Ytpdkdhcbibcifaa
set_option linter.unusedVariables false
set_option linter.unusedSimpArgs false
open Go.ChangeShapes Go.WideShapes Go.ChangeAt Go.RowKit
open Go.Maps (Keyed)
namespace Gr
set_option maxRecDepth 100000 in
set_option maxHeartbeats 8000000 in
theorem add_any (w0 : World) (lb bb fb : Nat) (a0 : Option Addr) (n0 c0 b off : Nat) (S : List NdS) (HG : Hid (GCtx w0 bb a0 n0 c0 b off S)) (fuel : Nat) : ∀ (st : TS) (id : Int) (path : Bt) (j : Nat) (x : NdS) (a : Option Addr) (n c : Nat) (SL : List LnS) (w : World), 4194304 < st.bytes + fuel → S[j]? = some x → nodeOf (gOf S) id = some x.1 → path ≠ [] → path.length ≤ 5000000 → st.bytes ≤ 4194304 →
    Below w0.heap.size w0 w → Lst w w0.heap.size lb bb fb a n c SL st →
    Calls Try.prog 32 #[.pointer (some ⟨lb, 0, none⟩), .pointer (some ⟨b, off + j * 10, none⟩), .string ⟨path.toArray⟩] w (AddRes (gOf S) w w0.heap.size lb bb fb id path st) := by
  induction fuel with
  | zero => intro st id path j x a n c SL w h1 _ _ _ _ h2; omega
  | succ fuel ih =>
    intro st id path j x a n c SL w hfu hx hnode hpne hpl hby hkp hL
    have HIH := Lib.hid ih
    clear ih
    have hplen : 1 ≤ path.length := List.length_pos_iff.2 hpne
    have c3 : w.cell? ⟨lb, 3, none⟩ = some (.int .i64 (st.bytes : Int)) := by rw [cell_of_row _ _ _ _ _ _ hL.row]; rfl
    have f3 : w.frozen? ⟨lb, 3, none⟩ = false := frozen_of_row _ _ _ _ _ hL.row
    have hsz : (⟨path.toArray⟩ : ByteArray).size = path.length := rfl
    have HL := Lib.hid hL; have HX := Lib.hid hx; have HN := Lib.hid hnode; have HKP := Lib.hid hkp
    have hlb := hL.lb
    have hwB : w0.heap.size ≤ w.heap.size := hkp.size
    clear hL hx hnode hkp
    by_cases hbig : 4194304 < st.bytes + path.length
    · go_enter Try.func32, Try.ntmps32
      go_wp2_with fail
      go_ret
      refine ⟨false, rfl, (Below.refl _ w).setCell (p := ⟨lb, 3, none⟩) hlb _, fun h => (by simp at h), fun _ rest => Wk.big _ _ _ _ hbig⟩
    · go_enter Try.func32, Try.ntmps32
      go_upto_region 4 with fail
      -- the world behind the first store
      have hb2 : Below w0.heap.size w (w.setCell ⟨lb, 3, none⟩ (.int .i64 ((st.bytes : Int) + (path.length : Int)))) := (Below.refl _ w).setCell (p := ⟨lb, 3, none⟩) hlb _
      have hgs := setCell_grown w lb 3 (.int .i64 ((st.bytes : Int) + (path.length : Int)))
      have hls := setCell_row HL.out.row (j := 3) (.int .i64 ((st.bytes : Int) + (path.length : Int)))
      have hlbs := HL.out.setB (st.bytes + path.length) (by omega)
      simp only [Int.natCast_add] at hlbs
      have HLB := Lib.hid hlbs
      clear hlbs
      generalize w.setCell ⟨lb, 3, none⟩ (.int .i64 ((st.bytes : Int) + (path.length : Int))) = w2 at *
      have hk2 := HKP.out.trans hb2
      have hrow := HG.out.row hk2 HX.out
      have hid : x.1.id = id := (nodeOf_mem HN.out).2
      have hinI := HG.out.num.id x (mem_get HX.out)
      have hfst : MpI w2 fb st.first.length (whF st.first) := HL.out.fst.kept hgs (fun e => by have := HL.out.fst.noCell c3; simp at this; exact this (Option.some.inj e).symm)
      have HB2 := Lib.hid hb2; have HK2 := Lib.hid hk2; have HGS := Lib.hid hgs
      obtain ⟨⟨nid, kind, mode, uid, gid, sec, nano, data, target, ents⟩, ⟨da, dn, dc⟩, ⟨ea, en, ec⟩⟩ := x
      simp only at hid hinI
      subst hid
      have HROW := Lib.hid hrow
      have l2 : w2.cell? ⟨lb, 2, none⟩ = some (.map (some fb)) := by rw [cell_of_row _ _ _ _ _ _ hls]; rfl
      have hkey := key_int (P := Try.prog) Try.underlying3 hinI.1 hinI.2
      have HF2 := Lib.hid hfst; have HKEY := Lib.hid hkey; have HL2 := Lib.hid l2
      obtain ⟨pe, hpe⟩ : ∃ pe, ((whF st.first nid).getD (.agg #[.string ⟨#[]⟩])) = .agg #[.string ⟨(List.toArray pe)⟩] ∧ pe = st.peer nid := ⟨st.peer nid, by unfold whF TS.peer; cases st.first.lookup nid <;> rfl, rfl⟩
      have HPV := Lib.hid hpe.1; have HPE := Lib.hid hpe.2
      have hfl := run_where
      have HALL : Hid (∀ w', Below w2.heap.size w2 w' → w'.cell? ⟨b, off + j * 10, none⟩ = some (.int .i64 nid) ∧ w'.cell? ⟨b, off + j * 10 + 1, none⟩ = some (.int .i64 kind) ∧ w'.cell? ⟨b, off + j * 10 + 2, none⟩ = some (.int .i64 mode) ∧ w'.cell? ⟨b, off + j * 10 + 3, none⟩ = some (.int .i64 uid) ∧ w'.cell? ⟨b, off + j * 10 + 4, none⟩ = some (.int .i64 gid) ∧
          w'.cell? ⟨b, off + j * 10 + 5, none⟩ = some (.int .i64 sec) ∧ w'.cell? ⟨b, off + j * 10 + 5 + 1, none⟩ = some (.int .i64 nano) ∧ w'.cell? ⟨lb, 2, none⟩ = some (.map (some fb)) ∧ (Instr.lookup 69 (.map (some fb)) (.int .i64 nid) false).run Try.prog w' = .ok (.agg #[.string ⟨pe.toArray⟩]) w') := Lib.hid (fun w' hb => by
        have hr := range_keep HROW.out (Below.keeps hb)
        have h0 := range_cell hr 0 rfl
        simp only [Nat.add_zero] at h0
        have hl := (HF2.out.below hb HF2.out.lt).run_look lawI Try.underlying69 (zeroWh _) nid HKEY.out
        rw [HPV.out] at hl
        exact ⟨h0, range_cell hr 1 rfl, range_cell hr 2 rfl, range_cell hr 3 rfl, range_cell hr 4 rfl, range_cell hr 5 rfl, range_cell hr 6 rfl, Below.keeps hb _ _ HL2.out, hl⟩)
      clear hpe hfst hkey hrow hb2 hk2 hgs c3 f3 l2
      go_cut [7] from 26 to 57 (fun v wx => v = .pointer (some ⟨w2.heap.size, 0, none⟩) ∧ Hid (Below w2.heap.size w2 wx ∧ wx.heap[w2.heap.size]? = some (.cells (lnC0 ⟨nid, kind, mode, uid, gid, sec, nano, data, target, ents⟩ path pe) 51)))
      case first =>
        -- @done
        go_region_held3 (fun w' => w'.cell? ⟨b, off + j * 10, none⟩ = some (.int .i64 nid) ∧ w'.cell? ⟨b, off + j * 10 + 1, none⟩ = some (.int .i64 kind) ∧ w'.cell? ⟨b, off + j * 10 + 2, none⟩ = some (.int .i64 mode) ∧ w'.cell? ⟨b, off + j * 10 + 3, none⟩ = some (.int .i64 uid) ∧ w'.cell? ⟨b, off + j * 10 + 4, none⟩ = some (.int .i64 gid) ∧
            w'.cell? ⟨b, off + j * 10 + 5, none⟩ = some (.int .i64 sec) ∧ w'.cell? ⟨b, off + j * 10 + 5 + 1, none⟩ = some (.int .i64 nano) ∧ w'.cell? ⟨lb, 2, none⟩ = some (.map (some fb)) ∧ (Instr.lookup 69 (.map (some fb)) (.int .i64 nid) false).run Try.prog w' = .ok (.agg #[.string ⟨pe.toArray⟩]) w')
          (first | exact HALL.out _ (Below.refl _ _) | exact HALL.out _ (Below.refl _ _).drew | exact HALL.out _ ((Below.refl _ _).drew.alloc (Nat.le_refl _) _) | exact HALL.out _ ((Below.refl _ _).alloc (Nat.le_refl _) _))
          (first | fail)
        all_goals
          go_wp2_with fail
          go_meet
          exact ⟨rfl, Lib.hid ⟨((Below.refl _ _).alloc (Nat.le_refl _) _).drew, heap_alloc_new _ _⟩⟩
        -- @end
      obtain ⟨rfl, hA⟩ := hcut
      obtain ⟨hA1, hA2⟩ := hA.out
      obtain ⟨w3, hw3⟩ : ∃ w3, w3 = wc := ⟨_, rfl⟩
      subst hw3
      have hlbl : lb < w2.heap.size := row_lt hls
      have hL3 := HLB.out.below hA1
      have hgB : w0.heap.size ≤ w2.heap.size := HK2.out.size
      have hB3 : Below w0.heap.size w w3 := HB2.out.trans (hA1.mono hgB)
      have hK3 := HK2.out.trans (hA1.mono hgB)
      have HL3 := Lib.hid hL3; have HB3 := Lib.hid hB3; have HK3 := Lib.hid hK3; have HLIN := Lib.hid hA2
      have HFN : Hid (st.first.length + 1 ≤ st.bytes + path.length) := Lib.hid (by have := HL.out.fn; omega)
      have HNN : Hid (n + 1 ≤ st.bytes + path.length) := Lib.hid (by have := HL.out.num; omega)
      have HFE : Hid (pe = [] → st.first.lookup nid = none) := Lib.hid (fun e => by
        have h1 := HPE.out
        rw [e] at h1
        unfold TS.peer at h1
        cases hl : st.first.lookup nid with
        | none => rfl
        | some q => rw [hl] at h1; simp only [Option.getD_some] at h1; rw [← h1] at hl; exact absurd hl (HL.out.fne nid))
      have HNE : Hid (∀ {w'} , Lst w' w0.heap.size lb bb fb a n c SL ⟨st.out, st.first, st.bytes + path.length⟩ → pe = [] → st.first.lookup nid = none) := Lib.hid (fun _ => HFE.out)
      have HOL : Hid ((Value.slice a n c).ownBlock ≠ some w2.heap.size) := Lib.hid (fun e => by have := (HLB.out.own.lt _ e).2; omega)
      generalize w2.heap.size = gl at *
      have hneq : gl ≠ lb := by omega
      clear hA hA1 hA2 hL3 hB3 hK3 hls HB2 HK2 HGS HF2 HL2 HROW HALL HLB
      have cl9 : w3.cell? ⟨gl, 9, none⟩ = some (.string ⟨pe.toArray⟩) := by rw [row_cell HLIN.out]; rfl
      go_upto_if 60 with fail
      clear cl9
      go_cut [] (fun wx => ∃ d : Sl, Hid (Below w0.heap.size w wx ∧ Lst wx w0.heap.size lb bb fb a n c SL ⟨st.out, if pe = [] then st.first ++ [(nid, path)] else st.first, st.bytes + path.length⟩ ∧
        wx.heap[gl]? = some (.cells (lnV (mkLine ⟨nid, kind, mode, uid, gid, sec, nano, data, target, ents⟩ path pe, d)) 51) ∧ Own wx w0.heap.size d (mkLine ⟨nid, kind, mode, uid, gid, sec, nano, data, target, ents⟩ path pe).data))
      case first =>
        -- @done
        by_cases hpe : pe = []
        · have hrow := HG.out.row HK3.out HX.out
          have hdd := (HG.out.nds.keep (Below.keeps HK3.out)).dat _ (mem_get HX.out)
          have hdl := HG.out.dat _ (mem_get HX.out)
          simp only at hdd hdl
          have d0 := range_cell hrow 0 rfl
          simp only [Nat.add_zero] at d0
          have l2 : w3.cell? ⟨lb, 2, none⟩ = some (.map (some fb)) := by rw [row_cell HL3.out.row]; rfl
          have HROW := Lib.hid hrow; have HDD := Lib.hid hdd; have HDL := Lib.hid hdl
          have HFZ : Hid (st.first.length < maxLen) := Lib.hid (by have := HFN.out; unfold maxLen; omega)
          clear hrow hdd hdl
          have HBL : Hid (b < gl) := Lib.hid (by
            have h1 := range_cell (HG.out.row (Below.refl _ _) HX.out) 0 rfl
            have h2 : b < w0.heap.size := by
              unfold World.cell? at h1
              cases hh : w0.heap[b]? with
              | none => simp [hh] at h1
              | some o => exact (Array.getElem?_eq_some_iff.1 hh).1
            omega)
          subst hpe
          have HPUT : Hid (∀ w5, MpI w5 fb (if (whF st.first nid).isSome then st.first.length else st.first.length + 1) (upd (whF st.first) nid (.agg #[.string ⟨path.toArray⟩])) → w3.drew.grownBy w5 (some fb) → Hid (Lst w5 w0.heap.size lb bb fb a n c SL ⟨st.out, st.first ++ [(nid, path)], st.bytes + path.length⟩) ∧ Hid (Below w0.heap.size w w5) ∧
              w5.cell? ⟨b, off + j * 10 + 7, none⟩ = some (.slice da dn dc) ∧ w5.cell? ⟨b, off + j * 10 + 8, none⟩ = some (.string ⟨target.toArray⟩) ∧ Hid (Dat w5 (da, dn, dc) data) ∧ Hid (w5.heap[gl]? = some (.cells (lnC0 ⟨nid, kind, mode, uid, gid, sec, nano, data, target, ents⟩ path []) 51))) := Lib.hid (fun w5 hm5 hg5 => by
            have hg : w3.grownBy w5 (some fb) := ⟨hg5.os, hg5.tape, hg5.output, hg5.size, hg5.block⟩
            have hk := HL3.out.fst.keeps hg
            have hr := range_keep HROW.out hk
            exact ⟨Lib.hid (HL3.out.put hpne (HFE.out rfl) HFN.out hm5 hg), Lib.hid (HB3.out.grown hg (Nat.le_trans hwB HB3.out.size) (fun k hk => by cases hk; exact HL3.out.fb)), range_cell hr 7 rfl, range_cell hr 8 rfl, Lib.hid (hk.bs HDD.out), Lib.hid (row_grown HLIN.out hg (fun e => HL3.out.fst.ne_row HLIN.out e.symm))⟩)
          have HCL : Hid (∀ w5 w6, Below w5.heap.size w5 w6 → w5.heap[gl]? = some (.cells (lnC0 ⟨nid, kind, mode, uid, gid, sec, nano, data, target, ents⟩ path []) 51) → w5.cell? ⟨b, off + j * 10 + 8, none⟩ = some (.string ⟨target.toArray⟩) → w6.cell? ⟨gl, 7, none⟩ = some (.slice none 0 0) ∧ w6.frozen? ⟨gl, 7, none⟩ = false ∧
              (∀ v, (w6.setCell ⟨gl, 7, none⟩ v).cell? ⟨b, off + j * 10 + 8, none⟩ = some (.string ⟨target.toArray⟩)) ∧ (∀ v, (w6.setCell ⟨gl, 7, none⟩ v).cell? ⟨gl, 8, none⟩ = some (.string ⟨#[]⟩)) ∧ (∀ v, (w6.setCell ⟨gl, 7, none⟩ v).frozen? ⟨gl, 8, none⟩ = false)) := Lib.hid (fun w5 w6 hb hr hc => by
            have hr6 := row_below hr hb
            refine ⟨by rw [row_cell hr6]; rfl, row_froz hr6 7, fun v => ?_, fun v => by rw [row_cell (setCell_row hr6 v)]; simp [lnC0], fun v => row_froz (setCell_row hr6 v) 8⟩
            exact (setCell_grown w6 gl 7 v).cell (Below.keeps hb _ _ hc) (fun e => by have h1 := Option.some.inj e; have h2 := HBL.out; simp only at h1; omega))
          go_upto_region 6 with fail
          go_still_tail 10, (by kernel_rfl)
          change wpList _ _ _ _ _ w3.drew
          go_wp2_with (first
            | (at_mapUpdate; refine wpList_mp_put rfl _ _ _ 69 rfl 93 lawI Try.underlying69 rfl (HL3.out.fst.block (w' := w3.drew) rfl) HFZ.out _ nid rfl HKEY.out _ rfl mkI_inj ?_; intro w5 hm5 hg5; obtain ⟨HL5, HB5, f7, f8, HD5, HR5⟩ := HPUT.out w5 hm5 hg5; clear hm5 hg5)
            | (go_at_call 37; (refine (Clone_any (da, dn, dc) data w5 HD5.out HDL.out).mono ?_); rintro r w6 ⟨a6, n6, c6, rfl, ho6, hb6⟩; obtain ⟨e1, e2, e3, e4, e5⟩ := HCL.out w5 w6 hb6 HR5.out f8; have HO6 := Lib.hid ho6; have HB6 := Lib.hid hb6; clear ho6 hb6 f7 f8))
          go_meet
          have hf := (HL5.out.below HB6.out).fill (row_below HR5.out HB6.out) hneq HOL.out (a6, n6, c6) (own_base HO6.out (Nat.le_trans hwB HB5.out.size))
          exact ⟨(a6, n6, c6), Lib.hid ⟨((HB5.out.trans (HB6.out.mono (Nat.le_trans hwB HB5.out.size))).setCell (p := ⟨gl, 7, none⟩) hgB _).setCell (p := ⟨gl, 8, none⟩) hgB _, by simpa using hf.1, hf.2.1, hf.2.2⟩⟩
        · have HPN : Hid ((mkLine ⟨nid, kind, mode, uid, gid, sec, nano, data, target, ents⟩ path pe) = ⟨path, kind, mode, uid, gid, sec, nano, [], [], pe⟩) := Lib.hid (by simp [mkLine, hpe])
          have HPE2 := Lib.hid hpe
          have hpb : (pe == []) = false := beq_f hpe
          have hpc : pe.isEmpty = false := by simpa using hpe
          go_wp2_with fail
          · exact absurd ‹pe.isEmpty = true› (by simp [hpc])
          · go_meet
            refine ⟨(none, 0, 0), Lib.hid ⟨HB3.out, by rw [if_neg HPE2.out]; exact HL3.out, ?_, ?_⟩⟩
            · rw [HPN.out]; exact HLIN.out
            · rw [HPN.out]; exact World.ownsRow_nil _ _ _ _
        -- @end
      obtain ⟨d, hB⟩ := hcut
      obtain ⟨hB1, hB2, hB3, hB4⟩ := hB.out
      obtain ⟨w6, hw6⟩ : ∃ w6, w6 = wc := ⟨_, rfl⟩
      subst hw6
      have hgl6 : gl < w6.heap.size := row_lt hB3
      clear hB HL3 HB3 HK3 HLIN
      -- the tree's line and state
      have hst : st.next ⟨nid, kind, mode, uid, gid, sec, nano, data, target, ents⟩ path = ⟨st.out ++ [mkLine ⟨nid, kind, mode, uid, gid, sec, nano, data, target, ents⟩ path pe], if pe = [] then st.first ++ [(nid, path)] else st.first, st.bytes + path.length⟩ := by
        unfold TS.next
        rw [HPE.out]
      have HST := Lib.hid hst
      have HTOP : Hid (st.out.isEmpty = decide (n = 0)) := Lib.hid HL.out.top
      generalize mkLine ⟨nid, kind, mode, uid, gid, sec, nano, data, target, ents⟩ path pe = ln at *
      generalize hfs : (if pe = [] then st.first ++ [(nid, path)] else st.first) = fs at *
      have l1 : w6.cell? ⟨lb, 1, none⟩ = some (.slice a n c) := by rw [row_cell hB2.row]; rfl
      have HB6 := Lib.hid hB1; have HL6 := Lib.hid hB2; have HR6 := Lib.hid hB3; have HD6 := Lib.hid hB4
      clear hst hfs hB1 hB2 hB3 hB4 HFE HNE HFN HPV HPE hfl
      go_upto_region 10 with fail
      go_cut [] from 88 to 97 (fun wx => ∃ (a' : Option Addr) (c' : Nat), Hid (Lst wx w0.heap.size lb bb fb a' (n + 1) c' (SL ++ [(ln, d)]) (st.next ⟨nid, kind, mode, uid, gid, sec, nano, data, target, ents⟩ path) ∧ Below w0.heap.size w wx))
      case first =>
        -- @done
        have hob : Below w6.heap.size w6 ((w6.alloc (.cells (lnV (ln, d)) 51)).drew) := ((Below.refl _ _).alloc (Nat.le_refl _) _).drew
        have hlst := HL6.out.below hob
        obtain ⟨a7, c7, w7, hrun7, ho7, hg7⟩ := run_app (P := Try.prog) (w := (w6.alloc (.cells (lnV (ln, d)) 51)).drew) 22 22 w0.heap.size 51 _ 10 120 Try.underlying22 infoLine rfl (by decide) (by decide) hlst.own (ln_new w6 (ln, d)) (ln_one [(ln, d)]) (by have := HNN.out; omega) (by have := hob.size; omega)
        have hs : ∀ (ty : TypeId), _ := fun ty => run_slice_one (P := Try.prog) 22 Try.underlying22 (lnV (ln, d)) (infoLine2 (ln, d)) rfl (by show 0 < 10; decide) (by show 10 ≤ _; decide) w6.drew
        have hs0 := hs 0
        clear hs
        have hr7 := row_grown hlst.row hg7 (fun e => own_ne_row hlst.own hlst.row (by decide) e.symm)
        have k1 : w7.cell? ⟨lb, 1, none⟩ = some (.slice a n c) := by rw [row_cell hr7]; rfl
        have k2 : w7.frozen? ⟨lb, 1, none⟩ = false := row_froz hr7 1
        have l2 : ∀ o, (w6.alloc o).cell? ⟨lb, 1, none⟩ = some (.slice a n c) := fun o => Keeps.alloc w6 o _ _ l1
        have g0 : w6.cell? ⟨gl, 0, none⟩ = some (.string ⟨ln.path.toArray⟩) := by rw [row_cell HR6.out]; rfl
        have g1 : w6.cell? ⟨gl, 1, none⟩ = some (.int .i64 ln.kind) := by rw [row_cell HR6.out]; rfl
        have g2 : w6.cell? ⟨gl, 2, none⟩ = some (.int .i64 ln.mode) := by rw [row_cell HR6.out]; rfl
        have g3 : w6.cell? ⟨gl, 3, none⟩ = some (.int .i64 ln.uid) := by rw [row_cell HR6.out]; rfl
        have g4 : w6.cell? ⟨gl, 4, none⟩ = some (.int .i64 ln.gid) := by rw [row_cell HR6.out]; rfl
        have g5 : w6.cell? ⟨gl, 5, none⟩ = some (.int .i64 ln.sec) := by rw [row_cell HR6.out]; rfl
        have g6 : w6.cell? ⟨gl, 6, none⟩ = some (.int .i64 ln.nano) := by rw [row_cell HR6.out]; rfl
        have g7 : w6.cell? ⟨gl, 7, none⟩ = some (.slice d.1 d.2.1 d.2.2) := by rw [row_cell HR6.out]; rfl
        have g8 : w6.cell? ⟨gl, 8, none⟩ = some (.string ⟨ln.target.toArray⟩) := by rw [row_cell HR6.out]; rfl
        have g9 : w6.cell? ⟨gl, 9, none⟩ = some (.string ⟨ln.peer.toArray⟩) := by rw [row_cell HR6.out]; rfl
        simp only [lnV] at hrun7 hs0
        have HRUN := Lib.hid hrun7; clear hrun7
        have HO7 := Lib.hid ho7; have HG7 := Lib.hid hg7; have HOB := Lib.hid hob
        clear ho7 hg7 hob hlst hr7
        go_region_law (refine step_app_run rfl (.tmp 92) (.tmp 94) 22 rfl _ _ (by simp [Act.eval, Act.put]) (by simp [Act.eval, Act.put]) _ _ HRUN.out ?_)
        all_goals
          go_wp2_with fail
          go_meet
          refine ⟨a7, c7, Lib.hid ⟨?_, ?_⟩⟩
          · rw [HST.out]
            exact HL6.out.app HOB.out HG7.out (by simpa using HO7.out) HD6.out HNN.out
          · refine Below.setCell (p := ⟨lb, 1, none⟩) ?_ hlb _
            exact (HB6.out.trans (HOB.out.mono (Nat.le_trans hgB (Nat.le_of_lt hgl6)))).grown HG7.out (by have := HOB.out.size; omega) (fun k hk => (HL6.out.own.lt k hk).1)
        -- @end
      obtain ⟨a7, c7, hC⟩ := hcut
      obtain ⟨hC1, hC2⟩ := hC.out
      obtain ⟨w7, hw7⟩ : ∃ w7, w7 = wc := ⟨_, rfl⟩
      subst hw7
      have HL7 := Lib.hid hC1; have HB7 := Lib.hid hC2
      have hK7 : Below w0.heap.size w0 w7 := HKP.out.trans hC2
      have hrow := HG.out.row hK7 HX.out
      have d9 := range_cell hrow 9 rfl
      have hets := (HG.out.nds.keep (Below.keeps hK7)).ent _ (mem_get HX.out)
      have hel := hets.len; have hecap := hets.cap; have hemax := hets.max
      simp only at hets hel hecap hemax d9
      have HETS := Lib.hid hets; have HEL := Lib.hid hel
      have HTB : Hid (((n : Int) == 0) = st.out.isEmpty) := Lib.hid (by rw [HTOP.out]; by_cases h : n = 0 <;> simp [h])
      have HW0 : Hid (∀ rest res, Wk (gOf S) (kids ⟨nid, kind, mode, uid, gid, sec, nano, data, target, ents⟩ path st.out.isEmpty ++ rest) (st.next ⟨nid, kind, mode, uid, gid, sec, nano, data, target, ents⟩ path) res → Wk (gOf S) ((nid, path) :: rest) st res) := Lib.hid (fun rest res h => Wk.step _ _ _ _ _ _ (by omega) HN.out h)
      have HBY : Hid (st.bytes + 1 ≤ (st.next ⟨nid, kind, mode, uid, gid, sec, nano, data, target, ents⟩ path).bytes ∧ (st.next ⟨nid, kind, mode, uid, gid, sec, nano, data, target, ents⟩ path).bytes ≤ 4194304) := Lib.hid (by simp only [TS.next]; omega)
      have HCH : Hid (∀ e ∈ ents, e.1.length ≤ 255 ∧ e.1 ≠ [] ∧ ∃ t, nodeOf (gOf S) e.2 = some t) := Lib.hid (HG.out.chk _ (mem_get HX.out))
      have HCI : Hid (∀ e ∈ ents, inI e.2) := Lib.hid (HG.out.num.ent _ (mem_get HX.out))
      have hkk : (kids ⟨nid, kind, mode, uid, gid, sec, nano, data, target, ents⟩ path st.out.isEmpty) = ents.map fun e => (e.2, Gr.below path st.out.isEmpty e.1) := rfl
      rw [hkk] at HW0
      generalize st.next ⟨nid, kind, mode, uid, gid, sec, nano, data, target, ents⟩ path = stn at *
      generalize htb : ((n : Int) == 0) = tb at *
      obtain htb2 : tb = st.out.isEmpty := HTB.out
      rw [← htb2] at HW0
      clear hC hC1 hC2 hK7 hrow hets hel HST HTOP htb HTB htb2 HB6 HL6 HR6 HD6 hkk
      go_wp2_with fail
      go_loopw [103] (fun i wr => ∃ (k : Nat) (a1 : Option Addr) (n1 c1 : Nat) (SL1 : List LnS) (st1 : TS), k ≤ en ∧ i = .int .i64 k ∧ Hid (Lst wr w0.heap.size lb bb fb a1 n1 c1 SL1 st1) ∧ Hid (Below w0.heap.size w wr) ∧
        Hid (∀ rest res, Wk (gOf S) ((ents.map fun e => (e.2, Gr.below path tb e.1)).drop k ++ rest) st1 res → Wk (gOf S) ((nid, path) :: rest) st res) ∧ Hid (st.bytes + 1 ≤ st1.bytes ∧ st1.bytes ≤ 4194304)) (fun i _ => en - (intOf i).toNat)
      case atStart => exact ⟨0, a7, n + 1, c7, _, stn, Nat.zero_le _, rfl, HL7, HB7, Lib.hid (by simpa using HW0.out), HBY⟩
      case round =>
        obtain ⟨k, a1, n1, c1, SL1, st1, hk, rfl, hL1, hB1, hW1, hY1⟩ := hrel
        by_cases hlt : k < en
        · have hkl : k < ents.length := by have := HEL.out; omega
          obtain ⟨⟨nm, eid⟩, hxk⟩ := get_some (S := ents) hkl
          have hKr : Below w0.heap.size w0 wr := HKP.out.trans hB1.out
          have hetr := (HG.out.nds.keep (Below.keeps hKr)).ent _ (mem_get HX.out)
          obtain ⟨eb, eo, he1, hrow⟩ := Ets.at hetr k (nm, eid) hxk
          simp only at he1
          subst he1
          obtain ⟨hn255, hnne, t, hnode⟩ := HCH.out _ (mem_get hxk)
          have hide := HCI.out _ (mem_get hxk)
          simp only at hide hn255 hnne hnode
          obtain ⟨kk, x', hkk, rfl, hidt, hpt⟩ := ptr_some (b := b) (off := off) hnode
          have hdrop : (ents.map fun e => (e.2, Gr.below path tb e.1)).drop k = (eid, Gr.below path tb nm) :: (ents.map fun e => (e.2, Gr.below path tb e.1)).drop (k + 1) := by
            rw [List.drop_eq_getElem_cons (by simpa using hkl), List.getElem_map, (List.getElem?_eq_some_iff.1 hxk).2]
          have hw1 := hW1.out
          rw [hdrop] at hw1
          have HW1 := Lib.hid hw1
          simp only [etCells] at hrow
          have HROW := Lib.hid hrow
          have HKEY2 := Lib.hid (key_int (P := Try.prog) Try.underlying3 hide.1 hide.2)
          have HCALL : Hid (∀ w8, Below wr.heap.size wr w8 → ∀ p, p ≠ [] → p.length ≤ 5000000 → Calls Try.prog 32 #[.pointer (some ⟨lb, 0, none⟩), .pointer (some ⟨b, off + kk * 10, none⟩), .string ⟨p.toArray⟩] w8 (AddRes (gOf S) w8 w0.heap.size lb bb fb eid p st1)) :=
            Lib.hid (fun w8 hb p hp hpl => HIH.out st1 eid p kk x' a1 n1 c1 SL1 w8 (by have := hY1.out; omega) hkk hnode hp hpl hY1.out.2 (hKr.trans (hb.mono hKr.size)) (hL1.out.below hb))
          have HBOX : Hid (Below wr.heap.size wr (wr.alloc (.cells #[.string ⟨nm.toArray⟩, .int .i64 eid] 87))) := Lib.hid ((Below.refl _ _).alloc (Nat.le_refl _) _)
          have HLK : Hid (∀ w8, Below wr.heap.size wr w8 → w8.cell? ⟨lb, 0, none⟩ = some (.map (some bb)) ∧ (Instr.lookup 65 (.map (some bb)) (.int .i64 eid) false).run Try.prog w8.drew = .ok (.pointer (some ⟨b, off + kk * 10, none⟩)) w8.drew) := Lib.hid (fun w8 hb => by
            refine ⟨by rw [row_cell (hL1.out.below hb).row]; rfl, ?_⟩
            have hm : MpI w8.drew bb S.length (ptrAt b off S) := (HG.out.by_.below (hKr.trans (hb.mono hKr.size)) HG.out.by_.lt).block rfl
            have hl := hm.run_look lawI Try.underlying65 (zeroPtr _) eid HKEY2.out
            rw [hpt] at hl
            exact hl)
          have HKR := Lib.hid hKr
          have HRR := Lib.hid hkk
          clear hKr hetr hrow hxk hnode hpt hkk hdrop hw1 hidt hide hW1
          cases tb with
          | true =>
            go_upto_region 17 with (first
              | (refine wpList_load_mid rfl _ _ rfl eb (eo + k * 2) rfl _ _ HROW.out Try.underlying87 rfl (by kernel_rfl) ?_)
              | fail)
            have hc1 : (wr.alloc (.cells #[.string ⟨nm.toArray⟩, .int .i64 eid] 87)).cell? ⟨wr.heap.size, 1, none⟩ = some (.int .i64 eid) := by rw [World.cell?_alloc_new]; rfl
            generalize wr.alloc (.cells #[.string ⟨nm.toArray⟩, .int .i64 eid] 87) = w8 at *
            obtain ⟨hl0, hlk⟩ := HLK.out w8 HBOX.out
            clear HROW HLK
            go_still_tail 9, (by kernel_rfl)
            change wpList _ _ _ _ _ w8.drew
            clear hc1 hl0 hlk
            go_wp2_with (go_at_call 32; (refine (HCALL.out w8.drew HBOX.out.drew nm hnne (by omega)).mono ?_); rintro r w9 ⟨ok, rfl, hb9, hy9, hn9⟩; have HY9 := Lib.hid hy9; have HN9 := Lib.hid hn9; have HB9 := Lib.hid (hB1.out.trans (((HBOX.out.drew).mono HKR.out.size).trans hb9)); clear hy9 hn9 hb9 HCALL; generalize hok : ok = okk at *)
            · have hok2 : okk = false := by have h := ‹(!okk) = true›; simpa using h
              go_ret
              exact ⟨false, rfl, HB9.out, fun h => (by cases h), fun _ rest => HW1.out _ _ (HN9.out hok2 _)⟩
            · have hok2 : okk = true := by have h := ‹(!okk) = false›; simpa using h
              obtain ⟨a9, n9, c9, SL9, st9, hL9, hy1, hy2, hW9⟩ := HY9.out hok2
              exact ⟨⟨k + 1, a9, n9, c9, SL9, st9, by omega, by go_num, Lib.hid hL9, HB9, Lib.hid (fun rest res h => HW1.out _ _ (hW9 _ _ h)), Lib.hid ⟨by have := hY1.out.1; omega, hy2⟩⟩, by simp [intOf]; omega⟩
          | false =>
            have hcz : (⟨path.toArray⟩ : ByteArray).size + 1 + (⟨nm.toArray⟩ : ByteArray).size ≤ 9223372036854775807 := by show path.length + 1 + nm.length ≤ _; omega
            go_upto_region 17 with (first
              | (refine wpList_load_mid rfl _ _ rfl eb (eo + k * 2) rfl _ _ HROW.out Try.underlying87 rfl (by kernel_rfl) ?_)
              | fail)
            rw [cat_path path nm]
            clear hcz
            have hc1 : (wr.alloc (.cells #[.string ⟨nm.toArray⟩, .int .i64 eid] 87)).cell? ⟨wr.heap.size, 1, none⟩ = some (.int .i64 eid) := by rw [World.cell?_alloc_new]; rfl
            generalize wr.alloc (.cells #[.string ⟨nm.toArray⟩, .int .i64 eid] 87) = w8 at *
            obtain ⟨hl0, hlk⟩ := HLK.out w8 HBOX.out
            clear HROW HLK
            go_still_tail 9, (by kernel_rfl)
            change wpList _ _ _ _ _ w8.drew
            clear hc1 hl0 hlk
            go_wp2_with (go_at_call 32; (refine (HCALL.out w8.drew HBOX.out.drew (path ++ 47 :: nm) (by simp) (by simp; omega)).mono ?_); rintro r w9 ⟨ok, rfl, hb9, hy9, hn9⟩; have HY9 := Lib.hid hy9; have HN9 := Lib.hid hn9; have HB9 := Lib.hid (hB1.out.trans (((HBOX.out.drew).mono HKR.out.size).trans hb9)); clear hy9 hn9 hb9 HCALL; generalize hok : ok = okk at *)
            · have hok2 : okk = false := by have h := ‹(!okk) = true›; simpa using h
              go_ret
              exact ⟨false, rfl, HB9.out, fun h => (by cases h), fun _ rest => HW1.out _ _ (HN9.out hok2 _)⟩
            · have hok2 : okk = true := by have h := ‹(!okk) = false›; simpa using h
              obtain ⟨a9, n9, c9, SL9, st9, hL9, hy1, hy2, hW9⟩ := HY9.out hok2
              exact ⟨⟨k + 1, a9, n9, c9, SL9, st9, by omega, by go_num, Lib.hid hL9, HB9, Lib.hid (fun rest res h => HW1.out _ _ (hW9 _ _ h)), Lib.hid ⟨by have := hY1.out.1; omega, hy2⟩⟩, by simp [intOf]; omega⟩
        · obtain rfl : k = en := by omega
          go_wp2_with fail
          go_ret
          have hW := hW1.out
          rw [List.drop_of_length_le (by rw [List.length_map]; have := HEL.out; omega)] at hW
          exact ⟨true, rfl, hB1.out, fun _ => ⟨a1, n1, c1, SL1, st1, hL1.out, hY1.out.1, hY1.out.2, by simpa using hW⟩, fun h => by cases h⟩
end Gr
end Go.Proofs.Ytpdkdhcbibcifaa
