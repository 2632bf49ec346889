/-
  GrEnter: enter looks at the entries of one node.
-/
import Derived.Test.YtpdkdhcbibcifaaGrSound
import Derived.Test.YtpdkdhcbibcifaaGrGood
import Derived.StillTailTactics
import Derived.Laws.Cover1
namespace Go.Proofs.Ytpdkdhcbibcifaa
set_option linter.unusedVariables false
set_option linter.unusedSimpArgs false
open Go.ChangeShapes Go.WideShapes Go.ChangeAt Go.RowKit
open Go.Maps (Keyed)
namespace Gr
theorem lawI : Keyed Try.prog 3 := Maps.int_keyed Try.underlying3
theorem lawS : Keyed Try.prog 9 := Maps.string_keyed Try.underlying9
theorem zeroPtr (w : World) : (zeroValue 66).run Try.prog w = .ok (.pointer none) w := by kernel_rfl
theorem zeroInt (w : World) : (zeroValue 3).run Try.prog w = .ok (.int .i64 0) w := by kernel_rfl
/-- the node with an id, as a pointer into the row of nodes -/
def ptrAt (b off : Nat) (S : List NdS) (id : Int) : Option Value := (S.findIdx? fun x => x.1.id == id).map fun k => .pointer (some ⟨b, off + k * 10, none⟩)
def parF (p : List (Int × Int)) (id : Int) : Option Value := (p.lookup id).map fun u => .int .i64 u
theorem ptr_none {b off : Nat} {S : List NdS} {id : Int} (h : nodeOf (S.map (·.1)) id = none) : ptrAt b off S id = none := by
  unfold nodeOf at h
  unfold ptrAt
  rw [Option.map_eq_none_iff, List.findIdx?_eq_none_iff]
  intro x hx
  rw [List.find?_eq_none] at h
  have := h x.1 (List.mem_map.2 ⟨x, hx, rfl⟩)
  simpa using this
theorem ptr_some {b off : Nat} {S : List NdS} {id : Int} {t : Nd} (h : nodeOf (S.map (·.1)) id = some t) : ∃ k x, S[k]? = some x ∧ x.1 = t ∧ t.id = id ∧ ptrAt b off S id = some (.pointer (some ⟨b, off + k * 10, none⟩)) := by
  unfold nodeOf at h
  rw [List.find?_map] at h
  obtain ⟨x, hx, rfl⟩ := Option.map_eq_some_iff.1 h
  have hid : x.1.id = id := by simpa using List.find?_some hx
  cases hf : S.findIdx? (fun x => x.1.id == id) with
  | none =>
    rw [List.findIdx?_eq_none_iff] at hf
    have := hf x (List.mem_of_find?_eq_some hx)
    simp [hid] at this
  | some k =>
    refine ⟨k, x, ?_, rfl, hid, by simp [ptrAt, hf]⟩
    have h1 := List.findIdx?_eq_some_iff_getElem.1 hf
    obtain ⟨hk, h2, h3⟩ := h1
    have h4 : S.find? (fun x => x.1.id == id) = some S[k] := List.find?_eq_some_iff_getElem.2 ⟨h2, k, hk, rfl, fun j hj => by simpa using h3 j hj⟩
    have h5 : S.find? (fun x => x.1.id == id) = some x := by simpa [Function.comp_def] using hx
    rw [h4] at h5
    rw [List.getElem?_eq_getElem hk]
    exact h5
abbrev MpI (w : World) (b s : Nat) (f : Int → Option Value) : Prop := Mp mkI Try.prog 3 w b s f
/-- what enter leaves -/
def EnterRes (w : World) (pb : Nat) (R : Option (List (Int × Int))) (r : Ending) (w' : World) : Prop :=
  ∃ v, r = .returned (.bool v) ∧ w.grownBy w' (some pb) ∧ (v = true ↔ ∃ p', R = some p') ∧ ∀ p', R = some p' → MpI w' pb p'.length (parF p')
theorem parF_upd (p : List (Int × Int)) (id u : Int) (h : p.lookup id = none) (x : Int) : upd (parF p) id (.int .i64 u) x = parF (p ++ [(id, u)]) x := by
  unfold upd parF
  rw [List.lookup_append]
  by_cases hx : x = id
  · subst hx; rw [if_pos rfl, h]; simp [List.lookup_cons]
  · rw [if_neg hx]
    have : [(id, u)].lookup x = none := by rw [List.lookup_cons, beq_f hx]; rfl
    rw [this]; simp
theorem parF_none {p : List (Int × Int)} {id : Int} : (parF p id).isSome = (p.lookup id).isSome := by simp [parF]
theorem box_cell {w w' : World} {cs : Array Value} {t : TypeId} (hb : Below (w.alloc (.cells cs t)).heap.size (w.alloc (.cells cs t)) w') (j : Nat) {v : Value} (hv : cs[j]? = some v) : w'.cell? ⟨w.heap.size, j, none⟩ = some v := by
  rw [hb.cell (p := ⟨w.heap.size, j, none⟩) (by simp), World.cell?_alloc_new]
  exact hv
set_option maxRecDepth 100000 in
set_option maxHeartbeats 4000000 in
theorem enter_any (b off n c : Nat) (a : Option Addr) (S : List NdS) (nb no bb s pb : Nat) (x : NdS) (p : List (Int × Int)) (w : World) (hS : Nds w a n c S) (ha : S ≠ [] → a = some ⟨b, off, none⟩) (hr : w.rangeAt nb no (ndCells x)) (he : Ets w x.2.2 x.1.ents)
    (hby : MpI w bb s (ptrAt b off S)) (hpb : MpI w pb p.length (parF p)) (hne : bb ≠ pb) (hid : ∀ e ∈ x.1.ents, -9223372036854775808 ≤ e.2 ∧ e.2 ≤ 9223372036854775807) (hsz : p.length + x.1.ents.length ≤ 1000000) :
    Calls Try.prog 57 #[.pointer (some ⟨nb, no, none⟩), .map (some bb), .map (some pb)] w (EnterRes w pb (enterE (S.map (·.1)) x.1.id x.1.ents [] p)) := by
  have hdl := hS
  obtain ⟨⟨id, kind, mode, uid, gid, sec, nano, data, target, ents⟩, ds, ea, en, ec⟩ := x
  have HS := Lib.hid hS; have HA := Lib.hid ha; have HR := Lib.hid hr; have HE := Lib.hid he; have HBY := Lib.hid hby; have HPB := Lib.hid hpb; have HID := Lib.hid hid
  have c0 := range_cell hr 0 rfl
  have c9 := range_cell hr 9 rfl
  have hel := he.len; have hecap := he.cap; have hemax := he.max
  simp only at hel hecap hemax c0 c9 hsz HE HID
  have HEL := Lib.hid hel
  clear hS ha hr he hby hpb hid hel hdl
  simp only [Nat.add_zero] at c0
  have hel2 : ents.length = en := HEL.out
  have hsz2 : p.length + en ≤ 1000000 := by rw [← hel2]; exact hsz
  clear hel2 hsz
  simp only
  generalize hR : enterE (S.map (·.1)) id ents [] p = R
  have HRR := Lib.hid hR
  go_enter Try.func57, Try.ntmps57
  go_wp2
  go_loopw [7, 18] (fun nm i wr => ∃ (k : Nat) (last : Bt) (q : List (Int × Int)), k ≤ en ∧ i = .int .i64 k ∧ nm = .string ⟨last.toArray⟩ ∧ Hid (MpI wr pb q.length (parF q)) ∧ Hid (w.grownBy wr (some pb)) ∧ Hid (Keeps w wr) ∧ Hid (enterE (S.map (·.1)) id (ents.drop k) last q = R) ∧ q.length ≤ p.length + k) (fun _ i _ => en - (intOf i).toNat)
  case atStart => exact ⟨0, [], p, Nat.zero_le _, rfl, rfl, HPB, Lib.hid (World.grownBy.refl _ _), Lib.hid (Keeps.refl _), HRR, Nat.le_refl _⟩
  case round =>
    obtain ⟨k, last, q, hk, rfl, rfl, hmp, hgr, hkp, hen, hql⟩ := hrel
    by_cases hlt : k < en
    · have hkl : k < ents.length := by have := HEL.out; omega
      obtain ⟨⟨nm, eid⟩, hxk⟩ := get_some (S := ents) hkl
      obtain ⟨eb, eo, he1, hrow⟩ := Ets.at (HE.out.keep hkp.out) k (nm, eid) hxk
      simp only at he1
      subst he1
      have hide := HID.out _ (mem_get hxk)
      simp only at hide
      have hdrop : ents.drop k = (nm, eid) :: ents.drop (k + 1) := by
        rw [List.drop_eq_getElem_cons hkl]
        rw [(List.getElem?_eq_some_iff.1 hxk).2]
      have hun := hen.out
      rw [hdrop] at hun
      have HUN := Lib.hid hun
      have hby' := HBY.out.kept hgr.out (fun e => hne (Option.some.inj e))
      have HBY' := Lib.hid hby'
      simp only [etCells] at hrow
      have HROW := Lib.hid hrow
      have hkey := key_int (P := Try.prog) Try.underlying3 hide.1 hide.2
      have HKEY := Lib.hid hkey
      clear hxk hrow hdrop hun hby' hkey hen
      cases hnode : nodeOf (S.map (·.1)) eid with
      | none =>
        have hpt := ptr_none (b := b) (off := off) hnode
        have hRn : R = none := by rw [← HUN.out]; simp [enterE, hnode]
        have HRN := Lib.hid hRn
        have HPT : Hid ((ptrAt b off S eid).getD (.pointer none) = .pointer none) := Lib.hid (by rw [hpt]; rfl)
        clear hnode hpt hRn HRR hR
        go_wp2_with (first
          | (refine wpList_load_mid rfl _ _ rfl eb (eo + k * 2) rfl _ _ HROW.out Try.underlying87 rfl (by kernel_rfl) ?_)
          | (at_lookup; refine wpList_mp_look_v rfl _ _ 65 rfl 66 lawI Try.underlying65 (zeroPtr _) rfl (HBY'.out.kept (World.grownBy_alloc _ _ none) (by simp)) _ eid rfl HKEY.out _ HPT.out ?_))
        go_ret
        refine ⟨false, rfl, ?_, by simp [HRN.out], by simp [HRN.out]⟩
        exact hgr.out.trans (World.grownBy_alloc _ _ _)
      | some t =>
        obtain ⟨kk, x', hkk, rfl, hidt, hpt⟩ := ptr_some (b := b) (off := off) hnode
        have HPT : Hid ((ptrAt b off S eid).getD (.pointer none) = .pointer (some ⟨b, off + kk * 10, none⟩)) := Lib.hid (by rw [hpt]; rfl)
        have hct : wr.rangeAt b (off + kk * 10) (ndCells x') := by
          obtain ⟨b', off', ha', hr'⟩ := (HS.out.keep hkp.out).at kk x' hkk
          have h2 := HA.out (by rintro rfl; simp at hkk)
          rw [h2] at ha'
          simp only [Option.some.injEq, Addr.mk.injEq, and_true] at ha'
          obtain ⟨rfl, rfl⟩ := ha'
          exact hr'
        have hc1 : wr.cell? ⟨b, off + kk * 10 + 1, none⟩ = some (.int .i64 x'.1.kind) := range_cell hct 1 rfl
        have HC1 := Lib.hid hc1
        have HG := Lib.hid (fun w => Good_any nm w)
        have hB1 : Below wr.heap.size wr (wr.alloc (.cells #[.string ⟨nm.toArray⟩, .int .i64 eid] 87)) := (Below.refl _ _).alloc (Nat.le_refl _) _
        have HB1 := Lib.hid hB1
        have hpos : off + kk * 10 = off + kk * 10 := rfl
        have hun := HUN.out
        simp only [enterE, hnode] at hun
        generalize hlb : (Op.bytesLess nm last || nm == last) = lb at *
        generalize good nm = gb at *
        generalize x'.1.kind = kd at *
        have HUN2 := Lib.hid hun
        clear hnode hpt hkk hct hc1 hB1 hun HRR hR HUN hidt
        cases gb with
        | false =>
          have HRN : Hid (R = none) := Lib.hid (by rw [← HUN2.out]; simp)
          clear HUN2
          go_wp2_with (first
            | (refine wpList_load_mid rfl _ _ rfl eb (eo + k * 2) rfl _ _ HROW.out Try.underlying87 rfl (by kernel_rfl) ?_)
            | (at_lookup; refine wpList_mp_look_v rfl _ _ 65 rfl 66 lawI Try.underlying65 (zeroPtr _) rfl (HBY'.out.kept (World.grownBy_alloc _ _ none) (by simp)) _ eid rfl HKEY.out _ HPT.out ?_)
            | (go_at_call 64; (refine (HG.out _).mono ?_); rintro r w4 ⟨rfl, hb4⟩))
          go_ret
          refine ⟨false, rfl, ?_, by simp [HRN.out], by simp [HRN.out]⟩
          exact hgr.out.trans (below_grown (Below.seq HB1.out hb4) _)
        | true =>
          cases lb with
          | true =>
            have HRN : Hid (R = none) := Lib.hid (by rw [← HUN2.out]; simp)
            clear HUN2
            go_wp2_with (first
            | (refine wpList_load_mid rfl _ _ rfl eb (eo + k * 2) rfl _ _ HROW.out Try.underlying87 rfl (by kernel_rfl) ?_)
            | (at_lookup; refine wpList_mp_look_v rfl _ _ 65 rfl 66 lawI Try.underlying65 (zeroPtr _) rfl (HBY'.out.kept (World.grownBy_alloc _ _ none) (by simp)) _ eid rfl HKEY.out _ HPT.out ?_)
            | (go_at_call 64; (refine (HG.out _).mono ?_); rintro r w4 ⟨rfl, hb4⟩; have hx0 := box_cell hb4 0 rfl; have hx1 := box_cell hb4 1 rfl; have HB4 := Lib.hid (Below.seq HB1.out hb4); have hx2 := Below.keeps HB4.out _ _ HC1.out; have HMP4 := Lib.hid (hmp.out.kept (below_grown HB4.out none) (by simp))))
            go_ret
            refine ⟨false, rfl, ?_, by simp [HRN.out], by simp [HRN.out]⟩
            exact hgr.out.trans (below_grown HB4.out _)
          | false =>
            by_cases hkd : kd = 2
            · have hk2 : (kd != 2) = false := bne_f hkd
              have HK := Lib.hid hkd
              cases hlk : q.lookup eid with
              | some u =>
                have HRN : Hid (R = none) := Lib.hid (by rw [← HUN2.out]; simp [hkd, hlk])
                have HQ : Hid ((parF q eid).getD (.int .i64 0) = .int .i64 u) := Lib.hid (by simp [parF, hlk])
                have HQ2 : Hid ((parF q eid).isSome = true) := Lib.hid (by simp [parF, hlk])
                clear HUN2 hkd hlk
                go_wp2_with (first
            | (refine wpList_load_mid rfl _ _ rfl eb (eo + k * 2) rfl _ _ HROW.out Try.underlying87 rfl (by kernel_rfl) ?_)
            | (at_lookup; refine wpList_mp_look_v rfl _ _ 65 rfl 66 lawI Try.underlying65 (zeroPtr _) rfl (HBY'.out.kept (World.grownBy_alloc _ _ none) (by simp)) _ eid rfl HKEY.out _ HPT.out ?_)
            | (go_at_call 64; (refine (HG.out _).mono ?_); rintro r w4 ⟨rfl, hb4⟩; have hx0 := box_cell hb4 0 rfl; have hx1 := box_cell hb4 1 rfl; have HB4 := Lib.hid (Below.seq HB1.out hb4); have hx2 := Below.keeps HB4.out _ _ HC1.out; have HMP4 := Lib.hid (hmp.out.kept (below_grown HB4.out none) (by simp)))
            | (at_lookup; refine wpList_mp_look_ok_v rfl _ _ 106 rfl 3 lawI Try.underlying106 (zeroInt _) rfl HMP4.out _ eid rfl HKEY.out _ _ HQ.out HQ2.out ?_))
                go_ret
                refine ⟨false, rfl, ?_, by simp [HRN.out], by simp [HRN.out]⟩
                exact hgr.out.trans (below_grown HB4.out _)
              | none =>
                have HRN : Hid (enterE (S.map (·.1)) id (ents.drop (k + 1)) nm (q ++ [(eid, id)]) = R) := Lib.hid (by rw [← HUN2.out]; simp [hkd, hlk])
                have HQ : Hid ((parF q eid).getD (.int .i64 0) = .int .i64 0) := Lib.hid (by simp [parF, hlk])
                have HQ2 : Hid ((parF q eid).isSome = false) := Lib.hid (by simp [parF, hlk])
                have HUP := Lib.hid (parF_upd q eid id hlk)
                clear HUN2 hkd hlk
                go_wp2_with (first
            | (refine wpList_load_mid rfl _ _ rfl eb (eo + k * 2) rfl _ _ HROW.out Try.underlying87 rfl (by kernel_rfl) ?_)
            | (at_lookup; refine wpList_mp_look_v rfl _ _ 65 rfl 66 lawI Try.underlying65 (zeroPtr _) rfl (HBY'.out.kept (World.grownBy_alloc _ _ none) (by simp)) _ eid rfl HKEY.out _ HPT.out ?_)
            | (go_at_call 64; (refine (HG.out _).mono ?_); rintro r w4 ⟨rfl, hb4⟩; have hx0 := box_cell hb4 0 rfl; have hx1 := box_cell hb4 1 rfl; have HB4 := Lib.hid (Below.seq HB1.out hb4); have hx2 := Below.keeps HB4.out _ _ HC1.out; have HMP4 := Lib.hid (hmp.out.kept (below_grown HB4.out none) (by simp)))
            | (at_lookup; refine wpList_mp_look_ok_v rfl _ _ 106 rfl 3 lawI Try.underlying106 (zeroInt _) rfl HMP4.out _ eid rfl HKEY.out _ _ HQ.out HQ2.out ?_))
                have hc0' : w4.cell? ⟨nb, no, none⟩ = some (.int .i64 id) := Below.keeps HB4.out _ _ (hkp.out _ _ c0)
                go_still_tail 7, (by kernel_rfl)
                change wpList _ _ _ _ _ w4.drew
                go_wp2_with (at_mapUpdate; refine wpList_mp_put rfl _ _ _ 106 rfl 3 lawI Try.underlying106 rfl (HMP4.out.block (w' := w4.drew) rfl) (by unfold maxLen; omega) _ eid rfl HKEY.out _ rfl mkI_inj ?_; intro w5 hm5 hg5; rw [HQ2.out] at hm5)
                have hgd : w4.grownBy w5 (some pb) := ⟨hg5.os, hg5.tape, hg5.output, hg5.size, hg5.block⟩
                have hm6 : MpI w5 pb (q ++ [(eid, id)]).length (parF (q ++ [(eid, id)])) := by
                  rw [List.length_append]
                  exact hm5.congr HUP.out
                exact ⟨⟨k + 1, nm, q ++ [(eid, id)], by omega, by go_num, rfl, Lib.hid hm6, Lib.hid ((hgr.out.trans (below_grown HB4.out _)).trans hgd), Lib.hid ((hkp.out.trans (Below.keeps HB4.out)).trans (HMP4.out.keeps hgd)), HRN, by simp; omega⟩, by simp [intOf]; omega⟩
            · have hk2 : (kd != 2) = true := bne_t hkd
              have HRN : Hid (enterE (S.map (·.1)) id (ents.drop (k + 1)) nm q = R) := Lib.hid (by rw [← HUN2.out]; simp [hkd])
              clear HUN2 hkd
              go_wp2_with (first
            | (refine wpList_load_mid rfl _ _ rfl eb (eo + k * 2) rfl _ _ HROW.out Try.underlying87 rfl (by kernel_rfl) ?_)
            | (at_lookup; refine wpList_mp_look_v rfl _ _ 65 rfl 66 lawI Try.underlying65 (zeroPtr _) rfl (HBY'.out.kept (World.grownBy_alloc _ _ none) (by simp)) _ eid rfl HKEY.out _ HPT.out ?_)
            | (go_at_call 64; (refine (HG.out _).mono ?_); rintro r w4 ⟨rfl, hb4⟩; have hx0 := box_cell hb4 0 rfl; have hx1 := box_cell hb4 1 rfl; have HB4 := Lib.hid (Below.seq HB1.out hb4); have hx2 := Below.keeps HB4.out _ _ HC1.out; have HMP4 := Lib.hid (hmp.out.kept (below_grown HB4.out none) (by simp))))
              exact ⟨⟨k + 1, nm, q, by omega, by go_num, rfl, HMP4, Lib.hid (hgr.out.trans (below_grown HB4.out _)), Lib.hid (hkp.out.trans (Below.keeps HB4.out)), HRN, by omega⟩, by simp [intOf]; omega⟩
    · obtain rfl : k = en := by omega
      have hd : ents.drop k = [] := List.drop_of_length_le (by have := HEL.out; omega)
      have hun := hen.out
      rw [hd] at hun
      simp only [enterE] at hun
      have HU := Lib.hid hun
      clear hd hun hen hR HRR
      go_wp2
      go_ret
      refine ⟨true, rfl, hgr.out, by simp [← HU.out], fun p' hp' => ?_⟩
      rw [← HU.out] at hp'
      cases hp'
      exact hmp.out
end Gr
end Go.Proofs.Ytpdkdhcbibcifaa
