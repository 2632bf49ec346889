/-
  ScrMove: the closures of scribe's entry.
-/
import Derived.Test.YtamgiffkhnfpmaaDoorJ08
import Derived.Test.YtamgiffkhnfpmaaDoorJ05
namespace Go.Proofs.YtamgiffkhnfpmaaDoor
set_option linter.unusedVariables false
set_option linter.unusedSimpArgs false
open Go.ChangeShapes Go.WideShapes Go.ChangeAt Go.RowKit
/-- the header and the pairs of an entry under way -/
structure EnSt (w1 : World) (gh gp : Nat) (h : Hd) (ps : List Pr) (wr : World) : Prop where
  bel : Below w1.heap.size w1 wr
  lh : w1.heap.size ≤ gh
  lp : gh < gp
  rh : wr.heap[gh]? = some (.cells (hdC h) 43 (0, 0))
  rp : ∃ a n c, wr.heap[gp]? = some (.cells #[.slice a n c] 96 (0, 0)) ∧ wr.ownsRow (gp + 1) 98 2 (.slice a n c) n (ps.flatMap prCells)
theorem EnSt.keep {w1 wr w' : World} {gh gp : Nat} {h : Hd} {ps : List Pr} (x : EnSt w1 gh gp h ps wr) (k : Below wr.heap.size wr w') : EnSt w1 gh gp h ps w' := by
  obtain ⟨a, n, c, h1, h2⟩ := x.rp
  refine ⟨Below.seq x.bel k, x.lh, x.lp, by rw [k.block _ (Array.getElem?_eq_some_iff.1 x.rh).1]; exact x.rh, a, n, c, by rw [k.block _ (Array.getElem?_eq_some_iff.1 h1).1]; exact h1, own_keep h2 fun j _ hj => k.block j hj⟩
theorem EnSt.wipe {w1 wr : World} {gh gp : Nat} {h h' : Hd} {ps : List Pr} (x : EnSt w1 gh gp h ps wr) (k : Nat) (v : Value) (e : (hdC h).setIfInBounds k v = hdC h') : EnSt w1 gh gp h' ps (wr.setCell ⟨gh, k, none⟩ v) := by
  obtain ⟨a, n, c, h1, h2⟩ := x.rp
  have l1 := x.lp; have l2 := x.lh
  refine ⟨x.bel.setCell (by simpa using l2) _, l2, l1, by rw [heap_setCell_same _ _ _ _ _ _ x.rh, e], a, n, c, by rw [heap_setCell_other _ _ _ _ (by simp only; omega)]; exact h1, own_keep h2 fun j hj _ => heap_setCell_other _ _ _ _ (by simp only; omega)⟩
theorem WipePath_any (w1 : World) (gh gp : Nat) (h : Hd) (ps : List Pr) (w : World) (hS : EnSt w1 gh gp h ps w) :
    Calls Tryd.prog 54 #[.pointer (some ⟨gh, 0, none⟩)] w fun e w' => e = .returned (.tuple #[]) ∧ EnSt w1 gh gp { h with name := [64] } ps w' := by
  have hw := hS.wipe (h' := { h with name := [64] }) 0 (.string ⟨#[64]⟩) rfl
  have hc : w.cell? ⟨gh, 0, none⟩ = some ((hdC h)[0]'(by rw [hdC_size]; decide)) := by rw [cell_of_row _ _ _ _ _ _ hS.rh]; rfl
  have hf : w.frozen? ⟨gh, 0, none⟩ = false := frozen_of_row _ _ _ _ _ hS.rh
  have HW := Lib.hid hw
  clear hw hS
  go_enter Tryd.func54, Tryd.ntmps54
  go_wp2
  go_end0
  exact ⟨rfl, HW.out⟩
theorem WipeLink_any (w1 : World) (gh gp : Nat) (h : Hd) (ps : List Pr) (w : World) (hS : EnSt w1 gh gp h ps w) :
    Calls Tryd.prog 55 #[.pointer (some ⟨gh, 0, none⟩)] w fun e w' => e = .returned (.tuple #[]) ∧ EnSt w1 gh gp { h with link := [] } ps w' := by
  have hw := hS.wipe (h' := { h with link := [] }) 1 (.string ⟨#[]⟩) rfl
  have hc : w.cell? ⟨gh, 1, none⟩ = some ((hdC h)[1]'(by rw [hdC_size]; decide)) := by rw [cell_of_row _ _ _ _ _ _ hS.rh]; rfl
  have hf : w.frozen? ⟨gh, 1, none⟩ = false := frozen_of_row _ _ _ _ _ hS.rh
  have HW := Lib.hid hw
  clear hw hS
  go_enter Tryd.func55, Tryd.ntmps55
  go_wp2
  go_end0
  exact ⟨rfl, HW.out⟩
theorem WipeUid_any (w1 : World) (gh gp : Nat) (h : Hd) (ps : List Pr) (w : World) (hS : EnSt w1 gh gp h ps w) :
    Calls Tryd.prog 57 #[.pointer (some ⟨gh, 0, none⟩)] w fun e w' => e = .returned (.tuple #[]) ∧ EnSt w1 gh gp { h with uid := 0 } ps w' := by
  have hw := hS.wipe (h' := { h with uid := 0 }) 3 (.int .i64 0) rfl
  have hc : w.cell? ⟨gh, 3, none⟩ = some ((hdC h)[3]'(by rw [hdC_size]; decide)) := by rw [cell_of_row _ _ _ _ _ _ hS.rh]; rfl
  have hf : w.frozen? ⟨gh, 3, none⟩ = false := frozen_of_row _ _ _ _ _ hS.rh
  have HW := Lib.hid hw
  clear hw hS
  go_enter Tryd.func57, Tryd.ntmps57
  go_wp2
  go_end0
  exact ⟨rfl, HW.out⟩
theorem WipeGid_any (w1 : World) (gh gp : Nat) (h : Hd) (ps : List Pr) (w : World) (hS : EnSt w1 gh gp h ps w) :
    Calls Tryd.prog 58 #[.pointer (some ⟨gh, 0, none⟩)] w fun e w' => e = .returned (.tuple #[]) ∧ EnSt w1 gh gp { h with gid := 0 } ps w' := by
  have hw := hS.wipe (h' := { h with gid := 0 }) 4 (.int .i64 0) rfl
  have hc : w.cell? ⟨gh, 4, none⟩ = some ((hdC h)[4]'(by rw [hdC_size]; decide)) := by rw [cell_of_row _ _ _ _ _ _ hS.rh]; rfl
  have hf : w.frozen? ⟨gh, 4, none⟩ = false := frozen_of_row _ _ _ _ _ hS.rh
  have HW := Lib.hid hw
  clear hw hS
  go_enter Tryd.func58, Tryd.ntmps58
  go_wp2
  go_end0
  exact ⟨rfl, HW.out⟩
theorem WipeUser_any (w1 : World) (gh gp : Nat) (h : Hd) (ps : List Pr) (w : World) (hS : EnSt w1 gh gp h ps w) :
    Calls Tryd.prog 59 #[.pointer (some ⟨gh, 0, none⟩)] w fun e w' => e = .returned (.tuple #[]) ∧ EnSt w1 gh gp { h with user := [] } ps w' := by
  have hw := hS.wipe (h' := { h with user := [] }) 8 (.string ⟨#[]⟩) rfl
  have hc : w.cell? ⟨gh, 8, none⟩ = some ((hdC h)[8]'(by rw [hdC_size]; decide)) := by rw [cell_of_row _ _ _ _ _ _ hS.rh]; rfl
  have hf : w.frozen? ⟨gh, 8, none⟩ = false := frozen_of_row _ _ _ _ _ hS.rh
  have HW := Lib.hid hw
  clear hw hS
  go_enter Tryd.func59, Tryd.ntmps59
  go_wp2
  go_end0
  exact ⟨rfl, HW.out⟩
theorem WipeGroup_any (w1 : World) (gh gp : Nat) (h : Hd) (ps : List Pr) (w : World) (hS : EnSt w1 gh gp h ps w) :
    Calls Tryd.prog 60 #[.pointer (some ⟨gh, 0, none⟩)] w fun e w' => e = .returned (.tuple #[]) ∧ EnSt w1 gh gp { h with group := [] } ps w' := by
  have hw := hS.wipe (h' := { h with group := [] }) 9 (.string ⟨#[]⟩) rfl
  have hc : w.cell? ⟨gh, 9, none⟩ = some ((hdC h)[9]'(by rw [hdC_size]; decide)) := by rw [cell_of_row _ _ _ _ _ _ hS.rh]; rfl
  have hf : w.frozen? ⟨gh, 9, none⟩ = false := frozen_of_row _ _ _ _ _ hS.rh
  have HW := Lib.hid hw
  clear hw hS
  go_enter Tryd.func60, Tryd.ntmps60
  go_wp2
  go_end0
  exact ⟨rfl, HW.out⟩
theorem WipeTime_any (w1 : World) (gh gp : Nat) (h : Hd) (ps : List Pr) (w : World) (hS : EnSt w1 gh gp h ps w) :
    Calls Tryd.prog 62 #[.pointer (some ⟨gh, 0, none⟩)] w fun e w' => e = .returned (.tuple #[]) ∧ EnSt w1 gh gp { h with mtime := 0 } ps w' := by
  have hw := hS.wipe (h' := { h with mtime := 0 }) 6 (.int .i64 0) rfl
  have hc : w.cell? ⟨gh, 6, none⟩ = some ((hdC h)[6]'(by rw [hdC_size]; decide)) := by rw [cell_of_row _ _ _ _ _ _ hS.rh]; rfl
  have hf : w.frozen? ⟨gh, 6, none⟩ = false := frozen_of_row _ _ _ _ _ hS.rh
  have HW := Lib.hid hw
  clear hw hS
  go_enter Tryd.func62, Tryd.ntmps62
  go_wp2
  go_end0
  exact ⟨rfl, HW.out⟩
set_option maxRecDepth 100000 in
set_option maxHeartbeats 1600000 in
theorem MovePath_any (key v : List UInt8) (b : Bool) (w1 : World) (gh gp : Nat) (h : Hd) (ps : List Pr) (w : World) (hS : EnSt w1 gh gp h ps w) (hn : (ps.length + 1) * 32 ≤ 140737488355328) :
    Calls Tryd.prog 53 #[.string ⟨key.toArray⟩, .string ⟨v.toArray⟩, .bool b, .func (.func 54) #[] #[.pointer (some ⟨gh, 0, none⟩)], .pointer (some ⟨gp, 0, none⟩)] w
      fun e w' => e = .returned (.tuple #[]) ∧ EnSt w1 gh gp (if b then { h with name := [64] } else h) (ps ++ Plain.one? b (key, v)) w' := by
  cases b with
  | false =>
    go_enter Tryd.func53, Tryd.ntmps53
    go_wp2
    go_end0
    exact ⟨rfl, by simpa [Plain.one?] using hS⟩
  | true =>
    obtain ⟨a, n, c, hp, ho⟩ := hS.rp
    have hl : ps.length = n := by have := ho.1; rw [flat_len prCells_len] at this; omega
    subst hl
    have l1 := hS.lp; have l2 := hS.lh
    have hcp : w.cell? ⟨gp, 0, none⟩ = some (.slice a ps.length c) := by rw [cell_of_row _ _ _ _ _ _ hp]; rfl
    have hb0 := (Below.refl w.heap.size w).alloc (Nat.le_refl _) (.cells #[.string ⟨key.toArray⟩, .string ⟨v.toArray⟩] 98)
    have hnew : IsSl (w.alloc (.cells #[.string ⟨key.toArray⟩, .string ⟨v.toArray⟩] 98)) 2 (some ⟨w.heap.size, 0, none⟩) 1 1 ([(key, v)].flatMap prCells) := by
      have := isSl_new w 98 2 1 #[.string ⟨key.toArray⟩, .string ⟨v.toArray⟩] rfl (by decide)
      simpa [prCells] using this
    have ho1 := own_keep ho (w' := w.alloc (.cells #[.string ⟨key.toArray⟩, .string ⟨v.toArray⟩] 98)) fun j _ hj => hb0.block j hj
    have hgp := (Array.getElem?_eq_some_iff.1 hp).1
    have HS := Lib.hid (hS.keep hb0)
    have HO1 := Lib.hid ho1; have HNW := Lib.hid hnew; have HN := Lib.hid hn; have HF := Lib.hid (fun qs w2 hs => WipePath_any w1 gh gp h qs w2 hs)
    have HP1 : Hid ((w.alloc (.cells #[.string ⟨key.toArray⟩, .string ⟨v.toArray⟩] 98)).heap[gp]? = some (.cells #[.slice a ps.length c] 96 (0, 0))) := Lib.hid (by rw [hb0.block _ hgp]; exact hp)
    have HG := Lib.hid hgp
    clear hS hp ho hb0 hnew ho1 hn hgp
    go_enter Tryd.func53, Tryd.ntmps53
    go_wp2_with (first
      | (at_builtin; refine wpList_app rfl _ _ 96 rfl (gp + 1) 98 _ 2 32 Tryd.underlying96 infoPair rfl (by decide) (by decide) rfl HO1.out rfl HNW.out (prs_oneCell [(key, v)]) (by have := HN.out; omega) (by have := HG.out; simp; omega) ?_
         intro a2 c2 w2 ho2 hg2
         have hne : ∀ j, j ≤ gp → some j ≠ (Value.slice a ps.length c).ownBlock := fun j hj e => by have := (HO1.out.lt j e.symm).1; omega
         have hp2 : w2.heap[gp]? = some (.cells #[.slice a ps.length c] 96 (0, 0)) := by rw [hg2.block _ (by have := HG.out; simp; omega) (hne gp (Nat.le_refl _))]; exact HP1.out
         have hc2 : w2.cell? ⟨gp, 0, none⟩ = some (.slice a ps.length c) := by rw [cell_of_row _ _ _ _ _ _ hp2]; rfl
         have hf2 : w2.frozen? ⟨gp, 0, none⟩ = false := frozen_of_row _ _ _ _ _ hp2
         have HS2 : Hid (EnSt w1 gh gp h (ps ++ [(key, v)]) (w2.setCell ⟨gp, 0, none⟩ (.slice a2 (ps.length + 1) c2))) := Lib.hid ⟨(HS.out.bel.grown hg2 (HS.out.bel.size) (fun k hk => by have := (HO1.out.lt k hk).1; omega)).setCell (by simp only; omega) _, l2, l1,
           by rw [heap_setCell_other _ _ _ _ (by simp only; omega), hg2.block _ (by have := HG.out; simp; omega) (hne gh (by omega))]; exact HS.out.rh,
           a2, ps.length + 1, c2, by rw [heap_setCell_same _ _ _ _ _ _ hp2]; rfl, own_keep (by rw [List.flatMap_append]; exact ho2) fun j hj _ => heap_setCell_other _ _ _ _ (by simp only; omega)⟩
         clear hne hp2 ho2 hg2)
      | (go_at_call 54; refine (HF.out _ _ HS2.out).mono ?_; rintro e w3 ⟨rfl, hs3⟩))
    go_end0
    exact ⟨rfl, by simpa [Plain.one?] using hs3⟩
set_option maxRecDepth 100000 in
set_option maxHeartbeats 1600000 in
theorem MoveLink_any (key v : List UInt8) (b : Bool) (w1 : World) (gh gp : Nat) (h : Hd) (ps : List Pr) (w : World) (hS : EnSt w1 gh gp h ps w) (hn : (ps.length + 1) * 32 ≤ 140737488355328) :
    Calls Tryd.prog 53 #[.string ⟨key.toArray⟩, .string ⟨v.toArray⟩, .bool b, .func (.func 55) #[] #[.pointer (some ⟨gh, 0, none⟩)], .pointer (some ⟨gp, 0, none⟩)] w
      fun e w' => e = .returned (.tuple #[]) ∧ EnSt w1 gh gp (if b then { h with link := [] } else h) (ps ++ Plain.one? b (key, v)) w' := by
  cases b with
  | false =>
    go_enter Tryd.func53, Tryd.ntmps53
    go_wp2
    go_end0
    exact ⟨rfl, by simpa [Plain.one?] using hS⟩
  | true =>
    obtain ⟨a, n, c, hp, ho⟩ := hS.rp
    have hl : ps.length = n := by have := ho.1; rw [flat_len prCells_len] at this; omega
    subst hl
    have l1 := hS.lp; have l2 := hS.lh
    have hcp : w.cell? ⟨gp, 0, none⟩ = some (.slice a ps.length c) := by rw [cell_of_row _ _ _ _ _ _ hp]; rfl
    have hb0 := (Below.refl w.heap.size w).alloc (Nat.le_refl _) (.cells #[.string ⟨key.toArray⟩, .string ⟨v.toArray⟩] 98)
    have hnew : IsSl (w.alloc (.cells #[.string ⟨key.toArray⟩, .string ⟨v.toArray⟩] 98)) 2 (some ⟨w.heap.size, 0, none⟩) 1 1 ([(key, v)].flatMap prCells) := by
      have := isSl_new w 98 2 1 #[.string ⟨key.toArray⟩, .string ⟨v.toArray⟩] rfl (by decide)
      simpa [prCells] using this
    have ho1 := own_keep ho (w' := w.alloc (.cells #[.string ⟨key.toArray⟩, .string ⟨v.toArray⟩] 98)) fun j _ hj => hb0.block j hj
    have hgp := (Array.getElem?_eq_some_iff.1 hp).1
    have HS := Lib.hid (hS.keep hb0)
    have HO1 := Lib.hid ho1; have HNW := Lib.hid hnew; have HN := Lib.hid hn; have HF := Lib.hid (fun qs w2 hs => WipeLink_any w1 gh gp h qs w2 hs)
    have HP1 : Hid ((w.alloc (.cells #[.string ⟨key.toArray⟩, .string ⟨v.toArray⟩] 98)).heap[gp]? = some (.cells #[.slice a ps.length c] 96 (0, 0))) := Lib.hid (by rw [hb0.block _ hgp]; exact hp)
    have HG := Lib.hid hgp
    clear hS hp ho hb0 hnew ho1 hn hgp
    go_enter Tryd.func53, Tryd.ntmps53
    go_wp2_with (first
      | (at_builtin; refine wpList_app rfl _ _ 96 rfl (gp + 1) 98 _ 2 32 Tryd.underlying96 infoPair rfl (by decide) (by decide) rfl HO1.out rfl HNW.out (prs_oneCell [(key, v)]) (by have := HN.out; omega) (by have := HG.out; simp; omega) ?_
         intro a2 c2 w2 ho2 hg2
         have hne : ∀ j, j ≤ gp → some j ≠ (Value.slice a ps.length c).ownBlock := fun j hj e => by have := (HO1.out.lt j e.symm).1; omega
         have hp2 : w2.heap[gp]? = some (.cells #[.slice a ps.length c] 96 (0, 0)) := by rw [hg2.block _ (by have := HG.out; simp; omega) (hne gp (Nat.le_refl _))]; exact HP1.out
         have hc2 : w2.cell? ⟨gp, 0, none⟩ = some (.slice a ps.length c) := by rw [cell_of_row _ _ _ _ _ _ hp2]; rfl
         have hf2 : w2.frozen? ⟨gp, 0, none⟩ = false := frozen_of_row _ _ _ _ _ hp2
         have HS2 : Hid (EnSt w1 gh gp h (ps ++ [(key, v)]) (w2.setCell ⟨gp, 0, none⟩ (.slice a2 (ps.length + 1) c2))) := Lib.hid ⟨(HS.out.bel.grown hg2 (HS.out.bel.size) (fun k hk => by have := (HO1.out.lt k hk).1; omega)).setCell (by simp only; omega) _, l2, l1,
           by rw [heap_setCell_other _ _ _ _ (by simp only; omega), hg2.block _ (by have := HG.out; simp; omega) (hne gh (by omega))]; exact HS.out.rh,
           a2, ps.length + 1, c2, by rw [heap_setCell_same _ _ _ _ _ _ hp2]; rfl, own_keep (by rw [List.flatMap_append]; exact ho2) fun j hj _ => heap_setCell_other _ _ _ _ (by simp only; omega)⟩
         clear hne hp2 ho2 hg2)
      | (go_at_call 55; refine (HF.out _ _ HS2.out).mono ?_; rintro e w3 ⟨rfl, hs3⟩))
    go_end0
    exact ⟨rfl, by simpa [Plain.one?] using hs3⟩
set_option maxRecDepth 100000 in
set_option maxHeartbeats 1600000 in
theorem MoveUid_any (key v : List UInt8) (b : Bool) (w1 : World) (gh gp : Nat) (h : Hd) (ps : List Pr) (w : World) (hS : EnSt w1 gh gp h ps w) (hn : (ps.length + 1) * 32 ≤ 140737488355328) :
    Calls Tryd.prog 53 #[.string ⟨key.toArray⟩, .string ⟨v.toArray⟩, .bool b, .func (.func 57) #[] #[.pointer (some ⟨gh, 0, none⟩)], .pointer (some ⟨gp, 0, none⟩)] w
      fun e w' => e = .returned (.tuple #[]) ∧ EnSt w1 gh gp (if b then { h with uid := 0 } else h) (ps ++ Plain.one? b (key, v)) w' := by
  cases b with
  | false =>
    go_enter Tryd.func53, Tryd.ntmps53
    go_wp2
    go_end0
    exact ⟨rfl, by simpa [Plain.one?] using hS⟩
  | true =>
    obtain ⟨a, n, c, hp, ho⟩ := hS.rp
    have hl : ps.length = n := by have := ho.1; rw [flat_len prCells_len] at this; omega
    subst hl
    have l1 := hS.lp; have l2 := hS.lh
    have hcp : w.cell? ⟨gp, 0, none⟩ = some (.slice a ps.length c) := by rw [cell_of_row _ _ _ _ _ _ hp]; rfl
    have hb0 := (Below.refl w.heap.size w).alloc (Nat.le_refl _) (.cells #[.string ⟨key.toArray⟩, .string ⟨v.toArray⟩] 98)
    have hnew : IsSl (w.alloc (.cells #[.string ⟨key.toArray⟩, .string ⟨v.toArray⟩] 98)) 2 (some ⟨w.heap.size, 0, none⟩) 1 1 ([(key, v)].flatMap prCells) := by
      have := isSl_new w 98 2 1 #[.string ⟨key.toArray⟩, .string ⟨v.toArray⟩] rfl (by decide)
      simpa [prCells] using this
    have ho1 := own_keep ho (w' := w.alloc (.cells #[.string ⟨key.toArray⟩, .string ⟨v.toArray⟩] 98)) fun j _ hj => hb0.block j hj
    have hgp := (Array.getElem?_eq_some_iff.1 hp).1
    have HS := Lib.hid (hS.keep hb0)
    have HO1 := Lib.hid ho1; have HNW := Lib.hid hnew; have HN := Lib.hid hn; have HF := Lib.hid (fun qs w2 hs => WipeUid_any w1 gh gp h qs w2 hs)
    have HP1 : Hid ((w.alloc (.cells #[.string ⟨key.toArray⟩, .string ⟨v.toArray⟩] 98)).heap[gp]? = some (.cells #[.slice a ps.length c] 96 (0, 0))) := Lib.hid (by rw [hb0.block _ hgp]; exact hp)
    have HG := Lib.hid hgp
    clear hS hp ho hb0 hnew ho1 hn hgp
    go_enter Tryd.func53, Tryd.ntmps53
    go_wp2_with (first
      | (at_builtin; refine wpList_app rfl _ _ 96 rfl (gp + 1) 98 _ 2 32 Tryd.underlying96 infoPair rfl (by decide) (by decide) rfl HO1.out rfl HNW.out (prs_oneCell [(key, v)]) (by have := HN.out; omega) (by have := HG.out; simp; omega) ?_
         intro a2 c2 w2 ho2 hg2
         have hne : ∀ j, j ≤ gp → some j ≠ (Value.slice a ps.length c).ownBlock := fun j hj e => by have := (HO1.out.lt j e.symm).1; omega
         have hp2 : w2.heap[gp]? = some (.cells #[.slice a ps.length c] 96 (0, 0)) := by rw [hg2.block _ (by have := HG.out; simp; omega) (hne gp (Nat.le_refl _))]; exact HP1.out
         have hc2 : w2.cell? ⟨gp, 0, none⟩ = some (.slice a ps.length c) := by rw [cell_of_row _ _ _ _ _ _ hp2]; rfl
         have hf2 : w2.frozen? ⟨gp, 0, none⟩ = false := frozen_of_row _ _ _ _ _ hp2
         have HS2 : Hid (EnSt w1 gh gp h (ps ++ [(key, v)]) (w2.setCell ⟨gp, 0, none⟩ (.slice a2 (ps.length + 1) c2))) := Lib.hid ⟨(HS.out.bel.grown hg2 (HS.out.bel.size) (fun k hk => by have := (HO1.out.lt k hk).1; omega)).setCell (by simp only; omega) _, l2, l1,
           by rw [heap_setCell_other _ _ _ _ (by simp only; omega), hg2.block _ (by have := HG.out; simp; omega) (hne gh (by omega))]; exact HS.out.rh,
           a2, ps.length + 1, c2, by rw [heap_setCell_same _ _ _ _ _ _ hp2]; rfl, own_keep (by rw [List.flatMap_append]; exact ho2) fun j hj _ => heap_setCell_other _ _ _ _ (by simp only; omega)⟩
         clear hne hp2 ho2 hg2)
      | (go_at_call 57; refine (HF.out _ _ HS2.out).mono ?_; rintro e w3 ⟨rfl, hs3⟩))
    go_end0
    exact ⟨rfl, by simpa [Plain.one?] using hs3⟩
set_option maxRecDepth 100000 in
set_option maxHeartbeats 1600000 in
theorem MoveGid_any (key v : List UInt8) (b : Bool) (w1 : World) (gh gp : Nat) (h : Hd) (ps : List Pr) (w : World) (hS : EnSt w1 gh gp h ps w) (hn : (ps.length + 1) * 32 ≤ 140737488355328) :
    Calls Tryd.prog 53 #[.string ⟨key.toArray⟩, .string ⟨v.toArray⟩, .bool b, .func (.func 58) #[] #[.pointer (some ⟨gh, 0, none⟩)], .pointer (some ⟨gp, 0, none⟩)] w
      fun e w' => e = .returned (.tuple #[]) ∧ EnSt w1 gh gp (if b then { h with gid := 0 } else h) (ps ++ Plain.one? b (key, v)) w' := by
  cases b with
  | false =>
    go_enter Tryd.func53, Tryd.ntmps53
    go_wp2
    go_end0
    exact ⟨rfl, by simpa [Plain.one?] using hS⟩
  | true =>
    obtain ⟨a, n, c, hp, ho⟩ := hS.rp
    have hl : ps.length = n := by have := ho.1; rw [flat_len prCells_len] at this; omega
    subst hl
    have l1 := hS.lp; have l2 := hS.lh
    have hcp : w.cell? ⟨gp, 0, none⟩ = some (.slice a ps.length c) := by rw [cell_of_row _ _ _ _ _ _ hp]; rfl
    have hb0 := (Below.refl w.heap.size w).alloc (Nat.le_refl _) (.cells #[.string ⟨key.toArray⟩, .string ⟨v.toArray⟩] 98)
    have hnew : IsSl (w.alloc (.cells #[.string ⟨key.toArray⟩, .string ⟨v.toArray⟩] 98)) 2 (some ⟨w.heap.size, 0, none⟩) 1 1 ([(key, v)].flatMap prCells) := by
      have := isSl_new w 98 2 1 #[.string ⟨key.toArray⟩, .string ⟨v.toArray⟩] rfl (by decide)
      simpa [prCells] using this
    have ho1 := own_keep ho (w' := w.alloc (.cells #[.string ⟨key.toArray⟩, .string ⟨v.toArray⟩] 98)) fun j _ hj => hb0.block j hj
    have hgp := (Array.getElem?_eq_some_iff.1 hp).1
    have HS := Lib.hid (hS.keep hb0)
    have HO1 := Lib.hid ho1; have HNW := Lib.hid hnew; have HN := Lib.hid hn; have HF := Lib.hid (fun qs w2 hs => WipeGid_any w1 gh gp h qs w2 hs)
    have HP1 : Hid ((w.alloc (.cells #[.string ⟨key.toArray⟩, .string ⟨v.toArray⟩] 98)).heap[gp]? = some (.cells #[.slice a ps.length c] 96 (0, 0))) := Lib.hid (by rw [hb0.block _ hgp]; exact hp)
    have HG := Lib.hid hgp
    clear hS hp ho hb0 hnew ho1 hn hgp
    go_enter Tryd.func53, Tryd.ntmps53
    go_wp2_with (first
      | (at_builtin; refine wpList_app rfl _ _ 96 rfl (gp + 1) 98 _ 2 32 Tryd.underlying96 infoPair rfl (by decide) (by decide) rfl HO1.out rfl HNW.out (prs_oneCell [(key, v)]) (by have := HN.out; omega) (by have := HG.out; simp; omega) ?_
         intro a2 c2 w2 ho2 hg2
         have hne : ∀ j, j ≤ gp → some j ≠ (Value.slice a ps.length c).ownBlock := fun j hj e => by have := (HO1.out.lt j e.symm).1; omega
         have hp2 : w2.heap[gp]? = some (.cells #[.slice a ps.length c] 96 (0, 0)) := by rw [hg2.block _ (by have := HG.out; simp; omega) (hne gp (Nat.le_refl _))]; exact HP1.out
         have hc2 : w2.cell? ⟨gp, 0, none⟩ = some (.slice a ps.length c) := by rw [cell_of_row _ _ _ _ _ _ hp2]; rfl
         have hf2 : w2.frozen? ⟨gp, 0, none⟩ = false := frozen_of_row _ _ _ _ _ hp2
         have HS2 : Hid (EnSt w1 gh gp h (ps ++ [(key, v)]) (w2.setCell ⟨gp, 0, none⟩ (.slice a2 (ps.length + 1) c2))) := Lib.hid ⟨(HS.out.bel.grown hg2 (HS.out.bel.size) (fun k hk => by have := (HO1.out.lt k hk).1; omega)).setCell (by simp only; omega) _, l2, l1,
           by rw [heap_setCell_other _ _ _ _ (by simp only; omega), hg2.block _ (by have := HG.out; simp; omega) (hne gh (by omega))]; exact HS.out.rh,
           a2, ps.length + 1, c2, by rw [heap_setCell_same _ _ _ _ _ _ hp2]; rfl, own_keep (by rw [List.flatMap_append]; exact ho2) fun j hj _ => heap_setCell_other _ _ _ _ (by simp only; omega)⟩
         clear hne hp2 ho2 hg2)
      | (go_at_call 58; refine (HF.out _ _ HS2.out).mono ?_; rintro e w3 ⟨rfl, hs3⟩))
    go_end0
    exact ⟨rfl, by simpa [Plain.one?] using hs3⟩
set_option maxRecDepth 100000 in
set_option maxHeartbeats 1600000 in
theorem MoveUser_any (key v : List UInt8) (b : Bool) (w1 : World) (gh gp : Nat) (h : Hd) (ps : List Pr) (w : World) (hS : EnSt w1 gh gp h ps w) (hn : (ps.length + 1) * 32 ≤ 140737488355328) :
    Calls Tryd.prog 53 #[.string ⟨key.toArray⟩, .string ⟨v.toArray⟩, .bool b, .func (.func 59) #[] #[.pointer (some ⟨gh, 0, none⟩)], .pointer (some ⟨gp, 0, none⟩)] w
      fun e w' => e = .returned (.tuple #[]) ∧ EnSt w1 gh gp (if b then { h with user := [] } else h) (ps ++ Plain.one? b (key, v)) w' := by
  cases b with
  | false =>
    go_enter Tryd.func53, Tryd.ntmps53
    go_wp2
    go_end0
    exact ⟨rfl, by simpa [Plain.one?] using hS⟩
  | true =>
    obtain ⟨a, n, c, hp, ho⟩ := hS.rp
    have hl : ps.length = n := by have := ho.1; rw [flat_len prCells_len] at this; omega
    subst hl
    have l1 := hS.lp; have l2 := hS.lh
    have hcp : w.cell? ⟨gp, 0, none⟩ = some (.slice a ps.length c) := by rw [cell_of_row _ _ _ _ _ _ hp]; rfl
    have hb0 := (Below.refl w.heap.size w).alloc (Nat.le_refl _) (.cells #[.string ⟨key.toArray⟩, .string ⟨v.toArray⟩] 98)
    have hnew : IsSl (w.alloc (.cells #[.string ⟨key.toArray⟩, .string ⟨v.toArray⟩] 98)) 2 (some ⟨w.heap.size, 0, none⟩) 1 1 ([(key, v)].flatMap prCells) := by
      have := isSl_new w 98 2 1 #[.string ⟨key.toArray⟩, .string ⟨v.toArray⟩] rfl (by decide)
      simpa [prCells] using this
    have ho1 := own_keep ho (w' := w.alloc (.cells #[.string ⟨key.toArray⟩, .string ⟨v.toArray⟩] 98)) fun j _ hj => hb0.block j hj
    have hgp := (Array.getElem?_eq_some_iff.1 hp).1
    have HS := Lib.hid (hS.keep hb0)
    have HO1 := Lib.hid ho1; have HNW := Lib.hid hnew; have HN := Lib.hid hn; have HF := Lib.hid (fun qs w2 hs => WipeUser_any w1 gh gp h qs w2 hs)
    have HP1 : Hid ((w.alloc (.cells #[.string ⟨key.toArray⟩, .string ⟨v.toArray⟩] 98)).heap[gp]? = some (.cells #[.slice a ps.length c] 96 (0, 0))) := Lib.hid (by rw [hb0.block _ hgp]; exact hp)
    have HG := Lib.hid hgp
    clear hS hp ho hb0 hnew ho1 hn hgp
    go_enter Tryd.func53, Tryd.ntmps53
    go_wp2_with (first
      | (at_builtin; refine wpList_app rfl _ _ 96 rfl (gp + 1) 98 _ 2 32 Tryd.underlying96 infoPair rfl (by decide) (by decide) rfl HO1.out rfl HNW.out (prs_oneCell [(key, v)]) (by have := HN.out; omega) (by have := HG.out; simp; omega) ?_
         intro a2 c2 w2 ho2 hg2
         have hne : ∀ j, j ≤ gp → some j ≠ (Value.slice a ps.length c).ownBlock := fun j hj e => by have := (HO1.out.lt j e.symm).1; omega
         have hp2 : w2.heap[gp]? = some (.cells #[.slice a ps.length c] 96 (0, 0)) := by rw [hg2.block _ (by have := HG.out; simp; omega) (hne gp (Nat.le_refl _))]; exact HP1.out
         have hc2 : w2.cell? ⟨gp, 0, none⟩ = some (.slice a ps.length c) := by rw [cell_of_row _ _ _ _ _ _ hp2]; rfl
         have hf2 : w2.frozen? ⟨gp, 0, none⟩ = false := frozen_of_row _ _ _ _ _ hp2
         have HS2 : Hid (EnSt w1 gh gp h (ps ++ [(key, v)]) (w2.setCell ⟨gp, 0, none⟩ (.slice a2 (ps.length + 1) c2))) := Lib.hid ⟨(HS.out.bel.grown hg2 (HS.out.bel.size) (fun k hk => by have := (HO1.out.lt k hk).1; omega)).setCell (by simp only; omega) _, l2, l1,
           by rw [heap_setCell_other _ _ _ _ (by simp only; omega), hg2.block _ (by have := HG.out; simp; omega) (hne gh (by omega))]; exact HS.out.rh,
           a2, ps.length + 1, c2, by rw [heap_setCell_same _ _ _ _ _ _ hp2]; rfl, own_keep (by rw [List.flatMap_append]; exact ho2) fun j hj _ => heap_setCell_other _ _ _ _ (by simp only; omega)⟩
         clear hne hp2 ho2 hg2)
      | (go_at_call 59; refine (HF.out _ _ HS2.out).mono ?_; rintro e w3 ⟨rfl, hs3⟩))
    go_end0
    exact ⟨rfl, by simpa [Plain.one?] using hs3⟩
set_option maxRecDepth 100000 in
set_option maxHeartbeats 1600000 in
theorem MoveGroup_any (key v : List UInt8) (b : Bool) (w1 : World) (gh gp : Nat) (h : Hd) (ps : List Pr) (w : World) (hS : EnSt w1 gh gp h ps w) (hn : (ps.length + 1) * 32 ≤ 140737488355328) :
    Calls Tryd.prog 53 #[.string ⟨key.toArray⟩, .string ⟨v.toArray⟩, .bool b, .func (.func 60) #[] #[.pointer (some ⟨gh, 0, none⟩)], .pointer (some ⟨gp, 0, none⟩)] w
      fun e w' => e = .returned (.tuple #[]) ∧ EnSt w1 gh gp (if b then { h with group := [] } else h) (ps ++ Plain.one? b (key, v)) w' := by
  cases b with
  | false =>
    go_enter Tryd.func53, Tryd.ntmps53
    go_wp2
    go_end0
    exact ⟨rfl, by simpa [Plain.one?] using hS⟩
  | true =>
    obtain ⟨a, n, c, hp, ho⟩ := hS.rp
    have hl : ps.length = n := by have := ho.1; rw [flat_len prCells_len] at this; omega
    subst hl
    have l1 := hS.lp; have l2 := hS.lh
    have hcp : w.cell? ⟨gp, 0, none⟩ = some (.slice a ps.length c) := by rw [cell_of_row _ _ _ _ _ _ hp]; rfl
    have hb0 := (Below.refl w.heap.size w).alloc (Nat.le_refl _) (.cells #[.string ⟨key.toArray⟩, .string ⟨v.toArray⟩] 98)
    have hnew : IsSl (w.alloc (.cells #[.string ⟨key.toArray⟩, .string ⟨v.toArray⟩] 98)) 2 (some ⟨w.heap.size, 0, none⟩) 1 1 ([(key, v)].flatMap prCells) := by
      have := isSl_new w 98 2 1 #[.string ⟨key.toArray⟩, .string ⟨v.toArray⟩] rfl (by decide)
      simpa [prCells] using this
    have ho1 := own_keep ho (w' := w.alloc (.cells #[.string ⟨key.toArray⟩, .string ⟨v.toArray⟩] 98)) fun j _ hj => hb0.block j hj
    have hgp := (Array.getElem?_eq_some_iff.1 hp).1
    have HS := Lib.hid (hS.keep hb0)
    have HO1 := Lib.hid ho1; have HNW := Lib.hid hnew; have HN := Lib.hid hn; have HF := Lib.hid (fun qs w2 hs => WipeGroup_any w1 gh gp h qs w2 hs)
    have HP1 : Hid ((w.alloc (.cells #[.string ⟨key.toArray⟩, .string ⟨v.toArray⟩] 98)).heap[gp]? = some (.cells #[.slice a ps.length c] 96 (0, 0))) := Lib.hid (by rw [hb0.block _ hgp]; exact hp)
    have HG := Lib.hid hgp
    clear hS hp ho hb0 hnew ho1 hn hgp
    go_enter Tryd.func53, Tryd.ntmps53
    go_wp2_with (first
      | (at_builtin; refine wpList_app rfl _ _ 96 rfl (gp + 1) 98 _ 2 32 Tryd.underlying96 infoPair rfl (by decide) (by decide) rfl HO1.out rfl HNW.out (prs_oneCell [(key, v)]) (by have := HN.out; omega) (by have := HG.out; simp; omega) ?_
         intro a2 c2 w2 ho2 hg2
         have hne : ∀ j, j ≤ gp → some j ≠ (Value.slice a ps.length c).ownBlock := fun j hj e => by have := (HO1.out.lt j e.symm).1; omega
         have hp2 : w2.heap[gp]? = some (.cells #[.slice a ps.length c] 96 (0, 0)) := by rw [hg2.block _ (by have := HG.out; simp; omega) (hne gp (Nat.le_refl _))]; exact HP1.out
         have hc2 : w2.cell? ⟨gp, 0, none⟩ = some (.slice a ps.length c) := by rw [cell_of_row _ _ _ _ _ _ hp2]; rfl
         have hf2 : w2.frozen? ⟨gp, 0, none⟩ = false := frozen_of_row _ _ _ _ _ hp2
         have HS2 : Hid (EnSt w1 gh gp h (ps ++ [(key, v)]) (w2.setCell ⟨gp, 0, none⟩ (.slice a2 (ps.length + 1) c2))) := Lib.hid ⟨(HS.out.bel.grown hg2 (HS.out.bel.size) (fun k hk => by have := (HO1.out.lt k hk).1; omega)).setCell (by simp only; omega) _, l2, l1,
           by rw [heap_setCell_other _ _ _ _ (by simp only; omega), hg2.block _ (by have := HG.out; simp; omega) (hne gh (by omega))]; exact HS.out.rh,
           a2, ps.length + 1, c2, by rw [heap_setCell_same _ _ _ _ _ _ hp2]; rfl, own_keep (by rw [List.flatMap_append]; exact ho2) fun j hj _ => heap_setCell_other _ _ _ _ (by simp only; omega)⟩
         clear hne hp2 ho2 hg2)
      | (go_at_call 60; refine (HF.out _ _ HS2.out).mono ?_; rintro e w3 ⟨rfl, hs3⟩))
    go_end0
    exact ⟨rfl, by simpa [Plain.one?] using hs3⟩
set_option maxRecDepth 100000 in
set_option maxHeartbeats 1600000 in
theorem MoveTime_any (key v : List UInt8) (b : Bool) (w1 : World) (gh gp : Nat) (h : Hd) (ps : List Pr) (w : World) (hS : EnSt w1 gh gp h ps w) (hn : (ps.length + 1) * 32 ≤ 140737488355328) :
    Calls Tryd.prog 53 #[.string ⟨key.toArray⟩, .string ⟨v.toArray⟩, .bool b, .func (.func 62) #[] #[.pointer (some ⟨gh, 0, none⟩)], .pointer (some ⟨gp, 0, none⟩)] w
      fun e w' => e = .returned (.tuple #[]) ∧ EnSt w1 gh gp (if b then { h with mtime := 0 } else h) (ps ++ Plain.one? b (key, v)) w' := by
  cases b with
  | false =>
    go_enter Tryd.func53, Tryd.ntmps53
    go_wp2
    go_end0
    exact ⟨rfl, by simpa [Plain.one?] using hS⟩
  | true =>
    obtain ⟨a, n, c, hp, ho⟩ := hS.rp
    have hl : ps.length = n := by have := ho.1; rw [flat_len prCells_len] at this; omega
    subst hl
    have l1 := hS.lp; have l2 := hS.lh
    have hcp : w.cell? ⟨gp, 0, none⟩ = some (.slice a ps.length c) := by rw [cell_of_row _ _ _ _ _ _ hp]; rfl
    have hb0 := (Below.refl w.heap.size w).alloc (Nat.le_refl _) (.cells #[.string ⟨key.toArray⟩, .string ⟨v.toArray⟩] 98)
    have hnew : IsSl (w.alloc (.cells #[.string ⟨key.toArray⟩, .string ⟨v.toArray⟩] 98)) 2 (some ⟨w.heap.size, 0, none⟩) 1 1 ([(key, v)].flatMap prCells) := by
      have := isSl_new w 98 2 1 #[.string ⟨key.toArray⟩, .string ⟨v.toArray⟩] rfl (by decide)
      simpa [prCells] using this
    have ho1 := own_keep ho (w' := w.alloc (.cells #[.string ⟨key.toArray⟩, .string ⟨v.toArray⟩] 98)) fun j _ hj => hb0.block j hj
    have hgp := (Array.getElem?_eq_some_iff.1 hp).1
    have HS := Lib.hid (hS.keep hb0)
    have HO1 := Lib.hid ho1; have HNW := Lib.hid hnew; have HN := Lib.hid hn; have HF := Lib.hid (fun qs w2 hs => WipeTime_any w1 gh gp h qs w2 hs)
    have HP1 : Hid ((w.alloc (.cells #[.string ⟨key.toArray⟩, .string ⟨v.toArray⟩] 98)).heap[gp]? = some (.cells #[.slice a ps.length c] 96 (0, 0))) := Lib.hid (by rw [hb0.block _ hgp]; exact hp)
    have HG := Lib.hid hgp
    clear hS hp ho hb0 hnew ho1 hn hgp
    go_enter Tryd.func53, Tryd.ntmps53
    go_wp2_with (first
      | (at_builtin; refine wpList_app rfl _ _ 96 rfl (gp + 1) 98 _ 2 32 Tryd.underlying96 infoPair rfl (by decide) (by decide) rfl HO1.out rfl HNW.out (prs_oneCell [(key, v)]) (by have := HN.out; omega) (by have := HG.out; simp; omega) ?_
         intro a2 c2 w2 ho2 hg2
         have hne : ∀ j, j ≤ gp → some j ≠ (Value.slice a ps.length c).ownBlock := fun j hj e => by have := (HO1.out.lt j e.symm).1; omega
         have hp2 : w2.heap[gp]? = some (.cells #[.slice a ps.length c] 96 (0, 0)) := by rw [hg2.block _ (by have := HG.out; simp; omega) (hne gp (Nat.le_refl _))]; exact HP1.out
         have hc2 : w2.cell? ⟨gp, 0, none⟩ = some (.slice a ps.length c) := by rw [cell_of_row _ _ _ _ _ _ hp2]; rfl
         have hf2 : w2.frozen? ⟨gp, 0, none⟩ = false := frozen_of_row _ _ _ _ _ hp2
         have HS2 : Hid (EnSt w1 gh gp h (ps ++ [(key, v)]) (w2.setCell ⟨gp, 0, none⟩ (.slice a2 (ps.length + 1) c2))) := Lib.hid ⟨(HS.out.bel.grown hg2 (HS.out.bel.size) (fun k hk => by have := (HO1.out.lt k hk).1; omega)).setCell (by simp only; omega) _, l2, l1,
           by rw [heap_setCell_other _ _ _ _ (by simp only; omega), hg2.block _ (by have := HG.out; simp; omega) (hne gh (by omega))]; exact HS.out.rh,
           a2, ps.length + 1, c2, by rw [heap_setCell_same _ _ _ _ _ _ hp2]; rfl, own_keep (by rw [List.flatMap_append]; exact ho2) fun j hj _ => heap_setCell_other _ _ _ _ (by simp only; omega)⟩
         clear hne hp2 ho2 hg2)
      | (go_at_call 62; refine (HF.out _ _ HS2.out).mono ?_; rintro e w3 ⟨rfl, hs3⟩))
    go_end0
    exact ⟨rfl, by simpa [Plain.one?] using hs3⟩
end Go.Proofs.YtamgiffkhnfpmaaDoor
