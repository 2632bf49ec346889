/-
  RefEnt: the reference's one.
-/
import Derived.Test.YtamgiffkhnfpmaaGreatDoorJ11
import Derived.StillTailTactics
namespace Go.Proofs.YtamgiffkhnfpmaaGreatDoor
set_option linter.unusedVariables false
set_option linter.unusedSimpArgs false
open Go.ChangeShapes Go.WideShapes Go.ChangeAt Go.RowKit
/-- the header and the pairs of an entry under way -/
structure RSt (w1 : World) (gh : Nat) (h : Hd) (ps : List Pr) (a : Option Addr) (n c : Nat) (wr : World) : Prop where
  bel : Below w1.heap.size w1 wr
  lh : w1.heap.size ≤ gh
  rh : wr.heap[gh]? = some (.cells (hdC h) 51 (0, 0))
  own : wr.ownsRow (gh + 1) 54 2 (.slice a n c) n (ps.flatMap prCells)
theorem RSt.keep {w1 wr w' : World} {gh : Nat} {h : Hd} {ps : List Pr} {a : Option Addr} {n c : Nat} (x : RSt w1 gh h ps a n c wr) (k : Below wr.heap.size wr w') : RSt w1 gh h ps a n c w' :=
  ⟨Below.seq x.bel k, x.lh, by rw [k.block _ (Array.getElem?_eq_some_iff.1 x.rh).1]; exact x.rh, own_keep x.own fun j _ hj => k.block j hj⟩
theorem RSt.wipe {w1 wr : World} {gh : Nat} {h h' : Hd} {ps : List Pr} {a : Option Addr} {n c : Nat} (x : RSt w1 gh h ps a n c wr) (k : Nat) (v : Value) (e : (hdC h).setIfInBounds k v = hdC h') : RSt w1 gh h' ps a n c (wr.setCell ⟨gh, k, none⟩ v) :=
  ⟨x.bel.setCell (by simpa using x.lh) _, x.lh, by rw [heap_setCell_same _ _ _ _ _ _ x.rh, e], own_keep x.own fun j hj _ => heap_setCell_other _ _ _ _ (by simp only; omega)⟩
theorem RSt.app {w1 wr w2 : World} {gh : Nat} {h : Hd} {ps : List Pr} {a a2 : Option Addr} {n c c2 : Nat} (x : RSt w1 gh h ps a n c wr) (p : Pr) {cs : Array Value}
    (ho2 : w2.ownsRow (gh + 1) 54 2 (.slice a2 (n + 1) c2) (n + 1) (ps.flatMap prCells ++ [p].flatMap prCells)) (hg2 : (wr.alloc (.cells cs 54)).grownBy w2 (Value.slice a n c).ownBlock) : RSt w1 gh h (ps ++ [p]) a2 (n + 1) c2 w2 := by
  have hgh := (Array.getElem?_eq_some_iff.1 x.rh).1
  have l1 := x.lh; have l2 := x.bel.size
  have hsz : (wr.alloc (.cells cs 54)).heap.size = wr.heap.size + 1 := by simp
  refine ⟨(x.bel.alloc l2 _).grown hg2 (by rw [hsz]; omega) (fun k hk => by have := (x.own.lt k hk).1; omega), l1, ?_, by rw [List.flatMap_append]; exact ho2⟩
  rw [hg2.block _ (by rw [hsz]; omega) (fun e => by have := (x.own.lt gh e.symm).1; omega), heap_alloc_old _ _ hgh]
  exact x.rh
theorem RSt.plen {w1 wr : World} {gh : Nat} {h : Hd} {ps : List Pr} {a : Option Addr} {n c : Nat} (x : RSt w1 gh h ps a n c wr) : ps.length = n := by have := x.own.1; rw [flat_len prCells_len] at this; omega
theorem RSt.cell {w1 wr : World} {gh : Nat} {h : Hd} {ps : List Pr} {a : Option Addr} {n c : Nat} (x : RSt w1 gh h ps a n c wr) (k : Nat) : wr.cell? ⟨gh, k, none⟩ = (hdC h)[k]? := cell_of_row _ _ _ _ _ _ x.rh
theorem RSt.free {w1 wr : World} {gh : Nat} {h : Hd} {ps : List Pr} {a : Option Addr} {n c : Nat} (x : RSt w1 gh h ps a n c wr) (k : Nat) : wr.frozen? ⟨gh, k, none⟩ = false := frozen_of_row _ _ _ _ _ x.rh
theorem RSt.ecell {w1 wr : World} {gh ge : Nat} {h : Hd} {ps : List Pr} {a : Option Addr} {n c : Nat} {cs : Array Value} {t : TypeId} (x : RSt w1 gh h ps a n c wr) (he : w1.heap[ge]? = some (.cells cs t (0, 0))) (k : Nat) : wr.cell? ⟨ge, k, none⟩ = cs[k]? := by
  rw [cell_of_row _ _ _ _ _ _ (show wr.heap[ge]? = _ by rw [x.bel.block _ (Array.getElem?_eq_some_iff.1 he).1]; exact he)]
theorem pr_new (w : World) (p : Pr) : IsSl (w.alloc (.cells #[.string ⟨p.1.toArray⟩, .string ⟨p.2.toArray⟩] 54)) 2 (some ⟨w.heap.size, 0, none⟩) 1 1 ([p].flatMap prCells) := by
  have := isSl_new w 54 2 1 #[.string ⟨p.1.toArray⟩, .string ⟨p.2.toArray⟩] rfl (by decide)
  simpa [prCells] using this
theorem RSt.ow {w1 wr : World} {gh : Nat} {h : Hd} {ps : List Pr} {a : Option Addr} {n c : Nat} (x : RSt w1 gh h ps a n c wr) (cs : Array Value) : (wr.alloc (.cells cs 54)).ownsRow (gh + 1) 54 2 (.slice a n c) n (ps.flatMap prCells) := x.own.alloc _
theorem RSt.lt {w1 wr : World} {gh : Nat} {h : Hd} {ps : List Pr} {a : Option Addr} {n c : Nat} (x : RSt w1 gh h ps a n c wr) (cs : Array Value) : gh + 1 ≤ (wr.alloc (.cells cs 54)).heap.size := by
  have := (Array.getElem?_eq_some_iff.1 x.rh).1; simp; omega
set_option maxRecDepth 100000 in
set_option maxHeartbeats 3200000 in
theorem RefEnt_any (e : En) (hfit : EnFit e) (ad : Option Addr) (nd cd : Nat) (w : World) (hd : Bs w ad nd cd e.data) (hn : nd ≤ 1048576) :
    Calls Tryz.prog 16 #[.agg (enC e ad nd cd)] w (NewBs w (Plain.enc e)) := by
  have hb0 := (Below.refl w.heap.size w).alloc (Nat.le_refl _) (.cells (enC e ad nd cd) 36)
  have hrow : (w.alloc (.cells (enC e ad nd cd) 36)).heap[w.heap.size]? = some (.cells (enC e ad nd cd) 36 (0, 0)) := heap_alloc_new w _
  have hge : Hid (w.heap.size < (w.alloc (.cells (enC e ad nd cd) 36)).heap.size) := Lib.hid (by simp)
  have HB0 := Lib.hid hb0; have HE := Lib.hid hrow; have HD := Lib.hid hd; have HN := Lib.hid hn
  clear hb0 hrow hd hn
  go_enter Tryz.func16, Tryz.ntmps16
  go_upto_region 1 with (with_reducible refine wpList_box_agg rfl _ _ rfl (enC e ad nd cd) rfl ?_)
  generalize w.alloc (.cells (enC e ad nd cd) 36) = w1 at *
  go_upto_region 2 with fail
  have HR2 : Hid ((w1.alloc (.cells #[.int .u8 0, .int .u8 48, .int .u8 53, .int .u8 50, .int .u8 49] 64)).heap[w1.heap.size]? = some (.cells #[.int .u8 0, .int .u8 48, .int .u8 53, .int .u8 50, .int .u8 49] 64 (0, 0))) := Lib.hid (heap_alloc_new w1 _)
  have HB2 : Hid (Below w1.heap.size w1 (w1.alloc (.cells #[.int .u8 0, .int .u8 48, .int .u8 53, .int .u8 50, .int .u8 49] 64))) := Lib.hid ((Below.refl _ _).alloc (Nat.le_refl _) _)
  have HZ2 : Hid ((w1.alloc (.cells #[.int .u8 0, .int .u8 48, .int .u8 53, .int .u8 50, .int .u8 49] 64)).heap.size = w1.heap.size + 1) := Lib.hid (by simp)
  generalize w1.alloc (.cells #[.int .u8 0, .int .u8 48, .int .u8 53, .int .u8 50, .int .u8 49] 64) = w2 at *
  generalize hga : w1.heap.size = ga at *
  have HGA := Lib.hid hga; clear hga
  have he : ∀ k, w2.cell? ⟨w.heap.size, k, none⟩ = (enC e ad nd cd)[k]? := fun k => cell_of_row _ _ _ _ _ _ (show w2.heap[w.heap.size]? = _ by rw [HB2.out.block _ hge.out]; exact HE.out)
  obtain ⟨kn, hkn⟩ : ∃ kn : Nat, e.kind = (kn : Int) := ⟨e.kind.toNat, by have := hfit.k1; omega⟩
  have hk5 : kn < 5 := by have := hfit.k4; omega
  have hk5i : (kn : Int) < 5 := by omega
  have hk0i : (0 : Int) ≤ (kn : Int) := by omega
  have hty : w2.cell? ⟨ga, kn, none⟩ = some (.int .u8 ((Plain.tyOf e.kind).toNat : Int)) := by
    rw [cell_of_row _ _ _ _ _ _ HR2.out, hkn]
    have h1 := hfit.k1
    rcases (by omega : kn = 1 ∨ kn = 2 ∨ kn = 3 ∨ kn = 4) with rfl | rfl | rfl | rfl <;> rfl
  have hc0 : w2.cell? ⟨w.heap.size, 0, none⟩ = some (.int .i64 (kn : Int)) := by rw [← hkn]; exact he 0
  have hc1 : w2.cell? ⟨w.heap.size, 1, none⟩ = some (.string ⟨e.name.toArray⟩) := by exact he 1
  have hc2 : w2.cell? ⟨w.heap.size, 2, none⟩ = some (.string ⟨e.link.toArray⟩) := by exact he 2
  have hc3 : w2.cell? ⟨w.heap.size, 3, none⟩ = some (.int .i64 e.mode) := by exact he 3
  have hc4 : w2.cell? ⟨w.heap.size, 4, none⟩ = some (.int .i64 e.uid) := by exact he 4
  have hc5 : w2.cell? ⟨w.heap.size, 5, none⟩ = some (.int .i64 e.gid) := by exact he 5
  have hc6 : w2.cell? ⟨w.heap.size, 6, none⟩ = some (.string ⟨e.user.toArray⟩) := by exact he 6
  have hc7 : w2.cell? ⟨w.heap.size, 7, none⟩ = some (.string ⟨e.group.toArray⟩) := by exact he 7
  have hc8 : w2.cell? ⟨w.heap.size, 8, none⟩ = some (.int .i64 e.sec) := by exact he 8
  clear he
  generalize hT : Plain.tyOf e.kind = T at *
  have HTY := Lib.hid hT; clear hT
  have nc0 := World.new_ne w2.drew _ hc0
  have nc1 := World.new_ne w2.drew _ hc1
  have nc2 := World.new_ne w2.drew _ hc2
  have nc3 := World.new_ne w2.drew _ hc3
  have nc4 := World.new_ne w2.drew _ hc4
  have nc5 := World.new_ne w2.drew _ hc5
  have nc6 := World.new_ne w2.drew _ hc6
  have nc7 := World.new_ne w2.drew _ hc7
  have nc8 := World.new_ne w2.drew _ hc8
  have nty := World.new_ne w2.drew _ hty
  go_region_held3 (fun w' => w'.cell? ⟨w.heap.size, 0, none⟩ = some (.int .i64 (kn : Int)) ∧ w'.cell? ⟨w.heap.size, 1, none⟩ = some (.string ⟨e.name.toArray⟩) ∧ w'.cell? ⟨w.heap.size, 2, none⟩ = some (.string ⟨e.link.toArray⟩) ∧ w'.cell? ⟨w.heap.size, 3, none⟩ = some (.int .i64 e.mode) ∧ w'.cell? ⟨w.heap.size, 4, none⟩ = some (.int .i64 e.uid) ∧ w'.cell? ⟨w.heap.size, 5, none⟩ = some (.int .i64 e.gid) ∧ w'.cell? ⟨w.heap.size, 6, none⟩ = some (.string ⟨e.user.toArray⟩) ∧ w'.cell? ⟨w.heap.size, 7, none⟩ = some (.string ⟨e.group.toArray⟩) ∧ w'.cell? ⟨w.heap.size, 8, none⟩ = some (.int .i64 e.sec) ∧ w'.cell? ⟨ga, kn, none⟩ = some (.int .u8 (T.toNat : Int))) (first | exact ⟨hc0, hc1, hc2, hc3, hc4, hc5, hc6, hc7, hc8, hty⟩ | go_keep) (fail)
  clear hc0 hc1 hc2 hc3 hc4 hc5 hc6 hc7 hc8 hty nc0 nc1 nc2 nc3 nc4 nc5 nc6 nc7 nc8 nty hk5i hk0i hk5 hkn
  generalize hh0 : Plain.hd0 e = h0 at *
  have HH0 := Lib.hid hh0
  have HR3 : Hid ((w2.alloc (.cells (hdC h0) 51)).drew.heap[w2.heap.size]? = some (.cells (hdC h0) 51 (0, 0))) := Lib.hid (heap_alloc_new w2 _)
  have HB3 : Hid (Below w1.heap.size w1 (w2.alloc (.cells (hdC h0) 51)).drew) := Lib.hid (by rw [HGA.out]; exact (HB2.out.alloc (by rw [HZ2.out]; omega) _).drew)
  have HZ3 : Hid ((w2.alloc (.cells (hdC h0) 51)).drew.heap.size = w2.heap.size + 1) := Lib.hid (by simp)
  have HL3 : Hid (w1.heap.size ≤ w2.heap.size) := Lib.hid (by rw [HZ2.out, HGA.out]; omega)
  have hdc : hdC h0 = #[.string ⟨e.name.toArray⟩, .string ⟨e.link.toArray⟩, .int .i64 e.mode, .int .i64 e.uid, .int .i64 e.gid, .int .i64 0, .int .i64 e.sec, .int .u8 (T.toNat : Int), .string ⟨e.user.toArray⟩, .string ⟨e.group.toArray⟩, .int .i64 0, .int .i64 0, .int .i64 0] := by rw [← hh0, ← HTY.out]; rfl
  rw [← hdc]
  clear hdc hh0 HTY
  generalize (w2.alloc (.cells (hdC h0) 51)).drew = w3 at *
  generalize w2.heap.size = gh at *
  clear HB2 HR2 HZ2
  go_upto_region 4 with fail
  have HS4 : Hid (RSt w1 gh h0 [] (some ⟨gh + 1, 0, none⟩) 0 0 (w3.alloc (.cells #[] 54))) := Lib.hid ⟨HB3.out.alloc HB3.out.size _, HL3.out, by rw [heap_alloc_old _ _ (by rw [HZ3.out]; omega)]; exact HR3.out, by have := World.ownsRow_lit (base := gh + 1) (e := 54) (size := 2) w3 #[] 0 (by rw [HZ3.out]; exact Nat.le_refl _) (by decide) rfl; rw [HZ3.out] at this; exact this⟩
  have hz3 : w3.heap.size = gh + 1 := HZ3.out
  rw [hz3]
  clear hz3
  generalize w3.alloc (.cells #[] 54) = w4 at *
  clear HR3 HB3 HZ3 HL3
  have HSP := Lib.hid (fun w => RefSplit_any e.name w (by have := hfit.name; omega))
  have HW1 := Lib.hid (show Plain.wPath e = decide ((Plain.split e.name).2.2 ≠ 0) from rfl)
  generalize Plain.split e.name = sp at *
  obtain ⟨sp1, sp2, sp3⟩ := sp
  have hcA : w4.cell? ⟨w.heap.size, 1, none⟩ = some (.string ⟨e.name.toArray⟩) := HS4.out.ecell HE.out 1
  go_upto_region 5 with (go_at_call 37; (refine (HSP.out w4).mono ?_); rintro r w5 ⟨rfl, hb5⟩; have HS5 := Lib.hid (HS4.out.keep hb5); clear hb5; simp only [splitV])
  clear hcA HS4 HSP
  have HL5 : Hid (([] : List Pr).length ≤ 0) := Lib.hid (Nat.le_refl _)
  generalize hnil : ([] : List Pr) = ps5 at *
  have HNIL := Lib.hid hnil; clear hnil
  generalize hq : (some ⟨gh + 1, 0, none⟩ : Option Addr) = a5 at *
  clear hq
  have hcA : w5.cell? ⟨w.heap.size, 1, none⟩ = some (.string ⟨e.name.toArray⟩) := HS5.out.ecell HE.out 1
  go_upto_if 46 with fail
  clear hcA
  go_cut [5] (fun s5 wx => ∃ a n c, s5 = .slice a n c ∧ Hid (RSt w1 gh (if Plain.wPath e = true then { h0 with name := [64] } else h0) (ps5 ++ Plain.one? (Plain.wPath e) (kPath, e.name)) a n c wx))
  case first =>
    have hlp := HS5.out.plen
    have hcA : w5.cell? ⟨w.heap.size, 1, none⟩ = some (.string ⟨e.name.toArray⟩) := HS5.out.ecell HE.out 1
    by_cases hb : sp3 = 0
    · have HT : Hid (Plain.wPath e = false) := Lib.hid (by rw [HW1.out]; simp [hb])
      have hbb : (sp3 != 0) = false := by simp [hb]
      clear hb
      go_wp2_with fail
      go_meet
      exact ⟨a5, _, 0, rfl, Lib.hid (by rw [HT.out]; simpa [Plain.one?] using HS5.out)⟩
    · have HT : Hid (Plain.wPath e = true) := Lib.hid (by rw [HW1.out]; simp [hb])
      have hbb : (sp3 != 0) = true := by simp [hb]
      clear hb
      have HSW := HS5
      go_wp2_with (at_builtin; refine wpList_app rfl _ _ 52 rfl (gh + 1) 54 _ 2 32 Tryz.underlying52 infoPair rfl (by decide) (by decide) rfl (HSW.out.ow _) rfl (by exact pr_new _ (kPath, e.name)) (prs_oneCell [(kPath, e.name)]) (by have := HL5.out; omega) (HSW.out.lt _) ?_; intro a2 c2 w2 ho2 hg2; have hsa := HSW.out.app (kPath, e.name) ho2 hg2; have hcf := hsa.cell 0; have hff := hsa.free 0; have HSF := Lib.hid (hsa.wipe (h' := { h0 with name := [64] }) 0 (.string ⟨#[64]⟩) rfl); clear hsa ho2 hg2)
      go_meet
      exact ⟨a2, _, c2, rfl, Lib.hid (by rw [HT.out]; exact HSF.out)⟩
  obtain ⟨a6, n6, c6, rfl, HS6⟩ := hcut
  obtain ⟨w6, hw6⟩ : ∃ w6, w6 = wc := ⟨_, rfl⟩
  subst hw6
  generalize hh : (if Plain.wPath e = true then { h0 with name := [64] } else h0) = h6 at HS6
  have HH6 := Lib.hid hh; clear hh
  have HL6 : Hid ((ps5 ++ Plain.one? (Plain.wPath e) (kPath, e.name)).length ≤ 1) := Lib.hid (by have := HL5.out; have := one_len (Plain.wPath e) (kPath, e.name); rw [List.length_append]; omega)
  generalize hp : ps5 ++ Plain.one? (Plain.wPath e) (kPath, e.name) = ps6 at *
  have HP6 := Lib.hid hp; clear hp
  clear HS5 HL5
  go_upto_region 8 with fail
  have hcA : w6.cell? ⟨w.heap.size, 2, none⟩ = some (.string ⟨e.link.toArray⟩) := HS6.out.ecell HE.out 2
  go_upto_if 57 with fail
  clear hcA
  go_cut [5] (fun s5 wx => ∃ a n c, s5 = .slice a n c ∧ Hid (RSt w1 gh (if Plain.wLink e = true then { h6 with link := [] } else h6) (ps6 ++ Plain.one? (Plain.wLink e) (kLink, e.link)) a n c wx))
  case first =>
    have hlp := HS6.out.plen
    have hcA : w6.cell? ⟨w.heap.size, 2, none⟩ = some (.string ⟨e.link.toArray⟩) := HS6.out.ecell HE.out 2
    by_cases hb : 100 < (e.link.length : Int)
    · have HT : Hid (Plain.wLink e = true) := Lib.hid (by unfold Plain.wLink; simp; omega)
      have hbb : decide (100 < (e.link.length : Int)) = true := by simp [hb]
      have HSW := HS6
      go_wp2_with (at_builtin; refine wpList_app rfl _ _ 52 rfl (gh + 1) 54 _ 2 32 Tryz.underlying52 infoPair rfl (by decide) (by decide) rfl (HSW.out.ow _) rfl (by exact pr_new _ (kLink, e.link)) (prs_oneCell [(kLink, e.link)]) (by have := HL6.out; omega) (HSW.out.lt _) ?_; intro a2 c2 w2 ho2 hg2; have hsa := HSW.out.app (kLink, e.link) ho2 hg2; have hcf := hsa.cell 1; have hff := hsa.free 1; have HSF := Lib.hid (hsa.wipe (h' := { h6 with link := [] }) 1 (.string ⟨#[]⟩) rfl); clear hsa ho2 hg2)
      go_meet
      exact ⟨a2, _, c2, rfl, Lib.hid (by rw [HT.out]; exact HSF.out)⟩
    · have HT : Hid (Plain.wLink e = false) := Lib.hid (by unfold Plain.wLink; simp; omega)
      have hbb : decide (100 < (e.link.length : Int)) = false := by simp [hb]
      go_wp2_with fail
      go_meet
      exact ⟨a6, _, c6, rfl, Lib.hid (by rw [HT.out]; simpa [Plain.one?] using HS6.out)⟩
  obtain ⟨a7, n7, c7, rfl, HS7⟩ := hcut
  obtain ⟨w7, hw7⟩ : ∃ w7, w7 = wc := ⟨_, rfl⟩
  subst hw7
  generalize hh : (if Plain.wLink e = true then { h6 with link := [] } else h6) = h7 at HS7
  have HH7 := Lib.hid hh; clear hh
  have HL7 : Hid ((ps6 ++ Plain.one? (Plain.wLink e) (kLink, e.link)).length ≤ 2) := Lib.hid (by have := HL6.out; have := one_len (Plain.wLink e) (kLink, e.link); rw [List.length_append]; omega)
  generalize hp : ps6 ++ Plain.one? (Plain.wLink e) (kLink, e.link) = ps7 at *
  have HP7 := Lib.hid hp; clear hp
  clear HS6 HL6
  go_upto_region 11 with fail
  have hcA : w7.cell? ⟨w.heap.size, 4, none⟩ = some (.int .i64 e.uid) := HS7.out.ecell HE.out 4
  go_upto_if 67 with fail
  clear hcA
  go_cut [5] (fun s5 wx => ∃ a n c, s5 = .slice a n c ∧ Hid (RSt w1 gh (if Plain.wUid e = true then { h7 with uid := 0 } else h7) (ps7 ++ Plain.one? (Plain.wUid e) (kUid, Lib.itoa e.uid)) a n c wx))
  case first =>
    have hlp := HS7.out.plen
    have hcA : w7.cell? ⟨w.heap.size, 4, none⟩ = some (.int .i64 e.uid) := HS7.out.ecell HE.out 4
    by_cases hb : 2097151 < e.uid
    · have HT : Hid (Plain.wUid e = true) := Lib.hid (by unfold Plain.wUid; simp [hb])
      have hbb : decide (2097151 < e.uid) = true := by simp [hb]
      have HSH := Lib.hid (fun w => RefShow_any e.uid (by have := hfit.uid0; omega) (by have := hfit.uid1; omega) w)
      go_wp2_with (first
        | (go_at_call 38; (refine (HSH.out w7).mono ?_); rintro r ws ⟨rfl, hbs⟩; have HSW := Lib.hid (HS7.out.keep hbs); clear hbs)
        | (at_builtin; refine wpList_app rfl _ _ 52 rfl (gh + 1) 54 _ 2 32 Tryz.underlying52 infoPair rfl (by decide) (by decide) rfl (HSW.out.ow _) rfl (by exact pr_new _ (kUid, Lib.itoa e.uid)) (prs_oneCell [(kUid, Lib.itoa e.uid)]) (by have := HL7.out; omega) (HSW.out.lt _) ?_; intro a2 c2 w2 ho2 hg2; have hsa := HSW.out.app (kUid, Lib.itoa e.uid) ho2 hg2; have hcf := hsa.cell 3; have hff := hsa.free 3; have HSF := Lib.hid (hsa.wipe (h' := { h7 with uid := 0 }) 3 (.int .i64 0) rfl); clear hsa ho2 hg2))
      go_meet
      exact ⟨a2, _, c2, rfl, Lib.hid (by rw [HT.out]; exact HSF.out)⟩
    · have HT : Hid (Plain.wUid e = false) := Lib.hid (by unfold Plain.wUid; simp [hb])
      have hbb : decide (2097151 < e.uid) = false := by simp [hb]
      go_wp2_with fail
      go_meet
      exact ⟨a7, _, c7, rfl, Lib.hid (by rw [HT.out]; simpa [Plain.one?] using HS7.out)⟩
  obtain ⟨a8, n8, c8, rfl, HS8⟩ := hcut
  obtain ⟨w8, hw8⟩ : ∃ w8, w8 = wc := ⟨_, rfl⟩
  subst hw8
  generalize hh : (if Plain.wUid e = true then { h7 with uid := 0 } else h7) = h8 at HS8
  have HH8 := Lib.hid hh; clear hh
  have HL8 : Hid ((ps7 ++ Plain.one? (Plain.wUid e) (kUid, Lib.itoa e.uid)).length ≤ 3) := Lib.hid (by have := HL7.out; have := one_len (Plain.wUid e) (kUid, Lib.itoa e.uid); rw [List.length_append]; omega)
  generalize hp : ps7 ++ Plain.one? (Plain.wUid e) (kUid, Lib.itoa e.uid) = ps8 at *
  have HP8 := Lib.hid hp; clear hp
  clear HS7 HL7
  go_upto_region 14 with fail
  have hcA : w8.cell? ⟨w.heap.size, 5, none⟩ = some (.int .i64 e.gid) := HS8.out.ecell HE.out 5
  go_upto_if 78 with fail
  clear hcA
  go_cut [5] (fun s5 wx => ∃ a n c, s5 = .slice a n c ∧ Hid (RSt w1 gh (if Plain.wGid e = true then { h8 with gid := 0 } else h8) (ps8 ++ Plain.one? (Plain.wGid e) (kGid, Lib.itoa e.gid)) a n c wx))
  case first =>
    have hlp := HS8.out.plen
    have hcA : w8.cell? ⟨w.heap.size, 5, none⟩ = some (.int .i64 e.gid) := HS8.out.ecell HE.out 5
    by_cases hb : 2097151 < e.gid
    · have HT : Hid (Plain.wGid e = true) := Lib.hid (by unfold Plain.wGid; simp [hb])
      have hbb : decide (2097151 < e.gid) = true := by simp [hb]
      have HSH := Lib.hid (fun w => RefShow_any e.gid (by have := hfit.gid0; omega) (by have := hfit.gid1; omega) w)
      go_wp2_with (first
        | (go_at_call 38; (refine (HSH.out w8).mono ?_); rintro r ws ⟨rfl, hbs⟩; have HSW := Lib.hid (HS8.out.keep hbs); clear hbs)
        | (at_builtin; refine wpList_app rfl _ _ 52 rfl (gh + 1) 54 _ 2 32 Tryz.underlying52 infoPair rfl (by decide) (by decide) rfl (HSW.out.ow _) rfl (by exact pr_new _ (kGid, Lib.itoa e.gid)) (prs_oneCell [(kGid, Lib.itoa e.gid)]) (by have := HL8.out; omega) (HSW.out.lt _) ?_; intro a2 c2 w2 ho2 hg2; have hsa := HSW.out.app (kGid, Lib.itoa e.gid) ho2 hg2; have hcf := hsa.cell 4; have hff := hsa.free 4; have HSF := Lib.hid (hsa.wipe (h' := { h8 with gid := 0 }) 4 (.int .i64 0) rfl); clear hsa ho2 hg2))
      go_meet
      exact ⟨a2, _, c2, rfl, Lib.hid (by rw [HT.out]; exact HSF.out)⟩
    · have HT : Hid (Plain.wGid e = false) := Lib.hid (by unfold Plain.wGid; simp [hb])
      have hbb : decide (2097151 < e.gid) = false := by simp [hb]
      go_wp2_with fail
      go_meet
      exact ⟨a8, _, c8, rfl, Lib.hid (by rw [HT.out]; simpa [Plain.one?] using HS8.out)⟩
  obtain ⟨a9, n9, c9, rfl, HS9⟩ := hcut
  obtain ⟨w9, hw9⟩ : ∃ w9, w9 = wc := ⟨_, rfl⟩
  subst hw9
  generalize hh : (if Plain.wGid e = true then { h8 with gid := 0 } else h8) = h9 at HS9
  have HH9 := Lib.hid hh; clear hh
  have HL9 : Hid ((ps8 ++ Plain.one? (Plain.wGid e) (kGid, Lib.itoa e.gid)).length ≤ 4) := Lib.hid (by have := HL8.out; have := one_len (Plain.wGid e) (kGid, Lib.itoa e.gid); rw [List.length_append]; omega)
  generalize hp : ps8 ++ Plain.one? (Plain.wGid e) (kGid, Lib.itoa e.gid) = ps9 at *
  have HP9 := Lib.hid hp; clear hp
  clear HS8 HL8
  go_upto_region 17 with fail
  have hcA : w9.cell? ⟨w.heap.size, 6, none⟩ = some (.string ⟨e.user.toArray⟩) := HS9.out.ecell HE.out 6
  go_upto_if 90 with fail
  clear hcA
  go_cut [5] (fun s5 wx => ∃ a n c, s5 = .slice a n c ∧ Hid (RSt w1 gh (if Plain.wUser e = true then { h9 with user := [] } else h9) (ps9 ++ Plain.one? (Plain.wUser e) (kUname, e.user)) a n c wx))
  case first =>
    have hlp := HS9.out.plen
    have hcA : w9.cell? ⟨w.heap.size, 6, none⟩ = some (.string ⟨e.user.toArray⟩) := HS9.out.ecell HE.out 6
    by_cases hb : 32 < (e.user.length : Int)
    · have HT : Hid (Plain.wUser e = true) := Lib.hid (by unfold Plain.wUser; simp; omega)
      have hbb : decide (32 < (e.user.length : Int)) = true := by simp [hb]
      have HSW := HS9
      go_wp2_with (at_builtin; refine wpList_app rfl _ _ 52 rfl (gh + 1) 54 _ 2 32 Tryz.underlying52 infoPair rfl (by decide) (by decide) rfl (HSW.out.ow _) rfl (by exact pr_new _ (kUname, e.user)) (prs_oneCell [(kUname, e.user)]) (by have := HL9.out; omega) (HSW.out.lt _) ?_; intro a2 c2 w2 ho2 hg2; have hsa := HSW.out.app (kUname, e.user) ho2 hg2; have hcf := hsa.cell 8; have hff := hsa.free 8; have HSF := Lib.hid (hsa.wipe (h' := { h9 with user := [] }) 8 (.string ⟨#[]⟩) rfl); clear hsa ho2 hg2)
      go_meet
      exact ⟨a2, _, c2, rfl, Lib.hid (by rw [HT.out]; exact HSF.out)⟩
    · have HT : Hid (Plain.wUser e = false) := Lib.hid (by unfold Plain.wUser; simp; omega)
      have hbb : decide (32 < (e.user.length : Int)) = false := by simp [hb]
      go_wp2_with fail
      go_meet
      exact ⟨a9, _, c9, rfl, Lib.hid (by rw [HT.out]; simpa [Plain.one?] using HS9.out)⟩
  obtain ⟨a10, n10, c10, rfl, HS10⟩ := hcut
  obtain ⟨w10, hw10⟩ : ∃ w10, w10 = wc := ⟨_, rfl⟩
  subst hw10
  generalize hh : (if Plain.wUser e = true then { h9 with user := [] } else h9) = h10 at HS10
  have HH10 := Lib.hid hh; clear hh
  have HL10 : Hid ((ps9 ++ Plain.one? (Plain.wUser e) (kUname, e.user)).length ≤ 5) := Lib.hid (by have := HL9.out; have := one_len (Plain.wUser e) (kUname, e.user); rw [List.length_append]; omega)
  generalize hp : ps9 ++ Plain.one? (Plain.wUser e) (kUname, e.user) = ps10 at *
  have HP10 := Lib.hid hp; clear hp
  clear HS9 HL9
  go_upto_region 20 with fail
  have hcA : w10.cell? ⟨w.heap.size, 7, none⟩ = some (.string ⟨e.group.toArray⟩) := HS10.out.ecell HE.out 7
  go_upto_if 101 with fail
  clear hcA
  go_cut [5] (fun s5 wx => ∃ a n c, s5 = .slice a n c ∧ Hid (RSt w1 gh (if Plain.wGroup e = true then { h10 with group := [] } else h10) (ps10 ++ Plain.one? (Plain.wGroup e) (kGname, e.group)) a n c wx))
  case first =>
    have hlp := HS10.out.plen
    have hcA : w10.cell? ⟨w.heap.size, 7, none⟩ = some (.string ⟨e.group.toArray⟩) := HS10.out.ecell HE.out 7
    by_cases hb : 32 < (e.group.length : Int)
    · have HT : Hid (Plain.wGroup e = true) := Lib.hid (by unfold Plain.wGroup; simp; omega)
      have hbb : decide (32 < (e.group.length : Int)) = true := by simp [hb]
      have HSW := HS10
      go_wp2_with (at_builtin; refine wpList_app rfl _ _ 52 rfl (gh + 1) 54 _ 2 32 Tryz.underlying52 infoPair rfl (by decide) (by decide) rfl (HSW.out.ow _) rfl (by exact pr_new _ (kGname, e.group)) (prs_oneCell [(kGname, e.group)]) (by have := HL10.out; omega) (HSW.out.lt _) ?_; intro a2 c2 w2 ho2 hg2; have hsa := HSW.out.app (kGname, e.group) ho2 hg2; have hcf := hsa.cell 9; have hff := hsa.free 9; have HSF := Lib.hid (hsa.wipe (h' := { h10 with group := [] }) 9 (.string ⟨#[]⟩) rfl); clear hsa ho2 hg2)
      go_meet
      exact ⟨a2, _, c2, rfl, Lib.hid (by rw [HT.out]; exact HSF.out)⟩
    · have HT : Hid (Plain.wGroup e = false) := Lib.hid (by unfold Plain.wGroup; simp; omega)
      have hbb : decide (32 < (e.group.length : Int)) = false := by simp [hb]
      go_wp2_with fail
      go_meet
      exact ⟨a10, _, c10, rfl, Lib.hid (by rw [HT.out]; simpa [Plain.one?] using HS10.out)⟩
  obtain ⟨a11, n11, c11, rfl, HS11⟩ := hcut
  obtain ⟨w11, hw11⟩ : ∃ w11, w11 = wc := ⟨_, rfl⟩
  subst hw11
  generalize hh : (if Plain.wGroup e = true then { h10 with group := [] } else h10) = h11 at HS11
  have HH11 := Lib.hid hh; clear hh
  have HL11 : Hid ((ps10 ++ Plain.one? (Plain.wGroup e) (kGname, e.group)).length ≤ 6) := Lib.hid (by have := HL10.out; have := one_len (Plain.wGroup e) (kGname, e.group); rw [List.length_append]; omega)
  generalize hp : ps10 ++ Plain.one? (Plain.wGroup e) (kGname, e.group) = ps11 at *
  have HP11 := Lib.hid hp; clear hp
  clear HS10 HL10
  go_upto_region 23 with fail
  generalize hst : Plain.stamp e.sec e.nano = st at *
  have HSS := Lib.hid (fun w => RefStampShow_any e.sec e.nano w)
  rw [hst] at HSS
  obtain ⟨st1, st2⟩ := st
  have HST := Lib.hid hst; clear hst
  have HC8 : Hid (w11.cell? ⟨w.heap.size, 8, none⟩ = some (.int .i64 e.sec)) := Lib.hid (HS11.out.ecell HE.out 8)
  have HC9 : Hid (w11.cell? ⟨w.heap.size, 9, none⟩ = some (.int .i64 e.nano)) := Lib.hid (HS11.out.ecell HE.out 9)
  go_cut [124] (fun s124 wx => s124 = .bool (Plain.wTime e) ∧ wx = w11)
  case first =>
    have hcA := HC8.out
    have hcB := HC9.out
    have hta := fun h => (time_a e h); have htc := fun h => (time_c e h); have htd := fun h => time_d e h
    have HTA := Lib.hid hta; have HTC := Lib.hid htc; have HTD := Lib.hid htd
    clear hta htc htd
    generalize Plain.wTime e = bT at *
    go_wp2
    all_goals (go_meet; first | exact ⟨congrArg Value.bool (HTA.out ‹_›), rfl⟩ | exact ⟨congrArg Value.bool (HTC.out ‹_›), rfl⟩ | exact ⟨congrArg Value.bool (HTD.out ‹_›), rfl⟩)
  obtain ⟨rfl, rfl⟩ := hcut
  generalize hbT : Plain.wTime e = bT at *
  have HBT := Lib.hid hbT; clear hbT
  go_upto_if 124 with fail
  go_cut [5] (fun s5 wx => ∃ a n c, s5 = .slice a n c ∧ Hid (RSt w1 gh (if bT = true then { h11 with mtime := 0 } else h11) (ps11 ++ Plain.one? (bT) (kMtime, st1)) a n c wx))
  case first =>
    have hlp := HS11.out.plen
    have hcA := HC8.out
    have hcB := HC9.out
    cases bT with
    | true =>
      go_upto_region 25 with (go_at_call 39; (refine (HSS.out _).mono ?_); rintro r ws ⟨rfl, hbs⟩; have HSW := Lib.hid (HS11.out.keep hbs); clear hbs)
      clear hcA hcB
      go_wp2_with (at_builtin; refine wpList_app rfl _ _ 52 rfl (gh + 1) 54 _ 2 32 Tryz.underlying52 infoPair rfl (by decide) (by decide) rfl (HSW.out.ow _) rfl (by exact pr_new _ (kMtime, st1)) (prs_oneCell [(kMtime, st1)]) (by have := HL11.out; omega) (HSW.out.lt _) ?_; intro a2 c2 w2 ho2 hg2; have hsa := HSW.out.app (kMtime, st1) ho2 hg2; have hcf := hsa.cell 6; have hff := hsa.free 6; have HSF := Lib.hid (hsa.wipe (h' := { h11 with mtime := 0 }) 6 (.int .i64 0) rfl); clear hsa ho2 hg2)
      go_meet
      exact ⟨a2, _, c2, rfl, Lib.hid (by first | exact HSF.out | (rw [if_pos rfl]; exact HSF.out))⟩
    | false =>
      go_wp2_with fail
      go_meet
      exact ⟨a11, _, c11, rfl, Lib.hid (by simpa [Plain.one?] using HS11.out)⟩
  obtain ⟨a12, n12, c12, rfl, HS12⟩ := hcut
  obtain ⟨w12, hw12⟩ : ∃ w12, w12 = wc := ⟨_, rfl⟩
  subst hw12
  generalize hh : (if bT = true then { h11 with mtime := 0 } else h11) = h12 at HS12
  have HH12 := Lib.hid hh; clear hh
  have HL12 : Hid ((ps11 ++ Plain.one? (bT) (kMtime, st1)).length ≤ 7) := Lib.hid (by have := HL11.out; have := one_len (bT) (kMtime, st1); rw [List.length_append]; omega)
  generalize hp : ps11 ++ Plain.one? (bT) (kMtime, st1) = ps12 at *
  have HP12 := Lib.hid hp; clear hp
  clear HS11 HL11
  go_upto_region 27 with fail
  have hbt := HBT.out
  clear HBT
  subst hbt
  have HH : Hid (h12 = Plain.hdOf e) := Lib.hid (by rw [hdOf_chain, HH0.out, ← HH12.out, ← HH11.out, ← HH10.out, ← HH9.out, ← HH8.out, ← HH7.out, ← HH6.out])
  have HPS : Hid (ps12 = Plain.prsOf e) := Lib.hid (by
    have es : st1 = (Plain.stamp e.sec e.nano).1 := by rw [HST.out]
    rw [← HP12.out, ← HP11.out, ← HP10.out, ← HP9.out, ← HP8.out, ← HP7.out, ← HP6.out, ← HNIL.out, es]; rfl)
  clear HH12 HH11 HH10 HH9 HH8 HH7 HH6 HH0 HP12 HP11 HP10 HP9 HP8 HP7 HP6 HNIL HST HW1 HL12 HSS
  have HLN := Lib.hid HS12.out.plen
  have hhi : HdIn h12 := by rw [HH.out]; exact hdOf_in e hfit
  have hhz : HdSz h12 := by rw [HH.out]; exact hdOf_sz e hfit
  have HHI := Lib.hid hhi; have HHZ := Lib.hid hhz
  clear hhi hhz
  have HIx := Lib.hid (hdInfo h12)
  have HBE : Hid (Below w.heap.size w w12) := Lib.hid (Below.seq HB0.out HS12.out.bel)
  have HS13 := Lib.hid (HS12.out.keep ((Below.refl _ _).alloc (Nat.le_refl _) (.cells #[] 5)))
  have HB13 := Lib.hid (HBE.out.alloc HBE.out.size (.cells #[] 5))
  have HO13 : Hid ((w12.alloc (.cells #[] 5)).ownsRow w12.heap.size 5 1 (.slice (some ⟨w12.heap.size, 0, none⟩) 0 0) 0 []) := Lib.hid (World.ownsRow_lit (base := w12.heap.size) (e := 5) (size := 1) w12 #[] 0 (Nat.le_refl _) (by decide) rfl)
  have HBZ := Lib.hid HBE.out.size
  have HZ13 : Hid (w12.heap.size ≤ (w12.alloc (.cells #[] 5)).heap.size) := Lib.hid (by simp)
  have hgl12 := (Array.getElem?_eq_some_iff.1 HS12.out.rh).1
  have hel12 : w.heap.size < w12.heap.size := Nat.lt_of_lt_of_le (by rw [HGA.out]; exact hge.out) HS12.out.bel.size
  go_upto_region 28 with fail
  clear HS12
  have hGB : Hid (gh < w12.heap.size ∧ w.heap.size < w12.heap.size) := Lib.hid ⟨hgl12, hel12⟩
  clear hgl12 hel12
  generalize w12.alloc (.cells #[] 5) = w13 at *
  generalize w12.heap.size = B at *
  have hce : w13.cell? ⟨w.heap.size, 10, none⟩ = some (.slice ad nd cd) := HS13.out.ecell HE.out 10
  by_cases h0 : n12 = 0
  · subst h0
    go_upto_region 31 with fail
    have HLAY := Lib.hid (RefLaid_any h12 HHI.out HHZ.out ad nd cd e.data w13 (Below.bs HB13.out HD.out) (by have := HN.out; omega))
    have HENC : Hid (Plain.enc e = Plain.laid h12 e.data) := Lib.hid (by
      unfold Plain.enc
      rw [← HPS.out, ← HH.out, if_pos (List.eq_nil_of_length_eq_zero HLN.out)]; rfl)
    have hll := laid_len h12 HHI.out e.data (by have := HN.out; have := HD.out.len; omega)
    have HLL := Lib.hid hll; clear hll
    generalize Plain.laid h12 e.data = LD at *
    go_wp2_with (first
      | (with_reducible refine wpList_load_row rfl _ _ rfl gh rfl 51 (hdC h12) (0, 0) _ HS13.out.rh Tryz.underlying51 rfl HIx.out ?_)
      | (go_at_call 41; (refine HLAY.out.mono ?_); rintro r w14 ⟨a14, n14, c14, rfl, ho14, hb14⟩; have HO14 := Lib.hid ho14; have HB14 := Lib.hid hb14; have HN14 := Lib.hid (own_len ho14); clear ho14 hb14; have HOW : Hid (w14.ownsRow B 5 1 (.slice (some ⟨B, 0, none⟩) 0 0) 0 []) := Lib.hid (own_keep HO13.out fun j _ hj => HB14.out.block j hj))
      | (at_builtin; refine wpList_app rfl _ _ 25 rfl B 5 _ 1 1 Tryz.underlying25 infoU8 rfl (by decide) (by decide) rfl HOW.out rfl (own_isSl HO14.out) (bytes_oneCell LD) (by have := HLL.out; have := HN14.out; have := HN.out; have := HD.out.len; omega) (by have := HB14.out.size; have := HZ13.out; omega) ?_; intro a15 c15 w15 ho15 hg15))
    go_ret
    rw [HENC.out]
    exact ⟨a15, _, c15, rfl, own_base (by simpa using ho15) HBZ.out, below_app (Below.seq HB13.out HB14.out) HOW.out hg15 HBZ.out (by have := HB14.out.size; have := HZ13.out; have := HBZ.out; omega)⟩
  · have hp0 : ¬ ps12 = [] := fun h => h0 (by rw [← HLN.out, h]; rfl)
    have HENC : Hid (Plain.enc e = Plain.laid Plain.paxHd (Plain.write ps12).1 ++ Plain.laid h12 e.data) := Lib.hid (by
      unfold Plain.enc
      rw [← HPS.out, ← HH.out, if_neg hp0])
    have HWR := Lib.hid (RefWrite_any a12 n12 c12 ps12 w13 (own_prs HS13.out.own) (by rw [HPS.out]; exact prs_sz e hfit))
    have hwl := write_le ps12
    generalize Plain.write ps12 = wr at *
    obtain ⟨dd, dcode⟩ := wr
    simp only at hwl
    have HWL := Lib.hid hwl; clear hwl
    have hnp : 0 < n12 := by omega
    go_upto_region 30 with (go_at_call 40; (refine HWR.out.mono ?_); rintro r w14 ⟨ax, nx, cx, rfl, hox, hbx⟩; have HOX := Lib.hid hox; have HBX := Lib.hid hbx; clear hox hbx)
    clear HWR hce
    have hnx : dd.length = nx := own_len HOX.out
    have HLAY := Lib.hid (RefLaid_any Plain.paxHd paxHd_in paxHd_sz ax nx cx dd w14 (own_isSl HOX.out) (by have := HWL.out; omega))
    have HLL := Lib.hid (laid_len Plain.paxHd paxHd_in dd (by have := HWL.out; omega))
    generalize Plain.laid Plain.paxHd dd = LP at *
    have HO14 : Hid (w14.ownsRow B 5 1 (.slice (some ⟨B, 0, none⟩) 0 0) 0 []) := Lib.hid (own_keep HO13.out fun j _ hj => HBX.out.block j hj)
    go_upto_region 31 with (first
      | (go_at_call 41; (refine HLAY.out.mono ?_); rintro r w15 ⟨a15, n15, c15, rfl, ho15, hb15⟩; have HO15 := Lib.hid ho15; have HB15 := Lib.hid hb15; have HN15 := Lib.hid (own_len ho15); clear ho15 hb15; have HOW : Hid (w15.ownsRow B 5 1 (.slice (some ⟨B, 0, none⟩) 0 0) 0 []) := Lib.hid (own_keep HO14.out fun j _ hj => HB15.out.block j hj))
      | (at_builtin; refine wpList_app rfl _ _ 25 rfl B 5 _ 1 1 Tryz.underlying25 infoU8 rfl (by decide) (by decide) rfl HOW.out rfl (own_isSl HO15.out) (bytes_oneCell LP) (by have := HLL.out; have := HN15.out; have := HWL.out; omega) (by have := HB15.out.size; have := HBX.out.size; have := HZ13.out; omega) ?_; intro a16 c16 w16 ho16 hg16))
    have HO16 : Hid (w16.ownsRow B 5 1 (.slice a16 n15 c16) n15 (LP.map u8v)) := Lib.hid (by simpa using ho16)
    have hnz : (0 + n15) = n15 := Nat.zero_add _
    have hB16 : Below B w13 w16 := below_app ((HBX.out.mono HZ13.out).trans (HB15.out.mono (by have := HBX.out.size; have := HZ13.out; omega))) HOW.out hg16 (Nat.le_refl _) (by have := HB15.out.size; have := HBX.out.size; have := HZ13.out; omega)
    have HB16 := Lib.hid hB16
    have HGH : Hid (gh < B ∧ w.heap.size < B) := Lib.hid hGB.out
    have hrh : w16.heap[gh]? = some (.cells (hdC h12) 51 (0, 0)) := by rw [hB16.block _ HGH.out.1]; exact HS13.out.rh
    have HRH := Lib.hid hrh
    have hce : w16.cell? ⟨w.heap.size, 10, none⟩ = some (.slice ad nd cd) := by
      rw [hB16.cell (p := ⟨w.heap.size, 10, none⟩) HGH.out.2]; exact HS13.out.ecell HE.out 10
    have HBW : Hid (Below w.heap.size w w16) := Lib.hid (HB13.out.trans (hB16.mono HBZ.out))
    have HLY2 := Lib.hid (RefLaid_any h12 HHI.out HHZ.out ad nd cd e.data w16 (Below.bs HBW.out HD.out) (by have := HN.out; omega))
    have HL2 := Lib.hid (laid_len h12 HHI.out e.data (by have := HN.out; have := HD.out.len; omega))
    have HZ16 : Hid (B ≤ w16.heap.size) := Lib.hid (Nat.le_trans HZ13.out hB16.size)
    generalize Plain.laid h12 e.data = LD at *
    clear hrh hB16 ho16 hg16 HLAY
    clear hnz
    go_wp2_with (first
      | (with_reducible refine wpList_load_row rfl _ _ rfl gh rfl 51 (hdC h12) (0, 0) _ HRH.out Tryz.underlying51 rfl HIx.out ?_)
      | (go_at_call 41; (refine HLY2.out.mono ?_); rintro r w17 ⟨a17, n17, c17, rfl, ho17, hb17⟩; have HO17 := Lib.hid ho17; have HB17 := Lib.hid hb17; have HN17 := Lib.hid (own_len ho17); clear ho17 hb17; have HOV : Hid (w17.ownsRow B 5 1 (.slice a16 n15 c16) n15 (LP.map u8v)) := Lib.hid (own_keep HO16.out fun j _ hj => HB17.out.block j hj))
      | (at_builtin; refine wpList_app rfl _ _ 25 rfl B 5 _ 1 1 Tryz.underlying25 infoU8 rfl (by decide) (by decide) rfl HOV.out rfl (own_isSl HO17.out) (bytes_oneCell LD) (by have := HLL.out; have := HN15.out; have := HWL.out; have := HL2.out; have := HN17.out; have := HN.out; have := HD.out.len; omega) (by have := HB17.out.size; have := HZ16.out; omega) ?_; intro a18 c18 w18 ho18 hg18))
    go_ret
    rw [HENC.out]
    exact ⟨a18, _, c18, rfl, own_base (by simpa using ho18) HBZ.out, below_app (Below.seq HBW.out HB17.out) HOV.out hg18 HBZ.out (by have := HB17.out.size; have := HZ16.out; have := HBZ.out; omega)⟩
end Go.Proofs.YtamgiffkhnfpmaaGreatDoor
