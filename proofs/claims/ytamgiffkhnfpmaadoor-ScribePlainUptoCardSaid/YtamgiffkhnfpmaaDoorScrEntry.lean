/-
  ScrEntry: scribe's entry.
-/
import Derived.Test.YtamgiffkhnfpmaaDoorScrMove
import Derived.Test.YtamgiffkhnfpmaaDoorJ09
import Derived.Deep.RegionHeld3
namespace Go.Proofs.YtamgiffkhnfpmaaDoor
set_option linter.unusedVariables false
set_option linter.unusedSimpArgs false
open Go.ChangeShapes Go.WideShapes Go.ChangeAt Go.RowKit
theorem EnSt.ecell {w1 wr : World} {gh gp ge : Nat} {h : Hd} {ps : List Pr} {cs : Array Value} {t : TypeId} (x : EnSt w1 gh gp h ps wr) (he : w1.heap[ge]? = some (.cells cs t (0, 0))) (k : Nat) : wr.cell? ⟨ge, k, none⟩ = cs[k]? := by
  rw [cell_of_row _ _ _ _ _ _ (show wr.heap[ge]? = _ by rw [x.bel.block _ (Array.getElem?_eq_some_iff.1 he).1]; exact he)]
theorem EnSt.as {b b' : Bool} {w1 w : World} {gh gp : Nat} {h h' : Hd} {ps : List Pr} {p : Pr} (x : EnSt w1 gh gp (if b then h' else h) (ps ++ Plain.one? b p) w) (e : b = b') : EnSt w1 gh gp (if b' then h' else h) (ps ++ Plain.one? b' p) w := e ▸ x
theorem one_len (b : Bool) (p : Pr) : (Plain.one? b p).length ≤ 1 := by cases b <;> simp [Plain.one?]
theorem time_a (e : En) (h : e.nano = 0) : (decide (e.sec < 0) || decide (8589934591 < e.sec)) = Plain.wTime e := by
  unfold Plain.wTime
  simp [h]
theorem time_c (e : En) (h : ¬ e.nano = 0) : true = Plain.wTime e := by unfold Plain.wTime; simp [h]
theorem time_d (e : En) (h : e.sec < 0) : true = Plain.wTime e := by unfold Plain.wTime; simp [h]
theorem ty_at (k : Int) (h1 : 1 ≤ k) (h4 : k ≤ 4) (hb : k.toNat < (⟨#[32, 48, 53, 50, 49]⟩ : ByteArray).size) : (⟨#[32, 48, 53, 50, 49]⟩ : ByteArray)[k.toNat]'hb = Plain.tyOf k := by
  rcases (by omega : k = 1 ∨ k = 2 ∨ k = 3 ∨ k = 4) with rfl | rfl | rfl | rfl <;> rfl
set_option maxRecDepth 100000 in
set_option maxHeartbeats 3200000 in
theorem Entry_any (e : En) (hfit : EnFit e) (g : Nat) (a : Option Addr) (n c : Nat) (out : List UInt8) (ad : Option Addr) (nd cd : Nat) (w : World) (hT : ∀ w', Kp g a w w' → Bru w') (hP : Pow10 w) (hS : Sheet g a n c out w) (hd : ∀ w', Kp g a w w' → Bs w' ad nd cd e.data)
    (hn : n + nd + 2000000 ≤ 140737488355328) :
    Calls Tryd.prog 30 #[.pointer (some ⟨g, 0, none⟩), .agg (enC e ad nd cd)] w fun r w' => r = .returned (.tuple #[]) ∧ ∃ a' n' c', Sheet g a' n' c' (out ++ Plain.enc e) w' ∧ Kp g a w w' ∧ OldNew w a a' := by
  have hb0 := (Below.refl w.heap.size w).alloc (Nat.le_refl _) (.cells (enC e ad nd cd) 39)
  have hrow : (w.alloc (.cells (enC e ad nd cd) 39)).heap[w.heap.size]? = some (.cells (enC e ad nd cd) 39 (0, 0)) := heap_alloc_new w _
  have HB0 := Lib.hid hb0; have HE := Lib.hid hrow; have HP := Lib.hid hP; have HT := Lib.hid hT; have HSH := Lib.hid hS; have HD := Lib.hid hd; have HN := Lib.hid hn
  clear hb0 hrow hP hT hS hd hn
  go_enter Tryd.func30, Tryd.ntmps30
  go_upto_region 1 with (with_reducible refine wpList_box_agg rfl _ _ rfl (enC e ad nd cd) rfl ?_)
  have hge : Hid (w.heap.size < (w.alloc (.cells (enC e ad nd cd) 39)).heap.size) := Lib.hid (by simp)
  generalize w.alloc (.cells (enC e ad nd cd) 39) = w1 at *
  have hc : ∀ k, w1.cell? ⟨w.heap.size, k, none⟩ = (enC e ad nd cd)[k]? := fun k => cell_of_row _ _ _ _ _ _ HE.out
  have hc1 : w1.cell? ⟨w.heap.size, 1, none⟩ = some (.string ⟨e.name.toArray⟩) := hc 1
  have hc2 : w1.cell? ⟨w.heap.size, 2, none⟩ = some (.string ⟨e.link.toArray⟩) := hc 2
  have hc3 : w1.cell? ⟨w.heap.size, 3, none⟩ = some (.int .i64 e.mode) := hc 3
  have hc4 : w1.cell? ⟨w.heap.size, 4, none⟩ = some (.int .i64 e.uid) := hc 4
  have hc5 : w1.cell? ⟨w.heap.size, 5, none⟩ = some (.int .i64 e.gid) := hc 5
  have hc6 : w1.cell? ⟨w.heap.size, 6, none⟩ = some (.string ⟨e.user.toArray⟩) := hc 6
  have hc7 : w1.cell? ⟨w.heap.size, 7, none⟩ = some (.string ⟨e.group.toArray⟩) := hc 7
  have hc8 : w1.cell? ⟨w.heap.size, 8, none⟩ = some (.int .i64 e.sec) := hc 8
  clear hc
  go_upto_region 2 with fail
  clear hc1 hc2 hc3 hc4 hc5 hc6 hc7 hc8
  have HB2 : Hid (Below w1.heap.size w1 (w1.alloc (.cells (hdC { Plain.hd0 e with ty := 0 }) 43))) := Lib.hid ((Below.refl _ _).alloc (Nat.le_refl _) _)
  have HR2 : Hid ((w1.alloc (.cells (hdC { Plain.hd0 e with ty := 0 }) 43)).heap[w1.heap.size]? = some (.cells (hdC { Plain.hd0 e with ty := 0 }) 43 (0, 0))) := Lib.hid (heap_alloc_new w1 _)
  have HZ2 : Hid ((w1.alloc (.cells (hdC { Plain.hd0 e with ty := 0 }) 43)).heap.size = w1.heap.size + 1) := Lib.hid (by simp)
  show Code.wp _ _ _ _ (w1.alloc (.cells (hdC { Plain.hd0 e with ty := 0 }) 43))
  generalize w1.alloc (.cells (hdC { Plain.hd0 e with ty := 0 }) 43) = w2 at *
  generalize hgh : w1.heap.size = gh at *
  have HGH := Lib.hid hgh
  clear hgh
  have hc0 : w2.cell? ⟨w.heap.size, 0, none⟩ = some (.int .i64 e.kind) := by rw [cell_of_row _ _ _ _ _ _ (show w2.heap[w.heap.size]? = _ by rw [HB2.out.block _ hge.out]; exact HE.out)]; rfl
  have hk1 := hfit.k1; have hk4 := hfit.k4
  have hc7 : w2.cell? ⟨gh, 7, none⟩ = some (.int .u8 0) := by rw [cell_of_row _ _ _ _ _ _ HR2.out]; rfl
  have hf7 : w2.frozen? ⟨gh, 7, none⟩ = false := frozen_of_row _ _ _ _ _ HR2.out
  have hty := ty_at e.kind hk1 hk4
  go_upto_region 3 with fail
  clear hty hc7 hf7 hc0
  have HR3 : Hid ((w2.setCell ⟨gh, 7, none⟩ (.int .u8 ((Plain.tyOf e.kind).toNat : Int))).heap[gh]? = some (.cells (hdC (Plain.hd0 e)) 43 (0, 0))) := Lib.hid (by rw [heap_setCell_same _ _ _ _ _ _ HR2.out]; rfl)
  have HB3 : Hid (Below gh w1 (w2.setCell ⟨gh, 7, none⟩ (.int .u8 ((Plain.tyOf e.kind).toNat : Int)))) := Lib.hid (HB2.out.setCell (Nat.le_refl _) _)
  have HZ3 : Hid ((w2.setCell ⟨gh, 7, none⟩ (.int .u8 ((Plain.tyOf e.kind).toNat : Int))).heap.size = gh + 1) := Lib.hid (by have := HZ2.out; simpa using this)
  clear HB2 HR2 HZ2
  generalize w2.setCell ⟨gh, 7, none⟩ (.int .u8 ((Plain.tyOf e.kind).toNat : Int)) = w3 at *
  go_upto_region 5 with fail
  -- MIDDLE
  have HS4 : Hid (EnSt w1 gh (gh + 1) (Plain.hd0 e) [] (w3.alloc (.cells #[.slice none 0 0] 96))) := Lib.hid ⟨by rw [HGH.out]; exact HB3.out.alloc (by rw [HZ3.out]; omega) _, by rw [HGH.out]; exact Nat.le_refl _, Nat.lt_succ_self _, by rw [heap_alloc_old _ _ (by rw [HZ3.out]; omega)]; exact HR3.out, none, 0, 0, by rw [← HZ3.out]; exact heap_alloc_new w3 _, World.ownsRow_nil _ _ _ _⟩
  have hz3 : w3.heap.size = gh + 1 := HZ3.out
  rw [hz3]
  clear hz3
  generalize w3.alloc (.cells #[.slice none 0 0] 96) = w4 at *
  clear HR3 HB3 HZ3 hk1 hk4
  generalize gh + 1 = gp at *
  have HSP := Lib.hid (fun w => Split_any e.name w (by have := hfit.name; omega))
  have HW1 := Lib.hid (show Plain.wPath e = decide ((Plain.split e.name).2.2 ≠ 0) from rfl)
  generalize Plain.split e.name = sp at *
  obtain ⟨sp1, sp2, sp3⟩ := sp
  have hcA : w4.cell? ⟨w.heap.size, 1, none⟩ = some (.string ⟨e.name.toArray⟩) := HS4.out.ecell HE.out 1
  go_upto_region 6 with (go_at_call 37; (refine (HSP.out w4).mono ?_); rintro r w5 ⟨rfl, hb5⟩; have HS5 := Lib.hid (HS4.out.keep hb5); clear hb5; simp only [splitV])
  clear hcA HS4 HSP
  have HL5 : Hid (([] : List Pr).length ≤ 0) := Lib.hid (Nat.le_refl _)
  generalize hnil : ([] : List Pr) = ps0 at *
  have HNIL := Lib.hid hnil; clear hnil
  generalize hh0 : Plain.hd0 e = h0 at *
  have HH0 := Lib.hid hh0; clear hh0
  have hcA : w5.cell? ⟨w.heap.size, 1, none⟩ = some (.string ⟨e.name.toArray⟩) := HS5.out.ecell HE.out 1
  go_upto_region 7 with (go_at_call 53; (refine (MovePath_any kPath _ _ w1 gh gp h0 ps0 w5 (by exact HS5.out) (by have := HL5.out; omega)).mono ?_); rintro r w6 ⟨rfl, hs6⟩; have HS6 := Lib.hid (hs6.as (b' := Plain.wPath e) (by rw [HW1.out]; by_cases h : sp3 = 0 <;> simp [h])); clear hs6)
  clear hcA
  clear HS5
  generalize hh : (if Plain.wPath e = true then { h0 with name := [64] } else h0) = h6 at HS6
  have HH6 := Lib.hid hh; clear hh
  have HL6 : Hid ((ps0 ++ Plain.one? (Plain.wPath e) (kPath, e.name)).length ≤ 1) := Lib.hid (by have := HL5.out; have := one_len (Plain.wPath e) (kPath, e.name); rw [List.length_append]; omega)
  generalize hp : ps0 ++ Plain.one? (Plain.wPath e) (kPath, e.name) = ps6 at *
  have HP6 := Lib.hid hp; clear hp
  clear HL5
  have hcA : w6.cell? ⟨w.heap.size, 2, none⟩ = some (.string ⟨e.link.toArray⟩) := HS6.out.ecell HE.out 2
  go_upto_region 8 with (go_at_call 53; (refine (MoveLink_any kLink _ _ w1 gh gp h6 ps6 w6 (by exact HS6.out) (by have := HL6.out; omega)).mono ?_); rintro r w7 ⟨rfl, hs7⟩; have HS7 := Lib.hid (hs7.as (b' := Plain.wLink e) (by first | (simp [Plain.wLink]; done) | (simp [Plain.wLink]; omega))); clear hs7)
  clear hcA
  clear HS6
  generalize hh : (if Plain.wLink e = true then { h6 with link := [] } else h6) = h7 at HS7
  have HH7 := Lib.hid hh; clear hh
  have HL7 : Hid ((ps6 ++ Plain.one? (Plain.wLink e) (kLink, e.link)).length ≤ 2) := Lib.hid (by have := HL6.out; have := one_len (Plain.wLink e) (kLink, e.link); rw [List.length_append]; omega)
  generalize hp : ps6 ++ Plain.one? (Plain.wLink e) (kLink, e.link) = ps7 at *
  have HP7 := Lib.hid hp; clear hp
  clear HL6
  go_cut [60] (fun s60 wx => Hid (EnSt w1 gh gp (if Plain.wUid e = true then { h7 with uid := 0 } else h7) (ps7 ++ Plain.one? (Plain.wUid e) (kUid, Lib.itoa e.uid)) wx))
  case first =>
    have HD7 : Hid (w7.drew.cell? ⟨w.heap.size, 4, none⟩ = some (.int .i64 e.uid)) := Lib.hid (HS7.out.ecell HE.out 4)
    have HSd := Lib.hid (HS7.out.keep ((Below.refl _ _).drew))
    have HSW := Lib.hid (fun w3 hb => Show_any e.uid (by have := hfit.uid0; omega) (by have := hfit.uid1; omega) w3 (HP.out.below hb))
    have hmf : ∀ (fn : Fn) (first cap : Array Value) (w : World), (Instr.makeFunc fn first cap).run Tryd.prog w = .ok (.func fn first cap) w := fun _ _ _ _ => rfl
    go_region_held3 (fun w' => w'.cell? ⟨w.heap.size, 4, none⟩ = some (.int .i64 e.uid)) (first | exact HD7.out | exact HDs.out | exact HDm.out) (first
      | (go_at_call 56; (refine (HSW.out _ (Below.seq HB0.out (by exact HSd.out.bel))).mono ?_); rintro r ws ⟨rfl, hbs⟩; have HSs := Lib.hid (HSd.out.keep hbs); have HDs : Hid (ws.cell? ⟨w.heap.size, 4, none⟩ = some (.int .i64 e.uid)) := Lib.hid (HSs.out.ecell HE.out 4); clear hbs)
      | (go_at_call 53; (refine (MoveUid_any kUid (Lib.itoa e.uid) _ w1 gh gp h7 ps7 _ (by exact HSs.out) (by have := HL7.out; omega)).mono ?_); rintro r wm ⟨rfl, hsm⟩; have HSm := Lib.hid (hsm.as (b' := Plain.wUid e) (by first | (simp [Plain.wUid]; done) | (simp [Plain.wUid]; omega))); have HDm : Hid (wm.cell? ⟨w.heap.size, 4, none⟩ = some (.int .i64 e.uid)) := Lib.hid (HSm.out.ecell HE.out 4); clear hsm))
    all_goals (go_wp2_with fail; go_meet; exact HSm)
  have HS8 := hcut
  clear hcut
  obtain ⟨w8, hw8⟩ : ∃ w8, w8 = wc := ⟨_, rfl⟩
  subst hw8
  clear HS7
  generalize hh : (if Plain.wUid e = true then { h7 with uid := 0 } else h7) = h8 at HS8
  have HH8 := Lib.hid hh; clear hh
  have HL8 : Hid ((ps7 ++ Plain.one? (Plain.wUid e) (kUid, Lib.itoa e.uid)).length ≤ 3) := Lib.hid (by have := HL7.out; have := one_len (Plain.wUid e) (kUid, Lib.itoa e.uid); rw [List.length_append]; omega)
  generalize hp : ps7 ++ Plain.one? (Plain.wUid e) (kUid, Lib.itoa e.uid) = ps8 at *
  have HP8 := Lib.hid hp; clear hp
  clear HL7
  go_upto_region 9 with fail
  go_cut [60] (fun s60 wx => Hid (EnSt w1 gh gp (if Plain.wGid e = true then { h8 with gid := 0 } else h8) (ps8 ++ Plain.one? (Plain.wGid e) (kGid, Lib.itoa e.gid)) wx))
  case first =>
    have HD8 : Hid (w8.drew.cell? ⟨w.heap.size, 5, none⟩ = some (.int .i64 e.gid)) := Lib.hid (HS8.out.ecell HE.out 5)
    have HSd := Lib.hid (HS8.out.keep ((Below.refl _ _).drew))
    have HSW := Lib.hid (fun w3 hb => Show_any e.gid (by have := hfit.gid0; omega) (by have := hfit.gid1; omega) w3 (HP.out.below hb))
    have hmf : ∀ (fn : Fn) (first cap : Array Value) (w : World), (Instr.makeFunc fn first cap).run Tryd.prog w = .ok (.func fn first cap) w := fun _ _ _ _ => rfl
    go_region_held3 (fun w' => w'.cell? ⟨w.heap.size, 5, none⟩ = some (.int .i64 e.gid)) (first | exact HD8.out | exact HDs.out | exact HDm.out) (first
      | (go_at_call 56; (refine (HSW.out _ (Below.seq HB0.out (by exact HSd.out.bel))).mono ?_); rintro r ws ⟨rfl, hbs⟩; have HSs := Lib.hid (HSd.out.keep hbs); have HDs : Hid (ws.cell? ⟨w.heap.size, 5, none⟩ = some (.int .i64 e.gid)) := Lib.hid (HSs.out.ecell HE.out 5); clear hbs)
      | (go_at_call 53; (refine (MoveGid_any kGid (Lib.itoa e.gid) _ w1 gh gp h8 ps8 _ (by exact HSs.out) (by have := HL8.out; omega)).mono ?_); rintro r wm ⟨rfl, hsm⟩; have HSm := Lib.hid (hsm.as (b' := Plain.wGid e) (by first | (simp [Plain.wGid]; done) | (simp [Plain.wGid]; omega))); have HDm : Hid (wm.cell? ⟨w.heap.size, 5, none⟩ = some (.int .i64 e.gid)) := Lib.hid (HSm.out.ecell HE.out 5); clear hsm))
    all_goals (go_wp2_with fail; go_meet; exact HSm)
  have HS9 := hcut
  clear hcut
  obtain ⟨w9, hw9⟩ : ∃ w9, w9 = wc := ⟨_, rfl⟩
  subst hw9
  clear HS8
  generalize hh : (if Plain.wGid e = true then { h8 with gid := 0 } else h8) = h9 at HS9
  have HH9 := Lib.hid hh; clear hh
  have HL9 : Hid ((ps8 ++ Plain.one? (Plain.wGid e) (kGid, Lib.itoa e.gid)).length ≤ 4) := Lib.hid (by have := HL8.out; have := one_len (Plain.wGid e) (kGid, Lib.itoa e.gid); rw [List.length_append]; omega)
  generalize hp : ps8 ++ Plain.one? (Plain.wGid e) (kGid, Lib.itoa e.gid) = ps9 at *
  have HP9 := Lib.hid hp; clear hp
  clear HL8
  go_upto_region 10 with fail
  have hcA : w9.cell? ⟨w.heap.size, 6, none⟩ = some (.string ⟨e.user.toArray⟩) := HS9.out.ecell HE.out 6
  go_upto_region 11 with (go_at_call 53; (refine (MoveUser_any kUname _ _ w1 gh gp h9 ps9 w9 (by exact HS9.out) (by have := HL9.out; omega)).mono ?_); rintro r w10 ⟨rfl, hs10⟩; have HS10 := Lib.hid (hs10.as (b' := Plain.wUser e) (by first | (simp [Plain.wUser]; done) | (simp [Plain.wUser]; omega))); clear hs10)
  clear hcA
  clear HS9
  generalize hh : (if Plain.wUser e = true then { h9 with user := [] } else h9) = h10 at HS10
  have HH10 := Lib.hid hh; clear hh
  have HL10 : Hid ((ps9 ++ Plain.one? (Plain.wUser e) (kUname, e.user)).length ≤ 5) := Lib.hid (by have := HL9.out; have := one_len (Plain.wUser e) (kUname, e.user); rw [List.length_append]; omega)
  generalize hp : ps9 ++ Plain.one? (Plain.wUser e) (kUname, e.user) = ps10 at *
  have HP10 := Lib.hid hp; clear hp
  clear HL9
  have hcA : w10.cell? ⟨w.heap.size, 7, none⟩ = some (.string ⟨e.group.toArray⟩) := HS10.out.ecell HE.out 7
  go_upto_region 12 with (go_at_call 53; (refine (MoveGroup_any kGname _ _ w1 gh gp h10 ps10 w10 (by exact HS10.out) (by have := HL10.out; omega)).mono ?_); rintro r w11 ⟨rfl, hs11⟩; have HS11 := Lib.hid (hs11.as (b' := Plain.wGroup e) (by first | (simp [Plain.wGroup]; done) | (simp [Plain.wGroup]; omega))); clear hs11)
  clear hcA
  clear HS10
  generalize hh : (if Plain.wGroup e = true then { h10 with group := [] } else h10) = h11 at HS11
  have HH11 := Lib.hid hh; clear hh
  have HL11 : Hid ((ps10 ++ Plain.one? (Plain.wGroup e) (kGname, e.group)).length ≤ 6) := Lib.hid (by have := HL10.out; have := one_len (Plain.wGroup e) (kGname, e.group); rw [List.length_append]; omega)
  generalize hp : ps10 ++ Plain.one? (Plain.wGroup e) (kGname, e.group) = ps11 at *
  have HP11 := Lib.hid hp; clear hp
  clear HL10
  have hcA : w11.cell? ⟨w.heap.size, 8, none⟩ = some (.int .i64 e.sec) := HS11.out.ecell HE.out 8
  have hcB : w11.cell? ⟨w.heap.size, 9, none⟩ = some (.int .i64 e.nano) := HS11.out.ecell HE.out 9
  go_upto_region 13 with (go_at_call 61; (refine (StampShow_any e.sec e.nano w11 (HP.out.below (Below.seq HB0.out HS11.out.bel))).mono ?_); rintro r wt ⟨rfl, hbt⟩; have HSt := Lib.hid (HS11.out.keep hbt); clear hbt)
  clear hcA hcB HS11
  have HS11 := HSt
  clear HSt
  have hcA : wt.cell? ⟨w.heap.size, 8, none⟩ = some (.int .i64 e.sec) := HS11.out.ecell HE.out 8
  have hcB : wt.cell? ⟨w.heap.size, 9, none⟩ = some (.int .i64 e.nano) := HS11.out.ecell HE.out 9
  generalize hst : Plain.stamp e.sec e.nano = st at *
  obtain ⟨st1, st2⟩ := st
  have HST := Lib.hid hst; clear hst
  go_cut [102] (fun s102 wx => Hid (EnSt w1 gh gp (if Plain.wTime e = true then { h11 with mtime := 0 } else h11) (ps11 ++ Plain.one? (Plain.wTime e) (kMtime, st1)) wx))
  case first =>
    have hbt : ∀ b, b = Plain.wTime e → Hid (Calls Tryd.prog 53 #[.string ⟨kMtime.toArray⟩, .string ⟨st1.toArray⟩, .bool b, .func (.func 62) #[] #[.pointer (some ⟨gh, 0, none⟩)], .pointer (some ⟨gp, 0, none⟩)] wt fun r w' => r = .returned (.tuple #[]) ∧ EnSt w1 gh gp (if Plain.wTime e then { h11 with mtime := 0 } else h11) (ps11 ++ Plain.one? (Plain.wTime e) (kMtime, st1)) w') := fun b hb => by subst hb; exact MoveTime_any _ _ _ w1 gh gp _ _ _ (by exact HS11.out) (by have := HL11.out; omega)
    have HBT := Lib.hid hbt; clear hbt
    go_wp2_with (go_at_call 53; (refine (HBT.out _ (by first | exact time_a e ‹e.nano = 0› | exact time_c e ‹¬ e.nano = 0› | exact time_d e ‹e.sec < 0› | exact time_c e (fun h => by simp [h] at *))).out.mono ?_); rintro r wm ⟨rfl, hsm⟩)
    all_goals (go_meet; exact Lib.hid hsm)
  have HS12 := hcut
  clear hcut
  obtain ⟨w12, hw12⟩ : ∃ w12, w12 = wc := ⟨_, rfl⟩
  subst hw12
  clear hcA hcB
  clear HS11
  generalize hh : (if Plain.wTime e = true then { h11 with mtime := 0 } else h11) = h12 at HS12
  have HH12 := Lib.hid hh; clear hh
  have HL12 : Hid ((ps11 ++ Plain.one? (Plain.wTime e) (kMtime, st1)).length ≤ 7) := Lib.hid (by have := HL11.out; have := one_len (Plain.wTime e) (kMtime, st1); rw [List.length_append]; omega)
  generalize hp : ps11 ++ Plain.one? (Plain.wTime e) (kMtime, st1) = ps12 at *
  have HP12 := Lib.hid hp; clear hp
  clear HL11
  -- END MIDDLE
  go_upto_region 14 with fail
  have HH : Hid (h12 = Plain.hdOf e) := Lib.hid (by rw [hdOf_chain, ← HH12.out, ← HH11.out, ← HH10.out, ← HH9.out, ← HH8.out, ← HH7.out, ← HH6.out, ← HH0.out])
  have HPS : Hid (ps12 = Plain.prsOf e) := Lib.hid (by
    have es : st1 = (Plain.stamp e.sec e.nano).1 := by rw [HST.out]
    rw [← HP12.out, ← HP11.out, ← HP10.out, ← HP9.out, ← HP8.out, ← HP7.out, ← HP6.out, ← HNIL.out, es]; rfl)
  clear HH12 HH11 HH10 HH9 HH8 HH7 HH6 HH0 HP12 HP11 HP10 HP9 HP8 HP7 HP6 HNIL HST HW1 HL12
  obtain ⟨ap, np, cp, hrp, hrow⟩ := HS12.out.rp
  have hl12 : ps12.length = np := by have := hrow.1; rw [flat_len prCells_len] at this; omega
  have hcp : w12.cell? ⟨gp, 0, none⟩ = some (.slice ap np cp) := by rw [cell_of_row _ _ _ _ _ _ hrp]; rfl
  have hprs := own_prs hrow
  have HROW := Lib.hid hprs; have HLN := Lib.hid hl12
  clear hrp hrow hprs hl12
  have HBE : Hid (Below w.heap.size w w12) := Lib.hid (Below.seq HB0.out HS12.out.bel)
  have HSH12 := Lib.hid (HSH.out.keep HBE.out)
  have HRE : Hid (w12.heap[w.heap.size]? = some (.cells (enC e ad nd cd) 39 (0, 0))) := Lib.hid (by rw [HS12.out.bel.block _ (by rw [HGH.out]; exact hge.out)]; exact HE.out)
  have HRH := Lib.hid HS12.out.rh
  have HGL : Hid (w.heap.size < gh) := hge
  have HGA : Hid (g < w.heap.size ∧ ∀ b, blk? a = some b → b < w.heap.size) := Lib.hid ⟨HSH.out.lt, fun b hb => (HSH.out.own.lt b (by rw [← hb]; cases a <;> rfl)).2⟩
  have hhi : HdIn h12 := by rw [HH.out]; exact hdOf_in e hfit
  have hhz : HdSz h12 := by rw [HH.out]; exact hdOf_sz e hfit
  have HHI := Lib.hid hhi; have HHZ := Lib.hid hhz
  clear hhi hhz HSH HE HB0 HS12 hge
  have HIx := Lib.hid (hdInfo h12)
  have hno : out.length = n := by have := HSH12.out.own.1; simpa using this
  have HNO := Lib.hid hno; clear hno
  by_cases h0 : np = 0
  · subst h0
    go_upto_region 17 with fail
    have hce : w12.cell? ⟨w.heap.size, 10, none⟩ = some (.slice ad nd cd) := by rw [cell_of_row _ _ _ _ _ _ HRE.out]; rfl
    have HLAY := Lib.hid (Lay_sheet h12 HHI.out HHZ.out g a n c out ad nd cd e.data w12 (HT.out _ (Kp.of_below HBE.out)) HSH12.out (fun w' k => HD.out w' ((Kp.of_below HBE.out).trans k (.inl rfl))) (by have := HN.out; omega))
    have HENC : Hid (Plain.enc e = Plain.laid h12 e.data) := Lib.hid (by
      unfold Plain.enc
      rw [← HPS.out, ← HH.out, if_pos (List.eq_nil_of_length_eq_zero HLN.out)]; rfl)
    go_wp2_with (first
      | (with_reducible refine wpList_load_row rfl _ _ rfl gh rfl 43 (hdC h12) (0, 0) _ HRH.out Tryd.underlying43 rfl HIx.out ?_)
      | (go_at_call 64; (refine HLAY.out.mono ?_); rintro r w13 ⟨rfl, a', n', c', hs', hk', ho'⟩))
    go_end0
    exact ⟨rfl, a', n', c', by rw [HENC.out]; exact hs', (Kp.of_below HBE.out).trans hk' (.inl rfl), (OldNew.next (.inl rfl) HBE.out.size ho')⟩
  · have hp0 : ¬ ps12 = [] := fun h => h0 (by rw [← HLN.out, h]; rfl)
    have HENC : Hid (Plain.enc e = Plain.laid Plain.paxHd (Plain.write ps12).1 ++ Plain.laid h12 e.data) := Lib.hid (by
      unfold Plain.enc
      rw [← HPS.out, ← HH.out, if_neg hp0])
    have HWR := Lib.hid (Write_any ap np cp ps12 w12 (HP.out.below HBE.out) HROW.out (by rw [HPS.out]; exact prs_sz e hfit))
    have hwl := write_le ps12
    generalize Plain.write ps12 = wr at *
    obtain ⟨dd, dcode⟩ := wr
    simp only at hwl
    have HWL := Lib.hid hwl; clear hwl
    have hnp : 0 < np := by omega
    go_upto_region 16 with (go_at_call 63; (refine HWR.out.mono ?_); rintro r w13 ⟨ax, nx, cx, rfl, hox, hbx⟩; have HOX := Lib.hid hox; have HBX := Lib.hid hbx; clear hox hbx)
    clear HWR hcp
    have hnx : dd.length = nx := by have := HOX.out.1; simpa using this
    have hkx : ∀ w', Kp g a w13 w' → Bs w' ax nx cx dd := fun w' k => own_isSl (own_keep HOX.out fun j hj1 hj2 => k.block j hj2 (by have := HGA.out.1; have := HBE.out.size; omega) (fun q => by have := HGA.out.2 j q.symm; have := HBE.out.size; omega))
    have HLAY := Lib.hid (Lay_sheet Plain.paxHd paxHd_in paxHd_sz g a n c out ax nx cx dd w13 (HT.out _ (Kp.of_below (Below.seq HBE.out HBX.out))) (HSH12.out.keep HBX.out) hkx (by have := HN.out; have := HWL.out; omega))
    clear hkx
    have hlx := laid_len Plain.paxHd paxHd_in dd (by have := HWL.out; omega)
    go_upto_region 17 with (go_at_call 64; (refine HLAY.out.mono ?_); rintro r w14 ⟨rfl, a1, n1, c1, hs1, hk1, ho1⟩; have HS1 := Lib.hid hs1; have HK1 := Lib.hid hk1; have HO1 := Lib.hid ho1; clear hs1 hk1 ho1)
    clear HLAY
    have hn1 : out.length + (Plain.laid Plain.paxHd dd).length = n1 := by have := HS1.out.own.1; simpa using this
    have HBE13 := Lib.hid (Below.seq HBE.out HBX.out)
    have hrow14 : ∀ j, w.heap.size ≤ j → j < w12.heap.size → w14.heap[j]? = w12.heap[j]? := fun j h1 h2 => by
      rw [HK1.out.block j (Nat.lt_of_lt_of_le h2 HBX.out.size) (by have := HGA.out.1; omega) (fun q => by have := HGA.out.2 j q.symm; omega)]
      exact HBX.out.block j h2
    have HRE14 : Hid (w14.heap[w.heap.size]? = some (.cells (enC e ad nd cd) 39 (0, 0))) := Lib.hid (by rw [hrow14 _ (Nat.le_refl _) (Array.getElem?_eq_some_iff.1 HRE.out).1]; exact HRE.out)
    have HRH14 : Hid (w14.heap[gh]? = some (.cells (hdC h12) 43 (0, 0))) := Lib.hid (by rw [hrow14 _ (Nat.le_of_lt HGL.out) (Array.getElem?_eq_some_iff.1 HRH.out).1]; exact HRH.out)
    clear hrow14
    have hce : w14.cell? ⟨w.heap.size, 10, none⟩ = some (.slice ad nd cd) := by rw [cell_of_row _ _ _ _ _ _ HRE14.out]; rfl
    have HK14 : Hid (Kp g a w w14) := Lib.hid ((Kp.of_below HBE13.out).trans HK1.out (.inl rfl))
    have HO14 : Hid (OldNew w a a1) := Lib.hid (OldNew.next (.inl rfl) HBE13.out.size HO1.out)
    have HLY2 := Lib.hid (Lay_sheet h12 HHI.out HHZ.out g a1 n1 c1 _ ad nd cd e.data w14 (HT.out _ HK14.out) HS1.out (fun w' k => HD.out w' (HK14.out.trans k HO14.out)) (by have := HN.out; have := HWL.out; have := HNO.out; omega))
    go_wp2_with (first
      | (with_reducible refine wpList_load_row rfl _ _ rfl gh rfl 43 (hdC h12) (0, 0) _ HRH14.out Tryd.underlying43 rfl HIx.out ?_)
      | (go_at_call 64; (refine HLY2.out.mono ?_); rintro r w15 ⟨rfl, a', n', c', hs', hk', ho'⟩))
    go_end0
    exact ⟨rfl, a', n', c', by rw [HENC.out, ← List.append_assoc]; exact hs', HK14.out.trans hk' HO14.out, HO14.out.next HK14.out.size ho'⟩
end Go.Proofs.YtamgiffkhnfpmaaDoor
