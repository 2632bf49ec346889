/-
  GrPlant: graph.Plant.
-/
import Derived.Test.YtpdkdhcbibcifaaJ05
import Derived.Deep.RegionHeld3
import Derived.Deep.CutRange
import Derived.Deep.DeepCutAuto
namespace Go.Proofs.Ytpdkdhcbibcifaa
set_option linter.unusedVariables false
set_option linter.unusedSimpArgs false
open Go.ChangeShapes Go.WideShapes Go.ChangeAt Go.RowKit
open Go.Maps (Keyed)
namespace Gr
/-- what is asked of the lines in memory -/
structure LnNum (T : List LnS) : Prop where
  num : T.length ≤ 2000000
  dat : ∀ x ∈ T, x.2.2.1 ≤ 140737488355328
  str : ∀ x ∈ T, x.1.path.length ≤ 2000000 ∧ x.1.peer.length ≤ 2000000
abbrev lOf (T : List LnS) : List Ln := T.map (·.1)
def PlantRes (w : World) (LS : List Ln) (r : Ending) (w' : World) : Prop :=
  ∃ (ga : Option Addr) (gn gc : Nat) (code : Int), r = .returned (.tuple #[.agg #[.slice ga gn gc], .int .i64 code]) ∧ Below w.heap.size w w' ∧ (code = 0 ↔ Planted false LS)
theorem PlantRes.no {w w' : World} {LS : List Ln} {ga : Option Addr} {gn gc : Nat} (code : Int) (hc : code ≠ 0) (h : ¬ Planted false LS) (hb : Below w.heap.size w w') : PlantRes w LS (.returned (.tuple #[.agg #[.slice ga gn gc], .int .i64 code])) w' := ⟨ga, gn, gc, code, rfl, hb, ⟨fun e => absurd e hc, fun e => absurd e h⟩⟩
set_option maxRecDepth 100000 in
set_option maxHeartbeats 8000000 in
theorem Plant_any (a : Option Addr) (n c : Nat) (T : List LnS) (w : World) (hL : Lns w a n c T) (hN : LnNum T) :
    Calls Try.prog 43 #[.slice a n c] w (PlantRes w (lOf T)) := by
  have hl := hL.len; have hcap := hL.cap; have hmax := hL.max
  have hn2 := hN.num
  have HL := Lib.hid hl; have HT := Lib.hid hL; have HN := Lib.hid hN
  have hmm := @run_makeMap Try.prog
  rw [hl] at hn2
  clear hL hN hl
  go_enter Try.func43, Try.ntmps43
  go_upto_region 3 with fail
  have hps : Ps w (((w.alloc (.cells #[.slice none 0 0] 43)).alloc (.cells #[.slice none 0 0] 43)).alloc (.map #[] 0)) none 0 0 [] [] := by
    have e1 : (w.alloc (.cells #[.slice none 0 0] 43)).heap.size = w.heap.size + 1 := by simp
    have e2 : ((w.alloc (.cells #[.slice none 0 0] 43)).alloc (.cells #[.slice none 0 0] 43)).heap.size = w.heap.size + 2 := by simp
    have h0 := heap_alloc_new w (.cells #[.slice none 0 0] 43)
    have h1 := heap_alloc_new (w.alloc (.cells #[.slice none 0 0] 43)) (.cells #[.slice none 0 0] 43)
    rw [e1] at h1
    refine ⟨(((Below.refl _ _).alloc (Nat.le_refl _) _).alloc (by simp) _).alloc (by simp; omega) _, ?_, ⟨?_, World.ownsRow_nil _ _ _ _, by simp, by simp, by simp, by omega⟩, ?_⟩
    · rw [heap_alloc_old _ _ (by simp; omega), heap_alloc_old _ _ (by simp)]; exact h0
    · rw [heap_alloc_old _ _ (by simp)]; exact h1
    · have h2 := Mp.made mkS ((w.alloc (.cells #[.slice none 0 0] 43)).alloc (.cells #[.slice none 0 0] 43)) Try.prog 9
      rw [e2] at h2
      exact h2.congr (fun x => by simp [idF])
  have HPS := Lib.hid hps
  clear hps hmm
  generalize ((w.alloc (.cells #[.slice none 0 0] 43)).alloc (.cells #[.slice none 0 0] 43)).alloc (.map #[] 0) = w3 at *
  go_wp2_with fail
  go_loopw [20] (fun i wr => ∃ (k : Nat) (na : Option Addr) (nn nc : Nat) (NS : List NdS) (pi : List (Bt × Int)), k ≤ n ∧ i = .int .i64 k ∧ Hid (Ps w wr na nn nc NS pi) ∧ Hid (PlInv (lOf T) k pi (gOf NS))) (fun i _ => n - (intOf i).toNat)
  case atStart => exact ⟨0, none, 0, 0, [], [], Nat.zero_le _, rfl, HPS, Lib.hid (PlInv.nil _)⟩
  case round =>
    obtain ⟨k, na, nn, nc, NS, pi, hk, rfl, hP, hI⟩ := hrel
    by_cases hlt : k < n
    · have hzz := hlt
      -- @done
      obtain ⟨x, hxk⟩ := get_some (S := T) (k := k) (by have := HL.out; omega)
      obtain ⟨b, off, rfl, hr⟩ := (HT.out.below hP.out.bel).at k x hxk
      have hdx := (HT.out.below hP.out.bel).dat x (mem_get hxk)
      have hnd := HN.out.dat x (mem_get hxk)
      obtain ⟨hns1, hns2⟩ := HN.out.str x (mem_get hxk)
      have hlk : (lOf T)[k]? = some x.1 := mapfst_get hxk
      have HLK := Lib.hid hlk
      have HGN : Hid ((gOf NS).length = nn) := Lib.hid (by rw [List.length_map]; exact hP.out.pls.len)
      have hb1 : Below wr.heap.size wr (wr.alloc (.cells (lnV x) 51)) := (Below.refl _ _).alloc (Nat.le_refl _) _
      have hP1 := hP.out.below hb1
      have hbx := heap_alloc_new wr (.cells (lnV x) 51)
      have hdx1 := Below.bs hb1 hdx
      have hid := hI.out.idOf (l := x.1)
      have hgn : (gOf NS).length = nn := by rw [List.length_map]; exact hP.out.pls.len
      have hnk := hI.out.gl
      have hkp := key_str (P := Try.prog) Try.underlying9 (x := x.1.peer) (by omega)
      have hkq := key_str (P := Try.prog) Try.underlying9 (x := x.1.path) (by omega)
      have HP1 := Lib.hid hP1; have HBX := Lib.hid hbx; have HDX := Lib.hid hdx1; have HND := Lib.hid hnd; have HKP := Lib.hid hkp; have HKQ := Lib.hid hkq; have HR := Lib.hid hr
      have HID : Hid (0 ≤ idOf pi (gOf NS) x.1 ∧ idOf pi (gOf NS) x.1 ≤ (k : Int) + 1) := Lib.hid ⟨hid.1, hid.2.1⟩
      have HIDD : Hid (idOf pi (gOf NS) x.1 = if x.1.peer = [] then (nn : Int) + 1 else (pi.lookup x.1.peer).getD 0) := Lib.hid (by unfold idOf; rw [hgn])
      obtain ⟨ID, hID⟩ : ∃ z, idOf pi (gOf NS) x.1 = z := ⟨_, rfl⟩
      have HIE := Lib.hid hID
      rw [hID] at HID HIDD
      have hlxz : w.heap.size + 3 ≤ wr.heap.size := by have := hP.out.mp.lt; omega
      clear hdx hnd hxk hlk hb1 hP1 hbx hdx1 hid hkp hkq hr hID hP
      obtain ⟨⟨path, kind, mode, uid, gid, sec, nano, data, target, peer⟩, ⟨da, dn, dc⟩⟩ := x
      simp only at hns1 hns2 HKP HKQ HIDD HDX HND
      simp only [lnCells] at HR
      simp only [lnV] at HP1 HBX HDX
      have c8 : (wr.alloc (.cells #[.string ⟨path.toArray⟩, .int .i64 kind, .int .i64 mode, .int .i64 uid, .int .i64 gid, .int .i64 sec, .int .i64 nano, .slice da dn dc, .string ⟨target.toArray⟩, .string ⟨peer.toArray⟩] 51)).cell? ⟨wr.heap.size, 9, none⟩ = some (.string ⟨peer.toArray⟩) := by rw [row_cell HBX.out]; rfl
      have HPV : Hid ((idF pi peer).getD (.int .i64 0) = .int .i64 ((pi.lookup peer).getD 0)) := Lib.hid (idF_val pi peer)
      go_upto_region 6 with (refine wpList_load_mid rfl _ _ rfl b (off + k * 10) rfl _ _ HR.out Try.underlying51 rfl (by kernel_rfl) ?_)
      generalize wr.alloc (.cells #[.string ⟨path.toArray⟩, .int .i64 kind, .int .i64 mode, .int .i64 uid, .int .i64 gid, .int .i64 sec, .int .i64 nano, .slice da dn dc, .string ⟨target.toArray⟩, .string ⟨peer.toArray⟩] 51) = w1 at *
      generalize wr.heap.size = lx at *
      go_upto_if 31 with (at_lookup; refine wpList_mp_look_v rfl _ _ 80 rfl 3 lawS Try.underlying80 (zeroInt _) rfl HP1.out.mp _ peer rfl HKP.out _ HPV.out ?_)
      clear c8
      go_cut [8] (fun v wx => ∃ (na' : Option Addr) (nn' nc' : Nat) (NS' : List NdS), v = .int .i64 ID ∧ Hid (Ps w wx na' nn' nc' NS' pi) ∧ Hid (gOf NS' = nodes1 (gOf NS) ⟨path, kind, mode, uid, gid, sec, nano, data, target, peer⟩) ∧ Hid (wx.heap[lx]? = some (.cells #[.string ⟨path.toArray⟩, .int .i64 kind, .int .i64 mode, .int .i64 uid, .int .i64 gid, .int .i64 sec, .int .i64 nano, .slice da dn dc, .string ⟨target.toArray⟩, .string ⟨peer.toArray⟩] 51)))
      case first =>
        by_cases hpe : peer = []
        · subst hpe
          obtain rfl : ID = (nn : Int) + 1 := by have := HIDD.out; simpa using this
          have HS : Hid (∀ w' : World, w'.heap[lx]? = some (.cells #[.string ⟨path.toArray⟩, .int .i64 kind, .int .i64 mode, .int .i64 uid, .int .i64 gid, .int .i64 sec, .int .i64 nano, .slice da dn dc, .string ⟨target.toArray⟩, .string ⟨([] : Bt).toArray⟩] 51) → w'.cell? ⟨lx, 1, none⟩ = some (.int .i64 kind) ∧ w'.cell? ⟨lx, 2, none⟩ = some (.int .i64 mode) ∧ w'.cell? ⟨lx, 3, none⟩ = some (.int .i64 uid) ∧ w'.cell? ⟨lx, 4, none⟩ = some (.int .i64 gid) ∧ w'.cell? ⟨lx, 5, none⟩ = some (.int .i64 sec) ∧ w'.cell? ⟨lx, 5 + 1, none⟩ = some (.int .i64 nano) ∧ w'.cell? ⟨lx, 7, none⟩ = some (.slice da dn dc) ∧ w'.cell? ⟨lx, 8, none⟩ = some (.string ⟨target.toArray⟩)) := Lib.hid (fun w' h2 => by
            refine ⟨?_, ?_, ?_, ?_, ?_, ?_, ?_, ?_⟩ <;> (rw [row_cell h2]; rfl))
          have HCLN := Lib.hid (Clone_any (da, dn, dc) data w1.drew HDX.out HND.out)
          have hs0 := fun (a5 : Option Addr) (n5 c5 : Nat) => run_slice_one (P := Try.prog) 41 Try.underlying41 (ndV (mkNode ((nn : Int) + 1) ⟨path, kind, mode, uid, gid, sec, nano, data, target, []⟩, (a5, n5, c5), (none, 0, 0))) (infoNode2 _) rfl (by show 0 < 10; decide) (by show 10 ≤ _; decide)
          have HAPP : Hid (∀ w5 (a5 : Option Addr) (n5 c5 : Nat), Own w5 w1.heap.size (a5, n5, c5) data → Below w1.heap.size w1 w5 → ∃ a7 c7 w7, (Builtin.append_ #[41, 41] 41 #[.slice na nn nc, .slice (some ⟨w5.heap.size, 0, none⟩) 1 1]).run Try.prog (w5.alloc (.cells (ndV (mkNode ((nn : Int) + 1) ⟨path, kind, mode, uid, gid, sec, nano, data, target, []⟩, (a5, n5, c5), (none, 0, 0))) 75)) = .ok (.slice a7 (nn + 1) c7) w7 ∧
              Hid (Ps w (w7.setCell ⟨w.heap.size + 1, 0, none⟩ (.slice a7 (nn + 1) c7)) a7 (nn + 1) c7 (NS ++ [(mkNode ((nn : Int) + 1) ⟨path, kind, mode, uid, gid, sec, nano, data, target, []⟩, (a5, n5, c5), (none, 0, 0))]) pi) ∧ Hid (w7.heap[lx]? = some (.cells #[.string ⟨path.toArray⟩, .int .i64 kind, .int .i64 mode, .int .i64 uid, .int .i64 gid, .int .i64 sec, .int .i64 nano, .slice da dn dc, .string ⟨target.toArray⟩, .string ⟨([] : Bt).toArray⟩] 51)) ∧ Hid ((w7.setCell ⟨w.heap.size + 1, 0, none⟩ (.slice a7 (nn + 1) c7)).heap[lx]? = some (.cells #[.string ⟨path.toArray⟩, .int .i64 kind, .int .i64 mode, .int .i64 uid, .int .i64 gid, .int .i64 sec, .int .i64 nano, .slice da dn dc, .string ⟨target.toArray⟩, .string ⟨([] : Bt).toArray⟩] 51)) ∧
              w7.cell? ⟨w.heap.size + 1, 0, none⟩ = some (.slice na nn nc) ∧ w7.frozen? ⟨w.heap.size + 1, 0, none⟩ = false) := Lib.hid (fun w5 a5 n5 c5 ho5 hb5 => by
            have hbA : Below w1.heap.size w1 (w5.alloc (.cells (ndV (mkNode ((nn : Int) + 1) ⟨path, kind, mode, uid, gid, sec, nano, data, target, []⟩, (a5, n5, c5), (none, 0, 0))) 75)) := hb5.alloc hb5.size _
            have hPA := HP1.out.below hbA
            have hsrc := isSl_new w5 75 10 1 (ndV (mkNode ((nn : Int) + 1) ⟨path, kind, mode, uid, gid, sec, nano, data, target, []⟩, (a5, n5, c5), (none, 0, 0))) rfl (by decide)
            obtain ⟨a7, c7, w7, h1, h2, h3⟩ := run_app (P := Try.prog) 41 41 w.heap.size 75 _ 10 120 Try.underlying41 infoNode rfl (by decide) (by decide) hPA.pls.own hsrc (by simpa [ndV, ndCells] using nd_one [(mkNode ((nn : Int) + 1) ⟨path, kind, mode, uid, gid, sec, nano, data, target, []⟩, (a5, n5, c5), (none, 0, 0))]) (by omega) hPA.bel.size
            have hr7 := row_grown hPA.pls.row h3 (fun e => own_ne_row hPA.pls.own hPA.pls.row (by decide) e.symm)
            have hx7 := row_grown (row_below HBX.out hbA) h3 (fun e => own_ne_row hPA.pls.own (row_below HBX.out hbA) (by decide) e.symm)
            refine ⟨a7, c7, w7, h1, Lib.hid ?_, Lib.hid hx7, Lib.hid (row_grown hx7 (setCell_grown w7 (w.heap.size + 1) 0 _) (by simp; omega)), by rw [row_cell hr7]; rfl, row_froz hr7 0⟩
            exact HP1.out.node hbA h3 (by simpa [ndV, ndCells] using h2) (own_keep (own_base ho5 HP1.out.bel.size) (fun j _ hj => by rw [heap_alloc_old _ _ hj])) rfl rfl)
          have hgc : w1.cell? ⟨w.heap.size + 1, 0, none⟩ = some (.slice na nn nc) := by rw [row_cell HP1.out.pls.row]; rfl
          simp only [ndV, mkNode] at hs0
          go_upto_region 9 with fail
          refine wp_region_held_drew (S := fun w' : World => w'.cell? ⟨lx, 1, none⟩ = some (.int .i64 kind) ∧ w'.cell? ⟨lx, 2, none⟩ = some (.int .i64 mode) ∧ w'.cell? ⟨lx, 3, none⟩ = some (.int .i64 uid) ∧ w'.cell? ⟨lx, 4, none⟩ = some (.int .i64 gid) ∧ w'.cell? ⟨lx, 5, none⟩ = some (.int .i64 sec) ∧ w'.cell? ⟨lx, 5 + 1, none⟩ = some (.int .i64 nano) ∧ w'.cell? ⟨lx, 7, none⟩ = some (.slice da dn dc) ∧ w'.cell? ⟨lx, 8, none⟩ = some (.string ⟨target.toArray⟩)) (by kernel_rfl) (HS.out _ HBX.out) (fun hHeld => ?_)
          refine wpAnyH_take (i := 0) (oi := { dst := some 36, op := Op.fieldAddr 43 (Operand.tmp 4) 0, type := 0, pos := "graph.go:257", after := #[], guard := none }) (v := (.pointer (some ⟨w.heap.size + 1, 0, none⟩))) rfl (by kernel_rfl) (by kernel_rfl) (by kernel_rfl) (fun _ _ _ h => h) (Or.inl ⟨by rfl, ?_⟩) (by assumption) ?_
          · intro wz hSw
            (try dsimp only at hSw)
            obtain ⟨s1, s2, s3, s4, s5, s6, s7, s8⟩ := hSw
            go_simp
          (try simp only [Act.put, List.setIfInBounds_toArray, List.set_cons_zero, List.set_cons_succ, List.toList_toArray])
          refine wpAnyH_take (i := 2) (oi := { dst := some 38, op := Op.move (Operand.tmp 8), type := 3, pos := "graph.go:257", after := #[], guard := none }) (v := (.int .i64 ((nn : Int) + 1))) rfl (by kernel_rfl) (by kernel_rfl) (by kernel_rfl) (fun _ _ _ h => h) (Or.inl ⟨by rfl, ?_⟩) (by assumption) ?_
          · intro wz hSw
            (try dsimp only at hSw)
            obtain ⟨s1, s2, s3, s4, s5, s6, s7, s8⟩ := hSw
            go_simp
          (try simp only [Act.put, List.setIfInBounds_toArray, List.set_cons_zero, List.set_cons_succ, List.toList_toArray])
          refine wpAnyH_take (i := 3) (oi := { dst := some 39, op := Op.fieldAddr 51 (Operand.tmp 7) 1, type := 0, pos := "graph.go:257", after := #[], guard := none }) (v := (.pointer (some ⟨lx, 1, none⟩))) rfl (by kernel_rfl) (by kernel_rfl) (by kernel_rfl) (fun _ _ _ h => h) (Or.inl ⟨by rfl, ?_⟩) (by assumption) ?_
          · intro wz hSw
            (try dsimp only at hSw)
            obtain ⟨s1, s2, s3, s4, s5, s6, s7, s8⟩ := hSw
            go_simp
          (try simp only [Act.put, List.setIfInBounds_toArray, List.set_cons_zero, List.set_cons_succ, List.toList_toArray])
          refine wpAnyH_take (i := 4) (oi := { dst := some 40, op := Op.load 3 (Operand.tmp 39), type := 3, pos := "graph.go:257", after := #[{ on := 3, ground := Ground.data }], guard := none }) (v := (.int .i64 kind)) rfl (by kernel_rfl) (by kernel_rfl) (by kernel_rfl) (fun _ _ _ h => h) (Or.inl ⟨by rfl, ?_⟩) (by assumption) ?_
          · intro wz hSw
            (try dsimp only at hSw)
            obtain ⟨s1, s2, s3, s4, s5, s6, s7, s8⟩ := hSw
            go_simp
          (try simp only [Act.put, List.setIfInBounds_toArray, List.set_cons_zero, List.set_cons_succ, List.toList_toArray])
          refine wpAnyH_take (i := 5) (oi := { dst := some 41, op := Op.fieldAddr 51 (Operand.tmp 7) 2, type := 0, pos := "graph.go:257", after := #[], guard := none }) (v := (.pointer (some ⟨lx, 2, none⟩))) rfl (by kernel_rfl) (by kernel_rfl) (by kernel_rfl) (fun _ _ _ h => h) (Or.inl ⟨by rfl, ?_⟩) (by assumption) ?_
          · intro wz hSw
            (try dsimp only at hSw)
            obtain ⟨s1, s2, s3, s4, s5, s6, s7, s8⟩ := hSw
            go_simp
          (try simp only [Act.put, List.setIfInBounds_toArray, List.set_cons_zero, List.set_cons_succ, List.toList_toArray])
          refine wpAnyH_take (i := 6) (oi := { dst := some 42, op := Op.load 3 (Operand.tmp 41), type := 3, pos := "graph.go:257", after := #[{ on := 5, ground := Ground.data }], guard := none }) (v := (.int .i64 mode)) rfl (by kernel_rfl) (by kernel_rfl) (by kernel_rfl) (fun _ _ _ h => h) (Or.inl ⟨by rfl, ?_⟩) (by assumption) ?_
          · intro wz hSw
            (try dsimp only at hSw)
            obtain ⟨s1, s2, s3, s4, s5, s6, s7, s8⟩ := hSw
            go_simp
          (try simp only [Act.put, List.setIfInBounds_toArray, List.set_cons_zero, List.set_cons_succ, List.toList_toArray])
          refine wpAnyH_take (i := 7) (oi := { dst := some 43, op := Op.fieldAddr 51 (Operand.tmp 7) 3, type := 0, pos := "graph.go:257", after := #[], guard := none }) (v := (.pointer (some ⟨lx, 3, none⟩))) rfl (by kernel_rfl) (by kernel_rfl) (by kernel_rfl) (fun _ _ _ h => h) (Or.inl ⟨by rfl, ?_⟩) (by assumption) ?_
          · intro wz hSw
            (try dsimp only at hSw)
            obtain ⟨s1, s2, s3, s4, s5, s6, s7, s8⟩ := hSw
            go_simp
          (try simp only [Act.put, List.setIfInBounds_toArray, List.set_cons_zero, List.set_cons_succ, List.toList_toArray])
          refine wpAnyH_take (i := 8) (oi := { dst := some 44, op := Op.load 3 (Operand.tmp 43), type := 3, pos := "graph.go:257", after := #[{ on := 7, ground := Ground.data }], guard := none }) (v := (.int .i64 uid)) rfl (by kernel_rfl) (by kernel_rfl) (by kernel_rfl) (fun _ _ _ h => h) (Or.inl ⟨by rfl, ?_⟩) (by assumption) ?_
          · intro wz hSw
            (try dsimp only at hSw)
            obtain ⟨s1, s2, s3, s4, s5, s6, s7, s8⟩ := hSw
            go_simp
          (try simp only [Act.put, List.setIfInBounds_toArray, List.set_cons_zero, List.set_cons_succ, List.toList_toArray])
          refine wpAnyH_take (i := 9) (oi := { dst := some 45, op := Op.fieldAddr 51 (Operand.tmp 7) 4, type := 0, pos := "graph.go:257", after := #[], guard := none }) (v := (.pointer (some ⟨lx, 4, none⟩))) rfl (by kernel_rfl) (by kernel_rfl) (by kernel_rfl) (fun _ _ _ h => h) (Or.inl ⟨by rfl, ?_⟩) (by assumption) ?_
          · intro wz hSw
            (try dsimp only at hSw)
            obtain ⟨s1, s2, s3, s4, s5, s6, s7, s8⟩ := hSw
            go_simp
          (try simp only [Act.put, List.setIfInBounds_toArray, List.set_cons_zero, List.set_cons_succ, List.toList_toArray])
          refine wpAnyH_take (i := 10) (oi := { dst := some 46, op := Op.load 3 (Operand.tmp 45), type := 3, pos := "graph.go:257", after := #[{ on := 9, ground := Ground.data }], guard := none }) (v := (.int .i64 gid)) rfl (by kernel_rfl) (by kernel_rfl) (by kernel_rfl) (fun _ _ _ h => h) (Or.inl ⟨by rfl, ?_⟩) (by assumption) ?_
          · intro wz hSw
            (try dsimp only at hSw)
            obtain ⟨s1, s2, s3, s4, s5, s6, s7, s8⟩ := hSw
            go_simp
          (try simp only [Act.put, List.setIfInBounds_toArray, List.set_cons_zero, List.set_cons_succ, List.toList_toArray])
          refine wpAnyH_take (i := 11) (oi := { dst := some 47, op := Op.fieldAddr 51 (Operand.tmp 7) 5, type := 0, pos := "graph.go:257", after := #[], guard := none }) (v := (.pointer (some ⟨lx, 5, none⟩))) rfl (by kernel_rfl) (by kernel_rfl) (by kernel_rfl) (fun _ _ _ h => h) (Or.inl ⟨by rfl, ?_⟩) (by assumption) ?_
          · intro wz hSw
            (try dsimp only at hSw)
            obtain ⟨s1, s2, s3, s4, s5, s6, s7, s8⟩ := hSw
            go_simp
          (try simp only [Act.put, List.setIfInBounds_toArray, List.set_cons_zero, List.set_cons_succ, List.toList_toArray])
          refine wpAnyH_take (i := 12) (oi := { dst := some 48, op := Op.load 36 (Operand.tmp 47), type := 36, pos := "graph.go:257", after := #[{ on := 11, ground := Ground.data }], guard := none }) (v := (.agg #[.int .i64 sec, .int .i64 nano])) rfl (by kernel_rfl) (by kernel_rfl) (by kernel_rfl) (fun _ _ _ h => h) (Or.inl ⟨by rfl, ?_⟩) (by assumption) ?_
          · intro wz hSw
            (try dsimp only at hSw)
            obtain ⟨s1, s2, s3, s4, s5, s6, s7, s8⟩ := hSw
            go_simp
          (try simp only [Act.put, List.setIfInBounds_toArray, List.set_cons_zero, List.set_cons_succ, List.toList_toArray])
          refine wpAnyH_take (i := 13) (oi := { dst := some 49, op := Op.fieldAddr 51 (Operand.tmp 7) 6, type := 0, pos := "graph.go:257", after := #[], guard := none }) (v := (.pointer (some ⟨lx, 7, none⟩))) rfl (by kernel_rfl) (by kernel_rfl) (by kernel_rfl) (fun _ _ _ h => h) (Or.inl ⟨by rfl, ?_⟩) (by assumption) ?_
          · intro wz hSw
            (try dsimp only at hSw)
            obtain ⟨s1, s2, s3, s4, s5, s6, s7, s8⟩ := hSw
            go_simp
          (try simp only [Act.put, List.setIfInBounds_toArray, List.set_cons_zero, List.set_cons_succ, List.toList_toArray])
          refine wpAnyH_take (i := 14) (oi := { dst := some 50, op := Op.load 37 (Operand.tmp 49), type := 37, pos := "graph.go:257", after := #[{ on := 13, ground := Ground.data }], guard := none }) (v := (.slice da dn dc)) rfl (by kernel_rfl) (by kernel_rfl) (by kernel_rfl) (fun _ _ _ h => h) (Or.inl ⟨by rfl, ?_⟩) (by assumption) ?_
          · intro wz hSw
            (try dsimp only at hSw)
            obtain ⟨s1, s2, s3, s4, s5, s6, s7, s8⟩ := hSw
            go_simp
          (try simp only [Act.put, List.setIfInBounds_toArray, List.set_cons_zero, List.set_cons_succ, List.toList_toArray])
          refine wpAnyH_take (i := 16) (oi := { dst := some 52, op := Op.fieldAddr 51 (Operand.tmp 7) 7, type := 0, pos := "graph.go:257", after := #[], guard := none }) (v := (.pointer (some ⟨lx, 8, none⟩))) rfl (by kernel_rfl) (by kernel_rfl) (by kernel_rfl) (fun _ _ _ h => h) (Or.inl ⟨by rfl, ?_⟩) (by assumption) ?_
          · intro wz hSw
            (try dsimp only at hSw)
            obtain ⟨s1, s2, s3, s4, s5, s6, s7, s8⟩ := hSw
            go_simp
          (try simp only [Act.put, List.setIfInBounds_toArray, List.set_cons_zero, List.set_cons_succ, List.toList_toArray])
          refine wpAnyH_take (i := 17) (oi := { dst := some 53, op := Op.load 9 (Operand.tmp 52), type := 9, pos := "graph.go:257", after := #[{ on := 16, ground := Ground.data }], guard := none }) (v := (.string ⟨target.toArray⟩)) rfl (by kernel_rfl) (by kernel_rfl) (by kernel_rfl) (fun _ _ _ h => h) (Or.inl ⟨by rfl, ?_⟩) (by assumption) ?_
          · intro wz hSw
            (try dsimp only at hSw)
            obtain ⟨s1, s2, s3, s4, s5, s6, s7, s8⟩ := hSw
            go_simp
          (try simp only [Act.put, List.setIfInBounds_toArray, List.set_cons_zero, List.set_cons_succ, List.toList_toArray])
          refine wpAnyH_ready (rs := [1, 15]) (by kernel_rfl) (by simp) ?_
          refine AllReadyH.cons (o := { dst := some 37, op := Op.load 41 (Operand.tmp 36), type := 41, pos := "graph.go:257", after := #[{ on := 0, ground := Ground.data }], guard := none }) rfl (fun K hK => ?_) ?_
          · skip
            go_simp
            refine hK.out _ _ (by assumption) (fun hH1 => ?_)
            clear hK K
            (try simp only [Act.put, List.setIfInBounds_toArray, List.set_cons_zero, List.set_cons_succ, List.toList_toArray])
            refine wpAnyH_ready (rs := [15]) (by kernel_rfl) (by simp) ?_
            refine AllReadyH.cons (o := { dst := some 51, op := Op.call { callee := Callee.value (Operand.func 37), args := #[Operand.tmp 50], argTypes := #[37] }, type := 37, pos := "graph.go:257", after := #[{ on := 14, ground := Ground.data }], guard := none }) rfl (fun K hK => ?_) AllReadyH.nil
            go_simp
            (go_at_call 37; refine (HCLN.out).mono ?_; rintro r w5 ⟨a5, n5, c5, rfl, ho5, hb5⟩)
            have HO5 : Hid (Own w5 w1.heap.size (a5, n5, c5) data) := Lib.hid ho5
            have HB5 : Hid (Below w1.heap.size w1 w5) := Lib.hid ⟨hb5.os, hb5.tape, hb5.output, hb5.size, hb5.block⟩
            have HX5 := Lib.hid (row_below HBX.out HB5.out)
            have HX5a := Lib.hid (fun o => (heap_alloc_old w5 o (row_lt HX5.out)).trans HX5.out)
            have g5 := Below.keeps HB5.out _ _ hgc
            have g5a := fun o => Keeps.alloc w5 o _ _ g5
            clear ho5 hb5
            (try go_wp2_with fail)
            refine hK.out _ _ (HS.out _ HX5.out) (fun hH5 => ?_)
            clear hK K hHeld
            (try simp only [Act.put, List.setIfInBounds_toArray, List.set_cons_zero, List.set_cons_succ, List.toList_toArray])
            refine wpAnyH_take (i := 18) (oi := { dst := some 54, op := Op.build 75 #[(0, Operand.tmp 38), (1, Operand.tmp 40), (2, Operand.tmp 42), (3, Operand.tmp 44), (4, Operand.tmp 46), (5, Operand.tmp 48), (6, Operand.tmp 51), (7, Operand.tmp 53)], type := 75, pos := "graph.go:257", after := #[{ on := 2, ground := Ground.data }, { on := 4, ground := Ground.data }, { on := 6, ground := Ground.data }, { on := 8, ground := Ground.data }, { on := 10, ground := Ground.data }, { on := 12, ground := Ground.data }, { on := 15, ground := Ground.data }, { on := 17, ground := Ground.data }], guard := none }) (v := (.agg #[.int .i64 ((nn : Int) + 1), .int .i64 kind, .int .i64 mode, .int .i64 uid, .int .i64 gid, .int .i64 sec, .int .i64 nano, .slice a5 n5 c5, .string ⟨target.toArray⟩, .slice none 0 0])) rfl (by kernel_rfl) (by kernel_rfl) (by kernel_rfl) (fun _ _ _ h => h) (Or.inl ⟨by rfl, ?_⟩) (by assumption) ?_
            · intro wz hSw
              (try dsimp only at hSw)
              obtain ⟨s1, s2, s3, s4, s5, s6, s7, s8⟩ := hSw
              go_simp
            (try simp only [Act.put, List.setIfInBounds_toArray, List.set_cons_zero, List.set_cons_succ, List.toList_toArray])
            refine wpAnyH_ready (rs := [19]) (by kernel_rfl) (by simp) ?_
            refine AllReadyH.cons (o := { dst := some 55, op := Op.buildSlice 41 1 #[(0, Operand.tmp 54)], type := 41, pos := "graph.go:257", after := #[{ on := 18, ground := Ground.data }], guard := none }) rfl (fun K hK => ?_) AllReadyH.nil
            go_simp
            refine hK.out _ _ (HS.out _ (HX5a.out _)) (fun hH6 => ?_)
            clear hK K hH5
            (try simp only [Act.put, List.setIfInBounds_toArray, List.set_cons_zero, List.set_cons_succ, List.toList_toArray])
            refine wpAnyH_ready (rs := [20]) (by kernel_rfl) (by simp) ?_
            refine AllReadyH.cons (o := { dst := some 56, op := Op.call { callee := Callee.builtin Builtin.append, args := #[Operand.tmp 37, Operand.tmp 55], argTypes := #[41, 41] }, type := 41, pos := "graph.go:257", after := #[{ on := 1, ground := Ground.data }, { on := 19, ground := Ground.data }, { on := 15, ground := Ground.chain }], guard := none }) rfl (fun K hK => ?_) AllReadyH.nil
            obtain ⟨a7, c7, w7, hrun7, HP7, HX7, HX7s, k1, k2⟩ := HAPP.out w5 a5 n5 c5 HO5.out HB5.out
            refine step_app_run rfl (.tmp 37) (.tmp 55) 41 rfl _ _ (by simp [Act.eval, Act.put]) (by simp [Act.eval, Act.put]) _ _ hrun7 ?_
            clear hrun7
            refine hK.out _ _ (HS.out _ HX7.out) (fun hH7 => ?_)
            clear hK K hH6
            (try simp only [Act.put, List.setIfInBounds_toArray, List.set_cons_zero, List.set_cons_succ, List.toList_toArray])
            refine wpAnyH_take (i := 21) (oi := { dst := some 57, op := Op.fieldAddr 43 (Operand.tmp 4) 0, type := 0, pos := "graph.go:257", after := #[{ on := 0, ground := Ground.phase }, { on := 1, ground := Ground.phase }, { on := 2, ground := Ground.phase }, { on := 3, ground := Ground.phase }, { on := 4, ground := Ground.phase }, { on := 5, ground := Ground.phase }, { on := 6, ground := Ground.phase }, { on := 7, ground := Ground.phase }, { on := 8, ground := Ground.phase }, { on := 9, ground := Ground.phase }, { on := 10, ground := Ground.phase }, { on := 11, ground := Ground.phase }, { on := 12, ground := Ground.phase }, { on := 13, ground := Ground.phase }, { on := 14, ground := Ground.phase }, { on := 15, ground := Ground.phase }, { on := 16, ground := Ground.phase }, { on := 17, ground := Ground.phase }, { on := 18, ground := Ground.phase }, { on := 19, ground := Ground.phase }, { on := 20, ground := Ground.phase }], guard := none }) (v := (.pointer (some ⟨w.heap.size + 1, 0, none⟩))) rfl (by kernel_rfl) (by kernel_rfl) (by kernel_rfl) (fun _ _ _ h => h) (Or.inl ⟨by rfl, ?_⟩) (by assumption) ?_
            · intro wz hSw
              (try dsimp only at hSw)
              obtain ⟨s1, s2, s3, s4, s5, s6, s7, s8⟩ := hSw
              go_simp
            (try simp only [Act.put, List.setIfInBounds_toArray, List.set_cons_zero, List.set_cons_succ, List.toList_toArray])
            refine wpAnyH_ready (rs := [22]) (by kernel_rfl) (by simp) ?_
            refine AllReadyH.cons (o := { dst := none, op := Op.store 41 (Operand.tmp 57) (Operand.tmp 56), type := 0, pos := "graph.go:257", after := #[{ on := 21, ground := Ground.data }, { on := 20, ground := Ground.data }, { on := 20, ground := Ground.chain }, { on := 0, ground := Ground.phase }, { on := 1, ground := Ground.phase }, { on := 2, ground := Ground.phase }, { on := 3, ground := Ground.phase }, { on := 4, ground := Ground.phase }, { on := 5, ground := Ground.phase }, { on := 6, ground := Ground.phase }, { on := 7, ground := Ground.phase }, { on := 8, ground := Ground.phase }, { on := 9, ground := Ground.phase }, { on := 10, ground := Ground.phase }, { on := 11, ground := Ground.phase }, { on := 12, ground := Ground.phase }, { on := 13, ground := Ground.phase }, { on := 14, ground := Ground.phase }, { on := 15, ground := Ground.phase }, { on := 16, ground := Ground.phase }, { on := 17, ground := Ground.phase }, { on := 18, ground := Ground.phase }, { on := 19, ground := Ground.phase }, { on := 20, ground := Ground.phase }], guard := none }) rfl (fun K hK => ?_) AllReadyH.nil
            go_simp
            refine hK.out _ _ (HS.out _ HX7s.out) (fun hH8 => ?_)
            clear hK K
            (try simp only [Act.put, List.setIfInBounds_toArray, List.set_cons_zero, List.set_cons_succ, List.toList_toArray])
            refine wpAnyH_done (by kernel_rfl) ?_ _
            go_wp2_with fail
            go_meet
            exact ⟨a7, nn + 1, c7, _, rfl, HP7, Lib.hid (by unfold nodes1; rw [if_pos rfl, HGN.out]; simp [gOf]), HX7s⟩
          refine AllReadyH.cons (o := { dst := some 51, op := Op.call { callee := Callee.value (Operand.func 37), args := #[Operand.tmp 50], argTypes := #[37] }, type := 37, pos := "graph.go:257", after := #[{ on := 14, ground := Ground.data }], guard := none }) rfl (fun K hK => ?_) AllReadyH.nil
          go_simp
          (go_at_call 37; refine (HCLN.out).mono ?_; rintro r w5 ⟨a5, n5, c5, rfl, ho5, hb5⟩)
          have HO5 : Hid (Own w5 w1.heap.size (a5, n5, c5) data) := Lib.hid ho5
          have HB5 : Hid (Below w1.heap.size w1 w5) := Lib.hid ⟨hb5.os, hb5.tape, hb5.output, hb5.size, hb5.block⟩
          have HX5 := Lib.hid (row_below HBX.out HB5.out)
          have HX5a := Lib.hid (fun o => (heap_alloc_old w5 o (row_lt HX5.out)).trans HX5.out)
          have g5 := Below.keeps HB5.out _ _ hgc
          have g5a := fun o => Keeps.alloc w5 o _ _ g5
          clear ho5 hb5
          (try go_wp2_with fail)
          refine hK.out _ _ (HS.out _ HX5.out) (fun hH5 => ?_)
          clear hK K hHeld
          (try simp only [Act.put, List.setIfInBounds_toArray, List.set_cons_zero, List.set_cons_succ, List.toList_toArray])
          refine wpAnyH_take (i := 18) (oi := { dst := some 54, op := Op.build 75 #[(0, Operand.tmp 38), (1, Operand.tmp 40), (2, Operand.tmp 42), (3, Operand.tmp 44), (4, Operand.tmp 46), (5, Operand.tmp 48), (6, Operand.tmp 51), (7, Operand.tmp 53)], type := 75, pos := "graph.go:257", after := #[{ on := 2, ground := Ground.data }, { on := 4, ground := Ground.data }, { on := 6, ground := Ground.data }, { on := 8, ground := Ground.data }, { on := 10, ground := Ground.data }, { on := 12, ground := Ground.data }, { on := 15, ground := Ground.data }, { on := 17, ground := Ground.data }], guard := none }) (v := (.agg #[.int .i64 ((nn : Int) + 1), .int .i64 kind, .int .i64 mode, .int .i64 uid, .int .i64 gid, .int .i64 sec, .int .i64 nano, .slice a5 n5 c5, .string ⟨target.toArray⟩, .slice none 0 0])) rfl (by kernel_rfl) (by kernel_rfl) (by kernel_rfl) (fun _ _ _ h => h) (Or.inl ⟨by rfl, ?_⟩) (by assumption) ?_
          · intro wz hSw
            (try dsimp only at hSw)
            obtain ⟨s1, s2, s3, s4, s5, s6, s7, s8⟩ := hSw
            go_simp
          (try simp only [Act.put, List.setIfInBounds_toArray, List.set_cons_zero, List.set_cons_succ, List.toList_toArray])
          refine wpAnyH_ready (rs := [1, 19]) (by kernel_rfl) (by simp) ?_
          refine AllReadyH.cons (o := { dst := some 37, op := Op.load 41 (Operand.tmp 36), type := 41, pos := "graph.go:257", after := #[{ on := 0, ground := Ground.data }], guard := none }) rfl (fun K hK => ?_) ?_
          · skip
            go_simp
            refine hK.out _ _ (by assumption) (fun hH1 => ?_)
            clear hK K
            (try simp only [Act.put, List.setIfInBounds_toArray, List.set_cons_zero, List.set_cons_succ, List.toList_toArray])
            refine wpAnyH_ready (rs := [19]) (by kernel_rfl) (by simp) ?_
            refine AllReadyH.cons (o := { dst := some 55, op := Op.buildSlice 41 1 #[(0, Operand.tmp 54)], type := 41, pos := "graph.go:257", after := #[{ on := 18, ground := Ground.data }], guard := none }) rfl (fun K hK => ?_) AllReadyH.nil
            go_simp
            refine hK.out _ _ (HS.out _ (HX5a.out _)) (fun hH6 => ?_)
            clear hK K hH5
            (try simp only [Act.put, List.setIfInBounds_toArray, List.set_cons_zero, List.set_cons_succ, List.toList_toArray])
            refine wpAnyH_ready (rs := [20]) (by kernel_rfl) (by simp) ?_
            refine AllReadyH.cons (o := { dst := some 56, op := Op.call { callee := Callee.builtin Builtin.append, args := #[Operand.tmp 37, Operand.tmp 55], argTypes := #[41, 41] }, type := 41, pos := "graph.go:257", after := #[{ on := 1, ground := Ground.data }, { on := 19, ground := Ground.data }, { on := 15, ground := Ground.chain }], guard := none }) rfl (fun K hK => ?_) AllReadyH.nil
            obtain ⟨a7, c7, w7, hrun7, HP7, HX7, HX7s, k1, k2⟩ := HAPP.out w5 a5 n5 c5 HO5.out HB5.out
            refine step_app_run rfl (.tmp 37) (.tmp 55) 41 rfl _ _ (by simp [Act.eval, Act.put]) (by simp [Act.eval, Act.put]) _ _ hrun7 ?_
            clear hrun7
            refine hK.out _ _ (HS.out _ HX7.out) (fun hH7 => ?_)
            clear hK K hH6
            (try simp only [Act.put, List.setIfInBounds_toArray, List.set_cons_zero, List.set_cons_succ, List.toList_toArray])
            refine wpAnyH_take (i := 21) (oi := { dst := some 57, op := Op.fieldAddr 43 (Operand.tmp 4) 0, type := 0, pos := "graph.go:257", after := #[{ on := 0, ground := Ground.phase }, { on := 1, ground := Ground.phase }, { on := 2, ground := Ground.phase }, { on := 3, ground := Ground.phase }, { on := 4, ground := Ground.phase }, { on := 5, ground := Ground.phase }, { on := 6, ground := Ground.phase }, { on := 7, ground := Ground.phase }, { on := 8, ground := Ground.phase }, { on := 9, ground := Ground.phase }, { on := 10, ground := Ground.phase }, { on := 11, ground := Ground.phase }, { on := 12, ground := Ground.phase }, { on := 13, ground := Ground.phase }, { on := 14, ground := Ground.phase }, { on := 15, ground := Ground.phase }, { on := 16, ground := Ground.phase }, { on := 17, ground := Ground.phase }, { on := 18, ground := Ground.phase }, { on := 19, ground := Ground.phase }, { on := 20, ground := Ground.phase }], guard := none }) (v := (.pointer (some ⟨w.heap.size + 1, 0, none⟩))) rfl (by kernel_rfl) (by kernel_rfl) (by kernel_rfl) (fun _ _ _ h => h) (Or.inl ⟨by rfl, ?_⟩) (by assumption) ?_
            · intro wz hSw
              (try dsimp only at hSw)
              obtain ⟨s1, s2, s3, s4, s5, s6, s7, s8⟩ := hSw
              go_simp
            (try simp only [Act.put, List.setIfInBounds_toArray, List.set_cons_zero, List.set_cons_succ, List.toList_toArray])
            refine wpAnyH_ready (rs := [22]) (by kernel_rfl) (by simp) ?_
            refine AllReadyH.cons (o := { dst := none, op := Op.store 41 (Operand.tmp 57) (Operand.tmp 56), type := 0, pos := "graph.go:257", after := #[{ on := 21, ground := Ground.data }, { on := 20, ground := Ground.data }, { on := 20, ground := Ground.chain }, { on := 0, ground := Ground.phase }, { on := 1, ground := Ground.phase }, { on := 2, ground := Ground.phase }, { on := 3, ground := Ground.phase }, { on := 4, ground := Ground.phase }, { on := 5, ground := Ground.phase }, { on := 6, ground := Ground.phase }, { on := 7, ground := Ground.phase }, { on := 8, ground := Ground.phase }, { on := 9, ground := Ground.phase }, { on := 10, ground := Ground.phase }, { on := 11, ground := Ground.phase }, { on := 12, ground := Ground.phase }, { on := 13, ground := Ground.phase }, { on := 14, ground := Ground.phase }, { on := 15, ground := Ground.phase }, { on := 16, ground := Ground.phase }, { on := 17, ground := Ground.phase }, { on := 18, ground := Ground.phase }, { on := 19, ground := Ground.phase }, { on := 20, ground := Ground.phase }], guard := none }) rfl (fun K hK => ?_) AllReadyH.nil
            go_simp
            refine hK.out _ _ (HS.out _ HX7s.out) (fun hH8 => ?_)
            clear hK K
            (try simp only [Act.put, List.setIfInBounds_toArray, List.set_cons_zero, List.set_cons_succ, List.toList_toArray])
            refine wpAnyH_done (by kernel_rfl) ?_ _
            go_wp2_with fail
            go_meet
            exact ⟨a7, nn + 1, c7, _, rfl, HP7, Lib.hid (by unfold nodes1; rw [if_pos rfl, HGN.out]; simp [gOf]), HX7s⟩
          refine AllReadyH.cons (o := { dst := some 55, op := Op.buildSlice 41 1 #[(0, Operand.tmp 54)], type := 41, pos := "graph.go:257", after := #[{ on := 18, ground := Ground.data }], guard := none }) rfl (fun K hK => ?_) AllReadyH.nil
          go_simp
          refine hK.out _ _ (HS.out _ (HX5a.out _)) (fun hH6 => ?_)
          clear hK K hH5
          (try simp only [Act.put, List.setIfInBounds_toArray, List.set_cons_zero, List.set_cons_succ, List.toList_toArray])
          refine wpAnyH_ready (rs := [1]) (by kernel_rfl) (by simp) ?_
          refine AllReadyH.cons (o := { dst := some 37, op := Op.load 41 (Operand.tmp 36), type := 41, pos := "graph.go:257", after := #[{ on := 0, ground := Ground.data }], guard := none }) rfl (fun K hK => ?_) AllReadyH.nil
          go_simp
          refine hK.out _ _ (by assumption) (fun hH1 => ?_)
          clear hK K
          (try simp only [Act.put, List.setIfInBounds_toArray, List.set_cons_zero, List.set_cons_succ, List.toList_toArray])
          refine wpAnyH_ready (rs := [20]) (by kernel_rfl) (by simp) ?_
          refine AllReadyH.cons (o := { dst := some 56, op := Op.call { callee := Callee.builtin Builtin.append, args := #[Operand.tmp 37, Operand.tmp 55], argTypes := #[41, 41] }, type := 41, pos := "graph.go:257", after := #[{ on := 1, ground := Ground.data }, { on := 19, ground := Ground.data }, { on := 15, ground := Ground.chain }], guard := none }) rfl (fun K hK => ?_) AllReadyH.nil
          obtain ⟨a7, c7, w7, hrun7, HP7, HX7, HX7s, k1, k2⟩ := HAPP.out w5 a5 n5 c5 HO5.out HB5.out
          refine step_app_run rfl (.tmp 37) (.tmp 55) 41 rfl _ _ (by simp [Act.eval, Act.put]) (by simp [Act.eval, Act.put]) _ _ hrun7 ?_
          clear hrun7
          refine hK.out _ _ (HS.out _ HX7.out) (fun hH7 => ?_)
          clear hK K hH6
          (try simp only [Act.put, List.setIfInBounds_toArray, List.set_cons_zero, List.set_cons_succ, List.toList_toArray])
          refine wpAnyH_take (i := 21) (oi := { dst := some 57, op := Op.fieldAddr 43 (Operand.tmp 4) 0, type := 0, pos := "graph.go:257", after := #[{ on := 0, ground := Ground.phase }, { on := 1, ground := Ground.phase }, { on := 2, ground := Ground.phase }, { on := 3, ground := Ground.phase }, { on := 4, ground := Ground.phase }, { on := 5, ground := Ground.phase }, { on := 6, ground := Ground.phase }, { on := 7, ground := Ground.phase }, { on := 8, ground := Ground.phase }, { on := 9, ground := Ground.phase }, { on := 10, ground := Ground.phase }, { on := 11, ground := Ground.phase }, { on := 12, ground := Ground.phase }, { on := 13, ground := Ground.phase }, { on := 14, ground := Ground.phase }, { on := 15, ground := Ground.phase }, { on := 16, ground := Ground.phase }, { on := 17, ground := Ground.phase }, { on := 18, ground := Ground.phase }, { on := 19, ground := Ground.phase }, { on := 20, ground := Ground.phase }], guard := none }) (v := (.pointer (some ⟨w.heap.size + 1, 0, none⟩))) rfl (by kernel_rfl) (by kernel_rfl) (by kernel_rfl) (fun _ _ _ h => h) (Or.inl ⟨by rfl, ?_⟩) (by assumption) ?_
          · intro wz hSw
            (try dsimp only at hSw)
            obtain ⟨s1, s2, s3, s4, s5, s6, s7, s8⟩ := hSw
            go_simp
          (try simp only [Act.put, List.setIfInBounds_toArray, List.set_cons_zero, List.set_cons_succ, List.toList_toArray])
          refine wpAnyH_ready (rs := [22]) (by kernel_rfl) (by simp) ?_
          refine AllReadyH.cons (o := { dst := none, op := Op.store 41 (Operand.tmp 57) (Operand.tmp 56), type := 0, pos := "graph.go:257", after := #[{ on := 21, ground := Ground.data }, { on := 20, ground := Ground.data }, { on := 20, ground := Ground.chain }, { on := 0, ground := Ground.phase }, { on := 1, ground := Ground.phase }, { on := 2, ground := Ground.phase }, { on := 3, ground := Ground.phase }, { on := 4, ground := Ground.phase }, { on := 5, ground := Ground.phase }, { on := 6, ground := Ground.phase }, { on := 7, ground := Ground.phase }, { on := 8, ground := Ground.phase }, { on := 9, ground := Ground.phase }, { on := 10, ground := Ground.phase }, { on := 11, ground := Ground.phase }, { on := 12, ground := Ground.phase }, { on := 13, ground := Ground.phase }, { on := 14, ground := Ground.phase }, { on := 15, ground := Ground.phase }, { on := 16, ground := Ground.phase }, { on := 17, ground := Ground.phase }, { on := 18, ground := Ground.phase }, { on := 19, ground := Ground.phase }, { on := 20, ground := Ground.phase }], guard := none }) rfl (fun K hK => ?_) AllReadyH.nil
          go_simp
          refine hK.out _ _ (HS.out _ HX7s.out) (fun hH8 => ?_)
          clear hK K
          (try simp only [Act.put, List.setIfInBounds_toArray, List.set_cons_zero, List.set_cons_succ, List.toList_toArray])
          refine wpAnyH_done (by kernel_rfl) ?_ _
          go_wp2_with fail
          go_meet
          exact ⟨a7, nn + 1, c7, _, rfl, HP7, Lib.hid (by unfold nodes1; rw [if_pos rfl, HGN.out]; simp [gOf]), HX7s⟩
        · have hpb : peer.isEmpty = false := by simpa using hpe
          have HPN := Lib.hid hpe
          have hidd := HIDD.out
          rw [if_neg hpe] at hidd
          have HI2 := Lib.hid hidd
          have hpc : (peer == []) = false := beq_f hpe
          clear hpe hidd
          first | rw [hpb] | rw [hpc]
          go_wp2_with fail
          · go_meet
            exact ⟨na, nn, nc, NS, by rw [HI2.out], HP1, Lib.hid (by unfold nodes1; rw [if_neg HPN.out]), HBX⟩
      obtain ⟨na', nn', nc', NS', rfl, HP4, HG4, HX4⟩ := hcut
      obtain ⟨w4, hw4⟩ : ∃ w4, w4 = wc := ⟨_, rfl⟩
      subst hw4
      clear HP1 HBX HDX HPV HKP HIDD HND
      have hpc : w4.cell? ⟨lx, 0, none⟩ = some (.string ⟨path.toArray⟩) := by rw [row_cell HX4.out]; rfl
      have HPC := Lib.hid hpc
      have HQV : Hid ((idF pi path).getD (.int .i64 0) = .int .i64 ((pi.lookup path).getD 0)) := Lib.hid (idF_val pi path)
      have HPL : Hid (pi.length < maxLen) := Lib.hid (by rw [hI.out.len]; unfold maxLen; omega)
      obtain ⟨tw, htw⟩ : ∃ tw, (pi.lookup path).isSome = tw := ⟨_, rfl⟩
      have HQO : Hid ((idF pi path).isSome = tw) := Lib.hid (by rw [idF_some, htw])
      have HTW := Lib.hid htw
      clear htw
      cases tw with
      | true =>
        have hrc : w4.cell? ⟨w.heap.size, 0, none⟩ = some (.slice none 0 0) := by rw [row_cell HP4.out.rb]; rfl
        have hrf : w4.frozen? ⟨w.heap.size, 0, none⟩ = false := row_froz HP4.out.rb 0
        have hrs : (w4.setCell ⟨w.heap.size, 0, none⟩ (.slice none 0 0)).cell? ⟨w.heap.size, 0, none⟩ = some (.slice none 0 0) := by rw [row_cell (setCell_row HP4.out.rb (.slice none 0 0))]; rfl
        have HBD : Hid (¬ Planted false (lOf T)) := Lib.hid (hI.out.bad HLK.out (Or.inl HTW.out))
        go_wp2_with (at_lookup; refine wpList_mp_look_ok_v rfl _ _ 80 rfl 3 lawS Try.underlying80 (zeroInt _) rfl HP4.out.mp _ path rfl HKQ.out _ _ HQV.out HQO.out ?_)
        refine bodyPost_ret (v := .tuple #[.agg #[.slice none 0 0], .int .i64 151]) (by simp [results, Try.results43, go_sem, hrs]) rfl ?_
        exact PlantRes.no 151 (by decide) HBD.out (HP4.out.bel.setCell (p := ⟨w.heap.size, 0, none⟩) (Nat.le_refl _) _)

      | false =>
        by_cases hz : ID = 0
        · subst hz
          have hrc : w4.cell? ⟨w.heap.size, 0, none⟩ = some (.slice none 0 0) := by rw [row_cell HP4.out.rb]; rfl
          have hrf : w4.frozen? ⟨w.heap.size, 0, none⟩ = false := row_froz HP4.out.rb 0
          have hrs : (w4.setCell ⟨w.heap.size, 0, none⟩ (.slice none 0 0)).cell? ⟨w.heap.size, 0, none⟩ = some (.slice none 0 0) := by rw [row_cell (setCell_row HP4.out.rb (.slice none 0 0))]; rfl
          have HBD : Hid (¬ Planted false (lOf T)) := Lib.hid (hI.out.bad HLK.out (Or.inr (Or.inl HIE.out)))
          go_wp2_with (at_lookup; refine wpList_mp_look_ok_v rfl _ _ 80 rfl 3 lawS Try.underlying80 (zeroInt _) rfl HP4.out.mp _ path rfl HKQ.out _ _ HQV.out HQO.out ?_)
          refine bodyPost_ret (v := .tuple #[.agg #[.slice none 0 0], .int .i64 151]) (by simp [results, Try.results43, go_sem, hrs]) rfl ?_
          exact PlantRes.no 151 (by decide) HBD.out (HP4.out.bel.setCell (p := ⟨w.heap.size, 0, none⟩) (Nat.le_refl _) _)

        · have hzb : (ID == 0) = false := beq_f hz
          have HZ := Lib.hid hz
          have HLN : Hid (pi.lookup path = none) := Lib.hid (by have := HTW.out; simpa using this)
          clear hz
          by_cases hk0 : k = 0
          · have hkb : ¬ (0 < k) := by omega
            go_wp2_with (first | (at_lookup; refine wpList_mp_look_ok_v rfl _ _ 80 rfl 3 lawS Try.underlying80 (zeroInt _) rfl HP4.out.mp _ path rfl HKQ.out _ _ HQV.out HQO.out ?_) | (at_mapUpdate; refine wpList_mp_put rfl _ _ _ 80 rfl 3 lawS Try.underlying80 rfl HP4.out.mp HPL.out _ path rfl HKQ.out _ rfl mkS_inj ?_; intro w5 hm5 hg5))
            have hps := HP4.out.put HLN.out hm5 hg5
            have hpi := hI.out.first HLK.out HTW.out (by rw [HIE.out]; exact HZ.out) hk0
            rw [HIE.out, ← HG4.out] at hpi
            exact ⟨⟨k + 1, na', nn', nc', NS', _, by omega, by go_num, Lib.hid hps, Lib.hid hpi⟩, by simp [intOf]; omega⟩
          · have hkp : 0 < k := by omega
            have hli := Try.strings_LastIndexByte ⟨path.toArray⟩ 47 (by show path.length < _; omega)
            have hlc := lastIndex_cut path
            rw [hlc] at hli
            have HLI := Lib.hid hli
            clear hli hlc
            cases hcu : cutOf path with
            | none =>
              rw [hcu] at HLI
              have HNM : Hid (nameOf ⟨path, kind, mode, uid, gid, sec, nano, data, target, peer⟩ = path) := Lib.hid (by unfold nameOf; simp only [hcu])
              have HPAR : Hid (parOf false pi ⟨path, kind, mode, uid, gid, sec, nano, data, target, peer⟩ = ((0 : Nat) : Int) + 1) := Lib.hid (by unfold parOf; simp only [hcu]; rfl)
              clear hcu
              simp only at HLI
              go_upto_region 14 with (first | (at_lookup; refine wpList_mp_look_ok_v rfl _ _ 80 rfl 3 lawS Try.underlying80 (zeroInt _) rfl HP4.out.mp _ path rfl HKQ.out _ _ HQV.out HQO.out ?_))
              go_region
              go_upto_region 18 with (go_at_call 51; (refine (HLI.out _).mono ?_); rintro r w5 ⟨rfl, rfl⟩)
              have HP5 := Lib.hid (HP4.out.below ((Below.refl w4.heap.size w4).drew))
              have HX5 : Hid (w4.drew.heap[lx]? = _) := Lib.hid HX4.out
              generalize w4.drew = w5 at *
              obtain ⟨y, hy⟩ := get_some (S := NS') (k := 0) (by
                have h1 := (hI.out.parOf (l := ⟨path, kind, mode, uid, gid, sec, nano, data, target, peer⟩) hkp).2
                have h2 := nodes1_len (gOf NS) ⟨path, kind, mode, uid, gid, sec, nano, data, target, peer⟩
                have h3 : (gOf NS').length = NS'.length := by simp [gOf]
                rw [HPAR.out] at h1
                rw [HG4.out] at h3
                omega)
              have hyl : 0 < nn' := by have := (List.getElem?_eq_some_iff.1 hy).1; rw [HP5.out.pls.len] at this; exact this
              have hqb : 0 ≤ 2000001 := by
                have h1 := nodes1_len (gOf NS) ⟨path, kind, mode, uid, gid, sec, nano, data, target, peer⟩
                have h2 : (gOf NS').length = NS'.length := by simp [gOf]
                have h3 := hI.out.gl
                have h4 := HP5.out.pls.len
                rw [HG4.out] at h2
                omega
              obtain ⟨nb, noff, hna, hny⟩ := HP5.out.pls.nds.at 0 y hy
              obtain rfl : noff = 0 := by
                rcases HP5.out.pls.own.2 with ⟨h, _⟩ | ⟨g', cap, cur, h, _⟩
                · rw [hna] at h; cases h
                · rw [hna] at h; cases h; rfl
              subst hna
              rw [Nat.zero_add] at hny
              have hyo := HP5.out.pls.ent y (mem_get hy)
              have hym : y.2.2.2.1 ≤ k := by
                have h1 := (nodes1_facts (l := ⟨path, kind, mode, uid, gid, sec, nano, data, target, peer⟩) hI.out).2 y.1 (by rw [← HG4.out]; exact List.mem_map.2 ⟨y, mem_get hy, rfl⟩)
                have h2 := hyo.ets.len
                omega
              have hc9 : w5.cell? ⟨nb, 0 * 10 + 9, none⟩ = some (.slice y.2.2.1 y.2.2.2.1 y.2.2.2.2) := range_cell hny 9 rfl
              have hgc : w5.cell? ⟨w.heap.size + 1, 0, none⟩ = some (.slice (some ⟨nb, 0, none⟩) nn' nc') := by rw [row_cell HP5.out.pls.row]; rfl
              have HPT : Hid (∀ (a7 : Option Addr) (c7 : Nat) (w7 : World), w7.ownsRow w.heap.size 87 2 (.slice a7 (y.2.2.2.1 + 1) c7) (y.2.2.2.1 + 1) (y.1.ents.flatMap etCells ++ [(path, ID)].flatMap etCells) → (w5.alloc (.cells (etV (path, ID)) 87)).grownBy w7 (Value.slice y.2.2.1 y.2.2.2.1 y.2.2.2.2).ownBlock →
                  ((Value.slice a7 (y.2.2.2.1 + 1) c7).ownBlock = (Value.slice y.2.2.1 y.2.2.2.1 y.2.2.2.2).ownBlock ∨ (Value.slice a7 (y.2.2.2.1 + 1) c7).ownBlock = some (w5.alloc (.cells (etV (path, ID)) 87)).heap.size) →
                  Hid (Ps w (w7.setCell ⟨nb, 0 * 10 + 9, none⟩ (.slice a7 (y.2.2.2.1 + 1) c7)) (some ⟨nb, 0, none⟩) nn' nc' (NS'.set 0 ({ y.1 with ents := y.1.ents ++ [(path, ID)] }, y.2.1, (a7, y.2.2.2.1 + 1, c7))) pi) ∧ w7.cell? ⟨nb, 0 * 10 + 9, none⟩ = some (.slice y.2.2.1 y.2.2.2.1 y.2.2.2.2) ∧ w7.frozen? ⟨nb, 0 * 10 + 9, none⟩ = false ∧
                  (w7.setCell ⟨nb, 0 * 10 + 9, none⟩ (.slice a7 (y.2.2.2.1 + 1) c7)).cell? ⟨lx, 0, none⟩ = some (.string ⟨path.toArray⟩)) := Lib.hid (fun a7 c7 w7 ho7 hg7 hat => by
                have hA : Below w5.heap.size w5 (w5.alloc (.cells (etV (path, ID)) 87)) := (Below.refl _ _).alloc (Nat.le_refl _) _
                have h1 := HP5.out.below hA
                have hye := h1.pls.ent y (mem_get hy)
                have hno := own_other h1.pls.own hye (by decide) hg7
                obtain ⟨cur, hcur⟩ := own_row hno (b := nb) rfl
                have hlx := row_below HX5.out hA
                have hlx7 := row_grown hlx hg7 (fun e => own_ne_row hye hlx (by decide) e.symm)
                have hnl : some lx ≠ some nb := fun e => own_ne_row hno hlx7 (by decide) e.symm
                refine ⟨Lib.hid (HP5.out.entry hy hA rfl hg7 (by simpa using ho7) ?_), ?_, row_froz hcur _, ?_⟩
                · rcases hat with h | h
                  · exact Or.inl h
                  · exact Or.inr ⟨_, h, hA.size⟩
                · have h2 := Keeps.alloc w5 (.cells (etV (path, ID)) 87) _ _ hc9
                  have hnr := own_row HP5.out.pls.own (b := nb) rfl
                  obtain ⟨cur0, hcur0⟩ := hnr
                  have hcur1 := row_below hcur0 hA
                  have hcur2 := row_grown hcur1 hg7 (fun e => own_ne_row hye hcur1 (by decide) e.symm)
                  rw [row_cell hcur2]
                  rw [row_cell hcur1] at h2
                  exact h2
                · rw [row_cell (row_grown hlx7 (setCell_grown w7 nb (0 * 10 + 9) _) hnl)]; rfl)
              have HYO := Lib.hid (own_keep (w' := w5.alloc (.cells (etV (path, ID)) 87)) hyo (fun j _ hj => by rw [heap_alloc_old _ _ hj]))
              have HBS : Hid (w.heap.size ≤ (w5.alloc (.cells (etV (path, ID)) 87)).heap.size) := Lib.hid (by have := HP5.out.bel.size; simp; omega)
              have HYM : Hid ((y.2.2.2.1 + 1) * 24 ≤ 140737488355328) := Lib.hid (by omega)
              have HYY := Lib.hid hy
              clear hny hyo hy hym
              go_wp2_with (first
                | (with_reducible refine wpList_slice_one rfl 73 _ rfl Try.underlying73 (etV (path, ID)) (infoEnt2 (path, ID)) rfl (by show 0 < 2; decide) (by show 2 ≤ _; decide) rfl ?_)
                | (at_builtin; refine wpList_app_at rfl _ _ 73 rfl w.heap.size 87 _ 2 24 Try.underlying73 infoEnt rfl (by decide) (by decide) rfl HYO.out rfl (et_new w5 (path, ID)) (et_one [(path, ID)]) HYM.out HBS.out ?_; intro a7 c7 w7 ho7 hg7 hat7; obtain ⟨HP7, k1, k2, k3⟩ := HPT.out a7 c7 w7 ho7 hg7 hat7; clear ho7 hg7 hat7)
                | (at_mapUpdate; refine wpList_mp_put rfl _ _ _ 80 rfl 3 lawS Try.underlying80 rfl HP7.out.mp HPL.out _ path rfl HKQ.out _ rfl mkS_inj ?_; intro w8 hm8 hg8))
              have hps := HP7.out.put HLN.out hm8 hg8
              have hpi := hI.out.step HLK.out HTW.out (by rw [HIE.out]; exact HZ.out) hkp (by rw [HPAR.out]; omega)
              rw [HIE.out, HPAR.out, HNM.out, ← HG4.out, addEnt_set HYY.out] at hpi
              exact ⟨⟨k + 1, _, nn', nc', _, _, by omega, by go_num, Lib.hid hps, Lib.hid hpi⟩, by simp [intOf]; omega⟩
            | some ci =>
              rw [hcu] at HLI
              have hcl := cutOf_lt hcu
              have HNM : Hid (nameOf ⟨path, kind, mode, uid, gid, sec, nano, data, target, peer⟩ = path.drop (ci + 1)) := Lib.hid (by unfold nameOf; simp only [hcu])
              have HPA : Hid (parOf false pi ⟨path, kind, mode, uid, gid, sec, nano, data, target, peer⟩ = (pi.lookup (path.take ci)).getD 0) := Lib.hid (by unfold parOf; simp only [hcu]; simp)
              clear hcu
              simp only at HLI
              have hkc := key_str (P := Try.prog) Try.underlying9 (x := path.take ci) (by rw [List.length_take]; omega)
              have hqv := idF_val pi (path.take ci)
              obtain ⟨PV, hpv⟩ : ∃ z, (pi.lookup (path.take ci)).getD 0 = z := ⟨_, rfl⟩
              rw [hpv] at hqv HPA
              have hlk : ∀ wz : World, wz.heap = w4.heap → (Instr.lookup 80 (.map (some (w.heap.size + 1 + 1))) (.string ⟨(path.take ci).toArray⟩) false).run Try.prog wz = .ok (.int .i64 PV) wz := fun wz hwz => by
                have hm : MpS wz (w.heap.size + 2) pi.length (idF pi) := HP4.out.mp.block (by rw [hwz])
                have := hm.run_look lawS Try.underlying80 (zeroInt _) (path.take ci) hkc
                rw [hqv] at this
                exact this
              have hlk2 := hlk w4.drew.drew rfl
              have e1 : ((⟨path.toArray⟩ : ByteArray).extract 0 ci) = ⟨(path.take ci).toArray⟩ := by rw [ByteArray.extract_mk]; simp
              have e2 : ((⟨path.toArray⟩ : ByteArray).extract (ci + 1) path.length) = ⟨(path.drop (ci + 1)).toArray⟩ := by
                rw [ByteArray.extract_mk, List.take_of_length_le (by simp)]
              clear hkc hqv hpv hlk
              go_upto_region 14 with (first | (at_lookup; refine wpList_mp_look_ok_v rfl _ _ 80 rfl 3 lawS Try.underlying80 (zeroInt _) rfl HP4.out.mp _ path rfl HKQ.out _ _ HQV.out HQO.out ?_))
              go_region
              go_upto_region 17 with (go_at_call 51; (refine (HLI.out _).mono ?_); rintro r w5 ⟨rfl, rfl⟩)
              go_region
              clear hlk2 e1 e2
              have HP5 := Lib.hid (HP4.out.below (((Below.refl w4.heap.size w4).drew).drew))
              have HX5 : Hid (w4.drew.drew.heap[lx]? = _) := Lib.hid HX4.out
              generalize w4.drew.drew = w5 at *
              by_cases hp0 : PV = 0
              · subst hp0
                have hrc : w5.cell? ⟨w.heap.size, 0, none⟩ = some (.slice none 0 0) := by rw [row_cell HP5.out.rb]; rfl
                have hrf : w5.frozen? ⟨w.heap.size, 0, none⟩ = false := row_froz HP5.out.rb 0
                have hrs : (w5.setCell ⟨w.heap.size, 0, none⟩ (.slice none 0 0)).cell? ⟨w.heap.size, 0, none⟩ = some (.slice none 0 0) := by rw [row_cell (setCell_row HP5.out.rb (.slice none 0 0))]; rfl
                have HBD : Hid (¬ Planted false (lOf T)) := Lib.hid (hI.out.bad HLK.out (Or.inr (Or.inr ⟨hkp, HPA.out⟩)))
                go_wp2_with fail
                refine bodyPost_ret (v := .tuple #[.agg #[.slice none 0 0], .int .i64 151]) (by simp [results, Try.results43, go_sem, hrs]) rfl ?_
                exact PlantRes.no 151 (by decide) HBD.out (HP5.out.bel.setCell (p := ⟨w.heap.size, 0, none⟩) (Nat.le_refl _) _)
              · obtain ⟨q, rfl⟩ : ∃ q : Nat, PV = (q : Int) + 1 := ⟨(PV - 1).toNat, by have := (hI.out.parOf (l := ⟨path, kind, mode, uid, gid, sec, nano, data, target, peer⟩) hkp).1; rw [HPA.out] at this; omega⟩
                have HPAR : Hid (parOf false pi ⟨path, kind, mode, uid, gid, sec, nano, data, target, peer⟩ = ((q : Nat) : Int) + 1) := HPA
                clear hp0
                obtain ⟨y, hy⟩ := get_some (S := NS') (k := q) (by
                  have h1 := (hI.out.parOf (l := ⟨path, kind, mode, uid, gid, sec, nano, data, target, peer⟩) hkp).2
                  have h2 := nodes1_len (gOf NS) ⟨path, kind, mode, uid, gid, sec, nano, data, target, peer⟩
                  have h3 : (gOf NS').length = NS'.length := by simp [gOf]
                  rw [HPAR.out] at h1
                  rw [HG4.out] at h3
                  omega)
                have hyl : q < nn' := by have := (List.getElem?_eq_some_iff.1 hy).1; rw [HP5.out.pls.len] at this; exact this
                have hqb : q ≤ 2000001 := by
                  have h1 := nodes1_len (gOf NS) ⟨path, kind, mode, uid, gid, sec, nano, data, target, peer⟩
                  have h2 : (gOf NS').length = NS'.length := by simp [gOf]
                  have h3 := hI.out.gl
                  have h4 := HP5.out.pls.len
                  rw [HG4.out] at h2
                  omega
                obtain ⟨nb, noff, hna, hny⟩ := HP5.out.pls.nds.at q y hy
                obtain rfl : noff = 0 := by
                  rcases HP5.out.pls.own.2 with ⟨h, _⟩ | ⟨g', cap, cur, h, _⟩
                  · rw [hna] at h; cases h
                  · rw [hna] at h; cases h; rfl
                subst hna
                rw [Nat.zero_add] at hny
                have hyo := HP5.out.pls.ent y (mem_get hy)
                have hym : y.2.2.2.1 ≤ k := by
                  have h1 := (nodes1_facts (l := ⟨path, kind, mode, uid, gid, sec, nano, data, target, peer⟩) hI.out).2 y.1 (by rw [← HG4.out]; exact List.mem_map.2 ⟨y, mem_get hy, rfl⟩)
                  have h2 := hyo.ets.len
                  omega
                have hc9 : w5.cell? ⟨nb, q * 10 + 9, none⟩ = some (.slice y.2.2.1 y.2.2.2.1 y.2.2.2.2) := range_cell hny 9 rfl
                have hgc : w5.cell? ⟨w.heap.size + 1, 0, none⟩ = some (.slice (some ⟨nb, 0, none⟩) nn' nc') := by rw [row_cell HP5.out.pls.row]; rfl
                have HPT : Hid (∀ (a7 : Option Addr) (c7 : Nat) (w7 : World), w7.ownsRow w.heap.size 87 2 (.slice a7 (y.2.2.2.1 + 1) c7) (y.2.2.2.1 + 1) (y.1.ents.flatMap etCells ++ [((path.drop (ci + 1)), ID)].flatMap etCells) → (w5.alloc (.cells (etV ((path.drop (ci + 1)), ID)) 87)).grownBy w7 (Value.slice y.2.2.1 y.2.2.2.1 y.2.2.2.2).ownBlock →
                    ((Value.slice a7 (y.2.2.2.1 + 1) c7).ownBlock = (Value.slice y.2.2.1 y.2.2.2.1 y.2.2.2.2).ownBlock ∨ (Value.slice a7 (y.2.2.2.1 + 1) c7).ownBlock = some (w5.alloc (.cells (etV ((path.drop (ci + 1)), ID)) 87)).heap.size) →
                    Hid (Ps w (w7.setCell ⟨nb, q * 10 + 9, none⟩ (.slice a7 (y.2.2.2.1 + 1) c7)) (some ⟨nb, 0, none⟩) nn' nc' (NS'.set q ({ y.1 with ents := y.1.ents ++ [((path.drop (ci + 1)), ID)] }, y.2.1, (a7, y.2.2.2.1 + 1, c7))) pi) ∧ w7.cell? ⟨nb, q * 10 + 9, none⟩ = some (.slice y.2.2.1 y.2.2.2.1 y.2.2.2.2) ∧ w7.frozen? ⟨nb, q * 10 + 9, none⟩ = false ∧
                    (w7.setCell ⟨nb, q * 10 + 9, none⟩ (.slice a7 (y.2.2.2.1 + 1) c7)).cell? ⟨lx, 0, none⟩ = some (.string ⟨path.toArray⟩)) := Lib.hid (fun a7 c7 w7 ho7 hg7 hat => by
                  have hA : Below w5.heap.size w5 (w5.alloc (.cells (etV ((path.drop (ci + 1)), ID)) 87)) := (Below.refl _ _).alloc (Nat.le_refl _) _
                  have h1 := HP5.out.below hA
                  have hye := h1.pls.ent y (mem_get hy)
                  have hno := own_other h1.pls.own hye (by decide) hg7
                  obtain ⟨cur, hcur⟩ := own_row hno (b := nb) rfl
                  have hlx := row_below HX5.out hA
                  have hlx7 := row_grown hlx hg7 (fun e => own_ne_row hye hlx (by decide) e.symm)
                  have hnl : some lx ≠ some nb := fun e => own_ne_row hno hlx7 (by decide) e.symm
                  refine ⟨Lib.hid (HP5.out.entry hy hA rfl hg7 (by simpa using ho7) ?_), ?_, row_froz hcur _, ?_⟩
                  · rcases hat with h | h
                    · exact Or.inl h
                    · exact Or.inr ⟨_, h, hA.size⟩
                  · have h2 := Keeps.alloc w5 (.cells (etV ((path.drop (ci + 1)), ID)) 87) _ _ hc9
                    have hnr := own_row HP5.out.pls.own (b := nb) rfl
                    obtain ⟨cur0, hcur0⟩ := hnr
                    have hcur1 := row_below hcur0 hA
                    have hcur2 := row_grown hcur1 hg7 (fun e => own_ne_row hye hcur1 (by decide) e.symm)
                    rw [row_cell hcur2]
                    rw [row_cell hcur1] at h2
                    exact h2
                  · rw [row_cell (row_grown hlx7 (setCell_grown w7 nb (q * 10 + 9) _) hnl)]; rfl)
                have HYO := Lib.hid (own_keep (w' := w5.alloc (.cells (etV ((path.drop (ci + 1)), ID)) 87)) hyo (fun j _ hj => by rw [heap_alloc_old _ _ hj]))
                have HBS : Hid (w.heap.size ≤ (w5.alloc (.cells (etV ((path.drop (ci + 1)), ID)) 87)).heap.size) := Lib.hid (by have := HP5.out.bel.size; simp; omega)
                have HYM : Hid ((y.2.2.2.1 + 1) * 24 ≤ 140737488355328) := Lib.hid (by omega)
                have HYY := Lib.hid hy
                clear hny hyo hy hym
                go_wp2_with (first
                  | (with_reducible refine wpList_slice_one rfl 73 _ rfl Try.underlying73 (etV ((path.drop (ci + 1)), ID)) (infoEnt2 ((path.drop (ci + 1)), ID)) rfl (by show 0 < 2; decide) (by show 2 ≤ _; decide) rfl ?_)
                  | (at_builtin; refine wpList_app_at rfl _ _ 73 rfl w.heap.size 87 _ 2 24 Try.underlying73 infoEnt rfl (by decide) (by decide) rfl HYO.out rfl (et_new w5 ((path.drop (ci + 1)), ID)) (et_one [((path.drop (ci + 1)), ID)]) HYM.out HBS.out ?_; intro a7 c7 w7 ho7 hg7 hat7; obtain ⟨HP7, k1, k2, k3⟩ := HPT.out a7 c7 w7 ho7 hg7 hat7; clear ho7 hg7 hat7)
                  | (at_mapUpdate; refine wpList_mp_put rfl _ _ _ 80 rfl 3 lawS Try.underlying80 rfl HP7.out.mp HPL.out _ path rfl HKQ.out _ rfl mkS_inj ?_; intro w8 hm8 hg8))
                have hps := HP7.out.put HLN.out hm8 hg8
                have hpi := hI.out.step HLK.out HTW.out (by rw [HIE.out]; exact HZ.out) hkp (by rw [HPAR.out]; omega)
                rw [HIE.out, HPAR.out, HNM.out, ← HG4.out, addEnt_set HYY.out] at hpi
                exact ⟨⟨k + 1, _, nn', nc', _, _, by omega, by go_num, Lib.hid hps, Lib.hid hpi⟩, by simp [intOf]; omega⟩
      -- @end
    · obtain rfl : k = n := by omega
      have hlen : (lOf T).length = k := by rw [List.length_map]; exact HL.out
      have hI2 := hI.out
      rw [← hlen] at hI2
      have HDN := Lib.hid hI2.done
      clear hI2
      obtain ⟨nb, hnb⟩ : ∃ nb, NS ≠ [] → na = some ⟨nb, 0, none⟩ := by
        rcases hP.out.pls.own.2 with ⟨h, h0⟩ | ⟨g', cap, cur, h, _⟩
        · refine ⟨0, fun hne => ?_⟩
          have := hP.out.pls.len
          exact absurd (List.eq_nil_of_length_eq_zero (by omega)) hne
        · exact ⟨g', fun _ => by simp only [Value.slice.injEq] at h; exact h.1⟩
      have hmm : ∀ x ∈ NS, x.1 ∈ gOf NS := fun x hx => List.mem_map.2 ⟨x, hx, rfl⟩
      have hnum : NdNum NS := ⟨fun x hx => by have := hI.out.ids x.1 (hmm x hx); exact ⟨by omega, by omega⟩, fun x hx e he => by have := (hI.out.ents x.1 (hmm x hx)).2 e he; exact ⟨by omega, by omega⟩, fun x hx => by
        have h1 := (hI.out.ents x.1 (hmm x hx)).1
        have h2 := (hP.out.pls.ent x hx).ets.len
        omega⟩
      have hdat : ∀ x ∈ NS, x.2.1.2.1 ≤ 140737488355328 := fun x hx => by
        obtain ⟨l, hl, he⟩ := hI.out.dat x.1 (hmm x hx)
        obtain ⟨z, hz, rfl⟩ := List.mem_map.1 hl
        have h1 := HN.out.dat z hz
        have h2 := (HT.out.dat z hz).len
        have h3 := ((hP.out.pls.dat x hx).dat).len
        rw [he, h2] at h3
        omega
      have HTR := Lib.hid (Tree_any na nn nc nb 0 NS 1 wr hP.out.pls.nds hnb hnum (by unfold inI; omega) hdat)
      have hgc : wr.cell? ⟨w.heap.size + 1, 0, none⟩ = some (.slice na nn nc) := by rw [row_cell hP.out.pls.row]; rfl
      clear hnb hmm hnum hdat hlen hI
      go_upto_region 25 with (go_at_call 16; (refine (HTR.out).mono ?_); rintro r w6 ⟨a6, n6, c6, code, SL, rfl, hb6, hy6, hn6⟩; have HB6 := Lib.hid hb6; have HY6 := Lib.hid hy6; have HN6 := Lib.hid hn6; have HP6 := Lib.hid (hP.out.below hb6); clear hb6 hy6 hn6 HTR)
      by_cases hc0 : code = 0
      · subst hc0
        obtain ⟨hto, how, hod, _⟩ := HY6.out rfl
        have hL6 : Lns w6 a6 n6 c6 SL := ⟨own_isSl how, fun x hx => (hod x hx).dat⟩
        have HEQ := Lib.hid (EqualLines_any a6 a n6 k c6 c SL T w6 hL6 (HT.out.below HP6.out.bel))
        have HTO := Lib.hid hto
        have HTD : Hid (TreeOk (gOf NS) 1 (lOf T) ↔ SL.map (·.1) = T.map (·.1)) := Lib.hid ⟨fun h => hto.det h, fun h => by show TreeOk _ 1 (T.map (·.1)); rw [← h]; exact hto⟩
        clear how hod hL6 hto HY6 HN6
        go_upto_if 127 with (go_at_call 52; (refine (HEQ.out).mono ?_); rintro r w7 ⟨ok, rfl, hok, hb7⟩; have HOK := Lib.hid hok; have HP7 := Lib.hid (HP6.out.below hb7); clear hok hb7 HEQ)
        cases ok with
        | true =>
          have hgd : w7.cell? ⟨w.heap.size + 1, 0, none⟩ = some (.slice na nn nc) := by rw [row_cell HP7.out.pls.row]; rfl
          have hrc : w7.cell? ⟨w.heap.size, 0, none⟩ = some (.slice none 0 0) := by rw [row_cell HP7.out.rb]; rfl
          have hrf : w7.frozen? ⟨w.heap.size, 0, none⟩ = false := row_froz HP7.out.rb 0
          have hrs : (w7.setCell ⟨w.heap.size, 0, none⟩ (.slice na nn nc)).cell? ⟨w.heap.size, 0, none⟩ = some (.slice na nn nc) := by rw [row_cell (setCell_row HP7.out.rb (.slice na nn nc))]; rfl
          have HYES : Hid (Planted false (lOf T)) := Lib.hid (HDN.out.2 (HTD.out.2 (HOK.out.1 rfl)))
          go_wp2_with fail
          refine bodyPost_ret (v := .tuple #[.agg #[.slice na nn nc], .int .i64 0]) (by simp [results, Try.results43, go_sem, hrs]) rfl ?_
          exact ⟨_, _, _, 0, rfl, HP7.out.bel.setCell (p := ⟨w.heap.size, 0, none⟩) (Nat.le_refl _) _, by simp [HYES.out]⟩
        | false =>
          have hrc : w7.cell? ⟨w.heap.size, 0, none⟩ = some (.slice none 0 0) := by rw [row_cell HP7.out.rb]; rfl
          have hrf : w7.frozen? ⟨w.heap.size, 0, none⟩ = false := row_froz HP7.out.rb 0
          have hrs : (w7.setCell ⟨w.heap.size, 0, none⟩ (.slice none 0 0)).cell? ⟨w.heap.size, 0, none⟩ = some (.slice none 0 0) := by rw [row_cell (setCell_row HP7.out.rb (.slice none 0 0))]; rfl
          have HBD : Hid (¬ Planted false (lOf T)) := Lib.hid (fun h => by have := HOK.out.2 (HTD.out.1 (HDN.out.1 h)); cases this)
          go_wp2_with fail
          refine bodyPost_ret (v := .tuple #[.agg #[.slice none 0 0], .int .i64 151]) (by simp [results, Try.results43, go_sem, hrs]) rfl ?_
          exact PlantRes.no 151 (by decide) HBD.out (HP7.out.bel.setCell (p := ⟨w.heap.size, 0, none⟩) (Nat.le_refl _) _)
      · have hcb : (code != 0) = true := bne_t hc0
        have hrc : w6.cell? ⟨w.heap.size, 0, none⟩ = some (.slice none 0 0) := by rw [row_cell HP6.out.rb]; rfl
        have hrf : w6.frozen? ⟨w.heap.size, 0, none⟩ = false := row_froz HP6.out.rb 0
        have hrs : (w6.setCell ⟨w.heap.size, 0, none⟩ (.slice none 0 0)).cell? ⟨w.heap.size, 0, none⟩ = some (.slice none 0 0) := by rw [row_cell (setCell_row HP6.out.rb (.slice none 0 0))]; rfl
        have HBD : Hid (¬ Planted false (lOf T)) := Lib.hid (fun h => HN6.out hc0 _ (HDN.out.1 h))
        clear hc0
        go_wp2_with fail
        refine bodyPost_ret (v := .tuple #[.agg #[.slice none 0 0], .int .i64 151]) (by simp [results, Try.results43, go_sem, hrs]) rfl ?_
        exact PlantRes.no 151 (by decide) HBD.out (HP6.out.bel.setCell (p := ⟨w.heap.size, 0, none⟩) (Nat.le_refl _) _)
end Gr
end Go.Proofs.Ytpdkdhcbibcifaa
