/-
  RgPlant: the reference's Plant.
-/
import Derived.Test.YtpdkdhcbibcifaaJ12
import Derived.BigRegion
import Derived.Deep.RegionHeld3
import Derived.Deep.CutRange
import Derived.Deep.DeepCutAuto
namespace Go.Proofs.Ytpdkdhcbibcifaa
set_option linter.unusedVariables false
set_option linter.unusedSimpArgs false
open Go.ChangeShapes Go.WideShapes Go.ChangeAt Go.RowKit
namespace Gr
theorem PlantRes.noT {w w' : World} {LS : List Ln} {ga : Option Addr} {gn gc : Nat} (code : Int) (hc : code ≠ 0) (h : ¬ Planted true LS) (hb : Below w.heap.size w w') : PlantRes w LS (.returned (.tuple #[.agg #[.slice ga gn gc], .int .i64 code])) w' :=
  PlantRes.no code hc (fun hp => h ((planted_same LS).2 hp)) hb
set_option maxRecDepth 100000 in
set_option maxHeartbeats 8000000 in
theorem RPlant_any (a : Option Addr) (n c : Nat) (T : List LnS) (w : World) (hL : Lns w a n c T) (hN : LnNum T) (hTg : ∀ x ∈ T, x.1.target.length ≤ 2000000) :
    Calls Try.prog 25 #[.slice a n c] w (PlantRes w (lOf T)) := by
  have hl := hL.len; have hcap := hL.cap; have hmax := hL.max
  have hn2 := hN.num
  have HL := Lib.hid hl; have HT := Lib.hid hL; have HN := Lib.hid hN; have HTG := Lib.hid hTg
  rw [hl] at hn2
  clear hL hN hl hTg
  go_enter Try.func25, Try.ntmps25
  go_upto_region 3 with (at_make; refine wpList_make_cells rfl _ _ _ rfl (.int .i64 0) 8 Try.underlying85 infoI rfl (by decide) n rfl rfl (by omega) ?_)
  have HPS := Lib.hid (PsR.start w n)
  generalize ((w.alloc (.cells #[.slice none 0 0] 43)).alloc (.cells #[.slice none 0 0] 43)).alloc (.cells (Array.replicate n (.int .i64 0)) 3) = w3 at *
  go_wp2_with fail
  go_loopw [6] (fun i wr => ∃ (k : Nat) (na : Option Addr) (nn nc : Nat) (NS : List NdS) (pi : List (Bt × Int)), k ≤ n ∧ i = .int .i64 k ∧ Hid (PsR w wr na nn nc NS (idsOf pi n)) ∧ Hid (PlR (lOf T) k pi (gOf NS))) (fun i _ => n - (intOf i).toNat)
  case atStart => exact ⟨0, none, 0, 0, [], [], Nat.zero_le _, rfl, HPS, Lib.hid (PlR.nil _)⟩
  case round =>
    clear HPS
    obtain ⟨k, na, nn, nc, NS, pi, hk, rfl, hP, hI⟩ := hrel
    by_cases hlt : k < n
    · have hzz := hlt
      obtain ⟨x, hxk⟩ := get_some (S := T) (k := k) (by have := HL.out; omega)
      obtain ⟨b, off, rfl, hr⟩ := (HT.out.below hP.out.bel).at k x hxk
      have hdx := (HT.out.below hP.out.bel).dat x (mem_get hxk)
      have hnd := HN.out.dat x (mem_get hxk)
      obtain ⟨hns1, hns2⟩ := HN.out.str x (mem_get hxk)
      have hlk : (lOf T)[k]? = some x.1 := mapfst_get hxk
      have HLK := Lib.hid hlk
      have hgn : (gOf NS).length = nn := by rw [List.length_map]; exact hP.out.pls.len
      have HGN := Lib.hid hgn
      have hb1 : Below wr.heap.size wr (wr.alloc (.cells (lnV x) 51)) := (Below.refl _ _).alloc (Nat.le_refl _) _
      have hP1 := hP.out.below hb1
      have hbx := heap_alloc_new wr (.cells (lnV x) 51)
      have hdx1 := Below.bs hb1 hdx
      have hid := hI.out.idOf (l := x.1)
      have hnk := hI.out.gl
      rw [hgn] at hnk
      have hpl := hI.out.len
      have HP1 := Lib.hid hP1; have HBX := Lib.hid hbx; have HDX := Lib.hid hdx1; have HND := Lib.hid hnd; have HR := Lib.hid hr
      have HID : Hid (0 ≤ idOf pi (gOf NS) x.1 ∧ idOf pi (gOf NS) x.1 ≤ (k : Int) + 1) := Lib.hid ⟨hid.1, hid.2.1⟩
      have HIDD : Hid (idOf pi (gOf NS) x.1 = if x.1.peer = [] then (nn : Int) + 1 else (pi.lookup x.1.peer).getD 0) := Lib.hid (by unfold idOf; rw [hgn])
      obtain ⟨ID, hID⟩ : ∃ z, idOf pi (gOf NS) x.1 = z := ⟨_, rfl⟩
      have HIE := Lib.hid hID
      rw [hID] at HID HIDD
      have hlxz : w.heap.size + 3 ≤ wr.heap.size := by have := hP.out.ids.lt; omega
      clear hdx hnd hxk hlk hb1 hP1 hbx hdx1 hid hr hID hP hgn
      obtain ⟨⟨path, kind, mode, uid, gid, sec, nano, data, target, peer⟩, ⟨da, dn, dc⟩⟩ := x
      simp only at hns1 hns2 HIDD HDX HND
      simp only [lnCells] at HR
      simp only [lnV] at HP1 HBX HDX
      have c8 : (wr.alloc (.cells #[.string ⟨path.toArray⟩, .int .i64 kind, .int .i64 mode, .int .i64 uid, .int .i64 gid, .int .i64 sec, .int .i64 nano, .slice da dn dc, .string ⟨target.toArray⟩, .string ⟨peer.toArray⟩] 51)).cell? ⟨wr.heap.size, 9, none⟩ = some (.string ⟨peer.toArray⟩) := by rw [row_cell HBX.out]; rfl
      go_upto_region 7 with (refine wpList_load_mid rfl _ _ rfl b (off + k * 10) rfl _ _ HR.out Try.underlying51 rfl (by kernel_rfl) ?_)
      generalize wr.alloc (.cells #[.string ⟨path.toArray⟩, .int .i64 kind, .int .i64 mode, .int .i64 uid, .int .i64 gid, .int .i64 sec, .int .i64 nano, .slice da dn dc, .string ⟨target.toArray⟩, .string ⟨peer.toArray⟩] 51) = w1 at *
      generalize wr.heap.size = lx at *
      go_upto_if 30 with fail
      clear c8
      go_cut [] (fun wx => ∃ (na' : Option Addr) (nn' nc' : Nat) (NS' : List NdS), Hid (PsR w wx na' nn' nc' NS' (idsOf (pi ++ [(path, ID)]) n)) ∧ Hid (gOf NS' = nodes1 (gOf NS) ⟨path, kind, mode, uid, gid, sec, nano, data, target, peer⟩) ∧ Hid (ID ≠ 0) ∧ Hid (wx.heap[lx]? = some (.cells #[.string ⟨path.toArray⟩, .int .i64 kind, .int .i64 mode, .int .i64 uid, .int .i64 gid, .int .i64 sec, .int .i64 nano, .slice da dn dc, .string ⟨target.toArray⟩, .string ⟨peer.toArray⟩] 51)))
      case first =>
        by_cases hpe : peer = []
        · subst hpe
          obtain rfl : ID = (nn : Int) + 1 := by have := HIDD.out; simpa using this
          have HS : Hid (∀ w' : World, w'.heap[lx]? = some (.cells #[.string ⟨path.toArray⟩, .int .i64 kind, .int .i64 mode, .int .i64 uid, .int .i64 gid, .int .i64 sec, .int .i64 nano, .slice da dn dc, .string ⟨target.toArray⟩, .string ⟨([] : Bt).toArray⟩] 51) → w'.cell? ⟨lx, 1, none⟩ = some (.int .i64 kind) ∧ w'.cell? ⟨lx, 2, none⟩ = some (.int .i64 mode) ∧ w'.cell? ⟨lx, 3, none⟩ = some (.int .i64 uid) ∧ w'.cell? ⟨lx, 4, none⟩ = some (.int .i64 gid) ∧ w'.cell? ⟨lx, 5, none⟩ = some (.int .i64 sec) ∧ w'.cell? ⟨lx, 5 + 1, none⟩ = some (.int .i64 nano) ∧ w'.cell? ⟨lx, 7, none⟩ = some (.slice da dn dc) ∧ w'.cell? ⟨lx, 8, none⟩ = some (.string ⟨target.toArray⟩)) := Lib.hid (fun w' h2 => by
            refine ⟨?_, ?_, ?_, ?_, ?_, ?_, ?_, ?_⟩ <;> (rw [row_cell h2]; rfl))
          have HCLN := Lib.hid (CopyBytes_any da dn dc data w1.drew HDX.out HND.out)
          have hs0 := fun (a5 : Option Addr) (n5 c5 : Nat) => run_slice_one (P := Try.prog) 41 Try.underlying41 (ndV (mkNode ((nn : Int) + 1) ⟨path, kind, mode, uid, gid, sec, nano, data, target, []⟩, (a5, n5, c5), (none, 0, 0))) (infoNode2 _) rfl (by show 0 < 10; decide) (by show 10 ≤ _; decide)
          have HAPP : Hid (∀ w5 (a5 : Option Addr) (n5 c5 : Nat), Own w5 w1.heap.size (a5, n5, c5) data → Below w1.heap.size w1 w5 → ∃ a7 c7 w7, (Builtin.append_ #[41, 41] 41 #[.slice na nn nc, .slice (some ⟨w5.heap.size, 0, none⟩) 1 1]).run Try.prog (w5.alloc (.cells (ndV (mkNode ((nn : Int) + 1) ⟨path, kind, mode, uid, gid, sec, nano, data, target, []⟩, (a5, n5, c5), (none, 0, 0))) 75)) = .ok (.slice a7 (nn + 1) c7) w7 ∧
              Hid (PsR w (w7.setCell ⟨w.heap.size + 1, 0, none⟩ (.slice a7 (nn + 1) c7)) a7 (nn + 1) c7 (NS ++ [(mkNode ((nn : Int) + 1) ⟨path, kind, mode, uid, gid, sec, nano, data, target, []⟩, (a5, n5, c5), (none, 0, 0))]) (idsOf pi n)) ∧ Hid (w7.heap[lx]? = some (.cells #[.string ⟨path.toArray⟩, .int .i64 kind, .int .i64 mode, .int .i64 uid, .int .i64 gid, .int .i64 sec, .int .i64 nano, .slice da dn dc, .string ⟨target.toArray⟩, .string ⟨([] : Bt).toArray⟩] 51)) ∧ Hid ((w7.setCell ⟨w.heap.size + 1, 0, none⟩ (.slice a7 (nn + 1) c7)).heap[lx]? = some (.cells #[.string ⟨path.toArray⟩, .int .i64 kind, .int .i64 mode, .int .i64 uid, .int .i64 gid, .int .i64 sec, .int .i64 nano, .slice da dn dc, .string ⟨target.toArray⟩, .string ⟨([] : Bt).toArray⟩] 51)) ∧
              w7.cell? ⟨w.heap.size + 1, 0, none⟩ = some (.slice na nn nc) ∧ w7.frozen? ⟨w.heap.size + 1, 0, none⟩ = false) := Lib.hid (fun w5 a5 n5 c5 ho5 hb5 => by
            have hbA : Below w1.heap.size w1 (w5.alloc (.cells (ndV (mkNode ((nn : Int) + 1) ⟨path, kind, mode, uid, gid, sec, nano, data, target, []⟩, (a5, n5, c5), (none, 0, 0))) 75)) := hb5.alloc hb5.size _
            have hPA := HP1.out.below hbA
            have hsrc := isSl_new w5 75 10 1 (ndV (mkNode ((nn : Int) + 1) ⟨path, kind, mode, uid, gid, sec, nano, data, target, []⟩, (a5, n5, c5), (none, 0, 0))) rfl (by decide)
            obtain ⟨a7, c7, w7, h1, h2, h3⟩ := run_app (P := Try.prog) 41 41 w.heap.size 75 _ 10 120 Try.underlying41 infoNode rfl (by decide) (by decide) hPA.pls.own hsrc (by simpa [ndV, ndCells] using nd_one [(mkNode ((nn : Int) + 1) ⟨path, kind, mode, uid, gid, sec, nano, data, target, []⟩, (a5, n5, c5), (none, 0, 0))]) (by omega) hPA.bel.size
            have hr7 := row_grown hPA.pls.row h3 (fun e => own_ne_row hPA.pls.own hPA.pls.row (by decide) e.symm)
            have hx7 := row_grown (row_below HBX.out hbA) h3 (fun e => own_ne_row hPA.pls.own (row_below HBX.out hbA) (by decide) e.symm)
            refine ⟨a7, c7, w7, h1, Lib.hid ?_, Lib.hid hx7, Lib.hid (row_grown hx7 (setCell_grown w7 (w.heap.size + 1) 0 _) (by simp; omega)), by rw [row_cell hr7]; rfl, row_froz hr7 0⟩
            exact HP1.out.node hbA h3 (by simpa [ndV, ndCells] using h2) (own_keep (own_base ho5 HP1.out.bel.size) (fun j _ hj => by rw [heap_alloc_old _ _ hj])) rfl rfl)
          have hgc : w1.cell? ⟨w.heap.size + 1, 0, none⟩ = some (.slice na nn nc) := by rw [row_cell HP1.out.pls.row]; rfl
          simp only [ndV, mkNode] at hs0
          have HWR : Hid (IntKind.i64.wrap ((nn : Int) + 1) = (nn : Int) + 1) := Lib.hid (by simp [IntKind.wrap, IntKind.bits, IntKind.signed]; omega)
          go_upto_region 8 with fail
          go_cut [] from 31 to 54 (fun wx => ∃ (a7 : Option Addr) (c7 : Nat) (x : NdS), Hid (PsR w wx a7 (nn + 1) c7 (NS ++ [(mkNode ((nn : Int) + 1) ⟨path, kind, mode, uid, gid, sec, nano, data, target, []⟩, x.2)]) (idsOf pi n)) ∧ Hid (wx.heap[lx]? = some (.cells #[.string ⟨path.toArray⟩, .int .i64 kind, .int .i64 mode, .int .i64 uid, .int .i64 gid, .int .i64 sec, .int .i64 nano, .slice da dn dc, .string ⟨target.toArray⟩, .string ⟨([] : Bt).toArray⟩] 51)))
          case first =>
            -- @done
            refine wp_region_held_drew (S := fun w' : World => w'.cell? ⟨lx, 1, none⟩ = some (.int .i64 kind) ∧ w'.cell? ⟨lx, 2, none⟩ = some (.int .i64 mode) ∧ w'.cell? ⟨lx, 3, none⟩ = some (.int .i64 uid) ∧ w'.cell? ⟨lx, 4, none⟩ = some (.int .i64 gid) ∧ w'.cell? ⟨lx, 5, none⟩ = some (.int .i64 sec) ∧ w'.cell? ⟨lx, 5 + 1, none⟩ = some (.int .i64 nano) ∧ w'.cell? ⟨lx, 7, none⟩ = some (.slice da dn dc) ∧ w'.cell? ⟨lx, 8, none⟩ = some (.string ⟨target.toArray⟩)) (by kernel_rfl) (HS.out _ HBX.out) (fun hHeld => ?_)
            refine wpAnyH_take (i := 0) (oi := { dst := some 31, op := Op.fieldAddr 43 (Operand.tmp 4) 0, type := 0, pos := "ref.go:242", after := #[], guard := none }) (v := (.pointer (some ⟨w.heap.size + 1, 0, none⟩))) rfl (by kernel_rfl) (by kernel_rfl) (by kernel_rfl) (fun _ _ _ h => h) (Or.inl ⟨by rfl, ?_⟩) (by assumption) ?_
            · intro wz hSw
              (try dsimp only at hSw)
              obtain ⟨s1, s2, s3, s4, s5, s6, s7, s8⟩ := hSw
              go_simp
            (try simp only [Act.put, List.setIfInBounds_toArray, List.set_cons_zero, List.set_cons_succ, List.toList_toArray])
            refine wpAnyH_take (i := 2) (oi := { dst := some 33, op := Op.fieldAddr 43 (Operand.tmp 4) 0, type := 0, pos := "ref.go:242", after := #[], guard := none }) (v := (.pointer (some ⟨w.heap.size + 1, 0, none⟩))) rfl (by kernel_rfl) (by kernel_rfl) (by kernel_rfl) (fun _ _ _ h => h) (Or.inl ⟨by rfl, ?_⟩) (by assumption) ?_
            · intro wz hSw
              (try dsimp only at hSw)
              obtain ⟨s1, s2, s3, s4, s5, s6, s7, s8⟩ := hSw
              go_simp
            (try simp only [Act.put, List.setIfInBounds_toArray, List.set_cons_zero, List.set_cons_succ, List.toList_toArray])
            refine wpAnyH_take (i := 6) (oi := { dst := some 37, op := Op.fieldAddr 51 (Operand.tmp 7) 1, type := 0, pos := "ref.go:242", after := #[], guard := none }) (v := (.pointer (some ⟨lx, 1, none⟩))) rfl (by kernel_rfl) (by kernel_rfl) (by kernel_rfl) (fun _ _ _ h => h) (Or.inl ⟨by rfl, ?_⟩) (by assumption) ?_
            · intro wz hSw
              (try dsimp only at hSw)
              obtain ⟨s1, s2, s3, s4, s5, s6, s7, s8⟩ := hSw
              go_simp
            (try simp only [Act.put, List.setIfInBounds_toArray, List.set_cons_zero, List.set_cons_succ, List.toList_toArray])
            refine wpAnyH_take (i := 7) (oi := { dst := some 38, op := Op.load 3 (Operand.tmp 37), type := 3, pos := "ref.go:242", after := #[{ on := 6, ground := Ground.data }], guard := none }) (v := (.int .i64 kind)) rfl (by kernel_rfl) (by kernel_rfl) (by kernel_rfl) (fun _ _ _ h => h) (Or.inl ⟨by rfl, ?_⟩) (by assumption) ?_
            · intro wz hSw
              (try dsimp only at hSw)
              obtain ⟨s1, s2, s3, s4, s5, s6, s7, s8⟩ := hSw
              go_simp
            (try simp only [Act.put, List.setIfInBounds_toArray, List.set_cons_zero, List.set_cons_succ, List.toList_toArray])
            refine wpAnyH_take (i := 8) (oi := { dst := some 39, op := Op.fieldAddr 51 (Operand.tmp 7) 2, type := 0, pos := "ref.go:242", after := #[], guard := none }) (v := (.pointer (some ⟨lx, 2, none⟩))) rfl (by kernel_rfl) (by kernel_rfl) (by kernel_rfl) (fun _ _ _ h => h) (Or.inl ⟨by rfl, ?_⟩) (by assumption) ?_
            · intro wz hSw
              (try dsimp only at hSw)
              obtain ⟨s1, s2, s3, s4, s5, s6, s7, s8⟩ := hSw
              go_simp
            (try simp only [Act.put, List.setIfInBounds_toArray, List.set_cons_zero, List.set_cons_succ, List.toList_toArray])
            refine wpAnyH_take (i := 9) (oi := { dst := some 40, op := Op.load 3 (Operand.tmp 39), type := 3, pos := "ref.go:242", after := #[{ on := 8, ground := Ground.data }], guard := none }) (v := (.int .i64 mode)) rfl (by kernel_rfl) (by kernel_rfl) (by kernel_rfl) (fun _ _ _ h => h) (Or.inl ⟨by rfl, ?_⟩) (by assumption) ?_
            · intro wz hSw
              (try dsimp only at hSw)
              obtain ⟨s1, s2, s3, s4, s5, s6, s7, s8⟩ := hSw
              go_simp
            (try simp only [Act.put, List.setIfInBounds_toArray, List.set_cons_zero, List.set_cons_succ, List.toList_toArray])
            refine wpAnyH_take (i := 10) (oi := { dst := some 41, op := Op.fieldAddr 51 (Operand.tmp 7) 3, type := 0, pos := "ref.go:242", after := #[], guard := none }) (v := (.pointer (some ⟨lx, 3, none⟩))) rfl (by kernel_rfl) (by kernel_rfl) (by kernel_rfl) (fun _ _ _ h => h) (Or.inl ⟨by rfl, ?_⟩) (by assumption) ?_
            · intro wz hSw
              (try dsimp only at hSw)
              obtain ⟨s1, s2, s3, s4, s5, s6, s7, s8⟩ := hSw
              go_simp
            (try simp only [Act.put, List.setIfInBounds_toArray, List.set_cons_zero, List.set_cons_succ, List.toList_toArray])
            refine wpAnyH_take (i := 11) (oi := { dst := some 42, op := Op.load 3 (Operand.tmp 41), type := 3, pos := "ref.go:242", after := #[{ on := 10, ground := Ground.data }], guard := none }) (v := (.int .i64 uid)) rfl (by kernel_rfl) (by kernel_rfl) (by kernel_rfl) (fun _ _ _ h => h) (Or.inl ⟨by rfl, ?_⟩) (by assumption) ?_
            · intro wz hSw
              (try dsimp only at hSw)
              obtain ⟨s1, s2, s3, s4, s5, s6, s7, s8⟩ := hSw
              go_simp
            (try simp only [Act.put, List.setIfInBounds_toArray, List.set_cons_zero, List.set_cons_succ, List.toList_toArray])
            refine wpAnyH_take (i := 12) (oi := { dst := some 43, op := Op.fieldAddr 51 (Operand.tmp 7) 4, type := 0, pos := "ref.go:242", after := #[], guard := none }) (v := (.pointer (some ⟨lx, 4, none⟩))) rfl (by kernel_rfl) (by kernel_rfl) (by kernel_rfl) (fun _ _ _ h => h) (Or.inl ⟨by rfl, ?_⟩) (by assumption) ?_
            · intro wz hSw
              (try dsimp only at hSw)
              obtain ⟨s1, s2, s3, s4, s5, s6, s7, s8⟩ := hSw
              go_simp
            (try simp only [Act.put, List.setIfInBounds_toArray, List.set_cons_zero, List.set_cons_succ, List.toList_toArray])
            refine wpAnyH_take (i := 13) (oi := { dst := some 44, op := Op.load 3 (Operand.tmp 43), type := 3, pos := "ref.go:242", after := #[{ on := 12, ground := Ground.data }], guard := none }) (v := (.int .i64 gid)) rfl (by kernel_rfl) (by kernel_rfl) (by kernel_rfl) (fun _ _ _ h => h) (Or.inl ⟨by rfl, ?_⟩) (by assumption) ?_
            · intro wz hSw
              (try dsimp only at hSw)
              obtain ⟨s1, s2, s3, s4, s5, s6, s7, s8⟩ := hSw
              go_simp
            (try simp only [Act.put, List.setIfInBounds_toArray, List.set_cons_zero, List.set_cons_succ, List.toList_toArray])
            refine wpAnyH_take (i := 14) (oi := { dst := some 45, op := Op.fieldAddr 51 (Operand.tmp 7) 5, type := 0, pos := "ref.go:242", after := #[], guard := none }) (v := (.pointer (some ⟨lx, 5, none⟩))) rfl (by kernel_rfl) (by kernel_rfl) (by kernel_rfl) (fun _ _ _ h => h) (Or.inl ⟨by rfl, ?_⟩) (by assumption) ?_
            · intro wz hSw
              (try dsimp only at hSw)
              obtain ⟨s1, s2, s3, s4, s5, s6, s7, s8⟩ := hSw
              go_simp
            (try simp only [Act.put, List.setIfInBounds_toArray, List.set_cons_zero, List.set_cons_succ, List.toList_toArray])
            refine wpAnyH_take (i := 15) (oi := { dst := some 46, op := Op.load 36 (Operand.tmp 45), type := 36, pos := "ref.go:242", after := #[{ on := 14, ground := Ground.data }], guard := none }) (v := (.agg #[.int .i64 sec, .int .i64 nano])) rfl (by kernel_rfl) (by kernel_rfl) (by kernel_rfl) (fun _ _ _ h => h) (Or.inl ⟨by rfl, ?_⟩) (by assumption) ?_
            · intro wz hSw
              (try dsimp only at hSw)
              obtain ⟨s1, s2, s3, s4, s5, s6, s7, s8⟩ := hSw
              go_simp
            (try simp only [Act.put, List.setIfInBounds_toArray, List.set_cons_zero, List.set_cons_succ, List.toList_toArray])
            refine wpAnyH_take (i := 16) (oi := { dst := some 47, op := Op.fieldAddr 51 (Operand.tmp 7) 6, type := 0, pos := "ref.go:242", after := #[], guard := none }) (v := (.pointer (some ⟨lx, 7, none⟩))) rfl (by kernel_rfl) (by kernel_rfl) (by kernel_rfl) (fun _ _ _ h => h) (Or.inl ⟨by rfl, ?_⟩) (by assumption) ?_
            · intro wz hSw
              (try dsimp only at hSw)
              obtain ⟨s1, s2, s3, s4, s5, s6, s7, s8⟩ := hSw
              go_simp
            (try simp only [Act.put, List.setIfInBounds_toArray, List.set_cons_zero, List.set_cons_succ, List.toList_toArray])
            refine wpAnyH_take (i := 17) (oi := { dst := some 48, op := Op.load 37 (Operand.tmp 47), type := 37, pos := "ref.go:242", after := #[{ on := 16, ground := Ground.data }], guard := none }) (v := (.slice da dn dc)) rfl (by kernel_rfl) (by kernel_rfl) (by kernel_rfl) (fun _ _ _ h => h) (Or.inl ⟨by rfl, ?_⟩) (by assumption) ?_
            · intro wz hSw
              (try dsimp only at hSw)
              obtain ⟨s1, s2, s3, s4, s5, s6, s7, s8⟩ := hSw
              go_simp
            (try simp only [Act.put, List.setIfInBounds_toArray, List.set_cons_zero, List.set_cons_succ, List.toList_toArray])
            refine wpAnyH_take (i := 19) (oi := { dst := some 50, op := Op.fieldAddr 51 (Operand.tmp 7) 7, type := 0, pos := "ref.go:242", after := #[], guard := none }) (v := (.pointer (some ⟨lx, 8, none⟩))) rfl (by kernel_rfl) (by kernel_rfl) (by kernel_rfl) (fun _ _ _ h => h) (Or.inl ⟨by rfl, ?_⟩) (by assumption) ?_
            · intro wz hSw
              (try dsimp only at hSw)
              obtain ⟨s1, s2, s3, s4, s5, s6, s7, s8⟩ := hSw
              go_simp
            (try simp only [Act.put, List.setIfInBounds_toArray, List.set_cons_zero, List.set_cons_succ, List.toList_toArray])
            refine wpAnyH_take (i := 20) (oi := { dst := some 51, op := Op.load 9 (Operand.tmp 50), type := 9, pos := "ref.go:242", after := #[{ on := 19, ground := Ground.data }], guard := none }) (v := (.string ⟨target.toArray⟩)) rfl (by kernel_rfl) (by kernel_rfl) (by kernel_rfl) (fun _ _ _ h => h) (Or.inl ⟨by rfl, ?_⟩) (by assumption) ?_
            · intro wz hSw
              (try dsimp only at hSw)
              obtain ⟨s1, s2, s3, s4, s5, s6, s7, s8⟩ := hSw
              go_simp
            (try simp only [Act.put, List.setIfInBounds_toArray, List.set_cons_zero, List.set_cons_succ, List.toList_toArray])
            refine wpAnyH_ready (rs := [1, 3, 18]) (by kernel_rfl) (by simp) ?_
            refine AllReadyH.cons (o := { dst := some 32, op := Op.load 41 (Operand.tmp 31), type := 41, pos := "ref.go:242", after := #[{ on := 0, ground := Ground.data }], guard := none }) rfl (fun K hK => ?_) ?_
            · skip
              go_simp
              refine hK.out _ _ (by assumption) (fun hH1 => ?_)
              clear hK K
              (try simp only [Act.put, List.setIfInBounds_toArray, List.set_cons_zero, List.set_cons_succ, List.toList_toArray])
              refine wpAnyH_ready (rs := [3, 18]) (by kernel_rfl) (by simp) ?_
              refine AllReadyH.cons (o := { dst := some 34, op := Op.load 41 (Operand.tmp 33), type := 41, pos := "ref.go:242", after := #[{ on := 2, ground := Ground.data }], guard := none }) rfl (fun K hK => ?_) ?_
              · skip
                go_simp
                refine hK.out _ _ (by assumption) (fun hH3 => ?_)
                clear hK K
                (try simp only [Act.put, List.setIfInBounds_toArray, List.set_cons_zero, List.set_cons_succ, List.toList_toArray])
                refine wpAnyH_take (i := 4) (oi := { dst := some 35, op := Op.call { callee := Callee.builtin Builtin.len, args := #[Operand.tmp 34], argTypes := #[41] }, type := 3, pos := "ref.go:242", after := #[{ on := 3, ground := Ground.data }], guard := none }) (v := (.int .i64 (nn : Int))) rfl (by kernel_rfl) (by kernel_rfl) (by kernel_rfl) (fun _ _ _ h => h) (Or.inl ⟨by rfl, ?_⟩) (by assumption) ?_
                · intro wz hSw
                  (try dsimp only at hSw)
                  obtain ⟨s1, s2, s3, s4, s5, s6, s7, s8⟩ := hSw
                  go_simp
                (try simp only [Act.put, List.setIfInBounds_toArray, List.set_cons_zero, List.set_cons_succ, List.toList_toArray])
                refine wpAnyH_take (i := 5) (oi := { dst := some 36, op := Op.binOp BinOp.add 3 (Operand.tmp 35) (Operand.const (Value.int IntKind.i64 1)) 3, type := 3, pos := "ref.go:242", after := #[{ on := 4, ground := Ground.data }], guard := none }) (v := (.int .i64 ((nn : Int) + 1))) rfl (by kernel_rfl) (by kernel_rfl) (by kernel_rfl) (fun _ _ _ h => h) (Or.inl ⟨by rfl, ?_⟩) (by assumption) ?_
                · intro wz hSw
                  (try dsimp only at hSw)
                  obtain ⟨s1, s2, s3, s4, s5, s6, s7, s8⟩ := hSw
                  (go_simp; exact HWR.out)
                (try simp only [Act.put, List.setIfInBounds_toArray, List.set_cons_zero, List.set_cons_succ, List.toList_toArray])
                refine wpAnyH_ready (rs := [18]) (by kernel_rfl) (by simp) ?_
                refine AllReadyH.cons (o := { dst := some 49, op := Op.call { callee := Callee.value (Operand.func 42), args := #[Operand.tmp 48], argTypes := #[37] }, type := 37, pos := "ref.go:242", after := #[{ on := 17, ground := Ground.data }], guard := none }) rfl (fun K hK => ?_) AllReadyH.nil
                go_simp
                (go_at_call 42; refine (HCLN.out).mono ?_; rintro r w5 ⟨a5, n5, c5, rfl, ho5, hb5⟩)
                have HO5 : Hid (Own w5 w1.heap.size (a5, n5, c5) data) := Lib.hid ho5
                have HB5 : Hid (Below w1.heap.size w1 w5) := Lib.hid ⟨hb5.os, hb5.tape, hb5.output, hb5.size, hb5.block⟩
                have HX5 := Lib.hid (row_below HBX.out HB5.out)
                have HX5a := Lib.hid (fun o => (heap_alloc_old w5 o (row_lt HX5.out)).trans HX5.out)
                have g5 := Below.keeps HB5.out _ _ hgc
                have g5a := fun o => Keeps.alloc w5 o _ _ g5
                clear ho5 hb5
                (try go_wp2_with fail)
                refine hK.out _ _ (HS.out _ HX5.out) (fun hH5 => ?_)
                clear hK K
                (try simp only [Act.put, List.setIfInBounds_toArray, List.set_cons_zero, List.set_cons_succ, List.toList_toArray])
                refine wpAnyH_take (i := 21) (oi := { dst := some 52, op := Op.build 75 #[(0, Operand.tmp 36), (1, Operand.tmp 38), (2, Operand.tmp 40), (3, Operand.tmp 42), (4, Operand.tmp 44), (5, Operand.tmp 46), (6, Operand.tmp 49), (7, Operand.tmp 51)], type := 75, pos := "ref.go:242", after := #[{ on := 5, ground := Ground.data }, { on := 7, ground := Ground.data }, { on := 9, ground := Ground.data }, { on := 11, ground := Ground.data }, { on := 13, ground := Ground.data }, { on := 15, ground := Ground.data }, { on := 18, ground := Ground.data }, { on := 20, ground := Ground.data }], guard := none }) (v := (.agg #[.int .i64 ((nn : Int) + 1), .int .i64 kind, .int .i64 mode, .int .i64 uid, .int .i64 gid, .int .i64 sec, .int .i64 nano, .slice a5 n5 c5, .string ⟨target.toArray⟩, .slice none 0 0])) rfl (by kernel_rfl) (by kernel_rfl) (by kernel_rfl) (fun _ _ _ h => h) (Or.inl ⟨by rfl, ?_⟩) (by assumption) ?_
                · intro wz hSw
                  (try dsimp only at hSw)
                  obtain ⟨s1, s2, s3, s4, s5, s6, s7, s8⟩ := hSw
                  go_simp
                (try simp only [Act.put, List.setIfInBounds_toArray, List.set_cons_zero, List.set_cons_succ, List.toList_toArray])
                refine wpAnyH_ready (rs := [22]) (by kernel_rfl) (by simp) ?_
                refine AllReadyH.cons (o := { dst := some 53, op := Op.buildSlice 41 1 #[(0, Operand.tmp 52)], type := 41, pos := "ref.go:242", after := #[{ on := 21, ground := Ground.data }], guard := none }) rfl (fun K hK => ?_) AllReadyH.nil
                go_simp
                refine hK.out _ _ (HS.out _ (HX5a.out _)) (fun hH6 => ?_)
                clear hK K
                (try simp only [Act.put, List.setIfInBounds_toArray, List.set_cons_zero, List.set_cons_succ, List.toList_toArray])
                refine wpAnyH_ready (rs := [23]) (by kernel_rfl) (by simp) ?_
                refine AllReadyH.cons (o := { dst := some 54, op := Op.call { callee := Callee.builtin Builtin.append, args := #[Operand.tmp 32, Operand.tmp 53], argTypes := #[41, 41] }, type := 41, pos := "ref.go:242", after := #[{ on := 1, ground := Ground.data }, { on := 22, ground := Ground.data }, { on := 18, ground := Ground.chain }], guard := none }) rfl (fun K hK => ?_) AllReadyH.nil
                obtain ⟨a7, c7, w7, hrun7, HP7, HX7, HX7s, k1, k2⟩ := HAPP.out w5 a5 n5 c5 HO5.out HB5.out
                refine step_app_run rfl (.tmp 32) (.tmp 53) 41 rfl _ _ (by simp [Act.eval, Act.put]) (by simp [Act.eval, Act.put]) _ _ hrun7 ?_
                clear hrun7
                refine hK.out _ _ (HS.out _ HX7.out) (fun hH7 => ?_)
                clear hK K
                (try simp only [Act.put, List.setIfInBounds_toArray, List.set_cons_zero, List.set_cons_succ, List.toList_toArray])
                refine wpAnyH_take (i := 24) (oi := { dst := some 55, op := Op.fieldAddr 43 (Operand.tmp 4) 0, type := 0, pos := "ref.go:242", after := #[{ on := 0, ground := Ground.phase }, { on := 1, ground := Ground.phase }, { on := 2, ground := Ground.phase }, { on := 3, ground := Ground.phase }, { on := 4, ground := Ground.phase }, { on := 5, ground := Ground.phase }, { on := 6, ground := Ground.phase }, { on := 7, ground := Ground.phase }, { on := 8, ground := Ground.phase }, { on := 9, ground := Ground.phase }, { on := 10, ground := Ground.phase }, { on := 11, ground := Ground.phase }, { on := 12, ground := Ground.phase }, { on := 13, ground := Ground.phase }, { on := 14, ground := Ground.phase }, { on := 15, ground := Ground.phase }, { on := 16, ground := Ground.phase }, { on := 17, ground := Ground.phase }, { on := 18, ground := Ground.phase }, { on := 19, ground := Ground.phase }, { on := 20, ground := Ground.phase }, { on := 21, ground := Ground.phase }, { on := 22, ground := Ground.phase }, { on := 23, ground := Ground.phase }], guard := none }) (v := (.pointer (some ⟨w.heap.size + 1, 0, none⟩))) rfl (by kernel_rfl) (by kernel_rfl) (by kernel_rfl) (fun _ _ _ h => h) (Or.inl ⟨by rfl, ?_⟩) (by assumption) ?_
                · intro wz hSw
                  (try dsimp only at hSw)
                  obtain ⟨s1, s2, s3, s4, s5, s6, s7, s8⟩ := hSw
                  go_simp
                (try simp only [Act.put, List.setIfInBounds_toArray, List.set_cons_zero, List.set_cons_succ, List.toList_toArray])
                refine wpAnyH_ready (rs := [25]) (by kernel_rfl) (by simp) ?_
                refine AllReadyH.cons (o := { dst := none, op := Op.store 41 (Operand.tmp 55) (Operand.tmp 54), type := 0, pos := "ref.go:242", after := #[{ on := 24, ground := Ground.data }, { on := 23, ground := Ground.data }, { on := 23, ground := Ground.chain }, { on := 0, ground := Ground.phase }, { on := 1, ground := Ground.phase }, { on := 2, ground := Ground.phase }, { on := 3, ground := Ground.phase }, { on := 4, ground := Ground.phase }, { on := 5, ground := Ground.phase }, { on := 6, ground := Ground.phase }, { on := 7, ground := Ground.phase }, { on := 8, ground := Ground.phase }, { on := 9, ground := Ground.phase }, { on := 10, ground := Ground.phase }, { on := 11, ground := Ground.phase }, { on := 12, ground := Ground.phase }, { on := 13, ground := Ground.phase }, { on := 14, ground := Ground.phase }, { on := 15, ground := Ground.phase }, { on := 16, ground := Ground.phase }, { on := 17, ground := Ground.phase }, { on := 18, ground := Ground.phase }, { on := 19, ground := Ground.phase }, { on := 20, ground := Ground.phase }, { on := 21, ground := Ground.phase }, { on := 22, ground := Ground.phase }, { on := 23, ground := Ground.phase }], guard := none }) rfl (fun K hK => ?_) AllReadyH.nil
                go_simp
                refine hK.out _ _ (HS.out _ HX7s.out) (fun hH8 => ?_)
                clear hK K
                (try simp only [Act.put, List.setIfInBounds_toArray, List.set_cons_zero, List.set_cons_succ, List.toList_toArray])
                refine wpAnyH_done (by kernel_rfl) ?_ _
                go_wp2_with fail
                go_meet
                exact ⟨a7, c7, (⟨0, 0, 0, 0, 0, 0, 0, [], [], []⟩, (a5, n5, c5), (none, 0, 0)), HP7, HX7s⟩
              refine AllReadyH.cons (o := { dst := some 49, op := Op.call { callee := Callee.value (Operand.func 42), args := #[Operand.tmp 48], argTypes := #[37] }, type := 37, pos := "ref.go:242", after := #[{ on := 17, ground := Ground.data }], guard := none }) rfl (fun K hK => ?_) AllReadyH.nil
              go_simp
              (go_at_call 42; refine (HCLN.out).mono ?_; rintro r w5 ⟨a5, n5, c5, rfl, ho5, hb5⟩)
              have HO5 : Hid (Own w5 w1.heap.size (a5, n5, c5) data) := Lib.hid ho5
              have HB5 : Hid (Below w1.heap.size w1 w5) := Lib.hid ⟨hb5.os, hb5.tape, hb5.output, hb5.size, hb5.block⟩
              have HX5 := Lib.hid (row_below HBX.out HB5.out)
              have HX5a := Lib.hid (fun o => (heap_alloc_old w5 o (row_lt HX5.out)).trans HX5.out)
              have g5 := Below.keeps HB5.out _ _ hgc
              have g5a := fun o => Keeps.alloc w5 o _ _ g5
              clear ho5 hb5
              (try go_wp2_with fail)
              refine hK.out _ _ (HS.out _ HX5.out) (fun hH5 => ?_)
              clear hK K
              (try simp only [Act.put, List.setIfInBounds_toArray, List.set_cons_zero, List.set_cons_succ, List.toList_toArray])
              refine wpAnyH_ready (rs := [3]) (by kernel_rfl) (by simp) ?_
              refine AllReadyH.cons (o := { dst := some 34, op := Op.load 41 (Operand.tmp 33), type := 41, pos := "ref.go:242", after := #[{ on := 2, ground := Ground.data }], guard := none }) rfl (fun K hK => ?_) AllReadyH.nil
              go_simp
              refine hK.out _ _ (by assumption) (fun hH3 => ?_)
              clear hK K
              (try simp only [Act.put, List.setIfInBounds_toArray, List.set_cons_zero, List.set_cons_succ, List.toList_toArray])
              refine wpAnyH_take (i := 4) (oi := { dst := some 35, op := Op.call { callee := Callee.builtin Builtin.len, args := #[Operand.tmp 34], argTypes := #[41] }, type := 3, pos := "ref.go:242", after := #[{ on := 3, ground := Ground.data }], guard := none }) (v := (.int .i64 (nn : Int))) rfl (by kernel_rfl) (by kernel_rfl) (by kernel_rfl) (fun _ _ _ h => h) (Or.inl ⟨by rfl, ?_⟩) (by assumption) ?_
              · intro wz hSw
                (try dsimp only at hSw)
                obtain ⟨s1, s2, s3, s4, s5, s6, s7, s8⟩ := hSw
                go_simp
              (try simp only [Act.put, List.setIfInBounds_toArray, List.set_cons_zero, List.set_cons_succ, List.toList_toArray])
              refine wpAnyH_take (i := 5) (oi := { dst := some 36, op := Op.binOp BinOp.add 3 (Operand.tmp 35) (Operand.const (Value.int IntKind.i64 1)) 3, type := 3, pos := "ref.go:242", after := #[{ on := 4, ground := Ground.data }], guard := none }) (v := (.int .i64 ((nn : Int) + 1))) rfl (by kernel_rfl) (by kernel_rfl) (by kernel_rfl) (fun _ _ _ h => h) (Or.inl ⟨by rfl, ?_⟩) (by assumption) ?_
              · intro wz hSw
                (try dsimp only at hSw)
                obtain ⟨s1, s2, s3, s4, s5, s6, s7, s8⟩ := hSw
                (go_simp; exact HWR.out)
              (try simp only [Act.put, List.setIfInBounds_toArray, List.set_cons_zero, List.set_cons_succ, List.toList_toArray])
              refine wpAnyH_take (i := 21) (oi := { dst := some 52, op := Op.build 75 #[(0, Operand.tmp 36), (1, Operand.tmp 38), (2, Operand.tmp 40), (3, Operand.tmp 42), (4, Operand.tmp 44), (5, Operand.tmp 46), (6, Operand.tmp 49), (7, Operand.tmp 51)], type := 75, pos := "ref.go:242", after := #[{ on := 5, ground := Ground.data }, { on := 7, ground := Ground.data }, { on := 9, ground := Ground.data }, { on := 11, ground := Ground.data }, { on := 13, ground := Ground.data }, { on := 15, ground := Ground.data }, { on := 18, ground := Ground.data }, { on := 20, ground := Ground.data }], guard := none }) (v := (.agg #[.int .i64 ((nn : Int) + 1), .int .i64 kind, .int .i64 mode, .int .i64 uid, .int .i64 gid, .int .i64 sec, .int .i64 nano, .slice a5 n5 c5, .string ⟨target.toArray⟩, .slice none 0 0])) rfl (by kernel_rfl) (by kernel_rfl) (by kernel_rfl) (fun _ _ _ h => h) (Or.inl ⟨by rfl, ?_⟩) (by assumption) ?_
              · intro wz hSw
                (try dsimp only at hSw)
                obtain ⟨s1, s2, s3, s4, s5, s6, s7, s8⟩ := hSw
                go_simp
              (try simp only [Act.put, List.setIfInBounds_toArray, List.set_cons_zero, List.set_cons_succ, List.toList_toArray])
              refine wpAnyH_ready (rs := [22]) (by kernel_rfl) (by simp) ?_
              refine AllReadyH.cons (o := { dst := some 53, op := Op.buildSlice 41 1 #[(0, Operand.tmp 52)], type := 41, pos := "ref.go:242", after := #[{ on := 21, ground := Ground.data }], guard := none }) rfl (fun K hK => ?_) AllReadyH.nil
              go_simp
              refine hK.out _ _ (HS.out _ (HX5a.out _)) (fun hH6 => ?_)
              clear hK K
              (try simp only [Act.put, List.setIfInBounds_toArray, List.set_cons_zero, List.set_cons_succ, List.toList_toArray])
              refine wpAnyH_ready (rs := [23]) (by kernel_rfl) (by simp) ?_
              refine AllReadyH.cons (o := { dst := some 54, op := Op.call { callee := Callee.builtin Builtin.append, args := #[Operand.tmp 32, Operand.tmp 53], argTypes := #[41, 41] }, type := 41, pos := "ref.go:242", after := #[{ on := 1, ground := Ground.data }, { on := 22, ground := Ground.data }, { on := 18, ground := Ground.chain }], guard := none }) rfl (fun K hK => ?_) AllReadyH.nil
              obtain ⟨a7, c7, w7, hrun7, HP7, HX7, HX7s, k1, k2⟩ := HAPP.out w5 a5 n5 c5 HO5.out HB5.out
              refine step_app_run rfl (.tmp 32) (.tmp 53) 41 rfl _ _ (by simp [Act.eval, Act.put]) (by simp [Act.eval, Act.put]) _ _ hrun7 ?_
              clear hrun7
              refine hK.out _ _ (HS.out _ HX7.out) (fun hH7 => ?_)
              clear hK K
              (try simp only [Act.put, List.setIfInBounds_toArray, List.set_cons_zero, List.set_cons_succ, List.toList_toArray])
              refine wpAnyH_take (i := 24) (oi := { dst := some 55, op := Op.fieldAddr 43 (Operand.tmp 4) 0, type := 0, pos := "ref.go:242", after := #[{ on := 0, ground := Ground.phase }, { on := 1, ground := Ground.phase }, { on := 2, ground := Ground.phase }, { on := 3, ground := Ground.phase }, { on := 4, ground := Ground.phase }, { on := 5, ground := Ground.phase }, { on := 6, ground := Ground.phase }, { on := 7, ground := Ground.phase }, { on := 8, ground := Ground.phase }, { on := 9, ground := Ground.phase }, { on := 10, ground := Ground.phase }, { on := 11, ground := Ground.phase }, { on := 12, ground := Ground.phase }, { on := 13, ground := Ground.phase }, { on := 14, ground := Ground.phase }, { on := 15, ground := Ground.phase }, { on := 16, ground := Ground.phase }, { on := 17, ground := Ground.phase }, { on := 18, ground := Ground.phase }, { on := 19, ground := Ground.phase }, { on := 20, ground := Ground.phase }, { on := 21, ground := Ground.phase }, { on := 22, ground := Ground.phase }, { on := 23, ground := Ground.phase }], guard := none }) (v := (.pointer (some ⟨w.heap.size + 1, 0, none⟩))) rfl (by kernel_rfl) (by kernel_rfl) (by kernel_rfl) (fun _ _ _ h => h) (Or.inl ⟨by rfl, ?_⟩) (by assumption) ?_
              · intro wz hSw
                (try dsimp only at hSw)
                obtain ⟨s1, s2, s3, s4, s5, s6, s7, s8⟩ := hSw
                go_simp
              (try simp only [Act.put, List.setIfInBounds_toArray, List.set_cons_zero, List.set_cons_succ, List.toList_toArray])
              refine wpAnyH_ready (rs := [25]) (by kernel_rfl) (by simp) ?_
              refine AllReadyH.cons (o := { dst := none, op := Op.store 41 (Operand.tmp 55) (Operand.tmp 54), type := 0, pos := "ref.go:242", after := #[{ on := 24, ground := Ground.data }, { on := 23, ground := Ground.data }, { on := 23, ground := Ground.chain }, { on := 0, ground := Ground.phase }, { on := 1, ground := Ground.phase }, { on := 2, ground := Ground.phase }, { on := 3, ground := Ground.phase }, { on := 4, ground := Ground.phase }, { on := 5, ground := Ground.phase }, { on := 6, ground := Ground.phase }, { on := 7, ground := Ground.phase }, { on := 8, ground := Ground.phase }, { on := 9, ground := Ground.phase }, { on := 10, ground := Ground.phase }, { on := 11, ground := Ground.phase }, { on := 12, ground := Ground.phase }, { on := 13, ground := Ground.phase }, { on := 14, ground := Ground.phase }, { on := 15, ground := Ground.phase }, { on := 16, ground := Ground.phase }, { on := 17, ground := Ground.phase }, { on := 18, ground := Ground.phase }, { on := 19, ground := Ground.phase }, { on := 20, ground := Ground.phase }, { on := 21, ground := Ground.phase }, { on := 22, ground := Ground.phase }, { on := 23, ground := Ground.phase }], guard := none }) rfl (fun K hK => ?_) AllReadyH.nil
              go_simp
              refine hK.out _ _ (HS.out _ HX7s.out) (fun hH8 => ?_)
              clear hK K
              (try simp only [Act.put, List.setIfInBounds_toArray, List.set_cons_zero, List.set_cons_succ, List.toList_toArray])
              refine wpAnyH_done (by kernel_rfl) ?_ _
              go_wp2_with fail
              go_meet
              exact ⟨a7, c7, (⟨0, 0, 0, 0, 0, 0, 0, [], [], []⟩, (a5, n5, c5), (none, 0, 0)), HP7, HX7s⟩
            refine AllReadyH.cons (o := { dst := some 34, op := Op.load 41 (Operand.tmp 33), type := 41, pos := "ref.go:242", after := #[{ on := 2, ground := Ground.data }], guard := none }) rfl (fun K hK => ?_) ?_
            · skip
              go_simp
              refine hK.out _ _ (by assumption) (fun hH3 => ?_)
              clear hK K
              (try simp only [Act.put, List.setIfInBounds_toArray, List.set_cons_zero, List.set_cons_succ, List.toList_toArray])
              refine wpAnyH_take (i := 4) (oi := { dst := some 35, op := Op.call { callee := Callee.builtin Builtin.len, args := #[Operand.tmp 34], argTypes := #[41] }, type := 3, pos := "ref.go:242", after := #[{ on := 3, ground := Ground.data }], guard := none }) (v := (.int .i64 (nn : Int))) rfl (by kernel_rfl) (by kernel_rfl) (by kernel_rfl) (fun _ _ _ h => h) (Or.inl ⟨by rfl, ?_⟩) (by assumption) ?_
              · intro wz hSw
                (try dsimp only at hSw)
                obtain ⟨s1, s2, s3, s4, s5, s6, s7, s8⟩ := hSw
                go_simp
              (try simp only [Act.put, List.setIfInBounds_toArray, List.set_cons_zero, List.set_cons_succ, List.toList_toArray])
              refine wpAnyH_take (i := 5) (oi := { dst := some 36, op := Op.binOp BinOp.add 3 (Operand.tmp 35) (Operand.const (Value.int IntKind.i64 1)) 3, type := 3, pos := "ref.go:242", after := #[{ on := 4, ground := Ground.data }], guard := none }) (v := (.int .i64 ((nn : Int) + 1))) rfl (by kernel_rfl) (by kernel_rfl) (by kernel_rfl) (fun _ _ _ h => h) (Or.inl ⟨by rfl, ?_⟩) (by assumption) ?_
              · intro wz hSw
                (try dsimp only at hSw)
                obtain ⟨s1, s2, s3, s4, s5, s6, s7, s8⟩ := hSw
                (go_simp; exact HWR.out)
              (try simp only [Act.put, List.setIfInBounds_toArray, List.set_cons_zero, List.set_cons_succ, List.toList_toArray])
              refine wpAnyH_ready (rs := [1, 18]) (by kernel_rfl) (by simp) ?_
              refine AllReadyH.cons (o := { dst := some 32, op := Op.load 41 (Operand.tmp 31), type := 41, pos := "ref.go:242", after := #[{ on := 0, ground := Ground.data }], guard := none }) rfl (fun K hK => ?_) ?_
              · skip
                go_simp
                refine hK.out _ _ (by assumption) (fun hH1 => ?_)
                clear hK K
                (try simp only [Act.put, List.setIfInBounds_toArray, List.set_cons_zero, List.set_cons_succ, List.toList_toArray])
                refine wpAnyH_ready (rs := [18]) (by kernel_rfl) (by simp) ?_
                refine AllReadyH.cons (o := { dst := some 49, op := Op.call { callee := Callee.value (Operand.func 42), args := #[Operand.tmp 48], argTypes := #[37] }, type := 37, pos := "ref.go:242", after := #[{ on := 17, ground := Ground.data }], guard := none }) rfl (fun K hK => ?_) AllReadyH.nil
                go_simp
                (go_at_call 42; refine (HCLN.out).mono ?_; rintro r w5 ⟨a5, n5, c5, rfl, ho5, hb5⟩)
                have HO5 : Hid (Own w5 w1.heap.size (a5, n5, c5) data) := Lib.hid ho5
                have HB5 : Hid (Below w1.heap.size w1 w5) := Lib.hid ⟨hb5.os, hb5.tape, hb5.output, hb5.size, hb5.block⟩
                have HX5 := Lib.hid (row_below HBX.out HB5.out)
                have HX5a := Lib.hid (fun o => (heap_alloc_old w5 o (row_lt HX5.out)).trans HX5.out)
                have g5 := Below.keeps HB5.out _ _ hgc
                have g5a := fun o => Keeps.alloc w5 o _ _ g5
                clear ho5 hb5
                (try go_wp2_with fail)
                refine hK.out _ _ (HS.out _ HX5.out) (fun hH5 => ?_)
                clear hK K
                (try simp only [Act.put, List.setIfInBounds_toArray, List.set_cons_zero, List.set_cons_succ, List.toList_toArray])
                refine wpAnyH_take (i := 21) (oi := { dst := some 52, op := Op.build 75 #[(0, Operand.tmp 36), (1, Operand.tmp 38), (2, Operand.tmp 40), (3, Operand.tmp 42), (4, Operand.tmp 44), (5, Operand.tmp 46), (6, Operand.tmp 49), (7, Operand.tmp 51)], type := 75, pos := "ref.go:242", after := #[{ on := 5, ground := Ground.data }, { on := 7, ground := Ground.data }, { on := 9, ground := Ground.data }, { on := 11, ground := Ground.data }, { on := 13, ground := Ground.data }, { on := 15, ground := Ground.data }, { on := 18, ground := Ground.data }, { on := 20, ground := Ground.data }], guard := none }) (v := (.agg #[.int .i64 ((nn : Int) + 1), .int .i64 kind, .int .i64 mode, .int .i64 uid, .int .i64 gid, .int .i64 sec, .int .i64 nano, .slice a5 n5 c5, .string ⟨target.toArray⟩, .slice none 0 0])) rfl (by kernel_rfl) (by kernel_rfl) (by kernel_rfl) (fun _ _ _ h => h) (Or.inl ⟨by rfl, ?_⟩) (by assumption) ?_
                · intro wz hSw
                  (try dsimp only at hSw)
                  obtain ⟨s1, s2, s3, s4, s5, s6, s7, s8⟩ := hSw
                  go_simp
                (try simp only [Act.put, List.setIfInBounds_toArray, List.set_cons_zero, List.set_cons_succ, List.toList_toArray])
                refine wpAnyH_ready (rs := [22]) (by kernel_rfl) (by simp) ?_
                refine AllReadyH.cons (o := { dst := some 53, op := Op.buildSlice 41 1 #[(0, Operand.tmp 52)], type := 41, pos := "ref.go:242", after := #[{ on := 21, ground := Ground.data }], guard := none }) rfl (fun K hK => ?_) AllReadyH.nil
                go_simp
                refine hK.out _ _ (HS.out _ (HX5a.out _)) (fun hH6 => ?_)
                clear hK K
                (try simp only [Act.put, List.setIfInBounds_toArray, List.set_cons_zero, List.set_cons_succ, List.toList_toArray])
                refine wpAnyH_ready (rs := [23]) (by kernel_rfl) (by simp) ?_
                refine AllReadyH.cons (o := { dst := some 54, op := Op.call { callee := Callee.builtin Builtin.append, args := #[Operand.tmp 32, Operand.tmp 53], argTypes := #[41, 41] }, type := 41, pos := "ref.go:242", after := #[{ on := 1, ground := Ground.data }, { on := 22, ground := Ground.data }, { on := 18, ground := Ground.chain }], guard := none }) rfl (fun K hK => ?_) AllReadyH.nil
                obtain ⟨a7, c7, w7, hrun7, HP7, HX7, HX7s, k1, k2⟩ := HAPP.out w5 a5 n5 c5 HO5.out HB5.out
                refine step_app_run rfl (.tmp 32) (.tmp 53) 41 rfl _ _ (by simp [Act.eval, Act.put]) (by simp [Act.eval, Act.put]) _ _ hrun7 ?_
                clear hrun7
                refine hK.out _ _ (HS.out _ HX7.out) (fun hH7 => ?_)
                clear hK K
                (try simp only [Act.put, List.setIfInBounds_toArray, List.set_cons_zero, List.set_cons_succ, List.toList_toArray])
                refine wpAnyH_take (i := 24) (oi := { dst := some 55, op := Op.fieldAddr 43 (Operand.tmp 4) 0, type := 0, pos := "ref.go:242", after := #[{ on := 0, ground := Ground.phase }, { on := 1, ground := Ground.phase }, { on := 2, ground := Ground.phase }, { on := 3, ground := Ground.phase }, { on := 4, ground := Ground.phase }, { on := 5, ground := Ground.phase }, { on := 6, ground := Ground.phase }, { on := 7, ground := Ground.phase }, { on := 8, ground := Ground.phase }, { on := 9, ground := Ground.phase }, { on := 10, ground := Ground.phase }, { on := 11, ground := Ground.phase }, { on := 12, ground := Ground.phase }, { on := 13, ground := Ground.phase }, { on := 14, ground := Ground.phase }, { on := 15, ground := Ground.phase }, { on := 16, ground := Ground.phase }, { on := 17, ground := Ground.phase }, { on := 18, ground := Ground.phase }, { on := 19, ground := Ground.phase }, { on := 20, ground := Ground.phase }, { on := 21, ground := Ground.phase }, { on := 22, ground := Ground.phase }, { on := 23, ground := Ground.phase }], guard := none }) (v := (.pointer (some ⟨w.heap.size + 1, 0, none⟩))) rfl (by kernel_rfl) (by kernel_rfl) (by kernel_rfl) (fun _ _ _ h => h) (Or.inl ⟨by rfl, ?_⟩) (by assumption) ?_
                · intro wz hSw
                  (try dsimp only at hSw)
                  obtain ⟨s1, s2, s3, s4, s5, s6, s7, s8⟩ := hSw
                  go_simp
                (try simp only [Act.put, List.setIfInBounds_toArray, List.set_cons_zero, List.set_cons_succ, List.toList_toArray])
                refine wpAnyH_ready (rs := [25]) (by kernel_rfl) (by simp) ?_
                refine AllReadyH.cons (o := { dst := none, op := Op.store 41 (Operand.tmp 55) (Operand.tmp 54), type := 0, pos := "ref.go:242", after := #[{ on := 24, ground := Ground.data }, { on := 23, ground := Ground.data }, { on := 23, ground := Ground.chain }, { on := 0, ground := Ground.phase }, { on := 1, ground := Ground.phase }, { on := 2, ground := Ground.phase }, { on := 3, ground := Ground.phase }, { on := 4, ground := Ground.phase }, { on := 5, ground := Ground.phase }, { on := 6, ground := Ground.phase }, { on := 7, ground := Ground.phase }, { on := 8, ground := Ground.phase }, { on := 9, ground := Ground.phase }, { on := 10, ground := Ground.phase }, { on := 11, ground := Ground.phase }, { on := 12, ground := Ground.phase }, { on := 13, ground := Ground.phase }, { on := 14, ground := Ground.phase }, { on := 15, ground := Ground.phase }, { on := 16, ground := Ground.phase }, { on := 17, ground := Ground.phase }, { on := 18, ground := Ground.phase }, { on := 19, ground := Ground.phase }, { on := 20, ground := Ground.phase }, { on := 21, ground := Ground.phase }, { on := 22, ground := Ground.phase }, { on := 23, ground := Ground.phase }], guard := none }) rfl (fun K hK => ?_) AllReadyH.nil
                go_simp
                refine hK.out _ _ (HS.out _ HX7s.out) (fun hH8 => ?_)
                clear hK K
                (try simp only [Act.put, List.setIfInBounds_toArray, List.set_cons_zero, List.set_cons_succ, List.toList_toArray])
                refine wpAnyH_done (by kernel_rfl) ?_ _
                go_wp2_with fail
                go_meet
                exact ⟨a7, c7, (⟨0, 0, 0, 0, 0, 0, 0, [], [], []⟩, (a5, n5, c5), (none, 0, 0)), HP7, HX7s⟩
              refine AllReadyH.cons (o := { dst := some 49, op := Op.call { callee := Callee.value (Operand.func 42), args := #[Operand.tmp 48], argTypes := #[37] }, type := 37, pos := "ref.go:242", after := #[{ on := 17, ground := Ground.data }], guard := none }) rfl (fun K hK => ?_) AllReadyH.nil
              go_simp
              (go_at_call 42; refine (HCLN.out).mono ?_; rintro r w5 ⟨a5, n5, c5, rfl, ho5, hb5⟩)
              have HO5 : Hid (Own w5 w1.heap.size (a5, n5, c5) data) := Lib.hid ho5
              have HB5 : Hid (Below w1.heap.size w1 w5) := Lib.hid ⟨hb5.os, hb5.tape, hb5.output, hb5.size, hb5.block⟩
              have HX5 := Lib.hid (row_below HBX.out HB5.out)
              have HX5a := Lib.hid (fun o => (heap_alloc_old w5 o (row_lt HX5.out)).trans HX5.out)
              have g5 := Below.keeps HB5.out _ _ hgc
              have g5a := fun o => Keeps.alloc w5 o _ _ g5
              clear ho5 hb5
              (try go_wp2_with fail)
              refine hK.out _ _ (HS.out _ HX5.out) (fun hH5 => ?_)
              clear hK K
              (try simp only [Act.put, List.setIfInBounds_toArray, List.set_cons_zero, List.set_cons_succ, List.toList_toArray])
              refine wpAnyH_take (i := 21) (oi := { dst := some 52, op := Op.build 75 #[(0, Operand.tmp 36), (1, Operand.tmp 38), (2, Operand.tmp 40), (3, Operand.tmp 42), (4, Operand.tmp 44), (5, Operand.tmp 46), (6, Operand.tmp 49), (7, Operand.tmp 51)], type := 75, pos := "ref.go:242", after := #[{ on := 5, ground := Ground.data }, { on := 7, ground := Ground.data }, { on := 9, ground := Ground.data }, { on := 11, ground := Ground.data }, { on := 13, ground := Ground.data }, { on := 15, ground := Ground.data }, { on := 18, ground := Ground.data }, { on := 20, ground := Ground.data }], guard := none }) (v := (.agg #[.int .i64 ((nn : Int) + 1), .int .i64 kind, .int .i64 mode, .int .i64 uid, .int .i64 gid, .int .i64 sec, .int .i64 nano, .slice a5 n5 c5, .string ⟨target.toArray⟩, .slice none 0 0])) rfl (by kernel_rfl) (by kernel_rfl) (by kernel_rfl) (fun _ _ _ h => h) (Or.inl ⟨by rfl, ?_⟩) (by assumption) ?_
              · intro wz hSw
                (try dsimp only at hSw)
                obtain ⟨s1, s2, s3, s4, s5, s6, s7, s8⟩ := hSw
                go_simp
              (try simp only [Act.put, List.setIfInBounds_toArray, List.set_cons_zero, List.set_cons_succ, List.toList_toArray])
              refine wpAnyH_ready (rs := [1, 22]) (by kernel_rfl) (by simp) ?_
              refine AllReadyH.cons (o := { dst := some 32, op := Op.load 41 (Operand.tmp 31), type := 41, pos := "ref.go:242", after := #[{ on := 0, ground := Ground.data }], guard := none }) rfl (fun K hK => ?_) ?_
              · skip
                go_simp
                refine hK.out _ _ (by assumption) (fun hH1 => ?_)
                clear hK K
                (try simp only [Act.put, List.setIfInBounds_toArray, List.set_cons_zero, List.set_cons_succ, List.toList_toArray])
                refine wpAnyH_ready (rs := [22]) (by kernel_rfl) (by simp) ?_
                refine AllReadyH.cons (o := { dst := some 53, op := Op.buildSlice 41 1 #[(0, Operand.tmp 52)], type := 41, pos := "ref.go:242", after := #[{ on := 21, ground := Ground.data }], guard := none }) rfl (fun K hK => ?_) AllReadyH.nil
                go_simp
                refine hK.out _ _ (HS.out _ (HX5a.out _)) (fun hH6 => ?_)
                clear hK K
                (try simp only [Act.put, List.setIfInBounds_toArray, List.set_cons_zero, List.set_cons_succ, List.toList_toArray])
                refine wpAnyH_ready (rs := [23]) (by kernel_rfl) (by simp) ?_
                refine AllReadyH.cons (o := { dst := some 54, op := Op.call { callee := Callee.builtin Builtin.append, args := #[Operand.tmp 32, Operand.tmp 53], argTypes := #[41, 41] }, type := 41, pos := "ref.go:242", after := #[{ on := 1, ground := Ground.data }, { on := 22, ground := Ground.data }, { on := 18, ground := Ground.chain }], guard := none }) rfl (fun K hK => ?_) AllReadyH.nil
                obtain ⟨a7, c7, w7, hrun7, HP7, HX7, HX7s, k1, k2⟩ := HAPP.out w5 a5 n5 c5 HO5.out HB5.out
                refine step_app_run rfl (.tmp 32) (.tmp 53) 41 rfl _ _ (by simp [Act.eval, Act.put]) (by simp [Act.eval, Act.put]) _ _ hrun7 ?_
                clear hrun7
                refine hK.out _ _ (HS.out _ HX7.out) (fun hH7 => ?_)
                clear hK K
                (try simp only [Act.put, List.setIfInBounds_toArray, List.set_cons_zero, List.set_cons_succ, List.toList_toArray])
                refine wpAnyH_take (i := 24) (oi := { dst := some 55, op := Op.fieldAddr 43 (Operand.tmp 4) 0, type := 0, pos := "ref.go:242", after := #[{ on := 0, ground := Ground.phase }, { on := 1, ground := Ground.phase }, { on := 2, ground := Ground.phase }, { on := 3, ground := Ground.phase }, { on := 4, ground := Ground.phase }, { on := 5, ground := Ground.phase }, { on := 6, ground := Ground.phase }, { on := 7, ground := Ground.phase }, { on := 8, ground := Ground.phase }, { on := 9, ground := Ground.phase }, { on := 10, ground := Ground.phase }, { on := 11, ground := Ground.phase }, { on := 12, ground := Ground.phase }, { on := 13, ground := Ground.phase }, { on := 14, ground := Ground.phase }, { on := 15, ground := Ground.phase }, { on := 16, ground := Ground.phase }, { on := 17, ground := Ground.phase }, { on := 18, ground := Ground.phase }, { on := 19, ground := Ground.phase }, { on := 20, ground := Ground.phase }, { on := 21, ground := Ground.phase }, { on := 22, ground := Ground.phase }, { on := 23, ground := Ground.phase }], guard := none }) (v := (.pointer (some ⟨w.heap.size + 1, 0, none⟩))) rfl (by kernel_rfl) (by kernel_rfl) (by kernel_rfl) (fun _ _ _ h => h) (Or.inl ⟨by rfl, ?_⟩) (by assumption) ?_
                · intro wz hSw
                  (try dsimp only at hSw)
                  obtain ⟨s1, s2, s3, s4, s5, s6, s7, s8⟩ := hSw
                  go_simp
                (try simp only [Act.put, List.setIfInBounds_toArray, List.set_cons_zero, List.set_cons_succ, List.toList_toArray])
                refine wpAnyH_ready (rs := [25]) (by kernel_rfl) (by simp) ?_
                refine AllReadyH.cons (o := { dst := none, op := Op.store 41 (Operand.tmp 55) (Operand.tmp 54), type := 0, pos := "ref.go:242", after := #[{ on := 24, ground := Ground.data }, { on := 23, ground := Ground.data }, { on := 23, ground := Ground.chain }, { on := 0, ground := Ground.phase }, { on := 1, ground := Ground.phase }, { on := 2, ground := Ground.phase }, { on := 3, ground := Ground.phase }, { on := 4, ground := Ground.phase }, { on := 5, ground := Ground.phase }, { on := 6, ground := Ground.phase }, { on := 7, ground := Ground.phase }, { on := 8, ground := Ground.phase }, { on := 9, ground := Ground.phase }, { on := 10, ground := Ground.phase }, { on := 11, ground := Ground.phase }, { on := 12, ground := Ground.phase }, { on := 13, ground := Ground.phase }, { on := 14, ground := Ground.phase }, { on := 15, ground := Ground.phase }, { on := 16, ground := Ground.phase }, { on := 17, ground := Ground.phase }, { on := 18, ground := Ground.phase }, { on := 19, ground := Ground.phase }, { on := 20, ground := Ground.phase }, { on := 21, ground := Ground.phase }, { on := 22, ground := Ground.phase }, { on := 23, ground := Ground.phase }], guard := none }) rfl (fun K hK => ?_) AllReadyH.nil
                go_simp
                refine hK.out _ _ (HS.out _ HX7s.out) (fun hH8 => ?_)
                clear hK K
                (try simp only [Act.put, List.setIfInBounds_toArray, List.set_cons_zero, List.set_cons_succ, List.toList_toArray])
                refine wpAnyH_done (by kernel_rfl) ?_ _
                go_wp2_with fail
                go_meet
                exact ⟨a7, c7, (⟨0, 0, 0, 0, 0, 0, 0, [], [], []⟩, (a5, n5, c5), (none, 0, 0)), HP7, HX7s⟩
              refine AllReadyH.cons (o := { dst := some 53, op := Op.buildSlice 41 1 #[(0, Operand.tmp 52)], type := 41, pos := "ref.go:242", after := #[{ on := 21, ground := Ground.data }], guard := none }) rfl (fun K hK => ?_) AllReadyH.nil
              go_simp
              refine hK.out _ _ (HS.out _ (HX5a.out _)) (fun hH6 => ?_)
              clear hK K
              (try simp only [Act.put, List.setIfInBounds_toArray, List.set_cons_zero, List.set_cons_succ, List.toList_toArray])
              refine wpAnyH_ready (rs := [1]) (by kernel_rfl) (by simp) ?_
              refine AllReadyH.cons (o := { dst := some 32, op := Op.load 41 (Operand.tmp 31), type := 41, pos := "ref.go:242", after := #[{ on := 0, ground := Ground.data }], guard := none }) rfl (fun K hK => ?_) AllReadyH.nil
              go_simp
              refine hK.out _ _ (by assumption) (fun hH1 => ?_)
              clear hK K
              (try simp only [Act.put, List.setIfInBounds_toArray, List.set_cons_zero, List.set_cons_succ, List.toList_toArray])
              refine wpAnyH_ready (rs := [23]) (by kernel_rfl) (by simp) ?_
              refine AllReadyH.cons (o := { dst := some 54, op := Op.call { callee := Callee.builtin Builtin.append, args := #[Operand.tmp 32, Operand.tmp 53], argTypes := #[41, 41] }, type := 41, pos := "ref.go:242", after := #[{ on := 1, ground := Ground.data }, { on := 22, ground := Ground.data }, { on := 18, ground := Ground.chain }], guard := none }) rfl (fun K hK => ?_) AllReadyH.nil
              obtain ⟨a7, c7, w7, hrun7, HP7, HX7, HX7s, k1, k2⟩ := HAPP.out w5 a5 n5 c5 HO5.out HB5.out
              refine step_app_run rfl (.tmp 32) (.tmp 53) 41 rfl _ _ (by simp [Act.eval, Act.put]) (by simp [Act.eval, Act.put]) _ _ hrun7 ?_
              clear hrun7
              refine hK.out _ _ (HS.out _ HX7.out) (fun hH7 => ?_)
              clear hK K
              (try simp only [Act.put, List.setIfInBounds_toArray, List.set_cons_zero, List.set_cons_succ, List.toList_toArray])
              refine wpAnyH_take (i := 24) (oi := { dst := some 55, op := Op.fieldAddr 43 (Operand.tmp 4) 0, type := 0, pos := "ref.go:242", after := #[{ on := 0, ground := Ground.phase }, { on := 1, ground := Ground.phase }, { on := 2, ground := Ground.phase }, { on := 3, ground := Ground.phase }, { on := 4, ground := Ground.phase }, { on := 5, ground := Ground.phase }, { on := 6, ground := Ground.phase }, { on := 7, ground := Ground.phase }, { on := 8, ground := Ground.phase }, { on := 9, ground := Ground.phase }, { on := 10, ground := Ground.phase }, { on := 11, ground := Ground.phase }, { on := 12, ground := Ground.phase }, { on := 13, ground := Ground.phase }, { on := 14, ground := Ground.phase }, { on := 15, ground := Ground.phase }, { on := 16, ground := Ground.phase }, { on := 17, ground := Ground.phase }, { on := 18, ground := Ground.phase }, { on := 19, ground := Ground.phase }, { on := 20, ground := Ground.phase }, { on := 21, ground := Ground.phase }, { on := 22, ground := Ground.phase }, { on := 23, ground := Ground.phase }], guard := none }) (v := (.pointer (some ⟨w.heap.size + 1, 0, none⟩))) rfl (by kernel_rfl) (by kernel_rfl) (by kernel_rfl) (fun _ _ _ h => h) (Or.inl ⟨by rfl, ?_⟩) (by assumption) ?_
              · intro wz hSw
                (try dsimp only at hSw)
                obtain ⟨s1, s2, s3, s4, s5, s6, s7, s8⟩ := hSw
                go_simp
              (try simp only [Act.put, List.setIfInBounds_toArray, List.set_cons_zero, List.set_cons_succ, List.toList_toArray])
              refine wpAnyH_ready (rs := [25]) (by kernel_rfl) (by simp) ?_
              refine AllReadyH.cons (o := { dst := none, op := Op.store 41 (Operand.tmp 55) (Operand.tmp 54), type := 0, pos := "ref.go:242", after := #[{ on := 24, ground := Ground.data }, { on := 23, ground := Ground.data }, { on := 23, ground := Ground.chain }, { on := 0, ground := Ground.phase }, { on := 1, ground := Ground.phase }, { on := 2, ground := Ground.phase }, { on := 3, ground := Ground.phase }, { on := 4, ground := Ground.phase }, { on := 5, ground := Ground.phase }, { on := 6, ground := Ground.phase }, { on := 7, ground := Ground.phase }, { on := 8, ground := Ground.phase }, { on := 9, ground := Ground.phase }, { on := 10, ground := Ground.phase }, { on := 11, ground := Ground.phase }, { on := 12, ground := Ground.phase }, { on := 13, ground := Ground.phase }, { on := 14, ground := Ground.phase }, { on := 15, ground := Ground.phase }, { on := 16, ground := Ground.phase }, { on := 17, ground := Ground.phase }, { on := 18, ground := Ground.phase }, { on := 19, ground := Ground.phase }, { on := 20, ground := Ground.phase }, { on := 21, ground := Ground.phase }, { on := 22, ground := Ground.phase }, { on := 23, ground := Ground.phase }], guard := none }) rfl (fun K hK => ?_) AllReadyH.nil
              go_simp
              refine hK.out _ _ (HS.out _ HX7s.out) (fun hH8 => ?_)
              clear hK K
              (try simp only [Act.put, List.setIfInBounds_toArray, List.set_cons_zero, List.set_cons_succ, List.toList_toArray])
              refine wpAnyH_done (by kernel_rfl) ?_ _
              go_wp2_with fail
              go_meet
              exact ⟨a7, c7, (⟨0, 0, 0, 0, 0, 0, 0, [], [], []⟩, (a5, n5, c5), (none, 0, 0)), HP7, HX7s⟩
            refine AllReadyH.cons (o := { dst := some 49, op := Op.call { callee := Callee.value (Operand.func 42), args := #[Operand.tmp 48], argTypes := #[37] }, type := 37, pos := "ref.go:242", after := #[{ on := 17, ground := Ground.data }], guard := none }) rfl (fun K hK => ?_) AllReadyH.nil
            go_simp
            (go_at_call 42; refine (HCLN.out).mono ?_; rintro r w5 ⟨a5, n5, c5, rfl, ho5, hb5⟩)
            have HO5 : Hid (Own w5 w1.heap.size (a5, n5, c5) data) := Lib.hid ho5
            have HB5 : Hid (Below w1.heap.size w1 w5) := Lib.hid ⟨hb5.os, hb5.tape, hb5.output, hb5.size, hb5.block⟩
            have HX5 := Lib.hid (row_below HBX.out HB5.out)
            have HX5a := Lib.hid (fun o => (heap_alloc_old w5 o (row_lt HX5.out)).trans HX5.out)
            have g5 := Below.keeps HB5.out _ _ hgc
            have g5a := fun o => Keeps.alloc w5 o _ _ g5
            clear ho5 hb5
            (try go_wp2_with fail)
            refine hK.out _ _ (HS.out _ HX5.out) (fun hH5 => ?_)
            clear hK K
            (try simp only [Act.put, List.setIfInBounds_toArray, List.set_cons_zero, List.set_cons_succ, List.toList_toArray])
            refine wpAnyH_ready (rs := [1, 3]) (by kernel_rfl) (by simp) ?_
            refine AllReadyH.cons (o := { dst := some 32, op := Op.load 41 (Operand.tmp 31), type := 41, pos := "ref.go:242", after := #[{ on := 0, ground := Ground.data }], guard := none }) rfl (fun K hK => ?_) ?_
            · skip
              go_simp
              refine hK.out _ _ (by assumption) (fun hH1 => ?_)
              clear hK K
              (try simp only [Act.put, List.setIfInBounds_toArray, List.set_cons_zero, List.set_cons_succ, List.toList_toArray])
              refine wpAnyH_ready (rs := [3]) (by kernel_rfl) (by simp) ?_
              refine AllReadyH.cons (o := { dst := some 34, op := Op.load 41 (Operand.tmp 33), type := 41, pos := "ref.go:242", after := #[{ on := 2, ground := Ground.data }], guard := none }) rfl (fun K hK => ?_) AllReadyH.nil
              go_simp
              refine hK.out _ _ (by assumption) (fun hH3 => ?_)
              clear hK K
              (try simp only [Act.put, List.setIfInBounds_toArray, List.set_cons_zero, List.set_cons_succ, List.toList_toArray])
              refine wpAnyH_take (i := 4) (oi := { dst := some 35, op := Op.call { callee := Callee.builtin Builtin.len, args := #[Operand.tmp 34], argTypes := #[41] }, type := 3, pos := "ref.go:242", after := #[{ on := 3, ground := Ground.data }], guard := none }) (v := (.int .i64 (nn : Int))) rfl (by kernel_rfl) (by kernel_rfl) (by kernel_rfl) (fun _ _ _ h => h) (Or.inl ⟨by rfl, ?_⟩) (by assumption) ?_
              · intro wz hSw
                (try dsimp only at hSw)
                obtain ⟨s1, s2, s3, s4, s5, s6, s7, s8⟩ := hSw
                go_simp
              (try simp only [Act.put, List.setIfInBounds_toArray, List.set_cons_zero, List.set_cons_succ, List.toList_toArray])
              refine wpAnyH_take (i := 5) (oi := { dst := some 36, op := Op.binOp BinOp.add 3 (Operand.tmp 35) (Operand.const (Value.int IntKind.i64 1)) 3, type := 3, pos := "ref.go:242", after := #[{ on := 4, ground := Ground.data }], guard := none }) (v := (.int .i64 ((nn : Int) + 1))) rfl (by kernel_rfl) (by kernel_rfl) (by kernel_rfl) (fun _ _ _ h => h) (Or.inl ⟨by rfl, ?_⟩) (by assumption) ?_
              · intro wz hSw
                (try dsimp only at hSw)
                obtain ⟨s1, s2, s3, s4, s5, s6, s7, s8⟩ := hSw
                (go_simp; exact HWR.out)
              (try simp only [Act.put, List.setIfInBounds_toArray, List.set_cons_zero, List.set_cons_succ, List.toList_toArray])
              refine wpAnyH_take (i := 21) (oi := { dst := some 52, op := Op.build 75 #[(0, Operand.tmp 36), (1, Operand.tmp 38), (2, Operand.tmp 40), (3, Operand.tmp 42), (4, Operand.tmp 44), (5, Operand.tmp 46), (6, Operand.tmp 49), (7, Operand.tmp 51)], type := 75, pos := "ref.go:242", after := #[{ on := 5, ground := Ground.data }, { on := 7, ground := Ground.data }, { on := 9, ground := Ground.data }, { on := 11, ground := Ground.data }, { on := 13, ground := Ground.data }, { on := 15, ground := Ground.data }, { on := 18, ground := Ground.data }, { on := 20, ground := Ground.data }], guard := none }) (v := (.agg #[.int .i64 ((nn : Int) + 1), .int .i64 kind, .int .i64 mode, .int .i64 uid, .int .i64 gid, .int .i64 sec, .int .i64 nano, .slice a5 n5 c5, .string ⟨target.toArray⟩, .slice none 0 0])) rfl (by kernel_rfl) (by kernel_rfl) (by kernel_rfl) (fun _ _ _ h => h) (Or.inl ⟨by rfl, ?_⟩) (by assumption) ?_
              · intro wz hSw
                (try dsimp only at hSw)
                obtain ⟨s1, s2, s3, s4, s5, s6, s7, s8⟩ := hSw
                go_simp
              (try simp only [Act.put, List.setIfInBounds_toArray, List.set_cons_zero, List.set_cons_succ, List.toList_toArray])
              refine wpAnyH_ready (rs := [22]) (by kernel_rfl) (by simp) ?_
              refine AllReadyH.cons (o := { dst := some 53, op := Op.buildSlice 41 1 #[(0, Operand.tmp 52)], type := 41, pos := "ref.go:242", after := #[{ on := 21, ground := Ground.data }], guard := none }) rfl (fun K hK => ?_) AllReadyH.nil
              go_simp
              refine hK.out _ _ (HS.out _ (HX5a.out _)) (fun hH6 => ?_)
              clear hK K
              (try simp only [Act.put, List.setIfInBounds_toArray, List.set_cons_zero, List.set_cons_succ, List.toList_toArray])
              refine wpAnyH_ready (rs := [23]) (by kernel_rfl) (by simp) ?_
              refine AllReadyH.cons (o := { dst := some 54, op := Op.call { callee := Callee.builtin Builtin.append, args := #[Operand.tmp 32, Operand.tmp 53], argTypes := #[41, 41] }, type := 41, pos := "ref.go:242", after := #[{ on := 1, ground := Ground.data }, { on := 22, ground := Ground.data }, { on := 18, ground := Ground.chain }], guard := none }) rfl (fun K hK => ?_) AllReadyH.nil
              obtain ⟨a7, c7, w7, hrun7, HP7, HX7, HX7s, k1, k2⟩ := HAPP.out w5 a5 n5 c5 HO5.out HB5.out
              refine step_app_run rfl (.tmp 32) (.tmp 53) 41 rfl _ _ (by simp [Act.eval, Act.put]) (by simp [Act.eval, Act.put]) _ _ hrun7 ?_
              clear hrun7
              refine hK.out _ _ (HS.out _ HX7.out) (fun hH7 => ?_)
              clear hK K
              (try simp only [Act.put, List.setIfInBounds_toArray, List.set_cons_zero, List.set_cons_succ, List.toList_toArray])
              refine wpAnyH_take (i := 24) (oi := { dst := some 55, op := Op.fieldAddr 43 (Operand.tmp 4) 0, type := 0, pos := "ref.go:242", after := #[{ on := 0, ground := Ground.phase }, { on := 1, ground := Ground.phase }, { on := 2, ground := Ground.phase }, { on := 3, ground := Ground.phase }, { on := 4, ground := Ground.phase }, { on := 5, ground := Ground.phase }, { on := 6, ground := Ground.phase }, { on := 7, ground := Ground.phase }, { on := 8, ground := Ground.phase }, { on := 9, ground := Ground.phase }, { on := 10, ground := Ground.phase }, { on := 11, ground := Ground.phase }, { on := 12, ground := Ground.phase }, { on := 13, ground := Ground.phase }, { on := 14, ground := Ground.phase }, { on := 15, ground := Ground.phase }, { on := 16, ground := Ground.phase }, { on := 17, ground := Ground.phase }, { on := 18, ground := Ground.phase }, { on := 19, ground := Ground.phase }, { on := 20, ground := Ground.phase }, { on := 21, ground := Ground.phase }, { on := 22, ground := Ground.phase }, { on := 23, ground := Ground.phase }], guard := none }) (v := (.pointer (some ⟨w.heap.size + 1, 0, none⟩))) rfl (by kernel_rfl) (by kernel_rfl) (by kernel_rfl) (fun _ _ _ h => h) (Or.inl ⟨by rfl, ?_⟩) (by assumption) ?_
              · intro wz hSw
                (try dsimp only at hSw)
                obtain ⟨s1, s2, s3, s4, s5, s6, s7, s8⟩ := hSw
                go_simp
              (try simp only [Act.put, List.setIfInBounds_toArray, List.set_cons_zero, List.set_cons_succ, List.toList_toArray])
              refine wpAnyH_ready (rs := [25]) (by kernel_rfl) (by simp) ?_
              refine AllReadyH.cons (o := { dst := none, op := Op.store 41 (Operand.tmp 55) (Operand.tmp 54), type := 0, pos := "ref.go:242", after := #[{ on := 24, ground := Ground.data }, { on := 23, ground := Ground.data }, { on := 23, ground := Ground.chain }, { on := 0, ground := Ground.phase }, { on := 1, ground := Ground.phase }, { on := 2, ground := Ground.phase }, { on := 3, ground := Ground.phase }, { on := 4, ground := Ground.phase }, { on := 5, ground := Ground.phase }, { on := 6, ground := Ground.phase }, { on := 7, ground := Ground.phase }, { on := 8, ground := Ground.phase }, { on := 9, ground := Ground.phase }, { on := 10, ground := Ground.phase }, { on := 11, ground := Ground.phase }, { on := 12, ground := Ground.phase }, { on := 13, ground := Ground.phase }, { on := 14, ground := Ground.phase }, { on := 15, ground := Ground.phase }, { on := 16, ground := Ground.phase }, { on := 17, ground := Ground.phase }, { on := 18, ground := Ground.phase }, { on := 19, ground := Ground.phase }, { on := 20, ground := Ground.phase }, { on := 21, ground := Ground.phase }, { on := 22, ground := Ground.phase }, { on := 23, ground := Ground.phase }], guard := none }) rfl (fun K hK => ?_) AllReadyH.nil
              go_simp
              refine hK.out _ _ (HS.out _ HX7s.out) (fun hH8 => ?_)
              clear hK K
              (try simp only [Act.put, List.setIfInBounds_toArray, List.set_cons_zero, List.set_cons_succ, List.toList_toArray])
              refine wpAnyH_done (by kernel_rfl) ?_ _
              go_wp2_with fail
              go_meet
              exact ⟨a7, c7, (⟨0, 0, 0, 0, 0, 0, 0, [], [], []⟩, (a5, n5, c5), (none, 0, 0)), HP7, HX7s⟩
            refine AllReadyH.cons (o := { dst := some 34, op := Op.load 41 (Operand.tmp 33), type := 41, pos := "ref.go:242", after := #[{ on := 2, ground := Ground.data }], guard := none }) rfl (fun K hK => ?_) AllReadyH.nil
            go_simp
            refine hK.out _ _ (by assumption) (fun hH3 => ?_)
            clear hK K
            (try simp only [Act.put, List.setIfInBounds_toArray, List.set_cons_zero, List.set_cons_succ, List.toList_toArray])
            refine wpAnyH_take (i := 4) (oi := { dst := some 35, op := Op.call { callee := Callee.builtin Builtin.len, args := #[Operand.tmp 34], argTypes := #[41] }, type := 3, pos := "ref.go:242", after := #[{ on := 3, ground := Ground.data }], guard := none }) (v := (.int .i64 (nn : Int))) rfl (by kernel_rfl) (by kernel_rfl) (by kernel_rfl) (fun _ _ _ h => h) (Or.inl ⟨by rfl, ?_⟩) (by assumption) ?_
            · intro wz hSw
              (try dsimp only at hSw)
              obtain ⟨s1, s2, s3, s4, s5, s6, s7, s8⟩ := hSw
              go_simp
            (try simp only [Act.put, List.setIfInBounds_toArray, List.set_cons_zero, List.set_cons_succ, List.toList_toArray])
            refine wpAnyH_take (i := 5) (oi := { dst := some 36, op := Op.binOp BinOp.add 3 (Operand.tmp 35) (Operand.const (Value.int IntKind.i64 1)) 3, type := 3, pos := "ref.go:242", after := #[{ on := 4, ground := Ground.data }], guard := none }) (v := (.int .i64 ((nn : Int) + 1))) rfl (by kernel_rfl) (by kernel_rfl) (by kernel_rfl) (fun _ _ _ h => h) (Or.inl ⟨by rfl, ?_⟩) (by assumption) ?_
            · intro wz hSw
              (try dsimp only at hSw)
              obtain ⟨s1, s2, s3, s4, s5, s6, s7, s8⟩ := hSw
              (go_simp; exact HWR.out)
            (try simp only [Act.put, List.setIfInBounds_toArray, List.set_cons_zero, List.set_cons_succ, List.toList_toArray])
            refine wpAnyH_take (i := 21) (oi := { dst := some 52, op := Op.build 75 #[(0, Operand.tmp 36), (1, Operand.tmp 38), (2, Operand.tmp 40), (3, Operand.tmp 42), (4, Operand.tmp 44), (5, Operand.tmp 46), (6, Operand.tmp 49), (7, Operand.tmp 51)], type := 75, pos := "ref.go:242", after := #[{ on := 5, ground := Ground.data }, { on := 7, ground := Ground.data }, { on := 9, ground := Ground.data }, { on := 11, ground := Ground.data }, { on := 13, ground := Ground.data }, { on := 15, ground := Ground.data }, { on := 18, ground := Ground.data }, { on := 20, ground := Ground.data }], guard := none }) (v := (.agg #[.int .i64 ((nn : Int) + 1), .int .i64 kind, .int .i64 mode, .int .i64 uid, .int .i64 gid, .int .i64 sec, .int .i64 nano, .slice a5 n5 c5, .string ⟨target.toArray⟩, .slice none 0 0])) rfl (by kernel_rfl) (by kernel_rfl) (by kernel_rfl) (fun _ _ _ h => h) (Or.inl ⟨by rfl, ?_⟩) (by assumption) ?_
            · intro wz hSw
              (try dsimp only at hSw)
              obtain ⟨s1, s2, s3, s4, s5, s6, s7, s8⟩ := hSw
              go_simp
            (try simp only [Act.put, List.setIfInBounds_toArray, List.set_cons_zero, List.set_cons_succ, List.toList_toArray])
            refine wpAnyH_ready (rs := [1, 22]) (by kernel_rfl) (by simp) ?_
            refine AllReadyH.cons (o := { dst := some 32, op := Op.load 41 (Operand.tmp 31), type := 41, pos := "ref.go:242", after := #[{ on := 0, ground := Ground.data }], guard := none }) rfl (fun K hK => ?_) ?_
            · skip
              go_simp
              refine hK.out _ _ (by assumption) (fun hH1 => ?_)
              clear hK K
              (try simp only [Act.put, List.setIfInBounds_toArray, List.set_cons_zero, List.set_cons_succ, List.toList_toArray])
              refine wpAnyH_ready (rs := [22]) (by kernel_rfl) (by simp) ?_
              refine AllReadyH.cons (o := { dst := some 53, op := Op.buildSlice 41 1 #[(0, Operand.tmp 52)], type := 41, pos := "ref.go:242", after := #[{ on := 21, ground := Ground.data }], guard := none }) rfl (fun K hK => ?_) AllReadyH.nil
              go_simp
              refine hK.out _ _ (HS.out _ (HX5a.out _)) (fun hH6 => ?_)
              clear hK K
              (try simp only [Act.put, List.setIfInBounds_toArray, List.set_cons_zero, List.set_cons_succ, List.toList_toArray])
              refine wpAnyH_ready (rs := [23]) (by kernel_rfl) (by simp) ?_
              refine AllReadyH.cons (o := { dst := some 54, op := Op.call { callee := Callee.builtin Builtin.append, args := #[Operand.tmp 32, Operand.tmp 53], argTypes := #[41, 41] }, type := 41, pos := "ref.go:242", after := #[{ on := 1, ground := Ground.data }, { on := 22, ground := Ground.data }, { on := 18, ground := Ground.chain }], guard := none }) rfl (fun K hK => ?_) AllReadyH.nil
              obtain ⟨a7, c7, w7, hrun7, HP7, HX7, HX7s, k1, k2⟩ := HAPP.out w5 a5 n5 c5 HO5.out HB5.out
              refine step_app_run rfl (.tmp 32) (.tmp 53) 41 rfl _ _ (by simp [Act.eval, Act.put]) (by simp [Act.eval, Act.put]) _ _ hrun7 ?_
              clear hrun7
              refine hK.out _ _ (HS.out _ HX7.out) (fun hH7 => ?_)
              clear hK K
              (try simp only [Act.put, List.setIfInBounds_toArray, List.set_cons_zero, List.set_cons_succ, List.toList_toArray])
              refine wpAnyH_take (i := 24) (oi := { dst := some 55, op := Op.fieldAddr 43 (Operand.tmp 4) 0, type := 0, pos := "ref.go:242", after := #[{ on := 0, ground := Ground.phase }, { on := 1, ground := Ground.phase }, { on := 2, ground := Ground.phase }, { on := 3, ground := Ground.phase }, { on := 4, ground := Ground.phase }, { on := 5, ground := Ground.phase }, { on := 6, ground := Ground.phase }, { on := 7, ground := Ground.phase }, { on := 8, ground := Ground.phase }, { on := 9, ground := Ground.phase }, { on := 10, ground := Ground.phase }, { on := 11, ground := Ground.phase }, { on := 12, ground := Ground.phase }, { on := 13, ground := Ground.phase }, { on := 14, ground := Ground.phase }, { on := 15, ground := Ground.phase }, { on := 16, ground := Ground.phase }, { on := 17, ground := Ground.phase }, { on := 18, ground := Ground.phase }, { on := 19, ground := Ground.phase }, { on := 20, ground := Ground.phase }, { on := 21, ground := Ground.phase }, { on := 22, ground := Ground.phase }, { on := 23, ground := Ground.phase }], guard := none }) (v := (.pointer (some ⟨w.heap.size + 1, 0, none⟩))) rfl (by kernel_rfl) (by kernel_rfl) (by kernel_rfl) (fun _ _ _ h => h) (Or.inl ⟨by rfl, ?_⟩) (by assumption) ?_
              · intro wz hSw
                (try dsimp only at hSw)
                obtain ⟨s1, s2, s3, s4, s5, s6, s7, s8⟩ := hSw
                go_simp
              (try simp only [Act.put, List.setIfInBounds_toArray, List.set_cons_zero, List.set_cons_succ, List.toList_toArray])
              refine wpAnyH_ready (rs := [25]) (by kernel_rfl) (by simp) ?_
              refine AllReadyH.cons (o := { dst := none, op := Op.store 41 (Operand.tmp 55) (Operand.tmp 54), type := 0, pos := "ref.go:242", after := #[{ on := 24, ground := Ground.data }, { on := 23, ground := Ground.data }, { on := 23, ground := Ground.chain }, { on := 0, ground := Ground.phase }, { on := 1, ground := Ground.phase }, { on := 2, ground := Ground.phase }, { on := 3, ground := Ground.phase }, { on := 4, ground := Ground.phase }, { on := 5, ground := Ground.phase }, { on := 6, ground := Ground.phase }, { on := 7, ground := Ground.phase }, { on := 8, ground := Ground.phase }, { on := 9, ground := Ground.phase }, { on := 10, ground := Ground.phase }, { on := 11, ground := Ground.phase }, { on := 12, ground := Ground.phase }, { on := 13, ground := Ground.phase }, { on := 14, ground := Ground.phase }, { on := 15, ground := Ground.phase }, { on := 16, ground := Ground.phase }, { on := 17, ground := Ground.phase }, { on := 18, ground := Ground.phase }, { on := 19, ground := Ground.phase }, { on := 20, ground := Ground.phase }, { on := 21, ground := Ground.phase }, { on := 22, ground := Ground.phase }, { on := 23, ground := Ground.phase }], guard := none }) rfl (fun K hK => ?_) AllReadyH.nil
              go_simp
              refine hK.out _ _ (HS.out _ HX7s.out) (fun hH8 => ?_)
              clear hK K
              (try simp only [Act.put, List.setIfInBounds_toArray, List.set_cons_zero, List.set_cons_succ, List.toList_toArray])
              refine wpAnyH_done (by kernel_rfl) ?_ _
              go_wp2_with fail
              go_meet
              exact ⟨a7, c7, (⟨0, 0, 0, 0, 0, 0, 0, [], [], []⟩, (a5, n5, c5), (none, 0, 0)), HP7, HX7s⟩
            refine AllReadyH.cons (o := { dst := some 53, op := Op.buildSlice 41 1 #[(0, Operand.tmp 52)], type := 41, pos := "ref.go:242", after := #[{ on := 21, ground := Ground.data }], guard := none }) rfl (fun K hK => ?_) AllReadyH.nil
            go_simp
            refine hK.out _ _ (HS.out _ (HX5a.out _)) (fun hH6 => ?_)
            clear hK K
            (try simp only [Act.put, List.setIfInBounds_toArray, List.set_cons_zero, List.set_cons_succ, List.toList_toArray])
            refine wpAnyH_ready (rs := [1]) (by kernel_rfl) (by simp) ?_
            refine AllReadyH.cons (o := { dst := some 32, op := Op.load 41 (Operand.tmp 31), type := 41, pos := "ref.go:242", after := #[{ on := 0, ground := Ground.data }], guard := none }) rfl (fun K hK => ?_) AllReadyH.nil
            go_simp
            refine hK.out _ _ (by assumption) (fun hH1 => ?_)
            clear hK K
            (try simp only [Act.put, List.setIfInBounds_toArray, List.set_cons_zero, List.set_cons_succ, List.toList_toArray])
            refine wpAnyH_ready (rs := [23]) (by kernel_rfl) (by simp) ?_
            refine AllReadyH.cons (o := { dst := some 54, op := Op.call { callee := Callee.builtin Builtin.append, args := #[Operand.tmp 32, Operand.tmp 53], argTypes := #[41, 41] }, type := 41, pos := "ref.go:242", after := #[{ on := 1, ground := Ground.data }, { on := 22, ground := Ground.data }, { on := 18, ground := Ground.chain }], guard := none }) rfl (fun K hK => ?_) AllReadyH.nil
            obtain ⟨a7, c7, w7, hrun7, HP7, HX7, HX7s, k1, k2⟩ := HAPP.out w5 a5 n5 c5 HO5.out HB5.out
            refine step_app_run rfl (.tmp 32) (.tmp 53) 41 rfl _ _ (by simp [Act.eval, Act.put]) (by simp [Act.eval, Act.put]) _ _ hrun7 ?_
            clear hrun7
            refine hK.out _ _ (HS.out _ HX7.out) (fun hH7 => ?_)
            clear hK K
            (try simp only [Act.put, List.setIfInBounds_toArray, List.set_cons_zero, List.set_cons_succ, List.toList_toArray])
            refine wpAnyH_take (i := 24) (oi := { dst := some 55, op := Op.fieldAddr 43 (Operand.tmp 4) 0, type := 0, pos := "ref.go:242", after := #[{ on := 0, ground := Ground.phase }, { on := 1, ground := Ground.phase }, { on := 2, ground := Ground.phase }, { on := 3, ground := Ground.phase }, { on := 4, ground := Ground.phase }, { on := 5, ground := Ground.phase }, { on := 6, ground := Ground.phase }, { on := 7, ground := Ground.phase }, { on := 8, ground := Ground.phase }, { on := 9, ground := Ground.phase }, { on := 10, ground := Ground.phase }, { on := 11, ground := Ground.phase }, { on := 12, ground := Ground.phase }, { on := 13, ground := Ground.phase }, { on := 14, ground := Ground.phase }, { on := 15, ground := Ground.phase }, { on := 16, ground := Ground.phase }, { on := 17, ground := Ground.phase }, { on := 18, ground := Ground.phase }, { on := 19, ground := Ground.phase }, { on := 20, ground := Ground.phase }, { on := 21, ground := Ground.phase }, { on := 22, ground := Ground.phase }, { on := 23, ground := Ground.phase }], guard := none }) (v := (.pointer (some ⟨w.heap.size + 1, 0, none⟩))) rfl (by kernel_rfl) (by kernel_rfl) (by kernel_rfl) (fun _ _ _ h => h) (Or.inl ⟨by rfl, ?_⟩) (by assumption) ?_
            · intro wz hSw
              (try dsimp only at hSw)
              obtain ⟨s1, s2, s3, s4, s5, s6, s7, s8⟩ := hSw
              go_simp
            (try simp only [Act.put, List.setIfInBounds_toArray, List.set_cons_zero, List.set_cons_succ, List.toList_toArray])
            refine wpAnyH_ready (rs := [25]) (by kernel_rfl) (by simp) ?_
            refine AllReadyH.cons (o := { dst := none, op := Op.store 41 (Operand.tmp 55) (Operand.tmp 54), type := 0, pos := "ref.go:242", after := #[{ on := 24, ground := Ground.data }, { on := 23, ground := Ground.data }, { on := 23, ground := Ground.chain }, { on := 0, ground := Ground.phase }, { on := 1, ground := Ground.phase }, { on := 2, ground := Ground.phase }, { on := 3, ground := Ground.phase }, { on := 4, ground := Ground.phase }, { on := 5, ground := Ground.phase }, { on := 6, ground := Ground.phase }, { on := 7, ground := Ground.phase }, { on := 8, ground := Ground.phase }, { on := 9, ground := Ground.phase }, { on := 10, ground := Ground.phase }, { on := 11, ground := Ground.phase }, { on := 12, ground := Ground.phase }, { on := 13, ground := Ground.phase }, { on := 14, ground := Ground.phase }, { on := 15, ground := Ground.phase }, { on := 16, ground := Ground.phase }, { on := 17, ground := Ground.phase }, { on := 18, ground := Ground.phase }, { on := 19, ground := Ground.phase }, { on := 20, ground := Ground.phase }, { on := 21, ground := Ground.phase }, { on := 22, ground := Ground.phase }, { on := 23, ground := Ground.phase }], guard := none }) rfl (fun K hK => ?_) AllReadyH.nil
            go_simp
            refine hK.out _ _ (HS.out _ HX7s.out) (fun hH8 => ?_)
            clear hK K
            (try simp only [Act.put, List.setIfInBounds_toArray, List.set_cons_zero, List.set_cons_succ, List.toList_toArray])
            refine wpAnyH_done (by kernel_rfl) ?_ _
            go_wp2_with fail
            go_meet
            exact ⟨a7, c7, (⟨0, 0, 0, 0, 0, 0, 0, [], [], []⟩, (a5, n5, c5), (none, 0, 0)), HP7, HX7s⟩
            -- @end
          obtain ⟨a7, c7, y, HP7, HX7⟩ := hcut
          obtain ⟨w7, hw7⟩ : ∃ w7, w7 = wc := ⟨_, rfl⟩
          subst hw7
          have g7 : w7.cell? ⟨w.heap.size + 1, 0, none⟩ = some (.slice a7 (nn + 1) c7) := by rw [row_cell HP7.out.pls.row]; rfl
          have i7 : w7.cell? ⟨w.heap.size + 1 + 1, k, none⟩ = some (.int .i64 0) := HP7.out.cell (by rw [← hpl]; exact idsOf_next (by omega))
          have f7 : w7.frozen? ⟨w.heap.size + 1 + 1, k, none⟩ = false := HP7.out.ids.froz k
          have HP8 := Lib.hid (HP7.out.put k ((nn : Int) + 1))
          have HIS : Hid ((idsOf pi n).set k ((nn : Int) + 1) = idsOf (pi ++ [(path, (nn : Int) + 1)]) n) := Lib.hid (by rw [← hpl]; exact idsOf_set (by omega) path _)
          rw [HIS.out] at HP8
          have HX8 := Lib.hid (row_grown HX7.out (setCell_grown w7 (w.heap.size + 2) k (.int .i64 ((nn : Int) + 1))) (by simp; omega))
          have HGG : Hid (gOf (NS ++ [(mkNode ((nn : Int) + 1) ⟨path, kind, mode, uid, gid, sec, nano, data, target, []⟩, y.2)]) = nodes1 (gOf NS) ⟨path, kind, mode, uid, gid, sec, nano, data, target, []⟩) := Lib.hid (by unfold nodes1; rw [if_pos rfl, HGN.out]; simp [gOf])
          have HNZ : Hid ((nn : Int) + 1 ≠ 0) := Lib.hid (by omega)
          go_wp2_with fail
          go_meet
          exact ⟨a7, nn + 1, c7, _, HP8, HGG, HNZ, HX8⟩
        · skip
          -- @done
          have hpi : peer.isEmpty = false := by simpa using hpe
          have HIV : Hid (ID = (pi.lookup peer).getD 0) := Lib.hid (by have := HIDD.out; rwa [if_neg hpe] at this)
          have HGG : Hid (gOf NS = nodes1 (gOf NS) ⟨path, kind, mode, uid, gid, sec, nano, data, target, peer⟩) := Lib.hid (by unfold nodes1; rw [if_neg hpe])
          clear hpe
          go_wp2_with fail
          all_goals first | exact absurd ‹peer.isEmpty = true› (by simp [hpi]) | skip
          have HP2 : Hid (PsR w w1 na nn nc NS ((idsOf pi n).set k 0)) := Lib.hid (by
            have h1 : (idsOf pi n).set k 0 = idsOf pi n := by
              have := idsOf_next (pi := pi) (n := n) (by omega)
              rw [hpl] at this
              exact set_same this
            rw [h1]; exact HP1.out)
          go_loopw [8] (fun jv wx => ∃ (j : Nat) (v : Int), jv = .int .i64 j ∧ j ≤ k ∧ Hid (v = ((pi.take j).lookup peer).getD 0) ∧ Hid (PsR w wx na nn nc NS ((idsOf pi n).set k v)) ∧ Hid (wx.heap[lx]? = some (.cells #[.string ⟨path.toArray⟩, .int .i64 kind, .int .i64 mode, .int .i64 uid, .int .i64 gid, .int .i64 sec, .int .i64 nano, .slice da dn dc, .string ⟨target.toArray⟩, .string ⟨peer.toArray⟩] 51))) (fun jv _ => k - (intOf jv).toNat)
          case atStart => exact ⟨0, 0, rfl, Nat.zero_le _, Lib.hid (by simp), HP2, HBX⟩
          case round =>
            clear HP2 HBX HP1
            obtain ⟨j, v, rfl, hj, hv, hM, hX⟩ := hrel
            by_cases hjk : j < k
            · obtain ⟨q, hq⟩ := get_some (S := pi) (k := j) (by omega)
              obtain ⟨y, hy⟩ := get_some (S := T) (k := j) (by have := HL.out; omega)
              have hyq : y.1.path = q.1 := by
                have h1 := congrArg (fun l => l[j]?) hI.out.path
                simp only [List.getElem?_map, hq, Option.map_some, List.getElem?_take, if_pos hjk, hy] at h1
                exact (Option.some.inj h1).symm
              obtain ⟨b', off', hb', hr'⟩ := (HT.out.below hM.out.bel).at j y hy
              simp only [Option.some.injEq, Addr.mk.injEq, and_true] at hb'
              obtain ⟨rfl, rfl⟩ := hb'
              have c0 : wr.cell? ⟨b, off + j * 10, none⟩ = some (.string ⟨q.1.toArray⟩) := by rw [← hyq]; simpa using range_cell hr' 0 rfl
              have c9 : wr.cell? ⟨lx, 9, none⟩ = some (.string ⟨peer.toArray⟩) := by rw [row_cell hX.out]; rfl
              have hkl : k < (idsOf pi n).length := by rw [idsOf_len (by omega)]; omega
              have ck : wr.cell? ⟨w.heap.size + 1 + 1, k, none⟩ = some (.int .i64 v) := hM.out.cell (by rw [List.getElem?_set_self hkl])
              have HQ := Lib.hid hq
              have HST := Lib.hid (look_step hq peer)
              have HQV := Lib.hid (hI.out.val q (mem_get hq))
              clear hyq hy hr' hq hkl
              go_upto_region 13 with fail
              go_cut [81] from 67 to 80 (fun u wx => u = .bool (q.1 == peer && v == 0) ∧ Hid (PsR w wx na nn nc NS ((idsOf pi n).set k v)) ∧ Hid (wx.heap[lx]? = some (.cells #[.string ⟨path.toArray⟩, .int .i64 kind, .int .i64 mode, .int .i64 uid, .int .i64 gid, .int .i64 sec, .int .i64 nano, .slice da dn dc, .string ⟨target.toArray⟩, .string ⟨peer.toArray⟩] 51)))
              case first =>
                cases hb1 : (q.1 == peer) with
                | false =>
                  go_quiet (fail)
                  go_wp2_with fail
                  go_meet
                  exact ⟨by rw [hb1]; rfl, Lib.hid (hM.out.below (Below.drewN (Below.refl _ _) _)), Lib.hid (row_below hX.out (Below.drewN (Below.refl _ _) _))⟩
                | true =>
                  cases hb2 : (v == 0) with
                  | false =>
                    go_quiet (fail)
                    go_wp2_with fail
                    go_meet
                    exact ⟨by rw [hb1, hb2]; rfl, Lib.hid (hM.out.below (Below.drewN (Below.refl _ _) _)), Lib.hid (row_below hX.out (Below.drewN (Below.refl _ _) _))⟩
                  | true =>
                    go_quiet (fail)
                    go_wp2_with fail
                    go_meet
                    exact ⟨by rw [hb1, hb2]; rfl, Lib.hid (hM.out.below (Below.drewN (Below.refl _ _) _)), Lib.hid (row_below hX.out (Below.drewN (Below.refl _ _) _))⟩
              obtain ⟨rfl, hM2, hX2⟩ := hcut
              obtain ⟨w4, hw4⟩ : ∃ w4, w4 = wc := ⟨_, rfl⟩
              subst hw4
              have hnx := look_next HQ.out (fun q hq => (hI.out.val q hq).1) hv.out
              have HJ : Hid (w4.cell? ⟨w.heap.size + 1 + 1, j, none⟩ = some (.int .i64 q.2)) := Lib.hid (hM2.out.cell (by rw [List.getElem?_set, if_neg (by omega)]; exact idsOf_get HQ.out))
              have HK : Hid (w4.cell? ⟨w.heap.size + 1 + 1, k, none⟩ = some (.int .i64 v)) := Lib.hid (hM2.out.cell (by rw [List.getElem?_set_self (by rw [idsOf_len (by omega)]; omega)]))
              have HF : Hid (w4.frozen? ⟨w.heap.size + 1 + 1, k, none⟩ = false) := Lib.hid (hM2.out.ids.froz k)
              generalize hbb : (q.1 == peer && v == 0) = bb at *
              have HNX := Lib.hid hnx
              clear hnx hbb c0 c9 ck hM hX HST hv
              cases bb with
              | false =>
                have HV : Hid (v = ((pi.take (j + 1)).lookup peer).getD 0) := Lib.hid (by have := HNX.out; rw [if_neg (by decide)] at this; exact this.symm)
                go_wp2_with fail
                exact ⟨⟨j + 1, v, by go_num, by omega, HV, hM2, hX2⟩, by simp [intOf]; omega⟩
              | true =>
                have HV : Hid (q.2 = ((pi.take (j + 1)).lookup peer).getD 0) := Lib.hid (by have := HNX.out; rw [if_pos rfl] at this; exact this.symm)
                have HM3 := Lib.hid (hM2.out.put k q.2)
                rw [List.set_set] at HM3
                have HX3 := Lib.hid (row_grown hX2.out (setCell_grown w4 (w.heap.size + 2) k (.int .i64 q.2)) (by simp; omega))
                have cj := HJ.out; have ck := HK.out; have cf := HF.out
                go_wp2_with fail
                exact ⟨⟨j + 1, q.2, by go_num, by omega, HV, HM3, HX3⟩, by simp [intOf]; omega⟩
            · obtain rfl : j = k := by omega
              have hvv : v = ID := by
                rw [hv.out, HIV.out, List.take_of_length_le (by omega)]
              subst hvv
              have ck : wr.cell? ⟨w.heap.size + 1 + 1, j, none⟩ = some (.int .i64 v) := hM.out.cell (by rw [List.getElem?_set_self (by rw [idsOf_len (by omega)]; omega)])
              have HM2 : Hid (PsR w wr na nn nc NS (idsOf (pi ++ [(path, v)]) n)) := Lib.hid (by
                have h1 := idsOf_set (pi := pi) (n := n) (by omega) path v
                rw [hpl] at h1
                rw [← h1]; exact hM.out)
              have hrb : wr.cell? ⟨w.heap.size, 0, none⟩ = some (.slice none 0 0) := by rw [row_cell hM.out.rb]; rfl
              have hrf : wr.frozen? ⟨w.heap.size, 0, none⟩ = false := row_froz hM.out.rb 0
              have hrs : (wr.setCell ⟨w.heap.size, 0, none⟩ (.slice none 0 0)).cell? ⟨w.heap.size, 0, none⟩ = some (.slice none 0 0) := by rw [row_cell (setCell_row hM.out.rb (.slice none 0 0))]; rfl
              by_cases hv0 : v = 0
              · have HBD : Hid (¬ Planted true (lOf T)) := Lib.hid (hI.out.bad HLK.out (Or.inl (by rw [HIE.out]; exact hv0)))
                have HBB : Hid (Below w.heap.size w (wr.setCell ⟨w.heap.size, 0, none⟩ (.slice none 0 0))) := Lib.hid (hM.out.bel.setCell (p := ⟨w.heap.size, 0, none⟩) (Nat.le_refl _) _)
                subst hv0
                go_wp2_with fail
                refine bodyPost_ret (v := .tuple #[.agg #[.slice none 0 0], .int .i64 151]) (by simp [results, Try.results25, go_sem, hrs]) rfl ?_
                exact PlantRes.noT 151 (by decide) HBD.out HBB.out
              · have hvb : (v == 0) = false := beq_f hv0
                have HNZ := Lib.hid hv0
                clear hv0
                go_wp2_with fail
                go_meet
                exact ⟨na, nn, nc, NS, HM2, HGG, HNZ, hX⟩
          -- @end
      obtain ⟨na', nn', nc', NS', HP4, HG4, HNZ, HX4⟩ := hcut
      obtain ⟨w4, hw4⟩ : ∃ w4, w4 = wc := ⟨_, rfl⟩
      subst hw4
      clear HP1 HBX HDX HND HR HIDD HGN
      rcases Nat.eq_zero_or_pos k with hk0 | hkpos
      · have hpi2 := hI.out.first HLK.out (by rw [HIE.out]; exact HNZ.out) hk0
        rw [HIE.out, ← HG4.out] at hpi2
        have HPI := Lib.hid hpi2
        clear hpi2
        subst hk0
        go_wp2_with fail
        exact ⟨⟨1, na', nn', nc', NS', _, by omega, by go_num, HP4, HPI⟩, by simp [intOf]; omega⟩
      · have hk0 : ((k : Int) == 0) = false := by rw [beq_eq_false_iff_ne]; omega
        have c0 : w4.cell? ⟨lx, 0, none⟩ = some (.string ⟨path.toArray⟩) := by rw [row_cell HX4.out]; rfl
        have hsz : (⟨path.toArray⟩ : ByteArray).size = path.length := rfl
        go_wp2_with fail
        go_loopw [9] (fun v wx => ∃ (c : Nat) (i : Int), v = .int .i64 i ∧ i + 1 = (c : Int) ∧ c ≤ path.length ∧ Hid (∀ q, c ≤ q → q < path.length → path.getD q 0 ≠ 47) ∧ wx = w4) (fun v _ => (intOf v + 1).toNat)
        case atStart => exact ⟨path.length, _, rfl, by omega, Nat.le_refl _, Lib.hid (fun q h1 h2 => by omega), by first | trivial | rfl⟩
        case round =>
          obtain ⟨c', i, rfl, hi, hc, hz, rfl⟩ := hrel
          go_upto_region 19 with fail
          go_cut [109] from 101 to 108 (fun v wx => v = .bool (decide (0 < c') && path.getD (c' - 1) 0 != 47) ∧ wx = wr)
          case first =>
            rcases c' with _ | c'
            · obtain rfl : i = -1 := by omega
              go_wp2_with fail
              go_meet
              exact ⟨rfl, rfl⟩
            · obtain rfl : i = (c' : Int) := by omega
              have hx := str_at path c' hc
              have hge : decide ((0 : Int) ≤ (c' : Int)) = true := by simp
              cases hb : (path.getD c' 0 != 47) with
              | false =>
                have h47 : path.getD c' 0 = 47 := by simpa using hb
                rw [h47] at hx
                go_wp2_with fail
                go_meet
                exact ⟨by rw [show decide (0 < c' + 1) = true by simp, Bool.true_and, Nat.add_sub_cancel, hb], rfl⟩
              | true =>
                generalize hg : path.getD c' 0 = g at *
                have hbb : ((g.toNat : Int) != 47) = true := by
                  rw [bne_iff_ne] at hb ⊢; intro h; exact hb (UInt8.toNat_inj.1 (by simpa using (by omega : g.toNat = 47)))
                go_wp2_with fail
                go_meet
                exact ⟨by rw [show decide (0 < c' + 1) = true by simp, Bool.true_and, Nat.add_sub_cancel, hg, hb], rfl⟩
          obtain ⟨rfl, hwc⟩ := hcut
          subst hwc
          generalize hB : (decide (0 < c') && path.getD (c' - 1) 0 != 47) = B at *
          have HB := Lib.hid hB
          clear hB
          cases B with
          | true =>
            have hb := HB.out
            simp only [Bool.and_eq_true, decide_eq_true_eq, bne_iff_ne] at hb
            obtain ⟨c2, rfl⟩ : ∃ c2, c' = c2 + 1 := ⟨c' - 1, by omega⟩
            obtain rfl : i = (c2 : Int) := by omega
            have HZ : Hid (∀ q, c2 ≤ q → q < path.length → path.getD q 0 ≠ 47) := Lib.hid (fun q h1 h2 => by
              by_cases e : q = c2
              · subst e; exact hb.2
              · exact hz.out q (by omega) h2)
            clear hz hb HB
            go_wp2_with fail
            exact ⟨⟨c2, (c2 : Int) - 1, by go_num, by omega, by omega, HZ, by first | trivial | rfl⟩, by simp [intOf]⟩
          | false =>
            have HCU : Hid (cutOf path = if c' = 0 then none else some (c' - 1)) := Lib.hid (by
              by_cases h0 : c' = 0
              · subst h0
                rw [if_pos rfl]
                exact cut_no (fun q hq => hz.out q (Nat.zero_le _) hq)
              · rw [if_neg h0]
                have hb := HB.out
                rw [decide_eq_true (show 0 < c' by omega), Bool.true_and, bne_eq_false_iff_eq] at hb
                exact cut_at (by omega) hb (fun q h1 h2 => hz.out q (by omega) h2))
            clear hz HB
            go_upto_if 113 with fail
            go_cut [10] (fun v wx => ∃ at_ : Int, v = .int .i64 at_ ∧ Hid (parOf true pi ⟨path, kind, mode, uid, gid, sec, nano, data, target, peer⟩ = at_ + 1) ∧ Hid (PsR w wx na' nn' nc' NS' (idsOf (pi ++ [(path, ID)]) n)) ∧ Hid (wx.heap[lx]? = some (.cells #[.string ⟨path.toArray⟩, .int .i64 kind, .int .i64 mode, .int .i64 uid, .int .i64 gid, .int .i64 sec, .int .i64 nano, .slice da dn dc, .string ⟨target.toArray⟩, .string ⟨peer.toArray⟩] 51)))
            case first =>
              rcases c' with _ | c'
              · obtain rfl : i = -1 := by omega
                have HPA : Hid (parOf true pi ⟨path, kind, mode, uid, gid, sec, nano, data, target, peer⟩ = 0 + 1) := Lib.hid (by unfold parOf; have := HCU.out; rw [if_pos rfl] at this; simp only [this]; rfl)
                go_wp2_with fail
                go_meet
                exact ⟨0, rfl, HPA, HP4, HX4⟩
              · obtain rfl : i = (c' : Int) := by omega
                have HPA : Hid (parOf true pi ⟨path, kind, mode, uid, gid, sec, nano, data, target, peer⟩ = (lastOf (pi.drop 1) (path.take c')).getD 0) := Lib.hid (by unfold parOf; have := HCU.out; rw [if_neg (by omega), Nat.add_sub_cancel] at this; simp only [this, if_true])
                have hge : decide ((0 : Int) ≤ (c' : Int)) = true := by simp
                go_wp2_with fail
                go_loopw [10, 11] (fun av jv wx => ∃ (at_ : Int) (j : Nat), av = .int .i64 at_ ∧ jv = .int .i64 j ∧ 1 ≤ j ∧ j ≤ k ∧ Hid (at_ + 1 = (lastOf ((pi.take j).drop 1) (path.take c')).getD 0) ∧ Hid (PsR w wx na' nn' nc' NS' (idsOf (pi ++ [(path, ID)]) n)) ∧ Hid (wx.heap[lx]? = some (.cells #[.string ⟨path.toArray⟩, .int .i64 kind, .int .i64 mode, .int .i64 uid, .int .i64 gid, .int .i64 sec, .int .i64 nano, .slice da dn dc, .string ⟨target.toArray⟩, .string ⟨peer.toArray⟩] 51))) (fun _ jv _ => k - (intOf jv).toNat)
                case atStart => exact ⟨-1, 1, rfl, rfl, Nat.le_refl _, hkpos, Lib.hid (by
                  have : (pi.take 1).drop 1 = [] := by apply List.eq_nil_of_length_eq_zero; simp
                  rw [this]; rfl), HP4, HX4⟩
                case round =>
                  clear HP4 HX4
                  obtain ⟨at_, j, rfl, rfl, hj1, hj, hv, hM, hX⟩ := hrel
                  by_cases hjk : j < k
                  · obtain ⟨q, hq⟩ := get_some (S := pi) (k := j) (by omega)
                    obtain ⟨y, hy⟩ := get_some (S := T) (k := j) (by have := HL.out; omega)
                    have hyq : y.1.path = q.1 := by
                      have h1 := congrArg (fun l => l[j]?) hI.out.path
                      simp only [List.getElem?_map, hq, Option.map_some, List.getElem?_take, if_pos hjk, hy] at h1
                      exact (Option.some.inj h1).symm
                    obtain ⟨b', off', hb', hr'⟩ := (HT.out.below hM.out.bel).at j y hy
                    simp only [Option.some.injEq, Addr.mk.injEq, and_true] at hb'
                    obtain ⟨rfl, rfl⟩ := hb'
                    have c0 : wr.cell? ⟨b, off + j * 10, none⟩ = some (.string ⟨q.1.toArray⟩) := by rw [← hyq]; simpa using range_cell hr' 0 rfl
                    have c9 : wr.cell? ⟨lx, 0, none⟩ = some (.string ⟨path.toArray⟩) := by rw [row_cell hX.out]; rfl
                    have e1 : ((⟨path.toArray⟩ : ByteArray).extract 0 c') = ⟨(path.take c').toArray⟩ := by rw [ByteArray.extract_mk]; simp
                    have hgj : (idsOf (pi ++ [(path, ID)]) n)[j]? = some q.2 := idsOf_get (by rw [List.getElem?_append_left (by omega)]; exact hq)
                    have HLS := Lib.hid (last_step hq hj1 (path.take c'))
                    have HGJ := Lib.hid hgj
                    have hqv := hI.out.val q (mem_get hq)
                    clear hyq hy hr' hq hgj
                    go_upto_region 27 with fail
                    go_cut [128] from 119 to 127 (fun u wx => u = .bool (q.1 == path.take c') ∧ Hid (PsR w wx na' nn' nc' NS' (idsOf (pi ++ [(path, ID)]) n)) ∧ Hid (wx.heap[lx]? = some (.cells #[.string ⟨path.toArray⟩, .int .i64 kind, .int .i64 mode, .int .i64 uid, .int .i64 gid, .int .i64 sec, .int .i64 nano, .slice da dn dc, .string ⟨target.toArray⟩, .string ⟨peer.toArray⟩] 51)))
                    case first =>
                      cases hb1 : (q.1 == path.take c') with
                      | false =>
                        go_quiet (fail)
                        go_wp2_with fail
                        go_meet
                        exact ⟨by rw [hb1], Lib.hid (hM.out.below (Below.drewN (Below.refl _ _) _)), Lib.hid (row_below hX.out (Below.drewN (Below.refl _ _) _))⟩
                      | true =>
                        go_quiet (fail)
                        go_wp2_with fail
                        go_meet
                        exact ⟨by rw [hb1], Lib.hid (hM.out.below (Below.drewN (Below.refl _ _) _)), Lib.hid (row_below hX.out (Below.drewN (Below.refl _ _) _))⟩
                    obtain ⟨rfl, hM2, hX2⟩ := hcut
                    obtain ⟨w5, hw5⟩ : ∃ w5, w5 = wc := ⟨_, rfl⟩
                    subst hw5
                    have HJ : Hid (w5.cell? ⟨w.heap.size + 1 + 1, j, none⟩ = some (.int .i64 q.2)) := Lib.hid (hM2.out.cell HGJ.out)
                    have hq2 : q.2 ≤ 2000000 := by have := hI.out.gl; omega
                    have hq1 : 1 ≤ q.2 := hqv.1
                    have HBB : Hid ((q.1 == path.take c') = decide (path.take c' = q.1)) := Lib.hid (by
                      by_cases e : path.take c' = q.1
                      · simp [e]
                      · rw [decide_eq_false e, beq_eq_false_iff_ne]; exact fun h => e h.symm)
                    generalize (q.1 == path.take c') = bb at *
                    clear c0 c9 hM hX hqv
                    cases bb with
                    | false =>
                      have HV : Hid (at_ + 1 = (lastOf ((pi.take (j + 1)).drop 1) (path.take c')).getD 0) := Lib.hid (by
                        rw [HLS.out, if_neg (by have := HBB.out; simpa using this.symm)]
                        exact hv.out)
                      clear HBB hv
                      go_wp2_with fail
                      exact ⟨⟨at_, j + 1, rfl, by go_num, by omega, by omega, HV, hM2, hX2⟩, by simp [intOf]; omega⟩
                    | true =>
                      have HV : Hid (q.2 - 1 + 1 = (lastOf ((pi.take (j + 1)).drop 1) (path.take c')).getD 0) := Lib.hid (by
                        rw [HLS.out, if_pos (by have := HBB.out; simpa using this.symm)]
                        simp)
                      clear HBB hv
                      have cj := HJ.out
                      go_wp2_with fail
                      exact ⟨⟨q.2 - 1, j + 1, by go_num, by go_num, by omega, by omega, HV, hM2, hX2⟩, by simp [intOf]; omega⟩
                  · obtain rfl : j = k := by omega
                    have HPB : Hid (parOf true pi ⟨path, kind, mode, uid, gid, sec, nano, data, target, peer⟩ = at_ + 1) := Lib.hid (by
                      rw [HPA.out, hv.out, show pi.take j = pi from List.take_of_length_le (by omega)])
                    go_wp2_with fail
                    go_meet
                    exact ⟨at_, rfl, HPB, hM, hX⟩
            obtain ⟨at_, rfl, HPA, HP5, HX5⟩ := hcut
            obtain ⟨w5, hw5⟩ : ∃ w5, w5 = wc := ⟨_, rfl⟩
            subst hw5
            have hpr := hI.out.parOf (l := ⟨path, kind, mode, uid, gid, sec, nano, data, target, peer⟩) hkpos
            rw [HPA.out] at hpr
            have hgl := hI.out.gl
            have hnl := (nodes1_len (gOf NS) ⟨path, kind, mode, uid, gid, sec, nano, data, target, peer⟩).1
            rw [← HG4.out] at hnl
            have hnn := HP5.out.pls.len
            have hgn' : (gOf NS').length = NS'.length := by simp [gOf]
            by_cases hat : at_ + 1 = 0
            · obtain rfl : at_ = -1 := by omega
              have HBD : Hid (¬ Planted true (lOf T)) := Lib.hid (hI.out.bad HLK.out (Or.inr ⟨hkpos, HPA.out⟩))
              have HBB : Hid (Below w.heap.size w (w5.setCell ⟨w.heap.size, 0, none⟩ (.slice none 0 0))) := Lib.hid (HP5.out.bel.setCell (p := ⟨w.heap.size, 0, none⟩) (Nat.le_refl _) _)
              have hrb : w5.cell? ⟨w.heap.size, 0, none⟩ = some (.slice none 0 0) := by rw [row_cell HP5.out.rb]; rfl
              have hrf : w5.frozen? ⟨w.heap.size, 0, none⟩ = false := row_froz HP5.out.rb 0
              have hrs : (w5.setCell ⟨w.heap.size, 0, none⟩ (.slice none 0 0)).cell? ⟨w.heap.size, 0, none⟩ = some (.slice none 0 0) := by rw [row_cell (setCell_row HP5.out.rb (.slice none 0 0))]; rfl
              clear hpr
              go_wp2_with fail
              refine bodyPost_ret (v := .tuple #[.agg #[.slice none 0 0], .int .i64 151]) (by simp [results, Try.results25, go_sem, hrs]) rfl ?_
              exact PlantRes.noT 151 (by decide) HBD.out HBB.out
            · obtain ⟨q, rfl⟩ : ∃ q : Nat, at_ = (q : Int) := ⟨at_.toNat, by omega⟩
              obtain ⟨y, hy⟩ := get_some (S := NS') (k := q) (by omega)
              obtain ⟨gnb, hna⟩ : ∃ gnb, na' = some ⟨gnb, 0, none⟩ := by
                rcases HP5.out.pls.own.2 with ⟨_, h0⟩ | ⟨g', cap, cur, h, _⟩
                · have h1 := (List.getElem?_eq_some_iff.1 hy).1
                  omega
                · simp only [Value.slice.injEq] at h
                  exact ⟨g', h.1⟩
              subst hna
              obtain ⟨b1, o1, ha1, hrw⟩ := HP5.out.pls.nds.at q y hy
              simp only [Option.some.injEq, Addr.mk.injEq, and_true] at ha1
              obtain ⟨rfl, rfl⟩ := ha1
              have hqn : q < nn' := by omega
              have hyl : y.1.ents.length ≤ k := by
                have h1 : y.1 ∈ gOf NS' := List.mem_map.2 ⟨y, mem_get hy, rfl⟩
                rw [HG4.out] at h1
                exact ((nodes1_factsR (l := ⟨path, kind, mode, uid, gid, sec, nano, data, target, peer⟩) hI.out).2 y.1 h1).1
              have hely := (HP5.out.pls.ent y (mem_get hy)).ets.len
              have HNM : Hid (nameOf ⟨path, kind, mode, uid, gid, sec, nano, data, target, peer⟩ = path.drop c') := Lib.hid (by
                unfold nameOf
                have := HCU.out
                by_cases h0 : c' = 0
                · subst h0; rw [if_pos rfl] at this; simp only [this]; rfl
                · rw [if_neg h0] at this; simp only [this]; rw [show c' - 1 + 1 = c' by omega])
              have hpi2 := hI.out.step HLK.out (by rw [HIE.out]; exact HNZ.out) hkpos (by rw [HPA.out]; exact hat)
              rw [HIE.out, HPA.out, HNM.out, ← HG4.out] at hpi2
              have hgid : (idsOf (pi ++ [(path, ID)]) n)[k]? = some ID := by
                have := idsOf_get (pi := pi ++ [(path, ID)]) (n := n) (k := k) (q := (path, ID)) (by rw [← hpl]; simp)
                exact this
              obtain rfl : i = (c' : Int) - 1 := by omega
              generalize hnmE : path.drop c' = NM at *
              have HY := Lib.hid hy
              have HPI2 := Lib.hid hpi2
              have HS : Hid (∀ w' NS2, PsR w w' (some ⟨gnb, 0, none⟩) nn' nc' NS2 (idsOf (pi ++ [(path, ID)]) n) → w'.heap[lx]? = some (.cells #[.string ⟨path.toArray⟩, .int .i64 kind, .int .i64 mode, .int .i64 uid, .int .i64 gid, .int .i64 sec, .int .i64 nano, .slice da dn dc, .string ⟨target.toArray⟩, .string ⟨peer.toArray⟩] 51) → w'.cell? ⟨w.heap.size + 1, 0, none⟩ = some (.slice (some ⟨gnb, 0, none⟩) nn' nc') ∧ w'.cell? ⟨lx, 0, none⟩ = some (.string ⟨path.toArray⟩) ∧ w'.cell? ⟨w.heap.size + 1 + 1, k, none⟩ = some (.int .i64 ID)) := Lib.hid (fun w' NS2 h1 h2 => ⟨by rw [row_cell h1.pls.row]; rfl, by rw [row_cell h2]; rfl, h1.cell hgid⟩)
              have HALL : Hid (∀ w', Below w5.heap.size w5 w' → w'.cell? ⟨w.heap.size + 1, 0, none⟩ = some (.slice (some ⟨gnb, 0, none⟩) nn' nc') ∧ w'.cell? ⟨lx, 0, none⟩ = some (.string ⟨path.toArray⟩) ∧ w'.cell? ⟨w.heap.size + 1 + 1, k, none⟩ = some (.int .i64 ID)) := Lib.hid (fun w' hb => HS.out w' NS' (HP5.out.below hb) (row_below HX5.out hb))
              have HAPP : Hid (∀ wA, Below w5.heap.size w5 wA → IsSl wA 2 (some ⟨w5.heap.size, 0, none⟩) 1 1 ([(NM, ID)].flatMap etCells) → ∃ (a7 : Option Addr) (c7 : Nat) (w7 : World), (Builtin.append_ #[73, 73] 73 #[.slice y.2.2.1 y.2.2.2.1 y.2.2.2.2, .slice (some ⟨w5.heap.size, 0, none⟩) 1 1]).run Try.prog wA = .ok (.slice a7 (y.2.2.2.1 + 1) c7) w7 ∧
                  Hid (PsR w (w7.setCell ⟨gnb, q * 10 + 9, none⟩ (.slice a7 (y.2.2.2.1 + 1) c7)) (some ⟨gnb, 0, none⟩) nn' nc' (NS'.set q ({ y.1 with ents := y.1.ents ++ [(NM, ID)] }, y.2.1, (a7, y.2.2.2.1 + 1, c7))) (idsOf (pi ++ [(path, ID)]) n)) ∧
                  Hid (w7.cell? ⟨w.heap.size + 1, 0, none⟩ = some (.slice (some ⟨gnb, 0, none⟩) nn' nc') ∧ w7.cell? ⟨lx, 0, none⟩ = some (.string ⟨path.toArray⟩) ∧ w7.cell? ⟨w.heap.size + 1 + 1, k, none⟩ = some (.int .i64 ID)) ∧ Hid ((w7.setCell ⟨gnb, q * 10 + 9, none⟩ (.slice a7 (y.2.2.2.1 + 1) c7)).cell? ⟨w.heap.size + 1, 0, none⟩ = some (.slice (some ⟨gnb, 0, none⟩) nn' nc') ∧ (w7.setCell ⟨gnb, q * 10 + 9, none⟩ (.slice a7 (y.2.2.2.1 + 1) c7)).cell? ⟨lx, 0, none⟩ = some (.string ⟨path.toArray⟩) ∧ (w7.setCell ⟨gnb, q * 10 + 9, none⟩ (.slice a7 (y.2.2.2.1 + 1) c7)).cell? ⟨w.heap.size + 1 + 1, k, none⟩ = some (.int .i64 ID)) ∧ w7.cell? ⟨gnb, q * 10 + 9, none⟩ = some (.slice y.2.2.1 y.2.2.2.1 y.2.2.2.2) ∧ w7.frozen? ⟨gnb, q * 10 + 9, none⟩ = false) := Lib.hid (fun wA hA hsl => by
                have hPA := HP5.out.below hA
                have hxe := hPA.pls.ent y (mem_get HY.out)
                obtain ⟨a7, c7, w7, e1, e2, e3, e4⟩ := run_app_at (P := Try.prog) 73 73 w.heap.size 87 _ 2 24 Try.underlying73 infoEnt rfl (by decide) (by decide) hxe hsl (et_one [(NM, ID)]) (by omega) hPA.bel.size
                have hps := HP5.out.entry (e := (NM, ID)) HY.out hA rfl e3 (by simpa using e2) (by
                  rcases e4 with e4 | e4
                  · exact Or.inl e4
                  · exact Or.inr ⟨_, e4, hA.size⟩)
                have ho2 : w7.ownsRow w.heap.size 75 10 (.slice (some ⟨gnb, 0, none⟩) nn' nc') nn' (NS'.flatMap ndCells) := own_other hPA.pls.own hxe (by decide) e3
                obtain ⟨cur, hcur⟩ := own_row ho2 (b := gnb) rfl
                have hlx7 := row_grown (row_below HX5.out hA) e3 (fun e => own_ne_row hxe (row_below HX5.out hA) (by decide) e.symm)
                have hlx8 := row_grown hlx7 (setCell_grown w7 gnb (q * 10 + 9) (.slice a7 (y.2.2.2.1 + 1) c7)) (fun e => own_ne_row ho2 hlx7 (by decide) (by rw [Option.some.inj e]; rfl))
                have hg7 := row_grown hPA.pls.row e3 (fun e => own_ne_row hxe hPA.pls.row (by decide) e.symm)
                have hi7 := hPA.ids.grown e3 (fun e => own_ne_row hxe hPA.ids (by decide) e.symm)
                refine ⟨a7, c7, w7, e1, Lib.hid hps, Lib.hid ⟨by rw [row_cell hg7]; rfl, by rw [row_cell hlx7]; rfl, hi7.cell (by rw [List.getElem?_map, hgid]; rfl)⟩, Lib.hid (HS.out _ _ hps hlx8), ?_, row_froz hcur _⟩
                obtain ⟨b2, o2, ha2, hr2⟩ := rows_at ndCells_len (by decide) (own_isSl ho2) q y HY.out
                simp only [Option.some.injEq, Addr.mk.injEq, and_true] at ha2
                obtain ⟨rfl, rfl⟩ := ha2
                simpa using range_cell hr2 9 rfl)
              have c8 : w5.cell? ⟨gnb, q * 10 + 9, none⟩ = some (.slice y.2.2.1 y.2.2.2.1 y.2.2.2.2) := by simpa using range_cell hrw 9 rfl
              have e2 : ((⟨path.toArray⟩ : ByteArray).extract c' path.length) = ⟨NM.toArray⟩ := by
                rw [ByteArray.extract_mk, List.take_of_length_le (by simp)] <;> simp [← hnmE]
              have HWC : Hid (IntKind.i64.wrap (c' : Int) = (c' : Int)) := Lib.hid (wrap_nat (by omega))
              have c8d : w5.drew.cell? ⟨gnb, q * 10 + 9, none⟩ = some (.slice y.2.2.1 y.2.2.2.1 y.2.2.2.2) := c8
              have c8A := fun o => Keeps.alloc w5.drew o _ _ c8d
              have c8B := fun o => Keeps.alloc w5 o _ _ c8
              go_upto_region 31 with fail
              refine wp_region_held_drew (S := fun w' : World => w'.cell? ⟨w.heap.size + 1, 0, none⟩ = some (.slice (some ⟨gnb, 0, none⟩) nn' nc') ∧ w'.cell? ⟨lx, 0, none⟩ = some (.string ⟨path.toArray⟩) ∧ w'.cell? ⟨w.heap.size + 1 + 1, k, none⟩ = some (.int .i64 ID)) (by kernel_rfl) (HALL.out _ (Below.refl _ _).drew) (fun hHeld => ?_)
              refine wpAnyH_take (i := 0) (oi := { dst := some 137, op := Op.fieldAddr 43 (Operand.tmp 4) 0, type := 0, pos := "ref.go:273", after := #[], guard := none }) (v := (.pointer (some ⟨w.heap.size + 1, 0, none⟩))) rfl (by kernel_rfl) (by kernel_rfl) (by kernel_rfl) (fun _ _ _ h => h) (Or.inl ⟨by rfl, ?_⟩) (by assumption) ?_
              · intro wz hSw
                (try dsimp only at hSw)
                obtain ⟨s1, s2, s3⟩ := hSw
                go_simp
              (try simp only [Act.put, List.setIfInBounds_toArray, List.set_cons_zero, List.set_cons_succ, List.toList_toArray])
              refine wpAnyH_take (i := 1) (oi := { dst := some 138, op := Op.load 41 (Operand.tmp 137), type := 41, pos := "ref.go:273", after := #[{ on := 0, ground := Ground.data }], guard := none }) (v := (.slice (some ⟨gnb, 0, none⟩) nn' nc')) rfl (by kernel_rfl) (by kernel_rfl) (by kernel_rfl) (fun _ _ _ h => h) (Or.inl ⟨by rfl, ?_⟩) (by assumption) ?_
              · intro wz hSw
                (try dsimp only at hSw)
                obtain ⟨s1, s2, s3⟩ := hSw
                go_simp
              (try simp only [Act.put, List.setIfInBounds_toArray, List.set_cons_zero, List.set_cons_succ, List.toList_toArray])
              refine wpAnyH_take (i := 2) (oi := { dst := some 139, op := Op.move (Operand.tmp 10), type := 3, pos := "ref.go:273", after := #[], guard := none }) (v := (.int .i64 (q : Int))) rfl (by kernel_rfl) (by kernel_rfl) (by kernel_rfl) (fun _ _ _ h => h) (Or.inl ⟨by rfl, ?_⟩) (by assumption) ?_
              · intro wz hSw
                (try dsimp only at hSw)
                obtain ⟨s1, s2, s3⟩ := hSw
                go_simp
              (try simp only [Act.put, List.setIfInBounds_toArray, List.set_cons_zero, List.set_cons_succ, List.toList_toArray])
              refine wpAnyH_take (i := 3) (oi := { dst := some 140, op := Op.fieldAddr 43 (Operand.tmp 4) 0, type := 0, pos := "ref.go:273", after := #[], guard := none }) (v := (.pointer (some ⟨w.heap.size + 1, 0, none⟩))) rfl (by kernel_rfl) (by kernel_rfl) (by kernel_rfl) (fun _ _ _ h => h) (Or.inl ⟨by rfl, ?_⟩) (by assumption) ?_
              · intro wz hSw
                (try dsimp only at hSw)
                obtain ⟨s1, s2, s3⟩ := hSw
                go_simp
              (try simp only [Act.put, List.setIfInBounds_toArray, List.set_cons_zero, List.set_cons_succ, List.toList_toArray])
              refine wpAnyH_take (i := 4) (oi := { dst := some 141, op := Op.load 41 (Operand.tmp 140), type := 41, pos := "ref.go:273", after := #[{ on := 3, ground := Ground.data }], guard := none }) (v := (.slice (some ⟨gnb, 0, none⟩) nn' nc')) rfl (by kernel_rfl) (by kernel_rfl) (by kernel_rfl) (fun _ _ _ h => h) (Or.inl ⟨by rfl, ?_⟩) (by assumption) ?_
              · intro wz hSw
                (try dsimp only at hSw)
                obtain ⟨s1, s2, s3⟩ := hSw
                go_simp
              (try simp only [Act.put, List.setIfInBounds_toArray, List.set_cons_zero, List.set_cons_succ, List.toList_toArray])
              refine wpAnyH_take (i := 5) (oi := { dst := some 142, op := Op.move (Operand.tmp 10), type := 3, pos := "ref.go:273", after := #[], guard := none }) (v := (.int .i64 (q : Int))) rfl (by kernel_rfl) (by kernel_rfl) (by kernel_rfl) (fun _ _ _ h => h) (Or.inl ⟨by rfl, ?_⟩) (by assumption) ?_
              · intro wz hSw
                (try dsimp only at hSw)
                obtain ⟨s1, s2, s3⟩ := hSw
                go_simp
              (try simp only [Act.put, List.setIfInBounds_toArray, List.set_cons_zero, List.set_cons_succ, List.toList_toArray])
              refine wpAnyH_take (i := 6) (oi := { dst := some 143, op := Op.indexAddr 41 (Operand.tmp 141) (Operand.tmp 142), type := 0, pos := "ref.go:273", after := #[{ on := 4, ground := Ground.data }, { on := 5, ground := Ground.data }], guard := none }) (v := (.pointer (some ⟨gnb, q * 10, none⟩))) rfl (by kernel_rfl) (by kernel_rfl) (by kernel_rfl) (fun _ _ _ h => h) (Or.inl ⟨by rfl, ?_⟩) (by assumption) ?_
              · intro wz hSw
                (try dsimp only at hSw)
                obtain ⟨s1, s2, s3⟩ := hSw
                (go_simp; try (intro h; omega))
              (try simp only [Act.put, List.setIfInBounds_toArray, List.set_cons_zero, List.set_cons_succ, List.toList_toArray])
              refine wpAnyH_take (i := 7) (oi := { dst := some 144, op := Op.fieldAddr 75 (Operand.tmp 143) 8, type := 0, pos := "ref.go:273", after := #[{ on := 6, ground := Ground.data }], guard := none }) (v := (.pointer (some ⟨gnb, q * 10 + 9, none⟩))) rfl (by kernel_rfl) (by kernel_rfl) (by kernel_rfl) (fun _ _ _ h => h) (Or.inl ⟨by rfl, ?_⟩) (by assumption) ?_
              · intro wz hSw
                (try dsimp only at hSw)
                obtain ⟨s1, s2, s3⟩ := hSw
                go_simp
              (try simp only [Act.put, List.setIfInBounds_toArray, List.set_cons_zero, List.set_cons_succ, List.toList_toArray])
              refine wpAnyH_take (i := 9) (oi := { dst := some 146, op := Op.fieldAddr 51 (Operand.tmp 7) 0, type := 0, pos := "ref.go:273", after := #[], guard := none }) (v := (.pointer (some ⟨lx, 0, none⟩))) rfl (by kernel_rfl) (by kernel_rfl) (by kernel_rfl) (fun _ _ _ h => h) (Or.inl ⟨by rfl, ?_⟩) (by assumption) ?_
              · intro wz hSw
                (try dsimp only at hSw)
                obtain ⟨s1, s2, s3⟩ := hSw
                go_simp
              (try simp only [Act.put, List.setIfInBounds_toArray, List.set_cons_zero, List.set_cons_succ, List.toList_toArray])
              refine wpAnyH_take (i := 10) (oi := { dst := some 147, op := Op.load 9 (Operand.tmp 146), type := 9, pos := "ref.go:273", after := #[{ on := 9, ground := Ground.data }], guard := none }) (v := (.string ⟨path.toArray⟩)) rfl (by kernel_rfl) (by kernel_rfl) (by kernel_rfl) (fun _ _ _ h => h) (Or.inl ⟨by rfl, ?_⟩) (by assumption) ?_
              · intro wz hSw
                (try dsimp only at hSw)
                obtain ⟨s1, s2, s3⟩ := hSw
                go_simp
              (try simp only [Act.put, List.setIfInBounds_toArray, List.set_cons_zero, List.set_cons_succ, List.toList_toArray])
              refine wpAnyH_take (i := 11) (oi := { dst := some 148, op := Op.move (Operand.tmp 9), type := 3, pos := "ref.go:273", after := #[], guard := none }) (v := (.int .i64 ((c' : Int) - 1))) rfl (by kernel_rfl) (by kernel_rfl) (by kernel_rfl) (fun _ _ _ h => h) (Or.inl ⟨by rfl, ?_⟩) (by assumption) ?_
              · intro wz hSw
                (try dsimp only at hSw)
                obtain ⟨s1, s2, s3⟩ := hSw
                go_simp
              (try simp only [Act.put, List.setIfInBounds_toArray, List.set_cons_zero, List.set_cons_succ, List.toList_toArray])
              refine wpAnyH_take (i := 12) (oi := { dst := some 149, op := Op.binOp BinOp.add 3 (Operand.tmp 148) (Operand.const (Value.int IntKind.i64 1)) 3, type := 3, pos := "ref.go:273", after := #[{ on := 11, ground := Ground.data }], guard := none }) (v := (.int .i64 (c' : Int))) rfl (by kernel_rfl) (by kernel_rfl) (by kernel_rfl) (fun _ _ _ h => h) (Or.inl ⟨by rfl, ?_⟩) (by assumption) ?_
              · intro wz hSw
                (try dsimp only at hSw)
                obtain ⟨s1, s2, s3⟩ := hSw
                (go_simp; exact HWC.out)
              (try simp only [Act.put, List.setIfInBounds_toArray, List.set_cons_zero, List.set_cons_succ, List.toList_toArray])
              refine wpAnyH_take (i := 13) (oi := { dst := some 150, op := Op.slice 9 (Operand.tmp 147) (some (Operand.tmp 149)) none none, type := 9, pos := "ref.go:273", after := #[{ on := 10, ground := Ground.data }, { on := 12, ground := Ground.data }], guard := none }) (v := (.string ⟨NM.toArray⟩)) rfl (by kernel_rfl) (by kernel_rfl) (by kernel_rfl) (fun _ _ _ h => h) (Or.inl ⟨by rfl, ?_⟩) (by assumption) ?_
              · intro wz hSw
                (try dsimp only at hSw)
                obtain ⟨s1, s2, s3⟩ := hSw
                go_simp
              (try simp only [Act.put, List.setIfInBounds_toArray, List.set_cons_zero, List.set_cons_succ, List.toList_toArray])
              refine wpAnyH_take (i := 14) (oi := { dst := some 151, op := Op.move (Operand.tmp 5), type := 85, pos := "ref.go:273", after := #[], guard := none }) (v := (.slice (some ⟨w.heap.size + 1 + 1, 0, none⟩) n n)) rfl (by kernel_rfl) (by kernel_rfl) (by kernel_rfl) (fun _ _ _ h => h) (Or.inl ⟨by rfl, ?_⟩) (by assumption) ?_
              · intro wz hSw
                (try dsimp only at hSw)
                obtain ⟨s1, s2, s3⟩ := hSw
                go_simp
              (try simp only [Act.put, List.setIfInBounds_toArray, List.set_cons_zero, List.set_cons_succ, List.toList_toArray])
              refine wpAnyH_take (i := 15) (oi := { dst := some 152, op := Op.move (Operand.tmp 6), type := 3, pos := "ref.go:273", after := #[], guard := none }) (v := (.int .i64 (k : Int))) rfl (by kernel_rfl) (by kernel_rfl) (by kernel_rfl) (fun _ _ _ h => h) (Or.inl ⟨by rfl, ?_⟩) (by assumption) ?_
              · intro wz hSw
                (try dsimp only at hSw)
                obtain ⟨s1, s2, s3⟩ := hSw
                go_simp
              (try simp only [Act.put, List.setIfInBounds_toArray, List.set_cons_zero, List.set_cons_succ, List.toList_toArray])
              refine wpAnyH_take (i := 16) (oi := { dst := some 153, op := Op.indexAddr 85 (Operand.tmp 151) (Operand.tmp 152), type := 0, pos := "ref.go:273", after := #[{ on := 14, ground := Ground.data }, { on := 15, ground := Ground.data }], guard := none }) (v := (.pointer (some ⟨w.heap.size + 1 + 1, k, none⟩))) rfl (by kernel_rfl) (by kernel_rfl) (by kernel_rfl) (fun _ _ _ h => h) (Or.inl ⟨by rfl, ?_⟩) (by assumption) ?_
              · intro wz hSw
                (try dsimp only at hSw)
                obtain ⟨s1, s2, s3⟩ := hSw
                (go_simp; try (intro h; omega))
              (try simp only [Act.put, List.setIfInBounds_toArray, List.set_cons_zero, List.set_cons_succ, List.toList_toArray])
              refine wpAnyH_take (i := 17) (oi := { dst := some 154, op := Op.load 3 (Operand.tmp 153), type := 3, pos := "ref.go:273", after := #[{ on := 16, ground := Ground.data }], guard := none }) (v := (.int .i64 ID)) rfl (by kernel_rfl) (by kernel_rfl) (by kernel_rfl) (fun _ _ _ h => h) (Or.inl ⟨by rfl, ?_⟩) (by assumption) ?_
              · intro wz hSw
                (try dsimp only at hSw)
                obtain ⟨s1, s2, s3⟩ := hSw
                go_simp
              (try simp only [Act.put, List.setIfInBounds_toArray, List.set_cons_zero, List.set_cons_succ, List.toList_toArray])
              refine wpAnyH_take (i := 18) (oi := { dst := some 155, op := Op.build 87 #[(0, Operand.tmp 150), (1, Operand.tmp 154)], type := 87, pos := "ref.go:273", after := #[{ on := 13, ground := Ground.data }, { on := 17, ground := Ground.data }], guard := none }) (v := (.agg #[.string ⟨NM.toArray⟩, .int .i64 ID])) rfl (by kernel_rfl) (by kernel_rfl) (by kernel_rfl) (fun _ _ _ h => h) (Or.inl ⟨by rfl, ?_⟩) (by assumption) ?_
              · intro wz hSw
                (try dsimp only at hSw)
                obtain ⟨s1, s2, s3⟩ := hSw
                go_simp
              (try simp only [Act.put, List.setIfInBounds_toArray, List.set_cons_zero, List.set_cons_succ, List.toList_toArray])
              refine wpAnyH_ready (rs := [8, 19]) (by kernel_rfl) (by simp) ?_
              refine AllReadyH.cons (o := { dst := some 145, op := Op.load 73 (Operand.tmp 144), type := 73, pos := "ref.go:273", after := #[{ on := 7, ground := Ground.data }], guard := none }) rfl (fun K hK => ?_) ?_
              · skip
                go_simp
                refine hK.out _ _ (by assumption) (fun hH8 => ?_)
                clear hK K
                (try simp only [Act.put, List.setIfInBounds_toArray, List.set_cons_zero, List.set_cons_succ, List.toList_toArray])
                refine wpAnyH_ready (rs := [19]) (by kernel_rfl) (by simp) ?_
                refine AllReadyH.cons (o := { dst := some 156, op := Op.buildSlice 73 1 #[(0, Operand.tmp 155)], type := 73, pos := "ref.go:273", after := #[{ on := 18, ground := Ground.data }], guard := none }) rfl (fun K hK => ?_) AllReadyH.nil
                go_simp
                refine hK.out _ _ (HALL.out _ (by first | exact (Below.refl _ _).drew.alloc (Nat.le_refl _) _ | exact ((Below.refl _ _).alloc (Nat.le_refl _) _).drew)) (fun hH19 => ?_)
                clear hK K
                (try simp only [Act.put, List.setIfInBounds_toArray, List.set_cons_zero, List.set_cons_succ, List.toList_toArray])
                refine wpAnyH_ready (rs := [20]) (by kernel_rfl) (by simp) ?_
                refine AllReadyH.cons (o := { dst := some 157, op := Op.call { callee := Callee.builtin Builtin.append, args := #[Operand.tmp 145, Operand.tmp 156], argTypes := #[73, 73] }, type := 73, pos := "ref.go:273", after := #[{ on := 8, ground := Ground.data }, { on := 19, ground := Ground.data }], guard := none }) rfl (fun K hK => ?_) AllReadyH.nil
                obtain ⟨a7, c7, w7, hrun7, HP7, HC7, HC8, k1, k2⟩ := HAPP.out (w5.drew.alloc (.cells (etV (NM, ID)) 87)) ((Below.refl _ _).drew.alloc (Nat.le_refl _) _) (et_new w5.drew (NM, ID))
                refine step_app_run rfl (.tmp 145) (.tmp 156) 73 rfl _ _ (by simp [Act.eval, Act.put]) (by simp [Act.eval, Act.put]) _ _ hrun7 ?_
                clear hrun7
                refine hK.out _ _ HC7.out (fun hH20 => ?_)
                clear hK K
                (try simp only [Act.put, List.setIfInBounds_toArray, List.set_cons_zero, List.set_cons_succ, List.toList_toArray])
                refine wpAnyH_take (i := 21) (oi := { dst := some 158, op := Op.indexAddr 41 (Operand.tmp 138) (Operand.tmp 139), type := 0, pos := "ref.go:273", after := #[{ on := 1, ground := Ground.data }, { on := 2, ground := Ground.data }, { on := 0, ground := Ground.phase }, { on := 1, ground := Ground.phase }, { on := 2, ground := Ground.phase }, { on := 3, ground := Ground.phase }, { on := 4, ground := Ground.phase }, { on := 5, ground := Ground.phase }, { on := 6, ground := Ground.phase }, { on := 7, ground := Ground.phase }, { on := 8, ground := Ground.phase }, { on := 9, ground := Ground.phase }, { on := 10, ground := Ground.phase }, { on := 11, ground := Ground.phase }, { on := 12, ground := Ground.phase }, { on := 13, ground := Ground.phase }, { on := 14, ground := Ground.phase }, { on := 15, ground := Ground.phase }, { on := 16, ground := Ground.phase }, { on := 17, ground := Ground.phase }, { on := 18, ground := Ground.phase }, { on := 19, ground := Ground.phase }, { on := 20, ground := Ground.phase }], guard := none }) (v := (.pointer (some ⟨gnb, q * 10, none⟩))) rfl (by kernel_rfl) (by kernel_rfl) (by kernel_rfl) (fun _ _ _ h => h) (Or.inl ⟨by rfl, ?_⟩) (by assumption) ?_
                · intro wz hSw
                  (try dsimp only at hSw)
                  obtain ⟨s1, s2, s3⟩ := hSw
                  (go_simp; try (intro h; omega))
                (try simp only [Act.put, List.setIfInBounds_toArray, List.set_cons_zero, List.set_cons_succ, List.toList_toArray])
                refine wpAnyH_take (i := 22) (oi := { dst := some 159, op := Op.fieldAddr 75 (Operand.tmp 158) 8, type := 0, pos := "ref.go:273", after := #[{ on := 21, ground := Ground.data }, { on := 0, ground := Ground.phase }, { on := 1, ground := Ground.phase }, { on := 2, ground := Ground.phase }, { on := 3, ground := Ground.phase }, { on := 4, ground := Ground.phase }, { on := 5, ground := Ground.phase }, { on := 6, ground := Ground.phase }, { on := 7, ground := Ground.phase }, { on := 8, ground := Ground.phase }, { on := 9, ground := Ground.phase }, { on := 10, ground := Ground.phase }, { on := 11, ground := Ground.phase }, { on := 12, ground := Ground.phase }, { on := 13, ground := Ground.phase }, { on := 14, ground := Ground.phase }, { on := 15, ground := Ground.phase }, { on := 16, ground := Ground.phase }, { on := 17, ground := Ground.phase }, { on := 18, ground := Ground.phase }, { on := 19, ground := Ground.phase }, { on := 20, ground := Ground.phase }], guard := none }) (v := (.pointer (some ⟨gnb, q * 10 + 9, none⟩))) rfl (by kernel_rfl) (by kernel_rfl) (by kernel_rfl) (fun _ _ _ h => h) (Or.inl ⟨by rfl, ?_⟩) (by assumption) ?_
                · intro wz hSw
                  (try dsimp only at hSw)
                  obtain ⟨s1, s2, s3⟩ := hSw
                  go_simp
                (try simp only [Act.put, List.setIfInBounds_toArray, List.set_cons_zero, List.set_cons_succ, List.toList_toArray])
                refine wpAnyH_ready (rs := [23]) (by kernel_rfl) (by simp) ?_
                refine AllReadyH.cons (o := { dst := none, op := Op.store 73 (Operand.tmp 159) (Operand.tmp 157), type := 0, pos := "ref.go:273", after := #[{ on := 22, ground := Ground.data }, { on := 20, ground := Ground.data }, { on := 20, ground := Ground.chain }, { on := 0, ground := Ground.phase }, { on := 1, ground := Ground.phase }, { on := 2, ground := Ground.phase }, { on := 3, ground := Ground.phase }, { on := 4, ground := Ground.phase }, { on := 5, ground := Ground.phase }, { on := 6, ground := Ground.phase }, { on := 7, ground := Ground.phase }, { on := 8, ground := Ground.phase }, { on := 9, ground := Ground.phase }, { on := 10, ground := Ground.phase }, { on := 11, ground := Ground.phase }, { on := 12, ground := Ground.phase }, { on := 13, ground := Ground.phase }, { on := 14, ground := Ground.phase }, { on := 15, ground := Ground.phase }, { on := 16, ground := Ground.phase }, { on := 17, ground := Ground.phase }, { on := 18, ground := Ground.phase }, { on := 19, ground := Ground.phase }, { on := 20, ground := Ground.phase }], guard := none }) rfl (fun K hK => ?_) AllReadyH.nil
                go_simp
                refine hK.out _ _ HC8.out (fun hH23 => ?_)
                clear hK K
                (try simp only [Act.put, List.setIfInBounds_toArray, List.set_cons_zero, List.set_cons_succ, List.toList_toArray])
                refine wpAnyH_done (by kernel_rfl) ?_ _
                go_wp2_with fail
                have hp3 := HPI2.out
                rw [show gOf NS' = NS'.map (·.1) from rfl, addEnt_set (d := (a7, y.2.2.2.1 + 1, c7)) HY.out] at hp3
                exact ⟨⟨k + 1, _, nn', nc', _, _, by omega, by go_num, HP7, Lib.hid hp3⟩, by simp [intOf]; omega⟩
              refine AllReadyH.cons (o := { dst := some 156, op := Op.buildSlice 73 1 #[(0, Operand.tmp 155)], type := 73, pos := "ref.go:273", after := #[{ on := 18, ground := Ground.data }], guard := none }) rfl (fun K hK => ?_) AllReadyH.nil
              go_simp
              refine hK.out _ _ (HALL.out _ (by first | exact (Below.refl _ _).drew.alloc (Nat.le_refl _) _ | exact ((Below.refl _ _).alloc (Nat.le_refl _) _).drew)) (fun hH19 => ?_)
              clear hK K
              (try simp only [Act.put, List.setIfInBounds_toArray, List.set_cons_zero, List.set_cons_succ, List.toList_toArray])
              refine wpAnyH_ready (rs := [8]) (by kernel_rfl) (by simp) ?_
              refine AllReadyH.cons (o := { dst := some 145, op := Op.load 73 (Operand.tmp 144), type := 73, pos := "ref.go:273", after := #[{ on := 7, ground := Ground.data }], guard := none }) rfl (fun K hK => ?_) AllReadyH.nil
              go_simp
              refine hK.out _ _ (by assumption) (fun hH8 => ?_)
              clear hK K
              (try simp only [Act.put, List.setIfInBounds_toArray, List.set_cons_zero, List.set_cons_succ, List.toList_toArray])
              refine wpAnyH_ready (rs := [20]) (by kernel_rfl) (by simp) ?_
              refine AllReadyH.cons (o := { dst := some 157, op := Op.call { callee := Callee.builtin Builtin.append, args := #[Operand.tmp 145, Operand.tmp 156], argTypes := #[73, 73] }, type := 73, pos := "ref.go:273", after := #[{ on := 8, ground := Ground.data }, { on := 19, ground := Ground.data }], guard := none }) rfl (fun K hK => ?_) AllReadyH.nil
              obtain ⟨a7, c7, w7, hrun7, HP7, HC7, HC8, k1, k2⟩ := HAPP.out (w5.drew.alloc (.cells (etV (NM, ID)) 87)) ((Below.refl _ _).drew.alloc (Nat.le_refl _) _) (et_new w5.drew (NM, ID))
              refine step_app_run rfl (.tmp 145) (.tmp 156) 73 rfl _ _ (by simp [Act.eval, Act.put]) (by simp [Act.eval, Act.put]) _ _ hrun7 ?_
              clear hrun7
              refine hK.out _ _ HC7.out (fun hH20 => ?_)
              clear hK K
              (try simp only [Act.put, List.setIfInBounds_toArray, List.set_cons_zero, List.set_cons_succ, List.toList_toArray])
              refine wpAnyH_take (i := 21) (oi := { dst := some 158, op := Op.indexAddr 41 (Operand.tmp 138) (Operand.tmp 139), type := 0, pos := "ref.go:273", after := #[{ on := 1, ground := Ground.data }, { on := 2, ground := Ground.data }, { on := 0, ground := Ground.phase }, { on := 1, ground := Ground.phase }, { on := 2, ground := Ground.phase }, { on := 3, ground := Ground.phase }, { on := 4, ground := Ground.phase }, { on := 5, ground := Ground.phase }, { on := 6, ground := Ground.phase }, { on := 7, ground := Ground.phase }, { on := 8, ground := Ground.phase }, { on := 9, ground := Ground.phase }, { on := 10, ground := Ground.phase }, { on := 11, ground := Ground.phase }, { on := 12, ground := Ground.phase }, { on := 13, ground := Ground.phase }, { on := 14, ground := Ground.phase }, { on := 15, ground := Ground.phase }, { on := 16, ground := Ground.phase }, { on := 17, ground := Ground.phase }, { on := 18, ground := Ground.phase }, { on := 19, ground := Ground.phase }, { on := 20, ground := Ground.phase }], guard := none }) (v := (.pointer (some ⟨gnb, q * 10, none⟩))) rfl (by kernel_rfl) (by kernel_rfl) (by kernel_rfl) (fun _ _ _ h => h) (Or.inl ⟨by rfl, ?_⟩) (by assumption) ?_
              · intro wz hSw
                (try dsimp only at hSw)
                obtain ⟨s1, s2, s3⟩ := hSw
                (go_simp; try (intro h; omega))
              (try simp only [Act.put, List.setIfInBounds_toArray, List.set_cons_zero, List.set_cons_succ, List.toList_toArray])
              refine wpAnyH_take (i := 22) (oi := { dst := some 159, op := Op.fieldAddr 75 (Operand.tmp 158) 8, type := 0, pos := "ref.go:273", after := #[{ on := 21, ground := Ground.data }, { on := 0, ground := Ground.phase }, { on := 1, ground := Ground.phase }, { on := 2, ground := Ground.phase }, { on := 3, ground := Ground.phase }, { on := 4, ground := Ground.phase }, { on := 5, ground := Ground.phase }, { on := 6, ground := Ground.phase }, { on := 7, ground := Ground.phase }, { on := 8, ground := Ground.phase }, { on := 9, ground := Ground.phase }, { on := 10, ground := Ground.phase }, { on := 11, ground := Ground.phase }, { on := 12, ground := Ground.phase }, { on := 13, ground := Ground.phase }, { on := 14, ground := Ground.phase }, { on := 15, ground := Ground.phase }, { on := 16, ground := Ground.phase }, { on := 17, ground := Ground.phase }, { on := 18, ground := Ground.phase }, { on := 19, ground := Ground.phase }, { on := 20, ground := Ground.phase }], guard := none }) (v := (.pointer (some ⟨gnb, q * 10 + 9, none⟩))) rfl (by kernel_rfl) (by kernel_rfl) (by kernel_rfl) (fun _ _ _ h => h) (Or.inl ⟨by rfl, ?_⟩) (by assumption) ?_
              · intro wz hSw
                (try dsimp only at hSw)
                obtain ⟨s1, s2, s3⟩ := hSw
                go_simp
              (try simp only [Act.put, List.setIfInBounds_toArray, List.set_cons_zero, List.set_cons_succ, List.toList_toArray])
              refine wpAnyH_ready (rs := [23]) (by kernel_rfl) (by simp) ?_
              refine AllReadyH.cons (o := { dst := none, op := Op.store 73 (Operand.tmp 159) (Operand.tmp 157), type := 0, pos := "ref.go:273", after := #[{ on := 22, ground := Ground.data }, { on := 20, ground := Ground.data }, { on := 20, ground := Ground.chain }, { on := 0, ground := Ground.phase }, { on := 1, ground := Ground.phase }, { on := 2, ground := Ground.phase }, { on := 3, ground := Ground.phase }, { on := 4, ground := Ground.phase }, { on := 5, ground := Ground.phase }, { on := 6, ground := Ground.phase }, { on := 7, ground := Ground.phase }, { on := 8, ground := Ground.phase }, { on := 9, ground := Ground.phase }, { on := 10, ground := Ground.phase }, { on := 11, ground := Ground.phase }, { on := 12, ground := Ground.phase }, { on := 13, ground := Ground.phase }, { on := 14, ground := Ground.phase }, { on := 15, ground := Ground.phase }, { on := 16, ground := Ground.phase }, { on := 17, ground := Ground.phase }, { on := 18, ground := Ground.phase }, { on := 19, ground := Ground.phase }, { on := 20, ground := Ground.phase }], guard := none }) rfl (fun K hK => ?_) AllReadyH.nil
              go_simp
              refine hK.out _ _ HC8.out (fun hH23 => ?_)
              clear hK K
              (try simp only [Act.put, List.setIfInBounds_toArray, List.set_cons_zero, List.set_cons_succ, List.toList_toArray])
              refine wpAnyH_done (by kernel_rfl) ?_ _
              go_wp2_with fail
              have hp3 := HPI2.out
              rw [show gOf NS' = NS'.map (·.1) from rfl, addEnt_set (d := (a7, y.2.2.2.1 + 1, c7)) HY.out] at hp3
              exact ⟨⟨k + 1, _, nn', nc', _, _, by omega, by go_num, HP7, Lib.hid hp3⟩, by simp [intOf]; omega⟩
    · obtain rfl : k = n := by omega
      have hlen : (lOf T).length = k := by rw [List.length_map]; exact HL.out
      have hI2 := hI.out
      rw [← hlen] at hI2
      have HDN := Lib.hid hI2.done
      clear hI2
      have hmm : ∀ x ∈ NS, x.1 ∈ gOf NS := fun x hx => List.mem_map.2 ⟨x, hx, rfl⟩
      have hnum : NdSm NS := ⟨fun x hx e he => by
        refine ⟨by have := (hI.out.ents x.1 (hmm x hx)).2 e he; exact ⟨by omega, by omega⟩, ?_⟩
        obtain ⟨l, hl, h2⟩ := (hI.out.dat x.1 (hmm x hx)).2 e he
        obtain ⟨z, hz, rfl⟩ := List.mem_map.1 hl
        have := (HN.out.str z hz).1
        omega, fun x hx => by
        have h1 := (hI.out.ents x.1 (hmm x hx)).1
        have h2 := (hP.out.pls.ent x hx).ets.len
        omega, fun x hx => by
        obtain ⟨l, hl, _, h2⟩ := (hI.out.dat x.1 (hmm x hx)).1
        obtain ⟨z, hz, rfl⟩ := List.mem_map.1 hl
        have := HTG.out z hz
        rw [h2]; omega⟩
      have hdat : ∀ x ∈ NS, x.2.1.2.1 ≤ 140737488355328 := fun x hx => by
        obtain ⟨l, hl, he, _⟩ := (hI.out.dat x.1 (hmm x hx)).1
        obtain ⟨z, hz, rfl⟩ := List.mem_map.1 hl
        have h1 := HN.out.dat z hz
        have h2 := (HT.out.dat z hz).len
        have h3 := ((hP.out.pls.dat x hx).dat).len
        rw [he, h2] at h3
        omega
      have HTR := Lib.hid (RTree_any na nn nc NS 1 wr hP.out.pls.nds hnum hdat)
      have hgc : wr.cell? ⟨w.heap.size + 1, 0, none⟩ = some (.slice na nn nc) := by rw [row_cell hP.out.pls.row]; rfl
      clear hmm hnum hdat hlen hI
      go_upto_region 33 with (go_at_call 44; (refine (HTR.out).mono ?_); rintro r w6 ⟨a6, n6, c6, code, SL, rfl, hb6, hy6, hn6⟩; have HB6 := Lib.hid hb6; have HY6 := Lib.hid hy6; have HN6 := Lib.hid hn6; have HP6 := Lib.hid (hP.out.below hb6); clear hb6 hy6 hn6 HTR)
      by_cases hc0 : code = 0
      · subst hc0
        obtain ⟨hto, hnw, _⟩ := HY6.out rfl
        have hL6 : Lns w6 a6 n6 c6 SL := hnw.lns
        have HEQ := Lib.hid (SameLs_any a6 a n6 k c6 c SL T w6 hL6 (HT.out.below HP6.out.bel))
        have HTO := Lib.hid hto
        have HTD : Hid (TreeOk (gOf NS) 1 (lOf T) ↔ SL.map (·.1) = T.map (·.1)) := Lib.hid ⟨fun h => hto.det h, fun h => by show TreeOk _ 1 (T.map (·.1)); rw [← h]; exact hto⟩
        clear hnw hL6 hto HY6 HN6
        go_upto_if 172 with (go_at_call 14; (refine (HEQ.out).mono ?_); rintro r w7 ⟨ok, rfl, hok, hb7⟩; have HOK := Lib.hid hok; have HP7 := Lib.hid (HP6.out.below hb7); clear hok hb7 HEQ)
        cases ok with
        | true =>
          have hgd : w7.cell? ⟨w.heap.size + 1, 0, none⟩ = some (.slice na nn nc) := by rw [row_cell HP7.out.pls.row]; rfl
          have hrc : w7.cell? ⟨w.heap.size, 0, none⟩ = some (.slice none 0 0) := by rw [row_cell HP7.out.rb]; rfl
          have hrf : w7.frozen? ⟨w.heap.size, 0, none⟩ = false := row_froz HP7.out.rb 0
          have hrs : (w7.setCell ⟨w.heap.size, 0, none⟩ (.slice na nn nc)).cell? ⟨w.heap.size, 0, none⟩ = some (.slice na nn nc) := by rw [row_cell (setCell_row HP7.out.rb (.slice na nn nc))]; rfl
          have HYES : Hid (Planted true (lOf T)) := Lib.hid (HDN.out.2 (HTD.out.2 (HOK.out.1 rfl)))
          go_wp2_with fail
          refine bodyPost_ret (v := .tuple #[.agg #[.slice na nn nc], .int .i64 0]) (by simp [results, Try.results25, go_sem, hrs]) rfl ?_
          exact ⟨_, _, _, 0, rfl, HP7.out.bel.setCell (p := ⟨w.heap.size, 0, none⟩) (Nat.le_refl _) _, by simp [(planted_same _).1 HYES.out]⟩
        | false =>
          have hrc : w7.cell? ⟨w.heap.size, 0, none⟩ = some (.slice none 0 0) := by rw [row_cell HP7.out.rb]; rfl
          have hrf : w7.frozen? ⟨w.heap.size, 0, none⟩ = false := row_froz HP7.out.rb 0
          have hrs : (w7.setCell ⟨w.heap.size, 0, none⟩ (.slice none 0 0)).cell? ⟨w.heap.size, 0, none⟩ = some (.slice none 0 0) := by rw [row_cell (setCell_row HP7.out.rb (.slice none 0 0))]; rfl
          have HBD : Hid (¬ Planted true (lOf T)) := Lib.hid (fun h => by have := HOK.out.2 (HTD.out.1 (HDN.out.1 h)); cases this)
          go_wp2_with fail
          refine bodyPost_ret (v := .tuple #[.agg #[.slice none 0 0], .int .i64 151]) (by simp [results, Try.results25, go_sem, hrs]) rfl ?_
          exact PlantRes.noT 151 (by decide) HBD.out (HP7.out.bel.setCell (p := ⟨w.heap.size, 0, none⟩) (Nat.le_refl _) _)
      · have hcb : (code != 0) = true := bne_t hc0
        have hrc : w6.cell? ⟨w.heap.size, 0, none⟩ = some (.slice none 0 0) := by rw [row_cell HP6.out.rb]; rfl
        have hrf : w6.frozen? ⟨w.heap.size, 0, none⟩ = false := row_froz HP6.out.rb 0
        have hrs : (w6.setCell ⟨w.heap.size, 0, none⟩ (.slice none 0 0)).cell? ⟨w.heap.size, 0, none⟩ = some (.slice none 0 0) := by rw [row_cell (setCell_row HP6.out.rb (.slice none 0 0))]; rfl
        have HBD : Hid (¬ Planted true (lOf T)) := Lib.hid (fun h => HN6.out hc0 _ (HDN.out.1 h))
        clear hc0
        go_wp2_with fail
        refine bodyPost_ret (v := .tuple #[.agg #[.slice none 0 0], .int .i64 151]) (by simp [results, Try.results25, go_sem, hrs]) rfl ?_
        exact PlantRes.noT 151 (by decide) HBD.out (HP6.out.bel.setCell (p := ⟨w.heap.size, 0, none⟩) (Nat.le_refl _) _)
end Gr
end Go.Proofs.Ytpdkdhcbibcifaa
