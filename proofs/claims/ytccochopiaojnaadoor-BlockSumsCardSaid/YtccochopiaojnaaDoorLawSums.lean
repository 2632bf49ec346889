/-
  LawSums: the law BlockSums, walked (its last region draws its order and loads the block four times: its steps are laid by wip/gen/region.py).
-/
import Derived.Test.YtccochopiaojnaaDoorSealMake
import Derived.Deep.RegionHeld3
import Derived.Deep.MidRow
import Derived.Deep.RegionWith
namespace Go.Proofs.YtccochopiaojnaaDoor
open Go.ChangeShapes Go.WideShapes Go.ChangeAt Go.RowKit
theorem bs255 (w : World) : Bs (w.alloc (.cells #[.int .u8 255] 5)) (some ⟨w.heap.size, 0, none⟩) 1 1 [255] :=
  isSl_new w 5 1 1 #[.int .u8 255] rfl (by unfold maxLen; omega)
theorem sums255 : Plain.sum uby (ofL [255]) = 511 ∧ Plain.sum sby (ofL [255]) = 255 := by
  constructor <;> decide +kernel
set_option maxRecDepth 100000 in
set_option maxHeartbeats 1600000 in
theorem BlockSums_walk (a : Option Addr) (n c : Nat) (l : List UInt8) (w : World) (ev : Value) (hE : ErrIs w ev) (hT : Bru w) (h : Bs w a n c l) (hc : c ≤ 140737488351232) :
    Calls Tryd.prog 12 #[.slice a n c] w fun e w' => e = .returned (.bool true) ∧ Below w.heap.size w w' := by
  obtain ⟨h1, h2⟩ := sums255
  have HA := Lib.hid (bs255 w); have H1 := Lib.hid h1; have H2 := Lib.hid h2
  have HH := Lib.hid h; have HE := Lib.hid hE; have HT := Lib.hid hT
  have hb0 : Below w.heap.size w (w.alloc (.cells #[.int .u8 255] 5)) := (Below.refl _ _).alloc (Nat.le_refl _) _
  have HB0 := Lib.hid hb0
  have hl := ofL_len l
  have HL := Lib.hid hl
  have hl0 := ofL_len [255]
  have HL0 := Lib.hid hl0
  have HG := guardBlk
  have HQ := fun w => eql_blk (Plain.seal (ofL l)) (Plain.seal (ofL l)) (seal_len _ hl) (seal_len _ hl) w
  clear h1 h2 h hE hT hb0 hl hl0
  generalize hq : ofL l = q at *
  have HOQ := Lib.hid hq; clear hq
  generalize hu : Plain.sum uby q = U at *
  generalize hv : Plain.sum sby q = V at *
  generalize hs : Plain.sealed q = s at *
  generalize hz : Plain.seal q = z at *
  have HU := Lib.hid hu; have HV := Lib.hid hv; have HS := Lib.hid hs; have HZ := Lib.hid hz
  clear hu hv hs hz
  simp only [decide_true] at HQ
  have HQ2 : ∀ w' : World, (binOp .eql 44 (.agg (z.map u8v).toArray) (.agg (z.map u8v).toArray)).run Tryd.prog w' = .ok (.bool true) w' := HQ
  have hqe := HOQ.out
  have hql : q.length = 512 := by rw [← hqe]; exact ofL_len l
  have HI := Lib.hid (sizeBlk q hql); have HO := Lib.hid (rowA_one q); have HZB := Lib.hid zeroBlk
  have hszq : Hid ((rowA zblk).size = (rowA q).size) := by show _ = _; rw [rowA_size, rowA_size, zblk_len, hql]
  have C1 : Hid (∀ w, ErrIs w ev → Calls Tryd.prog 39 #[.agg (q.map u8v).toArray] w fun e w' => e = .returned (.bool s) ∧ Below w.heap.size w w') := fun w h => (Sealed_any q hql w ev h).mono fun e w' ⟨he, hb⟩ => ⟨by rw [he, HS.out], hb⟩
  have C2 : Hid (∀ w, Calls Tryd.prog 40 #[.agg (q.map u8v).toArray] w fun e w' => e = .returned (.bool s) ∧ Below w.heap.size w w') := fun w => (RefSealed_any q hql w).mono fun e w' ⟨he, hb⟩ => ⟨by rw [he, HS.out], hb⟩
  have C3 : Hid (∀ w, Bru w → Calls Tryd.prog 41 #[.agg (q.map u8v).toArray] w fun e w' => e = .returned (.agg (z.map u8v).toArray) ∧ Below w.heap.size w w') := fun w h => (Seal_any q hql w h).mono fun e w' ⟨he, hb⟩ => ⟨by rw [he, HZ.out]; rfl, hb⟩
  have C4 : Hid (∀ w, Calls Tryd.prog 42 #[.agg (q.map u8v).toArray] w fun e w' => e = .returned (.agg (z.map u8v).toArray) ∧ Below w.heap.size w w') := fun w => (RefSeal_any q hql w).mono fun e w' ⟨he, hb⟩ => ⟨by rw [he, HZ.out]; rfl, hb⟩
  have C5 : Hid (∀ w, Calls Tryd.prog 36 #[.agg (rowA q)] w fun e w' => e = .returned (.tuple #[.int .i64 U, .int .i64 V]) ∧ Below w.heap.size w w') := fun w => (Sums_any q hql w).mono fun e w' ⟨he, hb⟩ => ⟨by rw [he, HU.out, HV.out], hb⟩
  have C6 : Hid (∀ w, Calls Tryd.prog 38 #[.agg (rowA q)] w fun e w' => e = .returned (.tuple #[.int .i64 U, .int .i64 V]) ∧ Below w.heap.size w w') := fun w => (RefSums_any q hql w).mono fun e w' ⟨he, hb⟩ => ⟨by rw [he, HU.out, HV.out], hb⟩
  have hu24 := Tryd.underlying44
  have hi24 : (Tryd.prog.info? 44).map (·.size) = some (q.map u8v).length := by rw [List.length_map, hql]; kernel_rfl
  have HU24 := Lib.hid hu24; have HI24 := Lib.hid hi24; have HQQ := Lib.hid HQ2
  clear hqe hql HQ HQ2 hu24 hi24
  go_enter Tryd.func12, Tryd.ntmps12
  go_upto_region 4 with (first
    | (go_at_call 37; (with_reducible refine (Of_any _ 1 1 [255] _ HA.out).mono ?_); rintro e w1 ⟨rfl, hb1⟩; have HB1 := Lib.hid (Below.seq HB0.out hb1); clear hb1)
    | (go_at_call 36; (with_reducible refine (Sums_any (ofL [255]) HL0.out w1).mono ?_); rintro e w2 ⟨rfl, hb2⟩; rw [H1.out, H2.out]; have HB2 := Lib.hid (Below.seq HB1.out hb2); clear hb2))
  go_upto_region 5 with (first
    | (go_at_call 37; (with_reducible refine (Of_any a n c l w2 (Below.bs HB2.out HH.out)).mono ?_); rintro e w3 ⟨rfl, hb3⟩; rw [HOQ.out]; have HB3 := Lib.hid (Below.seq HB2.out hb3); clear hb3)
    | (with_reducible refine wpList_alloc_z rfl _ rfl (rowA zblk) HZB.out ?_)
    | ((with_reducible refine wpList_store_new rfl _ _ _ rfl _ rfl (rowA q) rfl rfl hszq.out HI.out HO.out ?_)))
  have hR := RowAt.new w3 44 q
  generalize w3.alloc (.cells (rowA q) 44) = w4 at *
  have HB4 := Lib.hid (Below.seq HB3.out hR.bel)
  have HR4 := Lib.hid hR; have H4 := Lib.hid hR.row; clear hR
  go_upto_region 7 with (first
    | (with_reducible refine wpList_load_row rfl _ _ rfl w3.heap.size rfl 44 (rowA q) (0, 0) _ H4.out Tryd.underlying44 rfl HI.out ?_)
    | (go_at_call 36; (with_reducible refine (C5.out _).mono ?_); rintro e w5 ⟨rfl, hb5⟩; have HR5 := Lib.hid (HR4.out.keep hb5); have H5 := Lib.hid HR5.out.row; have HB5 := Lib.hid (Below.seq HB4.out hb5); clear hb5)
    | (with_reducible refine wpList_load_row rfl _ _ rfl w3.heap.size rfl 44 (rowA q) (0, 0) _ H5.out Tryd.underlying44 rfl HI.out ?_)
    | (go_at_call 38; (with_reducible refine (C6.out _).mono ?_); rintro e w6 ⟨rfl, hb6⟩; have HR6 := Lib.hid (HR5.out.keep hb6); have HB6 := Lib.hid (Below.seq HB5.out hb6); clear hb6))
  have hrow6 := HR6.out.row
  have hr6 : w6.drew.rangeAt w3.heap.size 0 (q.map u8v) := fun j v hj => by
    have h0 : w6.cell? ⟨w3.heap.size, 0 + j, none⟩ = some v := by
      rw [cell_of_row _ _ _ _ _ _ hrow6, Nat.zero_add]; simpa [rowA] using hj
    exact h0
  clear hrow6
  have HB6d := Lib.hid (Below.seq HB6.out ((Below.refl _ _).drew))
  have hu24 := HU24.out; have hi24 := HI24.out; have hqq := HQQ.out
  refine wp_region_noPanic ?_
  refine wp_region_held_drew (S := fun w' => w'.rangeAt w3.heap.size 0 (q.map u8v)) (by kernel_rfl) hr6 (fun hHeld => ?_)
  refine wpAnyH_take (i := 0) (oi := { dst := some 32, op := Op.move (Operand.tmp 3), type := 3, pos := "law.go:110", after := #[], guard := none }) (v := .int .i64 U) rfl (by kernel_rfl) (by kernel_rfl) (by kernel_rfl) (fun _ _ _ h => h) (Or.inl ⟨by rfl, fun wz hSw => ?_⟩) (by assumption) ?_
  · (try go_simp)
  (try simp only [Act.put, List.setIfInBounds_toArray, List.set_cons_zero, List.set_cons_succ])
  refine wpAnyH_take (i := 1) (oi := { dst := some 33, op := Op.move (Operand.tmp 6), type := 3, pos := "law.go:110", after := #[], guard := none }) (v := .int .i64 U) rfl (by kernel_rfl) (by kernel_rfl) (by kernel_rfl) (fun _ _ _ h => h) (Or.inl ⟨by rfl, fun wz hSw => ?_⟩) (by assumption) ?_
  · (try go_simp)
  (try simp only [Act.put, List.setIfInBounds_toArray, List.set_cons_zero, List.set_cons_succ])
  refine wpAnyH_take (i := 2) (oi := { dst := some 34, op := Op.binOp BinOp.eql 3 (Operand.tmp 32) (Operand.tmp 33) 3, type := 4, pos := "law.go:110", after := #[{ on := 0, ground := Ground.data }, { on := 1, ground := Ground.data }], guard := none }) (v := .bool true) rfl (by kernel_rfl) (by kernel_rfl) (by kernel_rfl) (fun _ _ _ h => h) (Or.inl ⟨by rfl, fun wz hSw => ?_⟩) (by assumption) ?_
  · (try go_simp)
  (try simp only [Act.put, List.setIfInBounds_toArray, List.set_cons_zero, List.set_cons_succ])
  refine wpAnyH_take (i := 3) (oi := { dst := some 35, op := Op.move (Operand.tmp 34), type := 4, pos := "law.go:110", after := #[{ on := 2, ground := Ground.data }], guard := none }) (v := .bool true) rfl (by kernel_rfl) (by kernel_rfl) (by kernel_rfl) (fun _ _ _ h => h) (Or.inl ⟨by rfl, fun wz hSw => ?_⟩) (by assumption) ?_
  · (try go_simp)
  (try simp only [Act.put, List.setIfInBounds_toArray, List.set_cons_zero, List.set_cons_succ])
  refine wpAnyH_take (i := 4) (oi := { dst := some 36, op := Op.move (Operand.tmp 4), type := 3, pos := "law.go:110", after := #[{ on := 3, ground := Ground.guard }], guard := some (3, true) }) (v := .int .i64 V) rfl (by kernel_rfl) (by kernel_rfl) (by kernel_rfl) (fun _ _ _ h => h) (Or.inl ⟨by rfl, fun wz hSw => ?_⟩) (by assumption) ?_
  · (try go_simp)
  (try simp only [Act.put, List.setIfInBounds_toArray, List.set_cons_zero, List.set_cons_succ])
  refine wpAnyH_take (i := 5) (oi := { dst := some 37, op := Op.move (Operand.tmp 7), type := 3, pos := "law.go:110", after := #[{ on := 3, ground := Ground.guard }], guard := some (3, true) }) (v := .int .i64 V) rfl (by kernel_rfl) (by kernel_rfl) (by kernel_rfl) (fun _ _ _ h => h) (Or.inl ⟨by rfl, fun wz hSw => ?_⟩) (by assumption) ?_
  · (try go_simp)
  (try simp only [Act.put, List.setIfInBounds_toArray, List.set_cons_zero, List.set_cons_succ])
  refine wpAnyH_take (i := 6) (oi := { dst := some 38, op := Op.binOp BinOp.eql 3 (Operand.tmp 36) (Operand.tmp 37) 3, type := 4, pos := "law.go:110", after := #[{ on := 4, ground := Ground.data }, { on := 5, ground := Ground.data }, { on := 3, ground := Ground.guard }], guard := some (3, true) }) (v := .bool true) rfl (by kernel_rfl) (by kernel_rfl) (by kernel_rfl) (fun _ _ _ h => h) (Or.inl ⟨by rfl, fun wz hSw => ?_⟩) (by assumption) ?_
  · (try go_simp)
  (try simp only [Act.put, List.setIfInBounds_toArray, List.set_cons_zero, List.set_cons_succ])
  refine wpAnyH_take (i := 7) (oi := { dst := some 39, op := Op.pick (Operand.tmp 35) (Operand.tmp 38) (Operand.const (Value.bool false)), type := 4, pos := "law.go:110", after := #[{ on := 3, ground := Ground.data }, { on := 6, ground := Ground.data }], guard := none }) (v := .bool true) rfl (by kernel_rfl) (by kernel_rfl) (by kernel_rfl) (fun _ _ _ h => h) (Or.inl ⟨by rfl, fun wz hSw => ?_⟩) (by assumption) ?_
  · (try go_simp)
  (try simp only [Act.put, List.setIfInBounds_toArray, List.set_cons_zero, List.set_cons_succ])
  refine wpAnyH_take (i := 8) (oi := { dst := some 40, op := Op.move (Operand.tmp 39), type := 4, pos := "law.go:110", after := #[{ on := 7, ground := Ground.data }, { on := 3, ground := Ground.chain }], guard := none }) (v := .bool true) rfl (by kernel_rfl) (by kernel_rfl) (by kernel_rfl) (fun _ _ _ h => h) (Or.inl ⟨by rfl, fun wz hSw => ?_⟩) (by assumption) ?_
  · (try go_simp)
  (try simp only [Act.put, List.setIfInBounds_toArray, List.set_cons_zero, List.set_cons_succ])
  refine wpAnyH_take (i := 9) (oi := { dst := some 41, op := Op.load 44 (Operand.tmp 5), type := 44, pos := "law.go:110", after := #[{ on := 8, ground := Ground.guard }], guard := some (8, true) }) (v := .agg (q.map u8v).toArray) rfl (by kernel_rfl) (by kernel_rfl) (by kernel_rfl) (fun _ _ _ h => h) (yieldsIf_load_mid (by rfl) _ _ rfl w3.heap.size 0 rfl (q.map u8v) _ (fun _ h => h) hu24 rfl hi24) (by assumption) ?_
  (try simp only [Act.put, List.setIfInBounds_toArray, List.set_cons_zero, List.set_cons_succ])
  refine wpAnyH_take (i := 11) (oi := { dst := some 43, op := Op.load 44 (Operand.tmp 5), type := 44, pos := "law.go:110", after := #[{ on := 8, ground := Ground.guard }], guard := some (8, true) }) (v := .agg (q.map u8v).toArray) rfl (by kernel_rfl) (by kernel_rfl) (by kernel_rfl) (fun _ _ _ h => h) (yieldsIf_load_mid (by rfl) _ _ rfl w3.heap.size 0 rfl (q.map u8v) _ (fun _ h => h) hu24 rfl hi24) (by assumption) ?_
  (try simp only [Act.put, List.setIfInBounds_toArray, List.set_cons_zero, List.set_cons_succ])
  refine wpAnyH_ready (rs := [10]) (by kernel_rfl) (by simp) ?_
  refine AllReadyH.cons (o := { dst := some 42, op := Op.call { callee := Callee.value (Operand.func 39), args := #[Operand.tmp 41], argTypes := #[44] }, type := 4, pos := "law.go:110", after := #[{ on := 9, ground := Ground.data }, { on := 8, ground := Ground.chain }, { on := 8, ground := Ground.guard }], guard := some (8, true) }) rfl (fun K hK => ?_) AllReadyH.nil
  go_simp
  (refine (C1.out _ (by exact HE.out.below HB6d.out)).mono ?_); rintro e w7 ⟨rfl, hb7⟩; have hr7 : w7.rangeAt w3.heap.size 0 (q.map u8v) := (fun j v hj => (Below.keeps hb7) _ _ (hr6 j v hj)); have HB7 := Lib.hid (Below.seq HB6d.out hb7); clear hb7
  refine hK.out _ _ ?_ (fun hHeld10 => ?_)
  · exact hr7
  clear hK K
  (try simp only [Act.put, List.setIfInBounds_toArray, List.set_cons_zero, List.set_cons_succ])
  refine wpAnyH_ready (rs := [12]) (by kernel_rfl) (by simp) ?_
  refine AllReadyH.cons (o := { dst := some 44, op := Op.call { callee := Callee.value (Operand.func 40), args := #[Operand.tmp 43], argTypes := #[44] }, type := 4, pos := "law.go:110", after := #[{ on := 11, ground := Ground.data }, { on := 10, ground := Ground.chain }, { on := 8, ground := Ground.guard }], guard := some (8, true) }) rfl (fun K hK => ?_) AllReadyH.nil
  go_simp
  (refine (C2.out w7).mono ?_); rintro e w8 ⟨rfl, hb8⟩; have hr8 : w8.rangeAt w3.heap.size 0 (q.map u8v) := (fun j v hj => (Below.keeps hb8) _ _ (hr7 j v hj)); have HB8 := Lib.hid (Below.seq HB7.out hb8); clear hb8
  refine hK.out _ _ ?_ (fun hHeld12 => ?_)
  · exact hr8
  clear hK K
  (try simp only [Act.put, List.setIfInBounds_toArray, List.set_cons_zero, List.set_cons_succ])
  refine wpAnyH_take (i := 13) (oi := { dst := some 45, op := Op.binOp BinOp.eql 4 (Operand.tmp 42) (Operand.tmp 44) 4, type := 4, pos := "law.go:110", after := #[{ on := 10, ground := Ground.data }, { on := 12, ground := Ground.data }, { on := 8, ground := Ground.guard }], guard := some (8, true) }) (v := .bool true) rfl (by kernel_rfl) (by kernel_rfl) (by kernel_rfl) (fun _ _ _ h => h) (Or.inl ⟨by rfl, fun wz hSw => ?_⟩) (by assumption) ?_
  · (try go_simp)
  (try simp only [Act.put, List.setIfInBounds_toArray, List.set_cons_zero, List.set_cons_succ])
  refine wpAnyH_take (i := 14) (oi := { dst := some 46, op := Op.pick (Operand.tmp 40) (Operand.tmp 45) (Operand.const (Value.bool false)), type := 4, pos := "law.go:110", after := #[{ on := 8, ground := Ground.data }, { on := 13, ground := Ground.data }], guard := none }) (v := .bool true) rfl (by kernel_rfl) (by kernel_rfl) (by kernel_rfl) (fun _ _ _ h => h) (Or.inl ⟨by rfl, fun wz hSw => ?_⟩) (by assumption) ?_
  · (try go_simp)
  (try simp only [Act.put, List.setIfInBounds_toArray, List.set_cons_zero, List.set_cons_succ])
  refine wpAnyH_take (i := 15) (oi := { dst := some 47, op := Op.move (Operand.tmp 46), type := 4, pos := "law.go:110", after := #[{ on := 14, ground := Ground.data }, { on := 12, ground := Ground.chain }], guard := none }) (v := .bool true) rfl (by kernel_rfl) (by kernel_rfl) (by kernel_rfl) (fun _ _ _ h => h) (Or.inl ⟨by rfl, fun wz hSw => ?_⟩) (by assumption) ?_
  · (try go_simp)
  (try simp only [Act.put, List.setIfInBounds_toArray, List.set_cons_zero, List.set_cons_succ])
  refine wpAnyH_take (i := 16) (oi := { dst := some 48, op := Op.load 44 (Operand.tmp 5), type := 44, pos := "law.go:110", after := #[{ on := 15, ground := Ground.guard }], guard := some (15, true) }) (v := .agg (q.map u8v).toArray) rfl (by kernel_rfl) (by kernel_rfl) (by kernel_rfl) (fun _ _ _ h => h) (yieldsIf_load_mid (by rfl) _ _ rfl w3.heap.size 0 rfl (q.map u8v) _ (fun _ h => h) hu24 rfl hi24) (by assumption) ?_
  (try simp only [Act.put, List.setIfInBounds_toArray, List.set_cons_zero, List.set_cons_succ])
  refine wpAnyH_take (i := 18) (oi := { dst := some 50, op := Op.load 44 (Operand.tmp 5), type := 44, pos := "law.go:110", after := #[{ on := 15, ground := Ground.guard }], guard := some (15, true) }) (v := .agg (q.map u8v).toArray) rfl (by kernel_rfl) (by kernel_rfl) (by kernel_rfl) (fun _ _ _ h => h) (yieldsIf_load_mid (by rfl) _ _ rfl w3.heap.size 0 rfl (q.map u8v) _ (fun _ h => h) hu24 rfl hi24) (by assumption) ?_
  (try simp only [Act.put, List.setIfInBounds_toArray, List.set_cons_zero, List.set_cons_succ])
  refine wpAnyH_ready (rs := [17]) (by kernel_rfl) (by simp) ?_
  refine AllReadyH.cons (o := { dst := some 49, op := Op.call { callee := Callee.value (Operand.func 41), args := #[Operand.tmp 48], argTypes := #[44] }, type := 44, pos := "law.go:110", after := #[{ on := 16, ground := Ground.data }, { on := 15, ground := Ground.chain }, { on := 15, ground := Ground.guard }], guard := some (15, true) }) rfl (fun K hK => ?_) AllReadyH.nil
  go_simp
  (refine (C3.out w8 (by exact HT.out.below HB8.out)).mono ?_); rintro e w9 ⟨rfl, hb9⟩; have hr9 : w9.rangeAt w3.heap.size 0 (q.map u8v) := (fun j v hj => (Below.keeps hb9) _ _ (hr8 j v hj)); have HB9 := Lib.hid (Below.seq HB8.out hb9); clear hb9
  refine hK.out _ _ ?_ (fun hHeld17 => ?_)
  · exact hr9
  clear hK K
  (try simp only [Act.put, List.setIfInBounds_toArray, List.set_cons_zero, List.set_cons_succ])
  refine wpAnyH_ready (rs := [19]) (by kernel_rfl) (by simp) ?_
  refine AllReadyH.cons (o := { dst := some 51, op := Op.call { callee := Callee.value (Operand.func 42), args := #[Operand.tmp 50], argTypes := #[44] }, type := 44, pos := "law.go:110", after := #[{ on := 18, ground := Ground.data }, { on := 17, ground := Ground.chain }, { on := 15, ground := Ground.guard }], guard := some (15, true) }) rfl (fun K hK => ?_) AllReadyH.nil
  go_simp
  (refine (C4.out w9).mono ?_); rintro e w10 ⟨rfl, hb10⟩; have hr10 : w10.rangeAt w3.heap.size 0 (q.map u8v) := (fun j v hj => (Below.keeps hb10) _ _ (hr9 j v hj)); have HB10 := Lib.hid (Below.seq HB9.out hb10); clear hb10
  refine hK.out _ _ ?_ (fun hHeld19 => ?_)
  · exact hr10
  clear hK K
  (try simp only [Act.put, List.setIfInBounds_toArray, List.set_cons_zero, List.set_cons_succ])
  refine wpAnyH_take (i := 20) (oi := { dst := some 52, op := Op.binOp BinOp.eql 44 (Operand.tmp 49) (Operand.tmp 51) 44, type := 4, pos := "law.go:110", after := #[{ on := 17, ground := Ground.data }, { on := 19, ground := Ground.data }, { on := 15, ground := Ground.guard }], guard := some (15, true) }) (v := .bool true) rfl (by kernel_rfl) (by kernel_rfl) (by kernel_rfl) (fun _ _ _ h => h) (Or.inl ⟨by rfl, fun wz hSw => ?_⟩) (by assumption) ?_
  · (try go_simp)
  (try simp only [Act.put, List.setIfInBounds_toArray, List.set_cons_zero, List.set_cons_succ])
  refine wpAnyH_take (i := 21) (oi := { dst := some 53, op := Op.pick (Operand.tmp 47) (Operand.tmp 52) (Operand.const (Value.bool false)), type := 4, pos := "law.go:110", after := #[{ on := 15, ground := Ground.data }, { on := 20, ground := Ground.data }], guard := none }) (v := .bool true) rfl (by kernel_rfl) (by kernel_rfl) (by kernel_rfl) (fun _ _ _ h => h) (Or.inl ⟨by rfl, fun wz hSw => ?_⟩) (by assumption) ?_
  · (try go_simp)
  (try simp only [Act.put, List.setIfInBounds_toArray, List.set_cons_zero, List.set_cons_succ])
  refine wpAnyH_take (i := 22) (oi := { dst := some 2, op := Op.assign (Operand.tmp 53), type := 4, pos := "law.go:110", after := #[{ on := 21, ground := Ground.data }, { on := 19, ground := Ground.chain }, { on := 0, ground := Ground.phase }, { on := 1, ground := Ground.phase }, { on := 2, ground := Ground.phase }, { on := 3, ground := Ground.phase }, { on := 4, ground := Ground.phase }, { on := 5, ground := Ground.phase }, { on := 6, ground := Ground.phase }, { on := 7, ground := Ground.phase }, { on := 8, ground := Ground.phase }, { on := 9, ground := Ground.phase }, { on := 10, ground := Ground.phase }, { on := 11, ground := Ground.phase }, { on := 12, ground := Ground.phase }, { on := 13, ground := Ground.phase }, { on := 14, ground := Ground.phase }, { on := 15, ground := Ground.phase }, { on := 16, ground := Ground.phase }, { on := 17, ground := Ground.phase }, { on := 18, ground := Ground.phase }, { on := 19, ground := Ground.phase }, { on := 20, ground := Ground.phase }, { on := 21, ground := Ground.phase }], guard := none }) (v := .bool true) rfl (by kernel_rfl) (by kernel_rfl) (by kernel_rfl) (fun _ _ _ h => h) (Or.inl ⟨by rfl, fun wz hSw => ?_⟩) (by assumption) ?_
  · (try go_simp)
  (try simp only [Act.put, List.setIfInBounds_toArray, List.set_cons_zero, List.set_cons_succ])
  refine wpAnyH_done (by kernel_rfl) ?_ _
  refine NoPanic.normal ?_
  go_wp2
  go_ret
  exact ⟨ret_bool (by simp), HB10.out⟩
end Go.Proofs.YtccochopiaojnaaDoor
