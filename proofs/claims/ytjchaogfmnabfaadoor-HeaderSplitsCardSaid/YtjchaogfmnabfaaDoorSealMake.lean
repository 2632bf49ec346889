/-
  SealMake: block.Seal and the reference's.
-/
import Derived.Test.YtjchaogfmnabfaaDoorSealWalk
namespace Go.Proofs.YtjchaogfmnabfaaDoor
open Go.ChangeShapes Go.WideShapes Go.ChangeAt Go.RowKit
/-- two rows of bytes in the blocks behind w's last one -/
structure Two (w : World) (t : TypeId) (x y : List UInt8) (wr : World) : Prop where
  bel : Below w.heap.size w wr
  r0 : wr.heap[w.heap.size]? = some (.cells (rowA x) t (0, 0))
  r1 : wr.heap[w.heap.size + 1]? = some (.cells (rowA y) t (0, 0))
theorem Two.new (w : World) (t : TypeId) (x y : List UInt8) : Two w t x y ((w.alloc (.cells (rowA x) t)).alloc (.cells (rowA y) t)) :=
  ⟨((Below.refl _ _).alloc (Nat.le_refl _) _).alloc (by simp) _, heap_alloc2_old _ _ _, heap_alloc2_new _ _ _⟩
theorem Two.keep {w wr w' : World} {t : TypeId} {x y : List UInt8} (h : Two w t x y wr) (k : Below wr.heap.size wr w') : Two w t x y w' := by
  refine ⟨Below.seq h.bel k, ?_, ?_⟩
  · rw [k.block _ (Array.getElem?_eq_some_iff.1 h.r0).1]; exact h.r0
  · rw [k.block _ (Array.getElem?_eq_some_iff.1 h.r1).1]; exact h.r1
theorem Two.set {w wr : World} {t : TypeId} {x y : List UInt8} (h : Two w t x y wr) (k : Nat) (b : UInt8) : Two w t (x.set k b) y (wr.setCell ⟨w.heap.size, k, none⟩ (.int .u8 (b.toNat : Int))) := by
  refine ⟨h.bel.setCell (by simp) _, ?_, ?_⟩
  · rw [heap_setCell_same _ _ _ _ _ _ h.r0, show (Value.int .u8 (b.toNat : Int)) = u8v b from rfl, rowA_set]
  · rw [heap_setCell_other _ _ _ _ (by simp)]; exact h.r1
theorem Two.setv {w wr : World} {t : TypeId} {x y : List UInt8} (h : Two w t x y wr) (k : Nat) (b : UInt8) (v : Int) (hv : (b.toNat : Int) = v) : Two w t (x.set k b) y (wr.setCell ⟨w.heap.size, k, none⟩ (.int .u8 v)) := by
  rw [← hv]; exact h.set k b
theorem Two.row {w wr : World} {t : TypeId} {x y : List UInt8} (h : Two w t x y wr) (z : List UInt8) : Two w t z y (wr.setRow w.heap.size (rowA z)) := by
  refine ⟨Below.setRow h.bel (Nat.le_refl _) _, setRow_heap _ _ _ _ _ _ h.r0, ?_⟩
  rw [setRow_other _ _ _ _ (by omega)]; exact h.r1
theorem Two.cell {w wr : World} {t : TypeId} {x y : List UInt8} (h : Two w t x y wr) (k : Nat) (hk : k < x.length) : wr.cell? ⟨w.heap.size, k, none⟩ = some (.int .u8 ((x.getD k 0).toNat : Int)) := by
  rw [cell_of_row _ _ _ _ _ _ h.r0, rowA_at _ _ hk]
theorem Two.froz {w wr : World} {t : TypeId} {x y : List UInt8} (h : Two w t x y wr) (k : Nat) : wr.frozen? ⟨w.heap.size, k, none⟩ = false := frozen_of_row _ _ _ _ _ h.r0
section
variable {P : Program} {ops : Array Oper} {rest : List Oper} {o : Oper} {a : Act} {w : World} {Q : Exit → Act → World → Prop}
/-- copy(x[off:], m) into a row of bytes; m is not empty -/
theorem wpList_copy_row (hgd : o.guard = none) (d s : Operand) (dT sT : TypeId) (ho : o.op = .call { callee := .builtin .copy, args := #[d, s], argTypes := #[dT, sT] }) (elem : TypeId) (hu : P.underlying dT = some (.slice elem)) (hsz : (P.info? elem).map (·.size) = some 1)
    (g off dLen dCap : Nat) (hd : a.eval d = .slice (some ⟨g, off, none⟩) dLen dCap) {sp : Option Addr} {n c : Nat} (hs : a.eval s = .slice sp n c) (l m : List UInt8) {t : TypeId} (hg : w.heap[g]? = some (.cells (rowA l) t (0, 0))) (hm : Bs w sp n c m) (h0 : 0 < n) (hn : n ≤ dLen) (hfit : off + n ≤ l.length)
    (h : wpList P ops Q rest (a.put o.dst (goInt n)) (w.setRow g (rowA (l.take off ++ m ++ l.drop (off + n))))) : wpList P ops Q (o :: rest) a w := by
  obtain rfl := hm.len
  cases sp with
  | none => have := (hm.2.2.2.2 rfl).1; omega
  | some ad =>
    refine wpList_copy_own hgd d s dT sT ho elem hu hsz g off dLen dCap ad m.length c hd hs (rowA l) t hg (m.map u8v) (by rw [List.length_map]; exact (Nat.min_eq_left hn).symm) (fun j v hj => ?_) (by rw [List.length_map, rowA_size]; exact hfit) (bytes_oneCell m) ?_
    · obtain ⟨x, hx, hc⟩ := hm.2.2.2.1 j v hj
      cases hx
      exact hc
    · rw [List.length_map]
      have e : ((rowA l).toList.take off ++ (m.map u8v ++ (rowA l).toList.drop (off + m.length))).toArray = rowA (l.take off ++ m ++ l.drop (off + m.length)) := by
        simp [rowA, List.map_append, List.map_take, List.map_drop]
      rw [e]
      exact h
end
theorem seal_copied (l : List UInt8) (hl : l.length = 512) (m : List UInt8) (hm : m.length = 7) : (l.take 148 ++ m ++ l.drop (148 + 7)).set 155 32 = l.take 148 ++ (m ++ [32]) ++ l.drop 156 := by
  have h1 : (l.take 148 ++ m).length = 155 := by rw [List.length_append, List.length_take]; omega
  rw [show 148 + 7 = 155 by rfl, List.set_append_right _ _ (by omega), h1, Nat.sub_self, List.drop_eq_getElem_cons (show 155 < l.length by omega), List.set_cons_zero]
  simp
theorem zblk_len512 : zblk.length = 512 := zblk_len
set_option maxRecDepth 100000 in
set_option maxHeartbeats 1600000 in
theorem Seal_any (l : List UInt8) (hl : l.length = 512) (w : World) (hT : Bru w) :
    Calls Tryd.prog 30 #[.agg (rowA l)] w fun e w' => e = .returned (.agg (rowA (Plain.seal l))) ∧ Below w.heap.size w w' := by
  have HR := Lib.hid (Two.new w 47 l zblk)
  have HS := Lib.hid (fun w => Sums_any l hl w)
  have HI := Lib.hid (sizeBlk l hl); have HZ := Lib.hid zeroBlk
  have hsl := seal_len l hl
  have HI2 := Lib.hid (sizeBlk (Plain.seal l) hsl); have HO2 := Lib.hid (rowA_one (Plain.seal l))
  have hsz2 : Hid ((rowA zblk).size = (rowA (Plain.seal l)).size) := by show _ = _; rw [rowA_size, rowA_size, zblk_len, hsl]
  have hub := sum_uby_bd l hl
  have hse : Plain.seal l = l.take 148 ++ ((octRow (Plain.sum uby l).toNat 6 ++ [0]) ++ [32]) ++ l.drop 156 := by unfold Plain.seal; simp
  have hfl : (octRow (Plain.sum uby l).toNat 6 ++ [0]).length = 7 := by rw [List.length_append]; unfold octRow; rw [placeRow_len]; rfl
  have hcop := seal_copied l hl (octRow (Plain.sum uby l).toNat 6 ++ [0]) hfl
  rw [← hse] at hcop
  have hput : Plain.putOctal (Plain.sum uby l) 7 = (octRow (Plain.sum uby l).toNat 6 ++ [0], 0) := by
    have h8 : (8 : Nat) ^ 6 = 262144 := rfl
    unfold Plain.putOctal
    rw [if_neg (by omega), if_neg (by omega), show (7 : Int).toNat - 1 = 6 by rfl, if_pos (by omega)]
  have HP := Lib.hid (fun w h => PutOctal_any (Plain.sum uby l) 7 w h (by omega) (by omega) (by decide) (by decide))
  rw [hput] at HP
  generalize octRow (Plain.sum uby l).toNat 6 ++ [0] = m at *
  generalize Plain.sum uby l = U at *
  generalize Plain.sum sby l = V at *
  generalize Plain.seal l = s at *
  have HT := Lib.hid hT; have HC := Lib.hid hcop; have HFL := Lib.hid hfl; have HL := Lib.hid hl
  clear hT hcop hput hse hub hsl hl
  go_enter Tryd.func30, Tryd.ntmps30
  go_upto_region 1 with (first
    | (with_reducible refine wpList_box_agg rfl _ _ rfl (rowA l) rfl ?_)
    | (with_reducible refine wpList_alloc_z rfl _ rfl (rowA zblk) HZ.out ?_))
  have hR := HR.out
  generalize hw0 : (w.alloc (.cells (rowA l) 47)).alloc (.cells (rowA zblk) 47) = wa at *
  clear hw0
  have HRR := Lib.hid hR
  have H0 := Lib.hid hR.r0
  clear hR HR
  go_wp2_with (first
    | (with_reducible refine wpList_load_row rfl _ _ rfl w.heap.size rfl 47 (rowA l) (0, 0) _ H0.out Tryd.underlying47 rfl HI.out ?_)
    | (go_at_call 50; (with_reducible refine (HS.out _).mono ?_); rintro e w1 ⟨rfl, hb1⟩; have HR1 := Lib.hid (HRR.out.keep hb1); clear hb1)
    | (go_at_call 51; (refine (HP.out w1 (by exact HT.out.below HR1.out.bel)).mono ?_); rintro e w2 ⟨a2, n2, c2, rfl, hs2, hb2⟩; have HR2 := Lib.hid (HR1.out.keep hb2); have HS2 := Lib.hid hs2; have HN2 := Lib.hid (hs2.len.symm.trans HFL.out); clear hs2 hb2)
    | (with_reducible refine wpList_slice_row rfl _ _ _ _ rfl Tryd.underlying47 (by kernel_rfl) w.heap.size rfl 148 512 .i64 .i64 rfl rfl (by decide) (by decide) (by decide) ?_)
    | ((with_reducible refine wpList_copy_row rfl _ _ 22 22 rfl 5 Tryd.underlying22 (by kernel_rfl) w.heap.size 148 _ _ rfl rfl l m HR2.out.r0 HS2.out (by rw [HN2.out]; decide) (by rw [HN2.out]; decide) (by rw [HN2.out, HL.out]; decide) ?_); rw [HN2.out]; have hR3 := HR2.out.row (l.take 148 ++ m ++ l.drop (148 + 7)); generalize w2.setRow w.heap.size (rowA (l.take 148 ++ m ++ l.drop (148 + 7))) = w3 at *; have hl3 : (l.take 148 ++ m ++ l.drop (148 + 7)).length = 512 := (by rw [List.length_append, List.length_append, List.length_take, List.length_drop, HFL.out, HL.out]; decide); have hc3 := hR3.cell 155 (by rw [hl3]; decide); have hz3 := hR3.froz 155; have hR4 := hR3.setv 155 32 32 rfl; rw [HC.out] at hR4; have HR4 := Lib.hid hR4; have H4 := Lib.hid hR4.r0; have H5 := Lib.hid hR4.r1; clear hR3 hR4 hl3)
    | (with_reducible refine wpList_load_row rfl _ _ rfl w.heap.size rfl 47 (rowA s) (0, 0) _ H4.out Tryd.underlying47 rfl HI2.out ?_)
    | (with_reducible refine wpList_store_row rfl 47 _ _ rfl (w.heap.size + 1) rfl (rowA s) rfl (rowA zblk) 47 H5.out hsz2.out HI2.out HO2.out ?_))
  refine bodyPost_ret (results_cell_row rfl _ _ (w.heap.size + 1) 47 (rowA s) (0, 0) _ rfl (setRow_heap _ _ _ _ _ _ H5.out) Tryd.underlying47 rfl HI2.out) rfl ⟨rfl, Below.setRow HR4.out.bel (by omega) _⟩
/-- the digits are laid from the last one -/
def laidTo (l : List UInt8) (u k : Nat) : List UInt8 := l.take (154 - k) ++ octRow u k ++ l.drop 154
theorem laidTo_zero (l : List UInt8) (u : Nat) : laidTo l u 0 = l := by
  unfold laidTo octRow; rw [placeRow_zero, List.append_nil, Nat.sub_zero, List.take_append_drop]
theorem laidTo_len (l : List UInt8) (u k : Nat) (hl : l.length = 512) (hk : k ≤ 6) : (laidTo l u k).length = 512 := by
  unfold laidTo octRow; rw [List.length_append, List.length_append, placeRow_len, List.length_take, List.length_drop]; omega
theorem laidTo_set (l : List UInt8) (u k : Nat) (hl : l.length = 512) (hk : k < 6) : (laidTo l u k).set (153 - k) (octDig u k) = laidTo l u (k + 1) := by
  unfold laidTo octRow
  have e : 154 - k = (153 - k) + 1 := by omega
  rw [e, List.take_succ_eq_append_getElem (by omega), placeRow_succ, List.append_assoc, List.append_assoc, List.append_assoc, List.set_append_right _ _ (by rw [List.length_take]; omega), List.length_take, show 153 - k - min (153 - k) l.length = 0 by omega, show 154 - (k + 1) = 153 - k by omega]
  simp
theorem laidTo_end (l : List UInt8) (hl : l.length = 512) : ((laidTo l (Plain.sum uby l).toNat 6).set 154 0).set 155 32 = Plain.seal l := by
  unfold laidTo Plain.seal
  have h1 : (l.take (154 - 6) ++ octRow (Plain.sum uby l).toNat 6).length = 154 := by rw [List.length_append]; unfold octRow; rw [placeRow_len, List.length_take]; omega
  rw [List.set_append_right _ _ (by omega), h1, Nat.sub_self, List.drop_eq_getElem_cons (show 154 < l.length by omega), List.set_cons_zero, List.set_append_right _ _ (by omega), h1, show 155 - 154 = 0 + 1 by rfl, List.set_cons_succ, List.drop_eq_getElem_cons (show 154 + 1 < l.length by omega), List.set_cons_zero]
  simp
end Go.Proofs.YtjchaogfmnabfaaDoor
