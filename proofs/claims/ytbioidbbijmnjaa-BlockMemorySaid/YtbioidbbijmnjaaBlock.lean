/-
  Block: blocks of 512 bytes: a law's 'of', the reference's At, block.Zero.
-/
import Derived.Test.YtbioidbbijmnjaaEqArr
import Derived.Test.YtbioidbbijmnjaaArrs
import Derived.Test.YtbioidbbijmnjaaProg
namespace Go.Proofs.Ytbioidbbijmnjaa
open Go.ChangeShapes Go.WideShapes Go.ChangeAt Go.RowKit
/-- the block of noughts -/
def zblk : List UInt8 := List.replicate 512 0
theorem zblk_len : zblk.length = 512 := by unfold zblk; rw [List.length_replicate]
/-- k bytes of l, noughts behind them -/
def ofK (l : List UInt8) (k : Nat) : List UInt8 := l.take k ++ List.replicate (512 - k) 0
theorem ofK_zero (l : List UInt8) : ofK l 0 = zblk := by unfold ofK zblk; rw [List.take_zero, List.nil_append, Nat.sub_zero]
theorem ofK_len (l : List UInt8) (k : Nat) (h : k ≤ l.length) (h5 : k ≤ 512) : (ofK l k).length = 512 := by unfold ofK; rw [List.length_append, List.length_replicate, List.length_take]; omega
theorem ofK_set (l : List UInt8) (k : Nat) (h : k < l.length) (h5 : k < 512) : (ofK l k).set k (l.getD k 0) = ofK l (k + 1) := by
  have e : 512 - k = (512 - (k + 1)) + 1 := by omega
  have hl : (l.take k).length = k := by simp; omega
  rw [ofK, ofK, e, List.replicate_succ, List.set_append_right _ _ (by omega), hl, Nat.sub_self, List.set_cons_zero, List.take_succ_eq_append_getElem h, List.append_assoc]
  simp [List.getD, List.getElem?_eq_getElem h]
/-- the first bytes of l as a block -/
def ofL (l : List UInt8) : List UInt8 := ofK l (min 512 l.length)
theorem ofL_len (l : List UInt8) : (ofL l).length = 512 := ofK_len l _ (by omega) (by omega)
theorem zeroBlk : (Try.prog.info? 29).bind (·.zero) = some (.agg (rowA zblk)) := by kernel_rfl
theorem buildBlk (w : World) : (Instr.build 29 #[]).run Try.prog w = .ok (.agg (rowA zblk)) w := by kernel_rfl
theorem sizeBlk (l : List UInt8) (h : l.length = 512) : (Try.prog.info? 29).map (·.size) = some (rowA l).size := by rw [rowA_size, h]; kernel_rfl
theorem eqBlk (x y : List UInt8) (hx : x.length = 512) (hy : y.length = 512) (w : World) : (Op.equalIn 10000 29 (.agg (rowA x)) (.agg (rowA y))).run Try.prog w = .ok (decide (x = y)) w :=
  equalIn_arr 9998 512 29 5 x y Try.underlying29 Try.underlying5 (by kernel_rfl) hx hy
theorem eql_blk (x y : List UInt8) (hx : x.length = 512) (hy : y.length = 512) (w : World) : (binOp .eql 29 (.agg (rowA x)) (.agg (rowA y))).run Try.prog w = .ok (.bool (decide (x = y))) w := by
  rw [run_eql_struct, eqBlk x y hx hy]; rfl
theorem neq_blk (x y : List UInt8) (hx : x.length = 512) (hy : y.length = 512) (w : World) : (binOp .neq 29 (.agg (rowA x)) (.agg (rowA y))).run Try.prog w = .ok (.bool (!decide (x = y))) w := by
  rw [run_neq_struct, eqBlk x y hx hy]; rfl
theorem guardBlk : Try.prog.eqGuardType Try.prog.depth 29 = false := by kernel_rfl
/-- a loop that fills a block: what holds of the world at its head -/
structure Filling (w : World) (l : List UInt8) (k : Nat) (wr : World) : Prop where
  bel : Below w.heap.size w wr
  res : wr.heap[w.heap.size]? = some (.cells (rowA zblk) 29 (0, 0))
  var : wr.heap[w.heap.size + 1]? = some (.cells (rowA (ofK l k)) 29 (0, 0))
theorem Filling.start (w : World) (l : List UInt8) : Filling w l 0 ((w.alloc (.cells (rowA zblk) 29)).alloc (.cells (rowA zblk) 29)) := by
  refine ⟨((Below.refl _ _).alloc (Nat.le_refl _) _).alloc (by simp) _, heap_alloc2_old _ _ _, ?_⟩
  rw [ofK_zero]; exact heap_alloc2_new _ _ _
theorem Filling.step {w wr : World} {l : List UInt8} {k : Nat} (h : Filling w l k wr) (hk : k < l.length) (h5 : k < 512) :
    Filling w l (k + 1) (wr.setCell ⟨w.heap.size + 1, k, none⟩ (.int .u8 ((l.getD k 0).toNat : Int))) := by
  refine ⟨h.bel.setCell (by simp) _, ?_, ?_⟩
  · rw [heap_setCell_other _ _ _ _ (by simp)]; exact h.res
  · rw [heap_setCell_same _ _ _ _ _ _ h.var, show (Value.int .u8 ((l.getD k 0).toNat : Int)) = u8v (l.getD k 0) from rfl, rowA_set, ofK_set l k hk h5]
theorem Filling.cell {w wr : World} {l : List UInt8} {k : Nat} (h : Filling w l k wr) (hk : k ≤ l.length) (h5 : k < 512) : ∃ v, wr.cell? ⟨w.heap.size + 1, k, none⟩ = some v := by
  rw [cell_of_row _ _ _ _ _ _ h.var]
  exact ⟨_, rowA_at _ _ (by rw [ofK_len l k hk (by omega)]; exact h5)⟩
theorem Filling.froz {w wr : World} {l : List UInt8} {k : Nat} (h : Filling w l k wr) : wr.frozen? ⟨w.heap.size + 1, k, none⟩ = false := frozen_of_row _ _ _ _ _ h.var
set_option maxRecDepth 100000 in
set_option maxHeartbeats 1000000 in
theorem At_any (a : Option Addr) (n c : Nat) (l : List UInt8) (i : Nat) (w : World) (h : Bs w a n c l) (hi : i * 512 + 512 ≤ n) :
    Calls Try.prog 9 #[.slice a n c, .int .i64 i] w fun e w' => e = .returned (.agg (rowA ((l.drop (i * 512)).take 512))) ∧ Below w.heap.size w w' := by
  have hl := h.len; have hcap := h.cap; have hmax := h.max
  have hlen : (l.drop (i * 512)).length = n - i * 512 := by rw [List.length_drop, hl]
  have hget : ∀ k, (l.drop (i * 512)).getD k 0 = l.getD (i * 512 + k) 0 := fun k => by simp [List.getD]
  have hend : ofK (l.drop (i * 512)) 512 = (l.drop (i * 512)).take 512 := by unfold ofK; rw [Nat.sub_self, List.replicate_zero, List.append_nil]
  generalize l.drop (i * 512) = m at *
  rw [← hend]
  have HL := Lib.hid hl; have HM := Lib.hid hlen; have HG := Lib.hid hget; clear hl hlen hget hend
  have hz := zeroBlk
  have HZ := Lib.hid hz; clear hz
  have HI := Lib.hid (sizeBlk zblk zblk_len)
  have HO := Lib.hid (rowA_one zblk)
  go_enter Try.func9, Try.ntmps9
  go_wp2_with (first
    | (with_reducible refine wpList_alloc_z rfl _ rfl (rowA zblk) HZ.out ?_)
    | (with_reducible refine wpList_build_z rfl _ rfl _ buildBlk ?_)
    | ((with_reducible refine wpList_store_new rfl _ _ _ rfl _ rfl (rowA zblk) rfl ?_ rfl HI.out HO.out ?_); · simp))
  go_loopw [6] (fun j wr => ∃ k : Nat, k ≤ 512 ∧ j = .int .i64 k ∧ Filling w m k wr) (fun j _ => 512 - (intOf j).toNat)
  case atStart => exact ⟨0, by omega, rfl, Filling.start w m⟩
  case round =>
    obtain ⟨k, hk, rfl, hF⟩ := hrel
    by_cases hlt : k < 512
    · obtain ⟨b, off, rfl, hc⟩ := (Below.bs hF.bel h).at (i * 512 + k) (by omega)
      have hs := hF.step (by rw [HM.out]; omega) hlt
      obtain ⟨v0, hv0⟩ := hF.cell (by rw [HM.out]; omega) hlt
      have hfz := hF.froz (k := k)
      rw [HG.out] at hs
      generalize ((l.getD (i * 512 + k) 0).toNat : Int) = g at hc hs
      have HS := Lib.hid hs; clear hs
      have hib : (i : Int) * 512 + 512 ≤ n := by omega
      have hib2 : (i : Int) * 512 + k < n := by omega
      go_wp2
      exact ⟨⟨k + 1, by omega, by go_num, HS.out⟩, by simp [intOf]; omega⟩
    · obtain rfl : k = 512 := by omega
      have r1 := Lib.hid hF.var
      have r2 := Lib.hid hF.res
      have hI2 := Lib.hid (sizeBlk (ofK m 512) (ofK_len m 512 (by rw [HM.out]; omega) (by omega)))
      have hO2 := Lib.hid (rowA_one (ofK m 512))
      have hs2 : Hid ((rowA zblk).size = (rowA (ofK m 512)).size) := by show _ = _; rw [rowA_size, rowA_size, zblk_len, ofK_len m 512 (by rw [HM.out]; omega) (by omega)]
      go_wp2_with (first
        | (with_reducible refine wpList_load_row rfl 29 _ rfl (w.heap.size + 1) rfl 29 (rowA (ofK m 512)) (0, 0) _ r1.out Try.underlying29 rfl hI2.out ?_)
        | (with_reducible refine wpList_store_row rfl 29 _ _ rfl w.heap.size rfl (rowA (ofK m 512)) rfl (rowA zblk) 29 r2.out hs2.out hI2.out hO2.out ?_))
      refine bodyPost_ret (results_cell_row rfl _ _ w.heap.size 29 (rowA (ofK m 512)) (0, 0) _ rfl (setRow_heap _ _ _ _ _ _ r2.out) Try.underlying29 rfl hI2.out) rfl ⟨rfl, Below.setRow hF.bel (Nat.le_refl _) _⟩
set_option maxRecDepth 100000 in
set_option maxHeartbeats 1000000 in
theorem Of_any (a : Option Addr) (n c : Nat) (l : List UInt8) (w : World) (h : Bs w a n c l) :
    Calls Try.prog 12 #[.slice a n c] w fun e w' => e = .returned (.agg (rowA (ofL l))) ∧ Below w.heap.size w w' := by
  have hl := h.len; have hcap := h.cap; have hmax := h.max
  have hend : ofL l = ofK l (min 512 n) := by rw [ofL, hl]
  rw [hend]
  have HL := Lib.hid hl; clear hl hend
  have hz := zeroBlk
  have HZ := Lib.hid hz; clear hz
  have HI := Lib.hid (sizeBlk zblk zblk_len)
  have HO := Lib.hid (rowA_one zblk)
  go_enter Try.func12, Try.ntmps12
  go_wp2_with (first
    | (with_reducible refine wpList_alloc_z rfl _ rfl (rowA zblk) HZ.out ?_)
    | (with_reducible refine wpList_build_z rfl _ rfl _ buildBlk ?_)
    | ((with_reducible refine wpList_store_new rfl _ _ _ rfl _ rfl (rowA zblk) rfl ?_ rfl HI.out HO.out ?_); · simp))
  go_loopw [4] (fun j wr => ∃ k : Nat, k ≤ min 512 n ∧ j = .int .i64 k ∧ Filling w l k wr) (fun j _ => 512 - (intOf j).toNat)
  case atStart => exact ⟨0, by omega, rfl, Filling.start w l⟩
  case round =>
    obtain ⟨k, hk, rfl, hF⟩ := hrel
    by_cases hlt : k < min 512 n
    · obtain ⟨b, off, rfl, hc⟩ := (Below.bs hF.bel h).at k (by omega)
      have hs := hF.step (by rw [HL.out]; omega) (by omega)
      obtain ⟨v0, hv0⟩ := hF.cell (by rw [HL.out]; omega) (by omega)
      have hfz := hF.froz (k := k)
      generalize ((l.getD k 0).toNat : Int) = g at hc hs
      have HS := Lib.hid hs; clear hs
      have hk5 : (k : Int) < 512 := by omega
      have hkn : (k : Int) < n := by omega
      clear h
      go_wp2
      exact ⟨⟨k + 1, by omega, by go_num, HS.out⟩, by simp [intOf]; omega⟩
    · obtain rfl : k = min 512 n := by omega
      have hlen : (ofK l (min 512 n)).length = 512 := ofK_len l _ (by rw [HL.out]; omega) (by omega)
      have r1 := Lib.hid hF.var
      have r2 := Lib.hid hF.res
      have hI2 := Lib.hid (sizeBlk (ofK l (min 512 n)) hlen)
      have hO2 := Lib.hid (rowA_one (ofK l (min 512 n)))
      have hs2 : Hid ((rowA zblk).size = (rowA (ofK l (min 512 n))).size) := by show _ = _; rw [rowA_size, rowA_size, zblk_len, hlen]
      clear hlen
      generalize hq : ofK l (min 512 n) = q at *
      have HQ := Lib.hid hq; clear hq
      by_cases h5 : 512 ≤ n
      · have e : min 512 n = 512 := by omega
        rw [e]
        go_wp2_with (first
          | (with_reducible refine wpList_load_row rfl 29 _ rfl (w.heap.size + 1) rfl 29 (rowA q) (0, 0) _ r1.out Try.underlying29 rfl hI2.out ?_)
          | (with_reducible refine wpList_store_row rfl 29 _ _ rfl w.heap.size rfl (rowA q) rfl (rowA zblk) 29 r2.out hs2.out hI2.out hO2.out ?_))
        refine bodyPost_ret (results_cell_row rfl _ _ w.heap.size 29 (rowA q) (0, 0) _ rfl (setRow_heap _ _ _ _ _ _ r2.out) Try.underlying29 rfl hI2.out) rfl ⟨by rw [HQ.out], Below.setRow hF.bel (Nat.le_refl _) _⟩
      · have e : min 512 n = n := by omega
        rw [e]
        have hn5 : (n : Int) < 512 := by omega
        go_wp2_with (first
          | (with_reducible refine wpList_load_row rfl 29 _ rfl (w.heap.size + 1) rfl 29 (rowA q) (0, 0) _ r1.out Try.underlying29 rfl hI2.out ?_)
          | (with_reducible refine wpList_store_row rfl 29 _ _ rfl w.heap.size rfl (rowA q) rfl (rowA zblk) 29 r2.out hs2.out hI2.out hO2.out ?_))
        refine bodyPost_ret (results_cell_row rfl _ _ w.heap.size 29 (rowA q) (0, 0) _ rfl (setRow_heap _ _ _ _ _ _ r2.out) Try.underlying29 rfl hI2.out) rfl ⟨by rw [HQ.out], Below.setRow hF.bel (Nat.le_refl _) _⟩
end Go.Proofs.Ytbioidbbijmnjaa
