/-
  HdrMkWalk: header.Make.
-/
import Derived.Test.YtamgiffkhnfpmaaDoorJ04
import Derived.Test.YtamgiffkhnfpmaaDoorJ05
import Derived.Test.YtamgiffkhnfpmaaDoorJ06
import Derived.Lib.BufferWrite
namespace Go.Proofs.YtamgiffkhnfpmaaDoor
set_option linter.unusedVariables false
set_option linter.unusedSimpArgs false
open Go.ChangeShapes Go.WideShapes Go.ChangeAt Go.RowKit
section
variable {P : Program} {ops : Array Oper} {rest : List Oper} {o : Oper} {a : Act} {w : World} {Q : Exit → Act → World → Prop} {K : Act → World → Prop} {E : Prop}
theorem run_copy_strrow (dT sT ty elem : TypeId) (hu : P.underlying dT = some (.slice elem)) (hsz : (P.info? elem).map (·.size) = some 1)
    (g off dLen dCap : Nat) (l m : List UInt8) {t : TypeId} (hg : w.heap[g]? = some (.cells (rowA l) t (0, 0))) (hle : m.length ≤ dLen) (hfit : off + m.length ≤ l.length) :
    (Builtin.copy_ #[dT, sT] ty #[.slice (some ⟨g, off, none⟩) dLen dCap, .string ⟨m.toArray⟩]).run P w = .ok (goInt m.length) (w.setRow g (rowA (lay l off m))) := by
  have hr := Lib.run_copy_row_string (P := P) w dT sT ty elem g off dLen dCap ⟨m.toArray⟩ (rowA l) t hu hsz hg (by simpa [ByteArray.size] using hle) (by rw [rowA_size]; simpa [ByteArray.size] using hfit)
  have e : ((rowA l).toList.take off ++ Lib.byteCells m ++ (rowA l).toList.drop (off + m.length)).toArray = rowA (lay l off m) := by
    simp [rowA, lay, Lib.byteCells, u8v, List.map_append, List.map_take, List.map_drop]
  have hsize : (⟨m.toArray⟩ : ByteArray).size = m.length := by simp [ByteArray.size]
  rw [hsize] at hr
  simp only at hr
  rw [e] at hr
  exact hr
/-- copy(x[off:], s), s a string that fits -/
theorem wpList_copy_strrow (hgd : o.guard = none) (d s : Operand) (dT sT : TypeId) (ho : o.op = .call { callee := .builtin .copy, args := #[d, s], argTypes := #[dT, sT] }) (elem : TypeId) (hu : P.underlying dT = some (.slice elem)) (hsz : (P.info? elem).map (·.size) = some 1)
    (g off dLen dCap : Nat) (hd : a.eval d = .slice (some ⟨g, off, none⟩) dLen dCap) (l m : List UInt8) (hs : a.eval s = .string ⟨m.toArray⟩) {t : TypeId} (hg : w.heap[g]? = some (.cells (rowA l) t (0, 0))) (hle : m.length ≤ dLen) (hfit : off + m.length ≤ l.length)
    (h : ∀ w', w' = w.setRow g (rowA (lay l off m)) → wpList P ops Q rest (a.put o.dst (goInt m.length)) w') : wpList P ops Q (o :: rest) a w := by
  refine wpList_plain hgd fun K hK => ?_
  have hrun := run_copy_strrow (P := P) (w := w) dT sT o.type elem hu hsz g off dLen dCap l m hg hle hfit
  unfold Oper.wp
  simp [execOp, ho, resolve, invoke, builtin, hd, hs, hrun, Result.andThen]
  exact hK _ _ (h _ rfl)
/-- .. as a step of a region that draws -/
theorem step_copy_strrow (hgd : o.guard = none) (d s : Operand) (dT sT : TypeId) (ho : o.op = .call { callee := .builtin .copy, args := #[d, s], argTypes := #[dT, sT] }) (elem : TypeId) (hu : P.underlying dT = some (.slice elem)) (hsz : (P.info? elem).map (·.size) = some 1)
    (g off dLen dCap : Nat) (hd : a.eval d = .slice (some ⟨g, off, none⟩) dLen dCap) (l m : List UInt8) (hs : a.eval s = .string ⟨m.toArray⟩) {t : TypeId} (hg : w.heap[g]? = some (.cells (rowA l) t (0, 0))) (hle : m.length ≤ dLen) (hfit : off + m.length ≤ l.length)
    (h : ∀ w', w' = w.setRow g (rowA (lay l off m)) → K (a.put o.dst (goInt m.length)) w') : if Region.wanted o (yielded ops a.tmps) = true then Oper.wp P o a w K Q else E := by
  have hw : Region.wanted o (yielded ops a.tmps) = true := by unfold Region.wanted; rw [hgd]
  rw [if_pos hw]
  have hrun := run_copy_strrow (P := P) (w := w) dT sT o.type elem hu hsz g off dLen dCap l m hg hle hfit
  unfold Oper.wp
  simp [execOp, ho, resolve, invoke, builtin, hd, hs, hrun, Result.andThen]
  exact h _ rfl
end
set_option maxHeartbeats 800000 in
theorem Fits4_any (s : List UInt8) (n : Int) (w : World) (hl : s.length ≤ 140737488351232) :
    Calls Tryd.prog 38 #[.string ⟨s.toArray⟩, .int .i64 n] w fun e w' => e = .returned (.bool (fitB s n)) ∧ w = w' := by
  have h0 : (0 : Int).toNat.toUInt8 = 0 := rfl
  have H0 := Lib.hid h0; clear h0
  unfold fitB
  generalize hi : Lib.indexByte s 0 = i
  have HI := Lib.hid hi; clear hi
  by_cases c1 : (s.length : Int) ≤ n
  · rw [show decide ((s.length : Int) ≤ n) = true from dec_t c1]
    by_cases c2 : i < 0
    · rw [show decide (i < 0) = true from dec_t c2]
      go_enter Tryd.func38, Tryd.ntmps38
      go_wp2_with (go_at_call 66; refine (Tryd.strings_IndexByte _ _ _).mono ?_; rintro e w1 ⟨rfl, hw⟩; obtain rfl := hw.symm; rw [H0.out, HI.out])
      go_ret
      exact ⟨rfl, rfl⟩
    · rw [show decide (i < 0) = false from dec_f c2]
      go_enter Tryd.func38, Tryd.ntmps38
      go_wp2_with (go_at_call 66; refine (Tryd.strings_IndexByte _ _ _).mono ?_; rintro e w1 ⟨rfl, hw⟩; obtain rfl := hw.symm; rw [H0.out, HI.out])
      go_ret
      exact ⟨ret_bool (by first | rfl | exact dec_f (by omega)), rfl⟩
  · rw [show decide ((s.length : Int) ≤ n) = false from dec_f c1]
    go_enter Tryd.func38, Tryd.ntmps38
    go_wp2
    go_ret
    exact ⟨ret_bool (by first | rfl | exact dec_f (by omega)), rfl⟩
/-- the header, the result's variable and the block -/
structure HM (w : World) (h : Hd) (m : List UInt8) (wr : World) : Prop where
  bel : Below w.heap.size w wr
  rx : wr.heap[w.heap.size]? = some (.cells (hdC h) 43 (0, 0))
  rr : wr.heap[w.heap.size + 1]? = some (.cells (rowA zblk) 45 (0, 0))
  rb : wr.heap[w.heap.size + 2]? = some (.cells (rowA m) 45 (0, 0))
theorem HM.new (w : World) (h : Hd) : HM w h zblk (((w.alloc (.cells (hdC h) 43)).alloc (.cells (rowA zblk) 45)).alloc (.cells (rowA zblk) 45)) := by
  have e2 : ((w.alloc (.cells (hdC h) 43)).alloc (.cells (rowA zblk) 45)).heap.size = w.heap.size + 2 := by simp
  refine ⟨(((Below.refl _ _).alloc (Nat.le_refl _) _).alloc (by simp) _).alloc (by simp; omega) _, ?_, ?_, ?_⟩
  · rw [heap_alloc_old _ _ (by omega)]; exact heap_alloc2_old _ _ _
  · rw [heap_alloc_old _ _ (by omega)]; exact heap_alloc2_new _ _ _
  · have := heap_alloc_new ((w.alloc (.cells (hdC h) 43)).alloc (.cells (rowA zblk) 45)) (.cells (rowA zblk) 45)
    rw [e2] at this; exact this
theorem HM.keep {w wr w' : World} {h : Hd} {m : List UInt8} (x : HM w h m wr) (k : Below wr.heap.size wr w') : HM w h m w' := by
  refine ⟨Below.seq x.bel k, ?_, ?_, ?_⟩
  · rw [k.block _ (Array.getElem?_eq_some_iff.1 x.rx).1]; exact x.rx
  · rw [k.block _ (Array.getElem?_eq_some_iff.1 x.rr).1]; exact x.rr
  · rw [k.block _ (Array.getElem?_eq_some_iff.1 x.rb).1]; exact x.rb
theorem HM.lt {w wr : World} {h : Hd} {m : List UInt8} (x : HM w h m wr) : w.heap.size + 2 < wr.heap.size := (Array.getElem?_eq_some_iff.1 x.rb).1
theorem HM.xcell {w wr : World} {h : Hd} {m : List UInt8} (x : HM w h m wr) (k : Nat) : wr.cell? ⟨w.heap.size, k, none⟩ = (hdC h)[k]? := by rw [cell_of_row _ _ _ _ _ _ x.rx]
theorem HM.bcell {w wr : World} {h : Hd} {m : List UInt8} (x : HM w h m wr) (k : Nat) (hk : k < m.length) : wr.cell? ⟨w.heap.size + 2, k, none⟩ = some (.int .u8 ((m.getD k 0).toNat : Int)) := by rw [cell_of_row _ _ _ _ _ _ x.rb, rowA_at _ _ hk]
theorem HM.bfree {w wr : World} {h : Hd} {m : List UInt8} (x : HM w h m wr) (k : Nat) : wr.frozen? ⟨w.heap.size + 2, k, none⟩ = false := frozen_of_row _ _ _ _ _ x.rb
theorem HM.row {w wr : World} {h : Hd} {m : List UInt8} (x : HM w h m wr) (z : List UInt8) : HM w h z (wr.setRow (w.heap.size + 2) (rowA z)) := by
  refine ⟨Below.setRow x.bel (by omega) _, ?_, ?_, setRow_heap _ _ _ _ _ _ x.rb⟩
  · rw [setRow_other _ _ _ _ (by omega)]; exact x.rx
  · rw [setRow_other _ _ _ _ (by omega)]; exact x.rr
theorem HM.set {w wr : World} {h : Hd} {m : List UInt8} (x : HM w h m wr) (k : Nat) (b : UInt8) : HM w h (m.set k b) (wr.setCell ⟨w.heap.size + 2, k, none⟩ (.int .u8 (b.toNat : Int))) := by
  refine ⟨x.bel.setCell (show w.heap.size ≤ (⟨w.heap.size + 2, k, none⟩ : Addr).block by simp only; omega) _, ?_, ?_, ?_⟩
  · rw [heap_setCell_other _ _ _ _ (by simp only; omega)]; exact x.rx
  · rw [heap_setCell_other _ _ _ _ (by simp only; omega)]; exact x.rr
  · rw [heap_setCell_same _ _ _ _ _ _ x.rb, show (Value.int .u8 (b.toNat : Int)) = u8v b from rfl, rowA_set]
/-- and the numbers -/
structure HV (w : World) (h : Hd) (m : List UInt8) (gv : Nat) (vs : List Int) (wr : World) : Prop where
  hm : HM w h m wr
  ge : w.heap.size + 2 < gv
  rv : wr.heap[gv]? = some (.cells (vC vs) 71 (0, 0))
theorem HV.keep {w wr w' : World} {h : Hd} {m : List UInt8} {gv : Nat} {vs : List Int} (x : HV w h m gv vs wr) (k : Below wr.heap.size wr w') : HV w h m gv vs w' :=
  ⟨x.hm.keep k, x.ge, by rw [k.block _ (Array.getElem?_eq_some_iff.1 x.rv).1]; exact x.rv⟩
theorem HV.cell {w wr : World} {h : Hd} {m : List UInt8} {gv : Nat} {vs : List Int} (x : HV w h m gv vs wr) (k : Nat) (hk : k < vs.length) : wr.cell? ⟨gv, k, none⟩ = some (.int .i64 (vs.getD k 0)) := by
  rw [cell_of_row _ _ _ _ _ _ x.rv, vC_at _ _ hk]
theorem HV.row {w wr : World} {h : Hd} {m : List UInt8} {gv : Nat} {vs : List Int} (x : HV w h m gv vs wr) (z : List UInt8) : HV w h z gv vs (wr.setRow (w.heap.size + 2) (rowA z)) := by
  have := x.ge
  exact ⟨x.hm.row z, x.ge, by rw [setRow_other _ _ _ _ (by omega)]; exact x.rv⟩
def vsOf (h : Hd) : List Int := [h.mode, h.uid, h.gid, h.size, h.mtime, h.major, h.minor]
theorem vsOf_at (h : Hd) (k : Nat) (hk : k < 7) : (vsOf h).getD k 0 = vAt h k := by
  rcases (by omega : k = 0 ∨ k = 1 ∨ k = 2 ∨ k = 3 ∨ k = 4 ∨ k = 5 ∨ k = 6) with rfl | rfl | rfl | rfl | rfl | rfl | rfl <;> rfl
theorem fieldAt_lt (k : Nat) (h : k < 7) : (fieldAt k).1 < (fieldAt k).2.1 := by
  rcases (by omega : k = 0 ∨ k = 1 ∨ k = 2 ∨ k = 3 ∨ k = 4 ∨ k = 5 ∨ k = 6) with rfl | rfl | rfl | rfl | rfl | rfl | rfl <;> decide
theorem lay_n {MN M t : List UInt8} {s n : Nat} (h : MN = lay M s t) (hn : t.length = n) : rowA (M.take s ++ t ++ M.drop (s + n)) = rowA MN := by subst hn; rw [h]; rfl
theorem parts_len (h : Hd) (hg : goodH h = true) : (Plain.split h.name).2.1.length ≤ 100 ∧ h.link.length ≤ 100 ∧ h.user.length ≤ 32 ∧ h.group.length ≤ 32 ∧ (Plain.split h.name).1.length ≤ 155 := by
  unfold goodH at hg
  rw [Bool.and_eq_true, Bool.and_eq_true, decide_eq_true_eq] at hg
  obtain ⟨⟨⟨g1, g2, g3, g4, _⟩, _⟩, _⟩ := hg
  rcases Plain.split_cases h.name with ⟨p, s, hps, w1, w2, w3, _⟩ | ⟨h1, _⟩
  · rw [hps]; exact ⟨w2, g2, g3, g4, w3⟩
  · rw [h1] at g1; cases g1
set_option maxRecDepth 100000 in
set_option maxHeartbeats 20000000 in
theorem HMake_any (h : Hd) (hi : HdIn h) (hz : HdSz h) (w : World) (hT : Bru w) :
    Calls Tryd.prog 22 #[.agg (hdC h)] w fun e w' => e = .returned (.tuple #[.agg (rowA (Plain.make h).1), .int .i64 (Plain.make h).2]) ∧ Below w.heap.size w w' := by
  generalize hrr : Plain.make h = r
  have HRES := Lib.hid hrr
  have HSP := Lib.hid (fun w => Split_any h.name w hz.name)
  have HFL := Lib.hid (fun w => Fits4_any h.link 100 w hz.link)
  have HFU := Lib.hid (fun w => Fits4_any h.user 32 w hz.user)
  have HFG := Lib.hid (fun w => Fits4_any h.group 32 w hz.group)
  have HN1 := Lib.hid (goodH_no1 h hi); have HN2 := Lib.hid (goodH_no2 h hi); have HGD := Lib.hid (goodH_eq h hi)
  have HBL := Lib.hid (bTo_len h hi); have HAL := Lib.hid (bAll_eq h hi); have HVI := Lib.hid (vAt_in h hi); have HFK := Lib.hid (fok_len h hi)
  have hp1 : part1 h = (decide ((Plain.split h.name).2.2 = 0) && (fitB h.link 100 && (fitB h.user 32 && (fitB h.group 32 && decide (h.ty ≠ 0))))) := rfl
  have HH := Lib.hid (HM.new w h)
  have HI := Lib.hid (sizeBlk zblk zblk_len); have HO := Lib.hid (rowA_one zblk); have HZ := Lib.hid zeroBlk
  have HT := Lib.hid hT
  unfold splitV at HSP
  clear hrr hi hz hT
  go_enter Tryd.func22, Tryd.ntmps22
  go_upto_region 2 with (first
    | (with_reducible refine wpList_box_agg rfl _ _ rfl (hdC h) rfl ?_)
    | (with_reducible refine wpList_alloc_z rfl _ rfl (rowA zblk) HZ.out ?_))
  have hR := HH.out
  generalize ((w.alloc (.cells (hdC h) 43)).alloc (.cells (rowA zblk) 45)).alloc (.cells (rowA zblk) 45) = wa at *
  have HR := Lib.hid hR
  clear hR HH
  have hx0 : wa.cell? ⟨w.heap.size, 0, none⟩ = some (.string ⟨h.name.toArray⟩) := HR.out.xcell 0
  go_upto_region 3 with (go_at_call 37; (with_reducible refine (HSP.out _).mono ?_); rintro e w1 ⟨rfl, hb1⟩; have HR1 := Lib.hid (HR.out.keep hb1); clear hb1)
  clear hx0 HR HSP
  generalize hC : (Plain.split h.name).2.2 = c at *
  generalize hL : fitB h.link 100 = L at *
  generalize hU : fitB h.user 32 = U at *
  generalize hG : fitB h.group 32 = G at *
  have HP1 := Lib.hid hp1
  generalize hP : part1 h = P1 at *
  have hx1 : w1.cell? ⟨w.heap.size, 1, none⟩ = some (.string ⟨h.link.toArray⟩) := HR1.out.xcell 1
  have hx8 : w1.cell? ⟨w.heap.size, 8, none⟩ = some (.string ⟨h.user.toArray⟩) := HR1.out.xcell 8
  have hx9 : w1.cell? ⟨w.heap.size, 9, none⟩ = some (.string ⟨h.group.toArray⟩) := HR1.out.xcell 9
  have hx7 : w1.cell? ⟨w.heap.size, 7, none⟩ = some (.int .u8 (h.ty.toNat : Int)) := HR1.out.xcell 7
  clear hC hL hU hG hp1 hP
  go_cut [44] (fun s44 wy => s44 = .bool (!P1) ∧ Hid (wy = w1))
  case first =>
    as_aux_lemma =>
      generalize h.ty = TY at *
      generalize h.link = sl at *
      generalize h.user = su at *
      generalize h.group = sg at *
      by_cases c0 : c = 0
      · have t0 : (c != 0) = false := bne_f c0
        cases L with
        | false =>
          have e : P1 = false := by rw [HP1.out]; simp
          subst e
          clear HP1 c0
          go_wp2_with (go_at_call 38; first | ((with_reducible refine (HFL.out _).mono ?_); rintro e w2 ⟨rfl, hw2⟩; obtain rfl := hw2))
          go_meet
          exact ⟨rfl, Lib.hid rfl⟩
        | true =>
          cases U with
          | false =>
            have e : P1 = false := by rw [HP1.out]; simp
            subst e
            clear HP1 c0
            go_wp2_with (go_at_call 38; first | ((with_reducible refine (HFL.out _).mono ?_); rintro e w2 ⟨rfl, hw2⟩; obtain rfl := hw2) | ((with_reducible refine (HFU.out _).mono ?_); rintro e w2 ⟨rfl, hw2⟩; obtain rfl := hw2))
            go_meet
            exact ⟨rfl, Lib.hid rfl⟩
          | true =>
            cases G with
            | false =>
              have e : P1 = false := by rw [HP1.out]; simp
              subst e
              clear HP1 c0
              go_wp2_with (go_at_call 38; first | ((with_reducible refine (HFL.out _).mono ?_); rintro e w2 ⟨rfl, hw2⟩; obtain rfl := hw2) | ((with_reducible refine (HFU.out _).mono ?_); rintro e w2 ⟨rfl, hw2⟩; obtain rfl := hw2) | ((with_reducible refine (HFG.out _).mono ?_); rintro e w2 ⟨rfl, hw2⟩; obtain rfl := hw2))
              go_meet
              exact ⟨rfl, Lib.hid rfl⟩
            | true =>
              by_cases y0 : TY = 0
              · have e : P1 = false := by rw [HP1.out]; simp [y0]
                have t1 : ((TY.toNat : Int) == 0) = true := by rw [y0]; rfl
                subst e
                clear HP1 c0 y0
                go_wp2_with (go_at_call 38; first | ((with_reducible refine (HFL.out _).mono ?_); rintro e w2 ⟨rfl, hw2⟩; obtain rfl := hw2) | ((with_reducible refine (HFU.out _).mono ?_); rintro e w2 ⟨rfl, hw2⟩; obtain rfl := hw2) | ((with_reducible refine (HFG.out _).mono ?_); rintro e w2 ⟨rfl, hw2⟩; obtain rfl := hw2))
                go_meet
                exact ⟨rfl, Lib.hid rfl⟩
              · have e : P1 = true := by rw [HP1.out]; simp [y0, c0]
                have t1 : ((TY.toNat : Int) == 0) = false := by rw [beq_eq_false_iff_ne]; intro h; exact y0 (UInt8.toNat_inj.1 (by simpa using (by omega : TY.toNat = 0)))
                subst e
                clear HP1 c0 y0
                go_wp2_with (go_at_call 38; first | ((with_reducible refine (HFL.out _).mono ?_); rintro e w2 ⟨rfl, hw2⟩; obtain rfl := hw2) | ((with_reducible refine (HFU.out _).mono ?_); rintro e w2 ⟨rfl, hw2⟩; obtain rfl := hw2) | ((with_reducible refine (HFG.out _).mono ?_); rintro e w2 ⟨rfl, hw2⟩; obtain rfl := hw2))
                go_meet
                exact ⟨rfl, Lib.hid rfl⟩
      · have t0 : (c != 0) = true := bne_t c0
        have e : P1 = false := by rw [HP1.out, show decide (c = 0) = false from dec_f c0]; rfl
        subst e
        clear HP1 c0
        go_wp2
        go_meet
        exact ⟨rfl, Lib.hid rfl⟩
  case rest =>
    obtain ⟨rfl, hwc⟩ := hcut
    obtain rfl := hwc.out
    clear hx1 hx8 hx9 hx7 HFL HFU HFG HP1
    go_upto_if 44 with fail
    cases P1 with
    | false =>
      as_aux_lemma =>
        have hr : r = (zblk, 43) := by rw [← HRES.out]; exact make_bad h (HN1.out rfl)
        have HRR := Lib.hid hr
        clear hr HRES HN1 HN2 HGD HBL HAL HVI HFK
        go_wp2_with (first
          | (with_reducible refine wpList_build_z rfl _ rfl _ buildBlk ?_)
          | (with_reducible refine wpList_store_row rfl 45 _ _ rfl (w.heap.size + 1) rfl (rowA zblk) rfl (rowA zblk) 45 HR1.out.rr rfl HI.out HO.out ?_))
        exact bodyPost_ret (results_cell_tmp rfl _ _ (w.heap.size + 1) 45 (rowA zblk) (0, 0) _ _ rfl rfl (setRow_heap _ _ _ _ _ _ HR1.out.rr) Tryd.underlying45 rfl HI.out) rfl ⟨by rw [HRR.out]; rfl, Below.setRow HR1.out.bel (by omega) _⟩
    | true =>
      clear HN1
      have hx2 : wc.cell? ⟨w.heap.size, 2, none⟩ = some (.int .i64 h.mode) := HR1.out.xcell 2
      have hx3 : wc.cell? ⟨w.heap.size, 3, none⟩ = some (.int .i64 h.uid) := HR1.out.xcell 3
      have hx4 : wc.cell? ⟨w.heap.size, 4, none⟩ = some (.int .i64 h.gid) := HR1.out.xcell 4
      have hx5 : wc.cell? ⟨w.heap.size, 5, none⟩ = some (.int .i64 h.size) := HR1.out.xcell 5
      have hx6 : wc.cell? ⟨w.heap.size, 6, none⟩ = some (.int .i64 h.mtime) := HR1.out.xcell 6
      have hx10 : wc.cell? ⟨w.heap.size, 10, none⟩ = some (.int .i64 h.major) := HR1.out.xcell 10
      have hx11 : wc.cell? ⟨w.heap.size, 11, none⟩ = some (.int .i64 h.minor) := HR1.out.xcell 11
      have hb := (Below.refl wc.heap.size wc).alloc (Nat.le_refl _) (.cells #[.int .i64 h.mode, .int .i64 h.uid, .int .i64 h.gid, .int .i64 h.size, .int .i64 h.mtime, .int .i64 h.major, .int .i64 h.minor] 71)
      have hv : HV w h zblk wc.heap.size (vsOf h) (wc.alloc (.cells #[.int .i64 h.mode, .int .i64 h.uid, .int .i64 h.gid, .int .i64 h.size, .int .i64 h.mtime, .int .i64 h.major, .int .i64 h.minor] 71)) := ⟨HR1.out.keep hb, HR1.out.lt, heap_alloc_new wc _⟩
      have HV0 := Lib.hid hv
      clear hb hv
      go_upto_region 6 with fail
      generalize wc.alloc (.cells #[.int .i64 h.mode, .int .i64 h.uid, .int .i64 h.gid, .int .i64 h.size, .int .i64 h.mtime, .int .i64 h.major, .int .i64 h.minor] 71) = wd at *
      generalize wc.heap.size = gv at *
      clear hx2 hx3 hx4 hx5 hx6 hx10 hx11 HR1
      have hvat := vsOf_at h
      have hvl : (vsOf h).length = 7 := rfl
      generalize vsOf h = VS at *
      have HVA := Lib.hid hvat; have HVL := Lib.hid hvl
      clear hvat hvl
      go_wp2_with (go_at_call 39; (with_reducible refine (Fields_any _).mono ?_); rintro e w5 ⟨rfl, hb5⟩; have HV1 := Lib.hid (HV0.out.keep hb5); clear hb5)
      have HFI := Lib.hid (fun k hk w => index_fields k hk w)
      generalize fieldsA = FA at *
      clear HV0
      go_loopw [62] (fun i wr => ∃ k : Nat, k ≤ 7 ∧ i = .int .i64 k ∧ Hid (∀ j, j < k → fok h j = true) ∧ Hid (HV w h (bTo h k) gv VS wr)) (fun i _ => 7 - (intOf i).toNat)
      case atStart => exact ⟨0, by decide, rfl, Lib.hid (fun j hj => absurd hj (Nat.not_lt_zero j)), HV1⟩
      case round =>
        clear HV1
        obtain ⟨k, hk, rfl, hok, hX⟩ := hrel
        by_cases hlt : k < 7
        · as_aux_lemma =>
            have hki : (k : Int) < 7 := by omega
            have hbl := HBL.out k (by omega) hok.out
            have hvi := (inI64_iff (vAt h k)).1 (HVI.out k)
            have hcv := HVA.out k hlt
            have hfd := fieldAt_bd k hlt
            have hfl2 := fieldAt_lt k hlt
            have hfo : fok h k = decide ((Plain.put (vAt h k) (wAt k)).2 = 0 ∧ (fieldAt k).2.2.1 ≤ vAt h k ∧ vAt h k ≤ (fieldAt k).2.2.2) := rfl
            have hfl := HFK.out k hlt
            have hnx : bTo h (k + 1) = lay (bTo h k) (fieldAt k).1 (Plain.put (vAt h k) (wAt k)).1 := rfl
            have hwk : wAt k = ((fieldAt k).2.1 : Int) - ((fieldAt k).1 : Int) := rfl
            have HW1 := HFI.out k hlt
            have hno := HN2.out k hlt
            unfold fieldV at HW1
            generalize hfk : fok h k = FK at *
            generalize hmn : bTo h (k + 1) = MN at *
            generalize bTo h k = M at *
            generalize vAt h k = v at *
            generalize wAt k = N at *
            generalize fieldAt k = f at *
            obtain ⟨s, e, lo, hi⟩ := f
            simp only at hfd hfl2 hfo hfl hnx hwk HW1
            have HFKK : Hid (∀ w, (Instr.index 74 (.agg FA) (.int .i64 (k : Int))).run Tryd.prog w = .ok (.agg #[.int .i64 (s : Int), .int .i64 (e : Int), .int .i64 lo, .int .i64 hi]) w) := HW1
            have HPUT := Lib.hid (fun w h => Put_any v N w h hvi.1 (by omega) (by omega) (by omega))
            generalize Plain.put v N = q at *
            obtain ⟨t, code⟩ := q
            simp only at hfo hfl hnx
            have hX8 := hX.out.keep ((Below.refl _ _).alloc (Nat.le_refl _) (.cells #[.int .i64 (s : Int), .int .i64 (e : Int), .int .i64 lo, .int .i64 hi] 73))
            have HX8 := Lib.hid hX8
            have hrf : (wr.alloc (.cells #[.int .i64 (s : Int), .int .i64 (e : Int), .int .i64 lo, .int .i64 hi] 73)).heap[wr.heap.size]? = some (.cells #[.int .i64 (s : Int), .int .i64 (e : Int), .int .i64 lo, .int .i64 hi] 73 (0, 0)) := heap_alloc_new wr _
            have HRF := Lib.hid hrf
            obtain ⟨hse, he5, hs5⟩ := hfd
            have HBLL := Lib.hid hbl; have HCV := Lib.hid hcv; have HFO := Lib.hid hfo; have HFL := Lib.hid hfl; have HNX := Lib.hid hnx; have HNO := Lib.hid hno; have HKF := Lib.hid hfk; have HMN := Lib.hid hmn
            clear hbl hcv hfo hfl hnx hno HW1 hX8 hrf hfk hmn HFI HFK HVI HVA HBL HN2
            go_upto_region 9 with (refine wpList_index_at (vy := .agg FA) (vx := .int .i64 (k : Int)) rfl 74 (.tmp 61) (.tmp 62) rfl rfl rfl (.agg #[.int .i64 (s : Int), .int .i64 (e : Int), .int .i64 lo, .int .i64 hi]) (HFKK.out _) ?_)
            generalize wr.alloc (.cells #[.int .i64 (s : Int), .int .i64 (e : Int), .int .i64 lo, .int .i64 hi] 73) = wq at *
            generalize wr.heap.size = gf at *
            have hcv : wq.cell? ⟨gv, k, none⟩ = some (.int .i64 v) := by rw [HX8.out.cell k (by rw [HVL.out]; exact hlt), HCV.out]
            have hc0 : wq.cell? ⟨gf, 0, none⟩ = some (.int .i64 (s : Int)) := by rw [cell_of_row _ _ _ _ _ _ HRF.out]; rfl
            have hc1 : wq.cell? ⟨gf, 1, none⟩ = some (.int .i64 (e : Int)) := by rw [cell_of_row _ _ _ _ _ _ HRF.out]; rfl
            have HD := Lib.hid (And.intro hcv (And.intro hc1 hc0))
            have hwr : IntKind.i64.wrap ((e : Int) - (s : Int)) = N := by rw [hwk]; exact IntWalk.i64_in _ (by omega)
            have hk0 : (0 : Int) ≤ (k : Int) := by omega
            clear hX hwk hcv hc0 hc1
            go_region_held3 (fun w' => w'.cell? ⟨gv, k, none⟩ = some (.int .i64 v) ∧ w'.cell? ⟨gf, 1, none⟩ = some (.int .i64 (e : Int)) ∧ w'.cell? ⟨gf, 0, none⟩ = some (.int .i64 (s : Int))) (first | exact HD.out | exact HD7.out) (first
              | (go_at_call 10; (with_reducible refine (HPUT.out _ (by exact (HT.out.below HX8.out.hm.bel).below ((Below.refl _ _).drew))).mono ?_); rintro e7 w7 ⟨a7, n7, c7, rfl, hs7, hb7⟩; have hd7 := Below.seq ((Below.refl wq.heap.size wq).drew) hb7; have HX7 := Lib.hid (HX8.out.keep hd7); have HS7 := Lib.hid hs7; have HD7 := Lib.hid (And.intro (Below.keeps hd7 _ _ HD.out.1) (And.intro (Below.keeps hd7 _ _ HD.out.2.1) (Below.keeps hd7 _ _ HD.out.2.2))); have HRF7 : Hid (w7.heap[gf]? = some (.cells #[.int .i64 (s : Int), .int .i64 (e : Int), .int .i64 lo, .int .i64 hi] 73 (0, 0))) := Lib.hid (by rw [hd7.block _ (Array.getElem?_eq_some_iff.1 HRF.out).1]; exact HRF.out); clear hs7 hb7 hd7))
            clear hwr HPUT HD HX8 HRF
            have hcv : w7.cell? ⟨gv, k, none⟩ = some (.int .i64 v) := HD7.out.1
            have hc0 : w7.cell? ⟨gf, 0, none⟩ = some (.int .i64 (s : Int)) := HD7.out.2.2
            have hc1 : w7.cell? ⟨gf, 1, none⟩ = some (.int .i64 (e : Int)) := HD7.out.2.1
            have hc2 : w7.cell? ⟨gf, 2, none⟩ = some (.int .i64 lo) := by rw [cell_of_row _ _ _ _ _ _ HRF7.out]; rfl
            have hc3 : w7.cell? ⟨gf, 3, none⟩ = some (.int .i64 hi) := by rw [cell_of_row _ _ _ _ _ _ HRF7.out]; rfl
            have HXQ : Hid (∀ n, HV w h M gv VS (w7.drewN n)) := Lib.hid (fun n => HX7.out.keep (Below.drewN (Below.refl _ _) n))
            have HSQ : Hid (∀ n, Bs (w7.drewN n) a7 n7 c7 t) := Lib.hid (fun n => Below.bs (Below.drewN (Below.refl w7.heap.size w7) n) HS7.out)
            clear HD7 HRF7 HX7
            by_cases hgood : code = 0 ∧ lo ≤ v ∧ v ≤ hi
            · obtain ⟨g1, g2, g3⟩ := hgood
              have hfk : FK = true := by rw [HFO.out]; exact dec_t ⟨g1, g2, g3⟩
              have hl := HFL.out hfk
              have hok2 : ∀ j, j < k + 1 → fok h j = true := fun j hj => by
                by_cases ej : j = k
                · subst ej; rw [HKF.out]; exact hfk
                · exact hok.out j (by omega)
              have HOK2 := Lib.hid hok2
              have d1 : (code != 0) = false := bne_f g1
              have d2 : ¬ v < lo := by omega
              have d3 : ¬ hi < v := by omega
              have hn7 : n7 = e - s := by rw [← HS7.out.len]; exact hl
              have hpos : 0 < e - s := by omega
              have HN7 := Lib.hid hn7
              clear hok2 hfk hl HFO HFL hn7 HS7
              have h12 : (s : Int) ≤ e := by omega
              have h13 : (e : Int) ≤ 512 := by omega
              go_wp2_with fail
              go_quiet (fail)
              go_wp2_with (first
                | (with_reducible refine wpList_slice_row rfl _ _ _ _ rfl Tryd.underlying45 (by kernel_rfl) (w.heap.size + 2) rfl s e .i64 .i64 rfl rfl hse (by omega) (by omega) ?_)
                | ((with_reducible refine wpList_copy_row rfl _ _ 23 23 rfl 5 Tryd.underlying23 (by kernel_rfl) (w.heap.size + 2) s _ _ rfl rfl M t (HXQ.out _).hm.rb (HSQ.out _) (by rw [HN7.out]; exact hpos) (by rw [HN7.out]; exact Nat.le_refl _) (by rw [HN7.out, HBLL.out]; omega) ?_); rw [lay_n HNX.out (HSQ.out 0).len]))
              go_round
              case rel => exact ⟨k + 1, by omega, by go_num, HOK2, Lib.hid (by rw [HMN.out]; exact (HXQ.out _).row MN)⟩
              case measure => simp [intOf]; omega
            · have hno : goodH h = false := HNO.out (by rw [HFO.out]; exact dec_f hgood)
              have hr : r = (zblk, 43) := by rw [← HRES.out]; exact make_bad h hno
              have HRR := Lib.hid hr
              have hways : (code != 0) = true ∨ ((code != 0) = false ∧ v < lo) ∨ ((code != 0) = false ∧ ¬ v < lo ∧ hi < v) := by
                by_cases c1 : code = 0
                · by_cases c2 : v < lo
                  · exact .inr (.inl ⟨bne_f c1, c2⟩)
                  · exact .inr (.inr ⟨bne_f c1, c2, Int.not_le.1 (fun c3 => hgood ⟨c1, Int.not_lt.1 c2, c3⟩)⟩)
                · exact .inl (bne_t c1)
              clear hr hno hgood HRES HNO HFO HFL HGD HAL
              rcases hways with d1 | ⟨d1, d2⟩ | ⟨d1, d2, d3⟩
              all_goals
                go_wp2_with fail
                go_quiet (fail)
                go_wp2_with (first
                  | (with_reducible refine wpList_build_z rfl _ rfl _ buildBlk ?_)
                  | (with_reducible refine wpList_store_row rfl 45 _ _ rfl (w.heap.size + 1) rfl (rowA zblk) rfl (rowA zblk) 45 (HXQ.out _).hm.rr rfl HI.out HO.out ?_))
                exact bodyPost_ret (results_cell_tmp rfl _ _ (w.heap.size + 1) 45 (rowA zblk) (0, 0) _ _ rfl rfl (setRow_heap _ _ _ _ _ _ (HXQ.out _).hm.rr) Tryd.underlying45 rfl HI.out) rfl ⟨by rw [HRR.out]; rfl, Below.setRow (HXQ.out _).hm.bel (by omega) _⟩
        · obtain rfl : k = 7 := by omega
          as_aux_lemma =>
            have hki : ¬ (7 : Int) < 7 := by omega
            have hgd : goodH h = true := HGD.out.2 ⟨by first | trivial | rfl, hok.out⟩
            have hall := HAL.out hgd
            have hr : r = (Plain.seal (blkOf h), 0) := by rw [← HRES.out]; exact make_good h hgd
            have hlen := HBL.out 7 (by decide) hok.out
            have hpt := parts_len h hgd
            obtain ⟨q1, q2, q3, q4, q5⟩ := hpt
            unfold bAll at hall
            have hsl : (blkOf h).length = 512 := by
              rw [← hall]
              have l1 : (lay (bTo h 7) 0 (Plain.split h.name).2.1).length = 512 := by rw [lay_len _ _ _ (by omega), hlen]
              have l2 : (lay (lay (bTo h 7) 0 (Plain.split h.name).2.1) 156 [h.ty]).length = 512 := by rw [lay_len _ _ _ (by rw [l1]; simp), l1]
              have l3 : (lay (lay (lay (bTo h 7) 0 (Plain.split h.name).2.1) 156 [h.ty]) 157 h.link).length = 512 := by rw [lay_len _ _ _ (by omega), l2]
              have l4 : (lay (lay (lay (lay (bTo h 7) 0 (Plain.split h.name).2.1) 156 [h.ty]) 157 h.link) 257 magicU).length = 512 := by rw [lay_len _ _ _ (by rw [l3]; decide), l3]
              have l5 : (lay (lay (lay (lay (lay (bTo h 7) 0 (Plain.split h.name).2.1) 156 [h.ty]) 157 h.link) 257 magicU) 265 h.user).length = 512 := by rw [lay_len _ _ _ (by omega), l4]
              have l6 : (lay (lay (lay (lay (lay (lay (bTo h 7) 0 (Plain.split h.name).2.1) 156 [h.ty]) 157 h.link) 257 magicU) 265 h.user) 297 h.group).length = 512 := by rw [lay_len _ _ _ (by omega), l5]
              rw [lay_len _ _ _ (by omega), l6]
            have HSEAL := Lib.hid (fun w hT => Seal_any (blkOf h) hsl w hT)
            have HIS := Lib.hid (sizeBlk (Plain.seal (blkOf h)) (seal_len _ hsl)); have HOS := Lib.hid (rowA_one (Plain.seal (blkOf h)))
            have HSS : Hid ((rowA zblk).size = (rowA (Plain.seal (blkOf h))).size) := by show _ = _; rw [rowA_size, rowA_size, zblk_len, seal_len _ hsl]
            have HIB := Lib.hid (sizeBlk (blkOf h) hsl)
            generalize Plain.seal (blkOf h) = SB at *
            generalize blkOf h = BO at *
            generalize bTo h 7 = M0 at *
            generalize (Plain.split h.name).2.1 = ps at *
            generalize (Plain.split h.name).1 = pp at *
            obtain ⟨M1, hM1⟩ : ∃ M, M = lay M0 0 ps := ⟨_, rfl⟩
            obtain ⟨M2, hM2⟩ : ∃ M, M = lay M1 156 [h.ty] := ⟨_, rfl⟩
            obtain ⟨M3, hM3⟩ : ∃ M, M = lay M2 157 h.link := ⟨_, rfl⟩
            obtain ⟨M4, hM4⟩ : ∃ M, M = lay M3 257 magicU := ⟨_, rfl⟩
            obtain ⟨M5, hM5⟩ : ∃ M, M = lay M4 265 h.user := ⟨_, rfl⟩
            obtain ⟨M6, hM6⟩ : ∃ M, M = lay M5 297 h.group := ⟨_, rfl⟩
            rw [← hM1, ← hM2, ← hM3, ← hM4, ← hM5, ← hM6] at hall
            have l1 : M1.length = 512 := by rw [hM1, lay_len _ _ _ (by omega), hlen]
            have l2 : M2.length = 512 := by rw [hM2, lay_len _ _ _ (by rw [l1]; simp), l1]
            have l3 : M3.length = 512 := by rw [hM3, lay_len _ _ _ (by omega), l2]
            have l4 : M4.length = 512 := by rw [hM4, lay_len _ _ _ (by rw [l3]; decide), l3]
            have l5 : M5.length = 512 := by rw [hM5, lay_len _ _ _ (by omega), l4]
            have l6 : M6.length = 512 := by rw [hM6, lay_len _ _ _ (by omega), l5]
            have hset : M1.set 156 h.ty = M2 := by rw [hM2, lay_one _ _ _ (by rw [l1]; decide)]
            have HM1 := Lib.hid hM1; have HM3 := Lib.hid hM3; have HM4 := Lib.hid hM4; have HM5 := Lib.hid hM5; have HM6 := Lib.hid hM6; have HALL := Lib.hid hall; have HSET := Lib.hid hset; have HRR := Lib.hid hr
            have L0 := Lib.hid hlen; have L1 := Lib.hid l1; have L2 := Lib.hid l2; have L3 := Lib.hid l3; have L4 := Lib.hid l4; have L5 := Lib.hid l5; have L6 := Lib.hid l6
            have Q1 := Lib.hid q1; have Q2 := Lib.hid q2; have Q3 := Lib.hid q3; have Q4 := Lib.hid q4; have Q5 := Lib.hid q5
            have HX0 := Lib.hid hX.out.hm
            have hwr := HX0.out.bel
            clear hgd hall hr hlen hM1 hM2 hM3 hM4 hM5 hM6 l1 l2 l3 l4 l5 l6 hset q1 q2 q3 q4 q5 hsl hX HGD HBL HAL HVI HFK HN2 HRES HFI HVA HVL hok hk hlt HI HO hwr
            go_upto_region 15 with (first
              | (with_reducible refine wpList_slice_row rfl _ _ _ _ rfl Tryd.underlying45 (by kernel_rfl) (w.heap.size + 2) rfl 0 512 .i64 .i64 rfl rfl (by decide) (by decide) (by decide) ?_)
              | ((with_reducible refine wpList_copy_strrow rfl _ _ 23 9 rfl 5 Tryd.underlying23 (by kernel_rfl) (w.heap.size + 2) 0 _ _ rfl M0 ps rfl HX0.out.rb (by have := Q1.out; omega) (by rw [L0.out]; have := Q1.out; omega) ?_); intro w20 hw20; have HX1 := Lib.hid (by have hh := HX0.out.row M1; rw [HM1.out, ← hw20, ← HM1.out] at hh; exact hh : HM w h M1 w20); clear hw20))
            clear HX0
            have hx7 : w20.cell? ⟨w.heap.size, 7, none⟩ = some (.int .u8 (h.ty.toNat : Int)) := HX1.out.xcell 7
            have hxb := HX1.out.bcell 156 (by rw [L1.out]; decide)
            have hfb := HX1.out.bfree 156
            have hX2 := HX1.out.set 156 h.ty
            rw [HSET.out] at hX2
            have HX2 := Lib.hid hX2
            clear hX2
            go_upto_region 16 with fail
            generalize w20.setCell ⟨w.heap.size + 2, 156, none⟩ (.int .u8 (h.ty.toNat : Int)) = w21 at *
            clear hx7 hxb hfb HX1
            have hd_ := HX2.out.keep ((Below.refl _ _).drew)
            have HDR := Lib.hid hd_
            have HLD : Hid (w21.drew.cell? ⟨w.heap.size, 1, none⟩ = some (.string ⟨h.link.toArray⟩)) := Lib.hid (hd_.xcell 1)
            have hs1 := fun wx => run_slice_arr (P := Tryd.prog) 45 Tryd.underlying45 (by kernel_rfl) (w.heap.size + 2) (some 157) none 157 512 rfl rfl (by decide) (by decide) (by decide) wx
            simp only [Option.map] at hs1
            clear hd_
            go_region_held3 (fun w' => w'.cell? ⟨w.heap.size, 1, none⟩ = some (.string ⟨h.link.toArray⟩)) (first | exact HLD.out | exact HLE.out) (first
              | (refine step_copy_strrow (by rfl) _ _ 23 9 (by rfl) 5 Tryd.underlying23 (by kernel_rfl) (w.heap.size + 2) 157 _ _ (by rfl) M2 h.link (by rfl) (by exact HDR.out.rb) (by have := Q2.out; omega) (by rw [L2.out]; have := Q2.out; omega) ?_; intro w22 hw_; have HX3 := Lib.hid (by have hh := HDR.out.row M3; rw [HM3.out, ← hw_, ← HM3.out] at hh; exact hh : HM w h M3 w22); have HLE : Hid (w22.cell? ⟨w.heap.size, 1, none⟩ = some (.string ⟨h.link.toArray⟩)) := Lib.hid (HX3.out.xcell 1); clear hw_))
            clear hs1 HDR HLD HLE HX2
            go_upto_region 18 with (first
              | (with_reducible refine wpList_slice_row rfl _ _ _ _ rfl Tryd.underlying45 (by kernel_rfl) (w.heap.size + 2) rfl 257 512 .i64 .i64 rfl rfl (by decide) (by decide) (by decide) ?_)
              | ((with_reducible refine wpList_copy_strrow rfl _ _ 23 9 rfl 5 Tryd.underlying23 (by kernel_rfl) (w.heap.size + 2) 257 _ _ rfl M3 magicU rfl HX3.out.rb (by decide) (by rw [L3.out]; decide) ?_); intro w23 hw23; have HX4 := Lib.hid (by have hh := HX3.out.row M4; rw [HM4.out, ← hw23, ← HM4.out] at hh; exact hh : HM w h M4 w23); clear hw23))
            clear HX3
            have hd_ := HX4.out.keep ((Below.refl _ _).drew)
            have HDR := Lib.hid hd_
            have HLD : Hid (w23.drew.cell? ⟨w.heap.size, 8, none⟩ = some (.string ⟨h.user.toArray⟩)) := Lib.hid (hd_.xcell 8)
            have hs1 := fun wx => run_slice_arr (P := Tryd.prog) 45 Tryd.underlying45 (by kernel_rfl) (w.heap.size + 2) (some 265) none 265 512 rfl rfl (by decide) (by decide) (by decide) wx
            simp only [Option.map] at hs1
            clear hd_
            go_region_held3 (fun w' => w'.cell? ⟨w.heap.size, 8, none⟩ = some (.string ⟨h.user.toArray⟩)) (first | exact HLD.out | exact HLE.out) (first
              | (refine step_copy_strrow (by rfl) _ _ 23 9 (by rfl) 5 Tryd.underlying23 (by kernel_rfl) (w.heap.size + 2) 265 _ _ (by rfl) M4 h.user (by rfl) (by exact HDR.out.rb) (by have := Q3.out; omega) (by rw [L4.out]; have := Q3.out; omega) ?_; intro w24 hw_; have HX5 := Lib.hid (by have hh := HDR.out.row M5; rw [HM5.out, ← hw_, ← HM5.out] at hh; exact hh : HM w h M5 w24); have HLE : Hid (w24.cell? ⟨w.heap.size, 8, none⟩ = some (.string ⟨h.user.toArray⟩)) := Lib.hid (HX5.out.xcell 8); clear hw_))
            clear hs1 HDR HLD HLE HX4
            go_upto_region 19 with fail
            have hd_ := HX5.out.keep ((Below.refl _ _).drew)
            have HDR := Lib.hid hd_
            have HLD : Hid (w24.drew.cell? ⟨w.heap.size, 9, none⟩ = some (.string ⟨h.group.toArray⟩)) := Lib.hid (hd_.xcell 9)
            have hs1 := fun wx => run_slice_arr (P := Tryd.prog) 45 Tryd.underlying45 (by kernel_rfl) (w.heap.size + 2) (some 297) none 297 512 rfl rfl (by decide) (by decide) (by decide) wx
            simp only [Option.map] at hs1
            clear hd_
            go_region_held3 (fun w' => w'.cell? ⟨w.heap.size, 9, none⟩ = some (.string ⟨h.group.toArray⟩)) (first | exact HLD.out | exact HLE.out) (first
              | (refine step_copy_strrow (by rfl) _ _ 23 9 (by rfl) 5 Tryd.underlying23 (by kernel_rfl) (w.heap.size + 2) 297 _ _ (by rfl) M5 h.group (by rfl) (by exact HDR.out.rb) (by have := Q4.out; omega) (by rw [L5.out]; have := Q4.out; omega) ?_; intro w25 hw_; have HX6 := Lib.hid (by have hh := HDR.out.row M6; rw [HM6.out, ← hw_, ← HM6.out] at hh; exact hh : HM w h M6 w25); have HLE : Hid (w25.cell? ⟨w.heap.size, 9, none⟩ = some (.string ⟨h.group.toArray⟩)) := Lib.hid (HX6.out.xcell 9); clear hw_))
            clear hs1 HDR HLD HLE HX5
            go_upto_region 21 with (first
              | (with_reducible refine wpList_slice_row rfl _ _ _ _ rfl Tryd.underlying45 (by kernel_rfl) (w.heap.size + 2) rfl 345 512 .i64 .i64 rfl rfl (by decide) (by decide) (by decide) ?_)
              | ((with_reducible refine wpList_copy_strrow rfl _ _ 23 9 rfl 5 Tryd.underlying23 (by kernel_rfl) (w.heap.size + 2) 345 _ _ rfl M6 pp rfl HX6.out.rb (by have := Q5.out; omega) (by rw [L6.out]; have := Q5.out; omega) ?_); intro w26 hw26; have HX7 := Lib.hid (by have hh := HX6.out.row BO; rw [← HALL.out, ← hw26, HALL.out] at hh; exact hh : HM w h BO w26); clear hw26))
            clear HX6
            go_wp2_with (first
              | (with_reducible refine wpList_load_row rfl _ _ rfl (w.heap.size + 2) rfl 45 (rowA BO) (0, 0) _ HX7.out.rb Tryd.underlying45 rfl HIB.out ?_)
              | (go_at_call 35; (refine (HSEAL.out w26 (by exact HT.out.below HX7.out.bel)).mono ?_); rintro e w27 ⟨rfl, hb27⟩; have HX8 := Lib.hid (HX7.out.keep hb27); clear hb27)
              | (with_reducible refine wpList_store_row rfl 45 _ _ rfl (w.heap.size + 1) rfl (rowA SB) rfl (rowA zblk) 45 HX8.out.rr HSS.out HIS.out HOS.out ?_))
            exact bodyPost_ret (results_cell_tmp rfl _ _ (w.heap.size + 1) 45 (rowA SB) (0, 0) _ _ rfl rfl (setRow_heap _ _ _ _ _ _ HX8.out.rr) Tryd.underlying45 rfl HIS.out) rfl ⟨by rw [HRR.out]; rfl, Below.setRow HX8.out.bel (by omega) _⟩
end Go.Proofs.YtamgiffkhnfpmaaDoor
