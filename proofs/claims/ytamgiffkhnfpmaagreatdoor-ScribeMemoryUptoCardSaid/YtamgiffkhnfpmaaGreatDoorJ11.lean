/-
  J11: RefLaid, RefWriteWalk, joined.
-/
import Derived.Test.YtamgiffkhnfpmaaGreatDoorJ10
import Derived.Test.YtamgiffkhnfpmaaGreatDoorHdrMkRef
import Derived.Test.YtamgiffkhnfpmaaGreatDoorJ01
import Derived.Test.YtamgiffkhnfpmaaGreatDoorJ09
namespace Go.Proofs.YtamgiffkhnfpmaaGreatDoor
set_option linter.unusedVariables false
set_option linter.unusedSimpArgs false
open Go.ChangeShapes Go.WideShapes Go.ChangeAt Go.RowKit
theorem u8_take (l : List UInt8) (k : Nat) (h : k < l.length) : (l.take (k + 1)).map u8v = (l.take k).map u8v ++ [.int .u8 ((l.getD k 0).toNat : Int)] := by
  rw [List.take_succ_eq_append_getElem h, List.map_append]
  simp [u8v, List.getD, List.getElem?_eq_getElem h]
set_option maxRecDepth 100000 in
set_option maxHeartbeats 3200000 in
theorem RefLaid_any (h : Hd) (hi : HdIn h) (hz : HdSz h) (ad : Option Addr) (nd cd : Nat) (d : List UInt8) (w : World) (hd : Bs w ad nd cd d) (hn : nd ≤ 10000000000000) :
    Calls Tryz.prog 41 #[.agg (hdC h), .slice ad nd cd] w (NewBs w (Plain.laid h d)) := by
  obtain rfl : nd = d.length := hd.len.symm
  have hi1 : HdIn { h with size := (d.length : Int) } := { hi with size := (inI64_iff _).2 (by simp only; omega) }
  have hz1 : HdSz { h with size := (d.length : Int) } := { hz with }
  have HMK := Lib.hid (fun w => RefMake_any { h with size := (d.length : Int) } hi1 hz1 w)
  have hlen := make_len _ hi1
  have hlaid : Plain.laid h d = (Plain.make { h with size := (d.length : Int) }).1 ++ d ++ List.replicate (Plain.pad d.length).toNat 0 := rfl
  have HIb := Lib.hid (sizeBlk _ hlen); have HOb := Lib.hid (rowA_one (Plain.make { h with size := (d.length : Int) }).1)
  have HSb : Hid ((rowA zblk).size = (rowA (Plain.make { h with size := (d.length : Int) }).1).size) := by show _ = _; rw [rowA_size, rowA_size, zblk_len, hlen]
  generalize Plain.make { h with size := (d.length : Int) } = r at *
  obtain ⟨bl, code⟩ := r
  simp only at hlaid hlen
  generalize Plain.laid h d = LD at *
  have hpad0 : 0 ≤ Plain.pad d.length ∧ Plain.pad d.length < 512 := by unfold Plain.pad; split <;> omega
  obtain ⟨m, hm⟩ : ∃ m : Nat, Plain.pad d.length = (m : Int) := ⟨(Plain.pad d.length).toNat, by omega⟩
  have HPAD := Lib.hid (fun w => RefPad_any (d.length : Int) (by omega) w)
  rw [hm] at HPAD hpad0 hlaid
  have hm5 : m < 512 := by omega
  have HLD := Lib.hid hlaid; have HLEN := Lib.hid hlen
  have HZ47 := Lib.hid zeroBlk
  have HIx := Lib.hid (hdInfo { h with size := (d.length : Int) })
  have HD := Lib.hid hd
  clear hd hi hz hi1 hz1 hlaid hlen hpad0 hm
  have hb0 := (Below.refl w.heap.size w).alloc (Nat.le_refl _) (.cells (hdC h) 51)
  have hrow : (w.alloc (.cells (hdC h) 51)).heap[w.heap.size]? = some (.cells (hdC h) 51 (0, 0)) := heap_alloc_new w _
  have HB0 := Lib.hid hb0; have HROW := Lib.hid hrow
  clear hb0 hrow
  go_enter Tryz.func41, Tryz.ntmps41
  go_upto_region 1 with (with_reducible refine wpList_box_agg rfl _ _ rfl (hdC h) rfl ?_)
  generalize w.alloc (.cells (hdC h) 51) = w0 at *
  have hc5 : w0.cell? ⟨w.heap.size, 5, none⟩ = some (.int .i64 h.size) := by rw [cell_of_row _ _ _ _ _ _ HROW.out]; rfl
  have hf5 : w0.frozen? ⟨w.heap.size, 5, none⟩ = false := frozen_of_row _ _ _ _ _ HROW.out
  have HB1 : Hid (Below w.heap.size w (w0.setCell ⟨w.heap.size, 5, none⟩ (.int .i64 (d.length : Int)))) := Lib.hid (HB0.out.setCell (Nat.le_refl _) _)
  have HR1 : Hid ((w0.setCell ⟨w.heap.size, 5, none⟩ (.int .i64 (d.length : Int))).heap[w.heap.size]? = some (.cells (hdC { h with size := (d.length : Int) }) 51 (0, 0))) := Lib.hid (by rw [heap_setCell_same _ _ _ _ _ _ HROW.out]; rfl)
  go_upto_region 2 with fail
  generalize w0.setCell ⟨w.heap.size, 5, none⟩ (.int .i64 (d.length : Int)) = w1 at *
  clear hc5 hf5 HB0 HROW
  go_upto_region 3 with (first
    | (with_reducible refine wpList_load_row rfl _ _ rfl w.heap.size rfl 51 (hdC { h with size := (d.length : Int) }) (0, 0) _ HR1.out Tryz.underlying51 rfl HIx.out ?_)
    | (go_at_call 54; (refine (HMK.out w1).mono ?_); rintro e w2 ⟨rfl, hb2⟩; have HB2 := Lib.hid (Below.seq HB1.out hb2); clear hb2)
    | (with_reducible refine wpList_alloc_z rfl _ rfl (rowA zblk) HZ47.out ?_)
    | (with_reducible refine wpList_store_new rfl _ _ _ rfl _ rfl (rowA bl) rfl rfl HSb.out HIb.out HOb.out ?_))
  have HB3 := Lib.hid (Below.seq HB2.out ((Below.refl _ _).alloc (Nat.le_refl _) (.cells (rowA bl) 72)))
  have HR3 : Hid ((w2.alloc (.cells (rowA bl) 72)).heap[w2.heap.size]? = some (.cells (rowA bl) 72 (0, 0))) := Lib.hid (heap_alloc_new w2 _)
  have HG3 : Hid ((w2.alloc (.cells (rowA bl) 72)).heap.size = w2.heap.size + 1 ∧ w.heap.size ≤ w2.heap.size) := Lib.hid ⟨by simp, HB2.out.size⟩
  generalize w2.alloc (.cells (rowA bl) 72) = w3 at *
  generalize w2.heap.size = gb at *
  clear HB2 HR1 HB1 HMK HIx HSb HIb HOb HZ47
  go_upto_region 5 with fail
  have HO4 : Hid ((w3.alloc (.cells #[] 5)).ownsRow (gb + 1) 5 1 (.slice (some ⟨w3.heap.size, 0, none⟩) 0 0) 0 []) := Lib.hid (World.ownsRow_lit (base := gb + 1) (e := 5) (size := 1) w3 #[] 0 (by rw [HG3.out.1]; exact Nat.le_refl _) (by decide) rfl)
  have HB4 := Lib.hid (HB3.out.alloc HB3.out.size (.cells #[] 5))
  have HR4 : Hid ((w3.alloc (.cells #[] 5)).heap[gb]? = some (.cells (rowA bl) 72 (0, 0))) := Lib.hid (by rw [heap_alloc_old _ _ (by rw [HG3.out.1]; omega)]; exact HR3.out)
  have HG := Lib.hid HG3.out.2
  go_loopw [7, 8] (fun v i wr => ∃ (k : Nat) (a : Option Addr) (c : Nat), k ≤ 512 ∧ i = .int .i64 k ∧ v = .slice a k c ∧ Hid (wr.ownsRow (gb + 1) 5 1 (.slice a k c) k ((bl.take k).map u8v)) ∧ Hid (Below w.heap.size w wr) ∧ Hid (wr.heap[gb]? = some (.cells (rowA bl) 72 (0, 0)))) (fun _ i _ => 512 - (intOf i).toNat)
  case atStart => exact ⟨0, _, _, Nat.zero_le _, rfl, rfl, by simpa using HO4, HB4, HR4⟩
  case round =>
    obtain ⟨k, a, c, hk, rfl, rfl, ho, hb, hr⟩ := hrel
    clear HO4 HB4 HR4 HB3 HR3 HG3
    have hgs := (Array.getElem?_eq_some_iff.1 hr.out).1
    by_cases hlt : k < 512
    · have hck : wr.cell? ⟨gb, k, none⟩ = some (.int .u8 ((bl.getD k 0).toNat : Int)) := by
        rw [cell_of_row _ _ _ _ _ _ hr.out, rowA_at _ _ (by rw [HLEN.out]; exact hlt)]
      have htk := u8_take bl k (by rw [HLEN.out]; exact hlt)
      have HTK := Lib.hid htk
      clear htk
      generalize bl.getD k 0 = x at *
      have HNW := Lib.hid (isSl_new wr 5 1 1 #[.int .u8 (x.toNat : Int)] rfl (by decide))
      have HOA := Lib.hid (ho.out.alloc (.cells #[.int .u8 (x.toNat : Int)] 5))
      have HGS := Lib.hid hgs
      go_wp2_with (at_builtin; refine wpList_app rfl _ _ 25 rfl (gb + 1) 5 _ 1 1 Tryz.underlying25 infoU8 rfl (by decide) (by decide) rfl HOA.out rfl HNW.out (by simp [Value.oneCell']) (by omega) (by have := HGS.out; simp; omega) ?_; intro a3 c3 w5 ho3 hg3)
      have hne : some gb ≠ (Value.slice a k c).ownBlock := fun e => by have := (HOA.out.lt gb e.symm).1; omega
      exact ⟨⟨k + 1, a3, c3, by omega, by go_num, rfl, Lib.hid (by rw [HTK.out]; exact ho3), Lib.hid (below_app (hb.out.alloc hb.out.size _) HOA.out hg3 (by have := HG.out; omega) (by have := hb.out.size; simp; omega)), Lib.hid (by rw [hg3.block gb (by simp; omega) hne, heap_alloc_old _ _ hgs]; exact hr.out)⟩, by simp [intOf]; omega⟩
    · obtain rfl : k = 512 := by omega
      have ho512 := ho.out
      rw [List.take_of_length_le (by rw [HLEN.out]; exact Nat.le_refl _)] at ho512
      have hdw := Below.bs hb.out HD.out
      obtain ⟨a5, c5, w5, hrun, hown, hgr, hon⟩ := run_app_bs (P := Tryz.prog) wr 25 25 5 Tryz.underlying25 infoU8 (gb + 1) hgs a 512 c _ ho512 ad d.length cd d hdw (by omega)
      have HRUN := Lib.hid hrun; have HOWN := Lib.hid hown; have HGR := Lib.hid hgr
      have HB5 : Hid (Below w.heap.size w w5) := Lib.hid (below_app hb.out ho512 hgr (by have := HG.out; omega) hb.out.size)
      have HZ5 : Hid (gb < w5.heap.size) := Lib.hid (Nat.lt_of_lt_of_le hgs hgr.size)
      clear hrun hown hgr hon ho512 ho hdw
      go_upto_region 9 with (at_builtin; refine Lib.wpList_append_run wr rfl _ _ _ _ rfl _ _ rfl rfl _ _ HRUN.out ?_)
      clear HRUN HGR hb hr hgs
      go_upto_region 10 with fail
      go_loopw [7, 9] (fun v i wr => ∃ (k : Nat) (a : Option Addr) (c : Nat), k ≤ m ∧ i = .int .i64 k ∧ v = .slice a (512 + d.length + k) c ∧ Hid (wr.ownsRow (gb + 1) 5 1 (.slice a (512 + d.length + k) c) (512 + d.length + k) ((bl ++ d ++ List.replicate k 0).map u8v)) ∧ Hid (Below w.heap.size w wr) ∧ Hid (gb < wr.heap.size)) (fun _ i _ => m - (intOf i).toNat)
      case atStart => exact ⟨0, a5, c5, Nat.zero_le _, rfl, rfl, by simpa using HOWN, HB5, HZ5⟩
      case round =>
        obtain ⟨k, a, c, hk, rfl, rfl, ho, hb, hz⟩ := hrel
        by_cases hlt : k < m
        · have HNW := Lib.hid (isSl_new wr 5 1 1 #[.int .u8 0] rfl (by decide))
          have HOA := Lib.hid (ho.out.alloc (.cells #[.int .u8 0] 5))
          have htk : (bl ++ d ++ List.replicate (k + 1) 0).map u8v = (bl ++ d ++ List.replicate k 0).map u8v ++ [.int .u8 0] := by
            rw [List.replicate_succ', ← List.append_assoc, List.map_append (l₂ := [0])]; rfl
          have HTK := Lib.hid htk
          clear htk
          go_wp2_with (first
            | (go_at_call 55; (refine (HPAD.out _).mono ?_); rintro e w8 ⟨rfl, rfl⟩)
            | (at_builtin; refine wpList_app rfl _ _ 25 rfl (gb + 1) 5 _ 1 1 Tryz.underlying25 infoU8 rfl (by decide) (by decide) rfl HOA.out rfl HNW.out (by simp [Value.oneCell']) (by omega) (by have := hz.out; simp; omega) ?_; intro a3 c3 w6 ho3 hg3))
          exact ⟨⟨k + 1, a3, c3, by omega, by go_num, rfl, Lib.hid (by rw [HTK.out]; exact ho3), Lib.hid (below_app (hb.out.alloc hb.out.size _) HOA.out hg3 (by have := HG.out; omega) (by have := hb.out.size; simp; omega)), Lib.hid (by have := hg3.size; have := hz.out; simp at *; omega)⟩, by simp [intOf]; omega⟩
        · obtain rfl : k = m := by omega
          go_wp2_with (go_at_call 55; (refine (HPAD.out _).mono ?_); rintro e w8 ⟨rfl, rfl⟩)
          go_ret
          refine ⟨a, 512 + d.length + k, c, rfl, ?_, hb.out⟩
          rw [HLD.out]
          exact own_base ho.out (by have := HG.out; omega)
end Go.Proofs.YtamgiffkhnfpmaaGreatDoor
namespace Go.Proofs.YtamgiffkhnfpmaaGreatDoor
set_option linter.unusedVariables false
set_option linter.unusedSimpArgs false
open Go.ChangeShapes Go.WideShapes Go.ChangeAt Go.RowKit
theorem bad_empty : badKey [] = true := by decide
theorem bad_at (k : List UInt8) (j : Nat) (hj : j < k.length) (h : k.getD j 0 = 61) : badKey k = true := by
  unfold badKey
  rw [decide_eq_true_eq]
  right
  rw [← h]
  simp only [List.getD, List.getElem?_eq_getElem hj, Option.getD_some]
  exact List.getElem_mem hj
theorem bad_none (k : List UInt8) (hne : k ≠ []) (h : ∀ j, j < k.length → k.getD j 0 ≠ 61) : badKey k = false := by
  unfold badKey
  rw [decide_eq_false_iff_not]
  rintro (e | e)
  · exact hne e
  · obtain ⟨j, hj, he⟩ := List.getElem_of_mem e
    exact h j hj (by simpa [List.getD, List.getElem?_eq_getElem hj] using he)
set_option maxRecDepth 100000 in
set_option maxHeartbeats 3200000 in
theorem RefWrite_any (a : Option Addr) (n c : Nat) (l : List Pr) (w : World) (h : Prs w a n c l) (hq : ∀ x ∈ l, x.1.length ≤ 140737488351232 ∧ x.2.length ≤ 140737488351232) :
    Calls Tryz.prog 40 #[.slice a n c] w (WriteRes w (Plain.write l)) := by
  have hl := h.len; have hcap := h.cap; have hmax := h.max
  have hqq : ∀ k, k < n → (l.getD k ([], [])).1.length ≤ 140737488351232 ∧ (l.getD k ([], [])).2.length ≤ 140737488351232 := fun k hk => by
    have hk' : k < l.length := by omega
    have := hq _ (List.getElem_mem hk')
    simpa [List.getD, List.getElem?_eq_getElem hk'] using this
  have HL := Lib.hid hl; have HH := Lib.hid h; have HQ := Lib.hid hqq; clear hl h hq hqq
  generalize hr : Plain.write l = r
  have HR := Lib.hid hr; clear hr
  go_enter Tryz.func40, Tryz.ntmps40
  go_wp2
  go_loop [5] (fun i => ∃ k : Nat, k ≤ n ∧ i = .int .i64 k ∧ Hid (∀ j, j < k → badKey (l.getD j ([], [])).1 = false)) (fun i => n - (intOf i).toNat)
  case atStart => exact ⟨0, Nat.zero_le _, rfl, Lib.hid (fun j hj => absurd hj (Nat.not_lt_zero j))⟩
  case round =>
    obtain ⟨k, hk, rfl, hgood⟩ := hrel
    by_cases hlt : k < n
    · have hq2 := HQ.out k hlt
      have hkl : k < l.length := by rw [HL.out]; exact hlt
      obtain ⟨b1, o1, rfl, h1, h1'⟩ := HH.out.at k hlt
      have hnx : badKey (l.getD k ([], [])).1 = false → ∀ j, j < k + 1 → badKey (l.getD j ([], [])).1 = false := fun hb j hj => by
        by_cases e : j = k
        · subst e; exact hb
        · exact hgood.out j (by omega)
      have hbad := fun hb => write_bad l k hkl hb
      generalize l.getD k ([], []) = g at *
      obtain ⟨g1, g2⟩ := g
      simp only at hq2 h1 h1' hnx hbad
      obtain ⟨hq21, hq22⟩ := hq2
      have HNX := Lib.hid hnx; have HBAD := Lib.hid hbad
      clear hnx hbad hkl h1'
      have hki : (k : Int) < n := by omega
      by_cases he : g1 = []
      · subst he
        have HRR := Lib.hid (HR.out.symm.trans (HBAD.out bad_empty))
        go_wp2
        go_ret2
        rw [HRR.out]
        exact WriteRes.no (Below.refl _ _)
      · have he2 : g1.isEmpty = false := by simpa using he
        have HNE := Lib.hid he; clear he
        go_wp2
        go_loop [6] (fun i => ∃ j : Nat, j ≤ g1.length ∧ i = .int .i64 j ∧ Hid (∀ t, t < j → g1.getD t 0 ≠ 61)) (fun i => g1.length - (intOf i).toNat)
        case atStart => exact ⟨0, Nat.zero_le _, rfl, Lib.hid (fun j hj => absurd hj (Nat.not_lt_zero j))⟩
        case round =>
          obtain ⟨j, hj, rfl, hz⟩ := hrel
          by_cases hjl : j < g1.length
          · have hji : (j : Int) < (g1.length : Int) := by omega
            have hx := str_at g1 j hjl
            have hba := bad_at g1 j hjl
            have hzn : g1.getD j 0 ≠ 61 → ∀ t, t < j + 1 → g1.getD t 0 ≠ 61 := fun hne t ht => by
              by_cases e : t = j
              · subst e; exact hne
              · exact hz.out t (by omega)
            generalize g1.getD j 0 = y at *
            have HBA := Lib.hid hba; have HZN := Lib.hid hzn; clear hba hzn
            by_cases h61 : y = 61
            · have HRR := Lib.hid (HR.out.symm.trans (HBAD.out (HBA.out h61)))
              subst h61
              go_wp2
              go_ret2
              rw [HRR.out]
              exact WriteRes.no (Below.refl _ _)
            · have hb : ((y.toNat : Int) == 61) = false := by rw [beq_eq_false_iff_ne]; intro h; exact h61 (UInt8.toNat_inj.1 (by simpa using (by omega : y.toNat = 61)))
              have HZ := Lib.hid (HZN.out h61); clear h61
              go_wp2
              go_round
              case rel => exact ⟨j + 1, by omega, by go_num, HZ⟩
              case measure => simp [intOf]; omega
          · obtain rfl : j = g1.length := by omega
            have hji : ¬ (g1.length : Int) < (g1.length : Int) := by omega
            have HNX2 := Lib.hid (HNX.out (bad_none g1 HNE.out hz.out))
            go_wp2
            go_round
            case rel => exact ⟨k + 1, by omega, by go_num, HNX2⟩
            case measure => simp [intOf]; omega
    · obtain rfl : k = n := by omega
      have hgoodl : ∀ j, j < l.length → badKey (l.getD j ([], [])).1 = false := fun j hj => hgood.out j (by rw [← HL.out]; exact hj)
      have HG := Lib.hid hgoodl
      have hki : ¬ (k : Int) < k := by omega
      clear hgoodl hgood
      go_wp2
      go_loopw [4, 7] (fun s i wr => ∃ j : Nat, j ≤ k ∧ i = .int .i64 j ∧ s = .int .i64 (recSum (l.take j) : Int) ∧ recSum (l.take j) ≤ 1048576 ∧ Hid (Below w.heap.size w wr)) (fun _ i _ => k - (intOf i).toNat)
      case atStart => exact ⟨0, Nat.zero_le _, rfl, rfl, by simp [recSum], Lib.hid (Below.refl _ _)⟩
      case round =>
        obtain ⟨j, hj, rfl, rfl, hs, hbel⟩ := hrel
        by_cases hlt : j < k
        · have hq2 := HQ.out j hlt
          have hjl : j < l.length := by rw [HL.out]; exact hlt
          obtain ⟨b1, o1, rfl, h1, h1'⟩ := (Below.prs hbel.out HH.out).at j hlt
          have hsu := recSum_succ l j hjl
          have hle := recSum_le l (j + 1)
          have hlong := fun hs => write_long l HG.out hs
          generalize l.getD j ([], []) = g at *
          obtain ⟨g1, g2⟩ := g
          simp only at hq2 h1 h1'
          have hbd := recSize_bd (g1, g2) hq2.1 hq2.2
          have HS := Lib.hid (fun w => RefSizeR_any (g1, g2) w hq2.1 hq2.2)
          generalize recSize (g1, g2) = S at *
          generalize hA : recSum (l.take (j + 1)) = A at *
          generalize recSum (l.take j) = B at *
          have HA := Lib.hid hA; have HSU := Lib.hid hsu; have HLONG := Lib.hid hlong
          have hji : (j : Int) < k := by omega
          by_cases hov : B + S ≤ 1048576
          · have hovi : ¬ (1048576 : Int) < (B : Int) + S := by omega
            clear hA hsu hlong hle
            go_wp2_with (go_at_call 53; (with_reducible refine (HS.out _).mono ?_); rintro e w3 ⟨rfl, hb3⟩; have HB3 := Lib.hid (Below.seq hbel.out hb3); clear hb3)
            go_round
            case rel => exact ⟨j + 1, by omega, by go_num, by rw [HA.out, HSU.out]; go_num, by rw [HA.out, HSU.out]; exact hov, HB3⟩
            case measure => simp [intOf]; omega
          · have hovi : (1048576 : Int) < (B : Int) + S := by omega
            have HRR := Lib.hid (HR.out.symm.trans (HLONG.out (by omega)))
            clear hA hsu hlong hle
            go_wp2_with (go_at_call 53; (with_reducible refine (HS.out _).mono ?_); rintro e w3 ⟨rfl, hb3⟩; have HB3 := Lib.hid (Below.seq hbel.out hb3); clear hb3)
            go_ret2
            rw [HRR.out]
            exact WriteRes.no HB3.out
        · obtain rfl : j = k := by omega
          have hji : ¬ (j : Int) < j := by omega
          have htk : l.take j = l := List.take_of_length_le (by rw [HL.out]; exact Nat.le_refl _)
          rw [htk] at hs
          have HRR := Lib.hid (HR.out.symm.trans (write_good l HG.out hs))
          have HML := Lib.hid hs
          generalize recSum (l.take j) = B
          have HO0 := Lib.hid (World.ownsRow_lit (base := w.heap.size) (e := 5) (size := 1) wr #[] 0 hbel.out.size (by decide) rfl)
          have HB0 := Lib.hid (hbel.out.alloc hbel.out.size (.cells #[] 5))
          clear htk hs hbel
          go_wp2
          go_loopw [8, 9] (fun v i wr => ∃ (i2 m2 : Nat) (a2 : Option Addr) (c2 : Nat), i2 ≤ j ∧ i = .int .i64 i2 ∧ v = .slice a2 m2 c2 ∧ Hid (wr.ownsRow w.heap.size 5 1 (.slice a2 m2 c2) m2 (((l.take i2).flatMap recBytes).map u8v)) ∧ Hid (Below w.heap.size w wr)) (fun _ i _ => j - (intOf i).toNat)
          case atStart => exact ⟨0, 0, _, _, Nat.zero_le _, rfl, rfl, Lib.hid (by simpa using HO0.out), HB0⟩
          case round =>
            clear HO0 HB0
            obtain ⟨i, m2, a2, c2, hi, rfl, rfl, hown, hbel⟩ := hrel
            have hm2 : m2 = recSum (l.take i) := by rw [← own_len hown.out]; exact recs_len l j HL.out HQ.out i hi
            have hm3 : m2 ≤ 1048576 := by rw [hm2]; have := recSum_le l i; have := HML.out; omega
            clear hm2
            by_cases hlt : i < j
            · have hq2 := HQ.out i hlt
              have hjl : i < l.length := by rw [HL.out]; exact hlt
              obtain ⟨b1, o1, rfl, h1, h1'⟩ := HH.out.at i hlt
              have hap := recs_succ l i hjl
              have hrs := recSum_succ l i hjl
              have hrl := recSum_le l (i + 1)
              generalize l.getD i ([], []) = g at *
              obtain ⟨g1, g2⟩ := g
              simp only at hq2 h1 h1'
              have hml := HML.out
              have hsz : (recBytes (g1, g2)).length ≤ 1048576 := by
                rw [recBytes_len (g1, g2) (by unfold recBase; simp only; omega)]; omega
              have hsz2 : recSize (g1, g2) ≤ 1048576 := by omega
              have HS := Lib.hid (fun w => RefSizeR_any (g1, g2) w hq2.1 hq2.2)
              have HSH := Lib.hid (fun w => RefShow_any (recSize (g1, g2) : Int) (by omega) (by omega) w)
              have hit : Lib.itoa (recSize (g1, g2) : Int) = Lib.decDigits (recSize (g1, g2)) := Lib.itoa_nonneg _
              rw [hit] at HSH
              have hrec : recBytes (g1, g2) = Lib.decDigits (recSize (g1, g2)) ++ [32] ++ g1 ++ [61] ++ g2 ++ [10] := by unfold recBytes; simp
              have hparts : (Lib.decDigits (recSize (g1, g2))).length ≤ 1048576 ∧ g1.length ≤ 1048576 ∧ g2.length ≤ 1048576 := by
                have := hsz
                rw [hrec] at this
                simp only [List.length_append] at this
                omega
              obtain ⟨hp1, hp2, hp3⟩ := hparts
              rw [hrec] at hap
              have HAP := Lib.hid hap; have HC1 := Lib.hid h1; have HC2 := Lib.hid h1'
              clear hit hrec hap hrs hrl hjl hml hsz h1 h1'
              generalize Lib.decDigits (recSize (g1, g2)) = D at *
              generalize recSize (g1, g2) = S at *
              generalize (l.take i).flatMap recBytes = L at *
              have hji : (i : Int) < j := by omega
              have hc1 := Below.keeps hbel.out _ _ HC1.out
              have hc2 := Below.keeps hbel.out _ _ HC2.out
              go_wp2_with (first
                | (go_at_call 53; (with_reducible refine (HS.out _).mono ?_); rintro e w3 ⟨rfl, hb3⟩; have HB3 := Lib.hid (Below.seq hbel.out hb3); have HO3 := Lib.hid (own_below2 hown.out hb3); clear hb3)
                | (go_at_call 38; (with_reducible refine (HSH.out _).mono ?_); rintro e w4 ⟨rfl, hb4⟩; have HB4 := Lib.hid (Below.seq HB3.out hb4); have HO4 := Lib.hid (own_below2 HO3.out hb4); clear hb4)
                | (with_reducible refine wpList_bs_of_str (l := D) rfl _ _ (.tmp 68) rfl Tryz.underlying9 Tryz.underlying25 Tryz.underlying5 rfl (by omega) ?_; intro a5 c5 w5 hs5 hb5; have HB5 := Lib.hid (Below.seq HB4.out hb5); have HO5 := Lib.hid (own_below2 HO4.out hb5); have HS5 := Lib.hid hs5; clear hs5 hb5)
                | (at_builtin; refine wpList_app rfl (.tmp 62) (.tmp 69) 25 rfl w.heap.size 5 _ 1 1 Tryz.underlying25 infoU8 rfl (by decide) (by decide) rfl HO5.out rfl HS5.out (bytes_oneCell D) (by omega) (by exact HB5.out.size) ?_; intro a6 c6 w6 ho6 hg6; have HB6 := Lib.hid (below_app HB5.out HO5.out hg6 (Nat.le_refl _) HB5.out.size); have HO6 := Lib.hid ho6; clear ho6 hg6)
                | (at_builtin; refine wpList_app rfl (.tmp 71) (.tmp 72) 25 rfl w.heap.size 5 _ 1 1 Tryz.underlying25 infoU8 rfl (by decide) (by decide) rfl (by exact World.ownsRow.alloc HO6.out _) rfl (isSl_new w6 5 1 1 #[.int .u8 32] rfl (by unfold maxLen; omega)) (by simp [Value.oneCell']) (by omega) (by have := HB6.out.size; simp; omega) ?_; intro a7 c7 w7 ho7 hg7; have HB7 := Lib.hid (below_app (HB6.out.alloc HB6.out.size (.cells #[.int .u8 32] 5)) (World.ownsRow.alloc HO6.out _) hg7 (Nat.le_refl _) (by have := HB6.out.size; simp; omega)); have HO7 := Lib.hid ho7; have hc7 := Below.keeps HB7.out _ _ HC1.out; clear ho7 hg7)
                | (with_reducible refine wpList_bs_of_str (l := g1) rfl _ _ (.tmp 79) rfl Tryz.underlying9 Tryz.underlying25 Tryz.underlying5 rfl (by omega) ?_; intro a8 c8 w8 hs8 hb8; have HB8 := Lib.hid (Below.seq HB7.out hb8); have HO8 := Lib.hid (own_below2 HO7.out hb8); have HS8 := Lib.hid hs8; clear hs8 hb8)
                | (at_builtin; refine wpList_app rfl (.tmp 74) (.tmp 80) 25 rfl w.heap.size 5 _ 1 1 Tryz.underlying25 infoU8 rfl (by decide) (by decide) rfl HO8.out rfl HS8.out (bytes_oneCell g1) (by omega) (by exact HB8.out.size) ?_; intro a9 c9 w9 ho9 hg9; have HB9 := Lib.hid (below_app HB8.out HO8.out hg9 (Nat.le_refl _) HB8.out.size); have HO9 := Lib.hid ho9; clear ho9 hg9)
                | (at_builtin; refine wpList_app rfl (.tmp 82) (.tmp 83) 25 rfl w.heap.size 5 _ 1 1 Tryz.underlying25 infoU8 rfl (by decide) (by decide) rfl (by exact World.ownsRow.alloc HO9.out _) rfl (isSl_new w9 5 1 1 #[.int .u8 61] rfl (by unfold maxLen; omega)) (by simp [Value.oneCell']) (by omega) (by have := HB9.out.size; simp; omega) ?_; intro a10 c10 w10 ho10 hg10; have HB10 := Lib.hid (below_app (HB9.out.alloc HB9.out.size (.cells #[.int .u8 61] 5)) (World.ownsRow.alloc HO9.out _) hg10 (Nat.le_refl _) (by have := HB9.out.size; simp; omega)); have HO10 := Lib.hid ho10; have hc10 := Below.keeps HB10.out _ _ HC2.out; clear ho10 hg10)
                | (with_reducible refine wpList_bs_of_str (l := g2) rfl _ _ (.tmp 90) rfl Tryz.underlying9 Tryz.underlying25 Tryz.underlying5 rfl (by omega) ?_; intro a11 c11 w11 hs11 hb11; have HB11 := Lib.hid (Below.seq HB10.out hb11); have HO11 := Lib.hid (own_below2 HO10.out hb11); have HS11 := Lib.hid hs11; clear hs11 hb11)
                | (at_builtin; refine wpList_app rfl (.tmp 85) (.tmp 91) 25 rfl w.heap.size 5 _ 1 1 Tryz.underlying25 infoU8 rfl (by decide) (by decide) rfl HO11.out rfl HS11.out (bytes_oneCell g2) (by omega) (by exact HB11.out.size) ?_; intro a12 c12 w12 ho12 hg12; have HB12 := Lib.hid (below_app HB11.out HO11.out hg12 (Nat.le_refl _) HB11.out.size); have HO12 := Lib.hid ho12; clear ho12 hg12)
                | (at_builtin; refine wpList_app rfl (.tmp 93) (.tmp 94) 25 rfl w.heap.size 5 _ 1 1 Tryz.underlying25 infoU8 rfl (by decide) (by decide) rfl (by exact World.ownsRow.alloc HO12.out _) rfl (isSl_new w12 5 1 1 #[.int .u8 10] rfl (by unfold maxLen; omega)) (by simp [Value.oneCell']) (by omega) (by have := HB12.out.size; simp; omega) ?_; intro a13 c13 w13 ho13 hg13; have HB13 := Lib.hid (below_app (HB12.out.alloc HB12.out.size (.cells #[.int .u8 10] 5)) (World.ownsRow.alloc HO12.out _) hg13 (Nat.le_refl _) (by have := HB12.out.size; simp; omega)); have HO13 := Lib.hid ho13; clear ho13 hg13))
              go_round
              case rel => exact ⟨i + 1, _, _, _, by omega, by go_num, rfl, Lib.hid (by rw [HAP.out]; have := HO13.out; simp only [List.map_append, List.append_assoc] at this ⊢; exact this), HB13⟩
              case measure => simp [intOf]; omega
            · obtain rfl : i = j := by omega
              have hji : ¬ (i : Int) < i := by omega
              have htk : l.take i = l := List.take_of_length_le (by rw [HL.out]; exact Nat.le_refl _)
              have ho := hown.out
              rw [htk] at ho
              have HO := Lib.hid ho
              clear htk ho
              go_wp2
              go_ret2
              rw [HRR.out]
              exact ⟨a2, m2, c2, rfl, HO.out, hbel.out⟩
end Go.Proofs.YtamgiffkhnfpmaaGreatDoor
