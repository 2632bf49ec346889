/-
  HdrRef: the reference's Read.
-/
import Derived.Test.YtjchaogfmnabfaaDoorJ05
import Derived.Test.YtjchaogfmnabfaaDoorJ06
namespace Go.Proofs.YtjchaogfmnabfaaDoor
set_option linter.unusedVariables false
set_option linter.unusedSimpArgs false
open Go.ChangeShapes Go.WideShapes Go.ChangeAt Go.RowKit
theorem ret_ib {n : Int} {a b : Bool} (h : a = b) : Ending.returned (.tuple #[.int .i64 n, .bool a]) = .returned (.tuple #[.int .i64 n, .bool b]) := by rw [h]
set_option maxHeartbeats 1600000 in
theorem Num_any (l : List UInt8) (hl : l.length = 512) (S E lo hi : Int) (s e : Nat) (hS : (s : Int) = S) (hE : (e : Int) = E) (h1 : s ≤ e) (h2 : e ≤ 512) (h3 : s < 512) (w : World) :
    Calls Tryd.prog 48 #[.agg (rowA l), .int .i64 S, .int .i64 E, .int .i64 lo, .int .i64 hi] w fun en w' => en = .returned (.tuple #[.int .i64 (numAt l s e).1, .bool (numOk (numAt l s e) lo hi)]) ∧ Below w.heap.size w w' := by
  subst hS; subst hE
  have HR := Lib.hid (RowAt.new w 47 l)
  have HN := Lib.hid (fun (wx : World) (h : RowAt w 47 l wx) => RefNumber_any _ _ _ (fld l s e) wx (row_bs h.row s e (512 - s) h1 (by omega) (by omega) (by unfold maxLen; omega)))
  unfold numAt
  generalize hn : Plain.number (fld l s e) = r at *
  obtain ⟨n1, n2⟩ := r
  generalize hk : numOk (n1, n2) lo hi = K
  have hk2 : K = decide (n2 = 0 ∧ lo ≤ n1 ∧ n1 ≤ hi) := hk.symm
  have HK := Lib.hid hk2
  have HNN := Lib.hid hn
  clear hk hk2 hn
  have ways : (n2 == 0) = false ∨ ((n2 == 0) = true ∧ ¬ lo ≤ n1) ∨ ((n2 == 0) = true ∧ lo ≤ n1 ∧ ¬ n1 ≤ hi) ∨ ((n2 == 0) = true ∧ lo ≤ n1 ∧ n1 ≤ hi) := by
    by_cases a : n2 = 0
    · right
      by_cases b : lo ≤ n1
      · right
        by_cases c : n1 ≤ hi
        · exact .inr ⟨by rw [a]; rfl, b, c⟩
        · exact .inl ⟨by rw [a]; rfl, b, c⟩
      · exact .inl ⟨by rw [a]; rfl, b⟩
    · left; rw [beq_eq_false_iff_ne]; exact a
  rcases ways with a | ⟨a, b⟩ | ⟨a, b, c⟩ | ⟨a, b, c⟩
  · have hK : K = false := by rw [HK.out]; exact dec_f (by rintro ⟨x, _⟩; rw [x] at a; cases a)
    subst hK
    clear HK
    have hsi : (s : Int) ≤ e := by omega
    have hei : (e : Int) ≤ 512 := by omega
    go_enter Tryd.func48, Tryd.ntmps48
    go_upto_region 1 with (with_reducible refine wpList_box_agg rfl _ _ rfl (rowA l) rfl ?_)
    have hR := HR.out
    generalize w.alloc (.cells (rowA l) 47) = wa at *
    have HRR := Lib.hid hR
    clear hR HR
    go_wp2_with (first
      | (with_reducible refine wpList_slice_row rfl _ _ _ _ rfl Tryd.underlying47 (by kernel_rfl) w.heap.size rfl s e .i64 .i64 rfl rfl h1 h2 h3 ?_)
      | (go_at_call 67; (with_reducible refine (HN.out _ HRR.out).mono ?_); rintro en w1 ⟨rfl, hb1⟩; unfold decV; have HB1 := Lib.hid (Below.seq HRR.out.bel hb1); clear hb1))
    go_ret2
    exact ⟨ret_ib (by first | rfl | exact dec_f (by omega)), HB1.out⟩
  · have hK : K = false := by rw [HK.out]; exact dec_f (by rintro ⟨_, x, _⟩; exact b x)
    subst hK
    clear HK
    have hsi : (s : Int) ≤ e := by omega
    have hei : (e : Int) ≤ 512 := by omega
    go_enter Tryd.func48, Tryd.ntmps48
    go_upto_region 1 with (with_reducible refine wpList_box_agg rfl _ _ rfl (rowA l) rfl ?_)
    have hR := HR.out
    generalize w.alloc (.cells (rowA l) 47) = wa at *
    have HRR := Lib.hid hR
    clear hR HR
    go_wp2_with (first
      | (with_reducible refine wpList_slice_row rfl _ _ _ _ rfl Tryd.underlying47 (by kernel_rfl) w.heap.size rfl s e .i64 .i64 rfl rfl h1 h2 h3 ?_)
      | (go_at_call 67; (with_reducible refine (HN.out _ HRR.out).mono ?_); rintro en w1 ⟨rfl, hb1⟩; unfold decV; have HB1 := Lib.hid (Below.seq HRR.out.bel hb1); clear hb1))
    go_ret2
    exact ⟨ret_ib (by first | rfl | exact dec_f (by omega)), HB1.out⟩
  · have hK : K = false := by rw [HK.out]; exact dec_f (by rintro ⟨_, _, x⟩; exact c x)
    subst hK
    clear HK
    have hsi : (s : Int) ≤ e := by omega
    have hei : (e : Int) ≤ 512 := by omega
    go_enter Tryd.func48, Tryd.ntmps48
    go_upto_region 1 with (with_reducible refine wpList_box_agg rfl _ _ rfl (rowA l) rfl ?_)
    have hR := HR.out
    generalize w.alloc (.cells (rowA l) 47) = wa at *
    have HRR := Lib.hid hR
    clear hR HR
    go_wp2_with (first
      | (with_reducible refine wpList_slice_row rfl _ _ _ _ rfl Tryd.underlying47 (by kernel_rfl) w.heap.size rfl s e .i64 .i64 rfl rfl h1 h2 h3 ?_)
      | (go_at_call 67; (with_reducible refine (HN.out _ HRR.out).mono ?_); rintro en w1 ⟨rfl, hb1⟩; unfold decV; have HB1 := Lib.hid (Below.seq HRR.out.bel hb1); clear hb1))
    go_ret2
    exact ⟨ret_ib (by first | rfl | exact dec_f (by omega)), HB1.out⟩
  · have hK : K = true := by rw [HK.out]; exact dec_t ⟨eq_of_beq a, b, c⟩
    subst hK
    clear HK
    have hsi : (s : Int) ≤ e := by omega
    have hei : (e : Int) ≤ 512 := by omega
    go_enter Tryd.func48, Tryd.ntmps48
    go_upto_region 1 with (with_reducible refine wpList_box_agg rfl _ _ rfl (rowA l) rfl ?_)
    have hR := HR.out
    generalize w.alloc (.cells (rowA l) 47) = wa at *
    have HRR := Lib.hid hR
    clear hR HR
    go_wp2_with (first
      | (with_reducible refine wpList_slice_row rfl _ _ _ _ rfl Tryd.underlying47 (by kernel_rfl) w.heap.size rfl s e .i64 .i64 rfl rfl h1 h2 h3 ?_)
      | (go_at_call 67; (with_reducible refine (HN.out _ HRR.out).mono ?_); rintro en w1 ⟨rfl, hb1⟩; unfold decV; have HB1 := Lib.hid (Below.seq HRR.out.bel hb1); clear hb1))
    go_ret2
    exact ⟨ret_ib (by first | rfl | exact dec_f (by omega)), HB1.out⟩
/-- the flags' cells -/
def bC (bs : List Bool) : Array Value := (bs.map Value.bool).toArray
theorem bC_set (bs : List Bool) (k : Nat) (b : Bool) : (bC bs).setIfInBounds k (.bool b) = bC (bs.set k b) := by simp [bC, List.map_set]
theorem bC_at (bs : List Bool) (k : Nat) (h : k < bs.length) : (bC bs)[k]? = some (.bool (bs.getD k false)) := by simp [bC, List.getD, List.getElem?_eq_getElem h]
/-- and the flags' variable -/
structure Hf5 (w : World) (l : List UInt8) (gh : Nat) (h : Hd) (gg : Nat) (bs : List Bool) (wr : World) : Prop where
  three : H3 w l gh h wr
  ge : gh < gg
  rg : wr.heap[gg]? = some (.cells (bC bs) 74 (0, 0))
theorem Hf5.lt {w wr : World} {l : List UInt8} {gh : Nat} {h : Hd} {gg : Nat} {bs : List Bool} (k : Hf5 w l gh h gg bs wr) : gg < wr.heap.size := (Array.getElem?_eq_some_iff.1 k.rg).1
theorem Hf5.keep {w wr w' : World} {l : List UInt8} {gh : Nat} {h : Hd} {gg : Nat} {bs : List Bool} (x : Hf5 w l gh h gg bs wr) (k : Below wr.heap.size wr w') : Hf5 w l gh h gg bs w' :=
  ⟨x.three.keep k, x.ge, by rw [k.block _ x.lt]; exact x.rg⟩
theorem Hf5.cell {w wr : World} {l : List UInt8} {gh : Nat} {h : Hd} {gg : Nat} {bs : List Bool} (x : Hf5 w l gh h gg bs wr) (k : Nat) (hk : k < bs.length) : wr.cell? ⟨gg, k, none⟩ = some (.bool (bs.getD k false)) := by
  rw [cell_of_row _ _ _ _ _ _ x.rg, bC_at _ _ hk]
theorem Hf5.free {w wr : World} {l : List UInt8} {gh : Nat} {h : Hd} {gg : Nat} {bs : List Bool} (x : Hf5 w l gh h gg bs wr) (k : Nat) : wr.frozen? ⟨gg, k, none⟩ = false := frozen_of_row _ _ _ _ _ x.rg
theorem Hf5.put {w wr : World} {l : List UInt8} {gh : Nat} {h : Hd} {gg : Nat} {bs : List Bool} (x : Hf5 w l gh h gg bs wr) (k : Nat) (b : Bool) : Hf5 w l gh h gg (bs.set k b) (wr.setCell ⟨gg, k, none⟩ (.bool b)) := by
  have h1 := x.three.ge
  have h2 := x.ge
  exact ⟨⟨x.three.two.setOther (by omega) _, x.three.ge, by rw [heap_setCell_other _ _ _ _ (by simp only; omega)]; exact x.three.rh⟩, x.ge, by rw [heap_setCell_same _ _ _ _ _ _ x.rg, bC_set]⟩
theorem Hf5.set {w wr : World} {l : List UInt8} {gh : Nat} {h h' : Hd} {gg : Nat} {bs : List Bool} (x : Hf5 w l gh h gg bs wr) (k : Nat) (v : Value) (e : (hdC h).setIfInBounds k v = hdC h') : Hf5 w l gh h' gg bs (wr.setCell ⟨gh, k, none⟩ v) := by
  have h2 := x.ge
  exact ⟨x.three.set k v e, x.ge, by rw [heap_setCell_other _ _ _ _ (by simp only; omega)]; exact x.rg⟩
theorem getD345 (l : List UInt8) : l.getD 345 0 = 0 ↔ Plain.text (fld l 345 500) = [] := by
  have hg := fld_getD l 345 500 0 (by decide)
  rw [Nat.add_zero] at hg
  rw [← hg]
  cases fld l 345 500 with
  | nil => simp [Plain.text]
  | cons c r =>
    simp only [List.getD_cons_zero]
    constructor
    · intro h; exact Plain.text_zero c r h
    · intro h
      by_cases e : c = 0
      · exact e
      · rw [Plain.text_cons c r e] at h; cases h
set_option maxRecDepth 100000 in
set_option maxHeartbeats 20000000 in
theorem RefHRead_any (l : List UInt8) (hl : l.length = 512) (w : World) :
    Calls Tryd.prog 29 #[.agg (rowA l)] w fun e w' => e = .returned (hdRes (Plain.hread l)) ∧ Below w.heap.size w w' := by
  generalize hrr : Plain.hread l = r
  have HRES := Lib.hid hrr
  have HH := Lib.hid (H2.lit w l)
  have HI := Lib.hid (sizeBlk l hl)
  have HD := Lib.hid (hdInfo Hd.zero)
  have HO := Lib.hid (hdC_one Hd.zero)
  have HS := Lib.hid (fun w => RefSealed_any l hl w)
  have HL := Lib.hid hl
  clear hrr hl
  go_enter Tryd.func29, Tryd.ntmps29
  go_upto_region 1 with (with_reducible refine wpList_box_agg rfl _ _ rfl (rowA l) rfl ?_)
  have hR := HH.out
  generalize (w.alloc (.cells (rowA l) 47)).alloc (.cells #[.string ⟨#[]⟩, .string ⟨#[]⟩, .int .i64 0, .int .i64 0, .int .i64 0, .int .i64 0, .int .i64 0, .int .u8 0, .string ⟨#[]⟩, .string ⟨#[]⟩, .int .i64 0, .int .i64 0, .int .i64 0] 43) = wa at *
  have HR := Lib.hid hR
  clear hR HH
  go_wp2_with fail
  go_loop [4, 5] (fun v i => ∃ k : Nat, k ≤ 512 ∧ i = .int .i64 k ∧ v = .bool ((l.take k).all (· == 0))) (fun _ i => 512 - (intOf i).toNat)
  case atStart => exact ⟨0, by omega, rfl, rfl⟩
  case round =>
    obtain ⟨k, hk, rfl, rfl⟩ := hrel
    by_cases hlt : k < 512
    · have hki : (k : Int) < 512 := by omega
      have hc : wa.cell? ⟨w.heap.size, k, none⟩ = some (.int .u8 ((l.getD k 0).toNat : Int)) := by
        rw [cell_of_row _ _ _ _ _ _ HR.out.r0, rowA_at l k (by rw [HL.out]; exact hlt)]
      have ht := all_take l k (by rw [HL.out]; exact hlt)
      generalize l.getD k 0 = g at hc ht
      generalize hv : (l.take k).all (· == 0) = v at *
      clear hv HS HRES
      by_cases h0 : g = 0
      · have hb : ((g.toNat : Int) != 0) = false := by subst h0; rfl
        have ht2 : (l.take (k + 1)).all (· == 0) = v := by rw [ht, h0]; simp
        have HT := Lib.hid ht2; clear ht ht2 h0
        go_wp2
        go_round
        case rel => exact ⟨k + 1, by omega, by go_num, by rw [HT.out]⟩
        case measure => simp [intOf]; omega
      · have hb : ((g.toNat : Int) != 0) = true := by rw [bne_iff_ne]; intro h; exact h0 (UInt8.toNat_inj.1 (by simpa using (by omega : g.toNat = 0)))
        have ht2 : (l.take (k + 1)).all (· == 0) = false := by rw [ht]; simp [h0]
        have HT := Lib.hid ht2; clear ht ht2 h0
        go_wp2
        go_round
        case rel => exact ⟨k + 1, by omega, by go_num, by rw [HT.out]⟩
        case measure => simp [intOf]; omega
    · obtain rfl : k = 512 := by omega
      have hki : ¬ (512 : Int) < 512 := by omega
      have he : (l.take 512).all (· == 0) = decide (l = zblk) := by rw [List.take_of_length_le (by rw [HL.out]; exact Nat.le_refl _), all_zblk l HL.out]
      rw [he]
      clear he hk hlt
      by_cases c : l = zblk
      · have hd : decide (l = zblk) = true := dec_t c
        rw [hd]
        have hr : r = (Hd.zero, 40) := by rw [← HRES.out]; unfold Plain.hread; rw [if_pos c]
        subst hr
        clear c hd HS HRES
        go_wp2_with (with_reducible refine wpList_store_row rfl 43 _ _ rfl (w.heap.size + 1) rfl (hdC Hd.zero) rfl (hdC Hd.zero) 43 HR.out.r1 rfl HD.out HO.out ?_)
        exact bodyPost_ret (results_cell_tmp rfl _ _ (w.heap.size + 1) 43 (hdC Hd.zero) (0, 0) _ _ rfl rfl (setRow_heap _ _ _ _ _ _ HR.out.r1) Tryd.underlying43 rfl HD.out) rfl ⟨rfl, Below.setRow HR.out.bel (by omega) _⟩
      · have hd : decide (l = zblk) = false := dec_f c
        rw [hd]
        clear hd
        by_cases hs : Plain.sealed l = false
        · have hr : r = (Hd.zero, 41) := by rw [← HRES.out]; unfold Plain.hread; rw [if_neg c, if_pos hs]
          subst hr
          rw [hs] at HS
          clear c hs HRES
          go_wp2_with (first
            | (with_reducible refine wpList_load_row rfl _ _ rfl w.heap.size rfl 47 (rowA l) (0, 0) _ HR.out.r0 Tryd.underlying47 rfl HI.out ?_)
            | (go_at_call 47; (with_reducible refine (HS.out _).mono ?_); rintro e w2 ⟨rfl, hb2⟩; have HR2 := Lib.hid (HR.out.keep hb2); clear hb2)
            | (with_reducible refine wpList_store_row rfl 43 _ _ rfl (w.heap.size + 1) rfl (hdC Hd.zero) rfl (hdC Hd.zero) 43 HR2.out.r1 rfl HD.out HO.out ?_))
          exact bodyPost_ret (results_cell_tmp rfl _ _ (w.heap.size + 1) 43 (hdC Hd.zero) (0, 0) _ _ rfl rfl (setRow_heap _ _ _ _ _ _ HR2.out.r1) Tryd.underlying43 rfl HD.out) rfl ⟨rfl, Below.setRow HR2.out.bel (by omega) _⟩
        · have hst : Plain.sealed l = true := by simpa using hs
          have hr : r = if numsOk l = false then (Hd.zero, 42) else (hdOf l, 0) := by rw [← HRES.out]; unfold Plain.hread; rw [if_neg c, if_neg hs]
          rw [hst] at HS
          clear HRES
          have HRES := Lib.hid hr
          clear hr c hs hst
          go_upto_region 11 with (first
            | (with_reducible refine wpList_load_row rfl _ _ rfl w.heap.size rfl 47 (rowA l) (0, 0) _ HR.out.r0 Tryd.underlying47 rfl HI.out ?_)
            | (go_at_call 47; (with_reducible refine (HS.out _).mono ?_); rintro e w2 ⟨rfl, hb2⟩; have HR2 := Lib.hid (HR.out.keep hb2); clear hb2))
          clear HS HR
          have hb := (Below.refl w2.heap.size w2).alloc (Nat.le_refl _) (.cells (hdC { Hd.zero with form := 1 }) 43)
          have h3 : H3 w l w2.heap.size { Hd.zero with form := 1 } (w2.alloc (.cells (hdC { Hd.zero with form := 1 }) 43)) := ⟨HR2.out.keep hb, by have := HR2.out.lt; omega, heap_alloc_new w2 _⟩
          have H31 : Hid (H3 w l w2.heap.size { Hd.zero with form := 1 } (w2.alloc (.cells #[.string ⟨#[]⟩, .string ⟨#[]⟩, .int .i64 0, .int .i64 0, .int .i64 0, .int .i64 0, .int .i64 0, .int .u8 0, .string ⟨#[]⟩, .string ⟨#[]⟩, .int .i64 0, .int .i64 0, .int .i64 1] 43))) := Lib.hid h3
          clear h3 hb HR2
          go_upto_region 12 with fail
          generalize w2.alloc (.cells #[.string ⟨#[]⟩, .string ⟨#[]⟩, .int .i64 0, .int .i64 0, .int .i64 0, .int .i64 0, .int .i64 0, .int .u8 0, .string ⟨#[]⟩, .string ⟨#[]⟩, .int .i64 0, .int .i64 0, .int .i64 1] 43) = wb at *
          generalize w2.heap.size = gh at *
          have HB := Lib.hid (fun (wx : World) (h : H2 w l wx) => row_bs h.r0 257 265 (512 - 257) (by decide) (by rw [HL.out]; decide) (by decide) (by unfold maxLen; omega))
          have hform : formOf l = if ((l.take 265).drop 257 == magicU) = true then 2 else if ((l.take 265).drop 257 == magicG) = true then 3 else 1 := formOf_eq l
          have hmm : ((l.take 265).drop 257 == magicU) = true → ((l.take 265).drop 257 == magicG) = false := by
            intro a
            rw [eq_of_beq a]; decide
          unfold magicU magicG at hform hmm
          have hf123 : formOf l = 1 ∨ formOf l = 2 ∨ formOf l = 3 := by
            rw [hform]
            split
            · simp
            · split <;> simp
          have hnm : nameOf l = if formOf l = 2 ∧ Plain.text (fld l 345 500) ≠ [] then Plain.text (fld l 345 500) ++ 47 :: Plain.text (fld l 0 100) else Plain.text (fld l 0 100) := rfl
          have hhd : hdOf l = ⟨nameOf l, Plain.text (fld l 157 257), (nAt l 0).1, (nAt l 1).1, (nAt l 2).1, if 49 ≤ (tyOf l).toNat ∧ (tyOf l).toNat ≤ 54 then 0 else (nAt l 3).1, (nAt l 4).1, tyOf l,
              if formOf l = 1 then [] else Plain.text (fld l 265 297), if formOf l = 1 then [] else Plain.text (fld l 297 329), if isDev l = true then (nAt l 5).1 else 0, if isDev l = true then (nAt l 6).1 else 0, formOf l⟩ := rfl
          have hdv : isDev l = decide (formOf l ≠ 1 ∧ (tyOf l = 51 ∨ tyOf l = 52)) := rfl
          have hnum := numsOk_eq l
          have hty : tyOf l = if l.getD 156 0 = 0 ∨ l.getD 156 0 = 55 then 48 else l.getD 156 0 := rfl
          have h345 := getD345 l
          have hr1 := HRES.out
          rw [hhd] at hr1
          clear hhd HRES
          have HN0 : Hid (∀ wx : World, Calls Tryd.prog 48 #[.agg (rowA l), .int .i64 100, .int .i64 108, .int .i64 0, .int .i64 9223372036854775807] wx fun en w' => en = .returned (.tuple #[.int .i64 (nAt l 0).1, .bool (okAt l 0)]) ∧ Below wx.heap.size wx w') := Lib.hid (fun wx => Num_any l HL.out 100 108 0 9223372036854775807 100 108 rfl rfl (by decide) (by decide) (by decide) wx)
          have HN1 : Hid (∀ wx : World, Calls Tryd.prog 48 #[.agg (rowA l), .int .i64 108, .int .i64 116, .int .i64 0, .int .i64 2147483647] wx fun en w' => en = .returned (.tuple #[.int .i64 (nAt l 1).1, .bool (okAt l 1)]) ∧ Below wx.heap.size wx w') := Lib.hid (fun wx => Num_any l HL.out 108 116 0 2147483647 108 116 rfl rfl (by decide) (by decide) (by decide) wx)
          have HN2 : Hid (∀ wx : World, Calls Tryd.prog 48 #[.agg (rowA l), .int .i64 116, .int .i64 124, .int .i64 0, .int .i64 2147483647] wx fun en w' => en = .returned (.tuple #[.int .i64 (nAt l 2).1, .bool (okAt l 2)]) ∧ Below wx.heap.size wx w') := Lib.hid (fun wx => Num_any l HL.out 116 124 0 2147483647 116 124 rfl rfl (by decide) (by decide) (by decide) wx)
          have HN3 : Hid (∀ wx : World, Calls Tryd.prog 48 #[.agg (rowA l), .int .i64 124, .int .i64 136, .int .i64 0, .int .i64 9223372036854775807] wx fun en w' => en = .returned (.tuple #[.int .i64 (nAt l 3).1, .bool (okAt l 3)]) ∧ Below wx.heap.size wx w') := Lib.hid (fun wx => Num_any l HL.out 124 136 0 9223372036854775807 124 136 rfl rfl (by decide) (by decide) (by decide) wx)
          have HN4 : Hid (∀ wx : World, Calls Tryd.prog 48 #[.agg (rowA l), .int .i64 136, .int .i64 148, .int .i64 (-1099511627776), .int .i64 1099511627776] wx fun en w' => en = .returned (.tuple #[.int .i64 (nAt l 4).1, .bool (okAt l 4)]) ∧ Below wx.heap.size wx w') := Lib.hid (fun wx => Num_any l HL.out 136 148 (-1099511627776) 1099511627776 136 148 rfl rfl (by decide) (by decide) (by decide) wx)
          have HN5 : Hid (∀ wx : World, Calls Tryd.prog 48 #[.agg (rowA l), .int .i64 329, .int .i64 337, .int .i64 0, .int .i64 9223372036854775807] wx fun en w' => en = .returned (.tuple #[.int .i64 (nAt l 5).1, .bool (okAt l 5)]) ∧ Below wx.heap.size wx w') := Lib.hid (fun wx => Num_any l HL.out 329 337 0 9223372036854775807 329 337 rfl rfl (by decide) (by decide) (by decide) wx)
          have HN6 : Hid (∀ wx : World, Calls Tryd.prog 48 #[.agg (rowA l), .int .i64 337, .int .i64 345, .int .i64 0, .int .i64 9223372036854775807] wx fun en w' => en = .returned (.tuple #[.int .i64 (nAt l 6).1, .bool (okAt l 6)]) ∧ Below wx.heap.size wx w') := Lib.hid (fun wx => Num_any l HL.out 337 345 0 9223372036854775807 337 345 rfl rfl (by decide) (by decide) (by decide) wx)
          have HTP := Lib.hid (fun (wx : World) (h : H2 w l wx) => RefText_any _ _ _ _ wx (h.part HL.out 345 500 (by decide) (by decide)))
          have HT0 := Lib.hid (fun (wx : World) (h : H2 w l wx) => RefText_any _ _ _ _ wx (h.part HL.out 0 100 (by decide) (by decide)))
          have HT1 := Lib.hid (fun (wx : World) (h : H2 w l wx) => RefText_any _ _ _ _ wx (h.part HL.out 157 257 (by decide) (by decide)))
          have HTU := Lib.hid (fun (wx : World) (h : H2 w l wx) => RefText_any _ _ _ _ wx (h.part HL.out 265 297 (by decide) (by decide)))
          have HTG := Lib.hid (fun (wx : World) (h : H2 w l wx) => RefText_any _ _ _ _ wx (h.part HL.out 297 329 (by decide) (by decide)))
          have hpl : (Plain.text (fld l 345 500)).length ≤ 155 := by have := Plain.text_len (fld l 345 500); rw [fld_len _ _ _ (by rw [HL.out]; decide)] at this; omega
          have htl : (Plain.text (fld l 0 100)).length ≤ 100 := by have := Plain.text_len (fld l 0 100); rw [fld_len _ _ _ (by rw [HL.out]; decide)] at this; omega
          have HX156 := Lib.hid (fun (wx : World) (h : H2 w l wx) => (by rw [cell_of_row _ _ _ _ _ _ h.r0, rowA_at _ _ (by rw [HL.out]; decide)] : wx.cell? ⟨w.heap.size, 156, none⟩ = some (.int .u8 ((l.getD 156 0).toNat : Int))))
          have HX345 := Lib.hid (fun (wx : World) (h : H2 w l wx) => (by rw [cell_of_row _ _ _ _ _ _ h.r0, rowA_at _ _ (by rw [HL.out]; decide)] : wx.cell? ⟨w.heap.size, 345, none⟩ = some (.int .u8 ((l.getD 345 0).toNat : Int))))
          generalize (nAt l 0).1 = v0 at *
          generalize (nAt l 1).1 = v1 at *
          generalize (nAt l 2).1 = v2 at *
          generalize (nAt l 3).1 = v3 at *
          generalize (nAt l 4).1 = v4 at *
          generalize (nAt l 5).1 = v5 at *
          generalize (nAt l 6).1 = v6 at *
          generalize okAt l 0 = g0 at *
          generalize okAt l 1 = g1 at *
          generalize okAt l 2 = g2 at *
          generalize okAt l 3 = g3 at *
          generalize okAt l 4 = g4 at *
          generalize okAt l 5 = g5 at *
          generalize okAt l 6 = g6 at *
          generalize numsOk l = NO at *
          generalize isDev l = D at *
          generalize nameOf l = N at *
          generalize Plain.text (fld l 345 500) = P at *
          generalize Plain.text (fld l 0 100) = T0 at *
          generalize Plain.text (fld l 157 257) = T1 at *
          generalize Plain.text (fld l 265 297) = TU at *
          generalize Plain.text (fld l 297 329) = TG at *
          generalize formOf l = F at *
          generalize tyOf l = TY at *
          generalize l.getD 156 0 = B at *
          generalize l.getD 345 0 = X at *
          generalize (l.take 265).drop 257 = f at *
          obtain ⟨M5, hM5⟩ : ∃ M : Int, M = if D = true then v5 else 0 := ⟨_, rfl⟩
          obtain ⟨M6, hM6⟩ : ∃ M : Int, M = if D = true then v6 else 0 := ⟨_, rfl⟩
          obtain ⟨U, hU⟩ : ∃ U : List UInt8, U = if F = 1 then [] else TU := ⟨_, rfl⟩
          obtain ⟨G, hG⟩ : ∃ U : List UInt8, U = if F = 1 then [] else TG := ⟨_, rfl⟩
          obtain ⟨Z, hZ⟩ : ∃ Z : Int, Z = if 49 ≤ TY.toNat ∧ TY.toNat ≤ 54 then 0 else v3 := ⟨_, rfl⟩
          rw [← hM5, ← hM6, ← hU, ← hG, ← hZ] at hr1
          obtain ⟨F1, hF1⟩ : ∃ F1 : Int, F1 = if (f == [117, 115, 116, 97, 114, 0, 48, 48]) = true then 2 else 1 := ⟨_, rfl⟩
          have hF2 : F = if (f == [117, 115, 116, 97, 114, 32, 32, 0]) = true then 3 else F1 := by
            rw [hform, hF1]
            by_cases a : (f == [117, 115, 116, 97, 114, 0, 48, 48]) = true
            · rw [if_pos a, if_pos a, if_neg (by rw [hmm a]; decide)]
            · rw [if_neg a, if_neg a]
          have HR1 := Lib.hid hr1; have HM5 := Lib.hid hM5; have HM6 := Lib.hid hM6; have HUU := Lib.hid hU; have HGG := Lib.hid hG; have HZZ := Lib.hid hZ; have HF1 := Lib.hid hF1; have HF2 := Lib.hid hF2
          have HFO := Lib.hid hf123; have HNM := Lib.hid hnm; have HDV := Lib.hid hdv; have HNUM := Lib.hid hnum; have HTY := Lib.hid hty; have H345 := Lib.hid h345; have HPL := Lib.hid hpl; have HTL := Lib.hid htl
          clear hr1 hM5 hM6 hU hG hZ hF1 hF2 hform hmm hf123 hnm hdv hnum hty h345 hpl htl
          go_upto_if 26 with (first
            | (with_reducible refine wpList_slice_row rfl _ _ _ _ rfl Tryd.underlying47 (by kernel_rfl) w.heap.size rfl 257 265 .i64 .i64 rfl rfl (by decide) (by decide) (by decide) ?_)
            | (with_reducible refine wpList_str_of_bs rfl _ _ _ rfl Tryd.underlying22 Tryd.underlying5 Tryd.underlying9 rfl (HB.out _ H31.out.two) ?_))
          go_cut [] (fun wy => Hid (H3 w l gh { Hd.zero with form := F1 } wy))
          case first =>
            as_aux_lemma =>
              have hcc := H31.out.cell 12
              have hff := H31.out.free 12
              by_cases c1 : (f == [117, 115, 116, 97, 114, 0, 48, 48]) = true
              · have hF : F1 = 2 := by rw [HF1.out, if_pos c1]
                have HF := Lib.hid hF
                have HZ := Lib.hid (H31.out.set (h' := { Hd.zero with form := 2 }) 12 (.int .i64 2) rfl)
                clear hF
                rw [c1]
                go_wp2
                go_meet
                rw [HF.out]; exact HZ
              · have c2 : (f == [117, 115, 116, 97, 114, 0, 48, 48]) = false := by simpa using c1
                have hF : F1 = 1 := by rw [HF1.out, if_neg c1]
                have HF := Lib.hid hF
                clear hF c1
                rw [c2]
                go_wp2
                go_meet
                rw [HF.out]; exact H31
          case rest =>
            have H32 := hcut
            generalize wc = wd at *
            clear H31
            go_upto_if 30 with (first
              | (with_reducible refine wpList_slice_row rfl _ _ _ _ rfl Tryd.underlying47 (by kernel_rfl) w.heap.size rfl 257 265 .i64 .i64 rfl rfl (by decide) (by decide) (by decide) ?_)
              | (with_reducible refine wpList_str_of_bs rfl _ _ _ rfl Tryd.underlying22 Tryd.underlying5 Tryd.underlying9 rfl (HB.out _ H32.out.two) ?_))
            go_cut [] (fun wy => Hid (H3 w l gh { Hd.zero with form := F } wy))
            case first =>
              as_aux_lemma =>
                have hcc := H32.out.cell 12
                have hff := H32.out.free 12
                by_cases c1 : (f == [117, 115, 116, 97, 114, 32, 32, 0]) = true
                · have hF : F = 3 := by rw [HF2.out, if_pos c1]
                  have HF := Lib.hid hF
                  have HZ := Lib.hid (H32.out.set (h' := { Hd.zero with form := 3 }) 12 (.int .i64 3) rfl)
                  clear hF
                  rw [c1]
                  go_wp2
                  go_meet
                  rw [HF.out]; exact HZ
                · have c2 : (f == [117, 115, 116, 97, 114, 32, 32, 0]) = false := by simpa using c1
                  have hF : F = F1 := by rw [HF2.out, if_neg c1]
                  have HF := Lib.hid hF
                  clear hF c1
                  rw [c2]
                  go_wp2
                  go_meet
                  rw [HF.out]; exact H32
            case rest =>
              have H33 := hcut
              generalize wc = we at *
              clear H32 HF1 HF2 HB
              have hx := HX156.out we H33.out.two
              have hc7 := H33.out.cell 7
              have hf7 := H33.out.free 7
              have H34 := Lib.hid (H33.out.set (h' := hFT F B) 7 (.int .u8 (B.toNat : Int)) rfl)
              go_upto_region 17 with fail
              generalize we.setCell ⟨gh, 7, none⟩ (.int .u8 (B.toNat : Int)) = wf at *
              clear hx hc7 hf7 H33 HX156
              have hc7 : wf.cell? ⟨gh, 7, none⟩ = some (.int .u8 (B.toNat : Int)) := H34.out.cell 7
              have hf7 := H34.out.free 7
              go_cut [42] (fun s42 wy => s42 = .bool (decide (B = 0 ∨ B = 55)) ∧ Hid (wy = wf))
              case first =>
                as_aux_lemma =>
                  by_cases e0 : B = 0
                  · subst e0
                    go_wp2
                    go_meet
                    exact ⟨rfl, Lib.hid rfl⟩
                  · have h0 : ((B.toNat : Int) == 0) = false := by rw [beq_eq_false_iff_ne]; intro h; exact e0 (UInt8.toNat_inj.1 (by simpa using (by omega : B.toNat = 0)))
                    by_cases e5 : B = 55
                    · subst e5
                      go_wp2
                      go_meet
                      exact ⟨rfl, Lib.hid rfl⟩
                    · have h5 : ((B.toNat : Int) == 55) = false := by rw [beq_eq_false_iff_ne]; intro h; exact e5 (UInt8.toNat_inj.1 (by simpa using (by omega : B.toNat = 55)))
                      have hd : decide (B = 0 ∨ B = 55) = false := by simp [e0, e5]
                      have HDD := Lib.hid hd
                      clear hd e0 e5
                      go_wp2
                      go_meet
                      exact ⟨by rw [HDD.out], Lib.hid rfl⟩
              case rest =>
                obtain ⟨rfl, hwc⟩ := hcut
                obtain rfl := hwc.out
                go_upto_if 42 with fail
                go_cut [] (fun wy => Hid (H3 w l gh (hFT F TY) wy))
                case first =>
                  as_aux_lemma =>
                    by_cases e0 : B = 0 ∨ B = 55
                    · have hd : decide (B = 0 ∨ B = 55) = true := dec_t e0
                      have ht : TY = 48 := by rw [HTY.out, if_pos e0]
                      rw [hd]
                      have HT := Lib.hid ht
                      clear hd e0 HTY ht
                      go_wp2
                      go_meet
                      exact Lib.hid (by rw [HT.out]; exact H34.out.set 7 _ rfl)
                    · have hd : decide (B = 0 ∨ B = 55) = false := dec_f e0
                      have ht : TY = B := by rw [HTY.out, if_neg e0]
                      rw [hd]
                      have HT := Lib.hid ht
                      clear hd e0 HTY ht
                      go_wp2
                      go_meet
                      exact Lib.hid (by rw [HT.out]; exact H34.out)
                case rest =>
                  have H35 := hcut
                  generalize wc = wg at *
                  clear H34 hc7 hf7 HTY
                  have hb := (Below.refl wg.heap.size wg).alloc (Nat.le_refl _) (.cells #[.bool true, .bool true, .bool true, .bool true, .bool true, .bool true, .bool true] 74)
                  have h5 : Hf5 w l gh ⟨[], [], 0, 0, 0, 0, 0, TY, [], [], 0, 0, F⟩ wg.heap.size [true, true, true, true, true, true, true] (wg.alloc (.cells #[.bool true, .bool true, .bool true, .bool true, .bool true, .bool true, .bool true] 74)) := ⟨H35.out.keep hb, H35.out.lt, heap_alloc_new wg _⟩
                  have HX0 := Lib.hid h5
                  clear h5 hb H35
                  go_upto_region 20 with fail
                  generalize wg.alloc (.cells #[.bool true, .bool true, .bool true, .bool true, .bool true, .bool true, .bool true] 74) = wn0 at *
                  generalize wg.heap.size = gg at *
                  go_upto_region 21 with (first
                    | (with_reducible refine wpList_load_row rfl _ _ rfl w.heap.size rfl 47 (rowA l) (0, 0) _ HX0.out.three.two.r0 Tryd.underlying47 rfl HI.out ?_)
                    | (go_at_call 48; (with_reducible refine (HN0.out _).mono ?_); rintro en wq0 ⟨rfl, hb7⟩; have h7 := HX0.out.keep hb7; clear hb7; have hc1 := h7.three.cell 2; have hf1 := h7.three.free 2; have hs7 : Hf5 w l gh ⟨[], [], v0, 0, 0, 0, 0, TY, [], [], 0, 0, F⟩ gg [true, true, true, true, true, true, true] (wq0.setCell ⟨gh, 2, none⟩ (.int .i64 v0)) := h7.set 2 (.int .i64 v0) rfl; have hc2 : (wq0.setCell ⟨gh, 2, none⟩ (.int .i64 v0)).cell? ⟨gg, 0, none⟩ = some (.bool true) := hs7.cell 0 (by simp); have hf2 := hs7.free 0; have HX1 : Hid (Hf5 w l gh ⟨[], [], v0, 0, 0, 0, 0, TY, [], [], 0, 0, F⟩ gg [g0, true, true, true, true, true, true] ((wq0.setCell ⟨gh, 2, none⟩ (.int .i64 v0)).setCell ⟨gg, 0, none⟩ (.bool g0))) := Lib.hid (hs7.put 0 g0); clear h7 hs7))
                  generalize (wq0.setCell ⟨gh, 2, none⟩ (.int .i64 v0)).setCell ⟨gg, 0, none⟩ (.bool g0) = wn1 at *
                  clear hc1 hf1 hc2 hf2 HX0 HN0
                  go_upto_region 22 with (first
                    | (with_reducible refine wpList_load_row rfl _ _ rfl w.heap.size rfl 47 (rowA l) (0, 0) _ HX1.out.three.two.r0 Tryd.underlying47 rfl HI.out ?_)
                    | (go_at_call 48; (with_reducible refine (HN1.out _).mono ?_); rintro en wq1 ⟨rfl, hb7⟩; have h7 := HX1.out.keep hb7; clear hb7; have hc1 := h7.three.cell 3; have hf1 := h7.three.free 3; have hs7 : Hf5 w l gh ⟨[], [], v0, v1, 0, 0, 0, TY, [], [], 0, 0, F⟩ gg [g0, true, true, true, true, true, true] (wq1.setCell ⟨gh, 3, none⟩ (.int .i64 v1)) := h7.set 3 (.int .i64 v1) rfl; have hc2 : (wq1.setCell ⟨gh, 3, none⟩ (.int .i64 v1)).cell? ⟨gg, 1, none⟩ = some (.bool true) := hs7.cell 1 (by simp); have hf2 := hs7.free 1; have HX2 : Hid (Hf5 w l gh ⟨[], [], v0, v1, 0, 0, 0, TY, [], [], 0, 0, F⟩ gg [g0, g1, true, true, true, true, true] ((wq1.setCell ⟨gh, 3, none⟩ (.int .i64 v1)).setCell ⟨gg, 1, none⟩ (.bool g1))) := Lib.hid (hs7.put 1 g1); clear h7 hs7))
                  generalize (wq1.setCell ⟨gh, 3, none⟩ (.int .i64 v1)).setCell ⟨gg, 1, none⟩ (.bool g1) = wn2 at *
                  clear hc1 hf1 hc2 hf2 HX1 HN1
                  go_upto_region 23 with (first
                    | (with_reducible refine wpList_load_row rfl _ _ rfl w.heap.size rfl 47 (rowA l) (0, 0) _ HX2.out.three.two.r0 Tryd.underlying47 rfl HI.out ?_)
                    | (go_at_call 48; (with_reducible refine (HN2.out _).mono ?_); rintro en wq2 ⟨rfl, hb7⟩; have h7 := HX2.out.keep hb7; clear hb7; have hc1 := h7.three.cell 4; have hf1 := h7.three.free 4; have hs7 : Hf5 w l gh ⟨[], [], v0, v1, v2, 0, 0, TY, [], [], 0, 0, F⟩ gg [g0, g1, true, true, true, true, true] (wq2.setCell ⟨gh, 4, none⟩ (.int .i64 v2)) := h7.set 4 (.int .i64 v2) rfl; have hc2 : (wq2.setCell ⟨gh, 4, none⟩ (.int .i64 v2)).cell? ⟨gg, 2, none⟩ = some (.bool true) := hs7.cell 2 (by simp); have hf2 := hs7.free 2; have HX3 : Hid (Hf5 w l gh ⟨[], [], v0, v1, v2, 0, 0, TY, [], [], 0, 0, F⟩ gg [g0, g1, g2, true, true, true, true] ((wq2.setCell ⟨gh, 4, none⟩ (.int .i64 v2)).setCell ⟨gg, 2, none⟩ (.bool g2))) := Lib.hid (hs7.put 2 g2); clear h7 hs7))
                  generalize (wq2.setCell ⟨gh, 4, none⟩ (.int .i64 v2)).setCell ⟨gg, 2, none⟩ (.bool g2) = wn3 at *
                  clear hc1 hf1 hc2 hf2 HX2 HN2
                  go_upto_region 24 with (first
                    | (with_reducible refine wpList_load_row rfl _ _ rfl w.heap.size rfl 47 (rowA l) (0, 0) _ HX3.out.three.two.r0 Tryd.underlying47 rfl HI.out ?_)
                    | (go_at_call 48; (with_reducible refine (HN3.out _).mono ?_); rintro en wq3 ⟨rfl, hb7⟩; have h7 := HX3.out.keep hb7; clear hb7; have hc1 := h7.three.cell 5; have hf1 := h7.three.free 5; have hs7 : Hf5 w l gh ⟨[], [], v0, v1, v2, v3, 0, TY, [], [], 0, 0, F⟩ gg [g0, g1, g2, true, true, true, true] (wq3.setCell ⟨gh, 5, none⟩ (.int .i64 v3)) := h7.set 5 (.int .i64 v3) rfl; have hc2 : (wq3.setCell ⟨gh, 5, none⟩ (.int .i64 v3)).cell? ⟨gg, 3, none⟩ = some (.bool true) := hs7.cell 3 (by simp); have hf2 := hs7.free 3; have HX4 : Hid (Hf5 w l gh ⟨[], [], v0, v1, v2, v3, 0, TY, [], [], 0, 0, F⟩ gg [g0, g1, g2, g3, true, true, true] ((wq3.setCell ⟨gh, 5, none⟩ (.int .i64 v3)).setCell ⟨gg, 3, none⟩ (.bool g3))) := Lib.hid (hs7.put 3 g3); clear h7 hs7))
                  generalize (wq3.setCell ⟨gh, 5, none⟩ (.int .i64 v3)).setCell ⟨gg, 3, none⟩ (.bool g3) = wn4 at *
                  clear hc1 hf1 hc2 hf2 HX3 HN3
                  go_upto_region 25 with (first
                    | (with_reducible refine wpList_load_row rfl _ _ rfl w.heap.size rfl 47 (rowA l) (0, 0) _ HX4.out.three.two.r0 Tryd.underlying47 rfl HI.out ?_)
                    | (go_at_call 48; (with_reducible refine (HN4.out _).mono ?_); rintro en wq4 ⟨rfl, hb7⟩; have h7 := HX4.out.keep hb7; clear hb7; have hc1 := h7.three.cell 6; have hf1 := h7.three.free 6; have hs7 : Hf5 w l gh ⟨[], [], v0, v1, v2, v3, v4, TY, [], [], 0, 0, F⟩ gg [g0, g1, g2, g3, true, true, true] (wq4.setCell ⟨gh, 6, none⟩ (.int .i64 v4)) := h7.set 6 (.int .i64 v4) rfl; have hc2 : (wq4.setCell ⟨gh, 6, none⟩ (.int .i64 v4)).cell? ⟨gg, 4, none⟩ = some (.bool true) := hs7.cell 4 (by simp); have hf2 := hs7.free 4; have HX5 : Hid (Hf5 w l gh ⟨[], [], v0, v1, v2, v3, v4, TY, [], [], 0, 0, F⟩ gg [g0, g1, g2, g3, g4, true, true] ((wq4.setCell ⟨gh, 6, none⟩ (.int .i64 v4)).setCell ⟨gg, 4, none⟩ (.bool g4))) := Lib.hid (hs7.put 4 g4); clear h7 hs7))
                  generalize (wq4.setCell ⟨gh, 6, none⟩ (.int .i64 v4)).setCell ⟨gg, 4, none⟩ (.bool g4) = wn5 at *
                  clear hc1 hf1 hc2 hf2 HX4 HN4
                  have hc7 : wn5.cell? ⟨gh, 7, none⟩ = some (.int .u8 (TY.toNat : Int)) := HX5.out.three.cell 7
                  have hc12 : wn5.cell? ⟨gh, 12, none⟩ = some (.int .i64 F) := HX5.out.three.cell 12
                  go_cut [92] (fun s92 wy => s92 = .bool D ∧ Hid (wy = wn5))
                  case first =>
                    as_aux_lemma =>
                      have hdv := HDV.out
                      clear HDV HX5
                      by_cases eF : F = 1
                      · have hF : (F != 1) = false := bne_f eF
                        have hD : D = false := by rw [hdv]; simp [eF]
                        have HDV := Lib.hid hD
                        clear hdv eF hD
                        go_wp2
                        go_meet
                        exact ⟨by rw [HDV.out], Lib.hid rfl⟩
                      · have hF : (F != 1) = true := bne_t eF
                        by_cases e51 : TY = 51
                        · have hD : D = true := by rw [hdv]; simp [eF, e51]
                          have HDV := Lib.hid hD
                          subst e51
                          clear hdv eF hD
                          go_wp2
                          go_meet
                          exact ⟨by rw [HDV.out], Lib.hid rfl⟩
                        · have h51 : ((TY.toNat : Int) == 51) = false := by rw [beq_eq_false_iff_ne]; intro h; exact e51 (UInt8.toNat_inj.1 (by simpa using (by omega : TY.toNat = 51)))
                          by_cases e52 : TY = 52
                          · have hD : D = true := by rw [hdv]; simp [eF, e52]
                            have HDV := Lib.hid hD
                            subst e52
                            clear hdv eF hD h51 e51
                            go_wp2
                            go_meet
                            exact ⟨by rw [HDV.out], Lib.hid rfl⟩
                          · have h52 : ((TY.toNat : Int) == 52) = false := by rw [beq_eq_false_iff_ne]; intro h; exact e52 (UInt8.toNat_inj.1 (by simpa using (by omega : TY.toNat = 52)))
                            have hD : D = false := by rw [hdv]; simp [e51, e52]
                            have HDV := Lib.hid hD
                            clear hdv eF hD e51 e52
                            go_wp2
                            go_meet
                            exact ⟨by rw [HDV.out], Lib.hid rfl⟩
                  case rest =>
                    obtain ⟨rfl, hwc⟩ := hcut
                    obtain rfl := hwc.out
                    clear hc7 hc12 HDV
                    go_upto_if 92 with fail
                    go_cut [] (fun wy => Hid (Hf5 w l gh ⟨[], [], v0, v1, v2, v3, v4, TY, [], [], M5, M6, F⟩ gg [g0, g1, g2, g3, g4, !D || g5, !D || g6] wy))
                    case first =>
                      as_aux_lemma =>
                        cases D with
                        | false =>
                          have HA := Lib.hid HM5.out; have HBB := Lib.hid HM6.out
                          have h5 : M5 = 0 := by rw [HM5.out]; rfl
                          have h6 : M6 = 0 := by rw [HM6.out]; rfl
                          subst h5; subst h6
                          clear HA HBB HM5 HM6
                          go_wp2
                          go_meet
                          exact HX5
                        | true =>
                          have h5 : M5 = v5 := by rw [HM5.out]; rfl
                          have h6 : M6 = v6 := by rw [HM6.out]; rfl
                          subst h5; subst h6
                          clear HM5 HM6
                          go_upto_region 27 with (first
                            | (with_reducible refine wpList_load_row rfl _ _ rfl w.heap.size rfl 47 (rowA l) (0, 0) _ HX5.out.three.two.r0 Tryd.underlying47 rfl HI.out ?_)
                            | (go_at_call 48; (with_reducible refine (HN5.out _).mono ?_); rintro en wq5 ⟨rfl, hb7⟩; have h7 := HX5.out.keep hb7; clear hb7; have hc1 := h7.three.cell 10; have hf1 := h7.three.free 10; have hs7 : Hf5 w l gh ⟨[], [], v0, v1, v2, v3, v4, TY, [], [], M5, 0, F⟩ gg [g0, g1, g2, g3, g4, true, true] (wq5.setCell ⟨gh, 10, none⟩ (.int .i64 M5)) := h7.set 10 (.int .i64 M5) rfl; have hc2 : (wq5.setCell ⟨gh, 10, none⟩ (.int .i64 M5)).cell? ⟨gg, 5, none⟩ = some (.bool true) := hs7.cell 5 (by simp); have hf2 := hs7.free 5; have HX6 : Hid (Hf5 w l gh ⟨[], [], v0, v1, v2, v3, v4, TY, [], [], M5, 0, F⟩ gg [g0, g1, g2, g3, g4, g5, true] ((wq5.setCell ⟨gh, 10, none⟩ (.int .i64 M5)).setCell ⟨gg, 5, none⟩ (.bool g5))) := Lib.hid (hs7.put 5 g5); clear h7 hs7))
                          generalize (wq5.setCell ⟨gh, 10, none⟩ (.int .i64 M5)).setCell ⟨gg, 5, none⟩ (.bool g5) = wn6 at *
                          clear hc1 hf1 hc2 hf2 HX5 HN5
                          go_wp2_with (first
                            | (with_reducible refine wpList_load_row rfl _ _ rfl w.heap.size rfl 47 (rowA l) (0, 0) _ HX6.out.three.two.r0 Tryd.underlying47 rfl HI.out ?_)
                            | (go_at_call 48; (with_reducible refine (HN6.out _).mono ?_); rintro en wq6 ⟨rfl, hb7⟩; have h7 := HX6.out.keep hb7; clear hb7; have hc1 := h7.three.cell 11; have hf1 := h7.three.free 11; have hs7 : Hf5 w l gh ⟨[], [], v0, v1, v2, v3, v4, TY, [], [], M5, M6, F⟩ gg [g0, g1, g2, g3, g4, g5, true] (wq6.setCell ⟨gh, 11, none⟩ (.int .i64 M6)) := h7.set 11 (.int .i64 M6) rfl; have hc2 : (wq6.setCell ⟨gh, 11, none⟩ (.int .i64 M6)).cell? ⟨gg, 6, none⟩ = some (.bool true) := hs7.cell 6 (by simp); have hf2 := hs7.free 6; have HX7 : Hid (Hf5 w l gh ⟨[], [], v0, v1, v2, v3, v4, TY, [], [], M5, M6, F⟩ gg [g0, g1, g2, g3, g4, g5, g6] ((wq6.setCell ⟨gh, 11, none⟩ (.int .i64 M6)).setCell ⟨gg, 6, none⟩ (.bool g6))) := Lib.hid (hs7.put 6 g6); clear h7 hs7))
                          go_meet
                          exact HX7
                    case rest =>
                      have HX7 := hcut
                      generalize wc = wm at *
                      clear HX5 HM5 HM6
                      have hgd : (∀ j, j < 7 → [g0, g1, g2, g3, g4, !D || g5, !D || g6].getD j false = true) → NO = true := by
                        intro h
                        rw [HNUM.out]
                        have a0 := h 0 (by decide); have a1 := h 1 (by decide); have a2 := h 2 (by decide); have a3 := h 3 (by decide); have a4 := h 4 (by decide); have a5 := h 5 (by decide); have a6 := h 6 (by decide)
                        simp only [List.getD_cons_zero, List.getD_cons_succ] at a0 a1 a2 a3 a4 a5 a6
                        subst a0; subst a1; subst a2; subst a3; subst a4
                        cases D
                        · rfl
                        · simp only [Bool.not_true, Bool.false_or] at a5 a6
                          subst a5; subst a6; rfl
                      have hbd : ∀ k, k < 7 → [g0, g1, g2, g3, g4, !D || g5, !D || g6].getD k false = false → NO = false := by
                        intro k hk h
                        rw [HNUM.out]
                        rcases (by omega : k = 0 ∨ k = 1 ∨ k = 2 ∨ k = 3 ∨ k = 4 ∨ k = 5 ∨ k = 6) with rfl | rfl | rfl | rfl | rfl | rfl | rfl
                        all_goals simp only [List.getD_cons_zero, List.getD_cons_succ] at h
                        · rw [h]; simp
                        · rw [h]; simp
                        · rw [h]; simp
                        · rw [h]; simp
                        · rw [h]; simp
                        · cases D
                          · cases h
                          · simp only [Bool.not_true, Bool.false_or] at h; rw [h]; simp
                        · cases D
                          · cases h
                          · simp only [Bool.not_true, Bool.false_or] at h; rw [h]; simp
                      have hlen : [g0, g1, g2, g3, g4, !D || g5, !D || g6].length = 7 := rfl
                      generalize [g0, g1, g2, g3, g4, !D || g5, !D || g6] = BS at *
                      have HGD := Lib.hid hgd; have HBD := Lib.hid hbd; have HBL := Lib.hid hlen
                      clear hgd hbd hlen HNUM
                      go_wp2_with fail
                      go_loop [8] (fun i => ∃ k : Nat, k ≤ 7 ∧ i = .int .i64 k ∧ Hid (∀ j, j < k → BS.getD j false = true)) (fun i => 7 - (intOf i).toNat)
                      case atStart => exact ⟨0, by decide, rfl, Lib.hid (fun j hj => absurd hj (Nat.not_lt_zero j))⟩
                      case round =>
                        obtain ⟨k, hk, rfl, hok⟩ := hrel
                        by_cases hlt : k < 7
                        · have hki : (k : Int) < 7 := by omega
                          have hc := HX7.out.cell k (by rw [HBL.out]; exact hlt)
                          generalize hb : BS.getD k false = b at hc
                          have HBB := Lib.hid hb
                          clear hb
                          cases b with
                          | true =>
                            as_aux_lemma =>
                              have hok2 : ∀ j, j < k + 1 → BS.getD j false = true := fun j hj => by
                                by_cases e : j = k
                                · subst e; exact HBB.out
                                · exact hok.out j (by omega)
                              have HOK := Lib.hid hok2
                              clear hok2
                              go_wp2
                              go_round
                              case rel => exact ⟨k + 1, by omega, by go_num, HOK⟩
                              case measure => simp [intOf]; omega
                          | false =>
                            as_aux_lemma =>
                              have hno := HBD.out k hlt HBB.out
                              have hr := HR1.out
                              rw [if_pos hno] at hr
                              have HRR := Lib.hid hr
                              clear hno hr
                              go_wp2_with (with_reducible refine wpList_store_row rfl 43 _ _ rfl (w.heap.size + 1) rfl (hdC Hd.zero) rfl (hdC Hd.zero) 43 HX7.out.three.two.r1 rfl HD.out HO.out ?_)
                              exact bodyPost_ret (results_cell_tmp rfl _ _ (w.heap.size + 1) 43 (hdC Hd.zero) (0, 0) _ _ rfl rfl (setRow_heap _ _ _ _ _ _ HX7.out.three.two.r1) Tryd.underlying43 rfl HD.out) rfl ⟨by rw [HRR.out]; rfl, Below.setRow HX7.out.three.two.bel (by omega) _⟩
                        · obtain rfl : k = 7 := by omega
                          as_aux_lemma =>
                            have hki : ¬ (7 : Int) < 7 := by omega
                            have hno := HGD.out hok.out
                            have hr := HR1.out
                            rw [if_neg (by rw [hno]; decide)] at hr
                            have HRR := Lib.hid hr
                            clear hno hr hok hlt hk HGD HBD HBL HO HD HR1 HN5 HN6
                            have hc7 : wm.cell? ⟨gh, 7, none⟩ = some (.int .u8 (TY.toNat : Int)) := HX7.out.three.cell 7
                            go_upto_region 33 with fail
                            go_cut [123] (fun s wy => s = .bool (decide (49 ≤ TY.toNat ∧ TY.toNat ≤ 54)) ∧ Hid (wy = wm))
                            case first =>
                              clear HX7
                              by_cases e1 : 49 ≤ TY.toNat
                              · have h1 : (49 : Int) ≤ (TY.toNat : Int) := by omega
                                by_cases e2 : TY.toNat ≤ 54
                                · have h2 : (TY.toNat : Int) ≤ 54 := by omega
                                  have hd : decide (49 ≤ TY.toNat ∧ TY.toNat ≤ 54) = true := dec_t ⟨e1, e2⟩
                                  have HDD := Lib.hid hd
                                  clear hd e1 e2
                                  go_wp2
                                  go_meet
                                  exact ⟨by rw [HDD.out], Lib.hid rfl⟩
                                · have h2 : ¬ (TY.toNat : Int) ≤ 54 := by omega
                                  have hd : decide (49 ≤ TY.toNat ∧ TY.toNat ≤ 54) = false := dec_f (by omega)
                                  have HDD := Lib.hid hd
                                  clear hd e1 e2
                                  go_wp2
                                  go_meet
                                  exact ⟨by rw [HDD.out], Lib.hid rfl⟩
                              · have h1 : ¬ (49 : Int) ≤ (TY.toNat : Int) := by omega
                                have hd : decide (49 ≤ TY.toNat ∧ TY.toNat ≤ 54) = false := dec_f (by omega)
                                have HDD := Lib.hid hd
                                clear hd e1
                                go_wp2
                                go_meet
                                exact ⟨by rw [HDD.out], Lib.hid rfl⟩
                            case rest =>
                              obtain ⟨rfl, hwc⟩ := hcut
                              obtain rfl := hwc.out
                              clear hc7
                              have hc5 := HX7.out.three.cell 5
                              have hf5 := HX7.out.three.free 5
                              go_upto_if 123 with fail
                              go_cut [] (fun wy => Hid (Hf5 w l gh ⟨[], [], v0, v1, v2, Z, v4, TY, [], [], M5, M6, F⟩ gg BS wy))
                              case first =>
                                by_cases e : 49 ≤ TY.toNat ∧ TY.toNat ≤ 54
                                · have hd : decide (49 ≤ TY.toNat ∧ TY.toNat ≤ 54) = true := dec_t e
                                  have hT : Z = 0 := by rw [HZZ.out, if_pos e]
                                  have HT := Lib.hid hT
                                  rw [hd]
                                  clear hd e hT HZZ
                                  go_wp2
                                  go_meet
                                  exact Lib.hid (by rw [HT.out]; exact HX7.out.set 5 _ rfl)
                                · have hd : decide (49 ≤ TY.toNat ∧ TY.toNat ≤ 54) = false := dec_f e
                                  have hT : Z = v3 := by rw [HZZ.out, if_neg e]
                                  have HT := Lib.hid hT
                                  rw [hd]
                                  clear hd e hT HZZ
                                  go_wp2
                                  go_meet
                                  exact Lib.hid (by rw [HT.out]; exact HX7.out)
                              case rest =>
                                have HY0 := hcut
                                generalize wc = wy0 at *
                                clear HX7 hc5 hf5 HZZ
                                go_upto_region 35 with fail
                                go_upto_region 36 with (first
                                  | (with_reducible refine wpList_slice_row rfl _ _ _ _ rfl Tryd.underlying47 (by kernel_rfl) w.heap.size rfl 0 100 .i64 .i64 rfl rfl (by decide) (by decide) (by decide) ?_)
                                  | (go_at_call 49; (with_reducible refine (HT0.out _ HY0.out.three.two).mono ?_); rintro en wq35 ⟨rfl, hb7⟩; have h7 := HY0.out.keep hb7; clear hb7; have hc1 := h7.three.cell 0; have hf1 := h7.three.free 0; have HY1 : Hid (Hf5 w l gh ⟨T0, [], v0, v1, v2, Z, v4, TY, [], [], M5, M6, F⟩ gg BS (wq35.setCell ⟨gh, 0, none⟩ (.string ⟨T0.toArray⟩))) := Lib.hid (h7.set 0 _ rfl); clear h7))
                                generalize wq35.setCell ⟨gh, 0, none⟩ (.string ⟨T0.toArray⟩) = wy1 at *
                                clear hc1 hf1 HY0
                                go_upto_region 37 with (first
                                  | (with_reducible refine wpList_slice_row rfl _ _ _ _ rfl Tryd.underlying47 (by kernel_rfl) w.heap.size rfl 157 257 .i64 .i64 rfl rfl (by decide) (by decide) (by decide) ?_)
                                  | (go_at_call 49; (with_reducible refine (HT1.out _ HY1.out.three.two).mono ?_); rintro en wq36 ⟨rfl, hb7⟩; have h7 := HY1.out.keep hb7; clear hb7; have hc1 := h7.three.cell 1; have hf1 := h7.three.free 1; have HY2 : Hid (Hf5 w l gh ⟨T0, T1, v0, v1, v2, Z, v4, TY, [], [], M5, M6, F⟩ gg BS (wq36.setCell ⟨gh, 1, none⟩ (.string ⟨T1.toArray⟩))) := Lib.hid (h7.set 1 _ rfl); clear h7))
                                generalize wq36.setCell ⟨gh, 1, none⟩ (.string ⟨T1.toArray⟩) = wy2 at *
                                clear hc1 hf1 HY1
                                have hc12 : wy2.cell? ⟨gh, 12, none⟩ = some (.int .i64 F) := HY2.out.three.cell 12
                                go_upto_if 133 with fail
                                clear hc12
                                go_cut [] (fun wy => Hid (Hf5 w l gh ⟨T0, T1, v0, v1, v2, Z, v4, TY, U, G, M5, M6, F⟩ gg BS wy))
                                case first =>
                                  by_cases e : F = 1
                                  · have hF : (F != 1) = false := bne_f e
                                    have hU : U = [] := by rw [HUU.out, if_pos e]
                                    have hG : G = [] := by rw [HGG.out, if_pos e]
                                    subst hU; subst hG
                                    clear e HUU HGG
                                    go_wp2
                                    go_meet
                                    exact HY2
                                  · have hF : (F != 1) = true := bne_t e
                                    have hU : U = TU := by rw [HUU.out, if_neg e]
                                    have hG : G = TG := by rw [HGG.out, if_neg e]
                                    subst hU; subst hG
                                    clear e HUU HGG
                                    go_upto_region 38 with fail
                                    go_upto_region 39 with (first
                                      | (with_reducible refine wpList_slice_row rfl _ _ _ _ rfl Tryd.underlying47 (by kernel_rfl) w.heap.size rfl 265 297 .i64 .i64 rfl rfl (by decide) (by decide) (by decide) ?_)
                                      | (go_at_call 49; (with_reducible refine (HTU.out _ HY2.out.three.two).mono ?_); rintro en wq38 ⟨rfl, hb7⟩; have h7 := HY2.out.keep hb7; clear hb7; have hc1 := h7.three.cell 8; have hf1 := h7.three.free 8; have HY3 : Hid (Hf5 w l gh ⟨T0, T1, v0, v1, v2, Z, v4, TY, U, [], M5, M6, F⟩ gg BS (wq38.setCell ⟨gh, 8, none⟩ (.string ⟨U.toArray⟩))) := Lib.hid (h7.set 8 _ rfl); clear h7))
                                    generalize wq38.setCell ⟨gh, 8, none⟩ (.string ⟨U.toArray⟩) = wy3 at *
                                    clear hc1 hf1 HY2
                                    go_wp2_with (first
                                      | (with_reducible refine wpList_slice_row rfl _ _ _ _ rfl Tryd.underlying47 (by kernel_rfl) w.heap.size rfl 297 329 .i64 .i64 rfl rfl (by decide) (by decide) (by decide) ?_)
                                      | (go_at_call 49; (with_reducible refine (HTG.out _ HY3.out.three.two).mono ?_); rintro en wq39 ⟨rfl, hb7⟩; have h7 := HY3.out.keep hb7; clear hb7; have hc1 := h7.three.cell 9; have hf1 := h7.three.free 9; have HY5 : Hid (Hf5 w l gh ⟨T0, T1, v0, v1, v2, Z, v4, TY, U, G, M5, M6, F⟩ gg BS (wq39.setCell ⟨gh, 9, none⟩ (.string ⟨G.toArray⟩))) := Lib.hid (h7.set 9 _ rfl); clear h7))
                                    go_meet
                                    exact HY5
                                case rest =>
                                  have HY4 := hcut
                                  generalize wc = wy4 at *
                                  clear HY2 HUU HGG
                                  have hc12 : wy4.cell? ⟨gh, 12, none⟩ = some (.int .i64 F) := HY4.out.three.cell 12
                                  have hx := HX345.out wy4 HY4.out.three.two
                                  go_upto_region 40 with fail
                                  go_cut [147] (fun s wy => s = .bool (decide (F = 2 ∧ X ≠ 0)) ∧ Hid (wy = wy4))
                                  case first =>
                                    by_cases e : F = 2
                                    · have hF : (F == 2) = true := by rw [e]; rfl
                                      by_cases x0 : X = 0
                                      · have hX : ((X.toNat : Int) != 0) = false := by rw [x0]; rfl
                                        have hd : decide (F = 2 ∧ X ≠ 0) = false := dec_f (fun h => h.2 x0)
                                        have HDD := Lib.hid hd
                                        clear hd e x0
                                        go_wp2
                                        go_meet
                                        exact ⟨by rw [HDD.out], Lib.hid rfl⟩
                                      · have hX : ((X.toNat : Int) != 0) = true := by rw [bne_iff_ne]; intro h; exact x0 (UInt8.toNat_inj.1 (by simpa using (by omega : X.toNat = 0)))
                                        have hd : decide (F = 2 ∧ X ≠ 0) = true := dec_t ⟨e, x0⟩
                                        have HDD := Lib.hid hd
                                        clear hd e x0
                                        go_wp2
                                        go_meet
                                        exact ⟨by rw [HDD.out], Lib.hid rfl⟩
                                    · have hF : (F == 2) = false := by rw [beq_eq_false_iff_ne]; exact e
                                      have hd : decide (F = 2 ∧ X ≠ 0) = false := dec_f (fun h => e h.1)
                                      have HDD := Lib.hid hd
                                      clear hd e
                                      go_wp2
                                      go_meet
                                      exact ⟨by rw [HDD.out], Lib.hid rfl⟩
                                  case rest =>
                                    obtain ⟨rfl, hwc⟩ := hcut
                                    obtain rfl := hwc.out
                                    clear hc12 hx
                                    go_upto_if 147 with fail
                                    go_cut [] (fun wy => Hid (Hf5 w l gh ⟨N, T1, v0, v1, v2, Z, v4, TY, U, G, M5, M6, F⟩ gg BS wy))
                                    case first =>
                                      by_cases e : F = 2 ∧ X ≠ 0
                                      · have hd : decide (F = 2 ∧ X ≠ 0) = true := dec_t e
                                        have hN : N = P ++ 47 :: T0 := by rw [HNM.out, if_pos ⟨e.1, fun h => e.2 (H345.out.2 h)⟩]
                                        have hb1 : ¬ 9223372036854775807 < P.length + 1 := by have := HPL.out; omega
                                        have hb2 : ¬ 9223372036854775807 < P.length + 1 + T0.length := by have := HPL.out; have := HTL.out; omega
                                        have hcat : (⟨P.toArray⟩ : ByteArray) ++ ⟨#[47]⟩ ++ ⟨T0.toArray⟩ = ⟨N.toArray⟩ := by
                                          have e : (⟨#[47]⟩ : ByteArray) = ⟨([47] : List UInt8).toArray⟩ := rfl
                                          rw [e, ByteArray.mk_append_mk, ByteArray.mk_append_mk, hN]
                                          congr 1; simp
                                        rw [hd]
                                        clear hd e hN HNM H345 HPL HTL
                                        have hs1 := fun wx => run_slice_arr (P := Tryd.prog) 47 Tryd.underlying47 (by kernel_rfl) w.heap.size (some 345) (some 500) 345 500 rfl rfl (by decide) (by decide) (by decide) wx
                                        simp only [Option.map] at hs1
                                        go_upto_region 41 with fail
                                        have h0 := HY4.out.keep ((Below.refl _ _).drew)
                                        have hx0 : wc.cell? ⟨gh, 0, none⟩ = some (.string ⟨T0.toArray⟩) := HY4.out.three.cell 0
                                        have hf0 := HY4.out.three.free 0
                                        have HD0 := Lib.hid h0
                                        clear h0
                                        go_region_with (go_at_call 49; (with_reducible refine (HTP.out _ HD0.out.three.two).mono ?_); rintro en wq41 ⟨rfl, hb7⟩; have h7 := HD0.out.keep hb7; have hx1 : wq41.cell? ⟨gh, 0, none⟩ = some (.string ⟨T0.toArray⟩) := h7.three.cell 0; have hf1 := h7.three.free 0; have HW7 := Lib.hid h7; clear hb7 h7)
                                        all_goals go_wp2
                                        all_goals go_meet
                                        all_goals exact Lib.hid (HW7.out.set 0 _ rfl)
                                      · have hd : decide (F = 2 ∧ X ≠ 0) = false := dec_f e
                                        have hN : N = T0 := by rw [HNM.out, if_neg (fun h => e ⟨h.1, fun x => h.2 (H345.out.1 x)⟩)]
                                        subst hN
                                        rw [hd]
                                        clear hd e HNM H345 HPL HTL
                                        go_wp2
                                        go_meet
                                        exact HY4
                                    case rest =>
                                      have HF := hcut
                                      generalize wc = wZ at *
                                      clear HY4 HNM H345 HPL HTL
                                      have HIH := Lib.hid (hdInfo ⟨N, T1, v0, v1, v2, Z, v4, TY, U, G, M5, M6, F⟩)
                                      have HOH := Lib.hid (hdC_one ⟨N, T1, v0, v1, v2, Z, v4, TY, U, G, M5, M6, F⟩)
                                      go_wp2_with (first
                                        | (with_reducible refine wpList_load_row rfl _ _ rfl gh rfl 43 (hdC ⟨N, T1, v0, v1, v2, Z, v4, TY, U, G, M5, M6, F⟩) (0, 0) _ HF.out.three.rh Tryd.underlying43 rfl HIH.out ?_)
                                        | (with_reducible refine wpList_store_row rfl 43 _ _ rfl (w.heap.size + 1) rfl (hdC ⟨N, T1, v0, v1, v2, Z, v4, TY, U, G, M5, M6, F⟩) rfl (hdC Hd.zero) 43 HF.out.three.two.r1 rfl HIH.out HOH.out ?_))
                                      exact bodyPost_ret (results_cell_tmp rfl _ _ (w.heap.size + 1) 43 (hdC ⟨N, T1, v0, v1, v2, Z, v4, TY, U, G, M5, M6, F⟩) (0, 0) _ _ rfl rfl (setRow_heap _ _ _ _ _ _ HF.out.three.two.r1) Tryd.underlying43 rfl HIH.out) rfl ⟨by rw [HRR.out]; rfl, Below.setRow HF.out.three.two.bel (by omega) _⟩
end Go.Proofs.YtjchaogfmnabfaaDoor
