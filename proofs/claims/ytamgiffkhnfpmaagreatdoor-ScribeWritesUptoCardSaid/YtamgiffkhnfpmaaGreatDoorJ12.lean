/-
  J12: RefScr, LawScrW, DoorBru, joined.
-/
import Derived.Test.YtamgiffkhnfpmaaGreatDoorRefEnt
import Derived.Test.YtamgiffkhnfpmaaGreatDoorJ10
import Derived.Test.YtamgiffkhnfpmaaGreatDoorJ01
import Derived.Test.YtamgiffkhnfpmaaGreatDoorJ03
namespace Go.Proofs.YtamgiffkhnfpmaaGreatDoor
set_option linter.unusedVariables false
set_option linter.unusedSimpArgs false
open Go.ChangeShapes Go.WideShapes Go.ChangeAt Go.RowKit
theorem RefFitsEn_any (x : EnS) (w : World) (h1 : x.1.name.length ≤ 140737488351232) (h2 : x.1.link.length ≤ 140737488351232) (h3 : x.1.user.length ≤ 140737488351232) (h4 : x.1.group.length ≤ 140737488351232) (hd : x.1.data.length = x.2.2.1) :
    Calls Tryz.prog 15 #[.agg (enV x)] w fun e w' => e = .returned (.bool (Plain.fitsE x.1)) ∧ Below w.heap.size w w' := by
  have := RefFits_any x.1.kind x.1.name x.1.link x.1.mode x.1.uid x.1.gid x.1.user x.1.group x.1.sec x.1.nano x.2.1 x.2.2.1 x.2.2.2 w h1 h3 h4 h2
  unfold Plain.fitsE
  rw [hd]
  exact this
set_option maxRecDepth 100000 in
set_option maxHeartbeats 3200000 in
theorem RefScr_any (a : Option Addr) (n c : Nat) (S : List EnS) (w : World) (h : Ens w a n c S) (hs : Small (S.map (·.1))) :
    Calls Tryz.prog 8 #[.slice a n c] w (ScrRes w (Plain.scribe (S.map (·.1)))) := by
  have hl := h.len; have hcap := h.cap; have hmax := h.max
  have hn20 : n ≤ 2097152 := by have := hs.count; simpa [hl] using this
  generalize hL : S.map (·.1) = L at *
  have hLl : L.length = n := by rw [← hL, List.length_map, hl]
  have hLk : ∀ k (hk : k < L.length), (S.getD k enD).1 = L[k] := fun k hk => by
    subst hL
    have : k < S.length := by simpa using hk
    simp [List.getD, List.getElem?_eq_getElem this]
  have HS := Lib.hid hs; have HL := Lib.hid hl; have HH := Lib.hid h; have HLL := Lib.hid hLl; have HLK := Lib.hid hLk
  clear hs hl h hLl hLk hL
  go_enter Tryz.func8, Tryz.ntmps8
  go_upto_region 2 with fail
  go_loopw [4] (fun i wr => ∃ k : Nat, k ≤ n ∧ i = .int .i64 k ∧ Hid ((L.take k).all Plain.fitsE = true) ∧ Hid (Below w.heap.size w wr)) (fun i _ => n - (intOf i).toNat)
  case atStart => exact ⟨0, Nat.zero_le _, rfl, Lib.hid rfl, Lib.hid (Below.refl _ _)⟩
  case round =>
    obtain ⟨k, hk, rfl, hall, hbel⟩ := hrel
    by_cases hlt : k < n
    · obtain ⟨b, off, rfl, hr⟩ := (HH.out.below hbel.out).at k hlt
      have hdk := (HH.out.below hbel.out).dat_at k hlt
      have hk' : k < L.length := by rw [HLL.out]; exact hlt
      have hke := HLK.out k hk'
      have q1 := HS.out.name _ (List.getElem_mem hk'); have q2 := HS.out.link _ (List.getElem_mem hk'); have q3 := HS.out.user _ (List.getElem_mem hk'); have q4 := HS.out.group _ (List.getElem_mem hk')
      rw [← hke] at q1 q2 q3 q4
      generalize S.getD k enD = x at *
      have HR := Lib.hid hr
      have hfx := RefFitsEn_any x wr (by omega) (by omega) (by omega) (by omega) hdk.len
      rw [hke] at hfx
      clear hr hdk q1 q2 q3 q4
      cases hf : Plain.fitsE L[k] with
      | true =>
        rw [hf] at hfx
        have HFX := Lib.hid hfx; have HF := Lib.hid hf
        clear hfx hf
        go_wp2_with (first
          | (refine wpList_load_midA rfl _ _ rfl b (off + k * 11) rfl (enV x) _ (by exact HR.out) Tryz.underlying36 rfl (by exact sizeEntry x) ?_)
          | (go_at_call 15; (refine HFX.out.mono ?_); rintro r w3 ⟨rfl, hb3⟩))
        exact ⟨⟨k + 1, by omega, by go_num, Lib.hid (fitAll_step L k hk' hall.out HF.out), Lib.hid (hbel.out.trans (hb3.mono hbel.out.size))⟩, by simp [intOf]; omega⟩
      | false =>
        rw [hf] at hfx
        have HFX := Lib.hid hfx
        have hno : Plain.scribe L = ([], 80) := by unfold Plain.scribe; rw [if_neg (by rw [fitAll_no L k hk' hf]; decide)]
        have HNO := Lib.hid hno
        clear hfx hf hno
        go_wp2_with (first
          | (refine wpList_load_midA rfl _ _ rfl b (off + k * 11) rfl (enV x) _ (by exact HR.out) Tryz.underlying36 rfl (by exact sizeEntry x) ?_)
          | (go_at_call 15; (refine HFX.out.mono ?_); rintro r w3 ⟨rfl, hb3⟩))
        go_ret2
        rw [HNO.out]
        exact ⟨none, 0, 0, rfl, World.ownsRow_nil _ _ _ _, hbel.out.trans (hb3.mono hbel.out.size)⟩
    · obtain rfl : k = n := by omega
      have hAll : L.all Plain.fitsE = true := by have := hall.out; rwa [List.take_of_length_le (by rw [HLL.out]; exact Nat.le_refl _)] at this
      have HALL := Lib.hid hAll
      have hw : Plain.scribe L = (L.flatMap Plain.enc ++ List.replicate 1024 0, 0) := by unfold Plain.scribe; rw [if_pos hAll]
      have HW := Lib.hid hw
      have hlen : (L.flatMap Plain.enc).length ≤ 4613734400000 := by
        have h1 := encs_len L (fun e he => fit_of (List.all_eq_true.1 hAll _ he)) HS.out.data
        exact Nat.le_trans h1 (Nat.le_trans (Nat.mul_le_mul_right _ HS.out.count) (by decide))
      have HLEN := Lib.hid hlen
      clear hAll hw hlen
      go_upto_region 7 with fail
      have HB0 := Lib.hid (hbel.out.trans ((Below.refl w.heap.size wr).alloc hbel.out.size (.cells #[] 5)))
      have HO0 : Hid ((wr.alloc (.cells #[] 5)).ownsRow w.heap.size 5 1 (.slice (some ⟨wr.heap.size, 0, none⟩) 0 0) 0 []) := Lib.hid (World.ownsRow_lit (base := w.heap.size) (e := 5) (size := 1) wr #[] 0 hbel.out.size (by decide) rfl)
      generalize wr.alloc (.cells #[] 5) = ws at *
      generalize (some ⟨wr.heap.size, 0, none⟩ : Option Addr) = aZ at *
      clear hbel hall
      go_upto_region 8 with fail
      go_loopw [5, 6] (fun v i wr => ∃ (j : Nat) (a1 : Option Addr) (n1 c1 : Nat), j ≤ k ∧ i = .int .i64 j ∧ v = .slice a1 n1 c1 ∧ Hid (wr.ownsRow w.heap.size 5 1 (.slice a1 n1 c1) n1 (((L.take j).flatMap Plain.enc).map u8v)) ∧ Hid (Below w.heap.size w wr)) (fun _ i _ => k - (intOf i).toNat)
      case atStart => exact ⟨0, aZ, 0, 0, Nat.zero_le _, rfl, rfl, by simpa using HO0, HB0⟩
      case round =>
        obtain ⟨j, a1, n1, c1, hj, rfl, rfl, ho, hbel⟩ := hrel
        by_cases hlt : j < k
        · obtain ⟨b, off, rfl, hr⟩ := (HH.out.below hbel.out).at j hlt
          have hdk := (HH.out.below hbel.out).dat_at j hlt
          have hj' : j < L.length := by rw [HLL.out]; exact hlt
          have hje := HLK.out j hj'
          generalize S.getD j enD = x at *
          have HR := Lib.hid hr
          have hfit : EnFit x.1 := by rw [hje]; exact fit_of (List.all_eq_true.1 HALL.out _ (List.getElem_mem hj'))
          have hdl : x.2.2.1 ≤ 1048576 := by
            have h1 := hdk.len
            have h2 := HS.out.data _ (List.getElem_mem hj')
            rw [← hje] at h2; omega
          have hl1 : ((L.take j).flatMap Plain.enc).length ≤ 4613734400000 := by
            have h1 := encs_len (L.take j) (fun e he => fit_of (List.all_eq_true.1 HALL.out _ (List.mem_of_mem_take he))) (fun e he => HS.out.data _ (List.mem_of_mem_take he))
            have h2 : (L.take j).length ≤ 2097152 := by rw [List.length_take]; omega
            exact Nat.le_trans h1 (Nat.le_trans (Nat.mul_le_mul_right _ h2) (by decide))
          have hl2 := enc_len x.1 hfit (by have := hdk.len; omega)
          have HEN := Lib.hid (RefEnt_any x.1 hfit x.2.1 x.2.2.1 x.2.2.2 wr hdk hdl)
          have hst : (L.take (j + 1)).flatMap Plain.enc = (L.take j).flatMap Plain.enc ++ Plain.enc x.1 := by
            rw [List.take_succ_eq_append_getElem hj', List.flatMap_append, hje]; simp
          have hn1 : ((L.take j).flatMap Plain.enc).length = n1 := own_len ho.out
          have hdd := hdk.len
          have HST := Lib.hid hst; have HL1 := Lib.hid hl1; have HL2 := Lib.hid hl2; have HN1 := Lib.hid hn1; have HDD := Lib.hid hdd; have HDL := Lib.hid hdl
          clear hr hdk hst hfit hdl hl1 hl2 hn1 hdd
          generalize Plain.enc x.1 = E at *
          generalize (L.take j).flatMap Plain.enc = F at *
          go_wp2_with (first
            | (refine wpList_load_midA rfl _ _ rfl b (off + j * 11) rfl (enV x) _ (by exact HR.out) Tryz.underlying36 rfl (by exact sizeEntry x) ?_)
            | (go_at_call 16; (refine HEN.out.mono ?_); rintro r w3 ⟨a3, n3, c3, rfl, ho3, hb3⟩; have HO3 := Lib.hid ho3; have HB3 := Lib.hid hb3; have HN3 := Lib.hid (own_len ho3); clear ho3 hb3; have HOW : Hid (w3.ownsRow w.heap.size 5 1 (.slice a1 n1 c1) n1 (F.map u8v)) := Lib.hid (own_keep ho.out fun i _ hi => HB3.out.block i hi))
            | (at_builtin; refine wpList_app rfl _ _ 25 rfl w.heap.size 5 _ 1 1 Tryz.underlying25 infoU8 rfl (by decide) (by decide) rfl HOW.out rfl (own_isSl HO3.out) (bytes_oneCell E) (by have := HL1.out; have := HL2.out; have := HN1.out; have := HN3.out; have := HDD.out; have := HDL.out; omega) (by have := HB3.out.size; have := hbel.out.size; omega) ?_; intro a4 c4 w4 ho4 hg4))
          exact ⟨⟨j + 1, a4, n1 + n3, c4, by omega, by go_num, rfl, by rw [HST.out]; exact Lib.hid (by rw [List.map_append]; exact ho4), Lib.hid (below_app (hbel.out.trans (HB3.out.mono hbel.out.size)) HOW.out hg4 (Nat.le_refl _) (by have := HB3.out.size; have := hbel.out.size; omega))⟩, by simp [intOf]; omega⟩
        · obtain rfl : j = k := by omega
          have ho1 := ho.out
          rw [List.take_of_length_le (by rw [HLL.out]; exact Nat.le_refl _)] at ho1
          have hn1 : (L.flatMap Plain.enc).length = n1 := own_len ho1
          have HO1 := Lib.hid ho1; have HN1 := Lib.hid hn1
          clear ho1 hn1 ho
          generalize L.flatMap Plain.enc = F at *
          have hzz : n1 ≤ 4613734400000 := by have := HLEN.out; have := HN1.out; omega
          have HZZ := Lib.hid hzz
          have HBE := hbel
          clear hzz hbel
          go_upto_region 12 with fail
          go_loopw [5, 7] (fun v i wr => ∃ (m : Nat) (a2 : Option Addr) (c2 : Nat), m ≤ 1024 ∧ i = .int .i64 m ∧ v = .slice a2 (n1 + m) c2 ∧ Hid (wr.ownsRow w.heap.size 5 1 (.slice a2 (n1 + m) c2) (n1 + m) ((F ++ List.replicate m 0).map u8v)) ∧ Hid (Below w.heap.size w wr)) (fun _ i _ => 1024 - (intOf i).toNat)
          case atStart => exact ⟨0, a1, c1, Nat.zero_le _, rfl, rfl, by simpa using HO1, HBE⟩
          case round =>
            obtain ⟨m, a2, c2, hm, rfl, rfl, ho2, hb2⟩ := hrel
            by_cases hlt : m < 1024
            · have HNW := Lib.hid (isSl_new wr 5 1 1 #[.int .u8 0] rfl (by decide))
              have HOA := Lib.hid (ho2.out.alloc (.cells #[.int .u8 0] 5))
              have htk : (F ++ List.replicate (m + 1) 0).map u8v = (F ++ List.replicate m 0).map u8v ++ [.int .u8 0] := by
                rw [List.replicate_succ', ← List.append_assoc, List.map_append (l₂ := [0])]; rfl
              have HTK := Lib.hid htk
              clear htk
              go_wp2_with (at_builtin; refine wpList_app rfl _ _ 25 rfl w.heap.size 5 _ 1 1 Tryz.underlying25 infoU8 rfl (by decide) (by decide) rfl HOA.out rfl HNW.out (by simp [Value.oneCell']) (by have := HZZ.out; omega) (by have := hb2.out.size; simp; omega) ?_; intro a3 c3 w6 ho3 hg3)
              exact ⟨⟨m + 1, a3, c3, by omega, by go_num, rfl, Lib.hid (by rw [HTK.out]; exact ho3), Lib.hid (below_app (hb2.out.alloc hb2.out.size _) HOA.out hg3 (Nat.le_refl _) (by have := hb2.out.size; simp; omega))⟩, by simp [intOf]; omega⟩
            · obtain rfl : m = 1024 := by omega
              go_wp2
              go_ret2
              rw [HW.out]
              exact ⟨a2, _, c2, rfl, ho2.out, hb2.out⟩
end Go.Proofs.YtamgiffkhnfpmaaGreatDoor
namespace Go.Proofs.YtamgiffkhnfpmaaGreatDoor
set_option linter.unusedVariables false
set_option linter.unusedSimpArgs false
open Go.ChangeShapes Go.WideShapes Go.ChangeAt Go.RowKit
set_option maxRecDepth 100000 in
set_option maxHeartbeats 1600000 in
theorem ScribeWrites_walk (a : Option Addr) (n c : Nat) (S : List EnS) (w : World) (hpow : Pow10 w) (hbru : Bru w) (h : Ens w a n c S) (hs : Small (S.map (·.1))) (hd : ∀ x ∈ S, x.2.2.1 ≤ 1048576) :
    Calls Tryz.prog 3 #[.slice a n c] w fun e w' => e = .returned (.bool true) ∧ Below w.heap.size w w' := by
  have hn20 : n ≤ 2097152 := by have := hs.count; have := h.len; simp at *; omega
  have HP := Lib.hid hpow; have HT := Lib.hid hbru; have HH := Lib.hid h; have HS := Lib.hid hs; have HD := Lib.hid hd
  clear hpow hbru h hs hd
  generalize hr : Plain.scribe (S.map (·.1)) = r
  obtain ⟨l, code⟩ := r
  have HR := Lib.hid hr
  clear hr
  go_enter Tryz.func3, Tryz.ntmps3
  go_wp2_with (first
    | (go_at_call 5; (refine (Alive8_any w HT.out HP.out).mono ?_); rintro e w1 ⟨rfl, hb1⟩; have HB1 := Lib.hid hb1; clear hb1)
    | (go_at_call 6; (refine (CopyEntries_any a n c S w1 (HH.out.below HB1.out) (by omega) (fun x hx => by have := HD.out x hx; omega)).mono ?_); rintro e w2 ⟨a2, n2, c2, S2, rfl, hn2⟩; have HN2 := Lib.hid hn2; have HB2 := Lib.hid (Below.seq HB1.out hn2.bel); clear hn2)
    | (go_at_call 7; (refine (ScrWrite_any a2 n2 c2 S2 w2 (HT.out.below HB2.out) (HP.out.below HB2.out) HN2.out.ens (HN2.out.small HS.out)).mono ?_); rintro e w3 ⟨a3, n3, c3, rfl, ho3, hb3⟩; rw [HN2.out.map, HR.out] at ho3 ⊢; have HO3 := Lib.hid (own_bs ho3); have HB23 := Lib.hid hb3; have HB3 := Lib.hid (Below.seq HB2.out hb3); clear ho3 hb3)
    | (go_at_call 8; (refine (RefScr_any a n c S w3 (HH.out.below HB3.out) HS.out).mono ?_); rintro e w4 ⟨a4, n4, c4, rfl, ho4, hb4⟩; rw [HR.out] at ho4 ⊢; have HO4 := Lib.hid (own_bs ho4); have HB34 := Lib.hid hb4; have HB4 := Lib.hid (Below.seq HB3.out hb4); clear ho4 hb4)
    | (go_at_call 9; (refine (SameBytes_yes a3 a4 n3 n4 c3 c4 l w4 (Below.bs HB34.out HO3.out) HO4.out).mono ?_); rintro e w5 ⟨rfl, hb5⟩; have HB45 := Lib.hid hb5; have HB5 := Lib.hid (Below.seq HB4.out hb5); clear hb5)
    | (go_at_call 10; (refine (SameEntries_yes a2 a n2 n c2 c S2 S w5 (((HN2.out.ens.below HB23.out).below HB34.out).below HB45.out) (HH.out.below HB5.out) HN2.out.map).mono ?_); rintro e w6 ⟨rfl, hb6⟩))
  go_ret
  exact ⟨rfl, Below.seq HB5.out hb6⟩
end Go.Proofs.YtamgiffkhnfpmaaGreatDoor
namespace Go.Proofs.YtamgiffkhnfpmaaGreatDoor
open Go.ChangeShapes Go.WideShapes Go.ChangeAt Go.RowKit
/-- a table's numbers -/
def tabNums : DataW Unit → List Int
  | .agg ps => ps.map fun | .lit (.int _ z) => z | _ => 0
  | _ => []
theorem gBru : Tryz.prog.globalNamed "math/bits.deBruijn64tab" = some 5 := by kernel_rfl
theorem bru_of {laid : List (String × DataW Unit)} {W : World} (h : laidMetH Tryz.prog laid W) (hl : (laid.filter fun x => x.1 == "math/bits.deBruijn64tab") = [("math/bits.deBruijn64tab", Lib.tabData .u8 (tabNums Rows.laid_math_bits_deBruijn64tab))]) : Bru W := by
  have h1 := h.filter (fun x => x.1 == "math/bits.deBruijn64tab")
  rw [hl] at h1
  have ht := Lib.tabIs_of_head (rest := []) (n := 64) gBru (by kernel_rfl) Tryz.underlying141 Tryz.underlying5 (by kernel_rfl) (by kernel_rfl) h1
  have hc := ht.cell gBru 7 (of_decide_eq_true (by kernel_rfl))
  have e : (tabNums Rows.laid_math_bits_deBruijn64tab).getD 7 0 = 3 := by kernel_rfl
  rw [e] at hc
  exact hc
end Go.Proofs.YtamgiffkhnfpmaaGreatDoor
