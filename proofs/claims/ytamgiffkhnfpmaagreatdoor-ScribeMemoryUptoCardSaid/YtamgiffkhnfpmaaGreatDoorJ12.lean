/-
  J12: RefScr, LawScrW, ApWalk, LawScrM, DoorBru, joined.
-/
import Derived.Test.YtamgiffkhnfpmaaGreatDoorRefEnt
import Derived.Test.YtamgiffkhnfpmaaGreatDoorJ10
import Derived.Test.YtamgiffkhnfpmaaGreatDoorJ05
import Derived.Test.YtamgiffkhnfpmaaGreatDoorJ01
import Derived.Deep.AppendLies
import Derived.Test.YtamgiffkhnfpmaaGreatDoorJ03
namespace Go.Proofs.YtamgiffkhnfpmaaGreatDoor
set_option linter.unusedVariables false
set_option linter.unusedSimpArgs false
open Go.ChangeShapes Go.WideShapes Go.ChangeAt Go.RowKit
theorem RefFitsEn_any (x : EnS) (w : World) (h1 : x.1.name.length ≤ 140737488351232) (h2 : x.1.link.length ≤ 140737488351232) (h3 : x.1.user.length ≤ 140737488351232) (h4 : x.1.group.length ≤ 140737488351232) (hd : x.1.data.length = x.2.2.1) :
    Calls Tryz.prog 15 #[.agg (enV x)] w fun e w' => e = .returned (.bool (Plain.fitsE x.1)) ∧ Below w.heap.size w w' := by
  have := RefFits_any x.1.kind x.1.name x.1.link x.1.mode x.1.uid x.1.gid x.1.user x.1.group x.1.sec x.1.nano x.2.1 x.2.2.1 x.2.2.2 w h1 h3 h4 h2
  unfold Plain.fitsE
  rw [hd]
  exact this
set_option maxRecDepth 100000 in
set_option maxHeartbeats 3200000 in
theorem RefScr_any (a : Option Addr) (n c : Nat) (S : List EnS) (w : World) (h : Ens w a n c S) (hs : Small (S.map (·.1))) :
    Calls Tryz.prog 8 #[.slice a n c] w (ScrRes w (Plain.scribe (S.map (·.1)))) := by
  have hl := h.len; have hcap := h.cap; have hmax := h.max
  have hn20 : n ≤ 2097152 := by have := hs.count; simpa [hl] using this
  generalize hL : S.map (·.1) = L at *
  have hLl : L.length = n := by rw [← hL, List.length_map, hl]
  have hLk : ∀ k (hk : k < L.length), (S.getD k enD).1 = L[k] := fun k hk => by
    subst hL
    have : k < S.length := by simpa using hk
    simp [List.getD, List.getElem?_eq_getElem this]
  have HS := Lib.hid hs; have HL := Lib.hid hl; have HH := Lib.hid h; have HLL := Lib.hid hLl; have HLK := Lib.hid hLk
  clear hs hl h hLl hLk hL
  go_enter Tryz.func8, Tryz.ntmps8
  go_upto_region 2 with fail
  go_loopw [4] (fun i wr => ∃ k : Nat, k ≤ n ∧ i = .int .i64 k ∧ Hid ((L.take k).all Plain.fitsE = true) ∧ Hid (Below w.heap.size w wr)) (fun i _ => n - (intOf i).toNat)
  case atStart => exact ⟨0, Nat.zero_le _, rfl, Lib.hid rfl, Lib.hid (Below.refl _ _)⟩
  case round =>
    obtain ⟨k, hk, rfl, hall, hbel⟩ := hrel
    by_cases hlt : k < n
    · obtain ⟨b, off, rfl, hr⟩ := (HH.out.below hbel.out).at k hlt
      have hdk := (HH.out.below hbel.out).dat_at k hlt
      have hk' : k < L.length := by rw [HLL.out]; exact hlt
      have hke := HLK.out k hk'
      have q1 := HS.out.name _ (List.getElem_mem hk'); have q2 := HS.out.link _ (List.getElem_mem hk'); have q3 := HS.out.user _ (List.getElem_mem hk'); have q4 := HS.out.group _ (List.getElem_mem hk')
      rw [← hke] at q1 q2 q3 q4
      generalize S.getD k enD = x at *
      have HR := Lib.hid hr
      have hfx := RefFitsEn_any x wr (by omega) (by omega) (by omega) (by omega) hdk.len
      rw [hke] at hfx
      clear hr hdk q1 q2 q3 q4
      cases hf : Plain.fitsE L[k] with
      | true =>
        rw [hf] at hfx
        have HFX := Lib.hid hfx; have HF := Lib.hid hf
        clear hfx hf
        go_wp2_with (first
          | (refine wpList_load_midA rfl _ _ rfl b (off + k * 11) rfl (enV x) _ (by exact HR.out) Tryz.underlying36 rfl (by exact sizeEntry x) ?_)
          | (go_at_call 15; (refine HFX.out.mono ?_); rintro r w3 ⟨rfl, hb3⟩))
        exact ⟨⟨k + 1, by omega, by go_num, Lib.hid (fitAll_step L k hk' hall.out HF.out), Lib.hid (hbel.out.trans (hb3.mono hbel.out.size))⟩, by simp [intOf]; omega⟩
      | false =>
        rw [hf] at hfx
        have HFX := Lib.hid hfx
        have hno : Plain.scribe L = ([], 80) := by unfold Plain.scribe; rw [if_neg (by rw [fitAll_no L k hk' hf]; decide)]
        have HNO := Lib.hid hno
        clear hfx hf hno
        go_wp2_with (first
          | (refine wpList_load_midA rfl _ _ rfl b (off + k * 11) rfl (enV x) _ (by exact HR.out) Tryz.underlying36 rfl (by exact sizeEntry x) ?_)
          | (go_at_call 15; (refine HFX.out.mono ?_); rintro r w3 ⟨rfl, hb3⟩))
        go_ret2
        rw [HNO.out]
        exact ⟨none, 0, 0, rfl, World.ownsRow_nil _ _ _ _, hbel.out.trans (hb3.mono hbel.out.size)⟩
    · obtain rfl : k = n := by omega
      have hAll : L.all Plain.fitsE = true := by have := hall.out; rwa [List.take_of_length_le (by rw [HLL.out]; exact Nat.le_refl _)] at this
      have HALL := Lib.hid hAll
      have hw : Plain.scribe L = (L.flatMap Plain.enc ++ List.replicate 1024 0, 0) := by unfold Plain.scribe; rw [if_pos hAll]
      have HW := Lib.hid hw
      have hlen : (L.flatMap Plain.enc).length ≤ 4613734400000 := by
        have h1 := encs_len L (fun e he => fit_of (List.all_eq_true.1 hAll _ he)) HS.out.data
        exact Nat.le_trans h1 (Nat.le_trans (Nat.mul_le_mul_right _ HS.out.count) (by decide))
      have HLEN := Lib.hid hlen
      clear hAll hw hlen
      go_upto_region 7 with fail
      have HB0 := Lib.hid (hbel.out.trans ((Below.refl w.heap.size wr).alloc hbel.out.size (.cells #[] 5)))
      have HO0 : Hid ((wr.alloc (.cells #[] 5)).ownsRow w.heap.size 5 1 (.slice (some ⟨wr.heap.size, 0, none⟩) 0 0) 0 []) := Lib.hid (World.ownsRow_lit (base := w.heap.size) (e := 5) (size := 1) wr #[] 0 hbel.out.size (by decide) rfl)
      generalize wr.alloc (.cells #[] 5) = ws at *
      generalize (some ⟨wr.heap.size, 0, none⟩ : Option Addr) = aZ at *
      clear hbel hall
      go_upto_region 8 with fail
      go_loopw [5, 6] (fun v i wr => ∃ (j : Nat) (a1 : Option Addr) (n1 c1 : Nat), j ≤ k ∧ i = .int .i64 j ∧ v = .slice a1 n1 c1 ∧ Hid (wr.ownsRow w.heap.size 5 1 (.slice a1 n1 c1) n1 (((L.take j).flatMap Plain.enc).map u8v)) ∧ Hid (Below w.heap.size w wr)) (fun _ i _ => k - (intOf i).toNat)
      case atStart => exact ⟨0, aZ, 0, 0, Nat.zero_le _, rfl, rfl, by simpa using HO0, HB0⟩
      case round =>
        obtain ⟨j, a1, n1, c1, hj, rfl, rfl, ho, hbel⟩ := hrel
        by_cases hlt : j < k
        · obtain ⟨b, off, rfl, hr⟩ := (HH.out.below hbel.out).at j hlt
          have hdk := (HH.out.below hbel.out).dat_at j hlt
          have hj' : j < L.length := by rw [HLL.out]; exact hlt
          have hje := HLK.out j hj'
          generalize S.getD j enD = x at *
          have HR := Lib.hid hr
          have hfit : EnFit x.1 := by rw [hje]; exact fit_of (List.all_eq_true.1 HALL.out _ (List.getElem_mem hj'))
          have hdl : x.2.2.1 ≤ 1048576 := by
            have h1 := hdk.len
            have h2 := HS.out.data _ (List.getElem_mem hj')
            rw [← hje] at h2; omega
          have hl1 : ((L.take j).flatMap Plain.enc).length ≤ 4613734400000 := by
            have h1 := encs_len (L.take j) (fun e he => fit_of (List.all_eq_true.1 HALL.out _ (List.mem_of_mem_take he))) (fun e he => HS.out.data _ (List.mem_of_mem_take he))
            have h2 : (L.take j).length ≤ 2097152 := by rw [List.length_take]; omega
            exact Nat.le_trans h1 (Nat.le_trans (Nat.mul_le_mul_right _ h2) (by decide))
          have hl2 := enc_len x.1 hfit (by have := hdk.len; omega)
          have HEN := Lib.hid (RefEnt_any x.1 hfit x.2.1 x.2.2.1 x.2.2.2 wr hdk hdl)
          have hst : (L.take (j + 1)).flatMap Plain.enc = (L.take j).flatMap Plain.enc ++ Plain.enc x.1 := by
            rw [List.take_succ_eq_append_getElem hj', List.flatMap_append, hje]; simp
          have hn1 : ((L.take j).flatMap Plain.enc).length = n1 := own_len ho.out
          have hdd := hdk.len
          have HST := Lib.hid hst; have HL1 := Lib.hid hl1; have HL2 := Lib.hid hl2; have HN1 := Lib.hid hn1; have HDD := Lib.hid hdd; have HDL := Lib.hid hdl
          clear hr hdk hst hfit hdl hl1 hl2 hn1 hdd
          generalize Plain.enc x.1 = E at *
          generalize (L.take j).flatMap Plain.enc = F at *
          go_wp2_with (first
            | (refine wpList_load_midA rfl _ _ rfl b (off + j * 11) rfl (enV x) _ (by exact HR.out) Tryz.underlying36 rfl (by exact sizeEntry x) ?_)
            | (go_at_call 16; (refine HEN.out.mono ?_); rintro r w3 ⟨a3, n3, c3, rfl, ho3, hb3⟩; have HO3 := Lib.hid ho3; have HB3 := Lib.hid hb3; have HN3 := Lib.hid (own_len ho3); clear ho3 hb3; have HOW : Hid (w3.ownsRow w.heap.size 5 1 (.slice a1 n1 c1) n1 (F.map u8v)) := Lib.hid (own_keep ho.out fun i _ hi => HB3.out.block i hi))
            | (at_builtin; refine wpList_app rfl _ _ 25 rfl w.heap.size 5 _ 1 1 Tryz.underlying25 infoU8 rfl (by decide) (by decide) rfl HOW.out rfl (own_isSl HO3.out) (bytes_oneCell E) (by have := HL1.out; have := HL2.out; have := HN1.out; have := HN3.out; have := HDD.out; have := HDL.out; omega) (by have := HB3.out.size; have := hbel.out.size; omega) ?_; intro a4 c4 w4 ho4 hg4))
          exact ⟨⟨j + 1, a4, n1 + n3, c4, by omega, by go_num, rfl, by rw [HST.out]; exact Lib.hid (by rw [List.map_append]; exact ho4), Lib.hid (below_app (hbel.out.trans (HB3.out.mono hbel.out.size)) HOW.out hg4 (Nat.le_refl _) (by have := HB3.out.size; have := hbel.out.size; omega))⟩, by simp [intOf]; omega⟩
        · obtain rfl : j = k := by omega
          have ho1 := ho.out
          rw [List.take_of_length_le (by rw [HLL.out]; exact Nat.le_refl _)] at ho1
          have hn1 : (L.flatMap Plain.enc).length = n1 := own_len ho1
          have HO1 := Lib.hid ho1; have HN1 := Lib.hid hn1
          clear ho1 hn1 ho
          generalize L.flatMap Plain.enc = F at *
          have hzz : n1 ≤ 4613734400000 := by have := HLEN.out; have := HN1.out; omega
          have HZZ := Lib.hid hzz
          have HBE := hbel
          clear hzz hbel
          go_upto_region 12 with fail
          go_loopw [5, 7] (fun v i wr => ∃ (m : Nat) (a2 : Option Addr) (c2 : Nat), m ≤ 1024 ∧ i = .int .i64 m ∧ v = .slice a2 (n1 + m) c2 ∧ Hid (wr.ownsRow w.heap.size 5 1 (.slice a2 (n1 + m) c2) (n1 + m) ((F ++ List.replicate m 0).map u8v)) ∧ Hid (Below w.heap.size w wr)) (fun _ i _ => 1024 - (intOf i).toNat)
          case atStart => exact ⟨0, a1, c1, Nat.zero_le _, rfl, rfl, by simpa using HO1, HBE⟩
          case round =>
            obtain ⟨m, a2, c2, hm, rfl, rfl, ho2, hb2⟩ := hrel
            by_cases hlt : m < 1024
            · have HNW := Lib.hid (isSl_new wr 5 1 1 #[.int .u8 0] rfl (by decide))
              have HOA := Lib.hid (ho2.out.alloc (.cells #[.int .u8 0] 5))
              have htk : (F ++ List.replicate (m + 1) 0).map u8v = (F ++ List.replicate m 0).map u8v ++ [.int .u8 0] := by
                rw [List.replicate_succ', ← List.append_assoc, List.map_append (l₂ := [0])]; rfl
              have HTK := Lib.hid htk
              clear htk
              go_wp2_with (at_builtin; refine wpList_app rfl _ _ 25 rfl w.heap.size 5 _ 1 1 Tryz.underlying25 infoU8 rfl (by decide) (by decide) rfl HOA.out rfl HNW.out (by simp [Value.oneCell']) (by have := HZZ.out; omega) (by have := hb2.out.size; simp; omega) ?_; intro a3 c3 w6 ho3 hg3)
              exact ⟨⟨m + 1, a3, c3, by omega, by go_num, rfl, Lib.hid (by rw [HTK.out]; exact ho3), Lib.hid (below_app (hb2.out.alloc hb2.out.size _) HOA.out hg3 (Nat.le_refl _) (by have := hb2.out.size; simp; omega))⟩, by simp [intOf]; omega⟩
            · obtain rfl : m = 1024 := by omega
              go_wp2
              go_ret2
              rw [HW.out]
              exact ⟨a2, _, c2, rfl, ho2.out, hb2.out⟩
end Go.Proofs.YtamgiffkhnfpmaaGreatDoor
namespace Go.Proofs.YtamgiffkhnfpmaaGreatDoor
set_option linter.unusedVariables false
set_option linter.unusedSimpArgs false
open Go.ChangeShapes Go.WideShapes Go.ChangeAt Go.RowKit
set_option maxRecDepth 100000 in
set_option maxHeartbeats 1600000 in
theorem ScribeWrites_walk (a : Option Addr) (n c : Nat) (S : List EnS) (w : World) (hpow : Pow10 w) (hbru : Bru w) (h : Ens w a n c S) (hs : Small (S.map (·.1))) (hd : ∀ x ∈ S, x.2.2.1 ≤ 1048576) :
    Calls Tryz.prog 3 #[.slice a n c] w fun e w' => e = .returned (.bool true) ∧ Below w.heap.size w w' := by
  have hn20 : n ≤ 2097152 := by have := hs.count; have := h.len; simp at *; omega
  have HP := Lib.hid hpow; have HT := Lib.hid hbru; have HH := Lib.hid h; have HS := Lib.hid hs; have HD := Lib.hid hd
  clear hpow hbru h hs hd
  generalize hr : Plain.scribe (S.map (·.1)) = r
  obtain ⟨l, code⟩ := r
  have HR := Lib.hid hr
  clear hr
  go_enter Tryz.func3, Tryz.ntmps3
  go_wp2_with (first
    | (go_at_call 5; (refine (Alive8_any w HT.out HP.out).mono ?_); rintro e w1 ⟨rfl, hb1⟩; have HB1 := Lib.hid hb1; clear hb1)
    | (go_at_call 6; (refine (CopyEntries_any a n c S w1 (HH.out.below HB1.out) (by omega) (fun x hx => by have := HD.out x hx; omega)).mono ?_); rintro e w2 ⟨a2, n2, c2, S2, rfl, hn2⟩; have HN2 := Lib.hid hn2; have HB2 := Lib.hid (Below.seq HB1.out hn2.bel); clear hn2)
    | (go_at_call 7; (refine (ScrWrite_any a2 n2 c2 S2 w2 (HT.out.below HB2.out) (HP.out.below HB2.out) HN2.out.ens (HN2.out.small HS.out)).mono ?_); rintro e w3 ⟨a3, n3, c3, rfl, ho3, hb3⟩; rw [HN2.out.map, HR.out] at ho3 ⊢; have HO3 := Lib.hid (own_bs ho3); have HB23 := Lib.hid hb3; have HB3 := Lib.hid (Below.seq HB2.out hb3); clear ho3 hb3)
    | (go_at_call 8; (refine (RefScr_any a n c S w3 (HH.out.below HB3.out) HS.out).mono ?_); rintro e w4 ⟨a4, n4, c4, rfl, ho4, hb4⟩; rw [HR.out] at ho4 ⊢; have HO4 := Lib.hid (own_bs ho4); have HB34 := Lib.hid hb4; have HB4 := Lib.hid (Below.seq HB3.out hb4); clear ho4 hb4)
    | (go_at_call 9; (refine (SameBytes_yes a3 a4 n3 n4 c3 c4 l w4 (Below.bs HB34.out HO3.out) HO4.out).mono ?_); rintro e w5 ⟨rfl, hb5⟩; have HB45 := Lib.hid hb5; have HB5 := Lib.hid (Below.seq HB4.out hb5); clear hb5)
    | (go_at_call 10; (refine (SameEntries_yes a2 a n2 n c2 c S2 S w5 (((HN2.out.ens.below HB23.out).below HB34.out).below HB45.out) (HH.out.below HB5.out) HN2.out.map).mono ?_); rintro e w6 ⟨rfl, hb6⟩))
  go_ret
  exact ⟨rfl, Below.seq HB5.out hb6⟩
end Go.Proofs.YtamgiffkhnfpmaaGreatDoor
namespace Go.Proofs.YtamgiffkhnfpmaaGreatDoor
set_option linter.unusedVariables false
set_option linter.unusedSimpArgs false
open Go.ChangeShapes Go.WideShapes Go.ChangeAt Go.RowKit
abbrev Sl := Option Addr × Nat × Nat
def slV (s : Sl) : Value := .slice s.1 s.2.1 s.2.2
def slAt (S : List Sl) (i : Nat) : Sl := S.getD i (none, 0, 0)
/-- the lists as Apart holds them -/
structure ApI (w0 : World) (B : Nat) (aL : Option Addr) (nL cL : Nat) (S : List Sl) (wr : World) : Prop where
  bel : Below B w0 wr
  outer : IsSl wr 1 aL nL cL (S.map slV)
  free : ∀ i, i < nL → Free wr B (slAt S i).1 (slAt S i).2.1 (slAt S i).2.2
/-- no two share a block, none lies where the list of lists lies -/
structure Dist (aL : Option Addr) (nL : Nat) (S : List Sl) : Prop where
  two : ∀ i j b, i < nL → j < nL → i ≠ j → blk? (slAt S i).1 = some b → blk? (slAt S j).1 ≠ some b
  out : ∀ i b x, i < nL → blk? (slAt S i).1 = some b → aL = some x → x.block ≠ b
def mk (t : Nat) : Value := .int .u8 (IntKind.u8.wrap (7 * (t : Int) + 1))
/-- the cells of list t up to k bear its mark -/
def MarkTo (wr : World) (S : List Sl) (t k : Nat) : Prop := ∀ j, j < k → ∀ g, (slAt S t).1 = some ⟨g, 0, none⟩ → wr.cell? ⟨g, j, none⟩ = some (mk t)
def Marks (wr : World) (S : List Sl) (m : Nat) : Prop := ∀ t, t < m → MarkTo wr S t (slAt S t).2.1
theorem ApI.at {w0 wr : World} {B : Nat} {aL : Option Addr} {nL cL : Nat} {S : List Sl} (h : ApI w0 B aL nL cL S wr) (i : Nat) (hi : i < nL) :
    ∃ b off, aL = some ⟨b, off, none⟩ ∧ wr.cell? ⟨b, off + i, none⟩ = some (slV (slAt S i)) := by
  have hl : S.length = nL := by have := h.outer.1; simpa using this
  refine h.outer.2.2.2.1.at i _ ?_
  simp [slAt, List.getD, List.getElem?_eq_getElem (show i < S.length by omega)]
theorem outer_chg {wr w' : World} {aL : Option Addr} {nL cL : Nat} {S : List Sl} (h : IsSl wr 1 aL nL cL (S.map slV)) (hk : ∀ x k, aL = some x → (wr.cell? (x.add k)).isSome = true → w'.cell? (x.add k) = wr.cell? (x.add k)) : IsSl w' 1 aL nL cL (S.map slV) := by
  refine ⟨h.1, h.2.1, h.2.2.1, fun j v hj => ?_, h.2.2.2.2⟩
  obtain ⟨x, hx, hc⟩ := h.2.2.2.1 j v hj
  exact ⟨x, hx, by rw [hk x j hx (by rw [hc]; rfl)]; exact hc⟩
theorem add_block (x : Addr) (k : Nat) : (x.add k).block = x.block := by unfold Addr.add; split <;> rfl
theorem ApI.chg {w0 wr w' : World} {B : Nat} {aL : Option Addr} {nL cL : Nat} {S : List Sl} (h : ApI w0 B aL nL cL S wr) {a : Option Addr} {n : Nat} (k : Chg B a n wr w') (ho : ∀ b x, blk? a = some b → aL = some x → x.block ≠ b) : ApI w0 B aL nL cL S w' := by
  refine ⟨h.bel.trans k.bel, outer_chg h.outer fun x j hx hs => ?_, fun i hi => (h.free i hi).keep k⟩
  have hlt := World.block_lt_of_cell? (w := wr) (a := x.add j) (Option.isSome_iff_exists.1 hs).choose_spec
  rw [add_block] at hlt
  refine World.cell?_of_block (a := x.add j) ?_
  rw [add_block]
  exact k.other _ hlt (fun e => ho _ x e hx rfl)
theorem MarkTo.chg {wr w' : World} {S : List Sl} {t k : Nat} (h : MarkTo wr S t k) {B : Nat} {a : Option Addr} {n : Nat} (c : Chg B a n wr w') (hd : blk? a ≠ blk? (slAt S t).1 ∨ k ≤ n) : MarkTo w' S t k := by
  intro j hj g hg
  have hc := h j hj g hg
  have hlt : g < wr.heap.size := World.block_lt_of_cell? (w := wr) (a := ⟨g, j, none⟩) hc
  rcases hd with hd | hd
  · rw [World.cell?_of_block (a := ⟨g, j, none⟩) (c.other g hlt (fun e => hd (by rw [e, hg]; rfl)))]; exact hc
  · rw [c.low g j hlt (by omega)]; exact hc
theorem Marks.chg {wr w' : World} {S : List Sl} {m : Nat} (h : Marks wr S m) {B : Nat} {a : Option Addr} {n : Nat} (c : Chg B a n wr w') (hd : ∀ t, t < m → blk? a ≠ blk? (slAt S t).1 ∨ (slAt S t).2.1 ≤ n) : Marks w' S m :=
  fun t ht => (h t ht).chg c (hd t ht)
/-- one cell of list i is written -/
theorem ApI.store {w0 wr : World} {B : Nat} {aL : Option Addr} {nL cL : Nat} {S : List Sl} (h : ApI w0 B aL nL cL S wr) (hD : Dist aL nL S) {i g j : Nat} (hi : i < nL) (hg : (slAt S i).1 = some ⟨g, 0, none⟩) (hB : B ≤ g) (v : Value) :
    ApI w0 B aL nL cL S (wr.setCell ⟨g, j, none⟩ v) := by
  have hb : blk? (slAt S i).1 = some g := by rw [hg]; rfl
  refine ⟨h.bel.setCell (show B ≤ (⟨g, j, none⟩ : Addr).block from hB) v, outer_chg h.outer fun x k hx _ => ?_, fun t ht => ?_⟩
  · refine World.cell?_setCell_other _ _ _ _ (fun e => ?_)
    have := hD.out i g x hi hb hx
    exact this (by have := congrArg Addr.block e; rw [add_block] at this; exact this.symm)
  · obtain ⟨h1, h2, h3⟩ := h.free t ht
    refine ⟨h1, h2, ?_⟩
    rcases h3 with h3 | ⟨g', ha, hB', hlt, hf⟩
    · exact .inl h3
    · refine .inr ⟨g', ha, hB', by simpa using hlt, fun k hk => ⟨?_, by rw [World.frozen?_setCell]; exact (hf k hk).2⟩⟩
      exact World.isSome_setCells g [v] j wr _ (hf k hk).1
theorem Marks.store {wr : World} {aL : Option Addr} {nL : Nat} {S : List Sl} {i g j : Nat} (h : Marks wr S i) (hD : Dist aL nL S) (hi : i < nL) (hg : (slAt S i).1 = some ⟨g, 0, none⟩) (v : Value) : Marks (wr.setCell ⟨g, j, none⟩ v) S i := by
  intro t ht k hk g' hg'
  rw [World.cell?_setCell_other _ _ _ _ (fun e => by
    simp only [Addr.mk.injEq] at e
    obtain ⟨e1, _⟩ := e
    subst e1
    exact hD.two i t _ hi (by omega) (by omega) (by rw [hg]; rfl) (by rw [hg']; rfl))]
  exact h t ht k hk g' hg'
theorem MarkTo.store {wr : World} {S : List Sl} {i g j : Nat} (h : MarkTo wr S i j) (hg : (slAt S i).1 = some ⟨g, 0, none⟩) (hs : (wr.cell? ⟨g, j, none⟩).isSome = true) : MarkTo (wr.setCell ⟨g, j, none⟩ (mk i)) S i (j + 1) := by
  intro k hk g' hg'
  rw [hg] at hg'
  simp only [Option.some.injEq, Addr.mk.injEq, and_true] at hg'
  subst hg'
  by_cases e : k = j
  · subst e
    obtain ⟨u, hu⟩ := Option.isSome_iff_exists.1 hs
    exact World.cell?_setCell_same _ _ _ hu
  · rw [World.cell?_setCell_other _ _ _ _ (fun e' => e (by simp only [Addr.mk.injEq] at e'; exact e'.2.1.symm))]
    exact h k (by omega) g hg
/-- a slice that is grown: it began as list i, or lies in a block of its own -/
def OneI (S : List Sl) (aL : Option Addr) (nL i : Nat) (a : Option Addr) : Prop := blk? a = blk? (slAt S i).1 ∨ ∃ b, blk? a = some b ∧ (∀ t, t < nL → blk? (slAt S t).1 ≠ some b) ∧ ∀ x, aL = some x → x.block ≠ b
theorem blk_none {a : Option Addr} (h : blk? a = none) : a = none := by cases a with | none => rfl | some x => cases h
theorem OneI.mark {w0 wr : World} {B : Nat} {aL : Option Addr} {nL cL i : Nat} {S : List Sl} {a : Option Addr} (h : OneI S aL nL i a) (hI : ApI w0 B aL nL cL S wr) (hD : Dist aL nL S) (hi : i < nL) {n : Nat} (hn : (slAt S i).2.1 ≤ n) : ∀ t, t < nL → blk? a ≠ blk? (slAt S t).1 ∨ (slAt S t).2.1 ≤ n := by
  intro t ht
  by_cases e : blk? a = blk? (slAt S t).1
  · right
    cases hb : blk? (slAt S t).1 with
    | none =>
      have h0 := blk_none hb
      obtain ⟨f1, f2, f3⟩ := hI.free t ht
      rcases f3 with ⟨_, f4⟩ | ⟨g, f4, _⟩
      · omega
      · rw [h0] at f4; cases f4
    | some b =>
      by_cases et : t = i
      · subst et; exact hn
      · exfalso
        rw [hb] at e
        rcases h with h | ⟨b', hb', hx, _⟩
        · exact hD.two i t b hi ht (fun e' => et e'.symm) (by rw [← h, e]) hb
        · rw [e] at hb'
          have hbb : b = b' := Option.some.inj hb'
          subst hbb
          exact hx t ht hb
  · exact .inl e
theorem OneI.out {aL : Option Addr} {nL i : Nat} {S : List Sl} {a : Option Addr} (h : OneI S aL nL i a) (hD : Dist aL nL S) (hi : i < nL) : ∀ b x, blk? a = some b → aL = some x → x.block ≠ b := by
  intro b x hb hx
  rcases h with h | ⟨b', hb', _, ho⟩
  · exact hD.out i b x hi (by rw [← h]; exact hb) hx
  · have hbb : b' = b := Option.some.inj (hb'.symm.trans hb)
    subst hbb
    exact ho x hx
theorem OneI.next {w0 wr : World} {B : Nat} {aL : Option Addr} {nL cL i : Nat} {S : List Sl} {a a' : Option Addr} (h : OneI S aL nL i a) (hI : ApI w0 B aL nL cL S wr) (hi : i < nL) (hn : blk? a' = blk? a ∨ ∃ b, blk? a' = some b ∧ wr.heap.size ≤ b) : OneI S aL nL i a' := by
  rcases hn with hn | ⟨b, hb, hs⟩
  · rcases h with h | ⟨b', hb', h2, h3⟩
    · exact .inl (hn.trans h)
    · exact .inr ⟨b', hn.trans hb', h2, h3⟩
  · refine .inr ⟨b, hb, fun t ht e => ?_, fun x hx e => ?_⟩
    · obtain ⟨f1, f2, f3⟩ := hI.free t ht
      rcases f3 with ⟨f4, _⟩ | ⟨g, f4, _, f5, _⟩
      · rw [f4] at e; cases e
      · rw [f4] at e
        have hgb : g = b := Option.some.inj e
        omega
    · obtain ⟨b', off, hb', hc⟩ := hI.at i hi
      have hlt := World.block_lt_of_cell? (w := wr) (a := ⟨b', off + i, none⟩) hc
      rw [hb'] at hx
      have hxx := Option.some.inj hx
      subst hxx
      have : b' = b := e
      simp only at hlt
      omega
theorem ApI.below {w0 wr w' : World} {B : Nat} {aL : Option Addr} {nL cL : Nat} {S : List Sl} (h : ApI w0 B aL nL cL S wr) (hB : B ≤ wr.heap.size) (k : Below wr.heap.size wr w') : ApI w0 B aL nL cL S w' :=
  ⟨h.bel.trans (k.mono hB), (Below.keeps k).sl h.outer, fun i hi => (h.free i hi).below k⟩
theorem Marks.below {wr w' : World} {S : List Sl} {m : Nat} (h : Marks wr S m) (k : Below wr.heap.size wr w') : Marks w' S m := fun t ht j hj g hg => Below.keeps k _ _ (h t ht j hj g hg)
section
variable {P : Program} {ops : Array Oper} {rest : List Oper} {o : Oper} {a : Act} {w : World} {Q : Exit → Act → World → Prop}
theorem wpList_app_free (hgd : o.guard = none) (s x : Operand) (t : TypeId) (ho : o.op = .call { callee := .builtin .append, args := #[s, x], argTypes := #[t, t] })
    (e : TypeId) (ht : P.underlying t = some (.slice e)) (hi : (P.info? e).map (fun i => (i.zero, i.size, i.bytes)) = some (some (.int .u8 0), 1, 1)) (B : Nat) (hB : B ≤ w.heap.size)
    {a1 : Option Addr} {n c : Nat} (hs : a.eval s = .slice a1 n c) (hf : Free w B a1 n c) {ad : Addr} {m c2 : Nat} (hx : a.eval x = .slice (some ad) m c2) (news : List Value) (hsrc : IsSl w 1 (some ad) m c2 news) (h1 : ∀ u ∈ news, u.oneCell' = true) (hb : n + m ≤ 140737488355328)
    (h : ∀ a' c' w', Free w' B a' (n + m) c' → Chg B a1 n w w' → (blk? a' = blk? a1 ∨ ∃ b, blk? a' = some b ∧ w.heap.size ≤ b) → wpList P ops Q rest (a.put o.dst (.slice a' (n + m) c')) w') : wpList P ops Q (o :: rest) a w := by
  refine wpList_plain hgd fun K hK => ?_
  obtain ⟨a', c', w', hr, h2, h3, h4⟩ := run_app_free (P := P) w t o.type e ht hi B hB a1 n c hf ad m c2 news (by have := hsrc.1; omega) (fun j v hj => by
    obtain ⟨x, hx, hc⟩ := hsrc.2.2.2.1 j v hj
    cases hx
    exact hc) h1 hb
  unfold Oper.wp execOp
  simp only [ho, resolve, invoke, builtin, Sem.run_bind, Sem.run_pure, Result.andThen_ok, List.map_toArray, List.map_cons, List.map_nil, hs, hx, hr]
  exact hK _ _ (h a' c' w' h2 h3 h4)
theorem wpList_zeros_free (hgd : o.guard = none) (s x : Operand) (t tn : TypeId) (ho : o.op = .call { callee := .builtin .append, args := #[s, x], argTypes := #[t, tn] })
    (e : TypeId) (kn : IntKind) (ht : P.underlying t = some (.slice e)) (htn : P.underlying tn = some (.int kn)) (hi : (P.info? e).map (fun i => (i.zero, i.size, i.bytes)) = some (some (.int .u8 0), 1, 1)) (B : Nat) (hB : B ≤ w.heap.size)
    {a1 : Option Addr} {n c : Nat} (hs : a.eval s = .slice a1 n c) (hf : Free w B a1 n c) (m : Nat) (hx : a.eval x = .int .i64 (m : Int)) (h0 : 0 < m) (hm : m ≤ 1000000) (hb : n + m ≤ 140737488355328)
    (h : ∀ a' c' w', Chg B a1 n w w' → wpList P ops Q rest (a.put o.dst (.slice a' (n + m) c')) w') : wpList P ops Q (o :: rest) a w := by
  refine wpList_plain hgd fun K hK => ?_
  obtain ⟨a', c', w', hr, h2⟩ := run_zeros_free (P := P) w t tn o.type e kn ht htn hi B hB a1 n c hf m h0 hm hb
  unfold Oper.wp execOp
  simp only [ho, resolve, invoke, builtin, Sem.run_bind, Sem.run_pure, Result.andThen_ok, List.map_toArray, List.map_cons, List.map_nil, hs, hx, hr]
  exact hK _ _ (h a' c' w' h2)
end
set_option maxRecDepth 100000 in
set_option maxHeartbeats 3200000 in
theorem Apart_any (aL : Option Addr) (nL cL : Nat) (S : List Sl) (w : World) (B : Nat) (hB : B ≤ w.heap.size) (hI : ApI w B aL nL cL S w) (hD : Dist aL nL S) (hn : nL ≤ 100) (hlen : ∀ i, i < nL → (slAt S i).2.1 ≤ 70368744177664) :
    Calls Tryz.prog 11 #[.slice aL nL cL] w fun e w' => e = .returned (.bool true) ∧ Below B w w' := by
  have hcap : nL ≤ cL := hI.outer.2.1
  have hmax : cL ≤ 9223372036854775807 := hI.outer.2.2.1
  have HI := Lib.hid hI; have HD := Lib.hid hD; have HN := Lib.hid hlen; clear hI hD hlen
  go_enter Tryz.func11, Tryz.ntmps11
  go_wp2
  go_loopw [3] (fun i wr => ∃ k : Nat, k ≤ nL ∧ i = .int .i64 k ∧ Hid (ApI w B aL nL cL S wr) ∧ Hid (Marks wr S k)) (fun i _ => nL - (intOf i).toNat)
  case atStart => exact ⟨0, Nat.zero_le _, rfl, HI, Lib.hid (fun t ht => absurd ht (Nat.not_lt_zero t))⟩
  case round =>
    obtain ⟨k, hk, rfl, hi, hm⟩ := hrel
    by_cases hlt : k < nL
    · have hki : (k : Int) < nL := by omega
      have hw1 : IntKind.i64.wrap (7 * (k : Int)) = 7 * (k : Int) := IntWalk.i64_in _ (by omega)
      obtain ⟨b, off, rfl, hc⟩ := hi.out.at k hlt
      have hnk := HN.out k hlt
      have hfk := hi.out.free k hlt
      generalize hs : slAt S k = s at *
      obtain ⟨a1, n1, c1⟩ := s
      simp only [slV] at hc hnk hfk
      have HS := Lib.hid hs; clear hs
      have HF := Lib.hid hfk; clear hfk
      have hc0 := hc
      go_wp2
      go_loopw [4] (fun i wr => ∃ j : Nat, j ≤ n1 ∧ i = .int .i64 j ∧ Hid (ApI w B (some ⟨b, off, none⟩) nL cL S wr) ∧ Hid (Marks wr S k) ∧ Hid (MarkTo wr S k j)) (fun i _ => n1 - (intOf i).toNat)
      case atStart => exact ⟨0, Nat.zero_le _, rfl, hi, hm, Lib.hid (fun j hj => absurd hj (Nat.not_lt_zero j))⟩
      case round =>
        clear hc hc0 hi hm
        obtain ⟨j, hj, rfl, hi, hm, hmt⟩ := hrel
        obtain ⟨b', off', hbb, hc⟩ := hi.out.at k hlt
        obtain ⟨rfl, rfl⟩ : b' = b ∧ off' = off := by simpa using hbb.symm
        rw [HS.out] at hc
        simp only [slV] at hc
        clear hbb
        by_cases hjl : j < n1
        · have hji : (j : Int) < n1 := by omega
          obtain ⟨f1, f2, f3⟩ := (by have := hi.out.free k hlt; rw [HS.out] at this; exact this : Free wr B a1 n1 c1)
          rcases f3 with ⟨rfl, f4⟩ | ⟨g, rfl, g1, g2, g3⟩
          · omega
          · have hg : (slAt S k).1 = some ⟨g, 0, none⟩ := by rw [HS.out]
            obtain ⟨v0, hv0⟩ := Option.isSome_iff_exists.1 (g3 j (by omega)).1
            have hfz := (g3 j (by omega)).2
            have hi2 := hi.out.store HD.out hlt hg g1 (j := j) (mk k)
            have hm2 := hm.out.store HD.out hlt hg (j := j) (mk k)
            have hmt2 := hmt.out.store hg (g3 j (by omega)).1
            have HI2 := Lib.hid hi2; have HM2 := Lib.hid hm2; have HMT2 := Lib.hid hmt2
            clear hi2 hm2 hmt2 hg g3
            go_wp2
            go_round
            case rel => exact ⟨j + 1, by omega, by go_num, HI2, HM2, HMT2⟩
            case measure => simp [intOf]; omega
        · obtain rfl : j = n1 := by omega
          have hji : ¬ (j : Int) < j := by omega
          have hmn : Marks wr S (k + 1) := fun t ht => by
            by_cases e : t = k
            · subst e; rw [HS.out]; exact hmt.out
            · exact hm.out t (by omega)
          have HMN := Lib.hid hmn; clear hmn
          go_wp2
          go_round
          case rel => exact ⟨k + 1, by omega, by go_num, hi, HMN⟩
          case measure => simp [intOf]; omega
    · obtain rfl : k = nL := by omega
      have hki : ¬ (k : Int) < k := by omega
      go_wp2
      go_loopw [5] (fun i wr => ∃ j : Nat, j ≤ k ∧ i = .int .i64 j ∧ Hid (ApI w B aL k cL S wr) ∧ Hid (Marks wr S k)) (fun i _ => k - (intOf i).toNat)
      case atStart => exact ⟨0, Nat.zero_le _, rfl, hi, hm⟩
      case round =>
        clear hi hm
        obtain ⟨i, hik, rfl, hi, hm⟩ := hrel
        by_cases hlt2 : i < k
        · have hii : (i : Int) < k := by omega
          have hnk := HN.out i hlt2
          obtain ⟨b, off, rfl, hc⟩ := hi.out.at i hlt2
          have hfk := hi.out.free i hlt2
          have hone : OneI S (some ⟨b, off, none⟩) k i (slAt S i).1 := .inl rfl
          have hle : (slAt S i).2.1 ≤ (slAt S i).2.1 := Nat.le_refl _
          generalize hs : slAt S i = s at hnk hc hfk hone hle
          obtain ⟨a1, n1, c1⟩ := s
          simp only [slV] at hc hnk hfk hone hle
          have HS := Lib.hid hs; clear hs
          have HF := Lib.hid hfk; have HONE := Lib.hid hone; clear hfk hone hle
          have hw2 : IntKind.i64.wrap (128 + (i : Int)) = 128 + (i : Int) := IntWalk.i64_in _ (by omega)
          go_wp2
          go_loopw [6, 7] (fun v x wr => ∃ (j : Nat) (a2 : Option Addr) (c2 : Nat), j ≤ 16 ∧ x = .int .i64 j ∧ v = .slice a2 (n1 + j) c2 ∧ Hid (Free wr B a2 (n1 + j) c2) ∧ Hid (OneI S (some ⟨b, off, none⟩) k i a2) ∧ Hid (ApI w B (some ⟨b, off, none⟩) k cL S wr) ∧ Hid (Marks wr S k)) (fun _ x _ => 16 - (intOf x).toNat)
          case atStart => exact ⟨0, a1, c1, Nat.zero_le _, rfl, rfl, HF, HONE, hi, hm⟩
          case round =>
            clear hc hi hm HF
            obtain ⟨j, a2, c2, hj, rfl, rfl, hf, ho, hi, hm⟩ := hrel
            have hBr := Nat.le_trans hB hi.out.bel.size
            by_cases hjl : j < 16
            · have hji : (j : Int) < 16 := by omega
              go_wp2_with (at_builtin; refine wpList_app_free (w := wr.alloc (.cells #[.int .u8 (128 + (i : Int))] 5)) rfl (.tmp 50) (.tmp 54) 25 rfl 5 Tryz.underlying25 infoU8 B (by simp; omega) rfl (by exact hf.out.below ((Below.refl _ _).alloc (Nat.le_refl _) _)) rfl _ (isSl_new wr 5 1 1 #[.int .u8 (128 + (i : Int))] rfl (by unfold maxLen; omega)) (by simp [Value.oneCell']) (by omega) ?_; intro a3 c3 w3 hf3 hch3 hbk3)
              have hI1 := hi.out.below hBr ((Below.refl _ _).alloc (Nat.le_refl _) (.cells #[.int .u8 (128 + (i : Int))] 5))
              have hm1 := hm.out.below ((Below.refl _ _).alloc (Nat.le_refl _) (.cells #[.int .u8 (128 + (i : Int))] 5))
              have hle : (slAt S i).2.1 ≤ n1 + j := by rw [HS.out]; exact Nat.le_add_right _ _
              refine ⟨⟨j + 1, a3, c3, by omega, by go_num, rfl, Lib.hid hf3, Lib.hid (ho.out.next hI1 hlt2 hbk3), Lib.hid (hI1.chg hch3 (ho.out.out HD.out hlt2)), Lib.hid (hm1.chg hch3 (ho.out.mark hI1 HD.out hlt2 hle))⟩, by simp [intOf]; omega⟩
            · obtain rfl : j = 16 := by omega
              have hji : ¬ (16 : Int) < 16 := by omega
              obtain ⟨b', off', hbb, hc⟩ := hi.out.at i hlt2
              obtain ⟨rfl, rfl⟩ : b' = b ∧ off' = off := by simpa using hbb.symm
              rw [HS.out] at hc
              simp only [slV] at hc
              clear hbb
              have hF2 : Free wr B a1 n1 c1 := by have := hi.out.free i hlt2; rw [HS.out] at this; exact this
              have HF2 := Lib.hid hF2; clear hF2
              go_wp2_with (at_builtin; refine wpList_zeros_free rfl (.tmp 60) _ 25 3 rfl 5 .i64 Tryz.underlying25 Tryz.underlying3 infoU8 B hBr rfl (by exact HF2.out) 600 rfl (by decide) (by decide) (by omega) ?_; intro a4 c4 w4 hch4; have HCH := Lib.hid hch4; clear hch4; have HI4 := Lib.hid (hi.out.chg HCH.out (HONE.out.out HD.out hlt2)); have HM4 := Lib.hid (hm.out.chg HCH.out (HONE.out.mark hi.out HD.out hlt2 (by rw [HS.out]; exact Nat.le_refl _))); obtain ⟨b5, off5, hbb5, hc5⟩ := HI4.out.at i hlt2; obtain ⟨rfl, rfl⟩ : b5 = b' ∧ off5 = off' := (by simpa using hbb5.symm); rw [HS.out] at hc5; simp only [slV] at hc5; clear hbb5 hc)
              go_round
              case rel => exact ⟨i + 1, by omega, by go_num, HI4, HM4⟩
              case measure => simp [intOf]; omega
        · obtain rfl : i = k := by omega
          have hii : ¬ (i : Int) < i := by omega
          go_wp2
          go_loopw [9] (fun x wr => ∃ j : Nat, j ≤ i ∧ x = .int .i64 j ∧ Hid (ApI w B aL i cL S wr) ∧ Hid (Marks wr S i)) (fun x _ => i - (intOf x).toNat)
          case atStart => exact ⟨0, Nat.zero_le _, rfl, hi, hm⟩
          case round =>
            clear hi hm
            obtain ⟨t, htk, rfl, hi, hm⟩ := hrel
            by_cases hlt3 : t < i
            · have hti : (t : Int) < i := by omega
              have hw1 : IntKind.i64.wrap (7 * (t : Int)) = 7 * (t : Int) := IntWalk.i64_in _ (by omega)
              have hnk := HN.out t hlt3
              obtain ⟨b, off, rfl, hc⟩ := hi.out.at t hlt3
              have hmt := hm.out t hlt3
              have hfk := hi.out.free t hlt3
              unfold MarkTo at hmt
              generalize slAt S t = s at *
              obtain ⟨a1, n1, c1⟩ := s
              simp only [slV] at hc hnk hfk hmt
              have HF := Lib.hid hfk; clear hfk
              have HMT := Lib.hid hmt; clear hmt
              have hc0 := hc
              go_wp2
              go_loop [10] (fun x => ∃ j : Nat, j ≤ n1 ∧ x = .int .i64 j) (fun x => n1 - (intOf x).toNat)
              case atStart => exact ⟨0, Nat.zero_le _, rfl⟩
              case round =>
                obtain ⟨j, hj, rfl⟩ := hrel
                by_cases hjl : j < n1
                · have hji : (j : Int) < n1 := by omega
                  obtain ⟨f1, f2, f3⟩ := HF.out
                  rcases f3 with ⟨rfl, f4⟩ | ⟨g, rfl, g1, g2, g3⟩
                  · omega
                  · have hv := HMT.out j hjl g rfl
                    unfold mk at hv
                    clear g3 hc0
                    go_wp2
                    go_round
                    case rel => exact ⟨j + 1, by omega, by go_num⟩
                    case measure => simp [intOf]; omega
                · obtain rfl : j = n1 := by omega
                  have hji : ¬ (j : Int) < j := by omega
                  go_wp2
                  go_round
                  case rel => exact ⟨t + 1, by omega, by go_num, hi, hm⟩
                  case measure => simp [intOf]; omega
            · obtain rfl : t = i := by omega
              have hti : ¬ (t : Int) < t := by omega
              go_wp2
              go_ret
              exact ⟨rfl, hi.out.bel⟩
end Go.Proofs.YtamgiffkhnfpmaaGreatDoor
namespace Go.Proofs.YtamgiffkhnfpmaaGreatDoor
set_option linter.unusedVariables false
set_option linter.unusedSimpArgs false
open Go.ChangeShapes Go.WideShapes Go.ChangeAt Go.RowKit
theorem infoSl : (Tryz.prog.info? 25).map (fun i => (i.zero, i.size, i.bytes)) = some (some (Value.slice none 0 0), 1, 24) := by kernel_rfl
theorem slV_one (S : List Sl) : ∀ u ∈ S.map slV, u.oneCell' = true := by
  intro u hu
  obtain ⟨s, _, rfl⟩ := List.mem_map.1 hu
  rfl
/-- the lists that ScribeMemory lays beside one another: no two share a block -/
theorem scr_dist {w0 w : World} {B : Nat} {L : List En} {a : Option Addr} {n c : Nat} {E : List EnS} (h : NewEn w0 B L a n c E w) (sa sb : Sl) (N1 N2 k : Nat) (aL : Option Addr)
    (ha : ∀ b, blk? sa.1 = some b → w.heap.size ≤ b ∧ b < N1) (hb : ∀ b, blk? sb.1 = some b → N1 ≤ b ∧ b < N2) (hw : w.heap.size ≤ N1) (hL : ∀ x, aL = some x → N2 ≤ x.block) (h12 : N1 ≤ N2) (hk : k ≤ E.length) :
    Dist aL (k + 2) (sa :: sb :: (E.take k).map (·.2)) := by
  have hd : ∀ i, i < k → ∃ x, x ∈ E ∧ slAt (sa :: sb :: (E.take k).map (·.2)) (i + 2) = x.2 ∧ E[i]? = some x := fun i hi => by
    have hi' : i < E.length := by omega
    refine ⟨E[i], List.getElem_mem hi', ?_, List.getElem?_eq_getElem hi'⟩
    simp [slAt, List.getD, List.getElem?_take, hi, List.getElem?_eq_getElem hi']
  have h0 : slAt (sa :: sb :: (E.take k).map (·.2)) 0 = sa := rfl
  have h1 : slAt (sa :: sb :: (E.take k).map (·.2)) 1 = sb := rfl
  have hlt : ∀ x ∈ E, ∀ b, blk? x.2.1 = some b → b < w.heap.size := fun x hx b hb => (own_blk (h.dat x hx) b hb).2
  have hrs : ∀ i j (x y : EnS), i < j → E[i]? = some x → E[j]? = some y → ∀ b b', blk? x.2.1 = some b → blk? y.2.1 = some b' → b < b' := fun i j x y hij hx hy => by
    have := List.pairwise_iff_getElem.1 h.rise i j (List.getElem?_eq_some_iff.1 hx).1 (List.getElem?_eq_some_iff.1 hy).1 hij
    rw [(List.getElem?_eq_some_iff.1 hx).2, (List.getElem?_eq_some_iff.1 hy).2] at this
    exact this
  have hwhich : ∀ i, i < k + 2 → i = 0 ∨ i = 1 ∨ ∃ i', i' < k ∧ i = i' + 2 := fun i hi => by
    rcases i with _ | _ | i
    · exact .inl rfl
    · exact .inr (.inl rfl)
    · exact .inr (.inr ⟨i, by omega, rfl⟩)
  refine ⟨fun i j b hi hj hne h2 h3 => ?_, fun i b x hi h2 hx e => ?_⟩
  · rcases hwhich i hi with rfl | rfl | ⟨i', hi', rfl⟩ <;> rcases hwhich j hj with rfl | rfl | ⟨j', hj', rfl⟩
    · exact hne rfl
    · rw [h0] at h2; rw [h1] at h3; have := ha b h2; have := hb b h3; omega
    · obtain ⟨y, hy, ey, _⟩ := hd j' hj'
      rw [h0] at h2; rw [ey] at h3; have := ha b h2; have := hlt y hy b h3; omega
    · rw [h1] at h2; rw [h0] at h3; have := hb b h2; have := ha b h3; omega
    · exact hne rfl
    · obtain ⟨y, hy, ey, _⟩ := hd j' hj'
      rw [h1] at h2; rw [ey] at h3; have := hb b h2; have := hlt y hy b h3; omega
    · obtain ⟨y, hy, ey, _⟩ := hd i' hi'
      rw [h0] at h3; rw [ey] at h2; have := ha b h3; have := hlt y hy b h2; omega
    · obtain ⟨y, hy, ey, _⟩ := hd i' hi'
      rw [h1] at h3; rw [ey] at h2; have := hb b h3; have := hlt y hy b h2; omega
    · obtain ⟨x, hx, ex, gx⟩ := hd i' hi'
      obtain ⟨y, hy, ey, gy⟩ := hd j' hj'
      rw [ex] at h2; rw [ey] at h3
      by_cases hij : i' < j'
      · have := hrs i' j' x y hij gx gy b b h2 h3; omega
      · have := hrs j' i' y x (by omega) gy gx b b h3 h2; omega
  · have hx2 := hL x hx
    rcases hwhich i hi with rfl | rfl | ⟨i', hi', rfl⟩
    · rw [h0] at h2; have := ha b h2; omega
    · rw [h1] at h2; have := hb b h2; omega
    · obtain ⟨y, hy, ey, _⟩ := hd i' hi'
      rw [ey] at h2; have := hlt y hy b h2; omega
set_option maxRecDepth 100000 in
set_option maxHeartbeats 3200000 in
theorem ScribeMemory_walk (a : Option Addr) (n c : Nat) (S : List EnS) (w : World) (hpow : Pow10 w) (hbru : Bru w) (h : Ens w a n c S) (hs : Small (S.map (·.1))) (hd : ∀ x ∈ S, x.2.2.1 ≤ 1048576) :
    Calls Tryz.prog 4 #[.slice a n c] w fun e w' => e = .returned (.bool true) ∧ Below w.heap.size w w' := by
  have hn20 : n ≤ 2097152 := by have := hs.count; have := h.len; simp at *; omega
  have HP := Lib.hid hpow; have HT := Lib.hid hbru; have HH := Lib.hid h; have HS := Lib.hid hs; have HD := Lib.hid hd
  clear hpow hbru h hs hd
  have hrl : (Plain.scribe (S.map (·.1))).1.length ≤ 70368744177664 := by
    unfold Plain.scribe
    split
    · rename_i hall
      have b1 := encs_len (S.map (·.1)) (fun e he => fit_of (List.all_eq_true.1 hall _ he)) HS.out.data
      have b2 : (S.map (·.1)).length * 2200000 ≤ 4613734400000 := Nat.le_trans (Nat.mul_le_mul_right _ HS.out.count) (by decide)
      simp only [List.length_append, List.length_replicate]; omega
    · simp
  generalize hr : Plain.scribe (S.map (·.1)) = r at *
  obtain ⟨l, code⟩ := r
  have HR := Lib.hid hr; have HRL := Lib.hid hrl
  clear hr hrl
  go_enter Tryz.func4, Tryz.ntmps4
  go_upto_region 4 with (first
    | (go_at_call 5; (refine (Alive8_any w HT.out HP.out).mono ?_); rintro e w1 ⟨rfl, hb1⟩; have HB1 := Lib.hid hb1; clear hb1)
    | (go_at_call 6; (refine (CopyEntries_any a n c S w1 (HH.out.below HB1.out) (by omega) (fun x hx => by have := HD.out x hx; omega)).mono ?_); rintro e w2 ⟨a2, n2, c2, S2, rfl, hn2⟩; have HN2 := Lib.hid hn2; have HB2 := Lib.hid (Below.seq HB1.out hn2.bel); clear hn2))
  go_upto_region 5 with (go_at_call 7; (refine (ScrWrite_any a2 n2 c2 S2 w2 (HT.out.below HB2.out) (HP.out.below HB2.out) HN2.out.ens (HN2.out.small HS.out)).mono ?_); rintro e w3 ⟨a3, n3, c3, rfl, ho3, hb3⟩; rw [HN2.out.map, HR.out] at ho3 ⊢; have HO3 := Lib.hid ho3; have HB23 := Lib.hid hb3; have HB3 := Lib.hid (Below.seq HB2.out hb3); clear ho3 hb3)
  go_upto_region 6 with (go_at_call 7; (refine (ScrWrite_any a2 n2 c2 S2 w3 (HT.out.below HB3.out) (HP.out.below HB3.out) (HN2.out.ens.below HB23.out) (HN2.out.small HS.out)).mono ?_); rintro e w4 ⟨a4, n4, c4, rfl, ho4, hb4⟩; rw [HN2.out.map, HR.out] at ho4 ⊢; have HO4 := Lib.hid ho4; have HB34 := Lib.hid hb4; have HB4 := Lib.hid (Below.seq HB3.out hb4); clear ho4 hb4)
  have HO3b := Lib.hid (own_keep HO3.out fun i _ hi => HB34.out.block i hi)
  go_upto_region 7 with (go_at_call 8; (refine (RefScr_any a n c S w4 (HH.out.below HB4.out) HS.out).mono ?_); rintro e w5 ⟨a5, n5, c5, rfl, ho5, hb5⟩; rw [HR.out] at ho5 ⊢; have HO5 := Lib.hid (own_bs ho5); have HB45 := Lib.hid hb5; have HB5 := Lib.hid (Below.seq HB4.out hb5); clear ho5 hb5)
  have HO3c := Lib.hid (own_keep HO3b.out fun i _ hi => HB45.out.block i hi)
  have HO4c := Lib.hid (own_keep HO4.out fun i _ hi => HB45.out.block i hi)
  go_upto_region 9 with (first
    | (go_at_call 9; (with_reducible refine (SameBytes_yes a3 a5 n3 n5 c3 c5 l w5 (own_bs HO3c.out) HO5.out).mono ?_); rintro e w6 ⟨rfl, hb6⟩; have HB56 := Lib.hid hb6; have HB6 := Lib.hid (Below.seq HB5.out hb6); clear hb6)
    | (go_at_call 9; (with_reducible refine (SameBytes_yes a4 a5 n4 n5 c4 c5 l w6 (Below.bs HB56.out (own_bs HO4c.out)) (Below.bs HB56.out HO5.out)).mono ?_); rintro e w7 ⟨rfl, hb7⟩; have HB67 := Lib.hid hb7; have HB7 := Lib.hid (Below.seq HB6.out hb7); clear hb7))
  have HO3d := Lib.hid (own_keep (own_keep HO3c.out fun i _ hi => HB56.out.block i hi) fun i _ hi => HB67.out.block i hi)
  have HO4d := Lib.hid (own_keep (own_keep HO4c.out fun i _ hi => HB56.out.block i hi) fun i _ hi => HB67.out.block i hi)
  have hk27 : Below w2.heap.size w2 w7 := Below.seq (Below.seq (Below.seq (Below.seq HB23.out HB34.out) HB45.out) HB56.out) HB67.out
  have HN7 := Lib.hid (HN2.out.keep hk27 HN2.out.bel.size)
  have hE := HN7.out.ens
  have HE := Lib.hid hE
  have hl2 := hE.len; have hcap2 := hE.cap; have hmax2 := hE.max
  have hdl : ∀ x ∈ S2, x.2.2.1 ≤ 1048576 := fun x hx => by
    have h1 := (hE.dat x hx).len
    have h2 := HS.out.data x.1 (by rw [← HN7.out.map]; exact List.mem_map.2 ⟨x, hx, rfl⟩)
    omega
  have HDL := Lib.hid hdl
  have HL2 := Lib.hid hl2
  have hz1 : w1.heap.size ≤ w2.heap.size := HN2.out.bel.size
  have hz2 : w2.heap.size ≤ w3.heap.size := HB23.out.size
  have hz3 : w3.heap.size ≤ w4.heap.size := HB34.out.size
  have hz4 : w4.heap.size ≤ w7.heap.size := (Below.seq (Below.seq HB45.out HB56.out) HB67.out).size
  have hz0 : w.heap.size ≤ w1.heap.size := HB1.out.size
  have HZ := Lib.hid (And.intro hz0 (And.intro hz1 (And.intro hz2 (And.intro hz3 hz4))))
  have hba : ∀ b, blk? a3 = some b → w2.heap.size ≤ b ∧ b < w3.heap.size := fun b hb => HO3.out.lt b (by rw [← hb]; cases a3 <;> rfl)
  have hbb : ∀ b, blk? a4 = some b → w3.heap.size ≤ b ∧ b < w4.heap.size := fun b hb => HO4.out.lt b (by rw [← hb]; cases a4 <;> rfl)
  have HBA := Lib.hid hba; have HBB := Lib.hid hbb
  have hn3 := own_len HO3.out; have hn4 := own_len HO4.out
  have HN34 := Lib.hid (And.intro hn3 hn4)
  clear hk27 hE hl2 hdl hba hbb hn3 hn4 HO3 HO3b HO3c HO4 HO4c HO5 HB2 HB3 HB4 HB5 HB6 HB34 HB45 HB56 HB67 hz0 hz1 hz2 hz3 hz4
  have HLR : Hid ((w7.alloc (.cells #[.slice a3 n3 c3, .slice a4 n4 c4] 25)).ownsRow w7.heap.size 25 1 (.slice (some ⟨w7.heap.size, 0, none⟩) 2 2) 2 (([(a3, n3, c3), (a4, n4, c4)] : List Sl).map slV)) := Lib.hid (World.ownsRow_lit (base := w7.heap.size) (e := 25) (size := 1) w7 #[.slice a3 n3 c3, .slice a4 n4 c4] 2 (Nat.le_refl _) (by decide) rfl)
  have HBL := Lib.hid ((Below.refl w7.heap.size w7).alloc (Nat.le_refl _) (.cells #[.slice a3 n3 c3, .slice a4 n4 c4] 25))
  go_upto_region 10 with fail
  generalize w7.alloc (.cells #[.slice a3 n3 c3, .slice a4 n4 c4] 25) = w8 at *
  generalize hq : (some ⟨w7.heap.size, 0, none⟩ : Option Addr) = aq at *
  clear hq
  go_upto_region 11 with fail
  go_loopw [10, 11] (fun v i wr => ∃ (k : Nat) (a1 : Option Addr) (c1 : Nat), k ≤ n2 ∧ k ≤ 9 ∧ i = .int .i64 k ∧ v = .slice a1 (k + 2) c1 ∧ Hid (wr.ownsRow w7.heap.size 25 1 (.slice a1 (k + 2) c1) (k + 2) (((a3, n3, c3) :: (a4, n4, c4) :: (S2.take k).map (·.2) : List Sl).map slV)) ∧ Hid (Below w7.heap.size w7 wr)) (fun _ i _ => 9 - (intOf i).toNat)
  case atStart => exact ⟨0, aq, 2, Nat.zero_le _, by omega, rfl, rfl, HLR, HBL⟩
  case round =>
    obtain ⟨k, a1, c1, hk, hk9, rfl, rfl, ho, hbel⟩ := hrel
    by_cases hlt : k < n2 ∧ k < 9
    · obtain ⟨hlt, hlt9⟩ := hlt
      have hki : (k : Int) < 9 := by omega
      obtain ⟨b, off, rfl, hrg⟩ := (HE.out.below hbel.out).at k hlt
      have hst : (S2.take (k + 1)).map (·.2) = (S2.take k).map (·.2) ++ [(S2.getD k enD).2] := by
        have : k < S2.length := by have := HL2.out; omega
        rw [List.take_succ_eq_append_getElem this, List.map_append]
        simp [List.getD, List.getElem?_eq_getElem this]
      have HST := Lib.hid hst
      generalize S2.getD k enD = x at *
      have hc10 : wr.cell? ⟨b, off + k * 11 + 10, none⟩ = some (.slice x.2.1 x.2.2.1 x.2.2.2) := hrg 10 _ rfl
      have hnw := isSl_new wr 25 1 1 #[.slice x.2.1 x.2.2.1 x.2.2.2] rfl (by decide)
      have HNW := Lib.hid hnw
      have HOA := Lib.hid (ho.out.alloc (.cells #[.slice x.2.1 x.2.2.1 x.2.2.2] 25))
      have HSZ := Lib.hid hbel.out.size
      clear hrg hst hnw
      go_wp2_with (at_builtin; refine wpList_app rfl _ _ 32 rfl w7.heap.size 25 _ 1 24 Tryz.underlying32 infoSl rfl (by decide) (by decide) rfl HOA.out rfl HNW.out (by simp [Value.oneCell']) (by omega) (by have := HSZ.out; simp; omega) ?_; intro a9 c9 w9 ho9 hg9)
      exact ⟨⟨k + 1, a9, c9, by omega, by omega, by go_num, rfl, Lib.hid (by rw [HST.out, ← List.cons_append, ← List.cons_append, List.map_append]; exact ho9), Lib.hid (below_app (hbel.out.alloc hbel.out.size _) HOA.out hg9 (Nat.le_refl _) (by have := hbel.out.size; simp; omega))⟩, by simp [intOf]; omega⟩
    · have hend : k = n2 ∨ (k = 9 ∧ k < n2) := by omega
      have hS : ∀ i, i < k + 2 → (slAt ((a3, n3, c3) :: (a4, n4, c4) :: (S2.take k).map (·.2)) i = (a3, n3, c3)) ∨ (slAt ((a3, n3, c3) :: (a4, n4, c4) :: (S2.take k).map (·.2)) i = (a4, n4, c4)) ∨ ∃ x ∈ S2, slAt ((a3, n3, c3) :: (a4, n4, c4) :: (S2.take k).map (·.2)) i = x.2 := fun i hi => by
        rcases i with _ | _ | i
        · exact .inl rfl
        · exact .inr (.inl rfl)
        · refine .inr (.inr ?_)
          have hi' : i < S2.length := by have := HL2.out; omega
          exact ⟨S2[i], List.getElem_mem hi', by simp [slAt, List.getD, List.getElem?_take, show i < k by omega, List.getElem?_eq_getElem hi']⟩
      have hI : ApI wr w.heap.size a1 (k + 2) c1 ((a3, n3, c3) :: (a4, n4, c4) :: (S2.take k).map (·.2)) wr := by
        obtain ⟨q0, q1, q2, q3, q4⟩ := HZ.out
        refine ⟨Below.refl _ _, own_isSl ho.out, fun i hi => ?_⟩
        rcases hS i hi with e | e | ⟨x, hx, e⟩
        · rw [e]; exact ((own_free HO3d.out).base (by omega)).below hbel.out
        · rw [e]; exact ((own_free HO4d.out).base (by omega)).below hbel.out
        · rw [e]; exact ((own_free (HN7.out.dat x hx)).base (by omega)).below hbel.out
      have hD : Dist a1 (k + 2) ((a3, n3, c3) :: (a4, n4, c4) :: (S2.take k).map (·.2)) := by
        obtain ⟨q0, q1, q2, q3, q4⟩ := HZ.out
        refine scr_dist HN2.out (a3, n3, c3) (a4, n4, c4) w3.heap.size w4.heap.size k a1 HBA.out HBB.out q2 (fun x hx => ?_) q3 (by have := HL2.out; omega)
        subst hx
        have := (ho.out.lt x.block rfl).1
        omega
      have hln : ∀ i, i < k + 2 → (slAt ((a3, n3, c3) :: (a4, n4, c4) :: (S2.take k).map (·.2)) i).2.1 ≤ 70368744177664 := fun i hi => by
        have := HRL.out; have := HN34.out
        rcases hS i hi with e | e | ⟨x, hx, e⟩
        · rw [e]; simp only; omega
        · rw [e]; simp only; omega
        · rw [e]; have := HDL.out x hx; omega
      have HAP := Lib.hid (Apart_any a1 (k + 2) c1 _ wr w.heap.size (by have := hbel.out.size; have := HB7.out.size; omega) hI hD (by omega) hln)
      have HBR := Lib.hid (Below.seq HB7.out hbel.out)
      clear hI hD hln hS
      rcases hend with rfl | ⟨rfl, hlt⟩
      · go_wp2_with (go_at_call 11; (refine HAP.out.mono ?_); rintro e w10 ⟨rfl, hb10⟩)
        go_ret
        exact ⟨rfl, HBR.out.trans hb10⟩
      · go_wp2_with (go_at_call 11; (refine HAP.out.mono ?_); rintro e w10 ⟨rfl, hb10⟩)
        go_ret
        exact ⟨rfl, HBR.out.trans hb10⟩
end Go.Proofs.YtamgiffkhnfpmaaGreatDoor
namespace Go.Proofs.YtamgiffkhnfpmaaGreatDoor
open Go.ChangeShapes Go.WideShapes Go.ChangeAt Go.RowKit
/-- a table's numbers -/
def tabNums : DataW Unit → List Int
  | .agg ps => ps.map fun | .lit (.int _ z) => z | _ => 0
  | _ => []
theorem gBru : Tryz.prog.globalNamed "math/bits.deBruijn64tab" = some 5 := by kernel_rfl
theorem bru_of {laid : List (String × DataW Unit)} {W : World} (h : laidMetH Tryz.prog laid W) (hl : (laid.filter fun x => x.1 == "math/bits.deBruijn64tab") = [("math/bits.deBruijn64tab", Lib.tabData .u8 (tabNums Rows.laid_math_bits_deBruijn64tab))]) : Bru W := by
  have h1 := h.filter (fun x => x.1 == "math/bits.deBruijn64tab")
  rw [hl] at h1
  have ht := Lib.tabIs_of_head (rest := []) (n := 64) gBru (by kernel_rfl) Tryz.underlying141 Tryz.underlying5 (by kernel_rfl) (by kernel_rfl) h1
  have hc := ht.cell gBru 7 (of_decide_eq_true (by kernel_rfl))
  have e : (tabNums Rows.laid_math_bits_deBruijn64tab).getD 7 0 = 3 := by kernel_rfl
  rw [e] at hc
  exact hc
end Go.Proofs.YtamgiffkhnfpmaaGreatDoor
