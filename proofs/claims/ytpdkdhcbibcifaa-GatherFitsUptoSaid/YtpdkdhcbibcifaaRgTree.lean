/-
  RgTree: the reference's Tree.
-/
import Derived.Test.YtpdkdhcbibcifaaJ11
import Derived.BigRegion
import Derived.Deep.RegionHeld3
import Derived.Deep.CutRange
import Derived.Deep.DeepCutAuto
namespace Go.Proofs.Ytpdkdhcbibcifaa
set_option linter.unusedVariables false
set_option linter.unusedSimpArgs false
open Go.ChangeShapes Go.WideShapes Go.ChangeAt Go.RowKit
namespace Gr
/-- what the reference's Tree leaves -/
def RTreeRes (g : List Nd) (w : World) (root : Int) (r : Ending) (w' : World) : Prop :=
  ∃ (a : Option Addr) (n c : Nat) (code : Int) (SL : List LnS), r = .returned (.tuple #[.slice a n c, .int .i64 code]) ∧ Below w.heap.size w w' ∧
    (code = 0 → TreeOk g root (SL.map (·.1)) ∧ NewLn w' w.heap.size a n c SL ∧ n ≤ 4194304) ∧ (code ≠ 0 → ∀ ls, ¬ TreeOk g root ls)
theorem RTreeRes.no {g : List Nd} {w w' : World} {root : Int} (code : Int) (hc : code ≠ 0) (h : ∀ ls, ¬ TreeOk g root ls) (hb : Below w.heap.size w w') : RTreeRes g w root (.returned (.tuple #[.slice none 0 0, .int .i64 code])) w' :=
  ⟨none, 0, 0, code, [], rfl, hb, fun e => absurd e hc, fun _ => h⟩
theorem NewLn.mono {w : World} {B B' : Nat} {a : Option Addr} {n c : Nat} {S : List LnS} (h : NewLn w B a n c S) (hb : B' ≤ B) : NewLn w B' a n c S := ⟨own_base h.own hb, fun x hx => own_base (h.dat x hx) hb, h.rise⟩
theorem TrS.start (w : World) (n kk : Nat) : TrS w (((w.alloc (.cells #[] 51)).alloc (.cells (Array.replicate n (.string ⟨#[]⟩)) 9)).alloc (.cells #[.int .i64 (kk : Int), .string ⟨#[46]⟩] 102)) w.heap.size (w.heap.size + 1) (some ⟨w.heap.size + 2, 0, none⟩) 1 1 [(kk, [46])] (some ⟨w.heap.size, 0, none⟩) 0 0 [] (List.replicate n (.string ⟨#[]⟩)) := by
  have e1 : (w.alloc (.cells #[] 51)).heap.size = w.heap.size + 1 := by simp
  have e2 : ((w.alloc (.cells #[] 51)).alloc (.cells (Array.replicate n (.string ⟨#[]⟩)) 9)).heap.size = w.heap.size + 2 := by simp
  refine ⟨(((Below.refl _ _).alloc (Nat.le_refl _) _).alloc (by simp) _).alloc (by simp; omega) _, ?_, ?_, ?_, by omega, Nat.le_refl _⟩
  · have := World.ownsRow_lit (base := w.heap.size) (e := 102) (size := 2) ((w.alloc (.cells #[] 51)).alloc (.cells (Array.replicate n (.string ⟨#[]⟩)) 9)) #[.int .i64 (kk : Int), .string ⟨#[46]⟩] 1 (by omega) (by decide) rfl
    rw [e2] at this
    exact this
  · have := World.ownsRow_lit (base := w.heap.size) (e := 51) (size := 10) w #[] 0 (Nat.le_refl _) (by decide) rfl
    exact ⟨(this.alloc _).alloc _, by simp, List.Pairwise.nil⟩
  · have := RowE.made (w.alloc (.cells #[] 51)) n (.string ⟨#[]⟩) 9
    rw [e1] at this
    exact this.below ((Below.refl _ _).alloc (Nat.le_refl _) _)
set_option maxRecDepth 100000 in
set_option maxHeartbeats 8000000 in
theorem RTree_any (a : Option Addr) (n c : Nat) (S : List NdS) (root : Int) (w : World) (hS : Nds w a n c S) (hN : NdSm S) (hd : ∀ x ∈ S, x.2.1.2.1 ≤ 140737488355328) :
    Calls Try.prog 44 #[.agg #[.slice a n c], .int .i64 root] w (RTreeRes (gOf S) w root) := by
  have hb1 : Below w.heap.size w (w.alloc (.cells #[.slice a n c] 43)) := (Below.refl _ _).alloc (Nat.le_refl _) _
  have HB1 := Lib.hid hb1
  have HS := Lib.hid (hS.below hb1); have HN := Lib.hid hN; have HD := Lib.hid hd
  have HBG := Lib.hid (RBegin_any a n c S root (w.alloc (.cells #[.slice a n c] 43)) (hS.below hb1) hN)
  have HBX : Hid (∀ w', Below (w.alloc (.cells #[.slice a n c] 43)).heap.size (w.alloc (.cells #[.slice a n c] 43)) w' → w'.cell? ⟨w.heap.size, 0, none⟩ = some (.slice a n c)) := Lib.hid (fun w' hb => box_cell hb 0 rfl)
  clear hb1 hS hN hd
  by_cases hB : Begin (gOf S) root
  · have HBE := Lib.hid hB
    clear hB
    go_enter Try.func44, Try.ntmps44
    go_upto_region 2 with (go_at_call 54; (refine (HBG.out).mono ?_); rintro r w2 ⟨k0, code, rfl, hb2, hcode, hok⟩; have HCO := Lib.hid (hcode.2 HBE.out); have HOK := Lib.hid hok; have HB2 := Lib.hid hb2; have hbx := HBX.out _ hb2; clear hb2 hcode hok)
    obtain rfl := HCO.out
    obtain ⟨kk, x0, rfl, hk0, hid0⟩ := HOK.out rfl
    have hchk := HBE.out.1
    have hn4 : n ≤ 4096 := by have := hchk.1; have h2 := HS.out.len; unfold gOf at this; rw [List.length_map] at this; omega
    have HWB := Lib.hid (Below.seq HB1.out HB2.out)
    have HS2 := Lib.hid (HS.out.below HB2.out)
    have HINC : Hid (Inc (gOf S)) := Lib.hid hchk.2.1.inc
    have HCH := Lib.hid hchk
    have HNL : Hid ((gOf S).length = n) := Lib.hid (by unfold gOf; rw [List.length_map]; exact HS.out.len)
    have HSZ : Hid (w.heap.size + 1 ≤ w2.heap.size) := Lib.hid (by have := HB2.out.size; simpa using this)
    have HL0 : Hid (TrL (gOf S) root [(kk, [46])] 1 0 [] st0) := Lib.hid (by
      have hg : (gOf S)[kk]? = some x0.1 := by unfold gOf; rw [List.getElem?_map, hk0]; rfl
      refine ⟨rfl, fun res h => ?_, ?_, ?_, Nat.le_refl _, by decide, by omega, by simp [st0]⟩
      · have : wkOf (gOf S) [(kk, [46])] = [(root, [46])] := by
          have := wkOf_snoc (l := []) (p := [46]) hg
          rw [List.nil_append, wkOf_nil, hid0] at this
          exact this
        rwa [this] at h
      · intro x hx
        rw [List.mem_singleton] at hx
        subst hx
        exact ⟨by simp, by simp, (List.getElem?_eq_some_iff.1 hg).1⟩
      · intro _ x hx
        rw [List.mem_singleton] at hx
        rw [hx])
    clear HCO HOK HBG HB1 HB2 HBX HS hk0 hid0 hchk
    have hbxA := fun o => Keeps.alloc w2 o _ _ hbx
    have HBXK := Lib.hid hbx
    go_wp2_with (at_make; refine wpList_make_cells rfl _ _ _ rfl (.string ⟨#[]⟩) 16 Try.underlying94 infoS rfl (by decide) n rfl rfl (by omega) ?_)
    have hst := TrS.start w2 n kk
    have hf0 : List.replicate n (Value.string ⟨#[]⟩) = fstOf (gOf S) st0 := by rw [fstOf_st0, HNL.out]
    rw [hf0] at hst
    have HST := Lib.hid hst
    clear hst hf0
    clear hbx hbxA
    generalize ((w2.alloc (.cells #[] 51)).alloc (.cells (Array.replicate n (.string ⟨#[]⟩)) 9)).alloc (.cells #[.int .i64 (kk : Int), .string ⟨#[46]⟩] 102) = w5 at *
    generalize hB0 : w2.heap.size = B at *
    go_loopw [8, 10, 11] (fun ov sv mv wr => ∃ (sa : Option Addr) (sn sc : Nat) (STK : List St) (oa : Option Addr) (on oc : Nat) (SL : List LnS) (st : TS), ov = .slice oa on oc ∧ sv = .slice sa sn sc ∧ mv = .int .i64 (st.bytes : Int) ∧ Hid (TrS w2 wr B (B + 1) sa sn sc STK oa on oc SL (fstOf (gOf S) st)) ∧ Hid (TrL (gOf S) root STK sn on SL st)) (fun _ _ mv _ => 4194304 - (intOf mv).toNat)
    case atStart => exact ⟨_, 1, 1, _, _, 0, 0, [], st0, rfl, rfl, rfl, HST, HL0⟩
    case round =>
      clear HST HL0
      obtain ⟨sa, sn, sc, STK, oa, on, oc, SL, st, rfl, rfl, rfl, hM, hL⟩ := hrel
      have hs1 := hM.out.sl.2.1
      have hs2 : sc ≤ 9223372036854775807 := hM.out.sl.2.2.1
      have hlen := hM.out.len
      rcases Nat.eq_zero_or_pos sn with h0 | hpos
      · subst h0
        have hnil : STK = [] := List.eq_nil_of_length_eq_zero hlen
        subst hnil
        have HTR : Hid (TreeOk (gOf S) root (SL.map (·.1))) := Lib.hid ⟨HCH.out, HBE.out.2, st, hL.out.wk _ (Wk.done st), hL.out.map.symm⟩
        have HWR : Hid (Below w.heap.size w wr) := Lib.hid (HWB.out.trans (hM.out.bel.mono (by have := HSZ.out; omega)))
        have HON : Hid (on ≤ 4194304) := Lib.hid (Nat.le_trans hL.out.num hL.out.lim)
        clear hlen
        go_wp2
        go_ret2
        exact ⟨oa, on, oc, 0, SL, rfl, HWR.out, fun _ => ⟨HTR.out, hM.out.out.mono (by have := HSZ.out; omega), HON.out⟩, fun e => absurd rfl e⟩
      · obtain ⟨m, rfl⟩ : ∃ m, sn = m + 1 := ⟨sn - 1, by omega⟩
        obtain ⟨L, ⟨k, p⟩, rfl⟩ : ∃ L y, STK = L ++ [y] := by
          rcases snoc_cases STK with h | ⟨a, b, h⟩
          · subst h; simp at hlen
          · exact ⟨a, b, h⟩
        have hLl : L.length = m := by simpa using hlen
        obtain ⟨gb, rfl, hP⟩ := hM.out.pop
        obtain ⟨b1, o1, ha1, hat⟩ := hM.out.at m (k, p) (by rw [← hLl]; simp)
        simp only [Option.some.injEq, Addr.mk.injEq, and_true] at ha1
        obtain ⟨rfl, rfl⟩ := ha1
        simp only [stCells, Nat.zero_add] at hat
        obtain ⟨hp0, hpl, hkg⟩ := hL.out.pth (k, p) (by simp)
        simp only at hp0 hpl hkg
        obtain ⟨x, hx⟩ := get_some (S := S) (k := k) (by have := HNL.out; unfold gOf at this hkg; rw [List.length_map] at this hkg; omega)
        have HP := Lib.hid hP; have HAT := Lib.hid hat; have HX := Lib.hid hx
        have HP0 := Lib.hid hp0
        have hbb : st.bytes ≤ 4194304 := hL.out.lim
        have hsz : (⟨p.toArray⟩ : ByteArray).size = p.length := rfl
        have hkn : k < n := by have := HNL.out; omega
        clear hlen hP hat hx hp0 hkg hLl
        go_upto_region 10 with (refine wpList_load_mid rfl _ _ rfl gb (m * 2) rfl _ _ HAT.out Try.underlying102 rfl (by kernel_rfl) ?_)
        go_upto_region 11 with fail
        have hsb := heap_alloc_new wr (.cells #[.int .i64 (k : Int), .string ⟨p.toArray⟩] 102)
        have hP6 := HP.out.below ((Below.refl _ _).alloc (Nat.le_refl _) (.cells #[.int .i64 (k : Int), .string ⟨p.toArray⟩] 102))
        have hsne : (Value.slice (some ⟨gb, 0, none⟩) m sc).ownBlock ≠ some wr.heap.size := fun e => by have := (HP.out.stk.lt _ e).2; omega
        generalize wr.alloc (.cells #[.int .i64 (k : Int), .string ⟨p.toArray⟩] 102) = w6 at *
        generalize wr.heap.size = sb at *
        have hk6 : Keeps w2 w6 := Below.keeps (hB0 ▸ hP6.bel)
        have hg6 := hk6 _ _ HBXK.out
        obtain ⟨b, off, rfl, hrow⟩ := (HS2.out.keep hk6).at k x HX.out
        obtain ⟨⟨id, kind, mode, uid, gid, sec, nano, data, target, ents⟩, ⟨da, dn, dc⟩, ⟨ea, en, ec⟩⟩ := x
        simp only [ndCells] at hrow
        have c0 : w6.cell? ⟨sb, 0, none⟩ = some (.int .i64 (k : Int)) := by rw [row_cell hsb]; rfl
        have HROW := Lib.hid hrow; have HP6 := Lib.hid hP6; have HSB := Lib.hid hsb; have HSNE := Lib.hid hsne
        clear hsb hP6 hsne hk6 hrow HAT HP hM
        go_upto_region 12 with (refine wpList_load_mid rfl _ _ rfl b (off + k * 10) rfl _ _ HROW.out Try.underlying75 rfl (by kernel_rfl) ?_)
        have hnb := heap_alloc_new w6 (.cells #[.int .i64 id, .int .i64 kind, .int .i64 mode, .int .i64 uid, .int .i64 gid, .int .i64 sec, .int .i64 nano, .slice da dn dc, .string ⟨target.toArray⟩, .slice ea en ec] 75)
        have hb7 : Below w6.heap.size w6 (w6.alloc (.cells #[.int .i64 id, .int .i64 kind, .int .i64 mode, .int .i64 uid, .int .i64 gid, .int .i64 sec, .int .i64 nano, .slice da dn dc, .string ⟨target.toArray⟩, .slice ea en ec] 75)) := (Below.refl _ _).alloc (Nat.le_refl _) _
        have hR7 : RdS w2 (w6.alloc (.cells #[.int .i64 id, .int .i64 kind, .int .i64 mode, .int .i64 uid, .int .i64 gid, .int .i64 sec, .int .i64 nano, .slice da dn dc, .string ⟨target.toArray⟩, .slice ea en ec] 75)) B (B + 1) sb w6.heap.size (some ⟨gb, 0, none⟩) m sc L oa on oc SL (fstOf (gOf S) st) (k, p) (⟨id, kind, mode, uid, gid, sec, nano, data, target, ents⟩, (da, dn, dc), (ea, en, ec)) := ⟨HP6.out.below hb7, row_below HSB.out hb7, hnb, HSNE.out⟩
        have hsb7 : sb < w6.heap.size := row_lt HSB.out
        generalize w6.alloc (.cells #[.int .i64 id, .int .i64 kind, .int .i64 mode, .int .i64 uid, .int .i64 gid, .int .i64 sec, .int .i64 nano, .slice da dn dc, .string ⟨target.toArray⟩, .slice ea en ec] 75) = w7 at *
        generalize w6.heap.size = nb at *
        have HR7 := Lib.hid hR7
        have c1 : w7.cell? ⟨sb, 1, none⟩ = some (.string ⟨p.toArray⟩) := by rw [row_cell hR7.sbox]; rfl
        clear hnb hb7 hR7 c0 hg6 HP6 HSB HSNE HROW
        have hgk : (gOf S)[k]? = some ⟨id, kind, mode, uid, gid, sec, nano, data, target, ents⟩ := by unfold gOf; rw [List.getElem?_map, HX.out]; rfl
        have hno := nodeOf_at HINC.out hgk
        simp only at hno
        have hwk : wkOf (gOf S) (L ++ [(k, p)]) = (id, p) :: wkOf (gOf S) L := wkOf_snoc hgk
        by_cases hbig : 4194304 < st.bytes + p.length
        · have HNT : Hid (∀ ls, ¬ TreeOk (gOf S) root ls) := Lib.hid (fun ls h => by
            obtain ⟨_, _, st', hw, _⟩ := h
            have := hL.out.wk none (by rw [hwk]; exact Wk.big _ _ _ _ hbig)
            have := hw.det this
            cases this)
          have HWR : Hid (Below w.heap.size w w7) := Lib.hid (HWB.out.trans (HR7.out.tr.bel.mono (by have := HSZ.out; omega)))
          clear hno hgk hwk
          go_wp2
          go_ret2
          exact RTreeRes.no _ (by decide) HNT.out HWR.out
        · have HGK := Lib.hid hgk; have HNO := Lib.hid hno; have HWK := Lib.hid hwk
          clear hno hgk hwk
          go_upto_region 15 with fail
          clear c1
          obtain ⟨P, hP⟩ : ∃ P, P = st.peer id := ⟨_, rfl⟩
          have HPE := Lib.hid hP
          have hfc : (fstOf (gOf S) st)[k]? = some (.string ⟨P.toArray⟩) := by rw [hP]; exact fstOf_get HGK.out
          have HALL : Hid (∀ w', Below w7.heap.size w7 w' → w'.cell? ⟨sb, 0, none⟩ = some (.int .i64 (k : Int)) ∧ w'.cell? ⟨sb, 1, none⟩ = some (.string ⟨p.toArray⟩) ∧ w'.cell? ⟨B + 1, k, none⟩ = some (.string ⟨P.toArray⟩) ∧ w'.cell? ⟨nb, 1, none⟩ = some (.int .i64 kind) ∧ w'.cell? ⟨nb, 2, none⟩ = some (.int .i64 mode) ∧ w'.cell? ⟨nb, 3, none⟩ = some (.int .i64 uid) ∧ w'.cell? ⟨nb, 4, none⟩ = some (.int .i64 gid) ∧ w'.cell? ⟨nb, 5, none⟩ = some (.int .i64 sec) ∧ w'.cell? ⟨nb, 5 + 1, none⟩ = some (.int .i64 nano)) := Lib.hid (fun w' hb => by
            have h7 := HR7.out.below hb
            refine ⟨by rw [row_cell h7.sbox]; rfl, by rw [row_cell h7.sbox]; rfl, h7.tr.fst.cell hfc, by rw [row_cell h7.nbox]; rfl, by rw [row_cell h7.nbox]; rfl, by rw [row_cell h7.nbox]; rfl, by rw [row_cell h7.nbox]; rfl, by rw [row_cell h7.nbox]; rfl, by rw [row_cell h7.nbox]; rfl⟩)
          clear hP hfc
          go_cut [14] from 61 to 78 (fun v wx => v = .pointer (some ⟨w7.heap.size, 0, none⟩) ∧ Hid (Below w7.heap.size w7 wx ∧ wx.heap[w7.heap.size]? = some (.cells (lnC0 ⟨id, kind, mode, uid, gid, sec, nano, data, target, ents⟩ p P) 51)))
          case first =>
            -- @done
            go_region_held3 (fun w' => w'.cell? ⟨sb, 0, none⟩ = some (.int .i64 (k : Int)) ∧ w'.cell? ⟨sb, 1, none⟩ = some (.string ⟨p.toArray⟩) ∧ w'.cell? ⟨B + 1, k, none⟩ = some (.string ⟨P.toArray⟩) ∧ w'.cell? ⟨nb, 1, none⟩ = some (.int .i64 kind) ∧ w'.cell? ⟨nb, 2, none⟩ = some (.int .i64 mode) ∧ w'.cell? ⟨nb, 3, none⟩ = some (.int .i64 uid) ∧ w'.cell? ⟨nb, 4, none⟩ = some (.int .i64 gid) ∧ w'.cell? ⟨nb, 5, none⟩ = some (.int .i64 sec) ∧ w'.cell? ⟨nb, 5 + 1, none⟩ = some (.int .i64 nano))
              (first | exact HALL.out _ (Below.refl _ _) | exact HALL.out _ (Below.refl _ _).drew | exact HALL.out _ ((Below.refl _ _).drew.alloc (Nat.le_refl _) _) | exact HALL.out _ ((Below.refl _ _).alloc (Nat.le_refl _) _))
              (first | fail)
            all_goals
              go_wp2_with fail
              go_meet
              exact ⟨rfl, Lib.hid ⟨((Below.refl _ _).alloc (Nat.le_refl _) _).drew, heap_alloc_new _ _⟩⟩
            -- @end
          obtain ⟨rfl, hA⟩ := hcut
          obtain ⟨hA1, hA2⟩ := hA.out
          obtain ⟨w8, hw8⟩ : ∃ w8, w8 = wc := ⟨_, rfl⟩
          subst hw8
          have HR8 := Lib.hid (HR7.out.below hA1)
          have HLN := Lib.hid hA2
          have HONE : Hid ((Value.slice oa on oc).ownBlock ≠ some w7.heap.size) := Lib.hid (fun e => by have := (HR7.out.tr.out.own.lt _ e).2; omega)
          have HLB : Hid (B ≤ w7.heap.size) := Lib.hid HR7.out.tr.lt
          clear hA hA1 hA2 HALL HR7
          generalize w7.heap.size = lb at *
          have cl9 : w8.cell? ⟨lb, 9, none⟩ = some (.string ⟨P.toArray⟩) := by rw [row_cell HLN.out]; rfl
          go_upto_if 81 with fail
          clear cl9
          go_cut [] (fun wx => ∃ d : Sl, Hid (RdS w2 wx B (B + 1) sb nb (some ⟨gb, 0, none⟩) m sc L oa on oc SL (fstOf (gOf S) (st.next ⟨id, kind, mode, uid, gid, sec, nano, data, target, ents⟩ p)) (k, p) (⟨id, kind, mode, uid, gid, sec, nano, data, target, ents⟩, (da, dn, dc), (ea, en, ec))) ∧
            Hid (wx.heap[lb]? = some (.cells (lnV (mkLine ⟨id, kind, mode, uid, gid, sec, nano, data, target, ents⟩ p P, d)) 51)) ∧ Hid (∃ w0, NewLn w0 B oa on oc SL ∧ B ≤ w0.heap.size ∧ Own wx w0.heap.size d (mkLine ⟨id, kind, mode, uid, gid, sec, nano, data, target, ents⟩ p P).data))
          case first =>
            -- @done
            by_cases hpe : P = []
            · subst hpe
              have hfc : (fstOf (gOf S) st)[k]? = some (.string ⟨#[]⟩) := by have := fstOf_get (st := st) HGK.out; rw [← HPE.out] at this; exact this
              have c0 : w8.cell? ⟨sb, 0, none⟩ = some (.int .i64 (k : Int)) := by rw [row_cell HR8.out.sbox]; rfl
              have c1 : w8.cell? ⟨sb, 1, none⟩ = some (.string ⟨p.toArray⟩) := by rw [row_cell HR8.out.sbox]; rfl
              have cf : w8.cell? ⟨B + 1, k, none⟩ = some (.string ⟨#[]⟩) := HR8.out.tr.fst.cell hfc
              have cff : w8.frozen? ⟨B + 1, k, none⟩ = false := HR8.out.tr.fst.froz k
              clear hfc
              go_upto_region 18 with fail
              have hR9 := HR8.out.first k (.string ⟨p.toArray⟩)
              rw [fstOf_next HINC.out HGK.out HPE.out.symm hL.out.fne] at hR9
              have hln9 := row_grown HLN.out (setCell_grown w8 (B + 1) k (.string ⟨p.toArray⟩)) (fun e => by
                have e2 := Option.some.inj e
                have h1 := HR8.out.tr.fst
                unfold RowE at h1
                rw [← e2, HLN.out] at h1
                simp only [Option.some.injEq, Obj.cells.injEq] at h1
                exact absurd h1.2.1 (by decide))
              clear c0 c1 cf cff
              generalize w8.setCell ⟨B + 1, k, none⟩ (.string ⟨p.toArray⟩) = w9 at *
              have HR9 := Lib.hid hR9; have HLN9 := Lib.hid hln9
              have c7 : w9.cell? ⟨nb, 7, none⟩ = some (.slice da dn dc) := by rw [row_cell hR9.nbox]; rfl
              have HDA : Hid (Dat w9 (da, dn, dc) data) := Lib.hid ((HS2.out.keep (Below.keeps (hB0 ▸ hR9.tr.bel))).dat _ (mem_get HX.out))
              have HDN : Hid (dn ≤ 140737488355328) := Lib.hid (HD.out _ (mem_get HX.out))
              clear hR9 hln9 HR8 HLN
              go_upto_region 19 with (go_at_call 42; (refine (CopyBytes_any da dn dc data w9 HDA.out HDN.out).mono ?_); rintro r w10 ⟨a5, n5, c5, rfl, ho5, hb5⟩; have HO5 : Hid (Own w10 w9.heap.size (a5, n5, c5) data) := Lib.hid ho5; have HB5 := Lib.hid hb5; have RL5 := Lib.hid (row_below HLN9.out HB5.out); have d1 : w10.cell? ⟨lb, 6 + 1, none⟩ = some (.slice none 0 0) := (by rw [row_cell RL5.out]; rfl); have d1f : w10.frozen? ⟨lb, 6 + 1, none⟩ = false := row_froz RL5.out 7; clear ho5 hb5)
              have hR10 := (HR9.out.below HB5.out).box RL5.out HONE.out HLB.out 7 (.slice a5 n5 c5)
              have hl10 := setCell_row RL5.out (j := 7) (.slice a5 n5 c5)
              have ho10 := own_cell (g := lb) (j := 7) (u := .slice a5 n5 c5) HO5.out RL5.out (by decide)
              have HN0 : Hid (NewLn w9 B oa on oc SL ∧ B ≤ w9.heap.size) := Lib.hid ⟨HR9.out.tr.out, HR9.out.tr.lt⟩
              have HR10 := Lib.hid hR10; have HL10 := Lib.hid hl10; have HO10 := Lib.hid ho10
              clear hR10 hl10 ho10 d1 d1f c7 HO5 RL5 HB5
              generalize w10.setCell ⟨lb, 7, none⟩ (.slice a5 n5 c5) = w11 at *
              have c8 : w11.cell? ⟨nb, 8, none⟩ = some (.string ⟨target.toArray⟩) := by rw [row_cell HR10.out.nbox]; rfl
              have e8 : w11.cell? ⟨lb, 8, none⟩ = some (.string ⟨#[]⟩) := by rw [row_cell HL10.out]; rfl
              have e8f : w11.frozen? ⟨lb, 8, none⟩ = false := row_froz HL10.out 8
              have HR12 := Lib.hid (HR10.out.box HL10.out HONE.out HLB.out 8 (.string ⟨target.toArray⟩))
              have HL12 := Lib.hid (setCell_row HL10.out (j := 8) (.string ⟨target.toArray⟩))
              have HO12 : Hid (∃ w0, NewLn w0 B oa on oc SL ∧ B ≤ w0.heap.size ∧ Own (w11.setCell ⟨lb, 8, none⟩ (.string ⟨target.toArray⟩)) w0.heap.size (a5, n5, c5) data) := Lib.hid ⟨w9, HN0.out.1, HN0.out.2, own_cell HO10.out HL10.out (by decide)⟩
              go_wp2_with fail
              go_meet
              exact ⟨(a5, n5, c5), HR12, HL12, HO12⟩
            · have hpb : (P == []) = false := beq_f hpe
              have hpi : P.isEmpty = false := by simpa using hpe
              have HR9 : Hid (RdS w2 w8 B (B + 1) sb nb (some ⟨gb, 0, none⟩) m sc L oa on oc SL (fstOf (gOf S) (st.next ⟨id, kind, mode, uid, gid, sec, nano, data, target, ents⟩ p)) (k, p) (⟨id, kind, mode, uid, gid, sec, nano, data, target, ents⟩, (da, dn, dc), (ea, en, ec))) := Lib.hid (by rw [fstOf_stays (by rw [← HPE.out]; exact hpe)]; exact HR8.out)
              have HLX : Hid (w8.heap[lb]? = some (.cells (lnV (mkLine ⟨id, kind, mode, uid, gid, sec, nano, data, target, ents⟩ p P, ((none, 0, 0) : Sl))) 51)) := Lib.hid (by have := HLN.out; simpa [lnC0, lnV, mkLine, hpe] using this)
              have HOX : Hid (Own w8 w8.heap.size (none, 0, 0) (mkLine ⟨id, kind, mode, uid, gid, sec, nano, data, target, ents⟩ p P).data) := Lib.hid (by simp only [mkLine, if_neg hpe]; exact World.ownsRow_nil _ _ _ _)
              clear hpe
              go_wp2_with fail
              all_goals first | exact absurd ‹P.isEmpty = true› (by simp [hpi]) | skip
              go_meet
              exact ⟨(none, 0, 0), HR9, HLX, Lib.hid ⟨w8, HR9.out.tr.out, HR9.out.tr.lt, HOX.out⟩⟩
            -- @end
          obtain ⟨d, HR9, HLN9, HOW9⟩ := hcut
          obtain ⟨w9, hw9⟩ : ∃ w9, w9 = wc := ⟨_, rfl⟩
          subst hw9
          obtain ⟨w0, hn0, hb0, ho0⟩ := HOW9.out
          have hlb9 : lb < w9.heap.size := row_lt HLN9.out
          have hN1 : TrL (gOf S) root L m (on + 1) (SL ++ [(mkLine ⟨id, kind, mode, uid, gid, sec, nano, data, target, ents⟩ p P, d)]) (st.next ⟨id, kind, mode, uid, gid, sec, nano, data, target, ents⟩ p) ∨ True := Or.inr trivial
          have HLA := Lib.hid (HR9.out.below ((Below.refl _ _).alloc (Nat.le_refl _) (.cells (lnV (mkLine ⟨id, kind, mode, uid, gid, sec, nano, data, target, ents⟩ p P, d)) 51)))
          have hon : on ≤ 4194304 := Nat.le_trans hL.out.num hL.out.lim
          have HN0 := Lib.hid hn0; have HB0 := Lib.hid hb0; have HO0 := Lib.hid ho0
          clear HR8 HLN hn0 hb0 ho0 HOW9 hN1
          go_upto_region 21 with (first
            | (refine wpList_load_rowA rfl _ _ rfl lb rfl (lnV (mkLine ⟨id, kind, mode, uid, gid, sec, nano, data, target, ents⟩ p P, d)) 51 _ HLN9.out Try.underlying51 rfl (sizeLn _) ?_)
            | (with_reducible refine wpList_slice_one rfl 22 _ rfl Try.underlying22 (lnV (mkLine ⟨id, kind, mode, uid, gid, sec, nano, data, target, ents⟩ p P, d)) (infoLine2 _) (lnZ_sz _) (lnV_pos _) (lnV_lim _) rfl ?_)
            | (at_builtin; refine wpList_app rfl _ _ 22 rfl B 51 _ 10 120 Try.underlying22 infoLine rfl (by decide) (by decide) rfl HLA.out.tr.out.own rfl (ln_newc w9 (mkLine ⟨id, kind, mode, uid, gid, sec, nano, data, target, ents⟩ p P, d)) (ln_one [(mkLine ⟨id, kind, mode, uid, gid, sec, nano, data, target, ents⟩ p P, d)]) (by omega) HLA.out.tr.lt ?_; intro a4 c4 w10 ho4 hg4))
          have hRA := RdS.line HN0.out HB0.out HR9.out HO0.out hg4 ho4
          have hTN := TrL.next (d := d) HCH.out hL.out HGK.out HPE.out (by omega)
          have hdot := hL.out.dot
          have hon0 : st.out.isEmpty = decide (on = 0) := by
            have h1 := HN0.out.len
            have h2 := hL.out.map
            rw [← h2, ← h1]
            cases SL <;> simp
          have hets := HS2.out.ent _ (mem_get HX.out)
          have hetl := hets.len
          have htmx := Nat.le_trans hets.cap hets.max
          have c9 : w10.cell? ⟨nb, 9, none⟩ = some (.slice ea en ec) := by rw [row_cell hRA.nbox]; rfl
          simp only at hets hetl htmx
          generalize st.out.isEmpty = top at *
          generalize hln : mkLine ⟨id, kind, mode, uid, gid, sec, nano, data, target, ents⟩ p P = ln at *
          have HPA : Hid (pushed (gOf S) L p top ents en = L) := Lib.hid (by rw [← hetl]; exact pushed_all)
          have HRA := Lib.hid hRA; have HTN := Lib.hid hTN; have HDOT := Lib.hid hdot; have HON := Lib.hid hon0; have HEN := Lib.hid hets; have HEL := Lib.hid hetl
          clear hRA hTN hdot hon0 hets hetl HLA HLN9 HN0 HB0 HO0 HR9 hg4 ho4 hL hln HWK hlb9
          go_wp2
          clear c9
          go_loopw [10, 15] (fun sv iv wx => ∃ (sa : Option Addr) (sn sc j : Nat) (i : Int), sv = .slice sa sn sc ∧ iv = .int .i64 i ∧ i + 1 = (j : Int) ∧ j ≤ en ∧ sn + j = m + en ∧ Hid (RdS w2 wx B (B + 1) sb nb sa sn sc (pushed (gOf S) L p top ents j) a4 (on + 1) c4 (SL ++ [(ln, d)]) (fstOf (gOf S) (st.next ⟨id, kind, mode, uid, gid, sec, nano, data, target, ents⟩ p)) (k, p) (⟨id, kind, mode, uid, gid, sec, nano, data, target, ents⟩, (da, dn, dc), (ea, en, ec)))) (fun _ iv _ => (intOf iv + 1).toNat)
          case atStart => exact ⟨_, m, sc, en, _, rfl, rfl, by omega, Nat.le_refl _, rfl, Lib.hid (by rw [HPA.out]; exact HRA.out)⟩
          case round =>
            clear HRA
            obtain ⟨sa, sn, sc, j, i, rfl, rfl, hi, hj, hsum, hR⟩ := hrel
            rcases j with _ | j
            · obtain rfl : i = -1 := by omega
              have hmn : sn = m + en := by omega
              subst hmn
              go_wp2
              exact ⟨⟨sa, m + en, sc, _, a4, on + 1, c4, SL ++ [(ln, d)], st.next ⟨id, kind, mode, uid, gid, sec, nano, data, target, ents⟩ p, rfl, rfl, by simp [TS.next], Lib.hid hR.out.tr, Lib.hid (by have := HTN.out; simp only [HEL.out] at this; exact this)⟩, by simp [intOf]; have := HP0.out; have := List.length_pos_iff.2 this; omega⟩
            · obtain rfl : i = (j : Int) := by omega
              obtain ⟨⟨nm, eid⟩, hye⟩ := get_some (S := ents) (k := j) (by have := HEL.out; omega)
              have hkk := Below.keeps (hB0 ▸ hR.out.tr.bel)
              obtain ⟨eb, eo, hea, hrow⟩ := (HEN.out.keep hkk).at j (nm, eid) hye
              simp only at hea
              subst hea
              simp only [etCells] at hrow
              have c9 : wr.cell? ⟨nb, 9, none⟩ = some (.slice (some ⟨eb, eo, none⟩) en ec) := by rw [row_cell hR.out.nbox]; rfl
              have r0 : wr.cell? ⟨eb, eo + j * 2, none⟩ = some (.string ⟨nm.toArray⟩) := by simpa using range_cell hrow 0 rfl
              have s1 : wr.cell? ⟨sb, 1, none⟩ = some (.string ⟨p.toArray⟩) := by rw [row_cell hR.out.sbox]; rfl
              have HROW := Lib.hid hrow; have HYE := Lib.hid hye
              clear hrow hye hkk
              go_upto_region 25 with fail
              clear c9 r0
              have hns : (⟨nm.toArray⟩ : ByteArray).size = nm.length := rfl
              have hnml : nm.length ≤ 255 := by
                obtain ⟨pp, hok⟩ := HCH.out.ok
                exact (good_parts ((hok.ents _ (List.mem_of_getElem? HGK.out)).good _ (mem_get HYE.out))).2.2.2.1
              go_cut [120] from 113 to 119 (fun v wx => v = .bool (!top) ∧ wx = wr)
              case first =>
                cases top with
                | true =>
                  have hq : (p == [46]) = true := by rw [HDOT.out rfl]; rfl
                  have hon1 : on = 0 := by have := HON.out; simpa using this.symm
                  have hd : decide ((1 : Int) < (on : Int) + 1) = false := by simp; omega
                  clear hon1
                  go_wp2_with fail
                  go_meet
                  exact ⟨rfl, rfl⟩
                | false =>
                  have hon1 : 0 < on := by have := HON.out; simp at this; omega
                  have hd : decide ((1 : Int) < (on : Int) + 1) = true := by simp; omega
                  cases hq : (p == [46]) with
                  | true =>
                    go_wp2_with fail
                    go_meet
                    exact ⟨rfl, rfl⟩
                  | false =>
                    go_wp2_with fail
                    go_meet
                    exact ⟨rfl, rfl⟩
              obtain ⟨rfl, hwc⟩ := hcut
              have hwc2 := hwc
              subst hwc
              go_upto_if 120 with fail
              go_cut [16] (fun v wx => v = .string ⟨(below p top nm).toArray⟩ ∧ wx = wc)
              case first =>
                cases top with
                | true =>
                  go_wp2_with fail
                  go_meet
                  exact ⟨rfl, rfl⟩
                | false =>
                  have hcat := cat_path p nm
                  go_wp2_with (rw [hcat])
                  go_meet
                  exact ⟨rfl, rfl⟩
              obtain ⟨rfl, hwd⟩ := hcut
              subst hwd
              obtain ⟨w11, hw11⟩ : ∃ w11, w11 = wc := ⟨_, rfl⟩
              subst hw11
              clear s1 hns HDOT HON
              obtain ⟨t2, ht2⟩ : ∃ t2, nodeOf (gOf S) eid = some t2 := by
                obtain ⟨pp, hok⟩ := HCH.out.ok
                exact Option.isSome_iff_exists.1 ((hok.ents _ (List.mem_of_getElem? HGK.out)).there _ (mem_get HYE.out))
              obtain ⟨j2, hj1, hj2, _⟩ := atOf_get HINC.out ht2
              have hps := pushed_step (g := gOf S) (l := L) (path := p) (top := top) HYE.out
              simp only [hj2, Int.toNat_natCast] at hps
              have hsb : m + en ≤ 8192 * 4194305 + 1 := by
                have h1 := HTN.out.stn
                have h2 := HTN.out.num
                have h3 := HTN.out.lim
                rw [HEL.out] at h1
                omega
              generalize below p top nm = PA at *
              have HS1 : Hid (∀ w', Keeps w2 w' → w'.heap[nb]? = some (.cells (ndW (⟨id, kind, mode, uid, gid, sec, nano, data, target, ents⟩, (da, dn, dc), (some ⟨eb, eo, none⟩, en, ec))) 75) → w'.cell? ⟨w.heap.size, 0, none⟩ = some (.slice (some ⟨b, off, none⟩) n c) ∧ w'.cell? ⟨nb, 9, none⟩ = some (.slice (some ⟨eb, eo, none⟩) en ec) ∧ w'.cell? ⟨eb, eo + j * 2 + 1, none⟩ = some (.int .i64 eid)) := Lib.hid (fun w' hk hn => by
                refine ⟨hk _ _ HBXK.out, by rw [row_cell hn]; rfl, ?_⟩
                obtain ⟨eb', eo', hea', hrow'⟩ := (HEN.out.keep hk).at j (nm, eid) HYE.out
                simp only [Option.some.injEq, Addr.mk.injEq, and_true] at hea'
                obtain ⟨rfl, rfl⟩ := hea'
                simp only [etCells] at hrow'
                simpa using range_cell hrow' 1 rfl)
              have HALL : Hid (∀ w', Below w11.heap.size w11 w' → w'.cell? ⟨w.heap.size, 0, none⟩ = some (.slice (some ⟨b, off, none⟩) n c) ∧ w'.cell? ⟨nb, 9, none⟩ = some (.slice (some ⟨eb, eo, none⟩) en ec) ∧ w'.cell? ⟨eb, eo + j * 2 + 1, none⟩ = some (.int .i64 eid)) := Lib.hid (fun w' hb => by
                have h1 := hR.out.below hb
                exact HS1.out w' (Below.keeps (hB0 ▸ h1.tr.bel)) h1.nbox)
              have HAT : Hid (∀ w', Below w11.heap.size w11 w' → Calls Try.prog 55 #[.agg #[.slice (some ⟨b, off, none⟩) n c], .int .i64 eid] w' fun r w'' => r = .returned (.int .i64 (j2 : Int)) ∧ Below w'.heap.size w' w'') := Lib.hid (fun w' hb => by
                have h1 := hR.out.below hb
                have h2 := At_any (some ⟨b, off, none⟩) n c S eid w' (HS2.out.keep (Below.keeps (hB0 ▸ h1.tr.bel))) HINC.out
                rw [show S.map (·.1) = gOf S from rfl, hj2] at h2
                exact h2)
              have HAPP : Hid (∀ w4, Below w11.heap.size w11 w4 → ∃ (a' : Option Addr) (c' : Nat) (w' : World), (Builtin.append_ #[103, 103] 103 #[.slice sa sn sc, .slice (some ⟨w4.heap.size, 0, none⟩) 1 1]).run Try.prog (w4.alloc (.cells #[.int .i64 (j2 : Int), .string ⟨PA.toArray⟩] 102)) = .ok (.slice a' (sn + 1) c') w' ∧
                  Hid (RdS w2 w' B (B + 1) sb nb a' (sn + 1) c' (pushed (gOf S) L p top ents j) a4 (on + 1) c4 (SL ++ [(ln, d)]) (fstOf (gOf S) (st.next ⟨id, kind, mode, uid, gid, sec, nano, data, target, ents⟩ p)) (k, p) (⟨id, kind, mode, uid, gid, sec, nano, data, target, ents⟩, (da, dn, dc), (some ⟨eb, eo, none⟩, en, ec))) ∧
                  (w'.cell? ⟨w.heap.size, 0, none⟩ = some (.slice (some ⟨b, off, none⟩) n c) ∧ w'.cell? ⟨nb, 9, none⟩ = some (.slice (some ⟨eb, eo, none⟩) en ec) ∧ w'.cell? ⟨eb, eo + j * 2 + 1, none⟩ = some (.int .i64 eid))) := Lib.hid (fun w4 hb4 => by
                have hA : Below w11.heap.size w11 (w4.alloc (.cells (stV (j2, PA)) 102)) := hb4.alloc hb4.size _
                have h1 := hR.out.below hA
                obtain ⟨a', c', w', e1, e2, e3, e4⟩ := run_app_at (P := Try.prog) 103 103 B 102 _ 2 24 Try.underlying103 infoSt rfl (by decide) (by decide) h1.tr.stk (st_new w4 (j2, PA)) (st_one [(j2, PA)]) (by omega) h1.tr.lt
                have h2 := hR.out.push hA e3 e2 e4
                rw [hps] at h2
                exact ⟨a', c', w', e1, Lib.hid h2, HS1.out w' (Below.keeps (hB0 ▸ h2.tr.bel)) h2.nbox⟩)
              clear HS1 hj1 hj2 hps ht2 hsb HROW HYE
              go_upto_region 27 with fail
              have hj0 : (0 : Int) ≤ (j : Int) := by omega
              have hj1 : (j : Int) < (en : Int) := by omega
              refine wp_region_held_drew (S := fun w' : World => w'.cell? ⟨w.heap.size, 0, none⟩ = some (.slice (some ⟨b, off, none⟩) n c) ∧ w'.cell? ⟨nb, 9, none⟩ = some (.slice (some ⟨eb, eo, none⟩) en ec) ∧ w'.cell? ⟨eb, eo + j * 2 + 1, none⟩ = some (.int .i64 eid)) (by kernel_rfl) (HALL.out _ (Below.refl _ _).drew) (fun hHeld => ?_)
              refine wpAnyH_take (i := 0) (oi := { dst := some 126, op := Op.move (Operand.tmp 10), type := 103, pos := "ref.go:229", after := #[], guard := none }) (v := (.slice sa sn sc)) rfl (by kernel_rfl) (by kernel_rfl) (by kernel_rfl) (fun _ _ _ h => h) (Or.inl ⟨by rfl, ?_⟩) (by assumption) ?_
              · intro wz hSw
                (try dsimp only at hSw)
                obtain ⟨s0, s1, s2⟩ := hSw
                go_simp
              (try simp only [Act.put, List.setIfInBounds_toArray, List.set_cons_zero, List.set_cons_succ, List.toList_toArray])
              refine wpAnyH_take (i := 1) (oi := { dst := some 127, op := Op.load 43 (Operand.tmp 2), type := 43, pos := "ref.go:229", after := #[], guard := none }) (v := (.agg #[.slice (some ⟨b, off, none⟩) n c])) rfl (by kernel_rfl) (by kernel_rfl) (by kernel_rfl) (fun _ _ _ h => h) (Or.inl ⟨by rfl, ?_⟩) (by assumption) ?_
              · intro wz hSw
                (try dsimp only at hSw)
                obtain ⟨s0, s1, s2⟩ := hSw
                go_simp
              (try simp only [Act.put, List.setIfInBounds_toArray, List.set_cons_zero, List.set_cons_succ, List.toList_toArray])
              refine wpAnyH_take (i := 2) (oi := { dst := some 128, op := Op.fieldAddr 75 (Operand.tmp 13) 8, type := 0, pos := "ref.go:229", after := #[], guard := none }) (v := (.pointer (some ⟨nb, 9, none⟩))) rfl (by kernel_rfl) (by kernel_rfl) (by kernel_rfl) (fun _ _ _ h => h) (Or.inl ⟨by rfl, ?_⟩) (by assumption) ?_
              · intro wz hSw
                (try dsimp only at hSw)
                obtain ⟨s0, s1, s2⟩ := hSw
                go_simp
              (try simp only [Act.put, List.setIfInBounds_toArray, List.set_cons_zero, List.set_cons_succ, List.toList_toArray])
              refine wpAnyH_take (i := 3) (oi := { dst := some 129, op := Op.load 73 (Operand.tmp 128), type := 73, pos := "ref.go:229", after := #[{ on := 2, ground := Ground.data }], guard := none }) (v := (.slice (some ⟨eb, eo, none⟩) en ec)) rfl (by kernel_rfl) (by kernel_rfl) (by kernel_rfl) (fun _ _ _ h => h) (Or.inl ⟨by rfl, ?_⟩) (by assumption) ?_
              · intro wz hSw
                (try dsimp only at hSw)
                obtain ⟨s0, s1, s2⟩ := hSw
                go_simp
              (try simp only [Act.put, List.setIfInBounds_toArray, List.set_cons_zero, List.set_cons_succ, List.toList_toArray])
              refine wpAnyH_take (i := 4) (oi := { dst := some 130, op := Op.move (Operand.tmp 15), type := 3, pos := "ref.go:229", after := #[], guard := none }) (v := (.int .i64 (j : Int))) rfl (by kernel_rfl) (by kernel_rfl) (by kernel_rfl) (fun _ _ _ h => h) (Or.inl ⟨by rfl, ?_⟩) (by assumption) ?_
              · intro wz hSw
                (try dsimp only at hSw)
                obtain ⟨s0, s1, s2⟩ := hSw
                go_simp
              (try simp only [Act.put, List.setIfInBounds_toArray, List.set_cons_zero, List.set_cons_succ, List.toList_toArray])
              refine wpAnyH_take (i := 5) (oi := { dst := some 131, op := Op.indexAddr 73 (Operand.tmp 129) (Operand.tmp 130), type := 0, pos := "ref.go:229", after := #[{ on := 3, ground := Ground.data }, { on := 4, ground := Ground.data }], guard := none }) (v := (.pointer (some ⟨eb, eo + j * 2, none⟩))) rfl (by kernel_rfl) (by kernel_rfl) (by kernel_rfl) (fun _ _ _ h => h) (Or.inl ⟨by rfl, ?_⟩) (by assumption) ?_
              · intro wz hSw
                (try dsimp only at hSw)
                obtain ⟨s0, s1, s2⟩ := hSw
                (first | go_simp | (go_simp; intro h; omega))
              (try simp only [Act.put, List.setIfInBounds_toArray, List.set_cons_zero, List.set_cons_succ, List.toList_toArray])
              refine wpAnyH_take (i := 6) (oi := { dst := some 132, op := Op.fieldAddr 87 (Operand.tmp 131) 1, type := 0, pos := "ref.go:229", after := #[{ on := 5, ground := Ground.data }], guard := none }) (v := (.pointer (some ⟨eb, eo + j * 2 + 1, none⟩))) rfl (by kernel_rfl) (by kernel_rfl) (by kernel_rfl) (fun _ _ _ h => h) (Or.inl ⟨by rfl, ?_⟩) (by assumption) ?_
              · intro wz hSw
                (try dsimp only at hSw)
                obtain ⟨s0, s1, s2⟩ := hSw
                go_simp
              (try simp only [Act.put, List.setIfInBounds_toArray, List.set_cons_zero, List.set_cons_succ, List.toList_toArray])
              refine wpAnyH_take (i := 7) (oi := { dst := some 133, op := Op.load 3 (Operand.tmp 132), type := 3, pos := "ref.go:229", after := #[{ on := 6, ground := Ground.data }], guard := none }) (v := (.int .i64 eid)) rfl (by kernel_rfl) (by kernel_rfl) (by kernel_rfl) (fun _ _ _ h => h) (Or.inl ⟨by rfl, ?_⟩) (by assumption) ?_
              · intro wz hSw
                (try dsimp only at hSw)
                obtain ⟨s0, s1, s2⟩ := hSw
                go_simp
              (try simp only [Act.put, List.setIfInBounds_toArray, List.set_cons_zero, List.set_cons_succ, List.toList_toArray])
              refine wpAnyH_take (i := 9) (oi := { dst := some 135, op := Op.move (Operand.tmp 16), type := 9, pos := "ref.go:229", after := #[], guard := none }) (v := (.string ⟨PA.toArray⟩)) rfl (by kernel_rfl) (by kernel_rfl) (by kernel_rfl) (fun _ _ _ h => h) (Or.inl ⟨by rfl, ?_⟩) (by assumption) ?_
              · intro wz hSw
                (try dsimp only at hSw)
                obtain ⟨s0, s1, s2⟩ := hSw
                go_simp
              (try simp only [Act.put, List.setIfInBounds_toArray, List.set_cons_zero, List.set_cons_succ, List.toList_toArray])
              refine wpAnyH_ready (rs := [8]) (by kernel_rfl) (by simp) ?_
              refine AllReadyH.cons (o := { dst := some 134, op := Op.call { callee := Callee.value (Operand.func 55), args := #[Operand.tmp 127, Operand.tmp 133], argTypes := #[43, 3] }, type := 3, pos := "ref.go:229", after := #[{ on := 1, ground := Ground.data }, { on := 7, ground := Ground.data }], guard := none }) rfl (fun K hK => ?_) AllReadyH.nil
              go_simp
              (go_at_call 55; refine (HAT.out _ ((Below.refl _ _).drew)).mono ?_; rintro r w12 ⟨rfl, hb12⟩)
              have HB12 := Lib.hid (Below.seq (Below.refl w11.heap.size w11).drew hb12)
              clear hb12
              (try go_wp2_with fail)
              refine hK.out _ _ (HALL.out _ HB12.out) (fun hH8 => ?_)
              clear hK K hHeld
              have hHeld := hH8
              clear hH8
              (try simp only [Act.put, List.setIfInBounds_toArray, List.set_cons_zero, List.set_cons_succ, List.toList_toArray])
              refine wpAnyH_take (i := 10) (oi := { dst := some 136, op := Op.build 102 #[(0, Operand.tmp 134), (1, Operand.tmp 135)], type := 102, pos := "ref.go:229", after := #[{ on := 8, ground := Ground.data }, { on := 9, ground := Ground.data }], guard := none }) (v := (.agg #[.int .i64 (j2 : Int), .string ⟨PA.toArray⟩])) rfl (by kernel_rfl) (by kernel_rfl) (by kernel_rfl) (fun _ _ _ h => h) (Or.inl ⟨by rfl, ?_⟩) (by assumption) ?_
              · intro wz hSw
                (try dsimp only at hSw)
                obtain ⟨s0, s1, s2⟩ := hSw
                go_simp
              (try simp only [Act.put, List.setIfInBounds_toArray, List.set_cons_zero, List.set_cons_succ, List.toList_toArray])
              refine wpAnyH_ready (rs := [11]) (by kernel_rfl) (by simp) ?_
              refine AllReadyH.cons (o := { dst := some 137, op := Op.buildSlice 103 1 #[(0, Operand.tmp 136)], type := 103, pos := "ref.go:229", after := #[{ on := 10, ground := Ground.data }], guard := none }) rfl (fun K hK => ?_) AllReadyH.nil
              go_simp
              refine hK.out _ _ (HALL.out _ (HB12.out.alloc HB12.out.size _)) (fun hH11 => ?_)
              clear hK K hHeld
              have hHeld := hH11
              clear hH11
              (try simp only [Act.put, List.setIfInBounds_toArray, List.set_cons_zero, List.set_cons_succ, List.toList_toArray])
              refine wpAnyH_ready (rs := [12]) (by kernel_rfl) (by simp) ?_
              refine AllReadyH.cons (o := { dst := some 138, op := Op.call { callee := Callee.builtin Builtin.append, args := #[Operand.tmp 126, Operand.tmp 137], argTypes := #[103, 103] }, type := 103, pos := "ref.go:229", after := #[{ on := 0, ground := Ground.data }, { on := 11, ground := Ground.data }, { on := 8, ground := Ground.chain }], guard := none }) rfl (fun K hK => ?_) AllReadyH.nil
              obtain ⟨a7, c7, w7', hrun7, HR7', hS7⟩ := HAPP.out _ HB12.out
              refine step_app_run rfl (.tmp 126) (.tmp 137) 103 rfl _ _ (by simp [Act.eval, Act.put]) (by simp [Act.eval, Act.put]) _ _ hrun7 ?_
              clear hrun7
              refine hK.out _ _ (hS7) (fun hH12 => ?_)
              clear hK K hHeld
              have hHeld := hH12
              clear hH12
              (try simp only [Act.put, List.setIfInBounds_toArray, List.set_cons_zero, List.set_cons_succ, List.toList_toArray])
              refine wpAnyH_take (i := 13) (oi := { dst := some 10, op := Op.assign (Operand.tmp 138), type := 103, pos := "ref.go:229", after := #[{ on := 12, ground := Ground.data }, { on := 12, ground := Ground.chain }, { on := 0, ground := Ground.phase }, { on := 1, ground := Ground.phase }, { on := 2, ground := Ground.phase }, { on := 3, ground := Ground.phase }, { on := 4, ground := Ground.phase }, { on := 5, ground := Ground.phase }, { on := 6, ground := Ground.phase }, { on := 7, ground := Ground.phase }, { on := 8, ground := Ground.phase }, { on := 9, ground := Ground.phase }, { on := 10, ground := Ground.phase }, { on := 11, ground := Ground.phase }, { on := 12, ground := Ground.phase }], guard := none }) (v := (.slice a7 (sn + 1) c7)) rfl (by kernel_rfl) (by kernel_rfl) (by kernel_rfl) (fun _ _ _ h => h) (Or.inl ⟨by rfl, ?_⟩) (by assumption) ?_
              · intro wz hSw
                (try dsimp only at hSw)
                obtain ⟨s0, s1, s2⟩ := hSw
                go_simp
              (try simp only [Act.put, List.setIfInBounds_toArray, List.set_cons_zero, List.set_cons_succ, List.toList_toArray])
              refine wpAnyH_done (by kernel_rfl) ?_ _
              go_wp2_with fail
              exact ⟨⟨a7, sn + 1, c7, j, (j : Int) - 1, rfl, by go_num, by omega, by omega, by omega, HR7'⟩, by simp [intOf]⟩
  · have HNB : Hid (∀ ls, ¬ TreeOk (gOf S) root ls) := Lib.hid (fun ls h => hB ⟨h.1, h.2.1⟩)
    have HBE := Lib.hid hB
    clear hB
    go_enter Try.func44, Try.ntmps44
    go_upto_region 2 with (go_at_call 54; (refine (HBG.out).mono ?_); rintro r w2 ⟨k0, code, rfl, hb2, hcode, _⟩; have HCO : Hid (code ≠ 0) := Lib.hid (fun e => HBE.out (hcode.1 e)); have HB2 := Lib.hid hb2; clear hb2 hcode)
    have hne : (code != 0) = true := bne_t HCO.out
    go_wp2_with fail
    go_ret2
    exact RTreeRes.no _ HCO.out HNB.out (Below.seq HB1.out HB2.out)
end Gr
end Go.Proofs.Ytpdkdhcbibcifaa
