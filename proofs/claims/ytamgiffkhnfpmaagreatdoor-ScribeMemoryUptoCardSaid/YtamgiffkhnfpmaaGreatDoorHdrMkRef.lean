/-
  HdrMkRef: the reference's Make.
-/
import Derived.Test.YtamgiffkhnfpmaaGreatDoorHdrMkWalk
import Derived.Test.YtamgiffkhnfpmaaGreatDoorJ08
import Derived.Deep.RegionHeld3
namespace Go.Proofs.YtamgiffkhnfpmaaGreatDoor
set_option linter.unusedVariables false
set_option linter.unusedSimpArgs false
open Go.ChangeShapes Go.WideShapes Go.ChangeAt Go.RowKit
theorem lay_step (l : List UInt8) (off : Nat) (t : List UInt8) (k : Nat) (hk : k < t.length) (h : off + t.length ≤ l.length) : (lay l off (t.take k)).set (off + k) (t.getD k 0) = lay l off (t.take (k + 1)) := by
  have h1 : (t.take k).length = k := by rw [List.length_take]; omega
  have h2 : (t.take (k + 1)).length = k + 1 := by rw [List.length_take]; omega
  refine list_ext_getD (by rw [List.length_set, lay_len _ _ _ (by omega), lay_len _ _ _ (by omega)]) fun j hj => ?_
  rw [List.length_set, lay_len _ _ _ (by omega)] at hj
  have e : ((lay l off (t.take k)).set (off + k) (t.getD k 0)).getD j 0 = if off + k = j then t.getD k 0 else (lay l off (t.take k)).getD j 0 := by
    simp only [List.getD, List.getElem?_set]
    by_cases a : off + k = j
    · subst a; simp [lay_len l off (t.take k) (by omega), hj]
    · simp [a]
  rw [e, lay_getD _ _ _ (by omega), lay_getD _ _ _ (by omega), h1, h2]
  by_cases a : off + k = j
  · subst a
    rw [if_pos rfl, if_pos (by omega), show off + k - off = k by omega]
    simp [List.getD, List.getElem?_take]
  · rw [if_neg a]
    by_cases b : off ≤ j ∧ j < off + k
    · rw [if_pos b, if_pos (by omega)]
      simp only [List.getD, List.getElem?_take]
      rw [if_pos (by omega), if_pos (by omega)]
    · rw [if_neg b, if_neg (by omega)]
set_option maxRecDepth 100000 in
set_option maxHeartbeats 1600000 in
theorem Lay_any (l : List UInt8) (hl : l.length = 512) (O : Int) (off : Nat) (hO : (off : Int) = O) (t : List UInt8) (ht : off + t.length ≤ 512) (w : World) :
    Calls Tryz.prog 68 #[.agg (rowA l), .int .i64 O, .string ⟨t.toArray⟩] w fun e w' => e = .returned (.agg (rowA (lay l off t))) ∧ Below w.heap.size w w' := by
  subst hO
  have HR := Lib.hid (Two.new w 72 l zblk)
  have HI := Lib.hid (sizeBlk l hl); have HZ := Lib.hid zeroBlk
  have hsl : (lay l off t).length = 512 := by rw [lay_len _ _ _ (by omega), hl]
  have HI2 := Lib.hid (sizeBlk (lay l off t) hsl); have HO2 := Lib.hid (rowA_one (lay l off t))
  have hsz2 : Hid ((rowA zblk).size = (rowA (lay l off t)).size) := by show _ = _; rw [rowA_size, rowA_size, zblk_len, hsl]
  have HL := Lib.hid hl
  clear hl hsl
  go_enter Tryz.func68, Tryz.ntmps68
  go_upto_region 1 with (first
    | (with_reducible refine wpList_box_agg rfl _ _ rfl (rowA l) rfl ?_)
    | (with_reducible refine wpList_alloc_z rfl _ rfl (rowA zblk) HZ.out ?_))
  have hR := HR.out
  generalize (w.alloc (.cells (rowA l) 72)).alloc (.cells (rowA zblk) 72) = wa at *
  have HRR := Lib.hid hR
  clear hR HR
  go_wp2_with fail
  go_loopw [7] (fun i wr => ∃ k : Nat, k ≤ t.length ∧ i = .int .i64 k ∧ Hid (Two w 72 (lay l off (t.take k)) zblk wr)) (fun i _ => t.length - (intOf i).toNat)
  case atStart => exact ⟨0, by omega, rfl, Lib.hid (by rw [List.take_zero, lay_nil]; exact HRR.out)⟩
  case round =>
    clear HRR
    obtain ⟨k, hk, rfl, hT⟩ := hrel
    by_cases hlt : k < t.length
    · have hki : (k : Int) < (t.length : Int) := by omega
      have hlen : (lay l off (t.take k)).length = 512 := by rw [lay_len _ _ _ (by rw [List.length_take, HL.out]; omega), HL.out]
      have hx := str_at t k hlt
      have hcell := hT.out.cell (off + k) (by rw [hlen]; omega)
      have hfz := hT.out.froz (off + k)
      have hs := hT.out.set (off + k) (t.getD k 0)
      rw [lay_step l off t k hlt (by rw [HL.out]; exact ht)] at hs
      have HS := Lib.hid hs
      have h512 : (off : Int) + (k : Int) < 512 := by omega
      have hcast : ((off : Int) + (k : Int)).toNat = off + k := by omega
      have h0 : (0 : Int) ≤ (off : Int) + (k : Int) := by omega
      generalize t.getD k 0 = g at *
      clear hs hlen hT
      go_wp2
      go_round
      case rel => exact ⟨k + 1, by omega, by go_num, HS⟩
      case measure => simp [intOf]; omega
    · obtain rfl : k = t.length := by omega
      have hT2 := hT.out
      rw [List.take_length] at hT2
      have H4 := Lib.hid hT2.r0; have H5 := Lib.hid hT2.r1; have HB := Lib.hid hT2.bel
      clear hT hT2
      go_wp2_with (first
        | (with_reducible refine wpList_load_row rfl _ _ rfl w.heap.size rfl 72 (rowA (lay l off t)) (0, 0) _ H4.out Tryz.underlying72 rfl HI2.out ?_)
        | (with_reducible refine wpList_store_row rfl 72 _ _ rfl (w.heap.size + 1) rfl (rowA (lay l off t)) rfl (rowA zblk) 72 H5.out hsz2.out HI2.out HO2.out ?_))
      exact bodyPost_ret (results_cell_row rfl _ _ (w.heap.size + 1) 72 (rowA (lay l off t)) (0, 0) _ rfl (setRow_heap _ _ _ _ _ _ H5.out) Tryz.underlying72 rfl HI2.out) rfl ⟨rfl, Below.setRow HB.out (by omega) _⟩
/-- the bounds of the numbers -/
def bndB (h : Hd) : Bool := decide (0 ≤ h.mode ∧ 0 ≤ h.size ∧ 0 ≤ h.major ∧ 0 ≤ h.minor ∧ 0 ≤ h.uid ∧ h.uid ≤ 2147483647 ∧ 0 ≤ h.gid ∧ h.gid ≤ 2147483647 ∧ -1099511627776 ≤ h.mtime ∧ h.mtime ≤ 1099511627776)
def pOk (h : Hd) (k : Nat) : Bool := decide ((Plain.put (vAt h k) (wAt k)).2 = 0)
theorem goodH_eq2 (h : Hd) : goodH h = true ↔ part1 h = true ∧ bndB h = true ∧ ∀ k, k < 7 → pOk h k = true := by
  have f1 := fitB_iff h.link 100
  have f2 := fitB_iff h.user 32
  have f3 := fitB_iff h.group 32
  have e100 : ((100 : Nat) : Int) = 100 := rfl
  have e32 : ((32 : Nat) : Int) = 32 := rfl
  rw [e100] at f1; rw [e32] at f2 f3
  unfold goodH part1 bndB
  simp only [Bool.and_eq_true, decide_eq_true_eq]
  rw [f1, f2, f3]
  have hk : (∀ k, k < 7 → pOk h k = true) ↔ (pOk h 0 = true ∧ pOk h 1 = true ∧ pOk h 2 = true ∧ pOk h 3 = true ∧ pOk h 4 = true ∧ pOk h 5 = true ∧ pOk h 6 = true) := by
    constructor
    · intro a
      exact ⟨a 0 (by decide), a 1 (by decide), a 2 (by decide), a 3 (by decide), a 4 (by decide), a 5 (by decide), a 6 (by decide)⟩
    · rintro ⟨a0, a1, a2, a3, a4, a5, a6⟩ k hk
      rcases (by omega : k = 0 ∨ k = 1 ∨ k = 2 ∨ k = 3 ∨ k = 4 ∨ k = 5 ∨ k = 6) with rfl | rfl | rfl | rfl | rfl | rfl | rfl
      · exact a0
      · exact a1
      · exact a2
      · exact a3
      · exact a4
      · exact a5
      · exact a6
  rw [hk]
  have k0 : pOk h 0 = decide ((Plain.put h.mode 8).2 = 0) := rfl
  have k1 : pOk h 1 = decide ((Plain.put h.uid 8).2 = 0) := rfl
  have k2 : pOk h 2 = decide ((Plain.put h.gid 8).2 = 0) := rfl
  have k3 : pOk h 3 = decide ((Plain.put h.size 12).2 = 0) := rfl
  have k4 : pOk h 4 = decide ((Plain.put h.mtime 12).2 = 0) := rfl
  have k5 : pOk h 5 = decide ((Plain.put h.major 8).2 = 0) := rfl
  have k6 : pOk h 6 = decide ((Plain.put h.minor 8).2 = 0) := rfl
  rw [k0, k1, k2, k3, k4, k5, k6]
  simp only [decide_eq_true_eq]
  constructor
  · rintro ⟨⟨⟨g1, g2, g3, g4, g5, g6, g7, g8⟩, m⟩, p⟩
    exact ⟨⟨g1, ⟨g2, g5⟩, ⟨g3, g6⟩, ⟨g4, g7⟩, g8⟩, m, p⟩
  · rintro ⟨⟨g1, ⟨g2, g5⟩, ⟨g3, g6⟩, ⟨g4, g7⟩, g8⟩, m, p⟩
    exact ⟨⟨⟨g1, g2, g3, g4, g5, g6, g7, g8⟩, m⟩, p⟩
/-- the numbers that have been laid over the texts -/
def mTo (h : Hd) (b : List UInt8) : Nat → List UInt8
  | 0 => b
  | k + 1 => lay (mTo h b k) (fieldAt k).1 (Plain.put (vAt h k) (wAt k)).1
def baseB (h : Hd) : List UInt8 :=
  lay (lay (lay (lay (lay (lay (lay zblk 0 (Plain.split h.name).2.1) 157 h.link) 257 magicU) 265 h.user) 297 h.group) 345 (Plain.split h.name).1) 156 [h.ty]
theorem pOk_len (h : Hd) (hi : HdIn h) (k : Nat) (hk : k < 7) (ho : pOk h k = true) : (Plain.put (vAt h k) (wAt k)).1.length = (fieldAt k).2.1 - (fieldAt k).1 := by
  have hb := fieldAt_bd k hk
  unfold pOk at ho
  rw [decide_eq_true_eq] at ho
  refine put_len (vAt h k) (wAt k) (vAt_in h hi k) ho _ ?_
  unfold wAt; omega
theorem mTo_len (h : Hd) (hi : HdIn h) (b : List UInt8) (hb : b.length = 512) : ∀ k, k ≤ 7 → (∀ j, j < k → pOk h j = true) → (mTo h b k).length = 512
  | 0, _, _ => hb
  | k + 1, hk, ho => by
    have ih := mTo_len h hi b hb k (by omega) (fun j hj => ho j (by omega))
    have hbd := fieldAt_bd k (by omega)
    have hl := pOk_len h hi k (by omega) (ho k (by omega))
    show (lay (mTo h b k) (fieldAt k).1 _).length = 512
    rw [lay_len _ _ _ (by rw [ih, hl]; omega), ih]
theorem mAll_eq (h : Hd) (hi : HdIn h) (hg : goodH h = true) : mTo h (baseB h) 7 = blkOf h := by
  have ho := ((goodH_eq2 h).1 hg).2.2
  obtain ⟨q1, q2, q3, q4, q5⟩ := parts_len h hg
  have l0 := pOk_len h hi 0 (by decide) (ho 0 (by decide))
  have l1 := pOk_len h hi 1 (by decide) (ho 1 (by decide))
  have l2 := pOk_len h hi 2 (by decide) (ho 2 (by decide))
  have l3 := pOk_len h hi 3 (by decide) (ho 3 (by decide))
  have l4 := pOk_len h hi 4 (by decide) (ho 4 (by decide))
  have l5 := pOk_len h hi 5 (by decide) (ho 5 (by decide))
  have l6 := pOk_len h hi 6 (by decide) (ho 6 (by decide))
  exact chain_ref (Plain.split h.name).2.1 (Plain.put (vAt h 0) (wAt 0)).1 (Plain.put (vAt h 1) (wAt 1)).1 (Plain.put (vAt h 2) (wAt 2)).1 (Plain.put (vAt h 3) (wAt 3)).1 (Plain.put (vAt h 4) (wAt 4)).1 (Plain.put (vAt h 5) (wAt 5)).1 (Plain.put (vAt h 6) (wAt 6)).1 h.link h.user h.group (Plain.split h.name).1 h.ty q1
    (Nat.le_of_eq l0) (Nat.le_of_eq l1) (Nat.le_of_eq l2) (Nat.le_of_eq l3) (Nat.le_of_eq l4) (Nat.le_of_eq l5) (Nat.le_of_eq l6) q2 q3 q4 q5
/-- the header, the result's variable -/
structure RM (w : World) (h : Hd) (wr : World) : Prop where
  bel : Below w.heap.size w wr
  rx : wr.heap[w.heap.size]? = some (.cells (hdC h) 51 (0, 0))
  rr : wr.heap[w.heap.size + 1]? = some (.cells (rowA zblk) 72 (0, 0))
theorem RM.new (w : World) (h : Hd) : RM w h ((w.alloc (.cells (hdC h) 51)).alloc (.cells (rowA zblk) 72)) :=
  ⟨((Below.refl _ _).alloc (Nat.le_refl _) _).alloc (by simp) _, heap_alloc2_old _ _ _, heap_alloc2_new _ _ _⟩
theorem RM.keep {w wr w' : World} {h : Hd} (x : RM w h wr) (k : Below wr.heap.size wr w') : RM w h w' :=
  ⟨Below.seq x.bel k, by rw [k.block _ (Array.getElem?_eq_some_iff.1 x.rx).1]; exact x.rx, by rw [k.block _ (Array.getElem?_eq_some_iff.1 x.rr).1]; exact x.rr⟩
theorem RM.lt {w wr : World} {h : Hd} (x : RM w h wr) : w.heap.size + 1 < wr.heap.size := (Array.getElem?_eq_some_iff.1 x.rr).1
theorem RM.xcell {w wr : World} {h : Hd} (x : RM w h wr) (k : Nat) : wr.cell? ⟨w.heap.size, k, none⟩ = (hdC h)[k]? := by rw [cell_of_row _ _ _ _ _ _ x.rx]
/-- and the block -/
structure RB (w : World) (h : Hd) (gb : Nat) (m : List UInt8) (wr : World) : Prop where
  rm : RM w h wr
  ge : w.heap.size + 1 < gb
  rb : wr.heap[gb]? = some (.cells (rowA m) 72 (0, 0))
theorem RB.keep {w wr w' : World} {h : Hd} {gb : Nat} {m : List UInt8} (x : RB w h gb m wr) (k : Below wr.heap.size wr w') : RB w h gb m w' :=
  ⟨x.rm.keep k, x.ge, by rw [k.block _ (Array.getElem?_eq_some_iff.1 x.rb).1]; exact x.rb⟩
theorem RB.row {w wr : World} {h : Hd} {gb : Nat} {m : List UInt8} (x : RB w h gb m wr) (z : List UInt8) : RB w h gb z (wr.setRow gb (rowA z)) := by
  have := x.ge
  exact ⟨⟨Below.setRow x.rm.bel (by omega) _, by rw [setRow_other _ _ _ _ (by omega)]; exact x.rm.rx, by rw [setRow_other _ _ _ _ (by omega)]; exact x.rm.rr⟩, x.ge, setRow_heap _ _ _ _ _ _ x.rb⟩
theorem RB.set {w wr : World} {h : Hd} {gb : Nat} {m : List UInt8} (x : RB w h gb m wr) (k : Nat) (b : UInt8) : RB w h gb (m.set k b) (wr.setCell ⟨gb, k, none⟩ (.int .u8 (b.toNat : Int))) := by
  have := x.ge
  refine ⟨⟨x.rm.bel.setCell (show w.heap.size ≤ (⟨gb, k, none⟩ : Addr).block by simp only; omega) _, by rw [heap_setCell_other _ _ _ _ (by simp only; omega)]; exact x.rm.rx, by rw [heap_setCell_other _ _ _ _ (by simp only; omega)]; exact x.rm.rr⟩, x.ge, ?_⟩
  rw [heap_setCell_same _ _ _ _ _ _ x.rb, show (Value.int .u8 (b.toNat : Int)) = u8v b from rfl, rowA_set]
theorem RB.lt {w wr : World} {h : Hd} {gb : Nat} {m : List UInt8} (x : RB w h gb m wr) : gb < wr.heap.size := (Array.getElem?_eq_some_iff.1 x.rb).1
/-- a row of numbers -/
structure VAt (g : Nat) (vs : List Int) (wr : World) : Prop where
  row : wr.heap[g]? = some (.cells (vC vs) 85 (0, 0))
theorem VAt.keep {g : Nat} {vs : List Int} {wr w' : World} (x : VAt g vs wr) (k : Below wr.heap.size wr w') : VAt g vs w' := ⟨by rw [k.block _ (Array.getElem?_eq_some_iff.1 x.row).1]; exact x.row⟩
theorem VAt.setRow {g : Nat} {vs : List Int} {wr : World} (x : VAt g vs wr) {b : Nat} (hne : g ≠ b) (cs : Array Value) : VAt g vs (wr.setRow b cs) := ⟨by rw [setRow_other _ _ _ _ hne]; exact x.row⟩
theorem VAt.cell {g : Nat} {vs : List Int} {wr : World} (x : VAt g vs wr) (k : Nat) (hk : k < vs.length) : wr.cell? ⟨g, k, none⟩ = some (.int .i64 (vs.getD k 0)) := by rw [cell_of_row _ _ _ _ _ _ x.row, vC_at _ _ hk]
def fromV : List Int := [100, 108, 116, 124, 136, 329, 337]
def wideV : List Int := [8, 8, 8, 12, 12, 8, 8]
theorem fromV_at (k : Nat) (hk : k < 7) : fromV.getD k 0 = ((fieldAt k).1 : Int) := by
  rcases (by omega : k = 0 ∨ k = 1 ∨ k = 2 ∨ k = 3 ∨ k = 4 ∨ k = 5 ∨ k = 6) with rfl | rfl | rfl | rfl | rfl | rfl | rfl <;> rfl
theorem wideV_at (k : Nat) (hk : k < 7) : wideV.getD k 0 = wAt k := by
  rcases (by omega : k = 0 ∨ k = 1 ∨ k = 2 ∨ k = 3 ∨ k = 4 ∨ k = 5 ∨ k = 6) with rfl | rfl | rfl | rfl | rfl | rfl | rfl <;> rfl
theorem run_bs_str {P : Program} {w : World} {src dst e : TypeId} (hs : P.underlying src = some (.slice e)) (he : P.underlying e = some (.int .u8)) (hd : P.underlying dst = some .string)
    {ao : Option Addr} {n c : Nat} {l : List UInt8} (hb : Bs w ao n c l) : (convert src dst (.slice ao n c)).run P w = .ok (.string ⟨l.toArray⟩) w := by
  cases ao with
  | none =>
    obtain ⟨rfl, rfl⟩ := hb.2.2.2.2 rfl
    have : l = [] := List.eq_nil_of_length_eq_zero hb.len
    subst this
    exact run_convert_bytes_nil w src e hs he 0 0 dst hd
  | some ad =>
    obtain rfl := hb.len
    exact run_convert_bytes_back w src dst e ad c l hs he hd (fun j hj => by
      obtain ⟨x, hx, hc⟩ := hb.2.2.2.1 j (u8v l[j]) (by simp [List.getElem?_eq_getElem hj])
      cases hx
      exact hc)
theorem parts_len1 (h : Hd) (hg : part1 h = true) : (Plain.split h.name).2.1.length ≤ 100 ∧ h.link.length ≤ 100 ∧ h.user.length ≤ 32 ∧ h.group.length ≤ 32 ∧ (Plain.split h.name).1.length ≤ 155 := by
  have f1 := fitB_iff h.link 100
  have f2 := fitB_iff h.user 32
  have f3 := fitB_iff h.group 32
  have e100 : ((100 : Nat) : Int) = 100 := rfl
  have e32 : ((32 : Nat) : Int) = 32 := rfl
  rw [e100] at f1; rw [e32] at f2 f3
  unfold part1 at hg
  simp only [Bool.and_eq_true, decide_eq_true_eq] at hg
  rw [f1, f2, f3] at hg
  obtain ⟨g1, ⟨g2, _⟩, ⟨g3, _⟩, ⟨g4, _⟩, _⟩ := hg
  rcases Plain.split_cases h.name with ⟨p, s, hps, w1, w2, w3, _⟩ | ⟨h1, _⟩
  · rw [hps]; exact ⟨w2, g2, g3, g4, w3⟩
  · rw [h1] at g1; cases g1
theorem setCells_row {w : World} {g : Nat} {l z : List UInt8} {t : TypeId} (hg : w.heap[g]? = some (.cells (rowA l) t (0, 0))) (hl : z.length = l.length) : w.setCells g 0 (z.map u8v) = w.setRow g (rowA z) := by
  have hlen : (z.map u8v).length = l.length := by rw [List.length_map, hl]
  have h1 := run_storeCells_cells (P := Tryz.prog) g 0 (z.map u8v) 0 w (fun j hj => by rw [cell_of_row _ _ _ _ _ _ hg, rowA_at _ _ (by omega)]; rfl) (fun j _ => frozen_of_row _ _ _ _ _ hg) (bytes_oneCell z)
  have h2 := run_storeCells_at (P := Tryz.prog) g 0 t (z.map u8v) 0 (rowA l) w hg (by rw [rowA_size]; omega) (bytes_oneCell z)
  rw [h1] at h2
  have e : ((rowA l).toList.take (0 + 0) ++ z.map u8v ++ (rowA l).toList.drop (0 + 0 + (z.map u8v).length)).toArray = rowA z := by
    rw [hlen]
    simp [rowA, List.drop_of_length_le]
  rw [e] at h2
  simpa using h2
theorem blkOf_len2 (h : Hd) (hi : HdIn h) (hg : goodH h = true) : (blkOf h).length = 512 := by
  obtain ⟨q1, q2, q3, q4, q5⟩ := parts_len h hg
  have l0 := bTo_len h hi 7 (by decide) ((goodH_eq h hi).1 hg).2
  rw [← bAll_eq h hi hg]
  unfold bAll
  have l1 : (lay (bTo h 7) 0 (Plain.split h.name).2.1).length = 512 := by rw [lay_len _ _ _ (by omega), l0]
  have l2 : (lay (lay (bTo h 7) 0 (Plain.split h.name).2.1) 156 [h.ty]).length = 512 := by rw [lay_len _ _ _ (by rw [l1]; simp), l1]
  have l3 : (lay (lay (lay (bTo h 7) 0 (Plain.split h.name).2.1) 156 [h.ty]) 157 h.link).length = 512 := by rw [lay_len _ _ _ (by omega), l2]
  have l4 : (lay (lay (lay (lay (bTo h 7) 0 (Plain.split h.name).2.1) 156 [h.ty]) 157 h.link) 257 magicU).length = 512 := by rw [lay_len _ _ _ (by rw [l3]; decide), l3]
  have l5 : (lay (lay (lay (lay (lay (bTo h 7) 0 (Plain.split h.name).2.1) 156 [h.ty]) 157 h.link) 257 magicU) 265 h.user).length = 512 := by rw [lay_len _ _ _ (by omega), l4]
  have l6 : (lay (lay (lay (lay (lay (lay (bTo h 7) 0 (Plain.split h.name).2.1) 156 [h.ty]) 157 h.link) 257 magicU) 265 h.user) 297 h.group).length = 512 := by rw [lay_len _ _ _ (by omega), l5]
  rw [lay_len _ _ _ (by omega), l6]
set_option maxRecDepth 100000 in
set_option maxHeartbeats 20000000 in
theorem RefMake_any (h : Hd) (hi : HdIn h) (hz : HdSz h) (w : World) :
    Calls Tryz.prog 54 #[.agg (hdC h)] w fun e w' => e = .returned (.tuple #[.agg (rowA (Plain.make h).1), .int .i64 (Plain.make h).2]) ∧ Below w.heap.size w w' := by
  generalize hrr : Plain.make h = r
  have HRES := Lib.hid hrr
  have HSP := Lib.hid (fun w => RefSplit_any h.name w hz.name)
  have HNL := Lib.hid (fun w => Nul_any h.link w hz.link)
  have HNU := Lib.hid (fun w => Nul_any h.user w hz.user)
  have HNG := Lib.hid (fun w => Nul_any h.group w hz.group)
  have HGD := Lib.hid (goodH_eq2 h); have HPL := Lib.hid (parts_len1 h)
  have HML := Lib.hid (mTo_len h hi); have HMA := Lib.hid (mAll_eq h hi); have HVI := Lib.hid (vAt_in h hi); have HPK := Lib.hid (pOk_len h hi)
  have HBO := Lib.hid (blkOf_len2 h hi)
  have hp1 : part1 h = (decide ((Plain.split h.name).2.2 = 0) && ((decide ((h.link.length : Int) ≤ 100) && decide (Lib.indexByte h.link 0 < 0)) && ((decide ((h.user.length : Int) ≤ 32) && decide (Lib.indexByte h.user 0 < 0)) && ((decide ((h.group.length : Int) ≤ 32) && decide (Lib.indexByte h.group 0 < 0)) && decide (h.ty ≠ 0))))) := rfl
  have HH := Lib.hid (RM.new w h)
  have HI := Lib.hid (sizeBlk zblk zblk_len); have HO := Lib.hid (rowA_one zblk); have HZ := Lib.hid zeroBlk
  unfold splitV at HSP
  clear hrr hi hz
  go_enter Tryz.func54, Tryz.ntmps54
  go_upto_region 1 with (first
    | (with_reducible refine wpList_box_agg rfl _ _ rfl (hdC h) rfl ?_)
    | (with_reducible refine wpList_alloc_z rfl _ rfl (rowA zblk) HZ.out ?_))
  have hR := HH.out
  generalize (w.alloc (.cells (hdC h) 51)).alloc (.cells (rowA zblk) 72) = wa at *
  have HR := Lib.hid hR
  clear hR HH
  have hx0 : wa.cell? ⟨w.heap.size, 0, none⟩ = some (.string ⟨h.name.toArray⟩) := HR.out.xcell 0
  go_upto_region 2 with (go_at_call 37; (with_reducible refine (HSP.out _).mono ?_); rintro e w1 ⟨rfl, hb1⟩; have HR1 := Lib.hid (HR.out.keep hb1); clear hb1)
  clear hx0 HR HSP
  generalize hC : (Plain.split h.name).2.2 = c at *
  generalize hL : Lib.indexByte h.link 0 = il at *
  generalize hU : Lib.indexByte h.user 0 = iu at *
  generalize hG : Lib.indexByte h.group 0 = ig at *
  have HP1 := Lib.hid hp1
  generalize hP : part1 h = P1 at *
  have hx1 : w1.cell? ⟨w.heap.size, 1, none⟩ = some (.string ⟨h.link.toArray⟩) := HR1.out.xcell 1
  have hx8 : w1.cell? ⟨w.heap.size, 8, none⟩ = some (.string ⟨h.user.toArray⟩) := HR1.out.xcell 8
  have hx9 : w1.cell? ⟨w.heap.size, 9, none⟩ = some (.string ⟨h.group.toArray⟩) := HR1.out.xcell 9
  have hx7 : w1.cell? ⟨w.heap.size, 7, none⟩ = some (.int .u8 (h.ty.toNat : Int)) := HR1.out.xcell 7
  clear hC hL hU hG hp1 hP
  go_cut [60] (fun s wy => s = .bool (!P1) ∧ Hid (wy = w1))
  case first =>
    as_aux_lemma =>
      generalize h.ty = TY at *
      generalize h.link = sl at *
      generalize h.user = su at *
      generalize h.group = sg at *
      by_cases c0 : c = 0
      · skip
        have t_c : (c != 0) = false := bne_f c0
        by_cases a1 : (sl.length : Int) ≤ 100
        · skip
          have t_a1 : ¬ (100 : Int) < (sl.length : Int) := by omega
          by_cases a2 : (su.length : Int) ≤ 32
          · skip
            have t_a2 : ¬ (32 : Int) < (su.length : Int) := by omega
            by_cases a3 : (sg.length : Int) ≤ 32
            · skip
              have t_a3 : ¬ (32 : Int) < (sg.length : Int) := by omega
              by_cases b1 : il < 0
              · skip
                have t_b1 : decide (0 ≤ il) = false := dec_f (by omega)
                rw [t_b1] at HNL
                clear t_b1
                by_cases b2 : iu < 0
                · skip
                  have t_b2 : decide (0 ≤ iu) = false := dec_f (by omega)
                  rw [t_b2] at HNU
                  clear t_b2
                  by_cases b3 : ig < 0
                  · skip
                    have t_b3 : decide (0 ≤ ig) = false := dec_f (by omega)
                    rw [t_b3] at HNG
                    clear t_b3
                    by_cases y0 : TY ≠ 0
                    · skip
                      have t_y : ((TY.toNat : Int) == 0) = false := by rw [beq_eq_false_iff_ne]; intro h; exact y0 (UInt8.toNat_inj.1 (by simpa using (by omega : TY.toNat = 0)))
                      have e : P1 = true := by rw [HP1.out]; simp [c0, a1, a2, a3, b1, b2, b3, y0]
                      clear c0 y0
                      subst e
                      clear HP1
                      go_wp2_with (go_at_call 52; first | ((with_reducible refine (HNL.out _).mono ?_); rintro e w2 ⟨rfl, hw2⟩; obtain rfl := hw2) | ((with_reducible refine (HNU.out _).mono ?_); rintro e w2 ⟨rfl, hw2⟩; obtain rfl := hw2) | ((with_reducible refine (HNG.out _).mono ?_); rintro e w2 ⟨rfl, hw2⟩; obtain rfl := hw2))
                      go_meet
                      exact ⟨rfl, Lib.hid rfl⟩
                    · skip
                      have t_y : ((TY.toNat : Int) == 0) = true := by rw [Classical.not_not.1 y0]; rfl
                      have e : P1 = false := by rw [HP1.out]; simp [y0]
                      clear c0 y0
                      subst e
                      clear HP1
                      go_wp2_with (go_at_call 52; first | ((with_reducible refine (HNL.out _).mono ?_); rintro e w2 ⟨rfl, hw2⟩; obtain rfl := hw2) | ((with_reducible refine (HNU.out _).mono ?_); rintro e w2 ⟨rfl, hw2⟩; obtain rfl := hw2) | ((with_reducible refine (HNG.out _).mono ?_); rintro e w2 ⟨rfl, hw2⟩; obtain rfl := hw2))
                      go_meet
                      exact ⟨rfl, Lib.hid rfl⟩
                  · skip
                    have e : P1 = false := by rw [HP1.out]; simp [b3]
                    have t_b3 : decide (0 ≤ ig) = true := dec_t (by omega)
                    rw [t_b3] at HNG
                    clear t_b3
                    clear c0
                    subst e
                    clear HP1
                    go_wp2_with (go_at_call 52; first | ((with_reducible refine (HNL.out _).mono ?_); rintro e w2 ⟨rfl, hw2⟩; obtain rfl := hw2) | ((with_reducible refine (HNU.out _).mono ?_); rintro e w2 ⟨rfl, hw2⟩; obtain rfl := hw2) | ((with_reducible refine (HNG.out _).mono ?_); rintro e w2 ⟨rfl, hw2⟩; obtain rfl := hw2))
                    go_meet
                    exact ⟨rfl, Lib.hid rfl⟩
                · skip
                  have e : P1 = false := by rw [HP1.out]; simp [b2]
                  have t_b2 : decide (0 ≤ iu) = true := dec_t (by omega)
                  rw [t_b2] at HNU
                  clear t_b2
                  clear c0
                  subst e
                  clear HP1
                  go_wp2_with (go_at_call 52; first | ((with_reducible refine (HNL.out _).mono ?_); rintro e w2 ⟨rfl, hw2⟩; obtain rfl := hw2) | ((with_reducible refine (HNU.out _).mono ?_); rintro e w2 ⟨rfl, hw2⟩; obtain rfl := hw2) | ((with_reducible refine (HNG.out _).mono ?_); rintro e w2 ⟨rfl, hw2⟩; obtain rfl := hw2))
                  go_meet
                  exact ⟨rfl, Lib.hid rfl⟩
              · skip
                have e : P1 = false := by rw [HP1.out]; simp [b1]
                have t_b1 : decide (0 ≤ il) = true := dec_t (by omega)
                rw [t_b1] at HNL
                clear t_b1
                clear c0
                subst e
                clear HP1
                go_wp2_with (go_at_call 52; first | ((with_reducible refine (HNL.out _).mono ?_); rintro e w2 ⟨rfl, hw2⟩; obtain rfl := hw2) | ((with_reducible refine (HNU.out _).mono ?_); rintro e w2 ⟨rfl, hw2⟩; obtain rfl := hw2) | ((with_reducible refine (HNG.out _).mono ?_); rintro e w2 ⟨rfl, hw2⟩; obtain rfl := hw2))
                go_meet
                exact ⟨rfl, Lib.hid rfl⟩
            · skip
              have t_a3 : (32 : Int) < (sg.length : Int) := by omega
              have e : P1 = false := by rw [HP1.out]; simp [a3]
              clear c0
              subst e
              clear HP1
              go_wp2_with (go_at_call 52; first | ((with_reducible refine (HNL.out _).mono ?_); rintro e w2 ⟨rfl, hw2⟩; obtain rfl := hw2) | ((with_reducible refine (HNU.out _).mono ?_); rintro e w2 ⟨rfl, hw2⟩; obtain rfl := hw2) | ((with_reducible refine (HNG.out _).mono ?_); rintro e w2 ⟨rfl, hw2⟩; obtain rfl := hw2))
              go_meet
              exact ⟨rfl, Lib.hid rfl⟩
          · skip
            have t_a2 : (32 : Int) < (su.length : Int) := by omega
            have e : P1 = false := by rw [HP1.out]; simp [a2]
            clear c0
            subst e
            clear HP1
            go_wp2_with (go_at_call 52; first | ((with_reducible refine (HNL.out _).mono ?_); rintro e w2 ⟨rfl, hw2⟩; obtain rfl := hw2) | ((with_reducible refine (HNU.out _).mono ?_); rintro e w2 ⟨rfl, hw2⟩; obtain rfl := hw2) | ((with_reducible refine (HNG.out _).mono ?_); rintro e w2 ⟨rfl, hw2⟩; obtain rfl := hw2))
            go_meet
            exact ⟨rfl, Lib.hid rfl⟩
        · skip
          have t_a1 : (100 : Int) < (sl.length : Int) := by omega
          have e : P1 = false := by rw [HP1.out]; simp [a1]
          clear c0
          subst e
          clear HP1
          go_wp2_with (go_at_call 52; first | ((with_reducible refine (HNL.out _).mono ?_); rintro e w2 ⟨rfl, hw2⟩; obtain rfl := hw2) | ((with_reducible refine (HNU.out _).mono ?_); rintro e w2 ⟨rfl, hw2⟩; obtain rfl := hw2) | ((with_reducible refine (HNG.out _).mono ?_); rintro e w2 ⟨rfl, hw2⟩; obtain rfl := hw2))
          go_meet
          exact ⟨rfl, Lib.hid rfl⟩
      · skip
        have t_c : (c != 0) = true := bne_t c0
        have e : P1 = false := by rw [HP1.out]; simp [c0]
        clear c0
        subst e
        clear HP1
        go_wp2_with (go_at_call 52; first | ((with_reducible refine (HNL.out _).mono ?_); rintro e w2 ⟨rfl, hw2⟩; obtain rfl := hw2) | ((with_reducible refine (HNU.out _).mono ?_); rintro e w2 ⟨rfl, hw2⟩; obtain rfl := hw2) | ((with_reducible refine (HNG.out _).mono ?_); rintro e w2 ⟨rfl, hw2⟩; obtain rfl := hw2))
        go_meet
        exact ⟨rfl, Lib.hid rfl⟩
  case rest =>
    obtain ⟨rfl, hwc⟩ := hcut
    obtain rfl := hwc.out
    clear hx1 hx8 hx9 hx7 HNL HNU HNG HP1
    go_upto_if 60 with fail
    cases P1 with
    | false =>
      as_aux_lemma =>
        have hg : goodH h = false := by
          cases hg : goodH h with
          | false => rfl
          | true => have := (HGD.out.1 hg).1; simp at this
        have hr : r = (zblk, 43) := by rw [← HRES.out]; exact make_bad h hg
        have HRR := Lib.hid hr
        clear hr hg HRES HGD HPL HML HMA HVI HPK HBO
        go_wp2_with (first
          | (with_reducible refine wpList_build_z rfl _ rfl _ buildBlk ?_)
          | (with_reducible refine wpList_store_row rfl 72 _ _ rfl (w.heap.size + 1) rfl (rowA zblk) rfl (rowA zblk) 72 HR1.out.rr rfl HI.out HO.out ?_))
        exact bodyPost_ret (results_cell_tmp rfl _ _ (w.heap.size + 1) 72 (rowA zblk) (0, 0) _ _ rfl rfl (setRow_heap _ _ _ _ _ _ HR1.out.rr) Tryz.underlying72 rfl HI.out) rfl ⟨by rw [HRR.out]; rfl, Below.setRow HR1.out.bel (by omega) _⟩
    | true =>
      have hx2 : wc.cell? ⟨w.heap.size, 2, none⟩ = some (.int .i64 h.mode) := HR1.out.xcell 2
      have hx3 : wc.cell? ⟨w.heap.size, 3, none⟩ = some (.int .i64 h.uid) := HR1.out.xcell 3
      have hx4 : wc.cell? ⟨w.heap.size, 4, none⟩ = some (.int .i64 h.gid) := HR1.out.xcell 4
      have hx5 : wc.cell? ⟨w.heap.size, 5, none⟩ = some (.int .i64 h.size) := HR1.out.xcell 5
      have hx6 : wc.cell? ⟨w.heap.size, 6, none⟩ = some (.int .i64 h.mtime) := HR1.out.xcell 6
      have hx10 : wc.cell? ⟨w.heap.size, 10, none⟩ = some (.int .i64 h.major) := HR1.out.xcell 10
      have hx11 : wc.cell? ⟨w.heap.size, 11, none⟩ = some (.int .i64 h.minor) := HR1.out.xcell 11
      have hbn : bndB h = decide (0 ≤ h.mode ∧ 0 ≤ h.size ∧ 0 ≤ h.major ∧ 0 ≤ h.minor ∧ 0 ≤ h.uid ∧ h.uid ≤ 2147483647 ∧ 0 ≤ h.gid ∧ h.gid ≤ 2147483647 ∧ -1099511627776 ≤ h.mtime ∧ h.mtime ≤ 1099511627776) := rfl
      have HBN := Lib.hid hbn
      generalize bndB h = BN at *
      clear hbn
      go_upto_region 4 with fail
      go_cut [109] (fun s wy => s = .bool (!BN) ∧ Hid (wy = wc))
      case first =>
        as_aux_lemma =>
          generalize h.mode = mo at *
          generalize h.uid = ui at *
          generalize h.gid = gi at *
          generalize h.size = si at *
          generalize h.mtime = mt at *
          generalize h.major = ma at *
          generalize h.minor = mi at *
          by_cases n0 : mo < (0 : Int)
          · have e : BN = false := by rw [HBN.out]; exact dec_f (by omega)
            subst e
            clear HBN
            go_wp2
            go_meet
            exact ⟨rfl, Lib.hid rfl⟩
          · skip
            by_cases n1 : si < (0 : Int)
            · have e : BN = false := by rw [HBN.out]; exact dec_f (by omega)
              subst e
              clear HBN
              go_wp2
              go_meet
              exact ⟨rfl, Lib.hid rfl⟩
            · skip
              by_cases n2 : ma < (0 : Int)
              · have e : BN = false := by rw [HBN.out]; exact dec_f (by omega)
                subst e
                clear HBN
                go_wp2
                go_meet
                exact ⟨rfl, Lib.hid rfl⟩
              · skip
                by_cases n3 : mi < (0 : Int)
                · have e : BN = false := by rw [HBN.out]; exact dec_f (by omega)
                  subst e
                  clear HBN
                  go_wp2
                  go_meet
                  exact ⟨rfl, Lib.hid rfl⟩
                · skip
                  by_cases n4 : ui < (0 : Int)
                  · have e : BN = false := by rw [HBN.out]; exact dec_f (by omega)
                    subst e
                    clear HBN
                    go_wp2
                    go_meet
                    exact ⟨rfl, Lib.hid rfl⟩
                  · skip
                    by_cases n5 : (2147483647 : Int) < ui
                    · have e : BN = false := by rw [HBN.out]; exact dec_f (by omega)
                      subst e
                      clear HBN
                      go_wp2
                      go_meet
                      exact ⟨rfl, Lib.hid rfl⟩
                    · skip
                      by_cases n6 : gi < (0 : Int)
                      · have e : BN = false := by rw [HBN.out]; exact dec_f (by omega)
                        subst e
                        clear HBN
                        go_wp2
                        go_meet
                        exact ⟨rfl, Lib.hid rfl⟩
                      · skip
                        by_cases n7 : (2147483647 : Int) < gi
                        · have e : BN = false := by rw [HBN.out]; exact dec_f (by omega)
                          subst e
                          clear HBN
                          go_wp2
                          go_meet
                          exact ⟨rfl, Lib.hid rfl⟩
                        · skip
                          by_cases n8 : mt < (-1099511627776 : Int)
                          · have e : BN = false := by rw [HBN.out]; exact dec_f (by omega)
                            subst e
                            clear HBN
                            go_wp2
                            go_meet
                            exact ⟨rfl, Lib.hid rfl⟩
                          · skip
                            by_cases n9 : (1099511627776 : Int) < mt
                            · have e : BN = false := by rw [HBN.out]; exact dec_f (by omega)
                              subst e
                              clear HBN
                              go_wp2
                              go_meet
                              exact ⟨rfl, Lib.hid rfl⟩
                            · skip
                              have e : BN = true := by rw [HBN.out]; exact dec_t (by omega)
                              subst e
                              clear HBN
                              go_wp2
                              go_meet
                              exact ⟨rfl, Lib.hid rfl⟩
      case rest =>
        obtain ⟨rfl, hwc⟩ := hcut
        obtain rfl := hwc.out
        clear hx2 hx3 hx4 hx5 hx6 hx10 hx11 HBN
        go_upto_if 109 with fail
        cases BN with
        | false =>
          as_aux_lemma =>
            have hg : goodH h = false := by
              cases hg : goodH h with
              | false => rfl
              | true => have := (HGD.out.1 hg).2.1; simp at this
            have hr : r = (zblk, 43) := by rw [← HRES.out]; exact make_bad h hg
            have HRR := Lib.hid hr
            clear hr hg HRES HGD HPL HML HMA HVI HPK HBO
            go_wp2_with (first
              | (with_reducible refine wpList_build_z rfl _ rfl _ buildBlk ?_)
              | (with_reducible refine wpList_store_row rfl 72 _ _ rfl (w.heap.size + 1) rfl (rowA zblk) rfl (rowA zblk) 72 HR1.out.rr rfl HI.out HO.out ?_))
            exact bodyPost_ret (results_cell_tmp rfl _ _ (w.heap.size + 1) 72 (rowA zblk) (0, 0) _ _ rfl rfl (setRow_heap _ _ _ _ _ _ HR1.out.rr) Tryz.underlying72 rfl HI.out) rfl ⟨by rw [HRR.out]; rfl, Below.setRow HR1.out.bel (by omega) _⟩
        | true =>
          have hpt := HPL.out (by first | trivial | rfl)
          obtain ⟨q1, q2, q3, q4, q5⟩ := hpt
          have hbase : baseB h = lay (lay (lay (lay (lay (lay (lay zblk 0 (Plain.split h.name).2.1) 157 h.link) 257 magicU) 265 h.user) 297 h.group) 345 (Plain.split h.name).1) 156 [h.ty] := rfl
          generalize baseB h = BB at *
          generalize (Plain.split h.name).2.1 = ps at *
          generalize (Plain.split h.name).1 = pp at *
          obtain ⟨M1, hM1⟩ : ∃ M, M = lay zblk 0 ps := ⟨_, rfl⟩
          obtain ⟨M2, hM2⟩ : ∃ M, M = lay M1 157 h.link := ⟨_, rfl⟩
          obtain ⟨M3, hM3⟩ : ∃ M, M = lay M2 257 magicU := ⟨_, rfl⟩
          obtain ⟨M4, hM4⟩ : ∃ M, M = lay M3 265 h.user := ⟨_, rfl⟩
          obtain ⟨M5, hM5⟩ : ∃ M, M = lay M4 297 h.group := ⟨_, rfl⟩
          obtain ⟨M6, hM6⟩ : ∃ M, M = lay M5 345 pp := ⟨_, rfl⟩
          rw [← hM1, ← hM2, ← hM3, ← hM4, ← hM5, ← hM6] at hbase
          have l1 : M1.length = 512 := by rw [hM1, lay_len _ _ _ (by rw [zblk_len]; omega), zblk_len]
          have l2 : M2.length = 512 := by rw [hM2, lay_len _ _ _ (by omega), l1]
          have l3 : M3.length = 512 := by rw [hM3, lay_len _ _ _ (by rw [l2]; decide), l2]
          have l4 : M4.length = 512 := by rw [hM4, lay_len _ _ _ (by omega), l3]
          have l5 : M5.length = 512 := by rw [hM5, lay_len _ _ _ (by omega), l4]
          have l6 : M6.length = 512 := by rw [hM6, lay_len _ _ _ (by omega), l5]
          have l7 : BB.length = 512 := by rw [hbase, lay_len _ _ _ (by rw [l6]; simp), l6]
          have hset : M6.set 156 h.ty = BB := by rw [hbase, lay_one _ _ _ (by rw [l6]; decide)]
          have LY1 := Lib.hid (fun w => Lay_any zblk zblk_len 0 0 rfl ps (by omega) w)
          have LY2 := Lib.hid (fun w => Lay_any M1 l1 157 157 rfl h.link (by omega) w)
          have LY3 : Hid (∀ w, Calls Tryz.prog 68 #[.agg (rowA M2), .int .i64 257, .string ⟨#[117, 115, 116, 97, 114, 0, 48, 48]⟩] w fun e w' => e = .returned (.agg (rowA M3)) ∧ Below w.heap.size w w') := Lib.hid (by rw [hM3]; exact fun w => Lay_any M2 l2 257 257 rfl magicU (by decide) w)
          have LY4 := Lib.hid (fun w => Lay_any M3 l3 265 265 rfl h.user (by omega) w)
          have LY5 := Lib.hid (fun w => Lay_any M4 l4 297 297 rfl h.group (by omega) w)
          have LY6 := Lib.hid (fun w => Lay_any M5 l5 345 345 rfl pp (by omega) w)
          rw [← hM1] at LY1; rw [← hM2] at LY2; rw [← hM4] at LY4; rw [← hM5] at LY5; rw [← hM6] at LY6
          have I1 := Lib.hid (sizeBlk M1 l1); have I2 := Lib.hid (sizeBlk M2 l2); have I3 := Lib.hid (sizeBlk M3 l3); have I4 := Lib.hid (sizeBlk M4 l4); have I5 := Lib.hid (sizeBlk M5 l5); have I6 := Lib.hid (sizeBlk M6 l6)
          have O1 := Lib.hid (rowA_one M1); have O2 := Lib.hid (rowA_one M2); have O3 := Lib.hid (rowA_one M3); have O4 := Lib.hid (rowA_one M4); have O5 := Lib.hid (rowA_one M5); have O6 := Lib.hid (rowA_one M6)
          have S1 : Hid ((rowA zblk).size = (rowA M1).size) := by show _ = _; rw [rowA_size, rowA_size, zblk_len, l1]
          have S2 : Hid ((rowA M1).size = (rowA M2).size) := by show _ = _; rw [rowA_size, rowA_size, l1, l2]
          have S3 : Hid ((rowA M2).size = (rowA M3).size) := by show _ = _; rw [rowA_size, rowA_size, l2, l3]
          have S4 : Hid ((rowA M3).size = (rowA M4).size) := by show _ = _; rw [rowA_size, rowA_size, l3, l4]
          have S5 : Hid ((rowA M4).size = (rowA M5).size) := by show _ = _; rw [rowA_size, rowA_size, l4, l5]
          have S6 : Hid ((rowA M5).size = (rowA M6).size) := by show _ = _; rw [rowA_size, rowA_size, l5, l6]
          have L6 := Lib.hid l6; have L7 := Lib.hid l7; have HSET := Lib.hid hset
          clear hbase hM1 hM2 hM3 hM4 hM5 hM6 l1 l2 l3 l4 l5 l6 l7 hset q1 q2 q3 q4 q5 HPL
          go_upto_region 7 with (first
            | (with_reducible refine wpList_build_z rfl _ rfl _ buildBlk ?_)
            | (with_reducible refine wpList_alloc_z rfl _ rfl (rowA zblk) HZ.out ?_)
            | (with_reducible refine wpList_store_new rfl _ _ _ rfl _ rfl (rowA zblk) rfl rfl rfl HI.out HO.out ?_))
          have hx_ : RB w h wc.heap.size zblk (wc.alloc (.cells (rowA zblk) 72)) := ⟨HR1.out.keep ((Below.refl _ _).alloc (Nat.le_refl _) _), HR1.out.lt, heap_alloc_new wc _⟩
          have X0 := Lib.hid hx_
          clear hx_ HR1
          generalize wc.alloc (.cells (rowA zblk) 72) = v0 at *
          generalize wc.heap.size = gb at *
          go_upto_region 8 with (first
            | (with_reducible refine wpList_load_row rfl _ _ rfl gb rfl 72 (rowA zblk) (0, 0) _ X0.out.rb Tryz.underlying72 rfl HI.out ?_)
            | (go_at_call 68; (with_reducible refine (LY1.out _).mono ?_); rintro e wq1 ⟨rfl, hbq⟩; have K1 := Lib.hid (X0.out.keep hbq); clear hbq)
            | (with_reducible refine wpList_store_row rfl 72 _ _ rfl gb rfl (rowA M1) rfl (rowA zblk) 72 K1.out.rb S1.out I1.out O1.out ?_))
          have X1 := Lib.hid (K1.out.row M1)
          generalize wq1.setRow gb (rowA M1) = v1 at *
          clear X0 K1 LY1
          have hx1 : v1.cell? ⟨w.heap.size, 1, none⟩ = some (.string ⟨h.link.toArray⟩) := X1.out.rm.xcell 1
          go_upto_region 9 with (first
            | (with_reducible refine wpList_load_row rfl _ _ rfl gb rfl 72 (rowA M1) (0, 0) _ X1.out.rb Tryz.underlying72 rfl I1.out ?_)
            | (go_at_call 68; (with_reducible refine (LY2.out _).mono ?_); rintro e wq2 ⟨rfl, hbq⟩; have K2 := Lib.hid (X1.out.keep hbq); clear hbq)
            | (with_reducible refine wpList_store_row rfl 72 _ _ rfl gb rfl (rowA M2) rfl (rowA M1) 72 K2.out.rb S2.out I2.out O2.out ?_))
          have X2 := Lib.hid (K2.out.row M2)
          generalize wq2.setRow gb (rowA M2) = v2 at *
          clear X1 K2 LY2
          clear hx1
          go_upto_region 10 with (first
            | (with_reducible refine wpList_load_row rfl _ _ rfl gb rfl 72 (rowA M2) (0, 0) _ X2.out.rb Tryz.underlying72 rfl I2.out ?_)
            | (go_at_call 68; (with_reducible refine (LY3.out _).mono ?_); rintro e wq3 ⟨rfl, hbq⟩; have K3 := Lib.hid (X2.out.keep hbq); clear hbq)
            | (with_reducible refine wpList_store_row rfl 72 _ _ rfl gb rfl (rowA M3) rfl (rowA M2) 72 K3.out.rb S3.out I3.out O3.out ?_))
          have X3 := Lib.hid (K3.out.row M3)
          generalize wq3.setRow gb (rowA M3) = v3 at *
          clear X2 K3 LY3
          have hx8 : v3.cell? ⟨w.heap.size, 8, none⟩ = some (.string ⟨h.user.toArray⟩) := X3.out.rm.xcell 8
          go_upto_region 11 with (first
            | (with_reducible refine wpList_load_row rfl _ _ rfl gb rfl 72 (rowA M3) (0, 0) _ X3.out.rb Tryz.underlying72 rfl I3.out ?_)
            | (go_at_call 68; (with_reducible refine (LY4.out _).mono ?_); rintro e wq4 ⟨rfl, hbq⟩; have K4 := Lib.hid (X3.out.keep hbq); clear hbq)
            | (with_reducible refine wpList_store_row rfl 72 _ _ rfl gb rfl (rowA M4) rfl (rowA M3) 72 K4.out.rb S4.out I4.out O4.out ?_))
          have X4 := Lib.hid (K4.out.row M4)
          generalize wq4.setRow gb (rowA M4) = v4 at *
          clear X3 K4 LY4
          clear hx8
          have hx9 : v4.cell? ⟨w.heap.size, 9, none⟩ = some (.string ⟨h.group.toArray⟩) := X4.out.rm.xcell 9
          go_upto_region 12 with (first
            | (with_reducible refine wpList_load_row rfl _ _ rfl gb rfl 72 (rowA M4) (0, 0) _ X4.out.rb Tryz.underlying72 rfl I4.out ?_)
            | (go_at_call 68; (with_reducible refine (LY5.out _).mono ?_); rintro e wq5 ⟨rfl, hbq⟩; have K5 := Lib.hid (X4.out.keep hbq); clear hbq)
            | (with_reducible refine wpList_store_row rfl 72 _ _ rfl gb rfl (rowA M5) rfl (rowA M4) 72 K5.out.rb S5.out I5.out O5.out ?_))
          have X5 := Lib.hid (K5.out.row M5)
          generalize wq5.setRow gb (rowA M5) = v5 at *
          clear X4 K5 LY5
          clear hx9
          go_upto_region 13 with (first
            | (with_reducible refine wpList_load_row rfl _ _ rfl gb rfl 72 (rowA M5) (0, 0) _ X5.out.rb Tryz.underlying72 rfl I5.out ?_)
            | (go_at_call 68; (with_reducible refine (LY6.out _).mono ?_); rintro e wq6 ⟨rfl, hbq⟩; have K6 := Lib.hid (X5.out.keep hbq); clear hbq)
            | (with_reducible refine wpList_store_row rfl 72 _ _ rfl gb rfl (rowA M6) rfl (rowA M5) 72 K6.out.rb S6.out I6.out O6.out ?_))
          have X6 := Lib.hid (K6.out.row M6)
          generalize wq6.setRow gb (rowA M6) = v6 at *
          clear X5 K6 LY6
          have hx7 : v6.cell? ⟨w.heap.size, 7, none⟩ = some (.int .u8 (h.ty.toNat : Int)) := X6.out.rm.xcell 7
          have hxb : v6.cell? ⟨gb, 156, none⟩ = some (.int .u8 ((M6.getD 156 0).toNat : Int)) := by rw [cell_of_row _ _ _ _ _ _ X6.out.rb, rowA_at _ _ (by rw [L6.out]; decide)]
          have hfb : v6.frozen? ⟨gb, 156, none⟩ = false := frozen_of_row _ _ _ _ _ X6.out.rb
          have hX7 := X6.out.set 156 h.ty
          rw [HSET.out] at hX7
          have X7 := Lib.hid hX7
          clear hX7 I1 I2 I3 I4 I5 I6 O1 O2 O3 O4 O5 O6 S1 S2 S3 S4 S5 S6
          go_upto_region 14 with fail
          generalize v6.setCell ⟨gb, 156, none⟩ (.int .u8 (h.ty.toNat : Int)) = v7 at *
          clear hx7 hxb hfb X6 HSET L6
          have A8 : Hid (VAt v7.heap.size fromV (v7.alloc (.cells #[.int .i64 100, .int .i64 108, .int .i64 116, .int .i64 124, .int .i64 136, .int .i64 329, .int .i64 337] 85))) := Lib.hid ⟨heap_alloc_new v7 _⟩
          have X8 := Lib.hid (X7.out.keep ((Below.refl _ _).alloc (Nat.le_refl _) (.cells #[.int .i64 100, .int .i64 108, .int .i64 116, .int .i64 124, .int .i64 136, .int .i64 329, .int .i64 337] 85)))
          have hn8 := X7.out.lt
          go_upto_region 15 with fail
          generalize v7.alloc (.cells #[.int .i64 100, .int .i64 108, .int .i64 116, .int .i64 124, .int .i64 136, .int .i64 329, .int .i64 337] 85) = v8 at *
          generalize v7.heap.size = g8 at *
          have A9 : Hid (VAt v8.heap.size wideV (v8.alloc (.cells #[.int .i64 8, .int .i64 8, .int .i64 8, .int .i64 12, .int .i64 12, .int .i64 8, .int .i64 8] 85))) := Lib.hid ⟨heap_alloc_new v8 _⟩
          have X9 := Lib.hid (X8.out.keep ((Below.refl _ _).alloc (Nat.le_refl _) (.cells #[.int .i64 8, .int .i64 8, .int .i64 8, .int .i64 12, .int .i64 12, .int .i64 8, .int .i64 8] 85)))
          have B8 := Lib.hid (A8.out.keep ((Below.refl _ _).alloc (Nat.le_refl _) (.cells #[.int .i64 8, .int .i64 8, .int .i64 8, .int .i64 12, .int .i64 12, .int .i64 8, .int .i64 8] 85)))
          have hn9 := X8.out.lt
          go_upto_region 16 with fail
          generalize v8.alloc (.cells #[.int .i64 8, .int .i64 8, .int .i64 8, .int .i64 12, .int .i64 12, .int .i64 8, .int .i64 8] 85) = v9 at *
          generalize v8.heap.size = g9 at *
          clear A8 X7 X8
          have hx2 : v9.cell? ⟨w.heap.size, 2, none⟩ = some (.int .i64 h.mode) := X9.out.rm.xcell 2
          have hx3 : v9.cell? ⟨w.heap.size, 3, none⟩ = some (.int .i64 h.uid) := X9.out.rm.xcell 3
          have hx4 : v9.cell? ⟨w.heap.size, 4, none⟩ = some (.int .i64 h.gid) := X9.out.rm.xcell 4
          have hx5 : v9.cell? ⟨w.heap.size, 5, none⟩ = some (.int .i64 h.size) := X9.out.rm.xcell 5
          have hx6 : v9.cell? ⟨w.heap.size, 6, none⟩ = some (.int .i64 h.mtime) := X9.out.rm.xcell 6
          have hx10 : v9.cell? ⟨w.heap.size, 10, none⟩ = some (.int .i64 h.major) := X9.out.rm.xcell 10
          have hx11 : v9.cell? ⟨w.heap.size, 11, none⟩ = some (.int .i64 h.minor) := X9.out.rm.xcell 11
          have A10 : Hid (VAt v9.heap.size (vsOf h) (v9.alloc (.cells #[.int .i64 h.mode, .int .i64 h.uid, .int .i64 h.gid, .int .i64 h.size, .int .i64 h.mtime, .int .i64 h.major, .int .i64 h.minor] 85))) := Lib.hid ⟨heap_alloc_new v9 _⟩
          have X10 := Lib.hid (X9.out.keep ((Below.refl _ _).alloc (Nat.le_refl _) (.cells #[.int .i64 h.mode, .int .i64 h.uid, .int .i64 h.gid, .int .i64 h.size, .int .i64 h.mtime, .int .i64 h.major, .int .i64 h.minor] 85)))
          have C8 := Lib.hid (B8.out.keep ((Below.refl _ _).alloc (Nat.le_refl _) (.cells #[.int .i64 h.mode, .int .i64 h.uid, .int .i64 h.gid, .int .i64 h.size, .int .i64 h.mtime, .int .i64 h.major, .int .i64 h.minor] 85)))
          have B9 := Lib.hid (A9.out.keep ((Below.refl _ _).alloc (Nat.le_refl _) (.cells #[.int .i64 h.mode, .int .i64 h.uid, .int .i64 h.gid, .int .i64 h.size, .int .i64 h.mtime, .int .i64 h.major, .int .i64 h.minor] 85)))
          have hn10 := X9.out.lt
          go_upto_region 17 with fail
          generalize v9.alloc (.cells #[.int .i64 h.mode, .int .i64 h.uid, .int .i64 h.gid, .int .i64 h.size, .int .i64 h.mtime, .int .i64 h.major, .int .i64 h.minor] 85) = v10 at *
          generalize v9.heap.size = g10 at *
          clear hx2 hx3 hx4 hx5 hx6 hx10 hx11 B8 A9 X9
          have hvat := vsOf_at h
          have hvl : (vsOf h).length = 7 := rfl
          have hfa := fromV_at
          have hfl : fromV.length = 7 := rfl
          have hwa := wideV_at
          have hwl : wideV.length = 7 := rfl
          generalize vsOf h = VS at *
          generalize fromV = FV at *
          generalize wideV = WV at *
          have HVA := Lib.hid hvat; have HVL := Lib.hid hvl; have HFA := Lib.hid hfa; have HFL := Lib.hid hfl; have HWA := Lib.hid hwa; have HWL := Lib.hid hwl
          have N8 := Lib.hid hn8; have N9 := Lib.hid hn9; have N10 := Lib.hid hn10
          clear hvat hvl hfa hfl hwa hwl hn8 hn9 hn10
          go_wp2_with fail
          go_loopw [11] (fun i wr => ∃ k : Nat, k ≤ 7 ∧ i = .int .i64 k ∧ Hid (∀ j, j < k → pOk h j = true) ∧ Hid (RB w h gb (mTo h BB k) wr) ∧ Hid (VAt g8 FV wr) ∧ Hid (VAt g9 WV wr) ∧ Hid (VAt g10 VS wr)) (fun i _ => 7 - (intOf i).toNat)
          case atStart => exact ⟨0, by decide, rfl, Lib.hid (fun j hj => absurd hj (Nat.not_lt_zero j)), X10, C8, B9, A10⟩
          case round =>
            clear X10 C8 B9 A10
            obtain ⟨k, hk, rfl, hok, hX, h8, h9, h10⟩ := hrel
            by_cases hlt : k < 7
            · have hki : (k : Int) < 7 := by omega
              have hk0 : (0 : Int) ≤ (k : Int) := by omega
              have hml := HML.out BB L7.out k (by omega) hok.out
              have hvi := (inI64_iff (vAt h k)).1 (HVI.out k)
              have hc10 := HVA.out k hlt
              have hc9 := HWA.out k hlt
              have hc8 := HFA.out k hlt
              have hfd := fieldAt_bd k hlt
              have hfo : pOk h k = decide ((Plain.put (vAt h k) (wAt k)).2 = 0) := rfl
              have hfl := HPK.out k hlt
              have hnx : mTo h BB (k + 1) = lay (mTo h BB k) (fieldAt k).1 (Plain.put (vAt h k) (wAt k)).1 := rfl
              have hwk : wAt k = ((fieldAt k).2.1 : Int) - ((fieldAt k).1 : Int) := rfl
              have hng : pOk h k = false → goodH h = false := fun hp => by
                cases hg : goodH h with
                | false => rfl
                | true => have := (HGD.out.1 hg).2.2 k hlt; rw [hp] at this; cases this
              generalize hfk : pOk h k = FK at *
              generalize hmn : mTo h BB (k + 1) = MN at *
              generalize mTo h BB k = M at *
              generalize vAt h k = v at *
              generalize wAt k = N at *
              generalize fieldAt k = f at *
              obtain ⟨s, e, lo, hi⟩ := f
              simp only at hfd hfl hnx hwk hc8
              have HPUT := Lib.hid (fun w => RefPut_any v N w hvi.1 (by omega) (by omega) (by omega))
              generalize Plain.put v N = q at *
              obtain ⟨t, code⟩ := q
              simp only at hfo hfl hnx
              obtain ⟨hse, he5, hs5⟩ := hfd
              have HML2 := Lib.hid hml; have HFO := Lib.hid hfo; have HFL2 := Lib.hid hfl; have HNX := Lib.hid hnx; have HNG := Lib.hid hng; have HKF := Lib.hid hfk; have HMN := Lib.hid hmn
              have hcv : wr.cell? ⟨g10, k, none⟩ = some (.int .i64 v) := by rw [h10.out.cell k (by rw [HVL.out]; exact hlt), hc10]
              have hcn : wr.cell? ⟨g9, k, none⟩ = some (.int .i64 N) := by rw [h9.out.cell k (by rw [HWL.out]; exact hlt), hc9]
              have hcs : wr.cell? ⟨g8, k, none⟩ = some (.int .i64 (s : Int)) := by rw [h8.out.cell k (by rw [HFL.out]; exact hlt), hc8]
              have HD := Lib.hid (And.intro hcv hcn)
              have HCS := Lib.hid hcs
              clear hml hfo hfl hnx hng hfk hmn hcv hcn hcs hc8 hc9 hc10 hwk HVI HML HPK HVA HWA HFA
              go_upto_region 20 with fail
              go_region_held3 (fun w' => w'.cell? ⟨g10, k, none⟩ = some (.int .i64 v) ∧ w'.cell? ⟨g9, k, none⟩ = some (.int .i64 N)) (first | exact HD.out | exact HD7.out) (first
                | (go_at_call 69; (with_reducible refine (HPUT.out _).mono ?_); rintro e7 w7 ⟨a7, n7, c7, rfl, hs7, hb7⟩; have hd7 := Below.seq ((Below.refl wr.heap.size wr).drew) hb7; have HX7 := Lib.hid (hX.out.keep hd7); have H87 := Lib.hid (h8.out.keep hd7); have H97 := Lib.hid (h9.out.keep hd7); have H107 := Lib.hid (h10.out.keep hd7); have HS7 := Lib.hid hs7; have HD7 := Lib.hid (And.intro (Below.keeps hd7 _ _ HD.out.1) (Below.keeps hd7 _ _ HD.out.2)); have HC7 := Lib.hid (Below.keeps hd7 _ _ HCS.out); clear hs7 hb7 hd7))
              clear HPUT HD HCS hX h8 h9 h10 HD7
              by_cases hc0 : code = 0
              · have hfk : FK = true := by rw [HFO.out]; exact dec_t hc0
                have hl := HFL2.out hfk
                have hok2 : ∀ j, j < k + 1 → pOk h j = true := fun j hj => by
                  by_cases ej : j = k
                  · subst ej; rw [HKF.out]; exact hfk
                  · exact hok.out j (by omega)
                have HOK2 := Lib.hid hok2
                have d1 : (code != 0) = false := bne_f hc0
                have hm512 := HML2.out
                have hst : s + t.length ≤ 512 := by omega
                have hmn512 : MN.length = 512 := by rw [HNX.out, lay_len _ _ _ (by omega), hm512]
                have HLAY : Hid (∀ w, Calls Tryz.prog 68 #[.agg (rowA M), .int .i64 (s : Int), .string ⟨t.toArray⟩] w fun e w' => e = .returned (.agg (rowA MN)) ∧ Below w.heap.size w w') := Lib.hid (by rw [HNX.out]; exact fun w => Lay_any M hm512 (s : Int) s rfl t hst w)
                have HL2 := Lib.hid hm512; have HLN := Lib.hid hmn512
                clear hok2 hfk hl hc0 HFO HFL2 hm512 hst hmn512 HNG
                go_upto_region 23 with fail
                have hrg : w7.rangeAt gb 0 (M.map u8v) := fun j u hj => by rw [Nat.zero_add, cell_of_row _ _ _ _ _ _ HX7.out.rb]; simpa [rowA] using hj
                have hth : w7.there gb 0 512 := fun j hj => by rw [Nat.zero_add, cell_of_row _ _ _ _ _ _ HX7.out.rb, rowA_at _ _ (by rw [HL2.out]; exact hj)]; exact ⟨rfl, frozen_of_row _ _ _ _ _ HX7.out.rb⟩
                have hcs7 := HC7.out
                have hcvv : (convert 25 9 (.slice a7 n7 c7)).run Tryz.prog w7.drew = .ok (.string ⟨t.toArray⟩) w7.drew := run_bs_str Tryz.underlying25 Tryz.underlying5 Tryz.underlying9 ((Keeps.drew w7).bs HS7.out)
                have hu23 := Tryz.underlying72
                have hi23 : (Tryz.prog.info? 72).map (·.size) = some (M.map u8v).length := by rw [List.length_map, HL2.out]; kernel_rfl
                have hi24 : (Tryz.prog.info? 72).map (·.size) = some (MN.map u8v).length := by rw [List.length_map, HLN.out]; kernel_rfl
                have hoc := bytes_oneCell MN
                have hsl : (MN.map u8v).length = 512 := by rw [List.length_map, HLN.out]
                have hrgd : w7.drew.rangeAt gb 0 (M.map u8v) := hrg
                have hn8 := N8.out
                have hk8 : ∀ (wz : World) (vs : List Value), wz.cell? ⟨g8, k, none⟩ = some (.int .i64 (s : Int)) → (wz.setCells gb 0 vs).cell? ⟨g8, k, none⟩ = some (.int .i64 (s : Int)) := fun wz vs hq => by rw [World.cell?_setCells_out gb vs 0 wz ⟨g8, k, none⟩ (fun hb _ => absurd hb (by simp only; omega))]; exact hq
                clear hrg hth
                refine wp_region_held_drew (S := fun w' => w'.cell? ⟨g8, k, none⟩ = some (.int .i64 (s : Int))) (by kernel_rfl) hcs7 (fun hHeld => ?_)
                refine wpAnyH_take (i := 1) (oi := { dst := some 170, op := Op.move (Operand.tmp 11), type := 3, pos := "ref.go:139", after := #[], guard := none }) (v := (.int .i64 (k : Int))) rfl (by kernel_rfl) (by kernel_rfl) (by kernel_rfl) (fun _ _ _ h => h) (Or.inl ⟨by rfl, ?_⟩) (by assumption) ?_
                · intro wz hSw
                  (try dsimp only at hSw)
                  go_simp
                (try simp only [Act.put, List.setIfInBounds_toArray, List.set_cons_zero, List.set_cons_succ, List.toList_toArray])
                refine wpAnyH_take (i := 2) (oi := { dst := some 171, op := Op.indexAddr 85 (Operand.tmp 8) (Operand.tmp 170), type := 0, pos := "ref.go:139", after := #[{ on := 1, ground := Ground.data }], guard := none }) (v := (.pointer (some ⟨g8, k, none⟩))) rfl (by kernel_rfl) (by kernel_rfl) (by kernel_rfl) (fun _ _ _ h => h) (Or.inl ⟨by rfl, ?_⟩) (by assumption) ?_
                · intro wz hSw
                  (try dsimp only at hSw)
                  go_simp
                (try simp only [Act.put, List.setIfInBounds_toArray, List.set_cons_zero, List.set_cons_succ, List.toList_toArray])
                refine wpAnyH_take (i := 3) (oi := { dst := some 172, op := Op.load 3 (Operand.tmp 171), type := 3, pos := "ref.go:139", after := #[{ on := 2, ground := Ground.data }], guard := none }) (v := (.int .i64 (s : Int))) rfl (by kernel_rfl) (by kernel_rfl) (by kernel_rfl) (fun _ _ _ h => h) (Or.inl ⟨by rfl, ?_⟩) (by assumption) ?_
                · intro wz hSw
                  (try dsimp only at hSw)
                  go_simp
                (try simp only [Act.put, List.setIfInBounds_toArray, List.set_cons_zero, List.set_cons_succ, List.toList_toArray])
                refine wpAnyH_take (i := 4) (oi := { dst := some 173, op := Op.move (Operand.tmp 12), type := 25, pos := "ref.go:139", after := #[], guard := none }) (v := (.slice a7 n7 c7)) rfl (by kernel_rfl) (by kernel_rfl) (by kernel_rfl) (fun _ _ _ h => h) (Or.inl ⟨by rfl, ?_⟩) (by assumption) ?_
                · intro wz hSw
                  (try dsimp only at hSw)
                  go_simp
                (try simp only [Act.put, List.setIfInBounds_toArray, List.set_cons_zero, List.set_cons_succ, List.toList_toArray])
                refine wpAnyH_ready (rs := [0, 5]) (by kernel_rfl) (by simp) ?_
                refine AllReadyH.cons (o := { dst := some 169, op := Op.load 72 (Operand.tmp 7), type := 72, pos := "ref.go:139", after := #[], guard := none }) rfl (fun K hK => ?_) ?_
                · skip
                  rw [if_pos (by rfl)]
                  refine wp_load_mid _ _ rfl gb 0 rfl (M.map u8v) _ hrgd hu23 rfl hi23 ?_
                  (try simp only [Act.put, List.setIfInBounds_toArray, List.set_cons_zero, List.set_cons_succ, List.toList_toArray])
                  refine hK.out _ _ hcs7 (fun hH0 => ?_)
                  clear hK K
                  (try simp only [Act.put, List.setIfInBounds_toArray, List.set_cons_zero, List.set_cons_succ, List.toList_toArray])
                  refine wpAnyH_ready (rs := [5]) (by kernel_rfl) (by simp) ?_
                  refine AllReadyH.cons (o := { dst := some 174, op := Op.convert 25 9 (Operand.tmp 173), type := 9, pos := "ref.go:139", after := #[{ on := 4, ground := Ground.data }], guard := none }) rfl (fun K hK => ?_) AllReadyH.nil
                  go_simp
                  refine hK.out _ _ hcs7 (fun hH5 => ?_)
                  clear hK K
                  (try simp only [Act.put, List.setIfInBounds_toArray, List.set_cons_zero, List.set_cons_succ, List.toList_toArray])
                  refine wpAnyH_ready (rs := [6]) (by kernel_rfl) (by simp) ?_
                  refine AllReadyH.cons (o := { dst := some 175, op := Op.call { callee := Callee.value (Operand.func 68), args := #[Operand.tmp 169, Operand.tmp 172, Operand.tmp 174], argTypes := #[72, 3, 9] }, type := 72, pos := "ref.go:139", after := #[{ on := 0, ground := Ground.data }, { on := 3, ground := Ground.data }, { on := 5, ground := Ground.data }], guard := none }) rfl (fun K hK => ?_) AllReadyH.nil
                  go_simp
                  (go_at_call 68; refine (HLAY.out _).mono ?_; rintro e w8 ⟨rfl, hb8⟩)
                  have hd8 := Below.seq ((Below.refl w7.heap.size w7).drew) hb8; have HX8 := Lib.hid (HX7.out.keep hd8); have H88 := Lib.hid (H87.out.keep hd8); have H98 := Lib.hid (H97.out.keep hd8); have H108 := Lib.hid (H107.out.keep hd8); have HD8 := Lib.hid (Below.keeps hd8 _ _ HC7.out)
                  clear hb8 hd8
                  (try go_wp2_with fail)
                  refine hK.out _ _ HD8.out (fun hH6 => ?_)
                  clear hK K
                  (try simp only [Act.put, List.setIfInBounds_toArray, List.set_cons_zero, List.set_cons_succ, List.toList_toArray])
                  refine wpAnyH_ready (rs := [7]) (by kernel_rfl) (by simp) ?_
                  refine AllReadyH.cons (o := { dst := none, op := Op.store 72 (Operand.tmp 7) (Operand.tmp 175), type := 0, pos := "ref.go:139", after := #[{ on := 6, ground := Ground.data }, { on := 6, ground := Ground.chain }, { on := 0, ground := Ground.phase }, { on := 1, ground := Ground.phase }, { on := 2, ground := Ground.phase }, { on := 3, ground := Ground.phase }, { on := 4, ground := Ground.phase }, { on := 5, ground := Ground.phase }, { on := 6, ground := Ground.phase }], guard := none }) rfl (fun K hK => ?_) AllReadyH.nil
                  rw [if_pos (by rfl)]
                  refine wp_store_mid _ _ _ rfl gb 0 (rowA MN) rfl rfl (fun j hj => by rw [Nat.zero_add, cell_of_row _ _ _ _ _ _ HX8.out.rb, rowA_at _ _ (by rw [rowA_size] at hj; rw [HL2.out]; rw [HLN.out] at hj; exact hj)]; exact ⟨rfl, frozen_of_row _ _ _ _ _ HX8.out.rb⟩) (by rw [rowA_size, ← List.length_map (f := u8v)]; exact hi24) (by simpa [rowA] using hoc) ?_
                  have hsr : w8.setCells gb 0 (rowA MN).toList = w8.setRow gb (rowA MN) := by simpa [rowA] using setCells_row HX8.out.rb (by rw [HLN.out, HL2.out])
                  refine hK.out _ _ (hk8 _ _ HD8.out) (fun hH7 => ?_)
                  clear hK K
                  (try simp only [Act.put, List.setIfInBounds_toArray, List.set_cons_zero, List.set_cons_succ, List.toList_toArray])
                  refine wpAnyH_done (by kernel_rfl) ?_ _
                  rw [hsr]
                  clear hsr
                  have X9 := Lib.hid (HX8.out.row MN); have G8 := Lib.hid (H88.out.setRow (Nat.ne_of_gt N8.out) (rowA MN)); have G9 := Lib.hid (H98.out.setRow (Nat.ne_of_gt N9.out) (rowA MN)); have G10 := Lib.hid (H108.out.setRow (Nat.ne_of_gt N10.out) (rowA MN))
                  clear HX8 H88 H98 H108 HD8 HX7 H87 H97 H107 HS7 HC7 hH0 hH5 hH6 hH7 hHeld hcvv hrgd hk8 hcs7 hoc HLAY
                  generalize w8.setRow gb (rowA MN) = w9 at *
                  go_wp2
                  go_round
                  case rel => exact ⟨k + 1, by omega, by go_num, HOK2, by rw [HMN.out]; exact X9, G8, G9, G10⟩
                  case measure => simp [intOf]; omega
                refine AllReadyH.cons (o := { dst := some 174, op := Op.convert 25 9 (Operand.tmp 173), type := 9, pos := "ref.go:139", after := #[{ on := 4, ground := Ground.data }], guard := none }) rfl (fun K hK => ?_) AllReadyH.nil
                go_simp
                refine hK.out _ _ hcs7 (fun hH5 => ?_)
                clear hK K
                (try simp only [Act.put, List.setIfInBounds_toArray, List.set_cons_zero, List.set_cons_succ, List.toList_toArray])
                refine wpAnyH_ready (rs := [0]) (by kernel_rfl) (by simp) ?_
                refine AllReadyH.cons (o := { dst := some 169, op := Op.load 72 (Operand.tmp 7), type := 72, pos := "ref.go:139", after := #[], guard := none }) rfl (fun K hK => ?_) AllReadyH.nil
                rw [if_pos (by rfl)]
                refine wp_load_mid _ _ rfl gb 0 rfl (M.map u8v) _ hrgd hu23 rfl hi23 ?_
                (try simp only [Act.put, List.setIfInBounds_toArray, List.set_cons_zero, List.set_cons_succ, List.toList_toArray])
                refine hK.out _ _ hcs7 (fun hH0 => ?_)
                clear hK K
                (try simp only [Act.put, List.setIfInBounds_toArray, List.set_cons_zero, List.set_cons_succ, List.toList_toArray])
                refine wpAnyH_ready (rs := [6]) (by kernel_rfl) (by simp) ?_
                refine AllReadyH.cons (o := { dst := some 175, op := Op.call { callee := Callee.value (Operand.func 68), args := #[Operand.tmp 169, Operand.tmp 172, Operand.tmp 174], argTypes := #[72, 3, 9] }, type := 72, pos := "ref.go:139", after := #[{ on := 0, ground := Ground.data }, { on := 3, ground := Ground.data }, { on := 5, ground := Ground.data }], guard := none }) rfl (fun K hK => ?_) AllReadyH.nil
                go_simp
                (go_at_call 68; refine (HLAY.out _).mono ?_; rintro e w8 ⟨rfl, hb8⟩)
                have hd8 := Below.seq ((Below.refl w7.heap.size w7).drew) hb8; have HX8 := Lib.hid (HX7.out.keep hd8); have H88 := Lib.hid (H87.out.keep hd8); have H98 := Lib.hid (H97.out.keep hd8); have H108 := Lib.hid (H107.out.keep hd8); have HD8 := Lib.hid (Below.keeps hd8 _ _ HC7.out)
                clear hb8 hd8
                (try go_wp2_with fail)
                refine hK.out _ _ HD8.out (fun hH6 => ?_)
                clear hK K
                (try simp only [Act.put, List.setIfInBounds_toArray, List.set_cons_zero, List.set_cons_succ, List.toList_toArray])
                refine wpAnyH_ready (rs := [7]) (by kernel_rfl) (by simp) ?_
                refine AllReadyH.cons (o := { dst := none, op := Op.store 72 (Operand.tmp 7) (Operand.tmp 175), type := 0, pos := "ref.go:139", after := #[{ on := 6, ground := Ground.data }, { on := 6, ground := Ground.chain }, { on := 0, ground := Ground.phase }, { on := 1, ground := Ground.phase }, { on := 2, ground := Ground.phase }, { on := 3, ground := Ground.phase }, { on := 4, ground := Ground.phase }, { on := 5, ground := Ground.phase }, { on := 6, ground := Ground.phase }], guard := none }) rfl (fun K hK => ?_) AllReadyH.nil
                rw [if_pos (by rfl)]
                refine wp_store_mid _ _ _ rfl gb 0 (rowA MN) rfl rfl (fun j hj => by rw [Nat.zero_add, cell_of_row _ _ _ _ _ _ HX8.out.rb, rowA_at _ _ (by rw [rowA_size] at hj; rw [HL2.out]; rw [HLN.out] at hj; exact hj)]; exact ⟨rfl, frozen_of_row _ _ _ _ _ HX8.out.rb⟩) (by rw [rowA_size, ← List.length_map (f := u8v)]; exact hi24) (by simpa [rowA] using hoc) ?_
                have hsr : w8.setCells gb 0 (rowA MN).toList = w8.setRow gb (rowA MN) := by simpa [rowA] using setCells_row HX8.out.rb (by rw [HLN.out, HL2.out])
                refine hK.out _ _ (hk8 _ _ HD8.out) (fun hH7 => ?_)
                clear hK K
                (try simp only [Act.put, List.setIfInBounds_toArray, List.set_cons_zero, List.set_cons_succ, List.toList_toArray])
                refine wpAnyH_done (by kernel_rfl) ?_ _
                rw [hsr]
                clear hsr
                have X9 := Lib.hid (HX8.out.row MN); have G8 := Lib.hid (H88.out.setRow (Nat.ne_of_gt N8.out) (rowA MN)); have G9 := Lib.hid (H98.out.setRow (Nat.ne_of_gt N9.out) (rowA MN)); have G10 := Lib.hid (H108.out.setRow (Nat.ne_of_gt N10.out) (rowA MN))
                clear HX8 H88 H98 H108 HD8 HX7 H87 H97 H107 HS7 HC7 hH0 hH5 hH6 hH7 hHeld hcvv hrgd hk8 hcs7 hoc HLAY
                generalize w8.setRow gb (rowA MN) = w9 at *
                go_wp2
                go_round
                case rel => exact ⟨k + 1, by omega, by go_num, HOK2, by rw [HMN.out]; exact X9, G8, G9, G10⟩
                case measure => simp [intOf]; omega
              · have hng2 : goodH h = false := HNG.out (by rw [HFO.out]; exact dec_f hc0)
                have hr : r = (zblk, 43) := by rw [← HRES.out]; exact make_bad h hng2
                have HRR := Lib.hid hr
                have d1 : (code != 0) = true := bne_t hc0
                clear hr hng2 hc0 HRES HNG HFO HFL2 HGD HMA
                go_wp2_with (first
                  | (with_reducible refine wpList_build_z rfl _ rfl _ buildBlk ?_)
                  | (with_reducible refine wpList_store_row rfl 72 _ _ rfl (w.heap.size + 1) rfl (rowA zblk) rfl (rowA zblk) 72 HX7.out.rm.rr rfl HI.out HO.out ?_))
                exact bodyPost_ret (results_cell_tmp rfl _ _ (w.heap.size + 1) 72 (rowA zblk) (0, 0) _ _ rfl rfl (setRow_heap _ _ _ _ _ _ HX7.out.rm.rr) Tryz.underlying72 rfl HI.out) rfl ⟨by rw [HRR.out]; rfl, Below.setRow HX7.out.rm.bel (by omega) _⟩
            · obtain rfl : k = 7 := by omega
              have hki : ¬ (7 : Int) < 7 := by omega
              have hgd : goodH h = true := HGD.out.2 ⟨by first | trivial | rfl, by first | trivial | rfl, hok.out⟩
              have hall := HMA.out hgd
              have hr : r = (Plain.seal (blkOf h), 0) := by rw [← HRES.out]; exact make_good h hgd
              have hbl := HBO.out hgd
              have hX2 := hX.out
              rw [hall] at hX2
              have HSEAL := Lib.hid (fun w => RefSeal_any (blkOf h) hbl w)
              have HIS := Lib.hid (sizeBlk (Plain.seal (blkOf h)) (seal_len _ hbl)); have HOS := Lib.hid (rowA_one (Plain.seal (blkOf h)))
              have HSS : Hid ((rowA zblk).size = (rowA (Plain.seal (blkOf h))).size) := by show _ = _; rw [rowA_size, rowA_size, zblk_len, seal_len _ hbl]
              have HIB := Lib.hid (sizeBlk (blkOf h) hbl)
              generalize Plain.seal (blkOf h) = SB at *
              generalize blkOf h = BO at *
              have HX2 := Lib.hid hX2; have HRR := Lib.hid hr
              clear hgd hall hr hbl hX2 hX h8 h9 h10 hok hlt hk HGD HMA HML HPK HVI HVA HWA HFA HRES HBO
              go_wp2_with (first
                | (with_reducible refine wpList_load_row rfl _ _ rfl gb rfl 72 (rowA BO) (0, 0) _ HX2.out.rb Tryz.underlying72 rfl HIB.out ?_)
                | (go_at_call 70; (refine (HSEAL.out wr).mono ?_); rintro e w27 ⟨rfl, hb27⟩; have HX8 := Lib.hid (HX2.out.keep hb27); clear hb27)
                | (with_reducible refine wpList_store_row rfl 72 _ _ rfl (w.heap.size + 1) rfl (rowA SB) rfl (rowA zblk) 72 HX8.out.rm.rr HSS.out HIS.out HOS.out ?_))
              exact bodyPost_ret (results_cell_tmp rfl _ _ (w.heap.size + 1) 72 (rowA SB) (0, 0) _ _ rfl rfl (setRow_heap _ _ _ _ _ _ HX8.out.rm.rr) Tryz.underlying72 rfl HIS.out) rfl ⟨by rw [HRR.out]; rfl, Below.setRow HX8.out.rm.bel (by omega) _⟩
end Go.Proofs.YtamgiffkhnfpmaaGreatDoor
