/-
  J04: BinRef, OctRef, RefOct, Trim2, ParseOct, OctWalk, NumWalk, FmtOct, ApMem, joined.
-/
import Derived.Test.YtjchaogfmnabfaaDoorJ03
import Derived.Test.YtjchaogfmnabfaaDoorJ02
import Derived.Deep.CutBlock
import Derived.Deep.DeepCutAuto
import Derived.Test.YtjchaogfmnabfaaDoorJ01
import Derived.Test.YtjchaogfmnabfaaDoorProg
import Derived.Outline
import Derived.Test.YtjchaogfmnabfaaDoorShelf
import Derived.Lib.AsciiSet
import Derived.Lib.ConvBytes
import Derived.Lib.AtoiAllMem
import Derived.Laws.Strings3
import Derived.Laws.Closers25
import Derived.Laws.Closers25b
import Derived.Laws.BitsAllLaws
import Derived.ArgAppend
import Derived.Deep.MidRow
import Derived.Lib.AppendZeros
namespace Go.Proofs.YtjchaogfmnabfaaDoor
open Go.ChangeShapes Go.WideShapes Go.ChangeAt Go.RowKit
set_option maxRecDepth 100000 in
theorem RefBase256_low (a : Option Addr) (n c : Nat) (l : List UInt8) (w : World) (h : Bs w a n c l) (hlow : l = [] ∨ (l.getD 0 0).toNat < 128) :
    Calls Tryd.prog 83 #[.slice a n c] w fun e w' => e = .returned (decV (Plain.base256 l)) ∧ Below w.heap.size w w' := by
  have hl := h.len; have hcap := h.cap; have hmax := h.max
  rw [Plain.base256_low l hlow]
  by_cases h0 : n = 0
  · subst h0
    go_enter Tryd.func83, Tryd.ntmps83
    go_wp2
    go_ret2
    exact ⟨rfl, Below.refl _ _⟩
  · have hc := h.at 0 (by omega)
    have hg : (l.getD 0 0).toNat < 128 := by
      rcases hlow with h1 | h1
      · subst h1; simp at hl; omega
      · exact h1
    obtain ⟨b, off, rfl, hc⟩ := hc
    rw [Nat.add_zero] at hc
    generalize hG : ((l.getD 0 0).toNat : Int) = G at hc
    have g1 : G < 128 := by omega
    have hn0 : ((n : Int) == 0) = false := by rw [beq_eq_false_iff_ne]; omega
    have hn1 : (0 : Int) < n := by omega
    have hn2 : 0 < n := by omega
    have HL := Lib.hid hl; clear hl hG hlow h0
    go_enter Tryd.func83, Tryd.ntmps83
    go_wp2
    go_ret2
    exact ⟨rfl, Below.refl _ _⟩
set_option maxRecDepth 100000 in
theorem head_bits (c : UInt8) (h : 128 ≤ c.toNat) : bits .or .u8 (bits .and .u8 (c.toNat : Int) 127) (bits .and .u8 ((fillOf c).toNat : Int) 128) = ((headB c).toNat : Int) := by
  have key : ∀ x : Fin 256, 128 ≤ x.1 → ((x.1 &&& 127) ||| ((if 192 ≤ x.1 then 255 else 0) &&& 128)) = (if 192 ≤ x.1 then x.1 else x.1 - 128) := by decide
  have hx := key ⟨c.toNat, c.toNat_lt⟩ h
  simp only at hx
  have hc := c.toNat_lt
  have e1 : bits .and .u8 (c.toNat : Int) 127 = ((c.toNat &&& 127 : Nat) : Int) := u8_and_nat c.toNat 127 hc (by decide)
  have e2 : bits .and .u8 ((fillOf c).toNat : Int) 128 = (((fillOf c).toNat &&& 128 : Nat) : Int) := u8_and_nat (fillOf c).toNat 128 (fillOf c).toNat_lt (by decide)
  have l1 : c.toNat &&& 127 < 256 := Nat.lt_of_le_of_lt Nat.and_le_left hc
  have l2 : (fillOf c).toNat &&& 128 < 256 := Nat.lt_of_le_of_lt Nat.and_le_left (fillOf c).toNat_lt
  rw [e1, e2, u8_or_nat _ _ l1 l2]
  have e3 : (fillOf c).toNat = if 192 ≤ c.toNat then 255 else 0 := by unfold fillOf; split <;> rfl
  have e4 : (headB c).toNat = if 192 ≤ c.toNat then c.toNat else c.toNat - 128 := by
    unfold headB; split
    · rfl
    · rw [UInt8.toNat_ofNat']; omega
  rw [e3, e4, hx]
theorem farFill_step (l : List UInt8) (k : Nat) (h : farFill l k) (hk : k + 8 < l.length → (binRow l).getD (8 + k) 0 = fillOf (l.getD 0 0)) : farFill l (k + 1) := fun j hj hj2 => by
  by_cases e : j = k
  · subst e; exact hk hj2
  · exact h j (by omega) hj2
set_option maxRecDepth 100000 in
theorem and128 (c : UInt8) : bits .and .u8 (c.toNat : Int) 128 = (if 128 ≤ c.toNat then 128 else 0) := by
  have key : ∀ x : Fin 256, (x.1 &&& 128) = (if 128 ≤ x.1 then 128 else 0) := by decide
  have hx := key ⟨c.toNat, c.toNat_lt⟩
  simp only at hx
  have e1 : bits .and .u8 (c.toNat : Int) 128 = ((c.toNat &&& 128 : Nat) : Int) := u8_and_nat c.toNat 128 c.toNat_lt (by decide)
  rw [e1, hx]
  split <;> rfl
/-- what the last eight bytes say, where the others fill up -/
theorem last_res (l : List UInt8) (r : Int × Int) (h1 : 128 ≤ (l.getD 0 0).toNat) (h : 0 < l.length) (hf : farFill l l.length) (hr : Plain.base256 l = r) :
    ((128 ≤ ((lastK l l.length).getD 0 0).toNat ↔ 192 ≤ (l.getD 0 0).toNat) → r = (IntKind.i64.wrap (binAcc 0 (lastK l l.length)), 0)) ∧ (¬ (128 ≤ ((lastK l l.length).getD 0 0).toNat ↔ 192 ≤ (l.getD 0 0).toNat) → r = (0, 11)) := by
  have hv := far_good l h h1 hf
  have hlen := lastK_len l l.length
  rw [← hr, Plain.base256_at l h (by omega), hv]
  generalize lastK l l.length = m at *
  obtain ⟨c, t, rfl⟩ : ∃ c t, m = c :: t := by
    cases m with
    | nil => simp at hlen
    | cons c t => exact ⟨c, t, rfl⟩
  have hg : (c :: t).getD 0 0 = c := rfl
  have htl : t.length = 7 := by simpa using hlen
  have hb := binAcc_bd t
  rw [htl] at hb
  have e7 : (256 : Int) ^ 7 = 72057594037927936 := by rfl
  rw [hg, binAcc_cons, binAcc_pow, htl]
  rw [e7] at hb ⊢
  have hc := u8_lt c
  generalize binAcc 0 t = u at *
  unfold signOf
  constructor
  · intro he
    rw [if_pos]
    · rw [IntKind.wrap_i64]
      by_cases h2 : 192 ≤ (l.getD 0 0).toNat
      · rw [if_pos h2]
        have := he.2 h2
        congr 1; omega
      · rw [if_neg h2]
        have : ¬ 128 ≤ c.toNat := fun h3 => h2 (he.1 h3)
        congr 1; omega
    · rw [inI64_iff]
      by_cases h2 : 192 ≤ (l.getD 0 0).toNat
      · rw [if_pos h2]
        have := he.2 h2
        omega
      · rw [if_neg h2]
        have : ¬ 128 ≤ c.toNat := fun h3 => h2 (he.1 h3)
        omega
  · intro he
    rw [if_neg]
    rw [inI64_iff]
    by_cases h2 : 192 ≤ (l.getD 0 0).toNat
    · rw [if_pos h2]
      have : ¬ 128 ≤ c.toNat := fun h3 => he ⟨fun _ => h2, fun _ => h3⟩
      omega
    · rw [if_neg h2]
      have : 128 ≤ c.toNat := Classical.byContradiction fun h3 => he ⟨fun h4 => absurd h4 h3, fun h4 => absurd h4 h2⟩
      omega
/-- what holds of the world while the last eight bytes are taken -/
structure Lasts (w : World) (l : List UInt8) (k : Nat) (wr : World) : Prop where
  bel : Below w.heap.size w wr
  row : wr.heap[w.heap.size]? = some (.cells (rowA (lastK l k)) 120 (0, 0))
theorem Lasts.far {w wr : World} {l : List UInt8} {k : Nat} (h : Lasts w l k wr) (hk : k + 8 < l.length) : Lasts w l (k + 1) wr := ⟨h.bel, by rw [lastK_far l k hk]; exact h.row⟩
theorem Lasts.near {w wr : World} {l : List UInt8} {k : Nat} (h : Lasts w l k wr) (h8 : l.length ≤ k + 8) (hk : k < l.length) (m : UInt8) (hm : (binRow l).getD (8 + k) 0 = m) (p : Nat) (hp : p = 8 + k - l.length) : Lasts w l (k + 1) (wr.setCell ⟨w.heap.size, p, none⟩ (.int .u8 (m.toNat : Int))) := by
  subst hp
  refine ⟨h.bel.setCell (by simp) _, ?_⟩
  rw [heap_setCell_same _ _ _ _ _ _ h.row, show (Value.int .u8 (m.toNat : Int)) = u8v m from rfl, rowA_set, lastK_near l k h8 hk, hm]
theorem Lasts.cell {w wr : World} {l : List UInt8} {k : Nat} (h : Lasts w l k wr) (p : Nat) (hp : p < 8) : wr.cell? ⟨w.heap.size, p, none⟩ = some (.int .u8 (((lastK l k).getD p 0).toNat : Int)) := by
  rw [cell_of_row _ _ _ _ _ _ h.row, rowA_at _ _ (by rw [lastK_len]; exact hp)]
set_option maxRecDepth 100000 in
set_option maxHeartbeats 3200000 in
theorem RefBase256_high (a : Option Addr) (n c : Nat) (l : List UInt8) (w : World) (h : Bs w a n c l) (hne : 0 < l.length) (hhi : ¬ (l.getD 0 0).toNat < 128) :
    Calls Tryd.prog 83 #[.slice a n c] w fun e w' => e = .returned (decV (Plain.base256 l)) ∧ Below w.heap.size w w' := by
  have hl := h.len; have hcap := h.cap; have hmax := h.max
  obtain ⟨b, off, rfl, hc⟩ := h.at 0 (by omega)
  rw [Nat.add_zero] at hc
  generalize hG : ((l.getD 0 0).toNat : Int) = G at hc
  have g1 : 128 ≤ G := by omega
  have g2 : G < 256 := by have := u8_lt (l.getD 0 0); omega
  have hn0 : ((n : Int) == 0) = false := by rw [beq_eq_false_iff_ne]; omega
  have hn1 : (0 : Int) < n := by omega
  have hn2 : 0 < n := by omega
  have hF : ∃ F : Int, ((fillOf (l.getD 0 0)).toNat : Int) = F ∧ ((bits .and .u8 G 64 != 0) = true ∧ F = 255 ∨ (bits .and .u8 G 64 != 0) = false ∧ F = 0) := by
    refine ⟨_, rfl, ?_⟩
    have e := u8_and G 64 (by omega) g2 (by decide) (by decide)
    have hb : ∀ x : Fin 256, 128 ≤ x.1 → (x.1 &&& 64 = 0 ↔ x.1 < 192) := by decide
    have hx := hb ⟨G.toNat, by omega⟩ (by simp only; omega)
    have e64 : (64 : Int).toNat = 64 := rfl
    rw [e64] at e
    unfold fillOf
    by_cases h192 : 192 ≤ (l.getD 0 0).toNat
    · left
      rw [if_pos h192]
      refine ⟨?_, rfl⟩
      rw [bne_iff_ne, e]
      intro h0
      have := hx.1 (by simp only at *; omega)
      simp only at this
      omega
    · right
      rw [if_neg h192]
      refine ⟨?_, rfl⟩
      rw [bne_eq_false_iff_eq, e, hx.2 (by simp only; omega)]; rfl
  obtain ⟨F, hF1, hF2⟩ := hF
  have hz : Lasts w l 0 (w.alloc (.cells #[.int .u8 F, .int .u8 F, .int .u8 F, .int .u8 F, .int .u8 F, .int .u8 F, .int .u8 F, .int .u8 F] 120)) := by
    refine ⟨(Below.refl _ _).alloc (Nat.le_refl _) _, ?_⟩
    rw [heap_alloc_new, lastK_zero]
    rw [← hF1]; rfl
  generalize hr : Plain.base256 l = r
  have HR := Lib.hid hr; clear hr
  have HZ := Lib.hid hz; have HL := Lib.hid hl; have HG := Lib.hid hG; have HH := Lib.hid h; have HF := Lib.hid hF1
  clear hz hl hG h hF1
  have hF3 : (F = 255 ∨ F = 0) := by rcases hF2 with h | h; exact .inl h.2; exact .inr h.2
  go_enter Tryd.func83, Tryd.ntmps83
  go_upto_if 24 with fail
  go_cut [2, 3, 4] (fun s2 s3 s4 wx => s2 = .int .i64 0 ∧ s3 = .int .i64 0 ∧ s4 = .int .u8 F ∧ w = wx)
  case first =>
    rcases hF2 with ⟨hF2, hF4⟩ | ⟨hF2, hF4⟩
    all_goals
      subst hF4
      go_wp2
      go_meet
      exact ⟨rfl, rfl, rfl, rfl⟩
  case rest =>
    obtain ⟨rfl, rfl, rfl, rfl⟩ := hcut
    have HF3 := Lib.hid hF3
    clear hF2 hF3 hc
    go_wp2
    go_loopw [6] (fun i wr => ∃ k : Nat, k ≤ n ∧ i = .int .i64 k ∧ Lasts w l k wr ∧ Hid (farFill l k)) (fun i _ => n - (intOf i).toNat)
    case atStart => exact ⟨0, by omega, rfl, HZ.out, Lib.hid (fun k hk => absurd hk (Nat.not_lt_zero k))⟩
    case round =>
      obtain ⟨k, hk, rfl, hL, hfar⟩ := hrel
      have hbel := hL.bel
      by_cases hlt : k < n
      · obtain ⟨b1, off1, hb1, hc⟩ := (Below.bs hbel HH.out).at k hlt
        cases hb1
        have hrow := hL.row
        have hbad := farFill_bad l k
        have hM := binRow_at l k
        have hhd := head_bits (l.getD 0 0) (by have := HG.out; omega)
        have hst := farFill_step l k hfar.out
        have hlf := lastK_far l k
        have hln := lastK_near l k
        have hnear := fun (h8 : l.length ≤ k + 8) (p : Nat) (hp : p = 8 + k - l.length) => hL.near h8 (by rw [HL.out]; exact hlt) _ rfl p hp
        have hfarL := fun (h8 : k + 8 < l.length) => hL.far h8
        have hcell := fun (p : Nat) (hp : p < 8) => hL.cell p hp
        have hfz := frozen_of_row wr w.heap.size
        have HROW := Lib.hid hrow
        generalize (binRow l).getD (8 + k) 0 = mb at hbad hM hst hnear
        have hX : (k = 0 ∧ bits .or .u8 (bits .and .u8 ((l.getD k 0).toNat : Int) 127) (bits .and .u8 F 128) = (mb.toNat : Int)) ∨ (0 < k ∧ ((l.getD k 0).toNat : Int) = (mb.toNat : Int)) := by
          by_cases h0 : k = 0
          · left
            refine ⟨h0, ?_⟩
            rw [if_pos h0] at hM
            rw [hM, h0, ← HF.out]; exact hhd
          · right
            rw [if_neg h0] at hM
            exact ⟨by omega, by rw [hM]⟩
        generalize ((l.getD k 0).toNat : Int) = X at hc hX
        have hmb : (mb.toNat : Int) = F → mb = fillOf (l.getD 0 0) := fun e => UInt8.toNat_inj.1 (by have := HF.out; omega)
        have hmb2 : (mb.toNat : Int) ≠ F → mb ≠ fillOf (l.getD 0 0) := fun e h => e (by rw [h]; exact HF.out)
        generalize hMv : (mb.toNat : Int) = M at hX hnear hmb hmb2
        have HB := Lib.hid hbad; have HST := Lib.hid hst; have HNR := Lib.hid hnear; have HFL := Lib.hid hfarL; have HMB := Lib.hid hmb; have HMB2 := Lib.hid hmb2; have HC := Lib.hid hcell; have HFZ := Lib.hid hfz
        clear hbad hst hnear hfarL hmb hmb2 hM hhd hlf hln hrow hMv hcell hfz hfar
        have hi : (k : Int) < n := by omega
        by_cases h8 : k + 8 < n
        · have hback : (8 : Int) ≤ (n : Int) - 1 - k := by omega
          by_cases hMF : M = F
          · have q1 : (M != F) = false := by rw [bne_eq_false_iff_eq]; exact hMF
            have HST2 := Lib.hid (HST.out (fun _ => HMB.out hMF))
            clear hMF
            rcases hX with ⟨h0, hX⟩ | ⟨h0, hX⟩
            · have z1 : ((k : Int) == 0) = true := by rw [beq_iff_eq]; omega
              clear h0
              go_wp2
              go_roundw
              case rel => exact ⟨k + 1, by omega, by go_num, HFL.out (by rw [HL.out]; exact h8), HST2⟩
              case measure => simp [intOf]; omega
            · have z1 : ((k : Int) == 0) = false := by rw [beq_eq_false_iff_ne]; omega
              subst hX
              clear h0
              go_wp2
              go_roundw
              case rel => exact ⟨k + 1, by omega, by go_num, HFL.out (by rw [HL.out]; exact h8), HST2⟩
              case measure => simp [intOf]; omega
          · have q1 : (M != F) = true := by rw [bne_iff_ne]; exact hMF
            obtain rfl := HR.out.symm.trans (HB.out (by rw [HL.out]; exact h8) (by have := HG.out; omega) (HMB2.out hMF))
            clear hMF
            rcases hX with ⟨h0, hX⟩ | ⟨h0, hX⟩
            · have z1 : ((k : Int) == 0) = true := by rw [beq_iff_eq]; omega
              clear h0
              go_wp2
              go_ret2
              exact ⟨rfl, hbel⟩
            · have z1 : ((k : Int) == 0) = false := by rw [beq_eq_false_iff_ne]; omega
              subst hX
              clear h0
              go_wp2
              go_ret2
              exact ⟨rfl, hbel⟩
        · have hback : ¬ (8 : Int) ≤ (n : Int) - 1 - k := by omega
          have hback2 : (n : Int) - 1 - k < 8 := by omega
          obtain ⟨p, hp⟩ : ∃ p : Nat, 7 - ((n : Int) - 1 - k) = (p : Int) := ⟨8 + k - n, by omega⟩
          have hpp : p = 8 + k - l.length := by rw [HL.out]; omega
          have hv0 := HC.out p (by omega)
          have hf0 := HFZ.out p _ _ HROW.out
          have hp8 : (p : Int) < 8 := by omega
          have HST2 := Lib.hid (HST.out (fun h => absurd h (by rw [HL.out]; exact h8)))
          have HN2 := Lib.hid (HNR.out (by rw [HL.out]; omega) p hpp)
          have HPP := Lib.hid hpp
          clear hpp
          rcases hX with ⟨h0, hX⟩ | ⟨h0, hX⟩
          · have z1 : ((k : Int) == 0) = true := by rw [beq_iff_eq]; omega
            clear h0
            go_wp2
            go_roundw
            case rel => exact ⟨k + 1, by omega, by go_num, HN2.out, HST2⟩
            case measure => simp [intOf]; omega
          · have z1 : ((k : Int) == 0) = false := by rw [beq_eq_false_iff_ne]; omega
            subst hX
            clear h0
            go_wp2
            go_roundw
            case rel => exact ⟨k + 1, by omega, by go_num, HN2.out, HST2⟩
            case measure => simp [intOf]; omega
      · obtain rfl : n = k := by omega
        have hres := last_res l r (by have := HG.out; omega) (by rw [HL.out]; exact hn2) (by rw [HL.out]; exact hfar.out) HR.out
        have hrow := hL.row
        have hbel := hL.bel
        have hll := lastK_len l n
        rw [HL.out] at hres
        generalize lastK l n = m at hres hrow hll
        have hi : ¬ (n : Int) < n := by omega
        have hc0 : wr.cell? ⟨w.heap.size, 0, none⟩ = some (.int .u8 ((m.getD 0 0).toNat : Int)) := by rw [cell_of_row _ _ _ _ _ _ hrow, rowA_at _ _ (by rw [hll]; decide)]
        have hcs := fun (k : Nat) (hk : k < 8) => (by rw [cell_of_row _ _ _ _ _ _ hrow, rowA_at _ _ (by rw [hll]; exact hk)] : wr.cell? ⟨w.heap.size, k, none⟩ = some (.int .u8 ((m.getD k 0).toNat : Int)))
        have hand : bits .and .u8 ((m.getD 0 0).toNat : Int) 128 = (if 128 ≤ (m.getD 0 0).toNat then 128 else 0) := and128 _
        have hFF : F ≠ 0 ↔ 192 ≤ (l.getD 0 0).toNat := by
          rw [← HF.out]; unfold fillOf
          by_cases h2 : 192 ≤ (l.getD 0 0).toNat
          · rw [if_pos h2]; exact ⟨fun _ => h2, fun _ => by decide⟩
          · rw [if_neg h2]; exact ⟨fun h => absurd rfl h, fun h => absurd h h2⟩
        have hbad : ¬ (128 ≤ (m.getD 0 0).toNat ↔ F ≠ 0) → r = (0, 11) := fun h => hres.2 (fun h2 => h (h2.trans hFF.symm))
        have hgood : (128 ≤ (m.getD 0 0).toNat ↔ F ≠ 0) → r = (IntKind.i64.wrap (binAcc 0 m), 0) := fun h => hres.1 (h.trans hFF)
        generalize hB0 : ((m.getD 0 0).toNat : Int) = B0 at hc0 hand
        have HBAD := Lib.hid hbad; have HGOOD := Lib.hid hgood; have HCS := Lib.hid hcs; have HLL := Lib.hid hll; have HB0 := Lib.hid hB0
        have HAND := Lib.hid hand
        have hf8 := HF3.out
        clear hbad hgood hcs hll hB0 hres hrow hL hfar hand
        clear hFF
        by_cases hmis : (128 ≤ (m.getD 0 0).toNat ↔ F ≠ 0)
        · obtain rfl := HGOOD.out hmis
          have hcase : (bits .and .u8 B0 128 = 128 ∧ F = 255) ∨ (bits .and .u8 B0 128 = 0 ∧ F = 0) := by
            have ha := HAND.out
            by_cases hB : 128 ≤ (m.getD 0 0).toNat
            · rw [if_pos hB] at ha
              refine .inl ⟨ha, ?_⟩
              have := hmis.1 hB
              omega
            · rw [if_neg hB] at ha
              refine .inr ⟨ha, ?_⟩
              have : ¬ F ≠ 0 := fun h => hB (hmis.2 h)
              omega
          clear hmis hf8 HAND HB0
          rcases hcase with ⟨ha, rfl⟩ | ⟨ha, rfl⟩
          all_goals
            go_wp2
            clear ha hc0
            go_loop [9, 10] (fun v i => ∃ (k : Nat) (V : Int), k ≤ 8 ∧ i = .int .i64 k ∧ v = .int .i64 V ∧ -9223372036854775808 ≤ V ∧ V ≤ 9223372036854775807 ∧ Hid (V = IntKind.i64.wrap (binAcc 0 (m.take k)))) (fun _ i => 8 - (intOf i).toNat)
            case atStart => exact ⟨0, 0, by omega, rfl, rfl, by omega, by omega, Lib.hid (by rw [List.take_zero, binAcc_nil]; rfl)⟩
            case round =>
              obtain ⟨k, V, hk8, rfl, rfl, v1, v2, hV⟩ := hrel
              by_cases hk : k < 8
              · have hc := HCS.out k hk
                have hstep := binAcc_step 0 m k (by rw [HLL.out]; exact hk)
                generalize hY : ((m.getD k 0).toNat : Int) = Y at hc hstep
                have y1 : 0 ≤ Y := by omega
                have y2 : Y < 256 := by have := u8_lt (m.getD k 0); omega
                have hVV := hV.out
                obtain ⟨W, hW⟩ : ∃ W, wrap64 (V * 256) = W := ⟨_, rfl⟩
                have hor : bits .or .i64 W Y = IntKind.i64.wrap (binAcc 0 (m.take (k + 1))) := by
                  rw [i64_or256 _ _ (by rw [← hW]; unfold wrap64; omega) y1 y2, hstep, ← hW, hVV]
                  generalize binAcc 0 (m.take k) = q
                  rw [IntKind.wrap_i64, IntKind.wrap_i64, IntKind.wrap_i64]
                  unfold wrap64
                  omega
                have hbd : -9223372036854775808 ≤ IntKind.i64.wrap (binAcc 0 (m.take (k + 1))) ∧ IntKind.i64.wrap (binAcc 0 (m.take (k + 1))) ≤ 9223372036854775807 := by rw [IntKind.wrap_i64]; omega
                have hi8 : (k : Int) < 8 := by omega
                generalize hZ : IntKind.i64.wrap (binAcc 0 (m.take (k + 1))) = Z at hor hbd
                have HZZ := Lib.hid hZ.symm
                have z1 := hbd.1; have z2 := hbd.2
                clear hZ hVV hV hY hstep hbd
                go_wp2
                go_round
                case rel => exact ⟨k + 1, Z, by omega, by go_num, rfl, z1, z2, HZZ⟩
                case measure => simp [intOf]; omega
              · obtain rfl : k = 8 := by omega
                have hVV := hV.out
                rw [List.take_of_length_le (by rw [HLL.out]; exact Nat.le_refl _)] at hVV
                have HV2 := Lib.hid hVV
                clear hVV hV
                go_wp2
                go_ret2
                exact ⟨by rw [← HV2.out]; rfl, hbel⟩
        · obtain rfl := HBAD.out hmis
          by_cases hB : 128 ≤ (m.getD 0 0).toNat
          · have ha := HAND.out
            rw [if_pos hB] at ha
            rcases hf8 with rfl | rfl
            · exact absurd ⟨fun _ => by decide, fun _ => hB⟩ hmis
            · clear hmis hB
              go_wp2
              go_ret2
              exact ⟨rfl, hbel⟩
          · have ha := HAND.out
            rw [if_neg hB] at ha
            rcases hf8 with rfl | rfl
            · clear hmis hB
              go_wp2
              go_ret2
              exact ⟨rfl, hbel⟩
            · exact absurd ⟨fun h => absurd h hB, fun h => absurd rfl h⟩ hmis
theorem RefBase256_any (a : Option Addr) (n c : Nat) (l : List UInt8) (w : World) (h : Bs w a n c l) :
    Calls Tryd.prog 83 #[.slice a n c] w fun e w' => e = .returned (decV (Plain.base256 l)) ∧ Below w.heap.size w w' := by
  by_cases hlow : l = [] ∨ (l.getD 0 0).toNat < 128
  · exact RefBase256_low a n c l w h hlow
  · exact RefBase256_high a n c l w h (by cases l; exact absurd (.inl rfl) hlow; simp) (fun h => hlow (.inr h))
end Go.Proofs.YtjchaogfmnabfaaDoor
namespace Go.Proofs.YtjchaogfmnabfaaDoor
open Go.ChangeShapes Go.WideShapes Go.ChangeAt Go.RowKit
/-- where a walk from the left stands still -/
theorem while_at {p : UInt8 → Bool} (m : List UInt8) (k : Nat) (hk : k ≤ m.length) (h1 : (m.take k).all p = true) (h2 : k < m.length → p (m.getD k 0) = false) : m.takeWhile p = m.take k ∧ m.dropWhile p = m.drop k := by
  have hd : m.dropWhile p = m.drop k := by
    have e := dropWhile_pass (p := p) (m.take k) (m.drop k) h1
    rw [List.take_append_drop] at e
    rw [e]
    by_cases hlt : k < m.length
    · have hg : m.getD k 0 = m[k] := by simp [List.getD, List.getElem?_eq_getElem hlt]
      rw [List.drop_eq_getElem_cons hlt, List.dropWhile_cons_of_neg]
      have := h2 hlt
      rw [hg] at this
      rw [this]; exact Bool.false_ne_true
    · rw [List.drop_of_length_le (by omega)]; rfl
  refine ⟨?_, hd⟩
  have e1 : m.takeWhile p ++ m.dropWhile p = m := List.takeWhile_append_dropWhile
  have e2 : m.take k ++ m.drop k = m := List.take_append_drop k m
  rw [hd] at e1
  exact List.append_cancel_right (e1.trans e2.symm)
theorem all_step {p : UInt8 → Bool} (l : List UInt8) (k : Nat) (h : k < l.length) (ih : (l.take k).all p = true) (hd : p (l.getD k 0) = true) : (l.take (k + 1)).all p = true := by
  have hg : l.getD k 0 = l[k] := by simp [List.getD, List.getElem?_eq_getElem h]
  rw [List.take_succ_eq_append_getElem h, List.all_append, ih, ← hg, List.all_cons, hd]; rfl
theorem all_no {p : UInt8 → Bool} (l : List UInt8) (k : Nat) (h : k < l.length) (hd : p (l.getD k 0) = false) : l.all p = false := by
  have hg : l.getD k 0 = l[k] := by simp [List.getD, List.getElem?_eq_getElem h]
  cases ha : l.all p with
  | false => rfl
  | true =>
    have := (List.all_eq_true.1 ha) l[k] (List.getElem_mem h)
    rw [← hg, hd] at this
    cases this
/-- the last k digits -/
theorem octAcc_last (D : List UInt8) (k : Nat) (h : k < D.length) : octAcc 0 (D.drop (D.length - (k + 1))) = ((D.getD (D.length - (k + 1)) 0).toNat - 48) * 8 ^ k + octAcc 0 (D.drop (D.length - k)) := by
  have hi : D.length - (k + 1) < D.length := by omega
  have hg : D.getD (D.length - (k + 1)) 0 = D[D.length - (k + 1)] := by simp [List.getD, List.getElem?_eq_getElem hi]
  rw [List.drop_eq_getElem_cons hi, octAcc_cons, octAcc_pow, ← hg, List.length_drop, show D.length - (k + 1) + 1 = D.length - k by omega, show D.length - (D.length - k) = k by omega]
  simp only [Nat.zero_mul, Nat.zero_add]
theorem octAcc_drop_le (D : List UInt8) (k : Nat) : octAcc 0 (D.drop k) ≤ octAcc 0 D := by
  have h := octAcc_app 0 (D.take k) (D.drop k)
  rw [List.take_append_drop, octAcc_pow (D.drop k) (octAcc 0 (D.take k))] at h
  rw [h]
  exact Nat.le_add_left _ _
end Go.Proofs.YtjchaogfmnabfaaDoor
namespace Go.Proofs.YtjchaogfmnabfaaDoor
set_option linter.unusedVariables false
set_option linter.unusedSimpArgs false
open Go.ChangeShapes Go.WideShapes Go.ChangeAt Go.RowKit
theorem Plain.octal_at (l : List UInt8) (f e : Nat) (hf : l.dropWhile (· == 32) = l.drop f) (hd : octHead (l.drop f) = (l.drop f).take (e - f)) (ht : octTail (l.drop f) = l.drop e) :
    Plain.octal l = if (l.drop e).all isGap then (if octAcc 0 ((l.drop f).take (e - f)) ≤ 9223372036854775807 then (((octAcc 0 ((l.drop f).take (e - f)) : Nat) : Int), 0) else (0, 11)) else (0, 10) := by
  unfold Plain.octal
  simp only [hf, hd, ht]
/-- a step of the reference's sum: the digit's place is k -/
structure OctStep (D : List UInt8) (e f k A : Nat) (g : UInt8) (r : Int × Int) : Prop where
  dig : 48 ≤ g.toNat ∧ g.toNat ≤ 55
  zero : g.toNat = 48 → octAcc 0 (D.drop (e - f - (k + 1))) = A
  far : g.toNat ≠ 48 → 21 ≤ k → r = (0, 11)
  near : k ≤ 20 → octAcc 0 (D.drop (e - f - (k + 1))) = (g.toNat - 48) * 8 ^ k + A ∧ (g.toNat - 48) * 8 ^ k + A ≤ 9223372036854775807
theorem OctStep.of (D : List UInt8) (e f k A j : Nat) (g : UInt8) (r : Int × Int) (hl : D.length = e - f) (ho : D.all isOct = true) (hk : k < e - f) (hj : j = e - 1 - k) (hg : D.getD (j - f) 0 = g) (hA : octAcc 0 (D.drop (e - f - k)) = A)
    (hr : r = if octAcc 0 D ≤ 9223372036854775807 then (((octAcc 0 D : Nat) : Int), 0) else (0, 11)) : OctStep D e f k A g r := by
  have hlast := octAcc_last D k (by omega)
  rw [hl, show e - f - (k + 1) = j - f by omega, hg, hA] at hlast
  have hd := oct_at D (j - f) (by omega) ho
  rw [hg] at hd
  have hall : (D.drop (j - f)).all isOct = true := by
    rw [List.all_eq_true] at ho ⊢
    exact fun x hx => ho x (List.mem_of_mem_drop hx)
  have hlt := octAcc_lt _ hall
  rw [List.length_drop, hl, show e - f - (j - f) = k + 1 by omega] at hlt
  have hle := octAcc_drop_le D (j - f)
  have ej : e - f - (k + 1) = j - f := by omega
  rw [← ej] at hlast hle hlt
  refine ⟨hd, fun h => by rw [hlast, h, Nat.sub_self, Nat.zero_mul, Nat.zero_add], fun h h21 => ?_, fun h20 => ⟨hlast, ?_⟩⟩
  · rw [hr, if_neg]
    have h1 : 8 ^ 21 ≤ 8 ^ k := Nat.pow_le_pow_right (by decide) h21
    have h2 : 1 * 8 ^ k ≤ (g.toNat - 48) * 8 ^ k := Nat.mul_le_mul_right _ (by omega)
    have h3 : (8 : Nat) ^ 21 = 9223372036854775808 := rfl
    omega
  · have h1 : 8 ^ (k + 1) ≤ 8 ^ 21 := Nat.pow_le_pow_right (by decide) (by omega)
    have h3 : (8 : Nat) ^ 21 = 9223372036854775808 := rfl
    rw [hlast] at hlt
    omega
theorem two_pow8 (k : Nat) (P : Int) (h : P = 3 * k) : (2 : Int) ^ P.toNat = ((8 ^ k : Nat) : Int) := by
  have e : P.toNat = 3 * k := by omega
  rw [e, Int.pow_mul, Int.natCast_pow]; rfl
set_option maxRecDepth 100000 in
set_option maxHeartbeats 3200000 in
theorem RefOctal_any (a : Option Addr) (n c : Nat) (l : List UInt8) (w : World) (h : Bs w a n c l) :
    Calls Tryd.prog 84 #[.slice a n c] w fun e w' => e = .returned (decV (Plain.octal l)) ∧ w = w' := by
  have hl := h.len; have hcap := h.cap; have hmax := h.max
  have HL := Lib.hid hl; have HH := Lib.hid h; clear hl h
  generalize hr : Plain.octal l = r
  have HR := Lib.hid hr; clear hr
  go_enter Tryd.func84, Tryd.ntmps84
  go_upto_block 0 with fail
  go_cut [4] (fun s4 wx => w = wx ∧ ∃ f : Nat, f ≤ n ∧ s4 = .int .i64 f ∧ Hid (l.dropWhile (· == 32) = l.drop f))
  case first =>
    go_wp2_with fail
    go_loop [4] (fun i => ∃ k : Nat, k ≤ n ∧ i = .int .i64 k ∧ Hid ((l.take k).all (· == 32) = true)) (fun i => n - (intOf i).toNat)
    case atStart => exact ⟨0, by omega, rfl, (rfl : (l.take 0).all (· == 32) = true)⟩
    case round =>
      obtain ⟨f, hf, rfl, hz⟩ := hrel
      have hwa : (f < n → l.getD f 0 ≠ 32) → l.dropWhile (· == 32) = l.drop f := fun hno => (while_at l f (by rw [HL.out]; exact hf) hz.out (fun h1 => by rw [HL.out] at h1; simpa using hno h1)).2
      by_cases hlt : f < n
      · obtain ⟨b, off, rfl, hc⟩ := HH.out.at f hlt
        have hs : l.getD f 0 = 32 → (l.take (f + 1)).all (· == 32) = true := fun e => all_step l f (by rw [HL.out]; exact hlt) hz.out (by rw [e]; rfl)
        have hi : (f : Int) < n := by omega
        generalize l.getD f 0 = g at *
        have HS := Lib.hid hs; have HWA := Lib.hid hwa; clear hs hwa hz
        by_cases hg : g = 32
        · subst hg
          go_wp2
          go_round
          case rel => exact ⟨f + 1, by omega, by go_num, Lib.hid (HS.out rfl)⟩
          case measure => simp [intOf]; omega
        · have hne : ((g.toNat : Int) == 32) = false := by rw [beq_eq_false_iff_ne]; intro e; exact hg (UInt8.toNat_inj.1 (by simpa using (by omega : g.toNat = 32)))
          have HG := Lib.hid hg; clear hg
          go_wp2
          go_meet
          exact ⟨rfl, f, by omega, rfl, Lib.hid (HWA.out fun _ => HG.out)⟩
      · have HWA := Lib.hid (hwa fun h => absurd h hlt)
        clear hwa hz
        have hi : ¬ (f : Int) < n := by omega
        go_wp2
        go_meet
        exact ⟨rfl, f, by omega, rfl, HWA⟩
  case rest =>
    obtain ⟨rfl, f, hf, rfl, HWA⟩ := hcut
    go_upto_block 2 with fail
    go_cut [4, 5] (fun s4 s5 wx => s4 = .int .i64 f ∧ w = wx ∧ ∃ e : Nat, f ≤ e ∧ e ≤ n ∧ s5 = .int .i64 e ∧ Hid (octHead (l.drop f) = (l.drop f).take (e - f) ∧ octTail (l.drop f) = l.drop e))
    case first =>
      go_wp2_with fail
      go_loop [5] (fun i => ∃ e : Nat, f ≤ e ∧ e ≤ n ∧ i = .int .i64 e ∧ Hid (((l.drop f).take (e - f)).all isOct = true)) (fun i => n - (intOf i).toNat)
      case atStart => exact ⟨f, by omega, hf, rfl, Lib.hid (by rw [Nat.sub_self, List.take_zero]; rfl)⟩
      case round =>
        obtain ⟨e, hfe, he, rfl, hz⟩ := hrel
        have hdl : (l.drop f).length = n - f := by rw [List.length_drop, HL.out]
        have hde : (l.drop f).getD (e - f) 0 = l.getD e 0 := by simp [List.getD, show f + (e - f) = e by omega]
        have hwa : (e < n → isOct (l.getD e 0) = false) → octHead (l.drop f) = (l.drop f).take (e - f) ∧ octTail (l.drop f) = l.drop e := fun hno => by
          have := while_at (p := isOct) (l.drop f) (e - f) (by rw [hdl]; omega) hz.out (fun h1 => by rw [hdl] at h1; rw [hde]; exact hno (by omega))
          exact ⟨this.1, by rw [octTail, this.2, List.drop_drop, show f + (e - f) = e by omega]⟩
        by_cases hlt : e < n
        · obtain ⟨b, off, rfl, hc⟩ := HH.out.at e hlt
          have hs : isOct (l.getD e 0) = true → ((l.drop f).take (e + 1 - f)).all isOct = true := fun h1 => by
            have := all_step (l.drop f) (e - f) (by rw [hdl]; omega) hz.out (by rw [hde]; exact h1)
            rwa [show e - f + 1 = e + 1 - f by omega] at this
          have hi : (e : Int) < n := by omega
          have hio := isOct_iff (l.getD e 0)
          generalize l.getD e 0 = g at *
          have HS := Lib.hid hs; have HWA2 := Lib.hid hwa; have HIO := Lib.hid hio; clear hs hwa hz hdl hde hio
          by_cases h1 : (48 : Int) ≤ g.toNat
          · by_cases h2 : (g.toNat : Int) ≤ 55
            · have h3 : (48 : Int) ≤ g.toNat := h1
              go_wp2
              go_round
              case rel => exact ⟨e + 1, by omega, by omega, by go_num, Lib.hid (HS.out (HIO.out.2 (by omega)))⟩
              case measure => simp [intOf]; omega
            · go_wp2
              go_meet
              exact ⟨rfl, rfl, e, by omega, by omega, rfl, Lib.hid (HWA2.out fun _ => by rw [← Bool.not_eq_true, HIO.out]; omega)⟩
          · go_wp2
            go_meet
            exact ⟨rfl, rfl, e, by omega, by omega, rfl, Lib.hid (HWA2.out fun _ => by rw [← Bool.not_eq_true, HIO.out]; omega)⟩
        · have HWA2 := Lib.hid (hwa fun h => absurd h hlt)
          clear hwa hz hdl hde
          have hi : ¬ (e : Int) < n := by omega
          go_wp2
          go_meet
          exact ⟨rfl, rfl, e, by omega, by omega, rfl, HWA2⟩
    case rest =>
      obtain ⟨rfl, rfl, e, hfe, he, rfl, HT⟩ := hcut
      have hpa := Plain.octal_at l f e HWA.out HT.out.1 HT.out.2
      rw [HR.out] at hpa
      have hoa : ((l.drop f).take (e - f)).all isOct = true := by rw [← HT.out.1]; exact octHead_all _
      have hDl : ((l.drop f).take (e - f)).length = e - f := by rw [List.length_take, List.length_drop, HL.out]; omega
      have hDg : ∀ j, f ≤ j → j < e → ((l.drop f).take (e - f)).getD (j - f) 0 = l.getD j 0 := fun j h1 h2 => by
        simp [List.getD, List.getElem?_take, show j - f < e - f by omega, show f + (j - f) = j by omega]
      generalize (l.drop f).take (e - f) = D at *
      have HPA := Lib.hid hpa; have HOA := Lib.hid hoa; have HDl := Lib.hid hDl; have HDg := Lib.hid hDg; clear hpa hoa hDl hDg HT HWA
      go_wp2
      go_loop [6] (fun i => ∃ k : Nat, e ≤ k ∧ k ≤ n ∧ i = .int .i64 k ∧ Hid (((l.drop e).take (k - e)).all isGap = true)) (fun i => n - (intOf i).toNat)
      case atStart => exact ⟨e, by omega, he, rfl, Lib.hid (by rw [Nat.sub_self, List.take_zero]; rfl)⟩
      case round =>
        obtain ⟨k, hek, hk, rfl, hz⟩ := hrel
        have hdl : (l.drop e).length = n - e := by rw [List.length_drop, HL.out]
        by_cases hlt : k < n
        · have hde : (l.drop e).getD (k - e) 0 = l.getD k 0 := by simp [List.getD, show e + (k - e) = k by omega]
          obtain ⟨b, off, rfl, hc⟩ := HH.out.at k hlt
          have hs : isGap (l.getD k 0) = true → ((l.drop e).take (k + 1 - e)).all isGap = true := fun h1 => by
            have := all_step (l.drop e) (k - e) (by rw [hdl]; omega) hz.out (by rw [hde]; exact h1)
            rwa [show k - e + 1 = k + 1 - e by omega] at this
          have hno : isGap (l.getD k 0) = false → r = (0, 10) := fun h1 => by
            have := all_no (p := isGap) (l.drop e) (k - e) (by rw [hdl]; omega) (by rw [hde]; exact h1)
            rw [HPA.out, this]; rfl
          have hi : (k : Int) < n := by omega
          generalize l.getD k 0 = g at *
          have HS := Lib.hid hs; have HNO := Lib.hid hno; clear hs hno hz hdl hde
          by_cases h1 : g = 32
          · subst h1
            go_wp2
            go_round
            case rel => exact ⟨k + 1, by omega, by omega, by go_num, Lib.hid (HS.out rfl)⟩
            case measure => simp [intOf]; omega
          · have hne : ((g.toNat : Int) != 32) = true := by rw [bne_iff_ne]; intro e; exact h1 (UInt8.toNat_inj.1 (by simpa using (by omega : g.toNat = 32)))
            by_cases h2 : g = 0
            · subst h2
              clear h1
              go_wp2
              go_round
              case rel => exact ⟨k + 1, by omega, by omega, by go_num, Lib.hid (HS.out rfl)⟩
              case measure => simp [intOf]; omega
            · have hne2 : ((g.toNat : Int) != 0) = true := by rw [bne_iff_ne]; intro e; exact h2 (UInt8.toNat_inj.1 (by simpa using (by omega : g.toNat = 0)))
              obtain rfl := HNO.out (by simp [isGap, h1, h2])
              clear h1 h2
              go_wp2
              go_ret2
              exact ⟨rfl, rfl⟩
        · obtain rfl : n = k := by omega
          have hall : (l.drop e).all isGap = true := by have := hz.out; rwa [List.take_of_length_le (by omega)] at this
          have hp2 := HPA.out
          rw [hall, if_pos rfl] at hp2
          have HP2 := Lib.hid hp2; clear hp2 hall hz hdl
          go_wp2
          go_loop [7, 8, 9] (fun s p i => ∃ (k A : Nat) (z P : Int), k ≤ e - f ∧ z = (e : Int) - 1 - k ∧ i = .int .i64 z ∧ s = .int .i64 (A : Int) ∧ A ≤ 9223372036854775807 ∧ p = .int .i64 P ∧ (k ≤ 20 ∧ P = 3 * k ∨ 21 ≤ k ∧ P = 63) ∧ Hid (octAcc 0 (D.drop (e - f - k)) = A)) (fun _ _ i => (intOf i + 1).toNat)
          case atStart => exact ⟨0, 0, (e : Int) - 1, 0, by omega, by omega, by go_num, rfl, by omega, rfl, .inl ⟨by omega, rfl⟩, Lib.hid (by rw [Nat.sub_zero, List.drop_of_length_le (by rw [HDl.out]; exact Nat.le_refl _), octAcc_nil])⟩
          case round =>
            obtain ⟨k, A, z, P, hk, hz, rfl, rfl, hA, rfl, hP, hq⟩ := hrel
            by_cases hlt : k < e - f
            · obtain ⟨j, rfl⟩ : ∃ j : Nat, z = j := ⟨e - 1 - k, by omega⟩
              obtain ⟨b, off, rfl, hc⟩ := HH.out.at j (by omega)
              have hst := OctStep.of D e f k A j (l.getD j 0) r HDl.out HOA.out hlt (by omega) (HDg.out j (by omega) (by omega)) hq.out HP2.out
              have hdig := hst.dig
              generalize hG : ((l.getD j 0).toNat : Int) = G at hc
              have g1 : 48 ≤ G := by omega
              have g2 : G ≤ 55 := by omega
              have hfj : (f : Int) ≤ j := by omega
              have hjn : (j : Int) < n := by omega
              have HST := Lib.hid hst; have HG := Lib.hid hG; clear hst hG hdig hq
              by_cases h48 : G = 48
              · subst h48
                have HZ := Lib.hid (HST.out.zero (by have := HG.out; omega))
                rcases hP with ⟨h20, hP⟩ | ⟨h21, hP⟩
                · have p1 : P ≤ 60 := by omega
                  have p0 : 0 ≤ P := by omega
                  have HP := Lib.hid hP; have HJ := Lib.hid hz; clear hP hz
                  go_wp2
                  go_round
                  case rel => exact ⟨k + 1, A, (j : Int) - 1, P + 3, by omega, by have := HJ.out; omega, by go_num, rfl, by omega, by go_num, by have := HP.out; omega, HZ⟩
                  case measure => simp [intOf]
                · obtain rfl := hP
                  have HJ := Lib.hid hz; clear hz
                  go_wp2
                  go_round
                  case rel => exact ⟨k + 1, A, (j : Int) - 1, 63, by omega, by have := HJ.out; omega, by go_num, rfl, by omega, by go_num, .inr ⟨by omega, rfl⟩, HZ⟩
                  case measure => simp [intOf]
              · have hne : (G - 48 != 0) = true := by rw [bne_iff_ne]; omega
                rcases hP with ⟨h20, hP⟩ | ⟨h21, hP⟩
                · have p1 : P ≤ 60 := by omega
                  have p0 : 0 ≤ P := by omega
                  obtain ⟨hn1, hn2⟩ := HST.out.near h20
                  have hx : (G - 48) * 2 ^ P.toNat = ((((l.getD j 0).toNat - 48) * 8 ^ k : Nat) : Int) := by
                    rw [two_pow8 k P hP, Int.natCast_mul]
                    have := HG.out
                    rw [show (((l.getD j 0).toNat - 48 : Nat) : Int) = G - 48 by omega]
                  generalize ((l.getD j 0).toNat - 48) * 8 ^ k = X at hn1 hn2 hx
                  have hxx : (A : Int) + X ≤ 9223372036854775807 := by omega
                  have HP := Lib.hid hP; have HJ := Lib.hid hz; have HN := Lib.hid hn1; clear hP hz hn1 h48
                  go_wp2
                  go_round
                  case rel => exact ⟨k + 1, X + A, (j : Int) - 1, P + 3, by omega, by have := HJ.out; omega, by go_num, by go_num, by omega, by go_num, by have := HP.out; omega, HN⟩
                  case measure => simp [intOf]
                · obtain rfl := hP
                  obtain rfl := HST.out.far (by have := HG.out; omega) h21
                  clear h48 hz
                  go_wp2
                  go_ret2
                  exact ⟨rfl, rfl⟩
            · obtain rfl : k = e - f := by omega
              have hqq := hq.out
              rw [Nat.sub_self, List.drop_zero] at hqq
              have hfin := HP2.out
              rw [hqq, if_pos hA] at hfin
              subst hfin
              have hzf : z < f := by omega
              clear hqq hz hq
              go_wp2
              go_ret2
              exact ⟨rfl, rfl⟩
end Go.Proofs.YtjchaogfmnabfaaDoor
namespace Go.Proofs.YtjchaogfmnabfaaDoor
open Go.ChangeShapes Go.WideShapes Go.ChangeAt Go.RowKit
/-- the set's cells -/
def GapSet (w : World) (b : Nat) : Prop := ∀ x : UInt8, w.cell? ⟨b, x.toNat, none⟩ = some (.bool (isGap x))
theorem gap_contains (x : UInt8) : [32, 0].contains x = isGap x := by
  simp only [isGap, List.contains_cons, List.contains_nil, Bool.or_false]
set_option maxHeartbeats 400000 in
theorem TrimASCII_any (l : List UInt8) (b : Nat) (w : World) (hl : l.length ≤ 140737488355328) (hg : GapSet w b) :
    Calls Tryd.prog 107 #[.string ⟨l.toArray⟩, .pointer (some ⟨b, 0, none⟩)] w fun e w' => e = .returned (.string ⟨(trimR l).toArray⟩) ∧ w' = w := by
  generalize hr : trimR l = R
  have HR := Lib.hid hr; clear hr
  have HG := Lib.hid hg; clear hg
  go_enter Tryd.func107, Tryd.ntmps107
  go_wp2
  go_loop [0] (fun t => ∃ s : List UInt8, t = .string ⟨s.toArray⟩ ∧ s.length ≤ 140737488355328 ∧ Hid (trimR s = R)) (fun t => match t with | .string x => x.size | _ => 0)
  case atStart => exact ⟨l, rfl, hl, HR⟩
  case round =>
    obtain ⟨s, rfl, hs, ht⟩ := hrel
    by_cases h0 : s = []
    · subst h0
      obtain rfl : R = [] := by rw [← ht.out]; rfl
      go_wp2
      go_ret
      exact ⟨rfl, rfl⟩
    · obtain ⟨t, c, rfl⟩ : ∃ t c, s = t ++ [c] := ⟨s.dropLast, s.getLast h0, (List.dropLast_concat_getLast h0).symm⟩
      have hx := str_at (t ++ [c]) t.length (by simp)
      have hgd : (t ++ [c]).getD t.length 0 = c := by simp [List.getD]
      rw [hgd] at hx
      have hlen : (t ++ [c]).length = t.length + 1 := by simp
      have hext : (⟨(t ++ [c]).toArray⟩ : ByteArray).extract 0 t.length = ⟨t.toArray⟩ := by
        apply ByteArray.ext
        simp [ByteArray.data_extract]
      have hst : t.length ≤ 140737488355328 := by omega
      have HEXT := Lib.hid hext
      cases hgap : isGap c with
      | false =>
        have hcon := Tryd.asciiSet_contains b c (isGap c) w (HG.out c)
        rw [hgap] at hcon
        have HC := Lib.hid hcon
        have hRR : t ++ [c] = R := by rw [← trimR_end t c hgap]; exact ht.out
        have HRR := Lib.hid hRR
        clear hcon hRR hgd hext h0 hgap
        go_wp2_with (go_at_call 125; refine (HC.out).mono ?_; rintro e w1 ⟨rfl, hw⟩; obtain rfl := hw.symm)
        go_ret
        exact ⟨by rw [← HRR.out]; rfl, rfl⟩
      | true =>
        have hcon := Tryd.asciiSet_contains b c (isGap c) w (HG.out c)
        rw [hgap] at hcon
        have HC := Lib.hid hcon
        have hRR : trimR t = R := by rw [← trimR_gap t c hgap]; exact ht.out
        have HRR := Lib.hid hRR
        clear hcon hRR hgd hext h0 hgap
        go_wp2_with (go_at_call 125; refine (HC.out).mono ?_; rintro e w1 ⟨rfl, hw⟩; obtain rfl := hw.symm)
        rw [HEXT.out]
        exact ⟨⟨t, rfl, hst, HRR⟩, by simp [ByteArray.size]⟩
theorem gapSet_zero : ∀ w, (zeroValue 115).run Tryd.prog w = .ok (.agg (Array.replicate 256 (.bool false))) w := fun w => by kernel_rfl
theorem gapSize : (Tryd.prog.info? 115).map (·.size) = some (Lib.setCells [32, 0]).size := by rw [Lib.setCells_size]; kernel_rfl
theorem gapZero : (Tryd.prog.info? 115).bind (·.zero) = some (.agg (Array.replicate 256 (.bool false))) := by kernel_rfl
theorem gapOne : ∀ u ∈ (Lib.setCells [32, 0]).toList, u.oneCell' = true := by
  intro u hu
  have h := Lib.setCells_one [32, 0]
  generalize Lib.setCells [32, 0] = A at *
  rw [Array.all_eq_true] at h
  obtain ⟨i, hi, rfl⟩ := List.getElem_of_mem hu
  exact h i (by simpa using hi)
theorem gapSet_new (w1 : World) : GapSet (w1.alloc (.cells (Lib.setCells [32, 0]) 115)) w1.heap.size := fun x => by
  rw [World.cell?_alloc_new, Lib.setCells_at, gap_contains]
set_option maxRecDepth 100000 in
set_option maxHeartbeats 1000000 in
theorem TrimGap_any (l : List UInt8) (w : World) (hl : l.length ≤ 140737488355328) :
    Calls Tryd.prog 81 #[.string ⟨l.toArray⟩, .string ⟨#[32, 0]⟩] w fun e w' => e = .returned (.string ⟨(trimR l).toArray⟩) ∧ Below w.heap.size w w' := by
  by_cases h0 : l = []
  · subst h0
    go_enter Tryd.func81, Tryd.ntmps81
    go_wp2
    go_ret
    exact ⟨rfl, Below.refl _ _⟩
  · have c1b : l.isEmpty = false := by simpa using h0
    have hasc : ∀ (j : Nat) b, [(32 : UInt8), 0][j]? = some b → b.toNat < 128 := by
      intro j b hj
      match j, hj with
      | 0, hj => cases hj; decide
      | 1, hj => cases hj; decide
    have HM := Lib.hid (Tryd.strings_makeASCIISet gapSet_zero ⟨#[32, 0]⟩ w (by decide) hasc)
    generalize hR : trimR l = R
    have HR := Lib.hid hR
    have HZ := Lib.hid gapZero; have HSZ := Lib.hid gapSize
    have HO : Hid (∀ u ∈ (Lib.setCells [32, 0]).toList, u.oneCell' = true) := Lib.hid (gapOne)
    go_enter Tryd.func81, Tryd.ntmps81
    clear hR
    go_wp2_with (first
      | (go_at_call 103; refine (HM.out).mono ?_; rintro e w1 ⟨rfl, hw⟩; have HW := Lib.hid hw; clear hw)
      | (with_reducible refine wpList_alloc_z rfl _ rfl (Array.replicate 256 (.bool false)) HZ.out ?_)
      | ((with_reducible refine wpList_store_new rfl _ _ _ rfl _ rfl (Lib.setCells [32, 0]) rfl ?_ (by rw [Lib.setCells_size, Array.size_replicate]) HSZ.out HO.out ?_); · simp)
      | (go_at_call 107; refine (TrimASCII_any l _ _ hl (by exact gapSet_new w1)).mono ?_; rintro e w3 ⟨rfl, hw⟩; obtain rfl := hw.symm; rw [HR.out]))
    go_ret
    refine ⟨rfl, ?_⟩
    rw [HW.out]
    exact ((Below.refl _ _).alloc (Nat.le_refl _) _).alloc (by simp) _
end Go.Proofs.YtjchaogfmnabfaaDoor
namespace Go.Proofs.YtjchaogfmnabfaaDoor
open Go.ChangeShapes Go.WideShapes Go.ChangeAt Go.RowKit
/-- what ParseUint hands back -/
def octTuple (t : TypeId) (v : Nat) : Value := if v ≤ 18446744073709551615 then .tuple #[.int .u64 (v : Int), .nilIface] else .tuple #[.int .u64 18446744073709551615, .iface t (.int .i64 1)]
set_option maxHeartbeats 8000000 in
set_option maxRecDepth 100000 in
theorem ParseUint8_any (bs : List UInt8) (hne : bs ≠ []) (hmax : bs.length ≤ 140737488355328) (hall : bs.all isOct = true) (w : World) :
    Calls Tryd.prog 119 #[.string ⟨bs.toArray⟩, .int .i64 8, .int .i64 64] w fun e w' => e = .returned (octTuple 134 (octAcc 0 bs)) ∧ w' = Lib.bytesWorld w 5 ⟨bs.toArray⟩ := by
  have c1b : bs.isEmpty = false := by simpa using hne
  have hcv := Lib.run_convert_string_bytes (P := Tryd.prog) w 9 22 5 ⟨bs.toArray⟩ (u := .string) Tryd.underlying9 Tryd.underlying22 Tryd.underlying5
  have hB : ∀ j, j < bs.length → (Lib.bytesWorld w 5 ⟨bs.toArray⟩).cell? ⟨w.heap.size, j, none⟩ = some (.int .u8 (bs.getD j 0).toNat) := fun j hj => Lib.bytesWorld_cell w 5 ⟨bs.toArray⟩ j (by simpa [ByteArray.size] using hj)
  obtain ⟨W1, hW1⟩ : ∃ W1, W1 = Lib.bytesWorld w 5 ⟨bs.toArray⟩ := ⟨_, rfl⟩
  rw [← hW1] at hcv hB ⊢
  clear hW1
  have hmv : IntKind.u64.wrap (IntKind.u64.wrap 18446744073709551616 - 1) = 18446744073709551615 := by
    rw [IntKind.wrap_u64, IntKind.wrap_u64]
    decide
  have HB := Lib.hid hB; have HALL := Lib.hid hall; clear hB hall
  generalize hR : octTuple 134 (octAcc 0 bs) = R
  have HR := Lib.hid hR; clear hR
  have hcut8 : IntKind.u64.wrap (18446744073709551615 / 8 + 1) = 2305843009213693952 := by rw [IntKind.wrap_u64]; decide
  go_enter Tryd.func119, Tryd.ntmps119
  go_wp2
  go_loop [12, 13, 101] (fun vu vn vi => ∃ (k : Nat) (a : Int), vu = .bool false ∧ vn = .int .u64 a ∧ vi = .int .i64 k ∧ k ≤ bs.length ∧ Hid (a = (octAcc 0 (bs.take k) : Nat) ∧ octAcc 0 (bs.take k) < 18446744073709551616))
    (fun _ _ vi => bs.length - (intOf vi).toNat)
  case atStart => exact ⟨0, 0, rfl, rfl, rfl, by omega, Lib.hid (by rw [List.take_zero, octAcc_nil]; decide)⟩
  case round =>
    obtain ⟨k, a, rfl, rfl, rfl, hk, hh⟩ := hrel
    obtain ⟨ha, hacc⟩ := hh.out
    clear hh
    have a0 : 0 ≤ a := by omega
    have a1 : a < 18446744073709551616 := by omega
    by_cases hkn : k < bs.length
    · have hc := HB.out k hkn
      have hdig := oct_at bs k hkn HALL.out
      have hst := octAcc_step bs k hkn
      have hle := octAcc_take_le bs (k + 1)
      generalize bs.getD k 0 = c at hc hdig hst
      have hc256 : c.toNat < 256 := c.toNat_lt
      obtain ⟨hd0, hd1⟩ := hdig
      have e0 : (48 : Int) ≤ c.toNat := by omega
      have e1 : (c.toNat : Int) ≤ 55 := by omega
      by_cases hcut : 2305843009213693952 ≤ a
      · have hf : octTuple 134 (octAcc 0 bs) = .tuple #[.int .u64 18446744073709551615, .iface 134 (.int .i64 1)] := by
          unfold octTuple; rw [if_neg (by omega)]
        obtain rfl := (HR.out.symm.trans hf)
        clear hf ha hacc hst hle
        go_wp2
        go_ret2
        exact ⟨rfl, rfl⟩
      · have HN : Hid (a * 8 + ((c.toNat : Int) - 48) = (octAcc 0 (bs.take (k + 1)) : Nat) ∧ octAcc 0 (bs.take (k + 1)) < 18446744073709551616) := Lib.hid ⟨by omega, by omega⟩
        have icut : a < 2305843009213693952 := by omega
        have iov : a * 8 + ((c.toNat : Int) - 48) < 18446744073709551616 := by omega
        clear hcut ha hacc hst hle
        go_wp2
        exact ⟨⟨k + 1, a * 8 + ((c.toNat : Int) - 48), rfl, (by first | rfl | (congr 1; omega)), (by first | rfl | (congr 1; omega)), by omega, HN⟩, by simp [intOf]; omega⟩
    · obtain rfl : k = bs.length := by omega
      rw [List.take_length] at ha hacc
      have hf : octTuple 134 (octAcc 0 bs) = .tuple #[.int .u64 a, .nilIface] := by
        unfold octTuple; rw [if_pos (by omega), ha]
      obtain rfl := (HR.out.symm.trans hf)
      clear hf ha hacc
      go_wp2
      go_ret2
      exact ⟨rfl, rfl⟩
/-- what the inner ParseInt hands back -/
def octIntV (t : TypeId) (v : Nat) : Value := if v ≤ 9223372036854775807 then .tuple #[.int .i64 (v : Int), .nilIface] else .tuple #[.int .i64 9223372036854775807, .iface t (.int .i64 1)]
set_option maxHeartbeats 8000000 in
set_option maxRecDepth 100000 in
theorem ParseInt8_any (bs : List UInt8) (hne : bs ≠ []) (hmax : bs.length ≤ 140737488355328) (hall : bs.all isOct = true) (w : World) :
    Calls Tryd.prog 97 #[.string ⟨bs.toArray⟩, .int .i64 8, .int .i64 64] w fun e w' => e = .returned (octIntV 134 (octAcc 0 bs)) ∧ Below w.heap.size w w' := by
  have c1b : bs.isEmpty = false := by simpa using hne
  have c0 : 0 < bs.length := List.length_pos_iff.2 hne
  have hx := str_at bs 0 c0
  have hd := oct_at bs 0 c0 hall
  have hU := ParseUint8_any bs hne hmax hall w
  generalize bs.getD 0 0 = g at hx hd
  have h43 : ((g.toNat : Int) == 43) = false := by rw [beq_eq_false_iff_ne]; omega
  have h45 : ((g.toNat : Int) == 45) = false := by rw [beq_eq_false_iff_ne]; omega
  have hq1 : ∀ W, (binOp .neq 96 (.iface 134 (.int .i64 1)) (.iface 134 (.int .i64 1))).run Tryd.prog W = .ok (.bool false) W := fun W => Lib.run_neq_iface_int W 1 1 Tryd.underlying96 (by kernel_rfl) Tryd.underlying134
  clear hd hne hall
  generalize octAcc 0 bs = v at *
  by_cases h1 : v ≤ 9223372036854775807
  · have e1 : octTuple 134 v = .tuple #[.int .u64 (v : Int), .nilIface] := by unfold octTuple; rw [if_pos (by omega)]
    have e2 : octIntV 134 v = .tuple #[.int .i64 (v : Int), .nilIface] := by unfold octIntV; rw [if_pos h1]
    rw [e1] at hU
    rw [e2]
    obtain ⟨a, ha⟩ : ∃ a : Int, a = (v : Int) := ⟨_, rfl⟩
    rw [← ha] at hU ⊢
    have HU := Lib.hid hU
    have i1 : a < 9223372036854775808 := by omega
    have i0 : 0 ≤ a := by omega
    clear e1 e2 hU h1 ha
    go_enter Tryd.func97, Tryd.ntmps97
    go_wp2_with (go_at_call 119; refine (HU.out).mono ?_; rintro e w1 ⟨rfl, hw1⟩; have HW := Lib.hid hw1; clear hw1)
    go_ret2
    exact ⟨rfl, by rw [HW.out]; exact Lib.bytesWorld_below _ _ _⟩
  · have e2 : octIntV 134 v = .tuple #[.int .i64 9223372036854775807, .iface 134 (.int .i64 1)] := by unfold octIntV; rw [if_neg h1]
    rw [e2]
    by_cases h2 : v ≤ 18446744073709551615
    · have e1 : octTuple 134 v = .tuple #[.int .u64 (v : Int), .nilIface] := by unfold octTuple; rw [if_pos h2]
      rw [e1] at hU
      obtain ⟨a, ha⟩ : ∃ a : Int, a = (v : Int) := ⟨_, rfl⟩
      rw [← ha] at hU
      have HU := Lib.hid hU
      have i1 : 9223372036854775808 ≤ a := by omega
      have i2 : a ≤ 18446744073709551615 := by omega
      clear e1 e2 hU h1 h2 ha
      go_enter Tryd.func97, Tryd.ntmps97
      go_wp2_with (go_at_call 119; refine (HU.out).mono ?_; rintro e w1 ⟨rfl, hw1⟩; have HW := Lib.hid hw1; clear hw1)
      go_ret2
      exact ⟨rfl, by rw [HW.out]; exact Lib.bytesWorld_below _ _ _⟩
    · have e1 : octTuple 134 v = .tuple #[.int .u64 18446744073709551615, .iface 134 (.int .i64 1)] := by unfold octTuple; rw [if_neg h2]
      rw [e1] at hU
      have HU := Lib.hid hU
      clear e1 e2 hU h1 h2
      go_enter Tryd.func97, Tryd.ntmps97
      go_wp2_with (go_at_call 119; refine (HU.out).mono ?_; rintro e w1 ⟨rfl, hw1⟩; have HW := Lib.hid hw1; clear hw1)
      go_ret2
      exact ⟨rfl, by rw [HW.out]; exact Lib.bytesWorld_below _ _ _⟩
set_option maxHeartbeats 4000000 in
set_option maxRecDepth 100000 in
theorem ParseIntOct_any (bs : List UInt8) (hne : bs ≠ []) (hmax : bs.length ≤ 140737488355328) (hall : bs.all isOct = true) (w : World) (ev : Value) (hE : ErrIs w ev) :
    Calls Tryd.prog 75 #[.string ⟨bs.toArray⟩, .int .i64 8, .int .i64 64] w fun e w' => ∃ (x : Int) (er : Value), e = .returned (.tuple #[.int .i64 x, er]) ∧ Below w.heap.size w w' ∧
      (octAcc 0 bs ≤ 9223372036854775807 → x = octAcc 0 bs ∧ er = .nilIface) ∧ (¬ octAcc 0 bs ≤ 9223372036854775807 → ∃ t p, er = .iface t p) := by
  have hI := ParseInt8_any bs hne hmax hall w
  generalize octAcc 0 bs = v at *
  by_cases h1 : v ≤ 9223372036854775807
  · have e2 : octIntV 134 v = .tuple #[.int .i64 (v : Int), .nilIface] := by unfold octIntV; rw [if_pos h1]
    rw [e2] at hI
    have HI := Lib.hid hI; clear hI e2
    go_enter Tryd.func75, Tryd.ntmps75
    go_wp2_with (go_at_call 97; refine (HI.out).mono ?_; rintro e w1 ⟨rfl, hb1⟩)
    go_ret2
    exact ⟨_, _, rfl, hb1, fun _ => ⟨rfl, rfl⟩, fun h => absurd h1 h⟩
  · have e2 : octIntV 134 v = .tuple #[.int .i64 9223372036854775807, .iface 134 (.int .i64 1)] := by unfold octIntV; rw [if_neg h1]
    rw [e2] at hI
    have HI := Lib.hid hI
    have HE := Lib.hid hE
    have HH := Lib.hid h1
    clear hI e2 h1 hE
    go_enter Tryd.func75, Tryd.ntmps75
    go_wp2_with (first
      | (go_at_call 97; refine (HI.out).mono ?_; rintro e w1 ⟨rfl, hb1⟩; have HB1 := Lib.hid hb1; clear hb1)
      | (go_at_call 98; refine (Tryd.strconv_toError_range _ _ 8 64 ev _ (by simp [ByteArray.size]; omega) (by exact (HE.out.below HB1.out).1) (Or.inr HE.out.2)).mono ?_; rintro e w2 ⟨N, rfl, hN1, hN2, hb2⟩; have HB2 := Lib.hid hb2; clear hb2 hN1 hN2))
    go_ret2
    exact ⟨_, _, rfl, Below.seq HB1.out HB2.out, fun h => absurd h HH.out, fun _ => ⟨_, _, rfl⟩⟩
end Go.Proofs.YtjchaogfmnabfaaDoor
namespace Go.Proofs.YtjchaogfmnabfaaDoor
open Go.ChangeShapes Go.WideShapes Go.ChangeAt Go.RowKit
theorem oct_step (l : List UInt8) (k : Nat) (h : k < l.length) (ih : (l.take k).all isOct = true) (hd : 48 ≤ (l.getD k 0).toNat ∧ (l.getD k 0).toNat ≤ 55) : (l.take (k + 1)).all isOct = true := by
  have hg : l.getD k 0 = l[k] := by simp [List.getD, List.getElem?_eq_getElem h]
  have h1 : isOct (l.getD k 0) = true := (isOct_iff _).2 hd
  rw [List.take_succ_eq_append_getElem h, List.all_append, ih, ← hg, List.all_cons, h1]; rfl
theorem oct_no (l : List UInt8) (k : Nat) (h : k < l.length) (hd : ¬ (48 ≤ (l.getD k 0).toNat ∧ (l.getD k 0).toNat ≤ 55)) : l.all isOct = false := by
  have hg : l.getD k 0 = l[k] := by simp [List.getD, List.getElem?_eq_getElem h]
  cases ha : l.all isOct with
  | false => rfl
  | true =>
    have := (List.all_eq_true.1 ha) l[k] (List.getElem_mem h)
    rw [isOct_iff, ← hg] at this
    exact absurd this hd
theorem all_dropWhile {p q : UInt8 → Bool} (l : List UInt8) (h : l.all p = true) : (l.dropWhile q).all p = true := by
  rw [List.all_eq_true] at h ⊢
  exact fun x hx => h x ((List.dropWhile_sublist q).subset hx)
theorem Plain.octal_bad (l : List UInt8) (h : (trimR (l.dropWhile (· == 32))).all isOct = false) : Plain.octal l = (0, 10) := by
  have hg : (octTail (l.dropWhile (· == 32))).all isGap = false := by
    cases hg : (octTail (l.dropWhile (· == 32))).all isGap with
    | false => rfl
    | true => rw [trim_good _ hg, octHead_all] at h; cases h
  unfold Plain.octal
  simp only [hg]
  rfl
theorem Plain.octal_good (l : List UInt8) (h : (trimR (l.dropWhile (· == 32))).all isOct = true) :
    Plain.octal l = if octAcc 0 (trimR (l.dropWhile (· == 32))) ≤ 9223372036854775807 then (((octAcc 0 (trimR (l.dropWhile (· == 32))) : Nat) : Int), 0) else (0, 11) := by
  have hg : (octTail (l.dropWhile (· == 32))).all isGap = true := by
    cases hg : (octTail (l.dropWhile (· == 32))).all isGap with
    | true => rfl
    | false => rw [trim_bad _ hg] at h; cases h
  rw [trim_good _ hg]
  unfold Plain.octal
  simp only [hg, if_true]
theorem trimR_len (l : List UInt8) : (trimR l).length ≤ l.length := by
  unfold trimR
  rw [List.length_reverse]
  have := (List.dropWhile_sublist (l := l.reverse) isGap).length_le
  simpa using this
set_option maxRecDepth 100000 in
set_option maxHeartbeats 1600000 in
theorem Octal_any (a : Option Addr) (n c : Nat) (l : List UInt8) (w : World) (ev : Value) (h : Bs w a n c l) (hc : n ≤ 140737488355328) (hE : ErrIs w ev) :
    Calls Tryd.prog 65 #[.slice a n c] w fun e w' => e = .returned (decV (Plain.octal l)) ∧ Below w.heap.size w w' := by
  have hl := h.len; have hcap := h.cap
  have hbad := Plain.octal_bad l
  have hgood := Plain.octal_good l
  have hmlen : (l.dropWhile (· == 32)).length ≤ l.length := (List.dropWhile_sublist _).length_le
  have HTL : Hid (∀ w, Calls Tryd.prog 80 #[.string ⟨l.toArray⟩, .string ⟨#[32]⟩] w fun e w' => e = .returned (.string ⟨(l.dropWhile (· == 32)).toArray⟩) ∧ w' = w) := fun w => Tryd.strings_TrimLeft_one ⟨l.toArray⟩ 32 (by decide) w
  generalize l.dropWhile (· == 32) = m at *
  have hplen := trimR_len m
  have HTR : Hid (∀ w, Calls Tryd.prog 81 #[.string ⟨m.toArray⟩, .string ⟨#[32, 0]⟩] w fun e w' => e = .returned (.string ⟨(trimR m).toArray⟩) ∧ Below w.heap.size w w') := fun w => TrimGap_any m w (by omega)
  generalize trimR m = p at *
  have HTZ : Hid (∀ w, Calls Tryd.prog 80 #[.string ⟨p.toArray⟩, .string ⟨#[48]⟩] w fun e w' => e = .returned (.string ⟨(p.dropWhile (· == 48)).toArray⟩) ∧ w' = w) := fun w => Tryd.strings_TrimLeft_one ⟨p.toArray⟩ 48 (by decide) w
  have hp : p.length ≤ 140737488355328 := by omega
  generalize hr : Plain.octal l = r at *
  have HBAD := Lib.hid hbad; have HGOOD := Lib.hid hgood; have HE := Lib.hid hE
  clear hbad hgood hE hr hplen hmlen
  have hu := Lib.hid Tryd.underlying5
  go_enter Tryd.func65, Tryd.ntmps65
  go_wp2_with (first
    | (with_reducible refine wpList_str_of_bs rfl _ _ _ rfl Tryd.underlying22 hu.out Tryd.underlying9 rfl h ?_)
    | (go_at_call 80; (with_reducible refine (HTL.out _).mono ?_); rintro e w1 ⟨rfl, hw⟩; obtain rfl := hw.symm)
    | (go_at_call 81; (with_reducible refine (HTR.out _).mono ?_); rintro e w2 ⟨rfl, hb2⟩))
  go_loop [6] (fun i => ∃ k : Nat, k ≤ p.length ∧ i = .int .i64 k ∧ Hid ((p.take k).all isOct = true)) (fun i => p.length - (intOf i).toNat)
  case atStart => exact ⟨0, by omega, rfl, (rfl : (p.take 0).all isOct = true)⟩
  case round =>
    obtain ⟨k, hk, rfl, hz⟩ := hrel
    by_cases hlt : k < p.length
    · have hkn : (k : Int) < (p.length : Int) := by omega
      have hx := str_at p k hlt
      have hstep := oct_step p k hlt hz.out
      have hno := oct_no p k hlt
      generalize p.getD k 0 = g at hx hstep hno
      have HS := Lib.hid hstep; have HNO := Lib.hid hno; clear hstep hno
      by_cases d1 : (g.toNat : Int) < 48
      · obtain rfl := HBAD.out (HNO.out (by omega))
        go_wp2
        go_ret2
        exact ⟨rfl, hb2⟩
      · by_cases d2 : (55 : Int) < g.toNat
        · obtain rfl := HBAD.out (HNO.out (by omega))
          go_wp2
          go_ret2
          exact ⟨rfl, hb2⟩
        · have hs := Lib.hid (HS.out (by omega))
          go_wp2
          go_round
          case rel => exact ⟨k + 1, by omega, by go_num, hs⟩
          case measure => simp [intOf]; omega
    · obtain rfl : k = p.length := by omega
      have hall : p.all isOct = true := by have := hz.out; rwa [List.take_length] at this
      have hrr := HGOOD.out hall
      have hz0 := octAcc_zeros p
      have hall2 := all_dropWhile (q := (· == 48)) p hall
      have hlen2 : (p.dropWhile (· == 48)).length ≤ p.length := (List.dropWhile_sublist _).length_le
      generalize p.dropWhile (· == 48) = q at *
      by_cases hq : q = []
      · subst hq
        rw [octAcc_nil] at hz0
        rw [← hz0, if_pos (by decide)] at hrr
        obtain rfl := hrr
        clear hall hall2 hlen2 hz0 hz
        go_wp2_with (go_at_call 80; (with_reducible refine (HTZ.out _).mono ?_); rintro e w3 ⟨rfl, hw⟩; obtain rfl := hw.symm)
        go_ret2
        exact ⟨rfl, hb2⟩
      · have c1b : q.isEmpty = false := by simpa using hq
        have HPI := Lib.hid (fun w hw => ParseIntOct_any q hq (by omega) hall2 w ev hw)
        rw [← hz0] at hrr
        have HRR := Lib.hid hrr
        clear hall hall2 hz0 hz hrr hq
        generalize octAcc 0 q = v at *
        by_cases hv : v ≤ 9223372036854775807
        · have hf := HRR.out
          rw [if_pos hv] at hf
          obtain rfl := hf
          have HV := Lib.hid hv; clear hv
          go_wp2_with (first
            | (go_at_call 80; (with_reducible refine (HTZ.out _).mono ?_); rintro e w3 ⟨rfl, hw⟩; obtain rfl := hw.symm)
            | (go_at_call 75; refine (HPI.out _ (by exact HE.out.below hb2)).mono ?_; rintro e w4 ⟨x, er, rfl, hb4, hx1, _⟩; obtain ⟨rfl, rfl⟩ := hx1 HV.out; clear hx1))
          go_ret2
          exact ⟨rfl, Below.seq hb2 hb4⟩
        · have hf := HRR.out
          rw [if_neg hv] at hf
          obtain rfl := hf
          have HV := Lib.hid hv; clear hv
          go_wp2_with (first
            | (go_at_call 80; (with_reducible refine (HTZ.out _).mono ?_); rintro e w3 ⟨rfl, hw⟩; obtain rfl := hw.symm)
            | (go_at_call 75; refine (HPI.out _ (by exact HE.out.below hb2)).mono ?_; rintro e w4 ⟨x, er, rfl, hb4, _, hx2⟩; obtain ⟨te, pe, rfl⟩ := hx2 HV.out; clear hx2))
          go_ret2
          exact ⟨rfl, Below.seq hb2 hb4⟩
end Go.Proofs.YtjchaogfmnabfaaDoor
namespace Go.Proofs.YtjchaogfmnabfaaDoor
open Go.ChangeShapes Go.WideShapes Go.ChangeAt Go.RowKit
/-- how the test at a field's head answers -/
theorem number_cases {w : World} {a : Option Addr} {n c : Nat} {l : List UInt8} (h : Bs w a n c l) :
    (n = 0 ∧ Plain.number l = Plain.octal l) ∨ (∃ b off, ∃ G : Int, 0 < n ∧ a = some ⟨b, off, none⟩ ∧ w.cell? ⟨b, off, none⟩ = some (.int .u8 G) ∧ ((128 ≤ G ∧ Plain.number l = Plain.base256 l) ∨ (G < 128 ∧ Plain.number l = Plain.octal l))) := by
  have hl := h.len
  by_cases h0 : n = 0
  · exact .inl ⟨h0, by unfold Plain.number; rw [if_neg (by omega)]⟩
  · right
    obtain ⟨b, off, ha, hc⟩ := h.at 0 (by omega)
    rw [Nat.add_zero] at hc
    refine ⟨b, off, _, by omega, ha, hc, ?_⟩
    by_cases hg : 128 ≤ (l.getD 0 0).toNat
    · exact .inl ⟨by omega, by unfold Plain.number; rw [if_pos ⟨by omega, hg⟩]⟩
    · exact .inr ⟨by omega, by unfold Plain.number; rw [if_neg (fun h => hg h.2)]⟩
set_option maxHeartbeats 800000 in
theorem Number_any (a : Option Addr) (n c : Nat) (l : List UInt8) (w : World) (ev : Value) (h : Bs w a n c l) (hc : n ≤ 140737488355328) (hE : ErrIs w ev) :
    Calls Tryd.prog 45 #[.slice a n c] w fun e w' => e = .returned (decV (Plain.number l)) ∧ Below w.heap.size w w' := by
  have hB := Base256_any a n c l w h
  have hO := Octal_any a n c l w ev h hc hE
  have hq := number_cases h
  have HB := Lib.hid hB; have HO := Lib.hid hO; clear hB hO h hE
  rcases hq with ⟨rfl, hq⟩ | ⟨b, off, G, hn, rfl, hcell, ⟨hG, hq⟩ | ⟨hG, hq⟩⟩
  · rw [hq]; clear hq
    go_enter Tryd.func45, Tryd.ntmps45
    go_wp2_with (go_at_call 65; (with_reducible refine (HO.out).mono ?_); rintro e w1 ⟨rfl, hb⟩; unfold decV)
    go_ret2
    exact ⟨rfl, hb⟩
  · rw [hq]; clear hq
    have hn1 : (0 : Int) < n := by omega
    go_enter Tryd.func45, Tryd.ntmps45
    go_wp2_with (go_at_call 64; (with_reducible refine (HB.out).mono ?_); rintro e w1 ⟨rfl, hw⟩; obtain rfl := hw; unfold decV)
    go_ret2
    exact ⟨rfl, Below.refl _ _⟩
  · rw [hq]; clear hq
    have hn1 : (0 : Int) < n := by omega
    have hG2 : ¬ 128 ≤ G := by omega
    go_enter Tryd.func45, Tryd.ntmps45
    go_wp2_with (go_at_call 65; (with_reducible refine (HO.out).mono ?_); rintro e w1 ⟨rfl, hb⟩; unfold decV)
    go_ret2
    exact ⟨rfl, hb⟩
set_option maxHeartbeats 800000 in
theorem RefNumber_any (a : Option Addr) (n c : Nat) (l : List UInt8) (w : World) (h : Bs w a n c l) :
    Calls Tryd.prog 67 #[.slice a n c] w fun e w' => e = .returned (decV (Plain.number l)) ∧ Below w.heap.size w w' := by
  have hB := RefBase256_any a n c l w h
  have hO := RefOctal_any a n c l w h
  have hq := number_cases h
  have HB := Lib.hid hB; have HO := Lib.hid hO; clear hB hO h
  rcases hq with ⟨rfl, hq⟩ | ⟨b, off, G, hn, rfl, hcell, ⟨hG, hq⟩ | ⟨hG, hq⟩⟩
  · rw [hq]; clear hq
    go_enter Tryd.func67, Tryd.ntmps67
    go_wp2_with (go_at_call 84; (with_reducible refine (HO.out).mono ?_); rintro e w1 ⟨rfl, hw⟩; obtain rfl := hw; unfold decV)
    go_ret2
    exact ⟨rfl, Below.refl _ _⟩
  · rw [hq]; clear hq
    have hn1 : (0 : Int) < n := by omega
    go_enter Tryd.func67, Tryd.ntmps67
    go_wp2_with (go_at_call 83; (with_reducible refine (HB.out).mono ?_); rintro e w1 ⟨rfl, hb⟩; unfold decV)
    go_ret2
    exact ⟨rfl, hb⟩
  · rw [hq]; clear hq
    have hn1 : (0 : Int) < n := by omega
    have hG2 : ¬ 128 ≤ G := by omega
    go_enter Tryd.func67, Tryd.ntmps67
    go_wp2_with (go_at_call 84; (with_reducible refine (HO.out).mono ?_); rintro e w1 ⟨rfl, hw⟩; obtain rfl := hw; unfold decV)
    go_ret2
    exact ⟨rfl, Below.refl _ _⟩
end Go.Proofs.YtjchaogfmnabfaaDoor
namespace Go.Proofs.YtjchaogfmnabfaaDoor
open Go.ChangeShapes Go.WideShapes Go.ChangeAt Go.RowKit
/-- the one cell of math/bits' table that is read at 8 -/
def Bru (w : World) : Prop := w.cell? ⟨7, 7, none⟩ = some (.int .u8 3)
theorem Bru.below {w w' : World} (h : Bru w) (k : Below w.heap.size w w') : Bru w' := Below.keeps k _ _ h
theorem Tz64_8 (w : World) (h : Bru w) : Calls Tryd.prog 144 #[.int .u64 8] w fun e w' => e = .returned (.int .i64 3) ∧ w = w' := by
  unfold Bru at h
  have h1 : IntKind.u64.wrap (bits .and .u64 8 (IntKind.u64.wrap (-8)) * 285870213051353865) / 288230376151711744 = 7 := by decide +kernel
  go_enter Tryd.func144, Tryd.ntmps144
  go_wp2
  go_ret
  exact ⟨rfl, rfl⟩
theorem Tz_8 (w : World) (h : Bru w) : Calls Tryd.prog 133 #[.int .u64 8] w fun e w' => e = .returned (.int .i64 3) ∧ w = w' := by
  have H := Lib.hid (Tz64_8 w h); clear h
  go_enter Tryd.func133, Tryd.ntmps133
  go_wp2_with (go_at_call 144; (with_reducible refine (H.out).mono ?_); rintro e w1 ⟨rfl, hw⟩; obtain rfl := hw)
  go_ret
  exact ⟨rfl, rfl⟩
theorem Pow2_8 (w : World) : Calls Tryd.prog 132 #[.int .i64 8] w fun e w' => e = .returned (.bool true) ∧ w = w' := by
  have h1 : bits .and .i64 8 7 = 0 := by decide +kernel
  go_enter Tryd.func132, Tryd.ntmps132
  go_wp2
  go_ret
  exact ⟨rfl, rfl⟩
section
variable {P : Program} {ops : Array Oper} {rest : List Oper} {o : Oper} {a : Act} {w : World} {Q : Exit → Act → World → Prop}
/-- s[d] of a string whose byte there is known -/
theorem wpList_index_str (hgd : o.guard = none) (t : TypeId) (y x : Operand) (ho : o.op = .index t y x) (ht : P.underlying t = some .string) {s : ByteArray} (hy : a.eval y = .string s) {k : IntKind} (d : Nat) (hx : a.eval x = .int k (d : Int))
    (b : UInt8) (hb : s.data.toList[d]? = some b) (h : wpList P ops Q rest (a.put o.dst (.int .u8 (b.toNat : Int))) w) : wpList P ops Q (o :: rest) a w := by
  refine wpList_value hgd _ _ ?_ h
  have hr := run_index_string (P := P) (w := w) t s k (d : Int) ht
  obtain ⟨hlt, hv⟩ := List.getElem?_eq_some_iff.1 hb
  have hsz : d < s.size := by rw [Array.length_toList] at hlt; exact hlt
  have hgt : s[d]'hsz = b := by rw [← hv, Array.getElem_toList]; rfl
  have hx2 : (Instr.index t (.string s) (.int k (d : Int))).run P w = .ok (.int .u8 (b.toNat : Int)) w := by
    rw [hr, dif_pos ⟨by omega, by omega⟩]
    have : s[(d : Int).toNat]'(by omega) = b := hgt
    rw [this]
  simp [execOp, ho, hy, hx, hx2, Result.andThen]
end
def digs : ByteArray := ⟨#[48, 49, 50, 51, 52, 53, 54, 55, 56, 57, 97, 98, 99, 100, 101, 102, 103, 104, 105, 106, 107, 108, 109, 110, 111, 112, 113, 114, 115, 116, 117, 118, 119, 120, 121, 122]⟩
theorem digs_at (d : Nat) (h : d < 8) : digs.data.toList[d]? = some (UInt8.ofNat (48 + d)) := by
  have key : ∀ x : Fin 8, digs.data.toList[x.1]? = some (UInt8.ofNat (48 + x.1)) := by decide
  exact key ⟨d, h⟩
def z65 : List UInt8 := List.replicate 65 0
theorem zero65 : (Tryd.prog.info? 147).bind (·.zero) = some (.agg (rowA (z65))) := by kernel_rfl
theorem u64_and7 (n : Nat) (h : n < 18446744073709551616) : bits .and .u64 (n : Int) 7 = ((n % 8 : Nat) : Int) := by
  have e : bits .and .u64 (n : Int) 7 = ((n &&& 7 : Nat) : Int) := u64_and_nat n 7 h (by decide)
  rw [e, show (7 : Nat) = 2 ^ 3 - 1 by rfl, Nat.and_two_pow_sub_one_eq_mod]
theorem nd8_le22 (v : Nat) (h : v ≤ 9223372036854775807) : nd8 v ≤ 21 := nd8_le v 21 (by decide) (by have : (8 : Nat) ^ 21 = 9223372036854775808 := rfl; omega)
/-- what holds while the digits are laid -/
structure Odigs (w : World) (v k : Nat) (wr : World) : Prop where
  bel : Below w.heap.size w wr
  row : wr.heap[w.heap.size]? = some (.cells (rowA (fillRow 0 (octDig v) 65 k [])) 147 (0, 0))
theorem Odigs.start (w : World) (v : Nat) : Odigs w v 0 (w.alloc (.cells (rowA (z65)) 147)) := by
  refine ⟨(Below.refl _ _).alloc (Nat.le_refl _) _, ?_⟩
  rw [heap_alloc_new, fillRow_zero, List.append_nil]; rfl
theorem Odigs.step {w wr : World} {v k : Nat} (h : Odigs w v k wr) (hk : k < 65) (b : UInt8) (hb : b = octDig v k) : Odigs w v (k + 1) (wr.setCell ⟨w.heap.size, 64 - k, none⟩ (.int .u8 (b.toNat : Int))) := by
  subst hb
  refine ⟨h.bel.setCell (by simp) _, ?_⟩
  rw [heap_setCell_same _ _ _ _ _ _ h.row, show (Value.int .u8 ((octDig v k).toNat : Int)) = u8v (octDig v k) from rfl, rowA_set, show 64 - k = 65 - 1 - k by omega, fillRow_set 0 (octDig v) 65 k [] hk]
theorem Odigs.cell {w wr : World} {v k : Nat} (h : Odigs w v k wr) (hk : k < 65) (j : Nat) (hj : j < 65) : ∃ x, wr.cell? ⟨w.heap.size, j, none⟩ = some x :=
  ⟨_, by rw [cell_of_row _ _ _ _ _ _ h.row, rowA_at _ _ (by rw [fillRow_len _ _ _ _ _ (by omega)]; exact hj)]⟩
theorem Odigs.bs {w wr : World} {v k : Nat} (h : Odigs w v k wr) (hk : k ≤ 65) : Bs wr (some ⟨w.heap.size, 65 - k, none⟩) k k (octRow v k) := by
  refine ⟨by rw [List.length_map]; unfold octRow; rw [placeRow_len]; omega, Nat.le_refl _, by unfold maxLen; omega, fun j x hj => ⟨_, rfl, ?_⟩, fun h => by cases h⟩
  rw [Addr.add_lit, cell_of_row _ _ _ _ _ _ h.row]
  have hd := fillRow_drop 0 (octDig v) 65 k []
  rw [List.append_nil] at hd
  have e : (octRow v k) = (fillRow 0 (octDig v) 65 k []).drop (65 - k) := hd.symm
  rw [e, List.map_drop, List.getElem?_drop] at hj
  simpa [rowA] using hj
set_option maxRecDepth 100000 in
set_option maxHeartbeats 1600000 in
theorem FormatBits_8 (v : Nat) (hv : v ≤ 9223372036854775807) (w : World) (hT : Bru w) :
    Calls Tryd.prog 112 #[.slice none 0 0, .int .u64 v, .int .i64 8, .bool false, .bool false] w fun e w' => e = .returned (.tuple #[.slice none 0 0, .string ⟨(octRow v (nd8 v)).toArray⟩]) ∧ Below w.heap.size w w' := by
  have hn := nd8_le22 v hv
  have HT := Lib.hid hT; have HZ := Lib.hid zero65; clear hT
  go_enter Tryd.func112, Tryd.ntmps112
  go_wp2_with (first
    | (with_reducible refine wpList_alloc_z rfl _ rfl (rowA (z65)) HZ.out ?_)
    | (go_at_call 132; (with_reducible refine (Pow2_8 _).mono ?_); rintro e w1 ⟨rfl, hw⟩; obtain rfl := hw)
    | (go_at_call 133; (refine (Tz_8 _ (by exact HT.out.below (Odigs.start w v).bel)).mono ?_); rintro e w1 ⟨rfl, hw⟩; obtain rfl := hw))
  have hS := Odigs.start w v
  have HTW := Lib.hid (HT.out.below hS.bel)
  go_loopw [1, 13] (fun u i wr => ∃ k : Nat, k + nd8 (v / 8 ^ k) = nd8 v ∧ u = .int .u64 ((v / 8 ^ k : Nat) : Int) ∧ i = .int .i64 (65 - (k : Int)) ∧ Odigs w v k wr) (fun u _ _ => (intOf u).toNat)
  case atStart => exact ⟨0, by rw [Nat.pow_zero, Nat.div_one]; omega, by rw [Nat.pow_zero, Nat.div_one], by go_num, hS⟩
  case round =>
    obtain ⟨k, hk, rfl, rfl, hD⟩ := hrel
    have hdp := nd8_pos (v / 8 ^ k)
    have hk21 : k < 21 := by omega
    have hrec : 8 ≤ v / 8 ^ k → nd8 (v / 8 ^ k) = nd8 (v / 8 ^ (k + 1)) + 1 := fun h => by
      rw [Nat.pow_succ, ← Nat.div_div_eq_div_mul]
      conv => lhs; unfold nd8
      rw [if_neg (by omega)]
    have hnext : v / 8 ^ k / 8 = v / 8 ^ (k + 1) := by rw [Nat.pow_succ, ← Nat.div_div_eq_div_mul]
    have hle : v / 8 ^ k ≤ v := Nat.div_le_self _ _
    have hdig : octDig v k = UInt8.ofNat (48 + v / 8 ^ k % 8) := rfl
    have hlast : v / 8 ^ k < 8 → nd8 (v / 8 ^ k) = 1 := fun h => by unfold nd8; rw [if_pos h]
    generalize hU : v / 8 ^ (k + 1) = U' at *
    generalize v / 8 ^ k = U at *
    obtain ⟨j, hj⟩ : ∃ j : Nat, (65 : Int) - (k : Int) - 1 = (j : Int) := ⟨64 - k, by omega⟩
    have hjk : j = 64 - k := by omega
    have hj65 : (j : Int) < 65 := by omega
    obtain ⟨x0, hx0⟩ := hD.cell (by omega) j (by omega)
    have hfz := frozen_of_row _ _ j _ _ hD.row
    have hb := digs_at (U % 8) (Nat.mod_lt _ (by decide))
    have hand := u64_and7 U (by omega)
    have hm8 : U < 8 → U % 8 = U := fun h => Nat.mod_eq_of_lt h
    generalize hB : UInt8.ofNat (48 + U % 8) = B at hb hdig
    have hstep := hD.step (by omega) B hdig.symm
    rw [← hjk] at hstep
    have HBY := Lib.hid hb; have HSTEP := Lib.hid hstep; have HN := Lib.hid hnext; have HREC := Lib.hid hrec; have HLAST := Lib.hid hlast; have HK := Lib.hid hk; have HJK := Lib.hid hjk; have HM8 := Lib.hid hm8; have HU := Lib.hid hU
    clear hb hstep hnext hrec hlast hk hjk hdig hB hm8 hU
    by_cases h8 : 8 ≤ U
    · have h8i : (8 : Int) ≤ (U : Int) := by omega
      go_wp2_with (refine wpList_index_str rfl 9 _ _ rfl Tryd.underlying9 rfl (U % 8) rfl B HBY.out ?_)
      exact ⟨⟨k + 1, by have := HREC.out h8; have := HK.out; rw [HU.out]; omega, by rw [HU.out, ← HN.out]; go_num, by go_num, HSTEP.out⟩, by simp [intOf]; omega⟩
    · have h8i : ¬ (8 : Int) ≤ (U : Int) := by omega
      have h8j : (U : Int) < 8 := by omega
      have hidx := HM8.out (by omega)
      have hb2 := HBY.out
      rw [hidx] at hb2
      have HBY2 := Lib.hid hb2
      clear hb2 hidx hand
      have hk1 : k + 1 = nd8 v := by have := HLAST.out (by omega); have := HK.out; omega
      have hbs : Bs (wr.setCell ⟨w.heap.size, j, none⟩ (.int .u8 (B.toNat : Int))) (some ⟨w.heap.size, j, none⟩) (65 - j) (65 - j) (octRow v (nd8 v)) := by
        have := HSTEP.out.bs (by omega)
        rw [← hk1]
        have e1 : 65 - (k + 1) = j := by have := HJK.out; omega
        have e2 : 65 - j = k + 1 := by omega
        rw [e1] at this
        rw [e2]
        exact this
      have HBS := Lib.hid hbs; have hbel := HSTEP.out.bel
      clear hbs hk1
      have hj2 : j ≤ 65 := by omega
      have hj3 : j < 65 := by omega
      go_wp2_with (first
        | (refine wpList_index_str rfl 9 _ _ rfl Tryd.underlying9 rfl U rfl B HBY2.out ?_)
        | (with_reducible refine wpList_slice_row rfl _ _ _ _ rfl Tryd.underlying147 (by kernel_rfl) w.heap.size rfl j 65 .i64 .i64 rfl rfl hj2 (by decide) hj3 ?_)
        | (with_reducible refine wpList_str_of_bs rfl _ _ _ rfl Tryd.underlying22 Tryd.underlying5 Tryd.underlying9 rfl HBS.out ?_))
      go_ret2
      exact ⟨rfl, hbel⟩
set_option maxHeartbeats 800000 in
theorem FormatInt_8 (v : Nat) (hv : v ≤ 9223372036854775807) (w : World) (hT : Bru w) :
    Calls Tryd.prog 69 #[.int .i64 v, .int .i64 8] w fun e w' => e = .returned (.string ⟨(octRow v (nd8 v)).toArray⟩) ∧ Below w.heap.size w w' := by
  have HF : Hid (Calls Tryd.prog 85 #[.int .i64 v, .int .i64 8] w fun e w' => e = .returned (.string ⟨(octRow v (nd8 v)).toArray⟩) ∧ Below w.heap.size w w') := by
    have H := Lib.hid (FormatBits_8 v hv w hT)
    show Calls _ _ _ _ _
    have hn : ¬ (v : Int) < 0 := by omega
    clear hT
    go_enter Tryd.func85, Tryd.ntmps85
    go_wp2_with (go_at_call 112; (with_reducible refine (H.out).mono ?_); rintro e w1 ⟨rfl, hb⟩)
    go_ret
    exact ⟨rfl, hb⟩
  clear hT
  go_enter Tryd.func69, Tryd.ntmps69
  go_wp2_with (go_at_call 85; (with_reducible refine (HF.out).mono ?_); rintro e w1 ⟨rfl, hb⟩)
  go_ret
  exact ⟨rfl, hb⟩
end Go.Proofs.YtjchaogfmnabfaaDoor
namespace Go.Proofs.YtjchaogfmnabfaaDoor
set_option linter.unusedVariables false
set_option linter.unusedSimpArgs false
open Go.ChangeShapes Go.WideShapes Go.ChangeAt Go.RowKit
/-- c cells of a block are there and may be written -/
def FreeAt (w : World) (g c : Nat) : Prop := ∀ k, k < c → (w.cell? ⟨g, k, none⟩).isSome = true ∧ w.frozen? ⟨g, k, none⟩ = false
/-- a slice whose cells, spare ones too, may be written; its block lies from B on -/
def Free (w : World) (B : Nat) (a : Option Addr) (n c : Nat) : Prop := n ≤ c ∧ c ≤ maxLen ∧ ((a = none ∧ c = 0) ∨ ∃ g, a = some ⟨g, 0, none⟩ ∧ B ≤ g ∧ g < w.heap.size ∧ FreeAt w g c)
def blk? (a : Option Addr) : Option Nat := a.map (·.block)
/-- what an append onto a slice changes -/
structure Chg (B : Nat) (a : Option Addr) (n : Nat) (w w' : World) : Prop where
  bel : Below B w w'
  other : ∀ b, b < w.heap.size → blk? a ≠ some b → w'.heap[b]? = w.heap[b]?
  low : ∀ b k, b < w.heap.size → k < n → w'.cell? ⟨b, k, none⟩ = w.cell? ⟨b, k, none⟩
  there : ∀ b k, b < w.heap.size → (w.cell? ⟨b, k, none⟩).isSome = true → (w'.cell? ⟨b, k, none⟩).isSome = true
  froz : ∀ b k, b < w.heap.size → w'.frozen? ⟨b, k, none⟩ = w.frozen? ⟨b, k, none⟩
theorem Free.keep {w w' : World} {B : Nat} {a a1 : Option Addr} {n c n1 : Nat} (h : Free w B a n c) (k : Chg B a1 n1 w w') : Free w' B a n c := by
  obtain ⟨h1, h2, h3⟩ := h
  refine ⟨h1, h2, ?_⟩
  rcases h3 with h3 | ⟨g, rfl, hB, hg, hf⟩
  · exact .inl h3
  · exact .inr ⟨g, rfl, hB, Nat.lt_of_lt_of_le hg k.bel.size, fun j hj => ⟨k.there g j hg (hf j hj).1, by rw [k.froz g j hg]; exact (hf j hj).2⟩⟩
theorem Free.below {w w' : World} {B : Nat} {a : Option Addr} {n c : Nat} (h : Free w B a n c) (k : Below w.heap.size w w') : Free w' B a n c := by
  obtain ⟨h1, h2, h3⟩ := h
  refine ⟨h1, h2, ?_⟩
  rcases h3 with h3 | ⟨g, rfl, hB, hg, hf⟩
  · exact .inl h3
  · exact .inr ⟨g, rfl, hB, Nat.lt_of_lt_of_le hg k.size, fun j hj => ⟨by rw [k.cell (p := ⟨g, j, none⟩) hg]; exact (hf j hj).1, by rw [k.frozen (p := ⟨g, j, none⟩) hg]; exact (hf j hj).2⟩⟩
theorem Free.base {w : World} {B B' : Nat} {a : Option Addr} {n c : Nat} (h : Free w B a n c) (hb : B' ≤ B) : Free w B' a n c := by
  obtain ⟨h1, h2, h3⟩ := h
  refine ⟨h1, h2, ?_⟩
  rcases h3 with h3 | ⟨g, ha, hB, r⟩
  · exact .inl h3
  · exact .inr ⟨g, ha, by omega, r⟩
theorem Free.nil (w : World) (B : Nat) : Free w B none 0 0 := ⟨Nat.le_refl _, by unfold maxLen; omega, .inl ⟨rfl, rfl⟩⟩
/-- what is owned may be written -/
theorem own_free {w : World} {base : Nat} {e : TypeId} {a : Option Addr} {n c : Nat} {xs : List Value} (h : w.ownsRow base e 1 (.slice a n c) n xs) : Free w base a n c := by
  obtain ⟨hl, h⟩ := h
  rcases h with ⟨hv, h0⟩ | ⟨g, cap, cur, hv, hb, hh, hn, hm, hs, ht⟩
  · simp only [Value.slice.injEq] at hv
    obtain ⟨rfl, rfl, rfl⟩ := hv
    exact Free.nil _ _
  · simp only [Value.slice.injEq, true_and] at hv
    obtain ⟨rfl, rfl⟩ := hv
    refine ⟨hn, hm, .inr ⟨g, rfl, hb, (Array.getElem?_eq_some_iff.1 hh).1, fun k hk => ⟨?_, frozen_of_row _ _ _ _ _ hh⟩⟩⟩
    rw [cell_of_row _ _ _ _ _ _ hh]
    have : k < cur.size := by rw [hs]; omega
    simp [this]
/-- new blocks alone -/
theorem chg_grown {B : Nat} {a : Option Addr} {n : Nat} {w w' : World} (hg : w.grownBy w' none) (hB : B ≤ w.heap.size) : Chg B a n w w' := by
  have hb : ∀ b, b < w.heap.size → w'.heap[b]? = w.heap[b]? := fun b hb => hg.block b hb (by simp)
  exact ⟨⟨hg.os, hg.tape, hg.output, hg.size, fun k hk => hb k (by omega)⟩, fun b hb' _ => hb b hb',
    fun b k hb' _ => World.cell?_of_block (a := ⟨b, k, none⟩) (hb b hb'), fun b k hb' h => by rw [World.cell?_of_block (a := ⟨b, k, none⟩) (hb b hb')]; exact h, fun b k hb' => World.frozen?_of_block (a := ⟨b, k, none⟩) (hb b hb')⟩
theorem setCells_size (b : Nat) : ∀ (vs : List Value) (o : Nat) (w : World), (w.setCells b o vs).heap.size = w.heap.size
  | [], _, _ => rfl
  | v :: r, o, w => by rw [World.setCells, setCells_size b r]; simp
theorem setCells_other (b : Nat) : ∀ (vs : List Value) (o : Nat) (w : World) (k : Nat), k ≠ b → (w.setCells b o vs).heap[k]? = w.heap[k]?
  | [], _, _, _, _ => rfl
  | v :: r, o, w, k, h => by rw [World.setCells, setCells_other b r (o + 1) _ k h, heap_setCell_other _ _ _ _ (fun e => h (by simpa using e))]
theorem setCells_below (B b : Nat) (hb : B ≤ b) : ∀ (vs : List Value) (o : Nat) (w : World), Below B w (w.setCells b o vs)
  | [], _, _ => Below.refl _ _
  | v :: r, o, w => ((Below.refl B w).setCell (show B ≤ (⟨b, o, none⟩ : Addr).block from hb) v).trans (setCells_below B b hb r (o + 1) _)
/-- in place -/
theorem chg_place {B g n m : Nat} {w : World} {vs : List Value} (hB : B ≤ g) (hl : vs.length = m) (hv : ∀ j, j < m → (w.cell? ⟨g, n + j, none⟩).isSome = true) : Chg B (some ⟨g, 0, none⟩) n w (w.setCells g n vs) := by
  refine ⟨setCells_below B g hB vs n w, fun b _ h => setCells_other g vs n w b (fun e => h (by rw [e]; rfl)), fun b k _ hk => ?_, fun b k _ h => ?_, fun b k _ => World.frozen?_setCells g vs n w _⟩
  · exact World.cell?_setCells_out g vs n w _ (fun _ _ => .inl hk)
  · exact World.isSome_setCells g vs n w _ h
section
variable {P : Program}
/-- append(x, y...) of bytes, x a slice that may be written -/
theorem run_app_free (w : World) (t ty e : TypeId) (ht : P.underlying t = some (.slice e)) (hi : (P.info? e).map (fun i => (i.zero, i.size, i.bytes)) = some (some (.int .u8 0), 1, 1))
    (B : Nat) (hB : B ≤ w.heap.size) (a : Option Addr) (n c : Nat) (h : Free w B a n c) (ad : Addr) (m c2 : Nat) (news : List Value) (hl : news.length = m) (hnews : ∀ j v, news[j]? = some v → w.cell? (ad.add j) = some v) (h1 : ∀ v ∈ news, v.oneCell' = true)
    (hb : n + m ≤ 140737488355328) :
    ∃ a' c' w', (Builtin.append_ #[t, t] ty #[.slice a n c, .slice (some ad) m c2]).run P w = .ok (.slice a' (n + m) c') w' ∧ Free w' B a' (n + m) c' ∧ Chg B a n w w' ∧ (blk? a' = blk? a ∨ ∃ b, blk? a' = some b ∧ w.heap.size ≤ b) := by
  obtain ⟨i, hi, hz0, hz1, hz2⟩ := info_parts hi
  obtain ⟨hn, hc, hf⟩ := h
  have hml : n + m ≤ maxLen := by unfold maxLen; omega
  rcases hf with ⟨rfl, rfl⟩ | ⟨g, rfl, hg1, hg2, hfr⟩
  · obtain rfl : n = 0 := by omega
    obtain ⟨v', w', hr, ho, hgr, _⟩ := run_append_own (P := P) w w.heap.size t ty e i (.int .u8 0) 1 1 ht hi hz0 hz1 hz2 rfl (by decide) (.slice none 0 0) 0 [] (World.ownsRow_nil w _ e 1) ad m c2 news (by omega) hnews h1 hml (by omega) (Nat.le_refl _)
    obtain ⟨a', c', rfl⟩ := own_slice ho
    refine ⟨a', c', w', hr, (own_free ho).base hB, chg_grown hgr hB, ?_⟩
    obtain ⟨hlen, hh⟩ := ho
    rcases hh with ⟨hv, _⟩ | ⟨g, cap, cur, hv, hbg, hh, _⟩
    · simp only [Value.slice.injEq] at hv
      left; rw [hv.1]
    · simp only [Value.slice.injEq, true_and] at hv
      right
      exact ⟨g, by rw [hv.1]; rfl, hbg⟩
  · have hold : ∀ j u, (((List.range n).map fun j => (w.cell? ⟨g, j, none⟩).getD undef))[j]? = some u → w.cell? ⟨g, 0 + j, none⟩ = some u := by
      intro j u hj
      obtain ⟨hjn, he⟩ := List.getElem?_eq_some_iff.1 hj
      simp only [List.length_map, List.length_range] at hjn
      simp only [List.getElem_map, List.getElem_range] at he
      obtain ⟨v, hv⟩ := Option.isSome_iff_exists.1 (hfr j (by omega)).1
      rw [hv] at he
      simp only [Option.getD_some] at he
      rw [Nat.zero_add, hv, he]
    by_cases hr : n + m ≤ c
    · have hrun := run_append_room_cells (P := P) w t ty e i ht hi g 0 n c ad m c2 news (by rw [hz1]; omega) hnews h1 hr (fun j hj => by rw [hz1, Nat.zero_add, Nat.mul_one]; exact (hfr _ (by omega)).1) (fun j hj => by rw [hz1, Nat.zero_add, Nat.mul_one]; exact (hfr _ (by omega)).2)
      rw [hz1, Nat.zero_add, Nat.mul_one] at hrun
      have hch : Chg B (some ⟨g, 0, none⟩) n w (w.setCells g n news) := chg_place hg1 hl (fun j hj => (hfr _ (by omega)).1)
      refine ⟨_, _, _, hrun, ?_, hch, .inl rfl⟩
      have hF : Free w B (some ⟨g, 0, none⟩) (n + m) c := ⟨hr, hc, .inr ⟨g, rfl, hg1, hg2, hfr⟩⟩
      exact hF.keep hch
    · obtain ⟨v', w', hrun, r1, r2⟩ := run_append_arg_grows (P := P) w t ty e i (.int .u8 0) 1 1 ht hi hz0 hz1 hz2 rfl (by decide) ⟨g, 0, none⟩ n c ((List.range n).map fun j => (w.cell? ⟨g, j, none⟩).getD undef) (by simp) (fun j u hj => by rw [Addr.add_lit]; exact hold j u hj) ad m c2 news (by omega) hnews (by omega) hml (by omega)
      obtain ⟨a', c', rfl⟩ := own_slice r1
      refine ⟨a', c', w', hrun, (own_free r1).base hB, chg_grown r2 hB, .inr ?_⟩
      obtain ⟨hlen, hh⟩ := r1
      rcases hh with ⟨hv, h0⟩ | ⟨g', cap, cur, hv, hbg, hh, _⟩
      · omega
      · simp only [Value.slice.injEq, true_and] at hv
        exact ⟨g', by rw [hv.1]; rfl, hbg⟩
end
end Go.Proofs.YtjchaogfmnabfaaDoor
