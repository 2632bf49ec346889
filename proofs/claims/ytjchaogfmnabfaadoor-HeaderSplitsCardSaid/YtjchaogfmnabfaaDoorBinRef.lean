/-
  BinRef: the reference's Base256.
-/
import Derived.Test.YtjchaogfmnabfaaDoorBinWalk
import Derived.Test.YtjchaogfmnabfaaDoorArrs
import Derived.Deep.CutBlock
import Derived.Deep.DeepCutAuto
namespace Go.Proofs.YtjchaogfmnabfaaDoor
open Go.ChangeShapes Go.WideShapes Go.ChangeAt Go.RowKit
set_option maxRecDepth 100000 in
theorem RefBase256_low (a : Option Addr) (n c : Nat) (l : List UInt8) (w : World) (h : Bs w a n c l) (hlow : l = [] ∨ (l.getD 0 0).toNat < 128) :
    Calls Tryd.prog 83 #[.slice a n c] w fun e w' => e = .returned (decV (Plain.base256 l)) ∧ Below w.heap.size w w' := by
  have hl := h.len; have hcap := h.cap; have hmax := h.max
  rw [Plain.base256_low l hlow]
  by_cases h0 : n = 0
  · subst h0
    go_enter Tryd.func83, Tryd.ntmps83
    go_wp2
    go_ret2
    exact ⟨rfl, Below.refl _ _⟩
  · have hc := h.at 0 (by omega)
    have hg : (l.getD 0 0).toNat < 128 := by
      rcases hlow with h1 | h1
      · subst h1; simp at hl; omega
      · exact h1
    obtain ⟨b, off, rfl, hc⟩ := hc
    rw [Nat.add_zero] at hc
    generalize hG : ((l.getD 0 0).toNat : Int) = G at hc
    have g1 : G < 128 := by omega
    have hn0 : ((n : Int) == 0) = false := by rw [beq_eq_false_iff_ne]; omega
    have hn1 : (0 : Int) < n := by omega
    have hn2 : 0 < n := by omega
    have HL := Lib.hid hl; clear hl hG hlow h0
    go_enter Tryd.func83, Tryd.ntmps83
    go_wp2
    go_ret2
    exact ⟨rfl, Below.refl _ _⟩
set_option maxRecDepth 100000 in
theorem head_bits (c : UInt8) (h : 128 ≤ c.toNat) : bits .or .u8 (bits .and .u8 (c.toNat : Int) 127) (bits .and .u8 ((fillOf c).toNat : Int) 128) = ((headB c).toNat : Int) := by
  have key : ∀ x : Fin 256, 128 ≤ x.1 → ((x.1 &&& 127) ||| ((if 192 ≤ x.1 then 255 else 0) &&& 128)) = (if 192 ≤ x.1 then x.1 else x.1 - 128) := by decide
  have hx := key ⟨c.toNat, c.toNat_lt⟩ h
  simp only at hx
  have hc := c.toNat_lt
  have e1 : bits .and .u8 (c.toNat : Int) 127 = ((c.toNat &&& 127 : Nat) : Int) := u8_and_nat c.toNat 127 hc (by decide)
  have e2 : bits .and .u8 ((fillOf c).toNat : Int) 128 = (((fillOf c).toNat &&& 128 : Nat) : Int) := u8_and_nat (fillOf c).toNat 128 (fillOf c).toNat_lt (by decide)
  have l1 : c.toNat &&& 127 < 256 := Nat.lt_of_le_of_lt Nat.and_le_left hc
  have l2 : (fillOf c).toNat &&& 128 < 256 := Nat.lt_of_le_of_lt Nat.and_le_left (fillOf c).toNat_lt
  rw [e1, e2, u8_or_nat _ _ l1 l2]
  have e3 : (fillOf c).toNat = if 192 ≤ c.toNat then 255 else 0 := by unfold fillOf; split <;> rfl
  have e4 : (headB c).toNat = if 192 ≤ c.toNat then c.toNat else c.toNat - 128 := by
    unfold headB; split
    · rfl
    · rw [UInt8.toNat_ofNat']; omega
  rw [e3, e4, hx]
theorem farFill_step (l : List UInt8) (k : Nat) (h : farFill l k) (hk : k + 8 < l.length → (binRow l).getD (8 + k) 0 = fillOf (l.getD 0 0)) : farFill l (k + 1) := fun j hj hj2 => by
  by_cases e : j = k
  · subst e; exact hk hj2
  · exact h j (by omega) hj2
set_option maxRecDepth 100000 in
theorem and128 (c : UInt8) : bits .and .u8 (c.toNat : Int) 128 = (if 128 ≤ c.toNat then 128 else 0) := by
  have key : ∀ x : Fin 256, (x.1 &&& 128) = (if 128 ≤ x.1 then 128 else 0) := by decide
  have hx := key ⟨c.toNat, c.toNat_lt⟩
  simp only at hx
  have e1 : bits .and .u8 (c.toNat : Int) 128 = ((c.toNat &&& 128 : Nat) : Int) := u8_and_nat c.toNat 128 c.toNat_lt (by decide)
  rw [e1, hx]
  split <;> rfl
/-- what the last eight bytes say, where the others fill up -/
theorem last_res (l : List UInt8) (r : Int × Int) (h1 : 128 ≤ (l.getD 0 0).toNat) (h : 0 < l.length) (hf : farFill l l.length) (hr : Plain.base256 l = r) :
    ((128 ≤ ((lastK l l.length).getD 0 0).toNat ↔ 192 ≤ (l.getD 0 0).toNat) → r = (IntKind.i64.wrap (binAcc 0 (lastK l l.length)), 0)) ∧ (¬ (128 ≤ ((lastK l l.length).getD 0 0).toNat ↔ 192 ≤ (l.getD 0 0).toNat) → r = (0, 11)) := by
  have hv := far_good l h h1 hf
  have hlen := lastK_len l l.length
  rw [← hr, Plain.base256_at l h (by omega), hv]
  generalize lastK l l.length = m at *
  obtain ⟨c, t, rfl⟩ : ∃ c t, m = c :: t := by
    cases m with
    | nil => simp at hlen
    | cons c t => exact ⟨c, t, rfl⟩
  have hg : (c :: t).getD 0 0 = c := rfl
  have htl : t.length = 7 := by simpa using hlen
  have hb := binAcc_bd t
  rw [htl] at hb
  have e7 : (256 : Int) ^ 7 = 72057594037927936 := by rfl
  rw [hg, binAcc_cons, binAcc_pow, htl]
  rw [e7] at hb ⊢
  have hc := u8_lt c
  generalize binAcc 0 t = u at *
  unfold signOf
  constructor
  · intro he
    rw [if_pos]
    · rw [IntKind.wrap_i64]
      by_cases h2 : 192 ≤ (l.getD 0 0).toNat
      · rw [if_pos h2]
        have := he.2 h2
        congr 1; omega
      · rw [if_neg h2]
        have : ¬ 128 ≤ c.toNat := fun h3 => h2 (he.1 h3)
        congr 1; omega
    · rw [inI64_iff]
      by_cases h2 : 192 ≤ (l.getD 0 0).toNat
      · rw [if_pos h2]
        have := he.2 h2
        omega
      · rw [if_neg h2]
        have : ¬ 128 ≤ c.toNat := fun h3 => h2 (he.1 h3)
        omega
  · intro he
    rw [if_neg]
    rw [inI64_iff]
    by_cases h2 : 192 ≤ (l.getD 0 0).toNat
    · rw [if_pos h2]
      have : ¬ 128 ≤ c.toNat := fun h3 => he ⟨fun _ => h2, fun _ => h3⟩
      omega
    · rw [if_neg h2]
      have : 128 ≤ c.toNat := Classical.byContradiction fun h3 => he ⟨fun h4 => absurd h4 h3, fun h4 => absurd h4 h2⟩
      omega
/-- what holds of the world while the last eight bytes are taken -/
structure Lasts (w : World) (l : List UInt8) (k : Nat) (wr : World) : Prop where
  bel : Below w.heap.size w wr
  row : wr.heap[w.heap.size]? = some (.cells (rowA (lastK l k)) 120 (0, 0))
theorem Lasts.far {w wr : World} {l : List UInt8} {k : Nat} (h : Lasts w l k wr) (hk : k + 8 < l.length) : Lasts w l (k + 1) wr := ⟨h.bel, by rw [lastK_far l k hk]; exact h.row⟩
theorem Lasts.near {w wr : World} {l : List UInt8} {k : Nat} (h : Lasts w l k wr) (h8 : l.length ≤ k + 8) (hk : k < l.length) (m : UInt8) (hm : (binRow l).getD (8 + k) 0 = m) (p : Nat) (hp : p = 8 + k - l.length) : Lasts w l (k + 1) (wr.setCell ⟨w.heap.size, p, none⟩ (.int .u8 (m.toNat : Int))) := by
  subst hp
  refine ⟨h.bel.setCell (by simp) _, ?_⟩
  rw [heap_setCell_same _ _ _ _ _ _ h.row, show (Value.int .u8 (m.toNat : Int)) = u8v m from rfl, rowA_set, lastK_near l k h8 hk, hm]
theorem Lasts.cell {w wr : World} {l : List UInt8} {k : Nat} (h : Lasts w l k wr) (p : Nat) (hp : p < 8) : wr.cell? ⟨w.heap.size, p, none⟩ = some (.int .u8 (((lastK l k).getD p 0).toNat : Int)) := by
  rw [cell_of_row _ _ _ _ _ _ h.row, rowA_at _ _ (by rw [lastK_len]; exact hp)]
set_option maxRecDepth 100000 in
set_option maxHeartbeats 3200000 in
theorem RefBase256_high (a : Option Addr) (n c : Nat) (l : List UInt8) (w : World) (h : Bs w a n c l) (hne : 0 < l.length) (hhi : ¬ (l.getD 0 0).toNat < 128) :
    Calls Tryd.prog 83 #[.slice a n c] w fun e w' => e = .returned (decV (Plain.base256 l)) ∧ Below w.heap.size w w' := by
  have hl := h.len; have hcap := h.cap; have hmax := h.max
  obtain ⟨b, off, rfl, hc⟩ := h.at 0 (by omega)
  rw [Nat.add_zero] at hc
  generalize hG : ((l.getD 0 0).toNat : Int) = G at hc
  have g1 : 128 ≤ G := by omega
  have g2 : G < 256 := by have := u8_lt (l.getD 0 0); omega
  have hn0 : ((n : Int) == 0) = false := by rw [beq_eq_false_iff_ne]; omega
  have hn1 : (0 : Int) < n := by omega
  have hn2 : 0 < n := by omega
  have hF : ∃ F : Int, ((fillOf (l.getD 0 0)).toNat : Int) = F ∧ ((bits .and .u8 G 64 != 0) = true ∧ F = 255 ∨ (bits .and .u8 G 64 != 0) = false ∧ F = 0) := by
    refine ⟨_, rfl, ?_⟩
    have e := u8_and G 64 (by omega) g2 (by decide) (by decide)
    have hb : ∀ x : Fin 256, 128 ≤ x.1 → (x.1 &&& 64 = 0 ↔ x.1 < 192) := by decide
    have hx := hb ⟨G.toNat, by omega⟩ (by simp only; omega)
    have e64 : (64 : Int).toNat = 64 := rfl
    rw [e64] at e
    unfold fillOf
    by_cases h192 : 192 ≤ (l.getD 0 0).toNat
    · left
      rw [if_pos h192]
      refine ⟨?_, rfl⟩
      rw [bne_iff_ne, e]
      intro h0
      have := hx.1 (by simp only at *; omega)
      simp only at this
      omega
    · right
      rw [if_neg h192]
      refine ⟨?_, rfl⟩
      rw [bne_eq_false_iff_eq, e, hx.2 (by simp only; omega)]; rfl
  obtain ⟨F, hF1, hF2⟩ := hF
  have hz : Lasts w l 0 (w.alloc (.cells #[.int .u8 F, .int .u8 F, .int .u8 F, .int .u8 F, .int .u8 F, .int .u8 F, .int .u8 F, .int .u8 F] 120)) := by
    refine ⟨(Below.refl _ _).alloc (Nat.le_refl _) _, ?_⟩
    rw [heap_alloc_new, lastK_zero]
    rw [← hF1]; rfl
  generalize hr : Plain.base256 l = r
  have HR := Lib.hid hr; clear hr
  have HZ := Lib.hid hz; have HL := Lib.hid hl; have HG := Lib.hid hG; have HH := Lib.hid h; have HF := Lib.hid hF1
  clear hz hl hG h hF1
  have hF3 : (F = 255 ∨ F = 0) := by rcases hF2 with h | h; exact .inl h.2; exact .inr h.2
  go_enter Tryd.func83, Tryd.ntmps83
  go_upto_if 24 with fail
  go_cut [2, 3, 4] (fun s2 s3 s4 wx => s2 = .int .i64 0 ∧ s3 = .int .i64 0 ∧ s4 = .int .u8 F ∧ w = wx)
  case first =>
    rcases hF2 with ⟨hF2, hF4⟩ | ⟨hF2, hF4⟩
    all_goals
      subst hF4
      go_wp2
      go_meet
      exact ⟨rfl, rfl, rfl, rfl⟩
  case rest =>
    obtain ⟨rfl, rfl, rfl, rfl⟩ := hcut
    have HF3 := Lib.hid hF3
    clear hF2 hF3 hc
    go_wp2
    go_loopw [6] (fun i wr => ∃ k : Nat, k ≤ n ∧ i = .int .i64 k ∧ Lasts w l k wr ∧ Hid (farFill l k)) (fun i _ => n - (intOf i).toNat)
    case atStart => exact ⟨0, by omega, rfl, HZ.out, Lib.hid (fun k hk => absurd hk (Nat.not_lt_zero k))⟩
    case round =>
      obtain ⟨k, hk, rfl, hL, hfar⟩ := hrel
      have hbel := hL.bel
      by_cases hlt : k < n
      · obtain ⟨b1, off1, hb1, hc⟩ := (Below.bs hbel HH.out).at k hlt
        cases hb1
        have hrow := hL.row
        have hbad := farFill_bad l k
        have hM := binRow_at l k
        have hhd := head_bits (l.getD 0 0) (by have := HG.out; omega)
        have hst := farFill_step l k hfar.out
        have hlf := lastK_far l k
        have hln := lastK_near l k
        have hnear := fun (h8 : l.length ≤ k + 8) (p : Nat) (hp : p = 8 + k - l.length) => hL.near h8 (by rw [HL.out]; exact hlt) _ rfl p hp
        have hfarL := fun (h8 : k + 8 < l.length) => hL.far h8
        have hcell := fun (p : Nat) (hp : p < 8) => hL.cell p hp
        have hfz := frozen_of_row wr w.heap.size
        have HROW := Lib.hid hrow
        generalize (binRow l).getD (8 + k) 0 = mb at hbad hM hst hnear
        have hX : (k = 0 ∧ bits .or .u8 (bits .and .u8 ((l.getD k 0).toNat : Int) 127) (bits .and .u8 F 128) = (mb.toNat : Int)) ∨ (0 < k ∧ ((l.getD k 0).toNat : Int) = (mb.toNat : Int)) := by
          by_cases h0 : k = 0
          · left
            refine ⟨h0, ?_⟩
            rw [if_pos h0] at hM
            rw [hM, h0, ← HF.out]; exact hhd
          · right
            rw [if_neg h0] at hM
            exact ⟨by omega, by rw [hM]⟩
        generalize ((l.getD k 0).toNat : Int) = X at hc hX
        have hmb : (mb.toNat : Int) = F → mb = fillOf (l.getD 0 0) := fun e => UInt8.toNat_inj.1 (by have := HF.out; omega)
        have hmb2 : (mb.toNat : Int) ≠ F → mb ≠ fillOf (l.getD 0 0) := fun e h => e (by rw [h]; exact HF.out)
        generalize hMv : (mb.toNat : Int) = M at hX hnear hmb hmb2
        have HB := Lib.hid hbad; have HST := Lib.hid hst; have HNR := Lib.hid hnear; have HFL := Lib.hid hfarL; have HMB := Lib.hid hmb; have HMB2 := Lib.hid hmb2; have HC := Lib.hid hcell; have HFZ := Lib.hid hfz
        clear hbad hst hnear hfarL hmb hmb2 hM hhd hlf hln hrow hMv hcell hfz hfar
        have hi : (k : Int) < n := by omega
        by_cases h8 : k + 8 < n
        · have hback : (8 : Int) ≤ (n : Int) - 1 - k := by omega
          by_cases hMF : M = F
          · have q1 : (M != F) = false := by rw [bne_eq_false_iff_eq]; exact hMF
            have HST2 := Lib.hid (HST.out (fun _ => HMB.out hMF))
            clear hMF
            rcases hX with ⟨h0, hX⟩ | ⟨h0, hX⟩
            · have z1 : ((k : Int) == 0) = true := by rw [beq_iff_eq]; omega
              clear h0
              go_wp2
              go_roundw
              case rel => exact ⟨k + 1, by omega, by go_num, HFL.out (by rw [HL.out]; exact h8), HST2⟩
              case measure => simp [intOf]; omega
            · have z1 : ((k : Int) == 0) = false := by rw [beq_eq_false_iff_ne]; omega
              subst hX
              clear h0
              go_wp2
              go_roundw
              case rel => exact ⟨k + 1, by omega, by go_num, HFL.out (by rw [HL.out]; exact h8), HST2⟩
              case measure => simp [intOf]; omega
          · have q1 : (M != F) = true := by rw [bne_iff_ne]; exact hMF
            obtain rfl := HR.out.symm.trans (HB.out (by rw [HL.out]; exact h8) (by have := HG.out; omega) (HMB2.out hMF))
            clear hMF
            rcases hX with ⟨h0, hX⟩ | ⟨h0, hX⟩
            · have z1 : ((k : Int) == 0) = true := by rw [beq_iff_eq]; omega
              clear h0
              go_wp2
              go_ret2
              exact ⟨rfl, hbel⟩
            · have z1 : ((k : Int) == 0) = false := by rw [beq_eq_false_iff_ne]; omega
              subst hX
              clear h0
              go_wp2
              go_ret2
              exact ⟨rfl, hbel⟩
        · have hback : ¬ (8 : Int) ≤ (n : Int) - 1 - k := by omega
          have hback2 : (n : Int) - 1 - k < 8 := by omega
          obtain ⟨p, hp⟩ : ∃ p : Nat, 7 - ((n : Int) - 1 - k) = (p : Int) := ⟨8 + k - n, by omega⟩
          have hpp : p = 8 + k - l.length := by rw [HL.out]; omega
          have hv0 := HC.out p (by omega)
          have hf0 := HFZ.out p _ _ HROW.out
          have hp8 : (p : Int) < 8 := by omega
          have HST2 := Lib.hid (HST.out (fun h => absurd h (by rw [HL.out]; exact h8)))
          have HN2 := Lib.hid (HNR.out (by rw [HL.out]; omega) p hpp)
          have HPP := Lib.hid hpp
          clear hpp
          rcases hX with ⟨h0, hX⟩ | ⟨h0, hX⟩
          · have z1 : ((k : Int) == 0) = true := by rw [beq_iff_eq]; omega
            clear h0
            go_wp2
            go_roundw
            case rel => exact ⟨k + 1, by omega, by go_num, HN2.out, HST2⟩
            case measure => simp [intOf]; omega
          · have z1 : ((k : Int) == 0) = false := by rw [beq_eq_false_iff_ne]; omega
            subst hX
            clear h0
            go_wp2
            go_roundw
            case rel => exact ⟨k + 1, by omega, by go_num, HN2.out, HST2⟩
            case measure => simp [intOf]; omega
      · obtain rfl : n = k := by omega
        have hres := last_res l r (by have := HG.out; omega) (by rw [HL.out]; exact hn2) (by rw [HL.out]; exact hfar.out) HR.out
        have hrow := hL.row
        have hbel := hL.bel
        have hll := lastK_len l n
        rw [HL.out] at hres
        generalize lastK l n = m at hres hrow hll
        have hi : ¬ (n : Int) < n := by omega
        have hc0 : wr.cell? ⟨w.heap.size, 0, none⟩ = some (.int .u8 ((m.getD 0 0).toNat : Int)) := by rw [cell_of_row _ _ _ _ _ _ hrow, rowA_at _ _ (by rw [hll]; decide)]
        have hcs := fun (k : Nat) (hk : k < 8) => (by rw [cell_of_row _ _ _ _ _ _ hrow, rowA_at _ _ (by rw [hll]; exact hk)] : wr.cell? ⟨w.heap.size, k, none⟩ = some (.int .u8 ((m.getD k 0).toNat : Int)))
        have hand : bits .and .u8 ((m.getD 0 0).toNat : Int) 128 = (if 128 ≤ (m.getD 0 0).toNat then 128 else 0) := and128 _
        have hFF : F ≠ 0 ↔ 192 ≤ (l.getD 0 0).toNat := by
          rw [← HF.out]; unfold fillOf
          by_cases h2 : 192 ≤ (l.getD 0 0).toNat
          · rw [if_pos h2]; exact ⟨fun _ => h2, fun _ => by decide⟩
          · rw [if_neg h2]; exact ⟨fun h => absurd rfl h, fun h => absurd h h2⟩
        have hbad : ¬ (128 ≤ (m.getD 0 0).toNat ↔ F ≠ 0) → r = (0, 11) := fun h => hres.2 (fun h2 => h (h2.trans hFF.symm))
        have hgood : (128 ≤ (m.getD 0 0).toNat ↔ F ≠ 0) → r = (IntKind.i64.wrap (binAcc 0 m), 0) := fun h => hres.1 (h.trans hFF)
        generalize hB0 : ((m.getD 0 0).toNat : Int) = B0 at hc0 hand
        have HBAD := Lib.hid hbad; have HGOOD := Lib.hid hgood; have HCS := Lib.hid hcs; have HLL := Lib.hid hll; have HB0 := Lib.hid hB0
        have HAND := Lib.hid hand
        have hf8 := HF3.out
        clear hbad hgood hcs hll hB0 hres hrow hL hfar hand
        clear hFF
        by_cases hmis : (128 ≤ (m.getD 0 0).toNat ↔ F ≠ 0)
        · obtain rfl := HGOOD.out hmis
          have hcase : (bits .and .u8 B0 128 = 128 ∧ F = 255) ∨ (bits .and .u8 B0 128 = 0 ∧ F = 0) := by
            have ha := HAND.out
            by_cases hB : 128 ≤ (m.getD 0 0).toNat
            · rw [if_pos hB] at ha
              refine .inl ⟨ha, ?_⟩
              have := hmis.1 hB
              omega
            · rw [if_neg hB] at ha
              refine .inr ⟨ha, ?_⟩
              have : ¬ F ≠ 0 := fun h => hB (hmis.2 h)
              omega
          clear hmis hf8 HAND HB0
          rcases hcase with ⟨ha, rfl⟩ | ⟨ha, rfl⟩
          all_goals
            go_wp2
            clear ha hc0
            go_loop [9, 10] (fun v i => ∃ (k : Nat) (V : Int), k ≤ 8 ∧ i = .int .i64 k ∧ v = .int .i64 V ∧ -9223372036854775808 ≤ V ∧ V ≤ 9223372036854775807 ∧ Hid (V = IntKind.i64.wrap (binAcc 0 (m.take k)))) (fun _ i => 8 - (intOf i).toNat)
            case atStart => exact ⟨0, 0, by omega, rfl, rfl, by omega, by omega, Lib.hid (by rw [List.take_zero, binAcc_nil]; rfl)⟩
            case round =>
              obtain ⟨k, V, hk8, rfl, rfl, v1, v2, hV⟩ := hrel
              by_cases hk : k < 8
              · have hc := HCS.out k hk
                have hstep := binAcc_step 0 m k (by rw [HLL.out]; exact hk)
                generalize hY : ((m.getD k 0).toNat : Int) = Y at hc hstep
                have y1 : 0 ≤ Y := by omega
                have y2 : Y < 256 := by have := u8_lt (m.getD k 0); omega
                have hVV := hV.out
                obtain ⟨W, hW⟩ : ∃ W, wrap64 (V * 256) = W := ⟨_, rfl⟩
                have hor : bits .or .i64 W Y = IntKind.i64.wrap (binAcc 0 (m.take (k + 1))) := by
                  rw [i64_or256 _ _ (by rw [← hW]; unfold wrap64; omega) y1 y2, hstep, ← hW, hVV]
                  generalize binAcc 0 (m.take k) = q
                  rw [IntKind.wrap_i64, IntKind.wrap_i64, IntKind.wrap_i64]
                  unfold wrap64
                  omega
                have hbd : -9223372036854775808 ≤ IntKind.i64.wrap (binAcc 0 (m.take (k + 1))) ∧ IntKind.i64.wrap (binAcc 0 (m.take (k + 1))) ≤ 9223372036854775807 := by rw [IntKind.wrap_i64]; omega
                have hi8 : (k : Int) < 8 := by omega
                generalize hZ : IntKind.i64.wrap (binAcc 0 (m.take (k + 1))) = Z at hor hbd
                have HZZ := Lib.hid hZ.symm
                have z1 := hbd.1; have z2 := hbd.2
                clear hZ hVV hV hY hstep hbd
                go_wp2
                go_round
                case rel => exact ⟨k + 1, Z, by omega, by go_num, rfl, z1, z2, HZZ⟩
                case measure => simp [intOf]; omega
              · obtain rfl : k = 8 := by omega
                have hVV := hV.out
                rw [List.take_of_length_le (by rw [HLL.out]; exact Nat.le_refl _)] at hVV
                have HV2 := Lib.hid hVV
                clear hVV hV
                go_wp2
                go_ret2
                exact ⟨by rw [← HV2.out]; rfl, hbel⟩
        · obtain rfl := HBAD.out hmis
          by_cases hB : 128 ≤ (m.getD 0 0).toNat
          · have ha := HAND.out
            rw [if_pos hB] at ha
            rcases hf8 with rfl | rfl
            · exact absurd ⟨fun _ => by decide, fun _ => hB⟩ hmis
            · clear hmis hB
              go_wp2
              go_ret2
              exact ⟨rfl, hbel⟩
          · have ha := HAND.out
            rw [if_neg hB] at ha
            rcases hf8 with rfl | rfl
            · clear hmis hB
              go_wp2
              go_ret2
              exact ⟨rfl, hbel⟩
            · exact absurd ⟨fun h => absurd h hB, fun h => absurd rfl h⟩ hmis
theorem RefBase256_any (a : Option Addr) (n c : Nat) (l : List UInt8) (w : World) (h : Bs w a n c l) :
    Calls Tryd.prog 83 #[.slice a n c] w fun e w' => e = .returned (decV (Plain.base256 l)) ∧ Below w.heap.size w w' := by
  by_cases hlow : l = [] ∨ (l.getD 0 0).toNat < 128
  · exact RefBase256_low a n c l w h hlow
  · exact RefBase256_high a n c l w h (by cases l; exact absurd (.inl rfl) hlow; simp) (fun h => hlow (.inr h))
end Go.Proofs.YtjchaogfmnabfaaDoor
