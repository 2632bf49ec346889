/-
  RefOne: the reference's one: the count of digits.
-/
import Derived.Test.YtjchaogfmnabfaaDoorRecRead
import Derived.Test.YtjchaogfmnabfaaDoorDecs
import Derived.Test.YtjchaogfmnabfaaDoorRefOneLaw
import Derived.Test.YtjchaogfmnabfaaDoorRowl
import Derived.RegionTactic
import Derived.Outline
import Derived.Deep.DeepCutAuto
import Derived.Deep.CutBlock
import Derived.BigRegion
namespace Go.Proofs.YtjchaogfmnabfaaDoor
set_option linter.unusedVariables false
set_option linter.unusedSimpArgs false
open Go.ChangeShapes Go.WideShapes Go.ChangeAt Go.RowKit
theorem run_str_of_bs {P : Program} {w : World} {src dst e : TypeId} (hs : P.underlying src = some (.slice e)) (he : P.underlying e = some (.int .u8)) (hd : P.underlying dst = some .string)
    {ao : Option Addr} {n c : Nat} {l : List UInt8} (hb : Bs w ao n c l) : (convert src dst (.slice ao n c)).run P w = .ok (.string ⟨l.toArray⟩) w := by
  cases ao with
  | none =>
    obtain ⟨rfl, rfl⟩ := hb.2.2.2.2 rfl
    have : l = [] := List.eq_nil_of_length_eq_zero hb.len
    subst this
    exact run_convert_bytes_nil w src e hs he 0 0 dst hd
  | some ad =>
    obtain rfl := hb.len
    exact run_convert_bytes_back w src dst e ad c l hs he hd (fun j hj => by
      obtain ⟨x, hx, hc⟩ := hb.2.2.2.1 j (u8v l[j]) (by simp [List.getElem?_eq_getElem hj])
      cases hx
      exact hc)
/-- a part of a slice at a known place -/
theorem bs_part {w : World} {b off n c : Nat} {l : List UInt8} (h : Bs w (some ⟨b, off, none⟩) n c l) (lo hi : Nat) (h1 : lo ≤ hi) (h2 : hi ≤ n) (hne : ¬ c = lo) : Bs w (some ⟨b, off + lo, none⟩) (hi - lo) (c - lo) ((l.take hi).drop lo) := by
  have := bs_cut h lo hi h1 h2
  rw [if_neg hne, Option.map_some, Nat.mul_one, Addr.add_lit] at this
  exact this
theorem count_step {l : List UInt8} {d : Nat} (hd : d < l.length) (h10 : d < 10) (h : ∀ k, k < d → isDig (l.getD k 0) = true) (h1 : 48 ≤ (l.getD d 0).toNat) (h2 : (l.getD d 0).toNat ≤ 57) : ∀ k, k < d + 1 → isDig (l.getD k 0) = true := by
  intro k hk
  by_cases e : k = d
  · subst e; exact (isDig_iff _).2 ⟨h1, h2⟩
  · exact h k (by omega)
def OneRes (w : World) (r : Option ((List UInt8 × List UInt8) × Nat)) (e : Ending) (w' : World) : Prop :=
  Below w.heap.size w w' ∧ match r with
    | none => e = .returned (.tuple #[.agg #[.string ⟨#[]⟩, .string ⟨#[]⟩], .int .i64 0])
    | some (p, m) => e = .returned (.tuple #[.agg #[.string ⟨p.1.toArray⟩, .string ⟨p.2.toArray⟩], .int .i64 (m : Int)])
/-- the world with the result's variable -/
structure ResAt (w wr : World) : Prop where
  bel : Below w.heap.size w wr
  lt : w.heap.size < wr.heap.size
  c0 : wr.cell? ⟨w.heap.size, 0, none⟩ = some (.string ⟨#[]⟩)
  c1 : wr.cell? ⟨w.heap.size, 1, none⟩ = some (.string ⟨#[]⟩)
  f0 : wr.frozen? ⟨w.heap.size, 0, none⟩ = false
  f1 : wr.frozen? ⟨w.heap.size, 1, none⟩ = false
theorem ResAt.of (w : World) : ResAt w (w.alloc (.cells #[.string ⟨#[]⟩, .string ⟨#[]⟩] 39)) := by
  have hr := heap_alloc_new w (.cells #[.string ⟨#[]⟩, .string ⟨#[]⟩] 39)
  exact ⟨(Below.refl _ _).alloc (Nat.le_refl _) _, by simp, by rw [cell_of_row _ _ _ _ _ _ hr]; rfl, by rw [cell_of_row _ _ _ _ _ _ hr]; rfl, frozen_of_row _ _ _ _ _ hr, frozen_of_row _ _ _ _ _ hr⟩
theorem ResAt.keep {w wr w' : World} (h : ResAt w wr) (k : Below wr.heap.size wr w') : ResAt w w' := by
  have hl := h.lt
  have hz := k.size
  refine ⟨Below.seq h.bel k, by omega, Below.keeps k _ _ h.c0, Below.keeps k _ _ h.c1, ?_, ?_⟩
  · rw [k.frozen (p := ⟨w.heap.size, 0, none⟩) hl]; exact h.f0
  · rw [k.frozen (p := ⟨w.heap.size, 1, none⟩) hl]; exact h.f1
set_option maxRecDepth 100000 in
set_option maxHeartbeats 3200000 in
theorem RefOne_any (a : Option Addr) (n c : Nat) (l : List UInt8) (w : World) (h : Bs w a n c l) (hn : n ≤ 140737488351232) :
    Calls Tryd.prog 35 #[.slice a n c] w (OneRes w (Plain.one l)) := by
  have hl := h.len; have hcap := h.cap; have hmax := h.max
  have HL := Lib.hid hl; have HH := Lib.hid h; clear hl h
  generalize hr : Plain.one l = r
  have HR := Lib.hid hr; clear hr
  have HB1 := Lib.hid (((Below.refl w.heap.size w).alloc (Nat.le_refl _) (.cells #[.string ⟨#[]⟩, .string ⟨#[]⟩] 39)))
  go_enter Tryd.func35, Tryd.ntmps35
  go_upto_block 0 with fail
  go_cut [4] (fun s4 wx => Hid (wx = w.alloc (.cells #[.string ⟨#[]⟩, .string ⟨#[]⟩] 39)) ∧ ∃ d : Nat, d ≤ n ∧ s4 = .int .i64 d ∧ Hid (DigCount l d))
  case first =>
    go_wp2_with fail
    go_loopw [4] (fun i wx => Hid (wx = w.alloc (.cells #[.string ⟨#[]⟩, .string ⟨#[]⟩] 39)) ∧ ∃ d : Nat, d ≤ n ∧ d ≤ 10 ∧ i = .int .i64 d ∧ Hid (∀ k, k < d → isDig (l.getD k 0) = true)) (fun i _ => n - (intOf i).toNat)
    case atStart => exact ⟨rfl, 0, by omega, by omega, rfl, Lib.hid (fun k hk => absurd hk (Nat.not_lt_zero k))⟩
    case round =>
      obtain ⟨hwr, d, hd, h10, rfl, hz⟩ := hrel
      obtain rfl := hwr.out
      have hend : (d < n → d < 10 → isDig (l.getD d 0) = false) → DigCount l d := fun hno => ⟨by rw [HL.out]; exact hd, h10, hz.out, fun h1 h2 => hno (by rw [← HL.out]; exact h1) h2⟩
      by_cases hlt : d < n
      · by_cases hlt2 : d < 10
        · obtain ⟨b, off, rfl, hc⟩ := (Below.bs HB1.out HH.out).at d hlt
          have hio := isDig_iff (l.getD d 0)
          have hs := fun h1 h2 => count_step (by rw [HL.out]; exact hlt) hlt2 hz.out h1 h2
          have hi : (d : Int) < n := by omega
          have hi2 : (d : Int) < 10 := by omega
          generalize l.getD d 0 = g at *
          have HS := Lib.hid hs; have HE := Lib.hid hend; have HIO := Lib.hid hio; clear hs hend hz hio
          by_cases h1 : (48 : Int) ≤ g.toNat
          · by_cases h2 : (g.toNat : Int) ≤ 57
            · go_wp2
              go_round
              case rel => exact ⟨by first | exact Lib.hid trivial | exact rfl, d + 1, by omega, by omega, by go_num, Lib.hid (HS.out (by omega) (by omega))⟩
              case measure => simp [intOf]; omega
            · go_wp2
              go_meet
              exact ⟨rfl, d, by omega, rfl, Lib.hid (HE.out fun _ _ => by rw [← Bool.not_eq_true, HIO.out]; omega)⟩
          · go_wp2
            go_meet
            exact ⟨rfl, d, by omega, rfl, Lib.hid (HE.out fun _ _ => by rw [← Bool.not_eq_true, HIO.out]; omega)⟩
        · have HE := Lib.hid (hend fun _ h => absurd h hlt2)
          have hi : (d : Int) < n := by omega
          have hi2 : ¬ (d : Int) < 10 := by omega
          clear hend hz
          go_wp2
          go_meet
          exact ⟨rfl, d, by omega, rfl, HE⟩
      · have HE := Lib.hid (hend fun h => absurd h hlt)
        clear hend hz
        have hi : ¬ (d : Int) < n := by omega
        go_wp2
        go_meet
        exact ⟨rfl, d, by omega, rfl, HE⟩
  case rest =>
    obtain ⟨hwx, d, hd, rfl, HD⟩ := hcut
    have hN := ResAt.of w
    rw [← hwx.out] at hN
    have hc0 := hN.c0; have hc1 := hN.c1; have hf0 := hN.f0; have hf1 := hN.f1; have hbel := hN.bel; have hlt := hN.lt
    clear hN hwx HB1
    have HA := Lib.hid (Below.bs hbel HH.out)
    by_cases htop : RecTop l d
    · obtain ⟨hhd, hdec, hone⟩ := one_top l d htop HD.out.dig
      obtain ⟨t1, t9, t48, tn, t32⟩ := htop
      rw [HL.out] at tn hone
      generalize hX : decAcc 0 (l.take d) = X at *
      have HDEC := Lib.hid (RefDecimal_any (l.take d) · (by rw [List.length_take]; omega))
      rw [hdec] at HDEC
      obtain ⟨b, off, rfl, hx0⟩ := HA.out.at 0 (by omega)
      rw [Nat.add_zero] at hx0
      obtain ⟨b', off', hbb, hxd⟩ := HA.out.at d tn
      obtain ⟨rfl, rfl⟩ : b' = b ∧ off' = off := by simpa using hbb.symm
      rw [t32, show ((32 : UInt8).toNat : Int) = 32 from rfl] at hxd
      have h0i : ((d : Int) == 0) = false := by rw [beq_eq_false_iff_ne]; omega
      have h9i : ¬ (9 : Int) < d := by omega
      have hn0 : (0 : Int) < n := by omega
      have hg0 : (((l.getD 0 0).toNat : Int) == 48) = false := by rw [beq_eq_false_iff_ne]; intro e; exact t48 (UInt8.toNat_inj.1 (by simpa using (by omega : (l.getD 0 0).toNat = 48)))
      have hdni : ¬ (n : Int) ≤ d := by omega
      have hdi : (d : Int) < n := by omega
      generalize l.getD 0 0 = y0 at *
      clear hbb t48 t32 hdec hX
      by_cases hXn : n < X
      · have hno : r = Option.none := by rw [← HR.out, hone, if_neg (by omega)]
        subst hno
        have hXi : (n : Int) < X := by omega
        clear hone
        go_wp2_with (first
          | ((refine wpList_slice_bs rfl _ _ Option.none _ rfl Tryd.underlying22 (by kernel_rfl) rfl HA.out 0 d .i64 .i64 rfl rfl (by omega) (by omega) ?_); intro a5 hb5; rw [List.drop_zero, Nat.sub_zero, Nat.sub_zero] at hb5; rw [Nat.sub_zero, Nat.sub_zero]; have HS5 := Lib.hid hb5; clear hb5)
          | (with_reducible refine wpList_str_of_bs rfl _ _ _ rfl Tryd.underlying22 Tryd.underlying5 Tryd.underlying9 rfl HS5.out ?_)
          | (go_at_call 61; (refine (HDEC.out _).mono ?_); rintro e w4 ⟨rfl, hw4⟩; obtain rfl := hw4; unfold decV))
        refine bodyPost_ret (v := .tuple #[.agg #[.string ⟨#[]⟩, .string ⟨#[]⟩], .int .i64 0]) (by simp [results, Tryd.results35, go_sem, hc0, hc1]) rfl ⟨?_, rfl⟩
        (first | exact hbel | exact hbel.setCell (by simp) _ | exact (hbel.setCell (by simp) _).setCell (by simp) _)
      · by_cases hX4 : X < d + 4
        · have hno : r = Option.none := by
            rw [← HR.out, hone]
            split
            · rename_i hc; exact one_size l d X hc.1 (by rw [HL.out]; omega) hX4
            · rfl
          subst hno
          have hXi : ¬ (n : Int) < X := by omega
          have hXj : (X : Int) < d + 4 := by omega
          clear hone
          go_wp2_with (first
            | ((refine wpList_slice_bs rfl _ _ Option.none _ rfl Tryd.underlying22 (by kernel_rfl) rfl HA.out 0 d .i64 .i64 rfl rfl (by omega) (by omega) ?_); intro a5 hb5; rw [List.drop_zero, Nat.sub_zero, Nat.sub_zero] at hb5; rw [Nat.sub_zero, Nat.sub_zero]; have HS5 := Lib.hid hb5; clear hb5)
            | (with_reducible refine wpList_str_of_bs rfl _ _ _ rfl Tryd.underlying22 Tryd.underlying5 Tryd.underlying9 rfl HS5.out ?_)
            | (go_at_call 61; (refine (HDEC.out _).mono ?_); rintro e w4 ⟨rfl, hw4⟩; obtain rfl := hw4; unfold decV))
          refine bodyPost_ret (v := .tuple #[.agg #[.string ⟨#[]⟩, .string ⟨#[]⟩], .int .i64 0]) (by simp [results, Tryd.results35, go_sem, hc0, hc1]) rfl ⟨?_, rfl⟩
          (first | exact hbel | exact hbel.setCell (by simp) _ | exact (hbel.setCell (by simp) _).setCell (by simp) _)
        · obtain ⟨Y, rfl⟩ : ∃ Y, X = Y + 1 := ⟨X - 1, by omega⟩
          rw [show ((Y + 1 : Nat) : Int) = (Y : Int) + 1 from rfl] at HDEC
          have hYn : Y < n := by omega
          obtain ⟨b2, off2, hbb2, hxy⟩ := HA.out.at Y hYn
          obtain ⟨rfl, rfl⟩ : b2 = b' ∧ off2 = off' := by simpa using hbb2.symm
          have hXi : ¬ (n : Int) < (Y : Int) + 1 := by omega
          have hXj : ¬ (Y : Int) + 1 < d + 4 := by omega
          have hYi : (Y : Int) < n := by omega
          rw [if_pos ⟨by omega, by omega⟩, recBody_eq l d (Y + 1) (by omega) (by rw [HL.out]; omega), Nat.add_sub_cancel] at hone
          clear hbb2
          by_cases g10 : l.getD Y 0 = 10
          · rw [if_pos g10] at hone
            rw [g10, show ((10 : UInt8).toNat : Int) = 10 from rfl] at hxy
            have HONE := Lib.hid hone; clear hone g10
            go_upto_block 2 with (first
            | ((refine wpList_slice_bs rfl _ _ Option.none _ rfl Tryd.underlying22 (by kernel_rfl) rfl HA.out 0 d .i64 .i64 rfl rfl (by omega) (by omega) ?_); intro a5 hb5; rw [List.drop_zero, Nat.sub_zero, Nat.sub_zero] at hb5; rw [Nat.sub_zero, Nat.sub_zero]; have HS5 := Lib.hid hb5; clear hb5)
            | (with_reducible refine wpList_str_of_bs rfl _ _ _ rfl Tryd.underlying22 Tryd.underlying5 Tryd.underlying9 rfl HS5.out ?_)
            | (go_at_call 61; (refine (HDEC.out _).mono ?_); rintro e w4 ⟨rfl, hw4⟩; obtain rfl := hw4; unfold decV))

            go_cut [7] (fun s7 wy => Hid (wy = wc) ∧ ∃ q : Nat, d + 1 ≤ q ∧ q ≤ Y ∧ s7 = .int .i64 q ∧ Hid (∀ k, d + 1 ≤ k → k < q → l.getD k 0 ≠ 61) ∧ Hid (q < Y → l.getD q 0 = 61))
            case first =>
              go_wp2_with fail
              go_loopw [7] (fun i wy => Hid (wy = wc) ∧ ∃ q : Nat, d + 1 ≤ q ∧ q ≤ Y ∧ i = .int .i64 q ∧ Hid (∀ k, d + 1 ≤ k → k < q → l.getD k 0 ≠ 61)) (fun i _ => n - (intOf i).toNat)
              case atStart => exact ⟨rfl, d + 1, by omega, by omega, rfl, Lib.hid (fun k h1 h2 => absurd h2 (by omega))⟩
              case round =>
                obtain ⟨hwr, q, hq1, hq2, rfl, hz⟩ := hrel
                obtain rfl := hwr.out
                by_cases hlt : q < Y
                · obtain ⟨b3, off3, hbb3, hxq⟩ := HA.out.at q (by omega)
                  obtain ⟨rfl, rfl⟩ : b3 = b2 ∧ off3 = off2 := by simpa using hbb3.symm
                  clear hbb3
                  have hs : l.getD q 0 ≠ 61 → ∀ k, d + 1 ≤ k → k < q + 1 → l.getD k 0 ≠ 61 := fun hne k h1 h2 => by
                    by_cases e : k = q
                    · subst e; exact hne
                    · exact hz.out k h1 (by omega)
                  have hqi : (q : Int) < Y := by omega
                  have hqn : (q : Int) < n := by omega
                  by_cases g : l.getD q 0 = 61
                  · rw [g, show ((61 : UInt8).toNat : Int) = 61 from rfl] at hxq
                    have G := Lib.hid g
                    clear hs g
                    go_wp2
                    go_meet
                    exact ⟨rfl, q, by omega, by omega, rfl, hz, Lib.hid (fun _ => G.out)⟩
                  · have hg : (((l.getD q 0).toNat : Int) != 61) = true := by
                      rw [bne_iff_ne]; intro e
                      exact g (UInt8.toNat_inj.1 (by simpa using (by omega : (l.getD q 0).toNat = 61)))
                    have HS := Lib.hid (hs g)
                    generalize l.getD q 0 = yq at *
                    clear hs g
                    go_wp2
                    go_round
                    case rel => exact ⟨by first | exact Lib.hid trivial | exact rfl, q + 1, by omega, by omega, by go_num, HS⟩
                    case measure => simp [intOf]; omega
                · have hqi : ¬ (q : Int) < Y := by omega
                  go_wp2
                  go_meet
                  exact ⟨rfl, q, by omega, by omega, rfl, hz, Lib.hid (fun h => absurd h hlt)⟩
            case rest =>
              obtain ⟨hwy, q, hq1, hq2, rfl, hz, hat⟩ := hcut
              obtain rfl := hwy.out
              have htx := text_at l d q Y hq1 hq2 (by rw [HL.out]; omega) hz.out hat.out
              have HTX := Lib.hid htx
              clear htx hz hat
              by_cases e1 : q = Y
              · have hno : r = Option.none := by rw [← HR.out, HONE.out, HTX.out, if_pos (.inl e1)]; rfl
                subst hno
                clear HONE HTX
                have e1i : ((q : Int) == Y) = true := by rw [beq_iff_eq]; omega
                go_wp2
                refine bodyPost_ret (v := .tuple #[.agg #[.string ⟨#[]⟩, .string ⟨#[]⟩], .int .i64 0]) (by simp [results, Tryd.results35, go_sem, hc0, hc1]) rfl ⟨?_, rfl⟩
                (first | exact hbel | exact hbel.setCell (by simp) _ | exact (hbel.setCell (by simp) _).setCell (by simp) _)
              · have e1i : ((q : Int) == Y) = false := by rw [beq_eq_false_iff_ne]; omega
                by_cases e2 : q = d + 1
                · have hno : r = Option.none := by rw [← HR.out, HONE.out, HTX.out, if_pos (.inr e2)]; rfl
                  subst hno
                  clear HONE HTX
                  have e2i : ((q : Int) == (d : Int) + 1) = true := by rw [beq_iff_eq]; omega
                  go_wp2
                  refine bodyPost_ret (v := .tuple #[.agg #[.string ⟨#[]⟩, .string ⟨#[]⟩], .int .i64 0]) (by simp [results, Tryd.results35, go_sem, hc0, hc1]) rfl ⟨?_, rfl⟩
                  (first | exact hbel | exact hbel.setCell (by simp) _ | exact (hbel.setCell (by simp) _).setCell (by simp) _)
                · have e2i : ((q : Int) == (d : Int) + 1) = false := by rw [beq_eq_false_iff_ne]; omega
                  have hyes : r = Option.some (((l.take q).drop (d + 1), (l.take Y).drop (q + 1)), Y + 1) := by rw [← HR.out, HONE.out, HTX.out, if_neg (by rintro (h | h); exact e1 h; exact e2 h)]; rfl
                  subst hyes
                  clear HONE HTX
                  have HBEL := Lib.hid hbel
                  clear hbel
                  have y1 : (d : Int) + 1 ≤ q := by omega
                  have y2 : (q : Int) ≤ c := by omega
                  have y3 : (0 : Int) ≤ (d : Int) + 1 := by omega
                  have y4 : (q : Int) + 1 ≤ Y := by omega
                  have y5 : (Y : Int) ≤ c := by omega
                  have y6 : (0 : Int) ≤ (q : Int) + 1 := by omega
                  have y7 : ¬ c = d + 1 := by omega
                  have y8 : ¬ c = q + 1 := by omega
                  have y9 : (c : Int) ≤ c := by omega
                  have kc1 : (convert 22 9 (.slice (some ⟨b2, off2 + (d + 1), none⟩) (q - (d + 1)) (c - (d + 1)))).run Tryd.prog wc.drew = .ok (.string ⟨((l.take q).drop (d + 1)).toArray⟩) wc.drew := run_str_of_bs Tryd.underlying22 Tryd.underlying5 Tryd.underlying9 (bs_part ((Keeps.drew _).bs HA.out) (d + 1) q hq1 (by omega) y7)
                  have kc2 : (convert 22 9 (.slice (some ⟨b2, off2 + (q + 1), none⟩) (Y - (q + 1)) (c - (q + 1)))).run Tryd.prog wc.drew = .ok (.string ⟨((l.take Y).drop (q + 1)).toArray⟩) wc.drew := run_str_of_bs Tryd.underlying22 Tryd.underlying5 Tryd.underlying9 (bs_part ((Keeps.drew _).bs HA.out) (q + 1) Y (by omega) (by omega) y8)
                  go_wp2
                  clear HA HH HD HDEC e1i e2i e1 e2 hx0 hxd hxy
                  go_region
                  clear kc1 kc2
                  go_wp2
                  refine bodyPost_ret (v := .tuple #[.agg #[.string ⟨((l.take q).drop (d + 1)).toArray⟩, .string ⟨((l.take Y).drop (q + 1)).toArray⟩], .int .i64 ((Y : Int) + 1)]) (by simp [results, Tryd.results35, go_sem, hc0, hc1]) rfl ⟨?_, rfl⟩
                  exact Below.seq ((HBEL.out.setCell (by simp) _).setCell (by simp) _) ((Below.refl _ _).drew)
          · have hno : r = Option.none := by rw [← HR.out, hone, if_neg g10]
            subst hno
            have hg10 : (((l.getD Y 0).toNat : Int) != 10) = true := by
              rw [bne_iff_ne]; intro e
              exact g10 (UInt8.toNat_inj.1 (by simpa using (by omega : (l.getD Y 0).toNat = 10)))
            generalize l.getD Y 0 = yy at *
            clear hone g10
            go_wp2_with (first
            | ((refine wpList_slice_bs rfl _ _ Option.none _ rfl Tryd.underlying22 (by kernel_rfl) rfl HA.out 0 d .i64 .i64 rfl rfl (by omega) (by omega) ?_); intro a5 hb5; rw [List.drop_zero, Nat.sub_zero, Nat.sub_zero] at hb5; rw [Nat.sub_zero, Nat.sub_zero]; have HS5 := Lib.hid hb5; clear hb5)
            | (with_reducible refine wpList_str_of_bs rfl _ _ _ rfl Tryd.underlying22 Tryd.underlying5 Tryd.underlying9 rfl HS5.out ?_)
            | (go_at_call 61; (refine (HDEC.out _).mono ?_); rintro e w4 ⟨rfl, hw4⟩; obtain rfl := hw4; unfold decV))

            refine bodyPost_ret (v := .tuple #[.agg #[.string ⟨#[]⟩, .string ⟨#[]⟩], .int .i64 0]) (by simp [results, Tryd.results35, go_sem, hc0, hc1]) rfl ⟨?_, rfl⟩
            (first | exact hbel | exact hbel.setCell (by simp) _ | exact (hbel.setCell (by simp) _).setCell (by simp) _)
    · have hno := one_notop l d HD.out htop
      rw [HR.out] at hno
      subst hno
      have HT := Lib.hid htop; clear htop
      by_cases h0 : d = 0
      · subst h0
        go_wp2
        refine bodyPost_ret (v := .tuple #[.agg #[.string ⟨#[]⟩, .string ⟨#[]⟩], .int .i64 0]) (by simp [results, Tryd.results35, go_sem, hc0, hc1]) rfl ⟨?_, rfl⟩
        (first | exact hbel | exact hbel.setCell (by simp) _ | exact (hbel.setCell (by simp) _).setCell (by simp) _)
      · by_cases h9 : 9 < d
        · have h0i : ((d : Int) == 0) = false := by rw [beq_eq_false_iff_ne]; omega
          have h9i : (9 : Int) < d := by omega
          go_wp2
          refine bodyPost_ret (v := .tuple #[.agg #[.string ⟨#[]⟩, .string ⟨#[]⟩], .int .i64 0]) (by simp [results, Tryd.results35, go_sem, hc0, hc1]) rfl ⟨?_, rfl⟩
          (first | exact hbel | exact hbel.setCell (by simp) _ | exact (hbel.setCell (by simp) _).setCell (by simp) _)
        · have hd0 := HD.out.le
          have hL := HL.out
          obtain ⟨b, off, rfl, hx0⟩ := HA.out.at 0 (by omega)
          rw [Nat.add_zero] at hx0
          have h0i : ((d : Int) == 0) = false := by rw [beq_eq_false_iff_ne]; omega
          have h9i : ¬ (9 : Int) < d := by omega
          have hn0 : (0 : Int) < n := by omega
          by_cases g0 : l.getD 0 0 = 48
          · rw [g0, show ((48 : UInt8).toNat : Int) = 48 from rfl] at hx0
            go_wp2
            refine bodyPost_ret (v := .tuple #[.agg #[.string ⟨#[]⟩, .string ⟨#[]⟩], .int .i64 0]) (by simp [results, Tryd.results35, go_sem, hc0, hc1]) rfl ⟨?_, rfl⟩
            (first | exact hbel | exact hbel.setCell (by simp) _ | exact (hbel.setCell (by simp) _).setCell (by simp) _)
          · have hg0 : (((l.getD 0 0).toNat : Int) == 48) = false := by rw [beq_eq_false_iff_ne]; intro e; exact g0 (UInt8.toNat_inj.1 (by simpa using (by omega : (l.getD 0 0).toNat = 48)))
            by_cases hdn : d < n
            · obtain ⟨b', off', hbb, hxd⟩ := HA.out.at d hdn
              obtain ⟨rfl, rfl⟩ : b' = b ∧ off' = off := by simpa using hbb.symm
              have hdni : ¬ (n : Int) ≤ d := by omega
              have hdi : (d : Int) < n := by omega
              have hgd : (((l.getD d 0).toNat : Int) != 32) = true := by
                rw [bne_iff_ne]; intro e
                exact HT.out ⟨by omega, by omega, g0, by omega, UInt8.toNat_inj.1 (by simpa using (by omega : (l.getD d 0).toNat = 32))⟩
              generalize l.getD 0 0 = y0 at *
              generalize l.getD d 0 = yd at *
              clear hbb g0
              go_wp2
              refine bodyPost_ret (v := .tuple #[.agg #[.string ⟨#[]⟩, .string ⟨#[]⟩], .int .i64 0]) (by simp [results, Tryd.results35, go_sem, hc0, hc1]) rfl ⟨?_, rfl⟩
              (first | exact hbel | exact hbel.setCell (by simp) _ | exact (hbel.setCell (by simp) _).setCell (by simp) _)
            · have hdni : (n : Int) ≤ d := by omega
              generalize l.getD 0 0 = y0 at *
              clear g0
              go_wp2
              refine bodyPost_ret (v := .tuple #[.agg #[.string ⟨#[]⟩, .string ⟨#[]⟩], .int .i64 0]) (by simp [results, Tryd.results35, go_sem, hc0, hc1]) rfl ⟨?_, rfl⟩
              (first | exact hbel | exact hbel.setCell (by simp) _ | exact (hbel.setCell (by simp) _).setCell (by simp) _)
end Go.Proofs.YtjchaogfmnabfaaDoor
