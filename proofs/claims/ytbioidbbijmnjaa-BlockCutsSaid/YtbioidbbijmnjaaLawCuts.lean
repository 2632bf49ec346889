/-
  LawCuts: the law BlockCuts: what follows its second call of Cut, walked alone.
-/
import Derived.Test.YtbioidbbijmnjaaCcCutC
import Derived.Test.YtbioidbbijmnjaaCopy
import Derived.Test.YtbioidbbijmnjaaUseBytes
import Derived.Deep.RegionHeld3
import Derived.Deep.MidRow
namespace Go.Proofs.Ytbioidbbijmnjaa
set_option linter.unusedVariables false
open Go.ChangeShapes Go.WideShapes Go.ChangeAt Go.RowKit
namespace Cc
noncomputable def bodyK : Code := Try.f3.body.getD .skip
noncomputable def RK : Code := match bodyK with | .seq _ (.seq _ (.seq _ (.seq _ (.seq _ r)))) => r | _ => .skip
set_option maxRecDepth 100000 in
set_option maxHeartbeats 2000000 in
theorem Cuts_rest (a : Option Addr) (n c : Nat) (l : List UInt8) (a5 : Option Addr) (c5 : Nat) (x : Option Addr) (cp k r : Nat) (u1 u3 u7 u8 u9 u10 u11 u12 u13 u14 u15 u16 u17 u18 u19 u20 u21 u22 u23 u24 u25 u26 u27 u28 u29 u30 u31 u32 u33 u34 u35 u36 u37 u38 u39 u40 u41 u42 u43 u44 u45 u46 u47 u48 u49 u50 u51 u52 u53 u54 u55 u56 u57 u58 u59 u60 u61 u62 u63 : Value) (w : World) (h : Bs w a n c l) (hc : c ≤ 140737488351232) (hf : Bs w a5 (n + 8) c5 (l ++ marks)) (hk : k = n / 512) (hr : r = n % 512) (hB : Blks w x k cp (chunks l k)) :
    RK.wp Try.prog (bodyPost Try.prog Try.f3 fun e w' => ∃ v, e = .returned v ∧ v = .bool true ∧ Below w.heap.size w w') ⟨#[.slice a n c, u1, .bool false, u3, .int .i64 r, .slice a5 (n + 8) c5, .slice x k cp, u7, u8, u9, u10, u11, u12, u13, u14, u15, u16, u17, u18, u19, u20, u21, u22, u23, u24, u25, u26, u27, u28, u29, u30, u31, u32, u33, u34, u35, u36, u37, u38, u39, u40, u41, u42, u43, u44, u45, u46, u47, u48, u49, u50, u51, u52, u53, u54, u55, u56, u57, u58, u59, u60, u61, u62, u63], []⟩ w := by
  have hl := h.len; have hcap := h.cap
  have hend : k * 512 ≤ n := by rw [hk]; exact Nat.div_mul_le_self n 512
  have hdiv : (n : Int) / 512 = (k : Int) := by omega
  have hmod : (n : Int) % 512 = (r : Int) := by omega
  have hch : ∀ j, j < k → (chunks l k).getD j [] = (l.drop (j * 512)).take 512 := fun j hj => chunks_get l _ j hj
  generalize chunks l k = ls at *
  have HCH := Lib.hid hch; have HL := Lib.hid hl; clear hch hl
  clear hk hr
  simp only [RK, bodyK, Try.f3, Option.getD_some]
  go_wp2_with (first
    | (go_at_call 7; refine (Spare_any _ _ _ l _ h (by omega)).mono ?_; rintro e w1 ⟨a6, m6, c6, rfl, ho6, hb6⟩)
    | (go_at_call 8; refine (SameBytes_any a5 a6 (n + 8) m6 c5 c6 (l ++ marks) (l ++ marks) w1 (Below.bs hb6 hf) (by exact own_bs ho6)).mono ?_; rintro e w2 ⟨rfl, hb7⟩; rw [show decide (l ++ marks = l ++ marks) = true from dec_t rfl]))
  go_loopw [7] (fun j wq => ∃ i : Nat, i ≤ k ∧ j = .int .i64 i ∧ Below w.heap.size w wq) (fun j _ => k - (intOf j).toNat)
  case atStart => exact ⟨0, by omega, rfl, Below.seq hb6 hb7⟩
  case round =>
    clear ho6 hb6 hb7
    obtain ⟨i, hik, rfl, hb9⟩ := hrel
    by_cases hlt2 : i < k
    · obtain ⟨b3, o3, rfl, hpl, hcs⟩ := (Below.blks hb9 hB).at i hlt2
      rw [HCH.out i hlt2] at hpl hcs
      have hAt := At_any a n c l i wr.drew ((Keeps.drew _).bs (Below.bs hb9 h)) (by omega)
      generalize (l.drop (i * 512)).take 512 = p at *
      have hnq := fun w' => neq_blk p p hpl hpl w'
      have hpp : decide (p = p) = true := dec_t rfl
      simp only [hpp] at hnq
      have hgb := guardBlk
      clear hpp
      have hrg : wr.rangeAt b3 (o3 + i * 512) (p.map u8v) := fun j v hj => by have := hcs j v hj; rwa [Addr.add_lit] at this
      have hrg1 : wr.drew.rangeAt b3 (o3 + i * 512) (p.map u8v) := hrg
      have hu24 := Try.underlying29
      have hi24 : (Try.prog.info? 29).map (·.size) = some (p.map u8v).length := by rw [List.length_map, hpl]; kernel_rfl
      have hnq2 : ∀ w' : World, (binOp .neq 29 (.agg (p.map u8v).toArray) (.agg (rowA p))).run Try.prog w' = .ok (.bool (!true)) w' := hnq
      have HAT := Lib.hid hAt; clear hpl hcs hAt hnq
      have hik2 : (i : Int) < k := by omega
      go_wp2_with fail
      go_region_held3 (fun w' => w'.rangeAt b3 (o3 + i * 512) (p.map u8v)) (first | assumption | go_keep_ranges) (first
        | (go_at_call 9; refine (HAT.out).mono ?_; rintro e w9 ⟨rfl, hb10⟩; have hrg9 : w9.rangeAt b3 (o3 + i * 512) (p.map u8v) := fun j v hj => (Below.keeps hb10) _ _ (hrg1 j v hj)))
      go_wp2
      exact ⟨⟨i + 1, by omega, by go_num, Below.seq (Below.seq hb9 ((Below.refl _ _).drew)) hb10⟩, by simp [intOf]; omega⟩
    · obtain rfl : i = k := by omega
      go_wp2
      go_ret
      exact ⟨_, rfl, rfl, hb9⟩
end Cc
end Go.Proofs.Ytbioidbbijmnjaa
