/-
  LawRound: the law BlockRound: what follows its call of Cut, walked alone.
-/
import Derived.Test.YtbioidbbijmnjaaCcReg
import Derived.Test.YtbioidbbijmnjaaCopy
import Derived.Test.YtbioidbbijmnjaaUseBytes
import Derived.Test.YtbioidbbijmnjaaLawJoins
namespace Go.Proofs.Ytbioidbbijmnjaa
set_option linter.unusedVariables false
open Go.ChangeShapes Go.WideShapes Go.ChangeAt Go.RowKit
namespace Cc
noncomputable def bodyR : Code := Try.f4.body.getD .skip
noncomputable def RR : Code := match bodyR with | .seq _ (.seq _ (.seq _ r)) => r | _ => .skip
set_option maxRecDepth 100000 in
set_option maxHeartbeats 2000000 in
theorem Round_rest (a : Option Addr) (n c : Nat) (l : List UInt8) (x : Option Addr) (cp k r : Nat) (u1 u5 u6 u7 u8 u9 u10 u11 u12 u13 u14 u15 u16 u17 u18 u19 u20 u21 u22 u23 u24 u25 u26 u27 u28 u29 u30 u31 u32 u33 u34 u35 u36 u37 u38 u39 u40 u41 u42 u43 u44 u45 u46 u47 u48 u49 u50 u51 u52 u53 u54 u55 u56 u57 u58 u59 u60 u61 u62 u63 u64 u65 u66 u67 u68 u69 : Value) (w : World) (h : Bs w a n c l) (hc : c ≤ 140737488351232) (hk : k = n / 512) (hr : r = n % 512) (hB : Blks w x k cp (chunks l k)) :
    RR.wp Try.prog (bodyPost Try.prog Try.f4 fun e w' => ∃ v, e = .returned v ∧ v = .bool true ∧ Below w.heap.size w w') ⟨#[.slice a n c, u1, .bool false, .slice x k cp, .int .i64 r, u5, u6, u7, u8, u9, u10, u11, u12, u13, u14, u15, u16, u17, u18, u19, u20, u21, u22, u23, u24, u25, u26, u27, u28, u29, u30, u31, u32, u33, u34, u35, u36, u37, u38, u39, u40, u41, u42, u43, u44, u45, u46, u47, u48, u49, u50, u51, u52, u53, u54, u55, u56, u57, u58, u59, u60, u61, u62, u63, u64, u65, u66, u67, u68, u69], []⟩ w := by
  have hl := h.len; have hcap := h.cap
  have hfl := chunks_flat l k
  have hnk : n = k * 512 + r := by omega
  have hr5 : r < 512 := by omega
  clear hk hr
  have hkl : k * 512 ≤ n := by omega
  have hself : l.take (k * 512) = l.take (k * 512) := rfl
  generalize chunks l k = ls at *
  have HFL := Lib.hid hfl; have HL := Lib.hid hl; clear hfl hl hself
  have hsub : (n : Int) - r = ((k * 512 : Nat) : Int) := by omega
  have HJ1 := Lib.hid (Join_all x k cp ls ((k * 512 : Nat) : Int) w hB (by omega))
  have hbs3 := bs_take h (k * 512) hkl
  have HN := Lib.hid hnk; clear hnk
  have hlen2 : (l.take (k * 512)).length = k * 512 := by rw [List.length_take, HL.out]; omega
  generalize hM : k * 512 = M at *
  have HM := Lib.hid hM; clear hM
  simp only [RR, bodyR, Try.f4, Option.getD_some]
  go_wp2_with (first
    | (go_at_call 11; with_reducible refine (HJ1.out).mono ?_; rintro e w8 ⟨a8, m8, c8, er, rfl, hb8, _, hj2⟩; have hM := HM.out; obtain ⟨rfl, hbs8⟩ := hj2 (by omega); clear hj2 hM; rw [Int.toNat_natCast, HFL.out, List.take_take, Nat.min_self] at hbs8)
    | (go_at_call 8; refine (SameBytes_any a8 a m8 M c8 c (l.take M) (l.take M) w8 hbs8 (Below.bs hb8 hbs3)).mono ?_; rintro e w9 ⟨rfl, hb9⟩; rw [show decide (l.take M = l.take M) = true from dec_t rfl])
    | (go_at_call 11; have hM := HM.out; refine (Join_no x k cp ((M : Int) + 1) w9 (by omega) (by omega)).mono ?_; rintro e w10 ⟨rfl, rfl⟩; clear hM))
  go_ret
  exact ⟨_, rfl, rfl, Below.seq hb8 hb9⟩
end Cc
end Go.Proofs.Ytbioidbbijmnjaa
