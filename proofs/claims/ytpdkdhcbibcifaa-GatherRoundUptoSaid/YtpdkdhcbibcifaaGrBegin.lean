/-
  GrBegin: begin: the index and the root.
-/
import Derived.Test.YtpdkdhcbibcifaaGrRead
import Derived.OwnWalk
namespace Go.Proofs.Ytpdkdhcbibcifaa
set_option linter.unusedVariables false
set_option linter.unusedSimpArgs false
open Go.ChangeShapes Go.WideShapes Go.ChangeAt Go.RowKit
open Go.Maps (Keyed)
namespace Gr
/-- may a tree be walked from root? -/
def Begin (g : List Nd) (root : Int) : Prop := Chk g ∧ ∃ t, nodeOf g root = some t ∧ t.kind = 2
def BeginRes (w : World) (b off : Nat) (S : List NdS) (root : Int) (r : Ending) (w' : World) : Prop :=
  ∃ bm np code, r = .returned (.tuple #[bm, np, .int .i64 code]) ∧ Below w.heap.size w w' ∧ (code = 0 ↔ Begin (gOf S) root) ∧
    (code = 0 → ∃ bb v, bm = .map (some bb) ∧ w.heap.size ≤ bb ∧ MpI w' bb S.length (ptrAt b off S) ∧ ptrAt b off S root = some v ∧ np = v)
theorem BeginRes.no {w w' : World} {b off : Nat} {S : List NdS} {root : Int} (bm np : Value) (code : Int) (h : ¬ Begin (gOf S) root) (hc : code ≠ 0) (hb : Below w.heap.size w w') : BeginRes w b off S root (.returned (.tuple #[bm, np, .int .i64 code])) w' :=
  ⟨bm, np, code, rfl, hb, ⟨fun e => absurd e hc, fun h' => absurd h' h⟩, fun e => absurd e hc⟩
set_option maxRecDepth 100000 in
set_option maxHeartbeats 4000000 in
theorem begin_any (a : Option Addr) (n c b off : Nat) (S : List NdS) (root : Int) (w : World) (hS : Nds w a n c S) (ha : S ≠ [] → a = some ⟨b, off, none⟩) (hN : NdNum S) (hr : inI root) :
    Calls Try.prog 31 #[.agg #[.slice a n c], .int .i64 root] w (BeginRes w b off S root) := by
  have HS := Lib.hid hS; have HA := Lib.hid ha
  have hb1 : Below w.heap.size w (w.alloc (.cells #[.slice a n c] 43)) := (Below.refl _ _).alloc (Nat.le_refl _) _
  have HB1 := Lib.hid hb1
  have HRD := Lib.hid (read_any a n c b off S (w.alloc (.cells #[.slice a n c] 43)) (hS.below hb1) ha hN)
  have HKEY := Lib.hid (key_int (P := Try.prog) Try.underlying3 hr.1 hr.2)
  clear hS ha hN hb1
  have HSW := Lib.hid (HS.out.below HB1.out)
  by_cases hc : Chk (gOf S)
  · cases hnode : nodeOf (gOf S) root with
    | none =>
      have HNB : Hid (¬ Begin (gOf S) root) := Lib.hid (fun h => by obtain ⟨_, t, ht, _⟩ := h; rw [hnode] at ht; cases ht)
      have HPT : Hid ((ptrAt b off S root).getD (.pointer none) = .pointer none) := Lib.hid (by rw [ptr_none hnode]; rfl)
      have HC := Lib.hid hc
      clear hnode hc
      go_enter Try.func31, Try.ntmps31
      go_wp2_with (first
        | (go_at_call 46; (refine (HRD.out).mono ?_); rintro r w2 ⟨bm, ok, rfl, hb2, hok, hmp⟩; obtain rfl : ok = true := hok.2 HC.out; obtain ⟨bb, rfl, hbb, hm2⟩ := hmp rfl; have HM2 := Lib.hid hm2; clear hmp hm2 hok)
        | (at_lookup; refine wpList_mp_look_v rfl _ _ 65 rfl 66 lawI Try.underlying65 (zeroPtr _) rfl HM2.out _ root rfl HKEY.out _ HPT.out ?_))
      go_ret3
      exact BeginRes.no _ _ _ HNB.out (by decide) (Below.seq HB1.out hb2)
    | some t =>
      obtain ⟨kk, x', hkk, rfl, hidt, hpt⟩ := ptr_some (b := b) (off := off) hnode
      have HPT : Hid ((ptrAt b off S root).getD (.pointer none) = .pointer (some ⟨b, off + kk * 10, none⟩)) := Lib.hid (by rw [hpt]; rfl)
      have HPS := Lib.hid hpt
      have hkind : ∀ w2, Below (w.alloc (.cells #[.slice a n c] 43)).heap.size (w.alloc (.cells #[.slice a n c] 43)) w2 → w2.cell? ⟨b, off + kk * 10 + 1, none⟩ = some (.int .i64 x'.1.kind) := fun w2 hb => by
        obtain ⟨b', off', ha', hr'⟩ := (HSW.out.keep (Below.keeps hb)).at kk x' hkk
        have h2 := HA.out (by rintro rfl; simp at hkk)
        rw [h2] at ha'
        simp only [Option.some.injEq, Addr.mk.injEq, and_true] at ha'
        obtain ⟨rfl, rfl⟩ := ha'
        exact range_cell hr' 1 rfl
      have HKD := Lib.hid hkind
      have hbe : Begin (gOf S) root ↔ x'.1.kind = 2 := ⟨fun ⟨_, t, ht, hk⟩ => by rw [hnode] at ht; cases ht; exact hk, fun h => ⟨hc, x'.1, hnode, h⟩⟩
      have HBE := Lib.hid hbe
      have HC := Lib.hid hc
      clear hnode hc hpt hkind hbe hkk hidt
      generalize x'.1.kind = kd at *
      by_cases hkd : kd = 2
      · have hk2 : (kd != 2) = false := bne_f hkd
        have HB := Lib.hid (HBE.out.2 hkd)
        clear hkd HBE
        go_enter Try.func31, Try.ntmps31
        go_wp2_with (first
          | (go_at_call 46; (refine (HRD.out).mono ?_); rintro r w2 ⟨bm, ok, rfl, hb2, hok, hmp⟩; obtain rfl : ok = true := hok.2 HC.out; obtain ⟨bb, rfl, hbb, hm2⟩ := hmp rfl; have HM2 := Lib.hid hm2; have hkc := HKD.out _ hb2; clear hmp hm2 hok)
          | (at_lookup; refine wpList_mp_look_v rfl _ _ 65 rfl 66 lawI Try.underlying65 (zeroPtr _) rfl HM2.out _ root rfl HKEY.out _ HPT.out ?_))
        go_ret3
        exact ⟨_, _, 0, rfl, Below.seq HB1.out hb2, by simp [HB.out], fun _ => ⟨bb, _, rfl, by simp at hbb; omega, HM2.out, HPS.out, rfl⟩⟩
      · have hk2 : (kd != 2) = true := bne_t hkd
        have HB := Lib.hid (fun h => hkd (HBE.out.1 h))
        clear hkd HBE
        go_enter Try.func31, Try.ntmps31
        go_wp2_with (first
          | (go_at_call 46; (refine (HRD.out).mono ?_); rintro r w2 ⟨bm, ok, rfl, hb2, hok, hmp⟩; obtain rfl : ok = true := hok.2 HC.out; obtain ⟨bb, rfl, hbb, hm2⟩ := hmp rfl; have HM2 := Lib.hid hm2; have hkc := HKD.out _ hb2; clear hmp hm2 hok)
          | (at_lookup; refine wpList_mp_look_v rfl _ _ 65 rfl 66 lawI Try.underlying65 (zeroPtr _) rfl HM2.out _ root rfl HKEY.out _ HPT.out ?_))
        go_ret3
        exact BeginRes.no _ _ _ HB.out (by decide) (Below.seq HB1.out hb2)
  · have HNB : Hid (¬ Begin (gOf S) root) := Lib.hid (fun h => hc h.1)
    have HC := Lib.hid hc
    clear hc
    go_enter Try.func31, Try.ntmps31
    go_wp2_with (go_at_call 46; (refine (HRD.out).mono ?_); rintro r w2 ⟨bm, ok, rfl, hb2, hok, hmp⟩; obtain rfl : ok = false := by { cases ok with | false => rfl | true => exact absurd (hok.1 rfl) HC.out }; clear hok hmp)
    go_ret3
    exact BeginRes.no _ _ _ HNB.out (by decide) (Below.seq HB1.out hb2)
end Gr
end Go.Proofs.Ytpdkdhcbibcifaa
