/-
  RgCheck: the reference's Check.
-/
import Derived.Test.YtpdkdhcbibcifaaJ10
import Derived.Test.YtpdkdhcbibcifaaJ03
import Derived.BigQuiet
import Derived.Deep.DeepCutAuto
namespace Go.Proofs.Ytpdkdhcbibcifaa
set_option linter.unusedVariables false
set_option linter.unusedSimpArgs false
open Go.ChangeShapes Go.WideShapes Go.ChangeAt Go.RowKit
namespace Gr
/-- what Check leaves -/
def CkRes (g : List Nd) (w : World) (r : Ending) (w' : World) : Prop := ∃ code : Int, r = .returned (.int .i64 code) ∧ Below w.heap.size w w' ∧ (code = 0 ↔ Chk g)
theorem CkRes.no {g : List Nd} {w w' : World} (h : ¬ Chk g) (hb : Below w.heap.size w w') : CkRes g w (.returned (.int .i64 140)) w' := ⟨140, rfl, hb, ⟨fun e => absurd e (by decide), fun h' => absurd h' h⟩⟩
theorem wrap_nat {m : Nat} (h : (m : Int) ≤ 9223372036854775807) : IntKind.i64.wrap (m : Int) = (m : Int) := by
  simp [IntKind.wrap, IntKind.bits, IntKind.signed]
  omega
/-- the id ahead -/
def lastId (S : List NdS) (i : Nat) : Int := if i = 0 then 0 else match S[i - 1]? with | some x => x.1.id | none => 0
theorem lastId_succ {S : List NdS} {i : Nat} {x : NdS} (h : S[i]? = some x) : lastId S (i + 1) = x.1.id := by
  unfold lastId
  rw [if_neg (by omega), show i + 1 - 1 = i by omega, h]
/-- sizes of the texts and numbers of a graph in memory -/
structure NdSm (S : List NdS) : Prop where
  ent : ∀ x ∈ S, ∀ e ∈ x.1.ents, inI e.2 ∧ e.1.length ≤ 9223372036854775807
  len : ∀ x ∈ S, x.2.2.2.1 ≤ 140737488355328
  targ : ∀ x ∈ S, x.1.target.length ≤ 9223372036854775807
set_option maxRecDepth 100000 in
set_option maxHeartbeats 8000000 in
theorem Check_any (a : Option Addr) (n c : Nat) (S : List NdS) (w : World) (hS : Nds w a n c S) (hN : NdSm S) :
    Calls Try.prog 61 #[.agg #[.slice a n c]] w (CkRes (S.map (·.1)) w) := by
  have hn := hS.len; have hc := hS.cap; have hm := hS.max
  have hb1 : Below w.heap.size w (w.alloc (.cells #[.slice a n c] 43)) := (Below.refl _ _).alloc (Nat.le_refl _) _
  have hbx : ∀ w', Below (w.alloc (.cells #[.slice a n c] 43)).heap.size (w.alloc (.cells #[.slice a n c] 43)) w' → w'.cell? ⟨w.heap.size, 0, none⟩ = some (.slice a n c) := fun w' hb => box_cell hb 0 rfl
  have HBX := Lib.hid hbx
  have HB1 := Lib.hid hb1
  have HS := Lib.hid (hS.below hb1)
  have HSN := Lib.hid hN
  have HNL := Lib.hid hn
  have hgl : (S.map (·.1)).length = n := by rw [List.length_map]; exact hn
  have HGL := Lib.hid hgl
  have c0 := hbx _ (Below.refl _ _)
  clear hb1 hS hN hn hgl hbx
  by_cases hbig : 4096 < n
  · go_enter Try.func61, Try.ntmps61
    go_wp2
    go_ret
    exact CkRes.no (fun h => by have := h.1; have := HGL.out; omega) HB1.out
  · go_enter Try.func61, Try.ntmps61
    go_wp2
    have hb0 : Below (w.heap.size + 1) (w.alloc (.cells #[.slice a n c] 43)) (w.alloc (.cells #[.slice a n c] 43)) := Below.refl _ _
    have HB0 := Lib.hid hb0
    clear hb0
    go_loopw [3, 4] (fun ev i wr => ∃ (k : Nat) (last : Int) (E : Nat), k ≤ n ∧ i = .int .i64 k ∧ ev = .int .i64 E ∧ Hid (Below (w.heap.size + 1) (w.alloc (.cells #[.slice a n c] 43)) wr) ∧
      Hid (Rising 0 (gOf S) ↔ Rising last ((gOf S).drop k)) ∧ Hid (entSum (gOf S) = E + entSum ((gOf S).drop k)) ∧ Hid (0 ≤ last ∧ (k = 0 → last = 0) ∧ ∀ m y, k = m + 1 → S[m]? = some y → y.1.id = last) ∧ Hid (E ≤ k * 140737488355328) ∧ w.heap.size + 1 ≤ wr.heap.size) (fun _ i _ => n - (intOf i).toNat)
    case atStart => exact ⟨0, 0, 0, Nat.zero_le _, rfl, rfl, HB0, Lib.hid (by simp), Lib.hid (by simp), Lib.hid ⟨Int.le_refl _, fun _ => rfl, fun m y h => by omega⟩, Lib.hid (by omega), by simp⟩
    case round =>
      obtain ⟨k, last, E, hk, rfl, rfl, hbel, hri, hes, hle, hE, hws⟩ := hrel
      have hbx := box_cell1 hbel.out 0 rfl
      by_cases hlt : k < n
      · skip
        -- @done
        obtain ⟨x, hxk⟩ := get_some (S := S) (k := k) (by have := HNL.out; omega)
        have hSk := HS.out.keep (Below.keeps (hbel.out.mono (by simp)))
        obtain ⟨b, off, rfl, hrow⟩ := hSk.at k x hxk
        have hdx := hSk.dat x (mem_get hxk)
        have hex := hSk.ent x (mem_get hxk)
        have hgk : (gOf S)[k]? = some x.1 := by simp [gOf, hxk]
        have hdr := drop_get hgk
        have hR := hri.out
        rw [hdr] at hR
        simp only [Rising] at hR
        have hEs := hes.out
        rw [hdr] at hEs
        simp only [entSum] at hEs
        have hlenb := HSN.out.len x (mem_get hxk)
        have htarg := HSN.out.targ x (mem_get hxk)
        have hel := hex.len
        have hdl := hdx.len
        have hcl : x.2.2.2.1 ≤ x.2.2.2.2 := hex.cap
        have hcd : x.2.1.2.1 ≤ 9223372036854775807 := Nat.le_trans hdx.cap hdx.max
        have HPL := Lib.hid (fun w' => plain_any x w' hdl hel htarg hcd)
        simp only [ndCells] at hrow
        have HROW := Lib.hid hrow
        have hprev : ∀ m, k = m + 1 → wr.cell? ⟨b, off + m * 10, none⟩ = some (.int .i64 last) := fun m hm => by
          obtain ⟨y, hy⟩ := get_some (S := S) (k := m) (by have := HNL.out; omega)
          obtain ⟨b', off', ha', hr'⟩ := hSk.at m y hy
          simp only [Option.some.injEq, Addr.mk.injEq, and_true] at ha'
          obtain ⟨rfl, rfl⟩ := ha'
          rw [← hle.out.2.2 m y hm hy]
          exact range_cell hr' 0 rfl
        have HPR := Lib.hid hprev
        have HR := Lib.hid hR; have HES := Lib.hid hEs; have HXK := Lib.hid hxk; have HEL := Lib.hid hel
        have HBW := Lib.hid (box_below hbel.out)
        have hE2 : E ≤ k * 140737488355328 := hE.out
        have hE3 : E ≤ 4096 * 140737488355328 := Nat.le_trans hE2 (Nat.mul_le_mul_right _ (by omega))
        have HE2 := Lib.hid hE2
        clear hxk hSk hrow hdx hex hgk hdr hR hEs hri hes hprev hel hdl hE hE2 htarg hcd
        go_upto_region 8 with (refine wpList_load_mid rfl _ _ rfl b (off + k * 10) rfl _ _ HROW.out Try.underlying75 rfl (by kernel_rfl) ?_)
        generalize hwn : wr.alloc (.cells #[.int .i64 x.1.id, .int .i64 x.1.kind, .int .i64 x.1.mode, .int .i64 x.1.uid, .int .i64 x.1.gid, .int .i64 x.1.sec, .int .i64 x.1.nano, .slice x.2.1.1 x.2.1.2.1 x.2.1.2.2, .string ⟨x.1.target.toArray⟩, .slice x.2.2.1 x.2.2.2.1 x.2.2.2.2] 75) = wn
        have hbN : Below wr.heap.size wr wn := by rw [← hwn]; exact (Below.refl _ _).alloc (Nat.le_refl _) _
        have hrN : wn.rangeAt wr.heap.size 0 [.int .i64 x.1.id, .int .i64 x.1.kind, .int .i64 x.1.mode, .int .i64 x.1.uid, .int .i64 x.1.gid, .int .i64 x.1.sec, .int .i64 x.1.nano, .slice x.2.1.1 x.2.1.2.1 x.2.1.2.2, .string ⟨x.1.target.toArray⟩, .slice x.2.2.1 x.2.2.2.1 x.2.2.2.2] := by
          rw [← hwn]
          intro j v hj
          rw [Nat.zero_add, World.cell?_alloc_new]
          simpa using hj
        have hws2 : wn.heap.size = wr.heap.size + 1 := by rw [← hwn]; simp
        have HRN := Lib.hid hrN
        have d0 := range_cell hrN 0 rfl
        have d9 := range_cell hrN 9 rfl
        simp only [Nat.add_zero, Nat.zero_add] at d0 d9
        have hbx2 := Below.keeps hbN _ _ hbx
        have HPR2 : Hid (∀ m, k = m + 1 → wn.cell? ⟨b, off + m * 10, none⟩ = some (.int .i64 last)) := Lib.hid (fun m hm => Below.keeps hbN _ _ (HPR.out m hm))
        have HB2 := Lib.hid (hbel.out.trans (hbN.mono hws))
        have HBW2 := Lib.hid (HBW.out.trans (hbN.mono HBW.out.size))
        have HNB : Hid (wr.heap.size < wn.heap.size) := Lib.hid (by omega)
        clear hwn hbN hrN hbx HPR hbel
        generalize wr.heap.size = nb at *
        have hid : x.1.id < 1 → ¬ Chk (gOf S) := fun h hc => by have := HR.out.1 hc.2.1; have := hle.out.1; omega
        have hbg : 1099511627776 < x.1.id → ¬ Chk (gOf S) := fun h hc => by have := HR.out.1 hc.2.1; omega
        have hpv : x.1.id ≤ last → ¬ Chk (gOf S) := fun h hc => by have := HR.out.1 hc.2.1; omega
        have hso : sound x.1 = false → ¬ Chk (gOf S) := fun h hc => by have := (HR.out.1 hc.2.1).2.2.1; rw [h] at this; cases this
        have HID := Lib.hid hid; have HBG := Lib.hid hbg; have HPV := Lib.hid hpv; have HSO := Lib.hid hso
        have HXI : Hid (x.1.id = x.1.id) := Lib.hid rfl
        simp only [ndW] at HPL
        clear hid hbg hpv hso
        have HALL : Hid (∀ w', Below wn.heap.size wn w' → w'.cell? ⟨nb, 0, none⟩ = some (.int .i64 x.1.id) ∧ w'.cell? ⟨nb, 1, none⟩ = some (.int .i64 x.1.kind) ∧ w'.cell? ⟨nb, 2, none⟩ = some (.int .i64 x.1.mode) ∧ w'.cell? ⟨nb, 3, none⟩ = some (.int .i64 x.1.uid) ∧ w'.cell? ⟨nb, 4, none⟩ = some (.int .i64 x.1.gid) ∧ w'.cell? ⟨nb, 5, none⟩ = some (.int .i64 x.1.sec) ∧ w'.cell? ⟨nb, 6, none⟩ = some (.int .i64 x.1.nano) ∧ w'.cell? ⟨nb, 7, none⟩ = some (.slice x.2.1.1 x.2.1.2.1 x.2.1.2.2) ∧ w'.cell? ⟨nb, 8, none⟩ = some (.string ⟨x.1.target.toArray⟩) ∧ w'.cell? ⟨nb, 9, none⟩ = some (.slice x.2.2.1 x.2.2.2.1 x.2.2.2.2)) := Lib.hid (fun w' hb => by
          have h := range_keep HRN.out (Below.keeps hb)
          exact ⟨range_cell h 0 rfl, by simpa using range_cell h 1 rfl, by simpa using range_cell h 2 rfl, by simpa using range_cell h 3 rfl, by simpa using range_cell h 4 rfl, by simpa using range_cell h 5 rfl, by simpa using range_cell h 6 rfl, by simpa using range_cell h 7 rfl, by simpa using range_cell h 8 rfl, by simpa using range_cell h 9 rfl⟩)
        generalize hsx : sound x.1 = sx at *
        go_cut [59] from 31 to 59 (fun v wx => ∃ bad, v = .bool bad ∧ Hid (Below wn.heap.size wn wx) ∧ Hid (bad = true → ¬ Chk (gOf S)) ∧ Hid (bad = false → last < x.1.id ∧ x.1.id ≤ 1099511627776 ∧ sx = true))
        case first =>
          clear hsx
          by_cases h1 : x.1.id < 1
          · have hd1 : decide (x.1.id < 1) = true := by simp [h1]
            have HNC := Lib.hid (HID.out h1)
            clear h1
            go_quiet (fail)
            go_wp2_with fail
            go_meet
            exact ⟨true, rfl, Lib.hid (Below.drewN (Below.refl _ _) _), Lib.hid (fun _ => HNC.out), Lib.hid (fun h => by cases h)⟩
          · have hd1 : decide (x.1.id < 1) = false := by simp [h1]
            by_cases h2 : 1099511627776 < x.1.id
            · have hd2 : decide (1099511627776 < x.1.id) = true := by simp [h2]
              have HNC := Lib.hid (HBG.out h2)
              clear h1 h2
              go_quiet (fail)
              go_wp2_with fail
              go_meet
              exact ⟨true, rfl, Lib.hid (Below.drewN (Below.refl _ _) _), Lib.hid (fun _ => HNC.out), Lib.hid (fun h => by cases h)⟩
            · have hd2 : decide (1099511627776 < x.1.id) = false := by simp [h2]
              rcases k with _ | m
              · have HLT : last < x.1.id := by have := hle.out.2.1 rfl; omega
                refine wp_region_held_drew (S := fun w' : World => w'.cell? ⟨nb, 0, none⟩ = some (.int .i64 x.1.id) ∧ w'.cell? ⟨nb, 1, none⟩ = some (.int .i64 x.1.kind) ∧ w'.cell? ⟨nb, 2, none⟩ = some (.int .i64 x.1.mode) ∧ w'.cell? ⟨nb, 3, none⟩ = some (.int .i64 x.1.uid) ∧ w'.cell? ⟨nb, 4, none⟩ = some (.int .i64 x.1.gid) ∧ w'.cell? ⟨nb, 5, none⟩ = some (.int .i64 x.1.sec) ∧ w'.cell? ⟨nb, 6, none⟩ = some (.int .i64 x.1.nano) ∧ w'.cell? ⟨nb, 7, none⟩ = some (.slice x.2.1.1 x.2.1.2.1 x.2.1.2.2) ∧ w'.cell? ⟨nb, 8, none⟩ = some (.string ⟨x.1.target.toArray⟩) ∧ w'.cell? ⟨nb, 9, none⟩ = some (.slice x.2.2.1 x.2.2.2.1 x.2.2.2.2)) (by kernel_rfl) (HALL.out _ (Below.refl _ _).drew) (fun hHeld => ?_)
                refine wpAnyH_take (i := 0) (oi := { dst := some 31, op := Op.fieldAddr 75 (Operand.tmp 5) 0, type := 0, pos := "ref.go:57", after := #[], guard := none }) (v := (.pointer (some ⟨nb, 0, none⟩))) rfl (by kernel_rfl) (by kernel_rfl) (by kernel_rfl) (fun _ _ _ h => h) (Or.inl ⟨by rfl, ?_⟩) (by assumption) ?_
                · intro wz hSw
                  (try dsimp only at hSw)
                  obtain ⟨s0, s1, s2, s3, s4, s5, s6, s7, s8, s9⟩ := hSw
                  go_simp
                (try simp only [Act.put, List.setIfInBounds_toArray, List.set_cons_zero, List.set_cons_succ, List.toList_toArray])
                refine wpAnyH_take (i := 1) (oi := { dst := some 32, op := Op.load 3 (Operand.tmp 31), type := 3, pos := "ref.go:57", after := #[{ on := 0, ground := Ground.data }], guard := none }) (v := (.int .i64 x.1.id)) rfl (by kernel_rfl) (by kernel_rfl) (by kernel_rfl) (fun _ _ _ h => h) (Or.inl ⟨by rfl, ?_⟩) (by assumption) ?_
                · intro wz hSw
                  (try dsimp only at hSw)
                  obtain ⟨s0, s1, s2, s3, s4, s5, s6, s7, s8, s9⟩ := hSw
                  go_simp
                (try simp only [Act.put, List.setIfInBounds_toArray, List.set_cons_zero, List.set_cons_succ, List.toList_toArray])
                refine wpAnyH_take (i := 2) (oi := { dst := some 33, op := Op.binOp BinOp.lss 3 (Operand.tmp 32) (Operand.const (Value.int IntKind.i64 1)) 3, type := 4, pos := "ref.go:57", after := #[{ on := 1, ground := Ground.data }], guard := none }) (v := (.bool false)) rfl (by kernel_rfl) (by kernel_rfl) (by kernel_rfl) (fun _ _ _ h => h) (Or.inl ⟨by rfl, ?_⟩) (by assumption) ?_
                · intro wz hSw
                  (try dsimp only at hSw)
                  obtain ⟨s0, s1, s2, s3, s4, s5, s6, s7, s8, s9⟩ := hSw
                  (first | go_simp | (go_simp; simp [hd1]))
                (try simp only [Act.put, List.setIfInBounds_toArray, List.set_cons_zero, List.set_cons_succ, List.toList_toArray])
                refine wpAnyH_take (i := 3) (oi := { dst := some 34, op := Op.move (Operand.tmp 33), type := 4, pos := "ref.go:57", after := #[{ on := 2, ground := Ground.data }], guard := none }) (v := (.bool false)) rfl (by kernel_rfl) (by kernel_rfl) (by kernel_rfl) (fun _ _ _ h => h) (Or.inl ⟨by rfl, ?_⟩) (by assumption) ?_
                · intro wz hSw
                  (try dsimp only at hSw)
                  obtain ⟨s0, s1, s2, s3, s4, s5, s6, s7, s8, s9⟩ := hSw
                  go_simp
                (try simp only [Act.put, List.setIfInBounds_toArray, List.set_cons_zero, List.set_cons_succ, List.toList_toArray])
                refine wpAnyH_take (i := 4) (oi := { dst := some 35, op := Op.fieldAddr 75 (Operand.tmp 5) 0, type := 0, pos := "ref.go:57", after := #[{ on := 3, ground := Ground.guard }], guard := some (3, false) }) (v := (.pointer (some ⟨nb, 0, none⟩))) rfl (by kernel_rfl) (by kernel_rfl) (by kernel_rfl) (fun _ _ _ h => h) (Or.inl ⟨by rfl, ?_⟩) (by assumption) ?_
                · intro wz hSw
                  (try dsimp only at hSw)
                  obtain ⟨s0, s1, s2, s3, s4, s5, s6, s7, s8, s9⟩ := hSw
                  go_simp
                (try simp only [Act.put, List.setIfInBounds_toArray, List.set_cons_zero, List.set_cons_succ, List.toList_toArray])
                refine wpAnyH_take (i := 5) (oi := { dst := some 36, op := Op.load 3 (Operand.tmp 35), type := 3, pos := "ref.go:57", after := #[{ on := 4, ground := Ground.data }, { on := 3, ground := Ground.guard }], guard := some (3, false) }) (v := (.int .i64 x.1.id)) rfl (by kernel_rfl) (by kernel_rfl) (by kernel_rfl) (fun _ _ _ h => h) (Or.inl ⟨by rfl, ?_⟩) (by assumption) ?_
                · intro wz hSw
                  (try dsimp only at hSw)
                  obtain ⟨s0, s1, s2, s3, s4, s5, s6, s7, s8, s9⟩ := hSw
                  go_simp
                (try simp only [Act.put, List.setIfInBounds_toArray, List.set_cons_zero, List.set_cons_succ, List.toList_toArray])
                refine wpAnyH_take (i := 6) (oi := { dst := some 37, op := Op.binOp BinOp.gtr 3 (Operand.tmp 36) (Operand.const (Value.int IntKind.i64 1099511627776)) 3, type := 4, pos := "ref.go:57", after := #[{ on := 5, ground := Ground.data }, { on := 3, ground := Ground.guard }], guard := some (3, false) }) (v := (.bool false)) rfl (by kernel_rfl) (by kernel_rfl) (by kernel_rfl) (fun _ _ _ h => h) (Or.inl ⟨by rfl, ?_⟩) (by assumption) ?_
                · intro wz hSw
                  (try dsimp only at hSw)
                  obtain ⟨s0, s1, s2, s3, s4, s5, s6, s7, s8, s9⟩ := hSw
                  (first | go_simp | (go_simp; simp [hd2]))
                (try simp only [Act.put, List.setIfInBounds_toArray, List.set_cons_zero, List.set_cons_succ, List.toList_toArray])
                refine wpAnyH_take (i := 7) (oi := { dst := some 38, op := Op.pick (Operand.tmp 34) (Operand.const (Value.bool true)) (Operand.tmp 37), type := 4, pos := "ref.go:57", after := #[{ on := 3, ground := Ground.data }, { on := 6, ground := Ground.data }], guard := none }) (v := (.bool false)) rfl (by kernel_rfl) (by kernel_rfl) (by kernel_rfl) (fun _ _ _ h => h) (Or.inl ⟨by rfl, ?_⟩) (by assumption) ?_
                · intro wz hSw
                  (try dsimp only at hSw)
                  obtain ⟨s0, s1, s2, s3, s4, s5, s6, s7, s8, s9⟩ := hSw
                  go_simp
                (try simp only [Act.put, List.setIfInBounds_toArray, List.set_cons_zero, List.set_cons_succ, List.toList_toArray])
                refine wpAnyH_take (i := 8) (oi := { dst := some 39, op := Op.move (Operand.tmp 38), type := 4, pos := "ref.go:57", after := #[{ on := 7, ground := Ground.data }, { on := 3, ground := Ground.chain }], guard := none }) (v := (.bool false)) rfl (by kernel_rfl) (by kernel_rfl) (by kernel_rfl) (fun _ _ _ h => h) (Or.inl ⟨by rfl, ?_⟩) (by assumption) ?_
                · intro wz hSw
                  (try dsimp only at hSw)
                  obtain ⟨s0, s1, s2, s3, s4, s5, s6, s7, s8, s9⟩ := hSw
                  go_simp
                (try simp only [Act.put, List.setIfInBounds_toArray, List.set_cons_zero, List.set_cons_succ, List.toList_toArray])
                refine wpAnyH_take (i := 9) (oi := { dst := some 40, op := Op.move (Operand.tmp 4), type := 3, pos := "ref.go:57", after := #[{ on := 8, ground := Ground.guard }], guard := some (8, false) }) (v := (.int .i64 ((0 : Nat) : Int))) rfl (by kernel_rfl) (by kernel_rfl) (by kernel_rfl) (fun _ _ _ h => h) (Or.inl ⟨by rfl, ?_⟩) (by assumption) ?_
                · intro wz hSw
                  (try dsimp only at hSw)
                  obtain ⟨s0, s1, s2, s3, s4, s5, s6, s7, s8, s9⟩ := hSw
                  go_simp
                (try simp only [Act.put, List.setIfInBounds_toArray, List.set_cons_zero, List.set_cons_succ, List.toList_toArray])
                refine wpAnyH_take (i := 10) (oi := { dst := some 41, op := Op.binOp BinOp.gtr 3 (Operand.tmp 40) (Operand.const (Value.int IntKind.i64 0)) 3, type := 4, pos := "ref.go:57", after := #[{ on := 9, ground := Ground.data }, { on := 8, ground := Ground.guard }], guard := some (8, false) }) (v := (.bool false)) rfl (by kernel_rfl) (by kernel_rfl) (by kernel_rfl) (fun _ _ _ h => h) (Or.inl ⟨by rfl, ?_⟩) (by assumption) ?_
                · intro wz hSw
                  (try dsimp only at hSw)
                  obtain ⟨s0, s1, s2, s3, s4, s5, s6, s7, s8, s9⟩ := hSw
                  go_simp
                (try simp only [Act.put, List.setIfInBounds_toArray, List.set_cons_zero, List.set_cons_succ, List.toList_toArray])
                refine wpAnyH_take (i := 11) (oi := { dst := some 42, op := Op.move (Operand.tmp 41), type := 4, pos := "ref.go:57", after := #[{ on := 10, ground := Ground.data }, { on := 8, ground := Ground.chain }, { on := 8, ground := Ground.guard }], guard := some (8, false) }) (v := (.bool false)) rfl (by kernel_rfl) (by kernel_rfl) (by kernel_rfl) (fun _ _ _ h => h) (Or.inl ⟨by rfl, ?_⟩) (by assumption) ?_
                · intro wz hSw
                  (try dsimp only at hSw)
                  obtain ⟨s0, s1, s2, s3, s4, s5, s6, s7, s8, s9⟩ := hSw
                  go_simp
                (try simp only [Act.put, List.setIfInBounds_toArray, List.set_cons_zero, List.set_cons_succ, List.toList_toArray])
                refine wpAnyH_take (i := 12) (oi := { dst := some 43, op := Op.fieldAddr 75 (Operand.tmp 5) 0, type := 0, pos := "ref.go:57", after := #[{ on := 11, ground := Ground.guard }], guard := some (11, true) }) (v := undef) rfl (by kernel_rfl) (by kernel_rfl) (by kernel_rfl) (fun _ _ _ h => h) (Or.inr ⟨by rfl, rfl⟩) (by assumption) ?_
                (try simp only [Act.put, List.setIfInBounds_toArray, List.set_cons_zero, List.set_cons_succ, List.toList_toArray])
                refine wpAnyH_take (i := 13) (oi := { dst := some 44, op := Op.load 3 (Operand.tmp 43), type := 3, pos := "ref.go:57", after := #[{ on := 12, ground := Ground.data }, { on := 11, ground := Ground.guard }], guard := some (11, true) }) (v := undef) rfl (by kernel_rfl) (by kernel_rfl) (by kernel_rfl) (fun _ _ _ h => h) (Or.inr ⟨by rfl, rfl⟩) (by assumption) ?_
                (try simp only [Act.put, List.setIfInBounds_toArray, List.set_cons_zero, List.set_cons_succ, List.toList_toArray])
                refine wpAnyH_take (i := 14) (oi := { dst := some 45, op := Op.fieldAddr 43 (Operand.tmp 1) 0, type := 0, pos := "ref.go:57", after := #[{ on := 11, ground := Ground.guard }], guard := some (11, true) }) (v := undef) rfl (by kernel_rfl) (by kernel_rfl) (by kernel_rfl) (fun _ _ _ h => h) (Or.inr ⟨by rfl, rfl⟩) (by assumption) ?_
                (try simp only [Act.put, List.setIfInBounds_toArray, List.set_cons_zero, List.set_cons_succ, List.toList_toArray])
                refine wpAnyH_take (i := 15) (oi := { dst := some 46, op := Op.load 41 (Operand.tmp 45), type := 41, pos := "ref.go:57", after := #[{ on := 14, ground := Ground.data }, { on := 11, ground := Ground.guard }], guard := some (11, true) }) (v := undef) rfl (by kernel_rfl) (by kernel_rfl) (by kernel_rfl) (fun _ _ _ h => h) (Or.inr ⟨by rfl, rfl⟩) (by assumption) ?_
                (try simp only [Act.put, List.setIfInBounds_toArray, List.set_cons_zero, List.set_cons_succ, List.toList_toArray])
                refine wpAnyH_take (i := 16) (oi := { dst := some 47, op := Op.move (Operand.tmp 4), type := 3, pos := "ref.go:57", after := #[{ on := 11, ground := Ground.guard }], guard := some (11, true) }) (v := undef) rfl (by kernel_rfl) (by kernel_rfl) (by kernel_rfl) (fun _ _ _ h => h) (Or.inr ⟨by rfl, rfl⟩) (by assumption) ?_
                (try simp only [Act.put, List.setIfInBounds_toArray, List.set_cons_zero, List.set_cons_succ, List.toList_toArray])
                refine wpAnyH_take (i := 17) (oi := { dst := some 48, op := Op.binOp BinOp.sub 3 (Operand.tmp 47) (Operand.const (Value.int IntKind.i64 1)) 3, type := 3, pos := "ref.go:57", after := #[{ on := 16, ground := Ground.data }, { on := 11, ground := Ground.guard }], guard := some (11, true) }) (v := undef) rfl (by kernel_rfl) (by kernel_rfl) (by kernel_rfl) (fun _ _ _ h => h) (Or.inr ⟨by rfl, rfl⟩) (by assumption) ?_
                (try simp only [Act.put, List.setIfInBounds_toArray, List.set_cons_zero, List.set_cons_succ, List.toList_toArray])
                refine wpAnyH_take (i := 18) (oi := { dst := some 49, op := Op.indexAddr 41 (Operand.tmp 46) (Operand.tmp 48), type := 0, pos := "ref.go:57", after := #[{ on := 15, ground := Ground.data }, { on := 17, ground := Ground.data }, { on := 11, ground := Ground.guard }], guard := some (11, true) }) (v := undef) rfl (by kernel_rfl) (by kernel_rfl) (by kernel_rfl) (fun _ _ _ h => h) (Or.inr ⟨by rfl, rfl⟩) (by assumption) ?_
                (try simp only [Act.put, List.setIfInBounds_toArray, List.set_cons_zero, List.set_cons_succ, List.toList_toArray])
                refine wpAnyH_take (i := 19) (oi := { dst := some 50, op := Op.fieldAddr 75 (Operand.tmp 49) 0, type := 0, pos := "ref.go:57", after := #[{ on := 18, ground := Ground.data }, { on := 11, ground := Ground.guard }], guard := some (11, true) }) (v := undef) rfl (by kernel_rfl) (by kernel_rfl) (by kernel_rfl) (fun _ _ _ h => h) (Or.inr ⟨by rfl, rfl⟩) (by assumption) ?_
                (try simp only [Act.put, List.setIfInBounds_toArray, List.set_cons_zero, List.set_cons_succ, List.toList_toArray])
                refine wpAnyH_take (i := 20) (oi := { dst := some 51, op := Op.load 3 (Operand.tmp 50), type := 3, pos := "ref.go:57", after := #[{ on := 19, ground := Ground.data }, { on := 11, ground := Ground.guard }], guard := some (11, true) }) (v := undef) rfl (by kernel_rfl) (by kernel_rfl) (by kernel_rfl) (fun _ _ _ h => h) (Or.inr ⟨by rfl, rfl⟩) (by assumption) ?_
                (try simp only [Act.put, List.setIfInBounds_toArray, List.set_cons_zero, List.set_cons_succ, List.toList_toArray])
                refine wpAnyH_take (i := 21) (oi := { dst := some 52, op := Op.binOp BinOp.leq 3 (Operand.tmp 44) (Operand.tmp 51) 3, type := 4, pos := "ref.go:57", after := #[{ on := 13, ground := Ground.data }, { on := 20, ground := Ground.data }, { on := 11, ground := Ground.guard }], guard := some (11, true) }) (v := undef) rfl (by kernel_rfl) (by kernel_rfl) (by kernel_rfl) (fun _ _ _ h => h) (Or.inr ⟨by rfl, rfl⟩) (by assumption) ?_
                (try simp only [Act.put, List.setIfInBounds_toArray, List.set_cons_zero, List.set_cons_succ, List.toList_toArray])
                refine wpAnyH_take (i := 22) (oi := { dst := some 53, op := Op.pick (Operand.tmp 42) (Operand.tmp 52) (Operand.const (Value.bool false)), type := 4, pos := "ref.go:57", after := #[{ on := 11, ground := Ground.data }, { on := 21, ground := Ground.data }, { on := 8, ground := Ground.guard }], guard := some (8, false) }) (v := (.bool false)) rfl (by kernel_rfl) (by kernel_rfl) (by kernel_rfl) (fun _ _ _ h => h) (Or.inl ⟨by rfl, ?_⟩) (by assumption) ?_
                · intro wz hSw
                  (try dsimp only at hSw)
                  obtain ⟨s0, s1, s2, s3, s4, s5, s6, s7, s8, s9⟩ := hSw
                  go_simp
                (try simp only [Act.put, List.setIfInBounds_toArray, List.set_cons_zero, List.set_cons_succ, List.toList_toArray])
                refine wpAnyH_take (i := 23) (oi := { dst := some 54, op := Op.pick (Operand.tmp 39) (Operand.const (Value.bool true)) (Operand.tmp 53), type := 4, pos := "ref.go:57", after := #[{ on := 8, ground := Ground.data }, { on := 22, ground := Ground.data }], guard := none }) (v := (.bool false)) rfl (by kernel_rfl) (by kernel_rfl) (by kernel_rfl) (fun _ _ _ h => h) (Or.inl ⟨by rfl, ?_⟩) (by assumption) ?_
                · intro wz hSw
                  (try dsimp only at hSw)
                  obtain ⟨s0, s1, s2, s3, s4, s5, s6, s7, s8, s9⟩ := hSw
                  go_simp
                (try simp only [Act.put, List.setIfInBounds_toArray, List.set_cons_zero, List.set_cons_succ, List.toList_toArray])
                refine wpAnyH_take (i := 24) (oi := { dst := some 55, op := Op.move (Operand.tmp 54), type := 4, pos := "ref.go:57", after := #[{ on := 23, ground := Ground.data }, { on := 11, ground := Ground.chain }], guard := none }) (v := (.bool false)) rfl (by kernel_rfl) (by kernel_rfl) (by kernel_rfl) (fun _ _ _ h => h) (Or.inl ⟨by rfl, ?_⟩) (by assumption) ?_
                · intro wz hSw
                  (try dsimp only at hSw)
                  obtain ⟨s0, s1, s2, s3, s4, s5, s6, s7, s8, s9⟩ := hSw
                  go_simp
                (try simp only [Act.put, List.setIfInBounds_toArray, List.set_cons_zero, List.set_cons_succ, List.toList_toArray])
                refine wpAnyH_take (i := 25) (oi := { dst := some 56, op := Op.load 75 (Operand.tmp 5), type := 75, pos := "ref.go:57", after := #[{ on := 24, ground := Ground.guard }], guard := some (24, false) }) (v := (.agg #[.int .i64 x.1.id, .int .i64 x.1.kind, .int .i64 x.1.mode, .int .i64 x.1.uid, .int .i64 x.1.gid, .int .i64 x.1.sec, .int .i64 x.1.nano, .slice x.2.1.1 x.2.1.2.1 x.2.1.2.2, .string ⟨x.1.target.toArray⟩, .slice x.2.2.1 x.2.2.2.1 x.2.2.2.2])) rfl (by kernel_rfl) (by kernel_rfl) (by kernel_rfl) (fun _ _ _ h => h) (Or.inl ⟨by rfl, ?_⟩) (by assumption) ?_
                · intro wz hSw
                  (try dsimp only at hSw)
                  obtain ⟨s0, s1, s2, s3, s4, s5, s6, s7, s8, s9⟩ := hSw
                  go_simp
                (try simp only [Act.put, List.setIfInBounds_toArray, List.set_cons_zero, List.set_cons_succ, List.toList_toArray])
                refine wpAnyH_ready (rs := [26]) (by kernel_rfl) (by simp) ?_
                refine AllReadyH.cons (o := { dst := some 57, op := Op.call { callee := Callee.value (Operand.func 66), args := #[Operand.tmp 56], argTypes := #[75] }, type := 4, pos := "ref.go:57", after := #[{ on := 25, ground := Ground.data }, { on := 24, ground := Ground.chain }, { on := 24, ground := Ground.guard }], guard := some (24, false) }) rfl (fun K hK => ?_) AllReadyH.nil
                go_simp
                (go_at_call 66; refine (HPL.out _).mono ?_; rintro r w4 ⟨rfl, hb4⟩)
                have HB4 := Lib.hid (Below.seq (Below.refl wn.heap.size wn).drew hb4)
                clear hb4
                (try go_wp2_with fail)
                refine hK.out _ _ (HALL.out _ HB4.out) (fun hH26 => ?_)
                clear hK K hHeld
                have hHeld := hH26
                clear hH26
                (try simp only [Act.put, List.setIfInBounds_toArray, List.set_cons_zero, List.set_cons_succ, List.toList_toArray])
                refine wpAnyH_take (i := 27) (oi := { dst := some 58, op := Op.unOp UnOp.not 4 (Operand.tmp 57), type := 4, pos := "ref.go:57", after := #[{ on := 26, ground := Ground.data }, { on := 24, ground := Ground.guard }], guard := some (24, false) }) (v := (.bool (!sx))) rfl (by kernel_rfl) (by kernel_rfl) (by kernel_rfl) (fun _ _ _ h => h) (Or.inl ⟨by rfl, ?_⟩) (by assumption) ?_
                · intro wz hSw
                  (try dsimp only at hSw)
                  obtain ⟨s0, s1, s2, s3, s4, s5, s6, s7, s8, s9⟩ := hSw
                  go_simp
                (try simp only [Act.put, List.setIfInBounds_toArray, List.set_cons_zero, List.set_cons_succ, List.toList_toArray])
                refine wpAnyH_take (i := 28) (oi := { dst := some 59, op := Op.pick (Operand.tmp 55) (Operand.const (Value.bool true)) (Operand.tmp 58), type := 4, pos := "ref.go:57", after := #[{ on := 24, ground := Ground.data }, { on := 27, ground := Ground.data }], guard := none }) (v := (.bool (!sx))) rfl (by kernel_rfl) (by kernel_rfl) (by kernel_rfl) (fun _ _ _ h => h) (Or.inl ⟨by rfl, ?_⟩) (by assumption) ?_
                · intro wz hSw
                  (try dsimp only at hSw)
                  obtain ⟨s0, s1, s2, s3, s4, s5, s6, s7, s8, s9⟩ := hSw
                  go_simp
                (try simp only [Act.put, List.setIfInBounds_toArray, List.set_cons_zero, List.set_cons_succ, List.toList_toArray])
                refine wpAnyH_done (by kernel_rfl) ?_ _
                go_wp2_with fail
                go_meet
                exact ⟨!sx, rfl, HB4, Lib.hid (fun h => HSO.out (by simpa using h)), Lib.hid (fun h => ⟨HLT, by omega, by simpa using h⟩)⟩
              · have hprv := HPR2.out m rfl
                by_cases h3 : x.1.id ≤ last
                · have hd3 : decide (x.1.id ≤ last) = true := by simp [h3]
                  have HNC := Lib.hid (HPV.out h3)
                  clear h1 h2 h3
                  go_quiet (fail)
                  go_wp2_with fail
                  go_meet
                  exact ⟨true, rfl, Lib.hid (Below.drewN (Below.refl _ _) _), Lib.hid (fun _ => HNC.out), Lib.hid (fun h => by cases h)⟩
                · have hd3 : decide (x.1.id ≤ last) = false := by simp [h3]
                  have HLT : last < x.1.id := by omega
                  have HALL2 : Hid (∀ w', Below wn.heap.size wn w' → w'.cell? ⟨nb, 0, none⟩ = some (.int .i64 x.1.id) ∧ w'.cell? ⟨nb, 1, none⟩ = some (.int .i64 x.1.kind) ∧ w'.cell? ⟨nb, 2, none⟩ = some (.int .i64 x.1.mode) ∧ w'.cell? ⟨nb, 3, none⟩ = some (.int .i64 x.1.uid) ∧ w'.cell? ⟨nb, 4, none⟩ = some (.int .i64 x.1.gid) ∧ w'.cell? ⟨nb, 5, none⟩ = some (.int .i64 x.1.sec) ∧ w'.cell? ⟨nb, 6, none⟩ = some (.int .i64 x.1.nano) ∧ w'.cell? ⟨nb, 7, none⟩ = some (.slice x.2.1.1 x.2.1.2.1 x.2.1.2.2) ∧ w'.cell? ⟨nb, 8, none⟩ = some (.string ⟨x.1.target.toArray⟩) ∧ w'.cell? ⟨nb, 9, none⟩ = some (.slice x.2.2.1 x.2.2.2.1 x.2.2.2.2) ∧ w'.cell? ⟨b, off + m * 10, none⟩ = some (.int .i64 last) ∧ w'.cell? ⟨w.heap.size, 0, none⟩ = some (.slice (some ⟨b, off, none⟩) n c)) := Lib.hid (fun w' hb => by
                    obtain ⟨e0, e1, e2, e3, e4, e5, e6, e7, e8, e9⟩ := HALL.out w' hb
                    exact ⟨e0, e1, e2, e3, e4, e5, e6, e7, e8, e9, Below.keeps hb _ _ hprv, Below.keeps hb _ _ hbx2⟩)
                  refine wp_region_held_drew (S := fun w' : World => w'.cell? ⟨nb, 0, none⟩ = some (.int .i64 x.1.id) ∧ w'.cell? ⟨nb, 1, none⟩ = some (.int .i64 x.1.kind) ∧ w'.cell? ⟨nb, 2, none⟩ = some (.int .i64 x.1.mode) ∧ w'.cell? ⟨nb, 3, none⟩ = some (.int .i64 x.1.uid) ∧ w'.cell? ⟨nb, 4, none⟩ = some (.int .i64 x.1.gid) ∧ w'.cell? ⟨nb, 5, none⟩ = some (.int .i64 x.1.sec) ∧ w'.cell? ⟨nb, 6, none⟩ = some (.int .i64 x.1.nano) ∧ w'.cell? ⟨nb, 7, none⟩ = some (.slice x.2.1.1 x.2.1.2.1 x.2.1.2.2) ∧ w'.cell? ⟨nb, 8, none⟩ = some (.string ⟨x.1.target.toArray⟩) ∧ w'.cell? ⟨nb, 9, none⟩ = some (.slice x.2.2.1 x.2.2.2.1 x.2.2.2.2) ∧ w'.cell? ⟨b, off + m * 10, none⟩ = some (.int .i64 last) ∧ w'.cell? ⟨w.heap.size, 0, none⟩ = some (.slice (some ⟨b, off, none⟩) n c)) (by kernel_rfl) (HALL2.out _ (Below.refl _ _).drew) (fun hHeld => ?_)
                  refine wpAnyH_take (i := 0) (oi := { dst := some 31, op := Op.fieldAddr 75 (Operand.tmp 5) 0, type := 0, pos := "ref.go:57", after := #[], guard := none }) (v := (.pointer (some ⟨nb, 0, none⟩))) rfl (by kernel_rfl) (by kernel_rfl) (by kernel_rfl) (fun _ _ _ h => h) (Or.inl ⟨by rfl, ?_⟩) (by assumption) ?_
                  · intro wz hSw
                    (try dsimp only at hSw)
                    obtain ⟨s0, s1, s2, s3, s4, s5, s6, s7, s8, s9, sp, sb⟩ := hSw
                    go_simp
                  (try simp only [Act.put, List.setIfInBounds_toArray, List.set_cons_zero, List.set_cons_succ, List.toList_toArray])
                  refine wpAnyH_take (i := 1) (oi := { dst := some 32, op := Op.load 3 (Operand.tmp 31), type := 3, pos := "ref.go:57", after := #[{ on := 0, ground := Ground.data }], guard := none }) (v := (.int .i64 x.1.id)) rfl (by kernel_rfl) (by kernel_rfl) (by kernel_rfl) (fun _ _ _ h => h) (Or.inl ⟨by rfl, ?_⟩) (by assumption) ?_
                  · intro wz hSw
                    (try dsimp only at hSw)
                    obtain ⟨s0, s1, s2, s3, s4, s5, s6, s7, s8, s9, sp, sb⟩ := hSw
                    go_simp
                  (try simp only [Act.put, List.setIfInBounds_toArray, List.set_cons_zero, List.set_cons_succ, List.toList_toArray])
                  refine wpAnyH_take (i := 2) (oi := { dst := some 33, op := Op.binOp BinOp.lss 3 (Operand.tmp 32) (Operand.const (Value.int IntKind.i64 1)) 3, type := 4, pos := "ref.go:57", after := #[{ on := 1, ground := Ground.data }], guard := none }) (v := (.bool false)) rfl (by kernel_rfl) (by kernel_rfl) (by kernel_rfl) (fun _ _ _ h => h) (Or.inl ⟨by rfl, ?_⟩) (by assumption) ?_
                  · intro wz hSw
                    (try dsimp only at hSw)
                    obtain ⟨s0, s1, s2, s3, s4, s5, s6, s7, s8, s9, sp, sb⟩ := hSw
                    (first | go_simp | (go_simp; simp [hd1]))
                  (try simp only [Act.put, List.setIfInBounds_toArray, List.set_cons_zero, List.set_cons_succ, List.toList_toArray])
                  refine wpAnyH_take (i := 3) (oi := { dst := some 34, op := Op.move (Operand.tmp 33), type := 4, pos := "ref.go:57", after := #[{ on := 2, ground := Ground.data }], guard := none }) (v := (.bool false)) rfl (by kernel_rfl) (by kernel_rfl) (by kernel_rfl) (fun _ _ _ h => h) (Or.inl ⟨by rfl, ?_⟩) (by assumption) ?_
                  · intro wz hSw
                    (try dsimp only at hSw)
                    obtain ⟨s0, s1, s2, s3, s4, s5, s6, s7, s8, s9, sp, sb⟩ := hSw
                    go_simp
                  (try simp only [Act.put, List.setIfInBounds_toArray, List.set_cons_zero, List.set_cons_succ, List.toList_toArray])
                  refine wpAnyH_take (i := 4) (oi := { dst := some 35, op := Op.fieldAddr 75 (Operand.tmp 5) 0, type := 0, pos := "ref.go:57", after := #[{ on := 3, ground := Ground.guard }], guard := some (3, false) }) (v := (.pointer (some ⟨nb, 0, none⟩))) rfl (by kernel_rfl) (by kernel_rfl) (by kernel_rfl) (fun _ _ _ h => h) (Or.inl ⟨by rfl, ?_⟩) (by assumption) ?_
                  · intro wz hSw
                    (try dsimp only at hSw)
                    obtain ⟨s0, s1, s2, s3, s4, s5, s6, s7, s8, s9, sp, sb⟩ := hSw
                    go_simp
                  (try simp only [Act.put, List.setIfInBounds_toArray, List.set_cons_zero, List.set_cons_succ, List.toList_toArray])
                  refine wpAnyH_take (i := 5) (oi := { dst := some 36, op := Op.load 3 (Operand.tmp 35), type := 3, pos := "ref.go:57", after := #[{ on := 4, ground := Ground.data }, { on := 3, ground := Ground.guard }], guard := some (3, false) }) (v := (.int .i64 x.1.id)) rfl (by kernel_rfl) (by kernel_rfl) (by kernel_rfl) (fun _ _ _ h => h) (Or.inl ⟨by rfl, ?_⟩) (by assumption) ?_
                  · intro wz hSw
                    (try dsimp only at hSw)
                    obtain ⟨s0, s1, s2, s3, s4, s5, s6, s7, s8, s9, sp, sb⟩ := hSw
                    go_simp
                  (try simp only [Act.put, List.setIfInBounds_toArray, List.set_cons_zero, List.set_cons_succ, List.toList_toArray])
                  refine wpAnyH_take (i := 6) (oi := { dst := some 37, op := Op.binOp BinOp.gtr 3 (Operand.tmp 36) (Operand.const (Value.int IntKind.i64 1099511627776)) 3, type := 4, pos := "ref.go:57", after := #[{ on := 5, ground := Ground.data }, { on := 3, ground := Ground.guard }], guard := some (3, false) }) (v := (.bool false)) rfl (by kernel_rfl) (by kernel_rfl) (by kernel_rfl) (fun _ _ _ h => h) (Or.inl ⟨by rfl, ?_⟩) (by assumption) ?_
                  · intro wz hSw
                    (try dsimp only at hSw)
                    obtain ⟨s0, s1, s2, s3, s4, s5, s6, s7, s8, s9, sp, sb⟩ := hSw
                    (first | go_simp | (go_simp; simp [hd2]))
                  (try simp only [Act.put, List.setIfInBounds_toArray, List.set_cons_zero, List.set_cons_succ, List.toList_toArray])
                  refine wpAnyH_take (i := 7) (oi := { dst := some 38, op := Op.pick (Operand.tmp 34) (Operand.const (Value.bool true)) (Operand.tmp 37), type := 4, pos := "ref.go:57", after := #[{ on := 3, ground := Ground.data }, { on := 6, ground := Ground.data }], guard := none }) (v := (.bool false)) rfl (by kernel_rfl) (by kernel_rfl) (by kernel_rfl) (fun _ _ _ h => h) (Or.inl ⟨by rfl, ?_⟩) (by assumption) ?_
                  · intro wz hSw
                    (try dsimp only at hSw)
                    obtain ⟨s0, s1, s2, s3, s4, s5, s6, s7, s8, s9, sp, sb⟩ := hSw
                    go_simp
                  (try simp only [Act.put, List.setIfInBounds_toArray, List.set_cons_zero, List.set_cons_succ, List.toList_toArray])
                  refine wpAnyH_take (i := 8) (oi := { dst := some 39, op := Op.move (Operand.tmp 38), type := 4, pos := "ref.go:57", after := #[{ on := 7, ground := Ground.data }, { on := 3, ground := Ground.chain }], guard := none }) (v := (.bool false)) rfl (by kernel_rfl) (by kernel_rfl) (by kernel_rfl) (fun _ _ _ h => h) (Or.inl ⟨by rfl, ?_⟩) (by assumption) ?_
                  · intro wz hSw
                    (try dsimp only at hSw)
                    obtain ⟨s0, s1, s2, s3, s4, s5, s6, s7, s8, s9, sp, sb⟩ := hSw
                    go_simp
                  (try simp only [Act.put, List.setIfInBounds_toArray, List.set_cons_zero, List.set_cons_succ, List.toList_toArray])
                  refine wpAnyH_take (i := 9) (oi := { dst := some 40, op := Op.move (Operand.tmp 4), type := 3, pos := "ref.go:57", after := #[{ on := 8, ground := Ground.guard }], guard := some (8, false) }) (v := (.int .i64 ((m + 1 : Nat) : Int))) rfl (by kernel_rfl) (by kernel_rfl) (by kernel_rfl) (fun _ _ _ h => h) (Or.inl ⟨by rfl, ?_⟩) (by assumption) ?_
                  · intro wz hSw
                    (try dsimp only at hSw)
                    obtain ⟨s0, s1, s2, s3, s4, s5, s6, s7, s8, s9, sp, sb⟩ := hSw
                    go_simp
                  (try simp only [Act.put, List.setIfInBounds_toArray, List.set_cons_zero, List.set_cons_succ, List.toList_toArray])
                  refine wpAnyH_take (i := 10) (oi := { dst := some 41, op := Op.binOp BinOp.gtr 3 (Operand.tmp 40) (Operand.const (Value.int IntKind.i64 0)) 3, type := 4, pos := "ref.go:57", after := #[{ on := 9, ground := Ground.data }, { on := 8, ground := Ground.guard }], guard := some (8, false) }) (v := (.bool true)) rfl (by kernel_rfl) (by kernel_rfl) (by kernel_rfl) (fun _ _ _ h => h) (Or.inl ⟨by rfl, ?_⟩) (by assumption) ?_
                  · intro wz hSw
                    (try dsimp only at hSw)
                    obtain ⟨s0, s1, s2, s3, s4, s5, s6, s7, s8, s9, sp, sb⟩ := hSw
                    (first | go_simp | (go_simp; omega))
                  (try simp only [Act.put, List.setIfInBounds_toArray, List.set_cons_zero, List.set_cons_succ, List.toList_toArray])
                  refine wpAnyH_take (i := 11) (oi := { dst := some 42, op := Op.move (Operand.tmp 41), type := 4, pos := "ref.go:57", after := #[{ on := 10, ground := Ground.data }, { on := 8, ground := Ground.chain }, { on := 8, ground := Ground.guard }], guard := some (8, false) }) (v := (.bool true)) rfl (by kernel_rfl) (by kernel_rfl) (by kernel_rfl) (fun _ _ _ h => h) (Or.inl ⟨by rfl, ?_⟩) (by assumption) ?_
                  · intro wz hSw
                    (try dsimp only at hSw)
                    obtain ⟨s0, s1, s2, s3, s4, s5, s6, s7, s8, s9, sp, sb⟩ := hSw
                    go_simp
                  (try simp only [Act.put, List.setIfInBounds_toArray, List.set_cons_zero, List.set_cons_succ, List.toList_toArray])
                  refine wpAnyH_take (i := 12) (oi := { dst := some 43, op := Op.fieldAddr 75 (Operand.tmp 5) 0, type := 0, pos := "ref.go:57", after := #[{ on := 11, ground := Ground.guard }], guard := some (11, true) }) (v := (.pointer (some ⟨nb, 0, none⟩))) rfl (by kernel_rfl) (by kernel_rfl) (by kernel_rfl) (fun _ _ _ h => h) (Or.inl ⟨by rfl, ?_⟩) (by assumption) ?_
                  · intro wz hSw
                    (try dsimp only at hSw)
                    obtain ⟨s0, s1, s2, s3, s4, s5, s6, s7, s8, s9, sp, sb⟩ := hSw
                    go_simp
                  (try simp only [Act.put, List.setIfInBounds_toArray, List.set_cons_zero, List.set_cons_succ, List.toList_toArray])
                  refine wpAnyH_take (i := 13) (oi := { dst := some 44, op := Op.load 3 (Operand.tmp 43), type := 3, pos := "ref.go:57", after := #[{ on := 12, ground := Ground.data }, { on := 11, ground := Ground.guard }], guard := some (11, true) }) (v := (.int .i64 x.1.id)) rfl (by kernel_rfl) (by kernel_rfl) (by kernel_rfl) (fun _ _ _ h => h) (Or.inl ⟨by rfl, ?_⟩) (by assumption) ?_
                  · intro wz hSw
                    (try dsimp only at hSw)
                    obtain ⟨s0, s1, s2, s3, s4, s5, s6, s7, s8, s9, sp, sb⟩ := hSw
                    go_simp
                  (try simp only [Act.put, List.setIfInBounds_toArray, List.set_cons_zero, List.set_cons_succ, List.toList_toArray])
                  refine wpAnyH_take (i := 14) (oi := { dst := some 45, op := Op.fieldAddr 43 (Operand.tmp 1) 0, type := 0, pos := "ref.go:57", after := #[{ on := 11, ground := Ground.guard }], guard := some (11, true) }) (v := (.pointer (some ⟨w.heap.size, 0, none⟩))) rfl (by kernel_rfl) (by kernel_rfl) (by kernel_rfl) (fun _ _ _ h => h) (Or.inl ⟨by rfl, ?_⟩) (by assumption) ?_
                  · intro wz hSw
                    (try dsimp only at hSw)
                    obtain ⟨s0, s1, s2, s3, s4, s5, s6, s7, s8, s9, sp, sb⟩ := hSw
                    go_simp
                  (try simp only [Act.put, List.setIfInBounds_toArray, List.set_cons_zero, List.set_cons_succ, List.toList_toArray])
                  refine wpAnyH_take (i := 15) (oi := { dst := some 46, op := Op.load 41 (Operand.tmp 45), type := 41, pos := "ref.go:57", after := #[{ on := 14, ground := Ground.data }, { on := 11, ground := Ground.guard }], guard := some (11, true) }) (v := (.slice (some ⟨b, off, none⟩) n c)) rfl (by kernel_rfl) (by kernel_rfl) (by kernel_rfl) (fun _ _ _ h => h) (Or.inl ⟨by rfl, ?_⟩) (by assumption) ?_
                  · intro wz hSw
                    (try dsimp only at hSw)
                    obtain ⟨s0, s1, s2, s3, s4, s5, s6, s7, s8, s9, sp, sb⟩ := hSw
                    go_simp
                  (try simp only [Act.put, List.setIfInBounds_toArray, List.set_cons_zero, List.set_cons_succ, List.toList_toArray])
                  refine wpAnyH_take (i := 16) (oi := { dst := some 47, op := Op.move (Operand.tmp 4), type := 3, pos := "ref.go:57", after := #[{ on := 11, ground := Ground.guard }], guard := some (11, true) }) (v := (.int .i64 ((m + 1 : Nat) : Int))) rfl (by kernel_rfl) (by kernel_rfl) (by kernel_rfl) (fun _ _ _ h => h) (Or.inl ⟨by rfl, ?_⟩) (by assumption) ?_
                  · intro wz hSw
                    (try dsimp only at hSw)
                    obtain ⟨s0, s1, s2, s3, s4, s5, s6, s7, s8, s9, sp, sb⟩ := hSw
                    go_simp
                  (try simp only [Act.put, List.setIfInBounds_toArray, List.set_cons_zero, List.set_cons_succ, List.toList_toArray])
                  refine wpAnyH_take (i := 17) (oi := { dst := some 48, op := Op.binOp BinOp.sub 3 (Operand.tmp 47) (Operand.const (Value.int IntKind.i64 1)) 3, type := 3, pos := "ref.go:57", after := #[{ on := 16, ground := Ground.data }, { on := 11, ground := Ground.guard }], guard := some (11, true) }) (v := (.int .i64 (m : Int))) rfl (by kernel_rfl) (by kernel_rfl) (by kernel_rfl) (fun _ _ _ h => h) (Or.inl ⟨by rfl, ?_⟩) (by assumption) ?_
                  · intro wz hSw
                    (try dsimp only at hSw)
                    obtain ⟨s0, s1, s2, s3, s4, s5, s6, s7, s8, s9, sp, sb⟩ := hSw
                    (go_simp; exact wrap_nat (by omega))
                  (try simp only [Act.put, List.setIfInBounds_toArray, List.set_cons_zero, List.set_cons_succ, List.toList_toArray])
                  refine wpAnyH_take (i := 18) (oi := { dst := some 49, op := Op.indexAddr 41 (Operand.tmp 46) (Operand.tmp 48), type := 0, pos := "ref.go:57", after := #[{ on := 15, ground := Ground.data }, { on := 17, ground := Ground.data }, { on := 11, ground := Ground.guard }], guard := some (11, true) }) (v := (.pointer (some ⟨b, off + m * 10, none⟩))) rfl (by kernel_rfl) (by kernel_rfl) (by kernel_rfl) (fun _ _ _ h => h) (Or.inl ⟨by rfl, ?_⟩) (by assumption) ?_
                  · intro wz hSw
                    (try dsimp only at hSw)
                    obtain ⟨s0, s1, s2, s3, s4, s5, s6, s7, s8, s9, sp, sb⟩ := hSw
                    (go_simp; intro h; omega)
                  (try simp only [Act.put, List.setIfInBounds_toArray, List.set_cons_zero, List.set_cons_succ, List.toList_toArray])
                  refine wpAnyH_take (i := 19) (oi := { dst := some 50, op := Op.fieldAddr 75 (Operand.tmp 49) 0, type := 0, pos := "ref.go:57", after := #[{ on := 18, ground := Ground.data }, { on := 11, ground := Ground.guard }], guard := some (11, true) }) (v := (.pointer (some ⟨b, off + m * 10, none⟩))) rfl (by kernel_rfl) (by kernel_rfl) (by kernel_rfl) (fun _ _ _ h => h) (Or.inl ⟨by rfl, ?_⟩) (by assumption) ?_
                  · intro wz hSw
                    (try dsimp only at hSw)
                    obtain ⟨s0, s1, s2, s3, s4, s5, s6, s7, s8, s9, sp, sb⟩ := hSw
                    go_simp
                  (try simp only [Act.put, List.setIfInBounds_toArray, List.set_cons_zero, List.set_cons_succ, List.toList_toArray])
                  refine wpAnyH_take (i := 20) (oi := { dst := some 51, op := Op.load 3 (Operand.tmp 50), type := 3, pos := "ref.go:57", after := #[{ on := 19, ground := Ground.data }, { on := 11, ground := Ground.guard }], guard := some (11, true) }) (v := (.int .i64 last)) rfl (by kernel_rfl) (by kernel_rfl) (by kernel_rfl) (fun _ _ _ h => h) (Or.inl ⟨by rfl, ?_⟩) (by assumption) ?_
                  · intro wz hSw
                    (try dsimp only at hSw)
                    obtain ⟨s0, s1, s2, s3, s4, s5, s6, s7, s8, s9, sp, sb⟩ := hSw
                    go_simp
                  (try simp only [Act.put, List.setIfInBounds_toArray, List.set_cons_zero, List.set_cons_succ, List.toList_toArray])
                  refine wpAnyH_take (i := 21) (oi := { dst := some 52, op := Op.binOp BinOp.leq 3 (Operand.tmp 44) (Operand.tmp 51) 3, type := 4, pos := "ref.go:57", after := #[{ on := 13, ground := Ground.data }, { on := 20, ground := Ground.data }, { on := 11, ground := Ground.guard }], guard := some (11, true) }) (v := (.bool false)) rfl (by kernel_rfl) (by kernel_rfl) (by kernel_rfl) (fun _ _ _ h => h) (Or.inl ⟨by rfl, ?_⟩) (by assumption) ?_
                  · intro wz hSw
                    (try dsimp only at hSw)
                    obtain ⟨s0, s1, s2, s3, s4, s5, s6, s7, s8, s9, sp, sb⟩ := hSw
                    (first | go_simp | (go_simp; simp [hd3]))
                  (try simp only [Act.put, List.setIfInBounds_toArray, List.set_cons_zero, List.set_cons_succ, List.toList_toArray])
                  refine wpAnyH_take (i := 22) (oi := { dst := some 53, op := Op.pick (Operand.tmp 42) (Operand.tmp 52) (Operand.const (Value.bool false)), type := 4, pos := "ref.go:57", after := #[{ on := 11, ground := Ground.data }, { on := 21, ground := Ground.data }, { on := 8, ground := Ground.guard }], guard := some (8, false) }) (v := (.bool false)) rfl (by kernel_rfl) (by kernel_rfl) (by kernel_rfl) (fun _ _ _ h => h) (Or.inl ⟨by rfl, ?_⟩) (by assumption) ?_
                  · intro wz hSw
                    (try dsimp only at hSw)
                    obtain ⟨s0, s1, s2, s3, s4, s5, s6, s7, s8, s9, sp, sb⟩ := hSw
                    go_simp
                  (try simp only [Act.put, List.setIfInBounds_toArray, List.set_cons_zero, List.set_cons_succ, List.toList_toArray])
                  refine wpAnyH_take (i := 23) (oi := { dst := some 54, op := Op.pick (Operand.tmp 39) (Operand.const (Value.bool true)) (Operand.tmp 53), type := 4, pos := "ref.go:57", after := #[{ on := 8, ground := Ground.data }, { on := 22, ground := Ground.data }], guard := none }) (v := (.bool false)) rfl (by kernel_rfl) (by kernel_rfl) (by kernel_rfl) (fun _ _ _ h => h) (Or.inl ⟨by rfl, ?_⟩) (by assumption) ?_
                  · intro wz hSw
                    (try dsimp only at hSw)
                    obtain ⟨s0, s1, s2, s3, s4, s5, s6, s7, s8, s9, sp, sb⟩ := hSw
                    go_simp
                  (try simp only [Act.put, List.setIfInBounds_toArray, List.set_cons_zero, List.set_cons_succ, List.toList_toArray])
                  refine wpAnyH_take (i := 24) (oi := { dst := some 55, op := Op.move (Operand.tmp 54), type := 4, pos := "ref.go:57", after := #[{ on := 23, ground := Ground.data }, { on := 11, ground := Ground.chain }], guard := none }) (v := (.bool false)) rfl (by kernel_rfl) (by kernel_rfl) (by kernel_rfl) (fun _ _ _ h => h) (Or.inl ⟨by rfl, ?_⟩) (by assumption) ?_
                  · intro wz hSw
                    (try dsimp only at hSw)
                    obtain ⟨s0, s1, s2, s3, s4, s5, s6, s7, s8, s9, sp, sb⟩ := hSw
                    go_simp
                  (try simp only [Act.put, List.setIfInBounds_toArray, List.set_cons_zero, List.set_cons_succ, List.toList_toArray])
                  refine wpAnyH_take (i := 25) (oi := { dst := some 56, op := Op.load 75 (Operand.tmp 5), type := 75, pos := "ref.go:57", after := #[{ on := 24, ground := Ground.guard }], guard := some (24, false) }) (v := (.agg #[.int .i64 x.1.id, .int .i64 x.1.kind, .int .i64 x.1.mode, .int .i64 x.1.uid, .int .i64 x.1.gid, .int .i64 x.1.sec, .int .i64 x.1.nano, .slice x.2.1.1 x.2.1.2.1 x.2.1.2.2, .string ⟨x.1.target.toArray⟩, .slice x.2.2.1 x.2.2.2.1 x.2.2.2.2])) rfl (by kernel_rfl) (by kernel_rfl) (by kernel_rfl) (fun _ _ _ h => h) (Or.inl ⟨by rfl, ?_⟩) (by assumption) ?_
                  · intro wz hSw
                    (try dsimp only at hSw)
                    obtain ⟨s0, s1, s2, s3, s4, s5, s6, s7, s8, s9, sp, sb⟩ := hSw
                    go_simp
                  (try simp only [Act.put, List.setIfInBounds_toArray, List.set_cons_zero, List.set_cons_succ, List.toList_toArray])
                  refine wpAnyH_ready (rs := [26]) (by kernel_rfl) (by simp) ?_
                  refine AllReadyH.cons (o := { dst := some 57, op := Op.call { callee := Callee.value (Operand.func 66), args := #[Operand.tmp 56], argTypes := #[75] }, type := 4, pos := "ref.go:57", after := #[{ on := 25, ground := Ground.data }, { on := 24, ground := Ground.chain }, { on := 24, ground := Ground.guard }], guard := some (24, false) }) rfl (fun K hK => ?_) AllReadyH.nil
                  go_simp
                  (go_at_call 66; refine (HPL.out _).mono ?_; rintro r w4 ⟨rfl, hb4⟩)
                  have HB4 := Lib.hid (Below.seq (Below.refl wn.heap.size wn).drew hb4)
                  clear hb4
                  (try go_wp2_with fail)
                  refine hK.out _ _ (HALL2.out _ HB4.out) (fun hH26 => ?_)
                  clear hK K hHeld
                  have hHeld := hH26
                  clear hH26
                  (try simp only [Act.put, List.setIfInBounds_toArray, List.set_cons_zero, List.set_cons_succ, List.toList_toArray])
                  refine wpAnyH_take (i := 27) (oi := { dst := some 58, op := Op.unOp UnOp.not 4 (Operand.tmp 57), type := 4, pos := "ref.go:57", after := #[{ on := 26, ground := Ground.data }, { on := 24, ground := Ground.guard }], guard := some (24, false) }) (v := (.bool (!sx))) rfl (by kernel_rfl) (by kernel_rfl) (by kernel_rfl) (fun _ _ _ h => h) (Or.inl ⟨by rfl, ?_⟩) (by assumption) ?_
                  · intro wz hSw
                    (try dsimp only at hSw)
                    obtain ⟨s0, s1, s2, s3, s4, s5, s6, s7, s8, s9, sp, sb⟩ := hSw
                    go_simp
                  (try simp only [Act.put, List.setIfInBounds_toArray, List.set_cons_zero, List.set_cons_succ, List.toList_toArray])
                  refine wpAnyH_take (i := 28) (oi := { dst := some 59, op := Op.pick (Operand.tmp 55) (Operand.const (Value.bool true)) (Operand.tmp 58), type := 4, pos := "ref.go:57", after := #[{ on := 24, ground := Ground.data }, { on := 27, ground := Ground.data }], guard := none }) (v := (.bool (!sx))) rfl (by kernel_rfl) (by kernel_rfl) (by kernel_rfl) (fun _ _ _ h => h) (Or.inl ⟨by rfl, ?_⟩) (by assumption) ?_
                  · intro wz hSw
                    (try dsimp only at hSw)
                    obtain ⟨s0, s1, s2, s3, s4, s5, s6, s7, s8, s9, sp, sb⟩ := hSw
                    go_simp
                  (try simp only [Act.put, List.setIfInBounds_toArray, List.set_cons_zero, List.set_cons_succ, List.toList_toArray])
                  refine wpAnyH_done (by kernel_rfl) ?_ _
                  go_wp2_with fail
                  go_meet
                  exact ⟨!sx, rfl, HB4, Lib.hid (fun h => HSO.out (by simpa using h)), Lib.hid (fun h => ⟨HLT, by omega, by simpa using h⟩)⟩
        obtain ⟨bad, rfl, hbw, hbad, hgood⟩ := hcut
        have d9' := Below.keeps hbw.out _ _ d9
        have HBWc : Hid (Below w.heap.size w wc) := Lib.hid (HBW2.out.trans (hbw.out.mono HBW2.out.size))
        have HBc : Hid (Below (w.heap.size + 1) (w.alloc (.cells #[.slice (some ⟨b, off, none⟩) n c] 43)) wc) := Lib.hid (HB2.out.trans (hbw.out.mono (by have := HNB.out; omega)))
        have hsz := hbw.out.size
        have HNBc : Hid (w.heap.size + 1 ≤ wc.heap.size) := Lib.hid (by have := HNB.out; omega)
        clear HPL HROW HBW HPR2 HB2 HBW2 HRN HID HBG HPV HSO HALL d0 d9 hbx2 hsx
        cases bad with
        | true =>
          have HNC := Lib.hid (hbad.out rfl)
          clear hbad hgood
          go_wp2
          go_ret
          exact CkRes.no HNC.out HBWc.out
        | false =>
          have HG := Lib.hid (hgood.out rfl)
          clear hbad hgood
          generalize x.2.2.1 = xa at *
          generalize x.2.2.2.1 = xn at *
          generalize x.2.2.2.2 = xc at *
          go_wp2
          exact ⟨⟨k + 1, x.1.id, E + xn, by omega, by go_num, by go_num, HBc, Lib.hid (by
            rw [HR.out]
            exact ⟨fun h => h.2.2.2, fun h => ⟨HG.out.1, HG.out.2.1, HG.out.2.2, h⟩⟩), Lib.hid (by rw [HES.out, HEL.out]; omega), Lib.hid ⟨by have := hle.out.1; have := HG.out.1; omega, fun h => by omega, fun m y hm hy => by
              obtain rfl : k = m := by omega
              have := HXK.out; rw [hy] at this; cases this; rfl⟩, Lib.hid (by have := HE2.out; omega), HNBc.out⟩, by simp [intOf]; omega⟩
        -- @end
      · obtain rfl : k = n := by omega
        have hR := hri.out
        rw [List.drop_of_length_le (by rw [show gOf S = S.map (·.1) from rfl, HGL.out]; omega)] at hR
        simp only [Rising, iff_true] at hR
        have hEs := hes.out
        rw [List.drop_of_length_le (by rw [show gOf S = S.map (·.1) from rfl, HGL.out]; omega)] at hEs
        simp only [entSum, Nat.add_zero] at hEs
        have HR := Lib.hid hR; have HES := Lib.hid hEs
        have hE2 : E ≤ k * 140737488355328 := hE.out
        have hE3 : E ≤ 4096 * 140737488355328 := Nat.le_trans hE2 (Nat.mul_le_mul_right _ (by omega))
        have HBW := Lib.hid (box_below hbel.out)
        clear hR hEs hri hes hle hE2 hE
        by_cases hev : 8192 < E
        · have HNC : Hid (¬ Chk (gOf S)) := Lib.hid (fun h => by have := h.2.2.1; rw [HES.out] at this; omega)
          go_wp2
          go_ret
          exact CkRes.no HNC.out HBW.out
        · go_wp2_with (at_make; refine wpList_make_cells rfl _ _ _ rfl (.int .i64 0) 8 Try.underlying85 infoI rfl (by decide) k rfl rfl (by omega) ?_)
          have hPB := hws
          have hr0 : RowE (wr.alloc (.cells (Array.replicate k (Value.int .i64 0)) 3)) wr.heap.size 3 ((List.replicate k (0 : Int)).map (Value.int .i64)) := by
            rw [List.map_replicate]; exact RowE.made _ _ _ _
          have hB0 := hbel.out.alloc (by have := hbel.out.size; simp at this; omega) (.cells (Array.replicate k (Value.int .i64 0)) 3)
          have HR0 := Lib.hid hr0; have HBB := Lib.hid hB0
          clear hr0 hB0 hbel HBW
          generalize wr.alloc (.cells (Array.replicate k (Value.int .i64 0)) 3) = w1 at *
          generalize wr.heap.size = PB at *
          go_loopw [7] (fun i w5 => ∃ (j : Nat) (l : List Int), j ≤ k ∧ i = .int .i64 j ∧ Hid (Below (w.heap.size + 1) (w.alloc (.cells #[.slice a k c] 43)) w5) ∧ Hid (RowE w5 PB 3 (l.map (Value.int .i64))) ∧ Hid (l = List.replicate j (-1) ++ List.replicate (k - j) 0)) (fun i _ => k - (intOf i).toNat)
          case atStart => exact ⟨0, List.replicate k 0, Nat.zero_le _, rfl, HBB, HR0, Lib.hid (by simp)⟩
          case round =>
            obtain ⟨j, l, hj, rfl, hb5, hr5, hl5⟩ := hrel
            by_cases hlt : j < k
            · have hfz := hr5.out.froz j
              have hll : l.length = k := by rw [hl5.out]; simp; omega
              have hcl := hr5.out.cell (k := j) (v := .int .i64 (l[j]'(by omega))) (by rw [List.getElem?_map, List.getElem?_eq_getElem (by omega)]; rfl)
              have hset : l.set j (-1) = List.replicate (j + 1) (-1) ++ List.replicate (k - (j + 1)) 0 := by
                rw [hl5.out]
                apply List.ext_getElem?
                intro i
                simp only [List.getElem?_set, List.getElem?_append, List.getElem?_replicate, List.length_append, List.length_replicate]
                split <;> split <;> (try split) <;> (try split) <;> (try split) <;> (try split) <;> (try split) <;> first | rfl | omega | (simp; omega)
              have HSE := Lib.hid hset
              clear hset hl5
              go_wp2
              exact ⟨⟨j + 1, l.set j (-1), by omega, by go_num, Lib.hid (hb5.out.setCell (by simp; omega) _), Lib.hid (by rw [List.map_set]; exact hr5.out.set j _), HSE⟩, by simp [intOf]; omega⟩
            · obtain rfl : j = k := by omega
              have hpp : PP (gOf S) [] l := by
                rw [hl5.out]
                have := PP.nil (gOf S)
                rw [show (gOf S).length = j from HGL.out] at this
                simpa using this
              have HPP := Lib.hid hpp
              have HINC : Hid (Inc (gOf S)) := Lib.hid HR.out.inc
              clear hpp hl5
              go_wp2
              have HB6 := Lib.hid hb5.out; have HR6 := Lib.hid hr5.out
              have HES2 : Hid (entSum (gOf S) ≤ 8192) := Lib.hid (by rw [HES.out]; omega)
              clear hb5 hr5 HR0 HBB HB0
              go_loopw [8] (fun iv w5 => ∃ (i : Nat) (p : List (Int × Int)) (l : List Int), i ≤ j ∧ iv = .int .i64 i ∧ Hid (Below (w.heap.size + 1) (w.alloc (.cells #[.slice a j c] 43)) w5) ∧ Hid (RowE w5 PB 3 (l.map (Value.int .i64))) ∧ Hid (PP (gOf S) p l) ∧ Hid (enterN (gOf S) (gOf S) [] = enterN (gOf S) ((gOf S).drop i) p)) (fun iv _ => j - (intOf iv).toNat)
              case atStart => exact ⟨0, [], l, Nat.zero_le _, rfl, HB6, HR6, HPP, Lib.hid (by simp)⟩
              case round =>
                clear HPP HB6 HR6 l
                obtain ⟨i, p, l, hi, rfl, hb5, hr5, hpp, hen⟩ := hrel
                have hbx := box_cell1 hb5.out 0 rfl
                by_cases hlt : i < j
                · skip
                  -- @done
                  obtain ⟨x, hxi⟩ := get_some (S := S) (k := i) (by have := HNL.out; omega)
                  have hSk := HS.out.keep (Below.keeps (hb5.out.mono (by simp)))
                  obtain ⟨b, off, rfl, hrow⟩ := hSk.at i x hxi
                  have hex := hSk.ent x (mem_get hxi)
                  have hgi : (gOf S)[i]? = some x.1 := by simp [gOf, hxi]
                  have hdr := drop_get hgi
                  have hun := hen.out
                  rw [hdr] at hun
                  simp only [enterN] at hun
                  have hel := hex.len
                  have hlen2 := HSN.out.len x (mem_get hxi)
                  have hent := HSN.out.ent x (mem_get hxi)
                  have c9 : ∀ w6, Below (w.heap.size + 1) (w.alloc (.cells #[.slice (some ⟨b, off, none⟩) j c] 43)) w6 → w6.cell? ⟨b, off + i * 10 + 9, none⟩ = some (.slice x.2.2.1 x.2.2.2.1 x.2.2.2.2) ∧ Ets w6 x.2.2 x.1.ents ∧ Nds w6 (some ⟨b, off, none⟩) j c S := fun w6 hb => by
                    have hS6 := HS.out.keep (Below.keeps (hb.mono (by simp)))
                    obtain ⟨b', off', ha', hr'⟩ := hS6.at i x hxi
                    simp only [Option.some.injEq, Addr.mk.injEq, and_true] at ha'
                    obtain ⟨rfl, rfl⟩ := ha'
                    exact ⟨range_cell hr' 9 rfl, hS6.ent x (mem_get hxi), hS6⟩
                  have HC9 := Lib.hid c9
                  generalize hRE : enterE (gOf S) x.1.id x.1.ents [] p = RE at hun
                  have HRE := Lib.hid hRE; have HUN := Lib.hid hun; have HGI := Lib.hid hgi; have HEN := Lib.hid hent; have HEL := Lib.hid hel
                  have hbx0 := (c9 _ hb5.out).1
                  clear hxi hSk hrow hex hgi hdr hun hen hel hent hRE c9
                  obtain ⟨xn, xd, xs⟩ := x
                  obtain ⟨xa, xl, xc⟩ := xs
                  simp only at hlen2 HC9 HEL hbx0 HGI HRE HUN HEN
                  go_wp2
                  go_loopw [9] (fun jv w5 => ∃ (e : Nat) (last : Bt) (q : List (Int × Int)) (l : List Int), e ≤ xl ∧ jv = .int .i64 e ∧ Hid (Below (w.heap.size + 1) (w.alloc (.cells #[.slice (some ⟨b, off, none⟩) j c] 43)) w5) ∧ Hid (RowE w5 PB 3 (l.map (Value.int .i64))) ∧ Hid (PP (gOf S) q l) ∧
                    Hid (enterE (gOf S) xn.id (xn.ents.drop e) last q = RE) ∧ Hid ((e = 0 → last = []) ∧ ∀ m y, e = m + 1 → xn.ents[m]? = some y → y.1 = last)) (fun jv _ => xl - (intOf jv).toNat)
                  case atStart => exact ⟨0, [], p, l, Nat.zero_le _, rfl, hb5, hr5, hpp, Lib.hid (by simpa using HRE.out), Lib.hid ⟨fun _ => rfl, fun m y h => by omega⟩⟩
                  case round =>
                    clear hbx hbx0 hb5 hr5 hpp HRE l
                    obtain ⟨e, last, q, l, he, rfl, hb5, hr5, hpp, hee, hls⟩ := hrel
                    have hbx := box_cell1 hb5.out 0 rfl
                    obtain ⟨hc9, hets, hnds⟩ := HC9.out _ hb5.out
                    by_cases hle : e < xl
                    · obtain ⟨⟨nm, eid⟩, hye⟩ := get_some (S := xn.ents) (k := e) (by have := HEL.out; omega)
                      obtain ⟨eb, eo, he1, hrow⟩ := hets.at e (nm, eid) hye
                      simp only at he1
                      subst he1
                      simp only [etCells] at hrow
                      have hdr := drop_get hye
                      have hun := hee.out
                      rw [hdr] at hun
                      have hprev : ∀ m, e = m + 1 → wr.cell? ⟨eb, eo + m * 2, none⟩ = some (.string ⟨last.toArray⟩) := fun m hm => by
                        obtain ⟨y, hy⟩ := get_some (S := xn.ents) (k := m) (by have := HEL.out; omega)
                        obtain ⟨b', off', ha', hr'⟩ := hets.at m y hy
                        simp only [Option.some.injEq, Addr.mk.injEq, and_true] at ha'
                        obtain ⟨rfl, rfl⟩ := ha'
                        rw [← hls.out.2 m y hm hy]
                        exact range_cell hr' 0 rfl
                      have HPR := Lib.hid hprev; have HUN2 := Lib.hid hun; have HROW := Lib.hid hrow; have HYE := Lib.hid hye
                      have hnm := HEN.out _ (mem_get hye)
                      simp only at hnm
                      clear hye hrow hdr hun hprev hee hets
                      go_upto_region 25 with (refine wpList_load_mid rfl _ _ rfl eb (eo + e * 2) rfl _ _ HROW.out Try.underlying87 rfl (by kernel_rfl) ?_)
                      generalize hwn : wr.alloc (.cells #[.string ⟨nm.toArray⟩, .int .i64 eid] 87) = wn
                      have hbN : Below wr.heap.size wr wn := by rw [← hwn]; exact (Below.refl _ _).alloc (Nat.le_refl _) _
                      have hBN := hb5.out.trans (hbN.mono (by have := hb5.out.size; simp at this; omega))
                      have d0 : wn.cell? ⟨wr.heap.size, 0, none⟩ = some (.string ⟨nm.toArray⟩) := by rw [← hwn, World.cell?_alloc_new]; rfl
                      have d1 : wn.cell? ⟨wr.heap.size, 1, none⟩ = some (.int .i64 eid) := by rw [← hwn, World.cell?_alloc_new]; rfl
                      have hsz : wn.heap.size = wr.heap.size + 1 := by rw [← hwn]; simp
                      have HD := Lib.hid (And.intro d0 d1)
                      have hbx2 := box_range1 (v := .slice (some ⟨b, off, none⟩) j c) (by simpa using hBN)
                      have HBX2 := Lib.hid hbx2
                      have HATC := Lib.hid (At_any (some ⟨b, off, none⟩) j c S eid wn (hnds.keep (Below.keeps hbN)) HINC.out)
                      have HBN := Lib.hid hBN
                      have HRN := Lib.hid (hr5.out.below hbN)
                      have HSZ : Hid (w.heap.size + 2 ≤ wn.heap.size) := Lib.hid (by have := hb5.out.size; simp at this; omega)
                      have HPR2 : Hid (∀ m, e = m + 1 → wn.cell? ⟨eb, eo + m * 2, none⟩ = some (.string ⟨last.toArray⟩)) := Lib.hid (fun m hm => Below.keeps hbN _ _ (HPR.out m hm))
                      have HNDS := Lib.hid (hnds.keep (Below.keeps hbN))
                      have hc9n := (HC9.out _ hBN).1
                      have HC9N := Lib.hid hc9n
                      clear hwn hbN hBN d0 hbx2 hbx hb5 hr5 hc9 HPR hnds HROW
                      generalize wr.heap.size = nb at *
                      go_upto_region 26 with (first
                        | (refine wpList_load_mid rfl _ _ rfl w.heap.size 0 rfl _ _ HBX2.out Try.underlying43 rfl (by kernel_rfl) ?_)
                        | (go_at_call 55; (refine (HATC.out).mono ?_); rintro r w4 ⟨rfl, hb4⟩))
                      have HB4 := Lib.hid hb4
                      have f0 := Below.keeps hb4 _ _ HD.out.1
                      have f1 := Below.keeps hb4 _ _ HD.out.2
                      have fx : w4.cell? ⟨w.heap.size, 0, none⟩ = some (.slice (some ⟨b, off, none⟩) j c) := Below.keeps hb4 _ _ (range_cell HBX2.out 0 rfl)
                      have f9 := Below.keeps hb4 _ _ HC9N.out
                      have HPR4 : Hid (∀ m, e = m + 1 → w4.cell? ⟨eb, eo + m * 2, none⟩ = some (.string ⟨last.toArray⟩)) := Lib.hid (fun m hm => Below.keeps hb4 _ _ (HPR2.out m hm))
                      have HGQ : Hid (∀ w5, Calls Try.prog 67 #[.string ⟨nm.toArray⟩] w5 fun e w' => e = .returned (.bool (good nm)) ∧ w' = w5) := Lib.hid (fun w5 => (RefGood_any nm w5 hnm.2).mono (fun _ _ h => ⟨h.1, h.2.symm⟩))
                      have hAT : (atOf (gOf S) eid = -1 ∧ RE = none) ∨ ∃ (kk : Nat) (t : Nd), (gOf S)[kk]? = some t ∧ atOf (gOf S) eid = (kk : Int) ∧ t.id = eid ∧ (if good nm = false ∨ (Op.bytesLess nm last || nm == last) = true then none else if t.kind ≠ 2 then enterE (gOf S) xn.id (xn.ents.drop (e + 1)) nm q else if (q.lookup eid).isSome = true then none else enterE (gOf S) xn.id (xn.ents.drop (e + 1)) nm (q ++ [(eid, xn.id)])) = RE := by
                        have hun := HUN2.out
                        unfold enterE at hun
                        cases hnode : nodeOf (gOf S) eid with
                        | none => rw [hnode] at hun; exact Or.inl ⟨atOf_neg hnode, hun.symm⟩
                        | some t =>
                          rw [hnode] at hun
                          obtain ⟨kk, h1, h2, h3⟩ := atOf_get HINC.out hnode
                          exact Or.inr ⟨kk, t, h1, h2, h3, hun⟩
                      have HATH := Lib.hid hAT
                      have hS : (List.map (fun x => x.1) S) = gOf S := rfl
                      rw [hS]
                      obtain ⟨av, hav⟩ : ∃ av, atOf (gOf S) eid = av := ⟨_, rfl⟩
                      rw [hav] at HATH ⊢
                      have hg0 : e = 0 → good nm = true → (Op.bytesLess nm last || nm == last) = false := fun h0 hg => by
                        rw [hls.out.1 h0]
                        have := (good_parts hg).1
                        cases nm with
                        | nil => exact absurd rfl this
                        | cons a l => rfl
                      have HG0 := Lib.hid hg0
                      generalize good nm = gb at *
                      generalize hlb : (Op.bytesLess nm last || nm == last) = lb at *
                      clear hAT hav hS hb4 hg0 hc9n
                      go_cut [138] from 111 to 138 (fun v wx => ∃ bad, v = .bool bad ∧ Hid (Below w4.heap.size w4 wx) ∧ Hid (bad = true → RE = none) ∧ Hid (bad = false → ∃ (kk : Nat) (t : Nd), (gOf S)[kk]? = some t ∧ av = (kk : Int) ∧ t.id = eid ∧ (if t.kind ≠ 2 then enterE (gOf S) xn.id (xn.ents.drop (e + 1)) nm q else if (q.lookup eid).isSome = true then none else enterE (gOf S) xn.id (xn.ents.drop (e + 1)) nm (q ++ [(eid, xn.id)])) = RE))
                      case first =>
                        rcases HATH.out with ⟨rfl, hre⟩ | ⟨kk, t, h1, rfl, h3, hre⟩
                        · have HRN0 := Lib.hid hre
                          clear hre hlb
                          go_quiet (first | (go_at_call 67; exact Calls.quiet_of_same (HGQ.out _)))
                          go_wp2_with fail
                          go_meet
                          exact ⟨true, rfl, Lib.hid (Below.drewN (Below.refl _ _) _), Lib.hid (fun _ => HRN0.out), Lib.hid (fun h => by cases h)⟩
                        · have hkk : decide ((kk : Int) < 0) = false := by simp
                          cases gb with
                          | false =>
                            have HRN0 : Hid (RE = none) := Lib.hid (by rw [← hre]; simp)
                            clear hre hlb h1 h3
                            go_quiet (first | (go_at_call 67; exact Calls.quiet_of_same (HGQ.out _)))
                            go_wp2_with fail
                            go_meet
                            exact ⟨true, rfl, Lib.hid (Below.drewN (Below.refl _ _) _), Lib.hid (fun _ => HRN0.out), Lib.hid (fun h => by cases h)⟩
                          | true =>
                            rcases e with _ | m
                            · have HL0 := Lib.hid (HG0.out rfl rfl)
                              have HRE2 := Lib.hid hre
                              have H1 := Lib.hid h1; have H3 := Lib.hid h3
                              clear hre h1 h3 hlb
                              go_quiet (first | (go_at_call 67; exact Calls.quiet_of_same (HGQ.out _)))
                              go_wp2_with fail
                              go_meet
                              exact ⟨false, rfl, Lib.hid (Below.drewN (Below.refl _ _) _), Lib.hid (fun h => by cases h), Lib.hid (fun _ => ⟨kk, t, H1.out, rfl, H3.out, by have := HRE2.out; rw [HL0.out] at this; simpa using this⟩)⟩
                            · have fp := HPR4.out m rfl
                              have HRE2 := Lib.hid hre
                              have H1 := Lib.hid h1; have H3 := Lib.hid h3
                              clear hre h1 h3
                              cases lb with
                              | true =>
                                have HRN0 : Hid (RE = none) := Lib.hid (by rw [← HRE2.out]; simp)
                                go_quiet (first | (go_at_call 67; exact Calls.quiet_of_same (HGQ.out _)))
                                go_wp2_with fail
                                go_meet
                                exact ⟨true, rfl, Lib.hid (Below.drewN (Below.refl _ _) _), Lib.hid (fun _ => HRN0.out), Lib.hid (fun h => by cases h)⟩
                              | false =>
                                go_quiet (first | (go_at_call 67; exact Calls.quiet_of_same (HGQ.out _)))
                                go_wp2_with fail
                                go_meet
                                exact ⟨false, rfl, Lib.hid (Below.drewN (Below.refl _ _) _), Lib.hid (fun h => by cases h), Lib.hid (fun _ => ⟨kk, t, H1.out, rfl, H3.out, by have := HRE2.out; simpa using this⟩)⟩
                      obtain ⟨bad, rfl, hbw, hbad, hgood⟩ := hcut
                      have HBWc := Lib.hid (HB4.out.trans (hbw.out.mono HB4.out.size))
                      have HBC : Hid (Below (w.heap.size + 1) (w.alloc (.cells #[.slice (some ⟨b, off, none⟩) j c] 43)) wc) := Lib.hid (HBN.out.trans (HBWc.out.mono (by have := HSZ.out; omega)))
                      have hrc := HRN.out.below HBWc.out
                      obtain ⟨hc9c, _, hndc⟩ := HC9.out _ HBC.out
                      have hbxc : wc.cell? ⟨w.heap.size, 0, none⟩ = some (.slice (some ⟨b, off, none⟩) j c) := Below.keeps hbw.out _ _ fx
                      have HRC := Lib.hid hrc; have HNC := Lib.hid hndc
                      have HNO : Hid (RE = none → ¬ Chk (gOf S)) := Lib.hid (fun h hc => by
                        obtain ⟨_, _, _, p', hp', _⟩ := hc
                        rw [HUN.out, h] at hp'
                        cases hp')
                      have HBB := Lib.hid (box_below HBC.out)
                      have h11 : wc.cell? ⟨nb, 1, none⟩ = some (.int .i64 eid) := Below.keeps hbw.out _ _ f1
                      clear HATH HG0 HGQ HPR4 f0 f1 fx f9 hbw hrc hndc HB4 HC9N HNDS HPR2 HATC HBX2 HD HRN hlb d1 HBWc
                      cases bad with
                      | true =>
                        have HNN := Lib.hid (HNO.out (hbad.out rfl))
                        clear hbad hgood
                        go_wp2
                        go_ret
                        exact CkRes.no HNN.out HBB.out
                      | false =>
                        obtain ⟨kk, t, h1, rfl, h3, hre⟩ := hgood.out rfl
                        have hkj : kk < j := by have := (List.getElem?_eq_some_iff.1 h1).1; have := HGL.out; rw [show gOf S = S.map (·.1) from rfl] at *; omega
                        obtain ⟨tx, htx⟩ := get_some (S := S) (k := kk) (by have := HNL.out; omega)
                        have htt : tx.1 = t := by
                          have : (gOf S)[kk]? = some tx.1 := by simp [gOf, htx]
                          rw [h1] at this; cases this; rfl
                        obtain ⟨b', off', ha', hrt⟩ := HNC.out.at kk tx htx
                        simp only [Option.some.injEq, Addr.mk.injEq, and_true] at ha'
                        obtain ⟨rfl, rfl⟩ := ha'
                        have hkd : wc.cell? ⟨b, off + kk * 10 + 1, none⟩ = some (.int .i64 t.kind) := by rw [← htt]; exact range_cell hrt 1 rfl
                        have hpk := hpp.out.get h1
                        have hpc := HRC.out.cell (k := kk) (v := .int .i64 (parAt (gOf S) q t.id)) (by rw [List.getElem?_map, hpk]; rfl)
                        have hfz := HRC.out.froz kk
                        have H1 := Lib.hid h1; have H3 := Lib.hid h3; have HRE := Lib.hid hre
                        have HLS : Hid (∀ m y, e + 1 = m + 1 → xn.ents[m]? = some y → y.1 = nm) := Lib.hid (fun m y hm hy => by
                          obtain rfl : e = m := by omega
                          have := HYE.out; rw [hy] at this; cases this; rfl)
                        have hll := hpp.out.len
                        rw [show (gOf S).length = j from HGL.out] at hll
                        have HLL := Lib.hid hll
                        clear hbad hgood h1 h3 hre htx htt hrt hpk hll
                        by_cases hk2 : t.kind = 2
                        · rw [hk2] at hkd
                          cases hlk : q.lookup t.id with
                          | some u =>
                            obtain ⟨m, y, _, _, hm⟩ := hpp.out.some HINC.out hlk
                            rw [hm] at hpc
                            have HRN0 := Lib.hid (HNO.out (by
                              have := HRE.out
                              rw [if_neg (by simp [hk2]), ← H3.out, hlk] at this
                              simpa using this.symm))
                            clear hm hlk
                            go_wp2
                            go_ret
                            exact CkRes.no HRN0.out HBB.out
                          | none =>
                            rw [parAt_none hlk] at hpc
                            have HRE2 : Hid (enterE (gOf S) xn.id (xn.ents.drop (e + 1)) nm (q ++ [(t.id, xn.id)]) = RE) := Lib.hid (by
                              have := HRE.out
                              rw [if_neg (by simp [hk2]), ← H3.out, hlk] at this
                              simpa using this)
                            have HPP2 := Lib.hid (hpp.out.put HINC.out H1.out HGI.out hlk)
                            clear hlk
                            go_wp2
                            exact ⟨⟨e + 1, nm, q ++ [(t.id, xn.id)], l.set kk (i : Int), by omega, by go_num, Lib.hid (HBC.out.setCell (by simp; omega) _), Lib.hid (by rw [List.map_set]; exact HRC.out.set kk _), HPP2, HRE2, Lib.hid ⟨fun h => by omega, HLS.out⟩⟩, by simp [intOf]; omega⟩
                        · have hk2' : (t.kind == 2) = false := by simpa using hk2
                          have HRE2 : Hid (enterE (gOf S) xn.id (xn.ents.drop (e + 1)) nm q = RE) := Lib.hid (by
                            have := HRE.out
                            rw [if_pos hk2] at this
                            exact this)
                          clear hk2
                          go_wp2
                          exact ⟨⟨e + 1, nm, q, l, by omega, by go_num, HBC, HRC, hpp, HRE2, Lib.hid ⟨fun h => by omega, HLS.out⟩⟩, by simp [intOf]; omega⟩
                    · obtain rfl : e = xl := by omega
                      have hre := hee.out
                      rw [List.drop_of_length_le (by have := HEL.out; omega)] at hre
                      simp only [enterE] at hre
                      have hun := HUN.out
                      rw [← hre] at hun
                      simp only at hun
                      have HUN3 := Lib.hid hun
                      clear hre hun
                      go_wp2
                      exact ⟨⟨i + 1, q, l, by omega, by go_num, hb5, hr5, hpp, HUN3⟩, by simp [intOf]; omega⟩
                  -- @end
                · obtain rfl : i = j := by omega
                  have hE := hen.out
                  rw [List.drop_of_length_le (by rw [show gOf S = S.map (·.1) from rfl, HGL.out]; omega)] at hE
                  simp only [enterN] at hE
                  have HEN := Lib.hid hE
                  have HNA : Hid (¬ Acy p → ¬ Chk (gOf S)) := Lib.hid (fun h hc => by
                    obtain ⟨_, _, _, p', hp', ha⟩ := hc
                    rw [HEN.out] at hp'
                    cases hp'
                    exact h ha)
                  have HYA : Hid (Acy p → Chk (gOf S)) := Lib.hid (fun h => ⟨by rw [show gOf S = S.map (·.1) from rfl, HGL.out]; omega, HR.out, HES2.out, p, HEN.out, h⟩)
                  have HBB := Lib.hid (box_below hb5.out)
                  have hll := hpp.out.len
                  rw [show (gOf S).length = i from HGL.out] at hll
                  have HLL := Lib.hid hll
                  have HR5 := Lib.hid hr5.out
                  clear hE hen hb5 hr5 hll HES2 HEN
                  go_wp2
                  clear hbx
                  go_loopw [12] (fun iv w5 => ∃ (k : Nat), k ≤ i ∧ iv = .int .i64 k ∧ w5 = wr ∧ Hid (∀ m y, m < k → (gOf S)[m]? = some y → Ends p y.id)) (fun iv _ => i - (intOf iv).toNat)
                  case atStart => exact ⟨0, Nat.zero_le _, rfl, rfl, Lib.hid (fun m y h => by omega)⟩
                  case round =>
                    obtain ⟨k, hk, rfl, rfl, hends⟩ := hrel
                    by_cases hlt : k < i
                    · obtain ⟨x, hxk⟩ := get_some (S := gOf S) (k := k) (by have := HGL.out; rw [show gOf S = S.map (·.1) from rfl]; omega)
                      obtain ⟨v, hv, hst⟩ := Stand.first HINC.out hpp.out hxk
                      have hc1 := HR5.out.cell (k := k) (v := .int .i64 v) (by rw [List.getElem?_map, hv]; rfl)
                      have HST := Lib.hid hst; have HXK := Lib.hid hxk
                      clear hv hst hxk
                      go_wp2
                      go_loopw [13, 14] (fun av sv w5 => ∃ (s : Nat) (v : Int), s ≤ i + 1 ∧ sv = .int .i64 s ∧ av = .int .i64 v ∧ w5 = wr ∧ Hid (Stand (gOf S) p x.id (s + 1) v)) (fun _ sv _ => i + 2 - (intOf sv).toNat)
                      case atStart => exact ⟨0, v, by omega, rfl, rfl, rfl, HST⟩
                      case round =>
                        clear HST hc1
                        obtain ⟨s, v, hs, rfl, rfl, rfl, hst⟩ := hrel
                        rcases hst.out with ⟨rfl, hno⟩ | ⟨m, y, rfl, hm, hcl⟩
                        · have HEX : Hid (∀ m y, m < k + 1 → (gOf S)[m]? = some y → Ends p y.id) := Lib.hid (fun m y hm hy => by
                            rcases Nat.lt_or_ge m k with h | h
                            · exact hends.out m y h hy
                            · obtain rfl : m = k := by omega
                              have := HXK.out; rw [hy] at this; cases this
                              exact ⟨s + 1, hno⟩)
                          clear hst hno
                          go_wp2
                          exact ⟨⟨k + 1, by omega, by go_num, trivial, HEX⟩, by simp [intOf]; omega⟩
                        · have hmi : m < i := by have := (List.getElem?_eq_some_iff.1 hm).1; have := HGL.out; rw [show gOf S = S.map (·.1) from rfl] at *; omega
                          have hm0 : (0 : Int) ≤ (m : Int) := by omega
                          by_cases hmk : m = k
                          · subst hmk
                            have HNN := Lib.hid (HNA.out (fun ha => by
                              have e1 := HXK.out
                              rw [hm] at e1
                              cases e1
                              exact loop_not hcl (ha _)))
                            clear hst hm hcl
                            go_wp2
                            go_ret
                            exact CkRes.no HNN.out HBB.out
                          · have hne : ((m : Int) == (k : Int)) = false := by rw [beq_eq_false_iff_ne]; omega
                            by_cases hsi : i < s
                            · have HNN := Lib.hid (HNA.out (fun ha => far_not hcl (by have := hpp.out.num; rw [show (gOf S).length = i from HGL.out] at this; omega) (ha _)))
                              have hs1 : decide ((i : Int) < (s : Int)) = true := by simp; omega
                              clear hst hm hcl
                              go_wp2
                              go_ret
                              exact CkRes.no HNN.out HBB.out
                            · have hs1 : decide ((i : Int) < (s : Int)) = false := by simp; omega
                              obtain ⟨v', hv', hst'⟩ := Stand.next HINC.out hpp.out hm hcl
                              have hc2 := HR5.out.cell (k := m) (v := .int .i64 v') (by rw [List.getElem?_map, hv']; rfl)
                              have HST' := Lib.hid hst'
                              clear hst hm hcl hv' hst'
                              go_wp2
                              exact ⟨⟨s + 1, v', by omega, by go_num, rfl, trivial, HST'⟩, by simp [intOf]; omega⟩
                    · obtain rfl : k = i := by omega
                      have HAC := Lib.hid (HYA.out (hpp.out.acy (fun x hx => by
                        obtain ⟨m, hm⟩ := List.mem_iff_getElem?.1 hx
                        exact hends.out m x (by have := (List.getElem?_eq_some_iff.1 hm).1; have := HGL.out; rw [show gOf S = S.map (·.1) from rfl] at *; omega) hm)))
                      clear hends
                      go_wp2
                      go_ret
                      exact ⟨0, rfl, HBB.out, by simp [show S.map (·.1) = gOf S from rfl, HAC.out]⟩
end Gr
end Go.Proofs.Ytpdkdhcbibcifaa
