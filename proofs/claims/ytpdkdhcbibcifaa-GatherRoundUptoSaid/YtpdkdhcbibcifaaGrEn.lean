/-
  GrEn: entries in memory; gather.check and gather.entry.
-/
import Derived.Test.YtpdkdhcbibcifaaGrPlant
import Derived.Test.YtpdkdhcbibcifaaGrSame
namespace Go.Proofs.Ytpdkdhcbibcifaa
set_option linter.unusedVariables false
set_option linter.unusedSimpArgs false
open Go.ChangeShapes Go.WideShapes Go.ChangeAt Go.RowKit
namespace Gr
structure En where
  kind : Int
  name : Bt
  link : Bt
  mode : Int
  uid : Int
  gid : Int
  user : Bt
  group : Bt
  sec : Int
  nano : Int
  data : Bt
abbrev EnS := En × Sl
def enV (x : EnS) : Array Value := #[.int .i64 x.1.kind, .string ⟨x.1.name.toArray⟩, .string ⟨x.1.link.toArray⟩, .int .i64 x.1.mode, .int .i64 x.1.uid, .int .i64 x.1.gid, .string ⟨x.1.user.toArray⟩, .string ⟨x.1.group.toArray⟩, .int .i64 x.1.sec, .int .i64 x.1.nano, .slice x.2.1 x.2.2.1 x.2.2.2]
def enCells (x : EnS) : List Value := (enV x).toList
theorem enCells_len (x : EnS) : (enCells x).length = 11 := rfl
/-- a slice of entries -/
structure Ens (w : World) (a : Option Addr) (n c : Nat) (S : List EnS) : Prop where
  sl : IsSl w 11 a n c (S.flatMap enCells)
  dat : ∀ x ∈ S, Dat w x.2 x.1.data
theorem Ens.keep {w w' : World} {a : Option Addr} {n c : Nat} {S : List EnS} (h : Ens w a n c S) (k : Keeps w w') : Ens w' a n c S := ⟨k.sl h.sl, fun x hx => k.bs (h.dat x hx)⟩
theorem Ens.below {w w' : World} {a : Option Addr} {n c : Nat} {S : List EnS} (h : Ens w a n c S) (k : Below w.heap.size w w') : Ens w' a n c S := h.keep (Below.keeps k)
theorem Ens.len {w : World} {a : Option Addr} {n c : Nat} {S : List EnS} (h : Ens w a n c S) : S.length = n := by have := h.sl.1; rw [flat_len enCells_len] at this; omega
theorem Ens.cap {w : World} {a : Option Addr} {n c : Nat} {S : List EnS} (h : Ens w a n c S) : n ≤ c := h.sl.2.1
theorem Ens.max {w : World} {a : Option Addr} {n c : Nat} {S : List EnS} (h : Ens w a n c S) : c ≤ 9223372036854775807 := h.sl.2.2.1
theorem Ens.at {w : World} {a : Option Addr} {n c : Nat} {S : List EnS} (h : Ens w a n c S) (k : Nat) (x : EnS) (hx : S[k]? = some x) : ∃ b off, a = some ⟨b, off, none⟩ ∧ w.rangeAt b (off + k * 11) (enCells x) := rows_at enCells_len (by decide) h.sl k x hx
theorem en_one (S : List EnS) : ∀ u ∈ S.flatMap enCells, u.oneCell' = true := by
  intro u hu
  obtain ⟨x, _, hu⟩ := List.mem_flatMap.1 hu
  simp only [enCells, enV, List.mem_cons, List.not_mem_nil, or_false] at hu
  rcases hu with rfl | rfl | rfl | rfl | rfl | rfl | rfl | rfl | rfl | rfl | rfl <;> rfl
def enZ : Array Value := #[.int .i64 0, .string ⟨#[]⟩, .string ⟨#[]⟩, .int .i64 0, .int .i64 0, .int .i64 0, .string ⟨#[]⟩, .string ⟨#[]⟩, .int .i64 0, .int .i64 0, .slice none 0 0]
theorem infoEntry : (Try.prog.info? 39).map (fun i => (i.zero, i.size, i.bytes)) = some (some (.agg enZ), 11, 136) := by kernel_rfl
theorem infoEn2 (x : EnS) : (Try.prog.info? 39).map (fun i => (i.zero, i.size)) = some (some (Value.agg enZ), (enV x).size) := by show _ = some (some (Value.agg enZ), 11); kernel_rfl
/-- a line as an entry -/
def entOf (l : Ln) : En :=
  if l.peer ≠ [] then ⟨4, l.path, l.peer, l.mode, l.uid, l.gid, [], [], l.sec, l.nano, []⟩
  else if l.kind = 2 then ⟨2, l.path ++ [47], [], l.mode, l.uid, l.gid, [], [], l.sec, l.nano, []⟩
  else if l.kind = 3 then ⟨3, l.path, l.target, l.mode, l.uid, l.gid, [], [], l.sec, l.nano, []⟩
  else ⟨l.kind, l.path, [], l.mode, l.uid, l.gid, [], [], l.sec, l.nano, l.data⟩
/-- may the name be said? -/
def room (l : Ln) : Nat := if l.kind = 2 then 4095 else 4096
/-- the tree can be gathered -/
def Gath (ls : List Ln) : Prop := Planted false ls ∧ ∀ l ∈ ls, l.path.length ≤ room l
def CheckRes (w : World) (ls : List Ln) (r : Ending) (w' : World) : Prop :=
  ∃ code : Int, r = .returned (.int .i64 code) ∧ Below w.heap.size w w' ∧ (code = 0 ↔ Gath ls) ∧ (code = 160 ↔ ¬ Planted false ls) ∧ (code = 0 ∨ code = 160 ∨ code = 93)
set_option maxRecDepth 100000 in
set_option maxHeartbeats 4000000 in
theorem check_any (a : Option Addr) (n c : Nat) (T : List LnS) (w : World) (hL : Lns w a n c T) (hN : LnNum T) :
    Calls Try.prog 24 #[.slice a n c] w (CheckRes w (lOf T)) := by
  have hl := hL.len; have hcap := hL.cap; have hmax := hL.max
  have hn2 := hN.num
  have HL := Lib.hid hl; have HT := Lib.hid hL; have HN := Lib.hid hN
  have HPL := Lib.hid (Plant_any a n c T w hL hN)
  rw [hl] at hn2
  clear hL hN hl
  go_enter Try.func24, Try.ntmps24
  go_upto_region 2 with (go_at_call 43; (refine (HPL.out).mono ?_); rintro r w1 ⟨ga, gn, gc, code, rfl, hb1, hcode⟩; have HB1 := Lib.hid hb1; have HCO := Lib.hid hcode; clear hb1 hcode)
  by_cases hc : code = 0
  · subst hc
    have HPT := Lib.hid (HCO.out.1 rfl)
    have HBX : Hid (Below w.heap.size w (w1.alloc (.cells #[.slice ga gn gc] 43))) := Lib.hid (HB1.out.alloc HB1.out.size _)
    clear HCO HPL
    generalize w1.alloc (.cells #[.slice ga gn gc] 43) = w2 at *
    go_wp2_with fail
    go_loopw [17] (fun i wr => ∃ k : Nat, k ≤ n ∧ i = .int .i64 k ∧ Hid (Below w.heap.size w wr) ∧ Hid (∀ l ∈ (lOf T).take k, l.path.length ≤ room l)) (fun i _ => n - (intOf i).toNat)
    case atStart => exact ⟨0, Nat.zero_le _, rfl, HBX, Lib.hid (by simp)⟩
    case round =>
      obtain ⟨k, hk, rfl, hbel, hall⟩ := hrel
      by_cases hlt : k < n
      · obtain ⟨x, hxk⟩ := get_some (S := T) (k := k) (by have := HL.out; omega)
        obtain ⟨b, off, rfl, hr⟩ := (HT.out.below hbel.out).at k x hxk
        have hlk : (lOf T)[k]? = some x.1 := mapfst_get hxk
        have HLK := Lib.hid hlk
        have hps := (HN.out.str x (mem_get hxk)).1
        have HB3 : Hid (Below w.heap.size w (wr.alloc (.cells (lnV x) 51))) := Lib.hid (hbel.out.alloc hbel.out.size _)
        have hbx := heap_alloc_new wr (.cells (lnV x) 51)
        have HTK : Hid ((lOf T).take (k + 1) = (lOf T).take k ++ [x.1]) := Lib.hid (by
          obtain ⟨h1, h2⟩ := List.getElem?_eq_some_iff.1 hlk
          rw [List.take_succ_eq_append_getElem h1, h2])
        obtain ⟨⟨path, kind, mode, uid, gid, sec, nano, data, target, peer⟩, ⟨da, dn, dc⟩⟩ := x
        simp only [lnCells] at hr
        simp only [lnV] at hbx HB3
        simp only at hps
        have c0 : (wr.alloc (.cells #[.string ⟨path.toArray⟩, .int .i64 kind, .int .i64 mode, .int .i64 uid, .int .i64 gid, .int .i64 sec, .int .i64 nano, .slice da dn dc, .string ⟨target.toArray⟩, .string ⟨peer.toArray⟩] 51)).cell? ⟨wr.heap.size, 0, none⟩ = some (.string ⟨path.toArray⟩) := by rw [row_cell hbx]; rfl
        have c1 : (wr.alloc (.cells #[.string ⟨path.toArray⟩, .int .i64 kind, .int .i64 mode, .int .i64 uid, .int .i64 gid, .int .i64 sec, .int .i64 nano, .slice da dn dc, .string ⟨target.toArray⟩, .string ⟨peer.toArray⟩] 51)).cell? ⟨wr.heap.size, 1, none⟩ = some (.int .i64 kind) := by rw [row_cell hbx]; rfl
        have hsz : (⟨path.toArray⟩ : ByteArray).size = path.length := rfl
        have HR := Lib.hid hr
        clear hr hxk hlk hbx
        by_cases hroom : path.length ≤ room ⟨path, kind, mode, uid, gid, sec, nano, data, target, peer⟩
        · have HRM := Lib.hid hroom
          have HNX : Hid (∀ l ∈ (lOf T).take (k + 1), l.path.length ≤ room l) := Lib.hid (fun l hl => by
            rw [HTK.out] at hl
            rcases List.mem_append.1 hl with h | h
            · exact hall.out l h
            · rw [List.mem_singleton] at h; subst h; exact HRM.out)
          unfold room at hroom
          simp only at hroom
          by_cases hkd : kind = 2
          · rw [if_pos hkd] at hroom
            have hkb : (kind == 2) = true := beq_t hkd
            clear hkd
            go_wp2_with (refine wpList_load_mid rfl _ _ rfl b (off + k * 10) rfl _ _ HR.out Try.underlying51 rfl (by kernel_rfl) ?_)
            exact ⟨⟨k + 1, by omega, by go_num, HB3, HNX⟩, by simp [intOf]; omega⟩
          · rw [if_neg hkd] at hroom
            have hkb : (kind == 2) = false := beq_f hkd
            go_wp2_with (refine wpList_load_mid rfl _ _ rfl b (off + k * 10) rfl _ _ HR.out Try.underlying51 rfl (by kernel_rfl) ?_)
            exact ⟨⟨k + 1, by omega, by go_num, HB3, HNX⟩, by simp [intOf]; omega⟩
        · have HNO : Hid (¬ Gath (lOf T)) := Lib.hid (fun h => hroom (h.2 _ (mem_get HLK.out)))
          have HEND : Hid (CheckRes w (lOf T) (.returned (.int .i64 93)) (wr.alloc (.cells #[.string ⟨path.toArray⟩, .int .i64 kind, .int .i64 mode, .int .i64 uid, .int .i64 gid, .int .i64 sec, .int .i64 nano, .slice da dn dc, .string ⟨target.toArray⟩, .string ⟨peer.toArray⟩] 51))) := Lib.hid ⟨93, rfl, HB3.out, by simp [HNO.out], by simp [HPT.out], by simp⟩
          unfold room at hroom
          simp only at hroom
          by_cases hkd : kind = 2
          · rw [if_pos hkd] at hroom
            have hkb : (kind == 2) = true := beq_t hkd
            clear hkd
            go_wp2_with (refine wpList_load_mid rfl _ _ rfl b (off + k * 10) rfl _ _ HR.out Try.underlying51 rfl (by kernel_rfl) ?_)
            go_ret
            exact HEND.out
          · rw [if_neg hkd] at hroom
            have hkb : (kind == 2) = false := beq_f hkd
            go_wp2_with (refine wpList_load_mid rfl _ _ rfl b (off + k * 10) rfl _ _ HR.out Try.underlying51 rfl (by kernel_rfl) ?_)
            go_ret
            exact HEND.out
      · obtain rfl : k = n := by omega
        go_wp2_with fail
        go_ret
        have h := hall.out
        rw [List.take_of_length_le (by rw [List.length_map]; have := HL.out; omega)] at h
        exact ⟨0, rfl, hbel.out, ⟨fun _ => ⟨HPT.out, h⟩, fun _ => rfl⟩, by simp [HPT.out], by simp⟩
  · have hcb : (code != 0) = true := bne_t hc
    have HNP : Hid (¬ Planted false (lOf T)) := Lib.hid (fun h => hc (HCO.out.2 h))
    clear HCO HPL hc
    go_wp2_with fail
    go_ret
    exact ⟨160, rfl, HB1.out.alloc HB1.out.size _, ⟨fun e => by simp at e, fun h => absurd h.1 HNP.out⟩, by simp [HNP.out], by simp⟩
end Gr
end Go.Proofs.Ytpdkdhcbibcifaa
