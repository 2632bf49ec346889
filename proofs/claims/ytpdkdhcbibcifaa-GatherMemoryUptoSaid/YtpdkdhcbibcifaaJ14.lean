/-
  J14: RgLines, RgLawL, joined.
-/
import Derived.Test.YtpdkdhcbibcifaaJ13
import Derived.Test.YtpdkdhcbibcifaaJ08
namespace Go.Proofs.Ytpdkdhcbibcifaa
set_option linter.unusedVariables false
set_option linter.unusedSimpArgs false
open Go.ChangeShapes Go.WideShapes Go.ChangeAt Go.RowKit
namespace Gr
/-- the line of an entry, ahead of what its kind asks -/
def linT (e : En) : Ln := ⟨e.name, e.kind, e.mode, e.uid, e.gid, e.sec, e.nano, e.data, e.link, []⟩
/-- a line in its box, and the entry in its own -/
structure Bl (w w' : World) (B lb ex : Nat) (a : Option Addr) (n c : Nat) (S : List LnS) (l : Ln) (d : Sl) (D : Nat) (e : EnS) : Prop where
  bel : Below B w w'
  new : NewLn w' B a n c S
  row : w'.heap[lb]? = some (.cells (lnV (l, d)) 51)
  own : Own w' D d l.data
  ne : (Value.slice a n c).ownBlock ≠ some lb
  lb : B ≤ lb
  en : w'.heap[ex]? = some (.cells (enV e) 39)
section
variable {w w' w2 : World} {B lb ex D : Nat} {a : Option Addr} {n c : Nat} {S : List LnS} {l l' : Ln} {d : Sl} {e : EnS}
theorem Bl.set (h : Bl w w' B lb ex a n c S l d D e) (j : Nat) (v : Value) (he : (lnV (l, d)).setIfInBounds j v = lnV (l', d)) (hd : l'.data = l.data) : Bl w (w'.setCell ⟨lb, j, none⟩ v) B lb ex a n c S l' d D e := by
  have hr := setCell_row h.row (j := j) v
  rw [he] at hr
  exact ⟨h.bel.setCell (p := ⟨lb, j, none⟩) h.lb _, h.new.box h.row h.ne j v, hr, by rw [hd]; exact own_cell h.own h.row (by decide), h.ne, h.lb, row_grown h.en (setCell_grown w' lb j v) (fun e1 => by
    have e2 := Option.some.inj e1
    have h1 := h.en
    rw [e2, h.row] at h1
    simp only [Option.some.injEq, Obj.cells.injEq] at h1
    exact absurd h1.2.1 (by decide))⟩
theorem Bl.below (h : Bl w w' B lb ex a n c S l d D e) (hB : B ≤ w'.heap.size) (k : Below w'.heap.size w' w2) : Bl w w2 B lb ex a n c S l d D e :=
  ⟨h.bel.trans (k.mono hB), h.new.below k, row_below h.row k, own_keep h.own (fun j _ hj => k.block j hj), h.ne, h.lb, row_below h.en k⟩
end
set_option maxRecDepth 100000 in
set_option maxHeartbeats 8000000 in
theorem RLines_any (a : Option Addr) (n c : Nat) (T : List EnS) (w : World) (hL : Ens w a n c T) (hN : EnNum T) :
    Calls Try.prog 21 #[.slice a n c] w (LinesRes w (eOf T)) := by
  have hl := hL.len; have hcap := hL.cap; have hmax := hL.max
  have hn2 := hN.num
  have HL := Lib.hid hl; have HT := Lib.hid hL; have HN := Lib.hid hN
  rw [hl] at hn2
  clear hL hN hl
  go_enter Try.func21, Try.ntmps21
  go_wp2_with fail
  have HB0 : Hid (Below w.heap.size w (w.alloc (.cells #[] 51))) := Lib.hid ((Below.refl _ _).alloc (Nat.le_refl _) _)
  have HN0 : Hid (NewLn (w.alloc (.cells #[] 51)) w.heap.size (some ⟨w.heap.size, 0, none⟩) 0 0 []) := Lib.hid ⟨World.ownsRow_lit (base := w.heap.size) (e := 51) (size := 10) w #[] 0 (Nat.le_refl _) (by decide) rfl, by simp, List.Pairwise.nil⟩
  go_loopw [4, 5] (fun v i wr => ∃ (k : Nat) (la : Option Addr) (lc : Nat) (LS : List LnS) (ks : List (Bt × Int)), k ≤ n ∧ i = .int .i64 k ∧ v = .slice la k lc ∧ Hid (NewLn wr w.heap.size la k lc LS) ∧ Hid (Below w.heap.size w wr) ∧ Hid (ks = LS.map fun x => (x.1.path, x.1.kind)) ∧
    Hid (LS.map (·.1) ++ linesR ks ((eOf T).drop k) = linesR [] (eOf T)) ∧ Hid (∀ l ∈ LS.map (·.1), (∃ e ∈ eOf T, l.data = e.data) ∧ l.path.length ≤ 1900001 ∧ l.peer.length ≤ 1900001 ∧ l.target.length ≤ 1900001)) (fun _ i _ => n - (intOf i).toNat)
  case atStart => exact ⟨0, _, 0, [], [], Nat.zero_le _, rfl, rfl, HN0, HB0, Lib.hid rfl, Lib.hid (by simp), Lib.hid (by simp)⟩
  case round =>
    clear HN0 HB0
    obtain ⟨k, la, lc, LS, ks, hk, rfl, rfl, hI, hB, hKS, hG, hX⟩ := hrel
    by_cases hlt : k < n
    · obtain ⟨x, hxk⟩ := get_some (S := T) (k := k) (by have := HL.out; omega)
      obtain ⟨b, off, rfl, hr⟩ := (HT.out.below hB.out).at k x hxk
      have hdx := (HT.out.below hB.out).dat x (mem_get hxk)
      have hnd := HN.out.dat x (mem_get hxk)
      obtain ⟨hns1, hns2⟩ := HN.out.str x (mem_get hxk)
      have hlk : (eOf T)[k]? = some x.1 := mapfst_get hxk
      have hdr := drop_get hlk
      have hGG := hG.out
      rw [hdr] at hGG
      simp only [linesR] at hGG
      have HGG := Lib.hid hGG
      have HMEM : Hid (x.1 ∈ eOf T) := Lib.hid (mem_get hlk)
      have hb1 : Below wr.heap.size wr (wr.alloc (.cells (enV x) 39)) := (Below.refl _ _).alloc (Nat.le_refl _) _
      have HB1 := Lib.hid (hB.out.trans (hb1.mono hB.out.size))
      have HI1 := Lib.hid (hI.out.below hb1)
      have HBX := Lib.hid (heap_alloc_new wr (.cells (enV x) 39))
      have HDX := Lib.hid (Below.bs hb1 hdx)
      have HND := Lib.hid hnd
      have HR := Lib.hid hr
      have hmw := hB.out.size
      clear hdx hnd hxk hlk hdr hGG hb1 hr hI hG hB
      obtain ⟨⟨kind, name, link, mode, uid, gid, user, group, sec, nano, data⟩, ⟨da, dn, dc⟩⟩ := x
      simp only at hns1 hns2 HND HDX
      simp only [enCells, enV] at HR
      simp only [enV] at HBX HB1 HI1 HDX
      go_upto_region 6 with (refine wpList_load_mid rfl _ _ rfl b (off + k * 11) rfl _ _ HR.out Try.underlying39 rfl (by kernel_rfl) ?_)
      generalize wr.alloc (.cells #[.int .i64 kind, .string ⟨name.toArray⟩, .string ⟨link.toArray⟩, .int .i64 mode, .int .i64 uid, .int .i64 gid, .string ⟨user.toArray⟩, .string ⟨group.toArray⟩, .int .i64 sec, .int .i64 nano, .slice da dn dc] 39) = w2 at *
      generalize wr.heap.size = ex at *
      go_cut [7] from 22 to 39 (fun v wx => ∃ (lb : Nat) (d : Sl), v = .pointer (some ⟨lb, 0, none⟩) ∧ Hid (Below w2.heap.size w2 wx) ∧ Hid (wx.heap[lb]? = some (.cells (lnV (linT ⟨kind, name, link, mode, uid, gid, user, group, sec, nano, data⟩, d)) 51)) ∧ Hid (Own wx w2.heap.size d data) ∧ w2.heap.size ≤ lb)
      case first =>
        -- @done
        have HS : Hid (∀ w' : World, w'.heap[ex]? = some (.cells #[.int .i64 kind, .string ⟨name.toArray⟩, .string ⟨link.toArray⟩, .int .i64 mode, .int .i64 uid, .int .i64 gid, .string ⟨user.toArray⟩, .string ⟨group.toArray⟩, .int .i64 sec, .int .i64 nano, .slice da dn dc] 39) → w'.cell? ⟨ex, 1, none⟩ = some (.string ⟨name.toArray⟩) ∧ w'.cell? ⟨ex, 0, none⟩ = some (.int .i64 kind) ∧ w'.cell? ⟨ex, 3, none⟩ = some (.int .i64 mode) ∧ w'.cell? ⟨ex, 4, none⟩ = some (.int .i64 uid) ∧ w'.cell? ⟨ex, 5, none⟩ = some (.int .i64 gid) ∧ w'.cell? ⟨ex, 8, none⟩ = some (.int .i64 sec) ∧ w'.cell? ⟨ex, 8 + 1, none⟩ = some (.int .i64 nano) ∧ w'.cell? ⟨ex, 10, none⟩ = some (.slice da dn dc) ∧ w'.cell? ⟨ex, 2, none⟩ = some (.string ⟨link.toArray⟩)) := Lib.hid (fun w' h2 => by
          refine ⟨?_, ?_, ?_, ?_, ?_, ?_, ?_, ?_, ?_⟩ <;> (rw [row_cell h2]; rfl))
        have HCLN : Hid (∀ w' : World, Dat w' (da, dn, dc) data → _) := Lib.hid (fun w' h => CopyBytes_any da dn dc data w' h HND.out)
        refine wp_region_held_drew (S := fun w' : World => w'.cell? ⟨ex, 1, none⟩ = some (.string ⟨name.toArray⟩) ∧ w'.cell? ⟨ex, 0, none⟩ = some (.int .i64 kind) ∧ w'.cell? ⟨ex, 3, none⟩ = some (.int .i64 mode) ∧ w'.cell? ⟨ex, 4, none⟩ = some (.int .i64 uid) ∧ w'.cell? ⟨ex, 5, none⟩ = some (.int .i64 gid) ∧ w'.cell? ⟨ex, 8, none⟩ = some (.int .i64 sec) ∧ w'.cell? ⟨ex, 8 + 1, none⟩ = some (.int .i64 nano) ∧ w'.cell? ⟨ex, 10, none⟩ = some (.slice da dn dc) ∧ w'.cell? ⟨ex, 2, none⟩ = some (.string ⟨link.toArray⟩)) (by kernel_rfl) (HS.out _ HBX.out) (fun hHeld => ?_)
        refine wpAnyH_take (i := 0) (oi := { dst := some 22, op := Op.fieldAddr 39 (Operand.tmp 6) 1, type := 0, pos := "ref.go:49", after := #[], guard := none }) (v := (.pointer (some ⟨ex, 1, none⟩))) rfl (by kernel_rfl) (by kernel_rfl) (by kernel_rfl) (fun _ _ _ h => h) (Or.inl ⟨by rfl, ?_⟩) (by assumption) ?_
        · intro wz hSw
          (try dsimp only at hSw)
          obtain ⟨s1, s2, s3, s4, s5, s6, s7, s8, s9⟩ := hSw
          go_simp
        (try simp only [Act.put, List.setIfInBounds_toArray, List.set_cons_zero, List.set_cons_succ, List.toList_toArray])
        refine wpAnyH_take (i := 1) (oi := { dst := some 23, op := Op.load 9 (Operand.tmp 22), type := 9, pos := "ref.go:49", after := #[{ on := 0, ground := Ground.data }], guard := none }) (v := (.string ⟨name.toArray⟩)) rfl (by kernel_rfl) (by kernel_rfl) (by kernel_rfl) (fun _ _ _ h => h) (Or.inl ⟨by rfl, ?_⟩) (by assumption) ?_
        · intro wz hSw
          (try dsimp only at hSw)
          obtain ⟨s1, s2, s3, s4, s5, s6, s7, s8, s9⟩ := hSw
          go_simp
        (try simp only [Act.put, List.setIfInBounds_toArray, List.set_cons_zero, List.set_cons_succ, List.toList_toArray])
        refine wpAnyH_take (i := 2) (oi := { dst := some 24, op := Op.fieldAddr 39 (Operand.tmp 6) 0, type := 0, pos := "ref.go:49", after := #[], guard := none }) (v := (.pointer (some ⟨ex, 0, none⟩))) rfl (by kernel_rfl) (by kernel_rfl) (by kernel_rfl) (fun _ _ _ h => h) (Or.inl ⟨by rfl, ?_⟩) (by assumption) ?_
        · intro wz hSw
          (try dsimp only at hSw)
          obtain ⟨s1, s2, s3, s4, s5, s6, s7, s8, s9⟩ := hSw
          go_simp
        (try simp only [Act.put, List.setIfInBounds_toArray, List.set_cons_zero, List.set_cons_succ, List.toList_toArray])
        refine wpAnyH_take (i := 3) (oi := { dst := some 25, op := Op.load 3 (Operand.tmp 24), type := 3, pos := "ref.go:49", after := #[{ on := 2, ground := Ground.data }], guard := none }) (v := (.int .i64 kind)) rfl (by kernel_rfl) (by kernel_rfl) (by kernel_rfl) (fun _ _ _ h => h) (Or.inl ⟨by rfl, ?_⟩) (by assumption) ?_
        · intro wz hSw
          (try dsimp only at hSw)
          obtain ⟨s1, s2, s3, s4, s5, s6, s7, s8, s9⟩ := hSw
          go_simp
        (try simp only [Act.put, List.setIfInBounds_toArray, List.set_cons_zero, List.set_cons_succ, List.toList_toArray])
        refine wpAnyH_take (i := 4) (oi := { dst := some 26, op := Op.fieldAddr 39 (Operand.tmp 6) 3, type := 0, pos := "ref.go:49", after := #[], guard := none }) (v := (.pointer (some ⟨ex, 3, none⟩))) rfl (by kernel_rfl) (by kernel_rfl) (by kernel_rfl) (fun _ _ _ h => h) (Or.inl ⟨by rfl, ?_⟩) (by assumption) ?_
        · intro wz hSw
          (try dsimp only at hSw)
          obtain ⟨s1, s2, s3, s4, s5, s6, s7, s8, s9⟩ := hSw
          go_simp
        (try simp only [Act.put, List.setIfInBounds_toArray, List.set_cons_zero, List.set_cons_succ, List.toList_toArray])
        refine wpAnyH_take (i := 5) (oi := { dst := some 27, op := Op.load 3 (Operand.tmp 26), type := 3, pos := "ref.go:49", after := #[{ on := 4, ground := Ground.data }], guard := none }) (v := (.int .i64 mode)) rfl (by kernel_rfl) (by kernel_rfl) (by kernel_rfl) (fun _ _ _ h => h) (Or.inl ⟨by rfl, ?_⟩) (by assumption) ?_
        · intro wz hSw
          (try dsimp only at hSw)
          obtain ⟨s1, s2, s3, s4, s5, s6, s7, s8, s9⟩ := hSw
          go_simp
        (try simp only [Act.put, List.setIfInBounds_toArray, List.set_cons_zero, List.set_cons_succ, List.toList_toArray])
        refine wpAnyH_take (i := 6) (oi := { dst := some 28, op := Op.fieldAddr 39 (Operand.tmp 6) 4, type := 0, pos := "ref.go:49", after := #[], guard := none }) (v := (.pointer (some ⟨ex, 4, none⟩))) rfl (by kernel_rfl) (by kernel_rfl) (by kernel_rfl) (fun _ _ _ h => h) (Or.inl ⟨by rfl, ?_⟩) (by assumption) ?_
        · intro wz hSw
          (try dsimp only at hSw)
          obtain ⟨s1, s2, s3, s4, s5, s6, s7, s8, s9⟩ := hSw
          go_simp
        (try simp only [Act.put, List.setIfInBounds_toArray, List.set_cons_zero, List.set_cons_succ, List.toList_toArray])
        refine wpAnyH_take (i := 7) (oi := { dst := some 29, op := Op.load 3 (Operand.tmp 28), type := 3, pos := "ref.go:49", after := #[{ on := 6, ground := Ground.data }], guard := none }) (v := (.int .i64 uid)) rfl (by kernel_rfl) (by kernel_rfl) (by kernel_rfl) (fun _ _ _ h => h) (Or.inl ⟨by rfl, ?_⟩) (by assumption) ?_
        · intro wz hSw
          (try dsimp only at hSw)
          obtain ⟨s1, s2, s3, s4, s5, s6, s7, s8, s9⟩ := hSw
          go_simp
        (try simp only [Act.put, List.setIfInBounds_toArray, List.set_cons_zero, List.set_cons_succ, List.toList_toArray])
        refine wpAnyH_take (i := 8) (oi := { dst := some 30, op := Op.fieldAddr 39 (Operand.tmp 6) 5, type := 0, pos := "ref.go:49", after := #[], guard := none }) (v := (.pointer (some ⟨ex, 5, none⟩))) rfl (by kernel_rfl) (by kernel_rfl) (by kernel_rfl) (fun _ _ _ h => h) (Or.inl ⟨by rfl, ?_⟩) (by assumption) ?_
        · intro wz hSw
          (try dsimp only at hSw)
          obtain ⟨s1, s2, s3, s4, s5, s6, s7, s8, s9⟩ := hSw
          go_simp
        (try simp only [Act.put, List.setIfInBounds_toArray, List.set_cons_zero, List.set_cons_succ, List.toList_toArray])
        refine wpAnyH_take (i := 9) (oi := { dst := some 31, op := Op.load 3 (Operand.tmp 30), type := 3, pos := "ref.go:49", after := #[{ on := 8, ground := Ground.data }], guard := none }) (v := (.int .i64 gid)) rfl (by kernel_rfl) (by kernel_rfl) (by kernel_rfl) (fun _ _ _ h => h) (Or.inl ⟨by rfl, ?_⟩) (by assumption) ?_
        · intro wz hSw
          (try dsimp only at hSw)
          obtain ⟨s1, s2, s3, s4, s5, s6, s7, s8, s9⟩ := hSw
          go_simp
        (try simp only [Act.put, List.setIfInBounds_toArray, List.set_cons_zero, List.set_cons_succ, List.toList_toArray])
        refine wpAnyH_take (i := 10) (oi := { dst := some 32, op := Op.fieldAddr 39 (Operand.tmp 6) 8, type := 0, pos := "ref.go:49", after := #[], guard := none }) (v := (.pointer (some ⟨ex, 8, none⟩))) rfl (by kernel_rfl) (by kernel_rfl) (by kernel_rfl) (fun _ _ _ h => h) (Or.inl ⟨by rfl, ?_⟩) (by assumption) ?_
        · intro wz hSw
          (try dsimp only at hSw)
          obtain ⟨s1, s2, s3, s4, s5, s6, s7, s8, s9⟩ := hSw
          go_simp
        (try simp only [Act.put, List.setIfInBounds_toArray, List.set_cons_zero, List.set_cons_succ, List.toList_toArray])
        refine wpAnyH_take (i := 11) (oi := { dst := some 33, op := Op.load 36 (Operand.tmp 32), type := 36, pos := "ref.go:49", after := #[{ on := 10, ground := Ground.data }], guard := none }) (v := (.agg #[.int .i64 sec, .int .i64 nano])) rfl (by kernel_rfl) (by kernel_rfl) (by kernel_rfl) (fun _ _ _ h => h) (Or.inl ⟨by rfl, ?_⟩) (by assumption) ?_
        · intro wz hSw
          (try dsimp only at hSw)
          obtain ⟨s1, s2, s3, s4, s5, s6, s7, s8, s9⟩ := hSw
          go_simp
        (try simp only [Act.put, List.setIfInBounds_toArray, List.set_cons_zero, List.set_cons_succ, List.toList_toArray])
        refine wpAnyH_take (i := 12) (oi := { dst := some 34, op := Op.fieldAddr 39 (Operand.tmp 6) 9, type := 0, pos := "ref.go:49", after := #[], guard := none }) (v := (.pointer (some ⟨ex, 10, none⟩))) rfl (by kernel_rfl) (by kernel_rfl) (by kernel_rfl) (fun _ _ _ h => h) (Or.inl ⟨by rfl, ?_⟩) (by assumption) ?_
        · intro wz hSw
          (try dsimp only at hSw)
          obtain ⟨s1, s2, s3, s4, s5, s6, s7, s8, s9⟩ := hSw
          go_simp
        (try simp only [Act.put, List.setIfInBounds_toArray, List.set_cons_zero, List.set_cons_succ, List.toList_toArray])
        refine wpAnyH_take (i := 13) (oi := { dst := some 35, op := Op.load 37 (Operand.tmp 34), type := 37, pos := "ref.go:49", after := #[{ on := 12, ground := Ground.data }], guard := none }) (v := (.slice da dn dc)) rfl (by kernel_rfl) (by kernel_rfl) (by kernel_rfl) (fun _ _ _ h => h) (Or.inl ⟨by rfl, ?_⟩) (by assumption) ?_
        · intro wz hSw
          (try dsimp only at hSw)
          obtain ⟨s1, s2, s3, s4, s5, s6, s7, s8, s9⟩ := hSw
          go_simp
        (try simp only [Act.put, List.setIfInBounds_toArray, List.set_cons_zero, List.set_cons_succ, List.toList_toArray])
        refine wpAnyH_take (i := 15) (oi := { dst := some 37, op := Op.fieldAddr 39 (Operand.tmp 6) 2, type := 0, pos := "ref.go:49", after := #[], guard := none }) (v := (.pointer (some ⟨ex, 2, none⟩))) rfl (by kernel_rfl) (by kernel_rfl) (by kernel_rfl) (fun _ _ _ h => h) (Or.inl ⟨by rfl, ?_⟩) (by assumption) ?_
        · intro wz hSw
          (try dsimp only at hSw)
          obtain ⟨s1, s2, s3, s4, s5, s6, s7, s8, s9⟩ := hSw
          go_simp
        (try simp only [Act.put, List.setIfInBounds_toArray, List.set_cons_zero, List.set_cons_succ, List.toList_toArray])
        refine wpAnyH_take (i := 16) (oi := { dst := some 38, op := Op.load 9 (Operand.tmp 37), type := 9, pos := "ref.go:49", after := #[{ on := 15, ground := Ground.data }], guard := none }) (v := (.string ⟨link.toArray⟩)) rfl (by kernel_rfl) (by kernel_rfl) (by kernel_rfl) (fun _ _ _ h => h) (Or.inl ⟨by rfl, ?_⟩) (by assumption) ?_
        · intro wz hSw
          (try dsimp only at hSw)
          obtain ⟨s1, s2, s3, s4, s5, s6, s7, s8, s9⟩ := hSw
          go_simp
        (try simp only [Act.put, List.setIfInBounds_toArray, List.set_cons_zero, List.set_cons_succ, List.toList_toArray])
        refine wpAnyH_ready (rs := [14, 18]) (by kernel_rfl) (by simp) ?_
        refine AllReadyH.cons (o := { dst := some 36, op := Op.call { callee := Callee.value (Operand.func 42), args := #[Operand.tmp 35], argTypes := #[37] }, type := 37, pos := "ref.go:49", after := #[{ on := 13, ground := Ground.data }], guard := none }) rfl (fun K hK => ?_) ?_
        · skip
          go_simp
          (go_at_call 42; refine (HCLN.out _ (Below.bs ((Below.refl w2.heap.size w2).drew) HDX.out)).mono ?_; rintro r w5 ⟨a5, n5, c5, rfl, ho5, hb5⟩)
          have HO5 : Hid (Own w5 w2.heap.size (a5, n5, c5) data) := Lib.hid (own_base ho5 ((Below.refl w2.heap.size w2).drew).size)
          have HB5 : Hid (Below w2.heap.size w2 w5) := Lib.hid (((Below.refl w2.heap.size w2).drew).trans (hb5.mono ((Below.refl w2.heap.size w2).drew).size))
          have HX5 := Lib.hid (row_below HBX.out HB5.out)
          clear ho5 hb5
          (try go_wp2_with fail)
          refine hK.out _ _ (HS.out _ HX5.out) (fun hH5 => ?_)
          clear hK K hHeld
          (try simp only [Act.put, List.setIfInBounds_toArray, List.set_cons_zero, List.set_cons_succ, List.toList_toArray])
          refine wpAnyH_take (i := 17) (oi := { dst := some 39, op := Op.build 51 #[(0, Operand.tmp 23), (1, Operand.tmp 25), (2, Operand.tmp 27), (3, Operand.tmp 29), (4, Operand.tmp 31), (5, Operand.tmp 33), (6, Operand.tmp 36), (7, Operand.tmp 38)], type := 51, pos := "ref.go:49", after := #[{ on := 1, ground := Ground.data }, { on := 3, ground := Ground.data }, { on := 5, ground := Ground.data }, { on := 7, ground := Ground.data }, { on := 9, ground := Ground.data }, { on := 11, ground := Ground.data }, { on := 14, ground := Ground.data }, { on := 16, ground := Ground.data }], guard := none }) (v := (.agg #[.string ⟨name.toArray⟩, .int .i64 kind, .int .i64 mode, .int .i64 uid, .int .i64 gid, .int .i64 sec, .int .i64 nano, .slice a5 n5 c5, .string ⟨link.toArray⟩, .string ⟨#[]⟩])) rfl (by kernel_rfl) (by kernel_rfl) (by kernel_rfl) (fun _ _ _ h => h) (Or.inl ⟨by rfl, ?_⟩) (by assumption) ?_
          · intro wz hSw
            (try dsimp only at hSw)
            obtain ⟨s1, s2, s3, s4, s5, s6, s7, s8, s9⟩ := hSw
            go_simp
          (try simp only [Act.put, List.setIfInBounds_toArray, List.set_cons_zero, List.set_cons_succ, List.toList_toArray])
          refine wpAnyH_ready (rs := [18]) (by kernel_rfl) (by simp) ?_
          refine AllReadyH.cons (o := { dst := some 7, op := Op.alloc 51, type := 0, pos := "ref.go:49", after := #[], guard := none }) rfl (fun K hK => ?_) AllReadyH.nil
          have HXW : Hid ((w5.alloc (.cells #[.string ⟨#[]⟩, .int .i64 0, .int .i64 0, .int .i64 0, .int .i64 0, .int .i64 0, .int .i64 0, .slice none 0 0, .string ⟨#[]⟩, .string ⟨#[]⟩] 51)).heap[ex]? = _) := Lib.hid ((heap_alloc_old w5 _ (row_lt HX5.out)).trans HX5.out)
          go_simp
          refine hK.out _ _ (HS.out _ HXW.out) (fun hH6 => ?_)
          clear hK K hH5
          (try simp only [Act.put, List.setIfInBounds_toArray, List.set_cons_zero, List.set_cons_succ, List.toList_toArray])
          have RO := Lib.hid (heap_alloc_new w5 (.cells #[.string ⟨#[]⟩, .int .i64 0, .int .i64 0, .int .i64 0, .int .i64 0, .int .i64 0, .int .i64 0, .slice none 0 0, .string ⟨#[]⟩, .string ⟨#[]⟩] 51))
          have HXS : Hid (((w5.alloc (.cells #[.string ⟨#[]⟩, .int .i64 0, .int .i64 0, .int .i64 0, .int .i64 0, .int .i64 0, .int .i64 0, .slice none 0 0, .string ⟨#[]⟩, .string ⟨#[]⟩] 51)).setRow w5.heap.size (lnV (linT ⟨kind, name, link, mode, uid, gid, user, group, sec, nano, data⟩, (a5, n5, c5)))).heap[ex]? = _) := Lib.hid ((setRow_other _ _ _ _ (fun e => by have h1 := HXW.out; rw [e] at h1; have h2 := RO.out; rw [h1] at h2; simp at h2)).trans HXW.out)
          refine wpAnyH_ready (rs := [19]) (by kernel_rfl) (by simp) ?_
          refine AllReadyH.cons (o := { dst := none, op := Op.store 51 (Operand.tmp 7) (Operand.tmp 39), type := 0, pos := "ref.go:49", after := #[{ on := 18, ground := Ground.data }, { on := 17, ground := Ground.data }, { on := 14, ground := Ground.chain }, { on := 0, ground := Ground.phase }, { on := 1, ground := Ground.phase }, { on := 2, ground := Ground.phase }, { on := 3, ground := Ground.phase }, { on := 4, ground := Ground.phase }, { on := 5, ground := Ground.phase }, { on := 6, ground := Ground.phase }, { on := 7, ground := Ground.phase }, { on := 8, ground := Ground.phase }, { on := 9, ground := Ground.phase }, { on := 10, ground := Ground.phase }, { on := 11, ground := Ground.phase }, { on := 12, ground := Ground.phase }, { on := 13, ground := Ground.phase }, { on := 14, ground := Ground.phase }, { on := 15, ground := Ground.phase }, { on := 16, ground := Ground.phase }, { on := 17, ground := Ground.phase }, { on := 18, ground := Ground.phase }], guard := none }) rfl (fun K hK => ?_) AllReadyH.nil
          refine step_store_row rfl _ _ _ rfl w5.heap.size rfl (lnV (linT ⟨kind, name, link, mode, uid, gid, user, group, sec, nano, data⟩, (a5, n5, c5))) rfl _ 51 RO.out rfl (sizeLn _) (by simpa [lnCells, lnV, linT] using ln_one [(linT ⟨kind, name, link, mode, uid, gid, user, group, sec, nano, data⟩, (a5, n5, c5))]) ?_
          refine hK.out _ _ (HS.out _ HXS.out) (fun hH7 => ?_)
          clear hK K
          (try simp only [Act.put, List.setIfInBounds_toArray, List.set_cons_zero, List.set_cons_succ, List.toList_toArray])
          refine wpAnyH_done (by kernel_rfl) ?_ _
          go_wp2_with fail
          go_meet
          exact ⟨w5.heap.size, (a5, n5, c5), rfl, Lib.hid (Below.setRow (HB5.out.alloc HB5.out.size _) (by first | exact Nat.le_refl _ | exact HB5.out.size) _), Lib.hid (setRow_heap _ _ _ _ _ _ RO.out), Lib.hid (setRow_own (own_keep HO5.out (fun j _ hj => by rw [heap_alloc_old _ _ hj])) RO.out (by decide)), by first | exact Nat.le_refl _ | exact HB5.out.size⟩
        refine AllReadyH.cons (o := { dst := some 7, op := Op.alloc 51, type := 0, pos := "ref.go:49", after := #[], guard := none }) rfl (fun K hK => ?_) AllReadyH.nil
        have HX3 : Hid (((w2.alloc (.cells #[.string ⟨#[]⟩, .int .i64 0, .int .i64 0, .int .i64 0, .int .i64 0, .int .i64 0, .int .i64 0, .slice none 0 0, .string ⟨#[]⟩, .string ⟨#[]⟩] 51)).drew).heap[ex]? = _) := Lib.hid ((heap_alloc_old w2 _ (row_lt HBX.out)).trans HBX.out)
        go_simp
        refine hK.out _ _ (HS.out _ HX3.out) (fun hH6 => ?_)
        clear hK K hHeld
        (try simp only [Act.put, List.setIfInBounds_toArray, List.set_cons_zero, List.set_cons_succ, List.toList_toArray])
        refine wpAnyH_ready (rs := [14]) (by kernel_rfl) (by simp) ?_
        refine AllReadyH.cons (o := { dst := some 36, op := Op.call { callee := Callee.value (Operand.func 42), args := #[Operand.tmp 35], argTypes := #[37] }, type := 37, pos := "ref.go:49", after := #[{ on := 13, ground := Ground.data }], guard := none }) rfl (fun K hK => ?_) AllReadyH.nil
        go_simp
        (go_at_call 42; refine (HCLN.out _ (Below.bs (((Below.refl w2.heap.size w2).alloc (Nat.le_refl _) (.cells #[.string ⟨#[]⟩, .int .i64 0, .int .i64 0, .int .i64 0, .int .i64 0, .int .i64 0, .int .i64 0, .slice none 0 0, .string ⟨#[]⟩, .string ⟨#[]⟩] 51)).drew) HDX.out)).mono ?_; rintro r w5 ⟨a5, n5, c5, rfl, ho5, hb5⟩)
        have HO5 : Hid (Own w5 w2.heap.size (a5, n5, c5) data) := Lib.hid (own_base ho5 (((Below.refl w2.heap.size w2).alloc (Nat.le_refl _) (.cells #[.string ⟨#[]⟩, .int .i64 0, .int .i64 0, .int .i64 0, .int .i64 0, .int .i64 0, .int .i64 0, .slice none 0 0, .string ⟨#[]⟩, .string ⟨#[]⟩] 51)).drew).size)
        have HB5 : Hid (Below w2.heap.size w2 w5) := Lib.hid ((((Below.refl w2.heap.size w2).alloc (Nat.le_refl _) (.cells #[.string ⟨#[]⟩, .int .i64 0, .int .i64 0, .int .i64 0, .int .i64 0, .int .i64 0, .int .i64 0, .slice none 0 0, .string ⟨#[]⟩, .string ⟨#[]⟩] 51)).drew).trans (hb5.mono (((Below.refl w2.heap.size w2).alloc (Nat.le_refl _) (.cells #[.string ⟨#[]⟩, .int .i64 0, .int .i64 0, .int .i64 0, .int .i64 0, .int .i64 0, .int .i64 0, .slice none 0 0, .string ⟨#[]⟩, .string ⟨#[]⟩] 51)).drew).size))
        have HX5 := Lib.hid (row_below HBX.out HB5.out)
        have R5 := row_below (show ((w2.alloc (.cells #[.string ⟨#[]⟩, .int .i64 0, .int .i64 0, .int .i64 0, .int .i64 0, .int .i64 0, .int .i64 0, .slice none 0 0, .string ⟨#[]⟩, .string ⟨#[]⟩] 51)).drew).heap[w2.heap.size]? = _ from heap_alloc_new w2 (.cells #[.string ⟨#[]⟩, .int .i64 0, .int .i64 0, .int .i64 0, .int .i64 0, .int .i64 0, .int .i64 0, .slice none 0 0, .string ⟨#[]⟩, .string ⟨#[]⟩] 51)) hb5
        have HXW := HX5
        clear ho5 hb5
        (try go_wp2_with fail)
        refine hK.out _ _ (HS.out _ HX5.out) (fun hH5 => ?_)
        clear hK K hH6
        (try simp only [Act.put, List.setIfInBounds_toArray, List.set_cons_zero, List.set_cons_succ, List.toList_toArray])
        refine wpAnyH_take (i := 17) (oi := { dst := some 39, op := Op.build 51 #[(0, Operand.tmp 23), (1, Operand.tmp 25), (2, Operand.tmp 27), (3, Operand.tmp 29), (4, Operand.tmp 31), (5, Operand.tmp 33), (6, Operand.tmp 36), (7, Operand.tmp 38)], type := 51, pos := "ref.go:49", after := #[{ on := 1, ground := Ground.data }, { on := 3, ground := Ground.data }, { on := 5, ground := Ground.data }, { on := 7, ground := Ground.data }, { on := 9, ground := Ground.data }, { on := 11, ground := Ground.data }, { on := 14, ground := Ground.data }, { on := 16, ground := Ground.data }], guard := none }) (v := (.agg #[.string ⟨name.toArray⟩, .int .i64 kind, .int .i64 mode, .int .i64 uid, .int .i64 gid, .int .i64 sec, .int .i64 nano, .slice a5 n5 c5, .string ⟨link.toArray⟩, .string ⟨#[]⟩])) rfl (by kernel_rfl) (by kernel_rfl) (by kernel_rfl) (fun _ _ _ h => h) (Or.inl ⟨by rfl, ?_⟩) (by assumption) ?_
        · intro wz hSw
          (try dsimp only at hSw)
          obtain ⟨s1, s2, s3, s4, s5, s6, s7, s8, s9⟩ := hSw
          go_simp
        (try simp only [Act.put, List.setIfInBounds_toArray, List.set_cons_zero, List.set_cons_succ, List.toList_toArray])
        have RO := Lib.hid (R5)
        have HXS : Hid (((w5).setRow w2.heap.size (lnV (linT ⟨kind, name, link, mode, uid, gid, user, group, sec, nano, data⟩, (a5, n5, c5)))).heap[ex]? = _) := Lib.hid ((setRow_other _ _ _ _ (fun e => by have h1 := HXW.out; rw [e] at h1; have h2 := RO.out; rw [h1] at h2; simp at h2)).trans HXW.out)
        refine wpAnyH_ready (rs := [19]) (by kernel_rfl) (by simp) ?_
        refine AllReadyH.cons (o := { dst := none, op := Op.store 51 (Operand.tmp 7) (Operand.tmp 39), type := 0, pos := "ref.go:49", after := #[{ on := 18, ground := Ground.data }, { on := 17, ground := Ground.data }, { on := 14, ground := Ground.chain }, { on := 0, ground := Ground.phase }, { on := 1, ground := Ground.phase }, { on := 2, ground := Ground.phase }, { on := 3, ground := Ground.phase }, { on := 4, ground := Ground.phase }, { on := 5, ground := Ground.phase }, { on := 6, ground := Ground.phase }, { on := 7, ground := Ground.phase }, { on := 8, ground := Ground.phase }, { on := 9, ground := Ground.phase }, { on := 10, ground := Ground.phase }, { on := 11, ground := Ground.phase }, { on := 12, ground := Ground.phase }, { on := 13, ground := Ground.phase }, { on := 14, ground := Ground.phase }, { on := 15, ground := Ground.phase }, { on := 16, ground := Ground.phase }, { on := 17, ground := Ground.phase }, { on := 18, ground := Ground.phase }], guard := none }) rfl (fun K hK => ?_) AllReadyH.nil
        refine step_store_row rfl _ _ _ rfl w2.heap.size rfl (lnV (linT ⟨kind, name, link, mode, uid, gid, user, group, sec, nano, data⟩, (a5, n5, c5))) rfl _ 51 RO.out rfl (sizeLn _) (by simpa [lnCells, lnV, linT] using ln_one [(linT ⟨kind, name, link, mode, uid, gid, user, group, sec, nano, data⟩, (a5, n5, c5))]) ?_
        refine hK.out _ _ (HS.out _ HXS.out) (fun hH7 => ?_)
        clear hK K
        (try simp only [Act.put, List.setIfInBounds_toArray, List.set_cons_zero, List.set_cons_succ, List.toList_toArray])
        refine wpAnyH_done (by kernel_rfl) ?_ _
        go_wp2_with fail
        go_meet
        exact ⟨w2.heap.size, (a5, n5, c5), rfl, Lib.hid (Below.setRow HB5.out (by first | exact Nat.le_refl _ | exact HB5.out.size) _), Lib.hid (setRow_heap _ _ _ _ _ _ RO.out), Lib.hid (setRow_own HO5.out RO.out (by decide)), by first | exact Nat.le_refl _ | exact HB5.out.size⟩
        -- @end
      obtain ⟨lb, d, rfl, hb3, hrw, how, hlb⟩ := hcut
      obtain ⟨w3, hw3⟩ : ∃ w3, w3 = wc := ⟨_, rfl⟩
      subst hw3
      have hne : (Value.slice la k lc).ownBlock ≠ some lb := fun e => by have := (HI1.out.own.lt _ e).2; omega
      have hB2 : w.heap.size ≤ w2.heap.size := HB1.out.size
      have HBL : Hid (Bl w w3 w.heap.size lb ex la k lc LS (linT ⟨kind, name, link, mode, uid, gid, user, group, sec, nano, data⟩) d w2.heap.size (⟨kind, name, link, mode, uid, gid, user, group, sec, nano, data⟩, (da, dn, dc))) := Lib.hid ⟨HB1.out.trans (hb3.out.mono hB2), HI1.out.below hb3.out, hrw.out, how.out, hne, by omega, row_below HBX.out hb3.out⟩
      have HNL : Hid (NewLn w2 w.heap.size la k lc LS) := HI1
      have HB2S : Hid (w.heap.size ≤ w2.heap.size) := Lib.hid hB2
      clear hb3 hrw how hne hlb HI1 HBX HDX hB2
      have c0 : w3.cell? ⟨ex, 0, none⟩ = some (.int .i64 kind) := by rw [row_cell HBL.out.en]; rfl
      have c1 : w3.cell? ⟨ex, 1, none⟩ = some (.string ⟨name.toArray⟩) := by rw [row_cell HBL.out.en]; rfl
      have hsz : (⟨name.toArray⟩ : ByteArray).size = name.length := rfl
      go_upto_region 7 with fail
      go_cut [47] from 40 to 46 (fun v wx => v = .bool (decide (kind = 2 ∧ name ≠ [])) ∧ wx = w3)
      case first =>
        by_cases hk2 : kind = 2
        · subst hk2
          cases hnb : name.isEmpty with
          | true =>
            have HN0 : Hid (name = []) := Lib.hid (List.isEmpty_iff.1 hnb)
            go_wp2_with fail
            go_meet
            exact ⟨by simp [HN0.out], rfl⟩
          | false =>
            have hn0 : name ≠ [] := fun e => by rw [e] at hnb; cases hnb
            go_wp2_with fail
            go_meet
            exact ⟨by simp [hn0], rfl⟩
        · have hkb : (kind == 2) = false := beq_f hk2
          clear hk2
          have hk2 := beq_eq_false_iff_ne.1 hkb
          have HK := Lib.hid hk2
          clear hk2
          go_wp2_with fail
          go_meet
          exact ⟨by simp [HK.out], rfl⟩
      obtain ⟨rfl, hwc⟩ := hcut
      subst hwc
      generalize hbn : decide (kind = 2 ∧ name ≠ []) = bn at *
      have HBN := Lib.hid hbn
      clear hbn
      go_upto_if 47 with fail
      clear c0
      go_cut [] (fun wx => Hid (Bl w wx w.heap.size lb ex la k lc LS ⟨(if kind = 2 ∧ name ≠ [] then name.dropLast else name), kind, mode, uid, gid, sec, nano, data, link, []⟩ d w2.heap.size (⟨kind, name, link, mode, uid, gid, user, group, sec, nano, data⟩, (da, dn, dc))))
      case first =>
        cases bn with
        | true =>
          have hkn := of_decide_eq_true HBN.out
          have hlen : 1 ≤ name.length := List.length_pos_iff.2 hkn.2
          have hex : (⟨name.toArray⟩ : ByteArray).extract 0 (name.length - 1) = ⟨name.dropLast.toArray⟩ := by
            rw [ByteArray.extract_mk]; simp [List.dropLast_eq_take]
          have hsub : ((name.length : Int) - 1) = ((name.length - 1 : Nat) : Int) := by omega
          have HL2 := Lib.hid (HBL.out.set (l' := ⟨name.dropLast, kind, mode, uid, gid, sec, nano, data, link, []⟩) 0 (.string ⟨name.dropLast.toArray⟩) rfl rfl)
          have l0 : wc.cell? ⟨lb, 0, none⟩ = some (.string ⟨name.toArray⟩) := by rw [row_cell HBL.out.row]; rfl
          have l0f : wc.frozen? ⟨lb, 0, none⟩ = false := row_froz HBL.out.row 0
          have HPA : Hid ((if kind = 2 ∧ name ≠ [] then name.dropLast else name) = name.dropLast) := Lib.hid (if_pos hkn)
          clear hkn
          go_wp2_with fail
          go_meet
          rw [HPA.out]
          exact HL2
        | false =>
          have HPA : Hid ((if kind = 2 ∧ name ≠ [] then name.dropLast else name) = name) := Lib.hid (if_neg (of_decide_eq_false HBN.out))
          go_wp2_with fail
          go_meet
          rw [HPA.out]
          exact HBL
      have HB4 := hcut
      clear hcut HBL HBN c1
      obtain ⟨w4, hw4⟩ : ∃ w4, w4 = wc := ⟨_, rfl⟩
      subst hw4
      have c0 : w4.cell? ⟨ex, 0, none⟩ = some (.int .i64 kind) := by rw [row_cell HB4.out.en]; rfl
      go_upto_if 58 with fail
      clear c0
      go_cut [] (fun wx => Hid (Bl w wx w.heap.size lb ex la k lc LS ⟨(if kind = 2 ∧ name ≠ [] then name.dropLast else name), if kind = 4 then (lastOf ks link).getD 4 else kind, mode, uid, gid, sec, nano, data, if kind = 4 then [] else link, if kind = 4 then link else []⟩ d w2.heap.size (⟨kind, name, link, mode, uid, gid, user, group, sec, nano, data⟩, (da, dn, dc))))
      case first =>
        by_cases hk4 : kind = 4
        · subst hk4
          have HB5 := Lib.hid (HB4.out.set (l' := ⟨(if (4 : Int) = 2 ∧ name ≠ [] then name.dropLast else name), 4, mode, uid, gid, sec, nano, data, link, link⟩) 9 (.string ⟨link.toArray⟩) rfl rfl)
          have c2 : w4.cell? ⟨ex, 2, none⟩ = some (.string ⟨link.toArray⟩) := by rw [row_cell HB4.out.en]; rfl
          have l9 : w4.cell? ⟨lb, 9, none⟩ = some (.string ⟨#[]⟩) := by rw [row_cell HB4.out.row]; rfl
          have l9f : w4.frozen? ⟨lb, 9, none⟩ = false := row_froz HB4.out.row 9
          go_upto_region 11 with fail
          clear c2 l9 l9f HB4
          generalize w4.setCell ⟨lb, 9, none⟩ (.string ⟨link.toArray⟩) = w5 at *
          have HB6 := Lib.hid (HB5.out.set (l' := ⟨(if (4 : Int) = 2 ∧ name ≠ [] then name.dropLast else name), 4, mode, uid, gid, sec, nano, data, [], link⟩) 8 (.string ⟨#[]⟩) rfl rfl)
          have l8 : w5.cell? ⟨lb, 8, none⟩ = some (.string ⟨link.toArray⟩) := by rw [row_cell HB5.out.row]; rfl
          have l8f : w5.frozen? ⟨lb, 8, none⟩ = false := row_froz HB5.out.row 8
          go_upto_region 12 with fail
          clear l8 l8f HB5
          generalize w5.setCell ⟨lb, 8, none⟩ (.string ⟨#[]⟩) = w6 at *
          go_wp2_with fail
          go_loopw [8] (fun jv wx => ∃ (j : Nat) (kd : Int), jv = .int .i64 j ∧ j ≤ k ∧ Hid (kd = (lastOf (ks.take j) link).getD 4) ∧ Hid (Bl w wx w.heap.size lb ex la k lc LS ⟨(if (4 : Int) = 2 ∧ name ≠ [] then name.dropLast else name), kd, mode, uid, gid, sec, nano, data, [], link⟩ d w2.heap.size (⟨4, name, link, mode, uid, gid, user, group, sec, nano, data⟩, (da, dn, dc)))) (fun jv _ => k - (intOf jv).toNat)
          case atStart => exact ⟨0, 4, rfl, Nat.zero_le _, Lib.hid (by simp [lastOf]), HB6⟩
          case round =>
            clear HB6
            obtain ⟨j, kd, rfl, hj, hkd, hM⟩ := hrel
            have hlk2 := hM.out.new.len
            have hkl : ks.length = k := by rw [hKS.out, List.length_map]; exact hlk2
            by_cases hjk : j < k
            · obtain ⟨y, hy⟩ := get_some (S := LS) (k := j) (by omega)
              have hq : ks[j]? = some (y.1.path, y.1.kind) := by rw [hKS.out, List.getElem?_map, hy]; rfl
              obtain ⟨lab, lao, hla, hrj⟩ := hM.out.new.lns.at j y hy
              subst hla
              have hlcm := Nat.le_trans hM.out.new.lns.cap hM.out.new.lns.max
              have p0 : wr.cell? ⟨lab, lao + j * 10, none⟩ = some (.string ⟨y.1.path.toArray⟩) := by simpa using range_cell hrj 0 rfl
              have c2 : wr.cell? ⟨ex, 2, none⟩ = some (.string ⟨link.toArray⟩) := by rw [row_cell hM.out.en]; rfl
              have HLS := Lib.hid (show lastOf (ks.take (j + 1)) link = if link = y.1.path then some y.1.kind else lastOf (ks.take j) link by
                obtain ⟨h8, h9⟩ := List.getElem?_eq_some_iff.1 hq
                rw [List.take_succ_eq_append_getElem h8, h9]
                exact lastOf_snoc (ks.take j) y.1.path y.1.kind link)
              have HYL := Lib.hid hy
              clear hy hq hrj
              go_upto_region 15 with fail
              go_cut [75] from 68 to 74 (fun u wx => u = .bool (y.1.path == link) ∧ Hid (Bl w wx w.heap.size lb ex (some ⟨lab, lao, none⟩) k lc LS ⟨(if (4 : Int) = 2 ∧ name ≠ [] then name.dropLast else name), kd, mode, uid, gid, sec, nano, data, [], link⟩ d w2.heap.size (⟨4, name, link, mode, uid, gid, user, group, sec, nano, data⟩, (da, dn, dc))))
              case first =>
                have HBW : Hid (w.heap.size ≤ wr.heap.size) := Lib.hid (by have := HB2S.out; have := hM.out.bel.size; omega)
                cases hb1 : (y.1.path == link) with
                | false =>
                  go_quiet (fail)
                  go_wp2_with fail
                  go_meet
                  exact ⟨by rw [hb1], Lib.hid (hM.out.below HBW.out (Below.drewN (Below.refl _ _) _))⟩
                | true =>
                  go_quiet (fail)
                  go_wp2_with fail
                  go_meet
                  exact ⟨by rw [hb1], Lib.hid (hM.out.below HBW.out (Below.drewN (Below.refl _ _) _))⟩
              obtain ⟨rfl, hM2⟩ := hcut
              obtain ⟨w7, hw7⟩ : ∃ w7, w7 = wc := ⟨_, rfl⟩
              subst hw7
              have HBB : Hid ((y.1.path == link) = decide (link = y.1.path)) := Lib.hid (by
                by_cases e : link = y.1.path
                · simp [e]
                · rw [decide_eq_false e, beq_eq_false_iff_ne]; exact fun h => e h.symm)
              generalize (y.1.path == link) = bb at *
              clear p0 c2 hM
              cases bb with
              | false =>
                have HV : Hid (kd = (lastOf (ks.take (j + 1)) link).getD 4) := Lib.hid (by
                  rw [HLS.out, if_neg (by have := HBB.out; simpa using this.symm)]
                  exact hkd.out)
                clear HBB hkd
                go_wp2_with fail
                exact ⟨⟨j + 1, kd, by go_num, by omega, HV, hM2⟩, by simp [intOf]; omega⟩
              | true =>
                have HV : Hid (y.1.kind = (lastOf (ks.take (j + 1)) link).getD 4) := Lib.hid (by
                  rw [HLS.out, if_pos (by have := HBB.out; simpa using this.symm)]
                  rfl)
                clear HBB hkd
                obtain ⟨lab', lao', hla', hrj'⟩ := hM2.out.new.lns.at j y HYL.out
                simp only [Option.some.injEq, Addr.mk.injEq, and_true] at hla'
                obtain ⟨rfl, rfl⟩ := hla'
                have p1 : w7.cell? ⟨lab, lao + j * 10 + 1, none⟩ = some (.int .i64 y.1.kind) := by simpa using range_cell hrj' 1 rfl
                have l1 : w7.cell? ⟨lb, 1, none⟩ = some (.int .i64 kd) := by rw [row_cell hM2.out.row]; rfl
                have l1f : w7.frozen? ⟨lb, 1, none⟩ = false := row_froz hM2.out.row 1
                have HM3 := Lib.hid (hM2.out.set (l' := ⟨(if (4 : Int) = 2 ∧ name ≠ [] then name.dropLast else name), y.1.kind, mode, uid, gid, sec, nano, data, [], link⟩) 1 (.int .i64 y.1.kind) rfl rfl)
                clear hrj'
                go_wp2_with fail
                exact ⟨⟨j + 1, y.1.kind, by go_num, by omega, HV, HM3⟩, by simp [intOf]; omega⟩
            · obtain rfl : j = k := by omega
              have HKD : Hid (kd = (lastOf ks link).getD 4) := Lib.hid (by
                rw [hkd.out, show ks.take j = ks from List.take_of_length_le (by omega)])
              have HM4 := hM
              rw [HKD.out] at HM4
              go_wp2_with fail
              go_meet
              simpa using HM4
        · have HK4 := Lib.hid hk4
          have hkb : (kind == 4) = false := beq_f hk4
          clear hk4
          go_wp2_with fail
          go_meet
          rw [if_neg HK4.out, if_neg HK4.out, if_neg HK4.out]
          exact HB4
      have HB8 := hcut
      clear hcut HB4
      obtain ⟨w8, hw8⟩ : ∃ w8, w8 = wc := ⟨_, rfl⟩
      subst hw8
      obtain ⟨L, hLe⟩ : ∃ L, linR ks ⟨kind, name, link, mode, uid, gid, user, group, sec, nano, data⟩ = L := ⟨_, rfl⟩
      have HB9 : Hid (Bl w w8 w.heap.size lb ex la k lc LS L d w2.heap.size (⟨kind, name, link, mode, uid, gid, user, group, sec, nano, data⟩, (da, dn, dc))) := Lib.hid (by rw [← hLe]; exact HB8.out)
      rw [hLe] at HGG
      have HLP : Hid (L.path.length ≤ 1900001 ∧ L.peer.length ≤ 1900001 ∧ L.target.length ≤ 1900001 ∧ L.data = data) := Lib.hid (by
        rw [← hLe]
        have h1 : (if kind = 2 ∧ name ≠ [] then name.dropLast else name).length ≤ 1900001 := by
          split
          · rw [List.length_dropLast]; omega
          · omega
        have h2 : (if kind = 4 then link else []).length ≤ 1900001 := by
          split
          · omega
          · exact Nat.zero_le _
        have h3 : (if kind = 4 then [] else link).length ≤ 1900001 := by
          split
          · exact Nat.zero_le _
          · omega
        exact ⟨h1, h2, h3, rfl⟩)
      have HXX : Hid (∀ l ∈ (LS ++ [(L, d)]).map (·.1), (∃ e ∈ eOf T, l.data = e.data) ∧ l.path.length ≤ 1900001 ∧ l.peer.length ≤ 1900001 ∧ l.target.length ≤ 1900001) := Lib.hid (fun l hl => by
        rw [List.map_append] at hl
        rcases List.mem_append.1 hl with h | h
        · exact hX.out l h
        · simp only [List.map_cons, List.map_nil, List.mem_singleton] at h
          subst h
          exact ⟨⟨_, HMEM.out, HLP.out.2.2.2⟩, HLP.out.1, HLP.out.2.1, HLP.out.2.2.1⟩)
      have HKS2 : Hid (ks ++ [(L.path, L.kind)] = (LS ++ [(L, d)]).map fun x => (x.1.path, x.1.kind)) := Lib.hid (by rw [List.map_append, ← hKS.out]; rfl)
      clear hLe HB8 hKS hX
      have HOW := Lib.hid (own_keep (w' := w8.alloc (.cells (lnV (L, d)) 51)) HB9.out.new.own (fun j _ hj => by rw [heap_alloc_old _ _ hj]))
      have HSZ : Hid (w.heap.size ≤ (w8.alloc (.cells (lnV (L, d)) 51)).heap.size) := Lib.hid (by have := HB9.out.bel.size; simp; omega)
      go_wp2_with (first
        | (refine wpList_load_rowA rfl _ _ rfl lb rfl (lnV (L, d)) 51 _ HB9.out.row Try.underlying51 rfl (sizeLn _) ?_)
        | (with_reducible refine wpList_slice_one rfl 22 _ rfl Try.underlying22 (lnV (L, d)) (infoLine2 (L, d)) (lnZ_sz (L, d)) (lnV_pos (L, d)) (lnV_lim (L, d)) rfl ?_)
        | (at_builtin; refine wpList_app rfl _ _ 22 rfl w.heap.size 51 _ 10 120 Try.underlying22 infoLine rfl (by decide) (by decide) rfl HOW.out rfl (ln_newc w8 (L, d)) (ln_one [(L, d)]) (by omega) HSZ.out ?_; intro a9 c9 w9 ho9 hg9))
      have hN9 := NewLn.app2 HNL.out HB2S.out HB9.out.new HB9.out.own hg9 ho9
      have hB9 : Below w.heap.size w w9 := (HB9.out.bel.alloc HB9.out.bel.size _).grown hg9 HSZ.out (fun j hj => (HOW.out.lt j hj).1)
      exact ⟨⟨k + 1, a9, c9, LS ++ [(L, d)], ks ++ [(L.path, L.kind)], by omega, by go_num, rfl, Lib.hid hN9, Lib.hid hB9, HKS2, Lib.hid (by rw [List.map_append, List.append_assoc]; exact HGG.out), HXX⟩, by simp [intOf]; omega⟩
    · obtain rfl : k = n := by omega
      have hG2 := hG.out
      rw [List.drop_of_length_le (by rw [List.length_map]; have := HL.out; omega)] at hG2
      simp only [linesR, List.append_nil] at hG2
      have HLG := Lib.hid hG2
      have hlen := hI.out.len
      have hnum : LnNum LS := ⟨by omega, fun x hx => by
        obtain ⟨⟨e, he, hd⟩, _⟩ := hX.out x.1 (List.mem_map.2 ⟨x, hx, rfl⟩)
        obtain ⟨z, hz, rfl⟩ := List.mem_map.1 he
        have h1 := HN.out.dat z hz
        have h2 := (HT.out.dat z hz).len
        have h3 := ((hI.out.dat x hx).dat).len
        rw [hd, h2] at h3
        omega, fun x hx => by
        have := hX.out x.1 (List.mem_map.2 ⟨x, hx, rfl⟩)
        omega⟩
      have htg : ∀ x ∈ LS, x.1.target.length ≤ 2000000 := fun x hx => by
        have := hX.out x.1 (List.mem_map.2 ⟨x, hx, rfl⟩)
        omega
      have HEN := Lib.hid (REntries_any la k lc LS wr hI.out.lns hnum htg)
      clear hG2 hlen hnum hG hX htg
      go_upto_region 19 with (go_at_call 12; (refine (HEN.out).mono ?_); rintro r w6 ⟨a6, n6, c6, code, S6, rfl, hb6, hn6, hc1, hc2, hc3, hc4, hc5⟩; have HB6 := Lib.hid (hB.out.trans (hb6.mono hB.out.size)); have HI6 := Lib.hid (hI.out.below hb6); have HN6 := Lib.hid hn6; have HC1 := Lib.hid hc1; have HC4 := Lib.hid hc4; clear hb6 hn6 hc1 hc2 hc3 hc4 hc5 HEN)
      by_cases hc0 : code = 0
      · subst hc0
        have HGA := Lib.hid (HC1.out.1 rfl)
        have HS6 := Lib.hid (HC4.out rfl)
        have HEQ := Lib.hid (SameEs_any a6 a n6 k c6 c S6 T w6 HN6.out.ens (HT.out.below HB6.out))
        clear HC1 HC4
        go_upto_if 98 with (go_at_call 13; (refine (HEQ.out).mono ?_); rintro r w7 ⟨ok, rfl, hok, hb7⟩; have HOK := Lib.hid hok; have HB7 := Lib.hid (HB6.out.trans (hb7.mono HB6.out.size)); have HI7 := Lib.hid (HI6.out.below hb7); clear hok hb7 HEQ)
        have HLO : Hid (LinOk (eOf T) ↔ S6.map (·.1) = T.map (·.1)) := Lib.hid (by
          have h1 : lOf LS = linesR [] (eOf T) := HLG.out
          have h2 := HGA.out
          have h3 := HS6.out
          rw [h1] at h2 h3
          rw [← linR_iff, h3, ← gath_entR h2]
          exact ⟨fun h => h.2, fun h => ⟨h2, h⟩⟩)
        cases ok with
        | true =>
          have HYES := Lib.hid (HLO.out.2 (HOK.out.1 rfl))
          go_wp2_with fail
          go_ret2
          exact ⟨la, k, lc, 0, LS, rfl, HB7.out, HI7.out, by simp [HYES.out], Or.inl rfl, fun _ => HLG.out.trans (linR_same HYES.out), fun h => absurd rfl h⟩
        | false =>
          have HNO : Hid (¬ LinOk (eOf T)) := Lib.hid (fun h => by have := HOK.out.2 (HLO.out.1 h); cases this)
          go_wp2_with fail
          go_ret2
          exact ⟨none, 0, 0, 160, [], rfl, HB7.out, NewLn.nil _ _, ⟨fun h => (by cases h), fun h => absurd h HNO.out⟩, Or.inr rfl, fun h => (by cases h), fun _ => rfl⟩
      · have hcb : (code != 0) = true := bne_t hc0
        have HNO : Hid (¬ LinOk (eOf T)) := Lib.hid (fun h => hc0 (HC1.out.2 (by have h1 : lOf LS = linesR [] (eOf T) := HLG.out; rw [h1]; exact (linR_iff.2 h).1)))
        clear hc0
        go_wp2_with fail
        go_ret2
        exact ⟨none, 0, 0, 160, [], rfl, HB6.out, NewLn.nil _ _, ⟨fun h => (by cases h), fun h => absurd h HNO.out⟩, Or.inr rfl, fun h => (by cases h), fun _ => rfl⟩
end Gr
end Go.Proofs.Ytpdkdhcbibcifaa
namespace Go.Proofs.Ytpdkdhcbibcifaa
set_option linter.unusedVariables false
set_option linter.unusedSimpArgs false
open Go.ChangeShapes Go.WideShapes Go.ChangeAt Go.RowKit
namespace Gr
/-- a tree of a directory and a symbolic link -/
def syLines : List Ln := [⟨[46], 2, 0, 0, 0, 0, 0, [], [], []⟩, ⟨[115], 3, 0, 0, 0, 0, 0, [], [120], []⟩]
def syNodes : List Nd := [⟨1, 2, 0, 0, 0, 0, 0, [], [], [([115], 2)]⟩, ⟨2, 3, 0, 0, 0, 0, 0, [], [120], []⟩]
theorem sy_chk : Chk syNodes := ⟨by decide, ⟨by decide, by decide, by decide, ⟨by decide, by decide, by decide, trivial⟩⟩, by decide, [], by decide, fun id => ⟨1, rfl⟩⟩
theorem sy_tree : TreeOk syNodes 1 syLines := by
  refine ⟨sy_chk, ⟨_, rfl, rfl⟩, _, Wk.step 1 [46] [] st0 ⟨1, 2, 0, 0, 0, 0, 0, [], [], [([115], 2)]⟩ _ (by decide) rfl (Wk.step 2 [115] [] _ ⟨2, 3, 0, 0, 0, 0, 0, [], [120], []⟩ _ (by decide) rfl (Wk.done _)), rfl⟩
theorem sy_gath : Gath syLines := ⟨⟨syNodes, rfl, sy_tree⟩, by decide⟩
def syS : List EnS := [(⟨2, [46, 47], [], 0, 0, 0, [], [], 0, 0, []⟩, (none, 0, 0)), (⟨3, [115], [120], 0, 0, 0, [], [], 0, 0, []⟩, (none, 0, 0))]
theorem syS_eof : eOf syS = syLines.map entOf := rfl
theorem syS_num : EnNum syS := ⟨by decide, by simp [syS], by simp [syS]⟩
def syV : Array Value := #[.int .i64 2, .string ⟨#[46, 47]⟩, .string ⟨#[]⟩, .int .i64 0, .int .i64 0, .int .i64 0, .string ⟨#[]⟩, .string ⟨#[]⟩, .int .i64 0, .int .i64 0, .slice none 0 0, .int .i64 3, .string ⟨#[115]⟩, .string ⟨#[120]⟩, .int .i64 0, .int .i64 0, .int .i64 0, .string ⟨#[]⟩, .string ⟨#[]⟩, .int .i64 0, .int .i64 0, .slice none 0 0]
theorem sy_ens (w : World) : Ens (w.alloc (.cells syV 39)) (some ⟨w.heap.size, 0, none⟩) 2 2 syS := by
  refine ⟨?_, ?_⟩
  · have := isSl_new w 39 11 2 syV rfl (by decide)
    exact this
  · intro x hx
    have hd : x.2 = (none, 0, 0) ∧ x.1.data = [] := by
      simp only [syS, List.mem_cons, List.not_mem_nil, or_false] at hx
      rcases hx with rfl | rfl <;> exact ⟨rfl, rfl⟩
    unfold Dat
    rw [hd.1, hd.2]
    exact ⟨rfl, Nat.le_refl _, by decide, fun j v hj => by simp at hj, fun _ => ⟨rfl, rfl⟩⟩
theorem sy_mem {w : World} {B : Nat} {a : Option Addr} {n c : Nat} {S : List LnS} (h : NewLn w B a n c S) (hs : S.map (·.1) = syLines) :
    n = 2 ∧ 2 ≤ c ∧ ∃ g, a = some ⟨g, 0, none⟩ ∧ w.cell? ⟨g, 18, none⟩ = some (.string ⟨#[120]⟩) ∧ w.cell? ⟨g, 0, none⟩ = some (.string ⟨#[46]⟩) := by
  have hl := h.len
  have hl2 : S.length = 2 := by have := congrArg List.length hs; simpa [syLines] using this
  obtain rfl : n = 2 := by omega
  have hcap := h.lns.cap
  refine ⟨rfl, hcap, ?_⟩
  match S, hl2, hs with
  | [x, y], _, hs =>
    simp only [List.map_cons, List.map_nil, syLines, List.cons.injEq, and_true] at hs
    obtain ⟨hx, hy⟩ := hs
    obtain ⟨b, off, ha, h0⟩ := h.lns.at 0 x rfl
    obtain ⟨b', off', ha', h1⟩ := h.lns.at 1 y rfl
    obtain rfl : off = 0 := by
      rcases h.own.2 with ⟨h, _⟩ | ⟨g', cap, cur, h, _⟩
      · rw [ha] at h; cases h
      · rw [ha] at h; cases h; rfl
    rw [ha] at ha'
    cases ha'
    refine ⟨b, ha, ?_, ?_⟩
    · have := range_cell h1 8 (v := .string ⟨y.1.target.toArray⟩) rfl
      rw [hy] at this
      exact this
    · have := range_cell h0 0 (v := .string ⟨x.1.path.toArray⟩) rfl
      rw [hx] at this
      exact this
structure LinsOut (w' : World) (B : Nat) (es : List En) (a : Option Addr) (n c : Nat) (code : Int) (S : List LnS) : Prop where
  new : NewLn w' B a n c S
  ok : code = 0 ↔ LinOk es
  codes : code = 0 ∨ code = 160
  yes : code = 0 → S.map (·.1) = linesGo [] es
  no : code ≠ 0 → S = []
theorem LinsOut.same {w1 w2 : World} {B1 B2 : Nat} {es : List En} {a1 a2 : Option Addr} {n1 n2 c1 c2 : Nat} {k1 k2 : Int} {S1 S2 : List LnS} (h1 : LinsOut w1 B1 es a1 n1 c1 k1 S1) (h2 : LinsOut w2 B2 es a2 n2 c2 k2 S2) : k1 = k2 ∧ S1.map (·.1) = S2.map (·.1) := by
  have hk : k1 = k2 := by
    rcases h1.codes with e | e <;> rcases h2.codes with e' | e'
    · omega
    · have := h2.ok.2 (h1.ok.1 e); omega
    · have := h1.ok.2 (h2.ok.1 e'); omega
    · omega
  refine ⟨hk, ?_⟩
  by_cases h0 : k1 = 0
  · rw [h1.yes h0, h2.yes (by omega)]
  · rw [h1.no h0, h2.no (by omega)]
set_option maxRecDepth 100000 in
set_option maxHeartbeats 4000000 in
theorem GatherLines_walk (a0 : Option Addr) (n0 c0 : Nat) (S0 : List EnS) (w : World) (h0 : Ens w a0 n0 c0 S0) (hs0 : EnsSm 1048576 (eOf S0)) :
    Calls Try.prog 6 #[.slice a0 n0 c0] w fun r w' => r = .returned (.bool true) ∧ Below w.heap.size w w' := by
  have hl0 := h0.len
  have hn0 : n0 ≤ 2000000 := by have := hs0.1; rw [List.length_map] at this; omega
  have hd0 : ∀ x ∈ S0, x.2.2.1 ≤ 140737488355328 := fun x hx => by
    have e1 := (h0.dat x hx).len
    have e2 := (hs0.2 x.1 (List.mem_map.2 ⟨x, hx, rfl⟩)).1
    omega
  have HL0 := Lib.hid hs0
  have HLN : Hid (Calls Try.prog 19 #[.slice (some ⟨w.heap.size, 0, none⟩) 2 2] (w.alloc (.cells syV 39)) (LinesRes (w.alloc (.cells syV 39)) (eOf syS))) := Lib.hid (Lines_any _ _ _ syS _ (sy_ens w) syS_num)
  have HB : Hid (Below w.heap.size w (w.alloc (.cells syV 39))) := Lib.hid ((Below.refl _ _).alloc (Nat.le_refl _) _)
  have HSY : Hid (LinOk (eOf syS) ∧ linesGo [] (eOf syS) = syLines) := Lib.hid (by rw [syS_eof]; exact gath_back sy_gath)
  simp only [syV] at HLN HB
  go_enter Try.func6, Try.ntmps6
  go_upto_region 2 with (go_at_call 19; (refine (HLN.out).mono ?_); rintro r w1 ⟨a1, n1, c1, code, S1, rfl, hb1, hn1, hc1, _, hc3, _⟩; obtain rfl : code = 0 := hc1.2 HSY.out.1; obtain ⟨rfl, hcap, g, rfl, k1, k2⟩ := sy_mem hn1 ((hc3 rfl).trans HSY.out.2); have HB1 := Lib.hid (Below.seq HB.out hb1); clear hb1 hn1 hc1 hc3)
  clear HLN HB HSY
  go_upto_region 4 with fail
  clear k1 k2
  go_upto_region 7 with (first
    | (go_at_call 20; (refine (CopyEs_any a0 n0 c0 S0 w1 (h0.below HB1.out) (by omega) hd0).mono ?_); rintro r w2 ⟨a2, n2, c2, S2, rfl, hn2, hm2, hb2⟩; have HN2 := Lib.hid hn2; have HM2 := Lib.hid hm2; have HB2 := Lib.hid (HB1.out.trans (hb2.mono HB1.out.size)); clear hn2 hm2 hb2)
    | (go_at_call 19; (refine (Lines_any a2 n2 c2 S2 w2 HN2.out.ens (enNum_of HN2.out.ens HM2.out HL0.out)).mono ?_); rintro r w3 ⟨a3, n3, c3, k3, S3, rfl, hb3, hn3, hc3, hd3, he3, hf3⟩; have HO3 := Lib.hid (LinsOut.mk hn3 hc3 hd3 he3 hf3); have HB3 := Lib.hid (HB2.out.trans (hb3.mono HB2.out.size)); have HB23 := Lib.hid hb3; clear hb3 hn3 hc3 hd3 he3 hf3)
    | (go_at_call 21; (refine (RLines_any a0 n0 c0 S0 w3 (h0.below HB3.out) (enNum_of (h0.below HB3.out) rfl HL0.out)).mono ?_); rintro r w4 ⟨a4, n4, c4, k4, S4, rfl, hb4, hn4, hc4, hd4, he4, hf4⟩; have HO4 := Lib.hid (LinsOut.mk hn4 hc4 hd4 he4 hf4); have HB4 := Lib.hid (HB3.out.trans (hb4.mono HB3.out.size)); have HB34 := Lib.hid hb4; clear hb4 hn4 hc4 hd4 he4 hf4))
  have ho3 := HO3.out
  have hlo2 : eOf S2 = eOf S0 := HM2.out
  rw [hlo2] at ho3
  obtain ⟨rfl, hss⟩ := ho3.same HO4.out
  have HSL := Lib.hid (SameLs_yes a3 a4 n3 n4 c3 c4 S3 S4 w4 (HO3.out.new.below HB34.out).lns HO4.out.new.lns hss)
  have HSE := Lib.hid (fun w5 (hb : Below w4.heap.size w4 w5) => SameEs_yes a2 a0 n2 n0 c2 c0 S2 S0 w5 (((HN2.out.ens.below HB23.out).below HB34.out).below hb) ((h0.below HB4.out).below hb) HM2.out)
  clear ho3 hss hlo2
  go_wp2_with (first
    | (go_at_call 14; (refine (HSL.out).mono ?_); rintro r w5 ⟨rfl, hb5⟩; have HB5 := Lib.hid hb5; clear hb5)
    | (go_at_call 13; (refine (HSE.out _ HB5.out).mono ?_); rintro r w6 ⟨rfl, hb6⟩; have HB6 := Lib.hid hb6; clear hb6))
  go_ret
  exact ⟨rfl, Below.seq (Below.seq HB4.out HB5.out) HB6.out⟩
end Gr
end Go.Proofs.Ytpdkdhcbibcifaa
