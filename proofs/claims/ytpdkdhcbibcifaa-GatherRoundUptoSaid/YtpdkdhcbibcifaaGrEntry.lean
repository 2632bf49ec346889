/-
  GrEntry: gather.entry.
-/
import Derived.Test.YtpdkdhcbibcifaaGrEn
import Derived.Test.YtpdkdhcbibcifaaRowl
namespace Go.Proofs.Ytpdkdhcbibcifaa
set_option linter.unusedVariables false
set_option linter.unusedSimpArgs false
open Go.ChangeShapes Go.WideShapes Go.ChangeAt Go.RowKit
namespace Gr
section
variable {P : Program}
theorem row_range {w : World} {b : Nat} {cs : Array Value} {t : TypeId} (h : w.heap[b]? = some (.cells cs t)) : w.rangeAt b 0 cs.toList := fun j v hj => by
  rw [Nat.zero_add, row_cell h]; simpa using hj
theorem wpList_load_rowA {ops : Array Oper} {rest : List Oper} {op : Oper} {a : Act} {w : World} {Q : Exit → Act → World → Prop} (hgd : op.guard = none) (ty : TypeId) (x : Operand) (ho : op.op = .load ty x)
    (b : Nat) (hx : a.eval x = .pointer (some ⟨b, 0, none⟩)) (cs : Array Value) (t : TypeId) (d : TypeDesc) (hc : w.heap[b]? = some (.cells cs t))
    (hu : P.underlying ty = some d) (hd : d.isRow = true) (hi : (P.info? ty).map (·.size) = some cs.size)
    (h : wpList P ops Q rest (a.put op.dst (.agg cs)) w) : wpList P ops Q (op :: rest) a w :=
  wpList_load_mid hgd ty x ho b 0 hx cs.toList d (row_range hc) hu hd (by simpa using hi) (by rw [Array.toArray_toList]; exact h)
end
theorem sizeEn (x : EnS) : (Try.prog.info? 39).map (·.size) = some (enV x).size := by show _ = some 11; kernel_rfl
theorem setRow_own {w : World} {B g : Nat} {cs : Array Value} {old : Array Value} {t t' : TypeId} {sz n : Nat} {v : Value} {xs : List Value} (h : w.ownsRow B t sz v n xs) (hr : w.heap[g]? = some (.cells old t')) (ht : t ≠ t') : (w.setRow g cs).ownsRow B t sz v n xs :=
  own_stay h fun k hk => setRow_other _ _ _ _ (fun e => own_ne_row h hr ht (by rw [hk, e]))
def EntryRes (w : World) (l : Ln) (r : Ending) (w' : World) : Prop := ∃ s : Sl, r = .returned (.agg (enV (entOf l, s))) ∧ Below w.heap.size w w' ∧ Own w' w.heap.size s (entOf l).data
set_option maxRecDepth 100000 in
set_option maxHeartbeats 4000000 in
theorem entry_any (x : LnS) (w : World) (hd : Dat w x.2 x.1.data) (hn : x.2.2.1 ≤ 140737488355328) (hp : x.1.path.length ≤ 2000000) :
    Calls Try.prog 30 #[.agg (lnV x)] w (EntryRes w x.1) := by
  have HD := Lib.hid hd; have HN := Lib.hid hn
  clear hd hn
  obtain ⟨⟨path, kind, mode, uid, gid, sec, nano, data, target, peer⟩, ⟨da, dn, dc⟩⟩ := x
  simp only at hp HN
  simp only [lnV]
  go_enter Try.func30, Try.ntmps30
  go_upto_region 3 with fail
  have e1 : (w.alloc (.cells #[.string ⟨path.toArray⟩, .int .i64 kind, .int .i64 mode, .int .i64 uid, .int .i64 gid, .int .i64 sec, .int .i64 nano, .slice da dn dc, .string ⟨target.toArray⟩, .string ⟨peer.toArray⟩] 51)).heap.size = w.heap.size + 1 := by simp
  have e2 : ((w.alloc (.cells #[.string ⟨path.toArray⟩, .int .i64 kind, .int .i64 mode, .int .i64 uid, .int .i64 gid, .int .i64 sec, .int .i64 nano, .slice da dn dc, .string ⟨target.toArray⟩, .string ⟨peer.toArray⟩] 51)).alloc (.cells #[.int .i64 0, .string ⟨#[]⟩, .string ⟨#[]⟩, .int .i64 0, .int .i64 0, .int .i64 0, .string ⟨#[]⟩, .string ⟨#[]⟩, .int .i64 0, .int .i64 0, .slice none 0 0] 39)).heap.size = w.heap.size + 1 + 1 := by simp
  have HB3 : Hid (Below w.heap.size w (((w.alloc (.cells #[.string ⟨path.toArray⟩, .int .i64 kind, .int .i64 mode, .int .i64 uid, .int .i64 gid, .int .i64 sec, .int .i64 nano, .slice da dn dc, .string ⟨target.toArray⟩, .string ⟨peer.toArray⟩] 51)).alloc (.cells #[.int .i64 0, .string ⟨#[]⟩, .string ⟨#[]⟩, .int .i64 0, .int .i64 0, .int .i64 0, .string ⟨#[]⟩, .string ⟨#[]⟩, .int .i64 0, .int .i64 0, .slice none 0 0] 39)).alloc (.cells #[.int .i64 kind, .string ⟨path.toArray⟩, .string ⟨#[]⟩, .int .i64 mode, .int .i64 uid, .int .i64 gid, .string ⟨#[]⟩, .string ⟨#[]⟩, .int .i64 sec, .int .i64 nano, .slice none 0 0] 39))) := Lib.hid ((((Below.refl _ _).alloc (Nat.le_refl _) _).alloc (by simp) _).alloc (by simp; omega) _)
  have h0 := heap_alloc_new w (.cells #[.string ⟨path.toArray⟩, .int .i64 kind, .int .i64 mode, .int .i64 uid, .int .i64 gid, .int .i64 sec, .int .i64 nano, .slice da dn dc, .string ⟨target.toArray⟩, .string ⟨peer.toArray⟩] 51)
  have h1 := heap_alloc_new (w.alloc (.cells #[.string ⟨path.toArray⟩, .int .i64 kind, .int .i64 mode, .int .i64 uid, .int .i64 gid, .int .i64 sec, .int .i64 nano, .slice da dn dc, .string ⟨target.toArray⟩, .string ⟨peer.toArray⟩] 51)) (.cells #[.int .i64 0, .string ⟨#[]⟩, .string ⟨#[]⟩, .int .i64 0, .int .i64 0, .int .i64 0, .string ⟨#[]⟩, .string ⟨#[]⟩, .int .i64 0, .int .i64 0, .slice none 0 0] 39)
  have h2 := heap_alloc_new ((w.alloc (.cells #[.string ⟨path.toArray⟩, .int .i64 kind, .int .i64 mode, .int .i64 uid, .int .i64 gid, .int .i64 sec, .int .i64 nano, .slice da dn dc, .string ⟨target.toArray⟩, .string ⟨peer.toArray⟩] 51)).alloc (.cells #[.int .i64 0, .string ⟨#[]⟩, .string ⟨#[]⟩, .int .i64 0, .int .i64 0, .int .i64 0, .string ⟨#[]⟩, .string ⟨#[]⟩, .int .i64 0, .int .i64 0, .slice none 0 0] 39)) (.cells #[.int .i64 kind, .string ⟨path.toArray⟩, .string ⟨#[]⟩, .int .i64 mode, .int .i64 uid, .int .i64 gid, .string ⟨#[]⟩, .string ⟨#[]⟩, .int .i64 sec, .int .i64 nano, .slice none 0 0] 39)
  rw [e1] at h1
  rw [e2] at h2
  have R0 : Hid ((((w.alloc (.cells #[.string ⟨path.toArray⟩, .int .i64 kind, .int .i64 mode, .int .i64 uid, .int .i64 gid, .int .i64 sec, .int .i64 nano, .slice da dn dc, .string ⟨target.toArray⟩, .string ⟨peer.toArray⟩] 51)).alloc (.cells #[.int .i64 0, .string ⟨#[]⟩, .string ⟨#[]⟩, .int .i64 0, .int .i64 0, .int .i64 0, .string ⟨#[]⟩, .string ⟨#[]⟩, .int .i64 0, .int .i64 0, .slice none 0 0] 39)).alloc (.cells #[.int .i64 kind, .string ⟨path.toArray⟩, .string ⟨#[]⟩, .int .i64 mode, .int .i64 uid, .int .i64 gid, .string ⟨#[]⟩, .string ⟨#[]⟩, .int .i64 sec, .int .i64 nano, .slice none 0 0] 39)).heap[w.heap.size]? = some (.cells #[.string ⟨path.toArray⟩, .int .i64 kind, .int .i64 mode, .int .i64 uid, .int .i64 gid, .int .i64 sec, .int .i64 nano, .slice da dn dc, .string ⟨target.toArray⟩, .string ⟨peer.toArray⟩] 51)) := Lib.hid (by rw [heap_alloc_old _ _ (by simp; omega), heap_alloc_old _ _ (by simp)]; exact h0)
  have R1 : Hid ((((w.alloc (.cells #[.string ⟨path.toArray⟩, .int .i64 kind, .int .i64 mode, .int .i64 uid, .int .i64 gid, .int .i64 sec, .int .i64 nano, .slice da dn dc, .string ⟨target.toArray⟩, .string ⟨peer.toArray⟩] 51)).alloc (.cells #[.int .i64 0, .string ⟨#[]⟩, .string ⟨#[]⟩, .int .i64 0, .int .i64 0, .int .i64 0, .string ⟨#[]⟩, .string ⟨#[]⟩, .int .i64 0, .int .i64 0, .slice none 0 0] 39)).alloc (.cells #[.int .i64 kind, .string ⟨path.toArray⟩, .string ⟨#[]⟩, .int .i64 mode, .int .i64 uid, .int .i64 gid, .string ⟨#[]⟩, .string ⟨#[]⟩, .int .i64 sec, .int .i64 nano, .slice none 0 0] 39)).heap[w.heap.size + 1]? = some (.cells enZ 39)) := Lib.hid (by rw [heap_alloc_old _ _ (by simp)]; exact h1)
  have R2 := Lib.hid h2
  clear h0 h1 h2 e1 e2
  generalize (((w.alloc (.cells #[.string ⟨path.toArray⟩, .int .i64 kind, .int .i64 mode, .int .i64 uid, .int .i64 gid, .int .i64 sec, .int .i64 nano, .slice da dn dc, .string ⟨target.toArray⟩, .string ⟨peer.toArray⟩] 51)).alloc (.cells #[.int .i64 0, .string ⟨#[]⟩, .string ⟨#[]⟩, .int .i64 0, .int .i64 0, .int .i64 0, .string ⟨#[]⟩, .string ⟨#[]⟩, .int .i64 0, .int .i64 0, .slice none 0 0] 39)).alloc (.cells #[.int .i64 kind, .string ⟨path.toArray⟩, .string ⟨#[]⟩, .int .i64 mode, .int .i64 uid, .int .i64 gid, .string ⟨#[]⟩, .string ⟨#[]⟩, .int .i64 sec, .int .i64 nano, .slice none 0 0] 39)) = w3 at *
  have c9 : w3.cell? ⟨w.heap.size, 9, none⟩ = some (.string ⟨peer.toArray⟩) := by rw [row_cell R0.out]; rfl
  have c1 : w3.cell? ⟨w.heap.size, 1, none⟩ = some (.int .i64 kind) := by rw [row_cell R0.out]; rfl
  by_cases hpe : peer = []
  · subst hpe
    by_cases hk2 : kind = 2
    · subst hk2
      have d1 : w3.cell? ⟨w.heap.size + 1 + 1, 1, none⟩ = some (.string ⟨path.toArray⟩) := by rw [row_cell R2.out]; rfl
      have d1f : w3.frozen? ⟨w.heap.size + 1 + 1, 1, none⟩ = false := row_froz R2.out 1
      have hcat : ((⟨path.toArray⟩ : ByteArray) ++ ⟨#[47]⟩) = ⟨(path ++ [47]).toArray⟩ := by apply ByteArray.ext; simp [ByteArray.data_append]
      have hsz : (⟨path.toArray⟩ : ByteArray).size = path.length := rfl
      have HEN : Hid (entOf ⟨path, 2, mode, uid, gid, sec, nano, data, target, []⟩ = ⟨2, path ++ [47], [], mode, uid, gid, [], [], sec, nano, []⟩) := Lib.hid (by simp [entOf])
      have hF := setCell_row R2.out (j := 1) (.string ⟨(path ++ [47]).toArray⟩)
      have HF : Hid ((w3.setCell ⟨w.heap.size + 1 + 1, 1, none⟩ (.string ⟨(path ++ [47]).toArray⟩)).heap[w.heap.size + 1 + 1]? = some (.cells (enV (⟨2, path ++ [47], [], mode, uid, gid, [], [], sec, nano, []⟩, ((none, 0, 0) : Sl))) 39)) := Lib.hid (by simpa [enV] using hF)
      have HG : Hid ((w3.setCell ⟨w.heap.size + 1 + 1, 1, none⟩ (.string ⟨(path ++ [47]).toArray⟩)).heap[w.heap.size + 1]? = some (.cells enZ 39)) := Lib.hid (row_grown R1.out (setCell_grown w3 (w.heap.size + 1 + 1) 1 _) (by simp))
      clear hF
      go_upto_region 9 with (rw [hcat])
      go_wp2_with (first
        | (refine wpList_load_rowA rfl _ _ rfl (w.heap.size + 1 + 1) rfl (enV (⟨2, path ++ [47], [], mode, uid, gid, [], [], sec, nano, []⟩, ((none, 0, 0) : Sl))) 39 _ HF.out Try.underlying39 rfl (sizeEn _) ?_)
        | (refine wpList_store_row rfl _ _ _ rfl (w.heap.size + 1) rfl (enV (⟨2, path ++ [47], [], mode, uid, gid, [], [], sec, nano, []⟩, ((none, 0, 0) : Sl))) rfl enZ 39 HG.out rfl (sizeEn _) (by simpa [enCells] using en_one [(⟨2, path ++ [47], [], mode, uid, gid, [], [], sec, nano, []⟩, ((none, 0, 0) : Sl))]) ?_))
      refine bodyPost_ret (results_cell_row rfl _ _ (w.heap.size + 1) 39 _ (0, 0) _ rfl (setRow_heap _ _ _ _ _ _ HG.out) Try.underlying39 rfl (sizeEn _)) rfl ?_
      exact ⟨_, by rw [HEN.out], Below.setRow (HB3.out.setCell (p := ⟨w.heap.size + 1 + 1, 1, none⟩) (by simp; omega) _) (by omega) _, by rw [HEN.out]; exact World.ownsRow_nil _ _ _ _⟩
    · by_cases hk3 : kind = 3
      · subst hk3
        have d1 : w3.cell? ⟨w.heap.size + 1 + 1, 2, none⟩ = some (.string ⟨#[]⟩) := by rw [row_cell R2.out]; rfl
        have d1f : w3.frozen? ⟨w.heap.size + 1 + 1, 2, none⟩ = false := row_froz R2.out 2
        have d2 : w3.cell? ⟨w.heap.size, 8, none⟩ = some (.string ⟨target.toArray⟩) := by rw [row_cell R0.out]; rfl
        have HEN : Hid (entOf ⟨path, 3, mode, uid, gid, sec, nano, data, target, []⟩ = ⟨3, path, target, mode, uid, gid, [], [], sec, nano, []⟩) := Lib.hid (by simp [entOf])
        have hF := setCell_row R2.out (j := 2) (.string ⟨target.toArray⟩)
        have HF : Hid ((w3.setCell ⟨w.heap.size + 1 + 1, 2, none⟩ (.string ⟨target.toArray⟩)).heap[w.heap.size + 1 + 1]? = some (.cells (enV (⟨3, path, target, mode, uid, gid, [], [], sec, nano, []⟩, ((none, 0, 0) : Sl))) 39)) := Lib.hid (by simpa [enV] using hF)
        have HG : Hid ((w3.setCell ⟨w.heap.size + 1 + 1, 2, none⟩ (.string ⟨target.toArray⟩)).heap[w.heap.size + 1]? = some (.cells enZ 39)) := Lib.hid (row_grown R1.out (setCell_grown w3 (w.heap.size + 1 + 1) 2 _) (by simp))
        clear hF
        go_upto_region 9 with fail
        go_wp2_with (first
          | (refine wpList_load_rowA rfl _ _ rfl (w.heap.size + 1 + 1) rfl (enV (⟨3, path, target, mode, uid, gid, [], [], sec, nano, []⟩, ((none, 0, 0) : Sl))) 39 _ HF.out Try.underlying39 rfl (sizeEn _) ?_)
          | (refine wpList_store_row rfl _ _ _ rfl (w.heap.size + 1) rfl (enV (⟨3, path, target, mode, uid, gid, [], [], sec, nano, []⟩, ((none, 0, 0) : Sl))) rfl enZ 39 HG.out rfl (sizeEn _) (by simpa [enCells] using en_one [(⟨3, path, target, mode, uid, gid, [], [], sec, nano, []⟩, ((none, 0, 0) : Sl))]) ?_))
        refine bodyPost_ret (results_cell_row rfl _ _ (w.heap.size + 1) 39 _ (0, 0) _ rfl (setRow_heap _ _ _ _ _ _ HG.out) Try.underlying39 rfl (sizeEn _)) rfl ?_
        exact ⟨_, by rw [HEN.out], Below.setRow (HB3.out.setCell (p := ⟨w.heap.size + 1 + 1, 2, none⟩) (by simp; omega) _) (by omega) _, by rw [HEN.out]; exact World.ownsRow_nil _ _ _ _⟩
      · have hb2 : (kind == 2) = false := beq_f hk2
        have hb3 : (kind == 3) = false := beq_f hk3
        have d2 : w3.cell? ⟨w.heap.size, 7, none⟩ = some (.slice da dn dc) := by rw [row_cell R0.out]; rfl
        have HEN : Hid (entOf ⟨path, kind, mode, uid, gid, sec, nano, data, target, []⟩ = ⟨kind, path, [], mode, uid, gid, [], [], sec, nano, data⟩) := Lib.hid (by simp [entOf, hk2, hk3])
        have HDA : Hid (Dat w3 (da, dn, dc) data) := Lib.hid (Below.bs HB3.out HD.out)
        clear hk2 hk3
        go_upto_region 9 with (go_at_call 37; (refine (Clone_any (da, dn, dc) data w3 HDA.out HN.out).mono ?_); rintro r w5 ⟨a5, n5, c5, rfl, ho5, hb5⟩; have HO5 := Lib.hid ho5; have HB5 := Lib.hid hb5; have R25 := Lib.hid (row_below R2.out HB5.out); have R15 := Lib.hid (row_below R1.out HB5.out); have d1 : w5.cell? ⟨w.heap.size + 1 + 1, 10, none⟩ = some (.slice none 0 0) := (by rw [row_cell R25.out]; rfl); have d1f : w5.frozen? ⟨w.heap.size + 1 + 1, 10, none⟩ = false := row_froz R25.out 10; clear ho5 hb5)
        have hF := setCell_row R25.out (j := 10) (.slice a5 n5 c5)
        have HF : Hid ((w5.setCell ⟨w.heap.size + 1 + 1, 10, none⟩ (.slice a5 n5 c5)).heap[w.heap.size + 1 + 1]? = some (.cells (enV (⟨kind, path, [], mode, uid, gid, [], [], sec, nano, data⟩, (a5, n5, c5))) 39)) := Lib.hid (by simpa [enV] using hF)
        have HG : Hid ((w5.setCell ⟨w.heap.size + 1 + 1, 10, none⟩ (.slice a5 n5 c5)).heap[w.heap.size + 1]? = some (.cells enZ 39)) := Lib.hid (row_grown R15.out (setCell_grown w5 (w.heap.size + 1 + 1) 10 _) (by simp))
        have HOF : Hid (Own (w5.setCell ⟨w.heap.size + 1 + 1, 10, none⟩ (.slice a5 n5 c5)) w.heap.size (a5, n5, c5) data) := Lib.hid (own_base (own_cell HO5.out R25.out (by decide)) HB3.out.size)
        have HBF : Hid (Below w.heap.size w (w5.setCell ⟨w.heap.size + 1 + 1, 10, none⟩ (.slice a5 n5 c5))) := Lib.hid ((HB3.out.trans (HB5.out.mono HB3.out.size)).setCell (p := ⟨w.heap.size + 1 + 1, 10, none⟩) (by simp; omega) _)
        clear hF d1 d1f
        go_wp2_with (first
          | (refine wpList_load_rowA rfl _ _ rfl (w.heap.size + 1 + 1) rfl (enV (⟨kind, path, [], mode, uid, gid, [], [], sec, nano, data⟩, (a5, n5, c5))) 39 _ HF.out Try.underlying39 rfl (sizeEn _) ?_)
          | (refine wpList_store_row rfl _ _ _ rfl (w.heap.size + 1) rfl (enV (⟨kind, path, [], mode, uid, gid, [], [], sec, nano, data⟩, (a5, n5, c5))) rfl enZ 39 HG.out rfl (sizeEn _) (by simpa [enCells] using en_one [(⟨kind, path, [], mode, uid, gid, [], [], sec, nano, data⟩, (a5, n5, c5))]) ?_))
        refine bodyPost_ret (results_cell_row rfl _ _ (w.heap.size + 1) 39 _ (0, 0) _ rfl (setRow_heap _ _ _ _ _ _ HG.out) Try.underlying39 rfl (sizeEn _)) rfl ?_
        exact ⟨_, by rw [HEN.out], Below.setRow HBF.out (by omega) _, by rw [HEN.out]; exact setRow_own HOF.out HG.out (by decide)⟩
  · have hpb : (peer != []) = true := bne_t hpe
    have hpc : peer.isEmpty = false := by simpa using hpe
    have HEN : Hid (entOf ⟨path, kind, mode, uid, gid, sec, nano, data, target, peer⟩ = ⟨4, path, peer, mode, uid, gid, [], [], sec, nano, []⟩) := Lib.hid (by simp [entOf, hpe])
    have d0 : w3.cell? ⟨w.heap.size + 1 + 1, 0, none⟩ = some (.int .i64 kind) := by rw [row_cell R2.out]; rfl
    have d0f : w3.frozen? ⟨w.heap.size + 1 + 1, 0, none⟩ = false := row_froz R2.out 0
    have d2 : w3.cell? ⟨w.heap.size + 1 + 1, 2, none⟩ = some (.string ⟨#[]⟩) := by rw [row_cell R2.out]; rfl
    have d2f : w3.frozen? ⟨w.heap.size + 1 + 1, 2, none⟩ = false := row_froz R2.out 2
    clear hpe
    have RD2A : w3.drew.heap[w.heap.size + 1 + 1]? = _ := R2.out
    have HFA : Hid (((w3.drew.setCell ⟨w.heap.size + 1 + 1, 0, none⟩ (.int .i64 4)).setCell ⟨w.heap.size + 1 + 1, 2, none⟩ (.string ⟨peer.toArray⟩)).heap[w.heap.size + 1 + 1]? = some (.cells (enV (⟨4, path, peer, mode, uid, gid, [], [], sec, nano, []⟩, ((none, 0, 0) : Sl))) 39)) := Lib.hid (by simpa [enV] using setCell_row (setCell_row RD2A (j := 0) (.int .i64 4)) (j := 2) (.string ⟨peer.toArray⟩))
    have HGA : Hid (((w3.drew.setCell ⟨w.heap.size + 1 + 1, 0, none⟩ (.int .i64 4)).setCell ⟨w.heap.size + 1 + 1, 2, none⟩ (.string ⟨peer.toArray⟩)).heap[w.heap.size + 1]? = some (.cells enZ 39)) := Lib.hid (row_grown (row_grown (show w3.drew.heap[w.heap.size + 1]? = _ from R1.out) (setCell_grown w3.drew (w.heap.size + 1 + 1) 0 (.int .i64 4)) (by simp)) (setCell_grown _ (w.heap.size + 1 + 1) 2 (.string ⟨peer.toArray⟩)) (by simp))
    clear RD2A
    have RD2B : w3.drew.heap[w.heap.size + 1 + 1]? = _ := R2.out
    have HFB : Hid (((w3.drew.setCell ⟨w.heap.size + 1 + 1, 2, none⟩ (.string ⟨peer.toArray⟩)).setCell ⟨w.heap.size + 1 + 1, 0, none⟩ (.int .i64 4)).heap[w.heap.size + 1 + 1]? = some (.cells (enV (⟨4, path, peer, mode, uid, gid, [], [], sec, nano, []⟩, ((none, 0, 0) : Sl))) 39)) := Lib.hid (by simpa [enV] using setCell_row (setCell_row RD2B (j := 2) (.string ⟨peer.toArray⟩)) (j := 0) (.int .i64 4))
    have HGB : Hid (((w3.drew.setCell ⟨w.heap.size + 1 + 1, 2, none⟩ (.string ⟨peer.toArray⟩)).setCell ⟨w.heap.size + 1 + 1, 0, none⟩ (.int .i64 4)).heap[w.heap.size + 1]? = some (.cells enZ 39)) := Lib.hid (row_grown (row_grown (show w3.drew.heap[w.heap.size + 1]? = _ from R1.out) (setCell_grown w3.drew (w.heap.size + 1 + 1) 2 (.string ⟨peer.toArray⟩)) (by simp)) (setCell_grown _ (w.heap.size + 1 + 1) 0 (.int .i64 4)) (by simp))
    clear RD2B
    go_upto_region 4 with fail
    go_region
    all_goals
      go_wp2_with (first
        | (refine wpList_load_rowA rfl _ _ rfl (w.heap.size + 1 + 1) rfl (enV (⟨4, path, peer, mode, uid, gid, [], [], sec, nano, []⟩, ((none, 0, 0) : Sl))) 39 _ HFA.out Try.underlying39 rfl (sizeEn _) ?_)
        | (refine wpList_store_row rfl _ _ _ rfl (w.heap.size + 1) rfl (enV (⟨4, path, peer, mode, uid, gid, [], [], sec, nano, []⟩, ((none, 0, 0) : Sl))) rfl enZ 39 HGA.out rfl (sizeEn _) (by simpa [enCells] using en_one [(⟨4, path, peer, mode, uid, gid, [], [], sec, nano, []⟩, ((none, 0, 0) : Sl))]) ?_)
        | (refine wpList_load_rowA rfl _ _ rfl (w.heap.size + 1 + 1) rfl (enV (⟨4, path, peer, mode, uid, gid, [], [], sec, nano, []⟩, ((none, 0, 0) : Sl))) 39 _ HFB.out Try.underlying39 rfl (sizeEn _) ?_)
        | (refine wpList_store_row rfl _ _ _ rfl (w.heap.size + 1) rfl (enV (⟨4, path, peer, mode, uid, gid, [], [], sec, nano, []⟩, ((none, 0, 0) : Sl))) rfl enZ 39 HGB.out rfl (sizeEn _) (by simpa [enCells] using en_one [(⟨4, path, peer, mode, uid, gid, [], [], sec, nano, []⟩, ((none, 0, 0) : Sl))]) ?_))
      first
        | (refine bodyPost_ret (results_cell_row rfl _ _ (w.heap.size + 1) 39 _ (0, 0) _ rfl (setRow_heap _ _ _ _ _ _ HGA.out) Try.underlying39 rfl (sizeEn _)) rfl ?_
           exact ⟨_, by rw [HEN.out], Below.setRow ((HB3.out.drew.setCell (p := ⟨w.heap.size + 1 + 1, 0, none⟩) (by simp; omega) _).setCell (p := ⟨w.heap.size + 1 + 1, 2, none⟩) (by simp; omega) _) (by omega) _, by rw [HEN.out]; exact World.ownsRow_nil _ _ _ _⟩)
        | (refine bodyPost_ret (results_cell_row rfl _ _ (w.heap.size + 1) 39 _ (0, 0) _ rfl (setRow_heap _ _ _ _ _ _ HGB.out) Try.underlying39 rfl (sizeEn _)) rfl ?_
           exact ⟨_, by rw [HEN.out], Below.setRow ((HB3.out.drew.setCell (p := ⟨w.heap.size + 1 + 1, 2, none⟩) (by simp; omega) _).setCell (p := ⟨w.heap.size + 1 + 1, 0, none⟩) (by simp; omega) _) (by omega) _, by rw [HEN.out]; exact World.ownsRow_nil _ _ _ _⟩)
end Gr
end Go.Proofs.Ytpdkdhcbibcifaa
