/-
  J07: GrUseL, GrUseE, joined.
-/
import Derived.Test.YtpdkdhcbibcifaaJ06
import Derived.Test.YtpdkdhcbibcifaaJ01
import Derived.StillTailTactics
namespace Go.Proofs.Ytpdkdhcbibcifaa
set_option linter.unusedVariables false
set_option linter.unusedSimpArgs false
open Go.ChangeShapes Go.WideShapes Go.ChangeAt Go.RowKit
namespace Gr
theorem wpList_load_midA {P : Program} {ops : Array Oper} {rest : List Oper} {op : Oper} {a : Act} {w : World} {Q : Exit → Act → World → Prop} (hgd : op.guard = none) (ty : TypeId) (x : Operand) (ho : op.op = .load ty x)
    (b o : Nat) (hx : a.eval x = .pointer (some ⟨b, o, none⟩)) (cs : Array Value) (d : TypeDesc) (hc : w.rangeAt b o cs.toList)
    (hu : P.underlying ty = some d) (hd : d.isRow = true) (hi : (P.info? ty).map (·.size) = some cs.toList.length)
    (h : wpList P ops Q rest (a.put op.dst (.agg cs)) w) : wpList P ops Q (op :: rest) a w :=
  wpList_load_mid hgd ty x ho b o hx cs.toList d hc hu hd hi (by rw [Array.toArray_toList]; exact h)
theorem sizeL2 (x : LnS) : (Try.prog.info? 51).map (·.size) = some (lnV x).toList.length := by show _ = some 10; kernel_rfl
theorem sizeLn (x : LnS) : (Try.prog.info? 51).map (·.size) = some (lnV x).size := by show _ = some 10; kernel_rfl
theorem ln_newc (w : World) (x : LnS) : IsSl (w.alloc (.cells (lnV x) 51)) 10 (some ⟨w.heap.size, 0, none⟩) 1 1 ([x].flatMap lnCells) := by
  have := isSl_new w 51 10 1 (lnV x) rfl (by decide)
  simpa [lnV_list] using this
/-- lines in memory of their own, the data's blocks rising -/
structure NewLn (w : World) (B : Nat) (a : Option Addr) (n c : Nat) (S : List LnS) : Prop where
  own : w.ownsRow B 51 10 (.slice a n c) n (S.flatMap lnCells)
  dat : ∀ x ∈ S, Own w B x.2 x.1.data
  rise : S.Pairwise fun x y => ∀ b b', blk x.2 = some b → blk y.2 = some b' → b < b'
theorem NewLn.lns {w : World} {B : Nat} {a : Option Addr} {n c : Nat} {S : List LnS} (h : NewLn w B a n c S) : Lns w a n c S := ⟨own_isSl h.own, fun x hx => (h.dat x hx).dat⟩
theorem NewLn.len {w : World} {B : Nat} {a : Option Addr} {n c : Nat} {S : List LnS} (h : NewLn w B a n c S) : S.length = n := h.lns.len
theorem NewLn.nil (w : World) (B : Nat) : NewLn w B none 0 0 [] := ⟨World.ownsRow_nil _ _ _ _, by simp, List.Pairwise.nil⟩
theorem NewLn.below {w w' : World} {B : Nat} {a : Option Addr} {n c : Nat} {S : List LnS} (h : NewLn w B a n c S) (k : Below w.heap.size w w') : NewLn w' B a n c S :=
  ⟨own_keep h.own (fun j _ hj => k.block j hj), fun x hx => own_keep (h.dat x hx) (fun j _ hj => k.block j hj), h.rise⟩
theorem lnZ_sz (x : LnS) : lnZ.size = (lnV x).size := rfl
theorem lnV_pos (x : LnS) : 0 < (lnV x).size := by show 0 < 10; decide
theorem lnV_lim (x : LnS) : (lnV x).size ≤ 16777216 := by show 10 ≤ _; decide
theorem NewLn.app {w w3 w4 : World} {B : Nat} {a a4 : Option Addr} {n c c4 : Nat} {S : List LnS} {x : LnS} (h : NewLn w B a n c S) (hB : B ≤ w.heap.size) (ho : Own w3 w.heap.size x.2 x.1.data) (k : Below w.heap.size w w3)
    (hg : (w3.alloc (.cells (lnV x) 51)).grownBy w4 (Value.slice a n c).ownBlock) (ho4 : w4.ownsRow B 51 10 (.slice a4 (n + 1) c4) (n + 1) (S.flatMap lnCells ++ [x].flatMap lnCells)) : NewLn w4 B a4 (n + 1) c4 (S ++ [x]) := by
  have h3 := h.below k
  have hA : Below w3.heap.size w3 (w3.alloc (.cells (lnV x) 51)) := (Below.refl _ _).alloc (Nat.le_refl _) _
  have hA3 := h3.below hA
  have hd : ∀ {B' : Nat} {s : Sl} {l : Bt}, Own w3 B' s l → Own w4 B' s l := fun hs => own_other (own_keep hs (fun j _ hj => hA.block j hj)) hA3.own (by decide) hg
  refine ⟨by rw [List.flatMap_append]; exact ho4, fun y hy => ?_, ?_⟩
  · rcases List.mem_append.1 hy with hy | hy
    · exact hd (h3.dat y hy)
    · rw [List.mem_singleton] at hy
      subst hy
      exact hd (own_base ho hB)
  · rw [List.pairwise_append]
    refine ⟨h.rise, List.pairwise_singleton _ _, fun y hy z hz b b' hb hb' => ?_⟩
    rw [List.mem_singleton] at hz
    subst hz
    have e1 := ((h.dat y hy).lt b hb).2
    have e2 := (ho.lt b' hb').1
    omega
set_option maxRecDepth 100000 in
set_option maxHeartbeats 1600000 in
theorem CopyL_any (x : LnS) (w : World) (h : Dat w x.2 x.1.data) (hn : x.2.2.1 ≤ 140737488355328) :
    Calls Try.prog 23 #[.agg (lnV x)] w fun r w' => ∃ s : Sl, r = .returned (.agg (lnV (x.1, s))) ∧ Own w' w.heap.size s x.1.data ∧ Below w.heap.size w w' := by
  have HD := Lib.hid h; have HN := Lib.hid hn
  clear h hn
  obtain ⟨⟨path, kind, mode, uid, gid, sec, nano, data, target, peer⟩, ⟨a, n, c⟩⟩ := x
  simp only at HN HD
  simp only [lnV]
  go_enter Try.func23, Try.ntmps23
  go_upto_region 1 with fail
  have HB2 : Hid (Below w.heap.size w ((w.alloc (.cells #[.string ⟨path.toArray⟩, .int .i64 kind, .int .i64 mode, .int .i64 uid, .int .i64 gid, .int .i64 sec, .int .i64 nano, .slice a n c, .string ⟨target.toArray⟩, .string ⟨peer.toArray⟩] 51)).alloc (.cells #[.string ⟨#[]⟩, .int .i64 0, .int .i64 0, .int .i64 0, .int .i64 0, .int .i64 0, .int .i64 0, .slice none 0 0, .string ⟨#[]⟩, .string ⟨#[]⟩] 51))) := Lib.hid (((Below.refl _ _).alloc (Nat.le_refl _) _).alloc (by simp) _)
  have h0 := heap_alloc_new w (.cells #[.string ⟨path.toArray⟩, .int .i64 kind, .int .i64 mode, .int .i64 uid, .int .i64 gid, .int .i64 sec, .int .i64 nano, .slice a n c, .string ⟨target.toArray⟩, .string ⟨peer.toArray⟩] 51)
  have h1 := heap_alloc_new (w.alloc (.cells #[.string ⟨path.toArray⟩, .int .i64 kind, .int .i64 mode, .int .i64 uid, .int .i64 gid, .int .i64 sec, .int .i64 nano, .slice a n c, .string ⟨target.toArray⟩, .string ⟨peer.toArray⟩] 51)) (.cells #[.string ⟨#[]⟩, .int .i64 0, .int .i64 0, .int .i64 0, .int .i64 0, .int .i64 0, .int .i64 0, .slice none 0 0, .string ⟨#[]⟩, .string ⟨#[]⟩] 51)
  have e1 : (w.alloc (.cells #[.string ⟨path.toArray⟩, .int .i64 kind, .int .i64 mode, .int .i64 uid, .int .i64 gid, .int .i64 sec, .int .i64 nano, .slice a n c, .string ⟨target.toArray⟩, .string ⟨peer.toArray⟩] 51)).heap.size = w.heap.size + 1 := by simp
  rw [e1] at h1
  have R0 : Hid (((w.alloc (.cells #[.string ⟨path.toArray⟩, .int .i64 kind, .int .i64 mode, .int .i64 uid, .int .i64 gid, .int .i64 sec, .int .i64 nano, .slice a n c, .string ⟨target.toArray⟩, .string ⟨peer.toArray⟩] 51)).alloc (.cells #[.string ⟨#[]⟩, .int .i64 0, .int .i64 0, .int .i64 0, .int .i64 0, .int .i64 0, .int .i64 0, .slice none 0 0, .string ⟨#[]⟩, .string ⟨#[]⟩] 51)).heap[w.heap.size]? = some (.cells #[.string ⟨path.toArray⟩, .int .i64 kind, .int .i64 mode, .int .i64 uid, .int .i64 gid, .int .i64 sec, .int .i64 nano, .slice a n c, .string ⟨target.toArray⟩, .string ⟨peer.toArray⟩] 51)) := Lib.hid (by rw [heap_alloc_old _ _ (by simp)]; exact h0)
  have R1 : Hid (((w.alloc (.cells #[.string ⟨path.toArray⟩, .int .i64 kind, .int .i64 mode, .int .i64 uid, .int .i64 gid, .int .i64 sec, .int .i64 nano, .slice a n c, .string ⟨target.toArray⟩, .string ⟨peer.toArray⟩] 51)).alloc (.cells #[.string ⟨#[]⟩, .int .i64 0, .int .i64 0, .int .i64 0, .int .i64 0, .int .i64 0, .int .i64 0, .slice none 0 0, .string ⟨#[]⟩, .string ⟨#[]⟩] 51)).heap[w.heap.size + 1]? = some (.cells lnZ 51)) := Lib.hid h1
  clear h0 h1 e1
  generalize (w.alloc (.cells #[.string ⟨path.toArray⟩, .int .i64 kind, .int .i64 mode, .int .i64 uid, .int .i64 gid, .int .i64 sec, .int .i64 nano, .slice a n c, .string ⟨target.toArray⟩, .string ⟨peer.toArray⟩] 51)).alloc (.cells #[.string ⟨#[]⟩, .int .i64 0, .int .i64 0, .int .i64 0, .int .i64 0, .int .i64 0, .int .i64 0, .slice none 0 0, .string ⟨#[]⟩, .string ⟨#[]⟩] 51) = w2 at *
  have c0 : w2.cell? ⟨w.heap.size, 7, none⟩ = some (.slice a n c) := by rw [row_cell R0.out]; rfl
  have HDA : Hid (Dat w2 (a, n, c) data) := Lib.hid (Below.bs HB2.out HD.out)
  go_upto_region 2 with (go_at_call 42; (refine (CopyBytes_any a n c data w2 HDA.out HN.out).mono ?_); rintro r w5 ⟨a5, n5, c5, rfl, ho5, hb5⟩; have HO5 : Hid (Own w5 w2.heap.size (a5, n5, c5) data) := Lib.hid ho5; have HB5 := Lib.hid hb5; have R25 := Lib.hid (row_below R0.out HB5.out); have R15 := Lib.hid (row_below R1.out HB5.out); have d1 : w5.cell? ⟨w.heap.size, 7, none⟩ = some (.slice a n c) := (by rw [row_cell R25.out]; rfl); have d1f : w5.frozen? ⟨w.heap.size, 7, none⟩ = false := row_froz R25.out 7; clear ho5 hb5)
  have hF := setCell_row R25.out (j := 7) (.slice a5 n5 c5)
  have HF : Hid ((w5.setCell ⟨w.heap.size, 7, none⟩ (.slice a5 n5 c5)).heap[w.heap.size]? = some (.cells (lnV (⟨path, kind, mode, uid, gid, sec, nano, data, target, peer⟩, (a5, n5, c5))) 51)) := Lib.hid (by simpa [lnV] using hF)
  have HG : Hid ((w5.setCell ⟨w.heap.size, 7, none⟩ (.slice a5 n5 c5)).heap[w.heap.size + 1]? = some (.cells lnZ 51)) := Lib.hid (row_grown R15.out (setCell_grown w5 w.heap.size 7 _) (by simp))
  have HOF : Hid (Own (w5.setCell ⟨w.heap.size, 7, none⟩ (.slice a5 n5 c5)) w.heap.size (a5, n5, c5) data) := Lib.hid (own_base (own_cell HO5.out R25.out (by decide)) HB2.out.size)
  have HBF : Hid (Below w.heap.size w (w5.setCell ⟨w.heap.size, 7, none⟩ (.slice a5 n5 c5))) := Lib.hid ((HB2.out.trans (HB5.out.mono HB2.out.size)).setCell (p := ⟨w.heap.size, 7, none⟩) (Nat.le_refl _) _)
  clear hF d1 d1f c0
  go_wp2_with (first
    | (refine wpList_load_rowA rfl _ _ rfl w.heap.size rfl (lnV (⟨path, kind, mode, uid, gid, sec, nano, data, target, peer⟩, (a5, n5, c5))) 51 _ HF.out Try.underlying51 rfl (sizeLn _) ?_)
    | (refine wpList_store_row rfl _ _ _ rfl (w.heap.size + 1) rfl (lnV (⟨path, kind, mode, uid, gid, sec, nano, data, target, peer⟩, (a5, n5, c5))) rfl lnZ 51 HG.out rfl (sizeLn _) (by simpa [lnCells, lnV] using ln_one [(⟨path, kind, mode, uid, gid, sec, nano, data, target, peer⟩, (a5, n5, c5))]) ?_))
  refine bodyPost_ret (results_cell_row rfl _ _ (w.heap.size + 1) 51 _ (0, 0) _ rfl (setRow_heap _ _ _ _ _ _ HG.out) Try.underlying51 rfl (sizeLn _)) rfl ?_
  exact ⟨(a5, n5, c5), rfl, setRow_own HOF.out HG.out (by decide), Below.setRow HBF.out (by omega) _⟩
set_option maxRecDepth 100000 in
set_option maxHeartbeats 1600000 in
theorem CopyLs_any (a : Option Addr) (n c : Nat) (S : List LnS) (w : World) (h : Lns w a n c S) (hn : n ≤ 1000000000000) (hd : ∀ x ∈ S, x.2.2.1 ≤ 140737488355328) :
    Calls Try.prog 10 #[.slice a n c] w fun r w' => ∃ (a' : Option Addr) (n' c' : Nat) (S' : List LnS), r = .returned (.slice a' n' c') ∧ NewLn w' w.heap.size a' n' c' S' ∧ S'.map (·.1) = S.map (·.1) ∧ Below w.heap.size w w' := by
  have hl := h.len; have hcap := h.cap; have hmax := h.max
  have HL := Lib.hid hl; have HH := Lib.hid h; have HD := Lib.hid hd
  clear hl h hd
  go_enter Try.func10, Try.ntmps10
  go_wp2
  go_loopw [3, 4] (fun v i wr => ∃ (k : Nat) (a1 : Option Addr) (c1 : Nat) (S1 : List LnS), k ≤ n ∧ i = .int .i64 k ∧ v = .slice a1 k c1 ∧ Hid (NewLn wr w.heap.size a1 k c1 S1) ∧ Hid (S1.map (·.1) = (S.take k).map (·.1)) ∧ Hid (Below w.heap.size w wr)) (fun _ i _ => n - (intOf i).toNat)
  case atStart => exact ⟨0, some ⟨w.heap.size, 0, none⟩, 0, [], Nat.zero_le _, rfl, rfl, Lib.hid ⟨World.ownsRow_lit (base := w.heap.size) (e := 51) (size := 10) w #[] 0 (Nat.le_refl _) (by decide) rfl, by simp, List.Pairwise.nil⟩, Lib.hid (by simp), Lib.hid ((Below.refl _ _).alloc (Nat.le_refl _) _)⟩
  case round =>
    obtain ⟨k, a1, c1, S1, hk, rfl, rfl, hI, hM, hB⟩ := hrel
    by_cases hlt : k < n
    · obtain ⟨x, hxk⟩ := get_some (S := S) (k := k) (by have := HL.out; omega)
      obtain ⟨b, off, rfl, hr⟩ := (HH.out.below hB.out).at k x hxk
      have hdk := (HH.out.below hB.out).dat x (mem_get hxk)
      have hx2 := HD.out x (mem_get hxk)
      have HMP : Hid ((S.take (k + 1)).map (·.1) = (S.take k).map (·.1) ++ [x.1]) := Lib.hid (by
        obtain ⟨h1, h2⟩ := List.getElem?_eq_some_iff.1 hxk
        rw [List.take_succ_eq_append_getElem h1, List.map_append, h2]; rfl)
      have HR := Lib.hid hr; have HDK := Lib.hid hdk; have HX2 := Lib.hid hx2
      clear hr hdk hx2 hxk
      go_wp2_with (first
        | (refine wpList_load_midA rfl _ _ rfl b (off + k * 10) rfl (lnV x) _ (by exact HR.out) Try.underlying51 rfl (by exact sizeL2 x) ?_)
        | (go_at_call 23; (refine (CopyL_any x wr HDK.out HX2.out).mono ?_); rintro r w3 ⟨s, rfl, ho3, hb3⟩; have HO3 := Lib.hid ho3; have HB3 := Lib.hid hb3; clear ho3 hb3; have HOW := Lib.hid (own_keep (w' := w3.alloc (.cells (lnV (x.1, s)) 51)) hI.out.own fun j _ hj => by rw [heap_alloc_old _ _ (Nat.lt_of_lt_of_le hj HB3.out.size)]; exact HB3.out.block j hj); have HSZ : Hid (w.heap.size ≤ (w3.alloc (.cells (lnV (x.1, s)) 51)).heap.size) := Lib.hid (by have := hB.out.size; have := HB3.out.size; simp; omega))
        | (with_reducible refine wpList_slice_one rfl 22 _ rfl Try.underlying22 (lnV (x.1, s)) (infoLine2 (x.1, s)) (lnZ_sz (x.1, s)) (lnV_pos (x.1, s)) (lnV_lim (x.1, s)) rfl ?_)
        | (at_builtin; refine wpList_app rfl _ _ 22 rfl w.heap.size 51 _ 10 120 Try.underlying22 infoLine rfl (by decide) (by decide) rfl HOW.out rfl (ln_newc w3 (x.1, s)) (ln_one [(x.1, s)]) (by omega) HSZ.out ?_; intro a4 c4 w4 ho4 hg4))
      have hN := hI.out.app hB.out.size HO3.out HB3.out hg4 ho4
      refine ⟨⟨k + 1, a4, c4, _, by omega, by go_num, rfl, Lib.hid hN, Lib.hid (by rw [List.map_append, hM.out, HMP.out]; rfl), Lib.hid ?_⟩, by simp [intOf]; omega⟩
      exact (((hB.out.trans (HB3.out.mono hB.out.size)).alloc (by have := hB.out.size; have := HB3.out.size; omega) _).grown hg4 HSZ.out (fun j hj => (HOW.out.lt j hj).1))
    · obtain rfl : k = n := by omega
      go_wp2
      go_ret
      have := hM.out
      rw [List.take_of_length_le (by have := HL.out; omega)] at this
      refine ⟨a1, k, c1, ?_⟩
      first | exact ⟨S1, rfl, hI.out, this, hB.out⟩ | exact ⟨rfl, S1, hI.out, this, hB.out⟩ | exact ⟨rfl, ⟨S1, hI.out, this⟩, hB.out⟩
set_option maxRecDepth 100000 in
set_option maxHeartbeats 1600000 in
theorem SameL_yes (e : Ln) (s t : Sl) (w : World) (h : Dat w s e.data) (k : Dat w t e.data) :
    Calls Try.prog 28 #[.agg (lnV (e, s)), .agg (lnV (e, t))] w fun r w' => r = .returned (.bool true) ∧ Below w.heap.size w w' := by
  obtain ⟨path, kind, mode, uid, gid, sec, nano, data, target, peer⟩ := e
  obtain ⟨a, n, c⟩ := s
  obtain ⟨b, m, d⟩ := t
  simp only [Dat] at h k
  have hq := eql_time2 sec nano sec nano
  have hqt : (sec == sec && nano == nano) = true := by simp
  rw [hqt] at hq
  have hb2 := (((Below.refl w.heap.size w).alloc (Nat.le_refl _) (.cells (lnV (⟨path, kind, mode, uid, gid, sec, nano, data, target, peer⟩, (a, n, c))) 51)).alloc (by simp) (.cells (lnV (⟨path, kind, mode, uid, gid, sec, nano, data, target, peer⟩, (b, m, d))) 51))
  simp only [lnV] at hb2 ⊢
  have HB := Lib.hid hb2; have HH := Lib.hid h; have HK := Lib.hid k
  have HSB : Hid (∀ w, Bs w a n c data → Bs w b m d data → Calls Try.prog 45 #[.slice a n c, .slice b m d] w fun e w' => e = .returned (.bool true) ∧ Below w.heap.size w w') := Lib.hid (fun w h1 h2 => by have := SameBytes_any a b n m c d data data w h1 h2; rw [dec_t (rfl : data = data)] at this; exact this)
  clear hb2 h k hqt
  go_enter Try.func28, Try.ntmps28
  go_wp2_with (go_at_call 45; (refine (HSB.out _ (by exact Below.bs HB.out HH.out) (by exact Below.bs HB.out HK.out)).mono ?_); rintro r w1 ⟨rfl, hb1⟩)
  go_ret
  exact ⟨rfl, Below.seq HB.out hb1⟩
set_option maxRecDepth 100000 in
set_option maxHeartbeats 1600000 in
theorem SameLs_yes (a b : Option Addr) (n m c d : Nat) (S T : List LnS) (w : World) (ha : Lns w a n c S) (hb : Lns w b m d T) (he : S.map (·.1) = T.map (·.1)) :
    Calls Try.prog 14 #[.slice a n c, .slice b m d] w fun r w' => r = .returned (.bool true) ∧ Below w.heap.size w w' := by
  have hx := ha.len; have hy := hb.len; have c1 := ha.cap; have c2 := hb.cap; have m1 := ha.max; have m2 := hb.max
  obtain rfl : n = m := by rw [← hx, ← hy]; have := congrArg List.length he; simpa using this
  have hn : ((n : Int) != n) = false := by simp
  have HX := Lib.hid hx; have HY := Lib.hid hy; have HA := Lib.hid ha; have HB := Lib.hid hb; have HE := Lib.hid he
  clear hx hy ha hb he
  go_enter Try.func14, Try.ntmps14
  go_wp2
  go_loopw [5] (fun i wr => ∃ k : Nat, k ≤ n ∧ i = .int .i64 k ∧ Hid (Below w.heap.size w wr)) (fun i _ => n - (intOf i).toNat)
  case atStart => exact ⟨0, Nat.zero_le _, rfl, Lib.hid (Below.refl _ _)⟩
  case round =>
    obtain ⟨k, hk, rfl, hbel⟩ := hrel
    by_cases hlt : k < n
    · obtain ⟨x, hxk⟩ := get_some (S := S) (k := k) (by have := HX.out; omega)
      obtain ⟨y, hyk⟩ := get_some (S := T) (k := k) (by have := HY.out; omega)
      obtain ⟨b1, o1, rfl, h1⟩ := (HA.out.below hbel.out).at k x hxk
      obtain ⟨b2, o2, rfl, h2⟩ := (HB.out.below hbel.out).at k y hyk
      have hd1 := (HA.out.below hbel.out).dat x (mem_get hxk)
      have hd2 := (HB.out.below hbel.out).dat y (mem_get hyk)
      have hee : x.1 = y.1 := by
        have h1 := mapfst_get hxk
        have h2 := mapfst_get hyk
        rw [HE.out, h2] at h1
        exact (Option.some.inj h1).symm
      obtain ⟨e, s⟩ := x
      obtain ⟨e', t⟩ := y
      simp only at hee hd1 hd2
      subst hee
      have HC := Lib.hid (fun w' (hb : Below wr.heap.size wr w') => SameL_yes e s t w' (Below.bs hb hd1) (Below.bs hb hd2))
      clear hd1 hd2 hxk hyk
      have g0 := range_cell h1 0 rfl
      have f0 := range_cell h2 0 rfl
      have g1 := range_cell h1 1 rfl
      have f1 := range_cell h2 1 rfl
      have g2 := range_cell h1 2 rfl
      have f2 := range_cell h2 2 rfl
      have g3 := range_cell h1 3 rfl
      have f3 := range_cell h2 3 rfl
      have g4 := range_cell h1 4 rfl
      have f4 := range_cell h2 4 rfl
      have g5 := range_cell h1 5 rfl
      have f5 := range_cell h2 5 rfl
      have g6 := range_cell h1 6 rfl
      have f6 := range_cell h2 6 rfl
      have g7 := range_cell h1 7 rfl
      have f7 := range_cell h2 7 rfl
      have g8 := range_cell h1 8 rfl
      have f8 := range_cell h2 8 rfl
      have g9 := range_cell h1 9 rfl
      have f9 := range_cell h2 9 rfl
      simp only [Nat.add_zero] at g0 f0
      obtain ⟨path, kind, mode, uid, gid, sec, nano, data, target, peer⟩ := e
      obtain ⟨sa, sn, sc⟩ := s
      obtain ⟨ta, tn, tc⟩ := t
      simp only [lnV] at HC
      clear h1 h2
      go_wp2
      go_still_tail 8, (by kernel_rfl)
      change wpList _ _ _ _ _ wr.drew
      clear g0 f0 g1 f1 g2 f2 g3 f3 g4 f4 g5 f5 g6 f6 g7 f7 g8 f8 g9 f9
      go_wp2_with (go_at_call 28; (refine (HC.out _ ((Below.refl _ _).drew)).mono ?_); rintro r w3 ⟨rfl, hb3⟩)
      exact ⟨⟨k + 1, by omega, by go_num, Lib.hid (Below.seq hbel.out (Below.trans ((Below.refl _ _).drew) hb3))⟩, by simp [intOf]; omega⟩
    · obtain rfl : k = n := by omega
      go_wp2
      go_ret
      exact ⟨rfl, hbel.out⟩
end Gr
end Go.Proofs.Ytpdkdhcbibcifaa
namespace Go.Proofs.Ytpdkdhcbibcifaa
set_option linter.unusedVariables false
set_option linter.unusedSimpArgs false
open Go.ChangeShapes Go.WideShapes Go.ChangeAt Go.RowKit
namespace Gr
theorem sizeE2 (x : EnS) : (Try.prog.info? 39).map (·.size) = some (enV x).toList.length := by show _ = some 11; kernel_rfl
theorem enZ_sz (x : EnS) : enZ.size = (enV x).size := rfl
theorem enV_pos (x : EnS) : 0 < (enV x).size := by show 0 < 11; decide
theorem enV_lim (x : EnS) : (enV x).size ≤ 16777216 := by show 11 ≤ _; decide
theorem NewEn.app {w w3 w4 : World} {B : Nat} {a a4 : Option Addr} {n c c4 : Nat} {S : List EnS} {x : EnS} (h : NewEn w B a n c S) (hB : B ≤ w.heap.size) (ho : Own w3 w.heap.size x.2 x.1.data) (k : Below w.heap.size w w3)
    (hg : (w3.alloc (.cells (enV x) 39)).grownBy w4 (Value.slice a n c).ownBlock) (ho4 : w4.ownsRow B 39 11 (.slice a4 (n + 1) c4) (n + 1) (S.flatMap enCells ++ [x].flatMap enCells)) : NewEn w4 B a4 (n + 1) c4 (S ++ [x]) := by
  have h3 := h.below k
  have hA : Below w3.heap.size w3 (w3.alloc (.cells (enV x) 39)) := (Below.refl _ _).alloc (Nat.le_refl _) _
  have hA3 := h3.below hA
  have hd : ∀ {B' : Nat} {s : Sl} {l : Bt}, Own w3 B' s l → Own w4 B' s l := fun hs => own_other (own_keep hs (fun j _ hj => hA.block j hj)) hA3.own (by decide) hg
  refine ⟨by rw [List.flatMap_append]; exact ho4, fun y hy => ?_, ?_⟩
  · rcases List.mem_append.1 hy with hy | hy
    · exact hd (h3.dat y hy)
    · rw [List.mem_singleton] at hy
      subst hy
      exact hd (own_base ho hB)
  · rw [List.pairwise_append]
    refine ⟨h.rise, List.pairwise_singleton _ _, fun y hy z hz b b' hb hb' => ?_⟩
    rw [List.mem_singleton] at hz
    subst hz
    have e1 := ((h.dat y hy).lt b hb).2
    have e2 := (ho.lt b' hb').1
    omega
set_option maxRecDepth 100000 in
set_option maxHeartbeats 1600000 in
theorem CopyE_any (x : EnS) (w : World) (h : Dat w x.2 x.1.data) (hn : x.2.2.1 ≤ 140737488355328) :
    Calls Try.prog 41 #[.agg (enV x)] w fun r w' => ∃ s : Sl, r = .returned (.agg (enV (x.1, s))) ∧ Own w' w.heap.size s x.1.data ∧ Below w.heap.size w w' := by
  have HD := Lib.hid h; have HN := Lib.hid hn
  clear h hn
  obtain ⟨⟨k0, name, link, mode, uid, gid, user, group, sec, nano, data⟩, ⟨a, n, c⟩⟩ := x
  simp only at HN HD
  simp only [enV]
  go_enter Try.func41, Try.ntmps41
  go_upto_region 1 with fail
  have HB2 : Hid (Below w.heap.size w ((w.alloc (.cells #[.int .i64 k0, .string ⟨name.toArray⟩, .string ⟨link.toArray⟩, .int .i64 mode, .int .i64 uid, .int .i64 gid, .string ⟨user.toArray⟩, .string ⟨group.toArray⟩, .int .i64 sec, .int .i64 nano, .slice a n c] 39)).alloc (.cells #[.int .i64 0, .string ⟨#[]⟩, .string ⟨#[]⟩, .int .i64 0, .int .i64 0, .int .i64 0, .string ⟨#[]⟩, .string ⟨#[]⟩, .int .i64 0, .int .i64 0, .slice none 0 0] 39))) := Lib.hid (((Below.refl _ _).alloc (Nat.le_refl _) _).alloc (by simp) _)
  have h0 := heap_alloc_new w (.cells #[.int .i64 k0, .string ⟨name.toArray⟩, .string ⟨link.toArray⟩, .int .i64 mode, .int .i64 uid, .int .i64 gid, .string ⟨user.toArray⟩, .string ⟨group.toArray⟩, .int .i64 sec, .int .i64 nano, .slice a n c] 39)
  have h1 := heap_alloc_new (w.alloc (.cells #[.int .i64 k0, .string ⟨name.toArray⟩, .string ⟨link.toArray⟩, .int .i64 mode, .int .i64 uid, .int .i64 gid, .string ⟨user.toArray⟩, .string ⟨group.toArray⟩, .int .i64 sec, .int .i64 nano, .slice a n c] 39)) (.cells #[.int .i64 0, .string ⟨#[]⟩, .string ⟨#[]⟩, .int .i64 0, .int .i64 0, .int .i64 0, .string ⟨#[]⟩, .string ⟨#[]⟩, .int .i64 0, .int .i64 0, .slice none 0 0] 39)
  have e1 : (w.alloc (.cells #[.int .i64 k0, .string ⟨name.toArray⟩, .string ⟨link.toArray⟩, .int .i64 mode, .int .i64 uid, .int .i64 gid, .string ⟨user.toArray⟩, .string ⟨group.toArray⟩, .int .i64 sec, .int .i64 nano, .slice a n c] 39)).heap.size = w.heap.size + 1 := by simp
  rw [e1] at h1
  have R0 : Hid (((w.alloc (.cells #[.int .i64 k0, .string ⟨name.toArray⟩, .string ⟨link.toArray⟩, .int .i64 mode, .int .i64 uid, .int .i64 gid, .string ⟨user.toArray⟩, .string ⟨group.toArray⟩, .int .i64 sec, .int .i64 nano, .slice a n c] 39)).alloc (.cells #[.int .i64 0, .string ⟨#[]⟩, .string ⟨#[]⟩, .int .i64 0, .int .i64 0, .int .i64 0, .string ⟨#[]⟩, .string ⟨#[]⟩, .int .i64 0, .int .i64 0, .slice none 0 0] 39)).heap[w.heap.size]? = some (.cells #[.int .i64 k0, .string ⟨name.toArray⟩, .string ⟨link.toArray⟩, .int .i64 mode, .int .i64 uid, .int .i64 gid, .string ⟨user.toArray⟩, .string ⟨group.toArray⟩, .int .i64 sec, .int .i64 nano, .slice a n c] 39)) := Lib.hid (by rw [heap_alloc_old _ _ (by simp)]; exact h0)
  have R1 : Hid (((w.alloc (.cells #[.int .i64 k0, .string ⟨name.toArray⟩, .string ⟨link.toArray⟩, .int .i64 mode, .int .i64 uid, .int .i64 gid, .string ⟨user.toArray⟩, .string ⟨group.toArray⟩, .int .i64 sec, .int .i64 nano, .slice a n c] 39)).alloc (.cells #[.int .i64 0, .string ⟨#[]⟩, .string ⟨#[]⟩, .int .i64 0, .int .i64 0, .int .i64 0, .string ⟨#[]⟩, .string ⟨#[]⟩, .int .i64 0, .int .i64 0, .slice none 0 0] 39)).heap[w.heap.size + 1]? = some (.cells enZ 39)) := Lib.hid h1
  clear h0 h1 e1
  generalize (w.alloc (.cells #[.int .i64 k0, .string ⟨name.toArray⟩, .string ⟨link.toArray⟩, .int .i64 mode, .int .i64 uid, .int .i64 gid, .string ⟨user.toArray⟩, .string ⟨group.toArray⟩, .int .i64 sec, .int .i64 nano, .slice a n c] 39)).alloc (.cells #[.int .i64 0, .string ⟨#[]⟩, .string ⟨#[]⟩, .int .i64 0, .int .i64 0, .int .i64 0, .string ⟨#[]⟩, .string ⟨#[]⟩, .int .i64 0, .int .i64 0, .slice none 0 0] 39) = w2 at *
  have c0 : w2.cell? ⟨w.heap.size, 10, none⟩ = some (.slice a n c) := by rw [row_cell R0.out]; rfl
  have HDA : Hid (Dat w2 (a, n, c) data) := Lib.hid (Below.bs HB2.out HD.out)
  go_upto_region 2 with (go_at_call 42; (refine (CopyBytes_any a n c data w2 HDA.out HN.out).mono ?_); rintro r w5 ⟨a5, n5, c5, rfl, ho5, hb5⟩; have HO5 : Hid (Own w5 w2.heap.size (a5, n5, c5) data) := Lib.hid ho5; have HB5 := Lib.hid hb5; have R25 := Lib.hid (row_below R0.out HB5.out); have R15 := Lib.hid (row_below R1.out HB5.out); have d1 : w5.cell? ⟨w.heap.size, 10, none⟩ = some (.slice a n c) := (by rw [row_cell R25.out]; rfl); have d1f : w5.frozen? ⟨w.heap.size, 10, none⟩ = false := row_froz R25.out 10; clear ho5 hb5)
  have hF := setCell_row R25.out (j := 10) (.slice a5 n5 c5)
  have HF : Hid ((w5.setCell ⟨w.heap.size, 10, none⟩ (.slice a5 n5 c5)).heap[w.heap.size]? = some (.cells (enV (⟨k0, name, link, mode, uid, gid, user, group, sec, nano, data⟩, (a5, n5, c5))) 39)) := Lib.hid (by simpa [enV] using hF)
  have HG : Hid ((w5.setCell ⟨w.heap.size, 10, none⟩ (.slice a5 n5 c5)).heap[w.heap.size + 1]? = some (.cells enZ 39)) := Lib.hid (row_grown R15.out (setCell_grown w5 w.heap.size 10 _) (by simp))
  have HOF : Hid (Own (w5.setCell ⟨w.heap.size, 10, none⟩ (.slice a5 n5 c5)) w.heap.size (a5, n5, c5) data) := Lib.hid (own_base (own_cell HO5.out R25.out (by decide)) HB2.out.size)
  have HBF : Hid (Below w.heap.size w (w5.setCell ⟨w.heap.size, 10, none⟩ (.slice a5 n5 c5))) := Lib.hid ((HB2.out.trans (HB5.out.mono HB2.out.size)).setCell (p := ⟨w.heap.size, 10, none⟩) (Nat.le_refl _) _)
  clear hF d1 d1f c0
  go_wp2_with (first
    | (refine wpList_load_rowA rfl _ _ rfl w.heap.size rfl (enV (⟨k0, name, link, mode, uid, gid, user, group, sec, nano, data⟩, (a5, n5, c5))) 39 _ HF.out Try.underlying39 rfl (sizeEn _) ?_)
    | (refine wpList_store_row rfl _ _ _ rfl (w.heap.size + 1) rfl (enV (⟨k0, name, link, mode, uid, gid, user, group, sec, nano, data⟩, (a5, n5, c5))) rfl enZ 39 HG.out rfl (sizeEn _) (by simpa [enCells, enV] using en_one [(⟨k0, name, link, mode, uid, gid, user, group, sec, nano, data⟩, (a5, n5, c5))]) ?_))
  refine bodyPost_ret (results_cell_row rfl _ _ (w.heap.size + 1) 39 _ (0, 0) _ rfl (setRow_heap _ _ _ _ _ _ HG.out) Try.underlying39 rfl (sizeEn _)) rfl ?_
  exact ⟨(a5, n5, c5), rfl, setRow_own HOF.out HG.out (by decide), Below.setRow HBF.out (by omega) _⟩
set_option maxRecDepth 100000 in
set_option maxHeartbeats 1600000 in
theorem CopyEs_any (a : Option Addr) (n c : Nat) (S : List EnS) (w : World) (h : Ens w a n c S) (hn : n ≤ 1000000000000) (hd : ∀ x ∈ S, x.2.2.1 ≤ 140737488355328) :
    Calls Try.prog 20 #[.slice a n c] w fun r w' => ∃ (a' : Option Addr) (n' c' : Nat) (S' : List EnS), r = .returned (.slice a' n' c') ∧ NewEn w' w.heap.size a' n' c' S' ∧ S'.map (·.1) = S.map (·.1) ∧ Below w.heap.size w w' := by
  have hl := h.len; have hcap := h.cap; have hmax := h.max
  have HL := Lib.hid hl; have HH := Lib.hid h; have HD := Lib.hid hd
  clear hl h hd
  go_enter Try.func20, Try.ntmps20
  go_wp2
  go_loopw [3, 4] (fun v i wr => ∃ (k : Nat) (a1 : Option Addr) (c1 : Nat) (S1 : List EnS), k ≤ n ∧ i = .int .i64 k ∧ v = .slice a1 k c1 ∧ Hid (NewEn wr w.heap.size a1 k c1 S1) ∧ Hid (S1.map (·.1) = (S.take k).map (·.1)) ∧ Hid (Below w.heap.size w wr)) (fun _ i _ => n - (intOf i).toNat)
  case atStart => exact ⟨0, some ⟨w.heap.size, 0, none⟩, 0, [], Nat.zero_le _, rfl, rfl, Lib.hid ⟨World.ownsRow_lit (base := w.heap.size) (e := 39) (size := 11) w #[] 0 (Nat.le_refl _) (by decide) rfl, by simp, List.Pairwise.nil⟩, Lib.hid (by simp), Lib.hid ((Below.refl _ _).alloc (Nat.le_refl _) _)⟩
  case round =>
    obtain ⟨k, a1, c1, S1, hk, rfl, rfl, hI, hM, hB⟩ := hrel
    by_cases hlt : k < n
    · obtain ⟨x, hxk⟩ := get_some (S := S) (k := k) (by have := HL.out; omega)
      obtain ⟨b, off, rfl, hr⟩ := (HH.out.below hB.out).at k x hxk
      have hdk := (HH.out.below hB.out).dat x (mem_get hxk)
      have hx2 := HD.out x (mem_get hxk)
      have HMP : Hid ((S.take (k + 1)).map (·.1) = (S.take k).map (·.1) ++ [x.1]) := Lib.hid (by
        obtain ⟨h1, h2⟩ := List.getElem?_eq_some_iff.1 hxk
        rw [List.take_succ_eq_append_getElem h1, List.map_append, h2]; rfl)
      have HR := Lib.hid hr; have HDK := Lib.hid hdk; have HX2 := Lib.hid hx2
      clear hr hdk hx2 hxk
      go_wp2_with (first
        | (refine wpList_load_midA rfl _ _ rfl b (off + k * 11) rfl (enV x) _ (by exact HR.out) Try.underlying39 rfl (by exact sizeE2 x) ?_)
        | (go_at_call 41; (refine (CopyE_any x wr HDK.out HX2.out).mono ?_); rintro r w3 ⟨s, rfl, ho3, hb3⟩; have HO3 := Lib.hid ho3; have HB3 := Lib.hid hb3; clear ho3 hb3; have HOW := Lib.hid (own_keep (w' := w3.alloc (.cells (enV (x.1, s)) 39)) hI.out.own fun j _ hj => by rw [heap_alloc_old _ _ (Nat.lt_of_lt_of_le hj HB3.out.size)]; exact HB3.out.block j hj); have HSZ : Hid (w.heap.size ≤ (w3.alloc (.cells (enV (x.1, s)) 39)).heap.size) := Lib.hid (by have := hB.out.size; have := HB3.out.size; simp; omega))
        | (with_reducible refine wpList_slice_one rfl 25 _ rfl Try.underlying25 (enV (x.1, s)) (infoEn2 (x.1, s)) (enZ_sz (x.1, s)) (enV_pos (x.1, s)) (enV_lim (x.1, s)) rfl ?_)
        | (at_builtin; refine wpList_app rfl _ _ 25 rfl w.heap.size 39 _ 11 136 Try.underlying25 infoEntry rfl (by decide) (by decide) rfl HOW.out rfl (en_new w3 (x.1, s)) (en_one [(x.1, s)]) (by omega) HSZ.out ?_; intro a4 c4 w4 ho4 hg4))
      have hN := hI.out.app hB.out.size HO3.out HB3.out hg4 ho4
      refine ⟨⟨k + 1, a4, c4, _, by omega, by go_num, rfl, Lib.hid hN, Lib.hid (by rw [List.map_append, hM.out, HMP.out]; rfl), Lib.hid ?_⟩, by simp [intOf]; omega⟩
      exact (((hB.out.trans (HB3.out.mono hB.out.size)).alloc (by have := hB.out.size; have := HB3.out.size; omega) _).grown hg4 HSZ.out (fun j hj => (HOW.out.lt j hj).1))
    · obtain rfl : k = n := by omega
      go_wp2
      go_ret
      have := hM.out
      rw [List.take_of_length_le (by have := HL.out; omega)] at this
      refine ⟨a1, k, c1, ?_⟩
      first | exact ⟨S1, rfl, hI.out, this, hB.out⟩ | exact ⟨rfl, S1, hI.out, this, hB.out⟩ | exact ⟨rfl, ⟨S1, hI.out, this⟩, hB.out⟩
set_option maxRecDepth 100000 in
set_option maxHeartbeats 1600000 in
theorem SameE_yes (e : En) (s t : Sl) (w : World) (h : Dat w s e.data) (k : Dat w t e.data) :
    Calls Try.prog 27 #[.agg (enV (e, s)), .agg (enV (e, t))] w fun r w' => r = .returned (.bool true) ∧ Below w.heap.size w w' := by
  obtain ⟨k0, name, link, mode, uid, gid, user, group, sec, nano, data⟩ := e
  obtain ⟨a, n, c⟩ := s
  obtain ⟨b, m, d⟩ := t
  simp only [Dat] at h k
  have hq := eql_time2 sec nano sec nano
  have hqt : (sec == sec && nano == nano) = true := by simp
  rw [hqt] at hq
  have hb2 := (((Below.refl w.heap.size w).alloc (Nat.le_refl _) (.cells (enV (⟨k0, name, link, mode, uid, gid, user, group, sec, nano, data⟩, (a, n, c))) 39)).alloc (by simp) (.cells (enV (⟨k0, name, link, mode, uid, gid, user, group, sec, nano, data⟩, (b, m, d))) 39))
  simp only [enV] at hb2 ⊢
  have HB := Lib.hid hb2; have HH := Lib.hid h; have HK := Lib.hid k
  have HSB : Hid (∀ w, Bs w a n c data → Bs w b m d data → Calls Try.prog 45 #[.slice a n c, .slice b m d] w fun e w' => e = .returned (.bool true) ∧ Below w.heap.size w w') := Lib.hid (fun w h1 h2 => by have := SameBytes_any a b n m c d data data w h1 h2; rw [dec_t (rfl : data = data)] at this; exact this)
  clear hb2 h k hqt
  go_enter Try.func27, Try.ntmps27
  go_wp2_with (go_at_call 45; (refine (HSB.out _ (by exact Below.bs HB.out HH.out) (by exact Below.bs HB.out HK.out)).mono ?_); rintro r w1 ⟨rfl, hb1⟩)
  go_ret
  exact ⟨rfl, Below.seq HB.out hb1⟩
set_option maxRecDepth 100000 in
set_option maxHeartbeats 1600000 in
theorem SameEs_yes (a b : Option Addr) (n m c d : Nat) (S T : List EnS) (w : World) (ha : Ens w a n c S) (hb : Ens w b m d T) (he : S.map (·.1) = T.map (·.1)) :
    Calls Try.prog 13 #[.slice a n c, .slice b m d] w fun r w' => r = .returned (.bool true) ∧ Below w.heap.size w w' := by
  have hx := ha.len; have hy := hb.len; have c1 := ha.cap; have c2 := hb.cap; have m1 := ha.max; have m2 := hb.max
  obtain rfl : n = m := by rw [← hx, ← hy]; have := congrArg List.length he; simpa using this
  have hn : ((n : Int) != n) = false := by simp
  have HX := Lib.hid hx; have HY := Lib.hid hy; have HA := Lib.hid ha; have HB := Lib.hid hb; have HE := Lib.hid he
  clear hx hy ha hb he
  go_enter Try.func13, Try.ntmps13
  go_wp2
  go_loopw [5] (fun i wr => ∃ k : Nat, k ≤ n ∧ i = .int .i64 k ∧ Hid (Below w.heap.size w wr)) (fun i _ => n - (intOf i).toNat)
  case atStart => exact ⟨0, Nat.zero_le _, rfl, Lib.hid (Below.refl _ _)⟩
  case round =>
    obtain ⟨k, hk, rfl, hbel⟩ := hrel
    by_cases hlt : k < n
    · obtain ⟨x, hxk⟩ := get_some (S := S) (k := k) (by have := HX.out; omega)
      obtain ⟨y, hyk⟩ := get_some (S := T) (k := k) (by have := HY.out; omega)
      obtain ⟨b1, o1, rfl, h1⟩ := (HA.out.below hbel.out).at k x hxk
      obtain ⟨b2, o2, rfl, h2⟩ := (HB.out.below hbel.out).at k y hyk
      have hd1 := (HA.out.below hbel.out).dat x (mem_get hxk)
      have hd2 := (HB.out.below hbel.out).dat y (mem_get hyk)
      have hee : x.1 = y.1 := by
        have h1 := mapfst_get hxk
        have h2 := mapfst_get hyk
        rw [HE.out, h2] at h1
        exact (Option.some.inj h1).symm
      obtain ⟨e, s⟩ := x
      obtain ⟨e', t⟩ := y
      simp only at hee hd1 hd2
      subst hee
      have HC := Lib.hid (fun w' (hb : Below wr.heap.size wr w') => SameE_yes e s t w' (Below.bs hb hd1) (Below.bs hb hd2))
      clear hd1 hd2 hxk hyk
      have g0 := range_cell h1 0 rfl
      have f0 := range_cell h2 0 rfl
      have g1 := range_cell h1 1 rfl
      have f1 := range_cell h2 1 rfl
      have g2 := range_cell h1 2 rfl
      have f2 := range_cell h2 2 rfl
      have g3 := range_cell h1 3 rfl
      have f3 := range_cell h2 3 rfl
      have g4 := range_cell h1 4 rfl
      have f4 := range_cell h2 4 rfl
      have g5 := range_cell h1 5 rfl
      have f5 := range_cell h2 5 rfl
      have g6 := range_cell h1 6 rfl
      have f6 := range_cell h2 6 rfl
      have g7 := range_cell h1 7 rfl
      have f7 := range_cell h2 7 rfl
      have g8 := range_cell h1 8 rfl
      have f8 := range_cell h2 8 rfl
      have g9 := range_cell h1 9 rfl
      have f9 := range_cell h2 9 rfl
      have g10 := range_cell h1 10 rfl
      have f10 := range_cell h2 10 rfl
      simp only [Nat.add_zero] at g0 f0
      obtain ⟨k0, name, link, mode, uid, gid, user, group, sec, nano, data⟩ := e
      obtain ⟨sa, sn, sc⟩ := s
      obtain ⟨ta, tn, tc⟩ := t
      simp only [enV] at HC
      clear h1 h2
      go_wp2
      go_still_tail 8, (by kernel_rfl)
      change wpList _ _ _ _ _ wr.drew
      clear g0 f0 g1 f1 g2 f2 g3 f3 g4 f4 g5 f5 g6 f6 g7 f7 g8 f8 g9 f9 g10 f10
      go_wp2_with (go_at_call 27; (refine (HC.out _ ((Below.refl _ _).drew)).mono ?_); rintro r w3 ⟨rfl, hb3⟩)
      exact ⟨⟨k + 1, by omega, by go_num, Lib.hid (Below.seq hbel.out (Below.trans ((Below.refl _ _).drew) hb3))⟩, by simp [intOf]; omega⟩
    · obtain rfl : k = n := by omega
      go_wp2
      go_ret
      exact ⟨rfl, hbel.out⟩
end Gr
end Go.Proofs.Ytpdkdhcbibcifaa
