/-
  J11: RgBegin, RgTr, joined.
-/
import Derived.Test.YtpdkdhcbibcifaaRgCheck
import Derived.Test.YtpdkdhcbibcifaaJ03
import Derived.Test.YtpdkdhcbibcifaaJ10
import Derived.Test.YtpdkdhcbibcifaaJ08
import Derived.WalkSmall
namespace Go.Proofs.Ytpdkdhcbibcifaa
set_option linter.unusedVariables false
set_option linter.unusedSimpArgs false
open Go.ChangeShapes Go.WideShapes Go.ChangeAt Go.RowKit
namespace Gr
def RBegRes (S : List NdS) (w : World) (root : Int) (r : Ending) (w' : World) : Prop :=
  ∃ (k code : Int), r = .returned (.tuple #[.int .i64 k, .int .i64 code]) ∧ Below w.heap.size w w' ∧ (code = 0 ↔ Begin (gOf S) root) ∧ (code = 0 → ∃ (kk : Nat) (x : NdS), k = (kk : Int) ∧ S[kk]? = some x ∧ x.1.id = root)
theorem RBegRes.no {S : List NdS} {w w' : World} {root : Int} {code : Int} (hc : code ≠ 0) (h : ¬ Begin (gOf S) root) (hb : Below w.heap.size w w') : RBegRes S w root (.returned (.tuple #[.int .i64 0, .int .i64 code])) w' :=
  ⟨0, code, rfl, hb, ⟨fun e => absurd e hc, fun e => absurd e h⟩, fun e => absurd e hc⟩
set_option maxRecDepth 100000 in
set_option maxHeartbeats 4000000 in
theorem RBegin_any (a : Option Addr) (n c : Nat) (S : List NdS) (root : Int) (w : World) (hS : Nds w a n c S) (hN : NdSm S) :
    Calls Try.prog 54 #[.agg #[.slice a n c], .int .i64 root] w (RBegRes S w root) := by
  have hb1 : Below w.heap.size w (w.alloc (.cells #[.slice a n c] 43)) := (Below.refl _ _).alloc (Nat.le_refl _) _
  have HB1 := Lib.hid hb1
  have HS := Lib.hid (hS.below hb1); have HN := Lib.hid hN
  have HCK := Lib.hid (Check_any a n c S (w.alloc (.cells #[.slice a n c] 43)) (hS.below hb1) hN)
  have HBX : Hid (∀ w', Below (w.alloc (.cells #[.slice a n c] 43)).heap.size (w.alloc (.cells #[.slice a n c] 43)) w' → w'.cell? ⟨w.heap.size, 0, none⟩ = some (.slice a n c)) := Lib.hid (fun w' hb => box_cell hb 0 rfl)
  clear hb1 hS hN
  by_cases hchk : Chk (gOf S)
  · have HINC : Hid (Inc (S.map (·.1))) := Lib.hid hchk.2.1.inc
    have HAT := Lib.hid (fun w' (hb : Below (w.alloc (.cells #[.slice a n c] 43)).heap.size (w.alloc (.cells #[.slice a n c] 43)) w') => At_any a n c S root w' (HS.out.below hb) HINC.out)
    cases hnode : nodeOf (gOf S) root with
    | none =>
      have HNB : Hid (¬ Begin (gOf S) root) := Lib.hid (fun h => by obtain ⟨_, t, ht, _⟩ := h; rw [hnode] at ht; cases ht)
      rw [show S.map (·.1) = gOf S from rfl, atOf_neg hnode] at HAT
      have HCH := Lib.hid hchk
      clear hnode hchk
      go_enter Try.func54, Try.ntmps54
      go_wp2_with (first
        | (go_at_call 61; (refine (HCK.out).mono ?_); rintro r w2 ⟨code, rfl, hb2, hck⟩; obtain rfl := hck.2 HCH.out; have HB2 := Lib.hid hb2; clear hck hb2; have hbx2 := HBX.out _ HB2.out)
        | (go_at_call 55; (refine (HAT.out _ HB2.out).mono ?_); rintro r w3 ⟨rfl, hb3⟩; have HB3 := Lib.hid hb3; clear hb3))
      go_ret2
      exact RBegRes.no (by decide) HNB.out (Below.seq (Below.seq HB1.out HB2.out) HB3.out)
    | some t =>
      obtain ⟨kk, h1, h2, h3⟩ := atOf_get HINC.out hnode
      rw [show S.map (·.1) = gOf S from rfl, h2] at HAT
      obtain ⟨x, hx, hxt⟩ : ∃ x, S[kk]? = some x ∧ x.1 = t := by
        have : (S.map (·.1))[kk]? = some t := h1
        rw [List.getElem?_map] at this
        cases hs : S[kk]? with
        | none => rw [hs] at this; cases this
        | some x => rw [hs] at this; exact ⟨x, rfl, Option.some.inj this⟩
      have hkn : kk < n := by have := (List.getElem?_eq_some_iff.1 hx).1; have := HS.out.len; omega
      have hk0 : (0 : Int) ≤ (kk : Int) := by omega
      have hnm : n ≤ 9223372036854775807 := Nat.le_trans HS.out.cap HS.out.max
      obtain ⟨b, off, rfl, hrow⟩ := HS.out.at kk x hx
      have HROW := Lib.hid hrow
      have HKD : Hid (∀ w', Keeps (w.alloc (.cells #[.slice (some ⟨b, off, none⟩) n c] 43)) w' → w'.cell? ⟨b, off + kk * 10 + 1, none⟩ = some (.int .i64 x.1.kind)) := Lib.hid (fun w' hk => range_cell (range_keep HROW.out hk) 1 rfl)
      have hid : x.1.id = root := by rw [hxt]; exact h3
      have HX := Lib.hid hx; have HID := Lib.hid hid; have HCH := Lib.hid hchk; have HXT := Lib.hid hxt; have HNO := Lib.hid hnode
      clear h1 h2 h3 hx hxt hnode hchk hrow hid
      by_cases hk : x.1.kind = 2
      · have HBE : Hid (Begin (gOf S) root) := Lib.hid ⟨HCH.out, t, HNO.out, by rw [← HXT.out]; exact hk⟩
        have HK := Lib.hid hk
        rw [hk] at HKD
        clear hk
        go_enter Try.func54, Try.ntmps54
        go_wp2_with (first
          | (go_at_call 61; (refine (HCK.out).mono ?_); rintro r w2 ⟨code, rfl, hb2, hck⟩; obtain rfl := hck.2 HCH.out; have HB2 := Lib.hid hb2; clear hck hb2; have hbx2 := HBX.out _ HB2.out)
          | (go_at_call 55; (refine (HAT.out _ HB2.out).mono ?_); rintro r w3 ⟨rfl, hb3⟩; have HB3 := Lib.hid hb3; clear hb3 hbx2; have hbx3 := HBX.out _ (Below.seq HB2.out HB3.out); have hkd := HKD.out _ (Below.keeps (Below.seq HB2.out HB3.out))))
        go_ret2
        exact ⟨(kk : Int), 0, rfl, Below.seq (Below.seq HB1.out HB2.out) HB3.out, ⟨fun _ => HBE.out, fun _ => rfl⟩, fun _ => ⟨kk, x, rfl, HX.out, HID.out⟩⟩
      · have HNB : Hid (¬ Begin (gOf S) root) := Lib.hid (fun h => by obtain ⟨_, t', ht, hk'⟩ := h; rw [HNO.out] at ht; cases ht; rw [← HXT.out] at hk'; exact hk hk')
        go_enter Try.func54, Try.ntmps54
        go_wp2_with (first
          | (go_at_call 61; (refine (HCK.out).mono ?_); rintro r w2 ⟨code, rfl, hb2, hck⟩; obtain rfl := hck.2 HCH.out; have HB2 := Lib.hid hb2; clear hck hb2; have hbx2 := HBX.out _ HB2.out)
          | (go_at_call 55; (refine (HAT.out _ HB2.out).mono ?_); rintro r w3 ⟨rfl, hb3⟩; have HB3 := Lib.hid hb3; clear hb3 hbx2; have hbx3 := HBX.out _ (Below.seq HB2.out HB3.out); have hkd := HKD.out _ (Below.keeps (Below.seq HB2.out HB3.out))))
        go_ret2
        exact RBegRes.no (by decide) HNB.out (Below.seq (Below.seq HB1.out HB2.out) HB3.out)
  · have HNB : Hid (¬ Begin (gOf S) root) := Lib.hid (fun h => hchk h.1)
    have HNC := Lib.hid hchk
    clear hchk
    go_enter Try.func54, Try.ntmps54
    go_wp2_with (go_at_call 61; (refine (HCK.out).mono ?_); rintro r w2 ⟨code, rfl, hb2, hck⟩; have hne : (code != 0) = true := bne_t (fun e => HNC.out (hck.1 e)))
    go_ret2
    exact RBegRes.no (by decide) HNB.out (Below.seq HB1.out hb2)
end Gr
end Go.Proofs.Ytpdkdhcbibcifaa
namespace Go.Proofs.Ytpdkdhcbibcifaa
set_option linter.unusedVariables false
set_option linter.unusedSimpArgs false
open Go.ChangeShapes Go.WideShapes Go.ChangeAt Go.RowKit
namespace Gr
/-- a place that waits -/
abbrev St := Nat × Bt
def stV (x : St) : Array Value := #[.int .i64 (x.1 : Int), .string ⟨x.2.toArray⟩]
def stCells (x : St) : List Value := [.int .i64 (x.1 : Int), .string ⟨x.2.toArray⟩]
theorem stCells_len (x : St) : (stCells x).length = 2 := rfl
def stZ : Array Value := #[.int .i64 0, .string ⟨#[]⟩]
theorem infoSt : (Try.prog.info? 102).map (fun i => (i.zero, i.size, i.bytes)) = some (some (.agg stZ), 2, 24) := by kernel_rfl
theorem infoSt2 (x : St) : (Try.prog.info? 102).map (fun i => (i.zero, i.size)) = some (some (Value.agg stZ), (stV x).size) := by show _ = some (some (Value.agg stZ), 2); kernel_rfl
theorem sizeSt (x : St) : (Try.prog.info? 102).map (·.size) = some (stV x).toList.length := by show _ = some 2; kernel_rfl
theorem stZ_sz (x : St) : stZ.size = (stV x).size := rfl
theorem stV_pos (x : St) : 0 < (stV x).size := by show 0 < 2; decide
theorem stV_lim (x : St) : (stV x).size ≤ 16777216 := by show 2 ≤ _; decide
theorem st_one (S : List St) : ∀ u ∈ S.flatMap stCells, u.oneCell' = true := by
  intro u hu
  obtain ⟨x, _, hu⟩ := List.mem_flatMap.1 hu
  simp only [stCells, List.mem_cons, List.not_mem_nil, or_false] at hu
  rcases hu with rfl | rfl <;> rfl
theorem st_new (w : World) (x : St) : IsSl (w.alloc (.cells (stV x) 102)) 2 (some ⟨w.heap.size, 0, none⟩) 1 1 ([x].flatMap stCells) := by
  have := isSl_new w 102 2 1 (stV x) rfl (by decide)
  simpa [stV, stCells] using this
/-- what waits, by ids -/
def wkOf (g : List Nd) (l : List St) : List (Int × Bt) := l.reverse.map fun x => ((g[x.1]?.map (·.id)).getD 0, x.2)
theorem wkOf_nil (g : List Nd) : wkOf g [] = [] := rfl
theorem wkOf_snoc {g : List Nd} {l : List St} {k : Nat} {p : Bt} {n : Nd} (h : g[k]? = some n) : wkOf g (l ++ [(k, p)]) = (n.id, p) :: wkOf g l := by
  simp [wkOf, h]
/-- the kids that are laid, from behind: all from number j on -/
def pushed (g : List Nd) (l : List St) (path : Bt) (top : Bool) (es : List (Bt × Int)) (j : Nat) : List St := l ++ (es.drop j).reverse.map fun e => ((atOf g e.2).toNat, below path top e.1)
theorem pushed_all {g : List Nd} {l : List St} {path : Bt} {top : Bool} {es : List (Bt × Int)} : pushed g l path top es es.length = l := by
  unfold pushed; rw [List.drop_length]; simp
theorem pushed_step {g : List Nd} {l : List St} {path : Bt} {top : Bool} {es : List (Bt × Int)} {j : Nat} {e : Bt × Int} (h : es[j]? = some e) : pushed g l path top es (j + 1) ++ [((atOf g e.2).toNat, below path top e.1)] = pushed g l path top es j := by
  obtain ⟨hj, rfl⟩ := List.getElem?_eq_some_iff.1 h
  unfold pushed
  rw [List.drop_eq_getElem_cons hj]
  simp only [List.reverse_cons, List.map_append, List.map_cons, List.map_nil, List.append_assoc]
theorem wkOf_append (g : List Nd) (l m : List St) : wkOf g (l ++ m) = wkOf g m ++ wkOf g l := by simp [wkOf]
theorem pushed_none {g : List Nd} (hI : Inc g) {l : List St} {path : Bt} {top : Bool} {n : Nd} (hn : ∀ e ∈ n.ents, (nodeOf g e.2).isSome = true) : wkOf g (pushed g l path top n.ents 0) = kids n path top ++ wkOf g l := by
  unfold pushed
  rw [wkOf_append]
  congr 1
  simp only [wkOf, List.drop_zero, List.map_reverse, List.reverse_reverse, List.map_map, kids]
  refine List.map_congr_left fun e he => ?_
  obtain ⟨t, ht⟩ := Option.isSome_iff_exists.1 (hn e he)
  obtain ⟨k, h1, h2, h3⟩ := atOf_get hI ht
  simp only [Function.comp, h2, Int.toNat_natCast, h1, Option.map_some, Option.getD_some, h3]
/-- the walk's state in memory -/
structure TrS (w1 wr : World) (B fb : Nat) (sa : Option Addr) (sn sc : Nat) (STK : List St) (oa : Option Addr) (on oc : Nat) (SL : List LnS) (F : List Value) : Prop where
  bel : Below B w1 wr
  stk : wr.ownsRow B 102 2 (.slice sa sn sc) sn (STK.flatMap stCells)
  out : NewLn wr B oa on oc SL
  fst : RowE wr fb 9 F
  fb : B ≤ fb
  le : B ≤ w1.heap.size
section
variable {w1 wr w' wA wB : World} {B fb : Nat} {sa oa a' : Option Addr} {sn sc on oc c' : Nat} {STK : List St} {SL : List LnS} {F : List Value}
theorem TrS.lt (h : TrS w1 wr B fb sa sn sc STK oa on oc SL F) : B ≤ wr.heap.size := Nat.le_trans h.le h.bel.size
theorem TrS.below (h : TrS w1 wr B fb sa sn sc STK oa on oc SL F) (k : Below wr.heap.size wr w') : TrS w1 w' B fb sa sn sc STK oa on oc SL F :=
  ⟨h.bel.trans (k.mono h.lt), own_keep h.stk (fun j _ hj => k.block j hj), h.out.below k, h.fst.below k, h.fb, h.le⟩
theorem TrS.sl (h : TrS w1 wr B fb sa sn sc STK oa on oc SL F) : IsSl wr 2 sa sn sc (STK.flatMap stCells) := own_isSl h.stk
theorem TrS.len (h : TrS w1 wr B fb sa sn sc STK oa on oc SL F) : STK.length = sn := by have := h.sl.1; rw [flat_len stCells_len] at this; omega
theorem TrS.at (h : TrS w1 wr B fb sa sn sc STK oa on oc SL F) (k : Nat) (x : St) (hx : STK[k]? = some x) : ∃ b off, sa = some ⟨b, off, none⟩ ∧ wr.rangeAt b (off + k * 2) (stCells x) := rows_at stCells_len (by decide) h.sl k x hx
theorem TrS.pop {L : List St} {x : St} {m : Nat} (h : TrS w1 wr B fb sa (m + 1) sc (L ++ [x]) oa on oc SL F) : ∃ g, sa = some ⟨g, 0, none⟩ ∧ TrS w1 wr B fb sa m sc L oa on oc SL F := by
  obtain ⟨g, cap, cur, hv, hb, hh, hn, hcap, hsz, ht⟩ := h.stk.2.resolve_left (fun h => by simp at h)
  cases hv
  have hl := h.len
  refine ⟨g, rfl, h.bel, ?_, h.out, h.fst, h.fb, h.le⟩
  have h2 := h.stk
  rw [List.flatMap_append] at h2
  exact ownsRow_pop (by rw [flat_len stCells_len]; simp at hl; omega) h2
theorem TrS.push {x : St} (h : TrS w1 wr B fb sa sn sc STK oa on oc SL F) (hA : Below wr.heap.size wr wA) (hg : wA.grownBy wB (Value.slice sa sn sc).ownBlock)
    (ho : wB.ownsRow B 102 2 (.slice a' (sn + 1) c') (sn + 1) (STK.flatMap stCells ++ [x].flatMap stCells)) : TrS w1 wB B fb a' (sn + 1) c' (STK ++ [x]) oa on oc SL F := by
  have h1 := h.below hA
  refine ⟨h1.bel.grown hg h1.lt (fun j hj => (h1.stk.lt j hj).1), by rw [List.flatMap_append]; exact ho, ⟨own_other h1.out.own h1.stk (by decide) hg, fun y hy => own_other (h1.out.dat y hy) h1.stk (by decide) hg, h1.out.rise⟩, h1.fst.grown hg (fun e => own_ne_row h1.stk h1.fst (by decide) e.symm), h.fb, h.le⟩
theorem TrS.line {x : LnS} {w0 : World} {a0 : Option Addr} {n0 c0 : Nat} {S0 : List LnS} (h0 : NewLn w0 B a0 n0 c0 SL) (hB : B ≤ w0.heap.size) (h : TrS w1 wr B fb sa sn sc STK oa on oc SL F) (ho : Own wr w0.heap.size x.2 x.1.data)
    (hg : (wr.alloc (.cells (lnV x) 51)).grownBy wB (Value.slice oa on oc).ownBlock) (ho4 : wB.ownsRow B 51 10 (.slice a' (on + 1) c') (on + 1) (SL.flatMap lnCells ++ [x].flatMap lnCells)) :
    TrS w1 wB B fb sa sn sc STK a' (on + 1) c' (SL ++ [x]) F := by
  have hA : Below wr.heap.size wr (wr.alloc (.cells (lnV x) 51)) := (Below.refl _ _).alloc (Nat.le_refl _) _
  have h1 := h.below hA
  exact ⟨h1.bel.grown hg h1.lt (fun j hj => (h1.out.own.lt j hj).1), own_other h1.stk h1.out.own (by decide) hg, NewLn.app2 h0 hB h.out ho hg ho4, h1.fst.grown hg (fun e => own_ne_row h1.out.own h1.fst (by decide) e.symm), h.fb, h.le⟩
theorem TrS.box {lb : Nat} {cs : Array Value} (h : TrS w1 wr B fb sa sn sc STK oa on oc SL F) (hr : wr.heap[lb]? = some (.cells cs 51)) (hne : (Value.slice oa on oc).ownBlock ≠ some lb) (hlb : B ≤ lb) (j : Nat) (v : Value) : TrS w1 (wr.setCell ⟨lb, j, none⟩ v) B fb sa sn sc STK oa on oc SL F :=
  ⟨h.bel.setCell (p := ⟨lb, j, none⟩) hlb _, own_cell h.stk hr (by decide), h.out.box hr hne j v, h.fst.grown (setCell_grown wr lb j v) (fun e => by
    have e2 : fb = lb := Option.some.inj e
    subst e2
    have := h.fst
    unfold RowE at this
    rw [hr] at this
    simp only [Option.some.injEq, Obj.cells.injEq] at this
    exact absurd this.2.1 (by decide)), h.fb, h.le⟩
theorem TrS.first (h : TrS w1 wr B fb sa sn sc STK oa on oc SL F) (j : Nat) (v : Value) : TrS w1 (wr.setCell ⟨fb, j, none⟩ v) B fb sa sn sc STK oa on oc SL (F.set j v) :=
  ⟨h.bel.setCell (p := ⟨fb, j, none⟩) h.fb _, own_cell h.stk h.fst (by decide), ⟨own_cell h.out.own h.fst (by decide), fun y hy => own_cell (h.out.dat y hy) h.fst (by decide), h.out.rise⟩, h.fst.set j v, h.fb, h.le⟩
end
/-- within a round: the boxes of the place and of its node -/
structure RdS (w1 wr : World) (B fb sb nb : Nat) (sa : Option Addr) (sn sc : Nat) (STK : List St) (oa : Option Addr) (on oc : Nat) (SL : List LnS) (F : List Value) (s : St) (x : NdS) : Prop where
  tr : TrS w1 wr B fb sa sn sc STK oa on oc SL F
  sbox : wr.heap[sb]? = some (.cells (stV s) 102)
  nbox : wr.heap[nb]? = some (.cells (ndW x) 75)
  sne : (Value.slice sa sn sc).ownBlock ≠ some sb
section
variable {w1 wr w' wA wB : World} {B fb sb nb : Nat} {sa oa a' : Option Addr} {sn sc on oc c' : Nat} {STK : List St} {SL : List LnS} {F : List Value} {s : St} {x : NdS}
theorem RdS.below (h : RdS w1 wr B fb sb nb sa sn sc STK oa on oc SL F s x) (k : Below wr.heap.size wr w') : RdS w1 w' B fb sb nb sa sn sc STK oa on oc SL F s x :=
  ⟨h.tr.below k, row_below h.sbox k, row_below h.nbox k, h.sne⟩
theorem RdS.box {lb : Nat} {cs : Array Value} (h : RdS w1 wr B fb sb nb sa sn sc STK oa on oc SL F s x) (hr : wr.heap[lb]? = some (.cells cs 51)) (hne : (Value.slice oa on oc).ownBlock ≠ some lb) (hlb : B ≤ lb) (j : Nat) (v : Value) : RdS w1 (wr.setCell ⟨lb, j, none⟩ v) B fb sb nb sa sn sc STK oa on oc SL F s x :=
  ⟨h.tr.box hr hne hlb j v, row_grown h.sbox (setCell_grown wr lb j v) (fun e => by
    have e2 := Option.some.inj e
    subst e2
    have := h.sbox
    rw [hr] at this
    simp only [Option.some.injEq, Obj.cells.injEq] at this
    exact absurd this.2.1 (by decide)), row_grown h.nbox (setCell_grown wr lb j v) (fun e => by
    have e2 := Option.some.inj e
    subst e2
    have := h.nbox
    rw [hr] at this
    simp only [Option.some.injEq, Obj.cells.injEq] at this
    exact absurd this.2.1 (by decide)), h.sne⟩
theorem RdS.first (h : RdS w1 wr B fb sb nb sa sn sc STK oa on oc SL F s x) (j : Nat) (v : Value) : RdS w1 (wr.setCell ⟨fb, j, none⟩ v) B fb sb nb sa sn sc STK oa on oc SL (F.set j v) s x :=
  ⟨h.tr.first j v, row_grown h.sbox (setCell_grown wr fb j v) (fun e => by
    have e2 := Option.some.inj e
    have h1 := h.tr.fst
    unfold RowE at h1
    rw [← e2, h.sbox] at h1
    simp only [Option.some.injEq, Obj.cells.injEq] at h1
    exact absurd h1.2.1 (by decide)), row_grown h.nbox (setCell_grown wr fb j v) (fun e => by
    have e2 := Option.some.inj e
    have h1 := h.tr.fst
    unfold RowE at h1
    rw [← e2, h.nbox] at h1
    simp only [Option.some.injEq, Obj.cells.injEq] at h1
    exact absurd h1.2.1 (by decide)), h.sne⟩
theorem RdS.line {y : LnS} {w0 : World} {a0 : Option Addr} {n0 c0 : Nat} (h0 : NewLn w0 B a0 n0 c0 SL) (hB : B ≤ w0.heap.size) (h : RdS w1 wr B fb sb nb sa sn sc STK oa on oc SL F s x) (ho : Own wr w0.heap.size y.2 y.1.data)
    (hg : (wr.alloc (.cells (lnV y) 51)).grownBy wB (Value.slice oa on oc).ownBlock) (ho4 : wB.ownsRow B 51 10 (.slice a' (on + 1) c') (on + 1) (SL.flatMap lnCells ++ [y].flatMap lnCells)) :
    RdS w1 wB B fb sb nb sa sn sc STK a' (on + 1) c' (SL ++ [y]) F s x := by
  have hA : Below wr.heap.size wr (wr.alloc (.cells (lnV y) 51)) := (Below.refl _ _).alloc (Nat.le_refl _) _
  have h1 := h.below hA
  exact ⟨TrS.line (S0 := SL) h0 hB h.tr ho hg ho4, row_grown h1.sbox hg (fun e => own_ne_row h1.tr.out.own h1.sbox (by decide) e.symm), row_grown h1.nbox hg (fun e => own_ne_row h1.tr.out.own h1.nbox (by decide) e.symm), h.sne⟩
theorem RdS.push {y : St} (h : RdS w1 wr B fb sb nb sa sn sc STK oa on oc SL F s x) (hA : Below wr.heap.size wr wA) (hg : wA.grownBy wB (Value.slice sa sn sc).ownBlock)
    (ho : wB.ownsRow B 102 2 (.slice a' (sn + 1) c') (sn + 1) (STK.flatMap stCells ++ [y].flatMap stCells)) (hb : (Value.slice a' (sn + 1) c').ownBlock = (Value.slice sa sn sc).ownBlock ∨ (Value.slice a' (sn + 1) c').ownBlock = some wA.heap.size) :
    RdS w1 wB B fb sb nb a' (sn + 1) c' (STK ++ [y]) oa on oc SL F s x := by
  have h1 := h.below hA
  refine ⟨h.tr.push hA hg ho, row_grown h1.sbox hg (fun e => h.sne e.symm), row_grown h1.nbox hg (fun e => own_ne_row h1.tr.stk h1.nbox (by decide) e.symm), ?_⟩
  rcases hb with hb | hb
  · rw [hb]; exact h.sne
  · rw [hb]
    intro e
    have := row_lt h1.sbox
    have e2 := Option.some.inj e
    omega
end
/-- the paths at which the nodes were met first, by places -/
def fstOf (g : List Nd) (st : TS) : List Value := g.map fun n => .string ⟨(st.peer n.id).toArray⟩
theorem fstOf_get {g : List Nd} {st : TS} {k : Nat} {n : Nd} (h : g[k]? = some n) : (fstOf g st)[k]? = some (.string ⟨(st.peer n.id).toArray⟩) := by
  unfold fstOf; rw [List.getElem?_map, h]; rfl
theorem peer_next {st : TS} {n : Nd} {path : Bt} (hl : st.peer n.id = []) (hne : ∀ id, st.first.lookup id ≠ some []) (id : Int) : (st.next n path).peer id = if id = n.id then path else st.peer id := by
  have hno : st.first.lookup n.id = none := by
    cases h : st.first.lookup n.id with
    | none => rfl
    | some q =>
      unfold TS.peer at hl
      rw [h] at hl
      simp only [Option.getD_some] at hl
      subst hl
      exact absurd h (hne _)
  unfold TS.next TS.peer
  simp only [hl, if_true]
  rw [if_pos (by exact hl), List.lookup_append]
  by_cases h : id = n.id
  · subst h; rw [hno, if_pos rfl]; simp [List.lookup_cons]
  · rw [if_neg h]
    cases st.first.lookup id with
    | some v => rfl
    | none => simp only [Option.none_or, List.lookup_cons]; rw [beq_f h]; rfl
theorem peer_stays {st : TS} {n : Nd} {path : Bt} (hl : st.peer n.id ≠ []) (id : Int) : (st.next n path).peer id = st.peer id := by
  unfold TS.next
  simp only [if_neg hl]
  rfl
theorem fstOf_next {g : List Nd} (hI : Inc g) {st : TS} {k : Nat} {n : Nd} {path : Bt} (hk : g[k]? = some n) (hl : st.peer n.id = []) (hne : ∀ id, st.first.lookup id ≠ some []) : (fstOf g st).set k (.string ⟨path.toArray⟩) = fstOf g (st.next n path) := by
  apply List.ext_getElem?
  intro j
  rw [List.getElem?_set]
  unfold fstOf
  simp only [List.getElem?_map, List.length_map]
  by_cases hj : k = j
  · subst hj
    rw [if_pos rfl, if_pos (List.getElem?_eq_some_iff.1 hk).1, hk]
    simp only [Option.map_some]
    rw [peer_next hl hne, if_pos rfl]
  · rw [if_neg hj]
    cases hg : g[j]? with
    | none => rfl
    | some m =>
      simp only [Option.map_some]
      rw [peer_next hl hne, if_neg]
      intro e
      have h1 := atOf_some hI hg
      have h2 := atOf_some hI hk
      rw [e, h2] at h1
      omega
theorem fstOf_stays {g : List Nd} {st : TS} {n : Nd} {path : Bt} (hl : st.peer n.id ≠ []) : fstOf g (st.next n path) = fstOf g st := by
  unfold fstOf
  exact List.map_congr_left fun m _ => by rw [peer_stays hl]
theorem next_fne {st : TS} {n : Nd} {path : Bt} (hp : path ≠ []) (hne : ∀ id, st.first.lookup id ≠ some []) (id : Int) : (st.next n path).first.lookup id ≠ some [] := by
  unfold TS.next
  simp only
  split
  · rw [List.lookup_append]
    cases h : st.first.lookup id with
    | some v => simp only [Option.some_or]; rw [← h]; exact hne id
    | none =>
      simp only [Option.none_or, List.lookup_cons]
      by_cases e : id = n.id
      · subst e; simpa using hp
      · rw [beq_f e]; simp
  · exact hne id
theorem fstOf_st0 (g : List Nd) : fstOf g st0 = List.replicate g.length (.string ⟨#[]⟩) := by
  apply List.ext_getElem
  · simp [fstOf]
  · intro i h1 h2; simp [fstOf, TS.peer, st0]
/-- the law's part of the walk's state -/
structure TrL (g : List Nd) (root : Int) (STK : List St) (sn on : Nat) (SL : List LnS) (st : TS) : Prop where
  map : SL.map (·.1) = st.out
  wk : ∀ res, Wk g (wkOf g STK) st res → Wk g [(root, [46])] st0 res
  pth : ∀ x ∈ STK, x.2 ≠ [] ∧ x.2.length ≤ 4194816 ∧ x.1 < g.length
  top : st.out = [] → ∀ x ∈ STK, x.2 = [46]
  num : on ≤ st.bytes
  lim : st.bytes ≤ 4194304
  stn : sn ≤ 8192 * on + 1
  fne : ∀ id, st.first.lookup id ≠ some []
theorem entSum_mem : ∀ {g : List Nd} {n : Nd}, n ∈ g → n.ents.length ≤ entSum g
  | m :: g, n, h => by
    simp only [entSum]
    rcases List.mem_cons.1 h with rfl | h
    · omega
    · have := entSum_mem h; omega
theorem TrL.next {g : List Nd} {root : Int} {L : List St} {k m on : Nat} {p P : Bt} {SL : List LnS} {st : TS} {nn : Nd} {d : Sl} (hc : Chk g) (h : TrL g root (L ++ [(k, p)]) (m + 1) on SL st) (hk : g[k]? = some nn) (hP : P = st.peer nn.id) (hb : st.bytes + p.length ≤ 4194304) :
    TrL g root (pushed g L p st.out.isEmpty nn.ents 0) (m + nn.ents.length) (on + 1) (SL ++ [(mkLine nn p P, d)]) (st.next nn p) := by
  have hI := hc.2.1.inc
  obtain ⟨pp, hok⟩ := hc.ok
  have hmem : nn ∈ g := List.mem_of_getElem? hk
  have hen := hok.ents nn hmem
  have hsum : nn.ents.length ≤ 8192 := Nat.le_trans (entSum_mem hmem) hc.2.2.1
  obtain ⟨hp0, hp1, hp2⟩ := h.pth (k, p) (by simp)
  simp only at hp0 hp1 hp2
  have hp3 : 0 < p.length := List.length_pos_iff.2 hp0
  refine ⟨?_, ?_, ?_, ?_, ?_, ?_, ?_, fun id => next_fne hp0 h.fne id⟩
  · rw [List.map_append, h.map, hP]; rfl
  · intro res hw
    rw [pushed_none hI hen.there] at hw
    refine h.wk res ?_
    rw [wkOf_snoc hk]
    exact Wk.step _ _ _ _ nn res hb (nodeOf_at hI hk) hw
  · intro x hx
    unfold pushed at hx
    rcases List.mem_append.1 hx with hx | hx
    · exact h.pth x (List.mem_append_left _ hx)
    · simp only [List.drop_zero, List.map_reverse, List.mem_reverse, List.mem_map] at hx
      obtain ⟨e, he, rfl⟩ := hx
      have hg := good_parts (hen.good e he)
      obtain ⟨t, ht⟩ := Option.isSome_iff_exists.1 (hen.there e he)
      obtain ⟨j, h1, h2, h3⟩ := atOf_get hI ht
      refine ⟨?_, ?_, ?_⟩
      · simp only [below]; split
        · exact hg.1
        · simp
      · simp only [below]; split
        · have := hg.2.2.2.1; omega
        · have := hg.2.2.2.1; simp only [List.length_append, List.length_cons]; omega
      · simp only [h2, Int.toNat_natCast]
        exact (List.getElem?_eq_some_iff.1 h1).1
  · intro e; simp [TS.next] at e
  · have := h.num; simp only [TS.next]; omega
  · simp only [TS.next]; exact hb
  · have := h.stn; omega
/-- at the first place the path is the dot -/
theorem TrL.dot {g : List Nd} {root : Int} {L : List St} {k m on : Nat} {p : Bt} {SL : List LnS} {st : TS} (h : TrL g root (L ++ [(k, p)]) (m + 1) on SL st) (ht : st.out.isEmpty = true) : p = [46] :=
  h.top (List.isEmpty_iff.1 ht) (k, p) (by simp)
end Gr
end Go.Proofs.Ytpdkdhcbibcifaa
