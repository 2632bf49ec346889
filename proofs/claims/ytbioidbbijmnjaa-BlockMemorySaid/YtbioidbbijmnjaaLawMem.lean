/-
  LawMem: the law BlockMemory: what follows its second call of Cut, walked alone.
-/
import Derived.Test.YtbioidbbijmnjaaCcReg2
import Derived.Test.YtbioidbbijmnjaaCopy
import Derived.Test.YtbioidbbijmnjaaUseBytes
import Derived.Test.YtbioidbbijmnjaaLawJoins
import Derived.Deep.RegionHeld3
import Derived.Deep.MidRow
namespace Go.Proofs.Ytbioidbbijmnjaa
set_option linter.unusedVariables false
open Go.ChangeShapes Go.WideShapes Go.ChangeAt Go.RowKit
namespace Cc
theorem own_set {w : World} {base g n c : Nat} {e : TypeId} {sz : Nat} {xs : List Value} (h : w.ownsRow base e sz (.slice (some ⟨g, 0, none⟩) n c) n xs) (j : Nat) (hj : j < n * sz) (v : Value) : (w.setCell ⟨g, j, none⟩ v).ownsRow base e sz (.slice (some ⟨g, 0, none⟩) n c) n (xs.set j v) := by
  obtain ⟨hl, h⟩ := h
  refine ⟨by rw [List.length_set]; exact hl, ?_⟩
  rcases h with ⟨hv, _⟩ | ⟨g', cap, cur, hv, hb, hh, hn, hm, hs, ht⟩
  · simp only [Value.slice.injEq] at hv
    cases hv.1
  · simp only [Value.slice.injEq, Option.some.injEq, Addr.mk.injEq, true_and, and_true] at hv
    obtain ⟨rfl, rfl⟩ := hv
    refine .inr ⟨g, c, cur.setIfInBounds j v, rfl, hb, heap_setCell_same _ _ _ _ _ _ hh, hn, hm, by rw [Array.size_setIfInBounds]; exact hs, ?_⟩
    rw [← ht, Array.toList_setIfInBounds, List.take_set]
theorem own_there {w : World} {base g n c : Nat} {e : TypeId} {sz : Nat} {xs : List Value} (h : w.ownsRow base e sz (.slice (some ⟨g, 0, none⟩) n c) n xs) (j : Nat) (hj : j < n * sz) : (∃ v, w.cell? ⟨g, j, none⟩ = some v ∧ xs[j]? = some v) ∧ w.frozen? ⟨g, j, none⟩ = false := by
  have h' := h
  obtain ⟨hl, h⟩ := h
  rcases h with ⟨hv, _⟩ | ⟨g', cap, cur, hv, hb, hh, hn, hm, hs, ht⟩
  · simp only [Value.slice.injEq] at hv
    cases hv.1
  · simp only [Value.slice.injEq, Option.some.injEq, Addr.mk.injEq, true_and, and_true] at hv
    obtain ⟨rfl, rfl⟩ := hv
    have hlt : j < xs.length := by rw [hl]; exact hj
    refine ⟨⟨xs[j], ?_, List.getElem?_eq_getElem hlt⟩, frozen_of_row _ _ _ _ _ hh⟩
    have := h'.cells (g := g) rfl j xs[j] (List.getElem?_eq_getElem hlt)
    rwa [Addr.add_lit, Nat.zero_add] at this
theorem own_addr {w : World} {base : Nat} {e : TypeId} {sz : Nat} {a : Option Addr} {n c : Nat} {xs : List Value} (h : w.ownsRow base e sz (.slice a n c) n xs) (hn : 0 < n) : ∃ g, a = some ⟨g, 0, none⟩ := by
  obtain ⟨hl, h⟩ := h
  rcases h with ⟨hv, h0⟩ | ⟨g', cap, cur, hv, _⟩
  · omega
  · simp only [Value.slice.injEq, true_and] at hv
    exact ⟨g', hv.1⟩
theorem grown_set {w0 w : World} {g : Nat} (h : w0.grownBy w (some g)) (j : Nat) (v : Value) : w0.grownBy (w.setCell ⟨g, j, none⟩ v) (some g) :=
  ⟨h.os, h.tape, h.output, by simpa using h.size, fun k hk hne => by
    rw [heap_setCell_other _ _ _ _ (fun e => hne (by rw [show k = g from by simpa using e]))]
    exact h.block k hk hne⟩
theorem grown_drew {w0 w : World} {X : Option Nat} (h : w0.grownBy w X) : w0.grownBy w.drew X := ⟨h.os, h.tape, h.output, h.size, h.block⟩
theorem cs_low {w w' : World} {S : Nat} {a : Option Addr} {xs : List Value} (h : Cs w a xs) (ha : ∀ x, a = some x → 0 < xs.length → x.block < S) (hb : ∀ k, k < S → w'.heap[k]? = w.heap[k]?) : Cs w' a xs := fun j v hj => by
  obtain ⟨x, hx, hv⟩ := h j v hj
  refine ⟨x, hx, ?_⟩
  rw [World.cell?_of_block (w := w) (hb _ (by rw [addBlock]; exact ha x hx (by obtain ⟨h1, _⟩ := List.getElem?_eq_some_iff.1 hj; omega)))]
  exact hv
theorem sl_low {w w' : World} {S sz : Nat} {a : Option Addr} {n c : Nat} {xs : List Value} (h : IsSl w sz a n c xs) (ha : ∀ x, a = some x → 0 < xs.length → x.block < S) (hb : ∀ k, k < S → w'.heap[k]? = w.heap[k]?) : IsSl w' sz a n c xs := ⟨h.1, h.2.1, h.2.2.1, cs_low h.2.2.2.1 ha hb, h.2.2.2.2⟩
theorem ab_bs (w : World) : Bs ((w.alloc (.cells #[.int .u8 97, .int .u8 98] 5 (2, 3))).drew) (some ⟨w.heap.size, 0, none⟩) 2 2 [97, 98] :=
  isSl_mark w.drew 5 1 2 #[.int .u8 97, .int .u8 98] _ rfl (by unfold maxLen; omega)
theorem cd_bs (w : World) : Bs (w.alloc (.cells #[.int .u8 99, .int .u8 100] 5 (2, 3))) (some ⟨w.heap.size, 0, none⟩) 2 2 [99, 100] :=
  isSl_mark w 5 1 2 #[.int .u8 99, .int .u8 100] _ rfl (by unfold maxLen; omega)
noncomputable def bodyM : Code := Try.f5.body.getD .skip
noncomputable def RM : Code := match bodyM with | .seq _ (.seq _ (.seq _ (.seq _ (.seq _ (.seq _ (.seq _ (.seq _ r))))))) => r | _ => .skip
set_option maxRecDepth 100000 in
set_option maxHeartbeats 4000000 in
theorem Mem_rest (a : Option Addr) (n c : Nat) (l : List UInt8) (mk : Nat) (la : Option Addr) (lc : Nat) (oa : Option Addr) (oc : Nat) (xa : Option Addr) (xc : Nat) (ya : Option Addr) (yc k : Nat) (S6 S7 S8 : Nat) (u2 u3 u6 u7 u8 u9 u12 u14 u15 u16 u17 u18 u19 u20 u21 u22 u23 u24 u25 u26 u27 u28 u29 u30 u31 u32 u33 u34 u35 u36 u37 u38 u39 u40 u41 u42 u43 u44 u45 u46 u47 u48 u49 u50 u51 u52 u53 u54 u55 u56 u57 u58 u59 u60 u61 u62 u63 u64 u65 u66 u67 u68 u69 u70 u71 u72 u73 u74 u75 u76 u77 u78 u79 u80 u81 u82 u83 u84 u85 u86 u87 u88 u89 u90 u91 u92 u93 u94 u95 u96 u97 u98 u99 u100 u101 u102 u103 u104 u105 u106 u107 u108 u109 u110 u111 u112 u113 u114 u115 u116 u117 u118 u119 u120 u121 u122 u123 u124 u125 u126 u127 u128 u129 u130 u131 u132 u133 u134 u135 u136 u137 u138 u139 u140 u141 u142 u143 u144 u145 u146 u147 u148 : Value) (w : World) (h : Bs w a n c l) (hc : c ≤ 140737488351232) (hmk : mk < 256) (hS6 : S6 ≤ w.heap.size) (hk : k = n / 512)
    (hL : Blks w la 2 lc [ofL [97, 98], ofL [99, 100]]) (ha6 : ∀ x, a = some x → 0 < n → x.block < S6) (hl6 : ∀ x, la = some x → x.block < S6) (h67 : S6 ≤ S7) (h78 : S7 ≤ S8)
    (ho : w.ownsRow S6 5 1 (.slice oa n oc) n (l.map u8v)) (ho7 : ∀ x, oa = some x → x.block < S7) (hx : w.ownsRow S7 29 512 (.slice xa k xc) k ((l.take (k * 512)).map u8v)) (hx8 : ∀ x, xa = some x → x.block < S8)
    (hy : w.ownsRow S8 29 512 (.slice ya k yc) k ((l.take (k * 512)).map u8v)) :
    RM.wp Try.prog (bodyPost Try.prog Try.f5 fun e w' => ∃ v, e = .returned v ∧ v = .bool true ∧ Below S6 w w') ⟨#[.slice a n c, .int .u8 (mk : Int), u2, u3, .bool false, .slice la 2 lc, u6, u7, u8, u9, .slice oa n oc, .slice xa k xc, u12, .slice ya k yc, u14, u15, u16, u17, u18, u19, u20, u21, u22, u23, u24, u25, u26, u27, u28, u29, u30, u31, u32, u33, u34, u35, u36, u37, u38, u39, u40, u41, u42, u43, u44, u45, u46, u47, u48, u49, u50, u51, u52, u53, u54, u55, u56, u57, u58, u59, u60, u61, u62, u63, u64, u65, u66, u67, u68, u69, u70, u71, u72, u73, u74, u75, u76, u77, u78, u79, u80, u81, u82, u83, u84, u85, u86, u87, u88, u89, u90, u91, u92, u93, u94, u95, u96, u97, u98, u99, u100, u101, u102, u103, u104, u105, u106, u107, u108, u109, u110, u111, u112, u113, u114, u115, u116, u117, u118, u119, u120, u121, u122, u123, u124, u125, u126, u127, u128, u129, u130, u131, u132, u133, u134, u135, u136, u137, u138, u139, u140, u141, u142, u143, u144, u145, u146, u147, u148], []⟩ w := by
  have hl := h.len; have hcap := h.cap
  simp only [RM, bodyM, Try.f5, Option.getD_some]
  go_wp2
  go_loopw [15] (fun j wr => ∃ (i : Nat) (xs : List Value), i ≤ n ∧ j = .int .i64 i ∧ wr.ownsRow S6 5 1 (.slice oa n oc) n xs ∧ w.grownBy wr (oa.map (·.block))) (fun j _ => n - (intOf j).toNat)
  case atStart => exact ⟨0, _, by omega, rfl, ho, World.grownBy.refl _ _⟩
  case round =>
    obtain ⟨i, xs, hin, rfl, hor, hgr⟩ := hrel
    by_cases hlt : i < n
    · obtain ⟨g, rfl⟩ := own_addr hor (by omega)
      obtain ⟨⟨v0, hv0, _⟩, hfz⟩ := own_there hor i (by omega)
      have hs := own_set hor i (by omega) (.int .u8 (mk : Int))
      have hg2 := grown_set hgr i (.int .u8 (mk : Int))
      have HS := Lib.hid hs; have HG := Lib.hid hg2; clear hs hg2 hor hgr
      as_aux_lemma =>
      go_wp2
      exact ⟨⟨i + 1, _, by omega, by go_num, HS.out, HG.out⟩, by simp [intOf]; omega⟩
    · obtain rfl : n = i := by omega
      have hkn : k * 512 ≤ n := by rw [hk]; exact Nat.div_mul_le_self n 512
      have hnx : ∀ m, S7 ≤ m → some m ≠ oa.map (·.block) := fun m hm e => by
        cases hoa : oa with
        | none => rw [hoa] at e; cases e
        | some y =>
          rw [hoa] at e
          have h1 := ho7 y hoa
          have h2 : m = y.block := Option.some.inj e
          omega
      have hmo : ∀ m, oa.map (·.block) = some m → S6 ≤ m := fun m e => by
        obtain ⟨y, hy, rfl⟩ := Option.map_eq_some_iff.1 e
        exact (ho.lt y.block (by rw [hy]; rfl)).1
      have hdiv : (n : Int) / 512 = (k : Int) := by omega
      clear hk
      have hB1 : Below S6 w wr := (Below.refl S6 w).grown hgr hS6 hmo
      have hx1 : wr.ownsRow S7 29 512 (.slice xa k xc) k ((l.take (k * 512)).map u8v) := own_keep hx fun m hm hm2 => hgr.block m hm2 (hnx m hm)
      have hy1 : wr.ownsRow S8 29 512 (.slice ya k yc) k ((l.take (k * 512)).map u8v) := own_keep hy fun m hm hm2 => hgr.block m hm2 (hnx m (by omega))
      have hz0 : ∀ j, j < k → ∃ z, ((l.take (k * 512)).map u8v)[j * 512]? = some (.int .u8 z) := fun j hj => by
        have hj1 : (j + 1) * 512 ≤ k * 512 := Nat.mul_le_mul_right _ hj
        have hlt : j * 512 < (l.take (k * 512)).length := by rw [List.length_take]; omega
        exact ⟨_, by rw [List.getElem?_map, List.getElem?_eq_getElem hlt]; rfl⟩
      have HX1 := Lib.hid hx1; have HY1 := Lib.hid hy1; have HZ0 := Lib.hid hz0; have HB1 := Lib.hid hB1; clear hx1 hy1 hz0 hgr hx hy ho hor hB1 hnx hmo
      go_wp2
      go_loopw [16] (fun j wq => ∃ (i : Nat) (xs : List Value), i ≤ k ∧ j = .int .i64 i ∧ wq.ownsRow S7 29 512 (.slice xa k xc) k xs ∧ (∀ j, j < k → ∃ z, xs[j * 512]? = some (.int .u8 z)) ∧ wr.grownBy wq (xa.map (·.block))) (fun j _ => k - (intOf j).toNat)
      case atStart => exact ⟨0, _, by omega, rfl, HX1.out, HZ0.out, World.grownBy.refl _ _⟩
      case round =>
        rename_i wr1 _ _ _ _ _ _ _ _ _ _ _ _ _ _ _
        obtain ⟨i2, xs2, hik, rfl, hxq, hzq, hgq⟩ := hrel
        by_cases hlt2 : i2 < k
        · obtain ⟨g2, rfl⟩ := own_addr hxq (by omega)
          have hi512 : i2 * 512 < k * 512 := Nat.mul_lt_mul_of_pos_right hlt2 (by decide)
          obtain ⟨⟨v2, hv2, hv2'⟩, hfz2⟩ := own_there hxq (i2 * 512) hi512
          obtain ⟨z2, hz2⟩ := hzq i2 hlt2
          rw [hv2'] at hz2
          obtain rfl := Option.some.inj hz2
          have hb2 := (own_set hxq (i2 * 512) hi512 (.int .u8 ((z2 + 1) % 256))).drew
          have hg3 := grown_drew (grown_set hgq (i2 * 512) (.int .u8 ((z2 + 1) % 256)))
          have hz3 : ∀ j, j < k → ∃ z, (xs2.set (i2 * 512) (.int .u8 ((z2 + 1) % 256)))[j * 512]? = some (.int .u8 z) := fun j hj => by
            by_cases hji : j = i2
            · subst hji
              have : j * 512 < xs2.length := by rw [hxq.1]; exact hi512
              exact ⟨_, by rw [List.getElem?_set_self this]⟩
            · obtain ⟨z, hz⟩ := hzq j hj
              exact ⟨z, by rw [List.getElem?_set_ne (by omega)]; exact hz⟩
          have HB2 := Lib.hid hb2; have HG3 := Lib.hid hg3; have HZ3 := Lib.hid hz3; clear hb2 hg3 hz3 hzq hxq hgq
          have hu29 := Try.underlying29
          have hlt3 : (i2 : Int) < k := by omega
          as_aux_lemma =>
          go_wp2_with fail
          go_region
          go_wp2
          exact ⟨⟨i2 + 1, _, by omega, by go_num, HB2.out, HZ3.out, HG3.out⟩, by simp [intOf]; omega⟩
        · obtain rfl : k = i2 := by omega
          obtain ⟨w2, hw2⟩ : ∃ w2, w2 = wr := ⟨wr, rfl⟩
          subst hw2
          have hB2 : Below S6 w w2 := HB1.out.grown hgq (Nat.le_trans hS6 HB1.out.size) fun m e => by
            obtain ⟨y, hy, rfl⟩ := Option.map_eq_some_iff.1 e
            exact Nat.le_trans h67 (hxq.lt y.block (by rw [hy]; rfl)).1
          have hy2 : w2.ownsRow S8 29 512 (.slice ya k yc) k ((l.take (k * 512)).map u8v) := own_keep HY1.out fun m hm hm2 => hgq.block m hm2 fun e => by
            obtain ⟨y, hy, hm3⟩ := Option.map_eq_some_iff.1 e.symm
            have := hx8 y hy
            omega
          have hlow2 : ∀ k, k < S6 → w2.heap[k]? = w.heap[k]? := fun k hk => hB2.block k hk
          have hBs2 : Bs w2 a n c l := sl_low h (fun x hx hn => ha6 x hx (by rw [List.length_map, hl] at hn; exact hn)) hlow2
          have hL2 : Blks w2 la 2 lc [ofL [97, 98], ofL [99, 100]] := ⟨sl_low hL.1 (fun x hx _ => hl6 x hx) hlow2, hL.2⟩
          have hY2 : Blks w2 ya k yc (chunks l k) := ⟨by rw [chunks_flat]; exact own_isSl hy2, chunks_512 l _ (by rw [hl]; exact hkn)⟩
          have hch : ∀ j, j < k → (chunks l k).getD j [] = (l.drop (j * 512)).take 512 := fun j hj => chunks_get l _ j hj
          generalize chunks l k = ls at *
          have HCH := Lib.hid hch; have HL := Lib.hid hl; clear hch hl
          clear HX1 HY1 HZ0 hgq hxq hzq hy2 hL h
          go_wp2
          go_loopw [17] (fun j wq => ∃ i : Nat, i ≤ k ∧ j = .int .i64 i ∧ Below w2.heap.size w2 wq) (fun j _ => k - (intOf j).toNat)
          case atStart => exact ⟨0, by omega, rfl, Below.refl _ _⟩
          case round =>
            obtain ⟨i, hik, rfl, hb9⟩ := hrel
            by_cases hlt2 : i < k
            · obtain ⟨b3, o3, rfl, hpl, hcs⟩ := (Below.blks hb9 hY2).at i hlt2
              rw [HCH.out i hlt2] at hpl hcs
              have hAt := At_any a n c l i wr.drew ((Keeps.drew _).bs (Below.bs hb9 hBs2)) (by omega)
              generalize (l.drop (i * 512)).take 512 = p at *
              have hnq := fun w' => neq_blk p p hpl hpl w'
              have hpp : decide (p = p) = true := dec_t rfl
              simp only [hpp] at hnq
              have hgb := guardBlk
              clear hpp
              have hrg : wr.rangeAt b3 (o3 + i * 512) (p.map u8v) := fun j v hj => by have := hcs j v hj; rwa [Addr.add_lit] at this
              have hrg1 : wr.drew.rangeAt b3 (o3 + i * 512) (p.map u8v) := hrg
              have hu24 := Try.underlying29
              have hi24 : (Try.prog.info? 29).map (·.size) = some (p.map u8v).length := by rw [List.length_map, hpl]; kernel_rfl
              have hnq2 : ∀ w' : World, (binOp .neq 29 (.agg (p.map u8v).toArray) (.agg (rowA p))).run Try.prog w' = .ok (.bool (!true)) w' := hnq
              have HAT := Lib.hid hAt; clear hpl hcs hAt hnq
              have hik2 : (i : Int) < k := by omega
              as_aux_lemma =>
              go_wp2_with fail
              go_region_held3 (fun w' => w'.rangeAt b3 (o3 + i * 512) (p.map u8v)) (first | assumption | go_keep_ranges) (first
                | (go_at_call 9; refine (HAT.out).mono ?_; rintro e w9 ⟨rfl, hb10⟩; have hrg9 : w9.rangeAt b3 (o3 + i * 512) (p.map u8v) := fun j v hj => (Below.keeps hb10) _ _ (hrg1 j v hj)))
              go_wp2
              exact ⟨⟨i + 1, by omega, by go_num, Below.seq (Below.seq hb9 ((Below.refl _ _).drew)) hb10⟩, by simp [intOf]; omega⟩
            · obtain rfl : i = k := by omega
              have hL9 := Below.blks hb9 hL2
              obtain ⟨lb, lo, rfl, hpl1, hcs1⟩ := hL9.at 0 (by decide)
              obtain ⟨lb', lo', he2, hpl2, hcs2⟩ := hL9.at 1 (by decide)
              obtain ⟨rfl, rfl⟩ : lb = lb' ∧ lo = lo' := by simpa using he2
              simp only [List.getD_cons_zero, List.getD_cons_succ] at hpl1 hcs1 hpl2 hcs2
              have hq1e : ofL [97, 98] = ofL [97, 98] := rfl
              generalize hQ1 : ofL [97, 98] = q1 at *
              generalize hQ2 : ofL [99, 100] = q2 at *
              have hlb : lb < S6 := hl6 _ rfl
              have HQ1 := Lib.hid hQ1; have HQ2 := Lib.hid hQ2
              have hr1 : wr.rangeAt lb lo (q1.map u8v) := fun j v hj => by have := hcs1 j v hj; rwa [Addr.add_lit, Nat.zero_mul, Nat.add_zero] at this
              have hr2 : wr.rangeAt lb (lo + 512) (q2.map u8v) := fun j v hj => by have := hcs2 j v hj; rwa [Addr.add_lit, Nat.one_mul] at this
              have hu24 := Try.underlying29
              have hi1 : (Try.prog.info? 29).map (·.size) = some (q1.map u8v).length := by rw [List.length_map, hpl1]; kernel_rfl
              have hi2 : (Try.prog.info? 29).map (·.size) = some (q2.map u8v).length := by rw [List.length_map, hpl2]; kernel_rfl
              have heq1 : ∀ w' : World, (binOp .eql 29 (.agg (q1.map u8v).toArray) (.agg (rowA q1))).run Try.prog w' = .ok (.bool true) w' := fun w' => by
                have := eql_blk q1 q1 hpl1 hpl1 w'
                rwa [show decide (q1 = q1) = true from dec_t rfl] at this
              have heq2 : ∀ w' : World, (binOp .eql 29 (.agg (q2.map u8v).toArray) (.agg (rowA q2))).run Try.prog w' = .ok (.bool true) w' := fun w' => by
                have := eql_blk q2 q2 hpl2 hpl2 w'
                rwa [show decide (q2 = q2) = true from dec_t rfl] at this
              have hgb := guardBlk
              have kc := fun (w : World) (C : Array Value) (n c : Nat) => Lib.run_convert_bytes_const (P := Try.prog) w 22 5 C n c Try.underlying22 Try.underlying5
              have hSK : ∀ w3 : World, Keeps wr w3 → w3.rangeAt lb lo (q1.map u8v) ∧ w3.rangeAt lb (lo + 512) (q2.map u8v) := fun w3 hk => ⟨fun j v hj => hk _ _ (hr1 j v hj), fun j v hj => hk _ _ (hr2 j v hj)⟩
              have kcd := fun (C : Array Value) (n c : Nat) => show (convert 22 22 (.slice (some ⟨wr.heap.size, 0, none⟩) n c)).run Try.prog ((wr.alloc (.cells C 5)).drew) = .ok (.slice (some ⟨wr.heap.size, 0, none⟩) n c) ((wr.alloc (.cells C 5 (C.size, C.size + 1))).drew) from kc wr.drew C n c
              have HSW := Lib.hid (hSK wr.drew (Keeps.drew _))
              have HSK := Lib.hid hSK
              clear hSK hr1 hr2 hcs1 hcs2 hL9 hQ1 hQ2
              as_aux_lemma =>
              go_wp2_with fail
              -- @r24
              refine wp_region_held_drew (S := fun w' : World => w'.rangeAt lb lo (q1.map u8v) ∧ w'.rangeAt lb (lo + 512) (q2.map u8v)) (by kernel_rfl) HSW.out (fun hHeld => ?_)
              refine wpAnyH_take (i := 0) (oi := { dst := some 133, op := Op.move (Operand.tmp 5), type := 23, pos := "law.go:165", after := #[], guard := none }) (v := (.slice (some ⟨lb, lo, none⟩) 2 lc)) rfl (by kernel_rfl) (by kernel_rfl) (by kernel_rfl) (fun _ _ _ h => h) (Or.inl ⟨by rfl, ?_⟩) (by assumption) ?_
              · intro wz hSw
                go_simp
              (try simp only [Act.put, List.setIfInBounds_toArray, List.set_cons_zero, List.set_cons_succ, List.toList_toArray])
              refine wpAnyH_take (i := 1) (oi := { dst := some 134, op := Op.indexAddr 23 (Operand.tmp 133) (Operand.const (Value.int IntKind.i64 0)), type := 0, pos := "law.go:165", after := #[{ on := 0, ground := Ground.data }], guard := none }) (v := (.pointer (some ⟨lb, lo, none⟩))) rfl (by kernel_rfl) (by kernel_rfl) (by kernel_rfl) (fun _ _ _ h => h) (Or.inl ⟨by rfl, ?_⟩) (by assumption) ?_
              · intro wz hSw
                go_simp
              (try simp only [Act.put, List.setIfInBounds_toArray, List.set_cons_zero, List.set_cons_succ, List.toList_toArray])
              refine wpAnyH_take (i := 2) (oi := { dst := some 135, op := Op.load 29 (Operand.tmp 134), type := 29, pos := "law.go:165", after := #[{ on := 1, ground := Ground.data }], guard := none }) (v := (.agg (q1.map u8v).toArray)) rfl (by kernel_rfl) (by kernel_rfl) (by kernel_rfl) (fun _ _ _ h => h) (yieldsIf_load_mid (by rfl) _ _ rfl _ _ rfl _ _ (fun wz hSw => hSw.1) hu24 rfl hi1) (by assumption) ?_
              (try simp only [Act.put, List.setIfInBounds_toArray, List.set_cons_zero, List.set_cons_succ, List.toList_toArray])
              refine wpAnyH_ready (rs := [3]) (by kernel_rfl) (by simp) ?_
              refine AllReadyH.cons (o := { dst := some 136, op := Op.buildSlice 22 2 #[(0, Operand.const (Value.int IntKind.u8 97)), (1, Operand.const (Value.int IntKind.u8 98))], type := 22, pos := "law.go:165", after := #[], guard := none }) rfl (fun K hK => ?_) AllReadyH.nil
              go_simp
              refine hK.out _ _ (HSK.out _ ((Keeps.drew wr).trans (Keeps.alloc _ _))) (fun hH3 => ?_)
              clear hK K
              (try simp only [Act.put, List.setIfInBounds_toArray, List.set_cons_zero, List.set_cons_succ, List.toList_toArray])
              refine wpAnyH_ready (rs := [4]) (by kernel_rfl) (by simp) ?_
              refine AllReadyH.cons (o := { dst := some 137, op := Op.convert 22 22 (Operand.tmp 136), type := 22, pos := "law.go:165", after := #[{ on := 3, ground := Ground.data }], guard := none }) rfl (fun K hK => ?_) AllReadyH.nil
              go_simp
              refine hK.out _ _ (HSK.out _ ((Keeps.drew wr).trans (Keeps.alloc _ _))) (fun hH4 => ?_)
              clear hK K
              (try simp only [Act.put, List.setIfInBounds_toArray, List.set_cons_zero, List.set_cons_succ, List.toList_toArray])
              refine wpAnyH_ready (rs := [5]) (by kernel_rfl) (by simp) ?_
              refine AllReadyH.cons (o := { dst := some 138, op := Op.call { callee := Callee.value (Operand.func 12), args := #[Operand.tmp 137], argTypes := #[22] }, type := 29, pos := "law.go:165", after := #[{ on := 4, ground := Ground.data }], guard := none }) rfl (fun K hK => ?_) AllReadyH.nil
              go_simp
              (go_at_call 12; (with_reducible refine (Of_any _ 2 2 [97, 98] _ (by exact ab_bs wr)).mono ?_); rintro e w5 ⟨rfl, hb5⟩; rw [HQ1.out])
              have hk5 : Keeps wr w5 := ((Keeps.drew wr).trans (Keeps.alloc _ _)).trans (Below.keeps hb5)
              have HK5 := Lib.hid hk5
              have hbA : Below w2.heap.size w2 w5 := Below.seq (Below.seq (hb9.drew) ((Below.refl _ _).alloc (Nat.le_refl _) _)) hb5
              have HBA := Lib.hid hbA
              clear hb5 hbA hk5
              (try go_wp2_with fail)
              refine hK.out _ _ (HSK.out _ HK5.out) (fun hH5 => ?_)
              clear hK K
              (try simp only [Act.put, List.setIfInBounds_toArray, List.set_cons_zero, List.set_cons_succ, List.toList_toArray])
              refine wpAnyH_take (i := 6) (oi := { dst := some 139, op := Op.binOp BinOp.eql 29 (Operand.tmp 135) (Operand.tmp 138) 29, type := 4, pos := "law.go:165", after := #[{ on := 2, ground := Ground.data }, { on := 5, ground := Ground.data }], guard := none }) (v := (.bool true)) rfl (by kernel_rfl) (by kernel_rfl) (by kernel_rfl) (fun _ _ _ h => h) (Or.inl ⟨by rfl, ?_⟩) (by assumption) ?_
              · intro wz hSw
                go_simp
              (try simp only [Act.put, List.setIfInBounds_toArray, List.set_cons_zero, List.set_cons_succ, List.toList_toArray])
              refine wpAnyH_take (i := 7) (oi := { dst := some 140, op := Op.move (Operand.tmp 139), type := 4, pos := "law.go:165", after := #[{ on := 6, ground := Ground.data }, { on := 5, ground := Ground.chain }], guard := none }) (v := (.bool true)) rfl (by kernel_rfl) (by kernel_rfl) (by kernel_rfl) (fun _ _ _ h => h) (Or.inl ⟨by rfl, ?_⟩) (by assumption) ?_
              · intro wz hSw
                go_simp
              (try simp only [Act.put, List.setIfInBounds_toArray, List.set_cons_zero, List.set_cons_succ, List.toList_toArray])
              as_aux_lemma =>
              refine wpAnyH_take (i := 8) (oi := { dst := some 141, op := Op.move (Operand.tmp 5), type := 23, pos := "law.go:165", after := #[{ on := 7, ground := Ground.guard }], guard := some (7, true) }) (v := (.slice (some ⟨lb, lo, none⟩) 2 lc)) rfl (by kernel_rfl) (by kernel_rfl) (by kernel_rfl) (fun _ _ _ h => h) (Or.inl ⟨by rfl, ?_⟩) (by assumption) ?_
              · intro wz hSw
                go_simp
              (try simp only [Act.put, List.setIfInBounds_toArray, List.set_cons_zero, List.set_cons_succ, List.toList_toArray])
              refine wpAnyH_take (i := 9) (oi := { dst := some 142, op := Op.indexAddr 23 (Operand.tmp 141) (Operand.const (Value.int IntKind.i64 1)), type := 0, pos := "law.go:165", after := #[{ on := 8, ground := Ground.data }, { on := 7, ground := Ground.guard }], guard := some (7, true) }) (v := (.pointer (some ⟨lb, lo + 512, none⟩))) rfl (by kernel_rfl) (by kernel_rfl) (by kernel_rfl) (fun _ _ _ h => h) (Or.inl ⟨by rfl, ?_⟩) (by assumption) ?_
              · intro wz hSw
                go_simp
              (try simp only [Act.put, List.setIfInBounds_toArray, List.set_cons_zero, List.set_cons_succ, List.toList_toArray])
              refine wpAnyH_take (i := 10) (oi := { dst := some 143, op := Op.load 29 (Operand.tmp 142), type := 29, pos := "law.go:165", after := #[{ on := 9, ground := Ground.data }, { on := 7, ground := Ground.guard }], guard := some (7, true) }) (v := (.agg (q2.map u8v).toArray)) rfl (by kernel_rfl) (by kernel_rfl) (by kernel_rfl) (fun _ _ _ h => h) (yieldsIf_load_mid (by rfl) _ _ rfl _ _ rfl _ _ (fun wz hSw => hSw.2) hu24 rfl hi2) (by assumption) ?_
              (try simp only [Act.put, List.setIfInBounds_toArray, List.set_cons_zero, List.set_cons_succ, List.toList_toArray])
              refine wpAnyH_ready (rs := [11]) (by kernel_rfl) (by simp) ?_
              refine AllReadyH.cons (o := { dst := some 144, op := Op.buildSlice 22 2 #[(0, Operand.const (Value.int IntKind.u8 99)), (1, Operand.const (Value.int IntKind.u8 100))], type := 22, pos := "law.go:165", after := #[{ on := 7, ground := Ground.guard }], guard := some (7, true) }) rfl (fun K hK => ?_) AllReadyH.nil
              rw [if_pos (by rfl)]
              go_simp
              refine hK.out _ _ (HSK.out _ ((HK5.out).trans (Keeps.alloc _ _))) (fun hH6 => ?_)
              clear hK K
              (try simp only [Act.put, List.setIfInBounds_toArray, List.set_cons_zero, List.set_cons_succ, List.toList_toArray])
              refine wpAnyH_ready (rs := [12]) (by kernel_rfl) (by simp) ?_
              refine AllReadyH.cons (o := { dst := some 145, op := Op.convert 22 22 (Operand.tmp 144), type := 22, pos := "law.go:165", after := #[{ on := 11, ground := Ground.data }, { on := 7, ground := Ground.guard }], guard := some (7, true) }) rfl (fun K hK => ?_) AllReadyH.nil
              rw [if_pos (by rfl)]
              go_simp
              refine hK.out _ _ (HSK.out _ ((HK5.out).trans (Keeps.alloc _ _))) (fun hH7 => ?_)
              clear hK K
              (try simp only [Act.put, List.setIfInBounds_toArray, List.set_cons_zero, List.set_cons_succ, List.toList_toArray])
              refine wpAnyH_ready (rs := [13]) (by kernel_rfl) (by simp) ?_
              refine AllReadyH.cons (o := { dst := some 146, op := Op.call { callee := Callee.value (Operand.func 12), args := #[Operand.tmp 145], argTypes := #[22] }, type := 29, pos := "law.go:165", after := #[{ on := 12, ground := Ground.data }, { on := 7, ground := Ground.chain }, { on := 7, ground := Ground.guard }], guard := some (7, true) }) rfl (fun K hK => ?_) AllReadyH.nil
              rw [if_pos (by rfl)]
              go_simp
              (go_at_call 12; (with_reducible refine (Of_any _ 2 2 [99, 100] _ (by exact cd_bs w5)).mono ?_); rintro e w7 ⟨rfl, hb7⟩; rw [HQ2.out])
              have hk7 : Keeps wr w7 := ((HK5.out).trans (Keeps.alloc _ _)).trans (Below.keeps hb7)
              have HK7 := Lib.hid hk7
              have hbC : Below w2.heap.size w2 w7 := Below.seq ((HBA.out).alloc (Below.size HBA.out) _) hb7
              have HBC := Lib.hid hbC
              clear hb7 hbC hk7
              (try go_wp2_with fail)
              refine hK.out _ _ (HSK.out _ HK7.out) (fun hH8 => ?_)
              clear hK K
              (try simp only [Act.put, List.setIfInBounds_toArray, List.set_cons_zero, List.set_cons_succ, List.toList_toArray])
              refine wpAnyH_take (i := 14) (oi := { dst := some 147, op := Op.binOp BinOp.eql 29 (Operand.tmp 143) (Operand.tmp 146) 29, type := 4, pos := "law.go:165", after := #[{ on := 10, ground := Ground.data }, { on := 13, ground := Ground.data }, { on := 7, ground := Ground.guard }], guard := some (7, true) }) (v := (.bool true)) rfl (by kernel_rfl) (by kernel_rfl) (by kernel_rfl) (fun _ _ _ h => h) (Or.inl ⟨by rfl, ?_⟩) (by assumption) ?_
              · intro wz hSw
                go_simp
              (try simp only [Act.put, List.setIfInBounds_toArray, List.set_cons_zero, List.set_cons_succ, List.toList_toArray])
              refine wpAnyH_take (i := 15) (oi := { dst := some 148, op := Op.pick (Operand.tmp 140) (Operand.tmp 147) (Operand.const (Value.bool false)), type := 4, pos := "law.go:165", after := #[{ on := 7, ground := Ground.data }, { on := 14, ground := Ground.data }], guard := none }) (v := (.bool true)) rfl (by kernel_rfl) (by kernel_rfl) (by kernel_rfl) (fun _ _ _ h => h) (Or.inl ⟨by rfl, ?_⟩) (by assumption) ?_
              · intro wz hSw
                go_simp
              (try simp only [Act.put, List.setIfInBounds_toArray, List.set_cons_zero, List.set_cons_succ, List.toList_toArray])
              refine wpAnyH_take (i := 16) (oi := { dst := some 4, op := Op.assign (Operand.tmp 148), type := 4, pos := "law.go:165", after := #[{ on := 15, ground := Ground.data }, { on := 13, ground := Ground.chain }, { on := 0, ground := Ground.phase }, { on := 1, ground := Ground.phase }, { on := 2, ground := Ground.phase }, { on := 3, ground := Ground.phase }, { on := 4, ground := Ground.phase }, { on := 5, ground := Ground.phase }, { on := 6, ground := Ground.phase }, { on := 7, ground := Ground.phase }, { on := 8, ground := Ground.phase }, { on := 9, ground := Ground.phase }, { on := 10, ground := Ground.phase }, { on := 11, ground := Ground.phase }, { on := 12, ground := Ground.phase }, { on := 13, ground := Ground.phase }, { on := 14, ground := Ground.phase }, { on := 15, ground := Ground.phase }], guard := none }) (v := (.bool true)) rfl (by kernel_rfl) (by kernel_rfl) (by kernel_rfl) (fun _ _ _ h => h) (Or.inl ⟨by rfl, ?_⟩) (by assumption) ?_
              · intro wz hSw
                go_simp
              (try simp only [Act.put, List.setIfInBounds_toArray, List.set_cons_zero, List.set_cons_succ, List.toList_toArray])
              refine wpAnyH_done (by kernel_rfl) ?_ _
              -- @end24
              go_wp2
              go_ret
              exact ⟨_, rfl, rfl, hB2.trans ((HBC.out).mono (Nat.le_trans hS6 hB2.size))⟩
end Cc
end Go.Proofs.Ytbioidbbijmnjaa
