/-
  ApWalk: valiseref00.Apart.
-/
import Derived.Test.YtbioidbbijmnjaaApZero
import Derived.Test.YtbioidbbijmnjaaCopy
namespace Go.Proofs.Ytbioidbbijmnjaa
set_option linter.unusedVariables false
set_option linter.unusedSimpArgs false
open Go.ChangeShapes Go.WideShapes Go.ChangeAt Go.RowKit
abbrev Sl := Option Addr × Nat × Nat
def slV (s : Sl) : Value := .slice s.1 s.2.1 s.2.2
def slAt (S : List Sl) (i : Nat) : Sl := S.getD i (none, 0, 0)
/-- the lists as Apart holds them -/
structure ApI (w0 : World) (B : Nat) (aL : Option Addr) (nL cL : Nat) (S : List Sl) (wr : World) : Prop where
  bel : Below B w0 wr
  outer : IsSl wr 1 aL nL cL (S.map slV)
  free : ∀ i, i < nL → Free wr B (slAt S i).1 (slAt S i).2.1 (slAt S i).2.2
/-- no two share a block, none lies where the list of lists lies -/
structure Dist (aL : Option Addr) (nL : Nat) (S : List Sl) : Prop where
  two : ∀ i j b, i < nL → j < nL → i ≠ j → blk? (slAt S i).1 = some b → blk? (slAt S j).1 ≠ some b
  out : ∀ i b x, i < nL → blk? (slAt S i).1 = some b → aL = some x → x.block ≠ b
def mk (t : Nat) : Value := .int .u8 (IntKind.u8.wrap (7 * (t : Int) + 1))
/-- the cells of list t up to k bear its mark -/
def MarkTo (wr : World) (S : List Sl) (t k : Nat) : Prop := ∀ j, j < k → ∀ g, (slAt S t).1 = some ⟨g, 0, none⟩ → wr.cell? ⟨g, j, none⟩ = some (mk t)
def Marks (wr : World) (S : List Sl) (m : Nat) : Prop := ∀ t, t < m → MarkTo wr S t (slAt S t).2.1
theorem ApI.at {w0 wr : World} {B : Nat} {aL : Option Addr} {nL cL : Nat} {S : List Sl} (h : ApI w0 B aL nL cL S wr) (i : Nat) (hi : i < nL) :
    ∃ b off, aL = some ⟨b, off, none⟩ ∧ wr.cell? ⟨b, off + i, none⟩ = some (slV (slAt S i)) := by
  have hl : S.length = nL := by have := h.outer.1; simpa using this
  refine h.outer.2.2.2.1.at i _ ?_
  simp [slAt, List.getD, List.getElem?_eq_getElem (show i < S.length by omega)]
theorem outer_chg {wr w' : World} {aL : Option Addr} {nL cL : Nat} {S : List Sl} (h : IsSl wr 1 aL nL cL (S.map slV)) (hk : ∀ x k, aL = some x → (wr.cell? (x.add k)).isSome = true → w'.cell? (x.add k) = wr.cell? (x.add k)) : IsSl w' 1 aL nL cL (S.map slV) := by
  refine ⟨h.1, h.2.1, h.2.2.1, fun j v hj => ?_, h.2.2.2.2⟩
  obtain ⟨x, hx, hc⟩ := h.2.2.2.1 j v hj
  exact ⟨x, hx, by rw [hk x j hx (by rw [hc]; rfl)]; exact hc⟩
theorem add_block (x : Addr) (k : Nat) : (x.add k).block = x.block := by unfold Addr.add; split <;> rfl
theorem ApI.chg {w0 wr w' : World} {B : Nat} {aL : Option Addr} {nL cL : Nat} {S : List Sl} (h : ApI w0 B aL nL cL S wr) {a : Option Addr} {n : Nat} (k : Chg B a n wr w') (ho : ∀ b x, blk? a = some b → aL = some x → x.block ≠ b) : ApI w0 B aL nL cL S w' := by
  refine ⟨h.bel.trans k.bel, outer_chg h.outer fun x j hx hs => ?_, fun i hi => (h.free i hi).keep k⟩
  have hlt := World.block_lt_of_cell? (w := wr) (a := x.add j) (Option.isSome_iff_exists.1 hs).choose_spec
  rw [add_block] at hlt
  refine World.cell?_of_block (a := x.add j) ?_
  rw [add_block]
  exact k.other _ hlt (fun e => ho _ x e hx rfl)
theorem MarkTo.chg {wr w' : World} {S : List Sl} {t k : Nat} (h : MarkTo wr S t k) {B : Nat} {a : Option Addr} {n : Nat} (c : Chg B a n wr w') (hd : blk? a ≠ blk? (slAt S t).1 ∨ k ≤ n) : MarkTo w' S t k := by
  intro j hj g hg
  have hc := h j hj g hg
  have hlt : g < wr.heap.size := World.block_lt_of_cell? (w := wr) (a := ⟨g, j, none⟩) hc
  rcases hd with hd | hd
  · rw [World.cell?_of_block (a := ⟨g, j, none⟩) (c.other g hlt (fun e => hd (by rw [e, hg]; rfl)))]; exact hc
  · rw [c.low g j hlt (by omega)]; exact hc
theorem Marks.chg {wr w' : World} {S : List Sl} {m : Nat} (h : Marks wr S m) {B : Nat} {a : Option Addr} {n : Nat} (c : Chg B a n wr w') (hd : ∀ t, t < m → blk? a ≠ blk? (slAt S t).1 ∨ (slAt S t).2.1 ≤ n) : Marks w' S m :=
  fun t ht => (h t ht).chg c (hd t ht)
/-- one cell of list i is written -/
theorem ApI.store {w0 wr : World} {B : Nat} {aL : Option Addr} {nL cL : Nat} {S : List Sl} (h : ApI w0 B aL nL cL S wr) (hD : Dist aL nL S) {i g j : Nat} (hi : i < nL) (hg : (slAt S i).1 = some ⟨g, 0, none⟩) (hB : B ≤ g) (v : Value) :
    ApI w0 B aL nL cL S (wr.setCell ⟨g, j, none⟩ v) := by
  have hb : blk? (slAt S i).1 = some g := by rw [hg]; rfl
  refine ⟨h.bel.setCell (show B ≤ (⟨g, j, none⟩ : Addr).block from hB) v, outer_chg h.outer fun x k hx _ => ?_, fun t ht => ?_⟩
  · refine World.cell?_setCell_other _ _ _ _ (fun e => ?_)
    have := hD.out i g x hi hb hx
    exact this (by have := congrArg Addr.block e; rw [add_block] at this; exact this.symm)
  · obtain ⟨h1, h2, h3⟩ := h.free t ht
    refine ⟨h1, h2, ?_⟩
    rcases h3 with h3 | ⟨g', ha, hB', hlt, hf⟩
    · exact .inl h3
    · refine .inr ⟨g', ha, hB', by simpa using hlt, fun k hk => ⟨?_, by rw [World.frozen?_setCell]; exact (hf k hk).2⟩⟩
      exact World.isSome_setCells g [v] j wr _ (hf k hk).1
theorem Marks.store {wr : World} {aL : Option Addr} {nL : Nat} {S : List Sl} {i g j : Nat} (h : Marks wr S i) (hD : Dist aL nL S) (hi : i < nL) (hg : (slAt S i).1 = some ⟨g, 0, none⟩) (v : Value) : Marks (wr.setCell ⟨g, j, none⟩ v) S i := by
  intro t ht k hk g' hg'
  rw [World.cell?_setCell_other _ _ _ _ (fun e => by
    simp only [Addr.mk.injEq] at e
    obtain ⟨e1, _⟩ := e
    subst e1
    exact hD.two i t _ hi (by omega) (by omega) (by rw [hg]; rfl) (by rw [hg']; rfl))]
  exact h t ht k hk g' hg'
theorem MarkTo.store {wr : World} {S : List Sl} {i g j : Nat} (h : MarkTo wr S i j) (hg : (slAt S i).1 = some ⟨g, 0, none⟩) (hs : (wr.cell? ⟨g, j, none⟩).isSome = true) : MarkTo (wr.setCell ⟨g, j, none⟩ (mk i)) S i (j + 1) := by
  intro k hk g' hg'
  rw [hg] at hg'
  simp only [Option.some.injEq, Addr.mk.injEq, and_true] at hg'
  subst hg'
  by_cases e : k = j
  · subst e
    obtain ⟨u, hu⟩ := Option.isSome_iff_exists.1 hs
    exact World.cell?_setCell_same _ _ _ hu
  · rw [World.cell?_setCell_other _ _ _ _ (fun e' => e (by simp only [Addr.mk.injEq] at e'; exact e'.2.1.symm))]
    exact h k (by omega) g hg
/-- a slice that is grown: it began as list i, or lies in a block of its own -/
def OneI (S : List Sl) (aL : Option Addr) (nL i : Nat) (a : Option Addr) : Prop := blk? a = blk? (slAt S i).1 ∨ ∃ b, blk? a = some b ∧ (∀ t, t < nL → blk? (slAt S t).1 ≠ some b) ∧ ∀ x, aL = some x → x.block ≠ b
theorem blk_none {a : Option Addr} (h : blk? a = none) : a = none := by cases a with | none => rfl | some x => cases h
theorem OneI.mark {w0 wr : World} {B : Nat} {aL : Option Addr} {nL cL i : Nat} {S : List Sl} {a : Option Addr} (h : OneI S aL nL i a) (hI : ApI w0 B aL nL cL S wr) (hD : Dist aL nL S) (hi : i < nL) {n : Nat} (hn : (slAt S i).2.1 ≤ n) : ∀ t, t < nL → blk? a ≠ blk? (slAt S t).1 ∨ (slAt S t).2.1 ≤ n := by
  intro t ht
  by_cases e : blk? a = blk? (slAt S t).1
  · right
    cases hb : blk? (slAt S t).1 with
    | none =>
      have h0 := blk_none hb
      obtain ⟨f1, f2, f3⟩ := hI.free t ht
      rcases f3 with ⟨_, f4⟩ | ⟨g, f4, _⟩
      · omega
      · rw [h0] at f4; cases f4
    | some b =>
      by_cases et : t = i
      · subst et; exact hn
      · exfalso
        rw [hb] at e
        rcases h with h | ⟨b', hb', hx, _⟩
        · exact hD.two i t b hi ht (fun e' => et e'.symm) (by rw [← h, e]) hb
        · rw [e] at hb'
          have hbb : b = b' := Option.some.inj hb'
          subst hbb
          exact hx t ht hb
  · exact .inl e
theorem OneI.out {aL : Option Addr} {nL i : Nat} {S : List Sl} {a : Option Addr} (h : OneI S aL nL i a) (hD : Dist aL nL S) (hi : i < nL) : ∀ b x, blk? a = some b → aL = some x → x.block ≠ b := by
  intro b x hb hx
  rcases h with h | ⟨b', hb', _, ho⟩
  · exact hD.out i b x hi (by rw [← h]; exact hb) hx
  · have hbb : b' = b := Option.some.inj (hb'.symm.trans hb)
    subst hbb
    exact ho x hx
theorem OneI.next {w0 wr : World} {B : Nat} {aL : Option Addr} {nL cL i : Nat} {S : List Sl} {a a' : Option Addr} (h : OneI S aL nL i a) (hI : ApI w0 B aL nL cL S wr) (hi : i < nL) (hn : blk? a' = blk? a ∨ ∃ b, blk? a' = some b ∧ wr.heap.size ≤ b) : OneI S aL nL i a' := by
  rcases hn with hn | ⟨b, hb, hs⟩
  · rcases h with h | ⟨b', hb', h2, h3⟩
    · exact .inl (hn.trans h)
    · exact .inr ⟨b', hn.trans hb', h2, h3⟩
  · refine .inr ⟨b, hb, fun t ht e => ?_, fun x hx e => ?_⟩
    · obtain ⟨f1, f2, f3⟩ := hI.free t ht
      rcases f3 with ⟨f4, _⟩ | ⟨g, f4, _, f5, _⟩
      · rw [f4] at e; cases e
      · rw [f4] at e
        have hgb : g = b := Option.some.inj e
        omega
    · obtain ⟨b', off, hb', hc⟩ := hI.at i hi
      have hlt := World.block_lt_of_cell? (w := wr) (a := ⟨b', off + i, none⟩) hc
      rw [hb'] at hx
      have hxx := Option.some.inj hx
      subst hxx
      have : b' = b := e
      simp only at hlt
      omega
theorem ApI.below {w0 wr w' : World} {B : Nat} {aL : Option Addr} {nL cL : Nat} {S : List Sl} (h : ApI w0 B aL nL cL S wr) (hB : B ≤ wr.heap.size) (k : Below wr.heap.size wr w') : ApI w0 B aL nL cL S w' :=
  ⟨h.bel.trans (k.mono hB), (Below.keeps k).sl h.outer, fun i hi => (h.free i hi).below k⟩
theorem Marks.below {wr w' : World} {S : List Sl} {m : Nat} (h : Marks wr S m) (k : Below wr.heap.size wr w') : Marks w' S m := fun t ht j hj g hg => Below.keeps k _ _ (h t ht j hj g hg)
section
variable {P : Program} {ops : Array Oper} {rest : List Oper} {o : Oper} {a : Act} {w : World} {Q : Exit → Act → World → Prop}
theorem wpList_app_free (hgd : o.guard = none) (s x : Operand) (t : TypeId) (ho : o.op = .call { callee := .builtin .append, args := #[s, x], argTypes := #[t, t] })
    (e : TypeId) (ht : P.underlying t = some (.slice e)) (hi : (P.info? e).map (fun i => (i.zero, i.size, i.bytes)) = some (some (.int .u8 0), 1, 1)) (B : Nat) (hB : B ≤ w.heap.size)
    {a1 : Option Addr} {n c : Nat} (hs : a.eval s = .slice a1 n c) (hf : Free w B a1 n c) {ad : Addr} {m c2 : Nat} (hx : a.eval x = .slice (some ad) m c2) (news : List Value) (hsrc : IsSl w 1 (some ad) m c2 news) (h1 : ∀ u ∈ news, u.oneCell' = true) (hb : n + m ≤ 140737488355328)
    (h : ∀ a' c' w', Free w' B a' (n + m) c' → Chg B a1 n w w' → (blk? a' = blk? a1 ∨ ∃ b, blk? a' = some b ∧ w.heap.size ≤ b) → wpList P ops Q rest (a.put o.dst (.slice a' (n + m) c')) w') : wpList P ops Q (o :: rest) a w := by
  refine wpList_plain hgd fun K hK => ?_
  obtain ⟨a', c', w', hr, h2, h3, h4⟩ := run_app_free (P := P) w t o.type e ht hi B hB a1 n c hf ad m c2 news (by have := hsrc.1; omega) (fun j v hj => by
    obtain ⟨x, hx, hc⟩ := hsrc.2.2.2.1 j v hj
    cases hx
    exact hc) h1 hb
  unfold Oper.wp execOp
  simp only [ho, resolve, invoke, builtin, Sem.run_bind, Sem.run_pure, Result.andThen_ok, List.map_toArray, List.map_cons, List.map_nil, hs, hx, hr]
  exact hK _ _ (h a' c' w' h2 h3 h4)
theorem wpList_zeros_free (hgd : o.guard = none) (s x : Operand) (t tn : TypeId) (ho : o.op = .call { callee := .builtin .append, args := #[s, x], argTypes := #[t, tn] })
    (e : TypeId) (kn : IntKind) (ht : P.underlying t = some (.slice e)) (htn : P.underlying tn = some (.int kn)) (hi : (P.info? e).map (fun i => (i.zero, i.size, i.bytes)) = some (some (.int .u8 0), 1, 1)) (B : Nat) (hB : B ≤ w.heap.size)
    {a1 : Option Addr} {n c : Nat} (hs : a.eval s = .slice a1 n c) (hf : Free w B a1 n c) (m : Nat) (hx : a.eval x = .int .i64 (m : Int)) (h0 : 0 < m) (hm : m ≤ 1000000) (hb : n + m ≤ 140737488355328)
    (h : ∀ a' c' w', Chg B a1 n w w' → wpList P ops Q rest (a.put o.dst (.slice a' (n + m) c')) w') : wpList P ops Q (o :: rest) a w := by
  refine wpList_plain hgd fun K hK => ?_
  obtain ⟨a', c', w', hr, h2⟩ := run_zeros_free (P := P) w t tn o.type e kn ht htn hi B hB a1 n c hf m h0 hm hb
  unfold Oper.wp execOp
  simp only [ho, resolve, invoke, builtin, Sem.run_bind, Sem.run_pure, Result.andThen_ok, List.map_toArray, List.map_cons, List.map_nil, hs, hx, hr]
  exact hK _ _ (h a' c' w' h2)
end
set_option maxRecDepth 100000 in
set_option maxHeartbeats 3200000 in
theorem Apart_any (aL : Option Addr) (nL cL : Nat) (S : List Sl) (w : World) (B : Nat) (hB : B ≤ w.heap.size) (hI : ApI w B aL nL cL S w) (hD : Dist aL nL S) (hn : nL ≤ 100) (hlen : ∀ i, i < nL → (slAt S i).2.1 ≤ 70368744177664) :
    Calls Try.prog 13 #[.slice aL nL cL] w fun e w' => e = .returned (.bool true) ∧ Below B w w' := by
  have hcap : nL ≤ cL := hI.outer.2.1
  have hmax : cL ≤ 9223372036854775807 := hI.outer.2.2.1
  have HI := Lib.hid hI; have HD := Lib.hid hD; have HN := Lib.hid hlen; clear hI hD hlen
  go_enter Try.func13, Try.ntmps13
  go_wp2
  go_loopw [3] (fun i wr => ∃ k : Nat, k ≤ nL ∧ i = .int .i64 k ∧ Hid (ApI w B aL nL cL S wr) ∧ Hid (Marks wr S k)) (fun i _ => nL - (intOf i).toNat)
  case atStart => exact ⟨0, Nat.zero_le _, rfl, HI, Lib.hid (fun t ht => absurd ht (Nat.not_lt_zero t))⟩
  case round =>
    obtain ⟨k, hk, rfl, hi, hm⟩ := hrel
    by_cases hlt : k < nL
    · have hki : (k : Int) < nL := by omega
      have hw1 : IntKind.i64.wrap (7 * (k : Int)) = 7 * (k : Int) := IntWalk.i64_in _ (by omega)
      obtain ⟨b, off, rfl, hc⟩ := hi.out.at k hlt
      have hnk := HN.out k hlt
      have hfk := hi.out.free k hlt
      generalize hs : slAt S k = s at *
      obtain ⟨a1, n1, c1⟩ := s
      simp only [slV] at hc hnk hfk
      have HS := Lib.hid hs; clear hs
      have HF := Lib.hid hfk; clear hfk
      have hc0 := hc
      go_wp2
      go_loopw [4] (fun i wr => ∃ j : Nat, j ≤ n1 ∧ i = .int .i64 j ∧ Hid (ApI w B (some ⟨b, off, none⟩) nL cL S wr) ∧ Hid (Marks wr S k) ∧ Hid (MarkTo wr S k j)) (fun i _ => n1 - (intOf i).toNat)
      case atStart => exact ⟨0, Nat.zero_le _, rfl, hi, hm, Lib.hid (fun j hj => absurd hj (Nat.not_lt_zero j))⟩
      case round =>
        clear hc hc0 hi hm
        obtain ⟨j, hj, rfl, hi, hm, hmt⟩ := hrel
        obtain ⟨b', off', hbb, hc⟩ := hi.out.at k hlt
        obtain ⟨rfl, rfl⟩ : b' = b ∧ off' = off := by simpa using hbb.symm
        rw [HS.out] at hc
        simp only [slV] at hc
        clear hbb
        by_cases hjl : j < n1
        · have hji : (j : Int) < n1 := by omega
          obtain ⟨f1, f2, f3⟩ := (by have := hi.out.free k hlt; rw [HS.out] at this; exact this : Free wr B a1 n1 c1)
          rcases f3 with ⟨rfl, f4⟩ | ⟨g, rfl, g1, g2, g3⟩
          · omega
          · have hg : (slAt S k).1 = some ⟨g, 0, none⟩ := by rw [HS.out]
            obtain ⟨v0, hv0⟩ := Option.isSome_iff_exists.1 (g3 j (by omega)).1
            have hfz := (g3 j (by omega)).2
            have hi2 := hi.out.store HD.out hlt hg g1 (j := j) (mk k)
            have hm2 := hm.out.store HD.out hlt hg (j := j) (mk k)
            have hmt2 := hmt.out.store hg (g3 j (by omega)).1
            have HI2 := Lib.hid hi2; have HM2 := Lib.hid hm2; have HMT2 := Lib.hid hmt2
            clear hi2 hm2 hmt2 hg g3
            go_wp2
            go_round
            case rel => exact ⟨j + 1, by omega, by go_num, HI2, HM2, HMT2⟩
            case measure => simp [intOf]; omega
        · obtain rfl : j = n1 := by omega
          have hji : ¬ (j : Int) < j := by omega
          have hmn : Marks wr S (k + 1) := fun t ht => by
            by_cases e : t = k
            · subst e; rw [HS.out]; exact hmt.out
            · exact hm.out t (by omega)
          have HMN := Lib.hid hmn; clear hmn
          go_wp2
          go_round
          case rel => exact ⟨k + 1, by omega, by go_num, hi, HMN⟩
          case measure => simp [intOf]; omega
    · obtain rfl : k = nL := by omega
      have hki : ¬ (k : Int) < k := by omega
      go_wp2
      go_loopw [5] (fun i wr => ∃ j : Nat, j ≤ k ∧ i = .int .i64 j ∧ Hid (ApI w B aL k cL S wr) ∧ Hid (Marks wr S k)) (fun i _ => k - (intOf i).toNat)
      case atStart => exact ⟨0, Nat.zero_le _, rfl, hi, hm⟩
      case round =>
        clear hi hm
        obtain ⟨i, hik, rfl, hi, hm⟩ := hrel
        by_cases hlt2 : i < k
        · have hii : (i : Int) < k := by omega
          have hnk := HN.out i hlt2
          obtain ⟨b, off, rfl, hc⟩ := hi.out.at i hlt2
          have hfk := hi.out.free i hlt2
          have hone : OneI S (some ⟨b, off, none⟩) k i (slAt S i).1 := .inl rfl
          have hle : (slAt S i).2.1 ≤ (slAt S i).2.1 := Nat.le_refl _
          generalize hs : slAt S i = s at hnk hc hfk hone hle
          obtain ⟨a1, n1, c1⟩ := s
          simp only [slV] at hc hnk hfk hone hle
          have HS := Lib.hid hs; clear hs
          have HF := Lib.hid hfk; have HONE := Lib.hid hone; clear hfk hone hle
          have hw2 : IntKind.i64.wrap (128 + (i : Int)) = 128 + (i : Int) := IntWalk.i64_in _ (by omega)
          go_wp2
          go_loopw [6, 7] (fun v x wr => ∃ (j : Nat) (a2 : Option Addr) (c2 : Nat), j ≤ 16 ∧ x = .int .i64 j ∧ v = .slice a2 (n1 + j) c2 ∧ Hid (Free wr B a2 (n1 + j) c2) ∧ Hid (OneI S (some ⟨b, off, none⟩) k i a2) ∧ Hid (ApI w B (some ⟨b, off, none⟩) k cL S wr) ∧ Hid (Marks wr S k)) (fun _ x _ => 16 - (intOf x).toNat)
          case atStart => exact ⟨0, a1, c1, Nat.zero_le _, rfl, rfl, HF, HONE, hi, hm⟩
          case round =>
            clear hc hi hm HF
            obtain ⟨j, a2, c2, hj, rfl, rfl, hf, ho, hi, hm⟩ := hrel
            have hBr := Nat.le_trans hB hi.out.bel.size
            by_cases hjl : j < 16
            · have hji : (j : Int) < 16 := by omega
              go_wp2_with (at_builtin; refine wpList_app_free (w := wr.alloc (.cells #[.int .u8 (128 + (i : Int))] 5)) rfl (.tmp 50) (.tmp 54) 22 rfl 5 Try.underlying22 infoU8 B (by simp; omega) rfl (by exact hf.out.below ((Below.refl _ _).alloc (Nat.le_refl _) _)) rfl _ (isSl_new wr 5 1 1 #[.int .u8 (128 + (i : Int))] rfl (by unfold maxLen; omega)) (by simp [Value.oneCell']) (by omega) ?_; intro a3 c3 w3 hf3 hch3 hbk3)
              have hI1 := hi.out.below hBr ((Below.refl _ _).alloc (Nat.le_refl _) (.cells #[.int .u8 (128 + (i : Int))] 5))
              have hm1 := hm.out.below ((Below.refl _ _).alloc (Nat.le_refl _) (.cells #[.int .u8 (128 + (i : Int))] 5))
              have hle : (slAt S i).2.1 ≤ n1 + j := by rw [HS.out]; exact Nat.le_add_right _ _
              refine ⟨⟨j + 1, a3, c3, by omega, by go_num, rfl, Lib.hid hf3, Lib.hid (ho.out.next hI1 hlt2 hbk3), Lib.hid (hI1.chg hch3 (ho.out.out HD.out hlt2)), Lib.hid (hm1.chg hch3 (ho.out.mark hI1 HD.out hlt2 hle))⟩, by simp [intOf]; omega⟩
            · obtain rfl : j = 16 := by omega
              have hji : ¬ (16 : Int) < 16 := by omega
              obtain ⟨b', off', hbb, hc⟩ := hi.out.at i hlt2
              obtain ⟨rfl, rfl⟩ : b' = b ∧ off' = off := by simpa using hbb.symm
              rw [HS.out] at hc
              simp only [slV] at hc
              clear hbb
              have hF2 : Free wr B a1 n1 c1 := by have := hi.out.free i hlt2; rw [HS.out] at this; exact this
              have HF2 := Lib.hid hF2; clear hF2
              go_wp2_with (at_builtin; refine wpList_zeros_free rfl (.tmp 60) _ 22 3 rfl 5 .i64 Try.underlying22 Try.underlying3 infoU8 B hBr rfl (by exact HF2.out) 600 rfl (by decide) (by decide) (by omega) ?_; intro a4 c4 w4 hch4; have HCH := Lib.hid hch4; clear hch4; have HI4 := Lib.hid (hi.out.chg HCH.out (HONE.out.out HD.out hlt2)); have HM4 := Lib.hid (hm.out.chg HCH.out (HONE.out.mark hi.out HD.out hlt2 (by rw [HS.out]; exact Nat.le_refl _))); obtain ⟨b5, off5, hbb5, hc5⟩ := HI4.out.at i hlt2; obtain ⟨rfl, rfl⟩ : b5 = b' ∧ off5 = off' := (by simpa using hbb5.symm); rw [HS.out] at hc5; simp only [slV] at hc5; clear hbb5 hc)
              go_round
              case rel => exact ⟨i + 1, by omega, by go_num, HI4, HM4⟩
              case measure => simp [intOf]; omega
        · obtain rfl : i = k := by omega
          have hii : ¬ (i : Int) < i := by omega
          go_wp2
          go_loopw [9] (fun x wr => ∃ j : Nat, j ≤ i ∧ x = .int .i64 j ∧ Hid (ApI w B aL i cL S wr) ∧ Hid (Marks wr S i)) (fun x _ => i - (intOf x).toNat)
          case atStart => exact ⟨0, Nat.zero_le _, rfl, hi, hm⟩
          case round =>
            clear hi hm
            obtain ⟨t, htk, rfl, hi, hm⟩ := hrel
            by_cases hlt3 : t < i
            · have hti : (t : Int) < i := by omega
              have hw1 : IntKind.i64.wrap (7 * (t : Int)) = 7 * (t : Int) := IntWalk.i64_in _ (by omega)
              have hnk := HN.out t hlt3
              obtain ⟨b, off, rfl, hc⟩ := hi.out.at t hlt3
              have hmt := hm.out t hlt3
              have hfk := hi.out.free t hlt3
              unfold MarkTo at hmt
              generalize slAt S t = s at *
              obtain ⟨a1, n1, c1⟩ := s
              simp only [slV] at hc hnk hfk hmt
              have HF := Lib.hid hfk; clear hfk
              have HMT := Lib.hid hmt; clear hmt
              have hc0 := hc
              go_wp2
              go_loop [10] (fun x => ∃ j : Nat, j ≤ n1 ∧ x = .int .i64 j) (fun x => n1 - (intOf x).toNat)
              case atStart => exact ⟨0, Nat.zero_le _, rfl⟩
              case round =>
                obtain ⟨j, hj, rfl⟩ := hrel
                by_cases hjl : j < n1
                · have hji : (j : Int) < n1 := by omega
                  obtain ⟨f1, f2, f3⟩ := HF.out
                  rcases f3 with ⟨rfl, f4⟩ | ⟨g, rfl, g1, g2, g3⟩
                  · omega
                  · have hv := HMT.out j hjl g rfl
                    unfold mk at hv
                    clear g3 hc0
                    go_wp2
                    go_round
                    case rel => exact ⟨j + 1, by omega, by go_num⟩
                    case measure => simp [intOf]; omega
                · obtain rfl : j = n1 := by omega
                  have hji : ¬ (j : Int) < j := by omega
                  go_wp2
                  go_round
                  case rel => exact ⟨t + 1, by omega, by go_num, hi, hm⟩
                  case measure => simp [intOf]; omega
            · obtain rfl : t = i := by omega
              have hti : ¬ (t : Int) < t := by omega
              go_wp2
              go_ret
              exact ⟨rfl, hi.out.bel⟩
end Go.Proofs.Ytbioidbbijmnjaa
