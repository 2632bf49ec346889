/-
  RecMemory: the law RecordMemory, walked.
-/
import Derived.Test.YtjchaogfmnabfaaDoorRecWLaws
import Derived.Test.YtjchaogfmnabfaaDoorApWalk
import Derived.Deep.AppendLies
namespace Go.Proofs.YtjchaogfmnabfaaDoor
set_option linter.unusedVariables false
set_option linter.unusedSimpArgs false
open Go.ChangeShapes Go.WideShapes Go.ChangeAt Go.RowKit
theorem blk_own (a : Option Addr) (n c : Nat) : (Value.slice a n c).ownBlock = blk? a := by cases a <;> rfl
/-- a row stays where its own block is not touched -/
theorem own_same {w w' : World} {base : Nat} {e : TypeId} {sz : Nat} {v : Value} {n : Nat} {xs : List Value} (h : w.ownsRow base e sz v n xs) (hk : ∀ k, v.ownBlock = some k → w'.heap[k]? = w.heap[k]?) : w'.ownsRow base e sz v n xs := by
  obtain ⟨h1, h2⟩ := h
  refine ⟨h1, ?_⟩
  rcases h2 with h2 | ⟨g, cap, cur, hv, hg, hh, r⟩
  · exact Or.inl h2
  · exact Or.inr ⟨g, cap, cur, hv, hg, by rw [hk g (by rw [hv]; rfl)]; exact hh, r⟩
theorem own_grown {w w' : World} {base : Nat} {e : TypeId} {sz : Nat} {v : Value} {n : Nat} {xs : List Value} {X : Option Nat} (h : w.ownsRow base e sz v n xs) (hg : w.grownBy w' X) (hX : ∀ k, v.ownBlock = some k → some k ≠ X) : w'.ownsRow base e sz v n xs :=
  own_same h fun k hk => hg.block k (h.lt k hk).2 (hX k hk)
theorem grown_trans {a b c : World} {X : Option Nat} (h : a.grownBy b X) (k : b.grownBy c X) : a.grownBy c X :=
  ⟨k.os.trans h.os, k.tape.trans h.tape, k.output.trans h.output, Nat.le_trans h.size k.size, fun j hj hX => (k.block j (Nat.lt_of_lt_of_le hj h.size) hX).trans (h.block j hj hX)⟩
theorem grown_alloc (w : World) (X : Option Nat) (o : Obj) : w.grownBy (w.alloc o) X := ⟨rfl, rfl, rfl, by simp, fun k hk _ => heap_alloc_old w _ hk⟩
theorem grown_set {w : World} {g : Nat} (j : Nat) (v : Value) : w.grownBy (w.setCell ⟨g, j, none⟩ v) (some g) :=
  ⟨rfl, rfl, rfl, by simp, fun k hk h => heap_setCell_other _ _ _ _ (fun e => h (by rw [show k = g from by simpa using e]))⟩
/-- an append onto a row that stands for X: new blocks and X alone -/
theorem grown_step {w0 wr w' : World} {X Y : Option Nat} (h : w0.grownBy wr X) (k : wr.grownBy w' Y) (hY : Y = X ∨ ∃ g, Y = some g ∧ w0.heap.size ≤ g) : w0.grownBy w' X := by
  refine ⟨k.os.trans h.os, k.tape.trans h.tape, k.output.trans h.output, Nat.le_trans h.size k.size, fun j hj hX => ?_⟩
  rw [k.block j (Nat.lt_of_lt_of_le hj h.size) ?_]
  · exact h.block j hj hX
  · rcases hY with rfl | ⟨g, rfl, hg⟩
    · exact hX
    · intro e
      have := Option.some.inj e
      omega
/-- a row of pairs that is written over -/
theorem own_set {w : World} {base g n c : Nat} {xs : List Value} (h : w.ownsRow base 39 2 (.slice (some ⟨g, 0, none⟩) n c) n xs) (j : Nat) (v : Value) :
    ∃ ys, (w.setCell ⟨g, j, none⟩ v).ownsRow base 39 2 (.slice (some ⟨g, 0, none⟩) n c) n ys := by
  obtain ⟨hl, h⟩ := h
  rcases h with ⟨hv, _⟩ | ⟨g', cap, cur, hv, hb, hh, hn, hm, hs, ht⟩
  · simp only [Value.slice.injEq] at hv
    cases hv.1
  · simp only [Value.slice.injEq, Option.some.injEq, Addr.mk.injEq, true_and, and_true] at hv
    obtain ⟨rfl, rfl⟩ := hv
    refine ⟨(cur.setIfInBounds j v).toList.take (n * 2), ?_, .inr ⟨g, c, cur.setIfInBounds j v, rfl, hb, heap_setCell_same _ _ _ _ _ _ hh, hn, hm, by rw [Array.size_setIfInBounds]; exact hs, rfl⟩⟩
    rw [List.length_take, Array.length_toList, Array.size_setIfInBounds, hs]
    have : n * 2 ≤ c * 2 := Nat.mul_le_mul_right _ hn
    omega
theorem own_there {w : World} {base g n c : Nat} {xs : List Value} (h : w.ownsRow base 39 2 (.slice (some ⟨g, 0, none⟩) n c) n xs) (j : Nat) (hj : j < n * 2) : (∃ v, w.cell? ⟨g, j, none⟩ = some v) ∧ w.frozen? ⟨g, j, none⟩ = false := by
  obtain ⟨hl, h⟩ := h
  rcases h with ⟨hv, _⟩ | ⟨g', cap, cur, hv, hb, hh, hn, hm, hs, ht⟩
  · simp only [Value.slice.injEq] at hv
    cases hv.1
  · simp only [Value.slice.injEq, Option.some.injEq, Addr.mk.injEq, true_and, and_true] at hv
    obtain ⟨rfl, rfl⟩ := hv
    have hle : n * 2 ≤ c * 2 := Nat.mul_le_mul_right _ hn
    have hlt : j < cur.size := by rw [hs]; omega
    exact ⟨⟨cur[j], by rw [cell_of_row _ _ _ _ _ _ hh]; simp [hlt]⟩, frozen_of_row _ _ _ _ _ hh⟩
theorem own_addr {w : World} {base : Nat} {e : TypeId} {sz : Nat} {a : Option Addr} {n c : Nat} {xs : List Value} (h : w.ownsRow base e sz (.slice a n c) n xs) (hn : 0 < n) : ∃ g, a = some ⟨g, 0, none⟩ := by
  obtain ⟨hl, h⟩ := h
  rcases h with ⟨hv, h0⟩ | ⟨g', cap, cur, hv, _⟩
  · omega
  · simp only [Value.slice.injEq, true_and] at hv
    exact ⟨g', hv.1⟩
section
variable {P : Program} {ops : Array Oper} {rest : List Oper} {o : Oper} {a : Act} {w : World} {Q : Exit → Act → World → Prop}
/-- append onto a row of the call's own: where the new row lies -/
theorem wpList_app_lies (hgd : o.guard = none) (s x : Operand) (t : TypeId) (ho : o.op = .call { callee := .builtin .append, args := #[s, x], argTypes := #[t, t] })
    (base : Nat) (e : TypeId) (z : Value) (sz bytes : Nat) (ht : P.underlying t = some (.slice e)) (hi : (P.info? e).map (fun i => (i.zero, i.size, i.bytes)) = some (some z, sz, bytes))
    (hzs : z.cells.size = sz) (hsz : 0 < sz) (hb0 : 0 < bytes) {a1 : Option Addr} {n c1 : Nat} {xs : List Value} (hs : a.eval s = .slice a1 n c1) (hown : w.ownsRow base e sz (.slice a1 n c1) n xs)
    {ad : Addr} {m c2 : Nat} {news : List Value} (hx : a.eval x = .slice (some ad) m c2) (hsrc : IsSl w sz (some ad) m c2 news) (h1 : ∀ u ∈ news, u.oneCell' = true) (hm : 0 < m)
    (hbytes : (n + m) * bytes ≤ 140737488355328) (hbase : base ≤ w.heap.size)
    (h : ∀ a' c' w', w'.ownsRow base e sz (.slice a' (n + m) c') (n + m) (xs ++ news) → w.grownBy w' (blk? a1) → (blk? a' = blk? a1 ∨ blk? a' = some w.heap.size) → wpList P ops Q rest (a.put o.dst (.slice a' (n + m) c')) w') :
    wpList P ops Q (o :: rest) a w := by
  obtain ⟨i, hi, hz0, hz1, hz2⟩ := info_parts hi
  have hle : n + m ≤ (n + m) * bytes := Nat.le_mul_of_pos_right _ hb0
  refine wpList_append_lies w hgd s x t ho base e i z sz bytes ht hi hz0 hz1 hz2 hzs hsz (.slice a1 n c1) n xs hs hown ad m c2 news hx hsrc.1 (fun j u hj => ?_) h1 hm (by unfold maxLen; omega) hbytes hbase w.heap.size rfl (fun g cap w' h2 h3 h4 _ => ?_)
  · obtain ⟨x, hx, hc⟩ := hsrc.2.2.2.1 j u hj
    cases hx
    exact hc
  · rw [blk_own] at h3 h4
    refine h _ _ _ h2 h3 ?_
    rcases h4 with h4 | h4
    · exact .inl h4.symm
    · exact .inr (by rw [h4]; rfl)
end
/-- what is written, read again -/
theorem write_read (l : List Pr) : ∃ ps, Plain.read (Plain.write l).1 = some ps ∧ (Plain.write l).1.length ≤ 1048576 := by
  rcases write_cases l with ⟨code, _, hw⟩ | ⟨hw, hrd, hlen, hs⟩
  · exact ⟨[], by rw [hw]; rfl, by rw [hw]; simp⟩
  · refine ⟨l, ?_, by rw [hw]; simp only; rw [hlen]; exact hs⟩
    rw [hw]
    have := readOut_ok (l.flatMap recBytes) (by rw [hrd])
    rw [hrd] at this
    exact this
theorem ReadRes.got {w w' : World} {ps : List Pr} {e : Ending} (h : ReadRes w (some ps) e w') : ∃ a n c, e = .returned (.tuple #[.slice a n c, .int .i64 0]) ∧ w'.ownsRow w.heap.size 39 2 (.slice a n c) n (ps.flatMap prCells) ∧ Below w.heap.size w w' := by
  obtain ⟨hb, a, n, c, he, ho⟩ := h
  exact ⟨a, n, c, he, ho, hb⟩
theorem more_new (w : World) : IsSl (w.alloc (.cells #[.string ⟨#[109, 111, 114, 101]⟩, .string ⟨#[]⟩] 39)) 2 (some ⟨w.heap.size, 0, none⟩) 1 1 ([([109, 111, 114, 101], [])].flatMap prCells) := by
  have := isSl_new w 39 2 1 #[.string ⟨#[109, 111, 114, 101]⟩, .string ⟨#[]⟩] rfl (by decide)
  simpa [prCells] using this
set_option maxRecDepth 100000 in
set_option maxHeartbeats 3200000 in
theorem RecordMemory_walk (a : Option Addr) (n c : Nat) (l : List Pr) (w : World) (ev : Value) (hpow : Pow10 w) (hE : ErrIs w ev) (h : Prs w a n c l) (hq : ∀ x ∈ l, x.1.length ≤ 140737488351232 ∧ x.2.length ≤ 140737488351232) (hc : c * 32 ≤ 140737488351232) :
    Calls Tryd.prog 8 #[.slice a n c] w fun e w' => e = .returned (.bool true) ∧ Below w.heap.size w w' := by
  have hl := h.len; have hcap := h.cap
  have HE := Lib.hid hE; have HH := Lib.hid h; have HP := Lib.hid hpow; have HQ := Lib.hid hq; clear hE h hl hpow hq
  obtain ⟨ps, hps, hbl⟩ := write_read l
  generalize hr : Plain.write l = r at *
  obtain ⟨bs, code⟩ := r
  simp only at hps hbl
  have HR := Lib.hid hr; have HPS := Lib.hid hps; clear hr hps
  have hpl := readOut_len bs
  rw [HPS.out] at hpl
  simp only [readOut] at hpl
  have hce : (code != code) = false := bne_f rfl
  go_enter Tryd.func8, Tryd.ntmps8
  go_wp2_with (go_at_call 14; refine (Alive5_any w ev HE.out).mono ?_; rintro e w1 ⟨rfl, hb1⟩; have HB1 := Lib.hid hb1; clear hb1)
  refine (Write_any a n c l w1 (by exact HP.out.below HB1.out) (by exact Below.prs HB1.out HH.out) HQ.out).mono ?_; rintro e w2 ⟨a2, n2, c2, rfl, ho2, hb2⟩; rw [HR.out] at ho2 ⊢; have HO2 := Lib.hid ho2; have HB2 := Lib.hid (Below.seq HB1.out hb2); have t2 := hb2.size; clear ho2 hb2
  go_wp2_with fail
  refine (Write_any a n c l w2 (by exact HP.out.below HB2.out) (by exact Below.prs HB2.out HH.out) HQ.out).mono ?_; rintro e w3 ⟨a3, n3, c3, rfl, ho3, hb3⟩; rw [HR.out] at ho3 ⊢; have HO3 := Lib.hid ho3; have HB3 := Lib.hid (Below.seq HB2.out hb3); have HO23 := Lib.hid (own_below2 HO2.out hb3); have t3 := hb3.size; clear ho3 hb3
  go_wp2_with fail
  refine (RefWrite_any a n c l w3 (by exact Below.prs HB3.out HH.out) HQ.out).mono ?_; rintro e w4 ⟨a4, n4, c4, rfl, ho4, hb4⟩; rw [HR.out] at ho4 ⊢; have HO4 := Lib.hid ho4; have HB4 := Lib.hid (Below.seq HB3.out hb4); have HO24 := Lib.hid (own_below2 HO23.out hb4); have HO34 := Lib.hid (own_below2 HO3.out hb4); have hn4 : n4 ≤ 1048576 := (by rw [← own_len ho4]; exact hbl); have t4 := hb4.size; clear ho4 hb4
  go_wp2_with fail
  refine (SameBytes_any a2 a4 n2 n4 c2 c4 bs bs w4 (by exact own_bs HO24.out) (by exact own_bs HO4.out)).mono ?_; rintro e w5 ⟨rfl, hb5⟩; have HB45 := Lib.hid hb5; clear hb5
  go_wp2_with fail
  refine (SameBytes_any a3 a4 n3 n4 c3 c4 bs bs w5 (by exact own_bs (own_below2 HO34.out HB45.out)) (by exact own_bs (own_below2 HO4.out HB45.out))).mono ?_; rintro e w6 ⟨rfl, hb6⟩; have HB46 := Lib.hid (Below.seq HB45.out hb6); have HB6 := Lib.hid (Below.seq HB4.out HB46.out); clear hb6 HB45
  have HO26 := Lib.hid (own_below2 HO24.out HB46.out); have HO36 := Lib.hid (own_below2 HO34.out HB46.out); have HO46 := Lib.hid (own_below2 HO4.out HB46.out)
  go_wp2_with fail
  refine (Read_any a4 n4 c4 bs w6 ev (by exact own_bs HO46.out) (by omega) (by exact HE.out.below HB6.out)).mono ?_; rintro e w7 hres; rw [HPS.out] at hres; obtain ⟨ax, nx, cx, rfl, hox, hb7⟩ := hres.got; have HOX := Lib.hid hox; have HB67 := Lib.hid hb7; have HB7 := Lib.hid (Below.seq HB6.out hb7); clear hres hox hb7
  have HO27 := Lib.hid (own_below2 HO26.out HB67.out); have HO37 := Lib.hid (own_below2 HO36.out HB67.out); have HO47 := Lib.hid (own_below2 HO46.out HB67.out)
  go_wp2_with fail
  refine (Read_any a4 n4 c4 bs w7 ev (by exact own_bs HO47.out) (by omega) (by exact HE.out.below HB7.out)).mono ?_; rintro e w8 hres; rw [HPS.out] at hres; obtain ⟨ay, ny, cy, rfl, hoy, hb8⟩ := hres.got; have HOY := Lib.hid hoy; have HB78 := Lib.hid hb8; have HB8 := Lib.hid (Below.seq HB7.out hb8); clear hres hoy hb8
  have HO28 := Lib.hid (own_below2 HO27.out HB78.out); have HO38 := Lib.hid (own_below2 HO37.out HB78.out); have HO48 := Lib.hid (own_below2 HO47.out HB78.out); have HOX8 := Lib.hid (own_below2 HOX.out HB78.out)
  go_wp2_with fail
  refine (RefRead_any a4 n4 c4 bs w8 (by exact own_bs HO48.out) (by omega)).mono ?_; rintro e w9 hres; rw [HPS.out] at hres; obtain ⟨az, nz, cz, rfl, hoz, hb9⟩ := hres.got; have HOZ := Lib.hid hoz; have HB89 := Lib.hid hb9; have HB9 := Lib.hid (Below.seq HB8.out hb9); clear hres hoz hb9
  have HO29 := Lib.hid (own_below2 HO28.out HB89.out); have HO39 := Lib.hid (own_below2 HO38.out HB89.out); have HO49 := Lib.hid (own_below2 HO48.out HB89.out); have HOX9 := Lib.hid (own_below2 HOX8.out HB89.out); have HOY9 := Lib.hid (own_below2 HOY.out HB89.out)
  go_wp2_with fail
  refine (SamePairs_any ax az nx nz cx cz ps ps w9 (by exact own_prs HOX9.out) (by exact own_prs HOZ.out)).mono ?_; rintro e w10 ⟨rfl, hb10⟩; have HB910 := Lib.hid hb10; clear hb10
  go_wp2_with fail
  refine (SamePairs_any ay az ny nz cy cz ps ps w10 (by exact own_prs (own_below2 HOY9.out HB910.out)) (by exact own_prs (own_below2 HOZ.out HB910.out))).mono ?_; rintro e w11 ⟨rfl, hb11⟩; have HB911 := Lib.hid (Below.seq HB910.out hb11); have HB11 := Lib.hid (Below.seq HB9.out HB911.out); clear hb11 HB910
  have HA := Lib.hid (own_below2 HO29.out HB911.out); have HB := Lib.hid (own_below2 HO39.out HB911.out); have HC := Lib.hid (own_below2 HO49.out HB911.out); have HX := Lib.hid (own_below2 HOX9.out HB911.out); have HY := Lib.hid (own_below2 HOY9.out HB911.out); have HZ := Lib.hid (own_below2 HOZ.out HB911.out)
  have hnx : nx = ps.length := (own_prs HX.out).len.symm
  have hnx2 : nx ≤ 1048576 := by omega
  have t6 := HB46.out.size; have t7 := HB67.out.size; have t8 := HB78.out.size; have t9 := HB89.out.size; have t11 := HB911.out.size
  have s1 := HB1.out.size; have s2 := HB2.out.size; have s3 := HB3.out.size; have s4 := HB4.out.size; have s6 := HB6.out.size; have s7 := HB7.out.size; have s8 := HB8.out.size; have s9 := HB9.out.size; have s11 := HB11.out.size
  have HLA := Lib.hid HO2.out.lt; have HLB := Lib.hid HO3.out.lt; have HLC := Lib.hid HO4.out.lt; have HLX := Lib.hid HOX.out.lt; have HLY := Lib.hid HOY.out.lt; have HLZ := Lib.hid HOZ.out.lt
  simp only [blk_own] at HLA HLB HLC HLX HLY HLZ
  clear HO2 HO3 HO4 HO23 HO24 HO34 HO26 HO36 HO46 HO27 HO37 HO47 HO28 HO38 HO48 HO29 HO39 HO49 HOX HOX8 HOX9 HOY HOY9 HOZ hnx
  go_wp2
  go_loopw [15] (fun i wr => ∃ (k : Nat) (xs : List Value), k ≤ nx ∧ i = .int .i64 k ∧ Hid (w11.grownBy wr (blk? ax)) ∧ Hid (wr.ownsRow w6.heap.size 39 2 (.slice ax nx cx) nx xs)) (fun i _ => nx - (intOf i).toNat)
  case atStart => exact ⟨0, _, Nat.zero_le _, rfl, Lib.hid ⟨rfl, rfl, rfl, Nat.le_refl _, fun _ _ _ => rfl⟩, HX⟩
  case round =>
    obtain ⟨k, xs, hk, rfl, hg, ho⟩ := hrel
    by_cases hlt : k < nx
    · obtain ⟨g, rfl⟩ := own_addr ho.out (by omega)
      have hki : (k : Int) < nx := by omega
      obtain ⟨⟨v0, hv0⟩, hfz⟩ := own_there ho.out (k * 2) (by omega)
      obtain ⟨ys, hys⟩ := own_set ho.out (k * 2) (.string ⟨#[120]⟩)
      have hcx : nx ≤ cx := (own_isSl ho.out).2.1
      have HYS := Lib.hid hys; clear hys
      have HG := Lib.hid (grown_trans hg.out (grown_set (w := wr) (k * 2) (.string ⟨#[120]⟩)))
      go_wp2
      go_round
      case rel => exact ⟨k + 1, ys, by omega, by go_num, HG, HYS⟩
      case measure => simp [intOf]; omega
    · obtain rfl : k = nx := by omega
      have hki : ¬ (k : Int) < k := by omega
      obtain ⟨i0, hi0, hz0, hz1, hz2⟩ := info_parts infoPair
      go_wp2
      go_loopw [16, 17] (fun v i wr => ∃ (j : Nat) (am : Option Addr) (cm : Nat) (xs : List Value), j ≤ 9 ∧ i = .int .i64 j ∧ v = .slice am (k + j) cm ∧ Hid (w11.grownBy wr (blk? ax)) ∧ Hid (wr.ownsRow w6.heap.size 39 2 (.slice am (k + j) cm) (k + j) xs) ∧ Hid (blk? am = blk? ax ∨ ∃ g, blk? am = some g ∧ w11.heap.size ≤ g)) (fun _ i _ => 9 - (intOf i).toNat)
      case atStart => exact ⟨0, ax, cx, xs, Nat.zero_le _, rfl, rfl, hg, ho, Lib.hid (.inl rfl)⟩
      case round =>
        clear ho hg
        obtain ⟨j, am, cm, xs2, hj, rfl, rfl, hg, ho, hb⟩ := hrel
        by_cases hlt9 : j < 9
        · have hji : (j : Int) < 9 := by omega
          have hbs : w6.heap.size ≤ wr.heap.size := Nat.le_trans (by omega) hg.out.size
          go_wp2_with (at_builtin; refine wpList_app_lies rfl (.tmp 90) (.tmp 92) 25 rfl w6.heap.size 39 _ 2 32 Tryd.underlying25 infoPair rfl (by decide) (by decide) rfl (World.ownsRow.alloc ho.out _) rfl (more_new wr) (prs_oneCell _) (by decide) (by omega) (by simp; omega) ?_; intro a3' c3' w3' ho3 hg3 hb3)
          have hnew : blk? a3' = blk? ax ∨ ∃ g, blk? a3' = some g ∧ w11.heap.size ≤ g := by
            rcases hb3 with hb3 | hb3
            · rw [hb3]; exact hb.out
            · right; exact ⟨_, hb3, by have := hg.out.size; simp; omega⟩
          refine ⟨⟨j + 1, a3', c3', _, by omega, by go_num, rfl, Lib.hid (grown_step (grown_trans hg.out (grown_alloc wr _ _)) hg3 hb.out), Lib.hid ho3, Lib.hid hnew⟩, by simp [intOf]; omega⟩
        · obtain rfl : j = 9 := by omega
          have hji : ¬ (9 : Int) < 9 := by omega
          have hGA := own_grown HA.out hg.out (fun b hb e => by rw [blk_own] at hb; have := HLA.out b hb; have := HLX.out b e.symm; omega)
          have hGB := own_grown HB.out hg.out (fun b hb e => by rw [blk_own] at hb; have := HLB.out b hb; have := HLX.out b e.symm; omega)
          have hGC := own_grown HC.out hg.out (fun b hb e => by rw [blk_own] at hb; have := HLC.out b hb; have := HLX.out b e.symm; omega)
          have hGY := own_grown HY.out hg.out (fun b hb e => by rw [blk_own] at hb; have := HLY.out b hb; have := HLX.out b e.symm; omega)
          have hGZ := own_grown HZ.out hg.out (fun b hb e => by rw [blk_own] at hb; have := HLZ.out b hb; have := HLX.out b e.symm; omega)
          have HGA := Lib.hid hGA; have HGB := Lib.hid hGB; have HGC := Lib.hid hGC; have HGY := Lib.hid hGY; have HGZ := Lib.hid hGZ
          have hbel : Below w.heap.size w wr := HB11.out.trans ⟨hg.out.os, hg.out.tape, hg.out.output, hg.out.size, fun b hb => hg.out.block b (by omega) (fun e => by have := HLX.out b e.symm; omega)⟩
          have HBW := Lib.hid hbel
          clear hGA hGB hGC hGY hGZ hbel
          go_wp2_with fail
          refine (SamePairs_any ay az ny nz cy cz ps ps wr (by exact own_prs HGY.out) (by exact own_prs HGZ.out)).mono ?_; rintro e w12 ⟨rfl, hb12⟩; have HB12 := Lib.hid (Below.seq HBW.out hb12)
          have HFA := Lib.hid (own_below2 HGA.out hb12); have HFB := Lib.hid (own_below2 HGB.out hb12); have HFC := Lib.hid (own_below2 HGC.out hb12)
          clear hb12
          have hsz12 := HB12.out.size
          have hwe : Below w.heap.size w (w12.alloc (.cells #[.slice a2 n2 c2, .slice a3 n3 c3, .slice a4 n4 c4] 22)) := HB12.out.alloc hsz12 _
          have hI : ApI (w12.alloc (.cells #[.slice a2 n2 c2, .slice a3 n3 c3, .slice a4 n4 c4] 22)) w.heap.size (some ⟨w12.heap.size, 0, none⟩) 3 3 [(a2, n2, c2), (a3, n3, c3), (a4, n4, c4)] (w12.alloc (.cells #[.slice a2 n2 c2, .slice a3 n3 c3, .slice a4 n4 c4] 22)) := by
            refine ⟨Below.refl _ _, isSl_new w12 22 1 3 _ rfl (by unfold maxLen; omega), fun i hi => ?_⟩
            have k := (Below.refl w12.heap.size w12).alloc (Nat.le_refl _) (.cells #[.slice a2 n2 c2, .slice a3 n3 c3, .slice a4 n4 c4] 22)
            rcases (by omega : i = 0 ∨ i = 1 ∨ i = 2) with rfl | rfl | rfl
            · exact ((own_free HFA.out).base (by omega)).below k
            · exact ((own_free HFB.out).base (by omega)).below k
            · exact ((own_free HFC.out).base (by omega)).below k
          have hD : Dist (some ⟨w12.heap.size, 0, none⟩) 3 [(a2, n2, c2), (a3, n3, c3), (a4, n4, c4)] := by
            have hA := HLA.out; have hB := HLB.out; have hC := HLC.out
            have bA := HFA.out.lt; have bB := HFB.out.lt; have bC := HFC.out.lt
            simp only [blk_own] at bA bB bC
            refine ⟨fun i j b hi hj hne h1 h2 => ?_, fun i b x hi h1 hx => ?_⟩
            · rcases (by omega : i = 0 ∨ i = 1 ∨ i = 2) with rfl | rfl | rfl <;> rcases (by omega : j = 0 ∨ j = 1 ∨ j = 2) with rfl | rfl | rfl <;> simp [slAt] at h1 h2 hne
              · have := hA b h1; have := hB b h2; omega
              · have := hA b h1; have := hC b h2; omega
              · have := hB b h1; have := hA b h2; omega
              · have := hB b h1; have := hC b h2; omega
              · have := hC b h1; have := hA b h2; omega
              · have := hC b h1; have := hB b h2; omega
            · simp only [Option.some.injEq] at hx
              subst hx
              intro e
              simp only at e
              rcases (by omega : i = 0 ∨ i = 1 ∨ i = 2) with rfl | rfl | rfl <;> simp [slAt] at h1
              · have := (bA b h1).2; omega
              · have := (bB b h1).2; omega
              · have := (bC b h1).2; omega
          have hln : ∀ i, i < 3 → (slAt [(a2, n2, c2), (a3, n3, c3), (a4, n4, c4)] i).2.1 ≤ 70368744177664 := by
            intro i hi
            have l2 := own_len HFA.out; have l3 := own_len HFB.out; have l4 := own_len HFC.out
            rcases (by omega : i = 0 ∨ i = 1 ∨ i = 2) with rfl | rfl | rfl <;> simp [slAt] <;> omega
          have HAP := Lib.hid (Apart_any _ 3 3 _ _ w.heap.size hwe.size hI hD (by decide) hln)
          have HWE := Lib.hid hwe
          clear hI hD hln hwe
          go_wp2_with (go_at_call 25; (refine HAP.out.mono ?_); rintro e w13 ⟨rfl, hb13⟩; have HB13 := Lib.hid (HWE.out.trans hb13); clear hb13)
          go_ret
          exact ⟨ret_bool (by simp), HB13.out⟩
end Go.Proofs.YtjchaogfmnabfaaDoor
