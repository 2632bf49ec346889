/-
  Pairs: slices of pairs of strings: what valiseref00's CopyPairs and SamePairs do.
-/
import Derived.Test.YtjchaogfmnabfaaDoorBase
import Derived.Test.YtjchaogfmnabfaaDoorProg
namespace Go.Proofs.YtjchaogfmnabfaaDoor
open Go.ChangeShapes Go.WideShapes Go.ChangeAt Go.RowKit
abbrev Pr := List UInt8 × List UInt8
def prCells (p : Pr) : List Value := [.string ⟨p.1.toArray⟩, .string ⟨p.2.toArray⟩]
theorem prCells_len (p : Pr) : (prCells p).length = 2 := rfl
/-- a slice of pairs -/
def Prs (w : World) (a : Option Addr) (n c : Nat) (l : List Pr) : Prop := IsSl w 2 a n c (l.flatMap prCells)
theorem Prs.len {w : World} {a : Option Addr} {n c : Nat} {l : List Pr} (h : Prs w a n c l) : l.length = n := by
  have := h.1; rw [flat_len prCells_len] at this; omega
theorem Prs.cap {w : World} {a : Option Addr} {n c : Nat} {l : List Pr} (h : Prs w a n c l) : n ≤ c := h.2.1
theorem Prs.max {w : World} {a : Option Addr} {n c : Nat} {l : List Pr} (h : Prs w a n c l) : c ≤ 9223372036854775807 := h.2.2.1
theorem Below.prs {w w' : World} {a : Option Addr} {n c : Nat} {l : List Pr} (k : Below w.heap.size w w') (h : Prs w a n c l) : Prs w' a n c l := (Below.keeps k).sl h
theorem Keeps.prs {w w' : World} {a : Option Addr} {n c : Nat} {l : List Pr} (k : Keeps w w') (h : Prs w a n c l) : Prs w' a n c l := k.sl h
theorem Prs.at {w : World} {a : Option Addr} {n c : Nat} {l : List Pr} (h : Prs w a n c l) (k : Nat) (hk : k < n) :
    ∃ b off, a = some ⟨b, off, none⟩ ∧ w.cell? ⟨b, off + k * 2, none⟩ = some (.string ⟨(l.getD k ([], [])).1.toArray⟩) ∧ w.cell? ⟨b, off + k * 2 + 1, none⟩ = some (.string ⟨(l.getD k ([], [])).2.toArray⟩) := by
  have hl := h.len
  have hk' : k < l.length := by omega
  have e : l.getD k ([], []) = l[k] := by simp [List.getD, List.getElem?_eq_getElem hk']
  rw [e]
  have h0 := flat_at prCells_len l k 0 hk' (by omega)
  have h1 := flat_at prCells_len l k 1 hk' (by omega)
  simp only [prCells, List.getElem?_cons_zero, List.getElem?_cons_succ, Nat.add_zero] at h0 h1
  obtain ⟨b, off, ha, hc0⟩ := h.2.2.2.1.at _ _ h0
  obtain ⟨b', off', ha', hc1⟩ := h.2.2.2.1.at _ _ h1
  rw [ha] at ha'
  simp only [Option.some.injEq, Addr.mk.injEq, and_true] at ha'
  obtain ⟨rfl, rfl⟩ := ha'
  exact ⟨b, off, ha, hc0, by rw [Nat.add_assoc]; exact hc1⟩
theorem prs_oneCell (l : List Pr) : ∀ u ∈ l.flatMap prCells, u.oneCell' = true := by
  intro u hu
  obtain ⟨p, _, hp⟩ := List.mem_flatMap.1 hu
  simp only [prCells, List.mem_cons, List.not_mem_nil, or_false] at hp
  rcases hp with rfl | rfl <;> rfl
theorem infoPair : (Tryd.prog.info? 39).map (fun i => (i.zero, i.size, i.bytes)) = some (some (.agg #[.string ⟨#[]⟩, .string ⟨#[]⟩]), 2, 32) := by kernel_rfl
theorem eqIn_pair (x y : Pr) (w : World) : (Op.equalIn 10000 39 (.agg #[.string ⟨x.1.toArray⟩, .string ⟨x.2.toArray⟩]) (.agg #[.string ⟨y.1.toArray⟩, .string ⟨y.2.toArray⟩])).run Tryd.prog w = .ok (decide (x = y)) w := by
  rw [run_equalIn_agg w 9999 39 _ _ (by kernel_rfl) (by kernel_rfl)]
  have hs : ∀ (d : Nat) (a b : ByteArray), (Op.equalIn (d + 1) 9 (.string a) (.string b)).run Tryd.prog w = .ok (a.toList == b.toList) w := fun d a b => run_equalIn_string w d 9 a b Tryd.underlying9
  have hp0 : ∀ (u v : Value), (part 9 #[u, v] 0).run Tryd.prog w = .ok u w := fun u v => by simp [part, isAgg, run_underlying Tryd.underlying9]
  have hp1 : ∀ (u v : Value), (part 9 #[u, v] 1).run Tryd.prog w = .ok v w := fun u v => by simp [part, isAgg, run_underlying Tryd.underlying9]
  simp [Program.fieldsOf, Tryd.underlying39, Op.eqFields, hs, hp0, hp1]
  by_cases h1 : x.1 = y.1
  · by_cases h2 : x.2 = y.2
    · have : x = y := Prod.ext h1 h2
      simp [h1, h2, this, hs 9998]
    · have : ¬ x = y := fun h => h2 (by rw [h])
      simp [h1, h2, this, hs 9998]
  · have : ¬ x = y := fun h => h1 (by rw [h])
    simp [h1, this]
theorem neq_pair (x y : Pr) (w : World) : (binOp .neq 39 (.agg #[.string ⟨x.1.toArray⟩, .string ⟨x.2.toArray⟩]) (.agg #[.string ⟨y.1.toArray⟩, .string ⟨y.2.toArray⟩])).run Tryd.prog w = .ok (.bool (!(decide (x = y)))) w := by
  rw [run_neq_struct, eqIn_pair]; rfl
/-- what a call hands back: pairs in new memory -/
def NewPrs (w : World) (l : List Pr) (e : Ending) (w' : World) : Prop :=
  ∃ a n c, e = .returned (.slice a n c) ∧ w'.ownsRow w.heap.size 39 2 (.slice a n c) n (l.flatMap prCells) ∧ Below w.heap.size w w'
theorem own_prs {w : World} {base : Nat} {e : TypeId} {a : Option Addr} {n c : Nat} {l : List Pr} (h : w.ownsRow base e 2 (.slice a n c) n (l.flatMap prCells)) : Prs w a n c l := own_isSl h
set_option maxHeartbeats 400000 in
theorem CopyPairs_any (a : Option Addr) (n c : Nat) (x : List Pr) (w : World) (ha : Prs w a n c x) (hn : n * 32 ≤ 140737488355328) :
    Calls Tryd.prog 21 #[.slice a n c] w (NewPrs w x) := by
  have ho0 := World.ownsRow_lit (base := w.heap.size) (e := 39) (size := 2) w #[] 0 (Nat.le_refl _) (by decide) rfl
  go_enter Tryd.func21, Tryd.ntmps21
  go_wp2_with (at_builtin; refine wpList_app rfl _ _ 25 rfl w.heap.size 39 _ 2 32 Tryd.underlying25 infoPair rfl (by decide) (by decide) rfl ho0 rfl ((Keeps.alloc w _).prs ha) (prs_oneCell x) (by omega) (by simp) ?_; intro a1 c1 w1 ho hg)
  go_ret
  simp only [Nat.zero_add, List.nil_append] at ho ⊢
  exact ⟨a1, _, c1, rfl, ho, below_app ((Below.refl _ _).alloc (Nat.le_refl _) _) ho0 hg (Nat.le_refl _) (by simp)⟩
theorem prs_step {x y : List Pr} {k : Nat} (hk : k < x.length) (hl : y.length = x.length) (ih : x.take k = y.take k) (h : x.getD k ([], []) = y.getD k ([], [])) : x.take (k + 1) = y.take (k + 1) := by
  have h1 : k < y.length := by omega
  have he : x[k] = y[k] := by simpa [List.getD, List.getElem?_eq_getElem hk, List.getElem?_eq_getElem h1] using h
  rw [List.take_succ_eq_append_getElem hk, List.take_succ_eq_append_getElem h1, ih, he]
set_option maxHeartbeats 400000 in
theorem SamePairs_any (a b : Option Addr) (n m c d : Nat) (x y : List Pr) (w : World) (ha : Prs w a n c x) (hb : Prs w b m d y) :
    Calls Tryd.prog 18 #[.slice a n c, .slice b m d] w fun e w' => e = .returned (.bool (decide (x = y))) ∧ Below w.heap.size w w' := by
  have hx := ha.len; have hy := hb.len; have c1 := ha.cap; have c2 := hb.cap; have m1 := ha.max; have m2 := hb.max
  by_cases hnm : n = m
  · subst hnm
    have hn : ((n : Int) != n) = false := by simp
    generalize hr : decide (x = y) = r
    have HR := Lib.hid hr; clear hr
    have HX := Lib.hid hx; have HY := Lib.hid hy; clear hx hy
    go_enter Tryd.func18, Tryd.ntmps18
    go_wp2
    go_loopw [5] (fun i wr => ∃ k : Nat, k ≤ n ∧ i = .int .i64 k ∧ Hid (x.take k = y.take k) ∧ Below w.heap.size w wr) (fun i _ => n - (intOf i).toNat)
    case atStart => exact ⟨0, Nat.zero_le _, rfl, (rfl : x.take 0 = y.take 0), Below.refl _ _⟩
    case round =>
      obtain ⟨k, hk, rfl, heq, hbel⟩ := hrel
      by_cases hlt : k < n
      · obtain ⟨b1, o1, rfl, h1, h1'⟩ := (Below.prs hbel ha).at k hlt
        obtain ⟨b2, o2, rfl, h2, h2'⟩ := (Below.prs hbel hb).at k hlt
        clear ha hb
        generalize hg1 : x.getD k ([], []) = g1 at h1 h1'
        generalize hg2 : y.getD k ([], []) = g2 at h2 h2'
        have HG1 := Lib.hid hg1; have HG2 := Lib.hid hg2; clear hg1 hg2
        have hq := neq_pair g1 g2
        have hm : Tryd.prog.eqGuardType Tryd.prog.depth 39 = false := by kernel_rfl
        by_cases hne : g1 = g2
        · have hd : decide (g1 = g2) = true := dec_t hne
          have HE := Lib.hid hne; clear hne
          simp only [hd] at hq
          clear hd
          go_wp2
          go_quiet (fail)
          go_wp2
          exact ⟨⟨k + 1, by omega, by go_num, prs_step (by have := HX.out; omega) (by have := HX.out; have := HY.out; omega) heq (by rw [HG1.out, HG2.out, HE.out]), Below.drewN hbel _⟩, by simp [intOf]; omega⟩
        · have hd : decide (g1 = g2) = false := dec_f hne
          have HE := Lib.hid hne; clear hne
          simp only [hd] at hq
          clear hd
          go_wp2
          go_quiet (fail)
          go_wp2
          go_ret
          refine ⟨ret_bool ?_, Below.drewN hbel _⟩
          rw [← HR.out]
          exact (dec_f (fun e => HE.out (by rw [← HG1.out, ← HG2.out, e]))).symm
      · obtain rfl : k = n := by omega
        go_wp2
        go_ret
        refine ⟨ret_bool ?_, hbel⟩
        have h1 := HX.out; have h2 := HY.out; have h3 := heq.out
        rw [List.take_of_length_le (by omega), List.take_of_length_le (by omega)] at h3
        rw [← HR.out]; simp [h3]
  · have hne : decide (x = y) = false := by
      simp only [decide_eq_false_iff_not]; intro h; subst h; omega
    rw [hne]; clear hne
    have hn : ((n : Int) != m) = true := by rw [bne_iff_ne]; omega
    go_enter Tryd.func18, Tryd.ntmps18
    go_wp2
    go_ret
    exact ⟨rfl, Below.refl _ _⟩
end Go.Proofs.YtjchaogfmnabfaaDoor
