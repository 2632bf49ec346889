/-
  RefRead: the reference's Read of records.
-/
import Derived.Test.YtjchaogfmnabfaaDoorRefOne
import Derived.Test.YtjchaogfmnabfaaDoorRecLoop
namespace Go.Proofs.YtjchaogfmnabfaaDoor
set_option linter.unusedVariables false
set_option linter.unusedSimpArgs false
open Go.ChangeShapes Go.WideShapes Go.ChangeAt Go.RowKit
section
variable {P : Program} {ops : Array Oper} {rest : List Oper} {o : Oper} {a : Act} {w : World} {Q : Exit → Act → World → Prop}
/-- x[lo:hi] of a slice of bytes: what it reads as in every world -/
theorem wpList_slice_all (hgd : o.guard = none) (t : TypeId) (x : Operand) (lo hi : Option Operand) (ho : o.op = .slice t x lo hi none) {e : TypeId} (ht : P.underlying t = some (.slice e)) (hsz : (P.info? e).map (·.size) = some 1)
    {ao : Option Addr} {n c : Nat} {l : List UInt8} (hx : a.eval x = .slice ao n c) (hb : Bs w ao n c l) (L M : Nat) (k1 k2 : IntKind)
    (hL : match lo with | some p => a.eval p = .int k1 (L : Int) | none => L = 0) (hM : match hi with | some p => a.eval p = .int k2 (M : Int) | none => M = n) (h1 : L ≤ M) (h2 : M ≤ n)
    (h : ∀ a', (∀ w0 m, Bs w0 ao n c m → Bs w0 a' (M - L) (c - L) ((m.take M).drop L)) → wpList P ops Q rest (a.put o.dst (.slice a' (M - L) (c - L))) w) : wpList P ops Q (o :: rest) a w := by
  have hcap := hb.cap
  refine wpList_value hgd _ _ ?_ (h _ (fun w0 m hm => bs_cut hm L M h1 h2))
  obtain ⟨i, hi', hs'⟩ := Option.map_eq_some_iff.1 hsz
  have e1 : (L : Int) ≤ M := by omega
  have e2 : (M : Int) ≤ c := by omega
  have e3 : (n : Int) ≤ c := by omega
  have e4 : (L : Int) ≤ n := by omega
  have f2 : M ≤ c := by omega
  have f4 : L ≤ n := by omega
  cases lo <;> cases hi <;> simp only at hL hM
  all_goals first | subst hL | skip
  all_goals first | subst hM | skip
  all_goals simp [execOp, Instr.sliceAt, Instr.slice, Instr.sliceBounds, Instr.sliceBound, run_underlying ht, sizeOf, typeInfo, asIntOf, Result.andThen, *]
end
set_option maxRecDepth 100000 in
set_option maxHeartbeats 3200000 in
theorem RefRead_any (a : Option Addr) (n c : Nat) (l : List UInt8) (w : World) (h : Bs w a n c l) (hn : n ≤ 4294967296) :
    Calls Tryd.prog 17 #[.slice a n c] w (ReadRes w (Plain.read l)) := by
  have ho0 := World.ownsRow_lit (base := w.heap.size) (e := 39) (size := 2) w #[] 0 (Nat.le_refl _) (by decide) rfl
  have hb0 := (Below.refl w.heap.size w).alloc (Nat.le_refl _) (.cells #[] 39)
  have HO0 := Lib.hid ho0; have HB0 := Lib.hid hb0
  have HH := Lib.hid h
  clear ho0 hb0 h
  go_enter Tryd.func17, Tryd.ntmps17
  go_wp2
  go_loopw [4, 0] (fun v j wr => ∃ (a1 : Option Addr) (n1 c1 : Nat) (a2 : Option Addr) (n2 c2 : Nat) (ps : List Pr) (l2 : List UInt8), v = .slice a1 n1 c1 ∧ j = .slice a2 n2 c2 ∧
    Hid (wr.ownsRow w.heap.size 39 2 (.slice a1 n1 c1) n1 (ps.flatMap prCells)) ∧ Hid (Bs w a2 n2 c2 l2) ∧ Hid (Below w.heap.size w wr) ∧ Hid (Plain.read l = (Plain.read l2).map (ps ++ ·)) ∧ 5 * n1 + n2 ≤ n) (fun _ j _ => slen j)
  case atStart => exact ⟨_, 0, 0, a, n, c, [], l, rfl, rfl, Lib.hid (by simpa using HO0.out), HH, HB0, (by cases Plain.read l <;> rfl : Plain.read l = _), by omega⟩
  case round =>
    obtain ⟨a1, n1, c1, a2, n2, c2, ps, l2, rfl, rfl, ho, hb, hbel, hrd, hle⟩ := hrel
    have hl2 := hb.out.len
    have HL := Lib.hid hl2; clear hl2
    by_cases hz : n2 = 0
    · subst hz
      go_wp2
      have e : l2 = [] := List.eq_nil_of_length_eq_zero HL.out
      subst e
      have hr := hrd.out
      rw [read_nil] at hr
      go_ret2
      rw [hr]
      exact ReadRes.yes hbel.out (by simpa using ho.out)
    · have hz1 : (0 : Int) < n2 := by omega
      have HN := Lib.hid (RefOne_any a2 n2 c2 l2 wr (Below.bs hbel.out hb.out) (by omega))
      cases hone : Plain.one l2 with
      | none =>
        have hr := hrd.out
        rw [read_none l2 (by intro e; subst e; exact hz (by simpa using HL.out.symm)) hone] at hr
        have HR := Lib.hid hr; clear hr
        rw [hone] at HN
        go_wp2_with (first
          | (go_at_call 35; (refine (HN.out).mono ?_); rintro e w3 ⟨hb3, rfl⟩; have HB3 := Lib.hid (Below.seq2 hbel.out hb3 hbel.out.size); clear hb3))
        go_ret2
        rw [HR.out]
        exact ReadRes.no (HB3.out.alloc HB3.out.size _)
      | some q =>
        obtain ⟨p, X⟩ := q
        have hr := hrd.out
        rw [read_some l2 p X hone] at hr
        have HR := Lib.hid hr; clear hr
        have hbd := one_bound l2 p X hone
        rw [HL.out] at hbd
        obtain ⟨hb1, hb2⟩ := hbd
        rw [hone] at HN
        have hX0 : ((X : Int) == 0) = false := by rw [beq_eq_false_iff_ne]; omega
        have HA2 := Lib.hid (fun (w' : World) (h : Below w.heap.size w w') => Below.bs h hb.out)
        go_wp2_with (first
          | (go_at_call 35; (refine (HN.out).mono ?_); rintro e w3 ⟨hb3, rfl⟩; have HB3 := Lib.hid (Below.seq2 hbel.out hb3 hbel.out.size); have HO3 := Lib.hid (own_below2 ho.out hb3); clear hb3)
          | (at_builtin; refine wpList_app rfl _ _ 25 rfl w.heap.size 39 _ 2 32 Tryd.underlying25 infoPair rfl (by decide) (by decide) rfl (pairW_own HO3.out p) rfl (pairW_new w3 p) (prs_oneCell [p]) (by omega) (by have := HB3.out.size; simp [pairW]; omega) ?_; intro a4 c4 w4 ho4 hg4; have HB4 := Lib.hid (below_app (pairW_below HB3.out p HB3.out.size) (pairW_own HO3.out p) hg4 (Nat.le_refl _) (by have := HB3.out.size; simp [pairW]; omega)); have HS4 := Lib.hid (HA2.out w4 HB4.out))
          | ((with_reducible refine wpList_slice_all rfl _ _ (some _) Option.none rfl Tryd.underlying22 (by kernel_rfl) rfl HS4.out X n2 .i64 .i64 rfl rfl (by omega) (by omega) ?_); intro a5 hb5; have HC5 := Lib.hid hb5; clear hb5))
        have hcut : l2.take n2 = l2 := List.take_of_length_le (by rw [HL.out]; exact Nat.le_refl _)
        refine ⟨⟨a4, n1 + 1, c4, a5, n2 - X, c2 - X, ps ++ [p], l2.drop X, rfl, rfl, ?_, ?_, HB4.out, ?_, by omega⟩, ?_⟩
        · show World.ownsRow _ _ _ _ _ _ _
          simpa using ho4
        · have := HC5.out w l2 hb.out
          rw [hcut] at this
          exact this
        · show Plain.read l = _
          rw [HR.out]
          cases Plain.read (l2.drop X) <;> simp
        · simp [slen]; omega
end Go.Proofs.YtjchaogfmnabfaaDoor
