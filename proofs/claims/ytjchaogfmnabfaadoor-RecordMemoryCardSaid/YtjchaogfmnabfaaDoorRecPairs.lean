/-
  RecPairs: slices of pairs: a part; what Read hands back, in one form.
-/
import Derived.Test.YtjchaogfmnabfaaDoorRefRead
import Derived.Test.YtjchaogfmnabfaaDoorUseBytes
namespace Go.Proofs.YtjchaogfmnabfaaDoor
set_option linter.unusedVariables false
set_option linter.unusedSimpArgs false
open Go.ChangeShapes Go.WideShapes Go.ChangeAt Go.RowKit
/-- the first elements of a row -/
theorem sl_take {w : World} {sz : Nat} {ao : Option Addr} {n c : Nat} {xs : List Value} (hb : IsSl w sz ao n c xs) (M : Nat) (h : M ≤ n) : IsSl w sz ao M c (xs.take (M * sz)) := by
  obtain ⟨hl, hc, hm, hcs, hn⟩ := hb
  have m1 : M * sz ≤ n * sz := Nat.mul_le_mul_right _ h
  refine ⟨by rw [List.length_take]; omega, by omega, hm, fun j v hj => ?_, fun h0 => by have := hn h0; omega⟩
  rw [List.getElem?_take] at hj
  split at hj
  · exact hcs j v hj
  · cases hj
/-- a part of a row of cells -/
theorem sl_cut {w : World} {sz : Nat} {ao : Option Addr} {n c : Nat} {xs : List Value} (hb : IsSl w sz ao n c xs) (lo hi : Nat) (h1 : lo ≤ hi) (h2 : hi ≤ n) : IsSl w sz (if c = lo then ao else ao.map (·.add (lo * sz))) (hi - lo) (c - lo) ((xs.take (hi * sz)).drop (lo * sz)) := by
  obtain ⟨hl, hc, hm, hcs, hn⟩ := hb
  have m1 : hi * sz ≤ n * sz := Nat.mul_le_mul_right _ h2
  have m2 : lo * sz ≤ hi * sz := Nat.mul_le_mul_right _ h1
  refine ⟨?_, by omega, by omega, fun j v hj => ?_, fun hn' => ?_⟩
  · rw [List.length_drop, List.length_take, Nat.min_eq_left (by omega), Nat.sub_mul]
  · simp only [List.getElem?_drop, List.getElem?_take] at hj
    split at hj
    · rename_i hlt
      obtain ⟨x, hx, hcell⟩ := hcs (lo * sz + j) v hj
      subst hx
      have hne : ¬ c = lo := by
        intro e
        have : hi = lo := by omega
        subst this
        omega
      rw [if_neg hne]
      refine ⟨x.add (lo * sz), rfl, ?_⟩
      rw [Go.Deep.add_add]
      exact hcell
    · cases hj
  · split at hn'
    · obtain ⟨h3, h4⟩ := hn hn'; omega
    · have : ao = none := by cases ao <;> simp_all
      obtain ⟨h3, h4⟩ := hn this; omega
section
variable {P : Program} {ops : Array Oper} {rest : List Oper} {o : Oper} {a : Act} {w : World} {Q : Exit → Act → World → Prop}
/-- x[lo:hi] of a slice: what it reads as in every world -/
theorem wpList_slice_sl (hgd : o.guard = none) (t : TypeId) (x : Operand) (lo hi : Option Operand) (ho : o.op = .slice t x lo hi none) {e : TypeId} {sz : Nat} (ht : P.underlying t = some (.slice e)) (hsz : (P.info? e).map (·.size) = some sz)
    {ao : Option Addr} {n c : Nat} {xs : List Value} (hx : a.eval x = .slice ao n c) (hb : IsSl w sz ao n c xs) (L M : Nat) (k1 k2 : IntKind)
    (hL : match lo with | some p => a.eval p = .int k1 (L : Int) | none => L = 0) (hM : match hi with | some p => a.eval p = .int k2 (M : Int) | none => M = n) (h1 : L ≤ M) (h2 : M ≤ n)
    (h : ∀ a', (∀ w0 ys, IsSl w0 sz ao n c ys → IsSl w0 sz a' (M - L) (c - L) ((ys.take (M * sz)).drop (L * sz))) → wpList P ops Q rest (a.put o.dst (.slice a' (M - L) (c - L))) w) : wpList P ops Q (o :: rest) a w := by
  have hcap := hb.2.1
  refine wpList_value hgd _ _ ?_ (h _ (fun w0 m hm => sl_cut hm L M h1 h2))
  obtain ⟨i, hi', hs'⟩ := Option.map_eq_some_iff.1 hsz
  have e1 : (L : Int) ≤ M := by omega
  have e2 : (M : Int) ≤ c := by omega
  have e3 : (n : Int) ≤ c := by omega
  have e4 : (L : Int) ≤ n := by omega
  have f2 : M ≤ c := by omega
  have f4 : L ≤ n := by omega
  cases lo <;> cases hi <;> simp only at hL hM
  all_goals first | subst hL | skip
  all_goals first | subst hM | skip
  all_goals simp [execOp, Instr.sliceAt, Instr.slice, Instr.sliceBounds, Instr.sliceBound, run_underlying ht, sizeOf, typeInfo, asIntOf, Result.andThen, *]
end
theorem prs_take (l : List Pr) (M : Nat) : (l.flatMap prCells).take (M * 2) = (l.take M).flatMap prCells := by
  induction l generalizing M with
  | nil => simp
  | cons p l ih =>
    cases M with
    | zero => simp
    | succ M =>
      rw [List.take_succ_cons, List.flatMap_cons, List.flatMap_cons, ← ih M, show (M + 1) * 2 = (prCells p).length + M * 2 by rw [prCells_len]; omega, List.take_append, List.take_of_length_le (by omega), show (prCells p).length + M * 2 - (prCells p).length = M * 2 by omega]
/-- what Read answers: the pairs and the code -/
def readOut : Option (List Pr) → List Pr × Int
  | none => ([], 50)
  | some ps => (ps, 0)
def ReadP (w : World) (r : List Pr × Int) (e : Ending) (w' : World) : Prop :=
  ∃ a n c, e = .returned (.tuple #[.slice a n c, .int .i64 r.2]) ∧ Prs w' a n c r.1 ∧ Below w.heap.size w w'
theorem prs_nil (w : World) : Prs w none 0 0 [] := ⟨by simp, Nat.le_refl _, by unfold maxLen; omega, fun j v hj => by simp at hj, fun _ => ⟨rfl, rfl⟩⟩
theorem ReadRes.p {w w' : World} {r : Option (List Pr)} {e : Ending} (h : ReadRes w r e w') : ReadP w (readOut r) e w' := by
  obtain ⟨hb, h⟩ := h
  cases r with
  | none => exact ⟨none, 0, 0, h, prs_nil _, hb⟩
  | some ps =>
    obtain ⟨a, n, c, he, ho⟩ := h
    exact ⟨a, n, c, he, own_prs ho, hb⟩
theorem ReadOut_any (a : Option Addr) (n c : Nat) (l : List UInt8) (w : World) (ev : Value) (h : Bs w a n c l) (hn : n ≤ 4294967296) (hE : ErrIs w ev) :
    Calls Tryd.prog 16 #[.slice a n c] w (ReadP w (readOut (Plain.read l))) := (Read_any a n c l w ev h hn hE).mono fun _ _ h => h.p
theorem RefReadOut_any (a : Option Addr) (n c : Nat) (l : List UInt8) (w : World) (h : Bs w a n c l) (hn : n ≤ 4294967296) :
    Calls Tryd.prog 17 #[.slice a n c] w (ReadP w (readOut (Plain.read l))) := (RefRead_any a n c l w h hn).mono fun _ _ h => h.p
theorem rec6 (w : World) : Bs (w.alloc (.cells #[.int .u8 54, .int .u8 32, .int .u8 97, .int .u8 61, .int .u8 98, .int .u8 10] 5 (6, 7))) (some ⟨w.heap.size, 0, none⟩) 6 6 [54, 32, 97, 61, 98, 10] :=
  isSl_mark w 5 1 6 #[.int .u8 54, .int .u8 32, .int .u8 97, .int .u8 61, .int .u8 98, .int .u8 10] _ rfl (by unfold maxLen; omega)
set_option maxRecDepth 100000 in
set_option maxHeartbeats 800000 in
theorem Alive5_any (w : World) (ev : Value) (hE : ErrIs w ev) : Calls Tryd.prog 14 #[] w fun e w' => e = .returned (.bool true) ∧ Below w.heap.size w w' := by
  have hv : readOut (Plain.read [54, 32, 97, 61, 98, 10]) = ([([97], [98])], 0) := by decide +kernel
  have HV := Lib.hid hv; have HE := Lib.hid hE; clear hv hE
  have kc := fun (w : World) (C : Array Value) (n c : Nat) => Lib.run_convert_bytes_const (P := Tryd.prog) w 22 5 C n c Tryd.underlying22 Tryd.underlying5
  have hb := (Below.refl w.heap.size w).alloc (Nat.le_refl _) (.cells #[.int .u8 54, .int .u8 32, .int .u8 97, .int .u8 61, .int .u8 98, .int .u8 10] 5 (6, 7))
  have HB := Lib.hid hb; clear hb
  go_enter Tryd.func14, Tryd.ntmps14
  go_wp2_with (go_at_call 16; refine (ReadOut_any _ 6 6 [54, 32, 97, 61, 98, 10] _ ev (by exact rec6 w) (by decide) (by exact HE.out.below HB.out)).mono ?_; rintro e w1 ⟨a1, n1, c1, rfl, hp1, hb1⟩; rw [HV.out] at hp1 ⊢; obtain rfl : n1 = 1 := (by have := hp1.len; simpa using this.symm); obtain ⟨b, off, rfl, h1, h2⟩ := hp1.at 0 (by decide); rw [Nat.zero_mul, Nat.add_zero] at h1 h2; simp only [List.getD_cons_zero] at h1 h2; clear hp1)
  go_ret
  exact ⟨ret_bool (by rfl), Below.seq HB.out hb1⟩
end Go.Proofs.YtjchaogfmnabfaaDoor
