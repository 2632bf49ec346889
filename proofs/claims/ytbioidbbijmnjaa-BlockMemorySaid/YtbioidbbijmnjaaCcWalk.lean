/-
  CcWalk: one operation of a goroutine in company, as the lone walk tells it.
-/
import Derived.Test.YtbioidbbijmnjaaCcCode
import Derived.Conc.Company
import Derived.Conc.AppendEvents3
import Derived.Test.YtbioidbbijmnjaaBase
import Derived.Test.YtbioidbbijmnjaaRowm
namespace Go.Proofs.Ytbioidbbijmnjaa
set_option linter.unusedVariables false
set_option linter.unusedSimpArgs false
open Go.Conc
namespace Cc
section
variable {P : Program} {main : Bool} {R : World → World → Prop} {D : World → World → Array Event → Prop} {Stop : Goroutine → World → Prop} {b : Frame} {a : Act} {k : List Item} {cs : List Frame} {w : World} {ops : Array Oper} {i : Nat} {rest : List Nat} {o : Oper} {n : Nat}
theorem goes_one {Rr : World → Act → World → Prop} (ho : ops[i]? = some o) (hw : Region.wanted o (yielded ops a.tmps) = true) (hk : b.kind ≠ .early) (hok : okOp P [] o.op = true)
    (h : ∀ w₁, R w w₁ → wpList P ops (fun e a' w' => e = .normal ∧ Rr w₁ a' w') [o] a w₁)
    (hn : ∀ w₁ a' w', R w w₁ → Rr w₁ a' w' → w₁.heap.size ≤ w'.heap.size → (∀ e ∈ listed P b.fn a o w₁, Low w'.heap.size e) → D w₁ w' (listed P b.fn a o w₁) ∧ Goes P main R D Stop n (G (b.at a' (.inRegion ops rest :: k)) cs) w') :
    Goes P main R D Stop (n + 1) (G (b.at a (.inRegion ops (i :: rest) :: k)) cs) w := by
  refine Goes.step rfl fun w₁ h₁ => ?_
  obtain ⟨m, r, es', hr⟩ := ok_run (ok_execOp (P := P) (L := []) (ρ := a.eval) (o := o) (fun f => rfl) hok) w₁ #[]
  have hlow := low_of hr.low
  have hrun : (execOp a.eval o).run P w₁ = r := by rw [← Sem.runT_fst, hr.eq]
  have hev : (execOp a.eval o).events P w₁ #[] = es' := by unfold Sem.events; rw [hr.eq]
  have hlist : listed P b.fn a o w₁ = seen P b.fn es' := by unfold listed; rw [hev]
  have hwp := h w₁ h₁
  unfold wpList at hwp
  rw [if_pos hw] at hwp
  rcases hwp with hwp | ⟨_, x, y, hq⟩
  · unfold Oper.wp at hwp
    rw [hrun] at hwp
    cases r with
    | ok nx w' =>
      have hg := hr.good nx w' rfl
      cases nx with
      | value v =>
        rw [stepG_value ho hw hk hrun]
        exact hn w₁ _ w' h₁ hwp.2 hr.size (by rw [hlist]; exact seen_low hlow)
      | skip =>
        rw [stepG_none ho hw hk hrun]
        exact hn w₁ _ w' h₁ hwp.2 hr.size (by rw [hlist]; exact seen_low hlow)
      | enter f args => simp [OutN, okFun] at hg
      | _ => exact hg.elim
    | halt x w' =>
      cases x with
      | panic v => have := hwp.1; cases this
      | _ => exact hwp.elim
  · have := hq.1; cases this
theorem goes_ctl {g g' : Goroutine} (T : Terms R D) (hr : g.status = .running) (h : ∀ w, stepG P main g w = .go g' w #[]) (hn : Goes P main R D Stop n g' w) : Goes P main R D Stop (n + 1) g w :=
  Goes.step hr fun w₁ h₁ => by rw [h]; exact ⟨T.idle _, hn.rely T.trans h₁⟩
end
/-! the events of a load -/
theorem load_reads {P : Program} (B : Nat → Prop) {a : Act} {o : Oper} {t : TypeId} {x : Operand} (hop : o.op = .load t x) {ad : Addr} (hx : a.eval x = .pointer (some ad)) (hB : B ad.block) (w : World) {n : Nat} (hi : (P.info? t).map (·.size) = some n) {m : Nat} {e : TypeId} (hu : P.underlying t = some (.array m e)) (hc : ∀ j, j < n → (w.cell? (ad.add j)).isSome) :
    ∀ ev ∈ (execOp a.eval o).events P w #[], ev.readsIn B := by
  intro ev h
  simp only [Act.eval, Array.getD_eq_getD_getElem?] at hx
  unfold execOp at h
  simp only [hop] at h
  cases hinfo : P.info? t with
  | none => rw [hinfo] at hi; cases hi
  | some i =>
    rw [hinfo] at hi
    simp only [Option.map_some, Option.some.injEq] at hi
    subst hi
    simp [go_sem, hx, Instr.loadAt, Instr.sureAddr, isAgg, run_underlying hu, sizeOf, typeInfo, hinfo] at h
    exact (events_loadCellsFrom_at ad B hB _ 0 _ w #[] (fun j hj => by simpa using hc j hj) ev h).resolve_left (by simp)
section
variable {P : Program} {main : Bool} {R : World → World → Prop} {D : World → World → Array Event → Prop} {Stop : Goroutine → World → Prop} {b : Frame} {a : Act} {k : List Item} {cs : List Frame} {w : World} {ops : Array Oper} {i : Nat} {rest : List Nat} {o : Oper} {n : Nat}
/-- an operation that turns nothing and lists nothing -/
theorem goes_still (T : Terms R D) (ho : ops[i]? = some o) (hw : Region.wanted o (yielded ops a.tmps) = true) (hk : b.kind ≠ .early) (v : Value)
    (h : ∀ w₁, (execOp a.eval o).run P w₁ = .ok (.value v) w₁ ∧ (execOp a.eval o).events P w₁ #[] = #[])
    (hn : Goes P main R D Stop n (G (b.at (a.put o.dst v) (.inRegion ops rest :: k)) cs) w) : Goes P main R D Stop (n + 1) (G (b.at a (.inRegion ops (i :: rest) :: k)) cs) w :=
  goes_ctl T rfl (fun w₁ => by
    rw [stepG_value ho hw hk (h w₁).1]
    unfold listed
    rw [(h w₁).2, seen_none]) hn
theorem rn_move {x : Operand} (hop : o.op = .move x) (w : World) : (execOp a.eval o).run P w = .ok (.value (a.eval x)) w ∧ (execOp a.eval o).events P w #[] = #[] := by
  unfold execOp; simp only [hop]; exact ⟨rfl, rfl⟩
theorem rn_assign {x : Operand} (hop : o.op = .assign x) (w : World) : (execOp a.eval o).run P w = .ok (.value (a.eval x)) w ∧ (execOp a.eval o).events P w #[] = #[] := by
  unfold execOp; simp only [hop]; exact ⟨rfl, rfl⟩
theorem rn_extract {x : Operand} {j : Nat} {vs : Array Value} {v : Value} (hop : o.op = .extract x j) (hx : a.eval x = .tuple vs) (hv : vs[j]? = some v) (w : World) : (execOp a.eval o).run P w = .ok (.value v) w ∧ (execOp a.eval o).events P w #[] = #[] := by
  unfold execOp; simp [hop, hx, Instr.extract, hv, Result.andThen]
theorem rn_len {x : Operand} {t : TypeId} {e : TypeId} {ao : Option Addr} {m c : Nat} (hop : o.op = .call { callee := .builtin .len, args := #[x], argTypes := #[t] }) (hx : a.eval x = .slice ao m c) (ht : P.underlying t = some (.slice e)) (w : World) :
    (execOp a.eval o).run P w = .ok (.value (.int .i64 m)) w ∧ (execOp a.eval o).events P w #[] = #[] := by
  simp only [Act.eval, Array.getD_eq_getD_getElem?] at hx
  unfold execOp; simp [go_sem, hop, hx, ht, Builtin.len_, Builtin.lenOf, run_underlying ht]
theorem rn_slice {x : Operand} {lo hi : Option Operand} {t e : TypeId} (hop : o.op = .slice t x lo hi none) (ht : P.underlying t = some (.slice e)) (hsz : (P.info? e).map (·.size) = some 1)
    {ao : Option Addr} {m c : Nat} (hx : a.eval x = .slice ao m c) (L M : Nat) (k1 k2 : IntKind) (hL : match lo with | some p => a.eval p = .int k1 (L : Int) | none => L = 0) (hM : match hi with | some p => a.eval p = .int k2 (M : Int) | none => M = m) (h1 : L ≤ M) (h2 : M ≤ m) (h3 : m ≤ c) {v : Value} (hv : v = .slice (if c = L then ao else ao.map (·.add (L * 1))) (M - L) (c - L)) (w : World) :
    (execOp a.eval o).run P w = .ok (.value v) w ∧ (execOp a.eval o).events P w #[] = #[] := by
  subst hv
  obtain ⟨i, hi', hs'⟩ := Option.map_eq_some_iff.1 hsz
  have e1 : (L : Int) ≤ M := by omega
  have e2 : (M : Int) ≤ c := by omega
  have e3 : (m : Int) ≤ c := by omega
  have e4 : (L : Int) ≤ m := by omega
  have f2 : M ≤ c := by omega
  have f4 : L ≤ m := by omega
  cases lo <;> cases hi <;> simp only at hL hM
  all_goals first | subst hL | skip
  all_goals first | subst hM | skip
  all_goals simp [execOp, Instr.sliceAt, Instr.slice, Instr.sliceBounds, Instr.sliceBound, run_underlying ht, sizeOf, typeInfo, asIntOf, Result.andThen, Result.evThen, Sem.events_bind, *]
theorem rn_geq {x y : Operand} {t t' : TypeId} {p q : Int} (hop : o.op = .binOp .geq t x y t') (hx : a.eval x = .int .i64 p) (hy : a.eval y = .int .i64 q) (ht : P.underlying t = some (.int .i64)) (w : World) :
    (execOp a.eval o).run P w = .ok (.value (.bool (decide (p ≥ q)))) w ∧ (execOp a.eval o).events P w #[] = #[] := by
  simp only [Act.eval, Array.getD_eq_getD_getElem?] at hx hy
  unfold execOp; simp [go_sem, hop, hx, hy, ht]
theorem rn_arr {x : Operand} {t e : TypeId} {m l c : Nat} {ao : Option Addr} (hop : o.op = .sliceToArrayPointer t x) (hx : a.eval x = .slice ao l c) (ht : P.underlying t = some (.array m e)) (hl : m ≤ l) (w : World) :
    (execOp a.eval o).run P w = .ok (.value (.pointer ao)) w ∧ (execOp a.eval o).events P w #[] = #[] := by
  simp only [Act.eval, Array.getD_eq_getD_getElem?] at hx
  have h : ¬ l < m := by omega
  unfold execOp; simp [go_sem, hop, hx, run_underlying ht, Instr.arrayAt, h]
theorem rn_load {x : Operand} {t : TypeId} {p : Addr} (hop : o.op = .load t x) (hx : a.eval x = .pointer (some p)) (cs : List Value) {m : Nat} {e : TypeId} (hu : P.underlying t = some (.array m e)) (hi : (P.info? t).map (·.size) = some cs.length) (w : World)
    (hc : ∀ j v, cs[j]? = some v → w.cell? (p.add j) = some v) : (execOp a.eval o).run P w = .ok (.value (.agg cs.toArray)) w := by
  simp [execOp, hop, hx, Instr.loadAt, Instr.sureAddr, run_load_cells t p cs _ hu rfl hi hc, Result.andThen]
theorem low_listed (hok : okOp P [] o.op = true) {fn : FuncId} {w : World} {e : Event} (he : e ∈ listed P fn a o w) : ∃ m, Low m e := by
  obtain ⟨m, r, es', hr⟩ := ok_run (ok_execOp (P := P) (L := []) (ρ := a.eval) (o := o) (fun f => rfl) hok) w #[]
  have hlow := low_of hr.low
  have hev : (execOp a.eval o).events P w #[] = es' := by unfold Sem.events; rw [hr.eq]
  exact ⟨_, hlow e (by rw [← hev]; exact mem_listed he)⟩
theorem evS_read {Lw : Nat} (hok : okOp P [] o.op = true) {fn : FuncId} {w : World} {e : Event} (he : e ∈ listed P fn a o w) (hr : e.readsIn (· < Lw)) : EvS Lw e := by
  obtain ⟨m, hl⟩ := low_listed hok he
  obtain ⟨ad, h1, h2, h3⟩ := hr
  refine ⟨?_, h2⟩
  rcases hl with ⟨x, e1, _, e3⟩ | ⟨r, e1, _⟩ | e1
  · rw [h1] at e1; cases e1
    exact .inl ⟨ad, h1, h3, e3⟩
  · rw [h1] at e1; cases e1
  · rw [h1] at e1; cases e1
/-! the same of 'some number of steps' -/
theorem ge_ctl {g g' : Goroutine} (T : Terms R D) (hr : g.status = .running) (h : ∀ w, stepG P main g w = .go g' w #[]) (hn : ∃ n, Goes P main R D Stop n g' w) : ∃ n, Goes P main R D Stop n g w :=
  let ⟨n, hn⟩ := hn; ⟨n + 1, goes_ctl T hr h hn⟩
theorem ge_still (T : Terms R D) (ho : ops[i]? = some o) (hw : Region.wanted o (yielded ops a.tmps) = true) (hk : b.kind ≠ .early) (v : Value)
    (h : ∀ w₁, (execOp a.eval o).run P w₁ = .ok (.value v) w₁ ∧ (execOp a.eval o).events P w₁ #[] = #[])
    (hn : ∃ n, Goes P main R D Stop n (G (b.at (a.put o.dst v) (.inRegion ops rest :: k)) cs) w) : ∃ n, Goes P main R D Stop n (G (b.at a (.inRegion ops (i :: rest) :: k)) cs) w :=
  let ⟨n, hn⟩ := hn; ⟨n + 1, goes_still T ho hw hk v h hn⟩
theorem ge_read (T : Terms R D) (ho : ops[i]? = some o) (hw : Region.wanted o (yielded ops a.tmps) = true) (hk : b.kind ≠ .early) (v : Value)
    (h : ∀ w₁, R w w₁ → (execOp a.eval o).run P w₁ = .ok (.value v) w₁ ∧ D w₁ w₁ (listed P b.fn a o w₁))
    (hn : ∃ n, Goes P main R D Stop n (G (b.at (a.put o.dst v) (.inRegion ops rest :: k)) cs) w) : ∃ n, Goes P main R D Stop n (G (b.at a (.inRegion ops (i :: rest) :: k)) cs) w :=
  let ⟨n, hn⟩ := hn; ⟨n + 1, Goes.step rfl fun w₁ h₁ => by
    rw [stepG_value ho hw hk (h w₁ h₁).1]
    exact ⟨(h w₁ h₁).2, hn.rely T.trans h₁⟩⟩
theorem ge_move (T : Terms R D) (ho : ops[i]? = some o) (hw : Region.wanted o (yielded ops a.tmps) = true) (hk : b.kind ≠ .early) {x : Operand} (hop : o.op = .move x ∨ o.op = .assign x)
    (hn : ∃ n, Goes P main R D Stop n (G (b.at (a.put o.dst (a.eval x)) (.inRegion ops rest :: k)) cs) w) : ∃ n, Goes P main R D Stop n (G (b.at a (.inRegion ops (i :: rest) :: k)) cs) w :=
  ge_still T ho hw hk _ (fun w₁ => hop.elim (fun h => rn_move h w₁) fun h => rn_assign h w₁) hn
end
end Cc
end Go.Proofs.Ytbioidbbijmnjaa
