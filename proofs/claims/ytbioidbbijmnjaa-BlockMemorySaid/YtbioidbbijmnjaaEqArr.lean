/-
  EqArr: '==' on arrays of bytes. No program is needed here.
-/
import Derived.Test.YtbioidbbijmnjaaRowl
namespace Go.Proofs.Ytbioidbbijmnjaa
open Go.ChangeShapes Go.WideShapes Go.ChangeAt Go.RowKit
section
variable {P : Program} {w : World}
theorem part_u8 {e : TypeId} (he : P.underlying e = some (.int .u8)) (x : List UInt8) (i : Nat) (hi : i < x.length) : (part e (x.map u8v).toArray i).run P w = .ok (.int .u8 ((x.getD i 0).toNat : Int)) w := by
  simp [part, isAgg, run_underlying he, Result.andThen, hi, u8v, List.getD, List.getElem?_eq_getElem hi]
theorem forIn_eq {e : TypeId} (he : P.underlying e = some (.int .u8)) (d n : Nat) (x y : List UInt8) (hx : x.length = n) (hy : y.length = n) : ∀ (m k : Nat), k + m = n →
    (forIn (List.range' k m) ((none, ()) : Option Bool × Unit) (fun i _ => do
          let a ← part e (List.map u8v x).toArray i
          let b ← part e (List.map u8v y).toArray i
          let r ← Op.equalIn (d + 1) e a b
          if r = false then pure (ForInStep.done (some false, ())) else pure (ForInStep.yield (none, ()))) : Sem (Option Bool × Unit)).run P w = .ok (if x.drop k = y.drop k then (none, ()) else (some false, ())) w
  | 0, k, hk => by
    rw [List.drop_of_length_le (by omega), List.drop_of_length_le (by omega)]
    simp
  | m + 1, k, hk => by
    have ih := forIn_eq he d n x y hx hy m (k + 1) (by omega)
    have hkx : k < x.length := by omega
    have hky : k < y.length := by omega
    have ex : x.getD k 0 = x[k] := by simp [List.getD, List.getElem?_eq_getElem hkx]
    have ey : y.getD k 0 = y[k] := by simp [List.getD, List.getElem?_eq_getElem hky]
    rw [List.range'_succ, List.forIn_cons]
    simp only [Sem.run_bind, part_u8 he x k hkx, part_u8 he y k hky, Result.andThen_ok, run_equalIn_int w d e .u8 .u8 _ _ he, ex, ey]
    rw [List.drop_eq_getElem_cons hkx, List.drop_eq_getElem_cons hky]
    by_cases h : x[k] = y[k]
    · have hb : (((x[k]).toNat : Int) == ((y[k]).toNat : Int)) = true := by rw [h]; simp
      simp only [hb, List.cons.injEq, h, true_and]
      simp only [BEq.rfl, Bool.true_eq_false, if_false, Sem.run_pure, Result.andThen_ok]
      exact ih
    · have hb : (((x[k]).toNat : Int) == ((y[k]).toNat : Int)) = false := by rw [beq_eq_false_iff_ne]; intro h2; exact h (UInt8.toNat_inj.1 (by omega))
      simp only [hb, List.cons.injEq, h, false_and, if_false, if_true, Sem.run_pure, Result.andThen_ok]
theorem equalIn_arr (d n : Nat) (t e : TypeId) (x y : List UInt8) (ht : P.underlying t = some (.array n e)) (he : P.underlying e = some (.int .u8)) (hs : (P.info? e).map (·.size) = some 1) (hx : x.length = n) (hy : y.length = n) :
    (Op.equalIn (d + 2) t (.agg (x.map u8v).toArray) (.agg (y.map u8v).toArray)).run P w = .ok (decide (x = y)) w := by
  obtain ⟨i, hi, h1⟩ := Option.map_eq_some_iff.1 hs
  rw [Op.equalIn]
  simp [run_underlying ht, sizeOf, typeInfo, hi, h1, Result.andThen]
  rw [forIn_eq he d n x y hx hy n 0 (by omega)]
  simp only [List.drop_zero]
  by_cases h : x = y
  · simp [h]
  · simp [h]
end
end Go.Proofs.Ytbioidbbijmnjaa
