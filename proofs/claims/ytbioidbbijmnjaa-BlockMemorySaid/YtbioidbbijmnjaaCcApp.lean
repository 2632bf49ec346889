/-
  CcApp: append is ordinary; comparisons; the table of ordinary operations.
-/
import Derived.Test.YtbioidbbijmnjaaCcOps
namespace Go.Proofs.Ytbioidbbijmnjaa
set_option linter.unusedVariables false
set_option linter.unusedSimpArgs false
open Go.Conc
namespace Cc
variable {P : Program}
theorem ok_append (ts : Array TypeId) (t : TypeId) (xs : Array Value) : ok P T (Builtin.append_ ts t xs) := by
  unfold Builtin.append_
  generalize ts[0]? = o0
  generalize xs[0]? = o1
  generalize xs[1]? = o2
  generalize ts[1]? = o3
  cases o0 with
  | none => exact ok_stuck _
  | some sType =>
    cases o1 with
    | none => exact ok_stuck _
    | some s =>
      cases o2 with
      | none => exact ok_stuck _
      | some x =>
        refine ok_bd (ok_underlying _) fun d => ?_
        cases d <;> first | exact ok_stuck _ | skip
        rename_i elem
        cases s <;> first | exact ok_stuck _ | skip
        rename_i base sLen sCap
        refine ok_bd (ok_sizeOf _) fun size => ?_
        extract_lets -underBinder jp
        have hj : ∀ z, ok P T (jp z) := by
          intro z
          simp -zeta only [jp]
          extract_lets -underBinder jn
          have hn : ∀ n, ok P T (jn n) := by
            intro n
            simp -zeta only [jn]
            extract_lets -underBinder app need
            have happ : ok P T app := by
              simp only [app]
              refine ok_ite (ok_firstCells _ _ _) (ok_ite (ok_pure _) (ok_bd (ok_zeroValue _) fun _ => ok_pure _))
            clear_value app need
            refine ok_ite (ok_bd happ fun new => ?_) (ok_bd (ok_typeInfo _) fun ti => ?_)
            · extract_lets -underBinder j1
              split
              · exact ok_bd (ok_storeCells _ _ _) fun _ => ok_pure _
              · exact ok_pure _
            · extract_lets -underBinder j1
              have h1 : ∀ u, ok P T (j1 u) := by
                intro u
                simp -zeta only [j1]
                refine ok_bd (ok_typeInfo _) fun ti2 => ?_
                extract_lets -underBinder j2
                have h2 : ∀ u, ok P T (j2 u) := by
                  intro u
                  simp only [j2]
                  exact ok_bd (ok_choose _) fun _ => ok_bd (ok_typeInfo _) fun _ => ok_bd (ok_askRoom _) fun _ => ok_bd (ok_firstCells _ _ _) fun _ => ok_bd happ fun _ => ok_bd (ok_zeroValue _) fun _ => ok_bd (ok_newRow _ _) fun _ => ok_pure _
                clear_value j2
                refine ok_ite (ok_bd (ok_ite (ok_rtPanic _) (ok_bd (ok_mayShare _ _ _ _ _) fun b => ?_)) fun _ => h2 _) (h2 _)
                extract_lets -underBinder j3
                exact ok_ite (ok_bd ok_markNoRoom fun _ => ok_uns _) (ok_uns _)
              clear_value j1
              exact ok_ite (ok_bd (ok_rtPanic _) fun _ => h1 _) (h1 _)
          clear_value jn
          refine ok_ite (ok_bd (ok_asInt _) fun l => ?_) (ok_bd (ok_lenOf _) fun n => hn n)
          extract_lets -underBinder l2 j3
          have h3 : ∀ u, ok P T (j3 u) := by
            intro u
            simp -zeta only [j3]
            refine ok_bd (ok_typeInfo _) fun ti => ?_
            extract_lets -underBinder j4
            have h4 : ∀ u, ok P T (j4 u) := fun u => ok_bd (ok_pure _) fun n => hn n
            clear_value j4
            exact ok_ite (ok_bd (ok_choose _) fun _ => ok_bd (ok_rtPanic _) fun _ => h4 _) (h4 _)
          clear_value j3
          exact ok_ite (ok_bd (ok_rtPanic _) fun _ => h3 _) (h3 _)
        clear_value jp
        cases o3 with
        | none => exact ok_bd (ok_pure _) fun z => hj z
        | some xt => exact ok_bd (ok_underlying _) fun _ => ok_bd (ok_pure _) fun z => hj z
end Cc
end Go.Proofs.Ytbioidbbijmnjaa
