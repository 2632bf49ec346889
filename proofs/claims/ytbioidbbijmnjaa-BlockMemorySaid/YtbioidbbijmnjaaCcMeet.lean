/-
  CcMeet: a receive from a full buffer at which one sender waits: it takes the first value, and the sender's value is laid behind.
-/
import Derived.Test.YtbioidbbijmnjaaCcMid
import Derived.Conc.CrowdComm
namespace Go.Proofs.Ytbioidbbijmnjaa
set_option linter.unusedVariables false
set_option linter.unusedSimpArgs false
open Go.Conc
namespace Cc
theorem crowd_recv_full {P : Program} {gs : Array Goroutine} {w w₁ : World} {sl : Option (Nat × Nat)} {i j : Nat} {g g₂ gj : Goroutine} {es : Array Event} {shape shj : CommShape} {blocking : Bool}
    {c cap s r : Nat} {buf : Array Value} {closed tm : Bool} {v z zj : Value} (hi : gs[i]? = some g) (h : stepG P (i == 0) g w = .comm g₂ #[rcase c z] blocking shape w₁ es) (hc : w₁.heap[c]? = some (.chan cap buf closed s r tm)) (hsome : 0 < buf.size)
    (hij : j ≠ i) (hj : gs[j]? = some (parked gj #[scase c v zj] shj)) (hp : partners (gs.setIfInBounds i ph) c true = [(j, 0)]) :
    runT P (crowd gs w sl) i = (.next (crowd ((gs.setIfInBounds j (gj.finishComm P #[scase c v zj] shj 0 undef false)).setIfInBounds i (g₂.finishComm P #[rcase c z] shape 0 (buf.getD 0 undef) true)) (w₁.setChan c cap ((buf.extract 1 buf.size).push v) closed (s + 1) (r + 1) tm) sl),
      MemOp.ofEvents i g.frame.fn g.frame.place es ++ #[{ g := i, fn := g₂.frame.fn, pos := g₂.frame.place, act := .recv c r cap }, { g := i, fn := g₂.frame.fn, pos := g₂.frame.place, act := .recvDone c r },
        { g := j, fn := gj.frame.fn, pos := gj.frame.place, act := .send c s }, { g := j, fn := gj.frame.fn, pos := gj.frame.place, act := .sendDone c s }]) := by
  rw [runT_crowd_comm hi h]
  have hj' := stand_get (i := i) hij hj
  have hfp := finishPartner_at P (gs.setIfInBounds i ph) hj' (cs := #[scase c v zj]) (sh := shj) rfl 0 undef
  have hgd : (gs.setIfInBounds i ph).getD j default = parked gj #[scase c v zj] shj := by rw [Array.getD_eq_getD_getElem?, hj']; rfl
  have hov : offeredValue (gs.setIfInBounds i ph) j 0 = v := by simp [offeredValue, hj', parked, scase]
  simp [communicate, ways, rcase, hc, hp, hsome, choose, Sem.run, Question.forced, bind, Sem.bind, pure, World.setChan, crowd, hfp, hgd, hov, set_stand2, finishComm_parked, scase, parked]
  rfl
end Cc
end Go.Proofs.Ytbioidbbijmnjaa
