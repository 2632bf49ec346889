/-
  CcSend: block.send's own walk: block after block, then it closes and leaves.
-/
import Derived.Test.YtbioidbbijmnjaaCcWalk
import Derived.Test.YtbioidbbijmnjaaCcProg
import Derived.Test.YtbioidbbijmnjaaBlock
namespace Go.Proofs.Ytbioidbbijmnjaa
set_option linter.unusedVariables false
set_option linter.unusedSimpArgs false
open Go.Conc Go.ChangeShapes Go.WideShapes Go.ChangeAt Go.RowKit
namespace Cc
/-- m blocks of l -/
def blks : Nat → List UInt8 → List Value
  | 0, _ => []
  | m + 1, l => .agg (rowA (l.take 512)) :: blks m (l.drop 512)
/-- the world at the fork, but for the channel and what is made later -/
def Sw (w0 : World) (c : Nat) (w : World) : Prop := ∀ j, j < w0.heap.size → j ≠ c → w.heap[j]? = w0.heap[j]?
theorem Sw.aside {w0 : World} {c : Nat} : ∀ w w₁, Aside c w w₁ → Sw w0 c w → Sw w0 c w₁ := fun w w₁ h hs j hj hc => (h.block j hc).trans (hs j hj hc)
theorem Sw.keeps {w0 w : World} {c cap s r : Nat} {buf : Array Value} {cl tm : Bool} (h : Sw w0 c w) (hc : w0.heap[c]? = some (.chan cap buf cl s r tm)) : Keeps w0 w := fun p v hv => by
  have hlt := World.block_lt_of_cell? (w := w0) (a := p) hv
  have hne : p.block ≠ c := by
    rintro rfl
    unfold World.cell? at hv
    rw [hc] at hv
    cases hv
  have he := h p.block hlt hne
  unfold World.cell? at hv ⊢
  rw [he]
  exact hv
noncomputable def bodyS : Code := Try.f14.body.getD .skip
noncomputable def LS : Code := match bodyS with | .seq (.block _ (.loop c)) _ => c | _ => .skip
noncomputable def RS : Code := match bodyS with | .seq _ r => r | _ => .skip
noncomputable def S2 : Code := match LS with | .seq _ (.block _ (.seq _ r)) => r | _ => .skip
noncomputable def opsS1 : Array Oper := match LS with | .seq _ (.block _ (.seq (.region _ ops _) _)) => ops | _ => #[]
noncomputable def opsS3 : Array Oper := match RS with | .region _ ops _ => ops | _ => #[]
def bS : Frame := { (default : Frame) with fn := 14, kind := .deferred }
/-- the child's bottom frame -/
noncomputable def botF : Frame := { (default : Frame) with fn := Try.prog.funcs.size, defers := [], mode := .panicking [goexitEntry] }
section
variable (w0 : World) (c : Nat)
theorem termsS : Terms (fun _ w₁ => Sw w0 c w₁) (DB4 w0.heap.size) := ⟨fun _ _ _ _ h => h, fun w => ⟨rfl, by simp⟩⟩
noncomputable def headS (d : Value) (u2 u3 u4 u5 u6 u7 u8 u9 u10 u11 u12 u13 u14 : Value) : Goroutine :=
  G (bS.at ⟨#[d, .chan (some c), u2, u3, u4, u5, u6, u7, u8, u9, u10, u11, u12, u13, u14], []⟩ [.code LS, .inLoop LS, .inBlock 0, .code RS]) [botF]
noncomputable def atSendS (d v : Value) (u2 u3 u4 u5 u6 u8 u9 u10 u12 u13 u14 : Value) (rest : List Nat) : Goroutine :=
  G (bS.at ⟨#[d, .chan (some c), u2, u3, u4, u5, u6, .chan (some c), u8, u9, u10, v, u12, u13, u14], []⟩ [.inRegion opsS1 rest, .code S2, .inBlock 1, .inLoop LS, .inBlock 0, .code RS]) [botF]
noncomputable def atCloseS (d : Value) (u2 u3 u4 u5 u6 u7 u8 u9 u10 u11 u12 u13 : Value) (rest : List Nat) : Goroutine :=
  G (bS.at ⟨#[d, .chan (some c), u2, u3, u4, u5, u6, u7, u8, u9, u10, u11, u12, u13, .chan (some c)], []⟩ [.inRegion opsS3 rest]) [botF]
variable {Stop : Goroutine → World → Prop}
theorem add0 (cp : Nat) (A : Addr) : (if cp = 0 then some A else (some A).map (·.add (0 * 1))) = some A := by simp [Addr.add]
set_option maxRecDepth 100000 in
theorem seg_sendS {A : Addr} {n cp : Nat} {l : List UInt8} {s r : Nat} {buf : Array Value} {tm : Bool} (hc : w0.heap[c]? = some (.chan 4 buf false s r tm)) (hb : Bs w0 (some A) n cp l) (u2 u3 u4 u5 u6 u7 u8 u9 u10 u11 u12 u13 u14 : Value)
    (hn : 512 ≤ n)
    (next : ∀ (u2 u3 u4 u5 u6 u8 u9 u10 u12 u13 u14 : Value), ∃ m, Goes Try.prog false (fun _ w₁ => Sw w0 c w₁) (DB4 w0.heap.size) Stop m (atSendS c (.slice (some A) n cp) (.agg (rowA (l.take 512))) u2 u3 u4 u5 u6 u8 u9 u10 u12 u13 u14 [5]) default) :
    ∃ m, Goes Try.prog false (fun _ w₁ => Sw w0 c w₁) (DB4 w0.heap.size) Stop m (headS c (.slice (some A) n cp) u2 u3 u4 u5 u6 u7 u8 u9 u10 u11 u12 u13 u14) default := by
  have T := termsS w0 c
  have hl := hb.len; have hcap := hb.cap
  have hi29 : (Try.prog.info? 29).map (·.size) = some ((l.take 512).map u8v).length := by
    rw [List.length_map, List.length_take, show min 512 l.length = 512 by omega]; kernel_rfl
  have hi5 : (Try.prog.info? 5).map (·.size) = some 1 := by kernel_rfl
  have hcells : ∀ w₁, Sw w0 c w₁ → ∀ j v, ((l.take 512).map u8v)[j]? = some v → w₁.cell? (A.add j) = some v := fun w₁ h₁ j v hj => by
    obtain ⟨x, hx, hv⟩ := ((h₁.keeps hc).bs hb).2.2.2.1 j v (by
      rw [List.map_take, List.getElem?_take] at hj
      split at hj
      · exact hj
      · cases hj)
    cases hx
    exact hv
  have hAlt : A.block < w0.heap.size := by
    have h0 : 0 < l.length := by omega
    obtain ⟨x, hx, hv⟩ := hb.2.2.2.1 0 (u8v (l.getD 0 0)) (by simp [List.getD, List.getElem?_eq_getElem h0])
    cases hx
    have := World.block_lt_of_cell? (w := w0) (a := A.add 0) hv
    rwa [addBlock] at this
  simp only [headS, atSendS, opsS1, S2, LS, RS, bodyS, Try.f14, Option.getD_some] at next ⊢
  refine ge_ctl T rfl (fun _ => stepG_seq) ?_
  refine ge_ctl T rfl (fun _ => stepG_seq) ?_
  refine ge_ctl T rfl (fun _ => stepG_region) ?_
  simp only [List.size_toArray, List.length_cons, List.length_nil, Nat.reduceAdd, Nat.zero_add, List.range, List.range.loop]
  refine ge_move T rfl rfl (by decide) (.inl rfl) ?_
  walk_nrm
  refine ge_still T rfl rfl (by decide) _ (fun w₁ => rn_len rfl rfl Try.underlying22 w₁) ?_
  walk_nrm
  refine ge_still T rfl rfl (by decide) _ (fun w₁ => rn_geq rfl rfl rfl Try.underlying3 w₁) ?_
  walk_nrm
  refine ge_ctl T rfl (fun _ => stepG_region_end) ?_
  refine ge_ctl T rfl (fun _ => stepG_cond (t := true) (by simp [Act.eval]; omega)) ?_
  simp only [if_true]
  refine ge_ctl T rfl (fun _ => stepG_skip) ?_
  refine ge_ctl T rfl (fun _ => stepG_block) ?_
  refine ge_ctl T rfl (fun _ => stepG_seq) ?_
  refine ge_ctl T rfl (fun _ => stepG_region) ?_
  simp only [List.size_toArray, List.length_cons, List.length_nil, Nat.reduceAdd, Nat.zero_add, List.range, List.range.loop]
  refine ge_move T rfl rfl (by decide) (.inl rfl) ?_
  walk_nrm
  refine ge_move T rfl rfl (by decide) (.inl rfl) ?_
  walk_nrm
  refine ge_still T rfl rfl (by decide) (.slice (some A) 512 cp) (fun w₁ => rn_slice rfl Try.underlying22 hi5 rfl 0 512 .i64 .i64 rfl rfl (by omega) hn hcap (by rw [add0]; rfl) w₁) ?_
  walk_nrm
  refine ge_still T rfl rfl (by decide) _ (fun w₁ => rn_arr rfl rfl Try.underlying29 (by omega) w₁) ?_
  walk_nrm
  refine ge_read T rfl rfl (by decide) _ (fun w₁ h₁ => ⟨rn_load rfl rfl ((l.take 512).map u8v) Try.underlying29 hi29 w₁ (hcells w₁ h₁), rfl, fun e he => evS_read rfl he (load_reads (· < w0.heap.size) rfl rfl hAlt w₁ hi29 Try.underlying29 (fun j hj => ?_) e (mem_listed he))⟩) ?_
  · rw [hcells w₁ h₁ j ((l.take 512).map u8v)[j] (List.getElem?_eq_getElem hj)]; rfl
  walk_nrm
  exact next ..
set_option maxRecDepth 100000 in
theorem seg_nextS {A : Addr} {n cp : Nat} (v : Value) (u2 u3 u4 u5 u6 u8 u9 u10 u12 u13 u14 : Value) (hn : 512 ≤ n) (hcap : n ≤ cp)
    (next : ∀ (u2 u3 u4 u5 u6 u7 u8 u9 u10 u11 u12 u13 u14 : Value), ∃ m, Goes Try.prog false (fun _ w₁ => Sw w0 c w₁) (DB4 w0.heap.size) Stop m (headS c (.slice (if cp = 512 then some A else (some A).map (·.add (512 * 1))) (n - 512) (cp - 512)) u2 u3 u4 u5 u6 u7 u8 u9 u10 u11 u12 u13 u14) default) :
    ∃ m, Goes Try.prog false (fun _ w₁ => Sw w0 c w₁) (DB4 w0.heap.size) Stop m (atSendS c (.slice (some A) n cp) v u2 u3 u4 u5 u6 u8 u9 u10 u12 u13 u14 []) default := by
  have T := termsS w0 c
  have hi5 : (Try.prog.info? 5).map (·.size) = some 1 := by kernel_rfl
  simp only [headS, atSendS, opsS1, S2, LS, RS, bodyS, Try.f14, Option.getD_some] at next ⊢
  refine ge_ctl T rfl (fun _ => stepG_region_end) ?_
  refine ge_ctl T rfl (fun _ => stepG_region) ?_
  simp only [List.size_toArray, List.length_cons, List.length_nil, Nat.reduceAdd, Nat.zero_add, List.range, List.range.loop]
  refine ge_move T rfl rfl (by decide) (.inl rfl) ?_
  walk_nrm
  refine ge_still T rfl rfl (by decide) (.slice (if cp = 512 then some A else (some A).map (·.add (512 * 1))) (n - 512) (cp - 512)) (fun w₁ => rn_slice rfl Try.underlying22 hi5 rfl 512 n .i64 .i64 rfl rfl hn (Nat.le_refl _) hcap rfl w₁) ?_
  walk_nrm
  refine ge_move T rfl rfl (by decide) (.inr rfl) ?_
  walk_nrm
  refine ge_ctl T rfl (fun _ => stepG_region_end) ?_
  refine ge_ctl T rfl (fun _ => stepG_inBlock) ?_
  refine ge_ctl T rfl (fun _ => stepG_inLoop) ?_
  exact next ..
set_option maxRecDepth 100000 in
theorem seg_closeS {ao : Option Addr} {n cp : Nat} (u2 u3 u4 u5 u6 u7 u8 u9 u10 u11 u12 u13 u14 : Value) (hn : n < 512)
    (next : ∀ (u2 u3 u4 u5 u6 u7 u8 u9 u10 u11 u12 u13 : Value), ∃ m, Goes Try.prog false (fun _ w₁ => Sw w0 c w₁) (DB4 w0.heap.size) Stop m (atCloseS c (.slice ao n cp) u2 u3 u4 u5 u6 u7 u8 u9 u10 u11 u12 u13 [1]) default) :
    ∃ m, Goes Try.prog false (fun _ w₁ => Sw w0 c w₁) (DB4 w0.heap.size) Stop m (headS c (.slice ao n cp) u2 u3 u4 u5 u6 u7 u8 u9 u10 u11 u12 u13 u14) default := by
  have T := termsS w0 c
  simp only [headS, atCloseS, opsS3, LS, RS, bodyS, Try.f14, Option.getD_some] at next ⊢
  refine ge_ctl T rfl (fun _ => stepG_seq) ?_
  refine ge_ctl T rfl (fun _ => stepG_seq) ?_
  refine ge_ctl T rfl (fun _ => stepG_region) ?_
  simp only [List.size_toArray, List.length_cons, List.length_nil, Nat.reduceAdd, Nat.zero_add, List.range, List.range.loop]
  refine ge_move T rfl rfl (by decide) (.inl rfl) ?_
  walk_nrm
  refine ge_still T rfl rfl (by decide) _ (fun w₁ => rn_len rfl rfl Try.underlying22 w₁) ?_
  walk_nrm
  refine ge_still T rfl rfl (by decide) _ (fun w₁ => rn_geq rfl rfl rfl Try.underlying3 w₁) ?_
  walk_nrm
  refine ge_ctl T rfl (fun _ => stepG_region_end) ?_
  refine ge_ctl T rfl (fun _ => stepG_cond (t := false) (by simp [Act.eval]; omega)) ?_
  simp only [Bool.false_eq_true, if_false]
  refine ge_ctl T rfl (fun _ => stepG_exit rfl) ?_
  refine ge_ctl T rfl (fun _ => stepG_region) ?_
  simp only [List.size_toArray, List.length_cons, List.length_nil, Nat.reduceAdd, Nat.zero_add, List.range, List.range.loop]
  refine ge_move T rfl rfl (by decide) (.inl rfl) ?_
  walk_nrm
  exact next ..
theorem atSendS_stop (d v : Value) (vs : List Value) (u2 u3 u4 u5 u6 u8 u9 u10 u12 u13 u14 : Value)
    (next : Sends4 Try.prog c w0.heap.size (Sw w0 c) vs (atSendS c d v u2 u3 u4 u5 u6 u8 u9 u10 u12 u13 u14 [])) :
    AtSend4 Try.prog c w0.heap.size (Sw w0 c) v (Sends4 Try.prog c w0.heap.size (Sw w0 c) vs) (atSendS c d v u2 u3 u4 u5 u6 u8 u9 u10 u12 u13 u14 [5]) := by
  refine ⟨rfl, atSendS c d v u2 u3 u4 u5 u6 u8 u9 u10 u12 u13 u14 [5], .tuple #[], #[], fun w _ => ?_, by simp, ?_⟩
  · simp only [atSendS, opsS1, LS, bodyS, Try.f14, Option.getD_some]
    rw [stepG_comm (cases := #[scase c v (.tuple #[])]) (blocking := true) (shape := .send) (w' := w) rfl rfl (by decide) (by simp [execOp, scase, Act.eval])]
    simp [listed, execOp, seen]
  · have e : Go.Conc.served (atSendS c d v u2 u3 u4 u5 u6 u8 u9 u10 u12 u13 u14 [5]) undef = atSendS c d v u2 u3 u4 u5 u6 u8 u9 u10 u12 u13 u14 [] := by
      simp only [atSendS, opsS1, LS, bodyS, Try.f14, Option.getD_some, served_G]
      rfl
    rw [e]; exact next
theorem quitsS (d : Value) (u2 u3 u4 u5 u6 u7 u8 u9 u10 u11 u12 u13 : Value) : QuitsIn Try.prog 4 (atCloseS c d u2 u3 u4 u5 u6 u7 u8 u9 u10 u11 u12 u13 []) := by
  simp only [atCloseS]
  refine .inr ⟨rfl, _, fun w => stepG_region_end, ?_⟩
  refine .inr ⟨rfl, _, fun w => stepG_end, ?_⟩
  refine .inr ⟨rfl, G botF [], fun w => ?_, ?_⟩
  · simp [G, stepG, unwind, doReturn, results, Frame.at, bS, botF, Try.func14, Try.f14, seen, GStep.after, goexitEntry]
  refine .inr ⟨rfl, { G botF [] with status := .finished }, fun w => ?_, rfl⟩
  simp [G, stepG, unwind, botF, goexitEntry, Frame.catches]
  rfl
theorem atCloseS_stop (d : Value) (u2 u3 u4 u5 u6 u7 u8 u9 u10 u11 u12 u13 : Value) (hcl : c < w0.heap.size) : AtClose4 Try.prog c w0.heap.size (Sw w0 c) (atCloseS c d u2 u3 u4 u5 u6 u7 u8 u9 u10 u11 u12 u13 [1]) := by
  refine ⟨rfl, ?_, atCloseS c d u2 u3 u4 u5 u6 u7 u8 u9 u10 u11 u12 u13 [], #[⟨.obj c, false, true⟩], 4, fun w buf s r tm _ hc => ?_, ?_, quitsS c ..⟩
  · simp [mayWake, atCloseS, opsS3, RS, bodyS, Try.f14, G, Frame.at]
  · simp only [atCloseS, opsS3, RS, bodyS, Try.f14, Option.getD_some]
    rw [stepG_close rfl rfl (by decide) rfl rfl hc (by simp [bS, Try.func14, Try.f14])]
    rfl
  · intro e he
    simp at he
    subst he
    exact ⟨.inr (.inl ⟨c, rfl, hcl, rfl⟩), rfl⟩
/-- from the loop's head, m blocks to send -/
theorem sends_from {s r : Nat} {buf : Array Value} {tm : Bool} (hc : w0.heap[c]? = some (.chan 4 buf false s r tm)) : ∀ (m : Nat) (ao : Option Addr) (n cp : Nat) (l : List UInt8), Bs w0 ao n cp l → n / 512 = m →
    ∀ (u2 u3 u4 u5 u6 u7 u8 u9 u10 u11 u12 u13 u14 : Value), ∃ k, Goes Try.prog false (fun _ w₁ => Sw w0 c w₁) (DB4 w0.heap.size) (StopB4 Try.prog c w0.heap.size (Sw w0 c) (blks m l)) k (headS c (.slice ao n cp) u2 u3 u4 u5 u6 u7 u8 u9 u10 u11 u12 u13 u14) default
  | 0, ao, n, cp, l, hb, hm, u2, u3, u4, u5, u6, u7, u8, u9, u10, u11, u12, u13, u14 => by
    refine seg_closeS w0 c _ _ _ _ _ _ _ _ _ _ _ _ _ (by omega) fun u2 u3 u4 u5 u6 u7 u8 u9 u10 u11 u12 u13 => ⟨0, Goes.stop fun _ _ => ?_⟩
    exact atCloseS_stop w0 c _ _ _ _ _ _ _ _ _ _ _ _ _ (Array.getElem?_eq_some_iff.1 hc).1
  | m + 1, ao, n, cp, l, hb, hm, u2, u3, u4, u5, u6, u7, u8, u9, u10, u11, u12, u13, u14 => by
    have hn : 512 ≤ n := by omega
    have hl := hb.len; have hcap := hb.cap
    cases ao with
    | none => have := hb.2.2.2.2 rfl; omega
    | some A =>
      refine seg_sendS w0 c hc hb _ _ _ _ _ _ _ _ _ _ _ _ _ hn fun u2 u3 u4 u5 u6 u8 u9 u10 u12 u13 u14 => ⟨0, Goes.stop fun _ _ => ?_⟩
      refine atSendS_stop w0 c _ _ _ _ _ _ _ _ _ _ _ _ _ _ ((sends4_iff ..).2 ?_)
      have hcut := bs_cut hb 512 n hn (Nat.le_refl _)
      rw [show l.take n = l from List.take_of_length_le (by omega)] at hcut
      exact seg_nextS w0 c _ _ _ _ _ _ _ _ _ _ _ _ hn hcap fun u2 u3 u4 u5 u6 u7 u8 u9 u10 u11 u12 u13 u14 => sends_from hc m _ _ _ _ hcut (by omega) ..
/-- the call that the go statement holds -/
def callS (d : Value) : Deferred := { target := .fn (.func 14) #[], args := #[d, .chan (some c)] }
theorem born_stepS (d : Value) (w : World) : stepG Try.prog false (born Try.prog (callS c d)) w =
    .go (G (bS.at ⟨#[d, .chan (some c), undef, undef, undef, undef, undef, undef, undef, undef, undef, undef, undef, undef, undef], []⟩ [.code bodyS]) [botF]) w #[] := by
  simp [born, callS, stepG, unwind, callDeferred, invoke, callFunc, Try.func14, Try.f14, seen, GStep.after, G, Frame.enter, Frame.at, bS, botF, bodyS]
/-- the sender's script, whole -/
theorem sends_all {s r : Nat} {buf : Array Value} {tm : Bool} (hc : w0.heap[c]? = some (.chan 4 buf false s r tm)) {ao : Option Addr} {n cp : Nat} {l : List UInt8} (hb : Bs w0 ao n cp l) :
    Sends4 Try.prog c w0.heap.size (Sw w0 c) (blks (n / 512) l) (born Try.prog (callS c (.slice ao n cp))) := by
  have T := termsS w0 c
  refine (sends4_iff ..).2 ?_
  refine ge_ctl T rfl (fun w => born_stepS c _ w) ?_
  have next := sends_from w0 c hc (n / 512) ao n cp l hb rfl undef undef undef undef undef undef undef undef undef undef undef undef undef
  simp only [headS, LS, RS, bodyS, Try.f14, Option.getD_some] at next ⊢
  refine ge_ctl T rfl (fun _ => stepG_seq) ?_
  refine ge_ctl T rfl (fun _ => stepG_block) ?_
  refine ge_ctl T rfl (fun _ => stepG_loop) ?_
  exact next
end
end Cc
end Go.Proofs.Ytbioidbbijmnjaa
