/-
  MemW: the law BlockMemory, from its entry to the end of the run.
-/
import Derived.Test.YtbioidbbijmnjaaCcReg2
import Derived.Test.YtbioidbbijmnjaaLawMem
import Derived.Test.YtbioidbbijmnjaaApWalk
namespace Go.Proofs.Ytbioidbbijmnjaa
set_option linter.unusedVariables false
set_option linter.unusedSimpArgs false
open Go.Conc Go.ChangeShapes Go.WideShapes Go.ChangeAt Go.RowKit
theorem fill_two (z c1 c2 : Array Value) (sz : Nat) (hz : z.size = 2 * sz) (h1 : c1.size = sz) (h2 : c2.size = sz) : Instr.fill (fun i => some (i * sz, sz)) z [(0, .agg c1), (1, .agg c2)] = some (c1 ++ c2) := by
  have e1 := foldl_set 0 c1.toList 0 z (by simp; omega)
  have e2 := foldl_set sz c2.toList 0 (z.toList.take (0 + 0) ++ c1.toList ++ z.toList.drop (0 + 0 + c1.toList.length)).toArray (by simp; omega)
  simp only [Instr.fill, Value.cells, Nat.zero_mul, Nat.one_mul, h1, h2]
  rw [if_neg (by simp [hz]; omega)]
  rw [← Array.foldl_toList, show c1.zipIdx.toList = c1.toList.zipIdx 0 by simp, e1]
  rw [if_neg (by simp [hz]; omega)]
  rw [← Array.foldl_toList, show c2.zipIdx.toList = c2.toList.zipIdx 0 by simp, e2]
  congr 1
  apply Array.ext'
  have hs1 : c1.toList.length = sz := by simpa using h1
  have hs2 : c2.toList.length = sz := by simpa using h2
  have hz' : z.toList.length = 2 * sz := by simpa using hz
  simp only [Array.toList_append, List.toList_toArray, Nat.add_zero, Nat.zero_add, List.take_zero, List.nil_append]
  rw [List.take_append_of_le_length (by omega), List.take_of_length_le (by omega), List.drop_of_length_le (by simp; omega), List.append_nil]
section
variable {P : Program} {ops : Array Oper} {rest : List Oper} {o : Oper} {a : Act} {w : World} {Q : Exit → Act → World → Prop}
/-- a literal slice of two aggregates -/
theorem wpList_slice_two (hgd : o.guard = none) (t : TypeId) (x y : Operand) (ho : o.op = .buildSlice t 2 #[(0, x), (1, y)]) {e : TypeId} {z : Array Value} (ht : P.underlying t = some (.slice e)) (c1 c2 : Array Value) (hi : (P.info? e).map (fun i => (i.zero, i.size)) = some (some (.agg z), c1.size))
    (hsz : c2.size = c1.size) (hpos : 0 < c1.size) (hlim : 2 * c1.size ≤ 16777216) (hx : a.eval x = .agg c1) (hy : a.eval y = .agg c2)
    (h : wpList P ops Q rest (a.put o.dst (.slice (some ⟨w.heap.size, 0, none⟩) 2 2)) (w.alloc (.cells (c1 ++ c2) e))) : wpList P ops Q (o :: rest) a w := by
  refine wpList_value hgd _ _ ?_ h
  obtain ⟨i, hi', hh⟩ := Option.map_eq_some_iff.1 hi
  simp only [Prod.mk.injEq] at hh
  obtain ⟨h0, h1⟩ := hh
  have hne : ¬ 2 * c1.size = 0 := by omega
  have hlim' : ¬ 16777216 < 2 * c1.size := by omega
  have hf := fill_two ((Array.range (2 * c1.size)).map (z[· % z.size]!)) c1 c2 c1.size (by simp) rfl hsz
  simp [execOp, ho, hx, hy, Instr.buildSlice, run_underlying ht, sizeOf, zeroValue, typeInfo, hi', h0, h1, hne, hlim', Value.cells, hf, newRow, Result.andThen]
end
theorem rowA_app (x y : List UInt8) : rowA x ++ rowA y = rowA (x ++ y) := by simp [rowA]
theorem two_blks (w : World) (p q : List UInt8) (hp : p.length = 512) (hq : q.length = 512) : Blks (w.alloc (.cells (rowA p ++ rowA q) 29)) (some ⟨w.heap.size, 0, none⟩) 2 2 [p, q] := by
  refine ⟨?_, fun b hb => by rcases List.mem_cons.1 hb with rfl | hb; exact hp; rw [List.mem_singleton.1 hb]; exact hq⟩
  rw [rowA_app]
  have e := isSl_new w 29 512 2 (rowA (p ++ q)) (by rw [rowA_size, List.length_append, hp, hq]) (by unfold maxLen; omega)
  simpa [rowA] using e
theorem ab_bs1 (w : World) : Bs (w.alloc (.cells #[.int .u8 97, .int .u8 98] 5 (2, 3))) (some ⟨w.heap.size, 0, none⟩) 2 2 [97, 98] :=
  isSl_mark w 5 1 2 #[.int .u8 97, .int .u8 98] _ rfl (by unfold maxLen; omega)
theorem dist_rising (aL : Option Addr) (nL : Nat) (S : List Sl) (t : Nat → Nat) (ht : ∀ i, i < nL → t i ≤ t (i + 1)) (hb : ∀ i b, i < nL → blk? (slAt S i).1 = some b → t i ≤ b ∧ b < t (i + 1)) (ho : ∀ x, aL = some x → t nL ≤ x.block) : Dist aL nL S := by
  have mono : ∀ j, j ≤ nL → ∀ i, i ≤ j → t i ≤ t j := by
    intro j
    induction j with
    | zero => intro _ i hi; obtain rfl : i = 0 := by omega
              exact Nat.le_refl _
    | succ j ih =>
      intro hj i hi
      by_cases e : i = j + 1
      · subst e; exact Nat.le_refl _
      · exact Nat.le_trans (ih (by omega) i (by omega)) (ht j (by omega))
  refine ⟨fun i j b hi hj hne h1 h2 => ?_, fun i b x hi h1 hx e => ?_⟩
  · have a1 := hb i b hi h1
    have a2 := hb j b hj h2
    by_cases h : i < j
    · have := mono j (by omega) (i + 1) (by omega); omega
    · have := mono i (by omega) (j + 1) (by omega); omega
  · have a1 := hb i b hi h1
    have := mono nL (Nat.le_refl _) (i + 1) (by omega)
    have := ho x hx
    omega
theorem run_bs_str8 {P : Program} {w : World} {src dst e : TypeId} (hs : P.underlying src = some (.slice e)) (he : P.underlying e = some (.int .u8)) (hd : P.underlying dst = some .string)
    {ao : Option Addr} {n c : Nat} {l : List UInt8} (hb : Bs w ao n c l) : (convert src dst (.slice ao n c)).run P w = .ok (.string ⟨l.toArray⟩) w := by
  cases ao with
  | none =>
    obtain ⟨rfl, rfl⟩ := hb.2.2.2.2 rfl
    have : l = [] := List.eq_nil_of_length_eq_zero hb.len
    subst this
    exact run_convert_bytes_nil w src e hs he 0 0 dst hd
  | some ad =>
    obtain rfl := hb.len
    exact run_convert_bytes_back w src dst e ad c l hs he hd (fun j hj => by
      obtain ⟨x, hx, hc⟩ := hb.2.2.2.1 j (u8v l[j]) (by simp [List.getElem?_eq_getElem hj])
      cases hx
      exact hc)
namespace Cc
theorem Bel.low {w w' w'' : World} {S : Nat} {τ : Nat → Question → Nat} {d : Nat} (h : Bel w w') (k : Below S (Cc.tp w' τ d) w'') (hS : w.heap.size ≤ S) : Bel w w'' :=
  ⟨k.os.trans h.os, rfl, k.output.trans h.output, Nat.le_trans h.size k.size, fun j hj => (k.block j (Nat.lt_of_lt_of_le hj hS)).trans (h.block j hj)⟩
section
variable {P : Program} {L : List FuncId} {w : World} {Φ : Goroutine → World → Prop} {b : Frame} {a : Act} {k : List Item} {cs : List Frame} {ops : Array Oper} {i : Nat} {rest : List Nat} {o o1 : Oper}
theorem BW.opv2 (v v1 : Value) {Rw : World → Prop} (hP : OkProg P L) (ho : ops[i]? = some o) (ho1 : ops[i + 1]? = some o1) (hk : b.kind ≠ .early) (hok : okOp P [] o.op = true) (hok1 : okOp P [] o1.op = true)
    (hw : ∀ τ d, wpList P ops (fun e x y => e = .normal ∧ x = (a.put o.dst v).put o1.dst v1 ∧ Rw y) [o, o1] a (tp w τ d)) (hR : ∀ w τ d, Rw w → Rw (tp w τ d))
    (hn : ∀ w', Rw w' → BW P (G (b.at ((a.put o.dst v).put o1.dst v1) (.inRegion ops rest :: k)) cs) w' Φ) : BW P (G (b.at a (.inRegion ops (i :: (i + 1) :: rest) :: k)) cs) w Φ := by
  have hpos : ∀ j, j < [o, o1].length → [o, o1][j]? = ops[i + j]? := fun j hj => by
    rcases (by simp at hj; omega : j = 0 ∨ j = 1) with rfl | rfl
    · simpa using ho.symm
    · simpa using ho1.symm
  have := BW.ops (rest := rest) (k := k) (cs := cs) (Φ := Φ) (Rr := fun x y => x = (a.put o.dst v).put o1.dst v1 ∧ Rw y) [o, o1] i hk hP hpos (by simp [hok, hok1]) hw (fun _ _ _ _ h => ⟨h.1, hR _ _ _ h.2⟩) fun x y h => h.1 ▸ hn _ h.2
  simpa [List.range'] using this
/-- m operations that leave the world as it is -/
theorem BW.stillN {todo : List Nat} (m : Nat) (l : List Oper) (a' : Act) (hP : OkProg P L) (hk : b.kind ≠ .early) (ht : todo = List.range' i m ++ rest) (hm : l.length = m) (hl : ∀ j, j < m → l[j]? = ops[i + j]?) (hok : (l.all fun o => okOp P [] o.op) = true)
    (hw : ∀ τ d, wpList P ops (fun e x y => e = .normal ∧ x = a' ∧ y = tp w τ d) l a (tp w τ d)) (hn : BW P (G (b.at a' (.inRegion ops rest :: k)) cs) w Φ) : BW P (G (b.at a (.inRegion ops todo :: k)) cs) w Φ := by
  subst ht hm
  exact BW.still a' l i hk hP hl hok hw hn
end

theorem enterM (a : Option Addr) (n c mk : Nat) : Frame.enter Try.prog 5 #[.slice a n c, .int .u8 (mk : Int)] .normal = (base 5).at ⟨#[.slice a n c, .int .u8 (mk : Int), undef, undef, undef, undef, undef, undef, undef, undef, undef, undef, undef, undef, undef, undef, undef, undef, undef, undef, undef, undef, undef, undef, undef, undef, undef, undef, undef, undef, undef, undef, undef, undef, undef, undef, undef, undef, undef, undef, undef, undef, undef, undef, undef, undef, undef, undef, undef, undef, undef, undef, undef, undef, undef, undef, undef, undef, undef, undef, undef, undef, undef, undef, undef, undef, undef, undef, undef, undef, undef, undef, undef, undef, undef, undef, undef, undef, undef, undef, undef, undef, undef, undef, undef, undef, undef, undef, undef, undef, undef, undef, undef, undef, undef, undef, undef, undef, undef, undef, undef, undef, undef, undef, undef, undef, undef, undef, undef, undef, undef, undef, undef, undef, undef, undef, undef, undef, undef, undef, undef, undef, undef, undef, undef, undef, undef, undef, undef, undef, undef, undef, undef, undef, undef, undef, undef, undef, undef, undef, undef, undef, undef, undef, undef, undef, undef, undef, undef], []⟩ [.code bodyM] := by
  have h : (#[.slice a n c, .int .u8 (mk : Int)] : Array Value) ++ Array.replicate (Try.f5.ntmps - (#[.slice a n c, .int .u8 (mk : Int)] : Array Value).size) undef = #[.slice a n c, .int .u8 (mk : Int), undef, undef, undef, undef, undef, undef, undef, undef, undef, undef, undef, undef, undef, undef, undef, undef, undef, undef, undef, undef, undef, undef, undef, undef, undef, undef, undef, undef, undef, undef, undef, undef, undef, undef, undef, undef, undef, undef, undef, undef, undef, undef, undef, undef, undef, undef, undef, undef, undef, undef, undef, undef, undef, undef, undef, undef, undef, undef, undef, undef, undef, undef, undef, undef, undef, undef, undef, undef, undef, undef, undef, undef, undef, undef, undef, undef, undef, undef, undef, undef, undef, undef, undef, undef, undef, undef, undef, undef, undef, undef, undef, undef, undef, undef, undef, undef, undef, undef, undef, undef, undef, undef, undef, undef, undef, undef, undef, undef, undef, undef, undef, undef, undef, undef, undef, undef, undef, undef, undef, undef, undef, undef, undef, undef, undef, undef, undef, undef, undef, undef, undef, undef, undef, undef, undef, undef, undef, undef, undef, undef, undef, undef, undef, undef, undef, undef, undef] := by
    simp only [Try.f5, List.size_toArray, List.length_cons, List.length_nil, Nat.reduceAdd, Nat.reduceSub, Array.replicate_succ, Array.replicate_zero, List.push_toArray, List.append_toArray, List.nil_append, List.cons_append]
  have hbody : Try.f5.body = some bodyM := by simp only [bodyM, Try.f5, Option.getD_some]
  rw [← h]
  simp [Frame.enter, Frame.at, base, Try.func5, hbody]
set_option maxRecDepth 100000 in
set_option maxHeartbeats 4000000 in
theorem BlockMemory_bw (a : Option Addr) (n c : Nat) (l : List UInt8) (mk : Nat) (w : World) (h : Bs w a n c l) (hc : c ≤ 140737488351232) (hmk : mk < 256) :
    BW Try.prog (G (Frame.enter Try.prog 5 #[.slice a n c, .int .u8 (mk : Int)] .normal) []) w (Ends Try.prog fun v w' => v = .bool true ∧ Bel w w') := by
  have hl := h.len; have hcap := h.cap
  have HR := @Mem_rest
  have kc := fun (w : World) (C : Array Value) (n c : Nat) => Lib.run_convert_bytes_const (P := Try.prog) w 22 5 C n c Try.underlying22 Try.underlying5
  have hq1 := ofL_len [97, 98]; have hq2 := ofL_len [99, 100]
  have hfl : ((([ofL [97, 98], ofL [99, 100]].flatten.take 600).take 514).drop 512) = [99, 100] := by decide +kernel
  have hf6 : ([ofL [97, 98], ofL [99, 100]].flatten.take 600).length = 600 := by decide +kernel
  have hI : (Try.prog.info? 29).map (fun i => (i.zero, i.size)) = some (some (.agg (rowA zblk)), (rowA (ofL [97, 98])).size) := by rw [rowA_size, hq1]; kernel_rfl
  have hS2 : (rowA (ofL [99, 100])).size = (rowA (ofL [97, 98])).size := by rw [rowA_size, rowA_size, hq1, hq2]
  have hS1 : (rowA (ofL [97, 98])).size = 512 := by rw [rowA_size, hq1]
  generalize hQ1 : ofL [97, 98] = q1 at *
  generalize hQ2 : ofL [99, 100] = q2 at *
  rw [enterM]
  simp only [RM, bodyM, Try.f5, Option.getD_some] at HR ⊢
  refine BW.seq ?_
  refine BW.region ?_
  simp only [List.size_toArray, List.length_cons, List.length_nil, Nat.reduceAdd, Nat.zero_add, List.range']
  refine BW.move rfl rfl (by decide) (.inr rfl) ?_
  walk_nrm
  refine BW.rend ?_
  refine BW.seq ?_
  refine BW.region ?_
  simp only [List.size_toArray, List.length_cons, List.length_nil, Nat.reduceAdd, Nat.zero_add, List.range']
  refine BW.opv2 (.slice (some ⟨w.heap.size, 0, none⟩) 2 2) (.slice (some ⟨w.heap.size, 0, none⟩) 2 2) (Rw := fun y => Bs y (some ⟨w.heap.size, 0, none⟩) 2 2 [97, 98] ∧ Bel w y) okp rfl rfl (by decide) rfl (by kernel_rfl) (fun τ d => ?_) (fun y τ d hr => ⟨hr.1, hr.2.tp τ d⟩) fun w1a hrw1 => ?_
  · go_wp2
    exact ⟨rfl, ab_bs1 (tp w τ d), .of_tp ((Below.refl w.heap.size (tp w τ d)).alloc (show w.heap.size ≤ (tp w τ d).heap.size from Nat.le_refl _) _)⟩
  obtain ⟨hbw1, belw1a⟩ := hrw1
  walk_nrm
  refine BW.call (Rr := fun v y => v = .agg (rowA q1) ∧ Bel w1a y) rfl rfl (by decide) rfl okp (by kernel_rfl) Try.func12 rfl (vs := #[.slice (some ⟨w.heap.size, 0, none⟩) 2 2]) (by simp [Act.eval]) (fun τ d => (Of_any _ 2 2 [97, 98] (tp w1a τ d) hbw1).mono fun e w' hq => ⟨_, hq.1, by rw [hQ1], .of_tp hq.2⟩) (fun v w' τ d hq => ⟨hq.1, hq.2.tp τ d⟩) fun v w1 hv => ?_
  obtain ⟨rfl, belw1b⟩ := hv
  walk_nrm
  refine BW.opv2 (.slice (some ⟨w1.heap.size, 0, none⟩) 2 2) (.slice (some ⟨w1.heap.size, 0, none⟩) 2 2) (Rw := fun y => Bs y (some ⟨w1.heap.size, 0, none⟩) 2 2 [99, 100] ∧ Bel w1 y) okp rfl rfl (by decide) rfl (by kernel_rfl) (fun τ d => ?_) (fun y τ d hr => ⟨hr.1, hr.2.tp τ d⟩) fun w2a hrw2 => ?_
  · go_wp2
    exact ⟨rfl, cd_bs (tp w1 τ d), .of_tp ((Below.refl w1.heap.size (tp w1 τ d)).alloc (show w1.heap.size ≤ (tp w1 τ d).heap.size from Nat.le_refl _) _)⟩
  obtain ⟨hbw2, belw2a⟩ := hrw2
  walk_nrm
  refine BW.call (Rr := fun v y => v = .agg (rowA q2) ∧ Bel w2a y) rfl rfl (by decide) rfl okp (by kernel_rfl) Try.func12 rfl (vs := #[.slice (some ⟨w1.heap.size, 0, none⟩) 2 2]) (by simp [Act.eval]) (fun τ d => (Of_any _ 2 2 [99, 100] (tp w2a τ d) hbw2).mono fun e w' hq => ⟨_, hq.1, by rw [hQ2], .of_tp hq.2⟩) (fun v w' τ d hq => ⟨hq.1, hq.2.tp τ d⟩) fun v w2 hv => ?_
  obtain ⟨rfl, belw2b⟩ := hv
  walk_nrm
  refine BW.opv (.slice (some ⟨w2.heap.size, 0, none⟩) 2 2) (Rw := fun y => Blks y (some ⟨w2.heap.size, 0, none⟩) 2 2 [q1, q2] ∧ Bel w2 y ∧ w2.heap.size < y.heap.size) okp rfl (by decide) rfl (fun τ d => wpList_slice_two rfl 23 _ _ rfl Try.underlying23 (rowA q1) (rowA q2) hI hS2 (by rw [hS1]; decide) (by rw [hS1]; decide) rfl rfl ⟨rfl, rfl, two_blks (tp w2 τ d) q1 q2 hq1 hq2, .of_tp ((Below.refl w2.heap.size (tp w2 τ d)).alloc (show w2.heap.size ≤ (tp w2 τ d).heap.size from Nat.le_refl _) _), (by rw [World.size_alloc]; exact Nat.lt_succ_self _)⟩) (fun y τ d hr => ⟨hr.1, hr.2.1.tp τ d, hr.2.2⟩) fun wL hrL => ?_
  obtain ⟨hL, belL0, hLs⟩ := hrL
  have belL : Bel w wL := (((belw1a.seq belw1b).seq belw2a).seq belw2b).seq belL0
  walk_nrm
  refine BW.move rfl rfl (by decide) (.inr rfl) ?_
  walk_nrm
  refine BW.rend ?_
  refine BW.seq ?_
  refine BW.region ?_
  simp only [List.size_toArray, List.length_cons, List.length_nil, Nat.reduceAdd, Nat.zero_add, List.range']
  refine BW.move rfl rfl (by decide) (.inl rfl) ?_
  walk_nrm
  refine BW.call (Rr := fun v y => ∃ a' c', v = .tuple #[.slice a' 600 c', .int .i64 0] ∧ y.ownsRow wL.heap.size 5 1 (.slice a' 600 c') 600 (([q1, q2].flatten.take 600).map u8v) ∧ Bel wL y) rfl rfl (by decide) rfl okp (by kernel_rfl) Try.func11 rfl (vs := #[.slice (some ⟨w2.heap.size, 0, none⟩) 2 2, .int .i64 600]) (by simp [Act.eval]) (fun τ d => (Join_yes _ 2 2 [q1, q2] 600 (tp wL τ d) hL (by decide) (by decide)).mono fun e w' hq => by obtain ⟨a', c', rfl, h1, h2⟩ := hq; exact ⟨_, rfl, a', c', rfl, h1, .of_tp h2⟩) (fun v w' τ d hq => by obtain ⟨a', c', h1, h2, h3⟩ := hq; exact ⟨a', c', h1, h2, h3.tp τ d⟩) fun v wA hv => ?_
  obtain ⟨awA, cwA, rfl, howA, belwA⟩ := hv
  walk_nrm
  refine BW.move rfl rfl (by decide) (.inl rfl) ?_
  walk_nrm
  refine BW.still1 rfl rfl (by decide) _ (fun w₁ => rn_extract rfl rfl rfl w₁) ?_
  walk_nrm
  refine BW.still1 rfl rfl (by decide) _ (fun w₁ => rn_extract rfl rfl rfl w₁) ?_
  walk_nrm
  refine BW.move rfl rfl (by decide) (.inr rfl) ?_
  walk_nrm
  refine BW.move rfl rfl (by decide) (.inr rfl) ?_
  walk_nrm
  refine BW.rend ?_
  have hL2 : Blks wA (some ⟨w2.heap.size, 0, none⟩) 2 2 [q1, q2] := ⟨belwA.keeps.sl hL.1, hL.2⟩
  refine BW.seq ?_
  refine BW.region ?_
  simp only [List.size_toArray, List.length_cons, List.length_nil, Nat.reduceAdd, Nat.zero_add, List.range']
  refine BW.move rfl rfl (by decide) (.inl rfl) ?_
  walk_nrm
  refine BW.call (Rr := fun v y => ∃ a' c', v = .tuple #[.slice a' 600 c', .int .i64 0] ∧ y.ownsRow wA.heap.size 5 1 (.slice a' 600 c') 600 (([q1, q2].flatten.take 600).map u8v) ∧ Bel wA y) rfl rfl (by decide) rfl okp (by kernel_rfl) Try.func11 rfl (vs := #[.slice (some ⟨w2.heap.size, 0, none⟩) 2 2, .int .i64 600]) (by simp [Act.eval]) (fun τ d => (Join_yes _ 2 2 [q1, q2] 600 (tp wA τ d) hL2 (by decide) (by decide)).mono fun e w' hq => by obtain ⟨a', c', rfl, h1, h2⟩ := hq; exact ⟨_, rfl, a', c', rfl, h1, .of_tp h2⟩) (fun v w' τ d hq => by obtain ⟨a', c', h1, h2, h3⟩ := hq; exact ⟨a', c', h1, h2, h3.tp τ d⟩) fun v wB hv => ?_
  obtain ⟨awB, cwB, rfl, howB, belwB⟩ := hv
  walk_nrm
  refine BW.move rfl rfl (by decide) (.inl rfl) ?_
  walk_nrm
  refine BW.still1 rfl rfl (by decide) _ (fun w₁ => rn_extract rfl rfl rfl w₁) ?_
  walk_nrm
  refine BW.still1 rfl rfl (by decide) _ (fun w₁ => rn_extract rfl rfl rfl w₁) ?_
  walk_nrm
  refine BW.move rfl rfl (by decide) (.inr rfl) ?_
  walk_nrm
  refine BW.move rfl rfl (by decide) (.inr rfl) ?_
  walk_nrm
  refine BW.rend ?_
  have hA := own_bs howA; have hB := own_bs howB
  have hAB := belwB.keeps.bs hA
  have hcA := hAB.cap; have hcB := hB.cap; have hmA := hAB.max; have hmB := hB.max
  have hcut := bs_cut hAB 512 514 (by decide) (by decide)
  rw [hfl, if_neg (by omega)] at hcut
  have hcv := fun (τ : Nat → Question → Nat) (d : Nat) => run_bs_str8 (P := Try.prog) (w := tp wB τ d) Try.underlying22 Try.underlying5 Try.underlying9 hcut
  have hneA : ∃ gA, awA = some ⟨gA, 0, none⟩ := own_addr howA (by decide)
  obtain ⟨gA, rfl⟩ := hneA
  simp only [Option.map_some, Addr.add_lit, Nat.zero_add, Nat.mul_one, Nat.reduceMul, Nat.reduceSub] at hcv
  refine BW.seq ?_
  refine BW.seq ?_
  refine BW.region ?_
  simp only [List.size_toArray, List.length_cons, List.length_nil, Nat.reduceAdd, Nat.zero_add, List.range']
  apply BW.stillN (i := 0) (m := 25) (rest := [25, 26, 27, 28, 29, 30, 31, 32, 33, 34]) (l := [_, _, _, _, _, _, _, _, _, _, _, _, _, _, _, _, _, _, _, _, _, _, _, _, _]) (hP := okp) (hk := by decide) (ht := by rfl) (hm := by rfl) (hl := by intro j hj; (rcases (by omega : j = 0 ∨ j = 1 ∨ j = 2 ∨ j = 3 ∨ j = 4 ∨ j = 5 ∨ j = 6 ∨ j = 7 ∨ j = 8 ∨ j = 9 ∨ j = 10 ∨ j = 11 ∨ j = 12 ∨ j = 13 ∨ j = 14 ∨ j = 15 ∨ j = 16 ∨ j = 17 ∨ j = 18 ∨ j = 19 ∨ j = 20 ∨ j = 21 ∨ j = 22 ∨ j = 23 ∨ j = 24) with rfl | rfl | rfl | rfl | rfl | rfl | rfl | rfl | rfl | rfl | rfl | rfl | rfl | rfl | rfl | rfl | rfl | rfl | rfl | rfl | rfl | rfl | rfl | rfl | rfl) <;> rfl) (hok := by kernel_rfl)
  · intro τ d
    have hcv1 := hcv τ d
    go_wp2
    exact rfl
  refine BW.call (Rr := fun v y => v = .bool true ∧ Bel wB y) rfl rfl (by decide) rfl okp (by kernel_rfl) Try.func8 rfl (vs := #[.slice (some ⟨gA, 0, none⟩) 600 cwA, .slice awB 600 cwB]) (by simp [Act.eval]) (fun τ d => (SameBytes_any _ _ 600 600 cwA cwB _ _ (tp wB τ d) hAB hB).mono fun e w' hq => ⟨_, hq.1, by rw [dec_t rfl], .of_tp hq.2⟩) (fun v w' τ d hq => ⟨hq.1, hq.2.tp τ d⟩) fun v wC hv => ?_
  obtain ⟨rfl, belC⟩ := hv
  walk_nrm
  apply BW.stillN (i := 26) (m := 5) (rest := [31, 32, 33, 34]) (l := [_, _, _, _, _]) (hP := okp) (hk := by decide) (ht := by rfl) (hm := by rfl) (hl := by intro j hj; (rcases (by omega : j = 0 ∨ j = 1 ∨ j = 2 ∨ j = 3 ∨ j = 4) with rfl | rfl | rfl | rfl | rfl) <;> rfl) (hok := by kernel_rfl)
  · intro τ d
    go_wp2
    exact rfl
  refine BW.opv (.slice (some ⟨wC.heap.size, 0, none⟩) 2 2) (Rw := fun y => IsSl y 1 (some ⟨wC.heap.size, 0, none⟩) 2 2 [.slice (some ⟨gA, 0, none⟩) 600 cwA, .slice awB 600 cwB] ∧ Bel wC y) okp rfl (by decide) rfl (fun τ d => ?_) (fun y τ d hr => ⟨hr.1, hr.2.tp τ d⟩) fun wD hrD => ?_
  · go_wp2
    exact ⟨rfl, isSl_new (tp wC τ d) 22 1 2 #[.slice (some ⟨gA, 0, none⟩) 600 cwA, .slice awB 600 cwB] rfl (by unfold maxLen; omega), .of_tp ((Below.refl wC.heap.size (tp wC τ d)).alloc (show wC.heap.size ≤ (tp wC τ d).heap.size from Nat.le_refl _) _)⟩
  obtain ⟨hD0, belD⟩ := hrD
  walk_nrm
  have bAD := (belwB.seq belC).seq belD
  have bBD := belC.seq belD
  have hfA : Free wD wL.heap.size (some ⟨gA, 0, none⟩) 600 cwA := Free.below (w := tp wA wD.tape wD.drawn) (own_free howA) bAD
  have hfB : Free wD wL.heap.size awB 600 cwB := (Free.below (w := tp wB wD.tape wD.drawn) (own_free howB) bBD).base belwA.size
  have hltA := (howA.lt gA rfl)
  have hI2 : ∀ (τ : Nat → Question → Nat) (d : Nat), ApI (tp wD τ d) wL.heap.size (some ⟨wC.heap.size, 0, none⟩) 2 2 [(some ⟨gA, 0, none⟩, 600, cwA), (awB, 600, cwB)] (tp wD τ d) := fun τ d => by
    refine ⟨Below.refl _ _, hD0, fun i hi => ?_⟩
    rcases (by omega : i = 0 ∨ i = 1) with rfl | rfl
    · exact hfA
    · exact hfB
  have hDi : Dist (some ⟨wC.heap.size, 0, none⟩) 2 [(some ⟨gA, 0, none⟩, 600, cwA), (awB, 600, cwB)] := by
    refine dist_rising _ _ _ (fun i => match i with | 0 => wL.heap.size | 1 => wA.heap.size | _ => wB.heap.size) (fun i hi => ?_) (fun i b hi hb => ?_) (fun x hx => ?_)
    · have k1 : wL.heap.size ≤ wA.heap.size := belwA.size
      have k2 : wA.heap.size ≤ wB.heap.size := belwB.size
      rcases (by omega : i = 0 ∨ i = 1) with rfl | rfl <;> simp only <;> omega
    · rcases (by omega : i = 0 ∨ i = 1) with rfl | rfl
      · obtain rfl : gA = b := by simpa [slAt, blk?] using hb
        exact hltA
      · obtain ⟨y, hy, rfl⟩ := Option.map_eq_some_iff.1 (show awB.map (·.block) = some b from hb)
        exact howB.lt y.block (by rw [hy]; rfl)
    · simp only [Option.some.injEq] at hx
      subst hx
      exact belC.size
  have hln : ∀ i, i < 2 → (slAt [(some ⟨gA, 0, none⟩, 600, cwA), (awB, 600, cwB)] i).2.1 ≤ 70368744177664 := by
    intro i hi
    rcases (by omega : i = 0 ∨ i = 1) with rfl | rfl <;> simp [slAt]
  have belLD : Bel wL wD := belwA.seq bAD
  refine BW.call (Rr := fun v y => v = .bool true ∧ Bel wL y) rfl rfl (by decide) rfl okp (by kernel_rfl) Try.func13 rfl (vs := #[.slice (some ⟨wC.heap.size, 0, none⟩) 2 2]) (by simp [Act.eval]) (fun τ d => (Apart_any _ 2 2 _ (tp wD τ d) wL.heap.size belLD.size (hI2 τ d) hDi (by decide) hln).mono fun e w' hq => ⟨_, hq.1, rfl, belLD.low hq.2 (Nat.le_refl _)⟩) (fun v w' τ d hq => ⟨hq.1, hq.2.tp τ d⟩) fun v wE hv => ?_
  obtain ⟨rfl, belE0⟩ := hv
  walk_nrm
  apply BW.stillN (i := 33) (m := 2) (rest := []) (l := [_, _]) (hP := okp) (hk := by decide) (ht := by rfl) (hm := by rfl) (hl := by intro j hj; (rcases (by omega : j = 0 ∨ j = 1) with rfl | rfl) <;> rfl) (hok := by kernel_rfl)
  · intro τ d
    go_wp2
    exact rfl
  refine BW.rend ?_
  refine BW.cond (t := false) rfl ?_
  simp only [Bool.false_eq_true, if_false]
  refine BW.skip ?_
  have belE : Bel w wE := belL.seq belE0
  have hE := belE.keeps.bs h
  refine BW.seq ?_
  refine BW.region ?_
  simp only [List.size_toArray, List.length_cons, List.length_nil, Nat.reduceAdd, Nat.zero_add, List.range']
  refine BW.move rfl rfl (by decide) (.inl rfl) ?_
  walk_nrm
  refine BW.call (Rr := NewB wE l) rfl rfl (by decide) rfl okp (by kernel_rfl) Try.func10 rfl (vs := #[.slice a n c]) (by simp [Act.eval]) (fun τ d => (CopyBytes_any a n c l (tp wE τ d) hE (by omega)).mono fun e w' hq => newB_of hq) (fun v w' τ d hq => hq.tp τ d) fun v w6 hv => ?_
  obtain ⟨oa, n6, oc, rfl, ho6, bel6⟩ := hv
  obtain rfl : n6 = n := by have := own_len ho6; rw [hl] at this; exact this.symm
  walk_nrm
  refine BW.move rfl rfl (by decide) (.inr rfl) ?_
  walk_nrm
  refine BW.rend ?_
  have hb6 := own_bs ho6
  refine BW.seq ?_
  refine BW.region ?_
  simp only [List.size_toArray, List.length_cons, List.length_nil, Nat.reduceAdd, Nat.zero_add, List.range']
  refine BW.move rfl rfl (by decide) (.inl rfl) ?_
  walk_nrm
  refine bw_cut rfl rfl (by decide) rfl rfl hb6 (by omega) fun v w7 hv => ?_
  obtain ⟨xw7, cpw7, rfl, how7, belw7⟩ := hv
  walk_nrm
  refine BW.move rfl rfl (by decide) (.inl rfl) ?_
  walk_nrm
  refine BW.still1 rfl rfl (by decide) _ (fun w₁ => rn_extract rfl rfl rfl w₁) ?_
  walk_nrm
  refine BW.still1 rfl rfl (by decide) _ (fun w₁ => rn_extract rfl rfl rfl w₁) ?_
  walk_nrm
  refine BW.move rfl rfl (by decide) (.inr rfl) ?_
  walk_nrm
  refine BW.move rfl rfl (by decide) (.inr rfl) ?_
  walk_nrm
  refine BW.rend ?_
  have hb7 := belw7.keeps.bs hb6
  refine BW.seq ?_
  refine BW.region ?_
  simp only [List.size_toArray, List.length_cons, List.length_nil, Nat.reduceAdd, Nat.zero_add, List.range']
  refine BW.move rfl rfl (by decide) (.inl rfl) ?_
  walk_nrm
  refine bw_cut rfl rfl (by decide) rfl rfl hb7 (by omega) fun v w8 hv => ?_
  obtain ⟨xw8, cpw8, rfl, how8, belw8⟩ := hv
  walk_nrm
  refine BW.move rfl rfl (by decide) (.inl rfl) ?_
  walk_nrm
  refine BW.still1 rfl rfl (by decide) _ (fun w₁ => rn_extract rfl rfl rfl w₁) ?_
  walk_nrm
  refine BW.still1 rfl rfl (by decide) _ (fun w₁ => rn_extract rfl rfl rfl w₁) ?_
  walk_nrm
  refine BW.move rfl rfl (by decide) (.inr rfl) ?_
  walk_nrm
  refine BW.move rfl rfl (by decide) (.inr rfl) ?_
  walk_nrm
  refine BW.rend ?_
  have bel68 := belw7.seq belw8
  have bel8 : Bel w w8 := (belE.seq bel6).seq bel68
  have ho8 : w8.ownsRow wE.heap.size 5 1 (.slice oa n6 oc) n6 (l.map u8v) := own_keep ho6 fun m hm hm2 => bel68.block m hm2
  have hx8 : w8.ownsRow w6.heap.size 29 512 (.slice xw7 (n6 / 512) cpw7) (n6 / 512) ((l.take (n6 / 512 * 512)).map u8v) := own_keep how7 fun m hm hm2 => belw8.block m hm2
  have hLE : Blks w8 (some ⟨w2.heap.size, 0, none⟩) 2 2 [q1, q2] := ⟨((belE0.seq bel6).seq bel68).keeps.sl hL.1, hL.2⟩
  have hA6 : ∀ x, a = some x → 0 < n6 → x.block < wE.heap.size := fun x hx hn => by
    subst hx
    obtain ⟨g, off, he, hcell⟩ := h.at 0 hn
    cases he
    have hcell' : w.cell? ⟨g, off + 0, none⟩ = some (u8v (l.getD 0 0)) := hcell
    exact Nat.lt_of_lt_of_le (World.block_lt_of_cell? (w := w) (a := ⟨g, off + 0, none⟩) hcell') belE.size
  have hL6 : ∀ x, (some ⟨w2.heap.size, 0, none⟩ : Option Addr) = some x → x.block < wE.heap.size := fun x hx => by
    cases hx
    exact Nat.lt_of_lt_of_le hLs belE0.size
  have hO7 : ∀ x, oa = some x → x.block < w6.heap.size := fun x hx => (ho6.lt x.block (by rw [hx]; rfl)).2
  have hX8 : ∀ x, xw7 = some x → x.block < w7.heap.size := fun x hx => (how7.lt x.block (by rw [hx]; rfl)).2
  refine BW.last okp Try.func5 (by kernel_rfl) (by kernel_rfl) (fun τ d => Code.wp_mono (fun e x y hq => bodyPost_mono (fun v w' hv => ⟨hv.1, bel8.low hv.2 belE.size⟩) hq) (HR a n6 c l mk (some ⟨w2.heap.size, 0, none⟩) 2 oa oc xw7 cpw7 xw8 cpw8 (n6 / 512) wE.heap.size w6.heap.size w7.heap.size _ _ _ _ _ _ _ _ _ _ _ _ _ _ _ _ _ _ _ _ _ _ _ _ _ _ _ _ _ _ _ _ _ _ _ _ _ _ _ _ _ _ _ _ _ _ _ _ _ _ _ _ _ _ _ _ _ _ _ _ _ _ _ _ _ _ _ _ _ _ _ _ _ _ _ _ _ _ _ _ _ _ _ _ _ _ _ _ _ _ _ _ _ _ _ _ _ _ _ _ _ _ _ _ _ _ _ _ _ _ _ _ _ _ _ _ _ _ _ _ _ _ _ _ _ _ _ _ _ _ _ _ _ _ _ _ _ _ _ _ _ _ (tp w8 τ d) (bel8.keeps.bs h) hc hmk (Nat.le_trans bel6.size bel68.size) rfl hLE hA6 hL6 bel6.size belw7.size ho8 hO7 hx8 hX8 how8)) fun v w' τ d hv => ⟨hv.1, hv.2.tp τ d⟩
end Cc
end Go.Proofs.Ytbioidbbijmnjaa
