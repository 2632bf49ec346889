/-
  CcCut: block.Cut's own walk as the receiver.
-/
import Derived.Test.YtbioidbbijmnjaaCcSend
import Derived.Test.YtbioidbbijmnjaaLawJoins
namespace Go.Proofs.Ytbioidbbijmnjaa
set_option linter.unusedVariables false
set_option linter.unusedSimpArgs false
open Go.Conc Go.ChangeShapes Go.WideShapes Go.ChangeAt Go.RowKit
namespace Cc
theorem own_setRow {w : World} {base : Nat} {e : TypeId} {sz : Nat} {v : Value} {n : Nat} {xs : List Value} (h : w.ownsRow base e sz v n xs) {p : Nat} (hp : ∀ k, v.ownBlock = some k → k < p) (cs : Array Value) : (w.setRow p cs).ownsRow base e sz v n xs := by
  have hlt := h.lt
  obtain ⟨h1, h2⟩ := h
  refine ⟨h1, ?_⟩
  rcases h2 with h2 | ⟨g, cap, cur, hv, hg, hh, r⟩
  · exact Or.inl h2
  · have := hp g (by rw [hv]; rfl)
    exact Or.inr ⟨g, cap, cur, hv, hg, by rw [setRow_other w p g cs (by omega)]; exact hh, r⟩
theorem own_aside {w w₁ : World} {c base : Nat} {e : TypeId} {sz : Nat} {v : Value} {n : Nat} {xs : List Value} (ha : Aside c w w₁) (hc : c < base) (h : w.ownsRow base e sz v n xs) : w₁.ownsRow base e sz v n xs :=
  own_keep h fun k hk _ => ha.block k (by omega)
/-- what is known of the world while the receiver works: wE at the entry, w0 at the fork -/
structure RF (wE w0 w : World) (x : Option Addr) (cp i : Nat) (acc : List UInt8) : Prop where
  own : w.ownsRow w0.heap.size 29 512 (.slice x i cp) i (acc.map u8v)
  bel : Below wE.heap.size wE w
  size : w0.heap.size ≤ w.heap.size
theorem RF.aside {wE w0 w w₁ : World} {x : Option Addr} {cp i : Nat} {acc : List UInt8} (h : RF wE w0 w x cp i acc) (h0 : w0.heap.size = wE.heap.size + 1) (ha : Aside wE.heap.size w w₁) : RF wE w0 w₁ x cp i acc :=
  ⟨own_aside ha (by omega) h.own, ⟨ha.os.trans h.bel.os, ha.tape.trans h.bel.tape, ha.output.trans h.bel.output, by rw [ha.size]; exact h.bel.size, fun k hk => (ha.block k (by omega)).trans (h.bel.block k hk)⟩, by rw [ha.size]; exact h.size⟩
theorem RF.lt {wE w0 w : World} {x : Option Addr} {cp i : Nat} {acc : List UInt8} (h : RF wE w0 w x cp i acc) : ∀ k, (Value.slice x i cp).ownBlock = some k → k < w.heap.size := fun k hk => (h.own.lt k hk).2
theorem termsA (c Lw : Nat) (S : World → Prop) : Terms (Aside c) (DA4 c Lw S) := ⟨fun _ _ _ h h' => h.trans h', fun w => ⟨id, rfl, Nat.le_refl _, by simp⟩⟩
theorem da4_of {w0 w₁ w' : World} {c : Nat} {es : Array Event} (hc : c < w0.heap.size) (hb : Below w0.heap.size w₁ w') (hlow : ∀ e ∈ es, Low w'.heap.size e) (hw : ∀ e ∈ es, ∀ ad, e.loc = .cell ad → e.write = true → w0.heap.size ≤ ad.block) : DA4 c w0.heap.size (Sw w0 c) w₁ w' es :=
  ⟨fun hs j hj hne => (hb.block j hj).trans (hs j hj hne), hb.block c hc, hb.size, fun e he => ⟨hlow e he, hw e he⟩⟩
section
variable {P : Program} {w0 : World} {c : Nat} {Stop : Goroutine → World → Prop} {b : Frame} {a : Act} {k : List Item} {cs : List Frame} {w : World} {ops : Array Oper} {i : Nat} {rest : List Nat} {o : Oper} {n : Nat}
/-- an operation of the receiver's that makes or turns its own memory -/
theorem goes_rcv {Rr : World → Act → World → Prop} (hc : c < w0.heap.size) (ho : ops[i]? = some o) (hw : Region.wanted o (yielded ops a.tmps) = true) (hk : b.kind ≠ .early) (hok : okOp P [] o.op = true)
    (h : ∀ w₁, Aside c w w₁ → wpList P ops (fun e a' w' => e = .normal ∧ Rr w₁ a' w') [o] a w₁)
    (hev : ∀ w₁, Aside c w w₁ → ∀ e ∈ (execOp a.eval o).events P w₁ #[], ∀ ad, e.loc = .cell ad → e.write = true → w0.heap.size ≤ ad.block)
    (hb : ∀ w₁ a' w', Aside c w w₁ → Rr w₁ a' w' → Below w0.heap.size w₁ w')
    (hn : ∀ w₁ a' w', Aside c w w₁ → Rr w₁ a' w' → Goes P true (Aside c) (DA4 c w0.heap.size (Sw w0 c)) Stop n (G (b.at a' (.inRegion ops rest :: k)) cs) w') :
    Goes P true (Aside c) (DA4 c w0.heap.size (Sw w0 c)) Stop (n + 1) (G (b.at a (.inRegion ops (i :: rest) :: k)) cs) w :=
  goes_one ho hw hk hok h fun w₁ a' w' h₁ hr hs hl => ⟨da4_of hc (hb w₁ a' w' h₁ hr) hl fun e he => hev w₁ h₁ e (mem_listed he), hn w₁ a' w' h₁ hr⟩
theorem ev_alloc {t : TypeId} (hop : o.op = .alloc t) {z : Array Value} (hz : (P.info? t).bind (·.zero) = some (.agg z)) (w : World) : (execOp a.eval o).events P w #[] = #[] := by
  obtain ⟨i, hi, h0⟩ := Option.bind_eq_some_iff.1 hz
  unfold execOp
  simp [go_sem, hop, Instr.alloc, zeroValue, typeInfo, hi, h0, newVar, newRow, Value.cells]
theorem ev_one {x : Operand} {t e : TypeId} {z : Array Value} (hop : o.op = .buildSlice t 1 #[(0, x)]) (ht : P.underlying t = some (.slice e)) (cs : Array Value) (hi : (P.info? e).map (fun i => (i.zero, i.size)) = some (some (.agg z), cs.size))
    (hpos : 0 < cs.size) (hlim : cs.size ≤ 16777216) (hx : a.eval x = .agg cs) (w : World) : (execOp a.eval o).events P w #[] = #[] := by
  obtain ⟨i, hi', hh⟩ := Option.map_eq_some_iff.1 hi
  simp only [Prod.mk.injEq] at hh
  obtain ⟨h0, h1⟩ := hh
  have hne : ¬ cs.size = 0 := by omega
  have hlim' : ¬ 16777216 < cs.size := by omega
  have hf := fill_whole ((Array.range (1 * cs.size)).map (z[· % z.size]!)) cs cs.size (by simp) rfl
  simp only [Nat.one_mul] at hf
  simp [execOp, hop, hx, Instr.buildSlice, run_underlying ht, sizeOf, zeroValue, typeInfo, hi', h0, h1, hne, hlim', Value.cells, hf, newRow]
theorem ev_store {x y : Operand} {ty : TypeId} (hop : o.op = .store ty x y) (g : Nat) (hx : a.eval x = .pointer (some ⟨g, 0, none⟩)) (cs : Array Value) (hy : a.eval y = .agg cs)
    (old : Array Value) (t : TypeId) (w : World) (hh : w.heap[g]? = some (.cells old t (0, 0))) (hsz : old.size = cs.size) (hi : (P.info? ty).map (·.size) = some cs.size) (h1 : ∀ u ∈ cs.toList, u.oneCell' = true) :
    ∀ e ∈ (execOp a.eval o).events P w #[], ∀ ad, e.loc = .cell ad → ad.block = g := by
  intro e he ad had
  obtain ⟨i, hi', hs'⟩ := Option.map_eq_some_iff.1 hi
  simp [execOp, hop, hx, hy, Instr.storeAt, Instr.sureAddr, storeVar, sizeOf, typeInfo, hi', hs', Value.cells] at he
  rcases events_storeCells_at (P := P) g 0 t cs.toList 0 old w #[] hh (by simp; omega) h1 e he with h | ⟨ad', h2, h3⟩
  · simp at h
  · rw [had] at h2; cases h2; exact h3
theorem ev_append {s x : Operand} {t : TypeId} (hop : o.op = .call { callee := .builtin .append, args := #[s, x], argTypes := #[t, t] }) (base : Nat) (e : TypeId) (z : Value) (sz bytes : Nat) (ht : P.underlying t = some (.slice e)) (hi : (P.info? e).map (fun i => (i.zero, i.size, i.bytes)) = some (some z, sz, bytes)) (w : World)
    {v : Value} {n : Nat} {xs : List Value} (hs : a.eval s = v) (hown : w.ownsRow base e sz v n xs) {A : Addr} {m c2 : Nat} {news : List Value} (hx : a.eval x = .slice (some A) m c2) (hl : news.length = m * sz) (hnews : ∀ j u, news[j]? = some u → w.cell? (A.add j) = some u) (h1 : ∀ u ∈ news, u.oneCell' = true)
    (hb0 : 0 < bytes) (hbytes : (n + m) * bytes ≤ 140737488355328) : ∀ e ∈ (execOp a.eval o).events P w #[], ∀ ad, e.loc = .cell ad → e.write = true → base ≤ ad.block := by
  intro ev hev ad had hw
  obtain ⟨i, hi', hz0, hz1, hz2⟩ := info_parts hi
  have hle : n + m ≤ (n + m) * bytes := Nat.le_mul_of_pos_right _ hb0
  simp [execOp, hop, resolve, invoke, builtin, hs, hx] at hev
  rcases events_append_where (P := P) w base t o.type e i z sz bytes ht hi' hz0 hz1 hz2 v n xs hown A m c2 news hl hnews h1 (by unfold maxLen; omega) hbytes ev hev with ⟨ad', h2, h3 | h3⟩ | ⟨mk, h2, _⟩
  · rw [hw] at h3; cases h3.1
  · rw [had] at h2; cases h2
    exact (hown.lt ad.block h3.symm).1
  · rw [h2] at had; cases had
theorem rcv_alloc (hc : c < w0.heap.size) (ho : ops[i]? = some o) (hw : Region.wanted o (yielded ops a.tmps) = true) (hk : b.kind ≠ .early) (hgd : o.guard = none) {t : TypeId} (hop : o.op = .alloc t) {z : Array Value} (hz : (P.info? t).bind (·.zero) = some (.agg z)) (hLw : w0.heap.size ≤ w.heap.size)
    (hn : ∀ w₁, Aside c w w₁ → Goes P true (Aside c) (DA4 c w0.heap.size (Sw w0 c)) Stop n (G (b.at (a.put o.dst (.pointer (some ⟨w.heap.size, 0, none⟩))) (.inRegion ops rest :: k)) cs) (w₁.alloc (.cells z t))) :
    Goes P true (Aside c) (DA4 c w0.heap.size (Sw w0 c)) Stop (n + 1) (G (b.at a (.inRegion ops (i :: rest) :: k)) cs) w := by
  refine goes_rcv (Rr := fun w₁ a' w' => a' = a.put o.dst (.pointer (some ⟨w.heap.size, 0, none⟩)) ∧ w' = w₁.alloc (.cells z t)) hc ho hw hk (by rw [hop]; rfl) (fun w₁ h₁ => ?_) (fun w₁ h₁ e he => ?_) (fun w₁ a' w' h₁ hr => ?_) fun w₁ a' w' h₁ hr => ?_
  · refine wpList_alloc_z hgd t hop z hz ⟨rfl, ?_, rfl⟩
    rw [h₁.size]
  · rw [ev_alloc hop hz] at he; simp at he
  · obtain ⟨_, rfl⟩ := hr
    exact (Below.refl _ _).alloc (by rw [h₁.size]; exact hLw) _
  · obtain ⟨rfl, rfl⟩ := hr
    exact hn w₁ h₁
theorem rcv_store (hc : c < w0.heap.size) (ho : ops[i]? = some o) (hw : Region.wanted o (yielded ops a.tmps) = true) (hk : b.kind ≠ .early) (hgd : o.guard = none) {x y : Operand} {ty t : TypeId} (hop : o.op = .store ty x y) (g : Nat) (hx : a.eval x = .pointer (some ⟨g, 0, none⟩)) (vs : Array Value) (hy : a.eval y = .agg vs)
    (old : Array Value) (hh : w.heap[g]? = some (.cells old t (0, 0))) (hsz : old.size = vs.size) (hi : (P.info? ty).map (·.size) = some vs.size) (h1 : ∀ u ∈ vs.toList, u.oneCell' = true) (hg : w0.heap.size ≤ g)
    (hn : ∀ w₁, Aside c w w₁ → Goes P true (Aside c) (DA4 c w0.heap.size (Sw w0 c)) Stop n (G (b.at (a.put o.dst undef) (.inRegion ops rest :: k)) cs) (w₁.setRow g vs)) :
    Goes P true (Aside c) (DA4 c w0.heap.size (Sw w0 c)) Stop (n + 1) (G (b.at a (.inRegion ops (i :: rest) :: k)) cs) w := by
  have hh' : ∀ w₁, Aside c w w₁ → w₁.heap[g]? = some (.cells old t (0, 0)) := fun w₁ h₁ => (h₁.block g (by omega)).trans hh
  refine goes_rcv (Rr := fun w₁ a' w' => a' = a.put o.dst undef ∧ w' = w₁.setRow g vs) hc ho hw hk (by rw [hop]; rfl) (fun w₁ h₁ => ?_) (fun w₁ h₁ e he ad had _ => ?_) (fun w₁ a' w' h₁ hr => ?_) fun w₁ a' w' h₁ hr => ?_
  · exact wpList_store_row hgd ty x y hop g hx vs hy old t (hh' w₁ h₁) hsz hi h1 ⟨rfl, rfl, rfl⟩
  · rw [ev_store hop g hx vs hy old t w₁ (hh' w₁ h₁) hsz hi h1 e he ad had]; exact hg
  · obtain ⟨_, rfl⟩ := hr
    exact Below.setRow (Below.refl _ _) hg _
  · obtain ⟨rfl, rfl⟩ := hr
    exact hn w₁ h₁
theorem rcv_load (hc : c < w0.heap.size) (ho : ops[i]? = some o) (hw : Region.wanted o (yielded ops a.tmps) = true) (hk : b.kind ≠ .early) {x : Operand} {t t' : TypeId} (hop : o.op = .load t x) (g : Nat) (hx : a.eval x = .pointer (some ⟨g, 0, none⟩)) (vs : Array Value)
    (hh : w.heap[g]? = some (.cells vs t' (0, 0))) {m : Nat} {e : TypeId} (hu : P.underlying t = some (.array m e)) (hi : (P.info? t).map (·.size) = some vs.size) (hg : w0.heap.size ≤ g)
    (hn : Goes P true (Aside c) (DA4 c w0.heap.size (Sw w0 c)) Stop n (G (b.at (a.put o.dst (.agg vs)) (.inRegion ops rest :: k)) cs) w) :
    Goes P true (Aside c) (DA4 c w0.heap.size (Sw w0 c)) Stop (n + 1) (G (b.at a (.inRegion ops (i :: rest) :: k)) cs) w := by
  have hcell : ∀ w₁, Aside c w w₁ → ∀ j v, vs.toList[j]? = some v → w₁.cell? ((⟨g, 0, none⟩ : Addr).add j) = some v := fun w₁ h₁ j v hj => by
    rw [Addr.add_lit, Nat.zero_add, cell_of_row _ _ _ _ _ _ ((h₁.block g (by omega)).trans hh)]
    simpa using hj
  have hok : okOp P [] o.op = true := by rw [hop]; rfl
  refine goes_rcv (Rr := fun w₁ a' w' => a' = a.put o.dst (.agg vs) ∧ w' = w₁) hc ho hw hk hok (fun w₁ h₁ => ?_) (fun w₁ h₁ e he ad had hwr => ?_) (fun w₁ a' w' h₁ hr => ?_) fun w₁ a' w' h₁ hr => ?_
  · have hr := rn_load (P := P) (o := o) (a := a) hop hx vs.toList hu (by simpa using hi) w₁ (hcell w₁ h₁)
    unfold wpList
    rw [if_pos hw]
    refine .inl ?_
    unfold Oper.wp
    rw [hr]
    exact ⟨rfl, rfl, rfl⟩
  · obtain ⟨ad', _, h2, _⟩ := load_reads (P := P) (fun _ => True) hop hx trivial w₁ hi hu (fun j hj => by
      rw [hcell w₁ h₁ j vs[j] (by simp [hj])]; rfl) e he
    rw [h2] at hwr; cases hwr
  · obtain ⟨_, rfl⟩ := hr
    exact Below.refl _ _
  · obtain ⟨rfl, rfl⟩ := hr
    exact hn.rely (fun _ _ _ h h' => h.trans h') h₁
theorem rcv_one (hc : c < w0.heap.size) (ho : ops[i]? = some o) (hw : Region.wanted o (yielded ops a.tmps) = true) (hk : b.kind ≠ .early) (hgd : o.guard = none) {x : Operand} {t e : TypeId} {z : Array Value} (hop : o.op = .buildSlice t 1 #[(0, x)]) (ht : P.underlying t = some (.slice e)) (vs : Array Value) (hi : (P.info? e).map (fun i => (i.zero, i.size)) = some (some (.agg z), vs.size))
    (hzs : z.size = vs.size) (hpos : 0 < vs.size) (hlim : vs.size ≤ 16777216) (hx : a.eval x = .agg vs) (hLw : w0.heap.size ≤ w.heap.size)
    (hn : ∀ w₁, Aside c w w₁ → Goes P true (Aside c) (DA4 c w0.heap.size (Sw w0 c)) Stop n (G (b.at (a.put o.dst (.slice (some ⟨w.heap.size, 0, none⟩) 1 1)) (.inRegion ops rest :: k)) cs) (w₁.alloc (.cells vs e))) :
    Goes P true (Aside c) (DA4 c w0.heap.size (Sw w0 c)) Stop (n + 1) (G (b.at a (.inRegion ops (i :: rest) :: k)) cs) w := by
  refine goes_rcv (Rr := fun w₁ a' w' => a' = a.put o.dst (.slice (some ⟨w.heap.size, 0, none⟩) 1 1) ∧ w' = w₁.alloc (.cells vs e)) hc ho hw hk (by rw [hop]; rfl) (fun w₁ h₁ => ?_) (fun w₁ h₁ e he => ?_) (fun w₁ a' w' h₁ hr => ?_) fun w₁ a' w' h₁ hr => ?_
  · refine wpList_slice_one hgd t x hop ht vs hi hzs hpos hlim hx ⟨rfl, ?_, rfl⟩
    rw [h₁.size]
  · rw [ev_one hop ht vs hi hpos hlim hx] at he; simp at he
  · obtain ⟨_, rfl⟩ := hr
    exact (Below.refl _ _).alloc (by rw [h₁.size]; exact hLw) _
  · obtain ⟨rfl, rfl⟩ := hr
    exact hn w₁ h₁
theorem rcv_app (hc : c < w0.heap.size) (ho : ops[i]? = some o) (hw : Region.wanted o (yielded ops a.tmps) = true) (hk : b.kind ≠ .early) (hgd : o.guard = none) {s x : Operand} {t : TypeId} (hop : o.op = .call { callee := .builtin .append, args := #[s, x], argTypes := #[t, t] }) (e : TypeId) (z : Value) (sz bytes : Nat) (ht : P.underlying t = some (.slice e)) (hi : (P.info? e).map (fun i => (i.zero, i.size, i.bytes)) = some (some z, sz, bytes))
    (hzs : z.cells.size = sz) (hsz : 0 < sz) (hb0 : 0 < bytes) {a1 : Option Addr} {m c1 : Nat} {xs : List Value} (hs : a.eval s = .slice a1 m c1) (hown : w.ownsRow w0.heap.size e sz (.slice a1 m c1) m xs)
    {A : Addr} {m2 c2 : Nat} {news : List Value} (hx : a.eval x = .slice (some A) m2 c2) (hA : A.block ≠ c) (hsrc : IsSl w sz (some A) m2 c2 news) (h1 : ∀ u ∈ news, u.oneCell' = true)
    (hbytes : (m + m2) * bytes ≤ 140737488355328) (hLw : w0.heap.size ≤ w.heap.size)
    (hn : ∀ w₁ a' c' w', Aside c w w₁ → w'.ownsRow w0.heap.size e sz (.slice a' (m + m2) c') (m + m2) (xs ++ news) → w₁.grownBy w' (Value.slice a1 m c1).ownBlock → Goes P true (Aside c) (DA4 c w0.heap.size (Sw w0 c)) Stop n (G (b.at (a.put o.dst (.slice a' (m + m2) c')) (.inRegion ops rest :: k)) cs) w') :
    Goes P true (Aside c) (DA4 c w0.heap.size (Sw w0 c)) Stop (n + 1) (G (b.at a (.inRegion ops (i :: rest) :: k)) cs) w := by
  have hown' : ∀ w₁, Aside c w w₁ → w₁.ownsRow w0.heap.size e sz (.slice a1 m c1) m xs := fun w₁ h₁ => own_aside h₁ hc hown
  have hcell : ∀ w₁, Aside c w w₁ → ∀ j u, news[j]? = some u → w₁.cell? (A.add j) = some u := fun w₁ h₁ j u hj => by
    obtain ⟨y, hy, hv⟩ := hsrc.2.2.2.1 j u hj
    cases hy
    rw [World.cell?_of_block (w := w) (h₁.block _ (by rw [addBlock]; exact hA))]
    exact hv
  have hsrc' : ∀ w₁, Aside c w w₁ → IsSl w₁ sz (some A) m2 c2 news := fun w₁ h₁ => ⟨hsrc.1, hsrc.2.1, hsrc.2.2.1, fun j u hj => ⟨A, rfl, hcell w₁ h₁ j u hj⟩, hsrc.2.2.2.2⟩
  have hok : okOp P [] o.op = true := by rw [hop]; rfl
  refine goes_rcv (Rr := fun w₁ a' w' => ∃ x' c', a' = a.put o.dst (.slice x' (m + m2) c') ∧ w'.ownsRow w0.heap.size e sz (.slice x' (m + m2) c') (m + m2) (xs ++ news) ∧ w₁.grownBy w' (Value.slice a1 m c1).ownBlock) hc ho hw hk hok (fun w₁ h₁ => ?_) (fun w₁ h₁ ev hev => ?_) (fun w₁ a' w' h₁ hr => ?_) fun w₁ a' w' h₁ hr => ?_
  · exact wpList_app hgd s x t hop w0.heap.size e z sz bytes ht hi hzs hsz hb0 hs (hown' w₁ h₁) hx (hsrc' w₁ h₁) h1 hbytes (by rw [h₁.size]; exact hLw) fun a' c' w' g1 g2 => ⟨rfl, a', c', rfl, g1, g2⟩
  · exact ev_append hop w0.heap.size e z sz bytes ht hi w₁ hs (hown' w₁ h₁) hx hsrc.1 (hcell w₁ h₁) h1 hb0 hbytes ev hev
  · obtain ⟨x', c', _, _, g2⟩ := hr
    exact below_app (Below.refl _ _) (hown' w₁ h₁) g2 (Nat.le_refl _) (by rw [h₁.size]; exact hLw)
  · obtain ⟨x', c', rfl, g1, g2⟩ := hr
    exact hn w₁ x' c' w' h₁ g1 g2
end
noncomputable def bodyC : Code := Try.f6.body.getD .skip
noncomputable def RC : Code := match bodyC with | .seq _ (.seq _ (.seq _ r)) => r | _ => .skip
noncomputable def LC : Code := match RC with | .seq _ (.seq (.seq _ (.block _ (.loop c))) _) => c | _ => .skip
noncomputable def YC : Code := match RC with | .seq _ (.seq _ y) => y | _ => .skip
noncomputable def LC2 : Code := match LC with | .seq _ r => r | _ => .skip
noncomputable def opsC2 : Array Oper := match bodyC with | .seq _ (.seq _ (.seq (.region _ ops _) _)) => ops | _ => #[]
noncomputable def opsC5 : Array Oper := match LC with | .seq (.region _ ops _) _ => ops | _ => #[]
noncomputable def bC : Frame := base 6
section
variable (c : Nat) (cs : List Frame) (d : Value)
/-- at the loop's head -/
noncomputable def headC (x u11 u1 u2 u3 u4 u6 u7 u8 u9 u12 u13 u14 u15 u16 u17 u18 u19 u20 u21 : Value) : Goroutine :=
  G (bC.at ⟨#[d, u1, u2, u3, u4, x, u6, u7, u8, u9, .chan (some c), u11, u12, u13, u14, u15, u16, u17, u18, u19, u20, u21], []⟩ [.code LC, .inLoop LC, .inBlock 0, .code YC]) cs
/-- at the receive, or behind it -/
noncomputable def atC (x u11 u1 u2 u3 u4 u6 u7 u8 u9 u12 u13 u14 u15 u16 u17 u18 u19 u20 u21 : Value) (rest : List Nat) : Goroutine :=
  G (bC.at ⟨#[d, u1, u2, u3, u4, x, u6, u7, u8, u9, .chan (some c), u11, u12, u13, u14, u15, u16, u17, u18, u19, u20, u21], []⟩ [.inRegion opsC5 rest, .code LC2, .inLoop LC, .inBlock 0, .code YC]) cs
end
section
variable (wE w0 : World) (cs : List Frame) (d : Value) {Stop : Goroutine → World → Prop}
set_option maxRecDepth 100000 in
set_option maxHeartbeats 1000000 in
/-- from behind a receive to the next one -/
theorem segB {x : Option Addr} {cp i : Nat} {acc q : List UInt8} (h0 : w0.heap.size = wE.heap.size + 1) (hq : q.length = 512) (hlim : (i + 1) * 512 ≤ 140737488355328) (u1 u2 u3 u4 u6 u7 u8 u9 u12 u13 u14 u15 u16 u17 u18 u19 u20 u21 : Value) (w : World) (hr : RF wE w0 w x cp i acc)
    (next : ∀ (x' : Option Addr) (cp' : Nat) (u11 u1 u2 u3 u4 u6 u7 u8 u9 u12 u13 u14 u15 u16 u17 u18 u19 u20 u21 : Value) (w' : World), RF wE w0 w' x' cp' (i + 1) (acc ++ q) → Stop (atC wE.heap.size cs d (.slice x' (i + 1) cp') u11 u1 u2 u3 u4 u6 u7 u8 u9 u12 u13 u14 u15 u16 u17 u18 u19 u20 u21 [0, 1]) w') :
    Goes Try.prog true (Aside wE.heap.size) (DA4 wE.heap.size w0.heap.size (Sw w0 wE.heap.size)) Stop 23 (atC wE.heap.size cs d (.slice x i cp) (.tuple #[.agg (rowA q), .bool true]) u1 u2 u3 u4 u6 u7 u8 u9 u12 u13 u14 u15 u16 u17 u18 u19 u20 u21 [1]) w := by
  have T := termsA wE.heap.size w0.heap.size (Sw w0 wE.heap.size)
  have hc : wE.heap.size < w0.heap.size := by omega
  simp only [headC, atC, opsC5, LC2, LC, YC, RC, bodyC, Try.f6, Option.getD_some] at next ⊢
  refine goes_still T rfl rfl (by decide) _ (fun w₁ => rn_extract rfl rfl rfl w₁) ?_
  walk_nrm
  refine goes_ctl T rfl (fun _ => stepG_region_end) ?_
  refine goes_ctl T rfl (fun _ => stepG_seq) ?_
  refine goes_ctl T rfl (fun _ => stepG_cond (t := true) rfl) ?_
  simp only [if_true]
  refine goes_ctl T rfl (fun _ => stepG_skip) ?_
  refine goes_ctl T rfl (fun _ => stepG_block) ?_
  refine goes_ctl T rfl (fun _ => stepG_seq) ?_
  refine goes_ctl T rfl (fun _ => stepG_region) ?_
  simp only [List.size_toArray, List.length_cons, List.length_nil, Nat.reduceAdd, Nat.zero_add, List.range, List.range.loop]
  refine goes_still T rfl rfl (by decide) _ (fun w₁ => rn_extract rfl rfl rfl w₁) ?_
  walk_nrm
  refine rcv_alloc hc rfl rfl (by decide) rfl rfl zeroBlk hr.size fun w₁ h₁ => ?_
  walk_nrm
  have ra := hr.aside h0 h₁
  have hsz1 : w₁.heap.size = w.heap.size := h₁.size
  have hbase := hr.size
  generalize hpe : w.heap.size = p at *
  have rb : RF wE w0 (w₁.alloc (.cells (rowA zblk) 29)) x cp i acc := ⟨World.ownsRow.alloc ra.own _, ra.bel.alloc (by omega) _, by simp; omega⟩
  have hp : (w₁.alloc (.cells (rowA zblk) 29)).heap[p]? = some (.cells (rowA zblk) 29 (0, 0)) := by rw [← hsz1]; exact heap_alloc_new w₁ _
  have hlt : ∀ k, (Value.slice x i cp).ownBlock = some k → k < p := fun k hk => by rw [← hpe]; exact hr.lt k hk
  generalize w₁.alloc (.cells (rowA zblk) 29) = wa at rb hp ⊢
  refine rcv_store hc rfl rfl (by decide) rfl rfl p rfl (rowA q) rfl (rowA zblk) hp (by rw [rowA_size, rowA_size, zblk_len, hq]) (sizeBlk q hq) (rowA_one q) hbase fun w₂ h₂ => ?_
  walk_nrm
  have rc0 := rb.aside h0 h₂
  have hp2 : w₂.heap[p]? = some (.cells (rowA zblk) 29 (0, 0)) := (h₂.block p (by omega)).trans hp
  have rc : RF wE w0 (w₂.setRow p (rowA q)) x cp i acc := ⟨own_setRow rc0.own hlt _, Below.setRow rc0.bel (by omega) _, by simp; exact rc0.size⟩
  have hp3 : (w₂.setRow p (rowA q)).heap[p]? = some (.cells (rowA q) 29 (0, 0)) := setRow_heap _ _ _ _ _ _ hp2
  generalize w₂.setRow p (rowA q) = ws at rc hp3 ⊢
  refine goes_ctl T rfl (fun _ => stepG_region_end) ?_
  refine goes_ctl T rfl (fun _ => stepG_region) ?_
  simp only [List.size_toArray, List.length_cons, List.length_nil, Nat.reduceAdd, Nat.zero_add, List.range, List.range.loop]
  refine goes_still T rfl rfl (by decide) _ (fun w₁ => rn_move rfl w₁) ?_
  walk_nrm
  refine rcv_load hc rfl rfl (by decide) rfl p rfl (rowA q) hp3 Try.underlying29 (sizeBlk q hq) hbase ?_
  walk_nrm
  have hI : (Try.prog.info? 29).map (fun i => (i.zero, i.size)) = some (some (.agg (rowA zblk)), (rowA q).size) := by rw [rowA_size, hq]; kernel_rfl
  refine rcv_one hc rfl rfl (by decide) rfl rfl Try.underlying23 (rowA q) hI (by rw [rowA_size, rowA_size, zblk_len, hq]) (by rw [rowA_size, hq]; decide) (by rw [rowA_size, hq]; decide) rfl rc.size fun w₃ h₃ => ?_
  walk_nrm
  have rd0 := rc.aside h0 h₃
  have hsz3 : w₃.heap.size = ws.heap.size := h₃.size
  have rd : RF wE w0 (w₃.alloc (.cells (rowA q) 29)) x cp i acc := ⟨World.ownsRow.alloc rd0.own _, rd0.bel.alloc (by have := rd0.size; omega) _, by have := rd0.size; simp; omega⟩
  have hsrc : IsSl (w₃.alloc (.cells (rowA q) 29)) 512 (some ⟨ws.heap.size, 0, none⟩) 1 1 (q.map u8v) := by rw [← hsz3]; exact one_isSl w₃ q hq
  have hne : ws.heap.size ≠ wE.heap.size := by have := rc.size; omega
  refine rcv_app hc rfl rfl (by decide) rfl rfl 29 _ 512 512 Try.underlying23 infoBlk (by rw [Value.cells, rowA_size, zblk_len]) (by decide) (by decide) rfl rd.own rfl hne hsrc (bytes_oneCell _) hlim rd.size fun w₄ a' c' w' h₄ g1 g2 => ?_
  walk_nrm
  have re0 := rd.aside h0 h₄
  have re : RF wE w0 w' a' c' (i + 1) (acc ++ q) := ⟨by rw [List.map_append]; exact g1, below_app re0.bel re0.own g2 (by omega) (by have := re0.size; omega), Nat.le_trans re0.size g2.size⟩
  refine goes_still T rfl rfl (by decide) _ (fun w₁ => rn_assign rfl w₁) ?_
  walk_nrm
  refine goes_ctl T rfl (fun _ => stepG_region_end) ?_
  refine goes_ctl T rfl (fun _ => stepG_inBlock) ?_
  refine goes_ctl T rfl (fun _ => stepG_inLoop) ?_
  refine goes_ctl T rfl (fun _ => stepG_seq) ?_
  refine goes_ctl T rfl (fun _ => stepG_region) ?_
  simp only [List.size_toArray, List.length_cons, List.length_nil, Nat.reduceAdd, Nat.zero_add, List.range, List.range.loop]
  exact Goes.stop fun w₅ h₅ => next _ _ _ _ _ _ _ _ _ _ _ _ _ _ _ _ _ _ _ _ _ w₅ (re.aside h0 h₅)
theorem atC_comm (c : Nat) (x u11 u1 u2 u3 u4 u6 u7 u8 u9 u12 u13 u14 u15 u16 u17 u18 u19 u20 u21 : Value) (w : World) : stepG Try.prog true (atC c cs d x u11 u1 u2 u3 u4 u6 u7 u8 u9 u12 u13 u14 u15 u16 u17 u18 u19 u20 u21 [0, 1]) w =
    .comm (core (atC c cs d x u11 u1 u2 u3 u4 u6 u7 u8 u9 u12 u13 u14 u15 u16 u17 u18 u19 u20 u21 [0, 1])) #[rcase c (.agg (rowA zblk))] true (.recv true) w #[] := by
  obtain ⟨i, hi, h0⟩ := Option.bind_eq_some_iff.1 zeroBlk
  simp only [atC, opsC5, LC, RC, bodyC, Try.f6, Option.getD_some, core_G]
  rw [stepG_comm (cases := #[rcase c (.agg (rowA zblk))]) (blocking := true) (shape := .recv true) (w' := w) rfl rfl (by decide) (by simp [go_sem, rcase, run_underlying Try.underlying39, zeroValue, typeInfo, hi, h0])]
  refine congrArg (fun es => GStep.comm _ _ _ _ _ es) (listed_none ?_)
  unfold execOp
  simp [go_sem, Try.underlying39, zeroValue, typeInfo, hi, h0]
theorem served_atC (c : Nat) (x u11 u1 u2 u3 u4 u6 u7 u8 u9 u12 u13 u14 u15 u16 u17 u18 u19 u20 u21 v : Value) : Go.Conc.served (core (atC c cs d x u11 u1 u2 u3 u4 u6 u7 u8 u9 u12 u13 u14 u15 u16 u17 u18 u19 u20 u21 [0, 1])) v = atC c cs d x v u1 u2 u3 u4 u6 u7 u8 u9 u12 u13 u14 u15 u16 u17 u18 u19 u20 u21 [1] := by
  simp only [atC, opsC5, LC, RC, bodyC, Try.f6, Option.getD_some, core_G, served_G]
  rfl
/-- behind the receive that found the channel closed -/
def FinC (K : Nat) (all : List UInt8) (g : Goroutine) (w : World) : Prop :=
  ∃ x cp, ∃ u1 u2 u3 u4 u6 u7 u8 u9 u12 u13 u14 u15 u16 u17 u18 u19 u20 u21 : Value, g = atC wE.heap.size cs d (.slice x K cp) (.tuple #[.agg (rowA zblk), .bool false]) u1 u2 u3 u4 u6 u7 u8 u9 u12 u13 u14 u15 u16 u17 u18 u19 u20 u21 [1] ∧ RF wE w0 w x cp K all
set_option maxRecDepth 100000 in
set_option maxHeartbeats 1000000 in
theorem recvs_from (h0 : w0.heap.size = wE.heap.size + 1) (K : Nat) (all : List UInt8) (hlim : K * 512 ≤ 140737488355328) : ∀ (m : Nat) (l : List UInt8), m * 512 ≤ l.length → ∀ (x : Option Addr) (cp i : Nat) (acc : List UInt8) (u11 u1 u2 u3 u4 u6 u7 u8 u9 u12 u13 u14 u15 u16 u17 u18 u19 u20 u21 : Value) (w : World),
    RF wE w0 w x cp i acc → i + m = K → acc ++ l.take (m * 512) = all →
    StopA4 Try.prog wE.heap.size w0.heap.size (Sw w0 wE.heap.size) (.agg (rowA zblk)) (FinC wE w0 cs d K all) (blks m l) (atC wE.heap.size cs d (.slice x i cp) u11 u1 u2 u3 u4 u6 u7 u8 u9 u12 u13 u14 u15 u16 u17 u18 u19 u20 u21 [0, 1]) w
  | 0, l, hl, x, cp, i, acc, u11, u1, u2, u3, u4, u6, u7, u8, u9, u12, u13, u14, u15, u16, u17, u18, u19, u20, u21, w, hr, hi, hall => by
    refine ⟨rfl, #[], atC_comm .., by simp, fun w₂ h₂ => ?_⟩
    show FinC wE w0 cs d K all (Go.Conc.served (core _) _) w₂
    rw [served_atC]
    obtain rfl : i = K := by omega
    refine ⟨x, cp, u1, u2, u3, u4, u6, u7, u8, u9, u12, u13, u14, u15, u16, u17, u18, u19, u20, u21, rfl, ?_⟩
    rw [show all = acc by rw [← hall]; simp]
    exact hr.aside h0 h₂
  | m + 1, l, hl, x, cp, i, acc, u11, u1, u2, u3, u4, u6, u7, u8, u9, u12, u13, u14, u15, u16, u17, u18, u19, u20, u21, w, hr, hi, hall => by
    refine ⟨rfl, #[], atC_comm .., by simp, fun w₂ h₂ => ?_⟩
    show Recvs4 _ _ _ _ _ _ _ (Go.Conc.served (core _) _) w₂
    rw [served_atC]
    have hK : (i + 1) * 512 ≤ K * 512 := Nat.mul_le_mul_right _ (by omega)
    refine (recvs4_iff ..).2 ⟨23, segB wE w0 cs d h0 (by rw [List.length_take]; omega) (by omega) _ _ _ _ _ _ _ _ _ _ _ _ _ _ _ _ _ _ w₂ (hr.aside h0 h₂) fun x' cp' u11 u1 u2 u3 u4 u6 u7 u8 u9 u12 u13 u14 u15 u16 u17 u18 u19 u20 u21 w' hr' => ?_⟩
    refine recvs_from h0 K all hlim m (l.drop 512) (by rw [List.length_drop]; omega) x' cp' (i + 1) (acc ++ l.take 512) _ _ _ _ _ _ _ _ _ _ _ _ _ _ _ _ _ _ _ w' hr' (by omega) ?_
    rw [← hall, List.append_assoc, show (m + 1) * 512 = 512 + m * 512 by omega, List.take_add]
end
end Cc
end Go.Proofs.Ytbioidbbijmnjaa
