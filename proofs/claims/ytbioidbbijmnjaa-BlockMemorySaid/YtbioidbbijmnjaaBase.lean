/-
  Base: predicates on byte slices and rows of cells, and small lemmas that no program is needed for.
-/
import Derived.WalkKit
import Derived.ProofKit
import Derived.OpenShut
import Derived.WalkSpells
import Derived.BigQuiet
import Derived.Deep.QuietTactic
import Derived.Lib.Hide
import Derived.Lib.ConvBytes
import Derived.Lib.SlBytesConst
import Derived.Deep.Slices
namespace Go.Proofs.Ytbioidbbijmnjaa
open Go.ChangeShapes Go.WideShapes Go.ChangeAt Go.RowKit

/-- a byte as the model holds it -/
def u8v (b : UInt8) : Value := .int .u8 (b.toNat : Int)
theorem u8v_def (b : UInt8) : u8v b = .int .u8 (b.toNat : Int) := rfl
theorem u8v_inj {a b : UInt8} (h : u8v a = u8v b) : a = b := by
  have : (a.toNat : Int) = b.toNat := by simpa [u8v] using h
  exact UInt8.toNat_inj.1 (by omega)

/-- the cells from an address on -/
def Cs (w : World) (a : Option Addr) (xs : List Value) : Prop := ∀ j v, xs[j]? = some v → ∃ x : Addr, a = some x ∧ w.cell? (x.add j) = some v

/-- a slice of n elements of sz cells each: its cells -/
def IsSl (w : World) (sz : Nat) (a : Option Addr) (n cap : Nat) (xs : List Value) : Prop := xs.length = n * sz ∧ n ≤ cap ∧ cap ≤ maxLen ∧ Cs w a xs ∧ (a = none → n = 0 ∧ cap = 0)

/-- a slice of bytes -/
def Bs (w : World) (a : Option Addr) (n cap : Nat) (l : List UInt8) : Prop := IsSl w 1 a n cap (l.map u8v)

/-- every cell that was there reads as it did -/
def Keeps (w w' : World) : Prop := ∀ p v, w.cell? p = some v → w'.cell? p = some v

theorem Keeps.refl (w : World) : Keeps w w := fun _ _ h => h
theorem Keeps.trans {a b c : World} (h : Keeps a b) (k : Keeps b c) : Keeps a c := fun p v hv => k p v (h p v hv)
theorem Below.keeps {w w' : World} (h : Below w.heap.size w w') : Keeps w w' := fun p v hv => by
  rw [h.cell (World.block_lt_of_cell? (w := w) (a := p) hv)]; exact hv
theorem Keeps.cs {w w' : World} {a : Option Addr} {xs : List Value} (k : Keeps w w') (h : Cs w a xs) : Cs w' a xs := fun j v hj => by
  obtain ⟨x, hx, hc⟩ := h j v hj
  exact ⟨x, hx, k _ _ hc⟩
theorem Keeps.sl {w w' : World} {sz : Nat} {a : Option Addr} {n cap : Nat} {xs : List Value} (k : Keeps w w') (h : IsSl w sz a n cap xs) : IsSl w' sz a n cap xs := ⟨h.1, h.2.1, h.2.2.1, k.cs h.2.2.2.1, h.2.2.2.2⟩
theorem Keeps.bs {w w' : World} {a : Option Addr} {n cap : Nat} {l : List UInt8} (k : Keeps w w') (h : Bs w a n cap l) : Bs w' a n cap l := k.sl h
theorem Below.bs {w w' : World} {a : Option Addr} {n cap : Nat} {l : List UInt8} (k : Below w.heap.size w w') (h : Bs w a n cap l) : Bs w' a n cap l := (Below.keeps k).sl h

theorem Keeps.alloc (w : World) (o : Obj) : Keeps w (w.alloc o) := fun p v hv => by
  rw [World.cell?_alloc_lt w o p (World.block_lt_of_cell? (w := w) (a := p) hv)]; exact hv
theorem Keeps.drew (w : World) : Keeps w w.drew := fun _ _ h => h
theorem Keeps.drewN (w : World) (n : Nat) : Keeps w (w.drewN n) := fun _ _ h => h
theorem Below.drewN {B : Nat} {a w : World} (h : Below B a w) (n : Nat) : Below B a (w.drewN n) := ⟨h.os, h.tape, h.output, h.size, h.block⟩
theorem Below.seq {w0 w w' : World} (h : Below w0.heap.size w0 w) (k : Below w.heap.size w w') : Below w0.heap.size w0 w' := h.trans (k.mono h.size)
theorem bcell {W w1 : World} (hb : Below W.heap.size W w1) : (∀ b o, b < W.heap.size → w1.cell? ⟨b, o, none⟩ = W.cell? ⟨b, o, none⟩) ∧ (∀ b o, b < W.heap.size → w1.frozen? ⟨b, o, none⟩ = W.frozen? ⟨b, o, none⟩) :=
  ⟨fun b o h => hb.cell (p := ⟨b, o, none⟩) h, fun b o h => hb.frozen (p := ⟨b, o, none⟩) h⟩
theorem Bs.len {w : World} {a : Option Addr} {n cap : Nat} {l : List UInt8} (h : Bs w a n cap l) : l.length = n := by have := h.1; simpa using this
theorem Bs.cap {w : World} {a : Option Addr} {n cap : Nat} {l : List UInt8} (h : Bs w a n cap l) : n ≤ cap := h.2.1
theorem Bs.max {w : World} {a : Option Addr} {n cap : Nat} {l : List UInt8} (h : Bs w a n cap l) : cap ≤ 9223372036854775807 := h.2.2.1
theorem Cs.at {w : World} {a : Option Addr} {xs : List Value} (h : Cs w a xs) (k : Nat) (v : Value) (hk : xs[k]? = some v) :
    ∃ b off, a = some ⟨b, off, none⟩ ∧ w.cell? ⟨b, off + k, none⟩ = some v := by
  obtain ⟨⟨b, off, sp⟩, rfl, hc⟩ := h k v hk
  by_cases h0 : k = 0
  · subst h0
    have hs : sp = none := by
      simp only [Addr.add, if_true] at hc
      simpa using World.cell?_spot hc
    subst hs
    exact ⟨b, off, rfl, by simpa [Addr.add] using hc⟩
  · have h0' : xs[0]?.isSome = true := by
      have hl : k < xs.length := (List.getElem?_eq_some_iff.1 hk).1
      simp; omega
    obtain ⟨v0, hv0⟩ := Option.isSome_iff_exists.1 h0'
    obtain ⟨x, hx, hc0⟩ := h 0 v0 hv0
    cases hx
    have hs : sp = none := by
      simp only [Addr.add, if_true] at hc0
      simpa using World.cell?_spot hc0
    subst hs
    exact ⟨b, off, rfl, by simpa [Addr.add, h0] using hc⟩
/-- the byte number k of a slice: where it lies -/
theorem Bs.at {w : World} {a : Option Addr} {n cap : Nat} {l : List UInt8} (h : Bs w a n cap l) (k : Nat) (hk : k < n) :
    ∃ b off, a = some ⟨b, off, none⟩ ∧ w.cell? ⟨b, off + k, none⟩ = some (.int .u8 ((l.getD k 0).toNat : Int)) := by
  refine h.2.2.2.1.at k _ ?_
  have hl := h.len
  have : k < l.length := by omega
  simp [List.getD, List.getElem?_eq_getElem this, u8v]

theorem length_bytes (l : List UInt8) : (l.map u8v).length = l.length * 1 := by simp
theorem bytes_oneCell (l : List UInt8) : ∀ u ∈ l.map u8v, u.oneCell' = true := by
  intro u hu
  obtain ⟨_, _, rfl⟩ := List.mem_map.1 hu
  rfl
/-- what is owned is there -/
theorem own_isSl {w : World} {base : Nat} {e : TypeId} {sz : Nat} {a : Option Addr} {n c : Nat} {xs : List Value} (h : w.ownsRow base e sz (.slice a n c) n xs) : IsSl w sz a n c xs := by
  obtain ⟨hl, h⟩ := h
  rcases h with ⟨hv, h0⟩ | ⟨g, cap, cur, hv, hb, hh, hn, hm, hs, ht⟩
  · simp only [Value.slice.injEq] at hv
    obtain ⟨rfl, rfl, rfl⟩ := hv
    have : xs = [] := List.eq_nil_of_length_eq_zero (by simpa using hl)
    subst this
    exact ⟨by simp, Nat.le_refl _, by unfold maxLen; omega, fun j v hj => by simp at hj, fun _ => ⟨rfl, rfl⟩⟩
  · simp only [Value.slice.injEq, true_and] at hv
    obtain ⟨rfl, rfl⟩ := hv
    refine ⟨hl, hn, hm, fun j v hj => ⟨_, rfl, ?_⟩, fun h => by cases h⟩
    rw [Addr.add_lit]
    simp only [World.cell?, hh, Nat.zero_add]
    rw [← ht] at hj
    have hj' := hj
    rw [List.getElem?_take] at hj'
    split at hj'
    · simpa using hj'
    · cases hj'
theorem own_slice {w : World} {base : Nat} {e : TypeId} {sz : Nat} {v : Value} {n : Nat} {xs : List Value} (h : w.ownsRow base e sz v n xs) : ∃ a c, v = .slice a n c := by
  obtain ⟨_, h⟩ := h
  rcases h with ⟨hv, h0⟩ | ⟨g, cap, cur, hv, _⟩
  · exact ⟨none, 0, by rw [hv, h0]⟩
  · exact ⟨_, _, hv⟩
/-- a new block of cells as a slice -/
theorem isSl_new (w : World) (e : TypeId) (sz n : Nat) (cs : Array Value) (h : cs.size = n * sz) (hm : n ≤ maxLen) : IsSl (w.alloc (.cells cs e)) sz (some ⟨w.heap.size, 0, none⟩) n n cs.toList := by
  refine ⟨by simpa using h, Nat.le_refl _, hm, fun j v hj => ⟨_, rfl, ?_⟩, fun h => by cases h⟩
  rw [Addr.add_lit, Nat.zero_add, World.cell?_alloc_new]
  simpa using hj
theorem isSl_mark (w : World) (e : TypeId) (sz n : Nat) (cs : Array Value) (fr : Nat × Nat) (h : cs.size = n * sz) (hm : n ≤ maxLen) : IsSl (w.alloc (.cells cs e fr)) sz (some ⟨w.heap.size, 0, none⟩) n n cs.toList := by
  refine ⟨by simpa using h, Nat.le_refl _, hm, fun j v hj => ⟨_, rfl, ?_⟩, fun h => by cases h⟩
  rw [Addr.add_lit, Nat.zero_add, World.cell?_alloc_mark]
  simpa using hj
theorem below_app {B base : Nat} {w0 w w' : World} {e : TypeId} {sz : Nat} {v : Value} {n : Nat} {xs : List Value} (h : Below B w0 w) (ho : w.ownsRow base e sz v n xs) (hg : w.grownBy w' v.ownBlock) (h1 : B ≤ base) (h2 : B ≤ w.heap.size) : Below B w0 w' :=
  h.grown hg h2 fun k hk => by have := (ho.lt k hk).1; omega
section laws
variable {P : Program} {ops : Array Oper} {rest : List Oper} {o : Oper} {a : Act} {w : World} {Q : Exit → Act → World → Prop}
/-- an operation that ends in a value -/
theorem wpList_value (hg : o.guard = none) (v : Value) (w' : World) (h : (execOp a.eval o).run P w = .ok (.value v) w')
    (hk : wpList P ops Q rest (a.put o.dst v) w') : wpList P ops Q (o :: rest) a w :=
  wpList_plain hg fun K hK => by unfold Oper.wp; rw [h]; exact hK _ _ hk
/-- append onto a slice that the call owns, whatever the source -/
theorem wpList_app (hgd : o.guard = none) (s x : Operand) (t : TypeId) (ho : o.op = .call { callee := .builtin .append, args := #[s, x], argTypes := #[t, t] })
    (base : Nat) (e : TypeId) (z : Value) (sz bytes : Nat) (ht : P.underlying t = some (.slice e)) (hi : (P.info? e).map (fun i => (i.zero, i.size, i.bytes)) = some (some z, sz, bytes))
    (hzs : z.cells.size = sz) (hsz : 0 < sz) (hb0 : 0 < bytes) {a1 : Option Addr} {n c1 : Nat} {xs : List Value} (hs : a.eval s = .slice a1 n c1) (hown : w.ownsRow base e sz (.slice a1 n c1) n xs)
    {a2 : Option Addr} {m c2 : Nat} {news : List Value} (hx : a.eval x = .slice a2 m c2) (hsrc : IsSl w sz a2 m c2 news) (h1 : ∀ u ∈ news, u.oneCell' = true)
    (hbytes : (n + m) * bytes ≤ 140737488355328) (hbase : base ≤ w.heap.size)
    (h : ∀ a' c' w', w'.ownsRow base e sz (.slice a' (n + m) c') (n + m) (xs ++ news) → w.grownBy w' (Value.slice a1 n c1).ownBlock → wpList P ops Q rest (a.put o.dst (.slice a' (n + m) c')) w') :
    wpList P ops Q (o :: rest) a w := by
  obtain ⟨i, hi, hz0, hz1, hz2⟩ := info_parts hi
  cases a2 with
  | none =>
    obtain ⟨rfl, rfl⟩ := hsrc.2.2.2.2 rfl
    have hnews : news = [] := List.eq_nil_of_length_eq_zero (by simpa using hsrc.1)
    subst hnews
    refine wpList_plain hgd fun K hK' => ?_
    have hrun := run_append_owned_none (P := P) w base t o.type e i sz ht hi _ n xs hown
    unfold Oper.wp
    simp [execOp, ho, resolve, invoke, builtin, hs, hx, hrun, Result.andThen]
    exact hK' _ _ (by simpa using h a1 c1 w (by simpa using hown) (World.grownBy.refl _ _))
  | some ad =>
    have hle : n + m ≤ (n + m) * bytes := Nat.le_mul_of_pos_right _ hb0
    refine wpList_append_own w hgd s x t ho base e i z sz bytes ht hi hz0 hz1 hz2 hzs hsz _ n xs hs hown ad m c2 news hx hsrc.1 (fun j u hj => ?_) h1 (by unfold maxLen; omega) hbytes hbase (fun v' w' h2 h3 _ => ?_)
    · obtain ⟨x, hx, hc⟩ := hsrc.2.2.2.1 j u hj
      cases hx
      exact hc
    · obtain ⟨a', c', rfl⟩ := own_slice h2
      exact h a' c' w' h2 h3
/-- string(b), b a slice of bytes -/
theorem wpList_str_of_bs (hgd : o.guard = none) (src dst : TypeId) (x : Operand) (ho : o.op = .convert src dst x) {e : TypeId} (hs : P.underlying src = some (.slice e)) (he : P.underlying e = some (.int .u8)) (hd : P.underlying dst = some .string)
    {ao : Option Addr} {n c : Nat} {l : List UInt8} (hx : a.eval x = .slice ao n c) (hb : Bs w ao n c l) (h : wpList P ops Q rest (a.put o.dst (.string ⟨l.toArray⟩)) w) : wpList P ops Q (o :: rest) a w := by
  refine wpList_value hgd (.string ⟨l.toArray⟩) w ?_ h
  have hr : (convert src dst (.slice ao n c)).run P w = .ok (.string ⟨l.toArray⟩) w := by
    cases ao with
    | none =>
      obtain ⟨rfl, rfl⟩ := hb.2.2.2.2 rfl
      have : l = [] := List.eq_nil_of_length_eq_zero hb.len
      subst this
      exact run_convert_bytes_nil w src e hs he 0 0 dst hd
    | some ad =>
      obtain rfl := hb.len
      exact run_convert_bytes_back w src dst e ad c l hs he hd (fun j hj => by
        obtain ⟨x, hx, hc⟩ := hb.2.2.2.1 j (u8v l[j]) (by simp [List.getElem?_eq_getElem hj])
        cases hx
        exact hc)
  simp [execOp, ho, hx, hr, Result.andThen]
theorem bytesWorld_keeps (w : World) (e : TypeId) (s : ByteArray) : Keeps w (Lib.bytesWorld w e s) := fun p v hv => by
  rw [Lib.bytesWorld_old w e s p (World.block_lt_of_cell? (w := w) (a := p) hv)]; exact hv
theorem bytesWorld_below (w : World) (e : TypeId) (s : ByteArray) : Below w.heap.size w (Lib.bytesWorld w e s) :=
  ⟨by simp [Lib.bytesWorld, World.freeze]; rfl, by simp [Lib.bytesWorld, World.freeze], by simp [Lib.bytesWorld, World.freeze]; rfl, by rw [Lib.bytesWorld_size]; omega, fun k hk => Lib.bytesWorld_at_old w e s k hk⟩
theorem bytesWorld_bs (w : World) (e : TypeId) (l : List UInt8) (h : l.length ≤ 140737488355328) : Bs (Lib.bytesWorld w e ⟨l.toArray⟩) (some ⟨w.heap.size, 0, none⟩) l.length (grownCap w l.length 0 e) l := by
  refine ⟨by simp, grownCap_ge w _ 0 e, grownCap_le_maxLen w _ 0 e (by unfold maxLen; omega), fun j v hj => ⟨_, rfl, ?_⟩, fun h => by cases h⟩
  rw [Addr.add_lit, Nat.zero_add]
  have hjl : j < l.length := by have := (List.getElem?_eq_some_iff.1 hj).1; simpa using this
  rw [Lib.bytesWorld_cell w e ⟨l.toArray⟩ j (by simpa [ByteArray.size] using hjl)]
  simp [List.getElem?_eq_getElem hjl] at hj
  subst hj
  simp [List.getD, List.getElem?_eq_getElem hjl, u8v]
/-- []byte(s) -/
theorem wpList_bs_of_str (hgd : o.guard = none) (src dst : TypeId) (x : Operand) (ho : o.op = .convert src dst x) {e : TypeId} (hs : P.underlying src = some .string) (hd : P.underlying dst = some (.slice e)) (he : P.underlying e = some (.int .u8))
    {l : List UInt8} (hx : a.eval x = .string ⟨l.toArray⟩) (hl : l.length ≤ 140737488355328)
    (h : ∀ a' c' w', Bs w' a' l.length c' l → Below w.heap.size w w' → wpList P ops Q rest (a.put o.dst (.slice a' l.length c')) w') : wpList P ops Q (o :: rest) a w := by
  have hr := Lib.run_convert_string_bytes (P := P) w src dst e ⟨l.toArray⟩ hs hd he
  refine wpList_value hgd _ _ ?_ (h _ _ _ (bytesWorld_bs w e l hl) (bytesWorld_below w e _))
  simp [execOp, ho, hx, hr, Result.andThen, ByteArray.size]
/-- x[lo:hi] of a slice of bytes; no bound: 'none' -/
theorem bs_cut {w : World} {ao : Option Addr} {n c : Nat} {l : List UInt8} (hb : Bs w ao n c l) (lo hi : Nat) (h1 : lo ≤ hi) (h2 : hi ≤ n) : Bs w (if c = lo then ao else ao.map (·.add (lo * 1))) (hi - lo) (c - lo) ((l.take hi).drop lo) := by
  have hl := hb.len; have hc := hb.cap; have hm := hb.max
  refine ⟨by simp; omega, by omega, by unfold maxLen; omega, fun j v hj => ?_, fun hn => ?_⟩
  · simp only [List.map_drop, List.map_take, List.getElem?_drop, List.getElem?_take] at hj
    split at hj
    · rename_i hlt
      obtain ⟨x, hx, hcell⟩ := hb.2.2.2.1 (lo + j) v hj
      subst hx
      have hne : ¬ c = lo := by omega
      rw [if_neg hne]
      refine ⟨x.add (lo * 1), rfl, ?_⟩
      rw [Go.Deep.add_add, Nat.mul_one]
      exact hcell
    · cases hj
  · split at hn
    · obtain ⟨h3, h4⟩ := hb.2.2.2.2 hn; omega
    · have : ao = none := by cases ao <;> simp_all
      obtain ⟨h3, h4⟩ := hb.2.2.2.2 this; omega
theorem wpList_slice_bs (hgd : o.guard = none) (t : TypeId) (x : Operand) (lo hi : Option Operand) (ho : o.op = .slice t x lo hi none) {e : TypeId} (ht : P.underlying t = some (.slice e)) (hsz : (P.info? e).map (·.size) = some 1)
    {ao : Option Addr} {n c : Nat} {l : List UInt8} (hx : a.eval x = .slice ao n c) (hb : Bs w ao n c l) (L M : Nat) (k1 k2 : IntKind)
    (hL : match lo with | some p => a.eval p = .int k1 (L : Int) | none => L = 0) (hM : match hi with | some p => a.eval p = .int k2 (M : Int) | none => M = n) (h1 : L ≤ M) (h2 : M ≤ n)
    (h : ∀ a', Bs w a' (M - L) (c - L) ((l.take M).drop L) → wpList P ops Q rest (a.put o.dst (.slice a' (M - L) (c - L))) w) : wpList P ops Q (o :: rest) a w := by
  have hcap := hb.cap
  refine wpList_value hgd _ _ ?_ (h _ (bs_cut hb L M h1 h2))
  obtain ⟨i, hi', hs'⟩ := Option.map_eq_some_iff.1 hsz
  have e1 : (L : Int) ≤ M := by omega
  have e2 : (M : Int) ≤ c := by omega
  have e3 : (n : Int) ≤ c := by omega
  have e4 : (L : Int) ≤ n := by omega
  have f2 : M ≤ c := by omega
  have f4 : L ≤ n := by omega
  cases lo <;> cases hi <;> simp only at hL hM
  all_goals first | subst hL | skip
  all_goals first | subst hM | skip
  all_goals simp [execOp, Instr.sliceAt, Instr.slice, Instr.sliceBounds, Instr.sliceBound, run_underlying ht, sizeOf, typeInfo, asIntOf, Result.andThen, *]
end laws
theorem flat_at {α : Type} {f : α → List Value} {sz : Nat} (hf : ∀ x, (f x).length = sz) : ∀ (l : List α) (k j : Nat) (hk : k < l.length), j < sz → (l.flatMap f)[k * sz + j]? = (f l[k])[j]?
  | [], k, j, hk, _ => by simp at hk
  | x :: l, 0, j, _, hj => by simp [List.flatMap_cons, List.getElem?_append_left, hf x, hj]
  | x :: l, k + 1, j, hk, hj => by
    have ih := flat_at hf l k j (by simpa using hk) hj
    rw [List.flatMap_cons, List.getElem?_append_right (by rw [hf x, Nat.add_mul]; omega), hf x]
    have e : (k + 1) * sz + j - sz = k * sz + j := by rw [Nat.add_mul]; omega
    rw [e, ih]
    rfl
theorem flat_len {α : Type} {f : α → List Value} {sz : Nat} (hf : ∀ x, (f x).length = sz) (l : List α) : (l.flatMap f).length = l.length * sz := by
  induction l with
  | nil => simp
  | cons x l ih => rw [List.flatMap_cons, List.length_append, hf x, ih, List.length_cons, Nat.add_mul]; omega
theorem ret_int {k : IntKind} {a b : Int} (h : a = b) : Ending.returned (.int k a) = .returned (.int k b) := by rw [h]
theorem ret_bool {a b : Bool} (h : a = b) : Ending.returned (.bool a) = .returned (.bool b) := by rw [h]
theorem ret_str {a b : ByteArray} (h : a = b) : Ending.returned (.string a) = .returned (.string b) := by rw [h]
theorem beq_t {α : Type} [BEq α] [LawfulBEq α] {a b : α} (h : a = b) : (a == b) = true := by simp [h]
theorem beq_f {α : Type} [BEq α] [LawfulBEq α] {a b : α} (h : ¬ a = b) : (a == b) = false := by simp [h]
theorem bne_t {α : Type} [BEq α] [LawfulBEq α] {a b : α} (h : ¬ a = b) : (a != b) = true := by simp [h]
theorem bne_f {α : Type} [BEq α] [LawfulBEq α] {a b : α} (h : a = b) : (a != b) = false := by simp [h]
theorem dec_t {p : Prop} [Decidable p] (h : p) : decide p = true := by simp [h]
theorem dec_f {p : Prop} [Decidable p] (h : ¬ p) : decide p = false := by simp [h]
theorem list_ext_getD {l m : List UInt8} (h : l.length = m.length) (hk : ∀ k, k < l.length → l.getD k 0 = m.getD k 0) : l = m := by
  apply List.ext_getElem h
  intro i h1 h2
  have := hk i h1
  simpa [List.getD, List.getElem?_eq_getElem h1, List.getElem?_eq_getElem h2] using this
/-- the byte number k of a string -/
theorem str_at (l : List UInt8) (k : Nat) (h : k < l.length) : (⟨l.toArray⟩ : ByteArray)[k]'(by simpa [ByteArray.size] using h) = l.getD k 0 := by
  simp [ByteArray.getElem_eq_getElem_data, List.getD, List.getElem?_eq_getElem h]
theorem u8_lt (b : UInt8) : (b.toNat : Int) < 256 := by have := b.toNat_lt; omega
end Go.Proofs.Ytbioidbbijmnjaa
