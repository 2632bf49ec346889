/-
  J01: Base, Args, Dec, Decs, Copy, Rev, Show, Door, ArgsUpto, Oct, Bin, Place, OctLaw, joined.
-/
import Derived.WalkKit
import Derived.ProofKit
import Derived.OpenShut
import Derived.WalkSpells
import Derived.BigQuiet
import Derived.Deep.QuietTactic
import Derived.Lib.Hide
import Derived.Lib.ConvBytes
import Derived.Lib.SlBytesConst
import Derived.Deep.Slices
import Derived.SizedLaws
import Derived.ShutString
import Derived.ChangeOld
import Derived.Lib.ItoaMem
import Derived.Lib.ParseIntB
import Derived.Test.YtamgiffkhnfpmaaDoorShelf
import Derived.Test.YtamgiffkhnfpmaaDoorProg
import Derived.Lib.SmallJoins
import Derived.Test.YtamgiffkhnfpmaaDoorRows
import Derived.Deep.DeepHandedRow
import Derived.Lib.LaidTab
import Derived.LaidSub
import Derived.Stop.LaidErr
namespace Go.Proofs.YtamgiffkhnfpmaaDoor
set_option linter.unusedVariables false
set_option linter.unusedSimpArgs false
open Go.ChangeShapes Go.WideShapes Go.ChangeAt Go.RowKit

/-- a byte as the model holds it -/
def u8v (b : UInt8) : Value := .int .u8 (b.toNat : Int)
theorem u8v_def (b : UInt8) : u8v b = .int .u8 (b.toNat : Int) := rfl
theorem u8v_inj {a b : UInt8} (h : u8v a = u8v b) : a = b := by
  have : (a.toNat : Int) = b.toNat := by simpa [u8v] using h
  exact UInt8.toNat_inj.1 (by omega)

/-- the cells from an address on -/
def Cs (w : World) (a : Option Addr) (xs : List Value) : Prop := ∀ j v, xs[j]? = some v → ∃ x : Addr, a = some x ∧ w.cell? (x.add j) = some v

/-- a slice of n elements of sz cells each: its cells -/
def IsSl (w : World) (sz : Nat) (a : Option Addr) (n cap : Nat) (xs : List Value) : Prop := xs.length = n * sz ∧ n ≤ cap ∧ cap ≤ maxLen ∧ Cs w a xs ∧ (a = none → n = 0 ∧ cap = 0)

/-- a slice of bytes -/
def Bs (w : World) (a : Option Addr) (n cap : Nat) (l : List UInt8) : Prop := IsSl w 1 a n cap (l.map u8v)

/-- every cell that was there reads as it did -/
def Keeps (w w' : World) : Prop := ∀ p v, w.cell? p = some v → w'.cell? p = some v

theorem Keeps.refl (w : World) : Keeps w w := fun _ _ h => h
theorem Keeps.trans {a b c : World} (h : Keeps a b) (k : Keeps b c) : Keeps a c := fun p v hv => k p v (h p v hv)
theorem Below.keeps {w w' : World} (h : Below w.heap.size w w') : Keeps w w' := fun p v hv => by
  rw [h.cell (World.block_lt_of_cell? (w := w) (a := p) hv)]; exact hv
theorem Keeps.cs {w w' : World} {a : Option Addr} {xs : List Value} (k : Keeps w w') (h : Cs w a xs) : Cs w' a xs := fun j v hj => by
  obtain ⟨x, hx, hc⟩ := h j v hj
  exact ⟨x, hx, k _ _ hc⟩
theorem Keeps.sl {w w' : World} {sz : Nat} {a : Option Addr} {n cap : Nat} {xs : List Value} (k : Keeps w w') (h : IsSl w sz a n cap xs) : IsSl w' sz a n cap xs := ⟨h.1, h.2.1, h.2.2.1, k.cs h.2.2.2.1, h.2.2.2.2⟩
theorem Keeps.bs {w w' : World} {a : Option Addr} {n cap : Nat} {l : List UInt8} (k : Keeps w w') (h : Bs w a n cap l) : Bs w' a n cap l := k.sl h
theorem Below.bs {w w' : World} {a : Option Addr} {n cap : Nat} {l : List UInt8} (k : Below w.heap.size w w') (h : Bs w a n cap l) : Bs w' a n cap l := (Below.keeps k).sl h

theorem Keeps.alloc (w : World) (o : Obj) : Keeps w (w.alloc o) := fun p v hv => by
  rw [World.cell?_alloc_lt w o p (World.block_lt_of_cell? (w := w) (a := p) hv)]; exact hv
theorem Keeps.drew (w : World) : Keeps w w.drew := fun _ _ h => h
theorem Keeps.drewN (w : World) (n : Nat) : Keeps w (w.drewN n) := fun _ _ h => h
theorem Below.drewN {B : Nat} {a w : World} (h : Below B a w) (n : Nat) : Below B a (w.drewN n) := ⟨h.os, h.tape, h.output, h.size, h.block⟩
theorem Below.seq {w0 w w' : World} (h : Below w0.heap.size w0 w) (k : Below w.heap.size w w') : Below w0.heap.size w0 w' := h.trans (k.mono h.size)
theorem bcell {W w1 : World} (hb : Below W.heap.size W w1) : (∀ b o, b < W.heap.size → w1.cell? ⟨b, o, none⟩ = W.cell? ⟨b, o, none⟩) ∧ (∀ b o, b < W.heap.size → w1.frozen? ⟨b, o, none⟩ = W.frozen? ⟨b, o, none⟩) :=
  ⟨fun b o h => hb.cell (p := ⟨b, o, none⟩) h, fun b o h => hb.frozen (p := ⟨b, o, none⟩) h⟩
theorem Bs.len {w : World} {a : Option Addr} {n cap : Nat} {l : List UInt8} (h : Bs w a n cap l) : l.length = n := by have := h.1; simpa using this
theorem Bs.cap {w : World} {a : Option Addr} {n cap : Nat} {l : List UInt8} (h : Bs w a n cap l) : n ≤ cap := h.2.1
theorem Bs.max {w : World} {a : Option Addr} {n cap : Nat} {l : List UInt8} (h : Bs w a n cap l) : cap ≤ 9223372036854775807 := h.2.2.1
theorem Cs.at {w : World} {a : Option Addr} {xs : List Value} (h : Cs w a xs) (k : Nat) (v : Value) (hk : xs[k]? = some v) :
    ∃ b off, a = some ⟨b, off, none⟩ ∧ w.cell? ⟨b, off + k, none⟩ = some v := by
  obtain ⟨⟨b, off, sp⟩, rfl, hc⟩ := h k v hk
  by_cases h0 : k = 0
  · subst h0
    have hs : sp = none := by
      simp only [Addr.add, if_true] at hc
      simpa using World.cell?_spot hc
    subst hs
    exact ⟨b, off, rfl, by simpa [Addr.add] using hc⟩
  · have h0' : xs[0]?.isSome = true := by
      have hl : k < xs.length := (List.getElem?_eq_some_iff.1 hk).1
      simp; omega
    obtain ⟨v0, hv0⟩ := Option.isSome_iff_exists.1 h0'
    obtain ⟨x, hx, hc0⟩ := h 0 v0 hv0
    cases hx
    have hs : sp = none := by
      simp only [Addr.add, if_true] at hc0
      simpa using World.cell?_spot hc0
    subst hs
    exact ⟨b, off, rfl, by simpa [Addr.add, h0] using hc⟩
/-- the byte number k of a slice: where it lies -/
theorem Bs.at {w : World} {a : Option Addr} {n cap : Nat} {l : List UInt8} (h : Bs w a n cap l) (k : Nat) (hk : k < n) :
    ∃ b off, a = some ⟨b, off, none⟩ ∧ w.cell? ⟨b, off + k, none⟩ = some (.int .u8 ((l.getD k 0).toNat : Int)) := by
  refine h.2.2.2.1.at k _ ?_
  have hl := h.len
  have : k < l.length := by omega
  simp [List.getD, List.getElem?_eq_getElem this, u8v]

theorem length_bytes (l : List UInt8) : (l.map u8v).length = l.length * 1 := by simp
theorem bytes_oneCell (l : List UInt8) : ∀ u ∈ l.map u8v, u.oneCell' = true := by
  intro u hu
  obtain ⟨_, _, rfl⟩ := List.mem_map.1 hu
  rfl
/-- what is owned is there -/
theorem own_isSl {w : World} {base : Nat} {e : TypeId} {sz : Nat} {a : Option Addr} {n c : Nat} {xs : List Value} (h : w.ownsRow base e sz (.slice a n c) n xs) : IsSl w sz a n c xs := by
  obtain ⟨hl, h⟩ := h
  rcases h with ⟨hv, h0⟩ | ⟨g, cap, cur, hv, hb, hh, hn, hm, hs, ht⟩
  · simp only [Value.slice.injEq] at hv
    obtain ⟨rfl, rfl, rfl⟩ := hv
    have : xs = [] := List.eq_nil_of_length_eq_zero (by simpa using hl)
    subst this
    exact ⟨by simp, Nat.le_refl _, by unfold maxLen; omega, fun j v hj => by simp at hj, fun _ => ⟨rfl, rfl⟩⟩
  · simp only [Value.slice.injEq, true_and] at hv
    obtain ⟨rfl, rfl⟩ := hv
    refine ⟨hl, hn, hm, fun j v hj => ⟨_, rfl, ?_⟩, fun h => by cases h⟩
    rw [Addr.add_lit]
    simp only [World.cell?, hh, Nat.zero_add]
    rw [← ht] at hj
    have hj' := hj
    rw [List.getElem?_take] at hj'
    split at hj'
    · simpa using hj'
    · cases hj'
theorem own_slice {w : World} {base : Nat} {e : TypeId} {sz : Nat} {v : Value} {n : Nat} {xs : List Value} (h : w.ownsRow base e sz v n xs) : ∃ a c, v = .slice a n c := by
  obtain ⟨_, h⟩ := h
  rcases h with ⟨hv, h0⟩ | ⟨g, cap, cur, hv, _⟩
  · exact ⟨none, 0, by rw [hv, h0]⟩
  · exact ⟨_, _, hv⟩
/-- a new block of cells as a slice -/
theorem isSl_new (w : World) (e : TypeId) (sz n : Nat) (cs : Array Value) (h : cs.size = n * sz) (hm : n ≤ maxLen) : IsSl (w.alloc (.cells cs e)) sz (some ⟨w.heap.size, 0, none⟩) n n cs.toList := by
  refine ⟨by simpa using h, Nat.le_refl _, hm, fun j v hj => ⟨_, rfl, ?_⟩, fun h => by cases h⟩
  rw [Addr.add_lit, Nat.zero_add, World.cell?_alloc_new]
  simpa using hj
theorem isSl_mark (w : World) (e : TypeId) (sz n : Nat) (cs : Array Value) (fr : Nat × Nat) (h : cs.size = n * sz) (hm : n ≤ maxLen) : IsSl (w.alloc (.cells cs e fr)) sz (some ⟨w.heap.size, 0, none⟩) n n cs.toList := by
  refine ⟨by simpa using h, Nat.le_refl _, hm, fun j v hj => ⟨_, rfl, ?_⟩, fun h => by cases h⟩
  rw [Addr.add_lit, Nat.zero_add, World.cell?_alloc_mark]
  simpa using hj
theorem below_app {B base : Nat} {w0 w w' : World} {e : TypeId} {sz : Nat} {v : Value} {n : Nat} {xs : List Value} (h : Below B w0 w) (ho : w.ownsRow base e sz v n xs) (hg : w.grownBy w' v.ownBlock) (h1 : B ≤ base) (h2 : B ≤ w.heap.size) : Below B w0 w' :=
  h.grown hg h2 fun k hk => by have := (ho.lt k hk).1; omega
section laws
variable {P : Program} {ops : Array Oper} {rest : List Oper} {o : Oper} {a : Act} {w : World} {Q : Exit → Act → World → Prop}
/-- an operation that ends in a value -/
theorem wpList_value (hg : o.guard = none) (v : Value) (w' : World) (h : (execOp a.eval o).run P w = .ok (.value v) w')
    (hk : wpList P ops Q rest (a.put o.dst v) w') : wpList P ops Q (o :: rest) a w :=
  wpList_plain hg fun K hK => by unfold Oper.wp; rw [h]; exact hK _ _ hk
/-- append onto a slice that the call owns, whatever the source -/
theorem wpList_app (hgd : o.guard = none) (s x : Operand) (t : TypeId) (ho : o.op = .call { callee := .builtin .append, args := #[s, x], argTypes := #[t, t] })
    (base : Nat) (e : TypeId) (z : Value) (sz bytes : Nat) (ht : P.underlying t = some (.slice e)) (hi : (P.info? e).map (fun i => (i.zero, i.size, i.bytes)) = some (some z, sz, bytes))
    (hzs : z.cells.size = sz) (hsz : 0 < sz) (hb0 : 0 < bytes) {a1 : Option Addr} {n c1 : Nat} {xs : List Value} (hs : a.eval s = .slice a1 n c1) (hown : w.ownsRow base e sz (.slice a1 n c1) n xs)
    {a2 : Option Addr} {m c2 : Nat} {news : List Value} (hx : a.eval x = .slice a2 m c2) (hsrc : IsSl w sz a2 m c2 news) (h1 : ∀ u ∈ news, u.oneCell' = true)
    (hbytes : (n + m) * bytes ≤ 140737488355328) (hbase : base ≤ w.heap.size)
    (h : ∀ a' c' w', w'.ownsRow base e sz (.slice a' (n + m) c') (n + m) (xs ++ news) → w.grownBy w' (Value.slice a1 n c1).ownBlock → wpList P ops Q rest (a.put o.dst (.slice a' (n + m) c')) w') :
    wpList P ops Q (o :: rest) a w := by
  obtain ⟨i, hi, hz0, hz1, hz2⟩ := info_parts hi
  cases a2 with
  | none =>
    obtain ⟨rfl, rfl⟩ := hsrc.2.2.2.2 rfl
    have hnews : news = [] := List.eq_nil_of_length_eq_zero (by simpa using hsrc.1)
    subst hnews
    refine wpList_plain hgd fun K hK' => ?_
    have hrun := run_append_owned_none (P := P) w base t o.type e i sz ht hi _ n xs hown
    unfold Oper.wp
    simp [execOp, ho, resolve, invoke, builtin, hs, hx, hrun, Result.andThen]
    exact hK' _ _ (by simpa using h a1 c1 w (by simpa using hown) (World.grownBy.refl _ _))
  | some ad =>
    have hle : n + m ≤ (n + m) * bytes := Nat.le_mul_of_pos_right _ hb0
    refine wpList_append_own w hgd s x t ho base e i z sz bytes ht hi hz0 hz1 hz2 hzs hsz _ n xs hs hown ad m c2 news hx hsrc.1 (fun j u hj => ?_) h1 (by unfold maxLen; omega) hbytes hbase (fun v' w' h2 h3 _ => ?_)
    · obtain ⟨x, hx, hc⟩ := hsrc.2.2.2.1 j u hj
      cases hx
      exact hc
    · obtain ⟨a', c', rfl⟩ := own_slice h2
      exact h a' c' w' h2 h3
/-- string(b), b a slice of bytes -/
theorem wpList_str_of_bs (hgd : o.guard = none) (src dst : TypeId) (x : Operand) (ho : o.op = .convert src dst x) {e : TypeId} (hs : P.underlying src = some (.slice e)) (he : P.underlying e = some (.int .u8)) (hd : P.underlying dst = some .string)
    {ao : Option Addr} {n c : Nat} {l : List UInt8} (hx : a.eval x = .slice ao n c) (hb : Bs w ao n c l) (h : wpList P ops Q rest (a.put o.dst (.string ⟨l.toArray⟩)) w) : wpList P ops Q (o :: rest) a w := by
  refine wpList_value hgd (.string ⟨l.toArray⟩) w ?_ h
  have hr : (convert src dst (.slice ao n c)).run P w = .ok (.string ⟨l.toArray⟩) w := by
    cases ao with
    | none =>
      obtain ⟨rfl, rfl⟩ := hb.2.2.2.2 rfl
      have : l = [] := List.eq_nil_of_length_eq_zero hb.len
      subst this
      exact run_convert_bytes_nil w src e hs he 0 0 dst hd
    | some ad =>
      obtain rfl := hb.len
      exact run_convert_bytes_back w src dst e ad c l hs he hd (fun j hj => by
        obtain ⟨x, hx, hc⟩ := hb.2.2.2.1 j (u8v l[j]) (by simp [List.getElem?_eq_getElem hj])
        cases hx
        exact hc)
  simp [execOp, ho, hx, hr, Result.andThen]
theorem bytesWorld_keeps (w : World) (e : TypeId) (s : ByteArray) : Keeps w (Lib.bytesWorld w e s) := fun p v hv => by
  rw [Lib.bytesWorld_old w e s p (World.block_lt_of_cell? (w := w) (a := p) hv)]; exact hv
theorem bytesWorld_below (w : World) (e : TypeId) (s : ByteArray) : Below w.heap.size w (Lib.bytesWorld w e s) :=
  ⟨by simp [Lib.bytesWorld, World.freeze]; rfl, by simp [Lib.bytesWorld, World.freeze], by simp [Lib.bytesWorld, World.freeze]; rfl, by rw [Lib.bytesWorld_size]; omega, fun k hk => Lib.bytesWorld_at_old w e s k hk⟩
theorem bytesWorld_bs (w : World) (e : TypeId) (l : List UInt8) (h : l.length ≤ 140737488355328) : Bs (Lib.bytesWorld w e ⟨l.toArray⟩) (some ⟨w.heap.size, 0, none⟩) l.length (grownCap w l.length 0 e) l := by
  refine ⟨by simp, grownCap_ge w _ 0 e, grownCap_le_maxLen w _ 0 e (by unfold maxLen; omega), fun j v hj => ⟨_, rfl, ?_⟩, fun h => by cases h⟩
  rw [Addr.add_lit, Nat.zero_add]
  have hjl : j < l.length := by have := (List.getElem?_eq_some_iff.1 hj).1; simpa using this
  rw [Lib.bytesWorld_cell w e ⟨l.toArray⟩ j (by simpa [ByteArray.size] using hjl)]
  simp [List.getElem?_eq_getElem hjl] at hj
  subst hj
  simp [List.getD, List.getElem?_eq_getElem hjl, u8v]
/-- []byte(s) -/
theorem wpList_bs_of_str (hgd : o.guard = none) (src dst : TypeId) (x : Operand) (ho : o.op = .convert src dst x) {e : TypeId} (hs : P.underlying src = some .string) (hd : P.underlying dst = some (.slice e)) (he : P.underlying e = some (.int .u8))
    {l : List UInt8} (hx : a.eval x = .string ⟨l.toArray⟩) (hl : l.length ≤ 140737488355328)
    (h : ∀ a' c' w', Bs w' a' l.length c' l → Below w.heap.size w w' → wpList P ops Q rest (a.put o.dst (.slice a' l.length c')) w') : wpList P ops Q (o :: rest) a w := by
  have hr := Lib.run_convert_string_bytes (P := P) w src dst e ⟨l.toArray⟩ hs hd he
  refine wpList_value hgd _ _ ?_ (h _ _ _ (bytesWorld_bs w e l hl) (bytesWorld_below w e _))
  simp [execOp, ho, hx, hr, Result.andThen, ByteArray.size]
/-- x[lo:hi] of a slice of bytes; no bound: 'none' -/
theorem bs_cut {w : World} {ao : Option Addr} {n c : Nat} {l : List UInt8} (hb : Bs w ao n c l) (lo hi : Nat) (h1 : lo ≤ hi) (h2 : hi ≤ n) : Bs w (if c = lo then ao else ao.map (·.add (lo * 1))) (hi - lo) (c - lo) ((l.take hi).drop lo) := by
  have hl := hb.len; have hc := hb.cap; have hm := hb.max
  refine ⟨by simp; omega, by omega, by unfold maxLen; omega, fun j v hj => ?_, fun hn => ?_⟩
  · simp only [List.map_drop, List.map_take, List.getElem?_drop, List.getElem?_take] at hj
    split at hj
    · rename_i hlt
      obtain ⟨x, hx, hcell⟩ := hb.2.2.2.1 (lo + j) v hj
      subst hx
      have hne : ¬ c = lo := by omega
      rw [if_neg hne]
      refine ⟨x.add (lo * 1), rfl, ?_⟩
      rw [Go.Deep.add_add, Nat.mul_one]
      exact hcell
    · cases hj
  · split at hn
    · obtain ⟨h3, h4⟩ := hb.2.2.2.2 hn; omega
    · have : ao = none := by cases ao <;> simp_all
      obtain ⟨h3, h4⟩ := hb.2.2.2.2 this; omega
theorem wpList_slice_bs (hgd : o.guard = none) (t : TypeId) (x : Operand) (lo hi : Option Operand) (ho : o.op = .slice t x lo hi none) {e : TypeId} (ht : P.underlying t = some (.slice e)) (hsz : (P.info? e).map (·.size) = some 1)
    {ao : Option Addr} {n c : Nat} {l : List UInt8} (hx : a.eval x = .slice ao n c) (hb : Bs w ao n c l) (L M : Nat) (k1 k2 : IntKind)
    (hL : match lo with | some p => a.eval p = .int k1 (L : Int) | none => L = 0) (hM : match hi with | some p => a.eval p = .int k2 (M : Int) | none => M = n) (h1 : L ≤ M) (h2 : M ≤ n)
    (h : ∀ a', Bs w a' (M - L) (c - L) ((l.take M).drop L) → wpList P ops Q rest (a.put o.dst (.slice a' (M - L) (c - L))) w) : wpList P ops Q (o :: rest) a w := by
  have hcap := hb.cap
  refine wpList_value hgd _ _ ?_ (h _ (bs_cut hb L M h1 h2))
  obtain ⟨i, hi', hs'⟩ := Option.map_eq_some_iff.1 hsz
  have e1 : (L : Int) ≤ M := by omega
  have e2 : (M : Int) ≤ c := by omega
  have e3 : (n : Int) ≤ c := by omega
  have e4 : (L : Int) ≤ n := by omega
  have f2 : M ≤ c := by omega
  have f4 : L ≤ n := by omega
  cases lo <;> cases hi <;> simp only at hL hM
  all_goals first | subst hL | skip
  all_goals first | subst hM | skip
  all_goals simp [execOp, Instr.sliceAt, Instr.slice, Instr.sliceBounds, Instr.sliceBound, run_underlying ht, sizeOf, typeInfo, asIntOf, Result.andThen, *]
end laws
theorem flat_at {α : Type} {f : α → List Value} {sz : Nat} (hf : ∀ x, (f x).length = sz) : ∀ (l : List α) (k j : Nat) (hk : k < l.length), j < sz → (l.flatMap f)[k * sz + j]? = (f l[k])[j]?
  | [], k, j, hk, _ => by simp at hk
  | x :: l, 0, j, _, hj => by simp [List.flatMap_cons, List.getElem?_append_left, hf x, hj]
  | x :: l, k + 1, j, hk, hj => by
    have ih := flat_at hf l k j (by simpa using hk) hj
    rw [List.flatMap_cons, List.getElem?_append_right (by rw [hf x, Nat.add_mul]; omega), hf x]
    have e : (k + 1) * sz + j - sz = k * sz + j := by rw [Nat.add_mul]; omega
    rw [e, ih]
    rfl
theorem flat_len {α : Type} {f : α → List Value} {sz : Nat} (hf : ∀ x, (f x).length = sz) (l : List α) : (l.flatMap f).length = l.length * sz := by
  induction l with
  | nil => simp
  | cons x l ih => rw [List.flatMap_cons, List.length_append, hf x, ih, List.length_cons, Nat.add_mul]; omega
theorem ret_int {k : IntKind} {a b : Int} (h : a = b) : Ending.returned (.int k a) = .returned (.int k b) := by rw [h]
theorem ret_bool {a b : Bool} (h : a = b) : Ending.returned (.bool a) = .returned (.bool b) := by rw [h]
theorem ret_str {a b : ByteArray} (h : a = b) : Ending.returned (.string a) = .returned (.string b) := by rw [h]
theorem beq_t {α : Type} [BEq α] [LawfulBEq α] {a b : α} (h : a = b) : (a == b) = true := by simp [h]
theorem beq_f {α : Type} [BEq α] [LawfulBEq α] {a b : α} (h : ¬ a = b) : (a == b) = false := by simp [h]
theorem bne_t {α : Type} [BEq α] [LawfulBEq α] {a b : α} (h : ¬ a = b) : (a != b) = true := by simp [h]
theorem bne_f {α : Type} [BEq α] [LawfulBEq α] {a b : α} (h : a = b) : (a != b) = false := by simp [h]
theorem dec_t {p : Prop} [Decidable p] (h : p) : decide p = true := by simp [h]
theorem dec_f {p : Prop} [Decidable p] (h : ¬ p) : decide p = false := by simp [h]
theorem list_ext_getD {l m : List UInt8} (h : l.length = m.length) (hk : ∀ k, k < l.length → l.getD k 0 = m.getD k 0) : l = m := by
  apply List.ext_getElem h
  intro i h1 h2
  have := hk i h1
  simpa [List.getD, List.getElem?_eq_getElem h1, List.getElem?_eq_getElem h2] using this
/-- the byte number k of a string -/
theorem str_at (l : List UInt8) (k : Nat) (h : k < l.length) : (⟨l.toArray⟩ : ByteArray)[k]'(by simpa [ByteArray.size] using h) = l.getD k 0 := by
  simp [ByteArray.getElem_eq_getElem_data, List.getD, List.getElem?_eq_getElem h]
theorem u8_lt (b : UInt8) : (b.toNat : Int) < 256 := by have := b.toNat_lt; omega
end Go.Proofs.YtamgiffkhnfpmaaDoor
namespace Go.Proofs.YtamgiffkhnfpmaaDoor
set_option linter.unusedVariables false
set_option linter.unusedSimpArgs false
open Go.ChangeShapes Go.WideShapes Go.ChangeAt Go.RowKit
open Go.ChangeMaps (open_string shut_string)
section
variable {H : Type} {enc : TypeId × Value → H} {P : Program} {w : World} {base : Nat}
/-- what the form's reach says of a datum -/
def Sized (P : Program) (t : TypeId) (d : DataW H) : Prop := ∀ m ∈ d.weights P t, m ≤ reachBytes
theorem sized_of {ts : List TypeId} {ds : List (DataW H)} (h : (DataW.weightsEach P ts ds).all (· ≤ reachBytes) = true) (j : Nat) {t : TypeId} {d : DataW H} (ht : ts[j]? = some t) (hd : ds[j]? = some d) : Sized P t d :=
  fun m hm => by simpa using List.all_eq_true.1 h _ (DataW.weights_mem_each ht hd m hm)
theorem wf_u8 {z : Int} (h : (Lit.int .u8 z).wf = true) : 0 ≤ z ∧ z < 256 := by
  have := bounds_u8 h
  omega
theorem wf_i64 {z : Int} (h : (Lit.int .i64 z).wf = true) : -9223372036854775808 ≤ z ∧ z < 9223372036854775808 := by
  have := bounds_i64 h
  omega
def toU8 (z : Int) : UInt8 := UInt8.ofNat z.toNat
theorem u8v_toU8 {z : Int} (h0 : 0 ≤ z) (h1 : z < 256) : u8v (toU8 z) = .int .u8 z := by
  have : ((UInt8.ofNat z.toNat).toNat : Int) = z := by rw [UInt8.toNat_ofNat']; omega
  simp only [u8v, toU8, this]
theorem open_bytes_trod {t e : TypeId} {a : Option Addr} {n c fuel : Nat} {v : Value} {d : DataW H} {p : List MemPlace} (ht : P.underlying t = some (.slice e)) (he : P.underlying e = some (.int .u8)) (hc : P.cellsOf e = 1) (hby : P.bytesOf e = 1)
    {_hv : v = .slice a n c} (hf : DataW.trod enc P w 0 (fun _ => true) true fuel t [v] = some (d, p)) (hs : Sized P t d) :
    ∃ a n c l, v = .slice a n c ∧ Bs w a n c l ∧ c ≤ 140737488351232 := by
  subst _hv
  rcases open_ints ht he hc hf with ⟨hcs, _⟩ | ⟨x, l, c', zs, hcs, _, hl, hm, hz, hx, hcell, hwz⟩
  · simp [Value.cells] at hcs
    obtain ⟨rfl, rfl, rfl⟩ := hcs
    exact ⟨none, 0, 0, [], rfl, ⟨rfl, Nat.le_refl _, by decide, fun j v hj => by simp at hj, fun _ => ⟨rfl, rfl⟩⟩, by omega⟩
  · simp [Value.cells] at hcs
    obtain ⟨rfl, rfl, rfl⟩ := hcs
    simp only [if_true] at hz
    simp only [Prod.mk.injEq] at hx
    obtain ⟨rfl, rfl⟩ := hx
    have hreach : c ≤ 140737488351232 := by
      have := hs ((lits IntKind.u8 (zs.take n)).length + (lits IntKind.u8 (zs.drop n)).length) (by simp only [DataW.weights, ht, hby, Nat.mul_one]; exact List.mem_cons_self)
      simp only [lits, List.length_map, List.length_take, List.length_drop, reachBytes] at this
      omega
    refine ⟨some x, n, c, (zs.take n).map toU8, rfl, ⟨by simp; omega, hl, hm, fun j v hj => ⟨x, rfl, ?_⟩, fun h => by cases h⟩, hreach⟩
    simp only [List.map_map, List.getElem?_map, Option.map_eq_some_iff, List.getElem?_take] at hj
    obtain ⟨z, hzj, rfl⟩ := hj
    split at hzj
    · have hjl : j < zs.length := (List.getElem?_eq_some_iff.1 hzj).1
      have hmem : z ∈ zs := List.mem_of_getElem? hzj
      obtain ⟨w0, w1⟩ := wf_u8 (hwz z hmem)
      have := hcell j hjl
      simp only [List.getD, hzj, Option.getD_some] at this
      simp only [Function.comp, u8v_toU8 w0 w1]
      exact this
    · cases hzj
/-- an argument of bytes -/
theorem open_bytes {t e : TypeId} {v : Value} {d : DataW H} {p : List MemPlace} {r : Reach} {b0 : Nat} (ht : P.underlying t = some (.slice e)) (he : P.underlying e = some (.int .u8)) (hc : P.cellsOf e = 1) (hby : P.bytesOf e = 1)
    (hv : Value.okWide P w r b0 t v) (h : DataW.Trod enc P w 0 (fun _ => true) true t v d p) (hs : Sized P t d) :
    ∃ a n c l, v = .slice a n c ∧ Bs w a n c l ∧ c ≤ 140737488351232 := by
  obtain ⟨a, n, c, rfl⟩ := okWide_slice ht hv
  obtain ⟨fuel, hf⟩ := h
  exact open_bytes_trod (_hv := rfl) ht he hc hby hf hs
/-- an argument that is a string -/
theorem open_str {t : TypeId} {v : Value} {d : DataW H} {p : List MemPlace} {r : Reach} {b0 : Nat} (ht : P.underlying t = some .string) (hv : Value.okWide P w r b0 t v) (h : DataW.Trod enc P w 0 (fun _ => true) true t v d p) (hs : Sized P t d) :
    ∃ l : List UInt8, v = .string ⟨l.toArray⟩ ∧ l.length ≤ 140737488351232 := by
  obtain ⟨s, rfl, rfl, rfl, hm⟩ := open_string ht hv h
  refine ⟨s.data.toList, rfl, ?_⟩
  have := hs s.data.toList.length (by simp only [DataW.weights]; exact List.mem_cons_self)
  simpa only [reachBytes] using this
/-- an argument that is an int -/
theorem open_i64 {t : TypeId} {v : Value} {d : DataW H} {p : List MemPlace} {r : Reach} {b0 : Nat} (ht : P.underlying t = some (.int .i64)) (hv : Value.okWide P w r b0 t v) (h : DataW.Trod enc P w 0 (fun _ => true) true t v d p) :
    ∃ z, v = .int .i64 z ∧ -9223372036854775808 ≤ z ∧ z < 9223372036854775808 := by
  obtain ⟨z, rfl, rfl, rfl, hz⟩ := open_int ht hv h
  exact ⟨z, rfl, wf_i64 hz⟩
/-- an argument that is a byte -/
theorem open_u8 {t : TypeId} {v : Value} {d : DataW H} {p : List MemPlace} {r : Reach} {b0 : Nat} (ht : P.underlying t = some (.int .u8)) (hv : Value.okWide P w r b0 t v) (h : DataW.Trod enc P w 0 (fun _ => true) true t v d p) :
    ∃ b : UInt8, v = u8v b := by
  obtain ⟨z, rfl, rfl, rfl, hz⟩ := open_int ht hv h
  obtain ⟨h0, h1⟩ := wf_u8 hz
  exact ⟨toU8 z, (u8v_toU8 h0 h1).symm⟩
theorem weightsAll_mem {e : TypeId} : ∀ {ds : List (DataW H)} {d : DataW H}, d ∈ ds → ∀ m ∈ d.weights P e, m ∈ DataW.weightsAll P e ds
  | d0 :: ds, d, hd, m, hm => by
    simp only [DataW.weightsAll, List.mem_append]
    rcases List.mem_cons.1 hd with rfl | hd
    · exact Or.inl hm
    · exact Or.inr (weightsAll_mem hd m hm)
/-- an argument that is a slice of a type whose reading is known: rows of cells 'f x' with 'Q x' each -/
theorem open_rows {α : Type} [Inhabited α] {t e : TypeId} {sz by_ : Nat} {f : α → List Value} {Q : α → Prop} {v : Value} {d : DataW H} {p : List MemPlace} {r : Reach} {b0 : Nat} (ht : P.underlying t = some (.slice e)) (hc : P.cellsOf e = sz) (hby : P.bytesOf e = by_)
    (hsz : ∀ x, (f x).length = sz) (hr : ∀ fuel cs d p, DataW.trod enc P w 0 (fun _ => true) true fuel e cs = some (d, p) → Sized P e d → ∃ x, cs = f x ∧ Q x)
    (hv : Value.okWide P w r b0 t v) (h : DataW.Trod enc P w 0 (fun _ => true) true t v d p) (hs : Sized P t d) :
    ∃ (a : Option Addr) (n c : Nat) (l : List α), v = .slice a n c ∧ IsSl w sz a n c (l.flatMap f) ∧ (∀ x ∈ l, Q x) ∧ c * by_ ≤ 140737488351232 := by
  obtain ⟨a, n, c, rfl⟩ := okWide_slice ht hv
  obtain ⟨fuel, hf⟩ := h
  rcases Go.Deep.open_slice ht hf with ⟨hcs, _⟩ | ⟨x, l, c', m, k, D, Pl, hcs, _, hl, hm, hmm, hx, hi⟩
  · simp [Value.cells] at hcs
    obtain ⟨rfl, rfl, rfl⟩ := hcs
    exact ⟨none, 0, 0, [], rfl, ⟨by simp, Nat.le_refl _, by decide, fun j v hj => by simp at hj, fun _ => ⟨rfl, rfl⟩⟩, by simp, by omega⟩
  · simp [Value.cells] at hcs
    obtain ⟨rfl, rfl, rfl⟩ := hcs
    simp only [if_true] at hmm
    subst hmm
    simp only [Prod.mk.injEq] at hx
    obtain ⟨rfl, rfl⟩ := hx
    have hreach : m * by_ ≤ 140737488351232 := by
      have := hs ((((List.range n).map D).length + ((List.range (m - n)).map fun j => D (n + j)).length) * P.bytesOf e) (by simp only [DataW.weights, ht]; exact List.mem_cons_self)
      simp only [List.length_map, List.length_range, reachBytes, hby] at this
      rwa [show n + (m - n) = m by omega] at this
    have hel : ∀ i, ∃ y : α, i < n → (∀ j v, (f y)[j]? = some v → w.cell? ((x.add (i * sz)).add j) = some v) ∧ Q y := by
      intro i
      by_cases hin : i < n
      · obtain ⟨cs, hcell, htr⟩ := hi i (by omega)
        have hsd : Sized P e (D i) := fun m' hm' => hs m' (by
          simp only [DataW.weights, ht]
          refine List.mem_cons_of_mem _ (List.mem_append.2 (Or.inl ?_))
          exact weightsAll_mem (List.mem_map.2 ⟨i, List.mem_range.2 hin, rfl⟩) _ hm')
        obtain ⟨y, rfl, hq⟩ := hr _ _ _ _ htr hsd
        obtain ⟨_, hlen, hat⟩ := World.cells?_some hcell
        rw [hc] at hat hlen
        refine ⟨y, fun _ => ⟨fun j v hj => ?_, hq⟩⟩
        have hjl : j < sz := by have := (List.getElem?_eq_some_iff.1 hj).1; omega
        rw [hat j hjl]; exact hj
      · exact ⟨default, fun h => absurd h hin⟩
    obtain ⟨g, hg⟩ := Classical.skolem.1 hel
    refine ⟨some x, n, m, (List.range n).map g, rfl, ⟨by rw [flat_len hsz]; simp, hl, hm, fun j v hj => ⟨x, rfl, ?_⟩, fun h => by cases h⟩, ?_, hreach⟩
    · have hjl : j < n * sz := by
        have := (List.getElem?_eq_some_iff.1 hj).1
        rw [flat_len hsz] at this; simpa using this
      have hsz0 : 0 < sz := by
        rcases Nat.eq_zero_or_pos sz with h0 | h0
        · subst h0; simp at hjl
        · exact h0
      have hd : j / sz < n := (Nat.div_lt_iff_lt_mul hsz0).2 hjl
      have hmod : j % sz < sz := Nat.mod_lt _ hsz0
      have hdm : j / sz * sz + j % sz = j := by rw [Nat.mul_comm]; exact Nat.div_add_mod j sz
      have hfl := flat_at hsz ((List.range n).map g) (j / sz) (j % sz) (by simpa using hd) hmod
      rw [hdm] at hfl
      rw [hfl] at hj
      have e : ((List.range n).map g)[j / sz]'(by simpa using hd) = g (j / sz) := by simp
      rw [e] at hj
      have := (hg (j / sz) hd).1 _ _ hj
      rw [Go.Deep.add_add, hdm] at this
      exact this
    · intro y hy
      obtain ⟨i, hi, rfl⟩ := List.mem_map.1 hy
      exact (hg i (List.mem_range.1 hi)).2
end
end Go.Proofs.YtamgiffkhnfpmaaDoor
namespace Go.Proofs.YtamgiffkhnfpmaaDoor
set_option linter.unusedVariables false
set_option linter.unusedSimpArgs false
open Go.Lib
def isDig (c : UInt8) : Bool := decide (48 ≤ c.toNat ∧ c.toNat ≤ 57)
theorem isDig_iff (c : UInt8) : isDig c = true ↔ 48 ≤ c.toNat ∧ c.toNat ≤ 57 := by simp [isDig]
/-- the number that digits say, behind the number v -/
def decAcc (v : Nat) (l : List UInt8) : Nat := l.foldl (fun v c => v * 10 + (c.toNat - 48)) v
theorem decAcc_cons (v : Nat) (c : UInt8) (l : List UInt8) : decAcc v (c :: l) = decAcc (v * 10 + (c.toNat - 48)) l := by simp only [decAcc, List.foldl_cons]
theorem decAcc_nil (v : Nat) : decAcc v [] = v := by simp only [decAcc, List.foldl_nil]
theorem decAcc_app (v : Nat) (a b : List UInt8) : decAcc v (a ++ b) = decAcc (decAcc v a) b := by simp [decAcc, List.foldl_append]
theorem decAcc_one (v : Nat) (a : List UInt8) (c : UInt8) : decAcc v (a ++ [c]) = decAcc v a * 10 + (c.toNat - 48) := by rw [decAcc_app, decAcc_cons, decAcc_nil]
theorem decAcc_le : ∀ (l : List UInt8) (v : Nat), v ≤ decAcc v l
  | [], v => by rw [decAcc_nil]; exact Nat.le_refl v
  | c :: l, v => by rw [decAcc_cons]; have := decAcc_le l (v * 10 + (c.toNat - 48)); omega
theorem parseUintM_digits (M : Nat) (hM : M = 18446744073709551615) (l : List UInt8) : ∀ (acc : Nat), l.all isDig = true → acc ≤ M → parseUintM M acc l = if decAcc acc l ≤ M then .ok (decAcc acc l) else .range := by
  induction l with
  | nil =>
    intro acc _ h
    rw [parseUintM, decAcc_nil, if_pos h]
  | cons c l ih =>
    intro acc hd h
    rw [List.all_cons, Bool.and_eq_true, isDig_iff] at hd
    have hle := decAcc_le l (acc * 10 + (c.toNat - 48))
    rw [parseUintM, if_pos hd.1, decAcc_cons]
    by_cases h1 : 1844674407370955162 ≤ acc
    · rw [if_pos h1, if_neg (by omega)]
    · rw [if_neg h1]
      by_cases h2 : M < acc * 10 + (c.toNat - 48)
      · rw [if_pos h2, if_neg (by omega)]
      · rw [if_neg h2]
        exact ih _ hd.2 (by omega)
theorem parseIntB_digits (l : List UInt8) (hne : l ≠ []) (hd : l.all isDig = true) :
    parseIntB 64 l = if decAcc 0 l ≤ 9223372036854775807 then .ok ((decAcc 0 l : Nat) : Int) else .range := by
  cases l with
  | nil => exact absurd rfl hne
  | cons c r =>
    have hc := hd
    rw [List.all_cons, Bool.and_eq_true, isDig_iff] at hc
    have n1 : ¬ (c.toNat = 43 ∨ c.toNat = 45) := by omega
    have n2 : ¬ c.toNat = 45 := by omega
    have hu : parseUintB 64 (c :: r) = if decAcc 0 (c :: r) ≤ 18446744073709551615 then .ok (decAcc 0 (c :: r)) else .range := by
      rw [parseUintB, if_neg (by simp)]
      exact parseUintM_digits (2 ^ 64 - 1) (by decide) (c :: r) 0 hd (Nat.zero_le _)
    unfold parseIntB
    simp only [if_neg n1, hu]
    by_cases h1 : decAcc 0 (c :: r) ≤ 18446744073709551615
    · simp only [if_pos h1]
      by_cases h2 : decAcc 0 (c :: r) ≤ 9223372036854775807
      · rw [if_pos h2, if_neg (by omega), if_neg (by omega), if_neg n2]
      · rw [if_neg h2, if_pos (by omega)]
    · simp only [if_neg h1]
      rw [if_neg (by omega)]
/-- the document's answer: the number that a decimal text says, and the error's number -/
def Plain.decimal (l : List UInt8) : Int × Int :=
  if l = [] ∨ (l.getD 0 0 = 48 ∧ 1 < l.length) ∨ l.all isDig = false then (0, 10)
  else if decAcc 0 l ≤ 9223372036854775807 then (((decAcc 0 l : Nat) : Int), 0) else (0, 11)
theorem decDigits_all : ∀ u : Nat, (decDigits u).all isDig = true := by
  intro u
  induction u using Nat.strongRecOn with
  | ind u ih =>
    rw [decDigits]
    by_cases h : u < 10
    · rw [dif_pos h]
      have e : (UInt8.ofNat (48 + u)).toNat = 48 + u := by simp; omega
      simp only [List.all_cons, List.all_nil, Bool.and_true, isDig_iff, e]; omega
    · rw [dif_neg h, List.all_append, ih (u / 10) (by omega)]
      have e : (UInt8.ofNat (48 + u % 10)).toNat = 48 + u % 10 := by simp; omega
      simp only [List.all_cons, List.all_nil, Bool.and_true, Bool.true_and, isDig_iff, e]; omega
theorem decAcc_decDigits : ∀ u : Nat, decAcc 0 (decDigits u) = u := by
  intro u
  induction u using Nat.strongRecOn with
  | ind u ih =>
    rw [decDigits]
    by_cases h : u < 10
    · rw [dif_pos h]
      have e : (UInt8.ofNat (48 + u)).toNat = 48 + u := by simp; omega
      rw [decAcc_cons, decAcc_nil, e]; omega
    · have e : (UInt8.ofNat (48 + u % 10)).toNat = 48 + u % 10 := by simp; omega
      rw [dif_neg h, decAcc_one, ih (u / 10) (by omega), e]; omega
theorem decDigits_ne (u : Nat) : decDigits u ≠ [] := by
  rw [decDigits]; split <;> simp
/-- the first digit of a number above 0 is not 0 -/
theorem decDigits_head : ∀ u : Nat, 1 ≤ u → (decDigits u).getD 0 0 ≠ 48 := by
  intro u
  induction u using Nat.strongRecOn with
  | ind u ih =>
    intro h1 h48
    rw [decDigits] at h48
    by_cases h : u < 10
    · rw [dif_pos h] at h48
      have e : (UInt8.ofNat (48 + u)).toNat = 48 + u := by simp; omega
      have h48' : UInt8.ofNat (48 + u) = 48 := h48
      rw [h48'] at e
      have : (48 : UInt8).toNat = 48 := rfl
      omega
    · rw [dif_neg h] at h48
      have hne := decDigits_ne (u / 10)
      have : (decDigits (u / 10) ++ [UInt8.ofNat (48 + u % 10)]).getD 0 0 = (decDigits (u / 10)).getD 0 0 := by
        cases hd : decDigits (u / 10) with
        | nil => exact absurd hd hne
        | cons c r => rfl
      rw [this] at h48
      exact ih (u / 10) (by omega) (by omega) h48
/-- what Show writes of a number not below 0, Decimal reads -/
theorem decimal_itoa (v : Nat) (h : v ≤ 9223372036854775807) : Plain.decimal (itoa (v : Int)) = ((v : Int), 0) := by
  rw [itoa_nonneg]
  unfold Plain.decimal
  have h0 : ¬ (decDigits v = [] ∨ ((decDigits v).getD 0 0 = 48 ∧ 1 < (decDigits v).length) ∨ (decDigits v).all isDig = false) := by
    rintro (hn | ⟨h48, hl⟩ | ha)
    · exact decDigits_ne v hn
    · by_cases hv : 1 ≤ v
      · exact decDigits_head v hv h48
      · obtain rfl : v = 0 := by omega
        rw [decDigits, dif_pos (by omega)] at hl
        simp at hl
    · rw [decDigits_all] at ha; cases ha
  rw [if_neg h0, decAcc_decDigits, if_pos h]
/-- no other text says that number -/
theorem decDigits_decAcc : ∀ (n : Nat) (s : List UInt8), s.length = n → s ≠ [] → s.all isDig = true → s.getD 0 0 ≠ 48 → decDigits (decAcc 0 s) = s ∧ 1 ≤ decAcc 0 s := by
  intro n
  induction n with
  | zero => intro s hl hne; exact absurd (List.eq_nil_of_length_eq_zero hl) hne
  | succ n ih =>
    intro s hl hne hd h48
    obtain ⟨t, c, rfl⟩ : ∃ t c, s = t ++ [c] := ⟨s.dropLast, s.getLast hne, (List.dropLast_concat_getLast hne).symm⟩
    rw [List.all_append, Bool.and_eq_true] at hd
    have hc : 48 ≤ c.toNat ∧ c.toNat ≤ 57 := by simpa [isDig] using hd.2
    rw [decAcc_one]
    by_cases ht : t = []
    · subst ht
      have hc48 : c ≠ 48 := by simpa using h48
      have hcn : c.toNat ≠ 48 := fun h => hc48 (UInt8.toNat_inj.1 h)
      have e : decAcc 0 [] * 10 + (c.toNat - 48) = c.toNat - 48 := by simp [decAcc]
      rw [e, decDigits, dif_pos (by omega), show 48 + (c.toNat - 48) = c.toNat by omega]
      exact ⟨by simp, by omega⟩
    · have hh : t.getD 0 0 ≠ 48 := by
        cases t with
        | nil => exact absurd rfl ht
        | cons x r => simpa using h48
      obtain ⟨h1, h2⟩ := ih t (by simpa using hl) ht hd.1 hh
      rw [decDigits, dif_neg (by omega), show (decAcc 0 t * 10 + (c.toNat - 48)) / 10 = decAcc 0 t by omega, h1,
        show 48 + (decAcc 0 t * 10 + (c.toNat - 48)) % 10 = c.toNat by omega]
      exact ⟨by simp, by omega⟩
theorem itoa_decimal (s : List UInt8) (v : Int) (h : Plain.decimal s = (v, 0)) : itoa v = s := by
  unfold Plain.decimal at h
  split at h
  · cases h
  · rename_i h0
    split at h
    · simp only [Prod.mk.injEq, and_true] at h
      subst h
      rw [itoa_nonneg]
      have hne : s ≠ [] := fun h => h0 (.inl h)
      have hall : s.all isDig = true := by
        cases hs : s.all isDig with
        | true => rfl
        | false => exact absurd (.inr (.inr hs)) h0
      by_cases h48 : s.getD 0 0 = 48
      · have hl : ¬ 1 < s.length := fun hl => h0 (.inr (.inl ⟨h48, hl⟩))
        cases s with
        | nil => exact absurd rfl hne
        | cons c r =>
          have hr : r = [] := List.eq_nil_of_length_eq_zero (by rw [List.length_cons] at hl; omega)
          subst hr
          obtain rfl : c = 48 := by simpa using h48
          decide +kernel
      · exact (decDigits_decAcc _ s rfl hne hall h48).1
    · cases h
/-- a number and an error's number -/
def decV (r : Int × Int) : Value := .tuple #[.int .i64 r.1, .int .i64 r.2]
end Go.Proofs.YtamgiffkhnfpmaaDoor
namespace Go.Proofs.YtamgiffkhnfpmaaDoor
set_option linter.unusedVariables false
set_option linter.unusedSimpArgs false
open Go.ChangeShapes Go.WideShapes Go.ChangeAt Go.RowKit
theorem Plain.decimal_bad (l : List UInt8) (h : l = [] ∨ (l.getD 0 0 = 48 ∧ 1 < l.length) ∨ l.all isDig = false) : Plain.decimal l = (0, 10) := if_pos h
theorem Plain.decimal_good (l : List UInt8) (h : ¬ (l = [] ∨ (l.getD 0 0 = 48 ∧ 1 < l.length) ∨ l.all isDig = false)) (h2 : decAcc 0 l ≤ 9223372036854775807) : Plain.decimal l = (((decAcc 0 l : Nat) : Int), 0) := by
  unfold Plain.decimal; rw [if_neg h, if_pos h2]
theorem Plain.decimal_over (l : List UInt8) (h : ¬ (l = [] ∨ (l.getD 0 0 = 48 ∧ 1 < l.length) ∨ l.all isDig = false)) (h2 : ¬ decAcc 0 l ≤ 9223372036854775807) : Plain.decimal l = (0, 11) := by
  unfold Plain.decimal; rw [if_neg h, if_neg h2]
theorem all_dig_step (l : List UInt8) (k : Nat) (h : k < l.length) (ih : (l.take k).all isDig = true) (hd : 48 ≤ (l.getD k 0).toNat ∧ (l.getD k 0).toNat ≤ 57) : (l.take (k + 1)).all isDig = true := by
  have hg : l.getD k 0 = l[k] := by simp [List.getD, List.getElem?_eq_getElem h]
  have h1 : isDig (l.getD k 0) = true := (isDig_iff _).2 hd
  rw [List.take_succ_eq_append_getElem h, List.all_append, ih, ← hg, List.all_cons, h1]; rfl
theorem all_dig_no (l : List UInt8) (k : Nat) (h : k < l.length) (hd : ¬ (48 ≤ (l.getD k 0).toNat ∧ (l.getD k 0).toNat ≤ 57)) : l.all isDig = false := by
  have hg : l.getD k 0 = l[k] := by simp [List.getD, List.getElem?_eq_getElem h]
  cases ha : l.all isDig with
  | false => rfl
  | true =>
    have := (List.all_eq_true.1 ha) l[k] (List.getElem_mem h)
    rw [isDig_iff, ← hg] at this
    exact absurd this hd
theorem decAcc_step (l : List UInt8) (k : Nat) (h : k < l.length) : decAcc 0 (l.take (k + 1)) = decAcc 0 (l.take k) * 10 + ((l.getD k 0).toNat - 48) := by
  have hg : l.getD k 0 = l[k] := by simp [List.getD, List.getElem?_eq_getElem h]
  rw [List.take_succ_eq_append_getElem h, decAcc_one, hg]
theorem decAcc_take_le (l : List UInt8) (k : Nat) : decAcc 0 (l.take k) ≤ decAcc 0 l := by
  have h := decAcc_app 0 (l.take k) (l.drop k)
  rw [List.take_append_drop] at h
  rw [h]
  exact decAcc_le _ _
theorem dig_at (l : List UInt8) (k : Nat) (h : k < l.length) (ha : l.all isDig = true) : 48 ≤ (l.getD k 0).toNat ∧ (l.getD k 0).toNat ≤ 57 := by
  have hg : l.getD k 0 = l[k] := by simp [List.getD, List.getElem?_eq_getElem h]
  rw [hg, ← isDig_iff]
  exact (List.all_eq_true.1 ha) l[k] (List.getElem_mem h)
/-- how a decimal text is tested at its head -/
theorem head_cases (l : List UInt8) (h : ¬ (l.getD 0 0 = 48 ∧ 1 < l.length)) : (((l.getD 0 0).toNat : Int) == 48) = false ∨ (l.getD 0 0 = 48 ∧ ¬ 1 < (l.length : Int)) := by
  by_cases h1 : l.getD 0 0 = 48
  · exact .inr ⟨h1, fun h2 => h ⟨h1, by omega⟩⟩
  · refine .inl ?_
    rw [beq_eq_false_iff_ne]
    intro h2
    exact h1 (UInt8.toNat_inj.1 (by simpa using (by omega : (l.getD 0 0).toNat = 48)))
theorem head_cases2 (l : List UInt8) (h : ¬ (l.getD 0 0 = 48 ∧ 1 < l.length)) : ¬ 1 < (l.length : Int) ∨ (1 < (l.length : Int) ∧ (((l.getD 0 0).toNat : Int) == 48) = false) := by
  rcases head_cases l h with h1 | h1
  · by_cases h2 : 1 < (l.length : Int)
    · exact .inr ⟨h2, h1⟩
    · exact .inl h2
  · exact .inl h1.2
/-- what strconv.ErrRange holds -/
def ErrIs (w : World) (ev : Value) : Prop := w.cell? ⟨3, 0, none⟩ = some ev ∧ ∃ te pe, ev = .iface te pe
theorem ErrIs.below {w w' : World} {ev : Value} (h : ErrIs w ev) (k : Below w.heap.size w w') : ErrIs w' ev := ⟨Below.keeps k _ _ h.1, h.2⟩
end Go.Proofs.YtamgiffkhnfpmaaDoor
namespace Go.Proofs.YtamgiffkhnfpmaaDoor
set_option linter.unusedVariables false
set_option linter.unusedSimpArgs false
open Go.ChangeShapes Go.WideShapes Go.ChangeAt Go.RowKit
theorem infoU8 : (Tryd.prog.info? 5).map (fun i => (i.zero, i.size, i.bytes)) = some (some (.int .u8 0), 1, 1) := by kernel_rfl
/-- what a call hands back: bytes in new memory -/
def NewBs (w : World) (l : List UInt8) (e : Ending) (w' : World) : Prop :=
  ∃ a n c, e = .returned (.slice a n c) ∧ w'.ownsRow w.heap.size 5 1 (.slice a n c) n (l.map u8v) ∧ Below w.heap.size w w'
theorem own_len {w : World} {base : Nat} {e : TypeId} {v : Value} {n : Nat} {l : List UInt8} (h : w.ownsRow base e 1 v n (l.map u8v)) : l.length = n := by have := h.1; simpa using this
theorem own_bs {w : World} {base : Nat} {e : TypeId} {a : Option Addr} {n c : Nat} {l : List UInt8} (h : w.ownsRow base e 1 (.slice a n c) n (l.map u8v)) : Bs w a n c l := own_isSl h
set_option maxHeartbeats 400000 in
theorem CopyBytes_any (a : Option Addr) (n c : Nat) (x : List UInt8) (w : World) (ha : Bs w a n c x) (hn : n ≤ 140737488355328) :
    Calls Tryd.prog 19 #[.slice a n c] w (NewBs w x) := by
  obtain rfl := ha.len
  have ho0 := World.ownsRow_lit (base := w.heap.size) (e := 5) (size := 1) w #[] 0 (Nat.le_refl _) (by decide) rfl
  go_enter Tryd.func19, Tryd.ntmps19
  go_wp2_with (at_builtin; refine wpList_app rfl _ _ 23 rfl w.heap.size 5 _ 1 1 Tryd.underlying23 infoU8 rfl (by decide) (by decide) rfl ho0 rfl ((Keeps.alloc w _).bs ha) (bytes_oneCell x) (by omega) (by simp) ?_; intro a1 c1 w1 ho hg)
  go_ret
  simp only [Nat.zero_add, List.nil_append] at ho ⊢
  exact ⟨a1, _, c1, rfl, ho, below_app ((Below.refl _ _).alloc (Nat.le_refl _) _) ho0 hg (Nat.le_refl _) (by simp)⟩
/-- the eight marks -/
def marks : List UInt8 := [201, 202, 203, 204, 205, 206, 207, 208]
theorem marks_succ (k : Nat) (h : k < 8) : ((marks.take k).map u8v) ++ [Value.int .u8 (201 + (k : Int))] = (marks.take (k + 1)).map u8v := by
  have : k = 0 ∨ k = 1 ∨ k = 2 ∨ k = 3 ∨ k = 4 ∨ k = 5 ∨ k = 6 ∨ k = 7 := by omega
  rcases this with h | h | h | h | h | h | h | h <;> subst h <;> rfl
end Go.Proofs.YtamgiffkhnfpmaaDoor
namespace Go.Proofs.YtamgiffkhnfpmaaDoor
set_option linter.unusedVariables false
set_option linter.unusedSimpArgs false
open Go.ChangeShapes Go.WideShapes Go.ChangeAt Go.RowKit
def swapK (D : List UInt8) (k : Nat) : List UInt8 := (List.range D.length).map fun x => if x < k ∨ D.length - k ≤ x then D.getD (D.length - 1 - x) 0 else D.getD x 0
theorem swapK_len (D : List UInt8) (k : Nat) : (swapK D k).length = D.length := by simp [swapK]
theorem swapK_at (D : List UInt8) (k x : Nat) (h : x < D.length) : (swapK D k)[x]'(by rw [swapK_len]; exact h) = if x < k ∨ D.length - k ≤ x then D.getD (D.length - 1 - x) 0 else D.getD x 0 := by
  simp [swapK]
theorem getD_at (D : List UInt8) (x : Nat) (h : x < D.length) : D[x] = D.getD x 0 := by simp [List.getD, List.getElem?_eq_getElem h]
theorem swapK_zero (D : List UInt8) : swapK D 0 = D := by
  refine List.ext_getElem (swapK_len D 0) fun x h1 h2 => ?_
  rw [swapK_at D 0 x h2, if_neg (by omega), getD_at D x h2]
theorem swapK_end (D : List UInt8) (k m : Nat) (h : m + k + 1 = D.length) (hk : ¬ k < m) : swapK D k = D.reverse := by
  refine List.ext_getElem (by rw [swapK_len, List.length_reverse]) fun x h1 h2 => ?_
  have hx : x < D.length := by rw [swapK_len] at h1; exact h1
  rw [swapK_at D k x hx, List.getElem_reverse, getD_at D _ (by omega)]
  by_cases hc : x < k ∨ D.length - k ≤ x
  · rw [if_pos hc]
  · rw [if_neg hc]; congr 1; omega
theorem swapK_one (D : List UInt8) (k m : Nat) (h : m + k + 1 = D.length) (hk : k < m) : ((swapK D k).set k (D.getD m 0)).set m (D.getD k 0) = swapK D (k + 1) := by
  refine List.ext_getElem (by simp [swapK_len]) fun x h1 h2 => ?_
  have hx : x < D.length := by rw [swapK_len] at h2; exact h2
  rw [swapK_at D (k + 1) x hx, List.getElem_set, List.getElem_set]
  by_cases e1 : m = x
  · subst e1; rw [if_pos rfl, if_pos (by omega)]; congr 1; omega
  · rw [if_neg e1]
    by_cases e2 : k = x
    · subst e2; rw [if_pos rfl, if_pos (by omega)]; congr 1; omega
    · rw [if_neg e2, swapK_at D k x hx]
      by_cases hc : x < k ∨ D.length - k ≤ x
      · rw [if_pos hc, if_pos (by omega)]
      · rw [if_neg hc, if_neg (by omega)]
theorem swapK_lo (D : List UInt8) (k m : Nat) (h : m + k + 1 = D.length) (hk : k < m) : (swapK D k).getD k 0 = D.getD k 0 := by
  have h1 : k < (swapK D k).length := by rw [swapK_len]; omega
  rw [← getD_at _ k h1, swapK_at D k k (by omega), if_neg (by omega)]
theorem swapK_hi (D : List UInt8) (k m : Nat) (h : m + k + 1 = D.length) (hk : k < m) : (swapK D k).getD m 0 = D.getD m 0 := by
  have h1 : m < (swapK D k).length := by rw [swapK_len]; omega
  rw [← getD_at _ m h1, swapK_at D k m (by omega), if_neg (by omega)]
theorem own_block {w : World} {base : Nat} {e : TypeId} {sz : Nat} {a : Option Addr} {n c : Nat} {xs : List Value} (h : w.ownsRow base e sz (.slice a n c) n xs) (hn : 0 < n) : ∃ g, a = some ⟨g, 0, none⟩ ∧ base ≤ g := by
  rcases h.2 with ⟨hv, h0⟩ | ⟨g, cap, cur, hv, hb, _⟩
  · omega
  · simp only [Value.slice.injEq] at hv
    exact ⟨g, hv.1, hb⟩
theorem own_cell {w : World} {base : Nat} {e : TypeId} {g n c : Nat} {l : List UInt8} (h : w.ownsRow base e 1 (.slice (some ⟨g, 0, none⟩) n c) n (l.map u8v)) (j : Nat) (hj : j < l.length) : w.cell? ⟨g, j, none⟩ = some (.int .u8 ((l.getD j 0).toNat : Int)) := by
  have hl : l.length = n := by have := h.1; simpa using this
  rw [h.cellAt j (by omega), List.getElem?_map, List.getElem?_eq_getElem hj, ← getD_at l j hj]
  rfl
end Go.Proofs.YtamgiffkhnfpmaaDoor
namespace Go.Proofs.YtamgiffkhnfpmaaDoor
set_option linter.unusedVariables false
set_option linter.unusedSimpArgs false
open Go.ChangeShapes Go.WideShapes Go.ChangeAt Go.RowKit
/-- the table that the library's numerals want -/
def Pow10 (w : World) : Prop := Lib.TabIs Tryd.prog w "internal/strconv.uint64pow10" .u64 Lib.pow10Tab
theorem grow_below (B : Nat) (w : World) (q : Nat) (os : Array Obj) (hB : B ≤ w.heap.size) : Below B w (Sort.grow (w.drewN q) os) :=
  ⟨rfl, rfl, rfl, by first | (simp [Sort.grow]; done) | (simp [Sort.grow]; omega), fun i hi => by
    show ((w.drewN q).heap ++ os)[i]? = _
    rw [Array.getElem?_append_left (by show i < w.heap.size; omega)]
    rfl⟩
theorem gPow10 : Tryd.prog.globalNamed "internal/strconv.uint64pow10" = some 0 := by kernel_rfl
theorem Pow10.below {w w' : World} (h : Pow10 w) (k : Below w.heap.size w w') : Pow10 w' := Joins.tab_stays gPow10 h k (Nat.le_refl _)
theorem Show_any (v : Int) (h0 : -9223372036854775808 ≤ v) (h1 : v ≤ 9223372036854775807) (w : World) (ht : Pow10 w) :
    Calls Tryd.prog 56 #[.int .i64 v] w fun e w' => e = .returned (.string ⟨(Lib.itoa v).toArray⟩) ∧ Below w.heap.size w w' := by
  have HT := Lib.hid ht; clear ht
  have hi := Lib.hid (Tryd.strconv_Itoa v h0 h1 w HT.out)
  generalize Lib.itoa v = s at *
  go_enter Tryd.func56, Tryd.ntmps56
  go_wp2_with (go_at_call 88; refine (hi.out).mono ?_; rintro e w1 ⟨rfl, k, os, hw⟩; have HW := Lib.hid hw; clear hw)
  go_ret
  exact ⟨rfl, by rw [HW.out]; exact grow_below _ _ _ _ (Nat.le_refl _)⟩
theorem decDigits_len : ∀ (k u : Nat), u < 10 ^ (k + 1) → (Lib.decDigits u).length ≤ k + 1
  | 0, u, h => by rw [Lib.decDigits, dif_pos (by simpa using h)]; simp
  | k + 1, u, h => by
    rw [Lib.decDigits]
    by_cases h1 : u < 10
    · rw [dif_pos h1]; simp
    · have := decDigits_len k (u / 10) (by rw [Nat.pow_succ] at h; omega)
      rw [dif_neg h1, List.length_append]; simp; omega
/-- the digits that are written, the last one first: what is left of u, and what stands in D -/
def Digs (N u : Nat) (D : List UInt8) : Prop := (u = 0 ∧ D.reverse = Lib.decDigits N) ∨ (u ≠ 0 ∧ Lib.decDigits N = Lib.decDigits u ++ D.reverse)
theorem Digs.start (N : Nat) (h : N ≠ 0) : Digs N N [] := .inr ⟨h, by simp⟩
theorem Digs.step {N u : Nat} {D : List UInt8} (h : Digs N u D) (hu : u ≠ 0) : Digs N (u / 10) (D ++ [UInt8.ofNat (48 + u % 10)]) := by
  rcases h with ⟨h, _⟩ | ⟨_, h⟩
  · exact absurd h hu
  · have e : Lib.decDigits u = if h : u < 10 then [UInt8.ofNat (48 + u)] else Lib.decDigits (u / 10) ++ [UInt8.ofNat (48 + u % 10)] := by rw [Lib.decDigits]
    rw [e] at h
    by_cases h1 : u < 10
    · rw [dif_pos h1] at h
      refine .inl ⟨by omega, ?_⟩
      rw [h, List.reverse_append, Nat.mod_eq_of_lt h1]; rfl
    · rw [dif_neg h1] at h
      refine .inr ⟨by omega, ?_⟩
      rw [h, List.reverse_append, List.append_assoc]; rfl
theorem Digs.len {N u : Nat} {D : List UInt8} (h : Digs N u D) (hN : N ≤ 9223372036854775808) : D.length ≤ 20 := by
  have h1 := decDigits_len 19 N (by omega)
  rcases h with ⟨_, h⟩ | ⟨_, h⟩
  · rw [← h] at h1; simpa using h1
  · rw [h] at h1; simp at h1; omega
theorem Digs.end {N : Nat} {D : List UInt8} (h : Digs N 0 D) : D.reverse = Lib.decDigits N := by
  rcases h with ⟨_, h⟩ | ⟨h, _⟩
  · exact h
  · exact absurd rfl h
theorem digit_val (u : Nat) : (.int .u8 (48 + ((u % 10 : Nat) : Int)) : Value) = u8v (UInt8.ofNat (48 + u % 10)) := by
  unfold u8v
  have e : (UInt8.ofNat (48 + u % 10)).toNat = 48 + u % 10 := by simp; omega
  rw [e]; congr 1
end Go.Proofs.YtamgiffkhnfpmaaDoor
namespace Go.Proofs.YtamgiffkhnfpmaaDoor
set_option linter.unusedVariables false
set_option linter.unusedSimpArgs false
open Go.ChangeShapes Go.WideShapes Go.ChangeAt Go.RowKit
theorem pow10_of {laid : List (String × DataW Unit)} {W : World} (h : laidMetH Tryd.prog laid W) (hl : (laid.filter fun x => x.1 == "internal/strconv.uint64pow10") = [("internal/strconv.uint64pow10", Rows.laid_internal_strconv_uint64pow10)]) : Pow10 W := by
  have h1 := h.filter (fun x => x.1 == "internal/strconv.uint64pow10")
  rw [hl] at h1
  exact Lib.tabIs_of_head (rest := []) (n := 20) gPow10 (by kernel_rfl) Tryd.underlying142 Tryd.underlying117 (by kernel_rfl) (by kernel_rfl) h1
theorem starErr : "*" ++ "errors.errorString" = "*errors.errorString" := by decide
theorem rowErr (u : TypeId) (h : Tryd.prog.typeName? 3 u = some "*errors.errorString") : u = 163 :=
  typeName_ptr_named (nm := "errors.errorString") (by rw [starErr]; kernel_rfl) (by kernel_rfl) (by decide) u (by rw [starErr]; exact h)
theorem gErrRange : Tryd.prog.globalNamed "strconv.ErrRange" = some 3 := by kernel_rfl
theorem err_of {laid : List (String × DataW Unit)} {W : World} (h : laidMetH Tryd.prog laid W) (hl : (laid.filter fun x => x.1 == "strconv.ErrRange") = [("strconv.ErrRange", Rows.laid_strconv_ErrRange)]) : ∃ ev, ErrIs W ev := by
  have h1 := h.filter (fun x => x.1 == "strconv.ErrRange")
  rw [hl] at h1
  obtain ⟨a, s, hv, _⟩ := laid_sentinel (r := []) h1 gErrRange (by kernel_rfl) Tryd.underlying82 rowErr Tryd.underlying163 Tryd.underlying165 rfl rfl Tryd.underlying9 (by kernel_rfl) (by kernel_rfl)
  exact ⟨_, by simpa using World.var?_cell gErrRange hv 0, _, _, rfl⟩
/-- the cells of plain data -/
def cellsF : Nat → DataW Unit → List Value
  | 0, _ => []
  | _ + 1, .lit (.int k z) => [.int k z]
  | k + 1, .agg ps => ps.flatMap (cellsF k)
  | _, _ => []
def layAt (h : Array Obj) (g : Nat) (vs : List Value) : Array Obj := h.modify g fun
  | .cells _ t frozen => .cells vs.toArray t frozen
  | o => o
noncomputable def low : Nat := (World.holding Tryd.prog default ⟨#[], #[], []⟩).heap.size
noncomputable def laidWorld (os : Os) : World :=
  let w0 := World.holding Tryd.prog os ⟨#[.cells #[.string ⟨#[118, 97, 108, 117, 101, 32, 111, 117, 116, 32, 111, 102, 32, 114, 97, 110, 103, 101]⟩] 165, .cells #[.string ⟨#[105, 110, 118, 97, 108, 105, 100, 32, 115, 121, 110, 116, 97, 120]⟩] 165], #[], []⟩
  let h := layAt w0.heap 6 (cellsF 3 Rows.laid_math_bits_deBruijn32tab)
  let h := layAt h 7 (cellsF 3 Rows.laid_math_bits_deBruijn64tab)
  let h := layAt h 0 (cellsF 3 Rows.laid_internal_strconv_uint64pow10)
  let h := layAt h 3 [.iface 163 (.pointer (some ⟨low, 0, none⟩))]
  let h := layAt h 2 [.iface 163 (.pointer (some ⟨low + 1, 0, none⟩))]
  let h := layAt h 4 (cellsF 4 Rows.laid_unicode_utf8_first)
  let h := layAt h 5 (cellsF 4 Rows.laid_unicode_utf8_acceptRanges)
  { w0 with heap := h }
end Go.Proofs.YtamgiffkhnfpmaaDoor
namespace Go.Proofs.YtamgiffkhnfpmaaDoor
set_option linter.unusedVariables false
set_option linter.unusedSimpArgs false
open Go.ChangeShapes Go.WideShapes Go.ChangeAt Go.RowKit
section
variable {H : Type} {enc : TypeId × Value → H} {P : Program} {w : World} {base : Nat}
theorem bulk_one (d : DataW H) : 1 ≤ Rows.uptoBulk d := by
  cases d with
  | lit l => cases l <;> simp [Rows.uptoBulk]
  | nil => simp [Rows.uptoBulk]
  | ptr d => simp [Rows.uptoBulk]
  | slice elems spare => simp [Rows.uptoBulk]
  | agg parts => simp [Rows.uptoBulk]
  | iface t d => simp [Rows.uptoBulk]
  | map entries => simp [Rows.uptoBulk]
  | held h => simp [Rows.uptoBulk]
theorem bulk_len : ∀ (l : List (DataW H)), l.length ≤ Rows.uptoBulkAll l
  | [] => by simp [Rows.uptoBulkAll]
  | x :: r => by
    have h1 := bulk_one x
    have h2 := bulk_len r
    simp only [Rows.uptoBulkAll, List.length_cons]; omega
theorem small_of {l : List (DataW H)} (h : Rows.uptoSmall H l = true) : Rows.uptoBulkAll l ≤ 1048576 := by simpa [Rows.uptoSmall] using h
theorem small_0 {d : DataW H} {r : List (DataW H)} (h : Rows.uptoSmall H (d :: r) = true) : Rows.uptoBulk d ≤ 1048576 := by
  have := small_of h
  simp only [Rows.uptoBulkAll] at this; omega
theorem small_1 {d d' : DataW H} {r : List (DataW H)} (h : Rows.uptoSmall H (d' :: d :: r) = true) : Rows.uptoBulk d ≤ 1048576 := by
  have := small_of h
  simp only [Rows.uptoBulkAll] at this; omega
theorem small_mem {l : List (DataW H)} (h : Rows.uptoSmall H l = true) {d : DataW H} (hd : d ∈ l) : Rows.uptoBulk d ≤ 1048576 := by
  have h0 := small_of h
  have hx : ∀ (l : List (DataW H)), d ∈ l → Rows.uptoBulk d ≤ Rows.uptoBulkAll l := by
    intro l
    induction l with
    | nil => intro h; cases h
    | cons x r ih =>
      intro h
      simp only [Rows.uptoBulkAll]
      rcases List.mem_cons.1 h with rfl | h
      · omega
      · have := ih h; omega
  have := hx l hd; omega
/-- an argument of bytes of the second form -/
theorem open_bytes_upto {t e : TypeId} {v : Value} {d : DataW H} {p : List MemPlace} {r : Reach} {b0 : Nat} (ht : P.underlying t = some (.slice e)) (he : P.underlying e = some (.int .u8)) (hc : P.cellsOf e = 1)
    (hv : Value.okWide P w r b0 t v) (h : DataW.Trod enc P w 0 (fun _ => true) true t v d p) (hs : Rows.uptoBulk d ≤ 1048576) :
    ∃ a n c l, v = .slice a n c ∧ Bs w a n c l ∧ c ≤ 1048576 := by
  obtain ⟨a, n, c, rfl⟩ := okWide_slice ht hv
  obtain ⟨fuel, hf⟩ := h
  rcases open_ints ht he hc hf with ⟨hcs, _⟩ | ⟨x, l, c', zs, hcs, _, hl, hm, hz, hx, hcell, hwz⟩
  · simp [Value.cells] at hcs
    obtain ⟨rfl, rfl, rfl⟩ := hcs
    exact ⟨none, 0, 0, [], rfl, ⟨rfl, Nat.le_refl _, by decide, fun j v hj => by simp at hj, fun _ => ⟨rfl, rfl⟩⟩, by omega⟩
  · simp [Value.cells] at hcs
    obtain ⟨rfl, rfl, rfl⟩ := hcs
    simp only [if_true] at hz
    simp only [Prod.mk.injEq] at hx
    obtain ⟨rfl, rfl⟩ := hx
    have hreach : c ≤ 1048576 := by
      simp only [Rows.uptoBulk] at hs
      have h1 := bulk_len (lits (H := H) IntKind.u8 (zs.take n))
      have h2 := bulk_len (lits (H := H) IntKind.u8 (zs.drop n))
      simp only [lits, List.length_map, List.length_take, List.length_drop] at h1 h2
      simp only [lits] at hs
      omega
    refine ⟨some x, n, c, (zs.take n).map toU8, rfl, ⟨by simp; omega, hl, hm, fun j v hj => ⟨x, rfl, ?_⟩, fun h => by cases h⟩, hreach⟩
    simp only [List.map_map, List.getElem?_map, Option.map_eq_some_iff, List.getElem?_take] at hj
    obtain ⟨z, hzj, rfl⟩ := hj
    split at hzj
    · have hjl : j < zs.length := (List.getElem?_eq_some_iff.1 hzj).1
      have hmem : z ∈ zs := List.mem_of_getElem? hzj
      obtain ⟨w0, w1⟩ := wf_u8 (hwz z hmem)
      have := hcell j hjl
      simp only [List.getD, hzj, Option.getD_some] at this
      simp only [Function.comp, u8v_toU8 w0 w1]
      exact this
    · cases hzj
end
end Go.Proofs.YtamgiffkhnfpmaaDoor
namespace Go.Proofs.YtamgiffkhnfpmaaDoor
set_option linter.unusedVariables false
set_option linter.unusedSimpArgs false
open Go.ChangeShapes Go.WideShapes Go.ChangeAt Go.RowKit
def isOct (c : UInt8) : Bool := decide (48 ≤ c.toNat ∧ c.toNat ≤ 55)
theorem isOct_iff (c : UInt8) : isOct c = true ↔ 48 ≤ c.toNat ∧ c.toNat ≤ 55 := by simp [isOct]
/-- the number that octal digits say, behind the number v -/
def octAcc (v : Nat) (l : List UInt8) : Nat := l.foldl (fun v c => v * 8 + (c.toNat - 48)) v
theorem octAcc_cons (v : Nat) (c : UInt8) (l : List UInt8) : octAcc v (c :: l) = octAcc (v * 8 + (c.toNat - 48)) l := by simp only [octAcc, List.foldl_cons]
theorem octAcc_nil (v : Nat) : octAcc v [] = v := by simp only [octAcc, List.foldl_nil]
theorem octAcc_app (v : Nat) (a b : List UInt8) : octAcc v (a ++ b) = octAcc (octAcc v a) b := by simp [octAcc, List.foldl_append]
theorem octAcc_one (v : Nat) (a : List UInt8) (c : UInt8) : octAcc v (a ++ [c]) = octAcc v a * 8 + (c.toNat - 48) := by rw [octAcc_app, octAcc_cons, octAcc_nil]
theorem octAcc_pow : ∀ (l : List UInt8) (v : Nat), octAcc v l = v * 8 ^ l.length + octAcc 0 l
  | [], v => by rw [octAcc_nil, octAcc_nil]; simp
  | c :: l, v => by
    rw [octAcc_cons, octAcc_cons, octAcc_pow l (v * 8 + (c.toNat - 48)), octAcc_pow l (0 * 8 + (c.toNat - 48)), List.length_cons, Nat.pow_succ]
    have e : (v * 8 + (c.toNat - 48)) * 8 ^ l.length = v * (8 ^ l.length * 8) + (c.toNat - 48) * 8 ^ l.length := by
      rw [Nat.add_mul, Nat.mul_assoc, Nat.mul_comm 8 (8 ^ l.length)]
    rw [e]
    simp only [Nat.zero_mul, Nat.zero_add]
    omega
theorem octAcc_le (l : List UInt8) (v : Nat) : v ≤ octAcc v l := by
  rw [octAcc_pow]
  have h1 : 1 ≤ 8 ^ l.length := Nat.one_le_pow _ _ (by decide)
  have h2 := Nat.mul_le_mul_left v h1
  omega
theorem octAcc_take_le (l : List UInt8) (k : Nat) : octAcc 0 (l.take k) ≤ octAcc 0 l := by
  have h := octAcc_app 0 (l.take k) (l.drop k)
  rw [List.take_append_drop] at h
  rw [h]
  exact octAcc_le _ _
theorem octAcc_lt : ∀ (l : List UInt8), l.all isOct = true → octAcc 0 l < 8 ^ l.length
  | [], _ => by rw [octAcc_nil]; decide
  | c :: l, h => by
    rw [List.all_cons, Bool.and_eq_true, isOct_iff] at h
    have ih := octAcc_lt l h.2
    rw [octAcc_cons, octAcc_pow, List.length_cons, Nat.pow_succ]
    have h7 : 0 * 8 + (c.toNat - 48) ≤ 7 := by omega
    have := Nat.mul_le_mul_right (8 ^ l.length) h7
    omega
/-- noughts ahead change nothing -/
theorem octAcc_zeros : ∀ (l : List UInt8), octAcc 0 (l.dropWhile (· == 48)) = octAcc 0 l
  | [] => rfl
  | c :: l => by
    by_cases h : c = 48
    · subst h
      rw [List.dropWhile_cons_of_pos (by rfl), octAcc_zeros l, octAcc_cons]
      rfl
    · rw [List.dropWhile_cons_of_neg (by simpa using h)]
theorem octAcc_step (l : List UInt8) (k : Nat) (h : k < l.length) : octAcc 0 (l.take (k + 1)) = octAcc 0 (l.take k) * 8 + ((l.getD k 0).toNat - 48) := by
  have hg : l.getD k 0 = l[k] := by simp [List.getD, List.getElem?_eq_getElem h]
  rw [List.take_succ_eq_append_getElem h, octAcc_one, hg]
theorem oct_at (l : List UInt8) (k : Nat) (h : k < l.length) (ha : l.all isOct = true) : 48 ≤ (l.getD k 0).toNat ∧ (l.getD k 0).toNat ≤ 55 := by
  have hg : l.getD k 0 = l[k] := by simp [List.getD, List.getElem?_eq_getElem h]
  rw [hg, ← isOct_iff]
  exact (List.all_eq_true.1 ha) l[k] (List.getElem_mem h)
end Go.Proofs.YtamgiffkhnfpmaaDoor
namespace Go.Proofs.YtamgiffkhnfpmaaDoor
set_option linter.unusedVariables false
set_option linter.unusedSimpArgs false
open Go.ChangeShapes Go.WideShapes Go.ChangeAt Go.RowKit
/-- the number that bytes say, behind the number v -/
def binAcc (v : Int) (l : List UInt8) : Int := l.foldl (fun v b => v * 256 + (b.toNat : Int)) v
theorem binAcc_nil (v : Int) : binAcc v [] = v := by simp only [binAcc, List.foldl_nil]
theorem binAcc_cons (v : Int) (c : UInt8) (l : List UInt8) : binAcc v (c :: l) = binAcc (v * 256 + (c.toNat : Int)) l := by simp only [binAcc, List.foldl_cons]
theorem binAcc_app (v : Int) (a b : List UInt8) : binAcc v (a ++ b) = binAcc (binAcc v a) b := by simp [binAcc, List.foldl_append]
theorem binAcc_step (v : Int) (l : List UInt8) (k : Nat) (h : k < l.length) : binAcc v (l.take (k + 1)) = binAcc v (l.take k) * 256 + ((l.getD k 0).toNat : Int) := by
  have hg : l.getD k 0 = l[k] := by simp [List.getD, List.getElem?_eq_getElem h]
  rw [List.take_succ_eq_append_getElem h, binAcc_app, binAcc_cons, binAcc_nil, hg]
theorem binAcc_pow : ∀ (l : List UInt8) (v : Int), binAcc v l = v * 256 ^ l.length + binAcc 0 l
  | [], v => by rw [binAcc_nil, binAcc_nil]; simp
  | c :: l, v => by
    rw [binAcc_cons, binAcc_cons, binAcc_pow l (v * 256 + (c.toNat : Int)), binAcc_pow l (0 * 256 + (c.toNat : Int)), List.length_cons, Int.pow_succ]
    have e : (v * 256 + (c.toNat : Int)) * 256 ^ l.length = v * (256 ^ l.length * 256) + (c.toNat : Int) * 256 ^ l.length := by
      rw [Int.add_mul, Int.mul_assoc, Int.mul_comm 256 (256 ^ l.length)]
    rw [e]
    simp only [Int.zero_mul, Int.zero_add]
    omega
theorem binAcc_bd : ∀ (l : List UInt8), 0 ≤ binAcc 0 l ∧ binAcc 0 l < 256 ^ l.length
  | [] => by rw [binAcc_nil]; decide
  | c :: l => by
    have ih := binAcc_bd l
    have hc := u8_lt c
    rw [binAcc_cons, binAcc_pow, List.length_cons, Int.pow_succ]
    simp only [Int.zero_mul, Int.zero_add]
    generalize (256 : Int) ^ l.length = p at *
    have h1 : (c.toNat : Int) * p ≤ 255 * p := Int.mul_le_mul_of_nonneg_right (by omega) (by omega)
    have h2 : 0 ≤ (c.toNat : Int) * p := Int.mul_nonneg (by omega) (by omega)
    omega
theorem binAcc_hi : ∀ (l : List UInt8) (v K : Int), 0 ≤ K → K ≤ v → K ≤ binAcc v l
  | [], v, K, _, h => by rw [binAcc_nil]; exact h
  | c :: l, v, K, h0, h => by
    rw [binAcc_cons]
    have hc := u8_lt c
    exact binAcc_hi l _ K h0 (by omega)
theorem binAcc_lo : ∀ (l : List UInt8) (v K : Int), K ≤ -1 → v ≤ K → binAcc v l ≤ K
  | [], v, K, _, h => by rw [binAcc_nil]; exact h
  | c :: l, v, K, h0, h => by
    rw [binAcc_cons]
    have hc := u8_lt c
    exact binAcc_lo l _ K h0 (by omega)
def inI64 (v : Int) : Bool := decide (-9223372036854775808 ≤ v ∧ v ≤ 9223372036854775807)
theorem inI64_iff (v : Int) : inI64 v = true ↔ -9223372036854775808 ≤ v ∧ v ≤ 9223372036854775807 := by simp [inI64]
theorem inI64_no (v : Int) : inI64 v = false ↔ v < -9223372036854775808 ∨ 9223372036854775807 < v := by
  rw [← Bool.not_eq_true, inI64_iff]; omega
/-- out of bounds with bytes to come: the number is too great -/
theorem binAcc_out (v : Int) (l : List UInt8) (k : Nat) (h : k < l.length) (ho : binAcc v (l.take k) < -36028797018963968 ∨ 36028797018963967 < binAcc v (l.take k)) : inI64 (binAcc v l) = false := by
  have e : binAcc v l = binAcc (binAcc v (l.take (k + 1))) (l.drop (k + 1)) := by rw [← binAcc_app, List.take_append_drop]
  have hc := u8_lt (l.getD k 0)
  rw [e, binAcc_step v l k h, inI64_no]
  generalize binAcc v (l.take k) = p at *
  rcases ho with ho | ho
  · left
    have := binAcc_lo (l.drop (k + 1)) (p * 256 + ((l.getD k 0).toNat : Int)) (-9223372036854775809) (by omega) (by omega)
    omega
  · right
    have := binAcc_hi (l.drop (k + 1)) (p * 256 + ((l.getD k 0).toNat : Int)) 9223372036854775808 (by omega) (by omega)
    omega
/-- the first byte, its bit 6 the sign -/
def binHead (c : UInt8) : Int := if 192 ≤ c.toNat then (c.toNat : Int) - 256 else (c.toNat : Int) - 128
/-- the document's answer -/
def Plain.base256 : List UInt8 → Int × Int
  | [] => (0, 10)
  | c :: r => if c.toNat < 128 then (0, 10) else if inI64 (binAcc (binHead c) r) = true then (binAcc (binHead c) r, 0) else (0, 11)
theorem Plain.base256_low (l : List UInt8) (h : l = [] ∨ (l.getD 0 0).toNat < 128) : Plain.base256 l = (0, 10) := by
  cases l with
  | nil => rfl
  | cons c r =>
    rcases h with h | h
    · cases h
    · exact if_pos h
theorem Plain.base256_at (l : List UInt8) (h : 0 < l.length) (h1 : ¬ (l.getD 0 0).toNat < 128) : Plain.base256 l = if inI64 (binAcc (binHead (l.getD 0 0)) (l.drop 1)) = true then (binAcc (binHead (l.getD 0 0)) (l.drop 1), 0) else (0, 11) := by
  cases l with
  | nil => simp at h
  | cons c r => exact if_neg h1
/-- the byte that fills up, and its number -/
def fillOf (c : UInt8) : UInt8 := if 192 ≤ c.toNat then 255 else 0
def signOf (c : UInt8) : Int := if 192 ≤ c.toNat then -1 else 0
theorem binAcc_fill (c : UInt8) : ∀ n, binAcc (signOf c) (List.replicate n (fillOf c)) = signOf c
  | 0 => by rw [List.replicate_zero, binAcc_nil]
  | n + 1 => by
    rw [List.replicate_succ, binAcc_cons]
    have : signOf c * 256 + ((fillOf c).toNat : Int) = signOf c := by
      unfold signOf fillOf
      by_cases h : 192 ≤ c.toNat
      · rw [if_pos h, if_pos h]; decide
      · rw [if_neg h, if_neg h]; decide
    rw [this]; exact binAcc_fill c n
theorem binAcc_notfill (c : UInt8) : ∀ (x : List UInt8), (¬ ∀ b ∈ x, b = fillOf c) → 1 ≤ binAcc (signOf c) x ∨ binAcc (signOf c) x ≤ -2
  | [], h => absurd (fun b hb => by cases hb) h
  | b :: x, h => by
    rw [binAcc_cons]
    by_cases hb : b = fillOf c
    · have e : signOf c * 256 + (b.toNat : Int) = signOf c := by
        have := binAcc_fill c 1
        rw [List.replicate_one, binAcc_cons, binAcc_nil] at this
        rw [hb]; exact this
      rw [e]
      exact binAcc_notfill c x (fun hx => h (fun b' hb' => by
        rcases List.mem_cons.1 hb' with h1 | h1
        · rw [h1]; exact hb
        · exact hx b' h1))
    · have hbl := u8_lt b
      by_cases hc : 192 ≤ c.toNat
      · right
        have hne : b.toNat ≠ 255 := fun e => hb (by unfold fillOf; rw [if_pos hc]; exact UInt8.toNat_inj.1 e)
        have hs : signOf c = -1 := by unfold signOf; rw [if_pos hc]
        rw [hs]
        exact binAcc_lo x _ (-2) (by omega) (by omega)
      · left
        have hne : b.toNat ≠ 0 := fun e => hb (by unfold fillOf; rw [if_neg hc]; exact UInt8.toNat_inj.1 e)
        have hs : signOf c = 0 := by unfold signOf; rw [if_neg hc]
        rw [hs]
        exact binAcc_hi x _ 1 (by omega) (by omega)
/-- the first byte as the reference takes it -/
def headB (c : UInt8) : UInt8 := if 192 ≤ c.toNat then c else UInt8.ofNat (c.toNat - 128)
theorem headB_val (c : UInt8) (h : 128 ≤ c.toNat) : signOf c * 256 + ((headB c).toNat : Int) = binHead c := by
  unfold signOf headB binHead
  have := u8_lt c
  by_cases hc : 192 ≤ c.toNat
  · rw [if_pos hc, if_pos hc, if_pos hc]; omega
  · rw [if_neg hc, if_neg hc, if_neg hc, UInt8.toNat_ofNat']; omega
/-- eight bytes that fill up, and the field's bytes -/
def binRow (l : List UInt8) : List UInt8 := List.replicate 8 (fillOf (l.getD 0 0)) ++ (headB (l.getD 0 0) :: l.drop 1)
theorem binRow_len (l : List UInt8) (h : 0 < l.length) : (binRow l).length = l.length + 8 := by
  unfold binRow; rw [List.length_append, List.length_replicate, List.length_cons, List.length_drop]; omega
theorem binRow_val (l : List UInt8) (h1 : 128 ≤ (l.getD 0 0).toNat) : binAcc (signOf (l.getD 0 0)) (binRow l) = binAcc (binHead (l.getD 0 0)) (l.drop 1) := by
  unfold binRow; rw [binAcc_app, binAcc_fill, binAcc_cons, headB_val _ h1]
theorem binRow_fill (l : List UInt8) (k : Nat) (h : k < 8) : (binRow l).getD k 0 = fillOf (l.getD 0 0) := by
  unfold binRow
  rw [List.getD, List.getElem?_append_left (by rw [List.length_replicate]; exact h), List.getElem?_replicate_of_lt h]; rfl
theorem binRow_at (l : List UInt8) (i : Nat) : (binRow l).getD (8 + i) 0 = if i = 0 then headB (l.getD 0 0) else l.getD i 0 := by
  unfold binRow
  rw [List.getD, List.getElem?_append_right (by simp), List.length_replicate, show 8 + i - 8 = i by omega]
  cases i with
  | zero => rw [if_pos rfl, List.getElem?_cons_zero]; rfl
  | succ i => rw [if_neg (by omega), List.getElem?_cons_succ, List.getElem?_drop, Nat.add_comm 1 i]; rfl
/-- the last eight bytes behind i of the field's -/
def lastK (l : List UInt8) (i : Nat) : List UInt8 := (List.range 8).map fun p => if l.length + p < 8 + i then (binRow l).getD (l.length + p) 0 else fillOf (l.getD 0 0)
theorem lastK_len (l : List UInt8) (i : Nat) : (lastK l i).length = 8 := by simp [lastK]
theorem lastK_zero (l : List UInt8) : lastK l 0 = List.replicate 8 (fillOf (l.getD 0 0)) := by
  apply List.ext_getElem
  · simp [lastK]
  · intro p h1 h2
    simp only [lastK, List.getElem_map, List.getElem_range, List.getElem_replicate]
    split
    · exact binRow_fill l _ (by omega)
    · rfl
theorem lastK_far (l : List UInt8) (i : Nat) (h : i + 8 < l.length) : lastK l (i + 1) = lastK l i := by
  unfold lastK
  apply List.map_congr_left
  intro p hp
  rw [if_neg (by omega), if_neg (by omega)]
theorem lastK_near (l : List UInt8) (i : Nat) (h : l.length ≤ i + 8) (hi : i < l.length) : lastK l (i + 1) = (lastK l i).set (8 + i - l.length) ((binRow l).getD (8 + i) 0) := by
  apply List.ext_getElem
  · simp [lastK]
  · intro p h1 h2
    rw [List.getElem_set]
    simp only [lastK, List.getElem_map, List.getElem_range]
    by_cases hp : 8 + i - l.length = p
    · rw [if_pos hp, if_pos (by omega), show l.length + p = 8 + i by omega]
    · rw [if_neg hp]
      by_cases h3 : l.length + p < 8 + i
      · rw [if_pos h3, if_pos (by omega)]
      · rw [if_neg h3, if_neg (by omega)]
theorem lastK_end (l : List UInt8) (h : 0 < l.length) : lastK l l.length = (binRow l).drop l.length := by
  have hl := binRow_len l h
  apply List.ext_getElem
  · rw [lastK_len, List.length_drop, hl]; omega
  · intro p h1 h2
    rw [lastK_len] at h1
    simp only [lastK, List.getElem_map, List.getElem_range, List.getElem_drop]
    rw [if_pos (by omega)]
    simp [List.getD, List.getElem?_eq_getElem (show l.length + p < (binRow l).length by omega)]
/-- the bytes ahead of the last eight all fill up -/
def farFill (l : List UInt8) (i : Nat) : Prop := ∀ k, k < i → k + 8 < l.length → (binRow l).getD (8 + k) 0 = fillOf (l.getD 0 0)
theorem farFill_bad (l : List UInt8) (k : Nat) (h : k + 8 < l.length) (h1 : 128 ≤ (l.getD 0 0).toNat) (hb : (binRow l).getD (8 + k) 0 ≠ fillOf (l.getD 0 0)) : Plain.base256 l = (0, 11) := by
  have hl := binRow_len l (by omega)
  rw [Plain.base256_at l (by omega) (by omega), if_neg]
  rw [← binRow_val l h1, Bool.not_eq_true, inI64_no]
  have e : binRow l = (binRow l).take (l.length) ++ (binRow l).drop l.length := (List.take_append_drop _ _).symm
  have hn := binAcc_notfill (l.getD 0 0) ((binRow l).take l.length) (fun hall => hb (by
    have hm : (binRow l)[8 + k]'(by omega) ∈ (binRow l).take l.length := by
      rw [List.mem_take_iff_getElem]
      exact ⟨8 + k, by omega, rfl⟩
    have := hall _ hm
    simpa [List.getD, List.getElem?_eq_getElem (show 8 + k < (binRow l).length by omega)] using this))
  rw [e, binAcc_app, binAcc_pow, List.length_drop, hl, show l.length + 8 - l.length = 8 by omega]
  have hb2 := binAcc_bd ((binRow l).drop l.length)
  rw [List.length_drop, hl, show l.length + 8 - l.length = 8 by omega] at hb2
  generalize binAcc 0 ((binRow l).drop l.length) = u at *
  generalize binAcc (signOf (l.getD 0 0)) ((binRow l).take l.length) = p at *
  omega
theorem far_good (l : List UInt8) (h : 0 < l.length) (h1 : 128 ≤ (l.getD 0 0).toNat) (hf : farFill l l.length) :
    binAcc (binHead (l.getD 0 0)) (l.drop 1) = signOf (l.getD 0 0) * 18446744073709551616 + binAcc 0 (lastK l l.length) := by
  have hl := binRow_len l h
  rw [lastK_end l h, ← binRow_val l h1]
  have hrep : (binRow l).take l.length = List.replicate l.length (fillOf (l.getD 0 0)) := by
    apply List.ext_getElem
    · rw [List.length_take, List.length_replicate]; omega
    · intro k h2 h3
      rw [List.length_replicate] at h3
      rw [List.getElem_take, List.getElem_replicate]
      have hg : (binRow l)[k]'(by omega) = (binRow l).getD k 0 := by simp [List.getD, List.getElem?_eq_getElem (show k < (binRow l).length by omega)]
      rw [hg]
      by_cases h8 : k < 8
      · exact binRow_fill l k h8
      · have := hf (k - 8) (by omega) (by omega)
        rwa [show 8 + (k - 8) = k by omega] at this
  have e : binAcc (signOf (l.getD 0 0)) (binRow l) = binAcc (signOf (l.getD 0 0)) ((binRow l).take l.length ++ (binRow l).drop l.length) := by rw [List.take_append_drop]
  rw [e, binAcc_app, hrep, binAcc_fill, binAcc_pow, List.length_drop, hl, show l.length + 8 - l.length = 8 by omega]
  rfl
end Go.Proofs.YtamgiffkhnfpmaaDoor
namespace Go.Proofs.YtamgiffkhnfpmaaDoor
set_option linter.unusedVariables false
set_option linter.unusedSimpArgs false
open Go.ChangeShapes Go.WideShapes Go.ChangeAt Go.RowKit
/-- n digits, the last one's place is 0 -/
def placeRow (f : Nat → UInt8) : Nat → List UInt8
  | 0 => []
  | n + 1 => f n :: placeRow f n
theorem placeRow_zero (f : Nat → UInt8) : placeRow f 0 = [] := rfl
theorem placeRow_succ (f : Nat → UInt8) (n : Nat) : placeRow f (n + 1) = f n :: placeRow f n := rfl
theorem placeRow_len (f : Nat → UInt8) : ∀ n, (placeRow f n).length = n
  | 0 => rfl
  | n + 1 => by rw [placeRow_succ, List.length_cons, placeRow_len f n]
theorem placeRow_at (f : Nat → UInt8) : ∀ (n i : Nat), i < n → (placeRow f n).getD i 0 = f (n - 1 - i)
  | 0, i, h => absurd h (Nat.not_lt_zero i)
  | n + 1, 0, _ => by rw [placeRow_succ]; rfl
  | n + 1, i + 1, h => by
    have ih := placeRow_at f n i (by omega)
    rw [placeRow_succ, show n + 1 - 1 - (i + 1) = n - 1 - i by omega, ← ih]
    simp [List.getD]
/-- a row of noughts that is filled from its end -/
def fillRow (z : UInt8) (f : Nat → UInt8) (n k : Nat) (tail : List UInt8) : List UInt8 := List.replicate (n - k) z ++ placeRow f k ++ tail
theorem fillRow_zero (z : UInt8) (f : Nat → UInt8) (n : Nat) (tail : List UInt8) : fillRow z f n 0 tail = List.replicate n z ++ tail := by
  unfold fillRow; rw [placeRow_zero, Nat.sub_zero, List.append_nil]
theorem fillRow_len (z : UInt8) (f : Nat → UInt8) (n k : Nat) (tail : List UInt8) (h : k ≤ n) : (fillRow z f n k tail).length = n + tail.length := by
  unfold fillRow; rw [List.length_append, List.length_append, List.length_replicate, placeRow_len]; omega
theorem fillRow_full (z : UInt8) (f : Nat → UInt8) (n : Nat) (tail : List UInt8) : fillRow z f n n tail = placeRow f n ++ tail := by
  unfold fillRow; rw [Nat.sub_self, List.replicate_zero, List.nil_append]
theorem fillRow_set (z : UInt8) (f : Nat → UInt8) (n k : Nat) (tail : List UInt8) (h : k < n) : (fillRow z f n k tail).set (n - 1 - k) (f k) = fillRow z f n (k + 1) tail := by
  unfold fillRow
  have e : n - k = (n - (k + 1)) + 1 := by omega
  rw [e, List.replicate_succ', placeRow_succ, List.append_assoc, List.append_assoc, List.append_assoc, List.set_append_right _ _ (by rw [List.length_replicate]; omega), List.length_replicate, show n - 1 - k - (n - (k + 1)) = 0 by omega]
  rfl
theorem fillRow_drop (z : UInt8) (f : Nat → UInt8) (n k : Nat) (tail : List UInt8) : (fillRow z f n k tail).drop (n - k) = placeRow f k ++ tail := by
  unfold fillRow
  rw [List.append_assoc, List.drop_append_of_le_length (by rw [List.length_replicate]; exact Nat.le_refl _), List.drop_of_length_le (by rw [List.length_replicate]; exact Nat.le_refl _), List.nil_append]
/-- a row that is filled from its head -/
def headRow (l : List UInt8) (k : Nat) : List UInt8 := l.take k ++ List.replicate (l.length - k) 0
theorem headRow_zero (l : List UInt8) : headRow l 0 = List.replicate l.length 0 := by unfold headRow; rw [List.take_zero, List.nil_append, Nat.sub_zero]
theorem headRow_len (l : List UInt8) (k : Nat) (h : k ≤ l.length) : (headRow l k).length = l.length := by unfold headRow; rw [List.length_append, List.length_replicate, List.length_take]; omega
theorem headRow_full (l : List UInt8) : headRow l l.length = l := by unfold headRow; rw [List.take_length, Nat.sub_self, List.replicate_zero, List.append_nil]
theorem headRow_set (l : List UInt8) (k : Nat) (h : k < l.length) : (headRow l k).set k (l.getD k 0) = headRow l (k + 1) := by
  have e : l.length - k = (l.length - (k + 1)) + 1 := by omega
  have hl : (l.take k).length = k := by simp; omega
  rw [headRow, headRow, e, List.replicate_succ, List.set_append_right _ _ (by omega), hl, Nat.sub_self, List.set_cons_zero, List.take_succ_eq_append_getElem h, List.append_assoc]
  simp [List.getD, List.getElem?_eq_getElem h]
/-- an octal digit by its place -/
def octDig (v : Nat) (j : Nat) : UInt8 := UInt8.ofNat (48 + v / 8 ^ j % 8)
theorem octDig_val (v j : Nat) : (octDig v j).toNat = 48 + v / 8 ^ j % 8 := by
  unfold octDig; rw [UInt8.toNat_ofNat']; have := Nat.mod_lt (v / 8 ^ j) (show 0 < 8 by decide); omega
theorem octDig_oct (v j : Nat) : isOct (octDig v j) = true := by
  rw [isOct_iff, octDig_val]; have := Nat.mod_lt (v / 8 ^ j) (show 0 < 8 by decide); omega
theorem octDig_high (v j : Nat) (h : v < 8 ^ j) : octDig v j = 48 := by
  unfold octDig; rw [Nat.div_eq_of_lt h]; rfl
def octRow (v n : Nat) : List UInt8 := placeRow (octDig v) n
theorem octRow_all (v : Nat) : ∀ n, (octRow v n).all isOct = true
  | 0 => rfl
  | n + 1 => by
    have ih := octRow_all v n
    unfold octRow at *
    rw [placeRow_succ, List.all_cons, octDig_oct, ih]; rfl
theorem octRow_val (v : Nat) : ∀ n, octAcc 0 (octRow v n) = v % 8 ^ n
  | 0 => by unfold octRow; rw [placeRow_zero, octAcc_nil, Nat.pow_zero, Nat.mod_one]
  | n + 1 => by
    have ih := octRow_val v n
    unfold octRow at *
    rw [placeRow_succ, octAcc_cons, octAcc_pow, ih, placeRow_len, octDig_val, Nat.pow_succ, Nat.mod_mul, Nat.zero_mul, Nat.zero_add, show 48 + v / 8 ^ n % 8 - 48 = v / 8 ^ n % 8 by omega, Nat.mul_comm, Nat.add_comm]
theorem octRow_pad (v d : Nat) (h : v < 8 ^ d) : ∀ k, octRow v (d + k) = List.replicate k 48 ++ octRow v d
  | 0 => by rw [Nat.add_zero, List.replicate_zero, List.nil_append]
  | k + 1 => by
    have ih := octRow_pad v d h k
    unfold octRow at *
    have hk : v < 8 ^ (d + k) := Nat.lt_of_lt_of_le h (Nat.pow_le_pow_right (by decide) (by omega))
    rw [← Nat.add_assoc, placeRow_succ, octDig_high v _ hk, ih, List.replicate_succ, List.cons_append]
/-- how many octal digits v has -/
def nd8 (v : Nat) : Nat := if v < 8 then 1 else nd8 (v / 8) + 1
theorem nd8_pos (v : Nat) : 1 ≤ nd8 v := by unfold nd8; split <;> omega
theorem nd8_spec : ∀ v, v < 8 ^ nd8 v := by
  intro v
  induction v using Nat.strongRecOn with
  | ind v ih =>
    unfold nd8
    by_cases h : v < 8
    · rw [if_pos h]; simpa using h
    · rw [if_neg h, Nat.pow_succ]
      have := ih (v / 8) (by omega)
      omega
theorem nd8_le : ∀ v n, 1 ≤ n → v < 8 ^ n → nd8 v ≤ n := by
  intro v
  induction v using Nat.strongRecOn with
  | ind v ih =>
    intro n hn h
    unfold nd8
    by_cases h8 : v < 8
    · rw [if_pos h8]; exact hn
    · rw [if_neg h8]
      obtain ⟨m, rfl⟩ : ∃ m, n = m + 1 := ⟨n - 1, by omega⟩
      have hm : 1 ≤ m := by
        rcases Nat.eq_zero_or_pos m with h0 | h0
        · subst h0; simp at h; omega
        · exact h0
      rw [Nat.pow_succ] at h
      have := ih (v / 8) (by omega) m hm (by omega)
      omega
theorem nd8_iff (v n : Nat) (hn : 1 ≤ n) : nd8 v ≤ n ↔ v < 8 ^ n :=
  ⟨fun h => Nat.lt_of_lt_of_le (nd8_spec v) (Nat.pow_le_pow_right (by decide) h), nd8_le v n hn⟩
/-- a byte of a number's binary form by its place -/
def binByte (v : Int) (j : Nat) : UInt8 := UInt8.ofNat (v / 256 ^ j % 256).toNat
theorem binByte_val (v : Int) (j : Nat) : ((binByte v j).toNat : Int) = v / 256 ^ j % 256 := by
  unfold binByte
  have h1 := Int.emod_nonneg (v / 256 ^ j) (show (256 : Int) ≠ 0 by decide)
  have h2 := Int.emod_lt_of_pos (v / 256 ^ j) (show (0 : Int) < 256 by decide)
  rw [UInt8.toNat_ofNat']; omega
def bin256 (v : Int) (n : Nat) : List UInt8 := placeRow (binByte v) n
theorem bin256_len (v : Int) (n : Nat) : (bin256 v n).length = n := placeRow_len _ n
theorem bin256_val (v : Int) : ∀ n, binAcc 0 (bin256 v n) = v % 256 ^ n
  | 0 => by unfold bin256; rw [placeRow_zero, binAcc_nil, Int.pow_zero, Int.emod_one]
  | n + 1 => by
    have ih := bin256_val v n
    unfold bin256 at *
    rw [placeRow_succ, binAcc_cons, binAcc_pow, ih, placeRow_len, binByte_val, Int.zero_mul, Int.zero_add, Int.pow_succ]
    have hp : (0 : Int) < 256 ^ n := Int.pow_pos (by decide)
    generalize (256 : Int) ^ n = p at *
    have e1 := Int.emod_add_mul_ediv v p
    have e2 := Int.emod_add_mul_ediv (v / p) 256
    have e3 : v / (p * 256) = v / p / 256 := by rw [Int.ediv_ediv_of_nonneg (by omega)]
    have e4 := Int.emod_add_mul_ediv v (p * 256)
    rw [e3] at e4
    have e5 : p * (v / p) = p * (v / p % 256) + p * 256 * (v / p / 256) := by
      rw [Int.mul_assoc, ← Int.mul_add, e2]
    rw [Int.mul_comm (v / p % 256) p]
    omega
end Go.Proofs.YtamgiffkhnfpmaaDoor
namespace Go.Proofs.YtamgiffkhnfpmaaDoor
set_option linter.unusedVariables false
set_option linter.unusedSimpArgs false
open Go.ChangeShapes Go.WideShapes Go.ChangeAt Go.RowKit
/-- a blank or a byte 0 -/
def isGap (b : UInt8) : Bool := b == 32 || b == 0
/-- l without the blanks and the bytes 0 at its end -/
def trimR (l : List UInt8) : List UInt8 := (l.reverse.dropWhile isGap).reverse
theorem trimR_nil : trimR [] = [] := rfl
theorem trimR_gap (t : List UInt8) (c : UInt8) (h : isGap c = true) : trimR (t ++ [c]) = trimR t := by
  unfold trimR
  rw [List.reverse_append, List.reverse_singleton, List.singleton_append, List.dropWhile_cons_of_pos h]
theorem trimR_end (t : List UInt8) (c : UInt8) (h : isGap c = false) : trimR (t ++ [c]) = t ++ [c] := by
  unfold trimR
  rw [List.reverse_append, List.reverse_singleton, List.singleton_append, List.dropWhile_cons_of_neg (by rw [h]; exact Bool.false_ne_true)]
  simp
theorem dropWhile_all {p : UInt8 → Bool} : ∀ (l : List UInt8), l.all p = true → l.dropWhile p = []
  | [], _ => rfl
  | c :: l, h => by
    rw [List.all_cons, Bool.and_eq_true] at h
    rw [List.dropWhile_cons_of_pos h.1, dropWhile_all l h.2]
theorem dropWhile_ne {p : UInt8 → Bool} : ∀ (l : List UInt8), l.all p = false → l.dropWhile p ≠ []
  | [], h => by simp at h
  | c :: l, h => by
    by_cases hc : p c = true
    · rw [List.dropWhile_cons_of_pos hc]
      rw [List.all_cons, hc, Bool.true_and] at h
      exact dropWhile_ne l h
    · rw [List.dropWhile_cons_of_neg hc]
      simp
theorem dropWhile_join {p : UInt8 → Bool} : ∀ (x y : List UInt8), x.all p = false → (x ++ y).dropWhile p = x.dropWhile p ++ y
  | [], _, h => by simp at h
  | c :: x, y, h => by
    by_cases hc : p c = true
    · rw [List.cons_append, List.dropWhile_cons_of_pos hc, List.dropWhile_cons_of_pos hc]
      rw [List.all_cons, hc, Bool.true_and] at h
      exact dropWhile_join x y h
    · rw [List.cons_append, List.dropWhile_cons_of_neg hc, List.dropWhile_cons_of_neg hc, List.cons_append]
theorem dropWhile_pass {p : UInt8 → Bool} : ∀ (x y : List UInt8), x.all p = true → (x ++ y).dropWhile p = y.dropWhile p
  | [], _, _ => rfl
  | c :: x, y, h => by
    rw [List.all_cons, Bool.and_eq_true] at h
    rw [List.cons_append, List.dropWhile_cons_of_pos h.1, dropWhile_pass x y h.2]
theorem trimR_pass (x y : List UInt8) (h : y.all isGap = true) : trimR (x ++ y) = trimR x := by
  unfold trimR
  rw [List.reverse_append, dropWhile_pass _ _ (by rw [List.all_reverse]; exact h)]
theorem trimR_join (x y : List UInt8) (h : y.all isGap = false) : trimR (x ++ y) = x ++ trimR y := by
  unfold trimR
  rw [List.reverse_append, dropWhile_join _ _ (by rw [List.all_reverse]; exact h), List.reverse_append, List.reverse_reverse]
theorem oct_no_gap (c : UInt8) (h : isOct c = true) : isGap c = false := by
  rw [isOct_iff] at h
  simp only [isGap, Bool.or_eq_false_iff, beq_eq_false_iff_ne, ne_eq]
  refine ⟨fun e => ?_, fun e => ?_⟩ <;> subst e <;> simp at h
theorem trimR_oct (D : List UInt8) (h : D.all isOct = true) : trimR D = D := by
  by_cases h0 : D = []
  · subst h0; rfl
  · obtain ⟨t, c, rfl⟩ : ∃ t c, D = t ++ [c] := ⟨D.dropLast, D.getLast h0, (List.dropLast_concat_getLast h0).symm⟩
    have hc : isOct c = true := by
      rw [List.all_append, Bool.and_eq_true] at h
      simpa using h.2
    exact trimR_end t c (oct_no_gap c hc)
/-- the digits ahead; what lies behind them -/
def octHead (m : List UInt8) : List UInt8 := m.takeWhile isOct
def octTail (m : List UInt8) : List UInt8 := m.dropWhile isOct
theorem octHead_all (m : List UInt8) : (octHead m).all isOct = true := by
  unfold octHead
  induction m with
  | nil => rfl
  | cons c m ih =>
    by_cases h : isOct c = true
    · rw [List.takeWhile_cons_of_pos h, List.all_cons, h, ih]; rfl
    · rw [List.takeWhile_cons_of_neg h]; rfl
theorem oct_split (m : List UInt8) : octHead m ++ octTail m = m := List.takeWhile_append_dropWhile
theorem octTail_head (m : List UInt8) : ∀ c r, octTail m = c :: r → isOct c = false := by
  unfold octTail
  induction m with
  | nil => intro c r h; cases h
  | cons d m ih =>
    intro c r h
    by_cases hd : isOct d = true
    · rw [List.dropWhile_cons_of_pos hd] at h; exact ih c r h
    · rw [List.dropWhile_cons_of_neg hd] at h
      cases h
      simpa using hd
/-- the document's answer -/
def Plain.octal (l : List UInt8) : Int × Int :=
  let m := l.dropWhile (· == 32)
  if (octTail m).all isGap then
    (if octAcc 0 (octHead m) ≤ 9223372036854775807 then (((octAcc 0 (octHead m) : Nat) : Int), 0) else (0, 11))
  else (0, 10)
/-- what the program looks at: the text between the blanks -/
theorem trim_good (m : List UInt8) (h : (octTail m).all isGap = true) : trimR m = octHead m := by
  have e := trimR_pass (octHead m) (octTail m) h
  rw [oct_split] at e
  rw [e, trimR_oct _ (octHead_all m)]
theorem trim_bad (m : List UInt8) (h : (octTail m).all isGap = false) : (trimR m).all isOct = false := by
  have e := trimR_join (octHead m) (octTail m) h
  rw [oct_split] at e
  rw [e, List.all_append]
  have hne : trimR (octTail m) ≠ [] := by
    unfold trimR
    intro h0
    have h1 : (octTail m).reverse.dropWhile isGap = [] := by simpa using h0
    exact dropWhile_ne _ (by rw [List.all_reverse]; exact h) h1
  cases ht : octTail m with
  | nil => rw [ht] at hne; exact absurd trimR_nil hne
  | cons c r =>
    have hc := octTail_head m c r ht
    have hpre : ∃ s, trimR (octTail m) = c :: s := by
      have hsub : trimR (octTail m) <+: octTail m := by
        unfold trimR
        have := List.dropWhile_suffix (l := (octTail m).reverse) isGap
        have h2 := List.reverse_prefix.2 this
        rwa [List.reverse_reverse] at h2
      rw [ht] at hsub hne ⊢
      cases hq : trimR (c :: r) with
      | nil => exact absurd hq hne
      | cons x s =>
        rw [hq] at hsub
        obtain ⟨z, hz⟩ := hsub
        rw [List.cons_append] at hz
        injection hz with h1 _
        exact ⟨s, by rw [h1]⟩
    obtain ⟨s, hs⟩ := hpre
    rw [ht] at hs
    rw [hs, List.all_cons, hc]
    simp
end Go.Proofs.YtamgiffkhnfpmaaDoor
