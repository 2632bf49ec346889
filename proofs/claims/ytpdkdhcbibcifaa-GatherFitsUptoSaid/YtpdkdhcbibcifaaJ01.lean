/-
  J01: Base, Args, ArgsUpto, GrLaw, GrTree, GrMap, Copy, UseBytes, Rowl, joined.
-/
import Derived.WalkKit
import Derived.ProofKit
import Derived.OpenShut
import Derived.WalkSpells
import Derived.BigQuiet
import Derived.Deep.QuietTactic
import Derived.Lib.Hide
import Derived.Lib.ConvBytes
import Derived.Lib.SlBytesConst
import Derived.Deep.Slices
import Derived.SizedLaws
import Derived.ShutString
import Derived.ChangeOld
import Derived.Test.YtpdkdhcbibcifaaRows
import Derived.Maps.OwnSet
import Derived.Maps.RangeWalk
import Derived.Test.YtpdkdhcbibcifaaProg
namespace Go.Proofs.Ytpdkdhcbibcifaa
set_option linter.unusedVariables false
set_option linter.unusedSimpArgs false
open Go.ChangeShapes Go.WideShapes Go.ChangeAt Go.RowKit

/-- a byte as the model holds it -/
def u8v (b : UInt8) : Value := .int .u8 (b.toNat : Int)
theorem u8v_def (b : UInt8) : u8v b = .int .u8 (b.toNat : Int) := rfl
theorem u8v_inj {a b : UInt8} (h : u8v a = u8v b) : a = b := by
  have : (a.toNat : Int) = b.toNat := by simpa [u8v] using h
  exact UInt8.toNat_inj.1 (by omega)

/-- the cells from an address on -/
def Cs (w : World) (a : Option Addr) (xs : List Value) : Prop := ∀ j v, xs[j]? = some v → ∃ x : Addr, a = some x ∧ w.cell? (x.add j) = some v

/-- a slice of n elements of sz cells each: its cells -/
def IsSl (w : World) (sz : Nat) (a : Option Addr) (n cap : Nat) (xs : List Value) : Prop := xs.length = n * sz ∧ n ≤ cap ∧ cap ≤ maxLen ∧ Cs w a xs ∧ (a = none → n = 0 ∧ cap = 0)

/-- a slice of bytes -/
def Bs (w : World) (a : Option Addr) (n cap : Nat) (l : List UInt8) : Prop := IsSl w 1 a n cap (l.map u8v)

/-- every cell that was there reads as it did -/
def Keeps (w w' : World) : Prop := ∀ p v, w.cell? p = some v → w'.cell? p = some v

theorem Keeps.refl (w : World) : Keeps w w := fun _ _ h => h
theorem Keeps.trans {a b c : World} (h : Keeps a b) (k : Keeps b c) : Keeps a c := fun p v hv => k p v (h p v hv)
theorem Below.keeps {w w' : World} (h : Below w.heap.size w w') : Keeps w w' := fun p v hv => by
  rw [h.cell (World.block_lt_of_cell? (w := w) (a := p) hv)]; exact hv
theorem Keeps.cs {w w' : World} {a : Option Addr} {xs : List Value} (k : Keeps w w') (h : Cs w a xs) : Cs w' a xs := fun j v hj => by
  obtain ⟨x, hx, hc⟩ := h j v hj
  exact ⟨x, hx, k _ _ hc⟩
theorem Keeps.sl {w w' : World} {sz : Nat} {a : Option Addr} {n cap : Nat} {xs : List Value} (k : Keeps w w') (h : IsSl w sz a n cap xs) : IsSl w' sz a n cap xs := ⟨h.1, h.2.1, h.2.2.1, k.cs h.2.2.2.1, h.2.2.2.2⟩
theorem Keeps.bs {w w' : World} {a : Option Addr} {n cap : Nat} {l : List UInt8} (k : Keeps w w') (h : Bs w a n cap l) : Bs w' a n cap l := k.sl h
theorem Below.bs {w w' : World} {a : Option Addr} {n cap : Nat} {l : List UInt8} (k : Below w.heap.size w w') (h : Bs w a n cap l) : Bs w' a n cap l := (Below.keeps k).sl h

theorem Keeps.alloc (w : World) (o : Obj) : Keeps w (w.alloc o) := fun p v hv => by
  rw [World.cell?_alloc_lt w o p (World.block_lt_of_cell? (w := w) (a := p) hv)]; exact hv
theorem Keeps.drew (w : World) : Keeps w w.drew := fun _ _ h => h
theorem Keeps.drewN (w : World) (n : Nat) : Keeps w (w.drewN n) := fun _ _ h => h
theorem Below.drewN {B : Nat} {a w : World} (h : Below B a w) (n : Nat) : Below B a (w.drewN n) := ⟨h.os, h.tape, h.output, h.size, h.block⟩
theorem Below.seq {w0 w w' : World} (h : Below w0.heap.size w0 w) (k : Below w.heap.size w w') : Below w0.heap.size w0 w' := h.trans (k.mono h.size)
theorem bcell {W w1 : World} (hb : Below W.heap.size W w1) : (∀ b o, b < W.heap.size → w1.cell? ⟨b, o, none⟩ = W.cell? ⟨b, o, none⟩) ∧ (∀ b o, b < W.heap.size → w1.frozen? ⟨b, o, none⟩ = W.frozen? ⟨b, o, none⟩) :=
  ⟨fun b o h => hb.cell (p := ⟨b, o, none⟩) h, fun b o h => hb.frozen (p := ⟨b, o, none⟩) h⟩
theorem Bs.len {w : World} {a : Option Addr} {n cap : Nat} {l : List UInt8} (h : Bs w a n cap l) : l.length = n := by have := h.1; simpa using this
theorem Bs.cap {w : World} {a : Option Addr} {n cap : Nat} {l : List UInt8} (h : Bs w a n cap l) : n ≤ cap := h.2.1
theorem Bs.max {w : World} {a : Option Addr} {n cap : Nat} {l : List UInt8} (h : Bs w a n cap l) : cap ≤ 9223372036854775807 := h.2.2.1
theorem Cs.at {w : World} {a : Option Addr} {xs : List Value} (h : Cs w a xs) (k : Nat) (v : Value) (hk : xs[k]? = some v) :
    ∃ b off, a = some ⟨b, off, none⟩ ∧ w.cell? ⟨b, off + k, none⟩ = some v := by
  obtain ⟨⟨b, off, sp⟩, rfl, hc⟩ := h k v hk
  by_cases h0 : k = 0
  · subst h0
    have hs : sp = none := by
      simp only [Addr.add, if_true] at hc
      simpa using World.cell?_spot hc
    subst hs
    exact ⟨b, off, rfl, by simpa [Addr.add] using hc⟩
  · have h0' : xs[0]?.isSome = true := by
      have hl : k < xs.length := (List.getElem?_eq_some_iff.1 hk).1
      simp; omega
    obtain ⟨v0, hv0⟩ := Option.isSome_iff_exists.1 h0'
    obtain ⟨x, hx, hc0⟩ := h 0 v0 hv0
    cases hx
    have hs : sp = none := by
      simp only [Addr.add, if_true] at hc0
      simpa using World.cell?_spot hc0
    subst hs
    exact ⟨b, off, rfl, by simpa [Addr.add, h0] using hc⟩
/-- the byte number k of a slice: where it lies -/
theorem Bs.at {w : World} {a : Option Addr} {n cap : Nat} {l : List UInt8} (h : Bs w a n cap l) (k : Nat) (hk : k < n) :
    ∃ b off, a = some ⟨b, off, none⟩ ∧ w.cell? ⟨b, off + k, none⟩ = some (.int .u8 ((l.getD k 0).toNat : Int)) := by
  refine h.2.2.2.1.at k _ ?_
  have hl := h.len
  have : k < l.length := by omega
  simp [List.getD, List.getElem?_eq_getElem this, u8v]

theorem length_bytes (l : List UInt8) : (l.map u8v).length = l.length * 1 := by simp
theorem bytes_oneCell (l : List UInt8) : ∀ u ∈ l.map u8v, u.oneCell' = true := by
  intro u hu
  obtain ⟨_, _, rfl⟩ := List.mem_map.1 hu
  rfl
/-- what is owned is there -/
theorem own_isSl {w : World} {base : Nat} {e : TypeId} {sz : Nat} {a : Option Addr} {n c : Nat} {xs : List Value} (h : w.ownsRow base e sz (.slice a n c) n xs) : IsSl w sz a n c xs := by
  obtain ⟨hl, h⟩ := h
  rcases h with ⟨hv, h0⟩ | ⟨g, cap, cur, hv, hb, hh, hn, hm, hs, ht⟩
  · simp only [Value.slice.injEq] at hv
    obtain ⟨rfl, rfl, rfl⟩ := hv
    have : xs = [] := List.eq_nil_of_length_eq_zero (by simpa using hl)
    subst this
    exact ⟨by simp, Nat.le_refl _, by unfold maxLen; omega, fun j v hj => by simp at hj, fun _ => ⟨rfl, rfl⟩⟩
  · simp only [Value.slice.injEq, true_and] at hv
    obtain ⟨rfl, rfl⟩ := hv
    refine ⟨hl, hn, hm, fun j v hj => ⟨_, rfl, ?_⟩, fun h => by cases h⟩
    rw [Addr.add_lit]
    simp only [World.cell?, hh, Nat.zero_add]
    rw [← ht] at hj
    have hj' := hj
    rw [List.getElem?_take] at hj'
    split at hj'
    · simpa using hj'
    · cases hj'
theorem own_slice {w : World} {base : Nat} {e : TypeId} {sz : Nat} {v : Value} {n : Nat} {xs : List Value} (h : w.ownsRow base e sz v n xs) : ∃ a c, v = .slice a n c := by
  obtain ⟨_, h⟩ := h
  rcases h with ⟨hv, h0⟩ | ⟨g, cap, cur, hv, _⟩
  · exact ⟨none, 0, by rw [hv, h0]⟩
  · exact ⟨_, _, hv⟩
/-- a new block of cells as a slice -/
theorem isSl_new (w : World) (e : TypeId) (sz n : Nat) (cs : Array Value) (h : cs.size = n * sz) (hm : n ≤ maxLen) : IsSl (w.alloc (.cells cs e)) sz (some ⟨w.heap.size, 0, none⟩) n n cs.toList := by
  refine ⟨by simpa using h, Nat.le_refl _, hm, fun j v hj => ⟨_, rfl, ?_⟩, fun h => by cases h⟩
  rw [Addr.add_lit, Nat.zero_add, World.cell?_alloc_new]
  simpa using hj
theorem isSl_mark (w : World) (e : TypeId) (sz n : Nat) (cs : Array Value) (fr : Nat × Nat) (h : cs.size = n * sz) (hm : n ≤ maxLen) : IsSl (w.alloc (.cells cs e fr)) sz (some ⟨w.heap.size, 0, none⟩) n n cs.toList := by
  refine ⟨by simpa using h, Nat.le_refl _, hm, fun j v hj => ⟨_, rfl, ?_⟩, fun h => by cases h⟩
  rw [Addr.add_lit, Nat.zero_add, World.cell?_alloc_mark]
  simpa using hj
theorem below_app {B base : Nat} {w0 w w' : World} {e : TypeId} {sz : Nat} {v : Value} {n : Nat} {xs : List Value} (h : Below B w0 w) (ho : w.ownsRow base e sz v n xs) (hg : w.grownBy w' v.ownBlock) (h1 : B ≤ base) (h2 : B ≤ w.heap.size) : Below B w0 w' :=
  h.grown hg h2 fun k hk => by have := (ho.lt k hk).1; omega
section laws
variable {P : Program} {ops : Array Oper} {rest : List Oper} {o : Oper} {a : Act} {w : World} {Q : Exit → Act → World → Prop}
/-- an operation that ends in a value -/
theorem wpList_value (hg : o.guard = none) (v : Value) (w' : World) (h : (execOp a.eval o).run P w = .ok (.value v) w')
    (hk : wpList P ops Q rest (a.put o.dst v) w') : wpList P ops Q (o :: rest) a w :=
  wpList_plain hg fun K hK => by unfold Oper.wp; rw [h]; exact hK _ _ hk
/-- append onto a slice that the call owns, whatever the source -/
theorem wpList_app (hgd : o.guard = none) (s x : Operand) (t : TypeId) (ho : o.op = .call { callee := .builtin .append, args := #[s, x], argTypes := #[t, t] })
    (base : Nat) (e : TypeId) (z : Value) (sz bytes : Nat) (ht : P.underlying t = some (.slice e)) (hi : (P.info? e).map (fun i => (i.zero, i.size, i.bytes)) = some (some z, sz, bytes))
    (hzs : z.cells.size = sz) (hsz : 0 < sz) (hb0 : 0 < bytes) {a1 : Option Addr} {n c1 : Nat} {xs : List Value} (hs : a.eval s = .slice a1 n c1) (hown : w.ownsRow base e sz (.slice a1 n c1) n xs)
    {a2 : Option Addr} {m c2 : Nat} {news : List Value} (hx : a.eval x = .slice a2 m c2) (hsrc : IsSl w sz a2 m c2 news) (h1 : ∀ u ∈ news, u.oneCell' = true)
    (hbytes : (n + m) * bytes ≤ 140737488355328) (hbase : base ≤ w.heap.size)
    (h : ∀ a' c' w', w'.ownsRow base e sz (.slice a' (n + m) c') (n + m) (xs ++ news) → w.grownBy w' (Value.slice a1 n c1).ownBlock → wpList P ops Q rest (a.put o.dst (.slice a' (n + m) c')) w') :
    wpList P ops Q (o :: rest) a w := by
  obtain ⟨i, hi, hz0, hz1, hz2⟩ := info_parts hi
  cases a2 with
  | none =>
    obtain ⟨rfl, rfl⟩ := hsrc.2.2.2.2 rfl
    have hnews : news = [] := List.eq_nil_of_length_eq_zero (by simpa using hsrc.1)
    subst hnews
    refine wpList_plain hgd fun K hK' => ?_
    have hrun := run_append_owned_none (P := P) w base t o.type e i sz ht hi _ n xs hown
    unfold Oper.wp
    simp [execOp, ho, resolve, invoke, builtin, hs, hx, hrun, Result.andThen]
    exact hK' _ _ (by simpa using h a1 c1 w (by simpa using hown) (World.grownBy.refl _ _))
  | some ad =>
    have hle : n + m ≤ (n + m) * bytes := Nat.le_mul_of_pos_right _ hb0
    refine wpList_append_own w hgd s x t ho base e i z sz bytes ht hi hz0 hz1 hz2 hzs hsz _ n xs hs hown ad m c2 news hx hsrc.1 (fun j u hj => ?_) h1 (by unfold maxLen; omega) hbytes hbase (fun v' w' h2 h3 _ => ?_)
    · obtain ⟨x, hx, hc⟩ := hsrc.2.2.2.1 j u hj
      cases hx
      exact hc
    · obtain ⟨a', c', rfl⟩ := own_slice h2
      exact h a' c' w' h2 h3
/-- string(b), b a slice of bytes -/
theorem wpList_str_of_bs (hgd : o.guard = none) (src dst : TypeId) (x : Operand) (ho : o.op = .convert src dst x) {e : TypeId} (hs : P.underlying src = some (.slice e)) (he : P.underlying e = some (.int .u8)) (hd : P.underlying dst = some .string)
    {ao : Option Addr} {n c : Nat} {l : List UInt8} (hx : a.eval x = .slice ao n c) (hb : Bs w ao n c l) (h : wpList P ops Q rest (a.put o.dst (.string ⟨l.toArray⟩)) w) : wpList P ops Q (o :: rest) a w := by
  refine wpList_value hgd (.string ⟨l.toArray⟩) w ?_ h
  have hr : (convert src dst (.slice ao n c)).run P w = .ok (.string ⟨l.toArray⟩) w := by
    cases ao with
    | none =>
      obtain ⟨rfl, rfl⟩ := hb.2.2.2.2 rfl
      have : l = [] := List.eq_nil_of_length_eq_zero hb.len
      subst this
      exact run_convert_bytes_nil w src e hs he 0 0 dst hd
    | some ad =>
      obtain rfl := hb.len
      exact run_convert_bytes_back w src dst e ad c l hs he hd (fun j hj => by
        obtain ⟨x, hx, hc⟩ := hb.2.2.2.1 j (u8v l[j]) (by simp [List.getElem?_eq_getElem hj])
        cases hx
        exact hc)
  simp [execOp, ho, hx, hr, Result.andThen]
theorem bytesWorld_keeps (w : World) (e : TypeId) (s : ByteArray) : Keeps w (Lib.bytesWorld w e s) := fun p v hv => by
  rw [Lib.bytesWorld_old w e s p (World.block_lt_of_cell? (w := w) (a := p) hv)]; exact hv
theorem bytesWorld_below (w : World) (e : TypeId) (s : ByteArray) : Below w.heap.size w (Lib.bytesWorld w e s) :=
  ⟨by simp [Lib.bytesWorld, World.freeze]; rfl, by simp [Lib.bytesWorld, World.freeze], by simp [Lib.bytesWorld, World.freeze]; rfl, by rw [Lib.bytesWorld_size]; omega, fun k hk => Lib.bytesWorld_at_old w e s k hk⟩
theorem bytesWorld_bs (w : World) (e : TypeId) (l : List UInt8) (h : l.length ≤ 140737488355328) : Bs (Lib.bytesWorld w e ⟨l.toArray⟩) (some ⟨w.heap.size, 0, none⟩) l.length (grownCap w l.length 0 e) l := by
  refine ⟨by simp, grownCap_ge w _ 0 e, grownCap_le_maxLen w _ 0 e (by unfold maxLen; omega), fun j v hj => ⟨_, rfl, ?_⟩, fun h => by cases h⟩
  rw [Addr.add_lit, Nat.zero_add]
  have hjl : j < l.length := by have := (List.getElem?_eq_some_iff.1 hj).1; simpa using this
  rw [Lib.bytesWorld_cell w e ⟨l.toArray⟩ j (by simpa [ByteArray.size] using hjl)]
  simp [List.getElem?_eq_getElem hjl] at hj
  subst hj
  simp [List.getD, List.getElem?_eq_getElem hjl, u8v]
/-- []byte(s) -/
theorem wpList_bs_of_str (hgd : o.guard = none) (src dst : TypeId) (x : Operand) (ho : o.op = .convert src dst x) {e : TypeId} (hs : P.underlying src = some .string) (hd : P.underlying dst = some (.slice e)) (he : P.underlying e = some (.int .u8))
    {l : List UInt8} (hx : a.eval x = .string ⟨l.toArray⟩) (hl : l.length ≤ 140737488355328)
    (h : ∀ a' c' w', Bs w' a' l.length c' l → Below w.heap.size w w' → wpList P ops Q rest (a.put o.dst (.slice a' l.length c')) w') : wpList P ops Q (o :: rest) a w := by
  have hr := Lib.run_convert_string_bytes (P := P) w src dst e ⟨l.toArray⟩ hs hd he
  refine wpList_value hgd _ _ ?_ (h _ _ _ (bytesWorld_bs w e l hl) (bytesWorld_below w e _))
  simp [execOp, ho, hx, hr, Result.andThen, ByteArray.size]
/-- x[lo:hi] of a slice of bytes; no bound: 'none' -/
theorem bs_cut {w : World} {ao : Option Addr} {n c : Nat} {l : List UInt8} (hb : Bs w ao n c l) (lo hi : Nat) (h1 : lo ≤ hi) (h2 : hi ≤ n) : Bs w (if c = lo then ao else ao.map (·.add (lo * 1))) (hi - lo) (c - lo) ((l.take hi).drop lo) := by
  have hl := hb.len; have hc := hb.cap; have hm := hb.max
  refine ⟨by simp; omega, by omega, by unfold maxLen; omega, fun j v hj => ?_, fun hn => ?_⟩
  · simp only [List.map_drop, List.map_take, List.getElem?_drop, List.getElem?_take] at hj
    split at hj
    · rename_i hlt
      obtain ⟨x, hx, hcell⟩ := hb.2.2.2.1 (lo + j) v hj
      subst hx
      have hne : ¬ c = lo := by omega
      rw [if_neg hne]
      refine ⟨x.add (lo * 1), rfl, ?_⟩
      rw [Go.Deep.add_add, Nat.mul_one]
      exact hcell
    · cases hj
  · split at hn
    · obtain ⟨h3, h4⟩ := hb.2.2.2.2 hn; omega
    · have : ao = none := by cases ao <;> simp_all
      obtain ⟨h3, h4⟩ := hb.2.2.2.2 this; omega
theorem wpList_slice_bs (hgd : o.guard = none) (t : TypeId) (x : Operand) (lo hi : Option Operand) (ho : o.op = .slice t x lo hi none) {e : TypeId} (ht : P.underlying t = some (.slice e)) (hsz : (P.info? e).map (·.size) = some 1)
    {ao : Option Addr} {n c : Nat} {l : List UInt8} (hx : a.eval x = .slice ao n c) (hb : Bs w ao n c l) (L M : Nat) (k1 k2 : IntKind)
    (hL : match lo with | some p => a.eval p = .int k1 (L : Int) | none => L = 0) (hM : match hi with | some p => a.eval p = .int k2 (M : Int) | none => M = n) (h1 : L ≤ M) (h2 : M ≤ n)
    (h : ∀ a', Bs w a' (M - L) (c - L) ((l.take M).drop L) → wpList P ops Q rest (a.put o.dst (.slice a' (M - L) (c - L))) w) : wpList P ops Q (o :: rest) a w := by
  have hcap := hb.cap
  refine wpList_value hgd _ _ ?_ (h _ (bs_cut hb L M h1 h2))
  obtain ⟨i, hi', hs'⟩ := Option.map_eq_some_iff.1 hsz
  have e1 : (L : Int) ≤ M := by omega
  have e2 : (M : Int) ≤ c := by omega
  have e3 : (n : Int) ≤ c := by omega
  have e4 : (L : Int) ≤ n := by omega
  have f2 : M ≤ c := by omega
  have f4 : L ≤ n := by omega
  cases lo <;> cases hi <;> simp only at hL hM
  all_goals first | subst hL | skip
  all_goals first | subst hM | skip
  all_goals simp [execOp, Instr.sliceAt, Instr.slice, Instr.sliceBounds, Instr.sliceBound, run_underlying ht, sizeOf, typeInfo, asIntOf, Result.andThen, *]
end laws
theorem flat_at {α : Type} {f : α → List Value} {sz : Nat} (hf : ∀ x, (f x).length = sz) : ∀ (l : List α) (k j : Nat) (hk : k < l.length), j < sz → (l.flatMap f)[k * sz + j]? = (f l[k])[j]?
  | [], k, j, hk, _ => by simp at hk
  | x :: l, 0, j, _, hj => by simp [List.flatMap_cons, List.getElem?_append_left, hf x, hj]
  | x :: l, k + 1, j, hk, hj => by
    have ih := flat_at hf l k j (by simpa using hk) hj
    rw [List.flatMap_cons, List.getElem?_append_right (by rw [hf x, Nat.add_mul]; omega), hf x]
    have e : (k + 1) * sz + j - sz = k * sz + j := by rw [Nat.add_mul]; omega
    rw [e, ih]
    rfl
theorem flat_len {α : Type} {f : α → List Value} {sz : Nat} (hf : ∀ x, (f x).length = sz) (l : List α) : (l.flatMap f).length = l.length * sz := by
  induction l with
  | nil => simp
  | cons x l ih => rw [List.flatMap_cons, List.length_append, hf x, ih, List.length_cons, Nat.add_mul]; omega
theorem ret_int {k : IntKind} {a b : Int} (h : a = b) : Ending.returned (.int k a) = .returned (.int k b) := by rw [h]
theorem ret_bool {a b : Bool} (h : a = b) : Ending.returned (.bool a) = .returned (.bool b) := by rw [h]
theorem ret_str {a b : ByteArray} (h : a = b) : Ending.returned (.string a) = .returned (.string b) := by rw [h]
theorem beq_t {α : Type} [BEq α] [LawfulBEq α] {a b : α} (h : a = b) : (a == b) = true := by simp [h]
theorem beq_f {α : Type} [BEq α] [LawfulBEq α] {a b : α} (h : ¬ a = b) : (a == b) = false := by simp [h]
theorem bne_t {α : Type} [BEq α] [LawfulBEq α] {a b : α} (h : ¬ a = b) : (a != b) = true := by simp [h]
theorem bne_f {α : Type} [BEq α] [LawfulBEq α] {a b : α} (h : a = b) : (a != b) = false := by simp [h]
theorem dec_t {p : Prop} [Decidable p] (h : p) : decide p = true := by simp [h]
theorem dec_f {p : Prop} [Decidable p] (h : ¬ p) : decide p = false := by simp [h]
theorem list_ext_getD {l m : List UInt8} (h : l.length = m.length) (hk : ∀ k, k < l.length → l.getD k 0 = m.getD k 0) : l = m := by
  apply List.ext_getElem h
  intro i h1 h2
  have := hk i h1
  simpa [List.getD, List.getElem?_eq_getElem h1, List.getElem?_eq_getElem h2] using this
/-- the byte number k of a string -/
theorem str_at (l : List UInt8) (k : Nat) (h : k < l.length) : (⟨l.toArray⟩ : ByteArray)[k]'(by simpa [ByteArray.size] using h) = l.getD k 0 := by
  simp [ByteArray.getElem_eq_getElem_data, List.getD, List.getElem?_eq_getElem h]
theorem u8_lt (b : UInt8) : (b.toNat : Int) < 256 := by have := b.toNat_lt; omega
end Go.Proofs.Ytpdkdhcbibcifaa
namespace Go.Proofs.Ytpdkdhcbibcifaa
set_option linter.unusedVariables false
set_option linter.unusedSimpArgs false
open Go.ChangeShapes Go.WideShapes Go.ChangeAt Go.RowKit
open Go.ChangeMaps (open_string shut_string)
section
variable {H : Type} {enc : TypeId × Value → H} {P : Program} {w : World} {base : Nat}
/-- what the form's reach says of a datum -/
def Sized (P : Program) (t : TypeId) (d : DataW H) : Prop := ∀ m ∈ d.weights P t, m ≤ reachBytes
theorem sized_of {ts : List TypeId} {ds : List (DataW H)} (h : (DataW.weightsEach P ts ds).all (· ≤ reachBytes) = true) (j : Nat) {t : TypeId} {d : DataW H} (ht : ts[j]? = some t) (hd : ds[j]? = some d) : Sized P t d :=
  fun m hm => by simpa using List.all_eq_true.1 h _ (DataW.weights_mem_each ht hd m hm)
theorem wf_u8 {z : Int} (h : (Lit.int .u8 z).wf = true) : 0 ≤ z ∧ z < 256 := by
  have := bounds_u8 h
  omega
theorem wf_i64 {z : Int} (h : (Lit.int .i64 z).wf = true) : -9223372036854775808 ≤ z ∧ z < 9223372036854775808 := by
  have := bounds_i64 h
  omega
def toU8 (z : Int) : UInt8 := UInt8.ofNat z.toNat
theorem u8v_toU8 {z : Int} (h0 : 0 ≤ z) (h1 : z < 256) : u8v (toU8 z) = .int .u8 z := by
  have : ((UInt8.ofNat z.toNat).toNat : Int) = z := by rw [UInt8.toNat_ofNat']; omega
  simp only [u8v, toU8, this]
theorem open_bytes_trod {t e : TypeId} {a : Option Addr} {n c fuel : Nat} {v : Value} {d : DataW H} {p : List MemPlace} (ht : P.underlying t = some (.slice e)) (he : P.underlying e = some (.int .u8)) (hc : P.cellsOf e = 1) (hby : P.bytesOf e = 1)
    {_hv : v = .slice a n c} (hf : DataW.trod enc P w 0 (fun _ => true) true fuel t [v] = some (d, p)) (hs : Sized P t d) :
    ∃ a n c l, v = .slice a n c ∧ Bs w a n c l ∧ c ≤ 140737488351232 := by
  subst _hv
  rcases open_ints ht he hc hf with ⟨hcs, _⟩ | ⟨x, l, c', zs, hcs, _, hl, hm, hz, hx, hcell, hwz⟩
  · simp [Value.cells] at hcs
    obtain ⟨rfl, rfl, rfl⟩ := hcs
    exact ⟨none, 0, 0, [], rfl, ⟨rfl, Nat.le_refl _, by decide, fun j v hj => by simp at hj, fun _ => ⟨rfl, rfl⟩⟩, by omega⟩
  · simp [Value.cells] at hcs
    obtain ⟨rfl, rfl, rfl⟩ := hcs
    simp only [if_true] at hz
    simp only [Prod.mk.injEq] at hx
    obtain ⟨rfl, rfl⟩ := hx
    have hreach : c ≤ 140737488351232 := by
      have := hs ((lits IntKind.u8 (zs.take n)).length + (lits IntKind.u8 (zs.drop n)).length) (by simp only [DataW.weights, ht, hby, Nat.mul_one]; exact List.mem_cons_self)
      simp only [lits, List.length_map, List.length_take, List.length_drop, reachBytes] at this
      omega
    refine ⟨some x, n, c, (zs.take n).map toU8, rfl, ⟨by simp; omega, hl, hm, fun j v hj => ⟨x, rfl, ?_⟩, fun h => by cases h⟩, hreach⟩
    simp only [List.map_map, List.getElem?_map, Option.map_eq_some_iff, List.getElem?_take] at hj
    obtain ⟨z, hzj, rfl⟩ := hj
    split at hzj
    · have hjl : j < zs.length := (List.getElem?_eq_some_iff.1 hzj).1
      have hmem : z ∈ zs := List.mem_of_getElem? hzj
      obtain ⟨w0, w1⟩ := wf_u8 (hwz z hmem)
      have := hcell j hjl
      simp only [List.getD, hzj, Option.getD_some] at this
      simp only [Function.comp, u8v_toU8 w0 w1]
      exact this
    · cases hzj
/-- an argument of bytes -/
theorem open_bytes {t e : TypeId} {v : Value} {d : DataW H} {p : List MemPlace} {r : Reach} {b0 : Nat} (ht : P.underlying t = some (.slice e)) (he : P.underlying e = some (.int .u8)) (hc : P.cellsOf e = 1) (hby : P.bytesOf e = 1)
    (hv : Value.okWide P w r b0 t v) (h : DataW.Trod enc P w 0 (fun _ => true) true t v d p) (hs : Sized P t d) :
    ∃ a n c l, v = .slice a n c ∧ Bs w a n c l ∧ c ≤ 140737488351232 := by
  obtain ⟨a, n, c, rfl⟩ := okWide_slice ht hv
  obtain ⟨fuel, hf⟩ := h
  exact open_bytes_trod (_hv := rfl) ht he hc hby hf hs
/-- an argument that is a string -/
theorem open_str {t : TypeId} {v : Value} {d : DataW H} {p : List MemPlace} {r : Reach} {b0 : Nat} (ht : P.underlying t = some .string) (hv : Value.okWide P w r b0 t v) (h : DataW.Trod enc P w 0 (fun _ => true) true t v d p) (hs : Sized P t d) :
    ∃ l : List UInt8, v = .string ⟨l.toArray⟩ ∧ l.length ≤ 140737488351232 := by
  obtain ⟨s, rfl, rfl, rfl, hm⟩ := open_string ht hv h
  refine ⟨s.data.toList, rfl, ?_⟩
  have := hs s.data.toList.length (by simp only [DataW.weights]; exact List.mem_cons_self)
  simpa only [reachBytes] using this
/-- an argument that is an int -/
theorem open_i64 {t : TypeId} {v : Value} {d : DataW H} {p : List MemPlace} {r : Reach} {b0 : Nat} (ht : P.underlying t = some (.int .i64)) (hv : Value.okWide P w r b0 t v) (h : DataW.Trod enc P w 0 (fun _ => true) true t v d p) :
    ∃ z, v = .int .i64 z ∧ -9223372036854775808 ≤ z ∧ z < 9223372036854775808 := by
  obtain ⟨z, rfl, rfl, rfl, hz⟩ := open_int ht hv h
  exact ⟨z, rfl, wf_i64 hz⟩
/-- an argument that is a byte -/
theorem open_u8 {t : TypeId} {v : Value} {d : DataW H} {p : List MemPlace} {r : Reach} {b0 : Nat} (ht : P.underlying t = some (.int .u8)) (hv : Value.okWide P w r b0 t v) (h : DataW.Trod enc P w 0 (fun _ => true) true t v d p) :
    ∃ b : UInt8, v = u8v b := by
  obtain ⟨z, rfl, rfl, rfl, hz⟩ := open_int ht hv h
  obtain ⟨h0, h1⟩ := wf_u8 hz
  exact ⟨toU8 z, (u8v_toU8 h0 h1).symm⟩
theorem weightsAll_mem {e : TypeId} : ∀ {ds : List (DataW H)} {d : DataW H}, d ∈ ds → ∀ m ∈ d.weights P e, m ∈ DataW.weightsAll P e ds
  | d0 :: ds, d, hd, m, hm => by
    simp only [DataW.weightsAll, List.mem_append]
    rcases List.mem_cons.1 hd with rfl | hd
    · exact Or.inl hm
    · exact Or.inr (weightsAll_mem hd m hm)
/-- an argument that is a slice of a type whose reading is known: rows of cells 'f x' with 'Q x' each -/
theorem open_rows {α : Type} [Inhabited α] {t e : TypeId} {sz by_ : Nat} {f : α → List Value} {Q : α → Prop} {v : Value} {d : DataW H} {p : List MemPlace} {r : Reach} {b0 : Nat} (ht : P.underlying t = some (.slice e)) (hc : P.cellsOf e = sz) (hby : P.bytesOf e = by_)
    (hsz : ∀ x, (f x).length = sz) (hr : ∀ fuel cs d p, DataW.trod enc P w 0 (fun _ => true) true fuel e cs = some (d, p) → Sized P e d → ∃ x, cs = f x ∧ Q x)
    (hv : Value.okWide P w r b0 t v) (h : DataW.Trod enc P w 0 (fun _ => true) true t v d p) (hs : Sized P t d) :
    ∃ (a : Option Addr) (n c : Nat) (l : List α), v = .slice a n c ∧ IsSl w sz a n c (l.flatMap f) ∧ (∀ x ∈ l, Q x) ∧ c * by_ ≤ 140737488351232 := by
  obtain ⟨a, n, c, rfl⟩ := okWide_slice ht hv
  obtain ⟨fuel, hf⟩ := h
  rcases Go.Deep.open_slice ht hf with ⟨hcs, _⟩ | ⟨x, l, c', m, k, D, Pl, hcs, _, hl, hm, hmm, hx, hi⟩
  · simp [Value.cells] at hcs
    obtain ⟨rfl, rfl, rfl⟩ := hcs
    exact ⟨none, 0, 0, [], rfl, ⟨by simp, Nat.le_refl _, by decide, fun j v hj => by simp at hj, fun _ => ⟨rfl, rfl⟩⟩, by simp, by omega⟩
  · simp [Value.cells] at hcs
    obtain ⟨rfl, rfl, rfl⟩ := hcs
    simp only [if_true] at hmm
    subst hmm
    simp only [Prod.mk.injEq] at hx
    obtain ⟨rfl, rfl⟩ := hx
    have hreach : m * by_ ≤ 140737488351232 := by
      have := hs ((((List.range n).map D).length + ((List.range (m - n)).map fun j => D (n + j)).length) * P.bytesOf e) (by simp only [DataW.weights, ht]; exact List.mem_cons_self)
      simp only [List.length_map, List.length_range, reachBytes, hby] at this
      rwa [show n + (m - n) = m by omega] at this
    have hel : ∀ i, ∃ y : α, i < n → (∀ j v, (f y)[j]? = some v → w.cell? ((x.add (i * sz)).add j) = some v) ∧ Q y := by
      intro i
      by_cases hin : i < n
      · obtain ⟨cs, hcell, htr⟩ := hi i (by omega)
        have hsd : Sized P e (D i) := fun m' hm' => hs m' (by
          simp only [DataW.weights, ht]
          refine List.mem_cons_of_mem _ (List.mem_append.2 (Or.inl ?_))
          exact weightsAll_mem (List.mem_map.2 ⟨i, List.mem_range.2 hin, rfl⟩) _ hm')
        obtain ⟨y, rfl, hq⟩ := hr _ _ _ _ htr hsd
        obtain ⟨_, hlen, hat⟩ := World.cells?_some hcell
        rw [hc] at hat hlen
        refine ⟨y, fun _ => ⟨fun j v hj => ?_, hq⟩⟩
        have hjl : j < sz := by have := (List.getElem?_eq_some_iff.1 hj).1; omega
        rw [hat j hjl]; exact hj
      · exact ⟨default, fun h => absurd h hin⟩
    obtain ⟨g, hg⟩ := Classical.skolem.1 hel
    refine ⟨some x, n, m, (List.range n).map g, rfl, ⟨by rw [flat_len hsz]; simp, hl, hm, fun j v hj => ⟨x, rfl, ?_⟩, fun h => by cases h⟩, ?_, hreach⟩
    · have hjl : j < n * sz := by
        have := (List.getElem?_eq_some_iff.1 hj).1
        rw [flat_len hsz] at this; simpa using this
      have hsz0 : 0 < sz := by
        rcases Nat.eq_zero_or_pos sz with h0 | h0
        · subst h0; simp at hjl
        · exact h0
      have hd : j / sz < n := (Nat.div_lt_iff_lt_mul hsz0).2 hjl
      have hmod : j % sz < sz := Nat.mod_lt _ hsz0
      have hdm : j / sz * sz + j % sz = j := by rw [Nat.mul_comm]; exact Nat.div_add_mod j sz
      have hfl := flat_at hsz ((List.range n).map g) (j / sz) (j % sz) (by simpa using hd) hmod
      rw [hdm] at hfl
      rw [hfl] at hj
      have e : ((List.range n).map g)[j / sz]'(by simpa using hd) = g (j / sz) := by simp
      rw [e] at hj
      have := (hg (j / sz) hd).1 _ _ hj
      rw [Go.Deep.add_add, hdm] at this
      exact this
    · intro y hy
      obtain ⟨i, hi, rfl⟩ := List.mem_map.1 hy
      exact (hg i (List.mem_range.1 hi)).2
end
end Go.Proofs.Ytpdkdhcbibcifaa
namespace Go.Proofs.Ytpdkdhcbibcifaa
set_option linter.unusedVariables false
set_option linter.unusedSimpArgs false
open Go.ChangeShapes Go.WideShapes Go.ChangeAt Go.RowKit
section
variable {H : Type} {enc : TypeId × Value → H} {P : Program} {w : World} {base : Nat}
theorem bulk_one (d : DataW H) : 1 ≤ Rows.uptoBulk d := by
  cases d with
  | lit l => cases l <;> simp [Rows.uptoBulk]
  | nil => simp [Rows.uptoBulk]
  | ptr d => simp [Rows.uptoBulk]
  | slice elems spare => simp [Rows.uptoBulk]
  | agg parts => simp [Rows.uptoBulk]
  | iface t d => simp [Rows.uptoBulk]
  | map entries => simp [Rows.uptoBulk]
  | held h => simp [Rows.uptoBulk]
theorem bulk_len : ∀ (l : List (DataW H)), l.length ≤ Rows.uptoBulkAll l
  | [] => by simp [Rows.uptoBulkAll]
  | x :: r => by
    have h1 := bulk_one x
    have h2 := bulk_len r
    simp only [Rows.uptoBulkAll, List.length_cons]; omega
theorem small_of {l : List (DataW H)} (h : Rows.uptoSmall H l = true) : Rows.uptoBulkAll l ≤ 1048576 := by simpa [Rows.uptoSmall] using h
theorem small_0 {d : DataW H} {r : List (DataW H)} (h : Rows.uptoSmall H (d :: r) = true) : Rows.uptoBulk d ≤ 1048576 := by
  have := small_of h
  simp only [Rows.uptoBulkAll] at this; omega
theorem small_1 {d d' : DataW H} {r : List (DataW H)} (h : Rows.uptoSmall H (d' :: d :: r) = true) : Rows.uptoBulk d ≤ 1048576 := by
  have := small_of h
  simp only [Rows.uptoBulkAll] at this; omega
theorem small_mem {l : List (DataW H)} (h : Rows.uptoSmall H l = true) {d : DataW H} (hd : d ∈ l) : Rows.uptoBulk d ≤ 1048576 := by
  have h0 := small_of h
  have hx : ∀ (l : List (DataW H)), d ∈ l → Rows.uptoBulk d ≤ Rows.uptoBulkAll l := by
    intro l
    induction l with
    | nil => intro h; cases h
    | cons x r ih =>
      intro h
      simp only [Rows.uptoBulkAll]
      rcases List.mem_cons.1 h with rfl | h
      · omega
      · have := ih h; omega
  have := hx l hd; omega
/-- an argument of bytes of the second form -/
theorem open_bytes_upto {t e : TypeId} {v : Value} {d : DataW H} {p : List MemPlace} {r : Reach} {b0 : Nat} (ht : P.underlying t = some (.slice e)) (he : P.underlying e = some (.int .u8)) (hc : P.cellsOf e = 1)
    (hv : Value.okWide P w r b0 t v) (h : DataW.Trod enc P w 0 (fun _ => true) true t v d p) (hs : Rows.uptoBulk d ≤ 1048576) :
    ∃ a n c l, v = .slice a n c ∧ Bs w a n c l ∧ c ≤ 1048576 := by
  obtain ⟨a, n, c, rfl⟩ := okWide_slice ht hv
  obtain ⟨fuel, hf⟩ := h
  rcases open_ints ht he hc hf with ⟨hcs, _⟩ | ⟨x, l, c', zs, hcs, _, hl, hm, hz, hx, hcell, hwz⟩
  · simp [Value.cells] at hcs
    obtain ⟨rfl, rfl, rfl⟩ := hcs
    exact ⟨none, 0, 0, [], rfl, ⟨rfl, Nat.le_refl _, by decide, fun j v hj => by simp at hj, fun _ => ⟨rfl, rfl⟩⟩, by omega⟩
  · simp [Value.cells] at hcs
    obtain ⟨rfl, rfl, rfl⟩ := hcs
    simp only [if_true] at hz
    simp only [Prod.mk.injEq] at hx
    obtain ⟨rfl, rfl⟩ := hx
    have hreach : c ≤ 1048576 := by
      simp only [Rows.uptoBulk] at hs
      have h1 := bulk_len (lits (H := H) IntKind.u8 (zs.take n))
      have h2 := bulk_len (lits (H := H) IntKind.u8 (zs.drop n))
      simp only [lits, List.length_map, List.length_take, List.length_drop] at h1 h2
      simp only [lits] at hs
      omega
    refine ⟨some x, n, c, (zs.take n).map toU8, rfl, ⟨by simp; omega, hl, hm, fun j v hj => ⟨x, rfl, ?_⟩, fun h => by cases h⟩, hreach⟩
    simp only [List.map_map, List.getElem?_map, Option.map_eq_some_iff, List.getElem?_take] at hj
    obtain ⟨z, hzj, rfl⟩ := hj
    split at hzj
    · have hjl : j < zs.length := (List.getElem?_eq_some_iff.1 hzj).1
      have hmem : z ∈ zs := List.mem_of_getElem? hzj
      obtain ⟨w0, w1⟩ := wf_u8 (hwz z hmem)
      have := hcell j hjl
      simp only [List.getD, hzj, Option.getD_some] at this
      simp only [Function.comp, u8v_toU8 w0 w1]
      exact this
    · cases hzj
end
end Go.Proofs.Ytpdkdhcbibcifaa
namespace Go.Proofs.Ytpdkdhcbibcifaa
set_option linter.unusedVariables false
set_option linter.unusedSimpArgs false
namespace Gr
abbrev Bt := List UInt8
/-- a line -/
structure Ln where
  path : Bt
  kind : Int
  mode : Int
  uid : Int
  gid : Int
  sec : Int
  nano : Int
  data : Bt
  target : Bt
  peer : Bt
/-- a node -/
structure Nd where
  id : Int
  kind : Int
  mode : Int
  uid : Int
  gid : Int
  sec : Int
  nano : Int
  data : Bt
  target : Bt
  ents : List (Bt × Int)
def good (p : Bt) : Bool := p != [] && p != [46] && p != [46, 46] && decide (p.length ≤ 255) && !(p.contains 0) && !(p.contains 47)
def validT (sec nano : Int) : Bool := decide (0 ≤ nano ∧ nano < 1000000000 ∧ (sec = -1099511627777 → 0 < nano) ∧ -1099511627777 ≤ sec ∧ sec ≤ 1099511627776)
def textOk (kind : Int) (t : Bt) : Bool := if kind = 3 then t != [] && decide (t.length ≤ 4096) && !(t.contains 0) else t == []
def sound (n : Nd) : Bool :=
  decide (1 ≤ n.kind ∧ n.kind ≤ 3 ∧ 0 ≤ n.mode ∧ n.mode ≤ 4095 ∧ 0 ≤ n.uid ∧ n.uid ≤ 2147483647 ∧ 0 ≤ n.gid ∧ n.gid ≤ 2147483647) &&
  (decide (n.kind = 1) || n.data == []) && (decide (n.kind = 2) || n.ents.isEmpty) && validT n.sec n.nano && textOk n.kind n.target
def nodeOf (g : List Nd) (id : Int) : Option Nd := g.find? fun n => n.id == id
def look (p : List (Int × Int)) (id : Int) : Option Int := p.lookup id
def enterE (g : List Nd) (pid : Int) : List (Bt × Int) → Bt → List (Int × Int) → Option (List (Int × Int))
  | [], _, p => some p
  | (nm, id) :: es, last, p =>
    match nodeOf g id with
    | none => none
    | some t =>
      if good nm = false ∨ (Op.bytesLess nm last || nm == last) = true then none
      else if t.kind ≠ 2 then enterE g pid es nm p
      else if (p.lookup id).isSome then none else enterE g pid es nm (p ++ [(id, pid)])
def enterN (g : List Nd) : List Nd → List (Int × Int) → Option (List (Int × Int))
  | [], p => some p
  | n :: ns, p =>
    match enterE g n.id n.ents [] p with
    | none => none
    | some p' => enterN g ns p'
/-- k steps upwards -/
def climb (p : List (Int × Int)) : Nat → Int → Option Int
  | 0, id => some id
  | k + 1, id => match p.lookup id with | none => none | some u => climb p k u
def Ends (p : List (Int × Int)) (id : Int) : Prop := ∃ k, climb p k id = none
def Acy (p : List (Int × Int)) : Prop := ∀ id, Ends p id
def Rising : Int → List Nd → Prop
  | _, [] => True
  | last, n :: ns => last < n.id ∧ n.id ≤ 1099511627776 ∧ sound n = true ∧ Rising n.id ns
def entSum : List Nd → Nat
  | [] => 0
  | n :: ns => n.ents.length + entSum ns
/-- a graph that is well-formed -/
def Chk (g : List Nd) : Prop := g.length ≤ 4096 ∧ Rising 0 g ∧ entSum g ≤ 8192 ∧ ∃ p, enterN g g [] = some p ∧ Acy p
/-- the state of the walk through a tree -/
structure TS where
  out : List Ln
  first : List (Int × Bt)
  bytes : Nat
def TS.peer (st : TS) (id : Int) : Bt := (st.first.lookup id).getD []
def mkLine (n : Nd) (path peer : Bt) : Ln := ⟨path, n.kind, n.mode, n.uid, n.gid, n.sec, n.nano, if peer = [] then n.data else [], if peer = [] then n.target else [], peer⟩
def below (path : Bt) (top : Bool) (nm : Bt) : Bt := if top then nm else path ++ 47 :: nm
def kids (n : Nd) (path : Bt) (top : Bool) : List (Int × Bt) := n.ents.map fun e => (e.2, below path top e.1)
def TS.next (st : TS) (n : Nd) (path : Bt) : TS := ⟨st.out ++ [mkLine n path (st.peer n.id)], if st.peer n.id = [] then st.first ++ [(n.id, path)] else st.first, st.bytes + path.length⟩
inductive Wk (g : List Nd) : List (Int × Bt) → TS → Option TS → Prop
  | done (st : TS) : Wk g [] st (some st)
  | big (id : Int) (path : Bt) (r : List (Int × Bt)) (st : TS) (h : 4194304 < st.bytes + path.length) : Wk g ((id, path) :: r) st none
  | step (id : Int) (path : Bt) (r : List (Int × Bt)) (st : TS) (n : Nd) (res : Option TS) (h : st.bytes + path.length ≤ 4194304) (hn : nodeOf g id = some n) (hk : Wk g (kids n path st.out.isEmpty ++ r) (st.next n path) res) : Wk g ((id, path) :: r) st res
theorem Wk.det {g : List Nd} {s : List (Int × Bt)} {st : TS} {x y : Option TS} (hx : Wk g s st x) (hy : Wk g s st y) : x = y := by
  induction hx with
  | done st => cases hy; rfl
  | big id path r st h =>
    cases hy with
    | big => rfl
    | step _ _ _ _ n res h' => omega
  | step id path r st n res h hn hk ih =>
    cases hy with
    | big _ _ _ _ h' => omega
    | step _ _ _ _ n' res' h' hn' hk' =>
      rw [hn] at hn'
      cases hn'
      exact ih hk'
def st0 : TS := ⟨[], [], 0⟩
def TreeOk (g : List Nd) (root : Int) (ls : List Ln) : Prop := Chk g ∧ (∃ n, nodeOf g root = some n ∧ n.kind = 2) ∧ ∃ st, Wk g [(root, [46])] st0 (some st) ∧ st.out = ls
theorem TreeOk.det {g : List Nd} {root : Int} {x y : List Ln} (hx : TreeOk g root x) (hy : TreeOk g root y) : x = y := by
  obtain ⟨_, _, s, hs, rfl⟩ := hx
  obtain ⟨_, _, t, ht, rfl⟩ := hy
  have := hs.det ht
  cases this
  rfl
/-! ### nodes of a checked graph -/
theorem Rising.ids : ∀ {g : List Nd} {last : Int}, Rising last g → ∀ n ∈ g, last < n.id
  | n :: ns, last, h, m, hm => by
    rcases List.mem_cons.1 hm with rfl | hm
    · exact h.1
    · have := Rising.ids h.2.2.2 m hm
      have := h.1
      omega
theorem Rising.nodup : ∀ {g : List Nd} {last : Int}, Rising last g → g.Pairwise fun a b => a.id < b.id
  | [], _, _ => List.Pairwise.nil
  | n :: ns, last, h => List.Pairwise.cons (fun m hm => Rising.ids h.2.2.2 m hm) (Rising.nodup h.2.2.2)
theorem Rising.sound : ∀ {g : List Nd} {last : Int}, Rising last g → ∀ n ∈ g, sound n = true
  | n :: ns, last, h, m, hm => by
    rcases List.mem_cons.1 hm with rfl | hm
    · exact h.2.2.1
    · exact Rising.sound h.2.2.2 m hm
theorem nodeOf_mem {g : List Nd} {id : Int} {n : Nd} (h : nodeOf g id = some n) : n ∈ g ∧ n.id = id := by
  unfold nodeOf at h
  exact ⟨List.mem_of_find?_eq_some h, by simpa using List.find?_some h⟩
/-! ### the planting -/
/-- the last stroke -/
def cutOf : Bt → Option Nat
  | [] => none
  | b :: l => match cutOf l with
    | some k => some (k + 1)
    | none => if b = 47 then some 0 else none
theorem cutOf_none : ∀ {l : Bt}, cutOf l = none ↔ 47 ∉ l
  | [] => by simp [cutOf]
  | b :: l => by
    have ih := @cutOf_none l
    cases h : cutOf l with
    | some k =>
      have : 47 ∈ l := by
        apply Classical.byContradiction
        intro hn
        rw [ih.2 hn] at h; cases h
      simp [cutOf, h, this]
    | none =>
      have := ih.1 h
      by_cases hb : b = 47
      · simp [cutOf, h, hb]
      · simp only [cutOf, h, if_neg hb, true_iff, List.mem_cons, not_or]
        exact ⟨fun e => hb e.symm, this⟩
theorem cutOf_some : ∀ {l : Bt} {k : Nat}, cutOf l = some k ↔ ∃ a b, l = a ++ 47 :: b ∧ a.length = k ∧ 47 ∉ b
  | [], k => by simp [cutOf]
  | c :: l, k => by
    have ih := fun k => @cutOf_some l k
    constructor
    · intro h
      cases hc : cutOf l with
      | some j =>
        simp only [cutOf, hc, Option.some.injEq] at h
        obtain ⟨a, b, rfl, rfl, hb⟩ := (ih j).1 hc
        exact ⟨c :: a, b, rfl, by simp; omega, hb⟩
      | none =>
        simp only [cutOf, hc] at h
        split at h
        · rename_i he
          subst he
          simp only [Option.some.injEq] at h
          subst h
          exact ⟨[], l, rfl, rfl, cutOf_none.1 hc⟩
        · cases h
    · rintro ⟨a, b, he, rfl, hb⟩
      cases a with
      | nil =>
        simp only [List.nil_append, List.cons.injEq] at he
        obtain ⟨rfl, rfl⟩ := he
        simp [cutOf, cutOf_none.2 hb]
      | cons x a =>
        simp only [List.cons_append, List.cons.injEq] at he
        obtain ⟨rfl, rfl⟩ := he
        have := (ih a.length).2 ⟨a, b, rfl, rfl, hb⟩
        simp [cutOf, this]
theorem cutOf_lt {l : Bt} {k : Nat} (h : cutOf l = some k) : k < l.length := by
  obtain ⟨a, b, rfl, rfl, _⟩ := cutOf_some.1 h
  simp
/-- the last pair of that key -/
def lastOf (p : List (Bt × Int)) (k : Bt) : Option Int := p.reverse.lookup k
def mkNode (id : Int) (l : Ln) : Nd := ⟨id, l.kind, l.mode, l.uid, l.gid, l.sec, l.nano, l.data, l.target, []⟩
def addEnt (g : List Nd) (k : Nat) (e : Bt × Int) : List Nd := g.modify k fun n => { n with ents := n.ents ++ [e] }
/-- the number of a line's node; 0: none -/
def idOf (pi : List (Bt × Int)) (g : List Nd) (l : Ln) : Int := if l.peer = [] then (g.length : Int) + 1 else (pi.lookup l.peer).getD 0
def nodes1 (g : List Nd) (l : Ln) : List Nd := if l.peer = [] then g ++ [mkNode ((g.length : Int) + 1) l] else g
def nameOf (l : Ln) : Bt := match cutOf l.path with | none => l.path | some c => l.path.drop (c + 1)
/-- the number of the parent; 0: none (R: the reference's way) -/
def parOf (R : Bool) (pi : List (Bt × Int)) (l : Ln) : Int :=
  match cutOf l.path with
  | none => 1
  | some c => if R then (lastOf (pi.drop 1) (l.path.take c)).getD 0 else (pi.lookup (l.path.take c)).getD 0
def plant (R : Bool) (pi : List (Bt × Int)) (g : List Nd) : List Ln → Option (List Nd)
  | [] => some g
  | l :: ls =>
    if (R = false ∧ (pi.lookup l.path).isSome = true) ∨ idOf pi g l = 0 then none
    else if pi = [] then plant R (pi ++ [(l.path, idOf pi g l)]) (nodes1 g l) ls
    else if parOf R pi l = 0 then none
    else plant R (pi ++ [(l.path, idOf pi g l)]) (addEnt (nodes1 g l) ((parOf R pi l).toNat - 1) (nameOf l, idOf pi g l)) ls
def Planted (R : Bool) (ls : List Ln) : Prop := ∃ g, plant R [] [] ls = some g ∧ TreeOk g 1 ls
theorem lookup_none_iff {α β : Type} [BEq α] [LawfulBEq α] {k : α} : ∀ {l : List (α × β)}, l.lookup k = none ↔ k ∉ l.map (·.1)
  | [] => by simp
  | (x, y) :: l => by
    have ih := @lookup_none_iff α β _ _ k l
    by_cases h : k = x
    · subst h; simp [List.lookup_cons]
    · rw [List.lookup_cons, beq_f h]
      simp only [ih, List.map_cons, List.mem_cons, not_or]
      exact ⟨fun h2 => ⟨h, h2⟩, fun h2 => h2.2⟩
theorem lookup_mem {α β : Type} [BEq α] [LawfulBEq α] {k : α} {v : β} : ∀ {l : List (α × β)}, l.lookup k = some v → (k, v) ∈ l
  | [], h => by simp at h
  | (x, y) :: l, h => by
    rw [List.lookup_cons] at h
    by_cases e : k = x
    · subst e
      simp only [BEq.rfl, Option.some.injEq] at h
      subst h; simp
    · rw [beq_f e] at h
      exact List.mem_cons_of_mem _ (lookup_mem h)
theorem lookup_nodup {α β : Type} [BEq α] [LawfulBEq α] {k : α} {v : β} : ∀ {l : List (α × β)}, (l.map (·.1)).Nodup → (k, v) ∈ l → l.lookup k = some v
  | [], _, h => by simp at h
  | (x, y) :: l, hn, h => by
    rw [List.lookup_cons]
    rcases List.mem_cons.1 h with h | h
    · cases h; simp
    · simp only [List.map_cons, List.nodup_cons] at hn
      have : ¬ k = x := fun e => hn.1 (List.mem_map.2 ⟨(k, v), h, e⟩)
      rw [beq_f this]
      exact lookup_nodup hn.2 h
theorem lastOf_nodup {p : List (Bt × Int)} (h : (p.map (·.1)).Nodup) (k : Bt) : lastOf p k = p.lookup k := by
  unfold lastOf
  cases hl : p.lookup k with
  | none =>
    rw [lookup_none_iff] at hl ⊢
    simpa using hl
  | some v =>
    refine lookup_nodup (by rw [List.map_reverse]; exact (List.reverse_perm _).nodup_iff.2 h) ?_
    simpa using lookup_mem hl
/-- where no path stands twice and none lies straight below the first line's own path, the two plantings are one -/
theorem plant_same (x : Bt) : ∀ (ls : List Ln) (pi : List (Bt × Int)) (g : List Nd), (pi.map (·.1) ++ ls.map (·.path)).Nodup → (pi.map (·.1) ++ ls.map (·.path)).head? = some x →
    (∀ l ∈ ls.drop (if pi = [] then 1 else 0), ∀ c, cutOf l.path = some c → l.path.take c ≠ x) → plant true pi g ls = plant false pi g ls
  | [], pi, g, _, _, _ => rfl
  | l :: ls, pi, g, hn, hx, hc => by
    have hn' : ((pi ++ [(l.path, idOf pi g l)]).map (·.1) ++ ls.map (·.path)).Nodup := by simpa using hn
    have hx' : ((pi ++ [(l.path, idOf pi g l)]).map (·.1) ++ ls.map (·.path)).head? = some x := by simpa using hx
    have hc' : ∀ m ∈ ls.drop (if pi ++ [(l.path, idOf pi g l)] = [] then 1 else 0), ∀ c, cutOf m.path = some c → m.path.take c ≠ x := by
      intro m hm
      rw [if_neg (by simp)] at hm
      refine hc m ?_
      split
      · simpa using hm
      · simp only [List.drop_zero] at hm ⊢
        exact List.mem_cons_of_mem _ hm
    have ih := fun g' => plant_same x ls (pi ++ [(l.path, idOf pi g l)]) g' hn' hx' hc'
    have htw : (pi.lookup l.path).isSome = false := by
      rw [Option.isSome_eq_false_iff, Option.isNone_iff_eq_none, lookup_none_iff]
      intro hm
      have h1 := List.nodup_append.1 hn
      exact h1.2.2 _ hm l.path (by simp) rfl
    by_cases hp : pi = []
    · simp only [plant, htw, hp, if_true]
      subst hp
      simp only [ih]
      simp
    · have hpar : parOf true pi l = parOf false pi l := by
        unfold parOf
        cases hq : cutOf l.path with
        | none => rfl
        | some c =>
          simp only [if_true]
          have hne : l.path.take c ≠ x := hc l (by rw [if_neg hp]; simp) c hq
          have hnd : (pi.map (·.1)).Nodup := (List.nodup_append.1 hn).1
          cases pi with
          | nil => exact absurd rfl hp
          | cons y ys =>
            simp only [List.map_cons, List.cons_append, List.head?_cons, Option.some.injEq] at hx
            simp only [List.drop_one, List.tail_cons]
            simp only [List.map_cons, List.nodup_cons] at hnd
            rw [lastOf_nodup hnd.2]
            obtain ⟨y1, y2⟩ := y
            simp only at hx
            rw [List.lookup_cons, beq_f (by rw [hx]; exact hne)]
            rfl
      simp only [plant, htw, hpar, ih]
      simp
end Gr
end Go.Proofs.Ytpdkdhcbibcifaa
namespace Go.Proofs.Ytpdkdhcbibcifaa
set_option linter.unusedVariables false
set_option linter.unusedSimpArgs false
namespace Gr
/-! ### the order of names -/
theorem less_irrefl : ∀ x : Bt, Op.bytesLess x x = false
  | [] => rfl
  | a :: x => by simp [Op.bytesLess, less_irrefl x, UInt8.lt_irrefl]
theorem less_trans : ∀ {x y z : Bt}, Op.bytesLess x y = true → Op.bytesLess y z = true → Op.bytesLess x z = true
  | [], [], _, h, _ => by simp [Op.bytesLess] at h
  | [], _ :: _, [], _, h => by simp [Op.bytesLess] at h
  | [], _ :: _, _ :: _, _, _ => rfl
  | _ :: _, [], _, h, _ => by simp [Op.bytesLess] at h
  | _ :: _, _ :: _, [], _, h => by simp [Op.bytesLess] at h
  | a :: x, b :: y, c :: z, h, k => by
    simp only [Op.bytesLess, Bool.or_eq_true, decide_eq_true_eq, Bool.and_eq_true, beq_iff_eq] at h k ⊢
    rcases h with h | ⟨rfl, h⟩
    · rcases k with k | ⟨rfl, k⟩
      · exact Or.inl (UInt8.lt_trans h k)
      · exact Or.inl h
    · rcases k with k | ⟨rfl, k⟩
      · exact Or.inl k
      · exact Or.inr ⟨rfl, less_trans h k⟩
theorem less_total : ∀ (x y : Bt), Op.bytesLess x y = true ∨ x = y ∨ Op.bytesLess y x = true
  | [], [] => Or.inr (Or.inl rfl)
  | [], _ :: _ => Or.inl rfl
  | _ :: _, [] => Or.inr (Or.inr rfl)
  | a :: x, b :: y => by
    simp only [Op.bytesLess, Bool.or_eq_true, decide_eq_true_eq, Bool.and_eq_true, beq_iff_eq, List.cons.injEq]
    by_cases h1 : a < b
    · exact Or.inl (Or.inl h1)
    · by_cases h2 : b < a
      · exact Or.inr (Or.inr (Or.inl h2))
      · have : a = b := by
          apply UInt8.toNat_inj.1
          rw [UInt8.lt_iff_toNat_lt] at h1 h2
          omega
        subst this
        rcases less_total x y with h | rfl | h
        · exact Or.inl (Or.inr ⟨rfl, h⟩)
        · exact Or.inr (Or.inl ⟨rfl, rfl⟩)
        · exact Or.inr (Or.inr (Or.inr ⟨rfl, h⟩))
theorem after_of {nm last : Bt} (h : ¬ (Op.bytesLess nm last || nm == last) = true) : Op.bytesLess last nm = true := by
  simp only [Bool.or_eq_true, beq_iff_eq, not_or] at h
  rcases less_total last nm with h1 | h1 | h1
  · exact h1
  · exact absurd h1.symm h.2
  · exact absurd h1 h.1
/-! ### the entries of a checked graph -/
def isDir (g : List Nd) (id : Int) : Bool := match nodeOf g id with | some n => n.kind == 2 | none => false
structure EntsOk (g : List Nd) (es : List (Bt × Int)) : Prop where
  good : ∀ e ∈ es, good e.1 = true
  there : ∀ e ∈ es, (nodeOf g e.2).isSome = true
  rise : es.Pairwise fun a b => Op.bytesLess a.1 b.1 = true
theorem enterE_ok {g : List Nd} {pid : Int} : ∀ {es : List (Bt × Int)} {last : Bt} {p p' : List (Int × Int)}, enterE g pid es last p = some p' → EntsOk g es ∧ ∀ e ∈ es, Op.bytesLess last e.1 = true
  | [], _, _, _, _ => ⟨⟨by simp, by simp, List.Pairwise.nil⟩, by simp⟩
  | (nm, id) :: es, last, p, p', h => by
    unfold enterE at h
    cases hn : nodeOf g id with
    | none => rw [hn] at h; cases h
    | some t =>
      rw [hn] at h
      simp only at h
      split at h
      · cases h
      · rename_i hg
        rw [not_or] at hg
        have hgood : good nm = true := by simpa using hg.1
        have hlt := after_of hg.2
        have hrest : ∃ q, enterE g pid es nm q = some p' := by
          split at h
          · exact ⟨_, h⟩
          · split at h
            · cases h
            · exact ⟨_, h⟩
        obtain ⟨q, hq⟩ := hrest
        obtain ⟨h1, h2⟩ := enterE_ok hq
        refine ⟨⟨fun e he => ?_, fun e he => ?_, List.Pairwise.cons (fun e he => h2 e he) h1.rise⟩, fun e he => ?_⟩
        · rcases List.mem_cons.1 he with rfl | he
          · exact hgood
          · exact h1.good e he
        · rcases List.mem_cons.1 he with rfl | he
          · simp [hn]
          · exact h1.there e he
        · rcases List.mem_cons.1 he with rfl | he
          · exact hlt
          · exact less_trans hlt (h2 e he)
theorem enterE_par {g : List Nd} {pid : Int} : ∀ {es : List (Bt × Int)} {last : Bt} {p p' : List (Int × Int)}, enterE g pid es last p = some p' → (p.map (·.1)).Nodup →
    (p'.map (·.1)).Nodup ∧ (∀ x ∈ p, x ∈ p') ∧ (∀ e ∈ es, isDir g e.2 = true → (e.2, pid) ∈ p' ∧ e.2 ∉ p.map (·.1)) ∧ es.Pairwise (fun a b => isDir g a.2 = true → isDir g b.2 = true → a.2 ≠ b.2)
  | [], _, p, p', h, hn => by simp only [enterE, Option.some.injEq] at h; subst h; exact ⟨hn, fun _ h => h, by simp, List.Pairwise.nil⟩
  | (nm, id) :: es, last, p, p', h, hnd => by
    unfold enterE at h
    cases hn : nodeOf g id with
    | none => rw [hn] at h; cases h
    | some t =>
      rw [hn] at h
      simp only at h
      split at h
      · cases h
      · split at h
        · rename_i hk
          obtain ⟨h1, h2, h3, h4⟩ := enterE_par h hnd
          have hnd : isDir g id = false := by simp [isDir, hn, hk]
          refine ⟨h1, h2, fun e he hd => ?_, List.Pairwise.cons (fun e he hd => by rw [hnd] at hd; cases hd) h4⟩
          rcases List.mem_cons.1 he with rfl | he
          · rw [hnd] at hd; cases hd
          · exact h3 e he hd
        · rename_i hk
          split at h
          · cases h
          · rename_i htw
            have hni : id ∉ p.map (·.1) := by
              rw [← lookup_none_iff]
              exact Option.not_isSome_iff_eq_none.1 htw
            have hnd' : ((p ++ [(id, pid)]).map (·.1)).Nodup := by
              rw [List.map_append, List.nodup_append]
              refine ⟨hnd, by simp, fun a ha b hb => ?_⟩
              simp at hb
              subst hb
              rintro rfl
              exact hni ha
            obtain ⟨h1, h2, h3, h4⟩ := enterE_par h hnd'
            refine ⟨h1, fun x hx => h2 x (by simp [hx]), fun e he hd => ?_, List.Pairwise.cons (fun e he _ hd => ?_) h4⟩
            · rcases List.mem_cons.1 he with rfl | he
              · exact ⟨h2 _ (by simp), hni⟩
              · obtain ⟨a, b⟩ := h3 e he hd
                refine ⟨a, fun hm => b ?_⟩
                rw [List.map_append]
                exact List.mem_append_left _ hm
            · obtain ⟨a, b⟩ := h3 e he hd
              intro e1
              refine b ?_
              simp only at e1
              rw [← e1]
              simp
theorem enterN_ok {g : List Nd} : ∀ {ns : List Nd} {p p' : List (Int × Int)}, enterN g ns p = some p' → (p.map (·.1)).Nodup →
    (p'.map (·.1)).Nodup ∧ (∀ x ∈ p, x ∈ p') ∧ ∀ n ∈ ns, EntsOk g n.ents ∧ (∀ e ∈ n.ents, isDir g e.2 = true → (e.2, n.id) ∈ p') ∧ n.ents.Pairwise (fun a b => isDir g a.2 = true → isDir g b.2 = true → a.2 ≠ b.2)
  | [], p, p', h, hn => by simp only [enterN, Option.some.injEq] at h; subst h; exact ⟨hn, fun _ h => h, by simp⟩
  | n :: ns, p, p', h, hn => by
    unfold enterN at h
    cases he : enterE g n.id n.ents [] p with
    | none => rw [he] at h; cases h
    | some q =>
      rw [he] at h
      obtain ⟨h1, h2, h3, h4⟩ := enterE_par he hn
      obtain ⟨k1, k2, k3⟩ := enterN_ok h h1
      refine ⟨k1, fun x hx => k2 x (h2 x hx), fun m hm => ?_⟩
      rcases List.mem_cons.1 hm with rfl | hm
      · exact ⟨(enterE_ok he).1, fun e he hd => k2 _ (h3 e he hd).1, h4⟩
      · exact k3 m hm
/-- what is known of a checked graph -/
structure ChkOk (g : List Nd) (p : List (Int × Int)) : Prop where
  ents : ∀ n ∈ g, EntsOk g n.ents
  par : ∀ n ∈ g, ∀ e ∈ n.ents, isDir g e.2 = true → p.lookup e.2 = some n.id
  once : ∀ n ∈ g, n.ents.Pairwise (fun a b => isDir g a.2 = true → isDir g b.2 = true → a.2 ≠ b.2)
  acy : Acy p
  sound : ∀ n ∈ g, sound n = true
theorem Chk.ok {g : List Nd} (h : Chk g) : ∃ p, ChkOk g p := by
  obtain ⟨_, h2, _, p, h4, h5⟩ := h
  obtain ⟨k1, _, k3⟩ := enterN_ok h4 (by simp)
  exact ⟨p, fun n hn => (k3 n hn).1, fun n hn e he hd => lookup_nodup k1 ((k3 n hn).2.1 e he hd), fun n hn => (k3 n hn).2.2, h5, h2.sound⟩
/-! ### the walk's invariants -/
theorem Wk.inv {g : List Nd} {I : List (Int × Bt) → TS → Prop} (hs : ∀ id path r st n, I ((id, path) :: r) st → st.bytes + path.length ≤ 4194304 → nodeOf g id = some n → I (kids n path st.out.isEmpty ++ r) (st.next n path))
    {s : List (Int × Bt)} {st : TS} {res : Option TS} (h : Wk g s st res) : I s st → ∀ fin, res = some fin → I [] fin := by
  induction h with
  | done st => intro hi fin hf; cases hf; exact hi
  | big => intro _ _ hf; cases hf
  | step id path r st n res h hn _ ih => intro hi fin hf; exact ih (hs _ _ _ _ _ hi h hn) fin hf
theorem snoc_cases {α : Type} (l : List α) : l = [] ∨ ∃ a b, l = a ++ [b] := by
  rcases List.eq_nil_or_concat l with h | ⟨a, b, h⟩
  · exact Or.inl h
  · exact Or.inr ⟨a, b, by rw [h]; simp⟩
/-! ### paths as parts -/
def shw : List Bt → Bt
  | [] => [46]
  | p :: r => p ++ r.flatMap fun q => 47 :: q
theorem shw_snoc (ps : List Bt) (nm : Bt) : shw (ps ++ [nm]) = if ps = [] then nm else shw ps ++ 47 :: nm := by
  cases ps with
  | nil => simp [shw]
  | cons p r => simp [shw]
theorem good_parts {p : Bt} (h : good p = true) : p ≠ [] ∧ p ≠ [46] ∧ p ≠ [46, 46] ∧ p.length ≤ 255 ∧ 0 ∉ p ∧ 47 ∉ p := by
  simp only [good, Bool.and_eq_true, bne_iff_ne, ne_eq, decide_eq_true_eq, Bool.not_eq_true', List.contains_eq_mem, decide_eq_false_iff_not] at h
  exact ⟨h.1.1.1.1.1, h.1.1.1.1.2, h.1.1.1.2, h.1.1.2, h.1.2, h.2⟩
def goods (ps : List Bt) : Prop := ∀ p ∈ ps, good p = true
theorem shw_ne (ps : List Bt) (h : goods ps) : shw ps ≠ [] := by
  cases ps with
  | nil => simp [shw]
  | cons p r =>
    have := (good_parts (h p (by simp))).1
    simp [shw, this]
theorem cut_shw {ps : List Bt} {nm : Bt} (h : good nm = true) : cutOf (shw (ps ++ [nm])) = if ps = [] then none else some (shw ps).length := by
  have h7 := (good_parts h).2.2.2.2.2
  rw [shw_snoc]
  split
  · exact cutOf_none.2 h7
  · exact cutOf_some.2 ⟨_, _, rfl, rfl, h7⟩
theorem shw_dot {ps : List Bt} (h : goods ps) (e : shw ps = [46]) : ps = [] := by
  rcases snoc_cases ps with rfl | ⟨qs, q, rfl⟩
  · rfl
  · have hq := good_parts (h q (by simp))
    rw [shw_snoc] at e
    split at e
    · exact absurd e hq.2.1
    · have : (shw qs ++ 47 :: q).length = 1 := by rw [e]; rfl
      have h2 : 0 < (shw qs).length := List.length_pos_iff.2 (shw_ne qs fun p hp => h p (by simp [hp]))
      simp at this
      omega
theorem shw_inj : ∀ (k : Nat) {ps qs : List Bt}, ps.length ≤ k → goods ps → goods qs → shw ps = shw qs → ps = qs
  | 0, ps, qs, hk, hp, hq, e => by
    obtain rfl : ps = [] := List.eq_nil_of_length_eq_zero (by omega)
    exact (shw_dot hq e.symm).symm
  | k + 1, ps, qs, hk, hp, hq, e => by
    rcases snoc_cases ps with rfl | ⟨ps, p, rfl⟩
    · exact (shw_dot hq e.symm).symm
    · rcases snoc_cases qs with rfl | ⟨qs, q, rfl⟩
      · exact shw_dot hp e
      · have hp1 := hp p (by simp)
        have hq1 := hq q (by simp)
        have c1 := cut_shw (ps := ps) hp1
        have c2 := cut_shw (ps := qs) hq1
        rw [e, c2] at c1
        by_cases h1 : ps = []
        · by_cases h2 : qs = []
          · subst h1; subst h2
            have e' : p = q := by simpa [shw] using e
            rw [e']
          · rw [if_pos h1, if_neg h2] at c1; cases c1
        · by_cases h2 : qs = []
          · rw [if_neg h1, if_pos h2] at c1; cases c1
          · rw [if_neg h1, if_neg h2] at c1
            rw [shw_snoc, shw_snoc, if_neg h1, if_neg h2] at e
            obtain ⟨e1, e2⟩ := List.append_inj e (by simpa using c1.symm)
            have := shw_inj k (by simp at hk; omega) (fun p hp' => hp p (by simp [hp'])) (fun p hp' => hq p (by simp [hp'])) e1
            subst this
            simp only [List.cons.injEq, true_and] at e2
            rw [e2]
/-- the parts of what is out, and of what waits -/
structure PInv (O S : List (List Bt)) : Prop where
  nodup : (O ++ S).Nodup
  pre : ∀ s ∈ S, ∀ t ∈ O ++ S, s <+: t → s = t
  good : ∀ x ∈ O ++ S, goods x
  par : ∀ x ∈ S, x ≠ [] → x.dropLast ∈ O
  top : O = [] → ∀ x ∈ S, x = []
  low : O ≠ [] → [] ∉ S
theorem prefix_snoc {r s : List Bt} {n : Bt} (h : r <+: s ++ [n]) : r = s ++ [n] ∨ r <+: s := by
  obtain ⟨t, ht⟩ := h
  rcases snoc_cases t with rfl | ⟨t, m, rfl⟩
  · left; simpa using ht
  · right
    rw [← List.append_assoc] at ht
    exact ⟨t, (List.append_inj' ht rfl).1⟩
theorem PInv.step {O S : List (List Bt)} {s : List Bt} {ns : List Bt} (h : PInv O (s :: S)) (hd : ns.Nodup) (hg : ∀ n ∈ ns, Gr.good n = true) : PInv (O ++ [s]) (ns.map (fun n => s ++ [n]) ++ S) := by
  have hnd := h.nodup
  rw [List.nodup_append] at hnd
  obtain ⟨n1, n2, n3⟩ := hnd
  rw [List.nodup_cons] at n2
  have hsO : s ∉ O := fun hm => n3 s hm s (by simp) rfl
  -- a kid is none of what was there
  have hkid : ∀ n ∈ ns, ∀ t ∈ O ++ s :: S, s ++ [n] ≠ t := by
    rintro n _ t ht rfl
    have h1 := h.pre s (by simp) _ ht ⟨[n], rfl⟩
    have h2 := congrArg List.length h1
    simp only [List.length_append, List.length_cons, List.length_nil] at h2
    omega
  have hkp : ∀ n ∈ ns, ∀ t ∈ O ++ s :: S, ¬ s ++ [n] <+: t := by
    intro n hn t ht hp
    have h1 : s <+: t := List.IsPrefix.trans ⟨[n], rfl⟩ hp
    have := h.pre s (by simp) t ht h1
    subst this
    have h2 := hp.length_le
    simp only [List.length_append, List.length_cons, List.length_nil] at h2
    omega
  have mem : ∀ t ∈ (O ++ [s]) ++ (ns.map (fun n => s ++ [n]) ++ S), t ∈ O ++ s :: S ∨ ∃ n ∈ ns, t = s ++ [n] := by
    intro t ht
    simp only [List.mem_append, List.mem_cons, List.not_mem_nil, or_false, List.mem_map] at ht ⊢
    rcases ht with (h | h) | (⟨n, hn, rfl⟩ | h)
    · exact Or.inl (Or.inl h)
    · exact Or.inl (Or.inr (Or.inl h))
    · exact Or.inr ⟨n, hn, rfl⟩
    · exact Or.inl (Or.inr (Or.inr h))
  refine ⟨?_, ?_, ?_, ?_, ?_, ?_⟩
  · have hk : (ns.map fun n => s ++ [n]).Nodup := by
      refine List.Pairwise.map _ (fun a b hab e => hab ?_) hd
      simpa using e
    rw [List.nodup_append]
    refine ⟨?_, ?_, ?_⟩
    · rw [List.nodup_append]
      exact ⟨n1, by simp, fun a ha b hb => by simp at hb; subst hb; rintro rfl; exact hsO ha⟩
    · rw [List.nodup_append]
      refine ⟨hk, n2.2, fun a ha b hb e => ?_⟩
      obtain ⟨n, hn, rfl⟩ := List.mem_map.1 ha
      exact hkid n hn b (by simp [hb]) e
    · intro a ha b hb e
      subst e
      rcases List.mem_append.1 hb with hb1 | hb1
      · obtain ⟨n, hn, rfl⟩ := List.mem_map.1 hb1
        refine hkid n hn _ ?_ rfl
        simp only [List.mem_append, List.mem_cons, List.not_mem_nil, or_false] at ha ⊢
        rcases ha with ha | ha
        · exact Or.inl ha
        · exact Or.inr (Or.inl ha)
      · rcases List.mem_append.1 ha with ha | ha
        · exact n3 a ha a (by simp [hb1]) rfl
        · simp at ha
          rw [ha] at hb1
          exact n2.1 hb1
  · intro r hr t ht hp
    rcases List.mem_append.1 hr with hr1 | hr1
    · obtain ⟨n, hn, rfl⟩ := List.mem_map.1 hr1
      rcases mem t ht with ht | ⟨m, hm, rfl⟩
      · exact absurd hp (hkp n hn t ht)
      · exact hp.eq_of_length (by simp)
    · rcases mem t ht with ht | ⟨m, hm, rfl⟩
      · exact h.pre r (by simp [hr1]) t ht hp
      · rcases prefix_snoc hp with e | e
        · exact e
        · have h2 := h.pre r (by simp [hr1]) s (by simp) e
          rw [h2] at hr1
          exact absurd hr1 n2.1
  · intro x hx
    rcases mem x hx with hx | ⟨n, hn, rfl⟩
    · exact h.good x hx
    · intro p hp
      rcases List.mem_append.1 hp with hp | hp
      · exact h.good s (by simp) p hp
      · simp at hp; subst hp; exact hg p hn
  · intro x hx hne
    rcases List.mem_append.1 hx with hx | hx
    · obtain ⟨n, hn, rfl⟩ := List.mem_map.1 hx
      simp
    · exact List.mem_append_left _ (h.par x (by simp [hx]) hne)
  · intro e; simp at e
  · intro _ hm
    rcases List.mem_append.1 hm with hm1 | hm1
    · obtain ⟨n, hn, e⟩ := List.mem_map.1 hm1
      simp at e
    · by_cases hO : O = []
      · have h2 := h.top hO s (by simp)
        rw [h2] at n2
        exact n2.1 hm1
      · exact h.low hO (by simp [hm1])
theorem shw_below {s : List Bt} {O : List (List Bt)} {b : Bool} (nm : Bt) (h1 : b = true ↔ s = []) : below (shw s) b nm = shw (s ++ [nm]) := by
  rw [shw_snoc]
  unfold below
  by_cases h : s = []
  · rw [if_pos (h1.2 h), if_pos h]
  · rw [if_neg (fun e => h (h1.1 e)), if_neg h]
theorem ents_nodup {g : List Nd} {es : List (Bt × Int)} (h : EntsOk g es) : (es.map (·.1)).Nodup :=
  List.Pairwise.map _ (fun a b hab e => by rw [e, less_irrefl] at hab; cases hab) h.rise
/-- the lines' paths -/
theorem tree_paths {g : List Nd} {root : Int} {ls : List Ln} (h : TreeOk g root ls) : ∃ O : List (List Bt), O.map shw = ls.map (·.path) ∧ O.Nodup ∧ (∀ x ∈ O, goods x) ∧ O.head? = some [] ∧
    ∀ a x b, O = a ++ x :: b → x ≠ [] → x.dropLast ∈ a := by
  obtain ⟨hc, ⟨n0, hn0, _⟩, st, hw, rfl⟩ := h
  obtain ⟨p, hp⟩ := hc.ok
  have := Wk.inv (I := fun s st => ∃ O S, O.map shw = st.out.map (·.path) ∧ S.map shw = s.map (·.2) ∧ PInv O S ∧ (O = [] → s ≠ []) ∧ (O ≠ [] → O.head? = some []) ∧ ∀ a x b, O = a ++ x :: b → x ≠ [] → x.dropLast ∈ a)
    (fun id path r st n hi hb hn => by
      obtain ⟨O, S, e1, e2, hI, h0, hh, hpar⟩ := hi
      cases S with
      | nil => simp at e2
      | cons s S =>
        simp only [List.map_cons, List.cons.injEq] at e2
        obtain ⟨rfl, e2⟩ := e2
        have hne := hp.ents n (nodeOf_mem hn).1
        have htop : st.out.isEmpty = true ↔ s = [] := by
          have hO : st.out = [] ↔ O = [] := by
            rw [← List.map_eq_nil_iff (f := fun l : Ln => l.path), ← e1, List.map_eq_nil_iff]
          rw [List.isEmpty_iff, hO]
          refine ⟨fun h => hI.top h s (by simp), fun h => Classical.byContradiction fun hn => hI.low hn ?_⟩
          subst h; simp
        refine ⟨O ++ [s], (n.ents.map (·.1)).map (fun m => s ++ [m]) ++ S, ?_, ?_, hI.step (ents_nodup hne) (fun m hm => ?_), by simp, fun _ => ?_, ?_⟩
        · simp [TS.next, mkLine, e1]
        · simp only [kids, List.map_append, List.map_map, e2]
          congr 1
          exact List.map_congr_left fun e he => (shw_below (O := O) e.1 htop).symm
        · obtain ⟨e, he, rfl⟩ := List.mem_map.1 hm
          exact hne.good e he
        · by_cases hO : O = []
          · subst hO
            simp [hI.top rfl s (by simp)]
          · rw [List.head?_append, hh hO]; rfl
        · intro a x b he hx
          rcases snoc_cases b with rfl | ⟨b, y, rfl⟩
          · obtain ⟨e3, e4⟩ := List.append_inj' he rfl
            simp only [List.cons.injEq, and_true] at e4
            subst e3; subst e4
            exact hI.par s (by simp) hx
          · have he' : O ++ [s] = (a ++ x :: b) ++ [y] := by simpa using he
            exact hpar a x b (List.append_inj' he' rfl).1 hx)
    hw ⟨[], [[]], rfl, rfl, ⟨by simp, by simp, by simp [goods], by simp, by simp, by simp⟩, by simp, by simp, by simp⟩ st rfl
  obtain ⟨O, S, e1, e2, hI, h0, hh, hpar⟩ := this
  cases S with
  | cons => simp at e2
  | nil =>
    have hO : O ≠ [] := fun e => by simpa using h0 e
    exact ⟨O, e1, by simpa using hI.nodup, fun x hx => hI.good x (by simp [hx]), hh hO, hpar⟩
/-- no path twice; the first is the dot; none lies straight below the dot -/
theorem tree_distinct {g : List Nd} {root : Int} {ls : List Ln} (h : TreeOk g root ls) : (ls.map (·.path)).Nodup ∧ (ls.map (·.path)).head? = some [46] ∧ ∀ l ∈ ls.drop 1, ∀ c, cutOf l.path = some c → l.path.take c ≠ [46] := by
  obtain ⟨O, e1, hn, hg, hh, hpar⟩ := tree_paths h
  refine ⟨?_, ?_, fun l hl c hc => ?_⟩
  · rw [← e1]
    refine List.pairwise_map.2 (List.Pairwise.imp_of_mem (fun {a b} ha hb hab e => hab ?_) hn)
    exact shw_inj _ (Nat.le_refl _) (hg a ha) (hg b hb) e
  · rw [← e1, List.head?_map, hh]; rfl
  · have hm : l.path ∈ O.map shw := by rw [e1]; exact List.mem_map.2 ⟨l, List.mem_of_mem_drop hl, rfl⟩
    obtain ⟨x, hx, ex⟩ := List.mem_map.1 hm
    rcases snoc_cases x with rfl | ⟨ps, nm, rfl⟩
    · rw [← ex] at hc
      simp [shw, cutOf] at hc
    · have hgx := hg _ hx
      have hc' := hc
      rw [← ex, cut_shw (hgx nm (by simp))] at hc
      split at hc
      · cases hc
      · rename_i hps
        cases hc
        rw [← ex, shw_snoc, if_neg hps, List.take_left]
        exact fun e => hps (shw_dot (fun p hp => hgx p (by simp [hp])) e)
end Gr
end Go.Proofs.Ytpdkdhcbibcifaa
namespace Go.Proofs.Ytpdkdhcbibcifaa
set_option linter.unusedVariables false
set_option linter.unusedSimpArgs false
open Go.Maps (Keyed)
open Go.ChangeShapes Go.WideShapes Go.ChangeAt Go.RowKit
namespace Gr
def held (v : Value) : Option (DataW Value × List MemPlace) := some (.held v, [])
/-- the datum D answers as f says -/
def Reads {κ : Type} (mk : κ → Lit) (D : DataW Value) (f : κ → Option Value) : Prop := ∀ x, Maps.has D (mk x) = (f x).isSome ∧ ∀ v, f x = some v → ∀ z, D.atKey (mk x) z = .held v
/-- block b is a map of s entries that answers as f says -/
def Mp {κ : Type} (mk : κ → Lit) (P : Program) (k : TypeId) (w : World) (b s : Nat) (f : κ → Option Value) : Prop :=
  ∃ D : DataW Value, w.ownsMap P k held b s D ∧ Maps.size D = s ∧ Reads mk D f
section
variable {κ : Type} {mk : κ → Lit} {P : Program} {k : TypeId} {w : World} {b s : Nat} {f : κ → Option Value}
theorem Mp.made (mk : κ → Lit) (w : World) (P : Program) (k : TypeId) : Mp mk P k (w.alloc (.map #[] 0)) w.heap.size 0 (fun _ => none) :=
  ⟨.map [], World.ownsMap_made _ _ _ _, rfl, fun x => ⟨rfl, fun v hv => by cases hv⟩⟩
theorem Mp.lt (h : Mp mk P k w b s f) : b < w.heap.size := by obtain ⟨D, h, _⟩ := h; exact h.lt
theorem Mp.kept {w' : World} {row : Option Nat} (h : Mp mk P k w b s f) (hg : w.grownBy w' row) (hne : some b ≠ row) : Mp mk P k w' b s f := by
  obtain ⟨D, h1, h2, h3⟩ := h
  exact ⟨D, h1.kept hg hne, h2, h3⟩
theorem Mp.block {w' : World} (h : Mp mk P k w b s f) (hb : w'.heap[b]? = w.heap[b]?) : Mp mk P k w' b s f := by
  obtain ⟨D, ⟨es, clock, h1, h2⟩, h3⟩ := h
  exact ⟨D, ⟨es, clock, hb.trans h1, h2⟩, h3⟩
theorem Mp.below {w' : World} {B : Nat} (h : Mp mk P k w b s f) (hb : Below B w w') (hlt : b < B) : Mp mk P k w' b s f := h.block (hb.block b hlt)
theorem Mp.congr {g : κ → Option Value} (h : Mp mk P k w b s f) (e : ∀ x, f x = g x) : Mp mk P k w b s g := by
  have : f = g := funext e
  rwa [← this]
theorem ownsMap_exact {n : Nat} {D : DataW Value} (h : w.ownsMap P k held b n D) : w.ownsMap P k held b (Maps.size D) D := by
  obtain ⟨es, clock, hb, F, _, rfl⟩ := h
  exact ⟨es, clock, hb, F, by simp [Maps.size, length_sorted], rfl⟩
theorem Mp.value {D : DataW Value} (hr : Reads mk D f) (x : κ) {v z : Value} {ps : List MemPlace} (h : held v = some (D.atKey (mk x) (.held z), ps)) : v = (f x).getD z := by
  simp only [held, Option.some.injEq, Prod.mk.injEq] at h
  obtain ⟨h1, h2⟩ := hr x
  cases hf : f x with
  | none =>
    rw [hf] at h1
    have := Maps.atKey_of_not_has (H := Value) h1 (.held z)
    rw [this] at h
    exact DataW.held.inj h.1
  | some u =>
    rw [h2 u hf] at h
    exact DataW.held.inj h.1
variable {ops : Array Oper} {rest : List Oper} {o : Oper} {a : Act} {Q : Exit → Act → World → Prop}
/-- m[k] -/
theorem wpList_mp_look (hg : o.guard = none) (m y : Operand) (t : TypeId) (hop : o.op = Op.lookup t m y false) (e : TypeId) (K : Keyed P k) (ht : P.underlying t = some (.map k e)) {z : Value} (hz : (zeroValue e).run P w = .ok z w)
    (hm : a.eval m = .map (some b)) (h : Mp mk P k w b s f) (key : Value) (x : κ) (hx : a.eval y = key) (hkey : keyOf P k key = some (mk x))
    (hK : wpList P ops Q rest (a.put o.dst ((f x).getD z)) w) : wpList P ops Q (o :: rest) a w := by
  obtain ⟨D, h1, h2, h3⟩ := h
  obtain ⟨v, ps, hrun, hv⟩ := h1.lookup K ht hz (zd := .held z) (zp := []) rfl hkey
  obtain rfl := Mp.value h3 x hv
  refine wpList_plain hg fun K' hK' => ?_
  unfold Oper.wp
  simp [execOp, hop, hm, hx, hrun, Result.andThen]
  exact hK' _ _ hK
/-- v, ok := m[k] -/
theorem wpList_mp_look_ok (hg : o.guard = none) (m y : Operand) (t : TypeId) (hop : o.op = Op.lookup t m y true) (e : TypeId) (K : Keyed P k) (ht : P.underlying t = some (.map k e)) {z : Value} (hz : (zeroValue e).run P w = .ok z w)
    (hm : a.eval m = .map (some b)) (h : Mp mk P k w b s f) (key : Value) (x : κ) (hx : a.eval y = key) (hkey : keyOf P k key = some (mk x))
    (hK : wpList P ops Q rest (a.put o.dst (.tuple #[(f x).getD z, .bool (f x).isSome])) w) : wpList P ops Q (o :: rest) a w := by
  obtain ⟨D, h1, h2, h3⟩ := h
  obtain ⟨v, ps, hrun, hv⟩ := h1.look_ok K ht hz (zd := .held z) (zp := []) rfl hkey
  obtain rfl := Mp.value h3 x hv
  rw [(h3 x).1] at hrun
  refine wpList_plain hg fun K' hK' => ?_
  unfold Oper.wp
  simp [execOp, hop, hm, hx, hrun, Result.andThen]
  exact hK' _ _ hK
theorem Mp.run_look (h : Mp mk P k w b s f) {t e : TypeId} (K : Keyed P k) (ht : P.underlying t = some (.map k e)) {z : Value} (hz : (zeroValue e).run P w = .ok z w) {key : Value} (x : κ) (hkey : keyOf P k key = some (mk x)) :
    (Instr.lookup t (.map (some b)) key false).run P w = .ok ((f x).getD z) w := by
  obtain ⟨D, h1, h2, h3⟩ := h
  obtain ⟨v, ps, hrun, hv⟩ := h1.lookup K ht hz (zd := .held z) (zp := []) rfl hkey
  obtain rfl := Mp.value h3 x hv
  exact hrun
theorem Mp.run_len (h : Mp mk P k w b s f) {t e : TypeId} (ht : P.underlying t = some (.map k e)) (ty : TypeId) : (Builtin.len_ #[t] ty #[.map (some b)]).run P w = .ok (.int .i64 s) w := by
  obtain ⟨D, h1, h2, h3⟩ := h
  rw [h1.len ht ty, h2]
/-- .. with the answer under a name -/
theorem wpList_mp_look_v (hg : o.guard = none) (m y : Operand) (t : TypeId) (hop : o.op = Op.lookup t m y false) (e : TypeId) (K : Keyed P k) (ht : P.underlying t = some (.map k e)) {z : Value} (hz : (zeroValue e).run P w = .ok z w)
    (hm : a.eval m = .map (some b)) (h : Mp mk P k w b s f) (key : Value) (x : κ) (hx : a.eval y = key) (hkey : keyOf P k key = some (mk x)) (v : Value) (hv : (f x).getD z = v)
    (hK : wpList P ops Q rest (a.put o.dst v) w) : wpList P ops Q (o :: rest) a w :=
  wpList_mp_look hg m y t hop e K ht hz hm h key x hx hkey (by rw [hv]; exact hK)
theorem wpList_mp_look_ok_v (hg : o.guard = none) (m y : Operand) (t : TypeId) (hop : o.op = Op.lookup t m y true) (e : TypeId) (K : Keyed P k) (ht : P.underlying t = some (.map k e)) {z : Value} (hz : (zeroValue e).run P w = .ok z w)
    (hm : a.eval m = .map (some b)) (h : Mp mk P k w b s f) (key : Value) (x : κ) (hx : a.eval y = key) (hkey : keyOf P k key = some (mk x)) (v : Value) (ok : Bool) (hv : (f x).getD z = v) (hok : (f x).isSome = ok)
    (hK : wpList P ops Q rest (a.put o.dst (.tuple #[v, .bool ok])) w) : wpList P ops Q (o :: rest) a w :=
  wpList_mp_look_ok hg m y t hop e K ht hz hm h key x hx hkey (by rw [hv, hok]; exact hK)
theorem Mp.noCell (h : Mp mk P k w b s f) {p : Addr} {v : Value} (hc : w.cell? p = some v) : p.block ≠ b := by
  obtain ⟨D, ⟨es, clock, h1, _⟩, _⟩ := h
  intro e
  rw [← e] at h1
  simp [World.cell?, h1] at hc
theorem Mp.keeps {w' : World} (h : Mp mk P k w b s f) (hg : w.grownBy w' (some b)) : Keeps w w' := fun p v hv => hg.cell hv (fun e => h.noCell hv (Option.some.inj e))
theorem below_grown {w' : World} (h : Below w.heap.size w w') (row : Option Nat) : w.grownBy w' row := ⟨h.os, h.tape, h.output, h.size, fun i hi _ => h.block i hi⟩
theorem grown_below {w' : World} {B c : Nat} (h : w.grownBy w' (some c)) (hc : B ≤ c) (hB : B ≤ w.heap.size) : Below B w w' := ⟨h.os, h.tape, h.output, h.size, fun i hi => h.block i (by omega) (fun e => by have := Option.some.inj e; omega)⟩
variable [DecidableEq κ]
/-- f with v at x -/
def upd (f : κ → Option Value) (x : κ) (v : Value) : κ → Option Value := fun y => if y = x then some v else f y
/-- m[k] = v -/
theorem wpList_mp_put (hg : o.guard = none) (m y u : Operand) (t : TypeId) (hop : o.op = Op.mapUpdate t m y u) (e : TypeId) (K : Keyed P k) (ht : P.underlying t = some (.map k e))
    (hm : a.eval m = .map (some b)) (h : Mp mk P k w b s f) (hs : s < maxLen) (key : Value) (x : κ) (hx : a.eval y = key) (hkey : keyOf P k key = some (mk x)) (v : Value) (hv : a.eval u = v) (inj : ∀ x y, mk x = mk y → x = y)
    (hK : ∀ w', Mp mk P k w' b (if (f x).isSome then s else s + 1) (upd f x v) → w.grownBy w' (some b) → wpList P ops Q rest (a.put o.dst undef) w') : wpList P ops Q (o :: rest) a w := by
  obtain ⟨D, h1, h2, h3⟩ := h
  refine wpList_plain hg fun K' hK' => ?_
  obtain ⟨w', hrun, r1, r2⟩ := h1.update K ht hs hkey (d := .held v) (ps := []) rfl
  unfold Oper.wp
  simp [execOp, hop, hm, hx, hv, hrun, Result.andThen]
  refine hK' _ _ (hK w' ?_ r2)
  have hsz := Maps.size_put (h1.tidy K) (.held v) (k := mk x)
  rw [h2, (h3 x).1] at hsz
  refine ⟨D.put (mk x) (.held v), ?_, hsz, fun z => ?_⟩
  · have := ownsMap_exact r1
    rwa [hsz] at this
  · by_cases hz : z = x
    · subst hz
      exact ⟨by rw [Maps.has_put_same h1.isMap (K.key hkey)]; simp [upd], fun u hu z => by simp [upd] at hu; subst hu; exact Maps.atKey_put_same h1.isMap (K.key hkey) _ _⟩
    · have hne : mk z ≠ mk x := fun e => hz (inj _ _ e)
      refine ⟨by rw [Maps.has_put_other hne, (h3 z).1]; simp [upd, hz], fun u hu y => ?_⟩
      rw [Maps.atKey_put_other hne]
      simp only [upd, if_neg hz] at hu
      exact (h3 z).2 u hu y
end
def mkI (x : Int) : Lit := .int .i64 x
def mkS (x : List UInt8) : Lit := .string x
theorem mkI_inj (x y : Int) (h : mkI x = mkI y) : x = y := by simpa [mkI] using h
theorem mkS_inj (x y : List UInt8) (h : mkS x = mkS y) : x = y := by simpa [mkS] using h
theorem key_int {P : Program} {k : TypeId} (hk : P.underlying k = some (.int .i64)) {x : Int} (h1 : -9223372036854775808 ≤ x) (h2 : x ≤ 9223372036854775807) : keyOf P k (.int .i64 x) = some (mkI x) := Maps.keyOf_int_mk hk (WalkArith.wf_i64 (by omega))
theorem key_str {P : Program} {k : TypeId} (hk : P.underlying k = some .string) {x : List UInt8} (h : x.length ≤ 9223372036854775807) : keyOf P k (.string ⟨x.toArray⟩) = some (mkS x) := by
  rw [Go.WideMaps.keyOf_string_mk hk (by simpa [ByteArray.size, maxLen] using h)]
  simp [mkS]
end Gr
end Go.Proofs.Ytpdkdhcbibcifaa
namespace Go.Proofs.Ytpdkdhcbibcifaa
set_option linter.unusedVariables false
set_option linter.unusedSimpArgs false
open Go.ChangeShapes Go.WideShapes Go.ChangeAt Go.RowKit
theorem infoU8 : (Try.prog.info? 5).map (fun i => (i.zero, i.size, i.bytes)) = some (some (.int .u8 0), 1, 1) := by kernel_rfl
/-- what a call hands back: bytes in new memory -/
def NewBs (w : World) (l : List UInt8) (e : Ending) (w' : World) : Prop :=
  ∃ a n c, e = .returned (.slice a n c) ∧ w'.ownsRow w.heap.size 5 1 (.slice a n c) n (l.map u8v) ∧ Below w.heap.size w w'
theorem own_len {w : World} {base : Nat} {e : TypeId} {v : Value} {n : Nat} {l : List UInt8} (h : w.ownsRow base e 1 v n (l.map u8v)) : l.length = n := by have := h.1; simpa using this
theorem own_bs {w : World} {base : Nat} {e : TypeId} {a : Option Addr} {n c : Nat} {l : List UInt8} (h : w.ownsRow base e 1 (.slice a n c) n (l.map u8v)) : Bs w a n c l := own_isSl h
set_option maxHeartbeats 400000 in
theorem CopyBytes_any (a : Option Addr) (n c : Nat) (x : List UInt8) (w : World) (ha : Bs w a n c x) (hn : n ≤ 140737488355328) :
    Calls Try.prog 42 #[.slice a n c] w (NewBs w x) := by
  obtain rfl := ha.len
  have ho0 := World.ownsRow_lit (base := w.heap.size) (e := 5) (size := 1) w #[] 0 (Nat.le_refl _) (by decide) rfl
  go_enter Try.func42, Try.ntmps42
  go_wp2_with (at_builtin; refine wpList_app rfl _ _ 37 rfl w.heap.size 5 _ 1 1 Try.underlying37 infoU8 rfl (by decide) (by decide) rfl ho0 rfl ((Keeps.alloc w _).bs ha) (bytes_oneCell x) (by omega) (by simp) ?_; intro a1 c1 w1 ho hg)
  go_ret
  simp only [Nat.zero_add, List.nil_append] at ho ⊢
  exact ⟨a1, _, c1, rfl, ho, below_app ((Below.refl _ _).alloc (Nat.le_refl _) _) ho0 hg (Nat.le_refl _) (by simp)⟩
/-- the eight marks -/
def marks : List UInt8 := [201, 202, 203, 204, 205, 206, 207, 208]
theorem marks_succ (k : Nat) (h : k < 8) : ((marks.take k).map u8v) ++ [Value.int .u8 (201 + (k : Int))] = (marks.take (k + 1)).map u8v := by
  have : k = 0 ∨ k = 1 ∨ k = 2 ∨ k = 3 ∨ k = 4 ∨ k = 5 ∨ k = 6 ∨ k = 7 := by omega
  rcases this with h | h | h | h | h | h | h | h <;> subst h <;> rfl
end Go.Proofs.Ytpdkdhcbibcifaa
namespace Go.Proofs.Ytpdkdhcbibcifaa
set_option linter.unusedVariables false
set_option linter.unusedSimpArgs false
open Go.ChangeShapes Go.WideShapes Go.ChangeAt Go.RowKit
theorem same_no {x y : List UInt8} {k : Nat} (h : ((x.getD k 0).toNat : Int) ≠ ((y.getD k 0).toNat : Int)) : decide (x = y) = false := by
  simp only [decide_eq_false_iff_not]; intro e; subst e; exact h rfl
theorem same_step {x y : List UInt8} {k : Nat} (hk : k < x.length) (hl : y.length = x.length) (ih : x.take k = y.take k) (h : ((x.getD k 0).toNat : Int) = ((y.getD k 0).toNat : Int)) : x.take (k + 1) = y.take (k + 1) := by
  have h1 : k < y.length := by omega
  have he : x[k] = y[k] := by
    have : (x.getD k 0) = (y.getD k 0) := UInt8.toNat_inj.1 (by omega)
    simpa [List.getD, List.getElem?_eq_getElem hk, List.getElem?_eq_getElem h1] using this
  rw [List.take_succ_eq_append_getElem hk, List.take_succ_eq_append_getElem h1, ih, he]
set_option maxHeartbeats 400000 in
theorem SameBytes_any (a b : Option Addr) (n m c d : Nat) (x y : List UInt8) (w : World) (ha : Bs w a n c x) (hb : Bs w b m d y) :
    Calls Try.prog 45 #[.slice a n c, .slice b m d] w fun e w' => e = .returned (.bool (decide (x = y))) ∧ Below w.heap.size w w' := by
  have hx := ha.len; have hy := hb.len; have c1 := ha.cap; have c2 := hb.cap; have m1 := ha.max; have m2 := hb.max
  by_cases hnm : n = m
  · subst hnm
    have hn : ((n : Int) != n) = false := by simp
    generalize hr : decide (x = y) = r
    have HR := Lib.hid hr; clear hr
    have HX := Lib.hid hx; have HY := Lib.hid hy; clear hx hy
    go_enter Try.func45, Try.ntmps45
    go_wp2
    go_loopw [5] (fun i wr => ∃ k : Nat, k ≤ n ∧ i = .int .i64 k ∧ Hid (x.take k = y.take k) ∧ Below w.heap.size w wr) (fun i _ => n - (intOf i).toNat)
    case atStart => exact ⟨0, Nat.zero_le _, rfl, (rfl : x.take 0 = y.take 0), Below.refl _ _⟩
    case round =>
      obtain ⟨k, hk, rfl, heq, hbel⟩ := hrel
      by_cases hlt : k < n
      · obtain ⟨b1, o1, rfl, h1⟩ := (Below.bs hbel ha).at k hlt
        obtain ⟨b2, o2, rfl, h2⟩ := (Below.bs hbel hb).at k hlt
        clear ha hb
        generalize hg1 : ((x.getD k 0).toNat : Int) = g1 at h1
        generalize hg2 : ((y.getD k 0).toNat : Int) = g2 at h2
        have HG1 := Lib.hid hg1; have HG2 := Lib.hid hg2; clear hg1 hg2
        by_cases hne : g1 = g2
        · have hz : (g1 != g2) = false := bne_f hne
          have HE := Lib.hid hne; clear hne
          go_wp2
          go_quiet (fail)
          go_wp2
          exact ⟨⟨k + 1, by omega, by go_num, same_step (by have := HX.out; omega) (by have := HX.out; have := HY.out; omega) heq (by rw [HG1.out, HG2.out, HE.out]), Below.drewN hbel _⟩, by simp [intOf]; omega⟩
        · have hz : (g1 != g2) = true := bne_t hne
          have HE := Lib.hid hne; clear hne
          go_wp2
          go_quiet (fail)
          go_wp2
          go_ret
          exact ⟨ret_bool (by rw [← HR.out]; exact (same_no (k := k) (by rw [HG1.out, HG2.out]; exact HE.out)).symm), Below.drewN hbel _⟩
      · obtain rfl : k = n := by omega
        go_wp2
        go_ret
        refine ⟨ret_bool ?_, hbel⟩
        have h1 := HX.out; have h2 := HY.out; have h3 := heq.out
        rw [List.take_of_length_le (by omega), List.take_of_length_le (by omega)] at h3
        rw [← HR.out]; simp [h3]
  · have hne : decide (x = y) = false := by
      simp only [decide_eq_false_iff_not]; intro h; subst h; omega
    rw [hne]; clear hne
    have hn : ((n : Int) != m) = true := by rw [bne_iff_ne]; omega
    go_enter Try.func45, Try.ntmps45
    go_wp2
    go_ret
    exact ⟨rfl, Below.refl _ _⟩
end Go.Proofs.Ytpdkdhcbibcifaa
namespace Go.Proofs.Ytpdkdhcbibcifaa
set_option linter.unusedVariables false
set_option linter.unusedSimpArgs false
open Go.ChangeShapes Go.WideShapes Go.ChangeAt Go.RowKit
section
variable {P : Program} {ops : Array Oper} {rest : List Oper} {o : Oper} {a : Act} {w : World} {Q : Exit → Act → World → Prop}
theorem wpList_unit (hg : o.guard = none) (w' : World) (h : (execOp a.eval o).run P w = .ok .skip w')
    (hk : wpList P ops Q rest (a.put o.dst undef) w') : wpList P ops Q (o :: rest) a w :=
  wpList_plain hg fun K hK => by unfold Oper.wp; rw [h]; exact hK _ _ hk
/-- an aggregate stored over a whole row -/
theorem wpList_store_row (hgd : o.guard = none) (ty : TypeId) (x y : Operand) (ho : o.op = .store ty x y) (g : Nat) (hx : a.eval x = .pointer (some ⟨g, 0, none⟩)) (cs : Array Value) (hy : a.eval y = .agg cs)
    (old : Array Value) (t : TypeId) (hh : w.heap[g]? = some (.cells old t (0, 0))) (hsz : old.size = cs.size) (hi : (P.info? ty).map (·.size) = some cs.size) (h1 : ∀ u ∈ cs.toList, u.oneCell' = true)
    (h : wpList P ops Q rest (a.put o.dst undef) (w.setRow g cs)) : wpList P ops Q (o :: rest) a w := by
  refine wpList_unit hgd (w.setRow g cs) ?_ h
  obtain ⟨i, hi', hs'⟩ := Option.map_eq_some_iff.1 hi
  have hr := run_storeCells_at (P := P) g 0 t cs.toList 0 old w hh (by simp [hsz]) h1
  have e : (old.toList.take (0 + 0) ++ cs.toList ++ old.toList.drop (0 + 0 + cs.toList.length)).toArray = cs := by
    simp [List.drop_of_length_le, hsz]
  rw [e] at hr
  simp [execOp, ho, hx, hy, Instr.storeAt, Instr.sureAddr, storeVar, sizeOf, typeInfo, hi', hs', Value.cells, hr, Result.andThen]
/-- a variable of a type whose zero is known by name -/
theorem wpList_alloc_z (hgd : o.guard = none) (t : TypeId) (ho : o.op = .alloc t) (z : Array Value) (hz : (P.info? t).bind (·.zero) = some (.agg z))
    (h : wpList P ops Q rest (a.put o.dst (.pointer (some ⟨w.heap.size, 0, none⟩))) (w.alloc (.cells z t))) : wpList P ops Q (o :: rest) a w := by
  refine wpList_value hgd _ _ ?_ h
  obtain ⟨i, hi, h0⟩ := Option.bind_eq_some_iff.1 hz
  simp [execOp, ho, Instr.alloc, zeroValue, typeInfo, hi, h0, newVar, newRow, Value.cells, Result.andThen]
/-- an aggregate without given parts: the zero -/
theorem wpList_build_z (hgd : o.guard = none) (t : TypeId) (ho : o.op = .build t #[]) (z : Array Value) (hz : ∀ w, (Instr.build t #[]).run P w = .ok (.agg z) w)
    (h : wpList P ops Q rest (a.put o.dst (.agg z)) w) : wpList P ops Q (o :: rest) a w := by
  refine wpList_value hgd _ _ ?_ h
  simp [execOp, ho, hz, Result.andThen]
/-- an aggregate boxed: a parameter -/
theorem wpList_box_agg (hgd : o.guard = none) (t : TypeId) (x : Operand) (ho : o.op = .box t x) (cs : Array Value) (hx : a.eval x = .agg cs)
    (h : wpList P ops Q rest (a.put o.dst (.pointer (some ⟨w.heap.size, 0, none⟩))) (w.alloc (.cells cs t))) : wpList P ops Q (o :: rest) a w := by
  refine wpList_value hgd _ _ ?_ h
  simp [execOp, ho, hx, Instr.box, newVar, newRow, Value.cells, Result.andThen]
theorem setRow_alloc (w : World) (z cs : Array Value) (t : TypeId) : (w.alloc (.cells z t)).setRow w.heap.size cs = w.alloc (.cells cs t) := by
  unfold World.setRow World.alloc
  congr 1
  apply Array.ext_getElem?
  intro k
  simp only [Array.getElem?_modify, Array.getElem?_push]
  by_cases hk : w.heap.size = k
  · subst hk; simp
  · have hk2 : ¬ k = w.heap.size := fun h => hk h.symm
    simp [hk, hk2]
/-- an aggregate stored over the whole of the block that was made last -/
theorem wpList_store_new (hgd : o.guard = none) (ty : TypeId) (x y : Operand) (ho : o.op = .store ty x y) {w0 : World} {old : Array Value} {t : TypeId} (b : Nat) (hx : a.eval x = .pointer (some ⟨b, 0, none⟩)) (cs : Array Value) (hy : a.eval y = .agg cs)
    (hb : w0.heap.size = b) (hsz : old.size = cs.size) (hi : (P.info? ty).map (·.size) = some cs.size) (h1 : ∀ u ∈ cs.toList, u.oneCell' = true)
    (h : wpList P ops Q rest (a.put o.dst undef) (w0.alloc (.cells cs t))) : wpList P ops Q (o :: rest) a (w0.alloc (.cells old t)) := by
  subst hb
  refine wpList_store_row hgd ty x y ho w0.heap.size hx cs hy old t (heap_alloc_new w0 _) hsz hi h1 ?_
  rw [setRow_alloc]
  exact h
theorem Below.setRow {B : Nat} {a w : World} (h : Below B a w) {g : Nat} (hg : B ≤ g) (cs : Array Value) : Below B a (w.setRow g cs) :=
  h.trans ⟨rfl, rfl, rfl, by simp, fun k hk => setRow_other w g k cs (by omega)⟩
theorem own_keep {w w' : World} {base : Nat} {e : TypeId} {sz : Nat} {v : Value} {n : Nat} {xs : List Value} (h : w.ownsRow base e sz v n xs) (hk : ∀ k, base ≤ k → k < w.heap.size → w'.heap[k]? = w.heap[k]?) : w'.ownsRow base e sz v n xs := by
  obtain ⟨h1, h2⟩ := h
  refine ⟨h1, ?_⟩
  rcases h2 with h2 | ⟨g, cap, cur, hv, hg, hh, r⟩
  · exact Or.inl h2
  · exact Or.inr ⟨g, cap, cur, hv, hg, by rw [hk g hg (Array.getElem?_eq_some_iff.1 hh).1]; exact hh, r⟩
theorem own_base {w : World} {base base' : Nat} {e : TypeId} {sz : Nat} {v : Value} {n : Nat} {xs : List Value} (h : w.ownsRow base e sz v n xs) (hb : base' ≤ base) : w.ownsRow base' e sz v n xs := by
  obtain ⟨h1, h2⟩ := h
  refine ⟨h1, ?_⟩
  rcases h2 with h2 | ⟨g, cap, cur, hv, hg, hh, r⟩
  · exact Or.inl h2
  · exact Or.inr ⟨g, cap, cur, hv, by omega, hh, r⟩
end
end Go.Proofs.Ytpdkdhcbibcifaa
