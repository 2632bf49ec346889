/-
  J04: FmtOct, ApMem, PutWalk, SealWalk, HdrRead, HdrNum, HdrMk, RecLaw, Sizes, RecWrite, joined.
-/
import Derived.Test.YtamgiffkhnfpmaaDoorJ01
import Derived.Test.YtamgiffkhnfpmaaDoorJ02
import Derived.Test.YtamgiffkhnfpmaaDoorProg
import Derived.Laws.BitsAllLaws
import Derived.Outline
import Derived.Deep.CutBlock
import Derived.Deep.DeepCutAuto
import Derived.ArgAppend
import Derived.Deep.MidRow
import Derived.Lib.AppendZeros
import Derived.Test.YtamgiffkhnfpmaaDoorShelf
import Derived.Test.YtamgiffkhnfpmaaDoorJ03
import Derived.Laws.CopyOwn
import Derived.BigRegion
namespace Go.Proofs.YtamgiffkhnfpmaaDoor
set_option linter.unusedVariables false
set_option linter.unusedSimpArgs false
open Go.ChangeShapes Go.WideShapes Go.ChangeAt Go.RowKit
/-- the one cell of math/bits' table that is read at 8 -/
def Bru (w : World) : Prop := w.cell? ⟨7, 7, none⟩ = some (.int .u8 3)
theorem Bru.below {w w' : World} (h : Bru w) (k : Below w.heap.size w w') : Bru w' := Below.keeps k _ _ h
theorem Tz64_8 (w : World) (h : Bru w) : Calls Tryd.prog 123 #[.int .u64 8] w fun e w' => e = .returned (.int .i64 3) ∧ w = w' := by
  unfold Bru at h
  have h1 : IntKind.u64.wrap (bits .and .u64 8 (IntKind.u64.wrap (-8)) * 285870213051353865) / 288230376151711744 = 7 := by decide +kernel
  go_enter Tryd.func123, Tryd.ntmps123
  go_wp2
  go_ret
  exact ⟨rfl, rfl⟩
theorem Tz_8 (w : World) (h : Bru w) : Calls Tryd.prog 109 #[.int .u64 8] w fun e w' => e = .returned (.int .i64 3) ∧ w = w' := by
  have H := Lib.hid (Tz64_8 w h); clear h
  go_enter Tryd.func109, Tryd.ntmps109
  go_wp2_with (go_at_call 123; (with_reducible refine (H.out).mono ?_); rintro e w1 ⟨rfl, hw⟩; obtain rfl := hw)
  go_ret
  exact ⟨rfl, rfl⟩
theorem Pow2_8 (w : World) : Calls Tryd.prog 108 #[.int .i64 8] w fun e w' => e = .returned (.bool true) ∧ w = w' := by
  have h1 : bits .and .i64 8 7 = 0 := by decide +kernel
  go_enter Tryd.func108, Tryd.ntmps108
  go_wp2
  go_ret
  exact ⟨rfl, rfl⟩
section
variable {P : Program} {ops : Array Oper} {rest : List Oper} {o : Oper} {a : Act} {w : World} {Q : Exit → Act → World → Prop}
/-- s[d] of a string whose byte there is known -/
theorem wpList_index_str (hgd : o.guard = none) (t : TypeId) (y x : Operand) (ho : o.op = .index t y x) (ht : P.underlying t = some .string) {s : ByteArray} (hy : a.eval y = .string s) {k : IntKind} (d : Nat) (hx : a.eval x = .int k (d : Int))
    (b : UInt8) (hb : s.data.toList[d]? = some b) (h : wpList P ops Q rest (a.put o.dst (.int .u8 (b.toNat : Int))) w) : wpList P ops Q (o :: rest) a w := by
  refine wpList_value hgd _ _ ?_ h
  have hr := run_index_string (P := P) (w := w) t s k (d : Int) ht
  obtain ⟨hlt, hv⟩ := List.getElem?_eq_some_iff.1 hb
  have hsz : d < s.size := by rw [Array.length_toList] at hlt; exact hlt
  have hgt : s[d]'hsz = b := by rw [← hv, Array.getElem_toList]; rfl
  have hx2 : (Instr.index t (.string s) (.int k (d : Int))).run P w = .ok (.int .u8 (b.toNat : Int)) w := by
    rw [hr, dif_pos ⟨by omega, by omega⟩]
    have : s[(d : Int).toNat]'(by omega) = b := hgt
    rw [this]
  simp [execOp, ho, hy, hx, hx2, Result.andThen]
end
def digs : ByteArray := ⟨#[48, 49, 50, 51, 52, 53, 54, 55, 56, 57, 97, 98, 99, 100, 101, 102, 103, 104, 105, 106, 107, 108, 109, 110, 111, 112, 113, 114, 115, 116, 117, 118, 119, 120, 121, 122]⟩
theorem digs_at (d : Nat) (h : d < 8) : digs.data.toList[d]? = some (UInt8.ofNat (48 + d)) := by
  have key : ∀ x : Fin 8, digs.data.toList[x.1]? = some (UInt8.ofNat (48 + x.1)) := by decide
  exact key ⟨d, h⟩
def z65 : List UInt8 := List.replicate 65 0
theorem zero65 : (Tryd.prog.info? 143).bind (·.zero) = some (.agg (rowA (z65))) := by kernel_rfl
theorem u64_and7 (n : Nat) (h : n < 18446744073709551616) : bits .and .u64 (n : Int) 7 = ((n % 8 : Nat) : Int) := by
  have e : bits .and .u64 (n : Int) 7 = ((n &&& 7 : Nat) : Int) := u64_and_nat n 7 h (by decide)
  rw [e, show (7 : Nat) = 2 ^ 3 - 1 by rfl, Nat.and_two_pow_sub_one_eq_mod]
theorem nd8_le22 (v : Nat) (h : v ≤ 9223372036854775807) : nd8 v ≤ 21 := nd8_le v 21 (by decide) (by have : (8 : Nat) ^ 21 = 9223372036854775808 := rfl; omega)
/-- what holds while the digits are laid -/
structure Odigs (w : World) (v k : Nat) (wr : World) : Prop where
  bel : Below w.heap.size w wr
  row : wr.heap[w.heap.size]? = some (.cells (rowA (fillRow 0 (octDig v) 65 k [])) 143 (0, 0))
theorem Odigs.start (w : World) (v : Nat) : Odigs w v 0 (w.alloc (.cells (rowA (z65)) 143)) := by
  refine ⟨(Below.refl _ _).alloc (Nat.le_refl _) _, ?_⟩
  rw [heap_alloc_new, fillRow_zero, List.append_nil]; rfl
theorem Odigs.step {w wr : World} {v k : Nat} (h : Odigs w v k wr) (hk : k < 65) (b : UInt8) (hb : b = octDig v k) : Odigs w v (k + 1) (wr.setCell ⟨w.heap.size, 64 - k, none⟩ (.int .u8 (b.toNat : Int))) := by
  subst hb
  refine ⟨h.bel.setCell (by simp) _, ?_⟩
  rw [heap_setCell_same _ _ _ _ _ _ h.row, show (Value.int .u8 ((octDig v k).toNat : Int)) = u8v (octDig v k) from rfl, rowA_set, show 64 - k = 65 - 1 - k by omega, fillRow_set 0 (octDig v) 65 k [] hk]
theorem Odigs.cell {w wr : World} {v k : Nat} (h : Odigs w v k wr) (hk : k < 65) (j : Nat) (hj : j < 65) : ∃ x, wr.cell? ⟨w.heap.size, j, none⟩ = some x :=
  ⟨_, by rw [cell_of_row _ _ _ _ _ _ h.row, rowA_at _ _ (by rw [fillRow_len _ _ _ _ _ (by omega)]; exact hj)]⟩
theorem Odigs.bs {w wr : World} {v k : Nat} (h : Odigs w v k wr) (hk : k ≤ 65) : Bs wr (some ⟨w.heap.size, 65 - k, none⟩) k k (octRow v k) := by
  refine ⟨by rw [List.length_map]; unfold octRow; rw [placeRow_len]; omega, Nat.le_refl _, by unfold maxLen; omega, fun j x hj => ⟨_, rfl, ?_⟩, fun h => by cases h⟩
  rw [Addr.add_lit, cell_of_row _ _ _ _ _ _ h.row]
  have hd := fillRow_drop 0 (octDig v) 65 k []
  rw [List.append_nil] at hd
  have e : (octRow v k) = (fillRow 0 (octDig v) 65 k []).drop (65 - k) := hd.symm
  rw [e, List.map_drop, List.getElem?_drop] at hj
  simpa [rowA] using hj
set_option maxRecDepth 100000 in
set_option maxHeartbeats 1600000 in
theorem FormatBits_8 (v : Nat) (hv : v ≤ 9223372036854775807) (w : World) (hT : Bru w) :
    Calls Tryd.prog 82 #[.slice none 0 0, .int .u64 v, .int .i64 8, .bool false, .bool false] w fun e w' => e = .returned (.tuple #[.slice none 0 0, .string ⟨(octRow v (nd8 v)).toArray⟩]) ∧ Below w.heap.size w w' := by
  have hn := nd8_le22 v hv
  have HT := Lib.hid hT; have HZ := Lib.hid zero65; clear hT
  go_enter Tryd.func82, Tryd.ntmps82
  go_wp2_with (first
    | (with_reducible refine wpList_alloc_z rfl _ rfl (rowA (z65)) HZ.out ?_)
    | (go_at_call 108; (with_reducible refine (Pow2_8 _).mono ?_); rintro e w1 ⟨rfl, hw⟩; obtain rfl := hw)
    | (go_at_call 109; (refine (Tz_8 _ (by exact HT.out.below (Odigs.start w v).bel)).mono ?_); rintro e w1 ⟨rfl, hw⟩; obtain rfl := hw))
  have hS := Odigs.start w v
  have HTW := Lib.hid (HT.out.below hS.bel)
  go_loopw [1, 13] (fun u i wr => ∃ k : Nat, k + nd8 (v / 8 ^ k) = nd8 v ∧ u = .int .u64 ((v / 8 ^ k : Nat) : Int) ∧ i = .int .i64 (65 - (k : Int)) ∧ Odigs w v k wr) (fun u _ _ => (intOf u).toNat)
  case atStart => exact ⟨0, by rw [Nat.pow_zero, Nat.div_one]; omega, by rw [Nat.pow_zero, Nat.div_one], by go_num, hS⟩
  case round =>
    obtain ⟨k, hk, rfl, rfl, hD⟩ := hrel
    have hdp := nd8_pos (v / 8 ^ k)
    have hk21 : k < 21 := by omega
    have hrec : 8 ≤ v / 8 ^ k → nd8 (v / 8 ^ k) = nd8 (v / 8 ^ (k + 1)) + 1 := fun h => by
      rw [Nat.pow_succ, ← Nat.div_div_eq_div_mul]
      conv => lhs; unfold nd8
      rw [if_neg (by omega)]
    have hnext : v / 8 ^ k / 8 = v / 8 ^ (k + 1) := by rw [Nat.pow_succ, ← Nat.div_div_eq_div_mul]
    have hle : v / 8 ^ k ≤ v := Nat.div_le_self _ _
    have hdig : octDig v k = UInt8.ofNat (48 + v / 8 ^ k % 8) := rfl
    have hlast : v / 8 ^ k < 8 → nd8 (v / 8 ^ k) = 1 := fun h => by unfold nd8; rw [if_pos h]
    generalize hU : v / 8 ^ (k + 1) = U' at *
    generalize v / 8 ^ k = U at *
    obtain ⟨j, hj⟩ : ∃ j : Nat, (65 : Int) - (k : Int) - 1 = (j : Int) := ⟨64 - k, by omega⟩
    have hjk : j = 64 - k := by omega
    have hj65 : (j : Int) < 65 := by omega
    obtain ⟨x0, hx0⟩ := hD.cell (by omega) j (by omega)
    have hfz := frozen_of_row _ _ j _ _ hD.row
    have hb := digs_at (U % 8) (Nat.mod_lt _ (by decide))
    have hand := u64_and7 U (by omega)
    have hm8 : U < 8 → U % 8 = U := fun h => Nat.mod_eq_of_lt h
    generalize hB : UInt8.ofNat (48 + U % 8) = B at hb hdig
    have hstep := hD.step (by omega) B hdig.symm
    rw [← hjk] at hstep
    have HBY := Lib.hid hb; have HSTEP := Lib.hid hstep; have HN := Lib.hid hnext; have HREC := Lib.hid hrec; have HLAST := Lib.hid hlast; have HK := Lib.hid hk; have HJK := Lib.hid hjk; have HM8 := Lib.hid hm8; have HU := Lib.hid hU
    clear hb hstep hnext hrec hlast hk hjk hdig hB hm8 hU
    by_cases h8 : 8 ≤ U
    · have h8i : (8 : Int) ≤ (U : Int) := by omega
      go_wp2_with (refine wpList_index_str rfl 9 _ _ rfl Tryd.underlying9 rfl (U % 8) rfl B HBY.out ?_)
      exact ⟨⟨k + 1, by have := HREC.out h8; have := HK.out; rw [HU.out]; omega, by rw [HU.out, ← HN.out]; go_num, by go_num, HSTEP.out⟩, by simp [intOf]; omega⟩
    · have h8i : ¬ (8 : Int) ≤ (U : Int) := by omega
      have h8j : (U : Int) < 8 := by omega
      have hidx := HM8.out (by omega)
      have hb2 := HBY.out
      rw [hidx] at hb2
      have HBY2 := Lib.hid hb2
      clear hb2 hidx hand
      have hk1 : k + 1 = nd8 v := by have := HLAST.out (by omega); have := HK.out; omega
      have hbs : Bs (wr.setCell ⟨w.heap.size, j, none⟩ (.int .u8 (B.toNat : Int))) (some ⟨w.heap.size, j, none⟩) (65 - j) (65 - j) (octRow v (nd8 v)) := by
        have := HSTEP.out.bs (by omega)
        rw [← hk1]
        have e1 : 65 - (k + 1) = j := by have := HJK.out; omega
        have e2 : 65 - j = k + 1 := by omega
        rw [e1] at this
        rw [e2]
        exact this
      have HBS := Lib.hid hbs; have hbel := HSTEP.out.bel
      clear hbs hk1
      have hj2 : j ≤ 65 := by omega
      have hj3 : j < 65 := by omega
      go_wp2_with (first
        | (refine wpList_index_str rfl 9 _ _ rfl Tryd.underlying9 rfl U rfl B HBY2.out ?_)
        | (with_reducible refine wpList_slice_row rfl _ _ _ _ rfl Tryd.underlying143 (by kernel_rfl) w.heap.size rfl j 65 .i64 .i64 rfl rfl hj2 (by decide) hj3 ?_)
        | (with_reducible refine wpList_str_of_bs rfl _ _ _ rfl Tryd.underlying23 Tryd.underlying5 Tryd.underlying9 rfl HBS.out ?_))
      go_ret2
      exact ⟨rfl, hbel⟩
set_option maxHeartbeats 800000 in
theorem FormatInt_8 (v : Nat) (hv : v ≤ 9223372036854775807) (w : World) (hT : Bru w) :
    Calls Tryd.prog 28 #[.int .i64 v, .int .i64 8] w fun e w' => e = .returned (.string ⟨(octRow v (nd8 v)).toArray⟩) ∧ Below w.heap.size w w' := by
  have HF : Hid (Calls Tryd.prog 46 #[.int .i64 v, .int .i64 8] w fun e w' => e = .returned (.string ⟨(octRow v (nd8 v)).toArray⟩) ∧ Below w.heap.size w w') := by
    have H := Lib.hid (FormatBits_8 v hv w hT)
    show Calls _ _ _ _ _
    have hn : ¬ (v : Int) < 0 := by omega
    clear hT
    go_enter Tryd.func46, Tryd.ntmps46
    go_wp2_with (go_at_call 82; (with_reducible refine (H.out).mono ?_); rintro e w1 ⟨rfl, hb⟩)
    go_ret
    exact ⟨rfl, hb⟩
  clear hT
  go_enter Tryd.func28, Tryd.ntmps28
  go_wp2_with (go_at_call 46; (with_reducible refine (HF.out).mono ?_); rintro e w1 ⟨rfl, hb⟩)
  go_ret
  exact ⟨rfl, hb⟩
end Go.Proofs.YtamgiffkhnfpmaaDoor
namespace Go.Proofs.YtamgiffkhnfpmaaDoor
set_option linter.unusedVariables false
set_option linter.unusedSimpArgs false
open Go.ChangeShapes Go.WideShapes Go.ChangeAt Go.RowKit
/-- c cells of a block are there and may be written -/
def FreeAt (w : World) (g c : Nat) : Prop := ∀ k, k < c → (w.cell? ⟨g, k, none⟩).isSome = true ∧ w.frozen? ⟨g, k, none⟩ = false
/-- a slice whose cells, spare ones too, may be written; its block lies from B on -/
def Free (w : World) (B : Nat) (a : Option Addr) (n c : Nat) : Prop := n ≤ c ∧ c ≤ maxLen ∧ ((a = none ∧ c = 0) ∨ ∃ g, a = some ⟨g, 0, none⟩ ∧ B ≤ g ∧ g < w.heap.size ∧ FreeAt w g c)
def blk? (a : Option Addr) : Option Nat := a.map (·.block)
/-- what an append onto a slice changes -/
structure Chg (B : Nat) (a : Option Addr) (n : Nat) (w w' : World) : Prop where
  bel : Below B w w'
  other : ∀ b, b < w.heap.size → blk? a ≠ some b → w'.heap[b]? = w.heap[b]?
  low : ∀ b k, b < w.heap.size → k < n → w'.cell? ⟨b, k, none⟩ = w.cell? ⟨b, k, none⟩
  there : ∀ b k, b < w.heap.size → (w.cell? ⟨b, k, none⟩).isSome = true → (w'.cell? ⟨b, k, none⟩).isSome = true
  froz : ∀ b k, b < w.heap.size → w'.frozen? ⟨b, k, none⟩ = w.frozen? ⟨b, k, none⟩
theorem Free.keep {w w' : World} {B : Nat} {a a1 : Option Addr} {n c n1 : Nat} (h : Free w B a n c) (k : Chg B a1 n1 w w') : Free w' B a n c := by
  obtain ⟨h1, h2, h3⟩ := h
  refine ⟨h1, h2, ?_⟩
  rcases h3 with h3 | ⟨g, rfl, hB, hg, hf⟩
  · exact .inl h3
  · exact .inr ⟨g, rfl, hB, Nat.lt_of_lt_of_le hg k.bel.size, fun j hj => ⟨k.there g j hg (hf j hj).1, by rw [k.froz g j hg]; exact (hf j hj).2⟩⟩
theorem Free.below {w w' : World} {B : Nat} {a : Option Addr} {n c : Nat} (h : Free w B a n c) (k : Below w.heap.size w w') : Free w' B a n c := by
  obtain ⟨h1, h2, h3⟩ := h
  refine ⟨h1, h2, ?_⟩
  rcases h3 with h3 | ⟨g, rfl, hB, hg, hf⟩
  · exact .inl h3
  · exact .inr ⟨g, rfl, hB, Nat.lt_of_lt_of_le hg k.size, fun j hj => ⟨by rw [k.cell (p := ⟨g, j, none⟩) hg]; exact (hf j hj).1, by rw [k.frozen (p := ⟨g, j, none⟩) hg]; exact (hf j hj).2⟩⟩
theorem Free.base {w : World} {B B' : Nat} {a : Option Addr} {n c : Nat} (h : Free w B a n c) (hb : B' ≤ B) : Free w B' a n c := by
  obtain ⟨h1, h2, h3⟩ := h
  refine ⟨h1, h2, ?_⟩
  rcases h3 with h3 | ⟨g, ha, hB, r⟩
  · exact .inl h3
  · exact .inr ⟨g, ha, by omega, r⟩
theorem Free.nil (w : World) (B : Nat) : Free w B none 0 0 := ⟨Nat.le_refl _, by unfold maxLen; omega, .inl ⟨rfl, rfl⟩⟩
/-- what is owned may be written -/
theorem own_free {w : World} {base : Nat} {e : TypeId} {a : Option Addr} {n c : Nat} {xs : List Value} (h : w.ownsRow base e 1 (.slice a n c) n xs) : Free w base a n c := by
  obtain ⟨hl, h⟩ := h
  rcases h with ⟨hv, h0⟩ | ⟨g, cap, cur, hv, hb, hh, hn, hm, hs, ht⟩
  · simp only [Value.slice.injEq] at hv
    obtain ⟨rfl, rfl, rfl⟩ := hv
    exact Free.nil _ _
  · simp only [Value.slice.injEq, true_and] at hv
    obtain ⟨rfl, rfl⟩ := hv
    refine ⟨hn, hm, .inr ⟨g, rfl, hb, (Array.getElem?_eq_some_iff.1 hh).1, fun k hk => ⟨?_, frozen_of_row _ _ _ _ _ hh⟩⟩⟩
    rw [cell_of_row _ _ _ _ _ _ hh]
    have : k < cur.size := by rw [hs]; omega
    simp [this]
/-- new blocks alone -/
theorem chg_grown {B : Nat} {a : Option Addr} {n : Nat} {w w' : World} (hg : w.grownBy w' none) (hB : B ≤ w.heap.size) : Chg B a n w w' := by
  have hb : ∀ b, b < w.heap.size → w'.heap[b]? = w.heap[b]? := fun b hb => hg.block b hb (by simp)
  exact ⟨⟨hg.os, hg.tape, hg.output, hg.size, fun k hk => hb k (by omega)⟩, fun b hb' _ => hb b hb',
    fun b k hb' _ => World.cell?_of_block (a := ⟨b, k, none⟩) (hb b hb'), fun b k hb' h => by rw [World.cell?_of_block (a := ⟨b, k, none⟩) (hb b hb')]; exact h, fun b k hb' => World.frozen?_of_block (a := ⟨b, k, none⟩) (hb b hb')⟩
theorem setCells_size (b : Nat) : ∀ (vs : List Value) (o : Nat) (w : World), (w.setCells b o vs).heap.size = w.heap.size
  | [], _, _ => rfl
  | v :: r, o, w => by rw [World.setCells, setCells_size b r]; simp
theorem setCells_other (b : Nat) : ∀ (vs : List Value) (o : Nat) (w : World) (k : Nat), k ≠ b → (w.setCells b o vs).heap[k]? = w.heap[k]?
  | [], _, _, _, _ => rfl
  | v :: r, o, w, k, h => by rw [World.setCells, setCells_other b r (o + 1) _ k h, heap_setCell_other _ _ _ _ (fun e => h (by simpa using e))]
theorem setCells_below (B b : Nat) (hb : B ≤ b) : ∀ (vs : List Value) (o : Nat) (w : World), Below B w (w.setCells b o vs)
  | [], _, _ => Below.refl _ _
  | v :: r, o, w => ((Below.refl B w).setCell (show B ≤ (⟨b, o, none⟩ : Addr).block from hb) v).trans (setCells_below B b hb r (o + 1) _)
/-- in place -/
theorem chg_place {B g n m : Nat} {w : World} {vs : List Value} (hB : B ≤ g) (hl : vs.length = m) (hv : ∀ j, j < m → (w.cell? ⟨g, n + j, none⟩).isSome = true) : Chg B (some ⟨g, 0, none⟩) n w (w.setCells g n vs) := by
  refine ⟨setCells_below B g hB vs n w, fun b _ h => setCells_other g vs n w b (fun e => h (by rw [e]; rfl)), fun b k _ hk => ?_, fun b k _ h => ?_, fun b k _ => World.frozen?_setCells g vs n w _⟩
  · exact World.cell?_setCells_out g vs n w _ (fun _ _ => .inl hk)
  · exact World.isSome_setCells g vs n w _ h
section
variable {P : Program}
/-- append(x, y...) of bytes, x a slice that may be written -/
theorem run_app_free (w : World) (t ty e : TypeId) (ht : P.underlying t = some (.slice e)) (hi : (P.info? e).map (fun i => (i.zero, i.size, i.bytes)) = some (some (.int .u8 0), 1, 1))
    (B : Nat) (hB : B ≤ w.heap.size) (a : Option Addr) (n c : Nat) (h : Free w B a n c) (ad : Addr) (m c2 : Nat) (news : List Value) (hl : news.length = m) (hnews : ∀ j v, news[j]? = some v → w.cell? (ad.add j) = some v) (h1 : ∀ v ∈ news, v.oneCell' = true)
    (hb : n + m ≤ 140737488355328) :
    ∃ a' c' w', (Builtin.append_ #[t, t] ty #[.slice a n c, .slice (some ad) m c2]).run P w = .ok (.slice a' (n + m) c') w' ∧ Free w' B a' (n + m) c' ∧ Chg B a n w w' ∧ (blk? a' = blk? a ∨ ∃ b, blk? a' = some b ∧ w.heap.size ≤ b) := by
  obtain ⟨i, hi, hz0, hz1, hz2⟩ := info_parts hi
  obtain ⟨hn, hc, hf⟩ := h
  have hml : n + m ≤ maxLen := by unfold maxLen; omega
  rcases hf with ⟨rfl, rfl⟩ | ⟨g, rfl, hg1, hg2, hfr⟩
  · obtain rfl : n = 0 := by omega
    obtain ⟨v', w', hr, ho, hgr, _⟩ := run_append_own (P := P) w w.heap.size t ty e i (.int .u8 0) 1 1 ht hi hz0 hz1 hz2 rfl (by decide) (.slice none 0 0) 0 [] (World.ownsRow_nil w _ e 1) ad m c2 news (by omega) hnews h1 hml (by omega) (Nat.le_refl _)
    obtain ⟨a', c', rfl⟩ := own_slice ho
    refine ⟨a', c', w', hr, (own_free ho).base hB, chg_grown hgr hB, ?_⟩
    obtain ⟨hlen, hh⟩ := ho
    rcases hh with ⟨hv, _⟩ | ⟨g, cap, cur, hv, hbg, hh, _⟩
    · simp only [Value.slice.injEq] at hv
      left; rw [hv.1]
    · simp only [Value.slice.injEq, true_and] at hv
      right
      exact ⟨g, by rw [hv.1]; rfl, hbg⟩
  · have hold : ∀ j u, (((List.range n).map fun j => (w.cell? ⟨g, j, none⟩).getD undef))[j]? = some u → w.cell? ⟨g, 0 + j, none⟩ = some u := by
      intro j u hj
      obtain ⟨hjn, he⟩ := List.getElem?_eq_some_iff.1 hj
      simp only [List.length_map, List.length_range] at hjn
      simp only [List.getElem_map, List.getElem_range] at he
      obtain ⟨v, hv⟩ := Option.isSome_iff_exists.1 (hfr j (by omega)).1
      rw [hv] at he
      simp only [Option.getD_some] at he
      rw [Nat.zero_add, hv, he]
    by_cases hr : n + m ≤ c
    · have hrun := run_append_room_cells (P := P) w t ty e i ht hi g 0 n c ad m c2 news (by rw [hz1]; omega) hnews h1 hr (fun j hj => by rw [hz1, Nat.zero_add, Nat.mul_one]; exact (hfr _ (by omega)).1) (fun j hj => by rw [hz1, Nat.zero_add, Nat.mul_one]; exact (hfr _ (by omega)).2)
      rw [hz1, Nat.zero_add, Nat.mul_one] at hrun
      have hch : Chg B (some ⟨g, 0, none⟩) n w (w.setCells g n news) := chg_place hg1 hl (fun j hj => (hfr _ (by omega)).1)
      refine ⟨_, _, _, hrun, ?_, hch, .inl rfl⟩
      have hF : Free w B (some ⟨g, 0, none⟩) (n + m) c := ⟨hr, hc, .inr ⟨g, rfl, hg1, hg2, hfr⟩⟩
      exact hF.keep hch
    · obtain ⟨v', w', hrun, r1, r2⟩ := run_append_arg_grows (P := P) w t ty e i (.int .u8 0) 1 1 ht hi hz0 hz1 hz2 rfl (by decide) ⟨g, 0, none⟩ n c ((List.range n).map fun j => (w.cell? ⟨g, j, none⟩).getD undef) (by simp) (fun j u hj => by rw [Addr.add_lit]; exact hold j u hj) ad m c2 news (by omega) hnews (by omega) hml (by omega)
      obtain ⟨a', c', rfl⟩ := own_slice r1
      refine ⟨a', c', w', hrun, (own_free r1).base hB, chg_grown r2 hB, .inr ?_⟩
      obtain ⟨hlen, hh⟩ := r1
      rcases hh with ⟨hv, h0⟩ | ⟨g', cap, cur, hv, hbg, hh, _⟩
      · omega
      · simp only [Value.slice.injEq, true_and] at hv
        exact ⟨g', by rw [hv.1]; rfl, hbg⟩
end
end Go.Proofs.YtamgiffkhnfpmaaDoor
namespace Go.Proofs.YtamgiffkhnfpmaaDoor
set_option linter.unusedVariables false
set_option linter.unusedSimpArgs false
open Go.ChangeShapes Go.WideShapes Go.ChangeAt Go.RowKit
/-- bytes and an error's number -/
def PutRes (w : World) (r : List UInt8 × Int) (e : Ending) (w' : World) : Prop :=
  ∃ a n c, e = .returned (.tuple #[.slice a n c, .int .i64 r.2]) ∧ Bs w' a n c r.1 ∧ Below w.heap.size w w'
theorem bs_nil (w : World) : Bs w none 0 0 [] := ⟨rfl, Nat.le_refl _, by unfold maxLen; omega, fun j v hj => by simp at hj, fun _ => ⟨rfl, rfl⟩⟩
theorem PutRes.nil {w w' : World} (k : Int) (h : Below w.heap.size w w') : PutRes w ([], k) (.returned (.tuple #[.slice none 0 0, .int .i64 k])) w' := ⟨none, 0, 0, rfl, bs_nil _, h⟩
/-- and the block is new: its cells may be written -/
def PutResF (w : World) (r : List UInt8 × Int) (e : Ending) (w' : World) : Prop :=
  ∃ a n c, e = .returned (.tuple #[.slice a n c, .int .i64 r.2]) ∧ Bs w' a n c r.1 ∧ Below w.heap.size w w' ∧ Free w' w.heap.size a n c
theorem PutResF.res {w w' : World} {r : List UInt8 × Int} {e : Ending} (h : PutResF w r e w') : PutRes w r e w' := by
  obtain ⟨a, n, c, h1, h2, h3, _⟩ := h
  exact ⟨a, n, c, h1, h2, h3⟩
theorem PutResF.nil {w w' : World} (k : Int) (h : Below w.heap.size w w') : PutResF w ([], k) (.returned (.tuple #[.slice none 0 0, .int .i64 k])) w' := ⟨none, 0, 0, rfl, bs_nil _, h, Free.nil _ _⟩
theorem PutResF.below {w0 w w' : World} {r : List UInt8 × Int} {e : Ending} (k : Below w0.heap.size w0 w) (h : PutResF w r e w') : PutResF w0 r e w' := by
  obtain ⟨a, n, c, h1, h2, h3, h4⟩ := h
  exact ⟨a, n, c, h1, h2, Below.seq k h3, h4.base k.size⟩
/-- []byte(s): the new block may be written -/
theorem bytesWorld_free (w : World) (e : TypeId) (l : List UInt8) (h : l.length ≤ 140737488355328) : Free (Lib.bytesWorld w e ⟨l.toArray⟩) w.heap.size (some ⟨w.heap.size, 0, none⟩) l.length (grownCap w l.length 0 e) := by
  have hge := grownCap_ge w l.length 0 e
  have hsz : (Lib.bytesCells w e ⟨l.toArray⟩).size = grownCap w l.length 0 e := by
    simp [Lib.bytesCells, ByteArray.size]
    omega
  have hnew := Lib.bytesWorld_at_new w e ⟨l.toArray⟩
  refine ⟨hge, grownCap_le_maxLen w _ 0 e (by unfold maxLen; omega), .inr ⟨_, rfl, Nat.le_refl _, by rw [Lib.bytesWorld_size]; omega, fun k hk => ⟨?_, ?_⟩⟩⟩
  · rw [cell_of_row _ _ _ _ _ _ hnew]
    have : k < (Lib.bytesCells w e ⟨l.toArray⟩).size := by omega
    simp [this]
  · have hlt : k < (Lib.bytesCells w e ⟨l.toArray⟩).size := by omega
    simp [World.frozen?, hnew]
    omega
section
variable {P : Program} {ops : Array Oper} {rest : List Oper} {o : Oper} {a : Act} {w : World} {Q : Exit → Act → World → Prop}
theorem wpList_bf_of_str (hgd : o.guard = none) (src dst : TypeId) (x : Operand) (ho : o.op = .convert src dst x) {e : TypeId} (hs : P.underlying src = some .string) (hd : P.underlying dst = some (.slice e)) (he : P.underlying e = some (.int .u8))
    {l : List UInt8} (hx : a.eval x = .string ⟨l.toArray⟩) (hl : l.length ≤ 140737488355328)
    (h : ∀ a' c' w', Bs w' a' l.length c' l → Below w.heap.size w w' → Free w' w.heap.size a' l.length c' → wpList P ops Q rest (a.put o.dst (.slice a' l.length c')) w') : wpList P ops Q (o :: rest) a w := by
  have hr := Lib.run_convert_string_bytes (P := P) w src dst e ⟨l.toArray⟩ hs hd he
  refine wpList_value hgd _ _ ?_ (h _ _ _ (bytesWorld_bs w e l hl) (bytesWorld_below w e _) (bytesWorld_free w e l hl))
  simp [execOp, ho, hx, hr, Result.andThen, ByteArray.size]
end
theorem Repeat0_any (c : Nat) (hc : c ≤ 64) (w : World) : Calls Tryd.prog 29 #[.string ⟨#[48]⟩, .int .i64 c] w fun e w' => e = .returned (.string ⟨(List.replicate c (48 : UInt8)).toArray⟩) ∧ Below w.heap.size w w' := by
  by_cases h0 : c = 0
  · subst h0
    exact (Tryd.strings_Repeat_zero ⟨#[48]⟩ w).mono fun e w' ⟨he, hw⟩ => ⟨he, by rw [hw]; exact Below.refl _ _⟩
  · by_cases h1 : c = 1
    · subst h1
      exact (Tryd.strings_Repeat_one ⟨#[48]⟩ w).mono fun e w' ⟨he, hw⟩ => ⟨he, by rw [hw]; exact Below.refl _ _⟩
    · refine (Tryd.strings_Repeat_main ⟨#[48]⟩ c w (by omega) (by omega) (by show 1 * c ≤ _; omega) (by decide)).mono fun e w' ⟨he, hw⟩ => ⟨?_, hw⟩
      have : Lib.repeatL [48] c = List.replicate c 48 := by
        have := Lib.repeatL_replicate 48 1 c
        rwa [Nat.mul_one] at this
      rw [he, ← this]
theorem str_app (x y : List UInt8) : (⟨x.toArray⟩ : ByteArray) ++ ⟨y.toArray⟩ = ⟨(x ++ y).toArray⟩ := by
  apply ByteArray.ext
  simp
theorem octRow_text (v n : Nat) (hn : nd8 v ≤ n) : List.replicate (n - nd8 v) 48 ++ octRow v (nd8 v) = octRow v n := by
  have := octRow_pad v (nd8 v) (nd8_spec v) (n - nd8 v)
  rw [← this, show nd8 v + (n - nd8 v) = n by omega]
set_option maxRecDepth 100000 in
set_option maxHeartbeats 1600000 in
theorem PutOctal_free (v n : Int) (w : World) (hT : Bru w) (v0 : -9223372036854775808 ≤ v) (v1 : v ≤ 9223372036854775807) (n0 : -9223372036854775808 ≤ n) (n1 : n ≤ 9223372036854775807) :
    Calls Tryd.prog 8 #[.int .i64 v, .int .i64 n] w (PutResF w (Plain.putOctal v n)) := by
  rcases putOctal_cases v n with ⟨h, e⟩ | ⟨h1, h2, h3, e⟩ | ⟨h1, h2, h3, h4, e⟩
  · rw [e]; clear e
    rcases h with h | h
    all_goals
      go_enter Tryd.func8, Tryd.ntmps8
      go_wp2
      all_goals
        go_ret2
        exact PutResF.nil _ (Below.refl _ _)
  · rw [e]; clear e
    by_cases hneg : v < 0
    · clear h3
      go_enter Tryd.func8, Tryd.ntmps8
      go_wp2
      go_ret2
      exact PutResF.nil _ (Below.refl _ _)
    · obtain ⟨u, rfl⟩ := Int.eq_ofNat_of_zero_le (by omega : 0 ≤ v)
      obtain ⟨m, rfl⟩ := Int.eq_ofNat_of_zero_le (by omega : 0 ≤ n)
      have hlen : (m : Int) - 1 < ((octRow u (nd8 u)).length : Int) := by
        have h4 : ¬ u < 8 ^ (m - 1) := by rcases h3 with h3 | h3; exact absurd h3 hneg; simpa using h3
        have h5 : ¬ nd8 u ≤ m - 1 := fun h => h4 ((nd8_iff u (m - 1) (by omega)).1 h)
        unfold octRow; rw [placeRow_len]; omega
      have HF := Lib.hid (FormatInt_8 u (by omega) w hT)
      generalize octRow u (nd8 u) = s at *
      clear h3
      go_enter Tryd.func8, Tryd.ntmps8
      go_wp2_with (go_at_call 28; (with_reducible refine (HF.out).mono ?_); rintro e w1 ⟨rfl, hb⟩)
      go_ret2
      exact PutResF.nil _ hb
  · rw [e]; clear e
    obtain ⟨u, rfl⟩ := Int.eq_ofNat_of_zero_le h3
    obtain ⟨m, rfl⟩ := Int.eq_ofNat_of_zero_le (by omega : 0 ≤ n)
    simp only [Int.toNat_natCast] at h4 ⊢
    have h5 : nd8 u ≤ m - 1 := (nd8_iff u (m - 1) (by omega)).2 h4
    have hlen : (octRow u (nd8 u)).length = nd8 u := by unfold octRow; rw [placeRow_len]
    have htx := octRow_text u (m - 1) h5
    have hll : (octRow u (m - 1)).length = m - 1 := by unfold octRow; rw [placeRow_len]
    have HF := Lib.hid (FormatInt_8 u (by omega) w hT)
    obtain ⟨c, hc⟩ : ∃ c : Nat, (m : Int) - 1 - ((octRow u (nd8 u)).length : Int) = (c : Int) := ⟨m - 1 - nd8 u, by rw [hlen]; omega⟩
    have hcc : m - 1 - nd8 u = c := by rw [hlen] at hc; omega
    have hle : ((octRow u (nd8 u)).length : Int) ≤ (m : Int) - 1 := by rw [hlen]; omega
    rw [hcc] at htx
    generalize octRow u (m - 1) = t at *
    generalize octRow u (nd8 u) = s at *
    have HR := Lib.hid (fun w => Repeat0_any c (by omega) w)
    have hs1 := str_app (List.replicate c 48) s
    have hs2 := str_app t [0]
    rw [htx] at hs1
    have htl : t.length ≤ 63 := by omega
    have hz1 : (List.replicate c (48 : UInt8)).length ≤ 64 := by rw [List.length_replicate]; omega
    have hs1' : s.length ≤ 64 := by omega
    have hti : (t.length : Int) ≤ 63 := by omega
    clear htx hcc hlen h4 hll
    generalize List.replicate c (48 : UInt8) = z at *
    go_enter Tryd.func8, Tryd.ntmps8
    go_wp2_with (first
      | (go_at_call 28; (with_reducible refine (HF.out).mono ?_); rintro e w1 ⟨rfl, hb⟩)
      | (go_at_call 29; (with_reducible refine (HR.out _).mono ?_); rintro e w2 ⟨rfl, hb2⟩)
      | ((with_reducible refine wpList_bf_of_str rfl _ _ _ rfl Tryd.underlying9 Tryd.underlying23 Tryd.underlying5 rfl (by rw [List.length_append]; simp only [List.length_singleton]; omega) ?_); intro a3 c3 w3 hbs3 hb3 hf3))
    have hbs4 : Bs w3 a3 (t.length + 1) c3 (t ++ [0]) := by have := hbs3; rwa [List.length_append] at this
    go_ret2
    have hf4 : Free w3 w2.heap.size a3 (t.length + 1) c3 := by have := hf3; rwa [List.length_append] at this
    exact ⟨a3, _, c3, rfl, hbs4, Below.seq (Below.seq hb hb2) hb3, hf4.base (Below.seq hb hb2).size⟩
theorem PutOctal_any (v n : Int) (w : World) (hT : Bru w) (v0 : -9223372036854775808 ≤ v) (v1 : v ≤ 9223372036854775807) (n0 : -9223372036854775808 ≤ n) (n1 : n ≤ 9223372036854775807) :
    Calls Tryd.prog 8 #[.int .i64 v, .int .i64 n] w (PutRes w (Plain.putOctal v n)) := (PutOctal_free v n w hT v0 v1 n0 n1).mono fun _ _ h => h.res
end Go.Proofs.YtamgiffkhnfpmaaDoor
namespace Go.Proofs.YtamgiffkhnfpmaaDoor
set_option linter.unusedVariables false
set_option linter.unusedSimpArgs false
open Go.ChangeShapes Go.WideShapes Go.ChangeAt Go.RowKit
theorem RowAt.keep {w wr w' : World} {e : TypeId} {l : List UInt8} (h : RowAt w e l wr) (k : Below wr.heap.size wr w') : RowAt w e l w' := by
  refine ⟨Below.seq h.bel k, ?_⟩
  rw [k.block _ (Array.getElem?_eq_some_iff.1 h.row).1]
  exact h.row
theorem RowAt.field {w wr : World} {e : TypeId} {l : List UInt8} (h : RowAt w e l wr) (hl : l.length = 512) : Bs wr (some ⟨w.heap.size, 148, none⟩) (156 - 148) (512 - 148) (sumField l) :=
  row_bs h.row 148 156 (512 - 148) (by decide) (by omega) (by decide) (by unfold maxLen; omega)
theorem sealed_eq (l : List UInt8) (n1 n2 U S : Int) (h : Plain.number (sumField l) = (n1, n2)) (hU : Plain.sum uby l = U) (hS : Plain.sum sby l = S) : Plain.sealed l = (n2 == 0 && (n1 == U || n1 == S)) := by
  unfold Plain.sealed
  rw [h, hU, hS, Bool.eq_iff_iff]
  simp
set_option maxRecDepth 100000 in
set_option maxHeartbeats 1600000 in
theorem Sealed_any (l : List UInt8) (hl : l.length = 512) (w : World) (ev : Value) (hE : ErrIs w ev) :
    Calls Tryd.prog 23 #[.agg (rowA l)] w fun e w' => e = .returned (.bool (Plain.sealed l)) ∧ Below w.heap.size w w' := by
  have HR := Lib.hid (RowAt.new w 45 l)
  have HS := Lib.hid (fun w => Sums_any l hl w)
  have HI := Lib.hid (sizeBlk l hl)
  have HL := Lib.hid hl; have HE := Lib.hid hE
  have hq := sealed_eq l
  generalize hn : Plain.number (sumField l) = r at *
  obtain ⟨n1, n2⟩ := r
  generalize hU : Plain.sum uby l = U at *
  generalize hV : Plain.sum sby l = V at *
  have hq2 := hq n1 n2 U V rfl rfl rfl
  have HN := Lib.hid hn; have HQ := Lib.hid hq2
  clear hq hq2 hl hE hn hU hV
  go_enter Tryd.func23, Tryd.ntmps23
  go_wp2_with (with_reducible refine wpList_box_agg rfl _ _ rfl (rowA l) rfl ?_)
  have hR := HR.out
  generalize w.alloc (.cells (rowA l) 45) = wa at *
  have HRR := Lib.hid hR; clear hR HR
  go_wp2_with (first
    | (with_reducible refine wpList_slice_row rfl _ _ _ _ rfl Tryd.underlying45 (by kernel_rfl) w.heap.size rfl 148 156 .i64 .i64 rfl rfl (by decide) (by decide) (by decide) ?_)
    | (go_at_call 40; (refine (Number_any _ _ _ (sumField l) wa ev (by exact HRR.out.field HL.out) (by decide) (by exact HE.out.below HRR.out.bel)).mono ?_); rintro e w1 ⟨rfl, hb1⟩; rw [HN.out]; unfold decV; have HR1 := Lib.hid (HRR.out.keep hb1); have H1 := Lib.hid HR1.out.row; clear hb1)
    | (with_reducible refine wpList_load_row rfl _ _ rfl w.heap.size rfl 45 (rowA l) (0, 0) _ H1.out Tryd.underlying45 rfl HI.out ?_)
    | (go_at_call 25; (with_reducible refine (HS.out _).mono ?_); rintro e w2 ⟨rfl, hb2⟩; have HB2 := Lib.hid (Below.seq HR1.out.bel hb2); clear hb2))
  all_goals
    go_ret
    refine ⟨ret_bool ?_, HB2.out⟩
    rw [HQ.out]
    first | rfl | simp_all
end Go.Proofs.YtamgiffkhnfpmaaDoor
namespace Go.Proofs.YtamgiffkhnfpmaaDoor
set_option linter.unusedVariables false
set_option linter.unusedSimpArgs false
open Go.ChangeShapes Go.WideShapes Go.ChangeAt Go.RowKit
theorem results_cell_tmp {P : Program} {fn : Func} {p q : Tmp} {ty : TypeId} (h : fn.results = #[.cell p ty, .tmp q]) (tmps : Array Value) (w : World) (g : Nat) (t : TypeId) (cs : Array Value) (fr : Nat × Nat) (d : TypeDesc) (v : Value)
    (hp : tmps.getD p undef = .pointer (some ⟨g, 0, none⟩)) (hq : tmps.getD q undef = v) (hg : w.heap[g]? = some (.cells cs t fr))
    (hu : P.underlying ty = some d) (hd : (match d with | .struct _ | .array _ _ => true | _ => false) = true) (hi : (P.info? ty).map (·.size) = some cs.size) :
    (results fn tmps).run P w = .ok (.tuple #[.agg cs, v]) w := by
  have hp' : tmps[p]?.getD undef = .pointer (some ⟨g, 0, none⟩) := by simpa using hp
  have hq' : tmps[q]?.getD undef = v := by simpa using hq
  simp [results, h, hp', hq', asAddr, run_loadVar_row w g t ty cs fr d hg hu hd hi]
/-- a header's cells -/
def hdC (h : Hd) : Array Value := #[.string ⟨h.name.toArray⟩, .string ⟨h.link.toArray⟩, .int .i64 h.mode, .int .i64 h.uid, .int .i64 h.gid, .int .i64 h.size, .int .i64 h.mtime, .int .u8 (h.ty.toNat : Int), .string ⟨h.user.toArray⟩, .string ⟨h.group.toArray⟩, .int .i64 h.major, .int .i64 h.minor, .int .i64 h.form]
theorem hdC_size (h : Hd) : (hdC h).size = 13 := rfl
theorem hdC_one (h : Hd) : ∀ u ∈ (hdC h).toList, u.oneCell' = true := by
  intro u hu
  simp [hdC] at hu
  rcases hu with h | h | h | h | h | h | h | h | h | h | h | h | h <;> subst h <;> rfl
theorem hdInfo (h : Hd) : (Tryd.prog.info? 43).map (·.size) = some (hdC h).size := by rw [hdC_size]; kernel_rfl
def hdRes (r : Hd × Int) : Value := .tuple #[.agg (hdC r.1), .int .i64 r.2]
/-- the block and the result's variable -/
structure H2 (w : World) (l : List UInt8) (wr : World) : Prop where
  bel : Below w.heap.size w wr
  r0 : wr.heap[w.heap.size]? = some (.cells (rowA l) 45 (0, 0))
  r1 : wr.heap[w.heap.size + 1]? = some (.cells (hdC Hd.zero) 43 (0, 0))
theorem H2.new (w : World) (l : List UInt8) : H2 w l ((w.alloc (.cells (rowA l) 45)).alloc (.cells (hdC Hd.zero) 43)) :=
  ⟨((Below.refl _ _).alloc (Nat.le_refl _) _).alloc (by simp) _, heap_alloc2_old _ _ _, heap_alloc2_new _ _ _⟩
theorem H2.lit (w : World) (l : List UInt8) : H2 w l ((w.alloc (.cells (rowA l) 45)).alloc (.cells #[.string ⟨#[]⟩, .string ⟨#[]⟩, .int .i64 0, .int .i64 0, .int .i64 0, .int .i64 0, .int .i64 0, .int .u8 0, .string ⟨#[]⟩, .string ⟨#[]⟩, .int .i64 0, .int .i64 0, .int .i64 0] 43)) := H2.new w l
theorem H2.lt {w wr : World} {l : List UInt8} (h : H2 w l wr) : w.heap.size + 1 < wr.heap.size := (Array.getElem?_eq_some_iff.1 h.r1).1
theorem H2.keep {w wr w' : World} {l : List UInt8} (h : H2 w l wr) (k : Below wr.heap.size wr w') : H2 w l w' := by
  refine ⟨Below.seq h.bel k, ?_, ?_⟩
  · rw [k.block _ (Array.getElem?_eq_some_iff.1 h.r0).1]; exact h.r0
  · rw [k.block _ h.lt]; exact h.r1
theorem H2.part {w wr : World} {l : List UInt8} (h : H2 w l wr) (hl : l.length = 512) (s e : Nat) (h1 : s ≤ e) (h2 : e ≤ 512) : Bs wr (some ⟨w.heap.size, s, none⟩) (e - s) (512 - s) (fld l s e) :=
  row_bs h.r0 s e (512 - s) h1 (by omega) (by omega) (by unfold maxLen; omega)
set_option maxRecDepth 100000 in
set_option maxHeartbeats 1600000 in
theorem HRead_no (l : List UInt8) (hl : l.length = 512) (w : World) (ev : Value) (hE : ErrIs w ev) (h : l = zblk ∨ Plain.sealed l = false) :
    Calls Tryd.prog 26 #[.agg (rowA l)] w fun e w' => e = .returned (hdRes (Plain.hread l)) ∧ Below w.heap.size w w' := by
  have hr : Plain.hread l = (Hd.zero, if l = zblk then 40 else 41) := by
    unfold Plain.hread
    by_cases c : l = zblk
    · rw [if_pos c, if_pos c]
    · rw [if_neg c, if_neg c, if_pos (h.resolve_left c)]
  rw [hr]
  have HH := Lib.hid (H2.lit w l)
  have HI := Lib.hid (sizeBlk l hl)
  have HD := Lib.hid (hdInfo Hd.zero)
  have HO := Lib.hid (hdC_one Hd.zero)
  have HZ := Lib.hid (fun w => Zero_any l hl w)
  have HS := Lib.hid (fun w hE => Sealed_any l hl w ev hE)
  have HE := Lib.hid hE
  clear hE hr
  by_cases c : l = zblk
  · rw [if_pos c]
    have hd : decide (l = zblk) = true := dec_t c
    rw [hd] at HZ
    clear h c hd HS
    go_enter Tryd.func26, Tryd.ntmps26
    go_upto_region 1 with (with_reducible refine wpList_box_agg rfl _ _ rfl (rowA l) rfl ?_)
    have hR := HH.out
    generalize (w.alloc (.cells (rowA l) 45)).alloc (.cells #[.string ⟨#[]⟩, .string ⟨#[]⟩, .int .i64 0, .int .i64 0, .int .i64 0, .int .i64 0, .int .i64 0, .int .u8 0, .string ⟨#[]⟩, .string ⟨#[]⟩, .int .i64 0, .int .i64 0, .int .i64 0] 43) = wa at *
    have HR := Lib.hid hR
    clear hR HH
    go_wp2_with (first
      | (with_reducible refine wpList_load_row rfl _ _ rfl w.heap.size rfl 45 (rowA l) (0, 0) _ HR.out.r0 Tryd.underlying45 rfl HI.out ?_)
      | (go_at_call 24; (with_reducible refine (HZ.out _).mono ?_); rintro e w1 ⟨rfl, hb1⟩; have HR1 := Lib.hid (HR.out.keep hb1); clear hb1)
      | (with_reducible refine wpList_store_row rfl 43 _ _ rfl (w.heap.size + 1) rfl (hdC Hd.zero) rfl (hdC Hd.zero) 43 HR1.out.r1 rfl HD.out HO.out ?_))
    refine bodyPost_ret (results_cell_tmp rfl _ _ (w.heap.size + 1) 43 (hdC Hd.zero) (0, 0) _ _ rfl rfl (setRow_heap _ _ _ _ _ _ HR1.out.r1) Tryd.underlying43 rfl HD.out) rfl ⟨rfl, Below.setRow HR1.out.bel (by omega) _⟩
  · rw [if_neg c]
    have hd : decide (l = zblk) = false := dec_f c
    rw [hd] at HZ
    rw [h.resolve_left c] at HS
    clear h c hd
    go_enter Tryd.func26, Tryd.ntmps26
    go_upto_region 1 with (with_reducible refine wpList_box_agg rfl _ _ rfl (rowA l) rfl ?_)
    have hR := HH.out
    generalize (w.alloc (.cells (rowA l) 45)).alloc (.cells #[.string ⟨#[]⟩, .string ⟨#[]⟩, .int .i64 0, .int .i64 0, .int .i64 0, .int .i64 0, .int .i64 0, .int .u8 0, .string ⟨#[]⟩, .string ⟨#[]⟩, .int .i64 0, .int .i64 0, .int .i64 0] 43) = wa at *
    have HR := Lib.hid hR
    clear hR HH
    go_wp2_with (first
      | (with_reducible refine wpList_load_row rfl _ _ rfl w.heap.size rfl 45 (rowA l) (0, 0) _ HR.out.r0 Tryd.underlying45 rfl HI.out ?_)
      | (go_at_call 24; (with_reducible refine (HZ.out _).mono ?_); rintro e w1 ⟨rfl, hb1⟩; have HR1 := Lib.hid (HR.out.keep hb1); clear hb1)
      | (with_reducible refine wpList_load_row rfl _ _ rfl w.heap.size rfl 45 (rowA l) (0, 0) _ HR1.out.r0 Tryd.underlying45 rfl HI.out ?_)
      | (go_at_call 23; (with_reducible refine (HS.out _ (by exact HE.out.below HR1.out.bel)).mono ?_); rintro e w2 ⟨rfl, hb2⟩; have HR2 := Lib.hid (HR1.out.keep hb2); clear hb2)
      | (with_reducible refine wpList_store_row rfl 43 _ _ rfl (w.heap.size + 1) rfl (hdC Hd.zero) rfl (hdC Hd.zero) 43 HR2.out.r1 rfl HD.out HO.out ?_))
    refine bodyPost_ret (results_cell_tmp rfl _ _ (w.heap.size + 1) 43 (hdC Hd.zero) (0, 0) _ _ rfl rfl (setRow_heap _ _ _ _ _ _ HR2.out.r1) Tryd.underlying43 rfl HD.out) rfl ⟨rfl, Below.setRow HR2.out.bel (by omega) _⟩
end Go.Proofs.YtamgiffkhnfpmaaDoor
namespace Go.Proofs.YtamgiffkhnfpmaaDoor
set_option linter.unusedVariables false
set_option linter.unusedSimpArgs false
open Go.ChangeShapes Go.WideShapes Go.ChangeAt Go.RowKit
/-- the number of place k -/
def nAt (l : List UInt8) (k : Nat) : Int × Int := numAt l (fieldAt k).1 (fieldAt k).2.1
def okAt (l : List UInt8) (k : Nat) : Bool := numOk (nAt l k) (fieldAt k).2.2.1 (fieldAt k).2.2.2
theorem numsOk_eq (l : List UInt8) : numsOk l = (okAt l 0 && okAt l 1 && okAt l 2 && okAt l 3 && okAt l 4 && (!isDev l || (okAt l 5 && okAt l 6))) := rfl
theorem numsOk_bad (l : List UInt8) (k : Nat) (hk : k < 7) (h5 : k < 5 ∨ isDev l = true) (h : okAt l k = false) : numsOk l = false := by
  rw [numsOk_eq]
  rcases (by omega : k = 0 ∨ k = 1 ∨ k = 2 ∨ k = 3 ∨ k = 4 ∨ k = 5 ∨ k = 6) with rfl | rfl | rfl | rfl | rfl | rfl | rfl
  · simp [h]
  · simp [h]
  · simp [h]
  · simp [h]
  · simp [h]
  · simp [h, h5.resolve_left (by decide)]
  · simp [h, h5.resolve_left (by decide)]
theorem numsOk_good (l : List UInt8) (k : Nat) (hk : k = 7 ∨ (k = 5 ∧ isDev l = false)) (h : ∀ j, j < k → okAt l j = true) : numsOk l = true := by
  rw [numsOk_eq]
  rcases hk with rfl | ⟨rfl, hd⟩
  · rw [h 0 (by decide), h 1 (by decide), h 2 (by decide), h 3 (by decide), h 4 (by decide), h 5 (by decide), h 6 (by decide)]; simp
  · rw [h 0 (by decide), h 1 (by decide), h 2 (by decide), h 3 (by decide), h 4 (by decide), hd]; simp
theorem okAt_iff (l : List UInt8) (k : Nat) : okAt l k = true ↔ (nAt l k).2 = 0 ∧ (fieldAt k).2.2.1 ≤ (nAt l k).1 ∧ (nAt l k).1 ≤ (fieldAt k).2.2.2 := by unfold okAt numOk; simp
theorem fieldAt_bd (k : Nat) (h : k < 7) : (fieldAt k).1 ≤ (fieldAt k).2.1 ∧ (fieldAt k).2.1 ≤ 345 ∧ (fieldAt k).1 < 345 := by
  rcases (by omega : k = 0 ∨ k = 1 ∨ k = 2 ∨ k = 3 ∨ k = 4 ∨ k = 5 ∨ k = 6) with rfl | rfl | rfl | rfl | rfl | rfl | rfl <;> decide
/-- the numbers that have been read -/
def vTo (l : List UInt8) (k : Nat) : List Int := (List.range 7).map fun j => if j < k then (nAt l j).1 else 0
theorem vTo_len (l : List UInt8) (k : Nat) : (vTo l k).length = 7 := by simp [vTo]
theorem vTo_set (l : List UInt8) (k : Nat) (h : k < 7) : (vTo l k).set k (nAt l k).1 = vTo l (k + 1) := by
  apply List.ext_getElem (by simp [vTo])
  intro i h1 h2
  simp only [vTo, List.length_map, List.length_range] at h2
  rw [List.getElem_set]
  simp only [vTo, List.getElem_map, List.getElem_range]
  by_cases e : k = i
  · subst e; simp
  · rw [if_neg e]
    by_cases h3 : i < k
    · rw [if_pos h3, if_pos (by omega)]
    · rw [if_neg h3, if_neg (by omega)]
def vC (vs : List Int) : Array Value := (vs.map (Value.int .i64)).toArray
theorem vC_size (vs : List Int) : (vC vs).size = vs.length := by simp [vC]
theorem vC_set (vs : List Int) (k : Nat) (x : Int) : (vC vs).setIfInBounds k (.int .i64 x) = vC (vs.set k x) := by simp [vC, List.map_set]
theorem vC_at (vs : List Int) (k : Nat) (h : k < vs.length) : (vC vs)[k]? = some (.int .i64 (vs.getD k 0)) := by simp [vC, List.getD, List.getElem?_eq_getElem h]
/-- the block, the result's variable, the header's variable -/
structure H3 (w : World) (l : List UInt8) (gh : Nat) (h : Hd) (wr : World) : Prop where
  two : H2 w l wr
  ge : w.heap.size + 2 ≤ gh
  rh : wr.heap[gh]? = some (.cells (hdC h) 43 (0, 0))
theorem H3.lt {w wr : World} {l : List UInt8} {gh : Nat} {h : Hd} (k : H3 w l gh h wr) : gh < wr.heap.size := (Array.getElem?_eq_some_iff.1 k.rh).1
theorem H3.keep {w wr w' : World} {l : List UInt8} {gh : Nat} {h : Hd} (x : H3 w l gh h wr) (k : Below wr.heap.size wr w') : H3 w l gh h w' :=
  ⟨x.two.keep k, x.ge, by rw [k.block _ x.lt]; exact x.rh⟩
theorem H3.cell {w wr : World} {l : List UInt8} {gh : Nat} {h : Hd} (x : H3 w l gh h wr) (k : Nat) : wr.cell? ⟨gh, k, none⟩ = (hdC h)[k]? := by rw [cell_of_row _ _ _ _ _ _ x.rh]
theorem H3.free {w wr : World} {l : List UInt8} {gh : Nat} {h : Hd} (x : H3 w l gh h wr) (k : Nat) : wr.frozen? ⟨gh, k, none⟩ = false := frozen_of_row _ _ _ _ _ x.rh
theorem H2.setOther {w wr : World} {l : List UInt8} (x : H2 w l wr) {g k : Nat} (hg : w.heap.size + 2 ≤ g) (v : Value) : H2 w l (wr.setCell ⟨g, k, none⟩ v) := by
  refine ⟨x.bel.setCell (show w.heap.size ≤ (⟨g, k, none⟩ : Addr).block from by simp only; omega) v, ?_, ?_⟩
  · rw [heap_setCell_other _ _ _ _ (by simp only; omega)]; exact x.r0
  · rw [heap_setCell_other _ _ _ _ (by simp only; omega)]; exact x.r1
theorem H3.set {w wr : World} {l : List UInt8} {gh : Nat} {h h' : Hd} (x : H3 w l gh h wr) (k : Nat) (v : Value) (e : (hdC h).setIfInBounds k v = hdC h') : H3 w l gh h' (wr.setCell ⟨gh, k, none⟩ v) :=
  ⟨x.two.setOther x.ge v, x.ge, by rw [heap_setCell_same _ _ _ _ _ _ x.rh, e]⟩
theorem H3.drew {w wr : World} {l : List UInt8} {gh : Nat} {h : Hd} (x : H3 w l gh h wr) : H3 w l gh h wr.drew := x.keep ((Below.refl _ _).drew)
/-- and the numbers' variable -/
structure H4 (w : World) (l : List UInt8) (gh : Nat) (h : Hd) (gv : Nat) (vs : List Int) (wr : World) : Prop where
  three : H3 w l gh h wr
  ge : gh < gv
  rv : wr.heap[gv]? = some (.cells (vC vs) 71 (0, 0))
theorem H4.lt {w wr : World} {l : List UInt8} {gh : Nat} {h : Hd} {gv : Nat} {vs : List Int} (k : H4 w l gh h gv vs wr) : gv < wr.heap.size := (Array.getElem?_eq_some_iff.1 k.rv).1
theorem H4.keep {w wr w' : World} {l : List UInt8} {gh : Nat} {h : Hd} {gv : Nat} {vs : List Int} (x : H4 w l gh h gv vs wr) (k : Below wr.heap.size wr w') : H4 w l gh h gv vs w' :=
  ⟨x.three.keep k, x.ge, by rw [k.block _ x.lt]; exact x.rv⟩
theorem H4.cell {w wr : World} {l : List UInt8} {gh : Nat} {h : Hd} {gv : Nat} {vs : List Int} (x : H4 w l gh h gv vs wr) (k : Nat) (hk : k < vs.length) : wr.cell? ⟨gv, k, none⟩ = some (.int .i64 (vs.getD k 0)) := by
  rw [cell_of_row _ _ _ _ _ _ x.rv, vC_at _ _ hk]
theorem H4.free {w wr : World} {l : List UInt8} {gh : Nat} {h : Hd} {gv : Nat} {vs : List Int} (x : H4 w l gh h gv vs wr) (k : Nat) : wr.frozen? ⟨gv, k, none⟩ = false := frozen_of_row _ _ _ _ _ x.rv
theorem H4.put {w wr : World} {l : List UInt8} {gh : Nat} {h : Hd} {gv : Nat} {vs : List Int} (x : H4 w l gh h gv vs wr) (k : Nat) (v : Int) : H4 w l gh h gv (vs.set k v) (wr.setCell ⟨gv, k, none⟩ (.int .i64 v)) := by
  have h1 := x.three.ge
  have h2 := x.ge
  exact ⟨⟨x.three.two.setOther (by omega) _, x.three.ge, by rw [heap_setCell_other _ _ _ _ (by simp only; omega)]; exact x.three.rh⟩, x.ge, by rw [heap_setCell_same _ _ _ _ _ _ x.rv, vC_set]⟩
theorem H4.set {w wr : World} {l : List UInt8} {gh : Nat} {h h' : Hd} {gv : Nat} {vs : List Int} (x : H4 w l gh h gv vs wr) (k : Nat) (v : Value) (e : (hdC h).setIfInBounds k v = hdC h') : H4 w l gh h' gv vs (wr.setCell ⟨gh, k, none⟩ v) := by
  have h2 := x.ge
  exact ⟨x.three.set k v e, x.ge, by rw [heap_setCell_other _ _ _ _ (by simp only; omega)]; exact x.rv⟩
theorem index_fields (k : Nat) (hk : k < 7) (w : World) : (Instr.index 74 (.agg fieldsA) (.int .i64 (k : Int))).run Tryd.prog w = .ok (.agg (fieldV k).toArray) w := by
  rcases (by omega : k = 0 ∨ k = 1 ∨ k = 2 ∨ k = 3 ∨ k = 4 ∨ k = 5 ∨ k = 6) with rfl | rfl | rfl | rfl | rfl | rfl | rfl <;> kernel_rfl
section
variable {P : Program} {ops : Array Oper} {rest : List Oper} {o : Oper} {a : Act} {w : World} {Q : Exit → Act → World → Prop}
theorem wpList_index_at (hgd : o.guard = none) (t : TypeId) (y x : Operand) (ho : o.op = .index t y x) {vy vx : Value} (hy : a.eval y = vy) (hx : a.eval x = vx) (v : Value) (hr : (Instr.index t vy vx).run P w = .ok v w)
    (h : wpList P ops Q rest (a.put o.dst v) w) : wpList P ops Q (o :: rest) a w := by
  refine wpList_value hgd _ _ ?_ h
  simp [execOp, ho, hy, hx, hr, Result.andThen]
end
end Go.Proofs.YtamgiffkhnfpmaaDoor
namespace Go.Proofs.YtamgiffkhnfpmaaDoor
set_option linter.unusedVariables false
set_option linter.unusedSimpArgs false
open Go.ChangeShapes Go.WideShapes Go.ChangeAt Go.RowKit
/-- a header's texts lie within the form's reach -/
structure HdSz (h : Hd) : Prop where
  name : h.name.length ≤ 140737488351232
  link : h.link.length ≤ 140737488351232
  user : h.user.length ≤ 140737488351232
  group : h.group.length ≤ 140737488351232
def fitB (s : List UInt8) (n : Int) : Bool := decide ((s.length : Int) ≤ n) && decide (Lib.indexByte s 0 < 0)
theorem nul_iff (l : List UInt8) : (0 : UInt8) ∈ l ↔ 0 ≤ Lib.indexByte l 0 := by
  constructor
  · intro h
    rcases Int.lt_or_le (Lib.indexByte l 0) 0 with h0 | h0
    · exfalso
      obtain ⟨k, hk, he⟩ := List.getElem_of_mem h
      exact Plain.indexByte_none l h0 k hk (by simp [List.getD, List.getElem?_eq_getElem hk, he])
    · exact h0
  · intro h
    obtain ⟨j, hj, h0⟩ := Plain.indexByte_some l h
    have : l[j] = 0 := by simpa [List.getD, List.getElem?_eq_getElem hj] using h0
    rw [← this]; exact List.getElem_mem hj
theorem fitB_iff (s : List UInt8) (n : Nat) : fitB s n = true ↔ s.length ≤ n ∧ (0 : UInt8) ∉ s := by
  unfold fitB
  rw [nul_iff, Bool.and_eq_true, decide_eq_true_eq, decide_eq_true_eq]
  omega
/-- the number of place k of a header -/
def vAt (h : Hd) : Nat → Int
  | 0 => h.mode
  | 1 => h.uid
  | 2 => h.gid
  | 3 => h.size
  | 4 => h.mtime
  | 5 => h.major
  | _ => h.minor
def wAt (k : Nat) : Int := ((fieldAt k).2.1 : Int) - ((fieldAt k).1 : Int)
def fok (h : Hd) (k : Nat) : Bool := decide ((Plain.put (vAt h k) (wAt k)).2 = 0 ∧ (fieldAt k).2.2.1 ≤ vAt h k ∧ vAt h k ≤ (fieldAt k).2.2.2)
def part1 (h : Hd) : Bool := decide ((Plain.split h.name).2.2 = 0) && (fitB h.link 100 && (fitB h.user 32 && (fitB h.group 32 && decide (h.ty ≠ 0))))
theorem goodH_eq (h : Hd) (hi : HdIn h) : goodH h = true ↔ part1 h = true ∧ ∀ k, k < 7 → fok h k = true := by
  have b1 := (inI64_iff h.mode).1 hi.mode
  have b2 := (inI64_iff h.size).1 hi.size
  have b3 := (inI64_iff h.major).1 hi.major
  have b4 := (inI64_iff h.minor).1 hi.minor
  have f1 := fitB_iff h.link 100
  have f2 := fitB_iff h.user 32
  have f3 := fitB_iff h.group 32
  unfold goodH part1
  simp only [Bool.and_eq_true, decide_eq_true_eq]
  have e100 : ((100 : Nat) : Int) = 100 := rfl
  have e32 : ((32 : Nat) : Int) = 32 := rfl
  rw [e100] at f1; rw [e32] at f2 f3
  rw [f1, f2, f3]
  have hk : (∀ k, k < 7 → fok h k = true) ↔ (fok h 0 = true ∧ fok h 1 = true ∧ fok h 2 = true ∧ fok h 3 = true ∧ fok h 4 = true ∧ fok h 5 = true ∧ fok h 6 = true) := by
    constructor
    · intro a
      exact ⟨a 0 (by decide), a 1 (by decide), a 2 (by decide), a 3 (by decide), a 4 (by decide), a 5 (by decide), a 6 (by decide)⟩
    · rintro ⟨a0, a1, a2, a3, a4, a5, a6⟩ k hk
      rcases (by omega : k = 0 ∨ k = 1 ∨ k = 2 ∨ k = 3 ∨ k = 4 ∨ k = 5 ∨ k = 6) with rfl | rfl | rfl | rfl | rfl | rfl | rfl
      · exact a0
      · exact a1
      · exact a2
      · exact a3
      · exact a4
      · exact a5
      · exact a6
  rw [hk]
  have k0 : fok h 0 = decide ((Plain.put h.mode 8).2 = 0 ∧ 0 ≤ h.mode ∧ h.mode ≤ 9223372036854775807) := rfl
  have k1 : fok h 1 = decide ((Plain.put h.uid 8).2 = 0 ∧ 0 ≤ h.uid ∧ h.uid ≤ 2147483647) := rfl
  have k2 : fok h 2 = decide ((Plain.put h.gid 8).2 = 0 ∧ 0 ≤ h.gid ∧ h.gid ≤ 2147483647) := rfl
  have k3 : fok h 3 = decide ((Plain.put h.size 12).2 = 0 ∧ 0 ≤ h.size ∧ h.size ≤ 9223372036854775807) := rfl
  have k4 : fok h 4 = decide ((Plain.put h.mtime 12).2 = 0 ∧ -1099511627776 ≤ h.mtime ∧ h.mtime ≤ 1099511627776) := rfl
  have k5 : fok h 5 = decide ((Plain.put h.major 8).2 = 0 ∧ 0 ≤ h.major ∧ h.major ≤ 9223372036854775807) := rfl
  have k6 : fok h 6 = decide ((Plain.put h.minor 8).2 = 0 ∧ 0 ≤ h.minor ∧ h.minor ≤ 9223372036854775807) := rfl
  rw [k0, k1, k2, k3, k4, k5, k6]
  simp only [decide_eq_true_eq]
  constructor
  · rintro ⟨⟨⟨g1, g2, g3, g4, g5, g6, g7, g8⟩, m1, m2, m3, m4, m5, m6, m7, m8, m9, m10⟩, p1, p2, p3, p4, p5, p6, p7⟩
    refine ⟨⟨g1, ⟨g2, g5⟩, ⟨g3, g6⟩, ⟨g4, g7⟩, g8⟩, ⟨p1, m1, by omega⟩, ⟨p2, m5, m6⟩, ⟨p3, m7, m8⟩, ⟨p4, m2, by omega⟩, ⟨p5, m9, m10⟩, ⟨p6, m3, by omega⟩, ⟨p7, m4, by omega⟩⟩
  · rintro ⟨⟨g1, ⟨g2, g5⟩, ⟨g3, g6⟩, ⟨g4, g7⟩, g8⟩, ⟨p1, m1, _⟩, ⟨p2, m5, m6⟩, ⟨p3, m7, m8⟩, ⟨p4, m2, _⟩, ⟨p5, m9, m10⟩, ⟨p6, m3, _⟩, ⟨p7, m4, _⟩⟩
    exact ⟨⟨⟨g1, g2, g3, g4, g5, g6, g7, g8⟩, m1, m2, m3, m4, m5, m6, m7, m8, m9, m10⟩, p1, p2, p3, p4, p5, p6, p7⟩
/-- the numbers that have been laid -/
def bTo (h : Hd) : Nat → List UInt8
  | 0 => zblk
  | k + 1 => lay (bTo h k) (fieldAt k).1 (Plain.put (vAt h k) (wAt k)).1
theorem vAt_in (h : Hd) (hi : HdIn h) (k : Nat) : inI64 (vAt h k) = true := by
  rcases k with _ | _ | _ | _ | _ | _ | k
  · exact hi.mode
  · exact hi.uid
  · exact hi.gid
  · exact hi.size
  · exact hi.mtime
  · exact hi.major
  · exact hi.minor
theorem fok_len (h : Hd) (hi : HdIn h) (k : Nat) (hk : k < 7) (ho : fok h k = true) : (Plain.put (vAt h k) (wAt k)).1.length = (fieldAt k).2.1 - (fieldAt k).1 := by
  have hb := fieldAt_bd k hk
  unfold fok at ho
  rw [decide_eq_true_eq] at ho
  refine put_len (vAt h k) (wAt k) (vAt_in h hi k) ho.1 _ ?_
  unfold wAt; omega
theorem bTo_len (h : Hd) (hi : HdIn h) : ∀ k, k ≤ 7 → (∀ j, j < k → fok h j = true) → (bTo h k).length = 512
  | 0, _, _ => zblk_len
  | k + 1, hk, ho => by
    have ih := bTo_len h hi k (by omega) (fun j hj => ho j (by omega))
    have hb := fieldAt_bd k (by omega)
    have hl := fok_len h hi k (by omega) (ho k (by omega))
    show (lay (bTo h k) (fieldAt k).1 _).length = 512
    rw [lay_len _ _ _ (by rw [ih, hl]; omega), ih]
/-- what is laid behind the numbers -/
def bAll (h : Hd) : List UInt8 :=
  lay (lay (lay (lay (lay (lay (lay (bTo h 7) 0 (Plain.split h.name).2.1) 156 [h.ty]) 157 h.link) 257 magicU) 265 h.user) 297 h.group) 345 (Plain.split h.name).1
theorem bAll_eq (h : Hd) (hi : HdIn h) (hg : goodH h = true) : bAll h = blkOf h := by
  have hg2 := (goodH_eq h hi).1 hg
  have ho := hg2.2
  unfold goodH at hg
  rw [Bool.and_eq_true, Bool.and_eq_true, decide_eq_true_eq, decide_eq_true_eq, decide_eq_true_eq] at hg
  obtain ⟨⟨⟨g1, g2, g3, g4, g5, g6, g7, g8⟩, _⟩, _⟩ := hg
  have hsp : ∃ p s, Plain.split h.name = (p, s, 0) ∧ Plain.Well h.name p s := by
    rcases Plain.split_cases h.name with h1 | ⟨h1, _⟩
    · exact h1
    · rw [h1] at g1; cases g1
  obtain ⟨p, s, hps, hw⟩ := hsp
  obtain ⟨w1, w2, w3, w4⟩ := hw
  have l0 := fok_len h hi 0 (by decide) (ho 0 (by decide))
  have l1 := fok_len h hi 1 (by decide) (ho 1 (by decide))
  have l2 := fok_len h hi 2 (by decide) (ho 2 (by decide))
  have l3 := fok_len h hi 3 (by decide) (ho 3 (by decide))
  have l4 := fok_len h hi 4 (by decide) (ho 4 (by decide))
  have l5 := fok_len h hi 5 (by decide) (ho 5 (by decide))
  have l6 := fok_len h hi 6 (by decide) (ho 6 (by decide))
  have hc := chain_prog s (Plain.put (vAt h 0) (wAt 0)).1 (Plain.put (vAt h 1) (wAt 1)).1 (Plain.put (vAt h 2) (wAt 2)).1 (Plain.put (vAt h 3) (wAt 3)).1 (Plain.put (vAt h 4) (wAt 4)).1 (Plain.put (vAt h 5) (wAt 5)).1 (Plain.put (vAt h 6) (wAt 6)).1 h.link h.user h.group p h.ty w2
    (Nat.le_of_eq l0) (Nat.le_of_eq l1) (Nat.le_of_eq l2) (Nat.le_of_eq l3) (Nat.le_of_eq l4) (Nat.le_of_eq l5) (Nat.le_of_eq l6) g2 g3 g4 w3
  unfold bAll blkOf partsOf
  rw [hps]
  exact hc
theorem make_good (h : Hd) (hg : goodH h = true) : Plain.make h = (Plain.seal (blkOf h), 0) := by unfold Plain.make; rw [if_pos hg]
theorem make_bad (h : Hd) (hg : goodH h = false) : Plain.make h = (zblk, 43) := by unfold Plain.make; rw [if_neg (by rw [hg]; decide)]
theorem goodH_no1 (h : Hd) (hi : HdIn h) (hp : part1 h = false) : goodH h = false := by
  cases hg : goodH h with
  | false => rfl
  | true => rw [((goodH_eq h hi).1 hg).1] at hp; cases hp
theorem goodH_no2 (h : Hd) (hi : HdIn h) (k : Nat) (hk : k < 7) (hp : fok h k = false) : goodH h = false := by
  cases hg : goodH h with
  | false => rfl
  | true => rw [((goodH_eq h hi).1 hg).2 k hk] at hp; cases hp
end Go.Proofs.YtamgiffkhnfpmaaDoor
namespace Go.Proofs.YtamgiffkhnfpmaaDoor
set_option linter.unusedVariables false
set_option linter.unusedSimpArgs false
open Go.ChangeShapes Go.WideShapes Go.ChangeAt Go.RowKit
/-- what lies ahead of the first blank -/
def recHead (l : List UInt8) : List UInt8 := l.takeWhile (· != 32)
/-- key and value of a record's text -/
def recText (u : List UInt8) : Option (List UInt8 × List UInt8) :=
  if (u.takeWhile (· != 61)).length < u.length ∧ u.takeWhile (· != 61) ≠ [] then some (u.takeWhile (· != 61), u.drop ((u.takeWhile (· != 61)).length + 1)) else none
/-- a record of n bytes whose number has d digits -/
def recBody (l : List UInt8) (d n : Nat) : Option ((List UInt8 × List UInt8) × Nat) :=
  if ((l.take n).drop (d + 1)).getLast? = some 10 then (recText ((l.take n).drop (d + 1)).dropLast).map fun p => (p, n) else none
/-- the first record of l, and how many bytes it has -/
def Plain.one (l : List UInt8) : Option ((List UInt8 × List UInt8) × Nat) :=
  if (recHead l).length < l.length ∧ (recHead l).length ≤ 9 ∧ (Plain.decimal (recHead l)).2 = 0 ∧ (recHead l).length + 1 < (Plain.decimal (recHead l)).1.toNat ∧ (Plain.decimal (recHead l)).1.toNat ≤ l.length
  then recBody l (recHead l).length (Plain.decimal (recHead l)).1.toNat else none
theorem recHead_at (l : List UInt8) (d : Nat) (hd : d < l.length) (h : ∀ k, k < d → l.getD k 0 ≠ 32) (h32 : l.getD d 0 = 32) : recHead l = l.take d := by
  refine (while_at (p := (· != 32)) l d (by omega) ?_ (fun _ => by rw [h32]; rfl)).1
  rw [List.all_eq_true]
  intro x hx
  obtain ⟨k, hk, rfl⟩ := List.mem_take_iff_getElem.1 hx
  have := h k (by omega)
  have hk2 : k < l.length := by omega
  simp only [List.getD, List.getElem?_eq_getElem hk2, Option.getD_some] at this
  simpa using this
theorem recHead_none (l : List UInt8) (k : Nat) (hk : k < (recHead l).length) : l.getD k 0 ≠ 32 := by
  have hp : recHead l <+: l := List.takeWhile_prefix _
  have hlen := hp.length_le
  have hm := List.getElem_mem hk
  have hall : (recHead l).all (· != 32) = true := List.all_takeWhile
  have := (List.all_eq_true.1 hall) _ hm
  have hg : (recHead l)[k] = l[k]'(by omega) := hp.getElem hk
  have hk2 : k < l.length := by omega
  simp only [List.getD, List.getElem?_eq_getElem hk2, Option.getD_some, ← hg]
  simpa using this
theorem recHead_take (l : List UInt8) : recHead l = l.take (recHead l).length := (List.prefix_iff_eq_take.1 (List.takeWhile_prefix _))
theorem recHead_end (l : List UInt8) (h : (recHead l).length < l.length) : l.getD (recHead l).length 0 = 32 := by
  have hdrop : l.dropWhile (· != 32) = l.drop (recHead l).length := by
    have e := List.takeWhile_append_dropWhile (p := (· != 32)) (l := l)
    have e2 := List.take_append_drop (recHead l).length l
    rw [← recHead_take] at e2
    exact List.append_cancel_left (e.trans e2.symm)
  have hne : l.dropWhile (· != 32) ≠ [] := by
    rw [hdrop]; intro h0
    have := congrArg List.length h0
    simp at this; omega
  have hh := List.head_dropWhile_not (· != 32) hne
  have hg : (l.dropWhile (· != 32)).head hne = l.getD (recHead l).length 0 := by
    simp only [hdrop, List.head_drop]
    simp [List.getD, List.getElem?_eq_getElem h]
  rw [← hg]
  simpa using hh
theorem decimal_code (l : List UInt8) (h : l = [] ∨ l.all isDig = false) : (Plain.decimal l).2 = 10 := by
  unfold Plain.decimal; rw [if_pos]
  rcases h with h | h
  · exact .inl h
  · exact .inr (.inr h)
theorem all_dig_false (l : List UInt8) (k : Nat) (hk : k < l.length) (h : isDig (l.getD k 0) = false) : l.all isDig = false := all_no l k hk h
theorem take_getD (l : List UInt8) (n k : Nat) (h : k < n) : (l.take n).getD k 0 = l.getD k 0 := by simp [List.getD, List.getElem?_take, h]
theorem drop_getD (l : List UInt8) (n k : Nat) : (l.drop n).getD k 0 = l.getD (n + k) 0 := by simp [List.getD]
/-- the reference's tests: d digits ahead -/
def RecTop (l : List UInt8) (d : Nat) : Prop := 1 ≤ d ∧ d ≤ 9 ∧ l.getD 0 0 ≠ 48 ∧ d < l.length ∧ l.getD d 0 = 32
theorem dig_lt (c : UInt8) (h : isDig c = true) : c ≠ 32 := by
  intro e; subst e; revert h; decide
theorem decAcc_small (D : List UInt8) (h : D.all isDig = true) (h9 : D.length ≤ 9) : decAcc 0 D ≤ 999999999 := by
  have h1 : ∀ (l : List UInt8), l.all isDig = true → decAcc 0 l < 10 ^ l.length := by
    have key : ∀ (l : List UInt8) (v : Nat), l.all isDig = true → decAcc v l < (v + 1) * 10 ^ l.length := by
      intro l
      induction l with
      | nil => intro v _; simp [decAcc]
      | cons c l ih =>
        intro v hc
        rw [List.all_cons, Bool.and_eq_true] at hc
        have hd := (isDig_iff c).1 hc.1
        have := ih (v * 10 + (c.toNat - 48)) hc.2
        have e : decAcc v (c :: l) = decAcc (v * 10 + (c.toNat - 48)) l := rfl
        rw [e, List.length_cons, Nat.pow_succ]
        have h2 : v * 10 + (c.toNat - 48) + 1 ≤ (v + 1) * 10 := by omega
        have h3 := Nat.mul_le_mul_right (10 ^ l.length) h2
        have h4 : (v + 1) * 10 * 10 ^ l.length = (v + 1) * (10 ^ l.length * 10) := by rw [Nat.mul_assoc, Nat.mul_comm 10]
        omega
    intro l hl
    have := key l 0 hl
    simpa using this
  have h2 := h1 D h
  have h3 : 10 ^ D.length ≤ 10 ^ 9 := Nat.pow_le_pow_right (by decide) h9
  have h4 : (10 : Nat) ^ 9 = 1000000000 := rfl
  omega
theorem one_top (l : List UInt8) (d : Nat) (ht : RecTop l d) (hdig : ∀ k, k < d → isDig (l.getD k 0) = true) :
    recHead l = l.take d ∧ Plain.decimal (l.take d) = (((decAcc 0 (l.take d) : Nat) : Int), 0) ∧
    Plain.one l = if d + 1 < decAcc 0 (l.take d) ∧ decAcc 0 (l.take d) ≤ l.length then recBody l d (decAcc 0 (l.take d)) else none := by
  obtain ⟨h1, h9, h48, hlt, h32⟩ := ht
  have hh := recHead_at l d hlt (fun k hk => dig_lt _ (hdig k hk)) h32
  have hlen : (l.take d).length = d := by rw [List.length_take]; omega
  have hall : (l.take d).all isDig = true := by
    rw [List.all_eq_true]
    intro x hx
    obtain ⟨k, hk, rfl⟩ := List.mem_take_iff_getElem.1 hx
    have := hdig k (by omega)
    have hk2 : k < l.length := by omega
    simpa [List.getD, List.getElem?_eq_getElem hk2] using this
  have hsm := decAcc_small _ hall (by omega)
  have hdec : Plain.decimal (l.take d) = (((decAcc 0 (l.take d) : Nat) : Int), 0) := by
    unfold Plain.decimal
    rw [if_neg, if_pos (by omega)]
    rintro (h | h | h)
    · rw [h] at hlen; simp at hlen; omega
    · rw [take_getD l d 0 (by omega)] at h; exact h48 h.1
    · rw [hall] at h; cases h
  refine ⟨hh, hdec, ?_⟩
  unfold Plain.one
  rw [hh, hlen, hdec]
  simp only [Int.toNat_natCast]
  by_cases hc : d + 1 < decAcc 0 (l.take d) ∧ decAcc 0 (l.take d) ≤ l.length
  · rw [if_pos hc, if_pos ⟨hlt, h9, trivial, hc.1, hc.2⟩]
  · rw [if_neg hc, if_neg]
    rintro ⟨_, _, _, a, b⟩
    exact hc ⟨a, b⟩
/-- how the reference's count of digits stands -/
structure DigCount (l : List UInt8) (d : Nat) : Prop where
  le : d ≤ l.length
  ten : d ≤ 10
  dig : ∀ k, k < d → isDig (l.getD k 0) = true
  stop : d < l.length → d < 10 → isDig (l.getD d 0) = false
theorem one_notop (l : List UInt8) (d : Nat) (hc : DigCount l d) (ht : ¬ RecTop l d) : Plain.one l = none := by
  unfold Plain.one
  rw [if_neg]
  rintro ⟨h1, h2, h3, h4, h5⟩
  apply ht
  have hcode : ¬ (recHead l = [] ∨ (recHead l).all isDig = false) := fun h => by rw [decimal_code _ h] at h3; cases h3
  have hne : recHead l ≠ [] := fun h => hcode (.inl h)
  have hall : (recHead l).all isDig = true := by
    cases h : (recHead l).all isDig with
    | true => rfl
    | false => exact absurd (.inr h) hcode
  have hpos : 0 < (recHead l).length := List.length_pos_iff.2 hne
  have h32 := recHead_end l h1
  have hgd : ∀ k, k < (recHead l).length → isDig (l.getD k 0) = true := fun k hk => by
    have := (List.all_eq_true.1 hall) _ (List.getElem_mem hk)
    have hg : (recHead l)[k] = l[k]'(by omega) := (List.takeWhile_prefix _ : recHead l <+: l).getElem hk
    rw [hg] at this
    have hk2 : k < l.length := by omega
    simpa [List.getD, List.getElem?_eq_getElem hk2] using this
  have hd : d = (recHead l).length := by
    rcases Nat.lt_trichotomy d (recHead l).length with h | h | h
    · have := hc.stop (by omega) (by omega)
      rw [hgd d h] at this; cases this
    · exact h
    · have := hc.dig (recHead l).length h
      rw [h32] at this
      exact absurd this (by decide)
  have h48 : l.getD 0 0 ≠ 48 := by
    intro h48
    have hg0 : (recHead l).getD 0 0 = 48 := by
      rw [recHead_take l, take_getD l _ 0 hpos]; exact h48
    by_cases h11 : 1 < (recHead l).length
    · have : (Plain.decimal (recHead l)).2 = 10 := by
        unfold Plain.decimal; rw [if_pos (.inr (.inl ⟨hg0, h11⟩))]
      rw [this] at h3; cases h3
    · have hl1 : (recHead l).length = 1 := by omega
      obtain ⟨c, hcc⟩ := List.length_eq_one_iff.1 hl1
      rw [hcc] at hg0 h4
      have : c = 48 := by simpa using hg0
      rw [this] at h4
      revert h4
      decide
  exact ⟨by omega, by omega, h48, by omega, by rw [hd]; exact h32⟩
/-- the record's last byte, and its text -/
theorem body_parts (l : List UInt8) (d n : Nat) (h1 : d + 1 < n) (h2 : n ≤ l.length) :
    ((l.take n).drop (d + 1)).getLast? = some (l.getD (n - 1) 0) ∧ ((l.take n).drop (d + 1)).dropLast = (l.take (n - 1)).drop (d + 1) := by
  have hlen : ((l.take n).drop (d + 1)).length = n - (d + 1) := by rw [List.length_drop, List.length_take]; omega
  constructor
  · rw [List.getLast?_eq_getElem?, hlen, List.getElem?_drop, List.getElem?_take]
    have hk : n - 1 < l.length := by omega
    rw [if_pos (by omega), show d + 1 + (n - (d + 1) - 1) = n - 1 by omega]
    simp [List.getD, List.getElem?_eq_getElem hk]
  · rw [List.dropLast_eq_take, hlen, List.take_drop, List.take_take, show min (d + 1 + (n - (d + 1) - 1)) n = n - 1 by omega]
theorem recBody_eq (l : List UInt8) (d n : Nat) (h1 : d + 1 < n) (h2 : n ≤ l.length) :
    recBody l d n = if l.getD (n - 1) 0 = 10 then (recText ((l.take (n - 1)).drop (d + 1))).map (fun p => (p, n)) else none := by
  obtain ⟨a, b⟩ := body_parts l d n h1 h2
  unfold recBody
  rw [a, b]
  by_cases h : l.getD (n - 1) 0 = 10
  · rw [if_pos (by rw [h]), if_pos h]
  · rw [if_neg (fun e => h (Option.some.inj e)), if_neg h]
theorem recText_short (u : List UInt8) (h : u.length ≤ 1) : recText u = none := by
  unfold recText
  rw [if_neg]
  rintro ⟨h1, h2⟩
  have : u.takeWhile (· != 61) = [] := List.eq_nil_of_length_eq_zero (by omega)
  exact h2 this
/-- n as the reference tests it -/
theorem one_size (l : List UInt8) (d n : Nat) (h1 : d + 1 < n) (h2 : n ≤ l.length) (h4 : n < d + 4) : recBody l d n = none := by
  rw [recBody_eq l d n h1 h2, recText_short _ (by rw [List.length_drop, List.length_take]; omega)]
  split <;> rfl
theorem one_bound (l : List UInt8) (p : List UInt8 × List UInt8) (n : Nat) (h : Plain.one l = some (p, n)) : 5 ≤ n ∧ n ≤ l.length := by
  unfold Plain.one at h
  split at h
  · rename_i hc
    obtain ⟨h1, h2, h3, h4, h5⟩ := hc
    have hn : n = (Plain.decimal (recHead l)).1.toNat := by
      unfold recBody at h
      split at h
      · rw [Option.map_eq_some_iff] at h
        obtain ⟨q, _, hq⟩ := h
        exact (Prod.ext_iff.1 hq).2.symm
      · cases h
    have hpos : 0 < (recHead l).length := by
      rcases Nat.eq_zero_or_pos (recHead l).length with h0 | h0
      · have : recHead l = [] := List.eq_nil_of_length_eq_zero h0
        rw [decimal_code _ (.inl this)] at h3; cases h3
      · exact h0
    by_cases h4' : (Plain.decimal (recHead l)).1.toNat < (recHead l).length + 4
    · rw [one_size l _ _ h4 h5 h4'] at h; cases h
    · omega
  · cases h
/-- the pairs of an extended header -/
def readF : Nat → List UInt8 → Option (List (List UInt8 × List UInt8))
  | 0, l => if l = [] then some [] else none
  | f + 1, l => if l = [] then some [] else match Plain.one l with
    | none => none
    | some (p, n) => (readF f (l.drop n)).map (p :: ·)
theorem readF_more : ∀ (f g : Nat) (l : List UInt8), l.length ≤ f → l.length ≤ g → readF f l = readF g l
  | 0, 0, l, _, _ => rfl
  | 0, g + 1, l, h, _ => by
    have : l = [] := List.eq_nil_of_length_eq_zero (by omega)
    subst this; rfl
  | f + 1, 0, l, _, h => by
    have : l = [] := List.eq_nil_of_length_eq_zero (by omega)
    subst this; rfl
  | f + 1, g + 1, l, h1, h2 => by
    unfold readF
    by_cases h0 : l = []
    · rw [if_pos h0, if_pos h0]
    · rw [if_neg h0, if_neg h0]
      cases ho : Plain.one l with
      | none => rfl
      | some r =>
        obtain ⟨p, n⟩ := r
        have hb := one_bound l p n ho
        simp only
        rw [readF_more f g (l.drop n) (by rw [List.length_drop]; omega) (by rw [List.length_drop]; omega)]
def Plain.read (l : List UInt8) : Option (List (List UInt8 × List UInt8)) := readF l.length l
theorem read_nil : Plain.read [] = some [] := rfl
theorem read_none (l : List UInt8) (h : l ≠ []) (ho : Plain.one l = none) : Plain.read l = none := by
  unfold Plain.read
  obtain ⟨m, hm⟩ : ∃ m, l.length = m + 1 := ⟨l.length - 1, by have := List.length_pos_iff.2 h; omega⟩
  rw [hm]; unfold readF; rw [if_neg h, ho]
theorem read_some (l : List UInt8) (p : List UInt8 × List UInt8) (n : Nat) (ho : Plain.one l = some (p, n)) : Plain.read l = (Plain.read (l.drop n)).map (p :: ·) := by
  have hb := one_bound l p n ho
  have h : l ≠ [] := fun h0 => by subst h0; simp at hb; omega
  unfold Plain.read
  obtain ⟨m, hm⟩ : ∃ m, l.length = m + 1 := ⟨l.length - 1, by have := List.length_pos_iff.2 h; omega⟩
  rw [hm]; conv => lhs; unfold readF
  rw [if_neg h, ho]
  simp only
  rw [readF_more m (l.drop n).length (l.drop n) (by rw [List.length_drop]; omega) (Nat.le_refl _)]
theorem recHead_app (x y : List UInt8) (h : (recHead x).length < x.length) : recHead (x ++ y) = recHead x := by
  have h1 := recHead_at (x ++ y) (recHead x).length (by rw [List.length_append]; omega) (fun k hk => by
    have := recHead_none x k hk
    have hk2 : k < x.length := by omega
    simpa [List.getD, List.getElem?_append_left hk2] using this) (by
    have := recHead_end x h
    simpa [List.getD, List.getElem?_append_left h] using this)
  rw [h1, List.take_append_of_le_length (by omega), ← recHead_take]
theorem one_app (x y : List UInt8) (r : (List UInt8 × List UInt8) × Nat) (h : Plain.one x = some r) : Plain.one (x ++ y) = some r := by
  have h0 := h
  unfold Plain.one at h ⊢
  split at h
  · rename_i hc
    obtain ⟨h1, h2, h3, h4, h5⟩ := hc
    rw [recHead_app x y h1, if_pos ⟨by rw [List.length_append]; omega, h2, h3, h4, by rw [List.length_append]; omega⟩]
    unfold recBody at h ⊢
    rw [List.take_append_of_le_length h5]
    exact h
  · cases h
theorem read_app (y : List UInt8) : ∀ (f : Nat) (x : List UInt8) (p : List (List UInt8 × List UInt8)), x.length ≤ f → Plain.read x = some p → Plain.read (x ++ y) = (Plain.read y).map (p ++ ·)
  | 0, x, p, hf, h => by
    have : x = [] := List.eq_nil_of_length_eq_zero (by omega)
    subst this
    rw [read_nil] at h
    cases h
    rw [List.nil_append]
    cases Plain.read y <;> rfl
  | f + 1, x, p, hf, h => by
    by_cases hx : x = []
    · subst hx
      rw [read_nil] at h
      cases h
      rw [List.nil_append]
      cases Plain.read y <;> rfl
    · cases ho : Plain.one x with
      | none => rw [read_none x hx ho] at h; cases h
      | some r =>
        obtain ⟨q, n⟩ := r
        have hb := one_bound x q n ho
        rw [read_some x q n ho] at h
        obtain ⟨p', hp', rfl⟩ := Option.map_eq_some_iff.1 h
        rw [read_some (x ++ y) q n (one_app x y _ ho), List.drop_append_of_le_length hb.2, read_app y f (x.drop n) p' (by rw [List.length_drop]; omega) hp']
        cases Plain.read y <;> rfl
theorem read_join (x y : List UInt8) (p : List (List UInt8 × List UInt8)) (h : Plain.read x = some p) : Plain.read (x ++ y) = (Plain.read y).map (p ++ ·) := read_app y x.length x p (Nat.le_refl _) h
theorem read_empty (l : List UInt8) (h : Plain.read l = some []) : l = [] := by
  apply Classical.byContradiction
  intro hl
  cases ho : Plain.one l with
  | none => rw [read_none l hl ho] at h; cases h
  | some r =>
    obtain ⟨q, n⟩ := r
    rw [read_some l q n ho] at h
    obtain ⟨p', _, hp⟩ := Option.map_eq_some_iff.1 h
    cases hp
/-- data cut in the midst says fewer pairs -/
theorem read_cut (l : List UInt8) (n : Nat) (hn : n < l.length) (p q : List (List UInt8 × List UInt8)) (h : Plain.read l = some p) (hq : Plain.read (l.take n) = some q) : q.length < p.length ∧ p.take q.length = q := by
  have e := read_join (l.take n) (l.drop n) q hq
  rw [List.take_append_drop, h] at e
  obtain ⟨r, hr, he⟩ := Option.map_eq_some_iff.1 e.symm
  subst he
  have hr0 : r ≠ [] := fun h0 => by
    subst h0
    have := congrArg List.length (read_empty _ hr)
    rw [List.length_drop] at this
    simp at this; omega
  have := List.length_pos_iff.2 hr0
  exact ⟨by rw [List.length_append]; omega, List.take_left⟩
theorem read_len (f : Nat) : ∀ (l : List UInt8) (p : List (List UInt8 × List UInt8)), l.length ≤ f → Plain.read l = some p → 5 * p.length ≤ l.length := by
  induction f with
  | zero =>
    intro l p hf h
    have : l = [] := List.eq_nil_of_length_eq_zero (by omega)
    subst this
    rw [read_nil] at h; cases h; simp
  | succ f ih =>
    intro l p hf h
    by_cases hx : l = []
    · subst hx
      rw [read_nil] at h; cases h; simp
    · cases ho : Plain.one l with
      | none => rw [read_none l hx ho] at h; cases h
      | some r =>
        obtain ⟨q, n⟩ := r
        have hb := one_bound l q n ho
        rw [read_some l q n ho] at h
        obtain ⟨p', hp', rfl⟩ := Option.map_eq_some_iff.1 h
        have := ih (l.drop n) p' (by rw [List.length_drop]; omega) hp'
        rw [List.length_drop] at this
        rw [List.length_cons]; omega
end Go.Proofs.YtamgiffkhnfpmaaDoor
namespace Go.Proofs.YtamgiffkhnfpmaaDoor
set_option linter.unusedVariables false
set_option linter.unusedSimpArgs false
open Go.ChangeShapes Go.WideShapes Go.ChangeAt Go.RowKit
/-- how many digits u has -/
def nd (u : Nat) : Nat := (Lib.decDigits u).length
theorem nd_pos (u : Nat) : 1 ≤ nd u := List.length_pos_iff.2 (decDigits_ne u)
theorem nd_le (u : Nat) (h : u < 100000000000000000000) : nd u ≤ 20 := decDigits_len 19 u (by omega)
theorem nd_mono : ∀ (v u : Nat), u ≤ v → nd u ≤ nd v := by
  intro v
  induction v using Nat.strongRecOn with
  | ind v ih =>
    intro u huv
    by_cases h1 : u < 10
    · have e : nd u = 1 := by unfold nd; rw [Lib.decDigits, dif_pos h1]; rfl
      rw [e]; exact nd_pos v
    · have h2 : ¬ v < 10 := by omega
      have e1 : nd u = nd (u / 10) + 1 := by unfold nd; rw [Lib.decDigits, dif_neg h1, List.length_append]; rfl
      have e2 : nd v = nd (v / 10) + 1 := by unfold nd; rw [Lib.decDigits, dif_neg h2, List.length_append]; rfl
      have := ih (v / 10) (by omega) (u / 10) (by omega)
      omega
/-- d digits are what base + d has, and nothing below d is so -/
def IsSize (base d : Nat) : Prop := nd (base + d) = d ∧ ∀ d', d' < d → nd (base + d') ≠ d'
theorem isSize_exists (base : Nat) (h : base + 21 < 100000000000000000000) : ∃ d, d ≤ 20 ∧ IsSize base d := by
  have key : ∀ n, n ≤ 21 → (∃ d, d < n ∧ IsSize base d) ∨ (n ≤ nd (base + n) ∧ ∀ d', d' < n → nd (base + d') ≠ d') := by
    intro n
    induction n with
    | zero => intro _; exact .inr ⟨Nat.zero_le _, fun d' h => absurd h (Nat.not_lt_zero _)⟩
    | succ n ih =>
      intro hn
      rcases ih (by omega) with ⟨d, h1, h2⟩ | ⟨h1, h2⟩
      · exact .inl ⟨d, by omega, h2⟩
      · by_cases he : nd (base + n) = n
        · exact .inl ⟨n, by omega, he, h2⟩
        · have := nd_mono (base + (n + 1)) (base + n) (by omega)
          refine .inr ⟨by omega, fun d' hd' => ?_⟩
          by_cases e : d' = n
          · subst e; exact he
          · exact h2 d' (by omega)
  rcases key 21 (Nat.le_refl _) with ⟨d, h1, h2⟩ | ⟨h1, _⟩
  · exact ⟨d, by omega, h2⟩
  · have := nd_le (base + 21) h; omega
/-- a number of digits that is not the size's: the size lies behind -/
theorem IsSize.next {base d k : Nat} (h : IsSize base d) (hk : k ≤ d) (hne : nd (base + k) ≠ k) : k + 1 ≤ d := by
  by_cases e : k = d
  · subst e; exact absurd h.1 hne
  · omega
theorem IsSize.here {base d k : Nat} (h : IsSize base d) (hk : k ≤ d) (he : nd (base + k) = k) : k = d := by
  by_cases e : k = d
  · exact e
  · exact absurd he (h.2 k (by omega))
theorem IsSize.pos {base d : Nat} (h : IsSize base d) : 1 ≤ d := by
  have := nd_pos (base + d); rw [h.1] at this; exact this
set_option maxHeartbeats 800000 in
theorem Size_any (k v : List UInt8) (d : Nat) (w : World) (ht : Pow10 w) (hk : k.length ≤ 140737488351232) (hv : v.length ≤ 140737488351232) (hd : IsSize (k.length + v.length + 3) d) (hd20 : d ≤ 20) :
    Calls Tryd.prog 90 #[.agg #[.string ⟨k.toArray⟩, .string ⟨v.toArray⟩]] w fun e w' => e = .returned (.int .i64 ((k.length + v.length + 3 + d : Nat) : Int)) ∧ Below w.heap.size w w' := by
  have hp1 := hd.pos
  have HT := Lib.hid ht; have HD := Lib.hid hd; clear ht hd
  go_enter Tryd.func90, Tryd.ntmps90
  go_wp2
  go_loopw [4] (fun i wr => ∃ j : Nat, 1 ≤ j ∧ j ≤ d ∧ i = .int .i64 j ∧ Below w.heap.size w wr) (fun i _ => d - (intOf i).toNat)
  case atStart => exact ⟨1, by omega, hp1, rfl, (Below.refl _ _).alloc (Nat.le_refl _) _⟩
  case round =>
    obtain ⟨j, hj1, hj, rfl, hb⟩ := hrel
    have hS := Show_any ((k.length : Int) + v.length + 3 + j) (by omega) (by omega) wr (HT.out.below hb)
    have hlen : (Lib.itoa ((k.length : Int) + v.length + 3 + j)).length = nd (k.length + v.length + 3 + j) := by
      have e : ((k.length : Int) + v.length + 3 + j) = ((k.length + v.length + 3 + j : Nat) : Int) := by omega
      rw [e, Lib.itoa_nonneg]; rfl
    generalize Lib.itoa ((k.length : Int) + v.length + 3 + j) = s at *
    have HS := Lib.hid hS; clear hS
    by_cases he : nd (k.length + v.length + 3 + j) = j
    · obtain rfl := HD.out.here hj he
      rw [he] at hlen
      have hq : ((s.length : Int) == (j : Int)) = true := by rw [beq_iff_eq]; omega
      go_wp2_with (go_at_call 56; refine (HS.out).mono ?_; rintro e w1 ⟨rfl, hb1⟩)
      go_ret
      exact ⟨by go_num, Below.seq hb hb1⟩
    · have hn := HD.out.next hj he
      have hq : ((s.length : Int) == (j : Int)) = false := by rw [beq_eq_false_iff_ne]; omega
      clear he hlen
      go_wp2_with (go_at_call 56; refine (HS.out).mono ?_; rintro e w1 ⟨rfl, hb1⟩)
      exact ⟨⟨j + 1, by omega, hn, by go_num, Below.seq hb hb1⟩, by simp [intOf]; omega⟩
end Go.Proofs.YtamgiffkhnfpmaaDoor
namespace Go.Proofs.YtamgiffkhnfpmaaDoor
set_option linter.unusedVariables false
set_option linter.unusedSimpArgs false
open Go.ChangeShapes Go.WideShapes Go.ChangeAt Go.RowKit
def sizeF : Nat → Nat → Nat → Nat
  | 0, _, d => d
  | f + 1, base, d => if nd (base + d) = d then d else sizeF f base (d + 1)
theorem sizeF_eq (base d0 : Nat) (h : IsSize base d0) : ∀ f d, d ≤ d0 → d0 ≤ d + f → sizeF f base d = d0
  | 0, d, h1, h2 => by unfold sizeF; omega
  | f + 1, d, h1, h2 => by
    unfold sizeF
    by_cases he : nd (base + d) = d
    · rw [if_pos he]; exact h.here h1 he
    · rw [if_neg he]; exact sizeF_eq base d0 h f (d + 1) (h.next h1 he) (by omega)
abbrev Pt := List UInt8 × List UInt8
def recBase (p : Pt) : Nat := p.1.length + p.2.length + 3
def recSize (p : Pt) : Nat := recBase p + sizeF 22 (recBase p) 0
theorem recSize_is (p : Pt) (h : recBase p + 21 < 100000000000000000000) : ∃ d, d ≤ 20 ∧ IsSize (recBase p) d ∧ recSize p = recBase p + d := by
  obtain ⟨d, h1, h2⟩ := isSize_exists (recBase p) h
  exact ⟨d, h1, h2, by unfold recSize; rw [sizeF_eq (recBase p) d h2 22 0 (by omega) (by omega)]⟩
/-- a record -/
def recBytes (p : Pt) : List UInt8 := Lib.decDigits (recSize p) ++ (32 :: (p.1 ++ (61 :: (p.2 ++ [10]))))
theorem recBytes_len (p : Pt) (h : recBase p + 21 < 100000000000000000000) : (recBytes p).length = recSize p := by
  obtain ⟨d, h1, h2, h3⟩ := recSize_is p h
  have hn : (Lib.decDigits (recSize p)).length = d := by rw [h3]; exact h2.1
  unfold recBytes
  simp only [List.length_append, List.length_cons, List.length_nil, hn]
  rw [h3]; unfold recBase; omega
def badKey (k : List UInt8) : Bool := decide (k = [] ∨ 61 ∈ k)
theorem recText_of (k v : List UInt8) (h : badKey k = false) : recText (k ++ (61 :: v)) = some (k, v) := by
  unfold badKey at h
  rw [decide_eq_false_iff_not] at h
  have h1 : k ≠ [] := fun e => h (.inl e)
  have h2 : ∀ x ∈ k, (x != 61) = true := fun x hx => by
    rw [bne_iff_ne]; intro e; subst e; exact h (.inr hx)
  have ht : (k ++ (61 :: v)).takeWhile (· != 61) = k := by
    rw [List.takeWhile_append_of_pos h2, List.takeWhile_cons_of_neg (by decide), List.append_nil]
  unfold recText
  rw [ht, if_pos ⟨by rw [List.length_append, List.length_cons]; omega, h1⟩, show k.length + 1 = (k ++ [61]).length by simp]
  have e : k ++ (61 :: v) = (k ++ [61]) ++ v := by simp
  rw [e, List.drop_left]
theorem getD_mid (x : List UInt8) (c : UInt8) (y : List UInt8) : (x ++ c :: y).getD x.length 0 = c := by simp [List.getD]
theorem one_rec (p : Pt) (rest : List UInt8) (hk : badKey p.1 = false) (hs : recSize p ≤ 1048576) : Plain.one (recBytes p ++ rest) = some (p, recSize p) := by
  have hb : recBase p + 21 < 100000000000000000000 := by
    have : recBase p ≤ recSize p := by unfold recSize; omega
    omega
  obtain ⟨d, h20, h2, h3⟩ := recSize_is p hb
  have hn : (Lib.decDigits (recSize p)).length = d := by rw [h3]; exact h2.1
  have hlen := recBytes_len p hb
  have hp1 := h2.pos
  have hk1 : p.1 ≠ [] := fun e => by rw [e] at hk; revert hk; decide
  have hkl : 1 ≤ p.1.length := List.length_pos_iff.2 hk1
  have hdn := decDigits_all (recSize p)
  have hda := decAcc_decDigits (recSize p)
  have hdh := decDigits_head (recSize p) (by rw [h3]; unfold recBase; omega)
  have hd9 : d ≤ 9 := by
    have := decDigits_len 6 (recSize p) (by omega)
    omega
  generalize hD : Lib.decDigits (recSize p) = D at *
  have hl : recBytes p ++ rest = D ++ (32 :: (p.1 ++ (61 :: (p.2 ++ (10 :: rest))))) := by
    unfold recBytes; rw [hD]; simp
  have htop : RecTop (recBytes p ++ rest) d := by
    refine ⟨hp1, hd9, ?_, ?_, ?_⟩
    · rw [hl]
      have : (D ++ (32 :: (p.1 ++ (61 :: (p.2 ++ (10 :: rest)))))).getD 0 0 = D.getD 0 0 := by
        simp [List.getD, List.getElem?_append_left (show 0 < D.length by omega)]
      rw [this]; exact hdh
    · rw [List.length_append, hlen]; unfold recSize recBase at *; omega
    · rw [hl]
      simp [List.getD, List.getElem?_append_right (show D.length ≤ d by omega), hn]
  have htake : (recBytes p ++ rest).take d = D := by
    rw [hl, ← hn]; exact List.take_left
  obtain ⟨_, _, ho⟩ := one_top _ d htop (fun k hkd => by
    rw [← take_getD _ d k hkd, htake]
    have hkD : k < D.length := by omega
    have := (List.all_eq_true.1 hdn) _ (List.getElem_mem hkD)
    simpa [List.getD, List.getElem?_eq_getElem hkD] using this)
  rw [htake, hda] at ho
  have hcond : d + 1 < recSize p ∧ recSize p ≤ (recBytes p ++ rest).length := by
    refine ⟨by rw [h3]; unfold recBase; omega, by rw [List.length_append, hlen]; omega⟩
  rw [ho, if_pos hcond, recBody_eq _ _ _ hcond.1 hcond.2]
  have e2 : recBytes p ++ rest = (D ++ (32 :: (p.1 ++ (61 :: p.2)))) ++ (10 :: rest) := by rw [hl]; simp
  have hl2 : (D ++ (32 :: (p.1 ++ (61 :: p.2)))).length = recSize p - 1 := by
    simp only [List.length_append, List.length_cons, hn]; rw [h3]; unfold recBase; omega
  have hlast : (recBytes p ++ rest).getD (recSize p - 1) 0 = 10 := by
    rw [e2, ← hl2]
    exact getD_mid _ _ _
  have htxt : ((recBytes p ++ rest).take (recSize p - 1)).drop (d + 1) = p.1 ++ (61 :: p.2) := by
    rw [e2, ← hl2, List.take_left]
    have : D ++ (32 :: (p.1 ++ (61 :: p.2))) = (D ++ [32]) ++ (p.1 ++ (61 :: p.2)) := by simp
    rw [this, show d + 1 = (D ++ [32]).length by simp [hn], List.drop_left]
  rw [if_pos hlast, htxt, recText_of p.1 p.2 hk]
  rfl
def recSum (ps : List Pt) : Nat := (ps.map recSize).sum
/-- the document's answer -/
def Plain.write (ps : List Pt) : List UInt8 × Int :=
  if ps.any (fun p => badKey p.1) = true then ([], 51) else if 1048576 < recSum ps then ([], 21) else (ps.flatMap recBytes, 0)
theorem write_flat (ps : List Pt) (h : ps.any (fun p => badKey p.1) = false) (hs : recSum ps ≤ 1048576) : Plain.read (ps.flatMap recBytes) = some ps ∧ (ps.flatMap recBytes).length = recSum ps := by
  induction ps with
  | nil => exact ⟨rfl, rfl⟩
  | cons p ps ih =>
    rw [List.any_cons, Bool.or_eq_false_iff] at h
    have hsum : recSum (p :: ps) = recSize p + recSum ps := by simp [recSum]
    obtain ⟨i1, i2⟩ := ih h.2 (by omega)
    have hb : recBase p + 21 < 100000000000000000000 := by
      have : recBase p ≤ recSize p := by unfold recSize; omega
      omega
    have hlen := recBytes_len p hb
    rw [List.flatMap_cons]
    refine ⟨?_, by rw [List.length_append, hlen, i2, hsum]⟩
    rw [read_some _ p (recSize p) (one_rec p _ h.1 (by omega)), ← hlen, List.drop_left, i1]
    rfl
end Go.Proofs.YtamgiffkhnfpmaaDoor
