/-
  J04: FmtOct, ApMem, PutWalk, SealWalk, HdrRead, HdrNum, HdrMk, ArgsHeader, HdrAux, SealMake, PutRef, joined.
-/
import Derived.Test.YtjchaogfmnabfaaGreatDoorJ01
import Derived.Test.YtjchaogfmnabfaaGreatDoorJ02
import Derived.Test.YtjchaogfmnabfaaGreatDoorProg
import Derived.Laws.BitsAllLaws
import Derived.Outline
import Derived.Deep.CutBlock
import Derived.Deep.DeepCutAuto
import Derived.ArgAppend
import Derived.Deep.MidRow
import Derived.Lib.AppendZeros
import Derived.Test.YtjchaogfmnabfaaGreatDoorShelf
import Derived.Test.YtjchaogfmnabfaaGreatDoorJ03
import Derived.Laws.CopyOwn
import Derived.BigRegion
import Derived.Deep.RegionHeld3
namespace Go.Proofs.YtjchaogfmnabfaaGreatDoor
open Go.ChangeShapes Go.WideShapes Go.ChangeAt Go.RowKit
/-- the one cell of math/bits' table that is read at 8 -/
def Bru (w : World) : Prop := w.cell? ⟨7, 7, none⟩ = some (.int .u8 3)
theorem Bru.below {w w' : World} (h : Bru w) (k : Below w.heap.size w w') : Bru w' := Below.keeps k _ _ h
theorem Tz64_8 (w : World) (h : Bru w) : Calls Tryz.prog 94 #[.int .u64 8] w fun e w' => e = .returned (.int .i64 3) ∧ w = w' := by
  unfold Bru at h
  have h1 : IntKind.u64.wrap (bits .and .u64 8 (IntKind.u64.wrap (-8)) * 285870213051353865) / 288230376151711744 = 7 := by decide +kernel
  go_enter Tryz.func94, Tryz.ntmps94
  go_wp2
  go_ret
  exact ⟨rfl, rfl⟩
theorem Tz_8 (w : World) (h : Bru w) : Calls Tryz.prog 82 #[.int .u64 8] w fun e w' => e = .returned (.int .i64 3) ∧ w = w' := by
  have H := Lib.hid (Tz64_8 w h); clear h
  go_enter Tryz.func82, Tryz.ntmps82
  go_wp2_with (go_at_call 94; (with_reducible refine (H.out).mono ?_); rintro e w1 ⟨rfl, hw⟩; obtain rfl := hw)
  go_ret
  exact ⟨rfl, rfl⟩
theorem Pow2_8 (w : World) : Calls Tryz.prog 81 #[.int .i64 8] w fun e w' => e = .returned (.bool true) ∧ w = w' := by
  have h1 : bits .and .i64 8 7 = 0 := by decide +kernel
  go_enter Tryz.func81, Tryz.ntmps81
  go_wp2
  go_ret
  exact ⟨rfl, rfl⟩
section
variable {P : Program} {ops : Array Oper} {rest : List Oper} {o : Oper} {a : Act} {w : World} {Q : Exit → Act → World → Prop}
/-- s[d] of a string whose byte there is known -/
theorem wpList_index_str (hgd : o.guard = none) (t : TypeId) (y x : Operand) (ho : o.op = .index t y x) (ht : P.underlying t = some .string) {s : ByteArray} (hy : a.eval y = .string s) {k : IntKind} (d : Nat) (hx : a.eval x = .int k (d : Int))
    (b : UInt8) (hb : s.data.toList[d]? = some b) (h : wpList P ops Q rest (a.put o.dst (.int .u8 (b.toNat : Int))) w) : wpList P ops Q (o :: rest) a w := by
  refine wpList_value hgd _ _ ?_ h
  have hr := run_index_string (P := P) (w := w) t s k (d : Int) ht
  obtain ⟨hlt, hv⟩ := List.getElem?_eq_some_iff.1 hb
  have hsz : d < s.size := by rw [Array.length_toList] at hlt; exact hlt
  have hgt : s[d]'hsz = b := by rw [← hv, Array.getElem_toList]; rfl
  have hx2 : (Instr.index t (.string s) (.int k (d : Int))).run P w = .ok (.int .u8 (b.toNat : Int)) w := by
    rw [hr, dif_pos ⟨by omega, by omega⟩]
    have : s[(d : Int).toNat]'(by omega) = b := hgt
    rw [this]
  simp [execOp, ho, hy, hx, hx2, Result.andThen]
end
def digs : ByteArray := ⟨#[48, 49, 50, 51, 52, 53, 54, 55, 56, 57, 97, 98, 99, 100, 101, 102, 103, 104, 105, 106, 107, 108, 109, 110, 111, 112, 113, 114, 115, 116, 117, 118, 119, 120, 121, 122]⟩
theorem digs_at (d : Nat) (h : d < 8) : digs.data.toList[d]? = some (UInt8.ofNat (48 + d)) := by
  have key : ∀ x : Fin 8, digs.data.toList[x.1]? = some (UInt8.ofNat (48 + x.1)) := by decide
  exact key ⟨d, h⟩
def z65 : List UInt8 := List.replicate 65 0
theorem zero65 : (Tryz.prog.info? 112).bind (·.zero) = some (.agg (rowA (z65))) := by kernel_rfl
theorem u64_and7 (n : Nat) (h : n < 18446744073709551616) : bits .and .u64 (n : Int) 7 = ((n % 8 : Nat) : Int) := by
  have e : bits .and .u64 (n : Int) 7 = ((n &&& 7 : Nat) : Int) := u64_and_nat n 7 h (by decide)
  rw [e, show (7 : Nat) = 2 ^ 3 - 1 by rfl, Nat.and_two_pow_sub_one_eq_mod]
theorem nd8_le22 (v : Nat) (h : v ≤ 9223372036854775807) : nd8 v ≤ 21 := nd8_le v 21 (by decide) (by have : (8 : Nat) ^ 21 = 9223372036854775808 := rfl; omega)
/-- what holds while the digits are laid -/
structure Odigs (w : World) (v k : Nat) (wr : World) : Prop where
  bel : Below w.heap.size w wr
  row : wr.heap[w.heap.size]? = some (.cells (rowA (fillRow 0 (octDig v) 65 k [])) 112 (0, 0))
theorem Odigs.start (w : World) (v : Nat) : Odigs w v 0 (w.alloc (.cells (rowA (z65)) 112)) := by
  refine ⟨(Below.refl _ _).alloc (Nat.le_refl _) _, ?_⟩
  rw [heap_alloc_new, fillRow_zero, List.append_nil]; rfl
theorem Odigs.step {w wr : World} {v k : Nat} (h : Odigs w v k wr) (hk : k < 65) (b : UInt8) (hb : b = octDig v k) : Odigs w v (k + 1) (wr.setCell ⟨w.heap.size, 64 - k, none⟩ (.int .u8 (b.toNat : Int))) := by
  subst hb
  refine ⟨h.bel.setCell (by simp) _, ?_⟩
  rw [heap_setCell_same _ _ _ _ _ _ h.row, show (Value.int .u8 ((octDig v k).toNat : Int)) = u8v (octDig v k) from rfl, rowA_set, show 64 - k = 65 - 1 - k by omega, fillRow_set 0 (octDig v) 65 k [] hk]
theorem Odigs.cell {w wr : World} {v k : Nat} (h : Odigs w v k wr) (hk : k < 65) (j : Nat) (hj : j < 65) : ∃ x, wr.cell? ⟨w.heap.size, j, none⟩ = some x :=
  ⟨_, by rw [cell_of_row _ _ _ _ _ _ h.row, rowA_at _ _ (by rw [fillRow_len _ _ _ _ _ (by omega)]; exact hj)]⟩
theorem Odigs.bs {w wr : World} {v k : Nat} (h : Odigs w v k wr) (hk : k ≤ 65) : Bs wr (some ⟨w.heap.size, 65 - k, none⟩) k k (octRow v k) := by
  refine ⟨by rw [List.length_map]; unfold octRow; rw [placeRow_len]; omega, Nat.le_refl _, by unfold maxLen; omega, fun j x hj => ⟨_, rfl, ?_⟩, fun h => by cases h⟩
  rw [Addr.add_lit, cell_of_row _ _ _ _ _ _ h.row]
  have hd := fillRow_drop 0 (octDig v) 65 k []
  rw [List.append_nil] at hd
  have e : (octRow v k) = (fillRow 0 (octDig v) 65 k []).drop (65 - k) := hd.symm
  rw [e, List.map_drop, List.getElem?_drop] at hj
  simpa [rowA] using hj
set_option maxRecDepth 100000 in
set_option maxHeartbeats 1600000 in
theorem FormatBits_8 (v : Nat) (hv : v ≤ 9223372036854775807) (w : World) (hT : Bru w) :
    Calls Tryz.prog 63 #[.slice none 0 0, .int .u64 v, .int .i64 8, .bool false, .bool false] w fun e w' => e = .returned (.tuple #[.slice none 0 0, .string ⟨(octRow v (nd8 v)).toArray⟩]) ∧ Below w.heap.size w w' := by
  have hn := nd8_le22 v hv
  have HT := Lib.hid hT; have HZ := Lib.hid zero65; clear hT
  go_enter Tryz.func63, Tryz.ntmps63
  go_wp2_with (first
    | (with_reducible refine wpList_alloc_z rfl _ rfl (rowA (z65)) HZ.out ?_)
    | (go_at_call 81; (with_reducible refine (Pow2_8 _).mono ?_); rintro e w1 ⟨rfl, hw⟩; obtain rfl := hw)
    | (go_at_call 82; (refine (Tz_8 _ (by exact HT.out.below (Odigs.start w v).bel)).mono ?_); rintro e w1 ⟨rfl, hw⟩; obtain rfl := hw))
  have hS := Odigs.start w v
  have HTW := Lib.hid (HT.out.below hS.bel)
  go_loopw [1, 13] (fun u i wr => ∃ k : Nat, k + nd8 (v / 8 ^ k) = nd8 v ∧ u = .int .u64 ((v / 8 ^ k : Nat) : Int) ∧ i = .int .i64 (65 - (k : Int)) ∧ Odigs w v k wr) (fun u _ _ => (intOf u).toNat)
  case atStart => exact ⟨0, by rw [Nat.pow_zero, Nat.div_one]; omega, by rw [Nat.pow_zero, Nat.div_one], by go_num, hS⟩
  case round =>
    obtain ⟨k, hk, rfl, rfl, hD⟩ := hrel
    have hdp := nd8_pos (v / 8 ^ k)
    have hk21 : k < 21 := by omega
    have hrec : 8 ≤ v / 8 ^ k → nd8 (v / 8 ^ k) = nd8 (v / 8 ^ (k + 1)) + 1 := fun h => by
      rw [Nat.pow_succ, ← Nat.div_div_eq_div_mul]
      conv => lhs; unfold nd8
      rw [if_neg (by omega)]
    have hnext : v / 8 ^ k / 8 = v / 8 ^ (k + 1) := by rw [Nat.pow_succ, ← Nat.div_div_eq_div_mul]
    have hle : v / 8 ^ k ≤ v := Nat.div_le_self _ _
    have hdig : octDig v k = UInt8.ofNat (48 + v / 8 ^ k % 8) := rfl
    have hlast : v / 8 ^ k < 8 → nd8 (v / 8 ^ k) = 1 := fun h => by unfold nd8; rw [if_pos h]
    generalize hU : v / 8 ^ (k + 1) = U' at *
    generalize v / 8 ^ k = U at *
    obtain ⟨j, hj⟩ : ∃ j : Nat, (65 : Int) - (k : Int) - 1 = (j : Int) := ⟨64 - k, by omega⟩
    have hjk : j = 64 - k := by omega
    have hj65 : (j : Int) < 65 := by omega
    obtain ⟨x0, hx0⟩ := hD.cell (by omega) j (by omega)
    have hfz := frozen_of_row _ _ j _ _ hD.row
    have hb := digs_at (U % 8) (Nat.mod_lt _ (by decide))
    have hand := u64_and7 U (by omega)
    have hm8 : U < 8 → U % 8 = U := fun h => Nat.mod_eq_of_lt h
    generalize hB : UInt8.ofNat (48 + U % 8) = B at hb hdig
    have hstep := hD.step (by omega) B hdig.symm
    rw [← hjk] at hstep
    have HBY := Lib.hid hb; have HSTEP := Lib.hid hstep; have HN := Lib.hid hnext; have HREC := Lib.hid hrec; have HLAST := Lib.hid hlast; have HK := Lib.hid hk; have HJK := Lib.hid hjk; have HM8 := Lib.hid hm8; have HU := Lib.hid hU
    clear hb hstep hnext hrec hlast hk hjk hdig hB hm8 hU
    by_cases h8 : 8 ≤ U
    · have h8i : (8 : Int) ≤ (U : Int) := by omega
      go_wp2_with (refine wpList_index_str rfl 9 _ _ rfl Tryz.underlying9 rfl (U % 8) rfl B HBY.out ?_)
      exact ⟨⟨k + 1, by have := HREC.out h8; have := HK.out; rw [HU.out]; omega, by rw [HU.out, ← HN.out]; go_num, by go_num, HSTEP.out⟩, by simp [intOf]; omega⟩
    · have h8i : ¬ (8 : Int) ≤ (U : Int) := by omega
      have h8j : (U : Int) < 8 := by omega
      have hidx := HM8.out (by omega)
      have hb2 := HBY.out
      rw [hidx] at hb2
      have HBY2 := Lib.hid hb2
      clear hb2 hidx hand
      have hk1 : k + 1 = nd8 v := by have := HLAST.out (by omega); have := HK.out; omega
      have hbs : Bs (wr.setCell ⟨w.heap.size, j, none⟩ (.int .u8 (B.toNat : Int))) (some ⟨w.heap.size, j, none⟩) (65 - j) (65 - j) (octRow v (nd8 v)) := by
        have := HSTEP.out.bs (by omega)
        rw [← hk1]
        have e1 : 65 - (k + 1) = j := by have := HJK.out; omega
        have e2 : 65 - j = k + 1 := by omega
        rw [e1] at this
        rw [e2]
        exact this
      have HBS := Lib.hid hbs; have hbel := HSTEP.out.bel
      clear hbs hk1
      have hj2 : j ≤ 65 := by omega
      have hj3 : j < 65 := by omega
      go_wp2_with (first
        | (refine wpList_index_str rfl 9 _ _ rfl Tryz.underlying9 rfl U rfl B HBY2.out ?_)
        | (with_reducible refine wpList_slice_row rfl _ _ _ _ rfl Tryz.underlying112 (by kernel_rfl) w.heap.size rfl j 65 .i64 .i64 rfl rfl hj2 (by decide) hj3 ?_)
        | (with_reducible refine wpList_str_of_bs rfl _ _ _ rfl Tryz.underlying35 Tryz.underlying5 Tryz.underlying9 rfl HBS.out ?_))
      go_ret2
      exact ⟨rfl, hbel⟩
set_option maxHeartbeats 800000 in
theorem FormatInt_8 (v : Nat) (hv : v ≤ 9223372036854775807) (w : World) (hT : Bru w) :
    Calls Tryz.prog 35 #[.int .i64 v, .int .i64 8] w fun e w' => e = .returned (.string ⟨(octRow v (nd8 v)).toArray⟩) ∧ Below w.heap.size w w' := by
  have HF : Hid (Calls Tryz.prog 43 #[.int .i64 v, .int .i64 8] w fun e w' => e = .returned (.string ⟨(octRow v (nd8 v)).toArray⟩) ∧ Below w.heap.size w w') := by
    have H := Lib.hid (FormatBits_8 v hv w hT)
    show Calls _ _ _ _ _
    have hn : ¬ (v : Int) < 0 := by omega
    clear hT
    go_enter Tryz.func43, Tryz.ntmps43
    go_wp2_with (go_at_call 63; (with_reducible refine (H.out).mono ?_); rintro e w1 ⟨rfl, hb⟩)
    go_ret
    exact ⟨rfl, hb⟩
  clear hT
  go_enter Tryz.func35, Tryz.ntmps35
  go_wp2_with (go_at_call 43; (with_reducible refine (HF.out).mono ?_); rintro e w1 ⟨rfl, hb⟩)
  go_ret
  exact ⟨rfl, hb⟩
end Go.Proofs.YtjchaogfmnabfaaGreatDoor
namespace Go.Proofs.YtjchaogfmnabfaaGreatDoor
set_option linter.unusedVariables false
set_option linter.unusedSimpArgs false
open Go.ChangeShapes Go.WideShapes Go.ChangeAt Go.RowKit
/-- c cells of a block are there and may be written -/
def FreeAt (w : World) (g c : Nat) : Prop := ∀ k, k < c → (w.cell? ⟨g, k, none⟩).isSome = true ∧ w.frozen? ⟨g, k, none⟩ = false
/-- a slice whose cells, spare ones too, may be written; its block lies from B on -/
def Free (w : World) (B : Nat) (a : Option Addr) (n c : Nat) : Prop := n ≤ c ∧ c ≤ maxLen ∧ ((a = none ∧ c = 0) ∨ ∃ g, a = some ⟨g, 0, none⟩ ∧ B ≤ g ∧ g < w.heap.size ∧ FreeAt w g c)
def blk? (a : Option Addr) : Option Nat := a.map (·.block)
/-- what an append onto a slice changes -/
structure Chg (B : Nat) (a : Option Addr) (n : Nat) (w w' : World) : Prop where
  bel : Below B w w'
  other : ∀ b, b < w.heap.size → blk? a ≠ some b → w'.heap[b]? = w.heap[b]?
  low : ∀ b k, b < w.heap.size → k < n → w'.cell? ⟨b, k, none⟩ = w.cell? ⟨b, k, none⟩
  there : ∀ b k, b < w.heap.size → (w.cell? ⟨b, k, none⟩).isSome = true → (w'.cell? ⟨b, k, none⟩).isSome = true
  froz : ∀ b k, b < w.heap.size → w'.frozen? ⟨b, k, none⟩ = w.frozen? ⟨b, k, none⟩
theorem Free.keep {w w' : World} {B : Nat} {a a1 : Option Addr} {n c n1 : Nat} (h : Free w B a n c) (k : Chg B a1 n1 w w') : Free w' B a n c := by
  obtain ⟨h1, h2, h3⟩ := h
  refine ⟨h1, h2, ?_⟩
  rcases h3 with h3 | ⟨g, rfl, hB, hg, hf⟩
  · exact .inl h3
  · exact .inr ⟨g, rfl, hB, Nat.lt_of_lt_of_le hg k.bel.size, fun j hj => ⟨k.there g j hg (hf j hj).1, by rw [k.froz g j hg]; exact (hf j hj).2⟩⟩
theorem Free.below {w w' : World} {B : Nat} {a : Option Addr} {n c : Nat} (h : Free w B a n c) (k : Below w.heap.size w w') : Free w' B a n c := by
  obtain ⟨h1, h2, h3⟩ := h
  refine ⟨h1, h2, ?_⟩
  rcases h3 with h3 | ⟨g, rfl, hB, hg, hf⟩
  · exact .inl h3
  · exact .inr ⟨g, rfl, hB, Nat.lt_of_lt_of_le hg k.size, fun j hj => ⟨by rw [k.cell (p := ⟨g, j, none⟩) hg]; exact (hf j hj).1, by rw [k.frozen (p := ⟨g, j, none⟩) hg]; exact (hf j hj).2⟩⟩
theorem Free.base {w : World} {B B' : Nat} {a : Option Addr} {n c : Nat} (h : Free w B a n c) (hb : B' ≤ B) : Free w B' a n c := by
  obtain ⟨h1, h2, h3⟩ := h
  refine ⟨h1, h2, ?_⟩
  rcases h3 with h3 | ⟨g, ha, hB, r⟩
  · exact .inl h3
  · exact .inr ⟨g, ha, by omega, r⟩
theorem Free.nil (w : World) (B : Nat) : Free w B none 0 0 := ⟨Nat.le_refl _, by unfold maxLen; omega, .inl ⟨rfl, rfl⟩⟩
/-- what is owned may be written -/
theorem own_free {w : World} {base : Nat} {e : TypeId} {a : Option Addr} {n c : Nat} {xs : List Value} (h : w.ownsRow base e 1 (.slice a n c) n xs) : Free w base a n c := by
  obtain ⟨hl, h⟩ := h
  rcases h with ⟨hv, h0⟩ | ⟨g, cap, cur, hv, hb, hh, hn, hm, hs, ht⟩
  · simp only [Value.slice.injEq] at hv
    obtain ⟨rfl, rfl, rfl⟩ := hv
    exact Free.nil _ _
  · simp only [Value.slice.injEq, true_and] at hv
    obtain ⟨rfl, rfl⟩ := hv
    refine ⟨hn, hm, .inr ⟨g, rfl, hb, (Array.getElem?_eq_some_iff.1 hh).1, fun k hk => ⟨?_, frozen_of_row _ _ _ _ _ hh⟩⟩⟩
    rw [cell_of_row _ _ _ _ _ _ hh]
    have : k < cur.size := by rw [hs]; omega
    simp [this]
/-- new blocks alone -/
theorem chg_grown {B : Nat} {a : Option Addr} {n : Nat} {w w' : World} (hg : w.grownBy w' none) (hB : B ≤ w.heap.size) : Chg B a n w w' := by
  have hb : ∀ b, b < w.heap.size → w'.heap[b]? = w.heap[b]? := fun b hb => hg.block b hb (by simp)
  exact ⟨⟨hg.os, hg.tape, hg.output, hg.size, fun k hk => hb k (by omega)⟩, fun b hb' _ => hb b hb',
    fun b k hb' _ => World.cell?_of_block (a := ⟨b, k, none⟩) (hb b hb'), fun b k hb' h => by rw [World.cell?_of_block (a := ⟨b, k, none⟩) (hb b hb')]; exact h, fun b k hb' => World.frozen?_of_block (a := ⟨b, k, none⟩) (hb b hb')⟩
theorem setCells_size (b : Nat) : ∀ (vs : List Value) (o : Nat) (w : World), (w.setCells b o vs).heap.size = w.heap.size
  | [], _, _ => rfl
  | v :: r, o, w => by rw [World.setCells, setCells_size b r]; simp
theorem setCells_other (b : Nat) : ∀ (vs : List Value) (o : Nat) (w : World) (k : Nat), k ≠ b → (w.setCells b o vs).heap[k]? = w.heap[k]?
  | [], _, _, _, _ => rfl
  | v :: r, o, w, k, h => by rw [World.setCells, setCells_other b r (o + 1) _ k h, heap_setCell_other _ _ _ _ (fun e => h (by simpa using e))]
theorem setCells_below (B b : Nat) (hb : B ≤ b) : ∀ (vs : List Value) (o : Nat) (w : World), Below B w (w.setCells b o vs)
  | [], _, _ => Below.refl _ _
  | v :: r, o, w => ((Below.refl B w).setCell (show B ≤ (⟨b, o, none⟩ : Addr).block from hb) v).trans (setCells_below B b hb r (o + 1) _)
/-- in place -/
theorem chg_place {B g n m : Nat} {w : World} {vs : List Value} (hB : B ≤ g) (hl : vs.length = m) (hv : ∀ j, j < m → (w.cell? ⟨g, n + j, none⟩).isSome = true) : Chg B (some ⟨g, 0, none⟩) n w (w.setCells g n vs) := by
  refine ⟨setCells_below B g hB vs n w, fun b _ h => setCells_other g vs n w b (fun e => h (by rw [e]; rfl)), fun b k _ hk => ?_, fun b k _ h => ?_, fun b k _ => World.frozen?_setCells g vs n w _⟩
  · exact World.cell?_setCells_out g vs n w _ (fun _ _ => .inl hk)
  · exact World.isSome_setCells g vs n w _ h
section
variable {P : Program}
/-- append(x, y...) of bytes, x a slice that may be written -/
theorem run_app_free (w : World) (t ty e : TypeId) (ht : P.underlying t = some (.slice e)) (hi : (P.info? e).map (fun i => (i.zero, i.size, i.bytes)) = some (some (.int .u8 0), 1, 1))
    (B : Nat) (hB : B ≤ w.heap.size) (a : Option Addr) (n c : Nat) (h : Free w B a n c) (ad : Addr) (m c2 : Nat) (news : List Value) (hl : news.length = m) (hnews : ∀ j v, news[j]? = some v → w.cell? (ad.add j) = some v) (h1 : ∀ v ∈ news, v.oneCell' = true)
    (hb : n + m ≤ 140737488355328) :
    ∃ a' c' w', (Builtin.append_ #[t, t] ty #[.slice a n c, .slice (some ad) m c2]).run P w = .ok (.slice a' (n + m) c') w' ∧ Free w' B a' (n + m) c' ∧ Chg B a n w w' ∧ (blk? a' = blk? a ∨ ∃ b, blk? a' = some b ∧ w.heap.size ≤ b) := by
  obtain ⟨i, hi, hz0, hz1, hz2⟩ := info_parts hi
  obtain ⟨hn, hc, hf⟩ := h
  have hml : n + m ≤ maxLen := by unfold maxLen; omega
  rcases hf with ⟨rfl, rfl⟩ | ⟨g, rfl, hg1, hg2, hfr⟩
  · obtain rfl : n = 0 := by omega
    obtain ⟨v', w', hr, ho, hgr, _⟩ := run_append_own (P := P) w w.heap.size t ty e i (.int .u8 0) 1 1 ht hi hz0 hz1 hz2 rfl (by decide) (.slice none 0 0) 0 [] (World.ownsRow_nil w _ e 1) ad m c2 news (by omega) hnews h1 hml (by omega) (Nat.le_refl _)
    obtain ⟨a', c', rfl⟩ := own_slice ho
    refine ⟨a', c', w', hr, (own_free ho).base hB, chg_grown hgr hB, ?_⟩
    obtain ⟨hlen, hh⟩ := ho
    rcases hh with ⟨hv, _⟩ | ⟨g, cap, cur, hv, hbg, hh, _⟩
    · simp only [Value.slice.injEq] at hv
      left; rw [hv.1]
    · simp only [Value.slice.injEq, true_and] at hv
      right
      exact ⟨g, by rw [hv.1]; rfl, hbg⟩
  · have hold : ∀ j u, (((List.range n).map fun j => (w.cell? ⟨g, j, none⟩).getD undef))[j]? = some u → w.cell? ⟨g, 0 + j, none⟩ = some u := by
      intro j u hj
      obtain ⟨hjn, he⟩ := List.getElem?_eq_some_iff.1 hj
      simp only [List.length_map, List.length_range] at hjn
      simp only [List.getElem_map, List.getElem_range] at he
      obtain ⟨v, hv⟩ := Option.isSome_iff_exists.1 (hfr j (by omega)).1
      rw [hv] at he
      simp only [Option.getD_some] at he
      rw [Nat.zero_add, hv, he]
    by_cases hr : n + m ≤ c
    · have hrun := run_append_room_cells (P := P) w t ty e i ht hi g 0 n c ad m c2 news (by rw [hz1]; omega) hnews h1 hr (fun j hj => by rw [hz1, Nat.zero_add, Nat.mul_one]; exact (hfr _ (by omega)).1) (fun j hj => by rw [hz1, Nat.zero_add, Nat.mul_one]; exact (hfr _ (by omega)).2)
      rw [hz1, Nat.zero_add, Nat.mul_one] at hrun
      have hch : Chg B (some ⟨g, 0, none⟩) n w (w.setCells g n news) := chg_place hg1 hl (fun j hj => (hfr _ (by omega)).1)
      refine ⟨_, _, _, hrun, ?_, hch, .inl rfl⟩
      have hF : Free w B (some ⟨g, 0, none⟩) (n + m) c := ⟨hr, hc, .inr ⟨g, rfl, hg1, hg2, hfr⟩⟩
      exact hF.keep hch
    · obtain ⟨v', w', hrun, r1, r2⟩ := run_append_arg_grows (P := P) w t ty e i (.int .u8 0) 1 1 ht hi hz0 hz1 hz2 rfl (by decide) ⟨g, 0, none⟩ n c ((List.range n).map fun j => (w.cell? ⟨g, j, none⟩).getD undef) (by simp) (fun j u hj => by rw [Addr.add_lit]; exact hold j u hj) ad m c2 news (by omega) hnews (by omega) hml (by omega)
      obtain ⟨a', c', rfl⟩ := own_slice r1
      refine ⟨a', c', w', hrun, (own_free r1).base hB, chg_grown r2 hB, .inr ?_⟩
      obtain ⟨hlen, hh⟩ := r1
      rcases hh with ⟨hv, h0⟩ | ⟨g', cap, cur, hv, hbg, hh, _⟩
      · omega
      · simp only [Value.slice.injEq, true_and] at hv
        exact ⟨g', by rw [hv.1]; rfl, hbg⟩
end
end Go.Proofs.YtjchaogfmnabfaaGreatDoor
namespace Go.Proofs.YtjchaogfmnabfaaGreatDoor
open Go.ChangeShapes Go.WideShapes Go.ChangeAt Go.RowKit
/-- bytes and an error's number -/
def PutRes (w : World) (r : List UInt8 × Int) (e : Ending) (w' : World) : Prop :=
  ∃ a n c, e = .returned (.tuple #[.slice a n c, .int .i64 r.2]) ∧ Bs w' a n c r.1 ∧ Below w.heap.size w w'
theorem bs_nil (w : World) : Bs w none 0 0 [] := ⟨rfl, Nat.le_refl _, by unfold maxLen; omega, fun j v hj => by simp at hj, fun _ => ⟨rfl, rfl⟩⟩
theorem PutRes.nil {w w' : World} (k : Int) (h : Below w.heap.size w w') : PutRes w ([], k) (.returned (.tuple #[.slice none 0 0, .int .i64 k])) w' := ⟨none, 0, 0, rfl, bs_nil _, h⟩
/-- and the block is new: its cells may be written -/
def PutResF (w : World) (r : List UInt8 × Int) (e : Ending) (w' : World) : Prop :=
  ∃ a n c, e = .returned (.tuple #[.slice a n c, .int .i64 r.2]) ∧ Bs w' a n c r.1 ∧ Below w.heap.size w w' ∧ Free w' w.heap.size a n c
theorem PutResF.res {w w' : World} {r : List UInt8 × Int} {e : Ending} (h : PutResF w r e w') : PutRes w r e w' := by
  obtain ⟨a, n, c, h1, h2, h3, _⟩ := h
  exact ⟨a, n, c, h1, h2, h3⟩
theorem PutResF.nil {w w' : World} (k : Int) (h : Below w.heap.size w w') : PutResF w ([], k) (.returned (.tuple #[.slice none 0 0, .int .i64 k])) w' := ⟨none, 0, 0, rfl, bs_nil _, h, Free.nil _ _⟩
theorem PutResF.below {w0 w w' : World} {r : List UInt8 × Int} {e : Ending} (k : Below w0.heap.size w0 w) (h : PutResF w r e w') : PutResF w0 r e w' := by
  obtain ⟨a, n, c, h1, h2, h3, h4⟩ := h
  exact ⟨a, n, c, h1, h2, Below.seq k h3, h4.base k.size⟩
/-- []byte(s): the new block may be written -/
theorem bytesWorld_free (w : World) (e : TypeId) (l : List UInt8) (h : l.length ≤ 140737488355328) : Free (Lib.bytesWorld w e ⟨l.toArray⟩) w.heap.size (some ⟨w.heap.size, 0, none⟩) l.length (grownCap w l.length 0 e) := by
  have hge := grownCap_ge w l.length 0 e
  have hsz : (Lib.bytesCells w e ⟨l.toArray⟩).size = grownCap w l.length 0 e := by
    simp [Lib.bytesCells, ByteArray.size]
    omega
  have hnew := Lib.bytesWorld_at_new w e ⟨l.toArray⟩
  refine ⟨hge, grownCap_le_maxLen w _ 0 e (by unfold maxLen; omega), .inr ⟨_, rfl, Nat.le_refl _, by rw [Lib.bytesWorld_size]; omega, fun k hk => ⟨?_, ?_⟩⟩⟩
  · rw [cell_of_row _ _ _ _ _ _ hnew]
    have : k < (Lib.bytesCells w e ⟨l.toArray⟩).size := by omega
    simp [this]
  · have hlt : k < (Lib.bytesCells w e ⟨l.toArray⟩).size := by omega
    simp [World.frozen?, hnew]
    omega
section
variable {P : Program} {ops : Array Oper} {rest : List Oper} {o : Oper} {a : Act} {w : World} {Q : Exit → Act → World → Prop}
theorem wpList_bf_of_str (hgd : o.guard = none) (src dst : TypeId) (x : Operand) (ho : o.op = .convert src dst x) {e : TypeId} (hs : P.underlying src = some .string) (hd : P.underlying dst = some (.slice e)) (he : P.underlying e = some (.int .u8))
    {l : List UInt8} (hx : a.eval x = .string ⟨l.toArray⟩) (hl : l.length ≤ 140737488355328)
    (h : ∀ a' c' w', Bs w' a' l.length c' l → Below w.heap.size w w' → Free w' w.heap.size a' l.length c' → wpList P ops Q rest (a.put o.dst (.slice a' l.length c')) w') : wpList P ops Q (o :: rest) a w := by
  have hr := Lib.run_convert_string_bytes (P := P) w src dst e ⟨l.toArray⟩ hs hd he
  refine wpList_value hgd _ _ ?_ (h _ _ _ (bytesWorld_bs w e l hl) (bytesWorld_below w e _) (bytesWorld_free w e l hl))
  simp [execOp, ho, hx, hr, Result.andThen, ByteArray.size]
end
theorem Repeat0_any (c : Nat) (hc : c ≤ 64) (w : World) : Calls Tryz.prog 36 #[.string ⟨#[48]⟩, .int .i64 c] w fun e w' => e = .returned (.string ⟨(List.replicate c (48 : UInt8)).toArray⟩) ∧ Below w.heap.size w w' := by
  by_cases h0 : c = 0
  · subst h0
    exact (Tryz.strings_Repeat_zero ⟨#[48]⟩ w).mono fun e w' ⟨he, hw⟩ => ⟨he, by rw [hw]; exact Below.refl _ _⟩
  · by_cases h1 : c = 1
    · subst h1
      exact (Tryz.strings_Repeat_one ⟨#[48]⟩ w).mono fun e w' ⟨he, hw⟩ => ⟨he, by rw [hw]; exact Below.refl _ _⟩
    · refine (Tryz.strings_Repeat_main ⟨#[48]⟩ c w (by omega) (by omega) (by show 1 * c ≤ _; omega) (by decide)).mono fun e w' ⟨he, hw⟩ => ⟨?_, hw⟩
      have : Lib.repeatL [48] c = List.replicate c 48 := by
        have := Lib.repeatL_replicate 48 1 c
        rwa [Nat.mul_one] at this
      rw [he, ← this]
theorem str_app (x y : List UInt8) : (⟨x.toArray⟩ : ByteArray) ++ ⟨y.toArray⟩ = ⟨(x ++ y).toArray⟩ := by
  apply ByteArray.ext
  simp
theorem octRow_text (v n : Nat) (hn : nd8 v ≤ n) : List.replicate (n - nd8 v) 48 ++ octRow v (nd8 v) = octRow v n := by
  have := octRow_pad v (nd8 v) (nd8_spec v) (n - nd8 v)
  rw [← this, show nd8 v + (n - nd8 v) = n by omega]
set_option maxRecDepth 100000 in
set_option maxHeartbeats 1600000 in
theorem PutOctal_free (v n : Int) (w : World) (hT : Bru w) (v0 : -9223372036854775808 ≤ v) (v1 : v ≤ 9223372036854775807) (n0 : -9223372036854775808 ≤ n) (n1 : n ≤ 9223372036854775807) :
    Calls Tryz.prog 25 #[.int .i64 v, .int .i64 n] w (PutResF w (Plain.putOctal v n)) := by
  rcases putOctal_cases v n with ⟨h, e⟩ | ⟨h1, h2, h3, e⟩ | ⟨h1, h2, h3, h4, e⟩
  · rw [e]; clear e
    rcases h with h | h
    all_goals
      go_enter Tryz.func25, Tryz.ntmps25
      go_wp2
      all_goals
        go_ret2
        exact PutResF.nil _ (Below.refl _ _)
  · rw [e]; clear e
    by_cases hneg : v < 0
    · clear h3
      go_enter Tryz.func25, Tryz.ntmps25
      go_wp2
      go_ret2
      exact PutResF.nil _ (Below.refl _ _)
    · obtain ⟨u, rfl⟩ := Int.eq_ofNat_of_zero_le (by omega : 0 ≤ v)
      obtain ⟨m, rfl⟩ := Int.eq_ofNat_of_zero_le (by omega : 0 ≤ n)
      have hlen : (m : Int) - 1 < ((octRow u (nd8 u)).length : Int) := by
        have h4 : ¬ u < 8 ^ (m - 1) := by rcases h3 with h3 | h3; exact absurd h3 hneg; simpa using h3
        have h5 : ¬ nd8 u ≤ m - 1 := fun h => h4 ((nd8_iff u (m - 1) (by omega)).1 h)
        unfold octRow; rw [placeRow_len]; omega
      have HF := Lib.hid (FormatInt_8 u (by omega) w hT)
      generalize octRow u (nd8 u) = s at *
      clear h3
      go_enter Tryz.func25, Tryz.ntmps25
      go_wp2_with (go_at_call 35; (with_reducible refine (HF.out).mono ?_); rintro e w1 ⟨rfl, hb⟩)
      go_ret2
      exact PutResF.nil _ hb
  · rw [e]; clear e
    obtain ⟨u, rfl⟩ := Int.eq_ofNat_of_zero_le h3
    obtain ⟨m, rfl⟩ := Int.eq_ofNat_of_zero_le (by omega : 0 ≤ n)
    simp only [Int.toNat_natCast] at h4 ⊢
    have h5 : nd8 u ≤ m - 1 := (nd8_iff u (m - 1) (by omega)).2 h4
    have hlen : (octRow u (nd8 u)).length = nd8 u := by unfold octRow; rw [placeRow_len]
    have htx := octRow_text u (m - 1) h5
    have hll : (octRow u (m - 1)).length = m - 1 := by unfold octRow; rw [placeRow_len]
    have HF := Lib.hid (FormatInt_8 u (by omega) w hT)
    obtain ⟨c, hc⟩ : ∃ c : Nat, (m : Int) - 1 - ((octRow u (nd8 u)).length : Int) = (c : Int) := ⟨m - 1 - nd8 u, by rw [hlen]; omega⟩
    have hcc : m - 1 - nd8 u = c := by rw [hlen] at hc; omega
    have hle : ((octRow u (nd8 u)).length : Int) ≤ (m : Int) - 1 := by rw [hlen]; omega
    rw [hcc] at htx
    generalize octRow u (m - 1) = t at *
    generalize octRow u (nd8 u) = s at *
    have HR := Lib.hid (fun w => Repeat0_any c (by omega) w)
    have hs1 := str_app (List.replicate c 48) s
    have hs2 := str_app t [0]
    rw [htx] at hs1
    have htl : t.length ≤ 63 := by omega
    have hz1 : (List.replicate c (48 : UInt8)).length ≤ 64 := by rw [List.length_replicate]; omega
    have hs1' : s.length ≤ 64 := by omega
    have hti : (t.length : Int) ≤ 63 := by omega
    clear htx hcc hlen h4 hll
    generalize List.replicate c (48 : UInt8) = z at *
    go_enter Tryz.func25, Tryz.ntmps25
    go_wp2_with (first
      | (go_at_call 35; (with_reducible refine (HF.out).mono ?_); rintro e w1 ⟨rfl, hb⟩)
      | (go_at_call 36; (with_reducible refine (HR.out _).mono ?_); rintro e w2 ⟨rfl, hb2⟩)
      | ((with_reducible refine wpList_bf_of_str rfl _ _ _ rfl Tryz.underlying9 Tryz.underlying35 Tryz.underlying5 rfl (by rw [List.length_append]; simp only [List.length_singleton]; omega) ?_); intro a3 c3 w3 hbs3 hb3 hf3))
    have hbs4 : Bs w3 a3 (t.length + 1) c3 (t ++ [0]) := by have := hbs3; rwa [List.length_append] at this
    go_ret2
    have hf4 : Free w3 w2.heap.size a3 (t.length + 1) c3 := by have := hf3; rwa [List.length_append] at this
    exact ⟨a3, _, c3, rfl, hbs4, Below.seq (Below.seq hb hb2) hb3, hf4.base (Below.seq hb hb2).size⟩
theorem PutOctal_any (v n : Int) (w : World) (hT : Bru w) (v0 : -9223372036854775808 ≤ v) (v1 : v ≤ 9223372036854775807) (n0 : -9223372036854775808 ≤ n) (n1 : n ≤ 9223372036854775807) :
    Calls Tryz.prog 25 #[.int .i64 v, .int .i64 n] w (PutRes w (Plain.putOctal v n)) := (PutOctal_free v n w hT v0 v1 n0 n1).mono fun _ _ h => h.res
end Go.Proofs.YtjchaogfmnabfaaGreatDoor
namespace Go.Proofs.YtjchaogfmnabfaaGreatDoor
open Go.ChangeShapes Go.WideShapes Go.ChangeAt Go.RowKit
theorem RowAt.keep {w wr w' : World} {e : TypeId} {l : List UInt8} (h : RowAt w e l wr) (k : Below wr.heap.size wr w') : RowAt w e l w' := by
  refine ⟨Below.seq h.bel k, ?_⟩
  rw [k.block _ (Array.getElem?_eq_some_iff.1 h.row).1]
  exact h.row
theorem RowAt.field {w wr : World} {e : TypeId} {l : List UInt8} (h : RowAt w e l wr) (hl : l.length = 512) : Bs wr (some ⟨w.heap.size, 148, none⟩) (156 - 148) (512 - 148) (sumField l) :=
  row_bs h.row 148 156 (512 - 148) (by decide) (by omega) (by decide) (by unfold maxLen; omega)
theorem sealed_eq (l : List UInt8) (n1 n2 U S : Int) (h : Plain.number (sumField l) = (n1, n2)) (hU : Plain.sum uby l = U) (hS : Plain.sum sby l = S) : Plain.sealed l = (n2 == 0 && (n1 == U || n1 == S)) := by
  unfold Plain.sealed
  rw [h, hU, hS, Bool.eq_iff_iff]
  simp
set_option maxRecDepth 100000 in
set_option maxHeartbeats 1600000 in
theorem Sealed_any (l : List UInt8) (hl : l.length = 512) (w : World) (ev : Value) (hE : ErrIs w ev) :
    Calls Tryz.prog 20 #[.agg (rowA l)] w fun e w' => e = .returned (.bool (Plain.sealed l)) ∧ Below w.heap.size w w' := by
  have HR := Lib.hid (RowAt.new w 26 l)
  have HS := Lib.hid (fun w => Sums_any l hl w)
  have HI := Lib.hid (sizeBlk l hl)
  have HL := Lib.hid hl; have HE := Lib.hid hE
  have hq := sealed_eq l
  generalize hn : Plain.number (sumField l) = r at *
  obtain ⟨n1, n2⟩ := r
  generalize hU : Plain.sum uby l = U at *
  generalize hV : Plain.sum sby l = V at *
  have hq2 := hq n1 n2 U V rfl rfl rfl
  have HN := Lib.hid hn; have HQ := Lib.hid hq2
  clear hq hq2 hl hE hn hU hV
  go_enter Tryz.func20, Tryz.ntmps20
  go_wp2_with (with_reducible refine wpList_box_agg rfl _ _ rfl (rowA l) rfl ?_)
  have hR := HR.out
  generalize w.alloc (.cells (rowA l) 26) = wa at *
  have HRR := Lib.hid hR; clear hR HR
  go_wp2_with (first
    | (with_reducible refine wpList_slice_row rfl _ _ _ _ rfl Tryz.underlying26 (by kernel_rfl) w.heap.size rfl 148 156 .i64 .i64 rfl rfl (by decide) (by decide) (by decide) ?_)
    | (go_at_call 22; (refine (Number_any _ _ _ (sumField l) wa ev (by exact HRR.out.field HL.out) (by decide) (by exact HE.out.below HRR.out.bel)).mono ?_); rintro e w1 ⟨rfl, hb1⟩; rw [HN.out]; unfold decV; have HR1 := Lib.hid (HRR.out.keep hb1); have H1 := Lib.hid HR1.out.row; clear hb1)
    | (with_reducible refine wpList_load_row rfl _ _ rfl w.heap.size rfl 26 (rowA l) (0, 0) _ H1.out Tryz.underlying26 rfl HI.out ?_)
    | (go_at_call 24; (with_reducible refine (HS.out _).mono ?_); rintro e w2 ⟨rfl, hb2⟩; have HB2 := Lib.hid (Below.seq HR1.out.bel hb2); clear hb2))
  all_goals
    go_ret
    refine ⟨ret_bool ?_, HB2.out⟩
    rw [HQ.out]
    first | rfl | simp_all
end Go.Proofs.YtjchaogfmnabfaaGreatDoor
namespace Go.Proofs.YtjchaogfmnabfaaGreatDoor
set_option linter.unusedVariables false
set_option linter.unusedSimpArgs false
open Go.ChangeShapes Go.WideShapes Go.ChangeAt Go.RowKit
theorem results_cell_tmp {P : Program} {fn : Func} {p q : Tmp} {ty : TypeId} (h : fn.results = #[.cell p ty, .tmp q]) (tmps : Array Value) (w : World) (g : Nat) (t : TypeId) (cs : Array Value) (fr : Nat × Nat) (d : TypeDesc) (v : Value)
    (hp : tmps.getD p undef = .pointer (some ⟨g, 0, none⟩)) (hq : tmps.getD q undef = v) (hg : w.heap[g]? = some (.cells cs t fr))
    (hu : P.underlying ty = some d) (hd : (match d with | .struct _ | .array _ _ => true | _ => false) = true) (hi : (P.info? ty).map (·.size) = some cs.size) :
    (results fn tmps).run P w = .ok (.tuple #[.agg cs, v]) w := by
  have hp' : tmps[p]?.getD undef = .pointer (some ⟨g, 0, none⟩) := by simpa using hp
  have hq' : tmps[q]?.getD undef = v := by simpa using hq
  simp [results, h, hp', hq', asAddr, run_loadVar_row w g t ty cs fr d hg hu hd hi]
/-- a header's cells -/
def hdC (h : Hd) : Array Value := #[.string ⟨h.name.toArray⟩, .string ⟨h.link.toArray⟩, .int .i64 h.mode, .int .i64 h.uid, .int .i64 h.gid, .int .i64 h.size, .int .i64 h.mtime, .int .u8 (h.ty.toNat : Int), .string ⟨h.user.toArray⟩, .string ⟨h.group.toArray⟩, .int .i64 h.major, .int .i64 h.minor, .int .i64 h.form]
theorem hdC_size (h : Hd) : (hdC h).size = 13 := rfl
theorem hdC_one (h : Hd) : ∀ u ∈ (hdC h).toList, u.oneCell' = true := by
  intro u hu
  simp [hdC] at hu
  rcases hu with h | h | h | h | h | h | h | h | h | h | h | h | h <;> subst h <;> rfl
theorem hdInfo (h : Hd) : (Tryz.prog.info? 23).map (·.size) = some (hdC h).size := by rw [hdC_size]; kernel_rfl
def hdRes (r : Hd × Int) : Value := .tuple #[.agg (hdC r.1), .int .i64 r.2]
/-- the block and the result's variable -/
structure H2 (w : World) (l : List UInt8) (wr : World) : Prop where
  bel : Below w.heap.size w wr
  r0 : wr.heap[w.heap.size]? = some (.cells (rowA l) 26 (0, 0))
  r1 : wr.heap[w.heap.size + 1]? = some (.cells (hdC Hd.zero) 23 (0, 0))
theorem H2.new (w : World) (l : List UInt8) : H2 w l ((w.alloc (.cells (rowA l) 26)).alloc (.cells (hdC Hd.zero) 23)) :=
  ⟨((Below.refl _ _).alloc (Nat.le_refl _) _).alloc (by simp) _, heap_alloc2_old _ _ _, heap_alloc2_new _ _ _⟩
theorem H2.lit (w : World) (l : List UInt8) : H2 w l ((w.alloc (.cells (rowA l) 26)).alloc (.cells #[.string ⟨#[]⟩, .string ⟨#[]⟩, .int .i64 0, .int .i64 0, .int .i64 0, .int .i64 0, .int .i64 0, .int .u8 0, .string ⟨#[]⟩, .string ⟨#[]⟩, .int .i64 0, .int .i64 0, .int .i64 0] 23)) := H2.new w l
theorem H2.lt {w wr : World} {l : List UInt8} (h : H2 w l wr) : w.heap.size + 1 < wr.heap.size := (Array.getElem?_eq_some_iff.1 h.r1).1
theorem H2.keep {w wr w' : World} {l : List UInt8} (h : H2 w l wr) (k : Below wr.heap.size wr w') : H2 w l w' := by
  refine ⟨Below.seq h.bel k, ?_, ?_⟩
  · rw [k.block _ (Array.getElem?_eq_some_iff.1 h.r0).1]; exact h.r0
  · rw [k.block _ h.lt]; exact h.r1
theorem H2.part {w wr : World} {l : List UInt8} (h : H2 w l wr) (hl : l.length = 512) (s e : Nat) (h1 : s ≤ e) (h2 : e ≤ 512) : Bs wr (some ⟨w.heap.size, s, none⟩) (e - s) (512 - s) (fld l s e) :=
  row_bs h.r0 s e (512 - s) h1 (by omega) (by omega) (by unfold maxLen; omega)
set_option maxRecDepth 100000 in
set_option maxHeartbeats 1600000 in
theorem HRead_no (l : List UInt8) (hl : l.length = 512) (w : World) (ev : Value) (hE : ErrIs w ev) (h : l = zblk ∨ Plain.sealed l = false) :
    Calls Tryz.prog 7 #[.agg (rowA l)] w fun e w' => e = .returned (hdRes (Plain.hread l)) ∧ Below w.heap.size w w' := by
  have hr : Plain.hread l = (Hd.zero, if l = zblk then 40 else 41) := by
    unfold Plain.hread
    by_cases c : l = zblk
    · rw [if_pos c, if_pos c]
    · rw [if_neg c, if_neg c, if_pos (h.resolve_left c)]
  rw [hr]
  have HH := Lib.hid (H2.lit w l)
  have HI := Lib.hid (sizeBlk l hl)
  have HD := Lib.hid (hdInfo Hd.zero)
  have HO := Lib.hid (hdC_one Hd.zero)
  have HZ := Lib.hid (fun w => Zero_any l hl w)
  have HS := Lib.hid (fun w hE => Sealed_any l hl w ev hE)
  have HE := Lib.hid hE
  clear hE hr
  by_cases c : l = zblk
  · rw [if_pos c]
    have hd : decide (l = zblk) = true := dec_t c
    rw [hd] at HZ
    clear h c hd HS
    go_enter Tryz.func7, Tryz.ntmps7
    go_upto_region 1 with (with_reducible refine wpList_box_agg rfl _ _ rfl (rowA l) rfl ?_)
    have hR := HH.out
    generalize (w.alloc (.cells (rowA l) 26)).alloc (.cells #[.string ⟨#[]⟩, .string ⟨#[]⟩, .int .i64 0, .int .i64 0, .int .i64 0, .int .i64 0, .int .i64 0, .int .u8 0, .string ⟨#[]⟩, .string ⟨#[]⟩, .int .i64 0, .int .i64 0, .int .i64 0] 23) = wa at *
    have HR := Lib.hid hR
    clear hR HH
    go_wp2_with (first
      | (with_reducible refine wpList_load_row rfl _ _ rfl w.heap.size rfl 26 (rowA l) (0, 0) _ HR.out.r0 Tryz.underlying26 rfl HI.out ?_)
      | (go_at_call 19; (with_reducible refine (HZ.out _).mono ?_); rintro e w1 ⟨rfl, hb1⟩; have HR1 := Lib.hid (HR.out.keep hb1); clear hb1)
      | (with_reducible refine wpList_store_row rfl 23 _ _ rfl (w.heap.size + 1) rfl (hdC Hd.zero) rfl (hdC Hd.zero) 23 HR1.out.r1 rfl HD.out HO.out ?_))
    refine bodyPost_ret (results_cell_tmp rfl _ _ (w.heap.size + 1) 23 (hdC Hd.zero) (0, 0) _ _ rfl rfl (setRow_heap _ _ _ _ _ _ HR1.out.r1) Tryz.underlying23 rfl HD.out) rfl ⟨rfl, Below.setRow HR1.out.bel (by omega) _⟩
  · rw [if_neg c]
    have hd : decide (l = zblk) = false := dec_f c
    rw [hd] at HZ
    rw [h.resolve_left c] at HS
    clear h c hd
    go_enter Tryz.func7, Tryz.ntmps7
    go_upto_region 1 with (with_reducible refine wpList_box_agg rfl _ _ rfl (rowA l) rfl ?_)
    have hR := HH.out
    generalize (w.alloc (.cells (rowA l) 26)).alloc (.cells #[.string ⟨#[]⟩, .string ⟨#[]⟩, .int .i64 0, .int .i64 0, .int .i64 0, .int .i64 0, .int .i64 0, .int .u8 0, .string ⟨#[]⟩, .string ⟨#[]⟩, .int .i64 0, .int .i64 0, .int .i64 0] 23) = wa at *
    have HR := Lib.hid hR
    clear hR HH
    go_wp2_with (first
      | (with_reducible refine wpList_load_row rfl _ _ rfl w.heap.size rfl 26 (rowA l) (0, 0) _ HR.out.r0 Tryz.underlying26 rfl HI.out ?_)
      | (go_at_call 19; (with_reducible refine (HZ.out _).mono ?_); rintro e w1 ⟨rfl, hb1⟩; have HR1 := Lib.hid (HR.out.keep hb1); clear hb1)
      | (with_reducible refine wpList_load_row rfl _ _ rfl w.heap.size rfl 26 (rowA l) (0, 0) _ HR1.out.r0 Tryz.underlying26 rfl HI.out ?_)
      | (go_at_call 20; (with_reducible refine (HS.out _ (by exact HE.out.below HR1.out.bel)).mono ?_); rintro e w2 ⟨rfl, hb2⟩; have HR2 := Lib.hid (HR1.out.keep hb2); clear hb2)
      | (with_reducible refine wpList_store_row rfl 23 _ _ rfl (w.heap.size + 1) rfl (hdC Hd.zero) rfl (hdC Hd.zero) 23 HR2.out.r1 rfl HD.out HO.out ?_))
    refine bodyPost_ret (results_cell_tmp rfl _ _ (w.heap.size + 1) 23 (hdC Hd.zero) (0, 0) _ _ rfl rfl (setRow_heap _ _ _ _ _ _ HR2.out.r1) Tryz.underlying23 rfl HD.out) rfl ⟨rfl, Below.setRow HR2.out.bel (by omega) _⟩
end Go.Proofs.YtjchaogfmnabfaaGreatDoor
namespace Go.Proofs.YtjchaogfmnabfaaGreatDoor
set_option linter.unusedVariables false
set_option linter.unusedSimpArgs false
open Go.ChangeShapes Go.WideShapes Go.ChangeAt Go.RowKit
/-- the number of place k -/
def nAt (l : List UInt8) (k : Nat) : Int × Int := numAt l (fieldAt k).1 (fieldAt k).2.1
def okAt (l : List UInt8) (k : Nat) : Bool := numOk (nAt l k) (fieldAt k).2.2.1 (fieldAt k).2.2.2
theorem numsOk_eq (l : List UInt8) : numsOk l = (okAt l 0 && okAt l 1 && okAt l 2 && okAt l 3 && okAt l 4 && (!isDev l || (okAt l 5 && okAt l 6))) := rfl
theorem numsOk_bad (l : List UInt8) (k : Nat) (hk : k < 7) (h5 : k < 5 ∨ isDev l = true) (h : okAt l k = false) : numsOk l = false := by
  rw [numsOk_eq]
  rcases (by omega : k = 0 ∨ k = 1 ∨ k = 2 ∨ k = 3 ∨ k = 4 ∨ k = 5 ∨ k = 6) with rfl | rfl | rfl | rfl | rfl | rfl | rfl
  · simp [h]
  · simp [h]
  · simp [h]
  · simp [h]
  · simp [h]
  · simp [h, h5.resolve_left (by decide)]
  · simp [h, h5.resolve_left (by decide)]
theorem numsOk_good (l : List UInt8) (k : Nat) (hk : k = 7 ∨ (k = 5 ∧ isDev l = false)) (h : ∀ j, j < k → okAt l j = true) : numsOk l = true := by
  rw [numsOk_eq]
  rcases hk with rfl | ⟨rfl, hd⟩
  · rw [h 0 (by decide), h 1 (by decide), h 2 (by decide), h 3 (by decide), h 4 (by decide), h 5 (by decide), h 6 (by decide)]; simp
  · rw [h 0 (by decide), h 1 (by decide), h 2 (by decide), h 3 (by decide), h 4 (by decide), hd]; simp
theorem okAt_iff (l : List UInt8) (k : Nat) : okAt l k = true ↔ (nAt l k).2 = 0 ∧ (fieldAt k).2.2.1 ≤ (nAt l k).1 ∧ (nAt l k).1 ≤ (fieldAt k).2.2.2 := by unfold okAt numOk; simp
theorem fieldAt_bd (k : Nat) (h : k < 7) : (fieldAt k).1 ≤ (fieldAt k).2.1 ∧ (fieldAt k).2.1 ≤ 345 ∧ (fieldAt k).1 < 345 := by
  rcases (by omega : k = 0 ∨ k = 1 ∨ k = 2 ∨ k = 3 ∨ k = 4 ∨ k = 5 ∨ k = 6) with rfl | rfl | rfl | rfl | rfl | rfl | rfl <;> decide
/-- the numbers that have been read -/
def vTo (l : List UInt8) (k : Nat) : List Int := (List.range 7).map fun j => if j < k then (nAt l j).1 else 0
theorem vTo_len (l : List UInt8) (k : Nat) : (vTo l k).length = 7 := by simp [vTo]
theorem vTo_set (l : List UInt8) (k : Nat) (h : k < 7) : (vTo l k).set k (nAt l k).1 = vTo l (k + 1) := by
  apply List.ext_getElem (by simp [vTo])
  intro i h1 h2
  simp only [vTo, List.length_map, List.length_range] at h2
  rw [List.getElem_set]
  simp only [vTo, List.getElem_map, List.getElem_range]
  by_cases e : k = i
  · subst e; simp
  · rw [if_neg e]
    by_cases h3 : i < k
    · rw [if_pos h3, if_pos (by omega)]
    · rw [if_neg h3, if_neg (by omega)]
def vC (vs : List Int) : Array Value := (vs.map (Value.int .i64)).toArray
theorem vC_size (vs : List Int) : (vC vs).size = vs.length := by simp [vC]
theorem vC_set (vs : List Int) (k : Nat) (x : Int) : (vC vs).setIfInBounds k (.int .i64 x) = vC (vs.set k x) := by simp [vC, List.map_set]
theorem vC_at (vs : List Int) (k : Nat) (h : k < vs.length) : (vC vs)[k]? = some (.int .i64 (vs.getD k 0)) := by simp [vC, List.getD, List.getElem?_eq_getElem h]
/-- the block, the result's variable, the header's variable -/
structure H3 (w : World) (l : List UInt8) (gh : Nat) (h : Hd) (wr : World) : Prop where
  two : H2 w l wr
  ge : w.heap.size + 2 ≤ gh
  rh : wr.heap[gh]? = some (.cells (hdC h) 23 (0, 0))
theorem H3.lt {w wr : World} {l : List UInt8} {gh : Nat} {h : Hd} (k : H3 w l gh h wr) : gh < wr.heap.size := (Array.getElem?_eq_some_iff.1 k.rh).1
theorem H3.keep {w wr w' : World} {l : List UInt8} {gh : Nat} {h : Hd} (x : H3 w l gh h wr) (k : Below wr.heap.size wr w') : H3 w l gh h w' :=
  ⟨x.two.keep k, x.ge, by rw [k.block _ x.lt]; exact x.rh⟩
theorem H3.cell {w wr : World} {l : List UInt8} {gh : Nat} {h : Hd} (x : H3 w l gh h wr) (k : Nat) : wr.cell? ⟨gh, k, none⟩ = (hdC h)[k]? := by rw [cell_of_row _ _ _ _ _ _ x.rh]
theorem H3.free {w wr : World} {l : List UInt8} {gh : Nat} {h : Hd} (x : H3 w l gh h wr) (k : Nat) : wr.frozen? ⟨gh, k, none⟩ = false := frozen_of_row _ _ _ _ _ x.rh
theorem H2.setOther {w wr : World} {l : List UInt8} (x : H2 w l wr) {g k : Nat} (hg : w.heap.size + 2 ≤ g) (v : Value) : H2 w l (wr.setCell ⟨g, k, none⟩ v) := by
  refine ⟨x.bel.setCell (show w.heap.size ≤ (⟨g, k, none⟩ : Addr).block from by simp only; omega) v, ?_, ?_⟩
  · rw [heap_setCell_other _ _ _ _ (by simp only; omega)]; exact x.r0
  · rw [heap_setCell_other _ _ _ _ (by simp only; omega)]; exact x.r1
theorem H3.set {w wr : World} {l : List UInt8} {gh : Nat} {h h' : Hd} (x : H3 w l gh h wr) (k : Nat) (v : Value) (e : (hdC h).setIfInBounds k v = hdC h') : H3 w l gh h' (wr.setCell ⟨gh, k, none⟩ v) :=
  ⟨x.two.setOther x.ge v, x.ge, by rw [heap_setCell_same _ _ _ _ _ _ x.rh, e]⟩
theorem H3.drew {w wr : World} {l : List UInt8} {gh : Nat} {h : Hd} (x : H3 w l gh h wr) : H3 w l gh h wr.drew := x.keep ((Below.refl _ _).drew)
/-- and the numbers' variable -/
structure H4 (w : World) (l : List UInt8) (gh : Nat) (h : Hd) (gv : Nat) (vs : List Int) (wr : World) : Prop where
  three : H3 w l gh h wr
  ge : gh < gv
  rv : wr.heap[gv]? = some (.cells (vC vs) 39 (0, 0))
theorem H4.lt {w wr : World} {l : List UInt8} {gh : Nat} {h : Hd} {gv : Nat} {vs : List Int} (k : H4 w l gh h gv vs wr) : gv < wr.heap.size := (Array.getElem?_eq_some_iff.1 k.rv).1
theorem H4.keep {w wr w' : World} {l : List UInt8} {gh : Nat} {h : Hd} {gv : Nat} {vs : List Int} (x : H4 w l gh h gv vs wr) (k : Below wr.heap.size wr w') : H4 w l gh h gv vs w' :=
  ⟨x.three.keep k, x.ge, by rw [k.block _ x.lt]; exact x.rv⟩
theorem H4.cell {w wr : World} {l : List UInt8} {gh : Nat} {h : Hd} {gv : Nat} {vs : List Int} (x : H4 w l gh h gv vs wr) (k : Nat) (hk : k < vs.length) : wr.cell? ⟨gv, k, none⟩ = some (.int .i64 (vs.getD k 0)) := by
  rw [cell_of_row _ _ _ _ _ _ x.rv, vC_at _ _ hk]
theorem H4.free {w wr : World} {l : List UInt8} {gh : Nat} {h : Hd} {gv : Nat} {vs : List Int} (x : H4 w l gh h gv vs wr) (k : Nat) : wr.frozen? ⟨gv, k, none⟩ = false := frozen_of_row _ _ _ _ _ x.rv
theorem H4.put {w wr : World} {l : List UInt8} {gh : Nat} {h : Hd} {gv : Nat} {vs : List Int} (x : H4 w l gh h gv vs wr) (k : Nat) (v : Int) : H4 w l gh h gv (vs.set k v) (wr.setCell ⟨gv, k, none⟩ (.int .i64 v)) := by
  have h1 := x.three.ge
  have h2 := x.ge
  exact ⟨⟨x.three.two.setOther (by omega) _, x.three.ge, by rw [heap_setCell_other _ _ _ _ (by simp only; omega)]; exact x.three.rh⟩, x.ge, by rw [heap_setCell_same _ _ _ _ _ _ x.rv, vC_set]⟩
theorem H4.set {w wr : World} {l : List UInt8} {gh : Nat} {h h' : Hd} {gv : Nat} {vs : List Int} (x : H4 w l gh h gv vs wr) (k : Nat) (v : Value) (e : (hdC h).setIfInBounds k v = hdC h') : H4 w l gh h' gv vs (wr.setCell ⟨gh, k, none⟩ v) := by
  have h2 := x.ge
  exact ⟨x.three.set k v e, x.ge, by rw [heap_setCell_other _ _ _ _ (by simp only; omega)]; exact x.rv⟩
theorem index_fields (k : Nat) (hk : k < 7) (w : World) : (Instr.index 42 (.agg fieldsA) (.int .i64 (k : Int))).run Tryz.prog w = .ok (.agg (fieldV k).toArray) w := by
  rcases (by omega : k = 0 ∨ k = 1 ∨ k = 2 ∨ k = 3 ∨ k = 4 ∨ k = 5 ∨ k = 6) with rfl | rfl | rfl | rfl | rfl | rfl | rfl <;> kernel_rfl
section
variable {P : Program} {ops : Array Oper} {rest : List Oper} {o : Oper} {a : Act} {w : World} {Q : Exit → Act → World → Prop}
theorem wpList_index_at (hgd : o.guard = none) (t : TypeId) (y x : Operand) (ho : o.op = .index t y x) {vy vx : Value} (hy : a.eval y = vy) (hx : a.eval x = vx) (v : Value) (hr : (Instr.index t vy vx).run P w = .ok v w)
    (h : wpList P ops Q rest (a.put o.dst v) w) : wpList P ops Q (o :: rest) a w := by
  refine wpList_value hgd _ _ ?_ h
  simp [execOp, ho, hy, hx, hr, Result.andThen]
end
end Go.Proofs.YtjchaogfmnabfaaGreatDoor
namespace Go.Proofs.YtjchaogfmnabfaaGreatDoor
set_option linter.unusedVariables false
set_option linter.unusedSimpArgs false
open Go.ChangeShapes Go.WideShapes Go.ChangeAt Go.RowKit
/-- a header's texts lie within the form's reach -/
structure HdSz (h : Hd) : Prop where
  name : h.name.length ≤ 140737488351232
  link : h.link.length ≤ 140737488351232
  user : h.user.length ≤ 140737488351232
  group : h.group.length ≤ 140737488351232
def fitB (s : List UInt8) (n : Int) : Bool := decide ((s.length : Int) ≤ n) && decide (Lib.indexByte s 0 < 0)
theorem nul_iff (l : List UInt8) : (0 : UInt8) ∈ l ↔ 0 ≤ Lib.indexByte l 0 := by
  constructor
  · intro h
    rcases Int.lt_or_le (Lib.indexByte l 0) 0 with h0 | h0
    · exfalso
      obtain ⟨k, hk, he⟩ := List.getElem_of_mem h
      exact Plain.indexByte_none l h0 k hk (by simp [List.getD, List.getElem?_eq_getElem hk, he])
    · exact h0
  · intro h
    obtain ⟨j, hj, h0⟩ := Plain.indexByte_some l h
    have : l[j] = 0 := by simpa [List.getD, List.getElem?_eq_getElem hj] using h0
    rw [← this]; exact List.getElem_mem hj
theorem fitB_iff (s : List UInt8) (n : Nat) : fitB s n = true ↔ s.length ≤ n ∧ (0 : UInt8) ∉ s := by
  unfold fitB
  rw [nul_iff, Bool.and_eq_true, decide_eq_true_eq, decide_eq_true_eq]
  omega
/-- the number of place k of a header -/
def vAt (h : Hd) : Nat → Int
  | 0 => h.mode
  | 1 => h.uid
  | 2 => h.gid
  | 3 => h.size
  | 4 => h.mtime
  | 5 => h.major
  | _ => h.minor
def wAt (k : Nat) : Int := ((fieldAt k).2.1 : Int) - ((fieldAt k).1 : Int)
def fok (h : Hd) (k : Nat) : Bool := decide ((Plain.put (vAt h k) (wAt k)).2 = 0 ∧ (fieldAt k).2.2.1 ≤ vAt h k ∧ vAt h k ≤ (fieldAt k).2.2.2)
def part1 (h : Hd) : Bool := decide ((Plain.split h.name).2.2 = 0) && (fitB h.link 100 && (fitB h.user 32 && (fitB h.group 32 && decide (h.ty ≠ 0))))
theorem goodH_eq (h : Hd) (hi : HdIn h) : goodH h = true ↔ part1 h = true ∧ ∀ k, k < 7 → fok h k = true := by
  have b1 := (inI64_iff h.mode).1 hi.mode
  have b2 := (inI64_iff h.size).1 hi.size
  have b3 := (inI64_iff h.major).1 hi.major
  have b4 := (inI64_iff h.minor).1 hi.minor
  have f1 := fitB_iff h.link 100
  have f2 := fitB_iff h.user 32
  have f3 := fitB_iff h.group 32
  unfold goodH part1
  simp only [Bool.and_eq_true, decide_eq_true_eq]
  have e100 : ((100 : Nat) : Int) = 100 := rfl
  have e32 : ((32 : Nat) : Int) = 32 := rfl
  rw [e100] at f1; rw [e32] at f2 f3
  rw [f1, f2, f3]
  have hk : (∀ k, k < 7 → fok h k = true) ↔ (fok h 0 = true ∧ fok h 1 = true ∧ fok h 2 = true ∧ fok h 3 = true ∧ fok h 4 = true ∧ fok h 5 = true ∧ fok h 6 = true) := by
    constructor
    · intro a
      exact ⟨a 0 (by decide), a 1 (by decide), a 2 (by decide), a 3 (by decide), a 4 (by decide), a 5 (by decide), a 6 (by decide)⟩
    · rintro ⟨a0, a1, a2, a3, a4, a5, a6⟩ k hk
      rcases (by omega : k = 0 ∨ k = 1 ∨ k = 2 ∨ k = 3 ∨ k = 4 ∨ k = 5 ∨ k = 6) with rfl | rfl | rfl | rfl | rfl | rfl | rfl
      · exact a0
      · exact a1
      · exact a2
      · exact a3
      · exact a4
      · exact a5
      · exact a6
  rw [hk]
  have k0 : fok h 0 = decide ((Plain.put h.mode 8).2 = 0 ∧ 0 ≤ h.mode ∧ h.mode ≤ 9223372036854775807) := rfl
  have k1 : fok h 1 = decide ((Plain.put h.uid 8).2 = 0 ∧ 0 ≤ h.uid ∧ h.uid ≤ 2147483647) := rfl
  have k2 : fok h 2 = decide ((Plain.put h.gid 8).2 = 0 ∧ 0 ≤ h.gid ∧ h.gid ≤ 2147483647) := rfl
  have k3 : fok h 3 = decide ((Plain.put h.size 12).2 = 0 ∧ 0 ≤ h.size ∧ h.size ≤ 9223372036854775807) := rfl
  have k4 : fok h 4 = decide ((Plain.put h.mtime 12).2 = 0 ∧ -1099511627776 ≤ h.mtime ∧ h.mtime ≤ 1099511627776) := rfl
  have k5 : fok h 5 = decide ((Plain.put h.major 8).2 = 0 ∧ 0 ≤ h.major ∧ h.major ≤ 9223372036854775807) := rfl
  have k6 : fok h 6 = decide ((Plain.put h.minor 8).2 = 0 ∧ 0 ≤ h.minor ∧ h.minor ≤ 9223372036854775807) := rfl
  rw [k0, k1, k2, k3, k4, k5, k6]
  simp only [decide_eq_true_eq]
  constructor
  · rintro ⟨⟨⟨g1, g2, g3, g4, g5, g6, g7, g8⟩, m1, m2, m3, m4, m5, m6, m7, m8, m9, m10⟩, p1, p2, p3, p4, p5, p6, p7⟩
    refine ⟨⟨g1, ⟨g2, g5⟩, ⟨g3, g6⟩, ⟨g4, g7⟩, g8⟩, ⟨p1, m1, by omega⟩, ⟨p2, m5, m6⟩, ⟨p3, m7, m8⟩, ⟨p4, m2, by omega⟩, ⟨p5, m9, m10⟩, ⟨p6, m3, by omega⟩, ⟨p7, m4, by omega⟩⟩
  · rintro ⟨⟨g1, ⟨g2, g5⟩, ⟨g3, g6⟩, ⟨g4, g7⟩, g8⟩, ⟨p1, m1, _⟩, ⟨p2, m5, m6⟩, ⟨p3, m7, m8⟩, ⟨p4, m2, _⟩, ⟨p5, m9, m10⟩, ⟨p6, m3, _⟩, ⟨p7, m4, _⟩⟩
    exact ⟨⟨⟨g1, g2, g3, g4, g5, g6, g7, g8⟩, m1, m2, m3, m4, m5, m6, m7, m8, m9, m10⟩, p1, p2, p3, p4, p5, p6, p7⟩
/-- the numbers that have been laid -/
def bTo (h : Hd) : Nat → List UInt8
  | 0 => zblk
  | k + 1 => lay (bTo h k) (fieldAt k).1 (Plain.put (vAt h k) (wAt k)).1
theorem vAt_in (h : Hd) (hi : HdIn h) (k : Nat) : inI64 (vAt h k) = true := by
  rcases k with _ | _ | _ | _ | _ | _ | k
  · exact hi.mode
  · exact hi.uid
  · exact hi.gid
  · exact hi.size
  · exact hi.mtime
  · exact hi.major
  · exact hi.minor
theorem fok_len (h : Hd) (hi : HdIn h) (k : Nat) (hk : k < 7) (ho : fok h k = true) : (Plain.put (vAt h k) (wAt k)).1.length = (fieldAt k).2.1 - (fieldAt k).1 := by
  have hb := fieldAt_bd k hk
  unfold fok at ho
  rw [decide_eq_true_eq] at ho
  refine put_len (vAt h k) (wAt k) (vAt_in h hi k) ho.1 _ ?_
  unfold wAt; omega
theorem bTo_len (h : Hd) (hi : HdIn h) : ∀ k, k ≤ 7 → (∀ j, j < k → fok h j = true) → (bTo h k).length = 512
  | 0, _, _ => zblk_len
  | k + 1, hk, ho => by
    have ih := bTo_len h hi k (by omega) (fun j hj => ho j (by omega))
    have hb := fieldAt_bd k (by omega)
    have hl := fok_len h hi k (by omega) (ho k (by omega))
    show (lay (bTo h k) (fieldAt k).1 _).length = 512
    rw [lay_len _ _ _ (by rw [ih, hl]; omega), ih]
/-- what is laid behind the numbers -/
def bAll (h : Hd) : List UInt8 :=
  lay (lay (lay (lay (lay (lay (lay (bTo h 7) 0 (Plain.split h.name).2.1) 156 [h.ty]) 157 h.link) 257 magicU) 265 h.user) 297 h.group) 345 (Plain.split h.name).1
theorem bAll_eq (h : Hd) (hi : HdIn h) (hg : goodH h = true) : bAll h = blkOf h := by
  have hg2 := (goodH_eq h hi).1 hg
  have ho := hg2.2
  unfold goodH at hg
  rw [Bool.and_eq_true, Bool.and_eq_true, decide_eq_true_eq, decide_eq_true_eq, decide_eq_true_eq] at hg
  obtain ⟨⟨⟨g1, g2, g3, g4, g5, g6, g7, g8⟩, _⟩, _⟩ := hg
  have hsp : ∃ p s, Plain.split h.name = (p, s, 0) ∧ Plain.Well h.name p s := by
    rcases Plain.split_cases h.name with h1 | ⟨h1, _⟩
    · exact h1
    · rw [h1] at g1; cases g1
  obtain ⟨p, s, hps, hw⟩ := hsp
  obtain ⟨w1, w2, w3, w4⟩ := hw
  have l0 := fok_len h hi 0 (by decide) (ho 0 (by decide))
  have l1 := fok_len h hi 1 (by decide) (ho 1 (by decide))
  have l2 := fok_len h hi 2 (by decide) (ho 2 (by decide))
  have l3 := fok_len h hi 3 (by decide) (ho 3 (by decide))
  have l4 := fok_len h hi 4 (by decide) (ho 4 (by decide))
  have l5 := fok_len h hi 5 (by decide) (ho 5 (by decide))
  have l6 := fok_len h hi 6 (by decide) (ho 6 (by decide))
  have hc := chain_prog s (Plain.put (vAt h 0) (wAt 0)).1 (Plain.put (vAt h 1) (wAt 1)).1 (Plain.put (vAt h 2) (wAt 2)).1 (Plain.put (vAt h 3) (wAt 3)).1 (Plain.put (vAt h 4) (wAt 4)).1 (Plain.put (vAt h 5) (wAt 5)).1 (Plain.put (vAt h 6) (wAt 6)).1 h.link h.user h.group p h.ty w2
    (Nat.le_of_eq l0) (Nat.le_of_eq l1) (Nat.le_of_eq l2) (Nat.le_of_eq l3) (Nat.le_of_eq l4) (Nat.le_of_eq l5) (Nat.le_of_eq l6) g2 g3 g4 w3
  unfold bAll blkOf partsOf
  rw [hps]
  exact hc
theorem make_good (h : Hd) (hg : goodH h = true) : Plain.make h = (Plain.seal (blkOf h), 0) := by unfold Plain.make; rw [if_pos hg]
theorem make_bad (h : Hd) (hg : goodH h = false) : Plain.make h = (zblk, 43) := by unfold Plain.make; rw [if_neg (by rw [hg]; decide)]
theorem goodH_no1 (h : Hd) (hi : HdIn h) (hp : part1 h = false) : goodH h = false := by
  cases hg : goodH h with
  | false => rfl
  | true => rw [((goodH_eq h hi).1 hg).1] at hp; cases hp
theorem goodH_no2 (h : Hd) (hi : HdIn h) (k : Nat) (hk : k < 7) (hp : fok h k = false) : goodH h = false := by
  cases hg : goodH h with
  | false => rfl
  | true => rw [((goodH_eq h hi).1 hg).2 k hk] at hp; cases hp
end Go.Proofs.YtjchaogfmnabfaaGreatDoor
namespace Go.Proofs.YtjchaogfmnabfaaGreatDoor
set_option linter.unusedVariables false
open Go.ChangeShapes Go.WideShapes Go.ChangeAt Go.RowKit
variable {H : Type} {enc : TypeId × Value → H} {w : World}
theorem readH_str {P : Program} {t : TypeId} {fuel : Nat} {cs : List Value} {d : DataW H} {p : List MemPlace} (ht : P.underlying t = some .string) (h : DataW.trod enc P w 0 (fun _ => true) true fuel t cs = some (d, p)) (hs : Sized P t d) :
    ∃ l : List UInt8, cs = [.string ⟨l.toArray⟩] ∧ l.length ≤ 140737488351232 := by
  obtain ⟨s, rfl, hx, _⟩ := DataW.trod_string ht h
  simp only [Prod.mk.injEq] at hx
  obtain ⟨rfl, rfl⟩ := hx
  refine ⟨s.data.toList, rfl, ?_⟩
  have := hs s.data.toList.length (by simp only [DataW.weights]; exact List.mem_cons_self)
  simpa only [reachBytes] using this
theorem readH_int {P : Program} {t : TypeId} {fuel : Nat} {cs : List Value} {d : DataW H} {p : List MemPlace} (ht : P.underlying t = some (.int .i64)) (h : DataW.trod enc P w 0 (fun _ => true) true fuel t cs = some (d, p)) :
    ∃ z, cs = [.int .i64 z] ∧ inI64 z = true := by
  obtain ⟨z, rfl, _, hz⟩ := DataW.trod_int ht h
  have := wf_i64 hz
  exact ⟨z, rfl, (inI64_iff z).2 ⟨this.1, by omega⟩⟩
theorem readH_u8 {P : Program} {t : TypeId} {fuel : Nat} {cs : List Value} {d : DataW H} {p : List MemPlace} (ht : P.underlying t = some (.int .u8)) (h : DataW.trod enc P w 0 (fun _ => true) true fuel t cs = some (d, p)) :
    ∃ b : UInt8, cs = [.int .u8 (b.toNat : Int)] := by
  obtain ⟨z, rfl, _, hz⟩ := DataW.trod_int ht h
  obtain ⟨h0, h1⟩ := wf_u8 hz
  exact ⟨toU8 z, by rw [← u8v_toU8 h0 h1]; rfl⟩
theorem eachH_mem {P : Program} {ts : List TypeId} {ds : List (DataW H)} {t : TypeId} {d : DataW H} (j : Nat) (ht : ts[j]? = some t) (hd : ds[j]? = some d) (h : ∀ m ∈ DataW.weightsEach P ts ds, m ≤ reachBytes) : Sized P t d :=
  fun m hm => h m (DataW.weights_mem_each ht hd m hm)
set_option maxRecDepth 100000 in
set_option maxHeartbeats 800000 in
theorem read_header {fuel : Nat} {cs : List Value} {d : DataW H} {p : List MemPlace} (h : DataW.trod enc Tryz.prog w 0 (fun _ => true) true fuel 23 cs = some (d, p)) (hs : Sized Tryz.prog 23 d) :
    ∃ h : Hd, cs = (hdC h).toList ∧ HdIn h ∧ HdSz h := by
  obtain ⟨ys, n, _, hx, hlen, hyl, hf⟩ := DataW.trod_struct Tryz.underlying23 h
  simp only [Prod.mk.injEq] at hx
  obtain ⟨rfl, rfl⟩ := hx
  have hc : Tryz.prog.cellsOf 23 = 13 := by kernel_rfl
  have hcs : Tryz.prog.cellsOf 9 = 1 := by kernel_rfl
  have hci : Tryz.prog.cellsOf 3 = 1 := by kernel_rfl
  have hcb : Tryz.prog.cellsOf 5 = 1 := by kernel_rfl
  rw [hc] at hlen
  have hs' : ∀ m ∈ DataW.weightsEach Tryz.prog [9, 9, 3, 3, 3, 3, 3, 5, 9, 9, 3, 3, 3] (ys.map (·.1)), m ≤ reachBytes := fun m hm => hs m (by simp only [DataW.weights, Tryz.underlying23]; exact hm)
  match cs, hlen, ys, hyl, hf, hs' with
  | [c0, c1, c2, c3, c4, c5, c6, c7, c8, c9, c10, c11, c12], _, [y0, y1, y2, y3, y4, y5, y6, y7, y8, y9, y10, y11, y12], _, hf, hs' =>
    have h0 : DataW.trod enc Tryz.prog w 0 (fun _ => true) true n 9 [c0] = some y0 := by have := hf 0 _ rfl; simpa [hcs] using this
    have h1 : DataW.trod enc Tryz.prog w 0 (fun _ => true) true n 9 [c1] = some y1 := by have := hf 1 _ rfl; simpa [hcs] using this
    have h2 : DataW.trod enc Tryz.prog w 0 (fun _ => true) true n 3 [c2] = some y2 := by have := hf 2 _ rfl; simpa [hci] using this
    have h3 : DataW.trod enc Tryz.prog w 0 (fun _ => true) true n 3 [c3] = some y3 := by have := hf 3 _ rfl; simpa [hci] using this
    have h4 : DataW.trod enc Tryz.prog w 0 (fun _ => true) true n 3 [c4] = some y4 := by have := hf 4 _ rfl; simpa [hci] using this
    have h5 : DataW.trod enc Tryz.prog w 0 (fun _ => true) true n 3 [c5] = some y5 := by have := hf 5 _ rfl; simpa [hci] using this
    have h6 : DataW.trod enc Tryz.prog w 0 (fun _ => true) true n 3 [c6] = some y6 := by have := hf 6 _ rfl; simpa [hci] using this
    have h7 : DataW.trod enc Tryz.prog w 0 (fun _ => true) true n 5 [c7] = some y7 := by have := hf 7 _ rfl; simpa [hcb] using this
    have h8 : DataW.trod enc Tryz.prog w 0 (fun _ => true) true n 9 [c8] = some y8 := by have := hf 8 _ rfl; simpa [hcs] using this
    have h9 : DataW.trod enc Tryz.prog w 0 (fun _ => true) true n 9 [c9] = some y9 := by have := hf 9 _ rfl; simpa [hcs] using this
    have h10 : DataW.trod enc Tryz.prog w 0 (fun _ => true) true n 3 [c10] = some y10 := by have := hf 10 _ rfl; simpa [hci] using this
    have h11 : DataW.trod enc Tryz.prog w 0 (fun _ => true) true n 3 [c11] = some y11 := by have := hf 11 _ rfl; simpa [hci] using this
    have h12 : DataW.trod enc Tryz.prog w 0 (fun _ => true) true n 3 [c12] = some y12 := by have := hf 12 _ rfl; simpa [hci] using this
    obtain ⟨name_, e0, l0⟩ := readH_str Tryz.underlying9 h0 (eachH_mem 0 rfl rfl hs')
    obtain ⟨link_, e1, l1⟩ := readH_str Tryz.underlying9 h1 (eachH_mem 1 rfl rfl hs')
    obtain ⟨mode_, e2, l2⟩ := readH_int Tryz.underlying3 h2
    obtain ⟨uid_, e3, l3⟩ := readH_int Tryz.underlying3 h3
    obtain ⟨gid_, e4, l4⟩ := readH_int Tryz.underlying3 h4
    obtain ⟨size_, e5, l5⟩ := readH_int Tryz.underlying3 h5
    obtain ⟨mtime_, e6, l6⟩ := readH_int Tryz.underlying3 h6
    obtain ⟨ty_, e7⟩ := readH_u8 Tryz.underlying5 h7
    obtain ⟨user_, e8, l8⟩ := readH_str Tryz.underlying9 h8 (eachH_mem 8 rfl rfl hs')
    obtain ⟨group_, e9, l9⟩ := readH_str Tryz.underlying9 h9 (eachH_mem 9 rfl rfl hs')
    obtain ⟨major_, e10, l10⟩ := readH_int Tryz.underlying3 h10
    obtain ⟨minor_, e11, l11⟩ := readH_int Tryz.underlying3 h11
    obtain ⟨form_, e12, l12⟩ := readH_int Tryz.underlying3 h12
    simp only [List.cons.injEq, and_true] at e0 e1 e2 e3 e4 e5 e6 e7 e8 e9 e10 e11 e12
    subst e0 e1 e2 e3 e4 e5 e6 e7 e8 e9 e10 e11 e12
    exact ⟨⟨name_, link_, mode_, uid_, gid_, size_, mtime_, ty_, user_, group_, major_, minor_, form_⟩, rfl, ⟨l2, l3, l4, l5, l6, l10, l11⟩, ⟨l0, l1, l8, l9⟩⟩
set_option maxRecDepth 100000 in
theorem open_header {v : Value} {d : DataW H} {p : List MemPlace} {r : Reach} {b0 : Nat} (hv : Value.okWide Tryz.prog w r b0 23 v) (h : DataW.Trod enc Tryz.prog w 0 (fun _ => true) true 23 v d p) (hs : Sized Tryz.prog 23 d) :
    ∃ h : Hd, v = .agg (hdC h) ∧ HdIn h ∧ HdSz h := by
  obtain ⟨cs, rfl, _⟩ := okWide_struct Tryz.underlying23 hv
  obtain ⟨fuel, hf⟩ := h
  obtain ⟨h, e, r1, r2⟩ := read_header hf hs
  exact ⟨h, congrArg Value.agg (Array.ext' e), r1, r2⟩
end Go.Proofs.YtjchaogfmnabfaaGreatDoor
namespace Go.Proofs.YtjchaogfmnabfaaGreatDoor
set_option linter.unusedVariables false
set_option linter.unusedSimpArgs false
open Go.ChangeShapes Go.WideShapes Go.ChangeAt Go.RowKit
def hFT (F : Int) (T : UInt8) : Hd := { Hd.zero with form := F, ty := T }
/-- x[lo:hi] of an array of bytes in memory, as the run has it -/
theorem run_slice_arr {P : Program} (t : TypeId) {e : TypeId} {n : Nat} (ht : P.underlying t = some (.array n e)) (hsz : (P.info? e).map (·.size) = some 1) (g : Nat) (lo hi : Option Int) (L M : Nat)
    (hL : match lo with | some p => p = (L : Int) | none => L = 0) (hM : match hi with | some p => p = (M : Int) | none => M = n) (h1 : L ≤ M) (h2 : M ≤ n) (h3 : L < n) (w : World) :
    (Instr.sliceAt t (.pointer (some ⟨g, 0, none⟩)) (lo.map (Value.int .i64)) (hi.map (Value.int .i64)) none).run P w = .ok (.slice (some ⟨g, L, none⟩) (M - L) (n - L)) w := by
  obtain ⟨i, hi', hs'⟩ := Option.map_eq_some_iff.1 hsz
  have hne : ¬ n = L := by omega
  have e1 : (L : Int) ≤ M := by omega
  have e2 : (M : Int) ≤ n := by omega
  have e3 : (L : Int) ≤ n := by omega
  have f3 : L ≤ n := by omega
  have ha : (Addr.add ⟨g, 0, none⟩ L) = (⟨g, L, none⟩ : Addr) := by rw [Addr.add_lit, Nat.zero_add]
  cases lo <;> cases hi <;> simp only at hL hM
  all_goals first | subst hL | skip
  all_goals first | subst hM | skip
  all_goals simp [Instr.sliceAt, Instr.sureAddr, Instr.sliceBounds, Instr.sliceBound, run_underlying ht, sizeOf, typeInfo, hi', hs', asIntOf, hne, Result.andThen, *]
end Go.Proofs.YtjchaogfmnabfaaGreatDoor
namespace Go.Proofs.YtjchaogfmnabfaaGreatDoor
open Go.ChangeShapes Go.WideShapes Go.ChangeAt Go.RowKit
/-- two rows of bytes in the blocks behind w's last one -/
structure Two (w : World) (t : TypeId) (x y : List UInt8) (wr : World) : Prop where
  bel : Below w.heap.size w wr
  r0 : wr.heap[w.heap.size]? = some (.cells (rowA x) t (0, 0))
  r1 : wr.heap[w.heap.size + 1]? = some (.cells (rowA y) t (0, 0))
theorem Two.new (w : World) (t : TypeId) (x y : List UInt8) : Two w t x y ((w.alloc (.cells (rowA x) t)).alloc (.cells (rowA y) t)) :=
  ⟨((Below.refl _ _).alloc (Nat.le_refl _) _).alloc (by simp) _, heap_alloc2_old _ _ _, heap_alloc2_new _ _ _⟩
theorem Two.keep {w wr w' : World} {t : TypeId} {x y : List UInt8} (h : Two w t x y wr) (k : Below wr.heap.size wr w') : Two w t x y w' := by
  refine ⟨Below.seq h.bel k, ?_, ?_⟩
  · rw [k.block _ (Array.getElem?_eq_some_iff.1 h.r0).1]; exact h.r0
  · rw [k.block _ (Array.getElem?_eq_some_iff.1 h.r1).1]; exact h.r1
theorem Two.set {w wr : World} {t : TypeId} {x y : List UInt8} (h : Two w t x y wr) (k : Nat) (b : UInt8) : Two w t (x.set k b) y (wr.setCell ⟨w.heap.size, k, none⟩ (.int .u8 (b.toNat : Int))) := by
  refine ⟨h.bel.setCell (by simp) _, ?_, ?_⟩
  · rw [heap_setCell_same _ _ _ _ _ _ h.r0, show (Value.int .u8 (b.toNat : Int)) = u8v b from rfl, rowA_set]
  · rw [heap_setCell_other _ _ _ _ (by simp)]; exact h.r1
theorem Two.setv {w wr : World} {t : TypeId} {x y : List UInt8} (h : Two w t x y wr) (k : Nat) (b : UInt8) (v : Int) (hv : (b.toNat : Int) = v) : Two w t (x.set k b) y (wr.setCell ⟨w.heap.size, k, none⟩ (.int .u8 v)) := by
  rw [← hv]; exact h.set k b
theorem Two.row {w wr : World} {t : TypeId} {x y : List UInt8} (h : Two w t x y wr) (z : List UInt8) : Two w t z y (wr.setRow w.heap.size (rowA z)) := by
  refine ⟨Below.setRow h.bel (Nat.le_refl _) _, setRow_heap _ _ _ _ _ _ h.r0, ?_⟩
  rw [setRow_other _ _ _ _ (by omega)]; exact h.r1
theorem Two.cell {w wr : World} {t : TypeId} {x y : List UInt8} (h : Two w t x y wr) (k : Nat) (hk : k < x.length) : wr.cell? ⟨w.heap.size, k, none⟩ = some (.int .u8 ((x.getD k 0).toNat : Int)) := by
  rw [cell_of_row _ _ _ _ _ _ h.r0, rowA_at _ _ hk]
theorem Two.froz {w wr : World} {t : TypeId} {x y : List UInt8} (h : Two w t x y wr) (k : Nat) : wr.frozen? ⟨w.heap.size, k, none⟩ = false := frozen_of_row _ _ _ _ _ h.r0
section
variable {P : Program} {ops : Array Oper} {rest : List Oper} {o : Oper} {a : Act} {w : World} {Q : Exit → Act → World → Prop}
/-- copy(x[off:], m) into a row of bytes; m is not empty -/
theorem wpList_copy_row (hgd : o.guard = none) (d s : Operand) (dT sT : TypeId) (ho : o.op = .call { callee := .builtin .copy, args := #[d, s], argTypes := #[dT, sT] }) (elem : TypeId) (hu : P.underlying dT = some (.slice elem)) (hsz : (P.info? elem).map (·.size) = some 1)
    (g off dLen dCap : Nat) (hd : a.eval d = .slice (some ⟨g, off, none⟩) dLen dCap) {sp : Option Addr} {n c : Nat} (hs : a.eval s = .slice sp n c) (l m : List UInt8) {t : TypeId} (hg : w.heap[g]? = some (.cells (rowA l) t (0, 0))) (hm : Bs w sp n c m) (h0 : 0 < n) (hn : n ≤ dLen) (hfit : off + n ≤ l.length)
    (h : wpList P ops Q rest (a.put o.dst (goInt n)) (w.setRow g (rowA (l.take off ++ m ++ l.drop (off + n))))) : wpList P ops Q (o :: rest) a w := by
  obtain rfl := hm.len
  cases sp with
  | none => have := (hm.2.2.2.2 rfl).1; omega
  | some ad =>
    refine wpList_copy_own hgd d s dT sT ho elem hu hsz g off dLen dCap ad m.length c hd hs (rowA l) t hg (m.map u8v) (by rw [List.length_map]; exact (Nat.min_eq_left hn).symm) (fun j v hj => ?_) (by rw [List.length_map, rowA_size]; exact hfit) (bytes_oneCell m) ?_
    · obtain ⟨x, hx, hc⟩ := hm.2.2.2.1 j v hj
      cases hx
      exact hc
    · rw [List.length_map]
      have e : ((rowA l).toList.take off ++ (m.map u8v ++ (rowA l).toList.drop (off + m.length))).toArray = rowA (l.take off ++ m ++ l.drop (off + m.length)) := by
        simp [rowA, List.map_append, List.map_take, List.map_drop]
      rw [e]
      exact h
end
theorem seal_copied (l : List UInt8) (hl : l.length = 512) (m : List UInt8) (hm : m.length = 7) : (l.take 148 ++ m ++ l.drop (148 + 7)).set 155 32 = l.take 148 ++ (m ++ [32]) ++ l.drop 156 := by
  have h1 : (l.take 148 ++ m).length = 155 := by rw [List.length_append, List.length_take]; omega
  rw [show 148 + 7 = 155 by rfl, List.set_append_right _ _ (by omega), h1, Nat.sub_self, List.drop_eq_getElem_cons (show 155 < l.length by omega), List.set_cons_zero]
  simp
theorem zblk_len512 : zblk.length = 512 := zblk_len
set_option maxRecDepth 100000 in
set_option maxHeartbeats 1600000 in
theorem Seal_any (l : List UInt8) (hl : l.length = 512) (w : World) (hT : Bru w) :
    Calls Tryz.prog 8 #[.agg (rowA l)] w fun e w' => e = .returned (.agg (rowA (Plain.seal l))) ∧ Below w.heap.size w w' := by
  have HR := Lib.hid (Two.new w 26 l zblk)
  have HS := Lib.hid (fun w => Sums_any l hl w)
  have HI := Lib.hid (sizeBlk l hl); have HZ := Lib.hid zeroBlk
  have hsl := seal_len l hl
  have HI2 := Lib.hid (sizeBlk (Plain.seal l) hsl); have HO2 := Lib.hid (rowA_one (Plain.seal l))
  have hsz2 : Hid ((rowA zblk).size = (rowA (Plain.seal l)).size) := by show _ = _; rw [rowA_size, rowA_size, zblk_len, hsl]
  have hub := sum_uby_bd l hl
  have hse : Plain.seal l = l.take 148 ++ ((octRow (Plain.sum uby l).toNat 6 ++ [0]) ++ [32]) ++ l.drop 156 := by unfold Plain.seal; simp
  have hfl : (octRow (Plain.sum uby l).toNat 6 ++ [0]).length = 7 := by rw [List.length_append]; unfold octRow; rw [placeRow_len]; rfl
  have hcop := seal_copied l hl (octRow (Plain.sum uby l).toNat 6 ++ [0]) hfl
  rw [← hse] at hcop
  have hput : Plain.putOctal (Plain.sum uby l) 7 = (octRow (Plain.sum uby l).toNat 6 ++ [0], 0) := by
    have h8 : (8 : Nat) ^ 6 = 262144 := rfl
    unfold Plain.putOctal
    rw [if_neg (by omega), if_neg (by omega), show (7 : Int).toNat - 1 = 6 by rfl, if_pos (by omega)]
  have HP := Lib.hid (fun w h => PutOctal_any (Plain.sum uby l) 7 w h (by omega) (by omega) (by decide) (by decide))
  rw [hput] at HP
  generalize octRow (Plain.sum uby l).toNat 6 ++ [0] = m at *
  generalize Plain.sum uby l = U at *
  generalize Plain.sum sby l = V at *
  generalize Plain.seal l = s at *
  have HT := Lib.hid hT; have HC := Lib.hid hcop; have HFL := Lib.hid hfl; have HL := Lib.hid hl
  clear hT hcop hput hse hub hsl hl
  go_enter Tryz.func8, Tryz.ntmps8
  go_upto_region 1 with (first
    | (with_reducible refine wpList_box_agg rfl _ _ rfl (rowA l) rfl ?_)
    | (with_reducible refine wpList_alloc_z rfl _ rfl (rowA zblk) HZ.out ?_))
  have hR := HR.out
  generalize hw0 : (w.alloc (.cells (rowA l) 26)).alloc (.cells (rowA zblk) 26) = wa at *
  clear hw0
  have HRR := Lib.hid hR
  have H0 := Lib.hid hR.r0
  clear hR HR
  go_wp2_with (first
    | (with_reducible refine wpList_load_row rfl _ _ rfl w.heap.size rfl 26 (rowA l) (0, 0) _ H0.out Tryz.underlying26 rfl HI.out ?_)
    | (go_at_call 24; (with_reducible refine (HS.out _).mono ?_); rintro e w1 ⟨rfl, hb1⟩; have HR1 := Lib.hid (HRR.out.keep hb1); clear hb1)
    | (go_at_call 25; (refine (HP.out w1 (by exact HT.out.below HR1.out.bel)).mono ?_); rintro e w2 ⟨a2, n2, c2, rfl, hs2, hb2⟩; have HR2 := Lib.hid (HR1.out.keep hb2); have HS2 := Lib.hid hs2; have HN2 := Lib.hid (hs2.len.symm.trans HFL.out); clear hs2 hb2)
    | (with_reducible refine wpList_slice_row rfl _ _ _ _ rfl Tryz.underlying26 (by kernel_rfl) w.heap.size rfl 148 512 .i64 .i64 rfl rfl (by decide) (by decide) (by decide) ?_)
    | ((with_reducible refine wpList_copy_row rfl _ _ 35 35 rfl 5 Tryz.underlying35 (by kernel_rfl) w.heap.size 148 _ _ rfl rfl l m HR2.out.r0 HS2.out (by rw [HN2.out]; decide) (by rw [HN2.out]; decide) (by rw [HN2.out, HL.out]; decide) ?_); rw [HN2.out]; have hR3 := HR2.out.row (l.take 148 ++ m ++ l.drop (148 + 7)); generalize w2.setRow w.heap.size (rowA (l.take 148 ++ m ++ l.drop (148 + 7))) = w3 at *; have hl3 : (l.take 148 ++ m ++ l.drop (148 + 7)).length = 512 := (by rw [List.length_append, List.length_append, List.length_take, List.length_drop, HFL.out, HL.out]; decide); have hc3 := hR3.cell 155 (by rw [hl3]; decide); have hz3 := hR3.froz 155; have hR4 := hR3.setv 155 32 32 rfl; rw [HC.out] at hR4; have HR4 := Lib.hid hR4; have H4 := Lib.hid hR4.r0; have H5 := Lib.hid hR4.r1; clear hR3 hR4 hl3)
    | (with_reducible refine wpList_load_row rfl _ _ rfl w.heap.size rfl 26 (rowA s) (0, 0) _ H4.out Tryz.underlying26 rfl HI2.out ?_)
    | (with_reducible refine wpList_store_row rfl 26 _ _ rfl (w.heap.size + 1) rfl (rowA s) rfl (rowA zblk) 26 H5.out hsz2.out HI2.out HO2.out ?_))
  refine bodyPost_ret (results_cell_row rfl _ _ (w.heap.size + 1) 26 (rowA s) (0, 0) _ rfl (setRow_heap _ _ _ _ _ _ H5.out) Tryz.underlying26 rfl HI2.out) rfl ⟨rfl, Below.setRow HR4.out.bel (by omega) _⟩
/-- the digits are laid from the last one -/
def laidTo (l : List UInt8) (u k : Nat) : List UInt8 := l.take (154 - k) ++ octRow u k ++ l.drop 154
theorem laidTo_zero (l : List UInt8) (u : Nat) : laidTo l u 0 = l := by
  unfold laidTo octRow; rw [placeRow_zero, List.append_nil, Nat.sub_zero, List.take_append_drop]
theorem laidTo_len (l : List UInt8) (u k : Nat) (hl : l.length = 512) (hk : k ≤ 6) : (laidTo l u k).length = 512 := by
  unfold laidTo octRow; rw [List.length_append, List.length_append, placeRow_len, List.length_take, List.length_drop]; omega
theorem laidTo_set (l : List UInt8) (u k : Nat) (hl : l.length = 512) (hk : k < 6) : (laidTo l u k).set (153 - k) (octDig u k) = laidTo l u (k + 1) := by
  unfold laidTo octRow
  have e : 154 - k = (153 - k) + 1 := by omega
  rw [e, List.take_succ_eq_append_getElem (by omega), placeRow_succ, List.append_assoc, List.append_assoc, List.append_assoc, List.set_append_right _ _ (by rw [List.length_take]; omega), List.length_take, show 153 - k - min (153 - k) l.length = 0 by omega, show 154 - (k + 1) = 153 - k by omega]
  simp
theorem laidTo_end (l : List UInt8) (hl : l.length = 512) : ((laidTo l (Plain.sum uby l).toNat 6).set 154 0).set 155 32 = Plain.seal l := by
  unfold laidTo Plain.seal
  have h1 : (l.take (154 - 6) ++ octRow (Plain.sum uby l).toNat 6).length = 154 := by rw [List.length_append]; unfold octRow; rw [placeRow_len, List.length_take]; omega
  rw [List.set_append_right _ _ (by omega), h1, Nat.sub_self, List.drop_eq_getElem_cons (show 154 < l.length by omega), List.set_cons_zero, List.set_append_right _ _ (by omega), h1, show 155 - 154 = 0 + 1 by rfl, List.set_cons_succ, List.drop_eq_getElem_cons (show 154 + 1 < l.length by omega), List.set_cons_zero]
  simp
set_option maxRecDepth 100000 in
set_option maxHeartbeats 1600000 in
theorem RefSeal_any (l : List UInt8) (hl : l.length = 512) (w : World) :
    Calls Tryz.prog 18 #[.agg (rowA l)] w fun e w' => e = .returned (.agg (rowA (Plain.seal l))) ∧ Below w.heap.size w w' := by
  have HR := Lib.hid (Two.new w 26 l zblk)
  have HS := Lib.hid (fun w => RefSums_any l hl w)
  have HI := Lib.hid (sizeBlk l hl); have HZ := Lib.hid zeroBlk
  have hsl := seal_len l hl
  have HI2 := Lib.hid (sizeBlk (Plain.seal l) hsl); have HO2 := Lib.hid (rowA_one (Plain.seal l))
  have hsz2 : Hid ((rowA zblk).size = (rowA (Plain.seal l)).size) := by show _ = _; rw [rowA_size, rowA_size, zblk_len, hsl]
  have hub := sum_uby_bd l hl
  have hend := laidTo_end l hl
  obtain ⟨u, hu⟩ := Int.eq_ofNat_of_zero_le (by omega : 0 ≤ Plain.sum uby l)
  rw [hu] at HS hend hub
  rw [Int.toNat_natCast] at hend
  have hub2 : u ≤ 130560 := by omega
  generalize Plain.sum sby l = V at *
  generalize Plain.seal l = s at *
  have HE := Lib.hid hend; have HL := Lib.hid hl
  clear hend hub hsl hl hu
  go_enter Tryz.func18, Tryz.ntmps18
  go_upto_region 1 with (first
    | (with_reducible refine wpList_box_agg rfl _ _ rfl (rowA l) rfl ?_)
    | (with_reducible refine wpList_alloc_z rfl _ rfl (rowA zblk) HZ.out ?_))
  have hR := HR.out
  generalize hw0 : (w.alloc (.cells (rowA l) 26)).alloc (.cells (rowA zblk) 26) = wa at *
  clear hw0
  have HRR := Lib.hid hR
  have H0 := Lib.hid hR.r0
  clear hR HR
  go_wp2_with (first
    | (with_reducible refine wpList_load_row rfl _ _ rfl w.heap.size rfl 26 (rowA l) (0, 0) _ H0.out Tryz.underlying26 rfl HI.out ?_)
    | (go_at_call 31; (with_reducible refine (HS.out _).mono ?_); rintro e w1 ⟨rfl, hb1⟩; have HR1 := Lib.hid (HRR.out.keep hb1); clear hb1))
  go_loopw [3, 5] (fun x i wr => ∃ k : Nat, k ≤ 6 ∧ x = .int .i64 ((u / 8 ^ k : Nat) : Int) ∧ i = .int .i64 (153 - (k : Int)) ∧ Two w 26 (laidTo l u k) zblk wr) (fun _ i _ => (intOf i).toNat)
  case atStart => exact ⟨0, by omega, by rw [Nat.pow_zero, Nat.div_one], by go_num, by rw [laidTo_zero]; exact HR1.out⟩
  case round =>
    obtain ⟨k, hk, rfl, rfl, hD⟩ := hrel
    have hlen := laidTo_len l u k HL.out hk
    by_cases hlt : k < 6
    · have hnext : u / 8 ^ k / 8 = u / 8 ^ (k + 1) := by rw [Nat.pow_succ, ← Nat.div_div_eq_div_mul]
      have hdig := octDig_val u k
      have hset := laidTo_set l u k HL.out hlt
      have hle : u / 8 ^ k ≤ u := Nat.div_le_self _ _
      obtain ⟨j, hj⟩ : ∃ j : Nat, 153 - (k : Int) = (j : Int) := ⟨153 - k, by omega⟩
      have hjk : 153 - k = j := by omega
      have hD2 := hD.set j (octDig u k)
      rw [← hjk, hset, hjk] at hD2
      have hcell := hD.cell j (by rw [hlen]; omega)
      have hfz := hD.froz j
      have hjm : (j : Int) < 512 := by omega
      have hjm2 : (148 : Int) ≤ j := by omega
      generalize hU : u / 8 ^ (k + 1) = U' at *
      generalize u / 8 ^ k = U at *
      generalize octDig u k = B at *
      have hval : 48 + (U : Int) % 8 = (B.toNat : Int) := by omega
      have HN := Lib.hid hnext; have HD2 := Lib.hid hD2; have HU := Lib.hid hU
      clear hU hnext hdig hset hD hD2 hlen
      go_wp2
      exact ⟨⟨k + 1, by omega, by rw [HU.out, ← HN.out]; go_num, by go_num, HD2.out⟩, by simp [intOf]; omega⟩
    · obtain rfl : k = 6 := by omega
      have hc1 := hD.cell 154 (by rw [hlen]; decide)
      have hz1 := hD.froz 154
      have hD1 := hD.setv 154 0 0 rfl
      have hl1 : ((laidTo l u 6).set 154 0).length = 512 := by rw [List.length_set]; exact hlen
      have hc2 := hD1.cell 155 (by rw [hl1]; decide)
      have hz2 := hD1.froz 155
      have hD2 := hD1.setv 155 32 32 rfl
      rw [HE.out] at hD2
      have HR4 := Lib.hid hD2; have H4 := Lib.hid hD2.r0; have H5 := Lib.hid hD2.r1
      clear hD hD1 hD2 hl1 hlen
      go_wp2_with (first
        | (with_reducible refine wpList_load_row rfl _ _ rfl w.heap.size rfl 26 (rowA s) (0, 0) _ H4.out Tryz.underlying26 rfl HI2.out ?_)
        | (with_reducible refine wpList_store_row rfl 26 _ _ rfl (w.heap.size + 1) rfl (rowA s) rfl (rowA zblk) 26 H5.out hsz2.out HI2.out HO2.out ?_))
      refine bodyPost_ret (results_cell_row rfl _ _ (w.heap.size + 1) 26 (rowA s) (0, 0) _ rfl (setRow_heap _ _ _ _ _ _ H5.out) Tryz.underlying26 rfl HI2.out) rfl ⟨rfl, Below.setRow HR4.out.bel (by omega) _⟩
end Go.Proofs.YtjchaogfmnabfaaGreatDoor
namespace Go.Proofs.YtjchaogfmnabfaaGreatDoor
open Go.ChangeShapes Go.WideShapes Go.ChangeAt Go.RowKit
theorem infoU8a : (Tryz.prog.info? 5).map (fun i => (i.zero, i.size, i.bytes)) = some (some (.int .u8 0), 1, 1) := by kernel_rfl
theorem putRes_row {w w' : World} {l : List UInt8} {n : Nat} (h : RowAt w 5 l w') (hn : l.length = n) (h64 : n ≤ 64) : PutResF w (l, 0) (.returned (.tuple #[.slice (some ⟨w.heap.size, 0, none⟩) n n, .int .i64 0])) w' := by
  subst hn
  refine ⟨_, _, _, rfl, h.bs (by unfold maxLen; omega), h.bel, Nat.le_refl _, by unfold maxLen; omega, .inr ⟨_, rfl, Nat.le_refl _, (Array.getElem?_eq_some_iff.1 h.row).1, fun k hk => ⟨?_, h.froz k⟩⟩⟩
  rw [h.cell k hk]; rfl
theorem u64div (u k : Nat) : u / 8 ^ k / 8 = u / 8 ^ (k + 1) := by rw [Nat.pow_succ, ← Nat.div_div_eq_div_mul]
set_option maxRecDepth 100000 in
set_option maxHeartbeats 1600000 in
theorem RefPutOctal_any (v n : Int) (w : World) (v0 : -9223372036854775808 ≤ v) (v1 : v ≤ 9223372036854775807) (n0 : -9223372036854775808 ≤ n) (n1 : n ≤ 9223372036854775807) :
    Calls Tryz.prog 29 #[.int .i64 v, .int .i64 n] w (PutRes w (Plain.putOctal v n)) := by
  by_cases h : n < 2 ∨ 64 < n
  · have e : Plain.putOctal v n = ([], 12) := if_pos h
    rw [e]; clear e
    rcases h with h | h
    all_goals
      go_enter Tryz.func29, Tryz.ntmps29
      go_wp2
      all_goals
        go_ret2
        exact PutRes.nil _ (Below.refl _ _)
  · by_cases hneg : v < 0
    · have e : Plain.putOctal v n = ([], 11) := by unfold Plain.putOctal; rw [if_neg h, if_pos hneg]
      rw [e]; clear e
      have h2 : ¬ n < 2 := by omega
      have h64 : ¬ 64 < n := by omega
      clear h
      go_enter Tryz.func29, Tryz.ntmps29
      go_wp2
      go_ret2
      exact PutRes.nil _ (Below.refl _ _)
    · obtain ⟨u, rfl⟩ := Int.eq_ofNat_of_zero_le (by omega : 0 ≤ v)
      obtain ⟨m, rfl⟩ := Int.eq_ofNat_of_zero_le (by omega : 0 ≤ n)
      have hm2 : 2 ≤ m := by omega
      have hm64 : m ≤ 64 := by omega
      have e : Plain.putOctal u m = if u < 8 ^ (m - 1) then (octRow u (m - 1) ++ [0], 0) else ([], 11) := by
        unfold Plain.putOctal; rw [if_neg h, if_neg hneg]; rfl
      generalize Plain.putOctal u m = r at *
      have HE := Lib.hid e
      have hr0 : RowAt w 5 (fillRow 0 (octDig u) (m - 1) 0 [0]) (w.alloc (.cells (rowA (List.replicate m 0)) 5)) := by
        rw [fillRow_zero, show List.replicate (m - 1) (0 : UInt8) ++ [0] = List.replicate m 0 by rw [← List.replicate_succ', show m - 1 + 1 = m by omega]]
        exact RowAt.new w _ _
      have HR0 := Lib.hid hr0
      clear e h hr0
      generalize hz : List.replicate m (0 : UInt8) = z at HR0
      have HZ := Lib.hid hz; clear hz
      go_enter Tryz.func29, Tryz.ntmps29
      go_wp2_with (at_make; (with_reducible refine wpList_make_bytes rfl _ _ _ rfl Tryz.underlying35 infoU8a m rfl rfl (by omega) ?_); rw [HZ.out])
      go_loopw [0, 7] (fun x i wr => ∃ k : Nat, k ≤ m - 1 ∧ x = .int .i64 ((u / 8 ^ k : Nat) : Int) ∧ i = .int .i64 ((m : Int) - 2 - k) ∧ RowAt w 5 (fillRow 0 (octDig u) (m - 1) k [0]) wr) (fun _ i _ => (intOf i + 1).toNat)
      case atStart => exact ⟨0, by omega, by rw [Nat.pow_zero, Nat.div_one], by go_num, HR0.out⟩
      case round =>
        obtain ⟨k, hk, rfl, rfl, hD⟩ := hrel
        by_cases hlt : k < m - 1
        · have hnext := u64div u k
          have hdig := octDig_val u k
          have hset := fillRow_set 0 (octDig u) (m - 1) k [0] hlt
          have hle : u / 8 ^ k ≤ u := Nat.div_le_self _ _
          obtain ⟨j, hj⟩ : ∃ j : Nat, (m : Int) - 2 - k = (j : Int) := ⟨m - 2 - k, by omega⟩
          have hjk : m - 1 - 1 - k = j := by omega
          have hD2 := hD.set j (octDig u k)
          rw [← hjk, hset, hjk] at hD2
          have hcell := hD.cell j (by rw [fillRow_len _ _ _ _ _ (by omega)]; simp; omega)
          have hfz := hD.froz j
          have hjm : (j : Int) < m := by omega
          generalize hU : u / 8 ^ (k + 1) = U' at *
          generalize u / 8 ^ k = U at *
          generalize octDig u k = B at *
          have hval : 48 + (U : Int) % 8 = (B.toNat : Int) := by omega
          have HN := Lib.hid hnext; have HD2 := Lib.hid hD2; have HU := Lib.hid hU
          clear hU hnext hdig hset hD hD2
          go_wp2
          exact ⟨⟨k + 1, by omega, by rw [HU.out, ← HN.out]; go_num, by go_num, HD2.out⟩, by simp [intOf]; omega⟩
        · obtain rfl : k = m - 1 := by omega
          have hi : (m : Int) - 2 - ((m - 1 : Nat) : Int) < 0 := by omega
          have he := HE.out
          have hfull := fillRow_full 0 (octDig u) (m - 1) [0]
          rw [hfull] at hD
          have hl : (placeRow (octDig u) (m - 1) ++ [0]).length = m := by rw [List.length_append, placeRow_len]; simp; omega
          have hdz : u / 8 ^ (m - 1) = 0 ↔ u < 8 ^ (m - 1) := by
            rw [Nat.div_eq_zero_iff]
            have : 8 ^ (m - 1) ≠ 0 := Nat.pos_iff_ne_zero.1 (Nat.pow_pos (by decide))
            omega
          have HD := Lib.hid hD; have HLL := Lib.hid hl; have HB := Lib.hid hD.bel
          clear hfull hl hD
          by_cases hlt2 : u < 8 ^ (m - 1)
          · rw [if_pos hlt2] at he
            subst he
            rw [hdz.2 hlt2]
            clear hdz hlt2 hlt hk
            go_wp2
            go_ret2
            exact (putRes_row HD.out HLL.out hm64).res
          · rw [if_neg hlt2] at he
            subst he
            have hne : (((u / 8 ^ (m - 1) : Nat) : Int) != 0) = true := by
              rw [bne_iff_ne]; intro h; exact hlt2 (hdz.1 (by omega))
            generalize u / 8 ^ (m - 1) = U at *
            clear hdz hlt2 hlt hk
            go_wp2
            go_ret2
            exact PutRes.nil _ HB.out
end Go.Proofs.YtjchaogfmnabfaaGreatDoor
