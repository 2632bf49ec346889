/-
  J08: HdrSplit, HdrForms, HdrLaws, HdrRound, ScrLay, joined.
-/
import Derived.Test.YtamgiffkhnfpmaaDoorJ02
import Derived.Test.YtamgiffkhnfpmaaDoorJ03
import Derived.Test.YtamgiffkhnfpmaaDoorHdrGood
import Derived.Test.YtamgiffkhnfpmaaDoorHdrRef
import Derived.Test.YtamgiffkhnfpmaaDoorJ05
import Derived.Test.YtamgiffkhnfpmaaDoorHdrMkWalk
import Derived.BigRegion
import Derived.Deep.RegionHeld3
import Derived.Lib.AppendZeros
namespace Go.Proofs.YtamgiffkhnfpmaaDoor
set_option linter.unusedVariables false
set_option linter.unusedSimpArgs false
open Go.ChangeShapes Go.WideShapes Go.ChangeAt Go.RowKit
/-- the stroke as the loop finds it -/
def strokeAt (l : List UInt8) (j : Nat) : Prop := l.getD j 0 = 47 ∧ l.length - j - 1 ≤ 100
def AtI (l : List UInt8) (k : Nat) (A : Int) : Prop :=
  (A = -1 ∧ ∀ j, 1 ≤ j → j < k → ¬ strokeAt l j) ∨ (∃ m : Nat, A = m ∧ 1 ≤ m ∧ m < k ∧ strokeAt l m ∧ ∀ j, m < j → j < k → ¬ strokeAt l j)
theorem AtI.start (l : List UInt8) : AtI l 1 (-1) := .inl ⟨rfl, fun j h1 h2 => by omega⟩
theorem AtI.yes {l : List UInt8} {k : Nat} {A : Int} (h : AtI l k A) (hk : 1 ≤ k) (hs : strokeAt l k) : AtI l (k + 1) k := .inr ⟨k, rfl, hk, by omega, hs, fun j h1 h2 => by omega⟩
theorem AtI.no {l : List UInt8} {k : Nat} {A : Int} (h : AtI l k A) (hs : ¬ strokeAt l k) : AtI l (k + 1) A := by
  rcases h with ⟨h1, h2⟩ | ⟨m, h1, h2, h3, h4, h5⟩
  · exact .inl ⟨h1, fun j a b => by
      by_cases e : j = k
      · subst e; exact hs
      · exact h2 j a (by omega)⟩
  · exact .inr ⟨m, h1, h2, by omega, h4, fun j a b => by
      by_cases e : j = k
      · subst e; exact hs
      · exact h5 j a (by omega)⟩
theorem AtI.bd {l : List UInt8} {k : Nat} {A : Int} (h : AtI l k A) : -1 ≤ A ∧ A < k := by
  rcases h with ⟨h1, h2⟩ | ⟨m, h1, h2, h3, _⟩ <;> omega
theorem AtI.fin {l : List UInt8} {A : Int} (hl : 100 < l.length) (h : AtI l (min 156 (l.length - 1)) A) :
    (A = -1 ∧ (Plain.stroke l < 1 ∨ 100 < (l.length : Int) - Plain.stroke l - 1)) ∨ (1 ≤ A ∧ A = Plain.stroke l ∧ ¬ Plain.stroke l < 1 ∧ ¬ 100 < (l.length : Int) - Plain.stroke l - 1) := by
  have hst := Plain.stroke_spec l
  rcases h with ⟨h1, h2⟩ | ⟨m, h1, h2, h3, h4, h5⟩
  · left
    refine ⟨h1, ?_⟩
    rcases hst with ⟨hs, _⟩ | ⟨i, hi, hs, h47, _⟩
    · left; omega
    · by_cases hi0 : i < 1
      · left; omega
      · right
        have := h2 i (by omega) hi
        unfold strokeAt at this
        have h3 : ¬ (l.length - i - 1 ≤ 100) := fun h => this ⟨h47, h⟩
        omega
  · right
    obtain ⟨h47, h100⟩ := h4
    rcases hst with ⟨hs, hn⟩ | ⟨i, hi, hs, hi47, hn⟩
    · exact absurd h47 (hn m h3)
    · have hmi : m = i := by
        by_cases hlt : m < i
        · exact absurd ⟨hi47, by omega⟩ (h5 i hlt hi)
        · by_cases hgt : i < m
          · exact absurd h47 (hn m hgt h3)
          · omega
      subst hmi
      refine ⟨by omega, by omega, by omega, by omega⟩
theorem nulB_iff (l : List UInt8) : decide ((0 : UInt8) ∈ l) = decide (0 ≤ Lib.indexByte l 0) := by
  rw [decide_eq_decide]
  constructor
  · intro h
    rcases Int.lt_or_le (Lib.indexByte l 0) 0 with h0 | h0
    · exfalso
      obtain ⟨k, hk, he⟩ := List.getElem_of_mem h
      exact Plain.indexByte_none l h0 k hk (by simp [List.getD, List.getElem?_eq_getElem hk, he])
    · exact h0
  · intro h
    obtain ⟨j, hj, h0⟩ := Plain.indexByte_some l h
    have : l[j] = 0 := by simpa [List.getD, List.getElem?_eq_getElem hj] using h0
    rw [← this]; exact List.getElem_mem hj
end Go.Proofs.YtamgiffkhnfpmaaDoor
namespace Go.Proofs.YtamgiffkhnfpmaaDoor
set_option linter.unusedVariables false
set_option linter.unusedSimpArgs false
def z8 : List UInt8 := [0, 0, 0, 0, 0, 0, 0, 0]
/-- the magic wiped, sealed anew -/
def wiped (l : List UInt8) : List UInt8 := Plain.seal (lay l 257 z8)
theorem wiped_fld (l : List UInt8) (hl : l.length = 512) (s e : Nat) (he : e ≤ 512) (h1 : e ≤ 148 ∨ 156 ≤ s) (h2 : e ≤ 257 ∨ 265 ≤ s) : fld (wiped l) s e = fld l s e := by
  have hl2 : (lay l 257 z8).length = 512 := by rw [lay_len _ _ _ (by rw [hl]; decide), hl]
  unfold wiped
  rw [seal_lay, fld_lay _ _ _ _ _ (by rw [sealRow_len, hl2]; decide) (by omega) (by rw [sealRow_len]; omega), fld_lay _ _ _ _ _ (by rw [hl]; decide) (by omega) h2]
theorem wiped_read (l : List UInt8) (hl : l.length = 512) (h : (Plain.hread l).2 = 0) :
    (Plain.hread (wiped l)).2 = 0 ∧ (Plain.hread (wiped l)).1.form = 1 ∧ (¬ ((Plain.hread l).1.form = 2 ∧ l.getD 345 0 ≠ 0) →
      (Plain.hread (wiped l)).1 = { (Plain.hread l).1 with form := 1, user := [], group := [], major := 0, minor := 0 }) := by
  have hl2 : (lay l 257 z8).length = 512 := by rw [lay_len _ _ _ (by rw [hl]; decide), hl]
  have hsl := seal_len _ hl2
  have hsd := seal_sealed _ hl2
  have f0 := wiped_fld l hl 0 100 (by decide) (by decide) (by decide)
  have f1 := wiped_fld l hl 100 108 (by decide) (by decide) (by decide)
  have f2 := wiped_fld l hl 108 116 (by decide) (by decide) (by decide)
  have f3 := wiped_fld l hl 116 124 (by decide) (by decide) (by decide)
  have f4 := wiped_fld l hl 124 136 (by decide) (by decide) (by decide)
  have f5 := wiped_fld l hl 136 148 (by decide) (by decide) (by decide)
  have f7 := wiped_fld l hl 156 157 (by decide) (by decide) (by decide)
  have f8 := wiped_fld l hl 157 257 (by decide) (by decide) (by decide)
  have f9 : fld (wiped l) 257 265 = z8 := by
    unfold wiped
    rw [seal_lay, fld_lay _ _ _ _ _ (by rw [sealRow_len, hl2]; decide) (by omega) (by rw [sealRow_len]; omega)]
    exact fld_lay_in l 257 z8 265 (by rw [hl]; decide) rfl
  have f6 : (wiped l).getD 148 0 = (octRow (Plain.sum uby (lay l 257 z8)).toNat 6 ++ [0, 32]).getD 0 0 := by
    unfold wiped
    rw [seal_lay, lay_getD _ _ _ (by rw [sealRow_len, hl2]; decide), sealRow_len, if_pos (by decide)]
  have hz : ¬ wiped l = zblk := by
    intro e
    rw [e] at f6
    have h0 : zblk.getD 148 0 = 0 := by decide +kernel
    have h48 : ((octRow (Plain.sum uby (lay l 257 z8)).toNat 6 ++ [0, 32]).getD 0 0) = octDig (Plain.sum uby (lay l 257 z8)).toNat 5 := by
      unfold octRow; rw [placeRow_succ]; rfl
    rw [h0, h48] at f6
    have := (isOct_iff _).1 (octDig_oct (Plain.sum uby (lay l 257 z8)).toNat 5)
    rw [← f6] at this
    simp at this
  have ht : (wiped l).getD 156 0 = l.getD 156 0 := by
    have a := fld_getD (wiped l) 156 157 0 (by decide)
    have b := fld_getD l 156 157 0 (by decide)
    rw [f7] at a
    exact a.symm.trans b
  have hty : tyOf (wiped l) = tyOf l := by unfold tyOf; rw [ht]
  have hform : formOf (wiped l) = 1 := by unfold formOf; rw [f9, if_neg (by decide), if_neg (by decide)]
  have hdev : isDev (wiped l) = false := by unfold isDev; rw [hform]; simp
  have n1 : numAt (wiped l) 100 108 = numAt l 100 108 := by unfold numAt; rw [f1]
  have n2 : numAt (wiped l) 108 116 = numAt l 108 116 := by unfold numAt; rw [f2]
  have n3 : numAt (wiped l) 116 124 = numAt l 116 124 := by unfold numAt; rw [f3]
  have n4 : numAt (wiped l) 124 136 = numAt l 124 136 := by unfold numAt; rw [f4]
  have n5 : numAt (wiped l) 136 148 = numAt l 136 148 := by unfold numAt; rw [f5]
  unfold Plain.hread at h
  by_cases c1 : l = zblk
  · rw [if_pos c1] at h; cases h
  · rw [if_neg c1] at h
    by_cases c2 : Plain.sealed l = false
    · rw [if_pos c2] at h; cases h
    · rw [if_neg c2] at h
      by_cases c3 : numsOk l = false
      · rw [if_pos c3] at h; cases h
      · have e1 : Plain.hread l = (hdOf l, 0) := by unfold Plain.hread; rw [if_neg c1, if_neg c2, if_neg c3]
        have c4 : ¬ numsOk (wiped l) = false := by
          intro e
          apply c3
          unfold numsOk at e ⊢
          rw [n1, n2, n3, n4, n5, hdev] at e
          rw [Bool.not_false, Bool.true_or, Bool.and_true] at e
          rw [e, Bool.false_and]
        have e2 : Plain.hread (wiped l) = (hdOf (wiped l), 0) := by
          unfold Plain.hread; rw [if_neg hz, if_neg (by unfold wiped; rw [hsd]; decide), if_neg c4]
        rw [e1, e2]
        refine ⟨rfl, hform, fun hn => ?_⟩
        have hname : nameOf (wiped l) = nameOf l := by
          unfold nameOf
          rw [hform, f0, if_neg (by rintro ⟨a, _⟩; cases a), if_neg]
          rintro ⟨a, b⟩
          refine hn ⟨a, fun e => b ?_⟩
          have hg := fld_getD l 345 500 0 (by decide)
          rw [Nat.add_zero, e] at hg
          have hlen := fld_len l 345 500 (by omega)
          cases hq : fld l 345 500 with
          | nil => rfl
          | cons c r =>
            rw [hq] at hg
            simp at hg
            exact Plain.text_zero c r hg
        unfold hdOf
        simp only [hname, f8, n1, n2, n3, n4, n5, hty, hform, hdev, if_true, Bool.false_eq_true, if_false]
end Go.Proofs.YtamgiffkhnfpmaaDoor
namespace Go.Proofs.YtamgiffkhnfpmaaDoor
set_option linter.unusedVariables false
set_option linter.unusedSimpArgs false
open Go.ChangeShapes Go.WideShapes Go.ChangeAt Go.RowKit
theorem HRead_any (l : List UInt8) (hl : l.length = 512) (w : World) (ev : Value) (hE : ErrIs w ev) :
    Calls Tryd.prog 26 #[.agg (rowA l)] w fun e w' => e = .returned (hdRes (Plain.hread l)) ∧ Below w.heap.size w w' := by
  by_cases hz : l = zblk
  · exact HRead_no l hl w ev hE (.inl hz)
  · by_cases hs : Plain.sealed l = false
    · exact HRead_no l hl w ev hE (.inr hs)
    · exact HRead_good l hl w ev hE hz (by simpa using hs)
set_option maxRecDepth 100000 in
theorem eqIn_hd (x : Hd) (w : World) : (Op.equalIn 10000 43 (.agg (hdC x)) (.agg (hdC x))).run Tryd.prog w = .ok true w := by
  rw [run_equalIn_agg w 9999 43 _ _ (by kernel_rfl) (by kernel_rfl)]
  have hs : ∀ (d : Nat) (a b : ByteArray), (Op.equalIn (d + 1) 9 (.string a) (.string b)).run Tryd.prog w = .ok (a.toList == b.toList) w := fun d a b => run_equalIn_string w d 9 a b Tryd.underlying9
  have hi : ∀ (d : Nat) (a b : Int), (Op.equalIn (d + 1) 3 (.int .i64 a) (.int .i64 b)).run Tryd.prog w = .ok (a == b) w := fun d a b => run_equalIn_int w d 3 .i64 .i64 a b Tryd.underlying3
  have hu : ∀ (d : Nat) (a b : Int), (Op.equalIn (d + 1) 5 (.int .u8 a) (.int .u8 b)).run Tryd.prog w = .ok (a == b) w := fun d a b => run_equalIn_int w d 5 .u8 .u8 a b Tryd.underlying5
  have ps : ∀ (cs : Array Value) (k : Nat) (v : Value), cs[k]? = some v → (part 9 cs k).run Tryd.prog w = .ok v w := fun cs k v h => by simp [part, isAgg, run_underlying Tryd.underlying9, h]
  have pi : ∀ (cs : Array Value) (k : Nat) (v : Value), cs[k]? = some v → (part 3 cs k).run Tryd.prog w = .ok v w := fun cs k v h => by simp [part, isAgg, run_underlying Tryd.underlying3, h]
  have pu : ∀ (cs : Array Value) (k : Nat) (v : Value), cs[k]? = some v → (part 5 cs k).run Tryd.prog w = .ok v w := fun cs k v h => by simp [part, isAgg, run_underlying Tryd.underlying5, h]
  have p0 := ps (hdC x) 0 (.string ⟨x.name.toArray⟩) rfl
  have p1 := ps (hdC x) 1 (.string ⟨x.link.toArray⟩) rfl
  have p2 := pi (hdC x) 2 (.int .i64 x.mode) rfl
  have p3 := pi (hdC x) 3 (.int .i64 x.uid) rfl
  have p4 := pi (hdC x) 4 (.int .i64 x.gid) rfl
  have p5 := pi (hdC x) 5 (.int .i64 x.size) rfl
  have p6 := pi (hdC x) 6 (.int .i64 x.mtime) rfl
  have p7 := pu (hdC x) 7 (.int .u8 (x.ty.toNat : Int)) rfl
  have p8 := ps (hdC x) 8 (.string ⟨x.user.toArray⟩) rfl
  have p9 := ps (hdC x) 9 (.string ⟨x.group.toArray⟩) rfl
  have p10 := pi (hdC x) 10 (.int .i64 x.major) rfl
  have p11 := pi (hdC x) 11 (.int .i64 x.minor) rfl
  have p12 := pi (hdC x) 12 (.int .i64 x.form) rfl
  clear ps pi pu
  generalize hdC x = C at *
  simp [Program.fieldsOf, Tryd.underlying43, Op.eqFields, p0, p1, p2, p3, p4, p5, p6, p7, p8, p9, p10, p11, p12, hs 9998, hi 9998, hu 9998]
theorem eql_hd (x : Hd) (w : World) : (binOp .eql 43 (.agg (hdC x)) (.agg (hdC x))).run Tryd.prog w = .ok (.bool true) w := by
  rw [run_eql_struct, eqIn_hd]; rfl
theorem zeroHd : (Tryd.prog.info? 43).bind (·.zero) = some (.agg (hdC Hd.zero)) := by kernel_rfl
theorem guardHd : Tryd.prog.eqGuardType Tryd.prog.depth 43 = false := by kernel_rfl
def oneL : List UInt8 := [111, 110, 101]
theorem alive_read : (Plain.hread (Plain.seal (ofL oneL))).2 = 0 ∧ (Plain.hread (Plain.seal (ofL oneL))).1.name = oneL ∧ (Plain.hread (Plain.seal (ofL oneL))).1.ty = 48 ∧ (Plain.hread (Plain.seal (ofL oneL))).1.form = 1 := by decide +kernel
set_option maxRecDepth 100000 in
set_option maxHeartbeats 1600000 in
theorem Alive4_any (w : World) (ev : Value) (hE : ErrIs w ev) (hT : Bru w) : Calls Tryd.prog 21 #[] w fun e w' => e = .returned (.bool true) ∧ Below w.heap.size w w' := by
  have hv := alive_read
  have hm := ofL_len oneL
  have HS := Lib.hid (fun w hT => Seal_any (ofL oneL) hm w hT)
  have HR := Lib.hid (fun w hE => HRead_any (Plain.seal (ofL oneL)) (seal_len _ hm) w ev hE)
  have hb := (Below.refl w.heap.size w).alloc (Nat.le_refl _) (.cells #[.int .u8 111, .int .u8 110, .int .u8 101] 5 (3, 4))
  have HBS : Hid (Bs (w.alloc (.cells #[.int .u8 111, .int .u8 110, .int .u8 101] 5 (3, 4))) (some ⟨w.heap.size, 0, none⟩) 3 3 oneL) := Lib.hid (isSl_mark w 5 1 3 #[.int .u8 111, .int .u8 110, .int .u8 101] _ rfl (by unfold maxLen; omega))
  have HO := Lib.hid (fun (wx : World) (h : Bs wx (some ⟨w.heap.size, 0, none⟩) 3 3 oneL) => Of4_any _ 3 3 oneL wx h)
  generalize Plain.hread (Plain.seal (ofL oneL)) = r at *
  generalize Plain.seal (ofL oneL) = s at *
  generalize ofL oneL = m at *
  obtain ⟨x, r2⟩ := r
  obtain ⟨e1, e2, e3, e4⟩ := hv
  simp only at e1 e2 e3 e4
  have HB := Lib.hid hb; have HE := Lib.hid hE; have HT := Lib.hid hT
  subst e1
  have hc0 : (hdC x)[0]? = some (.string ⟨#[111, 110, 101]⟩) := by
    have : (hdC x)[0]? = some (.string ⟨x.name.toArray⟩) := rfl
    rw [this, e2]; rfl
  have hc7 : (hdC x)[7]? = some (.int .u8 48) := by
    have : (hdC x)[7]? = some (.int .u8 (x.ty.toNat : Int)) := rfl
    rw [this, e3]; rfl
  have hc12 : (hdC x)[12]? = some (.int .i64 1) := by
    have : (hdC x)[12]? = some (.int .i64 x.form) := rfl
    rw [this, e4]
  have HZ := Lib.hid zeroHd
  have HI := Lib.hid (hdInfo x); have HOC := Lib.hid (hdC_one x); have HSZ : Hid ((hdC Hd.zero).size = (hdC x).size) := Lib.hid rfl
  unfold hdRes at HR
  simp only at HR
  generalize hdC x = C at *
  have C0 := Lib.hid hc0; have C7 := Lib.hid hc7; have C12 := Lib.hid hc12
  clear hb hE hT hm e2 e3 e4 hc0 hc7 hc12
  have kc := fun (w : World) (C : Array Value) (n c : Nat) => Lib.run_convert_bytes_const (P := Tryd.prog) w 23 5 C n c Tryd.underlying23 Tryd.underlying5
  go_enter Tryd.func21, Tryd.ntmps21
  go_wp2_with fail
  refine (HO.out _ (by exact HBS.out)).mono ?_; rintro e w1 ⟨rfl, hb1⟩; have HB1 := Lib.hid (Below.seq HB.out hb1); clear hb1
  go_wp2_with fail
  refine (HS.out w1 (by exact HT.out.below HB1.out)).mono ?_; rintro e w2 ⟨rfl, hb2⟩; have HB2 := Lib.hid (Below.seq HB1.out hb2); clear hb2
  go_wp2_with fail
  refine (HR.out w2 (by exact HE.out.below HB2.out)).mono ?_; rintro e w3 ⟨rfl, hb3⟩; have HB3 := Lib.hid (Below.seq HB2.out hb3); clear hb3
  have hrow : (w3.alloc (.cells C 43)).heap[w3.heap.size]? = some (.cells C 43 (0, 0)) := heap_alloc_new w3 _
  have hc0 : (w3.alloc (.cells C 43)).cell? ⟨w3.heap.size, 0, none⟩ = some (.string ⟨#[111, 110, 101]⟩) := by rw [cell_of_row _ _ _ _ _ _ hrow]; exact C0.out
  have hc7 : (w3.alloc (.cells C 43)).cell? ⟨w3.heap.size, 7, none⟩ = some (.int .u8 48) := by rw [cell_of_row _ _ _ _ _ _ hrow]; exact C7.out
  have hc12 : (w3.alloc (.cells C 43)).cell? ⟨w3.heap.size, 12, none⟩ = some (.int .i64 1) := by rw [cell_of_row _ _ _ _ _ _ hrow]; exact C12.out
  have HB4 := Lib.hid (HB3.out.alloc HB3.out.size (.cells C 43))
  clear hrow
  go_upto_region 2 with (first
    | (with_reducible refine wpList_alloc_z rfl _ rfl (hdC Hd.zero) HZ.out ?_)
    | (with_reducible refine wpList_store_new rfl _ _ _ rfl _ rfl C rfl rfl HSZ.out HI.out HOC.out ?_))
  generalize w3.alloc (.cells C 43) = w4 at *
  generalize w3.heap.size = g at *
  go_wp2
  go_ret
  exact ⟨ret_bool (by rfl), HB4.out⟩
/-- a header in a block of its own -/
structure HdAt (g : Nat) (C : Array Value) (wr : World) : Prop where
  row : wr.heap[g]? = some (.cells C 43 (0, 0))
theorem HdAt.keep {g : Nat} {C : Array Value} {wr w' : World} (h : HdAt g C wr) (k : Below wr.heap.size wr w') : HdAt g C w' := ⟨by rw [k.block _ (Array.getElem?_eq_some_iff.1 h.row).1]; exact h.row⟩
theorem HdAt.new (w : World) (C : Array Value) : HdAt w.heap.size C (w.alloc (.cells C 43)) := ⟨heap_alloc_new w _⟩
end Go.Proofs.YtamgiffkhnfpmaaDoor
namespace Go.Proofs.YtamgiffkhnfpmaaDoor
set_option linter.unusedVariables false
set_option linter.unusedSimpArgs false
open Go.ChangeShapes Go.WideShapes Go.ChangeAt Go.RowKit
section
variable {P : Program} {ops : Array Oper} {rest : List Oper} {o : Oper} {a : Act} {w : World} {Q : Exit → Act → World → Prop}
/-- a guarded load of an aggregate -/
theorem wpList_load_row_h (hw : Region.wanted o (yielded ops a.tmps) = true) (ty : TypeId) (x : Operand) (ho : o.op = .load ty x)
    (g : Nat) (hx : a.eval x = .pointer (some ⟨g, 0, none⟩)) (t : TypeId) (cs : Array Value) (fr : Nat × Nat) (d : TypeDesc) (hg : w.heap[g]? = some (.cells cs t fr))
    (hu : P.underlying ty = some d) (hd : (match d with | .struct _ | .array _ _ => true | _ => false) = true) (hi : (P.info? ty).map (·.size) = some cs.size)
    (h : wpList P ops Q rest (a.put o.dst (.agg cs)) w) : wpList P ops Q (o :: rest) a w :=
  wpList_step fun _ hK => by rw [if_pos hw]; exact wp_load_row ty x ho g hx t cs fr d hg hu hd hi (hK _ _ h)
end
/-- the argument's variable -/
structure HB (w : World) (x : Hd) (wr : World) : Prop where
  bel : Below w.heap.size w wr
  row : wr.heap[w.heap.size]? = some (.cells (hdC x) 43 (0, 0))
theorem HB.new (w : World) (x : Hd) : HB w x (w.alloc (.cells (hdC x) 43)) := ⟨(Below.refl _ _).alloc (Nat.le_refl _) _, heap_alloc_new w _⟩
theorem HB.keep {w wr w' : World} {x : Hd} (h : HB w x wr) (k : Below wr.heap.size wr w') : HB w x w' := ⟨Below.seq h.bel k, by rw [k.block _ (Array.getElem?_eq_some_iff.1 h.row).1]; exact h.row⟩
theorem HB.cell {w wr : World} {x : Hd} (h : HB w x wr) (k : Nat) : wr.cell? ⟨w.heap.size, k, none⟩ = (hdC x)[k]? := by rw [cell_of_row _ _ _ _ _ _ h.row]
theorem HB.free {w wr : World} {x : Hd} (h : HB w x wr) (k : Nat) : wr.frozen? ⟨w.heap.size, k, none⟩ = false := frozen_of_row _ _ _ _ _ h.row
theorem HB.set {w wr : World} {x x' : Hd} (h : HB w x wr) (k : Nat) (v : Value) (e : (hdC x).setIfInBounds k v = hdC x') : HB w x' (wr.setCell ⟨w.heap.size, k, none⟩ v) :=
  ⟨h.bel.setCell (show w.heap.size ≤ (⟨w.heap.size, k, none⟩ : Addr).block from Nat.le_refl _) _, by rw [heap_setCell_same _ _ _ _ _ _ h.row, e]⟩
theorem HB.lt {w wr : World} {x : Hd} (h : HB w x wr) : w.heap.size < wr.heap.size := (Array.getElem?_eq_some_iff.1 h.row).1
theorem HdAt.setFar {g : Nat} {C : Array Value} {wr : World} (h : HdAt g C wr) {b k : Nat} (v : Value) (hne : g ≠ b) : HdAt g C (wr.setCell ⟨b, k, none⟩ v) := ⟨by rw [heap_setCell_other _ _ _ _ (by simpa using hne)]; exact h.row⟩
theorem blkOf_len (h : Hd) (hi : HdIn h) (hg : goodH h = true) : (blkOf h).length = 512 := by
  obtain ⟨q1, q2, q3, q4, q5⟩ := parts_len h hg
  have l0 := bTo_len h hi 7 (by decide) ((goodH_eq h hi).1 hg).2
  rw [← bAll_eq h hi hg]
  unfold bAll
  have l1 : (lay (bTo h 7) 0 (Plain.split h.name).2.1).length = 512 := by rw [lay_len _ _ _ (by omega), l0]
  have l2 : (lay (lay (bTo h 7) 0 (Plain.split h.name).2.1) 156 [h.ty]).length = 512 := by rw [lay_len _ _ _ (by rw [l1]; simp), l1]
  have l3 : (lay (lay (lay (bTo h 7) 0 (Plain.split h.name).2.1) 156 [h.ty]) 157 h.link).length = 512 := by rw [lay_len _ _ _ (by omega), l2]
  have l4 : (lay (lay (lay (lay (bTo h 7) 0 (Plain.split h.name).2.1) 156 [h.ty]) 157 h.link) 257 magicU).length = 512 := by rw [lay_len _ _ _ (by rw [l3]; decide), l3]
  have l5 : (lay (lay (lay (lay (lay (bTo h 7) 0 (Plain.split h.name).2.1) 156 [h.ty]) 157 h.link) 257 magicU) 265 h.user).length = 512 := by rw [lay_len _ _ _ (by omega), l4]
  have l6 : (lay (lay (lay (lay (lay (lay (bTo h 7) 0 (Plain.split h.name).2.1) 156 [h.ty]) 157 h.link) 257 magicU) 265 h.user) 297 h.group).length = 512 := by rw [lay_len _ _ _ (by omega), l5]
  rw [lay_len _ _ _ (by omega), l6]
theorem make_len (h : Hd) (hi : HdIn h) : (Plain.make h).1.length = 512 := by
  unfold Plain.make
  split
  · rename_i hg; exact seal_len _ (blkOf_len h hi hg)
  · exact zblk_len
theorem ty_ne {a : UInt8} {n : Nat} (hn : n < 256) (h : a ≠ UInt8.ofNat n) : a.toNat ≠ n := fun e => h (UInt8.toNat_inj.1 (by rw [e]; simp; omega))
end Go.Proofs.YtamgiffkhnfpmaaDoor
namespace Go.Proofs.YtamgiffkhnfpmaaDoor
set_option linter.unusedVariables false
set_option linter.unusedSimpArgs false
open Go.ChangeShapes Go.WideShapes Go.ChangeAt Go.RowKit
/-- the sheet's cell, and the row that it holds -/
structure Sheet (g : Nat) (a : Option Addr) (n c : Nat) (out : List UInt8) (w : World) : Prop where
  row : w.heap[g]? = some (.cells #[.slice a n c] 60 (0, 0))
  own : w.ownsRow (g + 1) 5 1 (.slice a n c) n (out.map u8v)
/-- all but the sheet's cell and its row is kept -/
structure Kp (g : Nat) (a : Option Addr) (w w' : World) : Prop where
  os : w'.os = w.os
  tape : w'.tape = w.tape
  output : w'.output = w.output
  size : w.heap.size ≤ w'.heap.size
  block : ∀ k, k < w.heap.size → k ≠ g → some k ≠ blk? a → w'.heap[k]? = w.heap[k]?
theorem Kp.refl (g : Nat) (a : Option Addr) (w : World) : Kp g a w w := ⟨rfl, rfl, rfl, Nat.le_refl _, fun _ _ _ _ => rfl⟩
theorem Kp.of_below {g : Nat} {a : Option Addr} {w w' : World} (h : Below w.heap.size w w') : Kp g a w w' := ⟨h.os, h.tape, h.output, h.size, fun k hk _ _ => h.block k hk⟩
theorem Kp.of_grown {g : Nat} {a : Option Addr} {n c : Nat} {w w' : World} (h : w.grownBy w' (Value.slice a n c).ownBlock) : Kp g a w w' := ⟨h.os, h.tape, h.output, h.size, fun k hk _ hne => h.block k hk (by cases a <;> exact hne)⟩
theorem Kp.trans {g : Nat} {a a1 : Option Addr} {w w1 w2 : World} (h : Kp g a w w1) (k : Kp g a1 w1 w2) (hf : OldNew w a a1) : Kp g a w w2 :=
  ⟨k.os.trans h.os, k.tape.trans h.tape, k.output.trans h.output, Nat.le_trans h.size k.size, fun i hi hg ha =>
    (k.block i (Nat.lt_of_lt_of_le hi h.size) hg (by
      rcases hf with e | ⟨b, e, hb⟩
      · rw [e]; exact ha
      · rw [e]; intro q; have := Option.some.inj q; omega)).trans (h.block i hi hg ha)⟩
theorem Sheet.lt {g : Nat} {a : Option Addr} {n c : Nat} {out : List UInt8} {w : World} (h : Sheet g a n c out w) : g < w.heap.size := (Array.getElem?_eq_some_iff.1 h.row).1
theorem Sheet.cell {g : Nat} {a : Option Addr} {n c : Nat} {out : List UInt8} {w : World} (h : Sheet g a n c out w) : w.cell? ⟨g, 0, none⟩ = some (.slice a n c) := by rw [cell_of_row _ _ _ _ _ _ h.row]; rfl
theorem Sheet.free {g : Nat} {a : Option Addr} {n c : Nat} {out : List UInt8} {w : World} (h : Sheet g a n c out w) : w.frozen? ⟨g, 0, none⟩ = false := frozen_of_row _ _ _ _ _ h.row
theorem Sheet.keep {g : Nat} {a : Option Addr} {n c : Nat} {out : List UInt8} {w w' : World} (h : Sheet g a n c out w) (k : Below w.heap.size w w') : Sheet g a n c out w' := by
  refine ⟨by rw [k.block _ h.lt]; exact h.row, ?_⟩
  obtain ⟨h1, h2⟩ := h.own
  refine ⟨h1, ?_⟩
  rcases h2 with h2 | ⟨b, cap, cur, hv, hb, hh, hr⟩
  · exact .inl h2
  · exact .inr ⟨b, cap, cur, hv, hb, by rw [k.block _ (Array.getElem?_eq_some_iff.1 hh).1]; exact hh, hr⟩
theorem Sheet.there {g : Nat} {a : Option Addr} {n c : Nat} {out : List UInt8} {w w' : World} (h : Sheet g a n c out w) (hg : w.grownBy w' (Value.slice a n c).ownBlock) : w'.heap[g]? = some (.cells #[.slice a n c] 60 (0, 0)) := by
  rw [hg.block _ h.lt ?_]
  · exact h.row
  · intro e
    obtain ⟨_, h2⟩ := h.own
    rcases h2 with ⟨hv, _⟩ | ⟨b, cap, cur, hv, hb, _⟩
    · rw [hv] at e; cases e
    · rw [hv] at e; have := Option.some.inj e; simp at this; omega
/-- a new row is stored into the sheet's cell -/
theorem Sheet.store {g : Nat} {a a' : Option Addr} {n n' c c' : Nat} {out out' : List UInt8} {w w' : World} (h : Sheet g a n c out w) (hg : w.grownBy w' (Value.slice a n c).ownBlock) (ho : w'.ownsRow (g + 1) 5 1 (.slice a' n' c') n' (out'.map u8v)) :
    Sheet g a' n' c' out' (w'.setCell ⟨g, 0, none⟩ (.slice a' n' c')) := by
  have hne : some g ≠ (Value.slice a n c).ownBlock := by
    intro e
    obtain ⟨_, h2⟩ := h.own
    rcases h2 with ⟨hv, _⟩ | ⟨b, cap, cur, hv, hb, _⟩
    · rw [hv] at e; cases e
    · rw [hv] at e; have := Option.some.inj e; simp at this; omega
  have hr : w'.heap[g]? = some (.cells #[.slice a n c] 60 (0, 0)) := by rw [hg.block _ h.lt hne]; exact h.row
  refine ⟨by rw [heap_setCell_same _ _ _ _ _ _ hr]; rfl, ?_⟩
  obtain ⟨h1, h2⟩ := ho
  refine ⟨h1, ?_⟩
  rcases h2 with h2 | ⟨b, cap, cur, hv, hb, hh, hrr⟩
  · exact .inl h2
  · exact .inr ⟨b, cap, cur, hv, hb, by rw [heap_setCell_other _ _ _ _ (by simp only; omega)]; exact hh, hrr⟩
section
variable {P : Program} {ops : Array Oper} {o : Oper} {a : Act} {w : World} {K : Act → World → Prop} {Q : Exit → Act → World → Prop} {E : Prop}
/-- append, its run known: as one step of a region that draws -/
theorem step_app_run (hgd : o.guard = none) (s x : Operand) (t tn : TypeId) (ho : o.op = .call { callee := .builtin .append, args := #[s, x], argTypes := #[t, tn] })
    (vs vx : Value) (hs : a.eval s = vs) (hx : a.eval x = vx) (v' : Value) (w' : World) (hr : (Builtin.append_ #[t, tn] o.type #[vs, vx]).run P w = .ok v' w') (h : K (a.put o.dst v') w') :
    if Region.wanted o (yielded ops a.tmps) = true then Oper.wp P o a w K Q else E := by
  have hw : Region.wanted o (yielded ops a.tmps) = true := by unfold Region.wanted; rw [hgd]
  rw [if_pos hw]
  exact Lib.wp_append_run w s x t tn ho vs vx hs hx v' w' hr h
end
theorem OldNew.next {w w1 : World} {a a1 a2 : Option Addr} (h : OldNew w a a1) (hs : w.heap.size ≤ w1.heap.size) (k : OldNew w1 a1 a2) : OldNew w a a2 := by
  rcases k with k | ⟨b, k, hb⟩
  · rcases h with h | ⟨b, h, hb⟩
    · exact .inl (k.trans h)
    · exact .inr ⟨b, k.trans h, hb⟩
  · exact .inr ⟨b, k, Nat.le_trans hs hb⟩
set_option maxRecDepth 100000 in
set_option maxHeartbeats 3200000 in
theorem Lay_sheet (h : Hd) (hi : HdIn h) (hz : HdSz h) (g : Nat) (a : Option Addr) (n c : Nat) (out : List UInt8) (ad : Option Addr) (nd cd : Nat) (d : List UInt8) (w : World) (hT : Bru w) (hS : Sheet g a n c out w) (hd : ∀ w', Kp g a w w' → Bs w' ad nd cd d)
    (hn : n + nd + 2048 ≤ 140737488355328) :
    Calls Tryd.prog 64 #[.pointer (some ⟨g, 0, none⟩), .agg (hdC h), .slice ad nd cd] w fun e w' => e = .returned (.tuple #[]) ∧ ∃ a' n' c', Sheet g a' n' c' (out ++ Plain.laid h d) w' ∧ Kp g a w w' ∧ OldNew w a a' := by
  obtain rfl : nd = d.length := (hd w (Kp.refl _ _ _)).len.symm
  have hi1 : HdIn { h with size := (d.length : Int) } := { hi with size := (inI64_iff _).2 (by simp only; omega) }
  have hz1 : HdSz { h with size := (d.length : Int) } := { hz with }
  have HMK := Lib.hid (fun w hT => HMake_any { h with size := (d.length : Int) } hi1 hz1 w hT)
  have hlen := make_len _ hi1
  have hlaid : Plain.laid h d = (Plain.make { h with size := (d.length : Int) }).1 ++ d ++ List.replicate (Plain.pad d.length).toNat 0 := rfl
  have HIb := Lib.hid (sizeBlk _ hlen); have HOb := Lib.hid (rowA_one (Plain.make { h with size := (d.length : Int) }).1)
  have HSb : Hid ((rowA zblk).size = (rowA (Plain.make { h with size := (d.length : Int) }).1).size) := by show _ = _; rw [rowA_size, rowA_size, zblk_len, hlen]
  generalize Plain.make { h with size := (d.length : Int) } = r at *
  obtain ⟨bl, code⟩ := r
  simp only at hlaid hlen
  generalize Plain.laid h d = LD at *
  have HLD := Lib.hid hlaid; have HLEN := Lib.hid hlen; 
  have HZ47 := Lib.hid zeroBlk
  have HIx := Lib.hid (hdInfo { h with size := (d.length : Int) })
  have HT := Lib.hid hT; have HS := Lib.hid hS; have HD := Lib.hid hd; have HNN := Lib.hid hn
  clear hT hS hd hi hz hi1 hz1 hlaid hlen
  have hb0 := (Below.refl w.heap.size w).alloc (Nat.le_refl _) (.cells (hdC h) 43)
  have hrow : (w.alloc (.cells (hdC h) 43)).heap[w.heap.size]? = some (.cells (hdC h) 43 (0, 0)) := heap_alloc_new w _
  have HB0 := Lib.hid hb0; have HROW := Lib.hid hrow
  clear hb0 hrow
  go_enter Tryd.func64, Tryd.ntmps64
  go_upto_region 1 with (with_reducible refine wpList_box_agg rfl _ _ rfl (hdC h) rfl ?_)
  generalize w.alloc (.cells (hdC h) 43) = w0 at *
  have hc5 : w0.cell? ⟨w.heap.size, 5, none⟩ = some (.int .i64 h.size) := by rw [cell_of_row _ _ _ _ _ _ HROW.out]; rfl
  have hf5 : w0.frozen? ⟨w.heap.size, 5, none⟩ = false := frozen_of_row _ _ _ _ _ HROW.out
  have HB1 : Hid (Below w.heap.size w (w0.setCell ⟨w.heap.size, 5, none⟩ (.int .i64 (d.length : Int)))) := Lib.hid (HB0.out.setCell (Nat.le_refl _) _)
  have HR1 : Hid ((w0.setCell ⟨w.heap.size, 5, none⟩ (.int .i64 (d.length : Int))).heap[w.heap.size]? = some (.cells (hdC { h with size := (d.length : Int) }) 43 (0, 0))) := Lib.hid (by rw [heap_setCell_same _ _ _ _ _ _ HROW.out]; rfl)
  go_upto_region 2 with fail
  generalize w0.setCell ⟨w.heap.size, 5, none⟩ (.int .i64 (d.length : Int)) = w1 at *
  clear hc5 hf5 HB0 HROW
  go_upto_region 3 with (first
    | (with_reducible refine wpList_load_row rfl _ _ rfl w.heap.size rfl 43 (hdC { h with size := (d.length : Int) }) (0, 0) _ HR1.out Tryd.underlying43 rfl HIx.out ?_)
    | (go_at_call 22; (refine (HMK.out w1 (by exact HT.out.below HB1.out)).mono ?_); rintro e w2 ⟨rfl, hb2⟩; have HB2 := Lib.hid (Below.seq HB1.out hb2); clear hb2)
    | (with_reducible refine wpList_alloc_z rfl _ rfl (rowA zblk) HZ47.out ?_)
    | (with_reducible refine wpList_store_new rfl _ _ _ rfl _ rfl (rowA bl) rfl rfl HSb.out HIb.out HOb.out ?_))
  have hsh3 := HS.out.keep (Below.seq HB2.out ((Below.refl _ _).alloc (Nat.le_refl _) (.cells (rowA bl) 45)))
  have HB3 := Lib.hid (Below.seq HB2.out ((Below.refl _ _).alloc (Nat.le_refl _) (.cells (rowA bl) 45)))
  have hr3 : (w2.alloc (.cells (rowA bl) 45)).heap[w2.heap.size]? = some (.cells (rowA bl) 45 (0, 0)) := heap_alloc_new w2 _
  generalize w2.alloc (.cells (rowA bl) 45) = w3 at *
  generalize w2.heap.size = gb at *
  have hsl := run_slice_arr (P := Tryd.prog) 45 Tryd.underlying45 (by kernel_rfl) gb none none 0 512 rfl rfl (by decide) (by decide) (by decide)
  have hshd := hsh3.keep ((Below.refl _ _).drew)
  have hbs3 : Bs w3.drew (some ⟨gb, 0, none⟩) 512 512 bl := ⟨by simpa using HLEN.out, Nat.le_refl _, by decide, fun j u hj => ⟨_, rfl, by rw [Addr.add_lit, Nat.zero_add]; show w3.cell? _ = _; rw [cell_of_row _ _ _ _ _ _ hr3]; simpa [rowA] using hj⟩, fun h => by cases h⟩
  obtain ⟨a1, c1, wA, hrun, hown, hgr, hon⟩ := run_app_bs (P := Tryd.prog) w3.drew 23 23 5 Tryd.underlying23 infoU8 (g + 1) (by have := hsh3.lt; show g + 1 ≤ w3.heap.size; omega) a n c (out.map u8v) hshd.own _ 512 512 bl hbs3 (by have := HNN.out; omega)
  have hst := hshd.store hgr (out' := out ++ bl) (by rw [List.map_append]; exact hown)
  have hcg := hsh3.cell
  have hgA := hshd.there hgr
  have hfA : wA.frozen? ⟨g, 0, none⟩ = false := frozen_of_row _ _ _ _ _ hgA
  have hcA : wA.cell? ⟨g, 0, none⟩ = some (.slice a n c) := by rw [cell_of_row _ _ _ _ _ _ hgA]; rfl
  clear hgA
  have HST := Lib.hid hst; have HGR := Lib.hid hgr; have HR3 := Lib.hid hr3; have HSH3 := Lib.hid hsh3
  clear hst hgr hown hshd hsh3 hr3
  refine wp_region_held_drew (S := fun _ => True) (by kernel_rfl) trivial (fun _ => ?_)
  refine wpAnyH_take (i := 0) (oi := { dst := some 16, op := Op.move (Operand.tmp 0), type := 95, pos := "scribe.go:63", after := #[], guard := none }) (v := (.pointer (some ⟨g, 0, none⟩))) rfl (by kernel_rfl) (by kernel_rfl) (by kernel_rfl) (fun _ _ _ h => h) (Or.inl ⟨by rfl, ?_⟩) trivial ?_
  · intro wz hSw
    go_simp
  (try simp only [Act.put, List.setIfInBounds_toArray, List.set_cons_zero, List.set_cons_succ, List.toList_toArray])
  refine wpAnyH_take (i := 1) (oi := { dst := some 17, op := Op.move (Operand.tmp 0), type := 95, pos := "scribe.go:63", after := #[], guard := none }) (v := (.pointer (some ⟨g, 0, none⟩))) rfl (by kernel_rfl) (by kernel_rfl) (by kernel_rfl) (fun _ _ _ h => h) (Or.inl ⟨by rfl, ?_⟩) trivial ?_
  · intro wz hSw
    go_simp
  (try simp only [Act.put, List.setIfInBounds_toArray, List.set_cons_zero, List.set_cons_succ, List.toList_toArray])
  refine wpAnyH_take (i := 2) (oi := { dst := some 18, op := Op.nilCheck (Operand.tmp 17), type := 0, pos := "scribe.go:63", after := #[{ on := 1, ground := Ground.data }], guard := none }) (v := (.pointer (some ⟨g, 0, none⟩))) rfl (by kernel_rfl) (by kernel_rfl) (by kernel_rfl) (fun _ _ _ h => h) (Or.inl ⟨by rfl, ?_⟩) trivial ?_
  · intro wz hSw
    go_simp
  (try simp only [Act.put, List.setIfInBounds_toArray, List.set_cons_zero, List.set_cons_succ, List.toList_toArray])
  refine wpAnyH_take (i := 3) (oi := { dst := some 19, op := Op.fieldAddr 60 (Operand.tmp 18) 0, type := 0, pos := "scribe.go:63", after := #[{ on := 2, ground := Ground.data }], guard := none }) (v := (.pointer (some ⟨g, 0, none⟩))) rfl (by kernel_rfl) (by kernel_rfl) (by kernel_rfl) (fun _ _ _ h => h) (Or.inl ⟨by rfl, ?_⟩) trivial ?_
  · intro wz hSw
    go_simp
  (try simp only [Act.put, List.setIfInBounds_toArray, List.set_cons_zero, List.set_cons_succ, List.toList_toArray])
  refine wpAnyH_take (i := 5) (oi := { dst := some 21, op := Op.slice 45 (Operand.tmp 6) none none none, type := 23, pos := "scribe.go:63", after := #[], guard := none }) (v := (.slice (some ⟨gb, 0, none⟩) 512 512)) rfl (by kernel_rfl) (by kernel_rfl) (by kernel_rfl) (fun _ _ _ h => h) (Or.inl ⟨by rfl, ?_⟩) trivial ?_
  · intro wz hSw
    go_simp
  (try simp only [Act.put, List.setIfInBounds_toArray, List.set_cons_zero, List.set_cons_succ, List.toList_toArray])
  refine wpAnyH_ready (rs := [4]) (by kernel_rfl) (by simp) ?_
  refine AllReadyH.cons (o := { dst := some 20, op := Op.load 23 (Operand.tmp 19), type := 23, pos := "scribe.go:63", after := #[{ on := 3, ground := Ground.data }], guard := none }) rfl (fun K hK => ?_) AllReadyH.nil
  go_simp
  refine hK.out _ _ trivial (fun _ => ?_)
  clear hK K
  (try simp only [Act.put, List.setIfInBounds_toArray, List.set_cons_zero, List.set_cons_succ, List.toList_toArray])
  refine wpAnyH_ready (rs := [6]) (by kernel_rfl) (by simp) ?_
  refine AllReadyH.cons (o := { dst := some 22, op := Op.call { callee := Callee.builtin Builtin.append, args := #[Operand.tmp 20, Operand.tmp 21], argTypes := #[23, 23] }, type := 23, pos := "scribe.go:63", after := #[{ on := 4, ground := Ground.data }, { on := 5, ground := Ground.data }], guard := none }) rfl (fun K hK => ?_) AllReadyH.nil
  refine step_app_run rfl _ _ _ _ rfl _ _ rfl rfl _ _ hrun ?_
  refine hK.out _ _ trivial (fun _ => ?_)
  clear hK K
  (try simp only [Act.put, List.setIfInBounds_toArray, List.set_cons_zero, List.set_cons_succ, List.toList_toArray])
  refine wpAnyH_take (i := 7) (oi := { dst := some 23, op := Op.nilCheck (Operand.tmp 16), type := 0, pos := "scribe.go:63", after := #[{ on := 0, ground := Ground.data }, { on := 0, ground := Ground.phase }, { on := 1, ground := Ground.phase }, { on := 2, ground := Ground.phase }, { on := 3, ground := Ground.phase }, { on := 4, ground := Ground.phase }, { on := 5, ground := Ground.phase }, { on := 6, ground := Ground.phase }], guard := none }) (v := (.pointer (some ⟨g, 0, none⟩))) rfl (by kernel_rfl) (by kernel_rfl) (by kernel_rfl) (fun _ _ _ h => h) (Or.inl ⟨by rfl, ?_⟩) trivial ?_
  · intro wz hSw
    go_simp
  (try simp only [Act.put, List.setIfInBounds_toArray, List.set_cons_zero, List.set_cons_succ, List.toList_toArray])
  refine wpAnyH_take (i := 8) (oi := { dst := some 24, op := Op.fieldAddr 60 (Operand.tmp 23) 0, type := 0, pos := "scribe.go:63", after := #[{ on := 7, ground := Ground.data }, { on := 0, ground := Ground.phase }, { on := 1, ground := Ground.phase }, { on := 2, ground := Ground.phase }, { on := 3, ground := Ground.phase }, { on := 4, ground := Ground.phase }, { on := 5, ground := Ground.phase }, { on := 6, ground := Ground.phase }], guard := none }) (v := (.pointer (some ⟨g, 0, none⟩))) rfl (by kernel_rfl) (by kernel_rfl) (by kernel_rfl) (fun _ _ _ h => h) (Or.inl ⟨by rfl, ?_⟩) trivial ?_
  · intro wz hSw
    go_simp
  (try simp only [Act.put, List.setIfInBounds_toArray, List.set_cons_zero, List.set_cons_succ, List.toList_toArray])
  refine wpAnyH_ready (rs := [9]) (by kernel_rfl) (by simp) ?_
  refine AllReadyH.cons (o := { dst := none, op := Op.store 23 (Operand.tmp 24) (Operand.tmp 22), type := 0, pos := "scribe.go:63", after := #[{ on := 8, ground := Ground.data }, { on := 6, ground := Ground.data }, { on := 6, ground := Ground.chain }, { on := 0, ground := Ground.phase }, { on := 1, ground := Ground.phase }, { on := 2, ground := Ground.phase }, { on := 3, ground := Ground.phase }, { on := 4, ground := Ground.phase }, { on := 5, ground := Ground.phase }, { on := 6, ground := Ground.phase }], guard := none }) rfl (fun K hK => ?_) AllReadyH.nil
  go_simp
  refine hK.out _ _ trivial (fun _ => ?_)
  clear hK K
  (try simp only [Act.put, List.setIfInBounds_toArray, List.set_cons_zero, List.set_cons_succ, List.toList_toArray])
  refine wpAnyH_done (by kernel_rfl) ?_ _
  go_outline
  have hkB : Kp g a w (wA.setCell ⟨g, 0, none⟩ (.slice a1 (n + 512) c1)) := by
    have k1 : Kp g a w wA := (Kp.of_below (Below.seq HB3.out ((Below.refl _ _).drew))).trans (Kp.of_grown HGR.out) (.inl rfl)
    exact ⟨k1.os, k1.tape, k1.output, by have := k1.size; simpa using this, fun i hi hg ha => by rw [heap_setCell_other _ _ _ _ (by simpa using hg)]; exact k1.block i hi hg ha⟩
  have honB : OldNew w a a1 := hon.imp id fun ⟨b, h1, h2⟩ => ⟨b, h1, Nat.le_trans HB3.out.size h2⟩
  have HKB := Lib.hid hkB; have HONB := Lib.hid honB
  clear hkB honB hcg hfA hcA hon hrun hsl HGR HR3 HSH3 hbs3 HB3 HB2 HB1 HR1
  generalize wA.setCell ⟨g, 0, none⟩ (.slice a1 (n + 512) c1) = wB at *
  have hBc := HST.out.cell; have hBf := HST.out.free
  have hdB := HD.out wB HKB.out
  obtain ⟨a2, c2, wC, hrun4, hown4, hgr4, hon4⟩ := run_app_bs (P := Tryd.prog) wB 23 23 5 Tryd.underlying23 infoU8 (g + 1) HST.out.lt a1 (n + 512) c1 _ HST.out.own ad d.length cd d hdB (by have := HNN.out; omega)
  have hst4 := HST.out.store hgr4 (out' := (out ++ bl) ++ d) (by rw [List.map_append]; exact hown4)
  have hgC := HST.out.there hgr4
  have hfC : wC.frozen? ⟨g, 0, none⟩ = false := frozen_of_row _ _ _ _ _ hgC
  have hcC : wC.cell? ⟨g, 0, none⟩ = some (.slice a1 (n + 512) c1) := by rw [cell_of_row _ _ _ _ _ _ hgC]; rfl
  clear hgC hown4
  have HST4 := Lib.hid hst4; have HGR4 := Lib.hid hgr4
  clear hst4 hgr4
  go_upto_region 5 with (at_builtin; refine Lib.wpList_append_run wB rfl _ _ _ _ rfl _ _ rfl rfl _ _ hrun4 ?_)
  have hkD : Kp g a w (wC.setCell ⟨g, 0, none⟩ (.slice a2 (n + 512 + d.length) c2)) := by
    have k1 : Kp g a w wC := HKB.out.trans (Kp.of_grown HGR4.out) HONB.out
    exact ⟨k1.os, k1.tape, k1.output, by have := k1.size; simpa using this, fun i hi hg ha => by rw [heap_setCell_other _ _ _ _ (by simpa using hg)]; exact k1.block i hi hg ha⟩
  have honD : OldNew w a a2 := HONB.out.next HKB.out.size hon4
  have HKD := Lib.hid hkD; have HOND := Lib.hid honD
  clear hkD honD hfC hcC hon4 hrun4 HGR4 HST hBc hBf HKB HONB hdB
  generalize wC.setCell ⟨g, 0, none⟩ (.slice a2 (n + 512 + d.length) c2) = wD at *
  have hDc := HST4.out.cell; have hDf := HST4.out.free
  have hpad0 : 0 ≤ Plain.pad d.length ∧ Plain.pad d.length < 512 := by unfold Plain.pad; split <;> omega
  have HPAD := Lib.hid (fun w => Pad_any (d.length : Int) (by have := HNN.out; omega) w)
  obtain ⟨m, hm⟩ : ∃ m : Nat, Plain.pad d.length = (m : Int) := ⟨(Plain.pad d.length).toNat, by omega⟩
  rw [hm] at HPAD hpad0
  have hLD : LD = ((out ++ bl) ++ d ++ List.replicate m 0).drop out.length := by rw [HLD.out, hm]; simp
  obtain ⟨a3, c3, wE, hrun5, hown5, hgr5, hon5⟩ := run_zeros_own (P := Tryd.prog) wD.drew 23 3 23 5 .i64 Tryd.underlying23 Tryd.underlying3 infoU8 (g + 1) HST4.out.lt a2 (n + 512 + d.length) c2 _ (HST4.out.keep ((Below.refl _ _).drew)).own m (by omega) (by have := HNN.out; omega)
  have hs4d := HST4.out.keep ((Below.refl _ _).drew)
  have hst5 := hs4d.store hgr5 (out' := (out ++ bl) ++ d ++ List.replicate m 0) (by rw [List.map_append, List.map_replicate]; exact hown5)
  have hgE := hs4d.there hgr5
  have hfE : wE.frozen? ⟨g, 0, none⟩ = false := frozen_of_row _ _ _ _ _ hgE
  have hcE : wE.cell? ⟨g, 0, none⟩ = some (.slice a2 (n + 512 + d.length) c2) := by rw [cell_of_row _ _ _ _ _ _ hgE]; rfl
  have hkF : Kp g a w (wE.setCell ⟨g, 0, none⟩ (.slice a3 (n + 512 + d.length + m) c3)) := by
    have k1 : Kp g a w wE := (HKD.out.trans (Kp.of_below ((Below.refl _ _).drew)) HOND.out).trans (Kp.of_grown hgr5) HOND.out
    exact ⟨k1.os, k1.tape, k1.output, by have := k1.size; simpa using this, fun i hi hg ha => by rw [heap_setCell_other _ _ _ _ (by simpa using hg)]; exact k1.block i hi hg ha⟩
  have honF : OldNew w a a3 := HOND.out.next HKD.out.size hon5
  have HKF := Lib.hid hkF; have HON := Lib.hid honF
  have HFIN : Hid (Sheet g a3 (n + 512 + d.length + m) c3 (out ++ LD) (wE.setCell ⟨g, 0, none⟩ (.slice a3 (n + 512 + d.length + m) c3))) := Lib.hid (by
    have e : out ++ LD = (out ++ bl) ++ d ++ List.replicate m 0 := by rw [HLD.out, hm]; simp
    rw [e]; exact hst5)
  clear hgE hown5 hs4d hst5 hkF honF hon5 hgr5 HLD hLD HST4 HKD HOND
  refine wp_region_held_drew (S := fun _ => True) (by kernel_rfl) trivial (fun _ => ?_)
  refine wpAnyH_take (i := 0) (oi := { dst := some 34, op := Op.move (Operand.tmp 0), type := 95, pos := "scribe.go:65", after := #[], guard := none }) (v := (.pointer (some ⟨g, 0, none⟩))) rfl (by kernel_rfl) (by kernel_rfl) (by kernel_rfl) (fun _ _ _ h => h) (Or.inl ⟨by rfl, ?_⟩) trivial ?_
  · intro wz hSw
    go_simp
  (try simp only [Act.put, List.setIfInBounds_toArray, List.set_cons_zero, List.set_cons_succ, List.toList_toArray])
  refine wpAnyH_take (i := 1) (oi := { dst := some 35, op := Op.move (Operand.tmp 0), type := 95, pos := "scribe.go:65", after := #[], guard := none }) (v := (.pointer (some ⟨g, 0, none⟩))) rfl (by kernel_rfl) (by kernel_rfl) (by kernel_rfl) (fun _ _ _ h => h) (Or.inl ⟨by rfl, ?_⟩) trivial ?_
  · intro wz hSw
    go_simp
  (try simp only [Act.put, List.setIfInBounds_toArray, List.set_cons_zero, List.set_cons_succ, List.toList_toArray])
  refine wpAnyH_take (i := 2) (oi := { dst := some 36, op := Op.nilCheck (Operand.tmp 35), type := 0, pos := "scribe.go:65", after := #[{ on := 1, ground := Ground.data }], guard := none }) (v := (.pointer (some ⟨g, 0, none⟩))) rfl (by kernel_rfl) (by kernel_rfl) (by kernel_rfl) (fun _ _ _ h => h) (Or.inl ⟨by rfl, ?_⟩) trivial ?_
  · intro wz hSw
    go_simp
  (try simp only [Act.put, List.setIfInBounds_toArray, List.set_cons_zero, List.set_cons_succ, List.toList_toArray])
  refine wpAnyH_take (i := 3) (oi := { dst := some 37, op := Op.fieldAddr 60 (Operand.tmp 36) 0, type := 0, pos := "scribe.go:65", after := #[{ on := 2, ground := Ground.data }], guard := none }) (v := (.pointer (some ⟨g, 0, none⟩))) rfl (by kernel_rfl) (by kernel_rfl) (by kernel_rfl) (fun _ _ _ h => h) (Or.inl ⟨by rfl, ?_⟩) trivial ?_
  · intro wz hSw
    go_simp
  (try simp only [Act.put, List.setIfInBounds_toArray, List.set_cons_zero, List.set_cons_succ, List.toList_toArray])
  refine wpAnyH_take (i := 5) (oi := { dst := some 39, op := Op.move (Operand.tmp 2), type := 23, pos := "scribe.go:65", after := #[], guard := none }) (v := (.slice ad d.length cd)) rfl (by kernel_rfl) (by kernel_rfl) (by kernel_rfl) (fun _ _ _ h => h) (Or.inl ⟨by rfl, ?_⟩) trivial ?_
  · intro wz hSw
    go_simp
  (try simp only [Act.put, List.setIfInBounds_toArray, List.set_cons_zero, List.set_cons_succ, List.toList_toArray])
  refine wpAnyH_take (i := 6) (oi := { dst := some 40, op := Op.call { callee := Callee.builtin Builtin.len, args := #[Operand.tmp 39], argTypes := #[23] }, type := 3, pos := "scribe.go:65", after := #[{ on := 5, ground := Ground.data }], guard := none }) (v := (.int .i64 (d.length : Int))) rfl (by kernel_rfl) (by kernel_rfl) (by kernel_rfl) (fun _ _ _ h => h) (Or.inl ⟨by rfl, ?_⟩) trivial ?_
  · intro wz hSw
    go_simp
  (try simp only [Act.put, List.setIfInBounds_toArray, List.set_cons_zero, List.set_cons_succ, List.toList_toArray])
  refine wpAnyH_ready (rs := [4, 7]) (by kernel_rfl) (by simp) ?_
  refine AllReadyH.cons (o := { dst := some 38, op := Op.load 23 (Operand.tmp 37), type := 23, pos := "scribe.go:65", after := #[{ on := 3, ground := Ground.data }], guard := none }) rfl (fun K hK => ?_) ?_
  · skip
    go_simp
    refine hK.out _ _ trivial (fun _ => ?_)
    clear hK K
    (try simp only [Act.put, List.setIfInBounds_toArray, List.set_cons_zero, List.set_cons_succ, List.toList_toArray])
    refine wpAnyH_ready (rs := [7]) (by kernel_rfl) (by simp) ?_
    refine AllReadyH.cons (o := { dst := some 41, op := Op.call { callee := Callee.value (Operand.func 92), args := #[Operand.tmp 40], argTypes := #[3] }, type := 3, pos := "scribe.go:65", after := #[{ on := 6, ground := Ground.data }], guard := none }) rfl (fun K hK => ?_) AllReadyH.nil
    go_simp
    (go_at_call 92; refine (HPAD.out _).mono ?_; rintro e w8 ⟨rfl, hw8⟩; obtain rfl := hw8)
    (try go_wp2_with fail)
    refine hK.out _ _ trivial (fun _ => ?_)
    clear hK K
    (try simp only [Act.put, List.setIfInBounds_toArray, List.set_cons_zero, List.set_cons_succ, List.toList_toArray])
    refine wpAnyH_ready (rs := [8]) (by kernel_rfl) (by simp) ?_
    refine AllReadyH.cons (o := { dst := some 42, op := Op.call { callee := Callee.builtin Builtin.append, args := #[Operand.tmp 38, Operand.tmp 41], argTypes := #[23, 3] }, type := 23, pos := "scribe.go:65", after := #[{ on := 4, ground := Ground.data }, { on := 7, ground := Ground.data }, { on := 7, ground := Ground.chain }], guard := none }) rfl (fun K hK => ?_) AllReadyH.nil
    refine step_app_run rfl _ _ _ _ rfl _ _ rfl rfl _ _ hrun5 ?_
    refine hK.out _ _ trivial (fun _ => ?_)
    clear hK K
    (try simp only [Act.put, List.setIfInBounds_toArray, List.set_cons_zero, List.set_cons_succ, List.toList_toArray])
    refine wpAnyH_take (i := 9) (oi := { dst := some 43, op := Op.nilCheck (Operand.tmp 34), type := 0, pos := "scribe.go:65", after := #[{ on := 0, ground := Ground.data }, { on := 0, ground := Ground.phase }, { on := 1, ground := Ground.phase }, { on := 2, ground := Ground.phase }, { on := 3, ground := Ground.phase }, { on := 4, ground := Ground.phase }, { on := 5, ground := Ground.phase }, { on := 6, ground := Ground.phase }, { on := 7, ground := Ground.phase }, { on := 8, ground := Ground.phase }], guard := none }) (v := (.pointer (some ⟨g, 0, none⟩))) rfl (by kernel_rfl) (by kernel_rfl) (by kernel_rfl) (fun _ _ _ h => h) (Or.inl ⟨by rfl, ?_⟩) trivial ?_
    · intro wz hSw
      go_simp
    (try simp only [Act.put, List.setIfInBounds_toArray, List.set_cons_zero, List.set_cons_succ, List.toList_toArray])
    refine wpAnyH_take (i := 10) (oi := { dst := some 44, op := Op.fieldAddr 60 (Operand.tmp 43) 0, type := 0, pos := "scribe.go:65", after := #[{ on := 9, ground := Ground.data }, { on := 0, ground := Ground.phase }, { on := 1, ground := Ground.phase }, { on := 2, ground := Ground.phase }, { on := 3, ground := Ground.phase }, { on := 4, ground := Ground.phase }, { on := 5, ground := Ground.phase }, { on := 6, ground := Ground.phase }, { on := 7, ground := Ground.phase }, { on := 8, ground := Ground.phase }], guard := none }) (v := (.pointer (some ⟨g, 0, none⟩))) rfl (by kernel_rfl) (by kernel_rfl) (by kernel_rfl) (fun _ _ _ h => h) (Or.inl ⟨by rfl, ?_⟩) trivial ?_
    · intro wz hSw
      go_simp
    (try simp only [Act.put, List.setIfInBounds_toArray, List.set_cons_zero, List.set_cons_succ, List.toList_toArray])
    refine wpAnyH_ready (rs := [11]) (by kernel_rfl) (by simp) ?_
    refine AllReadyH.cons (o := { dst := none, op := Op.store 23 (Operand.tmp 44) (Operand.tmp 42), type := 0, pos := "scribe.go:65", after := #[{ on := 10, ground := Ground.data }, { on := 8, ground := Ground.data }, { on := 8, ground := Ground.chain }, { on := 0, ground := Ground.phase }, { on := 1, ground := Ground.phase }, { on := 2, ground := Ground.phase }, { on := 3, ground := Ground.phase }, { on := 4, ground := Ground.phase }, { on := 5, ground := Ground.phase }, { on := 6, ground := Ground.phase }, { on := 7, ground := Ground.phase }, { on := 8, ground := Ground.phase }], guard := none }) rfl (fun K hK => ?_) AllReadyH.nil
    go_simp
    refine hK.out _ _ trivial (fun _ => ?_)
    clear hK K
    (try simp only [Act.put, List.setIfInBounds_toArray, List.set_cons_zero, List.set_cons_succ, List.toList_toArray])
    refine wpAnyH_done (by kernel_rfl) ?_ _
    go_end0
    exact ⟨rfl, _, _, _, HFIN.out, HKF.out, HON.out⟩
  refine AllReadyH.cons (o := { dst := some 41, op := Op.call { callee := Callee.value (Operand.func 92), args := #[Operand.tmp 40], argTypes := #[3] }, type := 3, pos := "scribe.go:65", after := #[{ on := 6, ground := Ground.data }], guard := none }) rfl (fun K hK => ?_) AllReadyH.nil
  go_simp
  (go_at_call 92; refine (HPAD.out _).mono ?_; rintro e w8 ⟨rfl, hw8⟩; obtain rfl := hw8)
  (try go_wp2_with fail)
  refine hK.out _ _ trivial (fun _ => ?_)
  clear hK K
  (try simp only [Act.put, List.setIfInBounds_toArray, List.set_cons_zero, List.set_cons_succ, List.toList_toArray])
  refine wpAnyH_ready (rs := [4]) (by kernel_rfl) (by simp) ?_
  refine AllReadyH.cons (o := { dst := some 38, op := Op.load 23 (Operand.tmp 37), type := 23, pos := "scribe.go:65", after := #[{ on := 3, ground := Ground.data }], guard := none }) rfl (fun K hK => ?_) AllReadyH.nil
  go_simp
  refine hK.out _ _ trivial (fun _ => ?_)
  clear hK K
  (try simp only [Act.put, List.setIfInBounds_toArray, List.set_cons_zero, List.set_cons_succ, List.toList_toArray])
  refine wpAnyH_ready (rs := [8]) (by kernel_rfl) (by simp) ?_
  refine AllReadyH.cons (o := { dst := some 42, op := Op.call { callee := Callee.builtin Builtin.append, args := #[Operand.tmp 38, Operand.tmp 41], argTypes := #[23, 3] }, type := 23, pos := "scribe.go:65", after := #[{ on := 4, ground := Ground.data }, { on := 7, ground := Ground.data }, { on := 7, ground := Ground.chain }], guard := none }) rfl (fun K hK => ?_) AllReadyH.nil
  refine step_app_run rfl _ _ _ _ rfl _ _ rfl rfl _ _ hrun5 ?_
  refine hK.out _ _ trivial (fun _ => ?_)
  clear hK K
  (try simp only [Act.put, List.setIfInBounds_toArray, List.set_cons_zero, List.set_cons_succ, List.toList_toArray])
  refine wpAnyH_take (i := 9) (oi := { dst := some 43, op := Op.nilCheck (Operand.tmp 34), type := 0, pos := "scribe.go:65", after := #[{ on := 0, ground := Ground.data }, { on := 0, ground := Ground.phase }, { on := 1, ground := Ground.phase }, { on := 2, ground := Ground.phase }, { on := 3, ground := Ground.phase }, { on := 4, ground := Ground.phase }, { on := 5, ground := Ground.phase }, { on := 6, ground := Ground.phase }, { on := 7, ground := Ground.phase }, { on := 8, ground := Ground.phase }], guard := none }) (v := (.pointer (some ⟨g, 0, none⟩))) rfl (by kernel_rfl) (by kernel_rfl) (by kernel_rfl) (fun _ _ _ h => h) (Or.inl ⟨by rfl, ?_⟩) trivial ?_
  · intro wz hSw
    go_simp
  (try simp only [Act.put, List.setIfInBounds_toArray, List.set_cons_zero, List.set_cons_succ, List.toList_toArray])
  refine wpAnyH_take (i := 10) (oi := { dst := some 44, op := Op.fieldAddr 60 (Operand.tmp 43) 0, type := 0, pos := "scribe.go:65", after := #[{ on := 9, ground := Ground.data }, { on := 0, ground := Ground.phase }, { on := 1, ground := Ground.phase }, { on := 2, ground := Ground.phase }, { on := 3, ground := Ground.phase }, { on := 4, ground := Ground.phase }, { on := 5, ground := Ground.phase }, { on := 6, ground := Ground.phase }, { on := 7, ground := Ground.phase }, { on := 8, ground := Ground.phase }], guard := none }) (v := (.pointer (some ⟨g, 0, none⟩))) rfl (by kernel_rfl) (by kernel_rfl) (by kernel_rfl) (fun _ _ _ h => h) (Or.inl ⟨by rfl, ?_⟩) trivial ?_
  · intro wz hSw
    go_simp
  (try simp only [Act.put, List.setIfInBounds_toArray, List.set_cons_zero, List.set_cons_succ, List.toList_toArray])
  refine wpAnyH_ready (rs := [11]) (by kernel_rfl) (by simp) ?_
  refine AllReadyH.cons (o := { dst := none, op := Op.store 23 (Operand.tmp 44) (Operand.tmp 42), type := 0, pos := "scribe.go:65", after := #[{ on := 10, ground := Ground.data }, { on := 8, ground := Ground.data }, { on := 8, ground := Ground.chain }, { on := 0, ground := Ground.phase }, { on := 1, ground := Ground.phase }, { on := 2, ground := Ground.phase }, { on := 3, ground := Ground.phase }, { on := 4, ground := Ground.phase }, { on := 5, ground := Ground.phase }, { on := 6, ground := Ground.phase }, { on := 7, ground := Ground.phase }, { on := 8, ground := Ground.phase }], guard := none }) rfl (fun K hK => ?_) AllReadyH.nil
  go_simp
  refine hK.out _ _ trivial (fun _ => ?_)
  clear hK K
  (try simp only [Act.put, List.setIfInBounds_toArray, List.set_cons_zero, List.set_cons_succ, List.toList_toArray])
  refine wpAnyH_done (by kernel_rfl) ?_ _
  go_end0
  exact ⟨rfl, _, _, _, HFIN.out, HKF.out, HON.out⟩
end Go.Proofs.YtamgiffkhnfpmaaDoor
