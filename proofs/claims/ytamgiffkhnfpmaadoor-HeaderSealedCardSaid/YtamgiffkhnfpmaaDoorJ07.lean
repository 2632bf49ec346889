/-
  J07: HdrSplit, HdrForms, HdrLaws, HdrRound, HdrSealed, DoorBru, joined.
-/
import Derived.Test.YtamgiffkhnfpmaaDoorJ02
import Derived.Test.YtamgiffkhnfpmaaDoorJ03
import Derived.Test.YtamgiffkhnfpmaaDoorHdrGood
import Derived.Test.YtamgiffkhnfpmaaDoorHdrRef
import Derived.Test.YtamgiffkhnfpmaaDoorJ04
import Derived.Test.YtamgiffkhnfpmaaDoorHdrMkWalk
import Derived.Test.YtamgiffkhnfpmaaDoorJ01
namespace Go.Proofs.YtamgiffkhnfpmaaDoor
set_option linter.unusedVariables false
set_option linter.unusedSimpArgs false
open Go.ChangeShapes Go.WideShapes Go.ChangeAt Go.RowKit
/-- the stroke as the loop finds it -/
def strokeAt (l : List UInt8) (j : Nat) : Prop := l.getD j 0 = 47 ∧ l.length - j - 1 ≤ 100
def AtI (l : List UInt8) (k : Nat) (A : Int) : Prop :=
  (A = -1 ∧ ∀ j, 1 ≤ j → j < k → ¬ strokeAt l j) ∨ (∃ m : Nat, A = m ∧ 1 ≤ m ∧ m < k ∧ strokeAt l m ∧ ∀ j, m < j → j < k → ¬ strokeAt l j)
theorem AtI.start (l : List UInt8) : AtI l 1 (-1) := .inl ⟨rfl, fun j h1 h2 => by omega⟩
theorem AtI.yes {l : List UInt8} {k : Nat} {A : Int} (h : AtI l k A) (hk : 1 ≤ k) (hs : strokeAt l k) : AtI l (k + 1) k := .inr ⟨k, rfl, hk, by omega, hs, fun j h1 h2 => by omega⟩
theorem AtI.no {l : List UInt8} {k : Nat} {A : Int} (h : AtI l k A) (hs : ¬ strokeAt l k) : AtI l (k + 1) A := by
  rcases h with ⟨h1, h2⟩ | ⟨m, h1, h2, h3, h4, h5⟩
  · exact .inl ⟨h1, fun j a b => by
      by_cases e : j = k
      · subst e; exact hs
      · exact h2 j a (by omega)⟩
  · exact .inr ⟨m, h1, h2, by omega, h4, fun j a b => by
      by_cases e : j = k
      · subst e; exact hs
      · exact h5 j a (by omega)⟩
theorem AtI.bd {l : List UInt8} {k : Nat} {A : Int} (h : AtI l k A) : -1 ≤ A ∧ A < k := by
  rcases h with ⟨h1, h2⟩ | ⟨m, h1, h2, h3, _⟩ <;> omega
theorem AtI.fin {l : List UInt8} {A : Int} (hl : 100 < l.length) (h : AtI l (min 156 (l.length - 1)) A) :
    (A = -1 ∧ (Plain.stroke l < 1 ∨ 100 < (l.length : Int) - Plain.stroke l - 1)) ∨ (1 ≤ A ∧ A = Plain.stroke l ∧ ¬ Plain.stroke l < 1 ∧ ¬ 100 < (l.length : Int) - Plain.stroke l - 1) := by
  have hst := Plain.stroke_spec l
  rcases h with ⟨h1, h2⟩ | ⟨m, h1, h2, h3, h4, h5⟩
  · left
    refine ⟨h1, ?_⟩
    rcases hst with ⟨hs, _⟩ | ⟨i, hi, hs, h47, _⟩
    · left; omega
    · by_cases hi0 : i < 1
      · left; omega
      · right
        have := h2 i (by omega) hi
        unfold strokeAt at this
        have h3 : ¬ (l.length - i - 1 ≤ 100) := fun h => this ⟨h47, h⟩
        omega
  · right
    obtain ⟨h47, h100⟩ := h4
    rcases hst with ⟨hs, hn⟩ | ⟨i, hi, hs, hi47, hn⟩
    · exact absurd h47 (hn m h3)
    · have hmi : m = i := by
        by_cases hlt : m < i
        · exact absurd ⟨hi47, by omega⟩ (h5 i hlt hi)
        · by_cases hgt : i < m
          · exact absurd h47 (hn m hgt h3)
          · omega
      subst hmi
      refine ⟨by omega, by omega, by omega, by omega⟩
theorem nulB_iff (l : List UInt8) : decide ((0 : UInt8) ∈ l) = decide (0 ≤ Lib.indexByte l 0) := by
  rw [decide_eq_decide]
  constructor
  · intro h
    rcases Int.lt_or_le (Lib.indexByte l 0) 0 with h0 | h0
    · exfalso
      obtain ⟨k, hk, he⟩ := List.getElem_of_mem h
      exact Plain.indexByte_none l h0 k hk (by simp [List.getD, List.getElem?_eq_getElem hk, he])
    · exact h0
  · intro h
    obtain ⟨j, hj, h0⟩ := Plain.indexByte_some l h
    have : l[j] = 0 := by simpa [List.getD, List.getElem?_eq_getElem hj] using h0
    rw [← this]; exact List.getElem_mem hj
end Go.Proofs.YtamgiffkhnfpmaaDoor
namespace Go.Proofs.YtamgiffkhnfpmaaDoor
set_option linter.unusedVariables false
set_option linter.unusedSimpArgs false
def z8 : List UInt8 := [0, 0, 0, 0, 0, 0, 0, 0]
/-- the magic wiped, sealed anew -/
def wiped (l : List UInt8) : List UInt8 := Plain.seal (lay l 257 z8)
theorem wiped_fld (l : List UInt8) (hl : l.length = 512) (s e : Nat) (he : e ≤ 512) (h1 : e ≤ 148 ∨ 156 ≤ s) (h2 : e ≤ 257 ∨ 265 ≤ s) : fld (wiped l) s e = fld l s e := by
  have hl2 : (lay l 257 z8).length = 512 := by rw [lay_len _ _ _ (by rw [hl]; decide), hl]
  unfold wiped
  rw [seal_lay, fld_lay _ _ _ _ _ (by rw [sealRow_len, hl2]; decide) (by omega) (by rw [sealRow_len]; omega), fld_lay _ _ _ _ _ (by rw [hl]; decide) (by omega) h2]
theorem wiped_read (l : List UInt8) (hl : l.length = 512) (h : (Plain.hread l).2 = 0) :
    (Plain.hread (wiped l)).2 = 0 ∧ (Plain.hread (wiped l)).1.form = 1 ∧ (¬ ((Plain.hread l).1.form = 2 ∧ l.getD 345 0 ≠ 0) →
      (Plain.hread (wiped l)).1 = { (Plain.hread l).1 with form := 1, user := [], group := [], major := 0, minor := 0 }) := by
  have hl2 : (lay l 257 z8).length = 512 := by rw [lay_len _ _ _ (by rw [hl]; decide), hl]
  have hsl := seal_len _ hl2
  have hsd := seal_sealed _ hl2
  have f0 := wiped_fld l hl 0 100 (by decide) (by decide) (by decide)
  have f1 := wiped_fld l hl 100 108 (by decide) (by decide) (by decide)
  have f2 := wiped_fld l hl 108 116 (by decide) (by decide) (by decide)
  have f3 := wiped_fld l hl 116 124 (by decide) (by decide) (by decide)
  have f4 := wiped_fld l hl 124 136 (by decide) (by decide) (by decide)
  have f5 := wiped_fld l hl 136 148 (by decide) (by decide) (by decide)
  have f7 := wiped_fld l hl 156 157 (by decide) (by decide) (by decide)
  have f8 := wiped_fld l hl 157 257 (by decide) (by decide) (by decide)
  have f9 : fld (wiped l) 257 265 = z8 := by
    unfold wiped
    rw [seal_lay, fld_lay _ _ _ _ _ (by rw [sealRow_len, hl2]; decide) (by omega) (by rw [sealRow_len]; omega)]
    exact fld_lay_in l 257 z8 265 (by rw [hl]; decide) rfl
  have f6 : (wiped l).getD 148 0 = (octRow (Plain.sum uby (lay l 257 z8)).toNat 6 ++ [0, 32]).getD 0 0 := by
    unfold wiped
    rw [seal_lay, lay_getD _ _ _ (by rw [sealRow_len, hl2]; decide), sealRow_len, if_pos (by decide)]
  have hz : ¬ wiped l = zblk := by
    intro e
    rw [e] at f6
    have h0 : zblk.getD 148 0 = 0 := by decide +kernel
    have h48 : ((octRow (Plain.sum uby (lay l 257 z8)).toNat 6 ++ [0, 32]).getD 0 0) = octDig (Plain.sum uby (lay l 257 z8)).toNat 5 := by
      unfold octRow; rw [placeRow_succ]; rfl
    rw [h0, h48] at f6
    have := (isOct_iff _).1 (octDig_oct (Plain.sum uby (lay l 257 z8)).toNat 5)
    rw [← f6] at this
    simp at this
  have ht : (wiped l).getD 156 0 = l.getD 156 0 := by
    have a := fld_getD (wiped l) 156 157 0 (by decide)
    have b := fld_getD l 156 157 0 (by decide)
    rw [f7] at a
    exact a.symm.trans b
  have hty : tyOf (wiped l) = tyOf l := by unfold tyOf; rw [ht]
  have hform : formOf (wiped l) = 1 := by unfold formOf; rw [f9, if_neg (by decide), if_neg (by decide)]
  have hdev : isDev (wiped l) = false := by unfold isDev; rw [hform]; simp
  have n1 : numAt (wiped l) 100 108 = numAt l 100 108 := by unfold numAt; rw [f1]
  have n2 : numAt (wiped l) 108 116 = numAt l 108 116 := by unfold numAt; rw [f2]
  have n3 : numAt (wiped l) 116 124 = numAt l 116 124 := by unfold numAt; rw [f3]
  have n4 : numAt (wiped l) 124 136 = numAt l 124 136 := by unfold numAt; rw [f4]
  have n5 : numAt (wiped l) 136 148 = numAt l 136 148 := by unfold numAt; rw [f5]
  unfold Plain.hread at h
  by_cases c1 : l = zblk
  · rw [if_pos c1] at h; cases h
  · rw [if_neg c1] at h
    by_cases c2 : Plain.sealed l = false
    · rw [if_pos c2] at h; cases h
    · rw [if_neg c2] at h
      by_cases c3 : numsOk l = false
      · rw [if_pos c3] at h; cases h
      · have e1 : Plain.hread l = (hdOf l, 0) := by unfold Plain.hread; rw [if_neg c1, if_neg c2, if_neg c3]
        have c4 : ¬ numsOk (wiped l) = false := by
          intro e
          apply c3
          unfold numsOk at e ⊢
          rw [n1, n2, n3, n4, n5, hdev] at e
          rw [Bool.not_false, Bool.true_or, Bool.and_true] at e
          rw [e, Bool.false_and]
        have e2 : Plain.hread (wiped l) = (hdOf (wiped l), 0) := by
          unfold Plain.hread; rw [if_neg hz, if_neg (by unfold wiped; rw [hsd]; decide), if_neg c4]
        rw [e1, e2]
        refine ⟨rfl, hform, fun hn => ?_⟩
        have hname : nameOf (wiped l) = nameOf l := by
          unfold nameOf
          rw [hform, f0, if_neg (by rintro ⟨a, _⟩; cases a), if_neg]
          rintro ⟨a, b⟩
          refine hn ⟨a, fun e => b ?_⟩
          have hg := fld_getD l 345 500 0 (by decide)
          rw [Nat.add_zero, e] at hg
          have hlen := fld_len l 345 500 (by omega)
          cases hq : fld l 345 500 with
          | nil => rfl
          | cons c r =>
            rw [hq] at hg
            simp at hg
            exact Plain.text_zero c r hg
        unfold hdOf
        simp only [hname, f8, n1, n2, n3, n4, n5, hty, hform, hdev, if_true, Bool.false_eq_true, if_false]
end Go.Proofs.YtamgiffkhnfpmaaDoor
namespace Go.Proofs.YtamgiffkhnfpmaaDoor
set_option linter.unusedVariables false
set_option linter.unusedSimpArgs false
open Go.ChangeShapes Go.WideShapes Go.ChangeAt Go.RowKit
theorem HRead_any (l : List UInt8) (hl : l.length = 512) (w : World) (ev : Value) (hE : ErrIs w ev) :
    Calls Tryd.prog 26 #[.agg (rowA l)] w fun e w' => e = .returned (hdRes (Plain.hread l)) ∧ Below w.heap.size w w' := by
  by_cases hz : l = zblk
  · exact HRead_no l hl w ev hE (.inl hz)
  · by_cases hs : Plain.sealed l = false
    · exact HRead_no l hl w ev hE (.inr hs)
    · exact HRead_good l hl w ev hE hz (by simpa using hs)
set_option maxRecDepth 100000 in
theorem eqIn_hd (x : Hd) (w : World) : (Op.equalIn 10000 43 (.agg (hdC x)) (.agg (hdC x))).run Tryd.prog w = .ok true w := by
  rw [run_equalIn_agg w 9999 43 _ _ (by kernel_rfl) (by kernel_rfl)]
  have hs : ∀ (d : Nat) (a b : ByteArray), (Op.equalIn (d + 1) 9 (.string a) (.string b)).run Tryd.prog w = .ok (a.toList == b.toList) w := fun d a b => run_equalIn_string w d 9 a b Tryd.underlying9
  have hi : ∀ (d : Nat) (a b : Int), (Op.equalIn (d + 1) 3 (.int .i64 a) (.int .i64 b)).run Tryd.prog w = .ok (a == b) w := fun d a b => run_equalIn_int w d 3 .i64 .i64 a b Tryd.underlying3
  have hu : ∀ (d : Nat) (a b : Int), (Op.equalIn (d + 1) 5 (.int .u8 a) (.int .u8 b)).run Tryd.prog w = .ok (a == b) w := fun d a b => run_equalIn_int w d 5 .u8 .u8 a b Tryd.underlying5
  have ps : ∀ (cs : Array Value) (k : Nat) (v : Value), cs[k]? = some v → (part 9 cs k).run Tryd.prog w = .ok v w := fun cs k v h => by simp [part, isAgg, run_underlying Tryd.underlying9, h]
  have pi : ∀ (cs : Array Value) (k : Nat) (v : Value), cs[k]? = some v → (part 3 cs k).run Tryd.prog w = .ok v w := fun cs k v h => by simp [part, isAgg, run_underlying Tryd.underlying3, h]
  have pu : ∀ (cs : Array Value) (k : Nat) (v : Value), cs[k]? = some v → (part 5 cs k).run Tryd.prog w = .ok v w := fun cs k v h => by simp [part, isAgg, run_underlying Tryd.underlying5, h]
  have p0 := ps (hdC x) 0 (.string ⟨x.name.toArray⟩) rfl
  have p1 := ps (hdC x) 1 (.string ⟨x.link.toArray⟩) rfl
  have p2 := pi (hdC x) 2 (.int .i64 x.mode) rfl
  have p3 := pi (hdC x) 3 (.int .i64 x.uid) rfl
  have p4 := pi (hdC x) 4 (.int .i64 x.gid) rfl
  have p5 := pi (hdC x) 5 (.int .i64 x.size) rfl
  have p6 := pi (hdC x) 6 (.int .i64 x.mtime) rfl
  have p7 := pu (hdC x) 7 (.int .u8 (x.ty.toNat : Int)) rfl
  have p8 := ps (hdC x) 8 (.string ⟨x.user.toArray⟩) rfl
  have p9 := ps (hdC x) 9 (.string ⟨x.group.toArray⟩) rfl
  have p10 := pi (hdC x) 10 (.int .i64 x.major) rfl
  have p11 := pi (hdC x) 11 (.int .i64 x.minor) rfl
  have p12 := pi (hdC x) 12 (.int .i64 x.form) rfl
  clear ps pi pu
  generalize hdC x = C at *
  simp [Program.fieldsOf, Tryd.underlying43, Op.eqFields, p0, p1, p2, p3, p4, p5, p6, p7, p8, p9, p10, p11, p12, hs 9998, hi 9998, hu 9998]
theorem eql_hd (x : Hd) (w : World) : (binOp .eql 43 (.agg (hdC x)) (.agg (hdC x))).run Tryd.prog w = .ok (.bool true) w := by
  rw [run_eql_struct, eqIn_hd]; rfl
theorem zeroHd : (Tryd.prog.info? 43).bind (·.zero) = some (.agg (hdC Hd.zero)) := by kernel_rfl
theorem guardHd : Tryd.prog.eqGuardType Tryd.prog.depth 43 = false := by kernel_rfl
def oneL : List UInt8 := [111, 110, 101]
theorem alive_read : (Plain.hread (Plain.seal (ofL oneL))).2 = 0 ∧ (Plain.hread (Plain.seal (ofL oneL))).1.name = oneL ∧ (Plain.hread (Plain.seal (ofL oneL))).1.ty = 48 ∧ (Plain.hread (Plain.seal (ofL oneL))).1.form = 1 := by decide +kernel
set_option maxRecDepth 100000 in
set_option maxHeartbeats 1600000 in
theorem Alive4_any (w : World) (ev : Value) (hE : ErrIs w ev) (hT : Bru w) : Calls Tryd.prog 21 #[] w fun e w' => e = .returned (.bool true) ∧ Below w.heap.size w w' := by
  have hv := alive_read
  have hm := ofL_len oneL
  have HS := Lib.hid (fun w hT => Seal_any (ofL oneL) hm w hT)
  have HR := Lib.hid (fun w hE => HRead_any (Plain.seal (ofL oneL)) (seal_len _ hm) w ev hE)
  have hb := (Below.refl w.heap.size w).alloc (Nat.le_refl _) (.cells #[.int .u8 111, .int .u8 110, .int .u8 101] 5 (3, 4))
  have HBS : Hid (Bs (w.alloc (.cells #[.int .u8 111, .int .u8 110, .int .u8 101] 5 (3, 4))) (some ⟨w.heap.size, 0, none⟩) 3 3 oneL) := Lib.hid (isSl_mark w 5 1 3 #[.int .u8 111, .int .u8 110, .int .u8 101] _ rfl (by unfold maxLen; omega))
  have HO := Lib.hid (fun (wx : World) (h : Bs wx (some ⟨w.heap.size, 0, none⟩) 3 3 oneL) => Of4_any _ 3 3 oneL wx h)
  generalize Plain.hread (Plain.seal (ofL oneL)) = r at *
  generalize Plain.seal (ofL oneL) = s at *
  generalize ofL oneL = m at *
  obtain ⟨x, r2⟩ := r
  obtain ⟨e1, e2, e3, e4⟩ := hv
  simp only at e1 e2 e3 e4
  have HB := Lib.hid hb; have HE := Lib.hid hE; have HT := Lib.hid hT
  subst e1
  have hc0 : (hdC x)[0]? = some (.string ⟨#[111, 110, 101]⟩) := by
    have : (hdC x)[0]? = some (.string ⟨x.name.toArray⟩) := rfl
    rw [this, e2]; rfl
  have hc7 : (hdC x)[7]? = some (.int .u8 48) := by
    have : (hdC x)[7]? = some (.int .u8 (x.ty.toNat : Int)) := rfl
    rw [this, e3]; rfl
  have hc12 : (hdC x)[12]? = some (.int .i64 1) := by
    have : (hdC x)[12]? = some (.int .i64 x.form) := rfl
    rw [this, e4]
  have HZ := Lib.hid zeroHd
  have HI := Lib.hid (hdInfo x); have HOC := Lib.hid (hdC_one x); have HSZ : Hid ((hdC Hd.zero).size = (hdC x).size) := Lib.hid rfl
  unfold hdRes at HR
  simp only at HR
  generalize hdC x = C at *
  have C0 := Lib.hid hc0; have C7 := Lib.hid hc7; have C12 := Lib.hid hc12
  clear hb hE hT hm e2 e3 e4 hc0 hc7 hc12
  have kc := fun (w : World) (C : Array Value) (n c : Nat) => Lib.run_convert_bytes_const (P := Tryd.prog) w 23 5 C n c Tryd.underlying23 Tryd.underlying5
  go_enter Tryd.func21, Tryd.ntmps21
  go_wp2_with fail
  refine (HO.out _ (by exact HBS.out)).mono ?_; rintro e w1 ⟨rfl, hb1⟩; have HB1 := Lib.hid (Below.seq HB.out hb1); clear hb1
  go_wp2_with fail
  refine (HS.out w1 (by exact HT.out.below HB1.out)).mono ?_; rintro e w2 ⟨rfl, hb2⟩; have HB2 := Lib.hid (Below.seq HB1.out hb2); clear hb2
  go_wp2_with fail
  refine (HR.out w2 (by exact HE.out.below HB2.out)).mono ?_; rintro e w3 ⟨rfl, hb3⟩; have HB3 := Lib.hid (Below.seq HB2.out hb3); clear hb3
  have hrow : (w3.alloc (.cells C 43)).heap[w3.heap.size]? = some (.cells C 43 (0, 0)) := heap_alloc_new w3 _
  have hc0 : (w3.alloc (.cells C 43)).cell? ⟨w3.heap.size, 0, none⟩ = some (.string ⟨#[111, 110, 101]⟩) := by rw [cell_of_row _ _ _ _ _ _ hrow]; exact C0.out
  have hc7 : (w3.alloc (.cells C 43)).cell? ⟨w3.heap.size, 7, none⟩ = some (.int .u8 48) := by rw [cell_of_row _ _ _ _ _ _ hrow]; exact C7.out
  have hc12 : (w3.alloc (.cells C 43)).cell? ⟨w3.heap.size, 12, none⟩ = some (.int .i64 1) := by rw [cell_of_row _ _ _ _ _ _ hrow]; exact C12.out
  have HB4 := Lib.hid (HB3.out.alloc HB3.out.size (.cells C 43))
  clear hrow
  go_upto_region 2 with (first
    | (with_reducible refine wpList_alloc_z rfl _ rfl (hdC Hd.zero) HZ.out ?_)
    | (with_reducible refine wpList_store_new rfl _ _ _ rfl _ rfl C rfl rfl HSZ.out HI.out HOC.out ?_))
  generalize w3.alloc (.cells C 43) = w4 at *
  generalize w3.heap.size = g at *
  go_wp2
  go_ret
  exact ⟨ret_bool (by rfl), HB4.out⟩
/-- a header in a block of its own -/
structure HdAt (g : Nat) (C : Array Value) (wr : World) : Prop where
  row : wr.heap[g]? = some (.cells C 43 (0, 0))
theorem HdAt.keep {g : Nat} {C : Array Value} {wr w' : World} (h : HdAt g C wr) (k : Below wr.heap.size wr w') : HdAt g C w' := ⟨by rw [k.block _ (Array.getElem?_eq_some_iff.1 h.row).1]; exact h.row⟩
theorem HdAt.new (w : World) (C : Array Value) : HdAt w.heap.size C (w.alloc (.cells C 43)) := ⟨heap_alloc_new w _⟩
end Go.Proofs.YtamgiffkhnfpmaaDoor
namespace Go.Proofs.YtamgiffkhnfpmaaDoor
set_option linter.unusedVariables false
set_option linter.unusedSimpArgs false
open Go.ChangeShapes Go.WideShapes Go.ChangeAt Go.RowKit
section
variable {P : Program} {ops : Array Oper} {rest : List Oper} {o : Oper} {a : Act} {w : World} {Q : Exit → Act → World → Prop}
/-- a guarded load of an aggregate -/
theorem wpList_load_row_h (hw : Region.wanted o (yielded ops a.tmps) = true) (ty : TypeId) (x : Operand) (ho : o.op = .load ty x)
    (g : Nat) (hx : a.eval x = .pointer (some ⟨g, 0, none⟩)) (t : TypeId) (cs : Array Value) (fr : Nat × Nat) (d : TypeDesc) (hg : w.heap[g]? = some (.cells cs t fr))
    (hu : P.underlying ty = some d) (hd : (match d with | .struct _ | .array _ _ => true | _ => false) = true) (hi : (P.info? ty).map (·.size) = some cs.size)
    (h : wpList P ops Q rest (a.put o.dst (.agg cs)) w) : wpList P ops Q (o :: rest) a w :=
  wpList_step fun _ hK => by rw [if_pos hw]; exact wp_load_row ty x ho g hx t cs fr d hg hu hd hi (hK _ _ h)
end
/-- the argument's variable -/
structure HB (w : World) (x : Hd) (wr : World) : Prop where
  bel : Below w.heap.size w wr
  row : wr.heap[w.heap.size]? = some (.cells (hdC x) 43 (0, 0))
theorem HB.new (w : World) (x : Hd) : HB w x (w.alloc (.cells (hdC x) 43)) := ⟨(Below.refl _ _).alloc (Nat.le_refl _) _, heap_alloc_new w _⟩
theorem HB.keep {w wr w' : World} {x : Hd} (h : HB w x wr) (k : Below wr.heap.size wr w') : HB w x w' := ⟨Below.seq h.bel k, by rw [k.block _ (Array.getElem?_eq_some_iff.1 h.row).1]; exact h.row⟩
theorem HB.cell {w wr : World} {x : Hd} (h : HB w x wr) (k : Nat) : wr.cell? ⟨w.heap.size, k, none⟩ = (hdC x)[k]? := by rw [cell_of_row _ _ _ _ _ _ h.row]
theorem HB.free {w wr : World} {x : Hd} (h : HB w x wr) (k : Nat) : wr.frozen? ⟨w.heap.size, k, none⟩ = false := frozen_of_row _ _ _ _ _ h.row
theorem HB.set {w wr : World} {x x' : Hd} (h : HB w x wr) (k : Nat) (v : Value) (e : (hdC x).setIfInBounds k v = hdC x') : HB w x' (wr.setCell ⟨w.heap.size, k, none⟩ v) :=
  ⟨h.bel.setCell (show w.heap.size ≤ (⟨w.heap.size, k, none⟩ : Addr).block from Nat.le_refl _) _, by rw [heap_setCell_same _ _ _ _ _ _ h.row, e]⟩
theorem HB.lt {w wr : World} {x : Hd} (h : HB w x wr) : w.heap.size < wr.heap.size := (Array.getElem?_eq_some_iff.1 h.row).1
theorem HdAt.setFar {g : Nat} {C : Array Value} {wr : World} (h : HdAt g C wr) {b k : Nat} (v : Value) (hne : g ≠ b) : HdAt g C (wr.setCell ⟨b, k, none⟩ v) := ⟨by rw [heap_setCell_other _ _ _ _ (by simpa using hne)]; exact h.row⟩
theorem blkOf_len (h : Hd) (hi : HdIn h) (hg : goodH h = true) : (blkOf h).length = 512 := by
  obtain ⟨q1, q2, q3, q4, q5⟩ := parts_len h hg
  have l0 := bTo_len h hi 7 (by decide) ((goodH_eq h hi).1 hg).2
  rw [← bAll_eq h hi hg]
  unfold bAll
  have l1 : (lay (bTo h 7) 0 (Plain.split h.name).2.1).length = 512 := by rw [lay_len _ _ _ (by omega), l0]
  have l2 : (lay (lay (bTo h 7) 0 (Plain.split h.name).2.1) 156 [h.ty]).length = 512 := by rw [lay_len _ _ _ (by rw [l1]; simp), l1]
  have l3 : (lay (lay (lay (bTo h 7) 0 (Plain.split h.name).2.1) 156 [h.ty]) 157 h.link).length = 512 := by rw [lay_len _ _ _ (by omega), l2]
  have l4 : (lay (lay (lay (lay (bTo h 7) 0 (Plain.split h.name).2.1) 156 [h.ty]) 157 h.link) 257 magicU).length = 512 := by rw [lay_len _ _ _ (by rw [l3]; decide), l3]
  have l5 : (lay (lay (lay (lay (lay (bTo h 7) 0 (Plain.split h.name).2.1) 156 [h.ty]) 157 h.link) 257 magicU) 265 h.user).length = 512 := by rw [lay_len _ _ _ (by omega), l4]
  have l6 : (lay (lay (lay (lay (lay (lay (bTo h 7) 0 (Plain.split h.name).2.1) 156 [h.ty]) 157 h.link) 257 magicU) 265 h.user) 297 h.group).length = 512 := by rw [lay_len _ _ _ (by omega), l5]
  rw [lay_len _ _ _ (by omega), l6]
theorem make_len (h : Hd) (hi : HdIn h) : (Plain.make h).1.length = 512 := by
  unfold Plain.make
  split
  · rename_i hg; exact seal_len _ (blkOf_len h hi hg)
  · exact zblk_len
theorem ty_ne {a : UInt8} {n : Nat} (hn : n < 256) (h : a ≠ UInt8.ofNat n) : a.toNat ≠ n := fun e => h (UInt8.toNat_inj.1 (by rw [e]; simp; omega))
end Go.Proofs.YtamgiffkhnfpmaaDoor
namespace Go.Proofs.YtamgiffkhnfpmaaDoor
set_option linter.unusedVariables false
set_option linter.unusedSimpArgs false
open Go.ChangeShapes Go.WideShapes Go.ChangeAt Go.RowKit
theorem seal_getD (l : List UInt8) (hl : l.length = 512) (k : Nat) (hk : 156 ≤ k) (hk2 : k < 512) : (Plain.seal l).getD k 0 = l.getD k 0 := by
  rw [seal_lay, lay_getD _ _ _ (by rw [sealRow_len, hl]; decide), sealRow_len, if_neg (by omega)]
theorem blkOf_ty (h : Hd) (hi : HdIn h) (hg : goodH h = true) : (blkOf h).getD 156 0 = h.ty := by
  obtain ⟨q1, q2, q3, q4, q5⟩ := parts_len h hg
  have l0 := bTo_len h hi 7 (by decide) ((goodH_eq h hi).1 hg).2
  rw [← bAll_eq h hi hg]
  unfold bAll
  have l1 : (lay (bTo h 7) 0 (Plain.split h.name).2.1).length = 512 := by rw [lay_len _ _ _ (by omega), l0]
  have l2 : (lay (lay (bTo h 7) 0 (Plain.split h.name).2.1) 156 [h.ty]).length = 512 := by rw [lay_len _ _ _ (by rw [l1]; simp), l1]
  have l3 : (lay (lay (lay (bTo h 7) 0 (Plain.split h.name).2.1) 156 [h.ty]) 157 h.link).length = 512 := by rw [lay_len _ _ _ (by omega), l2]
  have l4 : (lay (lay (lay (lay (bTo h 7) 0 (Plain.split h.name).2.1) 156 [h.ty]) 157 h.link) 257 magicU).length = 512 := by rw [lay_len _ _ _ (by rw [l3]; decide), l3]
  have l5 : (lay (lay (lay (lay (lay (bTo h 7) 0 (Plain.split h.name).2.1) 156 [h.ty]) 157 h.link) 257 magicU) 265 h.user).length = 512 := by rw [lay_len _ _ _ (by omega), l4]
  have l6 : (lay (lay (lay (lay (lay (lay (bTo h 7) 0 (Plain.split h.name).2.1) 156 [h.ty]) 157 h.link) 257 magicU) 265 h.user) 297 h.group).length = 512 := by rw [lay_len _ _ _ (by omega), l5]
  rw [lay_getD _ _ _ (by omega), if_neg (by omega), lay_getD _ _ _ (by omega), if_neg (by omega), lay_getD _ _ _ (by omega), if_neg (by omega), lay_getD _ _ _ (by rw [l3]; decide), if_neg (by omega), lay_getD _ _ _ (by omega), if_neg (by omega), lay_getD _ _ _ (by rw [l1]; simp), if_pos (by simp)]
  rfl
/-- what the law says of a block that was made -/
structure MadeOk (bl : List UInt8) : Prop where
  sealed : Plain.sealed bl = true
  zero : ¬ bl = zblk
  len : bl.length = 512
  ty : Plain.sum uby bl = Plain.sum sby bl → (bl.getD 156 0).toNat < 128
  turned : Plain.sum uby bl = Plain.sum sby bl → (bl.getD 156 0).toNat + 1 < 128 → ∀ c : UInt8, c.toNat = (bl.getD 156 0).toNat + 1 → (Plain.hread (bl.set 156 c)).2 = 41
theorem made_ok (h : Hd) (hi : HdIn h) (hg : goodH h = true) : MadeOk (Plain.make h).1 := by
  have hb := blkOf_len h hi hg
  have ht := blkOf_ty h hi hg
  have hty : h.ty ≠ 0 := by
    unfold goodH at hg
    rw [Bool.and_eq_true, Bool.and_eq_true, decide_eq_true_eq] at hg
    exact hg.1.1.2.2.2.2.2.2.2
  have hs : ∀ f, Plain.sum f (Plain.seal (blkOf h)) = Plain.sum f (blkOf h) := fun f => seal_sum f _ hb
  have hg156 := seal_getD (blkOf h) hb 156 (by decide) (by decide)
  rw [make_good h hg]
  have hz0 : zblk.getD 156 0 = 0 := by decide +kernel
  have hl := seal_len _ hb
  refine ⟨seal_sealed _ hb, ?_, hl, ?_, ?_⟩
  · intro e
    simp only at e
    rw [e, hz0, ht] at hg156
    exact hty hg156.symm
  · intro e
    simp only at e ⊢
    rw [hg156]
    rw [hs, hs] at e
    exact sums_low _ e 156 (by omega) (by omega)
  · intro e e2 c hc
    simp only at e e2 hc ⊢
    rw [hs, hs] at e
    have hst := seal_turned (blkOf h) hb e 156 1 (by decide) (by decide) (by decide) (by decide) c hc (by omega)
    unfold Plain.hread
    rw [if_neg, if_pos hst]
    intro e3
    have : ((Plain.seal (blkOf h)).set 156 c).getD 156 0 = c := by simp [List.getD, hl]
    rw [e3, hz0] at this
    rw [← this] at hc
    simp at hc
set_option maxRecDepth 100000 in
set_option maxHeartbeats 6400000 in
theorem HeaderSealed_walk (h : Hd) (w : World) (ev : Value) (hE : ErrIs w ev) (hT : Bru w) (hi : HdIn h) (hz : HdSz h) :
    Calls Tryd.prog 6 #[.agg (hdC h)] w fun e w' => e = .returned (.bool true) ∧ Below w.heap.size w w' := by
  have HA := Lib.hid (fun w hE hT => Alive4_any w ev hE hT)
  have HMK := Lib.hid (fun w hT => HMake_any h hi hz w hT)
  have hlen := make_len h hi
  have hcode : (Plain.make h).2 ≠ 0 ∨ ((Plain.make h).2 = 0 ∧ MadeOk (Plain.make h).1) := by
    by_cases hg : goodH h = true
    · right; exact ⟨by rw [make_good h hg], made_ok h hi hg⟩
    · left; rw [make_bad h (by simpa using hg)]; decide
  have HIb := Lib.hid (sizeBlk _ hlen); have HOb := Lib.hid (rowA_one (Plain.make h).1)
  have HSb : Hid ((rowA zblk).size = (rowA (Plain.make h).1).size) := by show _ = _; rw [rowA_size, rowA_size, zblk_len, hlen]
  have HSL := Lib.hid (fun w hE => Sealed_any (Plain.make h).1 hlen w ev hE)
  have HZR := Lib.hid (fun w => Zero_any (Plain.make h).1 hlen w)
  have HSU := Lib.hid (fun w => Sums_any (Plain.make h).1 hlen w)
  have HRD := Lib.hid (fun (c : UInt8) w hE => HRead_any ((Plain.make h).1.set 156 c) (by rw [List.length_set]; exact hlen) w ev hE)
  have HIc := Lib.hid (fun (c : UInt8) => sizeBlk ((Plain.make h).1.set 156 c) (by rw [List.length_set]; exact hlen))
  generalize Plain.make h = r at *
  obtain ⟨bl, code⟩ := r
  simp only at hcode
  have HE := Lib.hid hE; have HT := Lib.hid hT
  have HZ47 := Lib.hid zeroBlk
  have HCODE := Lib.hid hcode; have HLEN := Lib.hid hlen
  clear hE hT hcode hlen
  go_enter Tryd.func6, Tryd.ntmps6
  have HX0 := Lib.hid (HB.new w h)
  have HIx := Lib.hid (hdInfo h)
  go_upto_region 1 with (with_reducible refine wpList_box_agg rfl _ _ rfl (hdC h) rfl ?_)
  generalize w.alloc (.cells (hdC h) 43) = w0 at *
  go_wp2_with (first
    | (go_at_call 21; (refine (HA.out w0 (by exact HE.out.below HX0.out.bel) (by exact HT.out.below HX0.out.bel)).mono ?_); rintro e w1 ⟨rfl, hb1⟩; have HX1 := Lib.hid (HX0.out.keep hb1); clear hb1)
    | (with_reducible refine wpList_load_row rfl _ _ rfl w.heap.size rfl 43 (hdC h) (0, 0) _ HX1.out.row Tryd.underlying43 rfl HIx.out ?_))
  refine (HMK.out w1 (by exact HT.out.below HX1.out.bel)).mono ?_; rintro e w2 ⟨rfl, hb2⟩; have HB2 := Lib.hid (HX1.out.keep hb2).bel; clear hb2
  go_upto_region 4 with (first
    | (with_reducible refine wpList_alloc_z rfl _ rfl (rowA zblk) HZ47.out ?_)
    | (with_reducible refine wpList_store_new rfl _ _ _ rfl _ rfl (rowA bl) rfl rfl HSb.out HIb.out HOb.out ?_))
  have HB3 := Lib.hid (HB2.out.alloc HB2.out.size (.cells (rowA bl) 45))
  have hrb : RowAt w2 45 bl (w2.alloc (.cells (rowA bl) 45)) := RowAt.new w2 _ bl
  have HRB := Lib.hid hrb
  clear hrb
  generalize w2.alloc (.cells (rowA bl) 45) = w3 at *
  rcases HCODE.out with e0 | ⟨e0, hok⟩
  · have hne : (code != 0) = true := bne_t e0
    clear HCODE e0
    go_wp2
    go_ret
    exact ⟨rfl, HB3.out⟩
  · have hne : (code != 0) = false := bne_f e0
    subst e0
    obtain ⟨k1, k2, k3, k4, k5⟩ := hok
    rw [k1] at HSL
    have hdz : decide (bl = zblk) = false := dec_f k2
    rw [hdz] at HZR
    generalize hU : Plain.sum uby bl = U at *
    generalize hV : Plain.sum sby bl = V at *
    have K4 := Lib.hid k4; have K5 := Lib.hid k5
    clear hdz k1 k2 k3 k4 k5 HCODE
    go_wp2_with (first
      | (with_reducible refine wpList_load_row rfl _ _ rfl w2.heap.size rfl 45 (rowA bl) (0, 0) _ HRB.out.row Tryd.underlying45 rfl HIb.out ?_)
      | (go_at_call 23; (refine (HSL.out w3 (by exact HE.out.below HB3.out)).mono ?_); rintro e w4 ⟨rfl, hb4⟩; have HR4 := Lib.hid (HRB.out.keep hb4); have HB4 := Lib.hid (HB3.out.trans (hb4.mono HB3.out.size)); clear hb4)
      | ((with_reducible refine wpList_load_row_h ?_ _ _ rfl w2.heap.size rfl 45 (rowA bl) (0, 0) _ HR4.out.row Tryd.underlying45 rfl HIb.out ?_); · rfl)
      | (go_at_call 24; (refine (HZR.out w4).mono ?_); rintro e w5 ⟨rfl, hb5⟩; have HR5 := Lib.hid (HR4.out.keep hb5); have HB5 := Lib.hid (HB4.out.trans (hb5.mono HB4.out.size)); clear hb5)
      | (with_reducible refine wpList_load_row rfl _ _ rfl w2.heap.size rfl 45 (rowA bl) (0, 0) _ HR5.out.row Tryd.underlying45 rfl HIb.out ?_))
    refine (HSU.out w5).mono ?_; rintro e w6 ⟨rfl, hb6⟩; have HR6 := Lib.hid (HR5.out.keep hb6); have HB6 := Lib.hid (HB5.out.trans (hb6.mono HB5.out.size)); clear hb6
    by_cases hUV : U = V
    · have hn0 : (U != V) = false := bne_f hUV
      have ht := K4.out hUV
      have hturn := K5.out hUV
      have hc := HR6.out.cell 156 (by rw [HLEN.out]; decide)
      have hfz := HR6.out.froz 156
      generalize bl.getD 156 0 = T at *
      obtain ⟨c, hcv⟩ : ∃ c : UInt8, c.toNat = T.toNat + 1 := ⟨UInt8.ofNat (T.toNat + 1), by rw [UInt8.toNat_ofNat']; omega⟩
      have hset := HR6.out.set 156 c
      have hmod : ((T.toNat : Int) + 1) % 256 = (c.toNat : Int) := by omega
      have hmod2 : (T.toNat : Int) + 1 = (c.toNat : Int) := by omega
      have HBC : Hid (Below w.heap.size w (w6.setCell ⟨w2.heap.size, 156, none⟩ (.int .u8 (c.toNat : Int)))) := Lib.hid (HB6.out.setCell (show w.heap.size ≤ (⟨w2.heap.size, 156, none⟩ : Addr).block from HB2.out.size) _)
      have HSET := Lib.hid hset
      have hT127 : (T.toNat : Int) ≤ 127 := by omega
      by_cases h128 : T.toNat + 1 < 128
      · have hq := hturn h128 c hcv
        have HRC := Lib.hid (HRD.out c)
        have HICc := Lib.hid (HIc.out c)
        have hlt : ¬ (128 : Int) ≤ (c.toNat : Int) := by omega
        generalize Plain.hread (bl.set 156 c) = q at *
        obtain ⟨qx, q2⟩ := q
        simp only at hq
        subst hq
        generalize bl.set 156 c = bc at *
        unfold hdRes at HRC
        simp only at HRC
        clear hturn hcv hmod ht hUV K4 K5 hset h128 HRD HIc
        go_wp2_with (first
          | (with_reducible refine wpList_load_row rfl _ _ rfl w2.heap.size rfl 45 (rowA bc) (0, 0) _ HSET.out.row Tryd.underlying45 rfl HICc.out ?_)
          | (go_at_call 26; (refine (HRC.out _ (by exact HE.out.below HBC.out)).mono ?_); rintro e w7 ⟨rfl, hb7⟩; have HB7 := Lib.hid (Below.seq HBC.out hb7); clear hb7))
        go_ret
        exact ⟨ret_bool (by rfl), HB7.out⟩
      · have hlt : (128 : Int) ≤ (c.toNat : Int) := by omega
        clear hturn hcv hmod ht hUV K4 K5 hset h128 HRD HIc
        go_wp2
        go_ret
        exact ⟨rfl, HBC.out⟩
    · have hn0 : (U != V) = true := bne_t hUV
      clear hUV K4 K5
      go_wp2
      go_ret
      exact ⟨rfl, HB6.out⟩
end Go.Proofs.YtamgiffkhnfpmaaDoor
namespace Go.Proofs.YtamgiffkhnfpmaaDoor
open Go.ChangeShapes Go.WideShapes Go.ChangeAt Go.RowKit
/-- a table's numbers -/
def tabNums : DataW Unit → List Int
  | .agg ps => ps.map fun | .lit (.int _ z) => z | _ => 0
  | _ => []
theorem gBru : Tryd.prog.globalNamed "math/bits.deBruijn64tab" = some 7 := by kernel_rfl
theorem bru_of {laid : List (String × DataW Unit)} {W : World} (h : laidMetH Tryd.prog laid W) (hl : (laid.filter fun x => x.1 == "math/bits.deBruijn64tab") = [("math/bits.deBruijn64tab", Lib.tabData .u8 (tabNums Rows.laid_math_bits_deBruijn64tab))]) : Bru W := by
  have h1 := h.filter (fun x => x.1 == "math/bits.deBruijn64tab")
  rw [hl] at h1
  have ht := Lib.tabIs_of_head (rest := []) (n := 64) gBru (by kernel_rfl) Tryd.underlying167 Tryd.underlying5 (by kernel_rfl) (by kernel_rfl) h1
  have hc := ht.cell gBru 7 (of_decide_eq_true (by kernel_rfl))
  have e : (tabNums Rows.laid_math_bits_deBruijn64tab).getD 7 0 = 3 := by kernel_rfl
  rw [e] at hc
  exact hc
end Go.Proofs.YtamgiffkhnfpmaaDoor
