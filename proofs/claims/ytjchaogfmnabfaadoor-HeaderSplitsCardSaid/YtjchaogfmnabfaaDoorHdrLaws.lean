/-
  HdrLaws: header.Read whole; 'alive'; the laws HeaderReads, HeaderKeeps, HeaderSplits, walked.
-/
import Derived.Test.YtjchaogfmnabfaaDoorHdrGood
import Derived.Test.YtjchaogfmnabfaaDoorHdrRef
import Derived.Test.YtjchaogfmnabfaaDoorHdrSplit
import Derived.Test.YtjchaogfmnabfaaDoorHdrForms
import Derived.Test.YtjchaogfmnabfaaDoorSealMake
namespace Go.Proofs.YtjchaogfmnabfaaDoor
set_option linter.unusedVariables false
set_option linter.unusedSimpArgs false
open Go.ChangeShapes Go.WideShapes Go.ChangeAt Go.RowKit
theorem HRead_any (l : List UInt8) (hl : l.length = 512) (w : World) (ev : Value) (hE : ErrIs w ev) :
    Calls Tryd.prog 27 #[.agg (rowA l)] w fun e w' => e = .returned (hdRes (Plain.hread l)) ∧ Below w.heap.size w w' := by
  by_cases hz : l = zblk
  · exact HRead_no l hl w ev hE (.inl hz)
  · by_cases hs : Plain.sealed l = false
    · exact HRead_no l hl w ev hE (.inr hs)
    · exact HRead_good l hl w ev hE hz (by simpa using hs)
set_option maxRecDepth 100000 in
theorem eqIn_hd (x : Hd) (w : World) : (Op.equalIn 10000 43 (.agg (hdC x)) (.agg (hdC x))).run Tryd.prog w = .ok true w := by
  rw [run_equalIn_agg w 9999 43 _ _ (by kernel_rfl) (by kernel_rfl)]
  have hs : ∀ (d : Nat) (a b : ByteArray), (Op.equalIn (d + 1) 9 (.string a) (.string b)).run Tryd.prog w = .ok (a.toList == b.toList) w := fun d a b => run_equalIn_string w d 9 a b Tryd.underlying9
  have hi : ∀ (d : Nat) (a b : Int), (Op.equalIn (d + 1) 3 (.int .i64 a) (.int .i64 b)).run Tryd.prog w = .ok (a == b) w := fun d a b => run_equalIn_int w d 3 .i64 .i64 a b Tryd.underlying3
  have hu : ∀ (d : Nat) (a b : Int), (Op.equalIn (d + 1) 5 (.int .u8 a) (.int .u8 b)).run Tryd.prog w = .ok (a == b) w := fun d a b => run_equalIn_int w d 5 .u8 .u8 a b Tryd.underlying5
  have ps : ∀ (cs : Array Value) (k : Nat) (v : Value), cs[k]? = some v → (part 9 cs k).run Tryd.prog w = .ok v w := fun cs k v h => by simp [part, isAgg, run_underlying Tryd.underlying9, h]
  have pi : ∀ (cs : Array Value) (k : Nat) (v : Value), cs[k]? = some v → (part 3 cs k).run Tryd.prog w = .ok v w := fun cs k v h => by simp [part, isAgg, run_underlying Tryd.underlying3, h]
  have pu : ∀ (cs : Array Value) (k : Nat) (v : Value), cs[k]? = some v → (part 5 cs k).run Tryd.prog w = .ok v w := fun cs k v h => by simp [part, isAgg, run_underlying Tryd.underlying5, h]
  have p0 := ps (hdC x) 0 (.string ⟨x.name.toArray⟩) rfl
  have p1 := ps (hdC x) 1 (.string ⟨x.link.toArray⟩) rfl
  have p2 := pi (hdC x) 2 (.int .i64 x.mode) rfl
  have p3 := pi (hdC x) 3 (.int .i64 x.uid) rfl
  have p4 := pi (hdC x) 4 (.int .i64 x.gid) rfl
  have p5 := pi (hdC x) 5 (.int .i64 x.size) rfl
  have p6 := pi (hdC x) 6 (.int .i64 x.mtime) rfl
  have p7 := pu (hdC x) 7 (.int .u8 (x.ty.toNat : Int)) rfl
  have p8 := ps (hdC x) 8 (.string ⟨x.user.toArray⟩) rfl
  have p9 := ps (hdC x) 9 (.string ⟨x.group.toArray⟩) rfl
  have p10 := pi (hdC x) 10 (.int .i64 x.major) rfl
  have p11 := pi (hdC x) 11 (.int .i64 x.minor) rfl
  have p12 := pi (hdC x) 12 (.int .i64 x.form) rfl
  clear ps pi pu
  generalize hdC x = C at *
  simp [Program.fieldsOf, Tryd.underlying43, Op.eqFields, p0, p1, p2, p3, p4, p5, p6, p7, p8, p9, p10, p11, p12, hs 9998, hi 9998, hu 9998]
theorem eql_hd (x : Hd) (w : World) : (binOp .eql 43 (.agg (hdC x)) (.agg (hdC x))).run Tryd.prog w = .ok (.bool true) w := by
  rw [run_eql_struct, eqIn_hd]; rfl
theorem zeroHd : (Tryd.prog.info? 43).bind (·.zero) = some (.agg (hdC Hd.zero)) := by kernel_rfl
theorem guardHd : Tryd.prog.eqGuardType Tryd.prog.depth 43 = false := by kernel_rfl
def oneL : List UInt8 := [111, 110, 101]
theorem alive_read : (Plain.hread (Plain.seal (ofL oneL))).2 = 0 ∧ (Plain.hread (Plain.seal (ofL oneL))).1.name = oneL ∧ (Plain.hread (Plain.seal (ofL oneL))).1.ty = 48 ∧ (Plain.hread (Plain.seal (ofL oneL))).1.form = 1 := by decide +kernel
set_option maxRecDepth 100000 in
set_option maxHeartbeats 1600000 in
theorem Alive4_any (w : World) (ev : Value) (hE : ErrIs w ev) (hT : Bru w) : Calls Tryd.prog 26 #[] w fun e w' => e = .returned (.bool true) ∧ Below w.heap.size w w' := by
  have hv := alive_read
  have hm := ofL_len oneL
  have HS := Lib.hid (fun w hT => Seal_any (ofL oneL) hm w hT)
  have HR := Lib.hid (fun w hE => HRead_any (Plain.seal (ofL oneL)) (seal_len _ hm) w ev hE)
  have hb := (Below.refl w.heap.size w).alloc (Nat.le_refl _) (.cells #[.int .u8 111, .int .u8 110, .int .u8 101] 5 (3, 4))
  have HBS : Hid (Bs (w.alloc (.cells #[.int .u8 111, .int .u8 110, .int .u8 101] 5 (3, 4))) (some ⟨w.heap.size, 0, none⟩) 3 3 oneL) := Lib.hid (isSl_mark w 5 1 3 #[.int .u8 111, .int .u8 110, .int .u8 101] _ rfl (by unfold maxLen; omega))
  have HO := Lib.hid (fun (wx : World) (h : Bs wx (some ⟨w.heap.size, 0, none⟩) 3 3 oneL) => Of4_any _ 3 3 oneL wx h)
  generalize Plain.hread (Plain.seal (ofL oneL)) = r at *
  generalize Plain.seal (ofL oneL) = s at *
  generalize ofL oneL = m at *
  obtain ⟨x, r2⟩ := r
  obtain ⟨e1, e2, e3, e4⟩ := hv
  simp only at e1 e2 e3 e4
  have HB := Lib.hid hb; have HE := Lib.hid hE; have HT := Lib.hid hT
  subst e1
  have hc0 : (hdC x)[0]? = some (.string ⟨#[111, 110, 101]⟩) := by
    have : (hdC x)[0]? = some (.string ⟨x.name.toArray⟩) := rfl
    rw [this, e2]; rfl
  have hc7 : (hdC x)[7]? = some (.int .u8 48) := by
    have : (hdC x)[7]? = some (.int .u8 (x.ty.toNat : Int)) := rfl
    rw [this, e3]; rfl
  have hc12 : (hdC x)[12]? = some (.int .i64 1) := by
    have : (hdC x)[12]? = some (.int .i64 x.form) := rfl
    rw [this, e4]
  have HZ := Lib.hid zeroHd
  have HI := Lib.hid (hdInfo x); have HOC := Lib.hid (hdC_one x); have HSZ : Hid ((hdC Hd.zero).size = (hdC x).size) := Lib.hid rfl
  unfold hdRes at HR
  simp only at HR
  generalize hdC x = C at *
  have C0 := Lib.hid hc0; have C7 := Lib.hid hc7; have C12 := Lib.hid hc12
  clear hb hE hT hm e2 e3 e4 hc0 hc7 hc12
  have kc := fun (w : World) (C : Array Value) (n c : Nat) => Lib.run_convert_bytes_const (P := Tryd.prog) w 22 5 C n c Tryd.underlying22 Tryd.underlying5
  go_enter Tryd.func26, Tryd.ntmps26
  go_wp2_with fail
  refine (HO.out _ (by exact HBS.out)).mono ?_; rintro e w1 ⟨rfl, hb1⟩; have HB1 := Lib.hid (Below.seq HB.out hb1); clear hb1
  go_wp2_with fail
  refine (HS.out w1 (by exact HT.out.below HB1.out)).mono ?_; rintro e w2 ⟨rfl, hb2⟩; have HB2 := Lib.hid (Below.seq HB1.out hb2); clear hb2
  go_wp2_with fail
  refine (HR.out w2 (by exact HE.out.below HB2.out)).mono ?_; rintro e w3 ⟨rfl, hb3⟩; have HB3 := Lib.hid (Below.seq HB2.out hb3); clear hb3
  have hrow : (w3.alloc (.cells C 43)).heap[w3.heap.size]? = some (.cells C 43 (0, 0)) := heap_alloc_new w3 _
  have hc0 : (w3.alloc (.cells C 43)).cell? ⟨w3.heap.size, 0, none⟩ = some (.string ⟨#[111, 110, 101]⟩) := by rw [cell_of_row _ _ _ _ _ _ hrow]; exact C0.out
  have hc7 : (w3.alloc (.cells C 43)).cell? ⟨w3.heap.size, 7, none⟩ = some (.int .u8 48) := by rw [cell_of_row _ _ _ _ _ _ hrow]; exact C7.out
  have hc12 : (w3.alloc (.cells C 43)).cell? ⟨w3.heap.size, 12, none⟩ = some (.int .i64 1) := by rw [cell_of_row _ _ _ _ _ _ hrow]; exact C12.out
  have HB4 := Lib.hid (HB3.out.alloc HB3.out.size (.cells C 43))
  clear hrow
  go_upto_region 2 with (first
    | (with_reducible refine wpList_alloc_z rfl _ rfl (hdC Hd.zero) HZ.out ?_)
    | (with_reducible refine wpList_store_new rfl _ _ _ rfl _ rfl C rfl rfl HSZ.out HI.out HOC.out ?_))
  generalize w3.alloc (.cells C 43) = w4 at *
  generalize w3.heap.size = g at *
  go_wp2
  go_ret
  exact ⟨ret_bool (by rfl), HB4.out⟩
/-- a header in a block of its own -/
structure HdAt (g : Nat) (C : Array Value) (wr : World) : Prop where
  row : wr.heap[g]? = some (.cells C 43 (0, 0))
theorem HdAt.keep {g : Nat} {C : Array Value} {wr w' : World} (h : HdAt g C wr) (k : Below wr.heap.size wr w') : HdAt g C w' := ⟨by rw [k.block _ (Array.getElem?_eq_some_iff.1 h.row).1]; exact h.row⟩
theorem HdAt.new (w : World) (C : Array Value) : HdAt w.heap.size C (w.alloc (.cells C 43)) := ⟨heap_alloc_new w _⟩
set_option maxHeartbeats 800000 in
theorem HeaderSplits_walk (l : List UInt8) (w : World) (ev : Value) (hE : ErrIs w ev) (hT : Bru w) (hl : l.length ≤ 140737488351232) :
    Calls Tryd.prog 12 #[.string ⟨l.toArray⟩] w fun e w' => e = .returned (.bool true) ∧ Below w.heap.size w w' := by
  have HA := Lib.hid (Alive4_any w ev hE hT)
  have H1 := Lib.hid (fun w => Split_any l w hl)
  have H2 := Lib.hid (fun w => RefSplit_any l w hl)
  unfold splitV at H1 H2
  generalize Plain.split l = r at *
  obtain ⟨p, s, c⟩ := r
  simp only at H1 H2
  clear hE hT
  go_enter Tryd.func12, Tryd.ntmps12
  go_wp2_with (first
    | (go_at_call 26; (with_reducible refine HA.out.mono ?_); rintro e w1 ⟨rfl, hb1⟩; have HB1 := Lib.hid hb1; clear hb1)
    | (go_at_call 31; (with_reducible refine (H1.out w1).mono ?_); rintro e w2 ⟨rfl, hb2⟩; have HB2 := Lib.hid (Below.seq HB1.out hb2); clear hb2)
    | (go_at_call 32; (with_reducible refine (H2.out w2).mono ?_); rintro e w3 ⟨rfl, hb3⟩; have HB3 := Lib.hid (Below.seq HB2.out hb3); clear hb3))
  go_ret
  exact ⟨ret_bool (by simp), HB3.out⟩
set_option maxRecDepth 100000 in
set_option maxHeartbeats 1600000 in
theorem HeaderReads_walk (a : Option Addr) (n c : Nat) (l : List UInt8) (w : World) (ev : Value) (hE : ErrIs w ev) (hT : Bru w) (h : Bs w a n c l) (hc : c ≤ 140737488351232) :
    Calls Tryd.prog 9 #[.slice a n c] w fun e w' => e = .returned (.bool true) ∧ Below w.heap.size w w' := by
  have hm := ofL_len l
  have HA := Lib.hid (Alive4_any w ev hE hT)
  have HO := Lib.hid (fun (wx : World) (h : Bs wx a n c l) => Of4_any a n c l wx h)
  have HR := Lib.hid (fun w hE => HRead_any (ofL l) hm w ev hE)
  have HF := Lib.hid (fun w => RefHRead_any (ofL l) hm w)
  generalize Plain.hread (ofL l) = r at *
  generalize ofL l = m at *
  obtain ⟨x, r2⟩ := r
  have HE := Lib.hid hE; have HH := Lib.hid h
  have HZ := Lib.hid zeroHd
  have HI := Lib.hid (hdInfo x); have HOC := Lib.hid (hdC_one x); have HSZ : Hid ((hdC Hd.zero).size = (hdC x).size) := Lib.hid rfl
  have hq := fun w => eql_hd x w
  have hg := guardHd
  unfold hdRes at HR HF
  simp only at HR HF
  generalize hdC x = C at *
  clear hE hT hm h
  go_enter Tryd.func9, Tryd.ntmps9
  go_wp2_with (go_at_call 26; (with_reducible refine HA.out.mono ?_); rintro e w1 ⟨rfl, hb1⟩; have HB1 := Lib.hid hb1; clear hb1)
  refine (HO.out w1 (by exact Below.bs HB1.out HH.out)).mono ?_; rintro e w2 ⟨rfl, hb2⟩; have HB2 := Lib.hid (Below.seq HB1.out hb2); clear hb2
  go_wp2_with fail
  refine (HR.out w2 (by exact HE.out.below HB2.out)).mono ?_; rintro e w3 ⟨rfl, hb3⟩; have HB3 := Lib.hid (Below.seq HB2.out hb3); clear hb3
  go_upto_region 4 with (first
    | (with_reducible refine wpList_alloc_z rfl _ rfl (hdC Hd.zero) HZ.out ?_)
    | (with_reducible refine wpList_store_new rfl _ _ _ rfl _ rfl C rfl rfl HSZ.out HI.out HOC.out ?_))
  have HB4 := Lib.hid (HB3.out.alloc HB3.out.size (.cells C 43))
  have H4 := Lib.hid (HdAt.new w3 C)
  generalize w3.alloc (.cells C 43) = w4 at *
  generalize w3.heap.size = g3 at *
  go_wp2_with fail
  refine (HO.out w4 (by exact Below.bs HB4.out HH.out)).mono ?_; rintro e w5 ⟨rfl, hb5⟩; have HB5 := Lib.hid (Below.seq HB4.out hb5); have H5' := Lib.hid (H4.out.keep hb5); clear hb5
  go_wp2_with fail
  refine (HF.out w5).mono ?_; rintro e w6 ⟨rfl, hb6⟩; have HB6 := Lib.hid (Below.seq HB5.out hb6); have H6 := Lib.hid (H5'.out.keep hb6); clear hb6
  go_upto_region 5 with (first
    | (with_reducible refine wpList_alloc_z rfl _ rfl (hdC Hd.zero) HZ.out ?_)
    | (with_reducible refine wpList_store_new rfl _ _ _ rfl _ rfl C rfl rfl HSZ.out HI.out HOC.out ?_))
  have HB7 := Lib.hid (HB6.out.alloc HB6.out.size (.cells C 43))
  have H7 := Lib.hid (HdAt.new w6 C)
  have H8 := Lib.hid (H6.out.keep ((Below.refl _ _).alloc (Nat.le_refl _) (.cells C 43)))
  generalize w6.alloc (.cells C 43) = w7 at *
  generalize w6.heap.size = g6 at *
  go_wp2_with (first
    | (with_reducible refine wpList_load_row rfl _ _ rfl g3 rfl 43 C (0, 0) _ H8.out.row Tryd.underlying43 rfl HI.out ?_)
    | (with_reducible refine wpList_load_row rfl _ _ rfl g6 rfl 43 C (0, 0) _ H7.out.row Tryd.underlying43 rfl HI.out ?_))
  go_ret
  exact ⟨ret_bool (by simp), HB7.out⟩
end Go.Proofs.YtjchaogfmnabfaaDoor
