/-
  HdrLaws2: the laws HeaderKeeps and HeaderForms, walked.
-/
import Derived.Test.YtjchaogfmnabfaaDoorHdrLaws
namespace Go.Proofs.YtjchaogfmnabfaaDoor
set_option linter.unusedVariables false
set_option linter.unusedSimpArgs false
open Go.ChangeShapes Go.WideShapes Go.ChangeAt Go.RowKit
section
variable {P : Program} {ops : Array Oper} {rest : List Oper} {o : Oper} {a : Act} {w : World} {Q : Exit → Act → World → Prop}
/-- a guarded load of an aggregate -/
theorem wpList_load_row_g (hw : Region.wanted o (yielded ops a.tmps) = true) (ty : TypeId) (x : Operand) (ho : o.op = .load ty x)
    (g : Nat) (hx : a.eval x = .pointer (some ⟨g, 0, none⟩)) (t : TypeId) (cs : Array Value) (fr : Nat × Nat) (d : TypeDesc) (hg : w.heap[g]? = some (.cells cs t fr))
    (hu : P.underlying ty = some d) (hd : (match d with | .struct _ | .array _ _ => true | _ => false) = true) (hi : (P.info? ty).map (·.size) = some cs.size)
    (h : wpList P ops Q rest (a.put o.dst (.agg cs)) w) : wpList P ops Q (o :: rest) a w :=
  wpList_step fun _ hK => by rw [if_pos hw]; exact wp_load_row ty x ho g hx t cs fr d hg hu hd hi (hK _ _ h)
end
set_option maxRecDepth 100000 in
set_option maxHeartbeats 3200000 in
theorem HeaderKeeps_walk (a : Option Addr) (n c : Nat) (l : List UInt8) (a' : Option Addr) (n' c' : Nat) (l' : List UInt8) (w : World) (ev : Value) (hE : ErrIs w ev) (hT : Bru w) (h : Bs w a n c l) (hc : c ≤ 140737488351232) (h' : Bs w a' n' c' l') (hc' : c' ≤ 140737488351232) :
    Calls Tryd.prog 11 #[.slice a n c, .slice a' n' c'] w fun e w' => e = .returned (.bool true) ∧ Below w.heap.size w w' := by
  have hm := ofL_len l
  have hm' := ofL_len l'
  have HA := Lib.hid (Alive4_any w ev hE hT)
  have HO := Lib.hid (fun (wx : World) (h : Bs wx a n c l) => Of4_any a n c l wx h)
  have HO' := Lib.hid (fun (wx : World) (h : Bs wx a' n' c' l') => Of4_any a' n' c' l' wx h)
  have HR := Lib.hid (fun w hE => HRead_any (ofL l) hm w ev hE)
  have HR' := Lib.hid (fun w hE => HRead_any (ofL l') hm' w ev hE)
  have HF := Lib.hid (fun w => RefHRead_any (ofL l) hm w)
  have HF' := Lib.hid (fun w => RefHRead_any (ofL l') hm' w)
  generalize Plain.hread (ofL l) = r at *
  generalize ofL l = m at *
  generalize Plain.hread (ofL l') = r' at *
  generalize ofL l' = m' at *
  obtain ⟨x, r2⟩ := r
  obtain ⟨x', r2'⟩ := r'
  have HE := Lib.hid hE; have HH := Lib.hid h; have HH' := Lib.hid h'
  have HZ := Lib.hid zeroHd
  have HI := Lib.hid (hdInfo x); have HOC := Lib.hid (hdC_one x); have HSZ : Hid ((hdC Hd.zero).size = (hdC x).size) := Lib.hid rfl
  have HI' := Lib.hid (hdInfo x'); have HOC' := Lib.hid (hdC_one x'); have HSZ' : Hid ((hdC Hd.zero).size = (hdC x').size) := Lib.hid rfl
  have hq := fun w => eql_hd x w
  have hq' := fun w => eql_hd x' w
  have hg := guardHd
  unfold hdRes at HR HF HR' HF'
  simp only at HR HF HR' HF'
  generalize hdC x = C at *
  generalize hdC x' = C' at *
  clear hE hT hm h hm' h'
  go_enter Tryd.func11, Tryd.ntmps11
  go_wp2_with (go_at_call 26; (with_reducible refine HA.out.mono ?_); rintro e w1 ⟨rfl, hb1⟩; have HB1 := Lib.hid hb1; clear hb1)
  refine (HO.out w1 (by exact Below.bs HB1.out HH.out)).mono ?_; rintro e w2 ⟨rfl, hb2⟩; have HB2 := Lib.hid (Below.seq HB1.out hb2); clear hb2
  go_wp2_with fail
  refine (HR.out w2 (by exact HE.out.below HB2.out)).mono ?_; rintro e w3 ⟨rfl, hb3⟩; have HB3 := Lib.hid (Below.seq HB2.out hb3); clear hb3
  go_upto_region 4 with (first
    | (with_reducible refine wpList_alloc_z rfl _ rfl (hdC Hd.zero) HZ.out ?_)
    | (with_reducible refine wpList_store_new rfl _ _ _ rfl _ rfl C rfl rfl HSZ.out HI.out HOC.out ?_))
  have HB4 := Lib.hid (HB3.out.alloc HB3.out.size (.cells C 43))
  have A4 := Lib.hid (HdAt.new w3 C)
  generalize w3.alloc (.cells C 43) = w4 at *
  generalize w3.heap.size = gA at *
  go_wp2_with fail
  refine (HO'.out w4 (by exact Below.bs HB4.out HH'.out)).mono ?_; rintro e w5 ⟨rfl, hb5⟩; have HB5 := Lib.hid (Below.seq HB4.out hb5); have A5 := Lib.hid (A4.out.keep hb5); clear hb5
  go_wp2_with fail
  refine (HR'.out w5 (by exact HE.out.below HB5.out)).mono ?_; rintro e w6 ⟨rfl, hb6⟩; have HB6 := Lib.hid (Below.seq HB5.out hb6); have A6 := Lib.hid (A5.out.keep hb6); clear hb6
  go_upto_region 5 with (first
    | (with_reducible refine wpList_alloc_z rfl _ rfl (hdC Hd.zero) HZ.out ?_)
    | (with_reducible refine wpList_store_new rfl _ _ _ rfl _ rfl C' rfl rfl HSZ'.out HI'.out HOC'.out ?_))
  have HB7 := Lib.hid (HB6.out.alloc HB6.out.size (.cells C' 43))
  have B7 := Lib.hid (HdAt.new w6 C')
  have A7 := Lib.hid (A6.out.keep ((Below.refl _ _).alloc (Nat.le_refl _) (.cells C' 43)))
  generalize w6.alloc (.cells C' 43) = w7 at *
  generalize w6.heap.size = gB at *
  clear A4 A5 A6
  go_wp2_with fail
  refine (HO.out w7 (by exact Below.bs HB7.out HH.out)).mono ?_; rintro e w8 ⟨rfl, hb8⟩; have HB8 := Lib.hid (Below.seq HB7.out hb8); have A8 := Lib.hid (A7.out.keep hb8); have B8 := Lib.hid (B7.out.keep hb8); clear hb8
  go_wp2_with fail
  refine (HR.out w8 (by exact HE.out.below HB8.out)).mono ?_; rintro e w9 ⟨rfl, hb9⟩; have HB9 := Lib.hid (Below.seq HB8.out hb9); have A9 := Lib.hid (A8.out.keep hb9); have B9 := Lib.hid (B8.out.keep hb9); clear hb9
  go_upto_region 6 with (first
    | (with_reducible refine wpList_alloc_z rfl _ rfl (hdC Hd.zero) HZ.out ?_)
    | (with_reducible refine wpList_store_new rfl _ _ _ rfl _ rfl C rfl rfl HSZ.out HI.out HOC.out ?_))
  have HB10 := Lib.hid (HB9.out.alloc HB9.out.size (.cells C 43))
  have C10 := Lib.hid (HdAt.new w9 C)
  have A10 := Lib.hid (A9.out.keep ((Below.refl _ _).alloc (Nat.le_refl _) (.cells C 43)))
  have B10 := Lib.hid (B9.out.keep ((Below.refl _ _).alloc (Nat.le_refl _) (.cells C 43)))
  generalize w9.alloc (.cells C 43) = w10 at *
  generalize w9.heap.size = gC at *
  clear A7 A8 A9 B7 B8 B9
  go_wp2_with fail
  refine (HO.out w10 (by exact Below.bs HB10.out HH.out)).mono ?_; rintro e w11 ⟨rfl, hb11⟩; have HB11 := Lib.hid (Below.seq HB10.out hb11); have A11 := Lib.hid (A10.out.keep hb11); have B11 := Lib.hid (B10.out.keep hb11); have C11 := Lib.hid (C10.out.keep hb11); clear hb11
  go_wp2_with fail
  refine (HF.out w11).mono ?_; rintro e w12 ⟨rfl, hb12⟩; have HB12 := Lib.hid (Below.seq HB11.out hb12); have A12 := Lib.hid (A11.out.keep hb12); have B12 := Lib.hid (B11.out.keep hb12); have C12 := Lib.hid (C11.out.keep hb12); clear hb12
  go_upto_region 7 with (first
    | (with_reducible refine wpList_alloc_z rfl _ rfl (hdC Hd.zero) HZ.out ?_)
    | (with_reducible refine wpList_store_new rfl _ _ _ rfl _ rfl C rfl rfl HSZ.out HI.out HOC.out ?_))
  have HB13 := Lib.hid (HB12.out.alloc HB12.out.size (.cells C 43))
  have D13 := Lib.hid (HdAt.new w12 C)
  have A13 := Lib.hid (A12.out.keep ((Below.refl _ _).alloc (Nat.le_refl _) (.cells C 43)))
  have B13 := Lib.hid (B12.out.keep ((Below.refl _ _).alloc (Nat.le_refl _) (.cells C 43)))
  have C13 := Lib.hid (C12.out.keep ((Below.refl _ _).alloc (Nat.le_refl _) (.cells C 43)))
  generalize w12.alloc (.cells C 43) = w13 at *
  generalize w12.heap.size = gD at *
  clear A10 A11 A12 B10 B11 B12 C10 C11 C12
  go_wp2_with fail
  refine (HO'.out w13 (by exact Below.bs HB13.out HH'.out)).mono ?_; rintro e w14 ⟨rfl, hb14⟩; have HB14 := Lib.hid (Below.seq HB13.out hb14); have A14 := Lib.hid (A13.out.keep hb14); have B14 := Lib.hid (B13.out.keep hb14); have C14 := Lib.hid (C13.out.keep hb14); have D14 := Lib.hid (D13.out.keep hb14); clear hb14
  go_wp2_with fail
  refine (HF'.out w14).mono ?_; rintro e w15 ⟨rfl, hb15⟩; have HB15 := Lib.hid (Below.seq HB14.out hb15); have A15 := Lib.hid (A14.out.keep hb15); have B15 := Lib.hid (B14.out.keep hb15); have C15 := Lib.hid (C14.out.keep hb15); have D15 := Lib.hid (D14.out.keep hb15); clear hb15
  go_upto_region 8 with (first
    | (with_reducible refine wpList_alloc_z rfl _ rfl (hdC Hd.zero) HZ.out ?_)
    | (with_reducible refine wpList_store_new rfl _ _ _ rfl _ rfl C' rfl rfl HSZ'.out HI'.out HOC'.out ?_))
  have HB16 := Lib.hid (HB15.out.alloc HB15.out.size (.cells C' 43))
  have E16 := Lib.hid (HdAt.new w15 C')
  have A16 := Lib.hid (A15.out.keep ((Below.refl _ _).alloc (Nat.le_refl _) (.cells C' 43)))
  have B16 := Lib.hid (B15.out.keep ((Below.refl _ _).alloc (Nat.le_refl _) (.cells C' 43)))
  have C16 := Lib.hid (C15.out.keep ((Below.refl _ _).alloc (Nat.le_refl _) (.cells C' 43)))
  have D16 := Lib.hid (D15.out.keep ((Below.refl _ _).alloc (Nat.le_refl _) (.cells C' 43)))
  generalize w15.alloc (.cells C' 43) = w16 at *
  generalize w15.heap.size = gE at *
  clear A13 A14 A15 B13 B14 B15 C13 C14 C15 D13 D14 D15
  go_wp2_with (first
    | (with_reducible refine wpList_load_row rfl _ _ rfl gA rfl 43 C (0, 0) _ A16.out.row Tryd.underlying43 rfl HI.out ?_)
    | ((with_reducible refine wpList_load_row_g ?_ _ _ rfl gA rfl 43 C (0, 0) _ A16.out.row Tryd.underlying43 rfl HI.out ?_); · rfl)
    | (with_reducible refine wpList_load_row rfl _ _ rfl gB rfl 43 C' (0, 0) _ B16.out.row Tryd.underlying43 rfl HI'.out ?_)
    | ((with_reducible refine wpList_load_row_g ?_ _ _ rfl gB rfl 43 C' (0, 0) _ B16.out.row Tryd.underlying43 rfl HI'.out ?_); · rfl)
    | (with_reducible refine wpList_load_row rfl _ _ rfl gC rfl 43 C (0, 0) _ C16.out.row Tryd.underlying43 rfl HI.out ?_)
    | ((with_reducible refine wpList_load_row_g ?_ _ _ rfl gC rfl 43 C (0, 0) _ C16.out.row Tryd.underlying43 rfl HI.out ?_); · rfl)
    | (with_reducible refine wpList_load_row rfl _ _ rfl gD rfl 43 C (0, 0) _ D16.out.row Tryd.underlying43 rfl HI.out ?_)
    | ((with_reducible refine wpList_load_row_g ?_ _ _ rfl gD rfl 43 C (0, 0) _ D16.out.row Tryd.underlying43 rfl HI.out ?_); · rfl)
    | (with_reducible refine wpList_load_row rfl _ _ rfl gE rfl 43 C' (0, 0) _ E16.out.row Tryd.underlying43 rfl HI'.out ?_)
    | ((with_reducible refine wpList_load_row_g ?_ _ _ rfl gE rfl 43 C' (0, 0) _ E16.out.row Tryd.underlying43 rfl HI'.out ?_); · rfl))
  go_ret
  exact ⟨ret_bool (by simp), HB16.out⟩
/-- the bytes from 257 up to k wiped -/
def wipeTo (m : List UInt8) (k : Nat) : List UInt8 := m.take 257 ++ List.replicate (k - 257) 0 ++ m.drop k
theorem wipeTo_start (m : List UInt8) : wipeTo m 257 = m := by unfold wipeTo; simp
theorem wipeTo_len (m : List UInt8) (k : Nat) (hm : m.length = 512) (h1 : 257 ≤ k) (h2 : k ≤ 512) : (wipeTo m k).length = 512 := by
  unfold wipeTo; simp; omega
theorem wipeTo_set (m : List UInt8) (k : Nat) (hm : m.length = 512) (h1 : 257 ≤ k) (h2 : k < 512) : (wipeTo m k).set k 0 = wipeTo m (k + 1) := by
  unfold wipeTo
  have hl : (m.take 257 ++ List.replicate (k - 257) (0 : UInt8)).length = k := by simp; omega
  rw [List.set_append_right _ _ (by omega), hl, Nat.sub_self, List.drop_eq_getElem_cons (show k < m.length by omega), List.set_cons_zero, show k + 1 - 257 = (k - 257) + 1 by omega, List.replicate_succ']
  simp
theorem wipeTo_end (m : List UInt8) : wipeTo m 265 = lay m 257 z8 := rfl
/-- a block and a header -/
structure F2 (w : World) (gb : Nat) (m : List UInt8) (gh : Nat) (x : Hd) (wr : World) : Prop where
  bel : Below w.heap.size w wr
  rb : wr.heap[gb]? = some (.cells (rowA m) 47 (0, 0))
  rh : wr.heap[gh]? = some (.cells (hdC x) 43 (0, 0))
  ge : w.heap.size ≤ gb
  lt : gb < gh
theorem F2.keep {w wr w' : World} {gb gh : Nat} {m : List UInt8} {x : Hd} (h : F2 w gb m gh x wr) (k : Below wr.heap.size wr w') : F2 w gb m gh x w' :=
  ⟨Below.seq h.bel k, by rw [k.block _ (Array.getElem?_eq_some_iff.1 h.rb).1]; exact h.rb, by rw [k.block _ (Array.getElem?_eq_some_iff.1 h.rh).1]; exact h.rh, h.ge, h.lt⟩
theorem F2.cell {w wr : World} {gb gh : Nat} {m : List UInt8} {x : Hd} (h : F2 w gb m gh x wr) (k : Nat) (hk : k < m.length) : wr.cell? ⟨gb, k, none⟩ = some (.int .u8 ((m.getD k 0).toNat : Int)) := by
  rw [cell_of_row _ _ _ _ _ _ h.rb, rowA_at _ _ hk]
theorem F2.free {w wr : World} {gb gh : Nat} {m : List UInt8} {x : Hd} (h : F2 w gb m gh x wr) (k : Nat) : wr.frozen? ⟨gb, k, none⟩ = false := frozen_of_row _ _ _ _ _ h.rb
theorem F2.hcell {w wr : World} {gb gh : Nat} {m : List UInt8} {x : Hd} (h : F2 w gb m gh x wr) (k : Nat) : wr.cell? ⟨gh, k, none⟩ = (hdC x)[k]? := by rw [cell_of_row _ _ _ _ _ _ h.rh]
theorem F2.hfree {w wr : World} {gb gh : Nat} {m : List UInt8} {x : Hd} (h : F2 w gb m gh x wr) (k : Nat) : wr.frozen? ⟨gh, k, none⟩ = false := frozen_of_row _ _ _ _ _ h.rh
theorem F2.wipe {w wr : World} {gb gh : Nat} {m : List UInt8} {x : Hd} (h : F2 w gb m gh x wr) (k : Nat) : F2 w gb (m.set k 0) gh x (wr.setCell ⟨gb, k, none⟩ (.int .u8 0)) := by
  have h1 := h.ge; have h2 := h.lt
  refine ⟨h.bel.setCell (show w.heap.size ≤ (⟨gb, k, none⟩ : Addr).block from h1) _, ?_, by rw [heap_setCell_other _ _ _ _ (by simp only; omega)]; exact h.rh, h1, h2⟩
  rw [heap_setCell_same _ _ _ _ _ _ h.rb, show (Value.int .u8 0) = u8v 0 from rfl, rowA_set]
theorem F2.set {w wr : World} {gb gh : Nat} {m : List UInt8} {x x' : Hd} (h : F2 w gb m gh x wr) (k : Nat) (v : Value) (e : (hdC x).setIfInBounds k v = hdC x') : F2 w gb m gh x' (wr.setCell ⟨gh, k, none⟩ v) := by
  have h1 := h.ge; have h2 := h.lt
  exact ⟨h.bel.setCell (show w.heap.size ≤ (⟨gh, k, none⟩ : Addr).block by simp only; omega) _, by rw [heap_setCell_other _ _ _ _ (by simp only; omega)]; exact h.rb, by rw [heap_setCell_same _ _ _ _ _ _ h.rh, e], h1, h2⟩
theorem HdAt.setOther {g : Nat} {C : Array Value} {wr : World} (h : HdAt g C wr) {b k : Nat} (v : Value) (hne : g ≠ b) : HdAt g C (wr.setCell ⟨b, k, none⟩ v) := ⟨by rw [heap_setCell_other _ _ _ _ (by simpa using hne)]; exact h.row⟩
set_option maxRecDepth 100000 in
set_option maxHeartbeats 3200000 in
theorem HeaderForms_walk (a : Option Addr) (n c : Nat) (l : List UInt8) (w : World) (ev : Value) (hE : ErrIs w ev) (hT : Bru w) (h : Bs w a n c l) (hc : c ≤ 140737488351232) :
    Calls Tryd.prog 10 #[.slice a n c] w fun e w' => e = .returned (.bool true) ∧ Below w.heap.size w w' := by
  have hm := ofL_len l
  have HA := Lib.hid (Alive4_any w ev hE hT)
  have HO := Lib.hid (fun (wx : World) (h : Bs wx a n c l) => Of4_any a n c l wx h)
  generalize ofL l = m at *
  have hl2 : (lay m 257 z8).length = 512 := by rw [lay_len _ _ _ (by rw [hm]; decide), hm]
  have HR := Lib.hid (fun w hE => HRead_any m hm w ev hE)
  have HS := Lib.hid (fun w hT => Seal_any (lay m 257 z8) hl2 w hT)
  have HR2 : Hid (∀ (w : World), ErrIs w ev → Calls Tryd.prog 27 #[.agg (rowA (Plain.seal (lay m 257 z8)))] w fun e w' => e = .returned (hdRes (Plain.hread (wiped m))) ∧ Below w.heap.size w w') := Lib.hid (fun w hE => HRead_any (Plain.seal (lay m 257 z8)) (seal_len _ hl2) w ev hE)
  have hwr := wiped_read m hm
  have HI47 := Lib.hid (sizeBlk m hm); have HO47 := Lib.hid (rowA_one m); have HZ47 := Lib.hid zeroBlk
  have HS47 : Hid ((rowA zblk).size = (rowA m).size) := by show _ = _; rw [rowA_size, rowA_size, zblk_len, hm]
  have HI47' := Lib.hid (sizeBlk (lay m 257 z8) hl2)
  generalize Plain.hread (wiped m) = q at *
  generalize Plain.hread m = r at *
  obtain ⟨x, r2⟩ := r
  obtain ⟨y, q2⟩ := q
  simp only at hwr
  have HE := Lib.hid hE; have HT := Lib.hid hT; have HH := Lib.hid h; have HM := Lib.hid hm
  have HZ := Lib.hid zeroHd
  have HI := Lib.hid (hdInfo x); have HOC := Lib.hid (hdC_one x); have HSZ : Hid ((hdC Hd.zero).size = (hdC x).size) := Lib.hid rfl
  have HIy := Lib.hid (hdInfo y); have HOCy := Lib.hid (hdC_one y); have HSZy : Hid ((hdC Hd.zero).size = (hdC y).size) := Lib.hid rfl
  have hq := fun w => eql_hd y w
  have hg := guardHd
  have HW := Lib.hid hwr
  unfold hdRes at HR HR2
  simp only at HR HR2
  clear hE hT hm h hl2 hwr
  go_enter Tryd.func10, Tryd.ntmps10
  go_wp2_with (go_at_call 26; (with_reducible refine HA.out.mono ?_); rintro e w1 ⟨rfl, hb1⟩; have HB1 := Lib.hid hb1; clear hb1)
  refine (HO.out w1 (by exact Below.bs HB1.out HH.out)).mono ?_; rintro e w2 ⟨rfl, hb2⟩; have HB2 := Lib.hid (Below.seq HB1.out hb2); clear hb2
  go_upto_region 4 with (first
    | (with_reducible refine wpList_alloc_z rfl _ rfl (rowA zblk) HZ47.out ?_)
    | (with_reducible refine wpList_store_new rfl _ _ _ rfl _ rfl (rowA m) rfl rfl HS47.out HI47.out HO47.out ?_))
  have HB3 := Lib.hid (HB2.out.alloc HB2.out.size (.cells (rowA m) 47))
  have hrb : (w2.alloc (.cells (rowA m) 47)).heap[w2.heap.size]? = some (.cells (rowA m) 47 (0, 0)) := heap_alloc_new w2 _
  have HRB := Lib.hid hrb
  have HGE := Lib.hid HB2.out.size
  clear hrb
  generalize w2.alloc (.cells (rowA m) 47) = w3 at *
  generalize w2.heap.size = gb at *
  go_wp2_with (with_reducible refine wpList_load_row rfl _ _ rfl gb rfl 47 (rowA m) (0, 0) _ HRB.out Tryd.underlying47 rfl HI47.out ?_)
  refine (HR.out w3 (by exact HE.out.below HB3.out)).mono ?_; rintro e w4 ⟨rfl, hb4⟩; have HB4 := Lib.hid (Below.seq HB3.out hb4)
  have HRB4 : Hid (w4.heap[gb]? = some (.cells (rowA m) 47 (0, 0))) := Lib.hid (by rw [hb4.block _ (Array.getElem?_eq_some_iff.1 HRB.out).1]; exact HRB.out)
  have HLT : Hid (gb < w4.heap.size) := Lib.hid (Array.getElem?_eq_some_iff.1 HRB4.out).1
  clear hb4
  go_upto_region 5 with (first
    | (with_reducible refine wpList_alloc_z rfl _ rfl (hdC Hd.zero) HZ.out ?_)
    | (with_reducible refine wpList_store_new rfl _ _ _ rfl _ rfl (hdC x) rfl rfl HSZ.out HI.out HOC.out ?_))
  have h5 : F2 w gb m w4.heap.size x (w4.alloc (.cells (hdC x) 43)) := ⟨HB4.out.alloc HB4.out.size _, by rw [heap_alloc_old _ _ HLT.out]; exact HRB4.out, heap_alloc_new w4 _, HGE.out, HLT.out⟩
  have H5a := Lib.hid h5
  clear h5
  generalize w4.alloc (.cells (hdC x) 43) = w5 at *
  generalize w4.heap.size = gh at *
  by_cases e0 : r2 = 0
  · have hne : (r2 != 0) = false := bne_f e0
    obtain ⟨q0, yf, yx⟩ := HW.out e0
    subst e0; subst q0
    have hx345 := H5a.out.cell 345 (by rw [HM.out]; decide)
    have YF := Lib.hid yf; have YX := Lib.hid yx
    generalize m.getD 345 0 = X at *
    clear HW yf yx HR
    go_wp2_with fail
    go_loopw [7] (fun i wr => ∃ k : Nat, 257 ≤ k ∧ k ≤ 265 ∧ i = .int .i64 k ∧ Hid (F2 w gb (wipeTo m k) gh x wr)) (fun i _ => 265 - (intOf i).toNat)
    case atStart => exact ⟨257, by decide, by decide, rfl, Lib.hid (by rw [wipeTo_start]; exact H5a.out)⟩
    case round =>
      clear hx345 H5a
      obtain ⟨k, hk1, hk2, rfl, hF⟩ := hrel
      by_cases hlt : k < 265
      · have hki : (k : Int) < 265 := by omega
        have hk5 : (k : Int) < 512 := by omega
        have hcell := hF.out.cell k (by rw [wipeTo_len _ _ HM.out hk1 (by omega)]; omega)
        have hfz := hF.out.free k
        have hs := hF.out.wipe k
        rw [wipeTo_set _ _ HM.out hk1 (by omega)] at hs
        have HS2 := Lib.hid hs
        clear hs
        go_wp2
        go_round
        case rel => exact ⟨k + 1, by omega, by omega, by go_num, HS2⟩
        case measure => simp [intOf]; omega
      · obtain rfl : k = 265 := by omega
        have hki : ¬ (265 : Int) < 265 := by omega
        have hF6 := hF.out
        rw [wipeTo_end] at hF6
        have HF6 := Lib.hid hF6
        clear hF hF6 hlt hk1 hk2
        go_wp2_with (with_reducible refine wpList_load_row rfl _ _ rfl gb rfl 47 (rowA (lay m 257 z8)) (0, 0) _ HF6.out.rb Tryd.underlying47 rfl HI47'.out ?_)
        refine (HS.out wr (by exact HT.out.below HF6.out.bel)).mono ?_; rintro e w6 ⟨rfl, hb6⟩; have H6 := Lib.hid (HF6.out.keep hb6); clear hb6
        go_wp2_with fail
        refine (HR2.out w6 (by exact HE.out.below H6.out.bel)).mono ?_; rintro e w7 ⟨rfl, hb7⟩; have H7 := Lib.hid (H6.out.keep hb7); clear hb7
        have HLT7 : Hid (gh < w7.heap.size) := Lib.hid (Array.getElem?_eq_some_iff.1 H7.out.rh).1
        go_upto_region 13 with (first
          | (with_reducible refine wpList_alloc_z rfl _ rfl (hdC Hd.zero) HZ.out ?_)
          | (with_reducible refine wpList_store_new rfl _ _ _ rfl _ rfl (hdC y) rfl rfl HSZy.out HIy.out HOCy.out ?_))
        have H8 := Lib.hid (H7.out.keep ((Below.refl _ _).alloc (Nat.le_refl _) (.cells (hdC y) 43)))
        have Y8 := Lib.hid (HdAt.new w7 (hdC y))
        generalize w7.alloc (.cells (hdC y) 43) = w8 at *
        generalize w7.heap.size = gg at *
        have hf12 : w8.cell? ⟨gh, 12, none⟩ = some (.int .i64 x.form) := H8.out.hcell 12
        have hg12 : w8.cell? ⟨gg, 12, none⟩ = some (.int .i64 1) := by rw [cell_of_row _ _ _ _ _ _ Y8.out.row, ← YF.out]; rfl
        clear HF6 H6 H7 HR2 HS
        by_cases e2 : x.form = 2 ∧ X ≠ 0
        · have t1 : (x.form == 2) = true := by rw [e2.1]; rfl
          have t2 : ((X.toNat : Int) != 0) = true := by rw [bne_iff_ne]; intro h; exact e2.2 (UInt8.toNat_inj.1 (by simpa using (by omega : X.toNat = 0)))
          generalize x.form = XF at *
          clear e2 YX
          go_wp2
          go_ret
          exact ⟨ret_bool (by simp), H8.out.bel⟩
        · have hy := YX.out e2
          have ht : (x.form == 2) = false ∨ ((x.form == 2) = true ∧ ((X.toNat : Int) != 0) = false) := by
            by_cases a : x.form = 2
            · right
              refine ⟨by rw [a]; rfl, ?_⟩
              have : X = 0 := Classical.byContradiction fun hn => e2 ⟨a, hn⟩
              rw [this]; rfl
            · left; rw [beq_eq_false_iff_ne]; exact a
          have hc8 := H8.out.hcell 8
          have hc9 := H8.out.hcell 9
          have hc10 := H8.out.hcell 10
          have hc11 := H8.out.hcell 11
          have hz8 := H8.out.hfree 8
          have hz9 := H8.out.hfree 9
          have hz10 := H8.out.hfree 10
          have hz11 := H8.out.hfree 11
          have hz12 := H8.out.hfree 12
          have hne : gg ≠ gh := by have := HLT7.out; omega
          have hX : F2 w gb (lay m 257 z8) gh y (((((w8.setCell ⟨gh, 12, none⟩ (.int .i64 1)).setCell ⟨gh, 8, none⟩ (.string ⟨#[]⟩)).setCell ⟨gh, 9, none⟩ (.string ⟨#[]⟩)).setCell ⟨gh, 10, none⟩ (.int .i64 0)).setCell ⟨gh, 11, none⟩ (.int .i64 0)) := by
            rw [hy]
            exact ((((H8.out.set (x' := { x with form := 1 }) 12 _ rfl).set (x' := { x with form := 1, user := [] }) 8 _ rfl).set (x' := { x with form := 1, user := [], group := [] }) 9 _ rfl).set (x' := { x with form := 1, user := [], group := [], major := 0 }) 10 _ rfl).set 11 _ rfl
          have hY : HdAt gg (hdC y) (((((w8.setCell ⟨gh, 12, none⟩ (.int .i64 1)).setCell ⟨gh, 8, none⟩ (.string ⟨#[]⟩)).setCell ⟨gh, 9, none⟩ (.string ⟨#[]⟩)).setCell ⟨gh, 10, none⟩ (.int .i64 0)).setCell ⟨gh, 11, none⟩ (.int .i64 0)) :=
            ((((Y8.out.setOther _ hne).setOther _ hne).setOther _ hne).setOther _ hne).setOther _ hne
          have HX := Lib.hid hX; have HY := Lib.hid hY
          clear hX hY hne e2 YX hy
          generalize x.form = XF at *
          rcases ht with t1 | ⟨t1, t2⟩
          all_goals
            go_upto_region 20 with fail
            generalize ((((w8.setCell ⟨gh, 12, none⟩ (.int .i64 1)).setCell ⟨gh, 8, none⟩ (.string ⟨#[]⟩)).setCell ⟨gh, 9, none⟩ (.string ⟨#[]⟩)).setCell ⟨gh, 10, none⟩ (.int .i64 0)).setCell ⟨gh, 11, none⟩ (.int .i64 0) = w9 at *
            clear hc8 hc9 hc10 hc11 hz8 hz9 hz10 hz11 hz12 hf12 hg12
            go_wp2_with (first
              | (with_reducible refine wpList_load_row rfl _ _ rfl gg rfl 43 (hdC y) (0, 0) _ HY.out.row Tryd.underlying43 rfl HIy.out ?_)
              | ((with_reducible refine wpList_load_row_g ?_ _ _ rfl gg rfl 43 (hdC y) (0, 0) _ HY.out.row Tryd.underlying43 rfl HIy.out ?_); · rfl)
              | (with_reducible refine wpList_load_row rfl _ _ rfl gh rfl 43 (hdC y) (0, 0) _ HX.out.rh Tryd.underlying43 rfl HIy.out ?_)
              | ((with_reducible refine wpList_load_row_g ?_ _ _ rfl gh rfl 43 (hdC y) (0, 0) _ HX.out.rh Tryd.underlying43 rfl HIy.out ?_); · rfl))
            go_ret
            exact ⟨ret_bool (by simp), HX.out.bel⟩
  · have hne : (r2 != 0) = true := bne_t e0
    clear HW e0
    go_wp2
    go_ret
    exact ⟨rfl, H5a.out.bel⟩
end Go.Proofs.YtjchaogfmnabfaaDoor
