/-
  J03: Split, IndexB, LawSplit, HdrLaw, HdrMake, HdrForm, SumWalk, BinWalk, joined.
-/
import Derived.Test.YtjchaogfmnabfaaDoorJ01
import Derived.Test.YtjchaogfmnabfaaDoorShelf
import Derived.Lib.Bytealg
import Derived.Test.YtjchaogfmnabfaaDoorJ02
import Derived.Outline
import Derived.Deep.DeepCutAuto
import Derived.Deep.CutBlock
import Derived.Test.YtjchaogfmnabfaaDoorProg
import Derived.Laws.BitsAllLaws
namespace Go.Proofs.YtjchaogfmnabfaaDoor
open Go.ChangeShapes Go.WideShapes Go.ChangeAt Go.RowKit
namespace Plain
/-- the place of the last stroke among the first bytes of a name -/
def stroke (l : List UInt8) : Int := Lib.lastIndexByte ⟨(l.take (min 156 (l.length - 1))).toArray⟩ 47
def split (l : List UInt8) : List UInt8 × List UInt8 × Int :=
  if l = [] then ([], [], 43)
  else if 0 ≤ Lib.indexByte l 0 then ([], [], 43)
  else if l.length ≤ 100 then ([], l, 0)
  else if stroke l < 1 then ([], [], 43)
  else if 100 < (l.length : Int) - stroke l - 1 then ([], [], 43)
  else (l.take (stroke l).toNat, l.drop ((stroke l).toNat + 1), 0)
theorem stroke_spec (l : List UInt8) : (stroke l = -1 ∧ ∀ j, j < min 156 (l.length - 1) → l.getD j 0 ≠ 47) ∨
    (∃ i : Nat, i < min 156 (l.length - 1) ∧ stroke l = i ∧ l.getD i 0 = 47 ∧ ∀ j, i < j → j < min 156 (l.length - 1) → l.getD j 0 ≠ 47) := by
  have hsz : ((⟨(l.take (min 156 (l.length - 1))).toArray⟩ : ByteArray)).size = min 156 (l.length - 1) := by simp [ByteArray.size]
  have hat : ∀ j, j < min 156 (l.length - 1) → ((l.take (min 156 (l.length - 1))).toArray[j]!) = l.getD j 0 := by
    intro j hj
    have hjl : j < l.length := by omega
    have h1 : j < (l.take (min 156 (l.length - 1))).length := by simp; omega
    simp [List.getD, List.getElem?_eq_getElem hjl, List.getElem?_take, hj]
  have h := Lib.lastIdx_spec ⟨(l.take (min 156 (l.length - 1))).toArray⟩ 47 (min 156 (l.length - 1))
  have e : Lib.lastIdx ⟨(l.take (min 156 (l.length - 1))).toArray⟩ 47 (min 156 (l.length - 1)) = stroke l := by rw [stroke, Lib.lastIndexByte, hsz]
  rw [e] at h
  have h47 : ∀ b : UInt8, ((b.toNat : Int) = 47) ↔ b = 47 := fun b => ⟨fun hb => UInt8.toNat_inj.1 (by simpa using (by omega : b.toNat = 47)), fun hb => by subst hb; rfl⟩
  rcases h with ⟨h1, h2⟩ | ⟨i, hi, h1, h2, h3⟩
  · exact .inl ⟨h1, fun j hj hc => h2 j hj (by rw [hat j hj]; exact (h47 _).2 hc)⟩
  · exact .inr ⟨i, hi, h1, (h47 _).1 (by rw [← hat i hi]; exact h2), fun j hj hj2 hc => h3 j hj hj2 (by rw [hat j hj2]; exact (h47 _).2 hc)⟩
end Plain
def splitV (r : List UInt8 × List UInt8 × Int) : Value := .tuple #[.string ⟨r.1.toArray⟩, .string ⟨r.2.1.toArray⟩, .int .i64 r.2.2]
set_option maxHeartbeats 800000 in
theorem Split_any (l : List UInt8) (w : World) (hl : l.length ≤ 140737488351232) :
    Calls Tryd.prog 31 #[.string ⟨l.toArray⟩] w fun e w' => e = .returned (splitV (Plain.split l)) ∧ Below w.heap.size w w' := by
  have h0 : (0 : Int).toNat.toUInt8 = 0 := rfl
  have H0 := Lib.hid h0; clear h0
  unfold Plain.split
  by_cases c1 : l = []
  · subst c1
    rw [if_pos rfl]
    go_enter Tryd.func31, Tryd.ntmps31
    go_wp2
    go_ret3
    exact ⟨rfl, Below.refl _ _⟩
  · rw [if_neg c1]
    have c1b : l.isEmpty = false := by simpa using c1
    by_cases c2 : 0 ≤ Lib.indexByte l 0
    · rw [if_pos c2]
      generalize hi : Lib.indexByte l 0 = i at c2
      have HI := Lib.hid hi; clear hi
      go_enter Tryd.func31, Tryd.ntmps31
      go_wp2_with (go_at_call 52; refine (Tryd.strings_IndexByte _ _ _).mono ?_; rintro e w1 ⟨rfl, hw⟩; obtain rfl := hw.symm; rw [H0.out, HI.out])
      go_ret3
      exact ⟨rfl, Below.refl _ _⟩
    · rw [if_neg c2]
      generalize hi : Lib.indexByte l 0 = i at c2
      have HI := Lib.hid hi; clear hi
      have c2' : i < 0 := by omega
      clear c2
      by_cases c3 : l.length ≤ 100
      · rw [if_pos c3]
        go_enter Tryd.func31, Tryd.ntmps31
        go_wp2_with (go_at_call 52; refine (Tryd.strings_IndexByte _ _ _).mono ?_; rintro e w1 ⟨rfl, hw⟩; obtain rfl := hw.symm; rw [H0.out, HI.out])
        go_ret3
        exact ⟨rfl, Below.refl _ _⟩
      · rw [if_neg c3]
        have hst := Plain.stroke_spec l
        have hs1 : Plain.stroke l < 156 ∧ Plain.stroke l < l.length - 1 ∧ -1 ≤ Plain.stroke l := by rcases hst with ⟨h, _⟩ | ⟨i, hi, h, _⟩ <;> omega
        clear hst
        have HS : Hid (Lib.lastIndexByte ⟨(l.take (min 156 (l.length - 1))).toArray⟩ 47 = Plain.stroke l) := rfl
        generalize Plain.stroke l = s at *
        have HE : Hid (((⟨l.toArray⟩ : ByteArray).extract 0 (min 156 ((l.length : Int) - 1)).toNat) = ⟨(l.take (min 156 (l.length - 1))).toArray⟩) := by
          show _ = _
          rw [ByteArray.extract_mk, show (min 156 ((l.length : Int) - 1)).toNat = min 156 (l.length - 1) by omega]; simp
        have hz : ((⟨(l.take (min 156 (l.length - 1))).toArray⟩ : ByteArray)).size < 4611686018427387904 := by simp [ByteArray.size]; omega
        by_cases c4 : s < 1
        · rw [if_pos c4]
          go_enter Tryd.func31, Tryd.ntmps31
          go_wp2_with (go_at_call 52; refine (Tryd.strings_IndexByte _ _ _).mono ?_; rintro e w1 ⟨rfl, hw⟩; obtain rfl := hw.symm; rw [H0.out, HI.out])
          rw [HE.out]
          refine (Tryd.strings_LastIndexByte _ _ hz _).mono ?_; rintro e w1 ⟨rfl, hw⟩; obtain rfl := hw.symm; rw [HS.out]
          generalize (⟨(l.take (min 156 (l.length - 1))).toArray⟩ : ByteArray) = hd at *
          go_wp2
          go_ret3
          exact ⟨rfl, Below.refl _ _⟩
        · rw [if_neg c4]
          obtain ⟨k, rfl⟩ := Int.eq_ofNat_of_zero_le (show 0 ≤ s by omega)
          by_cases c5 : 100 < (l.length : Int) - k - 1
          · rw [if_pos c5]
            go_enter Tryd.func31, Tryd.ntmps31
            go_wp2_with (go_at_call 52; refine (Tryd.strings_IndexByte _ _ _).mono ?_; rintro e w1 ⟨rfl, hw⟩; obtain rfl := hw.symm; rw [H0.out, HI.out])
            rw [HE.out]
            refine (Tryd.strings_LastIndexByte _ _ hz _).mono ?_; rintro e w1 ⟨rfl, hw⟩; obtain rfl := hw.symm; rw [HS.out]
            generalize (⟨(l.take (min 156 (l.length - 1))).toArray⟩ : ByteArray) = hd at *
            go_wp2
            go_ret3
            exact ⟨rfl, Below.refl _ _⟩
          · rw [if_neg c5]
            go_enter Tryd.func31, Tryd.ntmps31
            go_wp2_with (go_at_call 52; refine (Tryd.strings_IndexByte _ _ _).mono ?_; rintro e w1 ⟨rfl, hw⟩; obtain rfl := hw.symm; rw [H0.out, HI.out])
            rw [HE.out]
            refine (Tryd.strings_LastIndexByte _ _ hz _).mono ?_; rintro e w1 ⟨rfl, hw⟩; obtain rfl := hw.symm; rw [HS.out]
            generalize (⟨(l.take (min 156 (l.length - 1))).toArray⟩ : ByteArray) = hd at *
            go_wp2
            go_quiet (fail)
            go_wp2
            go_ret3
            refine ⟨?_, Below.drewN (Below.refl _ _) _⟩
            have e1 : ((⟨l.toArray⟩ : ByteArray).extract 0 k) = ⟨(l.take k).toArray⟩ := by rw [ByteArray.extract_mk]; simp
            have e2 : ((⟨l.toArray⟩ : ByteArray).extract (k + 1) l.length) = ⟨(l.drop (k + 1)).toArray⟩ := by
              rw [ByteArray.extract_mk, List.take_of_length_le (by simp)]
            simp [splitV, e1, e2]
end Go.Proofs.YtjchaogfmnabfaaDoor
namespace Go.Proofs.YtjchaogfmnabfaaDoor
namespace Plain
theorem indexByte_none (l : List UInt8) (h : Lib.indexByte l 0 < 0) : ∀ j, j < l.length → l.getD j 0 ≠ 0 := by
  induction l with
  | nil => simp
  | cons b l ih =>
    intro j hj
    unfold Lib.indexByte at h
    split at h
    · omega
    · rename_i hb
      cases j with
      | zero => simpa using hb
      | succ j =>
        have hl : Lib.indexByte l 0 < 0 := by
          split at h
          · rename_i h1; have := eq_of_beq h1; omega
          · omega
        simpa using ih hl j (by simpa using hj)
theorem indexByte_some (l : List UInt8) (h : 0 ≤ Lib.indexByte l 0) : ∃ j, j < l.length ∧ l.getD j 0 = 0 := by
  induction l with
  | nil => simp [Lib.indexByte] at h
  | cons b l ih =>
    unfold Lib.indexByte at h
    split at h
    · rename_i hb; exact ⟨0, by simp, by simpa using hb⟩
    · split at h
      · omega
      · rename_i h1
        have hge : 0 ≤ Lib.indexByte l 0 := by
          have hm : ∀ m : List UInt8, -1 ≤ Lib.indexByte m 0 := by
            intro m
            induction m with
            | nil => simp [Lib.indexByte]
            | cons c m ihm => unfold Lib.indexByte; split; omega; split <;> omega
          have := hm l
          have : Lib.indexByte l 0 ≠ -1 := by simpa using h1
          omega
        obtain ⟨j, hj, hz⟩ := ih hge
        exact ⟨j + 1, by simpa using hj, by simpa using hz⟩
end Plain
end Go.Proofs.YtjchaogfmnabfaaDoor
namespace Go.Proofs.YtjchaogfmnabfaaDoor
open Go.ChangeShapes Go.WideShapes Go.ChangeAt Go.RowKit
namespace Plain
/-- a name that is split: its parts -/
def Well (l p s : List UInt8) : Prop := 0 < s.length ∧ s.length ≤ 100 ∧ p.length ≤ 155 ∧ ((p = [] ∧ s = l) ∨ (p ≠ [] ∧ p ++ [47] ++ s = l ∧ 100 < l.length))
/-- a name that is refused: why -/
def Ill (l : List UInt8) : Prop := (∃ j, j < l.length ∧ l.getD j 0 = 0) ∨
  ((∀ i, 1 ≤ i → i + 1 < l.length → l.getD i 0 = 47 → i ≤ 155 → l.length - 1 - i ≤ 100 → False) ∧ (l.length = 0 ∨ 100 < l.length))
theorem split_cases (l : List UInt8) : (∃ p s, split l = (p, s, 0) ∧ Well l p s) ∨ (split l = ([], [], 43) ∧ Ill l) := by
  unfold split
  by_cases c1 : l = []
  · rw [if_pos c1]; subst c1
    exact .inr ⟨rfl, .inr ⟨fun i _ h => by simp at h, .inl rfl⟩⟩
  · rw [if_neg c1]
    have hpos : 0 < l.length := List.length_pos_iff.2 c1
    by_cases c2 : 0 ≤ Lib.indexByte l 0
    · rw [if_pos c2]
      exact .inr ⟨rfl, .inl (indexByte_some l c2)⟩
    · rw [if_neg c2]
      by_cases c3 : l.length ≤ 100
      · rw [if_pos c3]
        exact .inl ⟨[], l, rfl, hpos, c3, by simp, .inl ⟨rfl, rfl⟩⟩
      · rw [if_neg c3]
        have hst := stroke_spec l
        by_cases c4 : stroke l < 1
        · rw [if_pos c4]
          refine .inr ⟨rfl, .inr ⟨fun i h1 h2 h3 h4 h5 => ?_, .inr (by omega)⟩⟩
          rcases hst with ⟨_, hn⟩ | ⟨k, hk, hs, _, hn⟩
          · exact hn i (by omega) h3
          · exact hn i (by omega) (by omega) h3
        · rw [if_neg c4]
          by_cases c5 : 100 < (l.length : Int) - stroke l - 1
          · rw [if_pos c5]
            refine .inr ⟨rfl, .inr ⟨fun i h1 h2 h3 h4 h5 => ?_, .inr (by omega)⟩⟩
            rcases hst with ⟨hs, hn⟩ | ⟨k, hk, hs, _, hn⟩
            · omega
            · exact hn i (by omega) (by omega) h3
          · rw [if_neg c5]
            rcases hst with ⟨hs, hn⟩ | ⟨k, hk, hs, h47, hn⟩
            · omega
            · rw [hs] at c4 c5 ⊢
              have hkl : k < l.length := by omega
              simp only [Int.toNat_natCast]
              refine .inl ⟨_, _, rfl, by rw [List.length_drop]; omega, by rw [List.length_drop]; omega, by rw [List.length_take]; omega, .inr ⟨?_, ?_, by omega⟩⟩
              · intro h0; rcases List.take_eq_nil_iff.1 h0 with h | h; omega; subst h; simp at hkl
              · have e : l.getD k 0 = l[k] := by simp [List.getD, List.getElem?_eq_getElem hkl]
                rw [e] at h47
                have := List.take_succ_eq_append_getElem hkl
                rw [← h47, ← this, List.take_append_drop]
end Plain
end Go.Proofs.YtjchaogfmnabfaaDoor
namespace Go.Proofs.YtjchaogfmnabfaaDoor
set_option linter.unusedVariables false
set_option linter.unusedSimpArgs false
/-- a header -/
structure Hd where
  name : List UInt8
  link : List UInt8
  mode : Int
  uid : Int
  gid : Int
  size : Int
  mtime : Int
  ty : UInt8
  user : List UInt8
  group : List UInt8
  major : Int
  minor : Int
  form : Int
def Hd.zero : Hd := ⟨[], [], 0, 0, 0, 0, 0, 0, [], [], 0, 0, 0⟩
def hdV (h : Hd) : Value := .agg #[.string ⟨h.name.toArray⟩, .string ⟨h.link.toArray⟩, .int .i64 h.mode, .int .i64 h.uid, .int .i64 h.gid, .int .i64 h.size, .int .i64 h.mtime, .int .u8 (h.ty.toNat : Int), .string ⟨h.user.toArray⟩, .string ⟨h.group.toArray⟩, .int .i64 h.major, .int .i64 h.minor, .int .i64 h.form]
/-- the bytes from s up to e -/
def fld (l : List UInt8) (s e : Nat) : List UInt8 := (l.take e).drop s
def numOk (p : Int × Int) (lo hi : Int) : Bool := decide (p.2 = 0 ∧ lo ≤ p.1 ∧ p.1 ≤ hi)
def magicU : List UInt8 := [117, 115, 116, 97, 114, 0, 48, 48]
def magicG : List UInt8 := [117, 115, 116, 97, 114, 32, 32, 0]
def formOf (l : List UInt8) : Int := if fld l 257 265 = magicU then 2 else if fld l 257 265 = magicG then 3 else 1
def tyOf (l : List UInt8) : UInt8 := if l.getD 156 0 = 0 ∨ l.getD 156 0 = 55 then 48 else l.getD 156 0
def isDev (l : List UInt8) : Bool := decide (formOf l ≠ 1 ∧ (tyOf l = 51 ∨ tyOf l = 52))
def numAt (l : List UInt8) (s e : Nat) : Int × Int := Plain.number (fld l s e)
def numsOk (l : List UInt8) : Bool :=
  numOk (numAt l 100 108) 0 9223372036854775807 && numOk (numAt l 108 116) 0 2147483647 && numOk (numAt l 116 124) 0 2147483647 && numOk (numAt l 124 136) 0 9223372036854775807 && numOk (numAt l 136 148) (-1099511627776) 1099511627776 &&
  (!isDev l || (numOk (numAt l 329 337) 0 9223372036854775807 && numOk (numAt l 337 345) 0 9223372036854775807))
def nameOf (l : List UInt8) : List UInt8 :=
  if formOf l = 2 ∧ Plain.text (fld l 345 500) ≠ [] then Plain.text (fld l 345 500) ++ 47 :: Plain.text (fld l 0 100) else Plain.text (fld l 0 100)
def hdOf (l : List UInt8) : Hd :=
  ⟨nameOf l, Plain.text (fld l 157 257), (numAt l 100 108).1, (numAt l 108 116).1, (numAt l 116 124).1, if 49 ≤ (tyOf l).toNat ∧ (tyOf l).toNat ≤ 54 then 0 else (numAt l 124 136).1, (numAt l 136 148).1, tyOf l,
    if formOf l = 1 then [] else Plain.text (fld l 265 297), if formOf l = 1 then [] else Plain.text (fld l 297 329), if isDev l = true then (numAt l 329 337).1 else 0, if isDev l = true then (numAt l 337 345).1 else 0, formOf l⟩
/-- the document's answer -/
def Plain.hread (l : List UInt8) : Hd × Int :=
  if l = zblk then (Hd.zero, 40) else if Plain.sealed l = false then (Hd.zero, 41) else if numsOk l = false then (Hd.zero, 42) else (hdOf l, 0)
/-- t laid over l from f on -/
def lay (l : List UInt8) (f : Nat) (t : List UInt8) : List UInt8 := l.take f ++ t ++ l.drop (f + t.length)
theorem lay_len (l : List UInt8) (f : Nat) (t : List UInt8) (h : f + t.length ≤ l.length) : (lay l f t).length = l.length := by
  unfold lay; rw [List.length_append, List.length_append, List.length_take, List.length_drop]; omega
theorem lay_nil (l : List UInt8) (f : Nat) : lay l f [] = l := by unfold lay; simp
theorem fld_len (l : List UInt8) (s e : Nat) (h : e ≤ l.length) : (fld l s e).length = e - s := by unfold fld; rw [List.length_drop, List.length_take]; omega
theorem fld_getD (l : List UInt8) (s e k : Nat) (h : s + k < e) : (fld l s e).getD k 0 = l.getD (s + k) 0 := by
  unfold fld; simp [List.getD, List.getElem?_take, h]
theorem lay_getD (l : List UInt8) (f : Nat) (t : List UInt8) (h : f + t.length ≤ l.length) (k : Nat) : (lay l f t).getD k 0 = if f ≤ k ∧ k < f + t.length then t.getD (k - f) 0 else l.getD k 0 := by
  have hf : (l.take f).length = f := by rw [List.length_take]; omega
  unfold lay
  by_cases h1 : k < f
  · rw [if_neg (by omega)]
    simp only [List.getD]
    rw [List.getElem?_append_left (by rw [List.length_append, hf]; omega), List.getElem?_append_left (by rw [hf]; exact h1), List.getElem?_take, if_pos h1]
  · by_cases h2 : k < f + t.length
    · rw [if_pos ⟨by omega, h2⟩]
      simp only [List.getD]
      rw [List.getElem?_append_left (by rw [List.length_append, hf]; omega), List.getElem?_append_right (by omega), hf]
    · rw [if_neg (by omega)]
      simp only [List.getD]
      rw [List.getElem?_append_right (by rw [List.length_append, hf]; omega), List.length_append, hf, List.getElem?_drop, show f + t.length + (k - (f + t.length)) = k by omega]
theorem fld_ext (l m : List UInt8) (s e : Nat) (hl : e ≤ l.length) (hm : e ≤ m.length) (h : ∀ k, s ≤ k → k < e → l.getD k 0 = m.getD k 0) : fld l s e = fld m s e := by
  refine list_ext_getD (by rw [fld_len _ _ _ hl, fld_len _ _ _ hm]) fun k hk => ?_
  rw [fld_len _ _ _ hl] at hk
  rw [fld_getD _ _ _ _ (by omega), fld_getD _ _ _ _ (by omega)]
  exact h _ (by omega) (by omega)
theorem fld_lay (l : List UInt8) (f : Nat) (t : List UInt8) (s e : Nat) (h : f + t.length ≤ l.length) (he : e ≤ l.length) (hd : e ≤ f ∨ f + t.length ≤ s) : fld (lay l f t) s e = fld l s e := by
  refine fld_ext _ _ _ _ (by rw [lay_len _ _ _ h]; exact he) he fun k h1 h2 => ?_
  rw [lay_getD _ _ _ h, if_neg (by omega)]
theorem fld_lay_in (l : List UInt8) (f : Nat) (t : List UInt8) (e : Nat) (h : f + t.length ≤ l.length) (he : e = f + t.length) : fld (lay l f t) f e = t := by
  subst he
  refine list_ext_getD (by rw [fld_len _ _ _ (by rw [lay_len _ _ _ h]; exact h)]; omega) fun k hk => ?_
  rw [fld_len _ _ _ (by rw [lay_len _ _ _ h]; exact h)] at hk
  rw [fld_getD _ _ _ _ (by omega), lay_getD _ _ _ h, if_pos (by omega), show f + k - f = k by omega]
theorem lay_one (l : List UInt8) (k : Nat) (c : UInt8) (h : k < l.length) : l.set k c = lay l k [c] := by
  have h' : k + [c].length ≤ l.length := h
  refine list_ext_getD (by rw [lay_len _ _ _ h']; simp) fun j hj => ?_
  rw [lay_getD _ _ _ h']
  by_cases e : j = k
  · subst e; simp [List.getD, h]
  · rw [if_neg (by simp; omega)]; simp [List.getD, List.getElem?_set, show ¬ k = j from fun h => e h.symm]
theorem seal_lay (l : List UInt8) : Plain.seal l = lay l 148 (octRow (Plain.sum uby l).toNat 6 ++ [0, 32]) := by
  unfold Plain.seal lay
  rw [sealRow_len]
theorem sum_lay (f : UInt8 → Int) (l : List UInt8) (t : List UInt8) (h : l.length = 512) (ht : t.length = 8) : Plain.sum f (lay l 148 t) = Plain.sum f l := by
  have e1 : (lay l 148 t).take 148 = l.take 148 := by
    unfold lay
    rw [List.append_assoc, List.take_append_of_le_length (by rw [List.length_take]; omega), List.take_of_length_le (by rw [List.length_take]; omega)]
  have e2 : (lay l 148 t).drop 156 = l.drop 156 := by
    unfold lay
    have : (l.take 148 ++ t).length = 156 := by rw [List.length_append, List.length_take]; omega
    rw [ht, show 148 + 8 = 156 by rfl]
    rw [List.drop_append_of_le_length (by omega), List.drop_of_length_le (by omega), List.nil_append]
  unfold Plain.sum
  rw [e1, e2]
/-- t with noughts behind it, n bytes in all -/
def pad (n : Nat) (t : List UInt8) : List UInt8 := t ++ (List.replicate n 0).drop t.length
theorem pad_len (n : Nat) (t : List UInt8) (h : t.length ≤ n) : (pad n t).length = n := by unfold pad; rw [List.length_append, List.length_drop, List.length_replicate]; omega
theorem pad_full (n : Nat) (t : List UInt8) (h : t.length = n) : pad n t = t := by unfold pad; simp [h]
theorem pad_nil (n : Nat) : pad n [] = List.replicate n 0 := by unfold pad; simp
theorem text_pad (n : Nat) (t : List UInt8) (h : t.length ≤ n) (h0 : (0 : UInt8) ∉ t) : Plain.text (pad n t) = t := by
  unfold pad Plain.text
  rw [List.takeWhile_append_of_pos (fun x hx => by rw [bne_iff_ne]; intro e; subst e; exact h0 hx)]
  rw [List.drop_replicate]
  cases n - t.length with
  | zero => simp
  | succ m => rw [List.replicate_succ, List.takeWhile_cons_of_neg (by decide), List.append_nil]
/-- parts of fixed widths, one behind the other -/
def blkT : List Nat → List (List UInt8) → List UInt8
  | n :: W, t :: T => pad n t ++ blkT W T
  | _, _ => []
def Fit : List Nat → List (List UInt8) → Prop
  | n :: W, t :: T => t.length ≤ n ∧ Fit W T
  | [], [] => True
  | _, _ => False
theorem blkT_len : ∀ (W : List Nat) (T : List (List UInt8)), Fit W T → (blkT W T).length = W.sum
  | [], [], _ => rfl
  | n :: W, t :: T, h => by
    unfold blkT
    rw [List.length_append, pad_len n t h.1, blkT_len W T h.2, List.sum_cons]
  | [], _ :: _, h => h.elim
  | _ :: _, [], h => h.elim
theorem lay_far (a r : List UInt8) (f : Nat) (t : List UInt8) : lay (a ++ r) (a.length + f) t = a ++ lay r f t := by
  unfold lay
  rw [List.take_append, List.drop_append, List.take_of_length_le (by omega), List.drop_of_length_le (by omega), show a.length + f - a.length = f by omega, show a.length + f + t.length - a.length = f + t.length by omega]
  simp
theorem lay_blk : ∀ (W : List Nat) (T : List (List UInt8)) (k : Nat) (t : List UInt8), Fit W T → T[k]? = some [] → t.length ≤ W.getD k 0 → lay (blkT W T) ((W.take k).sum) t = blkT W (T.set k t) ∧ Fit W (T.set k t)
  | [], [], k, t, _, h, _ => by simp at h
  | [], _ :: _, _, _, h, _, _ => h.elim
  | _ :: _, [], _, _, h, _, _ => h.elim
  | n :: W, u :: T, 0, t, hF, h, ht => by
    simp only [List.getElem?_cons_zero, Option.some.injEq] at h
    subst h
    simp only [List.getD_cons_zero] at ht
    refine ⟨?_, ht, hF.2⟩
    simp only [List.set_cons_zero, List.take_zero, List.sum_nil]
    unfold blkT lay
    rw [pad_nil, List.take_zero, List.nil_append, Nat.zero_add, List.drop_append_of_le_length (by rw [List.length_replicate]; exact ht)]
    unfold pad
    rw [List.append_assoc]
  | n :: W, u :: T, k + 1, t, hF, h, ht => by
    simp only [List.getElem?_cons_succ] at h
    obtain ⟨e, hF2⟩ := lay_blk W T k t hF.2 h (by simpa using ht)
    refine ⟨?_, hF.1, hF2⟩
    simp only [List.set_cons_succ, List.take_succ_cons, List.sum_cons]
    unfold blkT
    rw [show n + (W.take k).sum = (pad n u).length + (W.take k).sum by rw [pad_len n u hF.1], lay_far, e]
theorem fld_far (a r : List UInt8) (s e : Nat) : fld (a ++ r) (a.length + s) (a.length + e) = fld r s e := by
  unfold fld
  rw [List.take_append, List.drop_append, List.take_of_length_le (by omega), List.drop_of_length_le (by omega), show a.length + e - a.length = e by omega, show a.length + s - a.length = s by omega, List.nil_append]
theorem fld_blk : ∀ (W : List Nat) (T : List (List UInt8)) (k : Nat) (t : List UInt8), Fit W T → T[k]? = some t → fld (blkT W T) ((W.take k).sum) ((W.take (k + 1)).sum) = pad (W.getD k 0) t
  | [], [], k, t, _, h => by simp at h
  | [], _ :: _, _, _, h, _ => h.elim
  | _ :: _, [], _, _, h, _ => h.elim
  | n :: W, u :: T, 0, t, hF, h => by
    simp only [List.getElem?_cons_zero, Option.some.injEq] at h
    subst h
    have hl := pad_len n u hF.1
    simp only [List.take_zero, List.sum_nil, List.take_succ_cons, List.sum_cons, List.getD_cons_zero, Nat.add_zero]
    unfold blkT fld
    rw [List.drop_zero, List.take_append_of_le_length (by omega), List.take_of_length_le (by omega)]
  | n :: W, u :: T, k + 1, t, hF, h => by
    simp only [List.getElem?_cons_succ] at h
    have e := fld_blk W T k t hF.2 h
    have hl := pad_len n u hF.1
    simp only [List.take_succ_cons, List.sum_cons, List.getD_cons_succ]
    unfold blkT
    rw [show n + (W.take k).sum = (pad n u).length + (W.take k).sum by rw [hl], show n + (W.take (k + 1)).sum = (pad n u).length + (W.take (k + 1)).sum by rw [hl], fld_far]
    exact e
end Go.Proofs.YtjchaogfmnabfaaDoor
namespace Go.Proofs.YtjchaogfmnabfaaDoor
set_option linter.unusedVariables false
set_option linter.unusedSimpArgs false
def W16 : List Nat := [100, 8, 8, 8, 12, 12, 8, 1, 100, 8, 32, 32, 8, 8, 155, 12]
theorem fit0 : Fit W16 [[], [], [], [], [], [], [], [], [], [], [], [], [], [], [], []] := by simp [Fit, W16]
theorem zblk_T0 : zblk = blkT W16 [[], [], [], [], [], [], [], [], [], [], [], [], [], [], [], []] := by decide +kernel
theorem chain_prog (r n0 n1 n2 n3 n4 n5 n6 link user group p : List UInt8) (ty : UInt8) (hr : r.length ≤ 100) (h0 : n0.length ≤ 8) (h1 : n1.length ≤ 8) (h2 : n2.length ≤ 8) (h3 : n3.length ≤ 12) (h4 : n4.length ≤ 12) (h5 : n5.length ≤ 8) (h6 : n6.length ≤ 8) (hl : link.length ≤ 100) (hu : user.length ≤ 32) (hg : group.length ≤ 32) (hp : p.length ≤ 155) :
    lay (lay (lay (lay (lay (lay (lay (lay (lay (lay (lay (lay (lay (lay zblk 100 n0) 108 n1) 116 n2) 124 n3) 136 n4) 329 n5) 337 n6) 0 r) 156 [ty]) 157 link) 257 magicU) 265 user) 297 group) 345 p = blkT W16 [r, n0, n1, n2, n3, n4, [], [ty], link, magicU, user, group, n5, n6, p, []] := by
  have f := fit0
  rw [zblk_T0]
  have g := lay_blk W16 [[], [], [], [], [], [], [], [], [], [], [], [], [], [], [], []] 1 n0 f rfl h0
  rw [show lay (blkT W16 [[], [], [], [], [], [], [], [], [], [], [], [], [], [], [], []]) 100 n0 = blkT W16 [[], n0, [], [], [], [], [], [], [], [], [], [], [], [], [], []] from g.1]
  replace f : Fit W16 [[], n0, [], [], [], [], [], [], [], [], [], [], [], [], [], []] := g.2
  clear g
  have g := lay_blk W16 [[], n0, [], [], [], [], [], [], [], [], [], [], [], [], [], []] 2 n1 f rfl h1
  rw [show lay (blkT W16 [[], n0, [], [], [], [], [], [], [], [], [], [], [], [], [], []]) 108 n1 = blkT W16 [[], n0, n1, [], [], [], [], [], [], [], [], [], [], [], [], []] from g.1]
  replace f : Fit W16 [[], n0, n1, [], [], [], [], [], [], [], [], [], [], [], [], []] := g.2
  clear g
  have g := lay_blk W16 [[], n0, n1, [], [], [], [], [], [], [], [], [], [], [], [], []] 3 n2 f rfl h2
  rw [show lay (blkT W16 [[], n0, n1, [], [], [], [], [], [], [], [], [], [], [], [], []]) 116 n2 = blkT W16 [[], n0, n1, n2, [], [], [], [], [], [], [], [], [], [], [], []] from g.1]
  replace f : Fit W16 [[], n0, n1, n2, [], [], [], [], [], [], [], [], [], [], [], []] := g.2
  clear g
  have g := lay_blk W16 [[], n0, n1, n2, [], [], [], [], [], [], [], [], [], [], [], []] 4 n3 f rfl h3
  rw [show lay (blkT W16 [[], n0, n1, n2, [], [], [], [], [], [], [], [], [], [], [], []]) 124 n3 = blkT W16 [[], n0, n1, n2, n3, [], [], [], [], [], [], [], [], [], [], []] from g.1]
  replace f : Fit W16 [[], n0, n1, n2, n3, [], [], [], [], [], [], [], [], [], [], []] := g.2
  clear g
  have g := lay_blk W16 [[], n0, n1, n2, n3, [], [], [], [], [], [], [], [], [], [], []] 5 n4 f rfl h4
  rw [show lay (blkT W16 [[], n0, n1, n2, n3, [], [], [], [], [], [], [], [], [], [], []]) 136 n4 = blkT W16 [[], n0, n1, n2, n3, n4, [], [], [], [], [], [], [], [], [], []] from g.1]
  replace f : Fit W16 [[], n0, n1, n2, n3, n4, [], [], [], [], [], [], [], [], [], []] := g.2
  clear g
  have g := lay_blk W16 [[], n0, n1, n2, n3, n4, [], [], [], [], [], [], [], [], [], []] 12 n5 f rfl h5
  rw [show lay (blkT W16 [[], n0, n1, n2, n3, n4, [], [], [], [], [], [], [], [], [], []]) 329 n5 = blkT W16 [[], n0, n1, n2, n3, n4, [], [], [], [], [], [], n5, [], [], []] from g.1]
  replace f : Fit W16 [[], n0, n1, n2, n3, n4, [], [], [], [], [], [], n5, [], [], []] := g.2
  clear g
  have g := lay_blk W16 [[], n0, n1, n2, n3, n4, [], [], [], [], [], [], n5, [], [], []] 13 n6 f rfl h6
  rw [show lay (blkT W16 [[], n0, n1, n2, n3, n4, [], [], [], [], [], [], n5, [], [], []]) 337 n6 = blkT W16 [[], n0, n1, n2, n3, n4, [], [], [], [], [], [], n5, n6, [], []] from g.1]
  replace f : Fit W16 [[], n0, n1, n2, n3, n4, [], [], [], [], [], [], n5, n6, [], []] := g.2
  clear g
  have g := lay_blk W16 [[], n0, n1, n2, n3, n4, [], [], [], [], [], [], n5, n6, [], []] 0 r f rfl hr
  rw [show lay (blkT W16 [[], n0, n1, n2, n3, n4, [], [], [], [], [], [], n5, n6, [], []]) 0 r = blkT W16 [r, n0, n1, n2, n3, n4, [], [], [], [], [], [], n5, n6, [], []] from g.1]
  replace f : Fit W16 [r, n0, n1, n2, n3, n4, [], [], [], [], [], [], n5, n6, [], []] := g.2
  clear g
  have g := lay_blk W16 [r, n0, n1, n2, n3, n4, [], [], [], [], [], [], n5, n6, [], []] 7 [ty] f rfl (by decide : 1 ≤ 1)
  rw [show lay (blkT W16 [r, n0, n1, n2, n3, n4, [], [], [], [], [], [], n5, n6, [], []]) 156 [ty] = blkT W16 [r, n0, n1, n2, n3, n4, [], [ty], [], [], [], [], n5, n6, [], []] from g.1]
  replace f : Fit W16 [r, n0, n1, n2, n3, n4, [], [ty], [], [], [], [], n5, n6, [], []] := g.2
  clear g
  have g := lay_blk W16 [r, n0, n1, n2, n3, n4, [], [ty], [], [], [], [], n5, n6, [], []] 8 link f rfl hl
  rw [show lay (blkT W16 [r, n0, n1, n2, n3, n4, [], [ty], [], [], [], [], n5, n6, [], []]) 157 link = blkT W16 [r, n0, n1, n2, n3, n4, [], [ty], link, [], [], [], n5, n6, [], []] from g.1]
  replace f : Fit W16 [r, n0, n1, n2, n3, n4, [], [ty], link, [], [], [], n5, n6, [], []] := g.2
  clear g
  have g := lay_blk W16 [r, n0, n1, n2, n3, n4, [], [ty], link, [], [], [], n5, n6, [], []] 9 magicU f rfl (by decide : 8 ≤ 8)
  rw [show lay (blkT W16 [r, n0, n1, n2, n3, n4, [], [ty], link, [], [], [], n5, n6, [], []]) 257 magicU = blkT W16 [r, n0, n1, n2, n3, n4, [], [ty], link, magicU, [], [], n5, n6, [], []] from g.1]
  replace f : Fit W16 [r, n0, n1, n2, n3, n4, [], [ty], link, magicU, [], [], n5, n6, [], []] := g.2
  clear g
  have g := lay_blk W16 [r, n0, n1, n2, n3, n4, [], [ty], link, magicU, [], [], n5, n6, [], []] 10 user f rfl hu
  rw [show lay (blkT W16 [r, n0, n1, n2, n3, n4, [], [ty], link, magicU, [], [], n5, n6, [], []]) 265 user = blkT W16 [r, n0, n1, n2, n3, n4, [], [ty], link, magicU, user, [], n5, n6, [], []] from g.1]
  replace f : Fit W16 [r, n0, n1, n2, n3, n4, [], [ty], link, magicU, user, [], n5, n6, [], []] := g.2
  clear g
  have g := lay_blk W16 [r, n0, n1, n2, n3, n4, [], [ty], link, magicU, user, [], n5, n6, [], []] 11 group f rfl hg
  rw [show lay (blkT W16 [r, n0, n1, n2, n3, n4, [], [ty], link, magicU, user, [], n5, n6, [], []]) 297 group = blkT W16 [r, n0, n1, n2, n3, n4, [], [ty], link, magicU, user, group, n5, n6, [], []] from g.1]
  replace f : Fit W16 [r, n0, n1, n2, n3, n4, [], [ty], link, magicU, user, group, n5, n6, [], []] := g.2
  clear g
  have g := lay_blk W16 [r, n0, n1, n2, n3, n4, [], [ty], link, magicU, user, group, n5, n6, [], []] 14 p f rfl hp
  rw [show lay (blkT W16 [r, n0, n1, n2, n3, n4, [], [ty], link, magicU, user, group, n5, n6, [], []]) 345 p = blkT W16 [r, n0, n1, n2, n3, n4, [], [ty], link, magicU, user, group, n5, n6, p, []] from g.1]
theorem chain_ref (r n0 n1 n2 n3 n4 n5 n6 link user group p : List UInt8) (ty : UInt8) (hr : r.length ≤ 100) (h0 : n0.length ≤ 8) (h1 : n1.length ≤ 8) (h2 : n2.length ≤ 8) (h3 : n3.length ≤ 12) (h4 : n4.length ≤ 12) (h5 : n5.length ≤ 8) (h6 : n6.length ≤ 8) (hl : link.length ≤ 100) (hu : user.length ≤ 32) (hg : group.length ≤ 32) (hp : p.length ≤ 155) :
    lay (lay (lay (lay (lay (lay (lay (lay (lay (lay (lay (lay (lay (lay zblk 0 r) 157 link) 257 magicU) 265 user) 297 group) 345 p) 156 [ty]) 100 n0) 108 n1) 116 n2) 124 n3) 136 n4) 329 n5) 337 n6 = blkT W16 [r, n0, n1, n2, n3, n4, [], [ty], link, magicU, user, group, n5, n6, p, []] := by
  have f := fit0
  rw [zblk_T0]
  have g := lay_blk W16 [[], [], [], [], [], [], [], [], [], [], [], [], [], [], [], []] 0 r f rfl hr
  rw [show lay (blkT W16 [[], [], [], [], [], [], [], [], [], [], [], [], [], [], [], []]) 0 r = blkT W16 [r, [], [], [], [], [], [], [], [], [], [], [], [], [], [], []] from g.1]
  replace f : Fit W16 [r, [], [], [], [], [], [], [], [], [], [], [], [], [], [], []] := g.2
  clear g
  have g := lay_blk W16 [r, [], [], [], [], [], [], [], [], [], [], [], [], [], [], []] 8 link f rfl hl
  rw [show lay (blkT W16 [r, [], [], [], [], [], [], [], [], [], [], [], [], [], [], []]) 157 link = blkT W16 [r, [], [], [], [], [], [], [], link, [], [], [], [], [], [], []] from g.1]
  replace f : Fit W16 [r, [], [], [], [], [], [], [], link, [], [], [], [], [], [], []] := g.2
  clear g
  have g := lay_blk W16 [r, [], [], [], [], [], [], [], link, [], [], [], [], [], [], []] 9 magicU f rfl (by decide : 8 ≤ 8)
  rw [show lay (blkT W16 [r, [], [], [], [], [], [], [], link, [], [], [], [], [], [], []]) 257 magicU = blkT W16 [r, [], [], [], [], [], [], [], link, magicU, [], [], [], [], [], []] from g.1]
  replace f : Fit W16 [r, [], [], [], [], [], [], [], link, magicU, [], [], [], [], [], []] := g.2
  clear g
  have g := lay_blk W16 [r, [], [], [], [], [], [], [], link, magicU, [], [], [], [], [], []] 10 user f rfl hu
  rw [show lay (blkT W16 [r, [], [], [], [], [], [], [], link, magicU, [], [], [], [], [], []]) 265 user = blkT W16 [r, [], [], [], [], [], [], [], link, magicU, user, [], [], [], [], []] from g.1]
  replace f : Fit W16 [r, [], [], [], [], [], [], [], link, magicU, user, [], [], [], [], []] := g.2
  clear g
  have g := lay_blk W16 [r, [], [], [], [], [], [], [], link, magicU, user, [], [], [], [], []] 11 group f rfl hg
  rw [show lay (blkT W16 [r, [], [], [], [], [], [], [], link, magicU, user, [], [], [], [], []]) 297 group = blkT W16 [r, [], [], [], [], [], [], [], link, magicU, user, group, [], [], [], []] from g.1]
  replace f : Fit W16 [r, [], [], [], [], [], [], [], link, magicU, user, group, [], [], [], []] := g.2
  clear g
  have g := lay_blk W16 [r, [], [], [], [], [], [], [], link, magicU, user, group, [], [], [], []] 14 p f rfl hp
  rw [show lay (blkT W16 [r, [], [], [], [], [], [], [], link, magicU, user, group, [], [], [], []]) 345 p = blkT W16 [r, [], [], [], [], [], [], [], link, magicU, user, group, [], [], p, []] from g.1]
  replace f : Fit W16 [r, [], [], [], [], [], [], [], link, magicU, user, group, [], [], p, []] := g.2
  clear g
  have g := lay_blk W16 [r, [], [], [], [], [], [], [], link, magicU, user, group, [], [], p, []] 7 [ty] f rfl (by decide : 1 ≤ 1)
  rw [show lay (blkT W16 [r, [], [], [], [], [], [], [], link, magicU, user, group, [], [], p, []]) 156 [ty] = blkT W16 [r, [], [], [], [], [], [], [ty], link, magicU, user, group, [], [], p, []] from g.1]
  replace f : Fit W16 [r, [], [], [], [], [], [], [ty], link, magicU, user, group, [], [], p, []] := g.2
  clear g
  have g := lay_blk W16 [r, [], [], [], [], [], [], [ty], link, magicU, user, group, [], [], p, []] 1 n0 f rfl h0
  rw [show lay (blkT W16 [r, [], [], [], [], [], [], [ty], link, magicU, user, group, [], [], p, []]) 100 n0 = blkT W16 [r, n0, [], [], [], [], [], [ty], link, magicU, user, group, [], [], p, []] from g.1]
  replace f : Fit W16 [r, n0, [], [], [], [], [], [ty], link, magicU, user, group, [], [], p, []] := g.2
  clear g
  have g := lay_blk W16 [r, n0, [], [], [], [], [], [ty], link, magicU, user, group, [], [], p, []] 2 n1 f rfl h1
  rw [show lay (blkT W16 [r, n0, [], [], [], [], [], [ty], link, magicU, user, group, [], [], p, []]) 108 n1 = blkT W16 [r, n0, n1, [], [], [], [], [ty], link, magicU, user, group, [], [], p, []] from g.1]
  replace f : Fit W16 [r, n0, n1, [], [], [], [], [ty], link, magicU, user, group, [], [], p, []] := g.2
  clear g
  have g := lay_blk W16 [r, n0, n1, [], [], [], [], [ty], link, magicU, user, group, [], [], p, []] 3 n2 f rfl h2
  rw [show lay (blkT W16 [r, n0, n1, [], [], [], [], [ty], link, magicU, user, group, [], [], p, []]) 116 n2 = blkT W16 [r, n0, n1, n2, [], [], [], [ty], link, magicU, user, group, [], [], p, []] from g.1]
  replace f : Fit W16 [r, n0, n1, n2, [], [], [], [ty], link, magicU, user, group, [], [], p, []] := g.2
  clear g
  have g := lay_blk W16 [r, n0, n1, n2, [], [], [], [ty], link, magicU, user, group, [], [], p, []] 4 n3 f rfl h3
  rw [show lay (blkT W16 [r, n0, n1, n2, [], [], [], [ty], link, magicU, user, group, [], [], p, []]) 124 n3 = blkT W16 [r, n0, n1, n2, n3, [], [], [ty], link, magicU, user, group, [], [], p, []] from g.1]
  replace f : Fit W16 [r, n0, n1, n2, n3, [], [], [ty], link, magicU, user, group, [], [], p, []] := g.2
  clear g
  have g := lay_blk W16 [r, n0, n1, n2, n3, [], [], [ty], link, magicU, user, group, [], [], p, []] 5 n4 f rfl h4
  rw [show lay (blkT W16 [r, n0, n1, n2, n3, [], [], [ty], link, magicU, user, group, [], [], p, []]) 136 n4 = blkT W16 [r, n0, n1, n2, n3, n4, [], [ty], link, magicU, user, group, [], [], p, []] from g.1]
  replace f : Fit W16 [r, n0, n1, n2, n3, n4, [], [ty], link, magicU, user, group, [], [], p, []] := g.2
  clear g
  have g := lay_blk W16 [r, n0, n1, n2, n3, n4, [], [ty], link, magicU, user, group, [], [], p, []] 12 n5 f rfl h5
  rw [show lay (blkT W16 [r, n0, n1, n2, n3, n4, [], [ty], link, magicU, user, group, [], [], p, []]) 329 n5 = blkT W16 [r, n0, n1, n2, n3, n4, [], [ty], link, magicU, user, group, n5, [], p, []] from g.1]
  replace f : Fit W16 [r, n0, n1, n2, n3, n4, [], [ty], link, magicU, user, group, n5, [], p, []] := g.2
  clear g
  have g := lay_blk W16 [r, n0, n1, n2, n3, n4, [], [ty], link, magicU, user, group, n5, [], p, []] 13 n6 f rfl h6
  rw [show lay (blkT W16 [r, n0, n1, n2, n3, n4, [], [ty], link, magicU, user, group, n5, [], p, []]) 337 n6 = blkT W16 [r, n0, n1, n2, n3, n4, [], [ty], link, magicU, user, group, n5, n6, p, []] from g.1]
/-- can the header be written? -/
def goodH (h : Hd) : Bool := decide ((Plain.split h.name).2.2 = 0 ∧ h.link.length ≤ 100 ∧ h.user.length ≤ 32 ∧ h.group.length ≤ 32 ∧ (0 : UInt8) ∉ h.link ∧ (0 : UInt8) ∉ h.user ∧ (0 : UInt8) ∉ h.group ∧ h.ty ≠ 0) &&
  decide (0 ≤ h.mode ∧ 0 ≤ h.size ∧ 0 ≤ h.major ∧ 0 ≤ h.minor ∧ 0 ≤ h.uid ∧ h.uid ≤ 2147483647 ∧ 0 ≤ h.gid ∧ h.gid ≤ 2147483647 ∧ -1099511627776 ≤ h.mtime ∧ h.mtime ≤ 1099511627776) &&
  decide ((Plain.put h.mode 8).2 = 0 ∧ (Plain.put h.uid 8).2 = 0 ∧ (Plain.put h.gid 8).2 = 0 ∧ (Plain.put h.size 12).2 = 0 ∧ (Plain.put h.mtime 12).2 = 0 ∧ (Plain.put h.major 8).2 = 0 ∧ (Plain.put h.minor 8).2 = 0)
def partsOf (h : Hd) (s : List UInt8) : List (List UInt8) :=
  [(Plain.split h.name).2.1, (Plain.put h.mode 8).1, (Plain.put h.uid 8).1, (Plain.put h.gid 8).1, (Plain.put h.size 12).1, (Plain.put h.mtime 12).1, s, [h.ty], h.link, magicU, h.user, h.group, (Plain.put h.major 8).1, (Plain.put h.minor 8).1, (Plain.split h.name).1, []]
def blkOf (h : Hd) : List UInt8 := blkT W16 (partsOf h [])
/-- the document's answer -/
def Plain.make (h : Hd) : List UInt8 × Int := if goodH h = true then (Plain.seal (blkOf h), 0) else (zblk, 43)
/-- the numbers lie in the range of int -/
structure HdIn (h : Hd) : Prop where
  mode : inI64 h.mode = true
  uid : inI64 h.uid = true
  gid : inI64 h.gid = true
  size : inI64 h.size = true
  mtime : inI64 h.mtime = true
  major : inI64 h.major = true
  minor : inI64 h.minor = true
/-- what is read again -/
def roundH (h : Hd) : Hd :=
  ⟨h.name, h.link, h.mode, h.uid, h.gid, if 49 ≤ h.ty.toNat ∧ h.ty.toNat ≤ 54 then 0 else h.size, h.mtime, if h.ty = 55 then 48 else h.ty, h.user, h.group, if h.ty = 51 ∨ h.ty = 52 then h.major else 0, if h.ty = 51 ∨ h.ty = 52 then h.minor else 0, 2⟩
theorem put_len (v n : Int) (h63 : inI64 v = true) (h : (Plain.put v n).2 = 0) (m : Nat) (hm : n = m) : (Plain.put v n).1.length = m := by
  have := (put_read v n h63 h).2; omega
theorem number_pad (v n : Int) (h63 : inI64 v = true) (h : (Plain.put v n).2 = 0) (m : Nat) (hm : n = m) : Plain.number (pad m (Plain.put v n).1) = (v, 0) := by
  rw [pad_full m _ (put_len v n h63 h m hm)]; exact (put_read v n h63 h).1
theorem split_nonul (l : List UInt8) (h : (Plain.split l).2.2 = 0) : ∀ x ∈ l, x ≠ 0 := by
  unfold Plain.split at h
  by_cases c1 : l = []
  · subst c1; simp
  · rw [if_neg c1] at h
    by_cases c2 : 0 ≤ Lib.indexByte l 0
    · rw [if_pos c2] at h; cases h
    · intro x hx e
      obtain ⟨k, hk, he⟩ := List.getElem_of_mem hx
      have := Plain.indexByte_none l (by omega) k hk
      rw [← e, ← he] at this
      exact this (by simp [List.getD, List.getElem?_eq_getElem hk])
theorem round_read (h : Hd) (hg : goodH h = true) (hi : HdIn h) : Plain.hread (Plain.seal (blkOf h)) = (roundH h, 0) := by
  unfold goodH at hg
  rw [Bool.and_eq_true, Bool.and_eq_true, decide_eq_true_eq, decide_eq_true_eq, decide_eq_true_eq] at hg
  obtain ⟨⟨⟨g1, g2, g3, g4, g5, g6, g7, g8⟩, m1, m2, m3, m4, m5, m6, m7, m8, m9, m10⟩, p1, p2, p3, p4, p5, p6, p7⟩ := hg
  have hsp : ∃ p s, Plain.split h.name = (p, s, 0) ∧ Plain.Well h.name p s := by
    rcases Plain.split_cases h.name with h1 | ⟨h1, _⟩
    · exact h1
    · rw [h1] at g1; cases g1
  obtain ⟨p, s, hps, hw⟩ := hsp
  obtain ⟨w1, w2, w3, w4⟩ := hw
  have hfit : Fit W16 (partsOf h []) := by
    unfold partsOf W16
    rw [hps]
    have l1 := put_len _ 8 hi.mode p1 8 rfl
    have l2 := put_len _ 8 hi.uid p2 8 rfl
    have l3 := put_len _ 8 hi.gid p3 8 rfl
    have l4 := put_len _ 12 hi.size p4 12 rfl
    have l5 := put_len _ 12 hi.mtime p5 12 rfl
    have l6 := put_len _ 8 hi.major p6 8 rfl
    have l7 := put_len _ 8 hi.minor p7 8 rfl
    refine ⟨w2, ?_, ?_, ?_, ?_, ?_, ?_, ?_, g2, ?_, g3, g4, ?_, ?_, w3, ?_, trivial⟩ <;> first | omega | (simp [magicU])
  have hlen : (blkOf h).length = 512 := blkT_len _ _ hfit
  have hseal : Plain.seal (blkOf h) = blkT W16 (partsOf h (octRow (Plain.sum uby (blkOf h)).toNat 6 ++ [0, 32])) ∧ Fit W16 (partsOf h (octRow (Plain.sum uby (blkOf h)).toNat 6 ++ [0, 32])) := by
    rw [seal_lay]
    exact lay_blk W16 (partsOf h []) 6 _ hfit rfl (by rw [sealRow_len]; decide)
  have hsd := seal_sealed (blkOf h) hlen
  have hsl := seal_len (blkOf h) hlen
  obtain ⟨hse, hf⟩ := hseal
  generalize octRow (Plain.sum uby (blkOf h)).toNat 6 ++ [0, 32] = S at *
  generalize Plain.seal (blkOf h) = L at *
  have b0 : fld L 0 100 = pad 100 (Plain.split h.name).2.1 := by rw [hse]; exact fld_blk W16 _ 0 _ hf rfl
  have b1 : fld L 100 108 = pad 8 (Plain.put h.mode 8).1 := by rw [hse]; exact fld_blk W16 _ 1 _ hf rfl
  have b2 : fld L 108 116 = pad 8 (Plain.put h.uid 8).1 := by rw [hse]; exact fld_blk W16 _ 2 _ hf rfl
  have b3 : fld L 116 124 = pad 8 (Plain.put h.gid 8).1 := by rw [hse]; exact fld_blk W16 _ 3 _ hf rfl
  have b4 : fld L 124 136 = pad 12 (Plain.put h.size 12).1 := by rw [hse]; exact fld_blk W16 _ 4 _ hf rfl
  have b5 : fld L 136 148 = pad 12 (Plain.put h.mtime 12).1 := by rw [hse]; exact fld_blk W16 _ 5 _ hf rfl
  have b7 : fld L 156 157 = pad 1 [h.ty] := by rw [hse]; exact fld_blk W16 _ 7 _ hf rfl
  have b8 : fld L 157 257 = pad 100 h.link := by rw [hse]; exact fld_blk W16 _ 8 _ hf rfl
  have b9 : fld L 257 265 = pad 8 magicU := by rw [hse]; exact fld_blk W16 _ 9 _ hf rfl
  have b10 : fld L 265 297 = pad 32 h.user := by rw [hse]; exact fld_blk W16 _ 10 _ hf rfl
  have b11 : fld L 297 329 = pad 32 h.group := by rw [hse]; exact fld_blk W16 _ 11 _ hf rfl
  have b12 : fld L 329 337 = pad 8 (Plain.put h.major 8).1 := by rw [hse]; exact fld_blk W16 _ 12 _ hf rfl
  have b13 : fld L 337 345 = pad 8 (Plain.put h.minor 8).1 := by rw [hse]; exact fld_blk W16 _ 13 _ hf rfl
  have b14 : fld L 345 500 = pad 155 (Plain.split h.name).1 := by rw [hse]; exact fld_blk W16 _ 14 _ hf rfl
  have n1 : numAt L 100 108 = (h.mode, 0) := by unfold numAt; rw [b1]; exact number_pad _ 8 hi.mode p1 8 rfl
  have n2 : numAt L 108 116 = (h.uid, 0) := by unfold numAt; rw [b2]; exact number_pad _ 8 hi.uid p2 8 rfl
  have n3 : numAt L 116 124 = (h.gid, 0) := by unfold numAt; rw [b3]; exact number_pad _ 8 hi.gid p3 8 rfl
  have n4 : numAt L 124 136 = (h.size, 0) := by unfold numAt; rw [b4]; exact number_pad _ 12 hi.size p4 12 rfl
  have n5 : numAt L 136 148 = (h.mtime, 0) := by unfold numAt; rw [b5]; exact number_pad _ 12 hi.mtime p5 12 rfl
  have n6 : numAt L 329 337 = (h.major, 0) := by unfold numAt; rw [b12]; exact number_pad _ 8 hi.major p6 8 rfl
  have n7 : numAt L 337 345 = (h.minor, 0) := by unfold numAt; rw [b13]; exact number_pad _ 8 hi.minor p7 8 rfl
  have ht : L.getD 156 0 = h.ty := by
    have := fld_getD L 156 157 0 (by decide)
    rw [b7] at this
    rw [← this]; rfl
  have hform : formOf L = 2 := by unfold formOf; rw [b9, pad_full 8 magicU rfl, if_pos rfl]
  have hty : tyOf L = if h.ty = 55 then 48 else h.ty := by
    unfold tyOf; rw [ht]
    by_cases e : h.ty = 55
    · rw [if_pos (.inr e), if_pos e]
    · rw [if_neg (by rintro (a | a); exact g8 a; exact e a), if_neg e]
  have hdev : isDev L = decide (h.ty = 51 ∨ h.ty = 52) := by
    unfold isDev; rw [hform, hty]
    by_cases e : h.ty = 55
    · rw [if_pos e, e]; decide
    · rw [if_neg e]; simp
  have hz : ¬ L = zblk := by
    intro e
    rw [e] at ht
    exact g8 (ht.symm.trans (by decide +kernel))
  unfold Plain.hread
  have mi := inI64_iff h.mode; have si := inI64_iff h.size; have ai := inI64_iff h.major; have ii := inI64_iff h.minor
  have mi := mi.1 hi.mode; have si := si.1 hi.size; have ai := ai.1 hi.major; have ii := ii.1 hi.minor
  rw [if_neg hz, if_neg (by rw [hsd]; decide), if_neg]
  · have hname : nameOf L = h.name := by
      unfold nameOf
      rw [hform, b14, b0, hps]
      have hz := split_nonul h.name g1
      rcases w4 with ⟨e1, e2⟩ | ⟨e1, e2, e3⟩
      · subst e1; subst e2
        rw [text_pad 155 [] (by decide) (by simp), text_pad 100 _ w2 (fun hm => hz _ hm rfl), if_neg (by simp)]
      · rw [text_pad 155 p w3 (fun hm => hz 0 (by rw [← e2]; simp [hm]) rfl), text_pad 100 s w2 (fun hm => hz 0 (by rw [← e2]; simp [hm]) rfl), if_pos ⟨rfl, e1⟩, ← e2]
        simp
    unfold hdOf roundH
    rw [hname, n1, n2, n3, n4, n5, n6, n7, hform, hdev, b8, b10, b11, text_pad 100 _ g2 g5, text_pad 32 _ g3 g6, text_pad 32 _ g4 g7, hty]
    have hsz : (49 ≤ (if h.ty = 55 then (48 : UInt8) else h.ty).toNat ∧ (if h.ty = 55 then (48 : UInt8) else h.ty).toNat ≤ 54) ↔ (49 ≤ h.ty.toNat ∧ h.ty.toNat ≤ 54) := by
      by_cases e : h.ty = 55
      · rw [if_pos e, e]; decide
      · rw [if_neg e]
    simp [hsz]
  · unfold numsOk
    rw [n1, n2, n3, n4, n5, n6, n7]
    simp [numOk]
    omega
end Go.Proofs.YtjchaogfmnabfaaDoor
namespace Go.Proofs.YtjchaogfmnabfaaDoor
set_option linter.unusedVariables false
set_option linter.unusedSimpArgs false
open Go.ChangeShapes Go.WideShapes Go.ChangeAt Go.RowKit
theorem formOf_eq (l : List UInt8) : formOf l = if (fld l 257 265 == magicU) = true then 2 else if (fld l 257 265 == magicG) = true then 3 else 1 := by
  unfold formOf; simp only [beq_iff_eq]
set_option maxHeartbeats 800000 in
theorem Form_any (g : Nat) (l : List UInt8) (w : World) (hl : l.length = 512) (hg : w.heap[g]? = some (.cells (rowA l) 47 (0, 0))) :
    Calls Tryd.prog 43 #[.pointer (some ⟨g, 0, none⟩)] w fun e w' => e = .returned (.int .i64 (formOf l)) ∧ w = w' := by
  have hb : Bs w (some ⟨g, 257, none⟩) (265 - 257) (512 - 257) (fld l 257 265) := row_bs hg 257 265 (512 - 257) (by decide) (by omega) (by decide) (by unfold maxLen; omega)
  rw [formOf_eq]
  unfold magicU magicG
  generalize fld l 257 265 = f at *
  have HB := Lib.hid hb; clear hb hg hl
  by_cases h1 : (f == [117, 115, 116, 97, 114, 0, 48, 48]) = true
  · rw [if_pos h1]
    go_enter Tryd.func43, Tryd.ntmps43
    go_wp2_with (first
      | (with_reducible refine wpList_slice_row rfl _ _ _ _ rfl Tryd.underlying47 (by kernel_rfl) g rfl 257 265 .i64 .i64 rfl rfl (by decide) (by decide) (by decide) ?_)
      | (with_reducible refine wpList_str_of_bs rfl _ _ _ rfl Tryd.underlying22 Tryd.underlying5 Tryd.underlying9 rfl HB.out ?_))
    go_ret
    exact ⟨rfl, rfl⟩
  · have h1' : (f == [117, 115, 116, 97, 114, 0, 48, 48]) = false := by simpa using h1
    rw [if_neg h1]
    clear h1
    by_cases h2 : (f == [117, 115, 116, 97, 114, 32, 32, 0]) = true
    · rw [if_pos h2]
      go_enter Tryd.func43, Tryd.ntmps43
      go_wp2_with (first
        | (with_reducible refine wpList_slice_row rfl _ _ _ _ rfl Tryd.underlying47 (by kernel_rfl) g rfl 257 265 .i64 .i64 rfl rfl (by decide) (by decide) (by decide) ?_)
        | (with_reducible refine wpList_str_of_bs rfl _ _ _ rfl Tryd.underlying22 Tryd.underlying5 Tryd.underlying9 rfl HB.out ?_))
      go_ret
      exact ⟨rfl, rfl⟩
    · have h2' : (f == [117, 115, 116, 97, 114, 32, 32, 0]) = false := by simpa using h2
      rw [if_neg h2]
      clear h2
      go_enter Tryd.func43, Tryd.ntmps43
      go_wp2_with (first
        | (with_reducible refine wpList_slice_row rfl _ _ _ _ rfl Tryd.underlying47 (by kernel_rfl) g rfl 257 265 .i64 .i64 rfl rfl (by decide) (by decide) (by decide) ?_)
        | (with_reducible refine wpList_str_of_bs rfl _ _ _ rfl Tryd.underlying22 Tryd.underlying5 Tryd.underlying9 rfl HB.out ?_))
      go_ret
      exact ⟨rfl, rfl⟩
/-- where a number stands, and between what it lies -/
def fieldAt : Nat → Nat × Nat × Int × Int
  | 0 => (100, 108, 0, 9223372036854775807)
  | 1 => (108, 116, 0, 2147483647)
  | 2 => (116, 124, 0, 2147483647)
  | 3 => (124, 136, 0, 9223372036854775807)
  | 4 => (136, 148, -1099511627776, 1099511627776)
  | 5 => (329, 337, 0, 9223372036854775807)
  | _ => (337, 345, 0, 9223372036854775807)
def fieldV (k : Nat) : List Value := [.int .i64 (fieldAt k).1, .int .i64 (fieldAt k).2.1, .int .i64 (fieldAt k).2.2.1, .int .i64 (fieldAt k).2.2.2]
def fieldsA : Array Value := (((List.range 7).flatMap fieldV)).toArray
theorem sizeFields : (Tryd.prog.info? 69).map (·.size) = some fieldsA.size := by kernel_rfl
theorem fields_one : ∀ u ∈ fieldsA.toList, u.oneCell' = true := by
  intro u hu
  simp [fieldsA, fieldV, fieldAt, List.range, List.range.loop] at hu
  rcases hu with h | h | h | h | h | h | h | h | h | h | h | h | h | h | h | h | h | h | h | h | h | h | h | h | h | h | h | h <;> subst h <;> rfl
section
variable {P : Program} {ops : Array Oper} {rest : List Oper} {o : Oper} {a : Act} {w : World} {Q : Exit → Act → World → Prop}
theorem wpList_built (hg : o.guard = none) {t : TypeId} {es : Array (Nat × Operand)} (_ho : o.op = .build t es) (v : Value) (h : (execOp a.eval o).run P w = .ok (.value v) w)
    (hk : wpList P ops Q rest (a.put o.dst v) w) : wpList P ops Q (o :: rest) a w := wpList_value hg v w h hk
end
set_option maxRecDepth 100000 in
set_option maxHeartbeats 800000 in
theorem Fields_any (w : World) : Calls Tryd.prog 44 #[] w fun e w' => e = .returned (.agg fieldsA) ∧ Below w.heap.size w w' := by
  obtain ⟨FA, hFA⟩ : ∃ FA, FA = fieldsA := ⟨_, rfl⟩
  have HI : Hid ((Tryd.prog.info? 69).map (·.size) = some FA.size) := by rw [hFA]; exact Lib.hid sizeFields
  have HO : Hid (∀ u ∈ FA.toList, u.oneCell' = true) := by rw [hFA]; exact Lib.hid fields_one
  have HS : Hid (FA.size = 28) := by rw [hFA]; exact Lib.hid rfl
  rw [← hFA]
  have HFA := Lib.hid hFA
  clear hFA
  go_enter Tryd.func44, Tryd.ntmps44
  go_upto_region 1 with fail
  have hh := heap_alloc_new w (.cells #[.int .i64 0, .int .i64 0, .int .i64 0, .int .i64 0, .int .i64 0, .int .i64 0, .int .i64 0, .int .i64 0, .int .i64 0, .int .i64 0, .int .i64 0, .int .i64 0, .int .i64 0, .int .i64 0, .int .i64 0, .int .i64 0, .int .i64 0, .int .i64 0, .int .i64 0, .int .i64 0, .int .i64 0, .int .i64 0, .int .i64 0, .int .i64 0, .int .i64 0, .int .i64 0, .int .i64 0, .int .i64 0] 69)
  have hb := (Below.refl w.heap.size w).alloc (Nat.le_refl _) (.cells #[.int .i64 0, .int .i64 0, .int .i64 0, .int .i64 0, .int .i64 0, .int .i64 0, .int .i64 0, .int .i64 0, .int .i64 0, .int .i64 0, .int .i64 0, .int .i64 0, .int .i64 0, .int .i64 0, .int .i64 0, .int .i64 0, .int .i64 0, .int .i64 0, .int .i64 0, .int .i64 0, .int .i64 0, .int .i64 0, .int .i64 0, .int .i64 0, .int .i64 0, .int .i64 0, .int .i64 0, .int .i64 0] 69)
  have hz : (#[.int .i64 0, .int .i64 0, .int .i64 0, .int .i64 0, .int .i64 0, .int .i64 0, .int .i64 0, .int .i64 0, .int .i64 0, .int .i64 0, .int .i64 0, .int .i64 0, .int .i64 0, .int .i64 0, .int .i64 0, .int .i64 0, .int .i64 0, .int .i64 0, .int .i64 0, .int .i64 0, .int .i64 0, .int .i64 0, .int .i64 0, .int .i64 0, .int .i64 0, .int .i64 0, .int .i64 0, .int .i64 0] : Array Value).size = FA.size := by rw [HS.out]; rfl
  generalize (#[.int .i64 0, .int .i64 0, .int .i64 0, .int .i64 0, .int .i64 0, .int .i64 0, .int .i64 0, .int .i64 0, .int .i64 0, .int .i64 0, .int .i64 0, .int .i64 0, .int .i64 0, .int .i64 0, .int .i64 0, .int .i64 0, .int .i64 0, .int .i64 0, .int .i64 0, .int .i64 0, .int .i64 0, .int .i64 0, .int .i64 0, .int .i64 0, .int .i64 0, .int .i64 0, .int .i64 0, .int .i64 0] : Array Value) = Z at *
  generalize w.alloc (.cells Z 69) = wa at *
  have HH := Lib.hid hh; have HB := Lib.hid hb; have HZ := Lib.hid hz
  clear hh hb hz
  go_wp2_with (first
    | ((with_reducible refine wpList_built (t := 68) (es := #[(0, .const (.int .i64 100)), (1, .const (.int .i64 108)), (2, .const (.int .i64 0)), (3, .const (.int .i64 9223372036854775807))]) rfl rfl (.agg #[.int .i64 100, .int .i64 108, .int .i64 0, .int .i64 9223372036854775807]) (by kernel_rfl) ?_); simp only [Act.put, List.setIfInBounds_toArray, List.set_cons_zero, List.set_cons_succ])
    | ((with_reducible refine wpList_built (t := 68) (es := #[(0, .const (.int .i64 108)), (1, .const (.int .i64 116)), (2, .const (.int .i64 0)), (3, .const (.int .i64 2147483647))]) rfl rfl (.agg #[.int .i64 108, .int .i64 116, .int .i64 0, .int .i64 2147483647]) (by kernel_rfl) ?_); simp only [Act.put, List.setIfInBounds_toArray, List.set_cons_zero, List.set_cons_succ])
    | ((with_reducible refine wpList_built (t := 68) (es := #[(0, .const (.int .i64 116)), (1, .const (.int .i64 124)), (2, .const (.int .i64 0)), (3, .const (.int .i64 2147483647))]) rfl rfl (.agg #[.int .i64 116, .int .i64 124, .int .i64 0, .int .i64 2147483647]) (by kernel_rfl) ?_); simp only [Act.put, List.setIfInBounds_toArray, List.set_cons_zero, List.set_cons_succ])
    | ((with_reducible refine wpList_built (t := 68) (es := #[(0, .const (.int .i64 124)), (1, .const (.int .i64 136)), (2, .const (.int .i64 0)), (3, .const (.int .i64 9223372036854775807))]) rfl rfl (.agg #[.int .i64 124, .int .i64 136, .int .i64 0, .int .i64 9223372036854775807]) (by kernel_rfl) ?_); simp only [Act.put, List.setIfInBounds_toArray, List.set_cons_zero, List.set_cons_succ])
    | ((with_reducible refine wpList_built (t := 68) (es := #[(0, .const (.int .i64 136)), (1, .const (.int .i64 148)), (2, .const (.int .i64 (-1099511627776))), (3, .const (.int .i64 1099511627776))]) rfl rfl (.agg #[.int .i64 136, .int .i64 148, .int .i64 (-1099511627776), .int .i64 1099511627776]) (by kernel_rfl) ?_); simp only [Act.put, List.setIfInBounds_toArray, List.set_cons_zero, List.set_cons_succ])
    | ((with_reducible refine wpList_built (t := 68) (es := #[(0, .const (.int .i64 329)), (1, .const (.int .i64 337)), (2, .const (.int .i64 0)), (3, .const (.int .i64 9223372036854775807))]) rfl rfl (.agg #[.int .i64 329, .int .i64 337, .int .i64 0, .int .i64 9223372036854775807]) (by kernel_rfl) ?_); simp only [Act.put, List.setIfInBounds_toArray, List.set_cons_zero, List.set_cons_succ])
    | ((with_reducible refine wpList_built (t := 68) (es := #[(0, .const (.int .i64 337)), (1, .const (.int .i64 345)), (2, .const (.int .i64 0)), (3, .const (.int .i64 9223372036854775807))]) rfl rfl (.agg #[.int .i64 337, .int .i64 345, .int .i64 0, .int .i64 9223372036854775807]) (by kernel_rfl) ?_); simp only [Act.put, List.setIfInBounds_toArray, List.set_cons_zero, List.set_cons_succ])
    | ((with_reducible refine wpList_built (t := 69) (es := #[(0, .tmp 1), (1, .tmp 2), (2, .tmp 3), (3, .tmp 4), (4, .tmp 5), (5, .tmp 6), (6, .tmp 7)]) rfl rfl (.agg FA) (by rw [HFA.out]; kernel_rfl) ?_); simp only [Act.put, List.setIfInBounds_toArray, List.set_cons_zero, List.set_cons_succ])
    | (with_reducible refine wpList_store_row rfl 69 _ _ rfl w.heap.size rfl FA rfl Z 69 HH.out HZ.out HI.out HO.out ?_))
  refine bodyPost_ret (results_cell_row rfl _ _ w.heap.size 69 FA (0, 0) _ rfl (setRow_heap _ _ _ _ _ _ HH.out) Tryd.underlying69 rfl HI.out) rfl ⟨rfl, Below.setRow HB.out (Nat.le_refl _) _⟩
end Go.Proofs.YtjchaogfmnabfaaDoor
namespace Go.Proofs.YtjchaogfmnabfaaDoor
open Go.ChangeShapes Go.WideShapes Go.ChangeAt Go.RowKit
section
variable {P : Program} {ops : Array Oper} {rest : List Oper} {o : Oper} {a : Act} {w : World} {Q : Exit → Act → World → Prop}
/-- x[k] of an array of bytes by value -/
theorem wpList_index_row (hgd : o.guard = none) (t : TypeId) (y x : Operand) (ho : o.op = .index t y x) {e : TypeId} {n : Nat} (ht : P.underlying t = some (.array n e)) (he : P.underlying e = some (.int .u8)) (hsz : (P.info? e).map (·.size) = some 1) (l : List UInt8) (hl : l.length = n) (hy : a.eval y = .agg (rowA l)) {k : IntKind} (d : Nat) (hx : a.eval x = .int k (d : Int)) (hd : d < n)
    (h : wpList P ops Q rest (a.put o.dst (.int .u8 ((l.getD d 0).toNat : Int))) w) : wpList P ops Q (o :: rest) a w := by
  refine wpList_value hgd _ _ ?_ h
  have hg : (rowA l)[d]? = some (.int .u8 ((l.getD d 0).toNat : Int)) := rowA_at l d (by omega)
  have hlt : d < (rowA l).size := by rw [rowA_size]; omega
  have hpart := part_u8 (P := P) (w := w) he l d (by omega)
  have hdi : (d : Int) < (n : Int) := by omega
  have hr : (Instr.index t (.agg (rowA l)) (.int k (d : Int))).run P w = .ok (.int .u8 ((l.getD d 0).toNat : Int)) w := by
    simp only [rowA] at *
    obtain ⟨i, hi', hs'⟩ := Option.map_eq_some_iff.1 hsz
    simp [Instr.index, run_underlying ht, asIntOf, Result.andThen, hd, hdi, sizeOf, typeInfo, hi', hs', hpart]
  simp [execOp, ho, hy, hx, hr, Result.andThen]
end
theorem sum_vals (l : List UInt8) (hl : l.length = 512) : (-200000 ≤ Plain.sum uby l ∧ Plain.sum uby l ≤ 200000) ∧ (-200000 ≤ Plain.sum sby l ∧ Plain.sum sby l ≤ 200000) := ⟨sum_bd uby uby_wide l hl, sum_bd sby sby_wide l hl⟩
theorem i8_sby (b : UInt8) : IntKind.i8.wrap (b.toNat : Int) = sby b := by
  unfold sby
  have := u8_lt b
  simp [IntKind.wrap, IntKind.bits, IntKind.signed]
  split <;> split <;> omega
set_option maxRecDepth 100000 in
set_option maxHeartbeats 1600000 in
theorem Sums_any (l : List UInt8) (hl : l.length = 512) (w : World) :
    Calls Tryd.prog 50 #[.agg (rowA l)] w fun e w' => e = .returned (.tuple #[.int .i64 (Plain.sum uby l), .int .i64 (Plain.sum sby l)]) ∧ Below w.heap.size w w' := by
  have HL := Lib.hid hl
  have h0 : RowAt w 47 (blankK l 0) (w.alloc (.cells (rowA l) 47)) := by rw [blankK_zero]; exact RowAt.new w _ _
  have H0 := Lib.hid h0; clear h0 hl
  go_enter Tryd.func50, Tryd.ntmps50
  go_wp2_with (with_reducible refine wpList_box_agg rfl _ _ rfl (rowA l) rfl ?_)
  go_loopw [4] (fun i wr => ∃ k : Nat, k ≤ 8 ∧ i = .int .i64 (148 + (k : Int)) ∧ RowAt w 47 (blankK l k) wr) (fun i _ => 156 - (intOf i).toNat)
  case atStart => exact ⟨0, by omega, by go_num, H0.out⟩
  case round =>
    obtain ⟨k, hk, rfl, hD⟩ := hrel
    have hlen := blankK_len l k (by rw [HL.out]; omega)
    by_cases hlt : k < 8
    · have hset := blankK_set l k (by rw [HL.out]; omega)
      obtain ⟨j, hj⟩ : ∃ j : Nat, 148 + (k : Int) = (j : Int) := ⟨148 + k, by omega⟩
      have hjk : 148 + k = j := by omega
      have hcell := hD.cell j (by rw [hlen, HL.out]; omega)
      have hfz := hD.froz j
      have hD2 := hD.set j 32
      rw [← hjk, hset, hjk] at hD2
      have HD2 := Lib.hid hD2
      have hj5 : (j : Int) < 512 := by omega
      have hj6 : (j : Int) < 156 := by omega
      clear hset hD hD2 hlen
      go_wp2
      exact ⟨⟨k + 1, by omega, by go_num, HD2.out⟩, by simp [intOf]; omega⟩
    · obtain rfl : k = 8 := by omega
      have hrow := hD.row
      have hbel := hD.bel
      have hbl : blankK l 8 = blank l := rfl
      rw [hbl] at hrow hlen
      have hs1 := blank_sum uby l
      have hs2 := blank_sum sby l
      have hll : (blank l).length = 512 := by rw [hlen]; exact HL.out
      have HI := Lib.hid (sizeBlk (blank l) hll)
      have HROW := Lib.hid hrow; have HLL := Lib.hid hll; have HS1 := Lib.hid hs1; have HS2 := Lib.hid hs2
      clear hrow hll hs1 hs2 hlen hbl hD
      generalize blank l = m at *
      have hi : ¬ (148 + ((8 : Nat) : Int)) < 156 := by omega
      go_wp2_with (with_reducible refine wpList_load_row rfl _ _ rfl w.heap.size rfl 47 (rowA m) (0, 0) _ HROW.out Tryd.underlying47 rfl HI.out ?_)
      go_loop [16, 5, 6] (fun i u s => ∃ k : Nat, k ≤ 512 ∧ i = .int .i64 k ∧ u = .int .i64 (sumB uby (m.take k)) ∧ s = .int .i64 (sumB sby (m.take k))) (fun i _ _ => 512 - (intOf i).toNat)
      case atStart => exact ⟨0, by omega, rfl, rfl, rfl⟩
      case round =>
        obtain ⟨k, hk, rfl, rfl, rfl⟩ := hrel
        by_cases hlt : k < 512
        · have hu := sumB_step uby m k (by rw [HLL.out]; exact hlt)
          have hs := sumB_step sby m k (by rw [HLL.out]; exact hlt)
          have b1 := sumTake_bd uby uby_wide m k (by omega)
          have b2 := sumTake_bd sby sby_wide m k (by omega)
          have hw := i8_sby (m.getD k 0)
          have c1 := uby_bd (m.getD k 0)
          have c2 := sby_bd (m.getD k 0)
          have hub : uby (m.getD k 0) = ((m.getD k 0).toNat : Int) := rfl
          rw [hub] at hu c1
          generalize hUU : sumB uby (m.take (k + 1)) = U' at *
          generalize hVV : sumB sby (m.take (k + 1)) = S' at *
          generalize sumB uby (m.take k) = U at *
          generalize sumB sby (m.take k) = S at *
          have hkk : (k : Int) < 512 := by omega
          obtain ⟨b11, b12⟩ := b1; obtain ⟨b21, b22⟩ := b2; obtain ⟨c11, c12⟩ := c1; obtain ⟨c21, c22⟩ := c2
          generalize hX : ((m.getD k 0).toNat : Int) = X at *
          generalize sby (m.getD k 0) = Y at *
          have HU := Lib.hid (hUU.trans hu); have HSS := Lib.hid (hVV.trans hs); have HX := Lib.hid hX
          clear hUU hVV hu hs hub hX
          go_wp2_with (refine wpList_index_row rfl _ _ _ rfl Tryd.underlying47 Tryd.underlying5 (by kernel_rfl) m HLL.out rfl k rfl hlt ?_; rw [HX.out])
          go_round
          case rel => exact ⟨k + 1, by omega, by go_num, by rw [HU.out], by rw [HSS.out]⟩
          case measure => simp [intOf]; omega
        · obtain rfl : k = 512 := by omega
          have e : m.take 512 = m := List.take_of_length_le (by rw [HLL.out]; exact Nat.le_refl _)
          rw [e]
          have hkk : ¬ (512 : Int) < 512 := by omega
          go_wp2
          go_ret2
          exact ⟨by rw [HS1.out, HS2.out]; rfl, hbel⟩
set_option maxRecDepth 100000 in
set_option maxHeartbeats 1600000 in
theorem RefSums_any (l : List UInt8) (hl : l.length = 512) (w : World) :
    Calls Tryd.prog 68 #[.agg (rowA l)] w fun e w' => e = .returned (.tuple #[.int .i64 (Plain.sum uby l), .int .i64 (Plain.sum sby l)]) ∧ Below w.heap.size w w' := by
  have he1 := sumTo_end uby l hl
  have he2 := sumTo_end sby l hl
  have HL := Lib.hid hl; have HE1 := Lib.hid he1; have HE2 := Lib.hid he2
  have HR := Lib.hid (RowAt.new w 47 l)
  have hz1 : Plain.sumTo uby l 0 = 256 := by rw [sumTo_zero]; rfl
  have hz2 : Plain.sumTo sby l 0 = 256 := by rw [sumTo_zero]; rfl
  have HZ1 := Lib.hid hz1; have HZ2 := Lib.hid hz2
  clear hl he1 he2 hz1 hz2
  go_enter Tryd.func68, Tryd.ntmps68
  go_wp2_with (with_reducible refine wpList_box_agg rfl _ _ rfl (rowA l) rfl ?_)
  have hR := HR.out
  generalize w.alloc (.cells (rowA l) 47) = wa at *
  have hbel := hR.bel
  have HRR := Lib.hid hR; clear hR HR
  go_loop [4, 5, 6] (fun u s i => ∃ k : Nat, k ≤ 512 ∧ i = .int .i64 k ∧ u = .int .i64 (Plain.sumTo uby l k) ∧ s = .int .i64 (Plain.sumTo sby l k)) (fun _ _ i => 512 - (intOf i).toNat)
  case atStart => exact ⟨0, by omega, rfl, by rw [HZ1.out], by rw [HZ2.out]⟩
  case round =>
    obtain ⟨k, hk, rfl, rfl, rfl⟩ := hrel
    by_cases hlt : k < 512
    · have b1 := sumTo_bd uby uby_wide l k (by omega)
      have b2 := sumTo_bd sby sby_wide l k (by omega)
      have hkk : (k : Int) < 512 := by omega
      by_cases hf : 148 ≤ k ∧ k < 156
      · have hu := sumTo_skip uby l k hf.1 hf.2
        have hs := sumTo_skip sby l k hf.1 hf.2
        generalize hUU : Plain.sumTo uby l (k + 1) = U' at *
        generalize hVV : Plain.sumTo sby l (k + 1) = S' at *
        generalize Plain.sumTo uby l k = U at *
        generalize Plain.sumTo sby l k = S at *
        have f1 : (148 : Int) ≤ k := by omega
        have f2 : (k : Int) ≤ 155 := by omega
        have HU := Lib.hid (hUU.trans hu); have HSS := Lib.hid (hVV.trans hs)
        clear hUU hVV hu hs hf
        go_wp2
        go_round
        case rel => exact ⟨k + 1, by omega, by go_num, by rw [HU.out], by rw [HSS.out]⟩
        case measure => simp [intOf]; omega
      · have hu := sumTo_step uby l k (by rw [HL.out]; exact hlt) (by omega)
        have hs := sumTo_step sby l k (by rw [HL.out]; exact hlt) (by omega)
        have hcell := HRR.out.cell k (by rw [HL.out]; exact hlt)
        have c1 := uby_bd (l.getD k 0)
        have hub : uby (l.getD k 0) = ((l.getD k 0).toNat : Int) := rfl
        have hsb : sby (l.getD k 0) = if (l.getD k 0).toNat < 128 then ((l.getD k 0).toNat : Int) else ((l.getD k 0).toNat : Int) - 256 := rfl
        rw [hub] at hu c1
        generalize hUU : Plain.sumTo uby l (k + 1) = U' at *
        generalize hVV : Plain.sumTo sby l (k + 1) = S' at *
        generalize Plain.sumTo uby l k = U at *
        generalize Plain.sumTo sby l k = S at *
        obtain ⟨b11, b12⟩ := b1; obtain ⟨b21, b22⟩ := b2; obtain ⟨c11, c12⟩ := c1
        have hway : ((k : Int) < 148) ∨ ((148 : Int) ≤ k ∧ (155 : Int) < k) := by omega
        by_cases h8 : (l.getD k 0).toNat < 128
        · rw [if_pos h8] at hsb
          rw [hsb] at hs
          have h8i : ((l.getD k 0).toNat : Int) < 128 := by omega
          generalize ((l.getD k 0).toNat : Int) = X at *
          have HU := Lib.hid (hUU.trans hu); have HSS := Lib.hid (hVV.trans hs)
          clear hUU hVV hu hs hub hsb h8 hf
          rcases hway with f1 | ⟨f1, f2⟩
          all_goals
            go_wp2
            go_round
            case rel => exact ⟨k + 1, by omega, by go_num, by rw [HU.out], by rw [HSS.out]⟩
            case measure => simp [intOf]; omega
        · rw [if_neg h8] at hsb
          rw [hsb] at hs
          have h8i : ¬ ((l.getD k 0).toNat : Int) < 128 := by omega
          generalize ((l.getD k 0).toNat : Int) = X at *
          have HU := Lib.hid (hUU.trans hu); have HSS := Lib.hid (hVV.trans hs)
          clear hUU hVV hu hs hub hsb h8 hf
          rcases hway with f1 | ⟨f1, f2⟩
          all_goals
            go_wp2
            go_round
            case rel => exact ⟨k + 1, by omega, by go_num, by rw [HU.out], by rw [HSS.out]⟩
            case measure => simp [intOf]; omega
    · obtain rfl : k = 512 := by omega
      have hkk : ¬ (512 : Int) < 512 := by omega
      have h1 := HE1.out
      have h2 := HE2.out
      rw [h1, h2]
      clear h1 h2
      go_wp2
      go_ret2
      exact ⟨rfl, hbel⟩
end Go.Proofs.YtjchaogfmnabfaaDoor
namespace Go.Proofs.YtjchaogfmnabfaaDoor
open Go.ChangeShapes Go.WideShapes Go.ChangeAt Go.RowKit
theorem i64_or256 (x y : Int) (h : x % 256 = 0) (h0 : 0 ≤ y) (h1 : y < 256) : bits .or .i64 x y = IntKind.i64.wrap (x + y) := by
  obtain ⟨b, rfl⟩ := Int.eq_ofNat_of_zero_le h0
  have hb : b < 2 ^ 8 := by omega
  obtain ⟨m, hm⟩ : ∃ m : Nat, (x % ((2 ^ 64 : Nat) : Int)).toNat = 2 ^ 8 * m := ⟨(x % ((2 ^ 64 : Nat) : Int)).toNat / 256, by omega⟩
  have key : (BitVec.ofInt 64 x ||| BitVec.ofInt 64 (b : Int)).toNat = 2 ^ 8 * m + b := by
    rw [BitVec.toNat_or, BitVec.toNat_ofInt, BitVec.toNat_ofInt, hm, show ((b : Int) % ((2 ^ 64 : Nat) : Int)).toNat = b by omega, Nat.two_pow_add_eq_or_of_lt hb]
  show IntKind.i64.wrap ((BitVec.ofInt 64 x ||| BitVec.ofInt 64 (b : Int)).toNat : Nat) = _
  rw [key, IntKind.wrap_i64, IntKind.wrap_i64]
  omega
theorem ret_val {k : IntKind} {x y : Int} (h : x = y) : Value.int k x = Value.int k y := by rw [h]
theorem Base256_low (a : Option Addr) (n c : Nat) (l : List UInt8) (w : World) (h : Bs w a n c l) (hlow : l = [] ∨ (l.getD 0 0).toNat < 128) :
    Calls Tryd.prog 64 #[.slice a n c] w fun e w' => e = .returned (decV (Plain.base256 l)) ∧ w = w' := by
  have hl := h.len; have hcap := h.cap; have hmax := h.max
  rw [Plain.base256_low l hlow]
  by_cases h0 : n = 0
  · subst h0
    go_enter Tryd.func64, Tryd.ntmps64
    go_wp2
    go_ret2
    exact ⟨rfl, rfl⟩
  · have hc := h.at 0 (by omega)
    have hg : (l.getD 0 0).toNat < 128 := by
      rcases hlow with h1 | h1
      · subst h1; simp at hl; omega
      · exact h1
    obtain ⟨b, off, rfl, hc⟩ := hc
    rw [Nat.add_zero] at hc
    generalize hG : ((l.getD 0 0).toNat : Int) = G at hc
    have g1 : G < 128 := by omega
    have hn0 : ((n : Int) == 0) = false := by rw [beq_eq_false_iff_ne]; omega
    have hn1 : (0 : Int) < n := by omega
    have hn2 : 0 < n := by omega
    have HL := Lib.hid hl; clear hl hG hlow h0
    go_enter Tryd.func64, Tryd.ntmps64
    go_wp2
    go_ret2
    exact ⟨rfl, rfl⟩
set_option maxRecDepth 100000 in
set_option maxHeartbeats 1600000 in
theorem Base256_high (a : Option Addr) (n c : Nat) (l : List UInt8) (w : World) (h : Bs w a n c l) (hne : 0 < l.length) (hhi : ¬ (l.getD 0 0).toNat < 128) :
    Calls Tryd.prog 64 #[.slice a n c] w fun e w' => e = .returned (decV (Plain.base256 l)) ∧ w = w' := by
  have hl := h.len; have hcap := h.cap; have hmax := h.max
  have hb := Plain.base256_at l hne hhi
  generalize Plain.base256 l = r at *
  obtain ⟨b, off, rfl, hc⟩ := h.at 0 (by omega)
  rw [Nat.add_zero] at hc
  have hbh : 2 * (binHead (l.getD 0 0)) = wrap64 (IntKind.i8.wrap (((l.getD 0 0).toNat : Int) * 2 % 256)) ∧ -64 ≤ binHead (l.getD 0 0) ∧ binHead (l.getD 0 0) ≤ 63 := by
    have := u8_lt (l.getD 0 0)
    unfold binHead
    generalize l.getD 0 0 = x at *
    simp [IntKind.wrap, IntKind.bits, IntKind.signed, wrap64]
    split <;> omega
  generalize binHead (l.getD 0 0) = s at *
  generalize hG : ((l.getD 0 0).toNat : Int) = G at hc hbh
  have g1 : 128 ≤ G := by omega
  have g2 : G < 256 := by have := u8_lt (l.getD 0 0); omega
  have hn0 : ((n : Int) == 0) = false := by rw [beq_eq_false_iff_ne]; omega
  have hn1 : (1 : Int) ≤ n := by omega
  have hn2 : 0 < n := by omega
  have hcut : (l.take n).drop 1 = l.drop 1 := by rw [List.take_of_length_le (by omega)]
  have hml : (l.drop 1).length = n - 1 := by rw [List.length_drop]; omega
  have HC := Lib.hid hcut; have HBH := Lib.hid hbh; have HB := Lib.hid hb; have HML := Lib.hid hml
  clear hl hG hcut hbh hb hml hhi hne
  go_enter Tryd.func64, Tryd.ntmps64
  go_wp2_with (first | ((with_reducible refine wpList_slice_bs rfl _ _ _ _ rfl Tryd.underlying22 (by kernel_rfl) rfl h 1 n .i64 .i64 rfl rfl (by omega) (by omega) ?_); intro a2 hb2; rw [HC.out] at hb2))
  clear h hc
  go_loop [26, 4] (fun i v => ∃ (k : Nat) (V : Int), k ≤ n - 1 ∧ i = .int .i64 k ∧ v = .int .i64 V ∧ -9223372036854775808 ≤ V ∧ V ≤ 9223372036854775807 ∧ Hid (binAcc s ((l.drop 1).take k) = V)) (fun i _ => n - 1 - (intOf i).toNat)
  case atStart =>
    obtain ⟨e1, e2, e3⟩ := HBH.out
    exact ⟨0, s, by omega, rfl, ret_val (by rw [← e1]; omega), by omega, by omega, Lib.hid (by rw [List.take_zero, binAcc_nil])⟩
  case round =>
    obtain ⟨k, V, hk, rfl, rfl, v1, v2, hV⟩ := hrel
    by_cases hlt : k < n - 1
    · obtain ⟨b1, off1, rfl, hc⟩ := hb2.at k hlt
      have hstep := binAcc_step s (l.drop 1) k (by rw [HML.out]; exact hlt)
      have hout : V < -36028797018963968 ∨ 36028797018963967 < V → r = (0, 11) := fun ho => by
        rw [HB.out, binAcc_out s (l.drop 1) k (by rw [HML.out]; exact hlt) (by rw [hV.out]; exact ho)]; rfl
      rw [hV.out] at hstep
      generalize hX : (((l.drop 1).getD k 0).toNat : Int) = X at hc hstep
      have x1 : 0 ≤ X := by omega
      have x2 : X < 256 := by have := u8_lt ((l.drop 1).getD k 0); omega
      have HST := Lib.hid hstep; have HO := Lib.hid hout; clear hstep hout hX hV
      have hi : (k : Int) < ((n - 1 : Nat) : Int) := by omega
      by_cases hin : V < -36028797018963968 ∨ 36028797018963967 < V
      · obtain rfl := HO.out hin
        have q1 : (V / 36028797018963968 != 0) = true := by rw [bne_iff_ne]; omega
        have q2 : (V / 36028797018963968 != -1) = true := by rw [bne_iff_ne]; omega
        clear hin
        go_wp2
        go_ret2
        exact ⟨rfl, rfl⟩
      · have hor : bits .or .i64 (V * 256) X = V * 256 + X := by
          rw [i64_or256 _ _ (by omega) x1 x2, IntKind.wrap_i64]; omega
        have n1 : -36028797018963968 ≤ V := by omega
        have n2 : V ≤ 36028797018963967 := by omega
        have n3 : -9223372036854775808 ≤ V * 256 := by omega
        have n4 : V * 256 ≤ 9223372036854775807 := by omega
        clear hin
        by_cases hneg : V < 0
        · have q1 : (V / 36028797018963968 != 0) = true := by rw [bne_iff_ne]; omega
          have q2 : (V / 36028797018963968 != -1) = false := by rw [bne_eq_false_iff_eq]; omega
          go_wp2
          go_round
          case rel => exact ⟨k + 1, V * 256 + X, by omega, by go_num, rfl, by omega, by omega, HST⟩
          case measure => simp [intOf]; omega
        · have q1 : (V / 36028797018963968 != 0) = false := by rw [bne_eq_false_iff_eq]; omega
          go_wp2
          go_round
          case rel => exact ⟨k + 1, V * 256 + X, by omega, by go_num, rfl, by omega, by omega, HST⟩
          case measure => simp [intOf]; omega
    · obtain rfl : k = n - 1 := by omega
      have hv := hV.out
      rw [List.take_of_length_le (by rw [HML.out]; exact Nat.le_refl _)] at hv
      have hr := HB.out
      rw [hv, if_pos ((inI64_iff V).2 ⟨v1, v2⟩)] at hr
      subst hr
      have hi : ¬ ((n - 1 : Nat) : Int) < ((n - 1 : Nat) : Int) := by omega
      clear hv hV
      go_wp2
      go_ret2
      exact ⟨rfl, rfl⟩
theorem Base256_any (a : Option Addr) (n c : Nat) (l : List UInt8) (w : World) (h : Bs w a n c l) :
    Calls Tryd.prog 64 #[.slice a n c] w fun e w' => e = .returned (decV (Plain.base256 l)) ∧ w = w' := by
  by_cases hlow : l = [] ∨ (l.getD 0 0).toNat < 128
  · exact Base256_low a n c l w h hlow
  · exact Base256_high a n c l w h (by cases l; exact absurd (.inl rfl) hlow; simp) (fun h => hlow (.inr h))
end Go.Proofs.YtjchaogfmnabfaaDoor
