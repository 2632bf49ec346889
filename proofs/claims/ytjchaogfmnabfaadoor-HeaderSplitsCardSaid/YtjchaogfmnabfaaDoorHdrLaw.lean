/-
  HdrLaw: header blocks in plain Lean.
-/
import Derived.Test.YtjchaogfmnabfaaDoorSealLaw
import Derived.Test.YtjchaogfmnabfaaDoorBlock
import Derived.Test.YtjchaogfmnabfaaDoorText
import Derived.Test.YtjchaogfmnabfaaDoorLawSplit
namespace Go.Proofs.YtjchaogfmnabfaaDoor
set_option linter.unusedVariables false
set_option linter.unusedSimpArgs false
/-- a header -/
structure Hd where
  name : List UInt8
  link : List UInt8
  mode : Int
  uid : Int
  gid : Int
  size : Int
  mtime : Int
  ty : UInt8
  user : List UInt8
  group : List UInt8
  major : Int
  minor : Int
  form : Int
def Hd.zero : Hd := ⟨[], [], 0, 0, 0, 0, 0, 0, [], [], 0, 0, 0⟩
def hdV (h : Hd) : Value := .agg #[.string ⟨h.name.toArray⟩, .string ⟨h.link.toArray⟩, .int .i64 h.mode, .int .i64 h.uid, .int .i64 h.gid, .int .i64 h.size, .int .i64 h.mtime, .int .u8 (h.ty.toNat : Int), .string ⟨h.user.toArray⟩, .string ⟨h.group.toArray⟩, .int .i64 h.major, .int .i64 h.minor, .int .i64 h.form]
/-- the bytes from s up to e -/
def fld (l : List UInt8) (s e : Nat) : List UInt8 := (l.take e).drop s
def numOk (p : Int × Int) (lo hi : Int) : Bool := decide (p.2 = 0 ∧ lo ≤ p.1 ∧ p.1 ≤ hi)
def magicU : List UInt8 := [117, 115, 116, 97, 114, 0, 48, 48]
def magicG : List UInt8 := [117, 115, 116, 97, 114, 32, 32, 0]
def formOf (l : List UInt8) : Int := if fld l 257 265 = magicU then 2 else if fld l 257 265 = magicG then 3 else 1
def tyOf (l : List UInt8) : UInt8 := if l.getD 156 0 = 0 ∨ l.getD 156 0 = 55 then 48 else l.getD 156 0
def isDev (l : List UInt8) : Bool := decide (formOf l ≠ 1 ∧ (tyOf l = 51 ∨ tyOf l = 52))
def numAt (l : List UInt8) (s e : Nat) : Int × Int := Plain.number (fld l s e)
def numsOk (l : List UInt8) : Bool :=
  numOk (numAt l 100 108) 0 9223372036854775807 && numOk (numAt l 108 116) 0 2147483647 && numOk (numAt l 116 124) 0 2147483647 && numOk (numAt l 124 136) 0 9223372036854775807 && numOk (numAt l 136 148) (-1099511627776) 1099511627776 &&
  (!isDev l || (numOk (numAt l 329 337) 0 9223372036854775807 && numOk (numAt l 337 345) 0 9223372036854775807))
def nameOf (l : List UInt8) : List UInt8 :=
  if formOf l = 2 ∧ Plain.text (fld l 345 500) ≠ [] then Plain.text (fld l 345 500) ++ 47 :: Plain.text (fld l 0 100) else Plain.text (fld l 0 100)
def hdOf (l : List UInt8) : Hd :=
  ⟨nameOf l, Plain.text (fld l 157 257), (numAt l 100 108).1, (numAt l 108 116).1, (numAt l 116 124).1, if 49 ≤ (tyOf l).toNat ∧ (tyOf l).toNat ≤ 54 then 0 else (numAt l 124 136).1, (numAt l 136 148).1, tyOf l,
    if formOf l = 1 then [] else Plain.text (fld l 265 297), if formOf l = 1 then [] else Plain.text (fld l 297 329), if isDev l = true then (numAt l 329 337).1 else 0, if isDev l = true then (numAt l 337 345).1 else 0, formOf l⟩
/-- the document's answer -/
def Plain.hread (l : List UInt8) : Hd × Int :=
  if l = zblk then (Hd.zero, 40) else if Plain.sealed l = false then (Hd.zero, 41) else if numsOk l = false then (Hd.zero, 42) else (hdOf l, 0)
/-- t laid over l from f on -/
def lay (l : List UInt8) (f : Nat) (t : List UInt8) : List UInt8 := l.take f ++ t ++ l.drop (f + t.length)
theorem lay_len (l : List UInt8) (f : Nat) (t : List UInt8) (h : f + t.length ≤ l.length) : (lay l f t).length = l.length := by
  unfold lay; rw [List.length_append, List.length_append, List.length_take, List.length_drop]; omega
theorem lay_nil (l : List UInt8) (f : Nat) : lay l f [] = l := by unfold lay; simp
theorem fld_len (l : List UInt8) (s e : Nat) (h : e ≤ l.length) : (fld l s e).length = e - s := by unfold fld; rw [List.length_drop, List.length_take]; omega
theorem fld_getD (l : List UInt8) (s e k : Nat) (h : s + k < e) : (fld l s e).getD k 0 = l.getD (s + k) 0 := by
  unfold fld; simp [List.getD, List.getElem?_take, h]
theorem lay_getD (l : List UInt8) (f : Nat) (t : List UInt8) (h : f + t.length ≤ l.length) (k : Nat) : (lay l f t).getD k 0 = if f ≤ k ∧ k < f + t.length then t.getD (k - f) 0 else l.getD k 0 := by
  have hf : (l.take f).length = f := by rw [List.length_take]; omega
  unfold lay
  by_cases h1 : k < f
  · rw [if_neg (by omega)]
    simp only [List.getD]
    rw [List.getElem?_append_left (by rw [List.length_append, hf]; omega), List.getElem?_append_left (by rw [hf]; exact h1), List.getElem?_take, if_pos h1]
  · by_cases h2 : k < f + t.length
    · rw [if_pos ⟨by omega, h2⟩]
      simp only [List.getD]
      rw [List.getElem?_append_left (by rw [List.length_append, hf]; omega), List.getElem?_append_right (by omega), hf]
    · rw [if_neg (by omega)]
      simp only [List.getD]
      rw [List.getElem?_append_right (by rw [List.length_append, hf]; omega), List.length_append, hf, List.getElem?_drop, show f + t.length + (k - (f + t.length)) = k by omega]
theorem fld_ext (l m : List UInt8) (s e : Nat) (hl : e ≤ l.length) (hm : e ≤ m.length) (h : ∀ k, s ≤ k → k < e → l.getD k 0 = m.getD k 0) : fld l s e = fld m s e := by
  refine list_ext_getD (by rw [fld_len _ _ _ hl, fld_len _ _ _ hm]) fun k hk => ?_
  rw [fld_len _ _ _ hl] at hk
  rw [fld_getD _ _ _ _ (by omega), fld_getD _ _ _ _ (by omega)]
  exact h _ (by omega) (by omega)
theorem fld_lay (l : List UInt8) (f : Nat) (t : List UInt8) (s e : Nat) (h : f + t.length ≤ l.length) (he : e ≤ l.length) (hd : e ≤ f ∨ f + t.length ≤ s) : fld (lay l f t) s e = fld l s e := by
  refine fld_ext _ _ _ _ (by rw [lay_len _ _ _ h]; exact he) he fun k h1 h2 => ?_
  rw [lay_getD _ _ _ h, if_neg (by omega)]
theorem fld_lay_in (l : List UInt8) (f : Nat) (t : List UInt8) (e : Nat) (h : f + t.length ≤ l.length) (he : e = f + t.length) : fld (lay l f t) f e = t := by
  subst he
  refine list_ext_getD (by rw [fld_len _ _ _ (by rw [lay_len _ _ _ h]; exact h)]; omega) fun k hk => ?_
  rw [fld_len _ _ _ (by rw [lay_len _ _ _ h]; exact h)] at hk
  rw [fld_getD _ _ _ _ (by omega), lay_getD _ _ _ h, if_pos (by omega), show f + k - f = k by omega]
theorem lay_one (l : List UInt8) (k : Nat) (c : UInt8) (h : k < l.length) : l.set k c = lay l k [c] := by
  have h' : k + [c].length ≤ l.length := h
  refine list_ext_getD (by rw [lay_len _ _ _ h']; simp) fun j hj => ?_
  rw [lay_getD _ _ _ h']
  by_cases e : j = k
  · subst e; simp [List.getD, h]
  · rw [if_neg (by simp; omega)]; simp [List.getD, List.getElem?_set, show ¬ k = j from fun h => e h.symm]
theorem seal_lay (l : List UInt8) : Plain.seal l = lay l 148 (octRow (Plain.sum uby l).toNat 6 ++ [0, 32]) := by
  unfold Plain.seal lay
  rw [sealRow_len]
theorem sum_lay (f : UInt8 → Int) (l : List UInt8) (t : List UInt8) (h : l.length = 512) (ht : t.length = 8) : Plain.sum f (lay l 148 t) = Plain.sum f l := by
  have e1 : (lay l 148 t).take 148 = l.take 148 := by
    unfold lay
    rw [List.append_assoc, List.take_append_of_le_length (by rw [List.length_take]; omega), List.take_of_length_le (by rw [List.length_take]; omega)]
  have e2 : (lay l 148 t).drop 156 = l.drop 156 := by
    unfold lay
    have : (l.take 148 ++ t).length = 156 := by rw [List.length_append, List.length_take]; omega
    rw [ht, show 148 + 8 = 156 by rfl]
    rw [List.drop_append_of_le_length (by omega), List.drop_of_length_le (by omega), List.nil_append]
  unfold Plain.sum
  rw [e1, e2]
/-- t with noughts behind it, n bytes in all -/
def pad (n : Nat) (t : List UInt8) : List UInt8 := t ++ (List.replicate n 0).drop t.length
theorem pad_len (n : Nat) (t : List UInt8) (h : t.length ≤ n) : (pad n t).length = n := by unfold pad; rw [List.length_append, List.length_drop, List.length_replicate]; omega
theorem pad_full (n : Nat) (t : List UInt8) (h : t.length = n) : pad n t = t := by unfold pad; simp [h]
theorem pad_nil (n : Nat) : pad n [] = List.replicate n 0 := by unfold pad; simp
theorem text_pad (n : Nat) (t : List UInt8) (h : t.length ≤ n) (h0 : (0 : UInt8) ∉ t) : Plain.text (pad n t) = t := by
  unfold pad Plain.text
  rw [List.takeWhile_append_of_pos (fun x hx => by rw [bne_iff_ne]; intro e; subst e; exact h0 hx)]
  rw [List.drop_replicate]
  cases n - t.length with
  | zero => simp
  | succ m => rw [List.replicate_succ, List.takeWhile_cons_of_neg (by decide), List.append_nil]
/-- parts of fixed widths, one behind the other -/
def blkT : List Nat → List (List UInt8) → List UInt8
  | n :: W, t :: T => pad n t ++ blkT W T
  | _, _ => []
def Fit : List Nat → List (List UInt8) → Prop
  | n :: W, t :: T => t.length ≤ n ∧ Fit W T
  | [], [] => True
  | _, _ => False
theorem blkT_len : ∀ (W : List Nat) (T : List (List UInt8)), Fit W T → (blkT W T).length = W.sum
  | [], [], _ => rfl
  | n :: W, t :: T, h => by
    unfold blkT
    rw [List.length_append, pad_len n t h.1, blkT_len W T h.2, List.sum_cons]
  | [], _ :: _, h => h.elim
  | _ :: _, [], h => h.elim
theorem lay_far (a r : List UInt8) (f : Nat) (t : List UInt8) : lay (a ++ r) (a.length + f) t = a ++ lay r f t := by
  unfold lay
  rw [List.take_append, List.drop_append, List.take_of_length_le (by omega), List.drop_of_length_le (by omega), show a.length + f - a.length = f by omega, show a.length + f + t.length - a.length = f + t.length by omega]
  simp
theorem lay_blk : ∀ (W : List Nat) (T : List (List UInt8)) (k : Nat) (t : List UInt8), Fit W T → T[k]? = some [] → t.length ≤ W.getD k 0 → lay (blkT W T) ((W.take k).sum) t = blkT W (T.set k t) ∧ Fit W (T.set k t)
  | [], [], k, t, _, h, _ => by simp at h
  | [], _ :: _, _, _, h, _, _ => h.elim
  | _ :: _, [], _, _, h, _, _ => h.elim
  | n :: W, u :: T, 0, t, hF, h, ht => by
    simp only [List.getElem?_cons_zero, Option.some.injEq] at h
    subst h
    simp only [List.getD_cons_zero] at ht
    refine ⟨?_, ht, hF.2⟩
    simp only [List.set_cons_zero, List.take_zero, List.sum_nil]
    unfold blkT lay
    rw [pad_nil, List.take_zero, List.nil_append, Nat.zero_add, List.drop_append_of_le_length (by rw [List.length_replicate]; exact ht)]
    unfold pad
    rw [List.append_assoc]
  | n :: W, u :: T, k + 1, t, hF, h, ht => by
    simp only [List.getElem?_cons_succ] at h
    obtain ⟨e, hF2⟩ := lay_blk W T k t hF.2 h (by simpa using ht)
    refine ⟨?_, hF.1, hF2⟩
    simp only [List.set_cons_succ, List.take_succ_cons, List.sum_cons]
    unfold blkT
    rw [show n + (W.take k).sum = (pad n u).length + (W.take k).sum by rw [pad_len n u hF.1], lay_far, e]
theorem fld_far (a r : List UInt8) (s e : Nat) : fld (a ++ r) (a.length + s) (a.length + e) = fld r s e := by
  unfold fld
  rw [List.take_append, List.drop_append, List.take_of_length_le (by omega), List.drop_of_length_le (by omega), show a.length + e - a.length = e by omega, show a.length + s - a.length = s by omega, List.nil_append]
theorem fld_blk : ∀ (W : List Nat) (T : List (List UInt8)) (k : Nat) (t : List UInt8), Fit W T → T[k]? = some t → fld (blkT W T) ((W.take k).sum) ((W.take (k + 1)).sum) = pad (W.getD k 0) t
  | [], [], k, t, _, h => by simp at h
  | [], _ :: _, _, _, h, _ => h.elim
  | _ :: _, [], _, _, h, _ => h.elim
  | n :: W, u :: T, 0, t, hF, h => by
    simp only [List.getElem?_cons_zero, Option.some.injEq] at h
    subst h
    have hl := pad_len n u hF.1
    simp only [List.take_zero, List.sum_nil, List.take_succ_cons, List.sum_cons, List.getD_cons_zero, Nat.add_zero]
    unfold blkT fld
    rw [List.drop_zero, List.take_append_of_le_length (by omega), List.take_of_length_le (by omega)]
  | n :: W, u :: T, k + 1, t, hF, h => by
    simp only [List.getElem?_cons_succ] at h
    have e := fld_blk W T k t hF.2 h
    have hl := pad_len n u hF.1
    simp only [List.take_succ_cons, List.sum_cons, List.getD_cons_succ]
    unfold blkT
    rw [show n + (W.take k).sum = (pad n u).length + (W.take k).sum by rw [hl], show n + (W.take (k + 1)).sum = (pad n u).length + (W.take (k + 1)).sum by rw [hl], fld_far]
    exact e
end Go.Proofs.YtjchaogfmnabfaaDoor
