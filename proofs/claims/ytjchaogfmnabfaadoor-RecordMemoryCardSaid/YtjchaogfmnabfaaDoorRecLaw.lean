/-
  RecLaw: extended records, in plain Lean. No program is needed here.
-/
import Derived.Test.YtjchaogfmnabfaaDoorOctRef
import Derived.Test.YtjchaogfmnabfaaDoorDec
namespace Go.Proofs.YtjchaogfmnabfaaDoor
set_option linter.unusedVariables false
set_option linter.unusedSimpArgs false
open Go.ChangeShapes Go.WideShapes Go.ChangeAt Go.RowKit
/-- what lies ahead of the first blank -/
def recHead (l : List UInt8) : List UInt8 := l.takeWhile (· != 32)
/-- key and value of a record's text -/
def recText (u : List UInt8) : Option (List UInt8 × List UInt8) :=
  if (u.takeWhile (· != 61)).length < u.length ∧ u.takeWhile (· != 61) ≠ [] then some (u.takeWhile (· != 61), u.drop ((u.takeWhile (· != 61)).length + 1)) else none
/-- a record of n bytes whose number has d digits -/
def recBody (l : List UInt8) (d n : Nat) : Option ((List UInt8 × List UInt8) × Nat) :=
  if ((l.take n).drop (d + 1)).getLast? = some 10 then (recText ((l.take n).drop (d + 1)).dropLast).map fun p => (p, n) else none
/-- the first record of l, and how many bytes it has -/
def Plain.one (l : List UInt8) : Option ((List UInt8 × List UInt8) × Nat) :=
  if (recHead l).length < l.length ∧ (recHead l).length ≤ 9 ∧ (Plain.decimal (recHead l)).2 = 0 ∧ (recHead l).length + 1 < (Plain.decimal (recHead l)).1.toNat ∧ (Plain.decimal (recHead l)).1.toNat ≤ l.length
  then recBody l (recHead l).length (Plain.decimal (recHead l)).1.toNat else none
theorem recHead_at (l : List UInt8) (d : Nat) (hd : d < l.length) (h : ∀ k, k < d → l.getD k 0 ≠ 32) (h32 : l.getD d 0 = 32) : recHead l = l.take d := by
  refine (while_at (p := (· != 32)) l d (by omega) ?_ (fun _ => by rw [h32]; rfl)).1
  rw [List.all_eq_true]
  intro x hx
  obtain ⟨k, hk, rfl⟩ := List.mem_take_iff_getElem.1 hx
  have := h k (by omega)
  have hk2 : k < l.length := by omega
  simp only [List.getD, List.getElem?_eq_getElem hk2, Option.getD_some] at this
  simpa using this
theorem recHead_none (l : List UInt8) (k : Nat) (hk : k < (recHead l).length) : l.getD k 0 ≠ 32 := by
  have hp : recHead l <+: l := List.takeWhile_prefix _
  have hlen := hp.length_le
  have hm := List.getElem_mem hk
  have hall : (recHead l).all (· != 32) = true := List.all_takeWhile
  have := (List.all_eq_true.1 hall) _ hm
  have hg : (recHead l)[k] = l[k]'(by omega) := hp.getElem hk
  have hk2 : k < l.length := by omega
  simp only [List.getD, List.getElem?_eq_getElem hk2, Option.getD_some, ← hg]
  simpa using this
theorem recHead_take (l : List UInt8) : recHead l = l.take (recHead l).length := (List.prefix_iff_eq_take.1 (List.takeWhile_prefix _))
theorem recHead_end (l : List UInt8) (h : (recHead l).length < l.length) : l.getD (recHead l).length 0 = 32 := by
  have hdrop : l.dropWhile (· != 32) = l.drop (recHead l).length := by
    have e := List.takeWhile_append_dropWhile (p := (· != 32)) (l := l)
    have e2 := List.take_append_drop (recHead l).length l
    rw [← recHead_take] at e2
    exact List.append_cancel_left (e.trans e2.symm)
  have hne : l.dropWhile (· != 32) ≠ [] := by
    rw [hdrop]; intro h0
    have := congrArg List.length h0
    simp at this; omega
  have hh := List.head_dropWhile_not (· != 32) hne
  have hg : (l.dropWhile (· != 32)).head hne = l.getD (recHead l).length 0 := by
    simp only [hdrop, List.head_drop]
    simp [List.getD, List.getElem?_eq_getElem h]
  rw [← hg]
  simpa using hh
theorem decimal_code (l : List UInt8) (h : l = [] ∨ l.all isDig = false) : (Plain.decimal l).2 = 10 := by
  unfold Plain.decimal; rw [if_pos]
  rcases h with h | h
  · exact .inl h
  · exact .inr (.inr h)
theorem all_dig_false (l : List UInt8) (k : Nat) (hk : k < l.length) (h : isDig (l.getD k 0) = false) : l.all isDig = false := all_no l k hk h
theorem take_getD (l : List UInt8) (n k : Nat) (h : k < n) : (l.take n).getD k 0 = l.getD k 0 := by simp [List.getD, List.getElem?_take, h]
theorem drop_getD (l : List UInt8) (n k : Nat) : (l.drop n).getD k 0 = l.getD (n + k) 0 := by simp [List.getD]
/-- the reference's tests: d digits ahead -/
def RecTop (l : List UInt8) (d : Nat) : Prop := 1 ≤ d ∧ d ≤ 9 ∧ l.getD 0 0 ≠ 48 ∧ d < l.length ∧ l.getD d 0 = 32
theorem dig_lt (c : UInt8) (h : isDig c = true) : c ≠ 32 := by
  intro e; subst e; revert h; decide
theorem decAcc_small (D : List UInt8) (h : D.all isDig = true) (h9 : D.length ≤ 9) : decAcc 0 D ≤ 999999999 := by
  have h1 : ∀ (l : List UInt8), l.all isDig = true → decAcc 0 l < 10 ^ l.length := by
    have key : ∀ (l : List UInt8) (v : Nat), l.all isDig = true → decAcc v l < (v + 1) * 10 ^ l.length := by
      intro l
      induction l with
      | nil => intro v _; simp [decAcc]
      | cons c l ih =>
        intro v hc
        rw [List.all_cons, Bool.and_eq_true] at hc
        have hd := (isDig_iff c).1 hc.1
        have := ih (v * 10 + (c.toNat - 48)) hc.2
        have e : decAcc v (c :: l) = decAcc (v * 10 + (c.toNat - 48)) l := rfl
        rw [e, List.length_cons, Nat.pow_succ]
        have h2 : v * 10 + (c.toNat - 48) + 1 ≤ (v + 1) * 10 := by omega
        have h3 := Nat.mul_le_mul_right (10 ^ l.length) h2
        have h4 : (v + 1) * 10 * 10 ^ l.length = (v + 1) * (10 ^ l.length * 10) := by rw [Nat.mul_assoc, Nat.mul_comm 10]
        omega
    intro l hl
    have := key l 0 hl
    simpa using this
  have h2 := h1 D h
  have h3 : 10 ^ D.length ≤ 10 ^ 9 := Nat.pow_le_pow_right (by decide) h9
  have h4 : (10 : Nat) ^ 9 = 1000000000 := rfl
  omega
theorem one_top (l : List UInt8) (d : Nat) (ht : RecTop l d) (hdig : ∀ k, k < d → isDig (l.getD k 0) = true) :
    recHead l = l.take d ∧ Plain.decimal (l.take d) = (((decAcc 0 (l.take d) : Nat) : Int), 0) ∧
    Plain.one l = if d + 1 < decAcc 0 (l.take d) ∧ decAcc 0 (l.take d) ≤ l.length then recBody l d (decAcc 0 (l.take d)) else none := by
  obtain ⟨h1, h9, h48, hlt, h32⟩ := ht
  have hh := recHead_at l d hlt (fun k hk => dig_lt _ (hdig k hk)) h32
  have hlen : (l.take d).length = d := by rw [List.length_take]; omega
  have hall : (l.take d).all isDig = true := by
    rw [List.all_eq_true]
    intro x hx
    obtain ⟨k, hk, rfl⟩ := List.mem_take_iff_getElem.1 hx
    have := hdig k (by omega)
    have hk2 : k < l.length := by omega
    simpa [List.getD, List.getElem?_eq_getElem hk2] using this
  have hsm := decAcc_small _ hall (by omega)
  have hdec : Plain.decimal (l.take d) = (((decAcc 0 (l.take d) : Nat) : Int), 0) := by
    unfold Plain.decimal
    rw [if_neg, if_pos (by omega)]
    rintro (h | h | h)
    · rw [h] at hlen; simp at hlen; omega
    · rw [take_getD l d 0 (by omega)] at h; exact h48 h.1
    · rw [hall] at h; cases h
  refine ⟨hh, hdec, ?_⟩
  unfold Plain.one
  rw [hh, hlen, hdec]
  simp only [Int.toNat_natCast]
  by_cases hc : d + 1 < decAcc 0 (l.take d) ∧ decAcc 0 (l.take d) ≤ l.length
  · rw [if_pos hc, if_pos ⟨hlt, h9, trivial, hc.1, hc.2⟩]
  · rw [if_neg hc, if_neg]
    rintro ⟨_, _, _, a, b⟩
    exact hc ⟨a, b⟩
/-- how the reference's count of digits stands -/
structure DigCount (l : List UInt8) (d : Nat) : Prop where
  le : d ≤ l.length
  ten : d ≤ 10
  dig : ∀ k, k < d → isDig (l.getD k 0) = true
  stop : d < l.length → d < 10 → isDig (l.getD d 0) = false
theorem one_notop (l : List UInt8) (d : Nat) (hc : DigCount l d) (ht : ¬ RecTop l d) : Plain.one l = none := by
  unfold Plain.one
  rw [if_neg]
  rintro ⟨h1, h2, h3, h4, h5⟩
  apply ht
  have hcode : ¬ (recHead l = [] ∨ (recHead l).all isDig = false) := fun h => by rw [decimal_code _ h] at h3; cases h3
  have hne : recHead l ≠ [] := fun h => hcode (.inl h)
  have hall : (recHead l).all isDig = true := by
    cases h : (recHead l).all isDig with
    | true => rfl
    | false => exact absurd (.inr h) hcode
  have hpos : 0 < (recHead l).length := List.length_pos_iff.2 hne
  have h32 := recHead_end l h1
  have hgd : ∀ k, k < (recHead l).length → isDig (l.getD k 0) = true := fun k hk => by
    have := (List.all_eq_true.1 hall) _ (List.getElem_mem hk)
    have hg : (recHead l)[k] = l[k]'(by omega) := (List.takeWhile_prefix _ : recHead l <+: l).getElem hk
    rw [hg] at this
    have hk2 : k < l.length := by omega
    simpa [List.getD, List.getElem?_eq_getElem hk2] using this
  have hd : d = (recHead l).length := by
    rcases Nat.lt_trichotomy d (recHead l).length with h | h | h
    · have := hc.stop (by omega) (by omega)
      rw [hgd d h] at this; cases this
    · exact h
    · have := hc.dig (recHead l).length h
      rw [h32] at this
      exact absurd this (by decide)
  have h48 : l.getD 0 0 ≠ 48 := by
    intro h48
    have hg0 : (recHead l).getD 0 0 = 48 := by
      rw [recHead_take l, take_getD l _ 0 hpos]; exact h48
    by_cases h11 : 1 < (recHead l).length
    · have : (Plain.decimal (recHead l)).2 = 10 := by
        unfold Plain.decimal; rw [if_pos (.inr (.inl ⟨hg0, h11⟩))]
      rw [this] at h3; cases h3
    · have hl1 : (recHead l).length = 1 := by omega
      obtain ⟨c, hcc⟩ := List.length_eq_one_iff.1 hl1
      rw [hcc] at hg0 h4
      have : c = 48 := by simpa using hg0
      rw [this] at h4
      revert h4
      decide
  exact ⟨by omega, by omega, h48, by omega, by rw [hd]; exact h32⟩
/-- the record's last byte, and its text -/
theorem body_parts (l : List UInt8) (d n : Nat) (h1 : d + 1 < n) (h2 : n ≤ l.length) :
    ((l.take n).drop (d + 1)).getLast? = some (l.getD (n - 1) 0) ∧ ((l.take n).drop (d + 1)).dropLast = (l.take (n - 1)).drop (d + 1) := by
  have hlen : ((l.take n).drop (d + 1)).length = n - (d + 1) := by rw [List.length_drop, List.length_take]; omega
  constructor
  · rw [List.getLast?_eq_getElem?, hlen, List.getElem?_drop, List.getElem?_take]
    have hk : n - 1 < l.length := by omega
    rw [if_pos (by omega), show d + 1 + (n - (d + 1) - 1) = n - 1 by omega]
    simp [List.getD, List.getElem?_eq_getElem hk]
  · rw [List.dropLast_eq_take, hlen, List.take_drop, List.take_take, show min (d + 1 + (n - (d + 1) - 1)) n = n - 1 by omega]
theorem recBody_eq (l : List UInt8) (d n : Nat) (h1 : d + 1 < n) (h2 : n ≤ l.length) :
    recBody l d n = if l.getD (n - 1) 0 = 10 then (recText ((l.take (n - 1)).drop (d + 1))).map (fun p => (p, n)) else none := by
  obtain ⟨a, b⟩ := body_parts l d n h1 h2
  unfold recBody
  rw [a, b]
  by_cases h : l.getD (n - 1) 0 = 10
  · rw [if_pos (by rw [h]), if_pos h]
  · rw [if_neg (fun e => h (Option.some.inj e)), if_neg h]
theorem recText_short (u : List UInt8) (h : u.length ≤ 1) : recText u = none := by
  unfold recText
  rw [if_neg]
  rintro ⟨h1, h2⟩
  have : u.takeWhile (· != 61) = [] := List.eq_nil_of_length_eq_zero (by omega)
  exact h2 this
/-- n as the reference tests it -/
theorem one_size (l : List UInt8) (d n : Nat) (h1 : d + 1 < n) (h2 : n ≤ l.length) (h4 : n < d + 4) : recBody l d n = none := by
  rw [recBody_eq l d n h1 h2, recText_short _ (by rw [List.length_drop, List.length_take]; omega)]
  split <;> rfl
theorem one_bound (l : List UInt8) (p : List UInt8 × List UInt8) (n : Nat) (h : Plain.one l = some (p, n)) : 5 ≤ n ∧ n ≤ l.length := by
  unfold Plain.one at h
  split at h
  · rename_i hc
    obtain ⟨h1, h2, h3, h4, h5⟩ := hc
    have hn : n = (Plain.decimal (recHead l)).1.toNat := by
      unfold recBody at h
      split at h
      · rw [Option.map_eq_some_iff] at h
        obtain ⟨q, _, hq⟩ := h
        exact (Prod.ext_iff.1 hq).2.symm
      · cases h
    have hpos : 0 < (recHead l).length := by
      rcases Nat.eq_zero_or_pos (recHead l).length with h0 | h0
      · have : recHead l = [] := List.eq_nil_of_length_eq_zero h0
        rw [decimal_code _ (.inl this)] at h3; cases h3
      · exact h0
    by_cases h4' : (Plain.decimal (recHead l)).1.toNat < (recHead l).length + 4
    · rw [one_size l _ _ h4 h5 h4'] at h; cases h
    · omega
  · cases h
/-- the pairs of an extended header -/
def readF : Nat → List UInt8 → Option (List (List UInt8 × List UInt8))
  | 0, l => if l = [] then some [] else none
  | f + 1, l => if l = [] then some [] else match Plain.one l with
    | none => none
    | some (p, n) => (readF f (l.drop n)).map (p :: ·)
theorem readF_more : ∀ (f g : Nat) (l : List UInt8), l.length ≤ f → l.length ≤ g → readF f l = readF g l
  | 0, 0, l, _, _ => rfl
  | 0, g + 1, l, h, _ => by
    have : l = [] := List.eq_nil_of_length_eq_zero (by omega)
    subst this; rfl
  | f + 1, 0, l, _, h => by
    have : l = [] := List.eq_nil_of_length_eq_zero (by omega)
    subst this; rfl
  | f + 1, g + 1, l, h1, h2 => by
    unfold readF
    by_cases h0 : l = []
    · rw [if_pos h0, if_pos h0]
    · rw [if_neg h0, if_neg h0]
      cases ho : Plain.one l with
      | none => rfl
      | some r =>
        obtain ⟨p, n⟩ := r
        have hb := one_bound l p n ho
        simp only
        rw [readF_more f g (l.drop n) (by rw [List.length_drop]; omega) (by rw [List.length_drop]; omega)]
def Plain.read (l : List UInt8) : Option (List (List UInt8 × List UInt8)) := readF l.length l
theorem read_nil : Plain.read [] = some [] := rfl
theorem read_none (l : List UInt8) (h : l ≠ []) (ho : Plain.one l = none) : Plain.read l = none := by
  unfold Plain.read
  obtain ⟨m, hm⟩ : ∃ m, l.length = m + 1 := ⟨l.length - 1, by have := List.length_pos_iff.2 h; omega⟩
  rw [hm]; unfold readF; rw [if_neg h, ho]
theorem read_some (l : List UInt8) (p : List UInt8 × List UInt8) (n : Nat) (ho : Plain.one l = some (p, n)) : Plain.read l = (Plain.read (l.drop n)).map (p :: ·) := by
  have hb := one_bound l p n ho
  have h : l ≠ [] := fun h0 => by subst h0; simp at hb; omega
  unfold Plain.read
  obtain ⟨m, hm⟩ : ∃ m, l.length = m + 1 := ⟨l.length - 1, by have := List.length_pos_iff.2 h; omega⟩
  rw [hm]; conv => lhs; unfold readF
  rw [if_neg h, ho]
  simp only
  rw [readF_more m (l.drop n).length (l.drop n) (by rw [List.length_drop]; omega) (Nat.le_refl _)]
theorem recHead_app (x y : List UInt8) (h : (recHead x).length < x.length) : recHead (x ++ y) = recHead x := by
  have h1 := recHead_at (x ++ y) (recHead x).length (by rw [List.length_append]; omega) (fun k hk => by
    have := recHead_none x k hk
    have hk2 : k < x.length := by omega
    simpa [List.getD, List.getElem?_append_left hk2] using this) (by
    have := recHead_end x h
    simpa [List.getD, List.getElem?_append_left h] using this)
  rw [h1, List.take_append_of_le_length (by omega), ← recHead_take]
theorem one_app (x y : List UInt8) (r : (List UInt8 × List UInt8) × Nat) (h : Plain.one x = some r) : Plain.one (x ++ y) = some r := by
  have h0 := h
  unfold Plain.one at h ⊢
  split at h
  · rename_i hc
    obtain ⟨h1, h2, h3, h4, h5⟩ := hc
    rw [recHead_app x y h1, if_pos ⟨by rw [List.length_append]; omega, h2, h3, h4, by rw [List.length_append]; omega⟩]
    unfold recBody at h ⊢
    rw [List.take_append_of_le_length h5]
    exact h
  · cases h
theorem read_app (y : List UInt8) : ∀ (f : Nat) (x : List UInt8) (p : List (List UInt8 × List UInt8)), x.length ≤ f → Plain.read x = some p → Plain.read (x ++ y) = (Plain.read y).map (p ++ ·)
  | 0, x, p, hf, h => by
    have : x = [] := List.eq_nil_of_length_eq_zero (by omega)
    subst this
    rw [read_nil] at h
    cases h
    rw [List.nil_append]
    cases Plain.read y <;> rfl
  | f + 1, x, p, hf, h => by
    by_cases hx : x = []
    · subst hx
      rw [read_nil] at h
      cases h
      rw [List.nil_append]
      cases Plain.read y <;> rfl
    · cases ho : Plain.one x with
      | none => rw [read_none x hx ho] at h; cases h
      | some r =>
        obtain ⟨q, n⟩ := r
        have hb := one_bound x q n ho
        rw [read_some x q n ho] at h
        obtain ⟨p', hp', rfl⟩ := Option.map_eq_some_iff.1 h
        rw [read_some (x ++ y) q n (one_app x y _ ho), List.drop_append_of_le_length hb.2, read_app y f (x.drop n) p' (by rw [List.length_drop]; omega) hp']
        cases Plain.read y <;> rfl
theorem read_join (x y : List UInt8) (p : List (List UInt8 × List UInt8)) (h : Plain.read x = some p) : Plain.read (x ++ y) = (Plain.read y).map (p ++ ·) := read_app y x.length x p (Nat.le_refl _) h
theorem read_empty (l : List UInt8) (h : Plain.read l = some []) : l = [] := by
  apply Classical.byContradiction
  intro hl
  cases ho : Plain.one l with
  | none => rw [read_none l hl ho] at h; cases h
  | some r =>
    obtain ⟨q, n⟩ := r
    rw [read_some l q n ho] at h
    obtain ⟨p', _, hp⟩ := Option.map_eq_some_iff.1 h
    cases hp
/-- data cut in the midst says fewer pairs -/
theorem read_cut (l : List UInt8) (n : Nat) (hn : n < l.length) (p q : List (List UInt8 × List UInt8)) (h : Plain.read l = some p) (hq : Plain.read (l.take n) = some q) : q.length < p.length ∧ p.take q.length = q := by
  have e := read_join (l.take n) (l.drop n) q hq
  rw [List.take_append_drop, h] at e
  obtain ⟨r, hr, he⟩ := Option.map_eq_some_iff.1 e.symm
  subst he
  have hr0 : r ≠ [] := fun h0 => by
    subst h0
    have := congrArg List.length (read_empty _ hr)
    rw [List.length_drop] at this
    simp at this; omega
  have := List.length_pos_iff.2 hr0
  exact ⟨by rw [List.length_append]; omega, List.take_left⟩
theorem read_len (f : Nat) : ∀ (l : List UInt8) (p : List (List UInt8 × List UInt8)), l.length ≤ f → Plain.read l = some p → 5 * p.length ≤ l.length := by
  induction f with
  | zero =>
    intro l p hf h
    have : l = [] := List.eq_nil_of_length_eq_zero (by omega)
    subst this
    rw [read_nil] at h; cases h; simp
  | succ f ih =>
    intro l p hf h
    by_cases hx : l = []
    · subst hx
      rw [read_nil] at h; cases h; simp
    · cases ho : Plain.one l with
      | none => rw [read_none l hx ho] at h; cases h
      | some r =>
        obtain ⟨q, n⟩ := r
        have hb := one_bound l q n ho
        rw [read_some l q n ho] at h
        obtain ⟨p', hp', rfl⟩ := Option.map_eq_some_iff.1 h
        have := ih (l.drop n) p' (by rw [List.length_drop]; omega) hp'
        rw [List.length_drop] at this
        rw [List.length_cons]; omega
end Go.Proofs.YtjchaogfmnabfaaDoor
