/-
  PutWalk: the writers of numerals: numeral.PutOctal and the reference's.
-/
import Derived.Test.YtjchaogfmnabfaaDoorPutLaw
import Derived.Test.YtjchaogfmnabfaaDoorFmtOct
import Derived.Test.YtjchaogfmnabfaaDoorShelf
import Derived.Test.YtjchaogfmnabfaaDoorApMem
namespace Go.Proofs.YtjchaogfmnabfaaDoor
open Go.ChangeShapes Go.WideShapes Go.ChangeAt Go.RowKit
/-- bytes and an error's number -/
def PutRes (w : World) (r : List UInt8 × Int) (e : Ending) (w' : World) : Prop :=
  ∃ a n c, e = .returned (.tuple #[.slice a n c, .int .i64 r.2]) ∧ Bs w' a n c r.1 ∧ Below w.heap.size w w'
theorem bs_nil (w : World) : Bs w none 0 0 [] := ⟨rfl, Nat.le_refl _, by unfold maxLen; omega, fun j v hj => by simp at hj, fun _ => ⟨rfl, rfl⟩⟩
theorem PutRes.nil {w w' : World} (k : Int) (h : Below w.heap.size w w') : PutRes w ([], k) (.returned (.tuple #[.slice none 0 0, .int .i64 k])) w' := ⟨none, 0, 0, rfl, bs_nil _, h⟩
/-- and the block is new: its cells may be written -/
def PutResF (w : World) (r : List UInt8 × Int) (e : Ending) (w' : World) : Prop :=
  ∃ a n c, e = .returned (.tuple #[.slice a n c, .int .i64 r.2]) ∧ Bs w' a n c r.1 ∧ Below w.heap.size w w' ∧ Free w' w.heap.size a n c
theorem PutResF.res {w w' : World} {r : List UInt8 × Int} {e : Ending} (h : PutResF w r e w') : PutRes w r e w' := by
  obtain ⟨a, n, c, h1, h2, h3, _⟩ := h
  exact ⟨a, n, c, h1, h2, h3⟩
theorem PutResF.nil {w w' : World} (k : Int) (h : Below w.heap.size w w') : PutResF w ([], k) (.returned (.tuple #[.slice none 0 0, .int .i64 k])) w' := ⟨none, 0, 0, rfl, bs_nil _, h, Free.nil _ _⟩
theorem PutResF.below {w0 w w' : World} {r : List UInt8 × Int} {e : Ending} (k : Below w0.heap.size w0 w) (h : PutResF w r e w') : PutResF w0 r e w' := by
  obtain ⟨a, n, c, h1, h2, h3, h4⟩ := h
  exact ⟨a, n, c, h1, h2, Below.seq k h3, h4.base k.size⟩
/-- []byte(s): the new block may be written -/
theorem bytesWorld_free (w : World) (e : TypeId) (l : List UInt8) (h : l.length ≤ 140737488355328) : Free (Lib.bytesWorld w e ⟨l.toArray⟩) w.heap.size (some ⟨w.heap.size, 0, none⟩) l.length (grownCap w l.length 0 e) := by
  have hge := grownCap_ge w l.length 0 e
  have hsz : (Lib.bytesCells w e ⟨l.toArray⟩).size = grownCap w l.length 0 e := by
    simp [Lib.bytesCells, ByteArray.size]
    omega
  have hnew := Lib.bytesWorld_at_new w e ⟨l.toArray⟩
  refine ⟨hge, grownCap_le_maxLen w _ 0 e (by unfold maxLen; omega), .inr ⟨_, rfl, Nat.le_refl _, by rw [Lib.bytesWorld_size]; omega, fun k hk => ⟨?_, ?_⟩⟩⟩
  · rw [cell_of_row _ _ _ _ _ _ hnew]
    have : k < (Lib.bytesCells w e ⟨l.toArray⟩).size := by omega
    simp [this]
  · have hlt : k < (Lib.bytesCells w e ⟨l.toArray⟩).size := by omega
    simp [World.frozen?, hnew]
    omega
section
variable {P : Program} {ops : Array Oper} {rest : List Oper} {o : Oper} {a : Act} {w : World} {Q : Exit → Act → World → Prop}
theorem wpList_bf_of_str (hgd : o.guard = none) (src dst : TypeId) (x : Operand) (ho : o.op = .convert src dst x) {e : TypeId} (hs : P.underlying src = some .string) (hd : P.underlying dst = some (.slice e)) (he : P.underlying e = some (.int .u8))
    {l : List UInt8} (hx : a.eval x = .string ⟨l.toArray⟩) (hl : l.length ≤ 140737488355328)
    (h : ∀ a' c' w', Bs w' a' l.length c' l → Below w.heap.size w w' → Free w' w.heap.size a' l.length c' → wpList P ops Q rest (a.put o.dst (.slice a' l.length c')) w') : wpList P ops Q (o :: rest) a w := by
  have hr := Lib.run_convert_string_bytes (P := P) w src dst e ⟨l.toArray⟩ hs hd he
  refine wpList_value hgd _ _ ?_ (h _ _ _ (bytesWorld_bs w e l hl) (bytesWorld_below w e _) (bytesWorld_free w e l hl))
  simp [execOp, ho, hx, hr, Result.andThen, ByteArray.size]
end
theorem Repeat0_any (c : Nat) (hc : c ≤ 64) (w : World) : Calls Tryd.prog 70 #[.string ⟨#[48]⟩, .int .i64 c] w fun e w' => e = .returned (.string ⟨(List.replicate c (48 : UInt8)).toArray⟩) ∧ Below w.heap.size w w' := by
  by_cases h0 : c = 0
  · subst h0
    exact (Tryd.strings_Repeat_zero ⟨#[48]⟩ w).mono fun e w' ⟨he, hw⟩ => ⟨he, by rw [hw]; exact Below.refl _ _⟩
  · by_cases h1 : c = 1
    · subst h1
      exact (Tryd.strings_Repeat_one ⟨#[48]⟩ w).mono fun e w' ⟨he, hw⟩ => ⟨he, by rw [hw]; exact Below.refl _ _⟩
    · refine (Tryd.strings_Repeat_main ⟨#[48]⟩ c w (by omega) (by omega) (by show 1 * c ≤ _; omega) (by decide)).mono fun e w' ⟨he, hw⟩ => ⟨?_, hw⟩
      have : Lib.repeatL [48] c = List.replicate c 48 := by
        have := Lib.repeatL_replicate 48 1 c
        rwa [Nat.mul_one] at this
      rw [he, ← this]
theorem str_app (x y : List UInt8) : (⟨x.toArray⟩ : ByteArray) ++ ⟨y.toArray⟩ = ⟨(x ++ y).toArray⟩ := by
  apply ByteArray.ext
  simp
theorem octRow_text (v n : Nat) (hn : nd8 v ≤ n) : List.replicate (n - nd8 v) 48 ++ octRow v (nd8 v) = octRow v n := by
  have := octRow_pad v (nd8 v) (nd8_spec v) (n - nd8 v)
  rw [← this, show nd8 v + (n - nd8 v) = n by omega]
set_option maxRecDepth 100000 in
set_option maxHeartbeats 1600000 in
theorem PutOctal_free (v n : Int) (w : World) (hT : Bru w) (v0 : -9223372036854775808 ≤ v) (v1 : v ≤ 9223372036854775807) (n0 : -9223372036854775808 ≤ n) (n1 : n ≤ 9223372036854775807) :
    Calls Tryd.prog 51 #[.int .i64 v, .int .i64 n] w (PutResF w (Plain.putOctal v n)) := by
  rcases putOctal_cases v n with ⟨h, e⟩ | ⟨h1, h2, h3, e⟩ | ⟨h1, h2, h3, h4, e⟩
  · rw [e]; clear e
    rcases h with h | h
    all_goals
      go_enter Tryd.func51, Tryd.ntmps51
      go_wp2
      all_goals
        go_ret2
        exact PutResF.nil _ (Below.refl _ _)
  · rw [e]; clear e
    by_cases hneg : v < 0
    · clear h3
      go_enter Tryd.func51, Tryd.ntmps51
      go_wp2
      go_ret2
      exact PutResF.nil _ (Below.refl _ _)
    · obtain ⟨u, rfl⟩ := Int.eq_ofNat_of_zero_le (by omega : 0 ≤ v)
      obtain ⟨m, rfl⟩ := Int.eq_ofNat_of_zero_le (by omega : 0 ≤ n)
      have hlen : (m : Int) - 1 < ((octRow u (nd8 u)).length : Int) := by
        have h4 : ¬ u < 8 ^ (m - 1) := by rcases h3 with h3 | h3; exact absurd h3 hneg; simpa using h3
        have h5 : ¬ nd8 u ≤ m - 1 := fun h => h4 ((nd8_iff u (m - 1) (by omega)).1 h)
        unfold octRow; rw [placeRow_len]; omega
      have HF := Lib.hid (FormatInt_8 u (by omega) w hT)
      generalize octRow u (nd8 u) = s at *
      clear h3
      go_enter Tryd.func51, Tryd.ntmps51
      go_wp2_with (go_at_call 69; (with_reducible refine (HF.out).mono ?_); rintro e w1 ⟨rfl, hb⟩)
      go_ret2
      exact PutResF.nil _ hb
  · rw [e]; clear e
    obtain ⟨u, rfl⟩ := Int.eq_ofNat_of_zero_le h3
    obtain ⟨m, rfl⟩ := Int.eq_ofNat_of_zero_le (by omega : 0 ≤ n)
    simp only [Int.toNat_natCast] at h4 ⊢
    have h5 : nd8 u ≤ m - 1 := (nd8_iff u (m - 1) (by omega)).2 h4
    have hlen : (octRow u (nd8 u)).length = nd8 u := by unfold octRow; rw [placeRow_len]
    have htx := octRow_text u (m - 1) h5
    have hll : (octRow u (m - 1)).length = m - 1 := by unfold octRow; rw [placeRow_len]
    have HF := Lib.hid (FormatInt_8 u (by omega) w hT)
    obtain ⟨c, hc⟩ : ∃ c : Nat, (m : Int) - 1 - ((octRow u (nd8 u)).length : Int) = (c : Int) := ⟨m - 1 - nd8 u, by rw [hlen]; omega⟩
    have hcc : m - 1 - nd8 u = c := by rw [hlen] at hc; omega
    have hle : ((octRow u (nd8 u)).length : Int) ≤ (m : Int) - 1 := by rw [hlen]; omega
    rw [hcc] at htx
    generalize octRow u (m - 1) = t at *
    generalize octRow u (nd8 u) = s at *
    have HR := Lib.hid (fun w => Repeat0_any c (by omega) w)
    have hs1 := str_app (List.replicate c 48) s
    have hs2 := str_app t [0]
    rw [htx] at hs1
    have htl : t.length ≤ 63 := by omega
    have hz1 : (List.replicate c (48 : UInt8)).length ≤ 64 := by rw [List.length_replicate]; omega
    have hs1' : s.length ≤ 64 := by omega
    have hti : (t.length : Int) ≤ 63 := by omega
    clear htx hcc hlen h4 hll
    generalize List.replicate c (48 : UInt8) = z at *
    go_enter Tryd.func51, Tryd.ntmps51
    go_wp2_with (first
      | (go_at_call 69; (with_reducible refine (HF.out).mono ?_); rintro e w1 ⟨rfl, hb⟩)
      | (go_at_call 70; (with_reducible refine (HR.out _).mono ?_); rintro e w2 ⟨rfl, hb2⟩)
      | ((with_reducible refine wpList_bf_of_str rfl _ _ _ rfl Tryd.underlying9 Tryd.underlying22 Tryd.underlying5 rfl (by rw [List.length_append]; simp only [List.length_singleton]; omega) ?_); intro a3 c3 w3 hbs3 hb3 hf3))
    have hbs4 : Bs w3 a3 (t.length + 1) c3 (t ++ [0]) := by have := hbs3; rwa [List.length_append] at this
    go_ret2
    have hf4 : Free w3 w2.heap.size a3 (t.length + 1) c3 := by have := hf3; rwa [List.length_append] at this
    exact ⟨a3, _, c3, rfl, hbs4, Below.seq (Below.seq hb hb2) hb3, hf4.base (Below.seq hb hb2).size⟩
theorem PutOctal_any (v n : Int) (w : World) (hT : Bru w) (v0 : -9223372036854775808 ≤ v) (v1 : v ≤ 9223372036854775807) (n0 : -9223372036854775808 ≤ n) (n1 : n ≤ 9223372036854775807) :
    Calls Tryd.prog 51 #[.int .i64 v, .int .i64 n] w (PutRes w (Plain.putOctal v n)) := (PutOctal_free v n w hT v0 v1 n0 n1).mono fun _ _ h => h.res
end Go.Proofs.YtjchaogfmnabfaaDoor
