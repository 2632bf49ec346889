/-
  GrGood: route.Good, the reference's Good; strings.IndexAny at "/\x00", whatever the bytes.
-/
import Derived.Test.YtpdkdhcbibcifaaGrTree
import Derived.Test.YtpdkdhcbibcifaaShelf
import Derived.Lib.SpaceUEq
import Derived.Lib.IndexAny
import Derived.Laws.RangeString
import Derived.Laws.RangeAny
import Derived.Laws.Strings3
import Derived.Lib.OthersKept
import Derived.Deep.LoopGhost
import Derived.BigQuiet
import Derived.WalkMore
import Derived.LoopN
namespace Go.Proofs.Ytpdkdhcbibcifaa
set_option linter.unusedVariables false
set_option linter.unusedSimpArgs false
open Go.ChangeShapes Go.WideShapes Go.ChangeAt Go.RowKit
namespace Gr
/-- the rune at a place, and how far it goes -/
theorem dec_facts (s : ByteArray) (pos : Nat) (h : pos < s.data.toList.length) :
    ((s.data.toList.getD pos 0).toNat < 128 ∧ Utf8.decode s pos = ((s.data.toList.getD pos 0).toNat, 1)) ∨
    (128 ≤ (s.data.toList.getD pos 0).toNat ∧ 128 ≤ (Utf8.decode s pos).1 ∧ (Utf8.decode s pos).1 ≤ 1114111 ∧ 1 ≤ (Utf8.decode s pos).2 ∧ pos + (Utf8.decode s pos).2 ≤ s.data.toList.length ∧ ∀ j, pos ≤ j → j < pos + (Utf8.decode s pos).2 → 128 ≤ (s.data.toList.getD j 0).toNat) := by
  have hr := Lib.rune_le s pos
  have hw := Lib.width_pos s pos
  rw [Lib.decode_N] at hr hw ⊢
  generalize hl : s.data.toList = l at *
  generalize hn : l.length - pos = n at *
  generalize h0 : (l.getD pos 0).toNat = b0 at *
  generalize h1 : (l.getD (pos + 1) 0).toNat = b1 at *
  generalize h2 : (l.getD (pos + 2) 0).toNat = b2 at *
  generalize h3 : (l.getD (pos + 3) 0).toNat = b3 at *
  by_cases hb : b0 < 128
  · left
    exact ⟨hb, Lib.decodeN_ascii _ _ _ _ _ hb⟩
  · right
    obtain ⟨c1, c2, c3, c4⟩ := Lib.decodeN_conts n b0 b1 b2 b3
    have hge : 128 ≤ (Lib.decodeN n b0 b1 b2 b3).1 := by
      unfold Lib.decodeN
      repeat' split
      all_goals (simp only; omega)
    generalize Lib.decodeN n b0 b1 b2 b3 = p at *
    obtain ⟨r, m⟩ := p
    simp only at *
    refine ⟨by omega, hge, hr, hw, by omega, fun j hj1 hj2 => ?_⟩
    have : j = pos ∨ j = pos + 1 ∨ j = pos + 2 ∨ j = pos + 3 := by omega
    rcases this with rfl | rfl | rfl | rfl <;> omega
theorem enc_two (r : Int) (h : 128 ≤ r) (h2 : r < 2048) : ∃ x y : UInt8, Utf8.encode r = ⟨#[x, y]⟩ ∧ 128 ≤ y.toNat := by
  have hv : Utf8.valid r = true := by simp [Utf8.valid]; omega
  have a : ¬ r.toNat < 128 := by omega
  have b : r.toNat < 2048 := by omega
  refine ⟨_, _, by simp only [Utf8.encode, hv, if_true]; rw [if_neg a, if_pos b], ?_⟩
  have : (128 + r.toNat % 64) < 256 := by omega
  simp [UInt8.toNat_ofNat']
  omega
theorem enc_more (r : Int) (h : 2048 ≤ r) : ∃ l : List UInt8, Utf8.encode r = ⟨l.toArray⟩ ∧ (l.length = 3 ∨ l.length = 4) := by
  simp only [Utf8.encode]
  split
  · have a : ¬ r.toNat < 128 := by omega
    have b : ¬ r.toNat < 2048 := by omega
    rw [if_neg a, if_neg b]
    split
    · exact ⟨[_, _, _], rfl, Or.inl rfl⟩
    · exact ⟨[_, _, _, _], rfl, Or.inr rfl⟩
  · exact ⟨[_, _, _], rfl, Or.inl rfl⟩
def sl0 : ByteArray := ⟨#[47, 0]⟩
set_option maxRecDepth 1000000 in
set_option maxHeartbeats 4000000 in
theorem IndexRune_err (w : World) : Calls Try.prog 71 #[.string ⟨#[47, 0]⟩, .int .i32 65533] w fun e w' => e = .returned (.int .i64 (-1)) ∧ Below w.heap.size w w' := by
  have hsz : (⟨#[47, 0]⟩ : ByteArray).size = 2 := rfl
  go_enter Try.func71, Try.ntmps71
  go_wp2_with fail
  go_loopg [5, 6] 2 (fun g _ _ wx => ∃ i : Nat, i + g = 2 ∧ wx = w.iter ⟨#[47, 0]⟩ i)
  case atStart => exact ⟨0, by omega, rfl⟩
  case round =>
    obtain ⟨i, hig, rfl⟩ := hrel
    cases gk with
    | zero =>
      obtain rfl : i = 2 := by omega
      have hnx := run_next_end (P := Try.prog) w ⟨#[47, 0]⟩ 2
      go_wp2_with fail
      go_ret
      exact ⟨rfl, (Below.refl _ _).alloc (Nat.le_refl _) _⟩
    | succ g =>
      have hi : i = 0 ∨ i = 1 := by omega
      rcases hi with rfl | rfl
      · have hnx := fun ty => run_next_ascii (P := Try.prog) w ⟨#[47, 0]⟩ 0 ty (by decide) (by decide)
        go_wp2_with fail
        go_roundg g
        case measure => omega
        case rel => exact ⟨1, by omega, rfl⟩
      · have hnx := fun ty => run_next_ascii (P := Try.prog) w ⟨#[47, 0]⟩ 1 ty (by decide) (by decide)
        go_wp2_with fail
        go_roundg g
        case measure => omega
        case rel => exact ⟨2, by omega, rfl⟩
set_option maxRecDepth 1000000 in
set_option maxHeartbeats 4000000 in
theorem IndexRune_two (r : Int) (h : 128 ≤ r) (h2 : r < 2048) (w : World) : Calls Try.prog 71 #[.string ⟨#[47, 0]⟩, .int .i32 r] w fun e w' => e = .returned (.int .i64 (-1)) ∧ Below w.heap.size w w' := by
  obtain ⟨x, y, he, hy⟩ := enc_two r h h2
  have hsz : (⟨#[47, 0]⟩ : ByteArray).size = 2 := rfl
  have hs2 : (⟨#[x, y]⟩ : ByteArray).size = 2 := rfl
  have hv : Lib.validRune r = true := by simp [Lib.validRune]; omega
  have hne : ¬ r = 65533 := by omega
  have hr3 : (r == 65533) = false := by simpa using hne
  have e1 : (⟨#[47, 0]⟩ : ByteArray)[1]'(by decide) = 0 := rfl
  have e2 : (⟨#[x, y]⟩ : ByteArray)[1]'(by show 1 < 2; decide) = y := rfl
  have e3 : ((0 : Int) != (y.toNat : Int)) = true := by rw [bne_iff_ne]; omega
  have e4 : (⟨#[47, 0]⟩ : ByteArray).extract 2 2 = ⟨#[]⟩ := rfl
  have e5 : (⟨#[47, 0]⟩ : ByteArray)[(1 : Int).toNat]'(by decide) = 0 := rfl
  have HI : Hid (∀ (c : Int) w, Calls Try.prog 48 #[.string ⟨#[]⟩, .int .u8 c] w fun e w' => e = .returned (.int .i64 (-1)) ∧ w' = w) := Lib.hid (fun (c : Int) w => Try.strings_IndexByte ⟨#[]⟩ c w)
  have HVR := Lib.hid (fun w => Try.utf8_ValidRune r w)
  rw [hv] at HVR
  clear hv
  go_enter Try.func71, Try.ntmps71
  go_wp2_with (first
    | (go_at_call 75; (refine (HVR.out _).mono ?_); rintro e w1 ⟨rfl, rfl⟩)
    | fail)
  go_step3
  go_wp2_with fail
  refine wp_loop_rounds 1 ?_
  rw [rounds_succ]
  go_wp2_with fail
  go_step3
  go_wp2_with fail
  go_quiet (fail)
  go_wp2_with fail
  go_region_with (go_at_call 48; (refine (HI.out _ _).mono ?_); rintro e w2 ⟨rfl, rfl⟩)
  all_goals
    go_wp2_with fail
    rw [Exit.noGoto_ret]
    go_wp2_with fail
    rw [Exit.noGoto_ret]
    go_ret
    exact ⟨rfl, Below.drewN (Below.refl _ _) _⟩
set_option maxRecDepth 1000000 in
set_option maxHeartbeats 4000000 in
theorem IndexRune_more (r : Int) (h : 2048 ≤ r) (hr : r ≠ 65533) (w : World) : Calls Try.prog 71 #[.string ⟨#[47, 0]⟩, .int .i32 r] w fun e w' => e = .returned (.int .i64 (-1)) ∧ Below w.heap.size w w' := by
  obtain ⟨l, he, hl⟩ := enc_more r h
  have hsz : (⟨#[47, 0]⟩ : ByteArray).size = 2 := rfl
  have hs2 : (⟨l.toArray⟩ : ByteArray).size = l.length := rfl
  have hr3 : (r == 65533) = false := by simpa using hr
  have HVR := Lib.hid (fun w => Try.utf8_ValidRune r w)
  generalize Lib.validRune r = v at *
  cases v with
  | false =>
    go_enter Try.func71, Try.ntmps71
    go_wp2_with (first
      | (go_at_call 75; (refine (HVR.out _).mono ?_); rintro e w1 ⟨rfl, rfl⟩)
      | fail)
    go_ret
    exact ⟨rfl, Below.refl _ _⟩
  | true =>
    go_enter Try.func71, Try.ntmps71
    go_wp2_with (first
      | (go_at_call 75; (refine (HVR.out _).mono ?_); rintro e w1 ⟨rfl, rfl⟩)
      | fail)
    go_step3
    go_wp2_with fail
    refine wp_loop_rounds 1 ?_
    rw [rounds_succ]
    go_wp2_with fail
    rw [Exit.noGoto_ret]
    go_ret
    exact ⟨rfl, Below.refl _ _⟩
theorem IndexRune_sl (r : Int) (h0 : 0 ≤ r) (h1 : r ≤ 1114111) (w : World) : Calls Try.prog 71 #[.string ⟨#[47, 0]⟩, .int .i32 r] w fun e w' => e = .returned (.int .i64 (if r = 47 then 0 else if r = 0 then 1 else -1)) ∧ Below w.heap.size w w' := by
  by_cases h : r < 128
  · refine (Try.strings_IndexRune_ascii ⟨#[47, 0]⟩ r w h0 h).mono ?_
    rintro e w' ⟨rfl, rfl⟩
    refine ⟨?_, Below.refl _ _⟩
    simp only [Lib.indexByte]
    have hb : r.toNat.toUInt8.toNat = r.toNat := by simp; omega
    by_cases h47 : r = 47
    · subst h47; rfl
    · rw [if_neg h47]
      have n1 : ¬ (47 : UInt8) = r.toNat.toUInt8 := fun e => by have := congrArg UInt8.toNat e; rw [hb] at this; simp at this; omega
      by_cases h00 : r = 0
      · subst h00; rfl
      · rw [if_neg h00]
        have n2 : ¬ (0 : UInt8) = r.toNat.toUInt8 := fun e => by have := congrArg UInt8.toNat e; rw [hb] at this; simp at this; omega
        simp [n1, n2]
  · rw [if_neg (by omega), if_neg (by omega)]
    by_cases h3 : r = 65533
    · subst h3; exact IndexRune_err w
    · by_cases h2 : r < 2048
      · exact IndexRune_two r (by omega) h2 w
      · exact IndexRune_more r (by omega) h3 w
/-- a number that is no less than 0 just if p holds -/
def RetI (w : World) (p : Prop) (r : Ending) (w' : World) : Prop := ∃ k, r = .returned (.int .i64 k) ∧ (0 ≤ k ↔ p) ∧ Below w.heap.size w w'
theorem iterAt_below {w wr : World} (hb : Below w.heap.size w wr) (s : ByteArray) (pos : Nat) : Below w.heap.size w (wr.iterAt w.heap.size s pos) :=
  hb.trans ⟨rfl, rfl, rfl, by simp [World.iterAt], fun k hk => by simp only [World.iterAt]; rw [Array.getElem?_setIfInBounds_ne (by omega)]⟩
def NoSl (l : Bt) (i : Nat) : Prop := ∀ j, j < i → j < l.length → l.getD j 0 ≠ 47 ∧ l.getD j 0 ≠ 0
theorem NoSl.none {l : Bt} (h : NoSl l l.length) : ¬ (47 ∈ l ∨ 0 ∈ l) := by
  rintro (hm | hm)
  · obtain ⟨j, hj, e⟩ := List.mem_iff_getElem.1 hm
    have := (h j hj hj).1
    simp [List.getD, List.getElem?_eq_getElem hj, e] at this
  · obtain ⟨j, hj, e⟩ := List.mem_iff_getElem.1 hm
    have := (h j hj hj).2
    simp [List.getD, List.getElem?_eq_getElem hj, e] at this
theorem getD_mem {l : Bt} {i : Nat} (h : i < l.length) : l.getD i 0 ∈ l := by
  simp [List.getD, List.getElem?_eq_getElem h]
set_option maxRecDepth 1000000 in
set_option maxHeartbeats 4000000 in
theorem IndexAny_short (l : Bt) (w : World) (h8 : l.length ≤ 8) : Calls Try.prog 70 #[.string ⟨l.toArray⟩, .string ⟨#[47, 0]⟩] w (RetI w (47 ∈ l ∨ 0 ∈ l)) := by
  have hsz : (⟨l.toArray⟩ : ByteArray).size = l.length := rfl
  have hs2 : (⟨#[47, 0]⟩ : ByteArray).size = 2 := rfl
  have h8z : decide ((8 : Int) < ((⟨l.toArray⟩ : ByteArray).size : Int)) = false := decide_eq_false (by rw [hsz]; omega)
  have HU := Lib.hid (fun (w : World) => Try.strings_shouldUseASCIISet ((⟨l.toArray⟩ : ByteArray).size : Int) w)
  rw [h8z] at HU
  have HR := Lib.hid (fun r h0 h1 w => IndexRune_sl r h0 h1 w)
  have HDF := Lib.hid (fun i h => dec_facts ⟨l.toArray⟩ i h)
  simp only [List.toList_toArray] at HDF
  clear h8z
  go_enter Try.func70, Try.ntmps70
  go_wp2_with (first | (go_at_call 72; (refine (HU.out _).mono ?_); rintro e w1 ⟨rfl, hw1⟩; obtain rfl := hw1.symm) | fail)
  go_loopg [9, 10] l.length (fun g _ _ wx => ∃ i : Nat, i + g = l.length ∧ wx.heap[w.heap.size]? = some (.stringIter ⟨l.toArray⟩ i) ∧ Hid (Below w.heap.size w wx) ∧ Hid (NoSl l i))
  case atStart => exact ⟨0, by omega, World.iter_heap _ _ _, Lib.hid ((Below.refl _ _).alloc (Nat.le_refl _) _), Lib.hid (fun j hj => by omega)⟩
  case round =>
    obtain ⟨i, hig, hit, hbel, hno⟩ := hrel
    have hbs := hbel.out.size
    have hkl : w.heap.size < wr.heap.size := (Array.getElem?_eq_some_iff.1 hit).1
    have HIT := Lib.hid hit
    cases gk with
    | zero =>
      obtain rfl : i = l.length := by omega
      have hnx := fun ty => Lib.run_next_end_at (P := Try.prog) wr w.heap.size ⟨l.toArray⟩ l.length ty hit (by rw [hsz]; omega)
      clear hit
      go_wp2_with fail
      go_ret
      exact ⟨-1, rfl, by simp [NoSl.none hno.out], hbel.out⟩
    | succ g =>
      have hi : i < l.length := by omega
      have hnx := fun ty => Lib.run_next_any_at (P := Try.prog) wr w.heap.size ⟨l.toArray⟩ i ty hit (by rw [hsz]; omega)
      have hdf := HDF.out i hi
      have hia := fun p => Lib.iterAt_heap wr w.heap.size ⟨l.toArray⟩ i p hit
      have hmem := getD_mem hi
      generalize hgb : l.getD i 0 = b at *
      obtain ⟨⟨r, m⟩, hrm⟩ : ∃ p, Utf8.decode ⟨l.toArray⟩ i = p := ⟨_, rfl⟩
      rw [hrm] at hdf
      simp only [hrm] at hnx
      simp only at hdf
      have hr0 : r ≤ 1114111 := by have := UInt8.toNat_lt b; rcases hdf with ⟨_, h⟩ | h <;> simp at h <;> omega
      have hm1 : 1 ≤ m := by rcases hdf with ⟨_, h⟩ | h <;> simp at h <;> omega
      have hil : i + m ≤ l.length := by rcases hdf with ⟨_, h⟩ | h <;> simp at h <;> omega
      have hstep : ¬ ((r : Int) = 47 ∨ (r : Int) = 0) → NoSl l (i + m) := by
        intro hne j hj hjl
        by_cases hji : j < i
        · exact hno.out j hji hjl
        · rcases hdf with ⟨h1, h2⟩ | ⟨h1, h2, h3, h4, h5, h6⟩
          · simp only [Prod.mk.injEq] at h2
            obtain rfl : j = i := by omega
            rw [hgb]
            refine ⟨fun e => hne (Or.inl ?_), fun e => hne (Or.inr ?_)⟩
            · rw [h2.1, e]; rfl
            · rw [h2.1, e]; rfl
          · have := h6 j (by omega) hj
            refine ⟨fun e => ?_, fun e => ?_⟩ <;> rw [e] at this <;> simp at this
      have hyes : ((r : Int) = 47 ∨ (r : Int) = 0) → (47 ∈ l ∨ 0 ∈ l) := by
        intro he
        rcases hdf with ⟨h1, h2⟩ | ⟨h1, h2, h3, h4, h5, h6⟩
        · simp only [Prod.mk.injEq] at h2
          rcases he with he | he
          · left; have : b = 47 := UInt8.toNat_inj.1 (by rw [← h2.1]; show r = 47; omega)
            rw [← this]; exact hmem
          · right; have : b = 0 := UInt8.toNat_inj.1 (by rw [← h2.1]; show r = 0; omega)
            rw [← this]; exact hmem
        · omega
      have HIA := Lib.hid hia
      have HST := Lib.hid hstep; have HYE := Lib.hid hyes
      have HCALL := Lib.hid (HR.out r (by omega) (by omega))
      clear hit hrm hdf HDF hmem hgb hia hstep hyes HIT
      by_cases h47 : (r : Int) = 47
      · rw [h47, if_pos rfl] at HCALL
        have HY := Lib.hid (HYE.out (Or.inl h47))
        rw [h47] at hnx
        clear h47 HST HYE hr0
        go_wp2_with (first | (go_at_call 71; (refine (HCALL.out _).mono ?_); rintro e w3 ⟨rfl, hb3⟩) | fail)
        go_ret
        exact ⟨i, rfl, by simp [HY.out], Below.seq (iterAt_below hbel.out _ _) hb3⟩
      · rw [if_neg h47] at HCALL
        by_cases h00 : (r : Int) = 0
        · rw [h00, if_pos rfl] at HCALL
          have HY := Lib.hid (HYE.out (Or.inr h00))
          rw [h00] at hnx
          clear h00 h47 HST HYE hr0
          go_wp2_with (first | (go_at_call 71; (refine (HCALL.out _).mono ?_); rintro e w3 ⟨rfl, hb3⟩) | fail)
          go_ret
          exact ⟨i, rfl, by simp [HY.out], Below.seq (iterAt_below hbel.out _ _) hb3⟩
        · rw [if_neg h00] at HCALL
          have HN := Lib.hid (HST.out (fun h => h.elim h47 h00))
          go_wp2_with (first | (go_at_call 71; (refine (HCALL.out _).mono ?_); rintro e w3 ⟨rfl, hb3⟩) | fail)
          go_roundg (g + 1 - m)
          case measure => omega
          case rel => exact ⟨i + m, by omega, by rw [hb3.block _ (by simp [World.iterAt]; exact hkl)]; exact HIA.out _, Lib.hid (Below.seq (iterAt_below hbel.out _ _) hb3), HN⟩
theorem indexAny_mem (cs : Bt) : ∀ l : Bt, 0 ≤ Lib.indexAny l cs ↔ ∃ b ∈ l, b ∈ cs
  | [] => by simp [Lib.indexAny]
  | b :: l => by
    have ih := indexAny_mem cs l
    have hge := Lib.indexAny_ge cs l
    unfold Lib.indexAny
    by_cases h : b ∈ cs
    · rw [if_pos (by simpa using h)]
      exact ⟨fun _ => ⟨b, by simp, h⟩, fun _ => Int.le_refl _⟩
    · rw [if_neg (by simpa using h)]
      have : (∃ x ∈ b :: l, x ∈ cs) ↔ ∃ x ∈ l, x ∈ cs := by simp [h]
      rw [this, ← ih]
      split
      · rename_i h1; simp at h1; omega
      · rename_i h1; simp at h1; omega
theorem IndexAny_sl (l : Bt) (w : World) (h : l.length ≤ 255) : Calls Try.prog 70 #[.string ⟨l.toArray⟩, .string ⟨#[47, 0]⟩] w (RetI w (47 ∈ l ∨ 0 ∈ l)) := by
  by_cases h8 : l.length ≤ 8
  · exact IndexAny_short l w h8
  · have hsz : (⟨l.toArray⟩ : ByteArray).size = l.length := rfl
    refine (Try.strings_IndexAny_long (fun w => by kernel_rfl) ⟨l.toArray⟩ ⟨#[47, 0]⟩ w (by decide) (by rw [hsz]; omega) (by rw [hsz]; omega) (by decide) (fun j b hj => ?_)).mono ?_
    · have : j < 2 := (List.getElem?_eq_some_iff.1 hj).1
      have : j = 0 ∨ j = 1 := by omega
      rcases this with rfl | rfl
      · simp at hj; subst hj; decide
      · simp at hj; subst hj; decide
    · rintro e w' ⟨rfl, rfl⟩
      refine ⟨_, rfl, ?_, ((Below.refl _ _).alloc (Nat.le_refl _) _).alloc (by simp) _⟩
      simp only [List.toList_toArray]
      rw [indexAny_mem]
      constructor
      · rintro ⟨b, hb, hc⟩
        simp at hc
        rcases hc with rfl | rfl
        · exact Or.inl hb
        · exact Or.inr hb
      · rintro (hb | hb)
        · exact ⟨47, hb, by simp⟩
        · exact ⟨0, hb, by simp⟩
set_option maxRecDepth 100000 in
set_option maxHeartbeats 800000 in
theorem ContainsAny_sl (l : Bt) (w : World) (h : l.length ≤ 255) : Calls Try.prog 68 #[.string ⟨l.toArray⟩, .string ⟨#[47, 0]⟩] w fun r w' => r = .returned (.bool (l.contains 47 || l.contains 0)) ∧ Below w.heap.size w w' := by
  generalize hv : (l.contains 47 || l.contains 0) = v
  have HV := Lib.hid hv
  have HC := Lib.hid (IndexAny_sl l w h)
  clear hv
  go_enter Try.func68, Try.ntmps68
  go_wp2_with (first | (go_at_call 70; (refine (HC.out).mono ?_); rintro e w3 ⟨k, rfl, hk, hb3⟩; have HK := Lib.hid hk; clear hk) | fail)
  go_ret
  refine ⟨ret_bool ?_, hb3⟩
  rw [← HV.out, Bool.eq_iff_iff]
  have := HK.out
  simp [this]
set_option maxRecDepth 100000 in
set_option maxHeartbeats 800000 in
theorem Good_any (l : Bt) (w : World) : Calls Try.prog 64 #[.string ⟨l.toArray⟩] w fun r w' => r = .returned (.bool (good l)) ∧ Below w.heap.size w w' := by
  generalize hv : good l = v
  have HV := Lib.hid hv
  have hsz : (⟨l.toArray⟩ : ByteArray).size = l.length := rfl
  have HC := Lib.hid (fun w h => ContainsAny_sl l w h)
  clear hv
  go_enter Try.func64, Try.ntmps64
  go_wp2_with (first | (go_at_call 68; (refine (HC.out _ (by omega)).mono ?_); rintro e w3 ⟨rfl, hb3⟩) | fail)
  all_goals
    go_ret
    refine ⟨ret_bool ?_, by first | exact Below.refl _ _ | assumption⟩
    rw [← HV.out]
    clear HV HC
    rw [Bool.eq_iff_iff]
    simp_all [good]
  all_goals first
    | omega
    | exact ⟨fun h => ⟨⟨by omega, h.2⟩, h.1⟩, fun h => ⟨h.2, h.1.2⟩⟩
theorem good_no {l : Bt} {i : Nat} (hi : i < l.length) (h : l.getD i 0 = 0 ∨ l.getD i 0 = 47) : good l = false := by
  have hm := getD_mem hi
  rw [Bool.eq_false_iff]
  intro hg
  have h1 := good_parts hg
  rcases h with h | h <;> rw [h] at hm
  · exact h1.2.2.2.2.1 hm
  · exact h1.2.2.2.2.2 hm
theorem good_end {l : Bt} (h : NoSl l l.length) : good l = (decide (1 ≤ l.length) && decide (l.length ≤ 255) && l != [46] && l != [46, 46]) := by
  have h1 : 47 ∉ l := fun e => h.none (Or.inl e)
  have h2 : 0 ∉ l := fun e => h.none (Or.inr e)
  have h3 : (l != []) = decide (1 ≤ l.length) := by cases l <;> simp
  rw [Bool.eq_iff_iff]
  simp only [good, h3, Bool.and_eq_true, decide_eq_true_eq, bne_iff_ne, ne_eq, Bool.not_eq_true', List.contains_eq_mem, decide_eq_false_iff_not]
  constructor
  · rintro ⟨⟨⟨⟨⟨a, b⟩, c⟩, d⟩, e⟩, f⟩; exact ⟨⟨⟨a, d⟩, b⟩, c⟩
  · rintro ⟨⟨⟨a, d⟩, b⟩, c⟩; exact ⟨⟨⟨⟨⟨a, b⟩, c⟩, d⟩, h2⟩, h1⟩
set_option maxRecDepth 100000 in
set_option maxHeartbeats 1600000 in
theorem RefGood_any (l : Bt) (w : World) (hl : l.length ≤ 9223372036854775807) : Calls Try.prog 67 #[.string ⟨l.toArray⟩] w fun r w' => r = .returned (.bool (good l)) ∧ w = w' := by
  have hsz : (⟨l.toArray⟩ : ByteArray).size = l.length := rfl
  have HNO := Lib.hid (fun (i : Nat) hi h => good_no (l := l) (i := i) hi h)
  have HEND := Lib.hid (fun h => good_end (l := l) h)
  have HAT := Lib.hid (fun k h => str_at l k h)
  generalize good l = v at *
  go_enter Try.func67, Try.ntmps67
  go_wp2
  go_loopw [3] (fun i wr => ∃ k : Nat, k ≤ l.length ∧ i = .int .i64 k ∧ Hid (NoSl l k) ∧ w = wr) (fun i _ => l.length - (intOf i).toNat)
  case atStart => exact ⟨0, Nat.zero_le _, rfl, Lib.hid (fun j hj => by omega), rfl⟩
  case round =>
    obtain ⟨k, hk, rfl, hno, rfl⟩ := hrel
    by_cases hlt : k < l.length
    · have hat := HAT.out k hlt
      have hz : ∀ c : UInt8, l.getD k 0 ≠ c ↔ ((l.getD k 0).toNat : Int) ≠ c.toNat := fun c => ⟨fun h e => h (UInt8.toNat_inj.1 (by omega)), fun h e => h (by rw [e])⟩
      have HN := Lib.hid (HNO.out k hlt)
      have hstep : l.getD k 0 ≠ 0 → l.getD k 0 ≠ 47 → NoSl l (k + 1) := fun h1 h2 j hj hjl => by
        by_cases hjk : j < k
        · exact hno.out j hjk hjl
        · obtain rfl : j = k := by omega
          exact ⟨h2, h1⟩
      generalize l.getD k 0 = b at *
      have HS := Lib.hid hstep
      clear hstep hz
      by_cases h0 : b = 0
      · subst h0
        have HF := Lib.hid (HN.out (Or.inl rfl))
        have ht : ((0 : UInt8).toNat : Int) = 0 := rfl
        go_wp2
        go_ret
        exact ⟨ret_bool HF.out.symm, rfl⟩
      · by_cases h7 : b = 47
        · subst h7
          have HF := Lib.hid (HN.out (Or.inr rfl))
          have ht : ((47 : UInt8).toNat : Int) = 47 := rfl
          go_wp2
          go_ret
          exact ⟨ret_bool HF.out.symm, rfl⟩
        · have t0 : ((b.toNat : Int) == 0) = false := beq_f (fun e => h0 (UInt8.toNat_inj.1 (by show b.toNat = 0; omega)))
          have t7 : ((b.toNat : Int) == 47) = false := beq_f (fun e => h7 (UInt8.toNat_inj.1 (by show b.toNat = 47; omega)))
          have HS2 := Lib.hid (HS.out h0 h7)
          clear HS HN h0 h7
          go_wp2
          exact ⟨⟨k + 1, by omega, by go_num, HS2, by trivial⟩, by simp [intOf]; omega⟩
    · obtain rfl : k = l.length := by omega
      have HE := Lib.hid (HEND.out hno.out)
      clear HEND HNO
      clear hno
      go_wp2
      all_goals
        go_ret
        refine ⟨ret_bool ?_, rfl⟩
        rw [HE.out]
        clear HE HAT
        by_cases a1 : 1 ≤ l.length <;> by_cases a2 : l.length ≤ 255 <;> simp_all [bne]
      all_goals omega
end Gr
end Go.Proofs.Ytpdkdhcbibcifaa
