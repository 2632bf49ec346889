/-
  RecYes: record.next, where a record is found.
-/
import Derived.Test.YtjchaogfmnabfaaDoorRecNext
import Derived.RegionTactic
import Derived.Outline
namespace Go.Proofs.YtjchaogfmnabfaaDoor
set_option linter.unusedVariables false
set_option linter.unusedSimpArgs false
open Go.ChangeShapes Go.WideShapes Go.ChangeAt Go.RowKit
/-- a record is found -/
def YesRes (w : World) (a : Option Addr) (n c X : Nat) (l k v : List UInt8) (e : Ending) (w' : World) : Prop :=
  ∃ a', e = .returned (.tuple #[.agg #[.string ⟨k.toArray⟩, .string ⟨v.toArray⟩], .slice a' (n - X) (c - X), .bool true]) ∧ (∀ w0, Bs w0 a n c l → Bs w0 a' (n - X) (c - X) (l.drop X)) ∧ Below w.heap.size w w'
theorem yes_far {w w' : World} {b off n c X : Nat} {l k v : List UInt8} (h : Bs w (some ⟨b, off, none⟩) n c l) (hX : X ≤ n) (hne : ¬ c = X) (hb : Below w.heap.size w w') :
    YesRes w (some ⟨b, off, none⟩) n c X l k v (.returned (.tuple #[.agg #[.string ⟨k.toArray⟩, .string ⟨v.toArray⟩], .slice (some ⟨b, off + X, none⟩) (n - X) (c - X), .bool true])) w' := by
  refine ⟨_, rfl, fun w0 h => ?_, hb⟩
  have := bs_cut h X n hX (Nat.le_refl _)
  have hl := h.len
  rw [if_neg hne, List.take_of_length_le (by omega)] at this
  have e : (Option.map (fun x : Addr => x.add (X * 1)) (some ⟨b, off, none⟩)) = some ⟨b, off + X, none⟩ := by rw [Option.map_some, Nat.mul_one, Addr.add_lit]
  rw [e] at this
  exact this
theorem yes_near {w w' : World} {b off n X : Nat} {l k v : List UInt8} (h : Bs w (some ⟨b, off, none⟩) n X l) (hX : X ≤ n) (hb : Below w.heap.size w w') :
    YesRes w (some ⟨b, off, none⟩) n X X l k v (.returned (.tuple #[.agg #[.string ⟨k.toArray⟩, .string ⟨v.toArray⟩], .slice (some ⟨b, off, none⟩) (n - X) 0, .bool true])) w' := by
  refine ⟨some ⟨b, off, none⟩, ?_, fun w0 h => ?_, hb⟩
  · rw [Nat.sub_self]
  · have := bs_cut h X n hX (Nat.le_refl _)
    have hl := h.len
    rw [if_pos rfl, List.take_of_length_le (by omega)] at this
    exact this
set_option maxRecDepth 100000 in
set_option maxHeartbeats 3200000 in
theorem Next_yes (a : Option Addr) (n c : Nat) (l : List UInt8) (w : World) (ev : Value) (i X : Nat) (t u : List UInt8) (k v : List UInt8) (h : Bs w a n c l) (hn : n ≤ 140737488351232) (hE : ErrIs w ev) (hi : (l.takeWhile (· != 32)).length = i) (hf : i < n) (h9 : i ≤ 9)
    (hd : Plain.decimal (l.takeWhile (· != 32)) = ((X : Int), 0)) (h1 : i + 1 < X) (h2 : X ≤ n) (ht : (l.take X).drop (i + 1) = t) (hcs : ∀ w, Calls Tryd.prog 59 #[.string ⟨t.toArray⟩, .string ⟨#[10]⟩] w fun e w' => e = .returned (.tuple #[.string ⟨u.toArray⟩, .bool true]) ∧ w = w')
    (hsc : ∀ w, Calls Tryd.prog 60 #[.string ⟨u.toArray⟩, .string ⟨#[61]⟩] w fun e w' => e = .returned (.tuple #[.string ⟨k.toArray⟩, .string ⟨v.toArray⟩, .bool true]) ∧ Below w.heap.size w w') (hk : k.isEmpty = false) :
    Calls Tryd.prog 34 #[.slice a n c] w (YesRes w a n c X l k v) := by
  have kc := nextW_conv w
  have HB := Lib.hid (BCut_any a n c l (w.heap.size + 1) 1 32 (nextW w) (Below.bs (nextW_below w) h) (nextW_blank w))
  have HD := Lib.hid (fun w hE => Decimal_any (l.takeWhile (· != 32)) w ev (by omega) hE)
  rw [hd] at HD
  have hcap := h.cap; have hmax := h.max; have hl := h.len
  have htl : t.length ≤ 140737488351232 := by rw [← ht, List.length_drop, List.length_take]; omega
  have HE := Lib.hid hE; have HH := Lib.hid h; have HT := Lib.hid ht; have HCS := Lib.hid hcs; have HSC := Lib.hid hsc
  have HI := Lib.hid hi
  have h9i : ¬ (9 : Int) < (i : Int) := by omega
  have x1 : ¬ (X : Int) ≤ (i : Int) + 1 := by omega
  have x2 : ¬ (n : Int) < (X : Int) := by omega
  clear h hd hE ht hcs hsc hi hl
  obtain ⟨b, off, rfl, _⟩ := HH.out.at 0 (by omega)
  by_cases hcX : c = X
  · subst hcX
    go_enter Tryd.func34, Tryd.ntmps34
    go_wp2_with (first
        | (go_at_call 57; (refine (HB.out).mono ?_); rintro e w3 hres; unfold BCutRes at hres; rw [HI.out, if_pos hf] at hres; obtain ⟨hb3, a1, a2, rfl, hs3⟩ := hres; have hN := NextAt.of hb3; have HN := Lib.hid hN; have HS3 := Lib.hid hs3; clear hb3 hs3 hN)
        | (with_reducible refine wpList_str_of_bs rfl _ _ _ rfl Tryd.underlying22 Tryd.underlying5 Tryd.underlying9 rfl HS3.out ?_)
        | (go_at_call 58; (refine (HD.out _ (by exact HE.out.below HN.out.bel)).mono ?_); rintro e w4 ⟨rfl, hb4⟩; unfold decV; have HN4 := Lib.hid (HN.out.keep hb4); have HA := Lib.hid (Below.bs HN4.out.bel HH.out); clear hb4)
        | ((refine wpList_slice_bs rfl _ _ _ _ rfl Tryd.underlying22 (by kernel_rfl) rfl HA.out (i + 1) c .i64 .i64 rfl rfl (by omega) (by omega) ?_); intro a5 hb5; rw [HT.out] at hb5; have HS5 := Lib.hid hb5; clear hb5)
        | (with_reducible refine wpList_str_of_bs rfl _ _ _ rfl Tryd.underlying22 Tryd.underlying5 Tryd.underlying9 rfl HS5.out ?_)
        | (go_at_call 59; (with_reducible refine (HCS.out _).mono ?_); rintro e w6 ⟨rfl, hw6⟩; obtain rfl := hw6)
        | (go_at_call 60; (with_reducible refine (HSC.out _).mono ?_); rintro e w7 ⟨rfl, hb7⟩; have hN := HN4.out.keep hb7; have hc0 := hN.c0; have hc1 := hN.c1; have hf0 := hN.f0; have hf1 := hN.f1; have hbel := hN.bel; have hlt := hN.lt; clear hb7))
    have y1 : (c : Int) ≤ n := by omega
    have y2 : (n : Int) ≤ c := by omega
    have y3 : (c : Int) ≤ c := by omega
    have y4 : (0 : Int) ≤ (c : Int) := by omega
    have HBEL := Lib.hid hbel
    clear hbel hN
    go_region
    go_wp2
    refine bodyPost_ret (v := .tuple #[.agg #[.string ⟨k.toArray⟩, .string ⟨v.toArray⟩], .slice (some ⟨b, off, none⟩) (n - c) 0, .bool true]) (by simp [results, Tryd.results34, go_sem, hc0, hc1] <;> omega) rfl ?_
    exact yes_near HH.out h2 (Below.seq ((HBEL.out.setCell (by simp) _).setCell (by simp) _) ((Below.refl _ _).drew))
  · go_enter Tryd.func34, Tryd.ntmps34
    go_wp2_with (first
        | (go_at_call 57; (refine (HB.out).mono ?_); rintro e w3 hres; unfold BCutRes at hres; rw [HI.out, if_pos hf] at hres; obtain ⟨hb3, a1, a2, rfl, hs3⟩ := hres; have hN := NextAt.of hb3; have HN := Lib.hid hN; have HS3 := Lib.hid hs3; clear hb3 hs3 hN)
        | (with_reducible refine wpList_str_of_bs rfl _ _ _ rfl Tryd.underlying22 Tryd.underlying5 Tryd.underlying9 rfl HS3.out ?_)
        | (go_at_call 58; (refine (HD.out _ (by exact HE.out.below HN.out.bel)).mono ?_); rintro e w4 ⟨rfl, hb4⟩; unfold decV; have HN4 := Lib.hid (HN.out.keep hb4); have HA := Lib.hid (Below.bs HN4.out.bel HH.out); clear hb4)
        | ((refine wpList_slice_bs rfl _ _ _ _ rfl Tryd.underlying22 (by kernel_rfl) rfl HA.out (i + 1) X .i64 .i64 rfl rfl (by omega) (by omega) ?_); intro a5 hb5; rw [HT.out] at hb5; have HS5 := Lib.hid hb5; clear hb5)
        | (with_reducible refine wpList_str_of_bs rfl _ _ _ rfl Tryd.underlying22 Tryd.underlying5 Tryd.underlying9 rfl HS5.out ?_)
        | (go_at_call 59; (with_reducible refine (HCS.out _).mono ?_); rintro e w6 ⟨rfl, hw6⟩; obtain rfl := hw6)
        | (go_at_call 60; (with_reducible refine (HSC.out _).mono ?_); rintro e w7 ⟨rfl, hb7⟩; have hN := HN4.out.keep hb7; have hc0 := hN.c0; have hc1 := hN.c1; have hf0 := hN.f0; have hf1 := hN.f1; have hbel := hN.bel; have hlt := hN.lt; clear hb7))
    have y1 : (X : Int) ≤ n := by omega
    have y2 : (n : Int) ≤ c := by omega
    have y3 : (X : Int) ≤ c := by omega
    have y4 : (0 : Int) ≤ X := by omega
    have HBEL := Lib.hid hbel
    clear hbel hN
    go_region
    go_wp2
    refine bodyPost_ret (v := .tuple #[.agg #[.string ⟨k.toArray⟩, .string ⟨v.toArray⟩], .slice (some ⟨b, off + X, none⟩) (n - X) (c - X), .bool true]) (by simp [results, Tryd.results34, go_sem, hc0, hc1]) rfl ?_
    exact yes_far HH.out h2 hcX (Below.seq ((HBEL.out.setCell (by simp) _).setCell (by simp) _) ((Below.refl _ _).drew))
end Go.Proofs.YtjchaogfmnabfaaDoor
