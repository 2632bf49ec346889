/-
  RecLoop: record.Read.
-/
import Derived.Test.YtjchaogfmnabfaaDoorRecRead
import Derived.Test.YtjchaogfmnabfaaDoorRowl
namespace Go.Proofs.YtjchaogfmnabfaaDoor
set_option linter.unusedVariables false
set_option linter.unusedSimpArgs false
open Go.ChangeShapes Go.WideShapes Go.ChangeAt Go.RowKit
theorem Below.seq2 {B : Nat} {w0 w w' : World} (h : Below B w0 w) (k : Below w.heap.size w w') (hB : B ≤ w.heap.size) : Below B w0 w' := h.trans (k.mono hB)
theorem own_below2 {w w' : World} {base : Nat} {e : TypeId} {sz : Nat} {v : Value} {n : Nat} {xs : List Value} (h : w.ownsRow base e sz v n xs) (k : Below w.heap.size w w') : w'.ownsRow base e sz v n xs := own_keep h fun j _ hj => k.block j hj
/-- the world in which a found pair is appended -/
def pairW (w : World) (p : Pr) : World := (w.alloc (.cells #[.string ⟨p.1.toArray⟩, .string ⟨p.2.toArray⟩] 39)).alloc (.cells #[.string ⟨p.1.toArray⟩, .string ⟨p.2.toArray⟩] 39)
theorem pairW_own {w : World} {base : Nat} {e : TypeId} {sz : Nat} {v : Value} {n : Nat} {xs : List Value} (h : w.ownsRow base e sz v n xs) (p : Pr) : (pairW w p).ownsRow base e sz v n xs :=
  own_below2 h (((Below.refl _ _).alloc (Nat.le_refl _) _).alloc (by simp) _)
theorem pairW_new (w : World) (p : Pr) : IsSl (pairW w p) 2 (some ⟨w.heap.size + 1, 0, none⟩) 1 1 ([p].flatMap prCells) := by
  have := isSl_new (w.alloc (.cells #[.string ⟨p.1.toArray⟩, .string ⟨p.2.toArray⟩] 39)) 39 2 1 #[.string ⟨p.1.toArray⟩, .string ⟨p.2.toArray⟩] rfl (by decide)
  simpa [pairW, prCells] using this
theorem pairW_below {B : Nat} {w0 w : World} (h : Below B w0 w) (p : Pr) (hB : B ≤ w.heap.size) : Below B w0 (pairW w p) := (h.alloc hB _).alloc (by simp; omega) _
set_option maxRecDepth 100000 in
set_option maxHeartbeats 3200000 in
theorem Read_any (a : Option Addr) (n c : Nat) (l : List UInt8) (w : World) (ev : Value) (h : Bs w a n c l) (hn : n ≤ 4294967296) (hE : ErrIs w ev) :
    Calls Tryd.prog 16 #[.slice a n c] w (ReadRes w (Plain.read l)) := by
  have HE := Lib.hid hE; clear hE
  go_enter Tryd.func16, Tryd.ntmps16
  go_wp2
  go_loopw [4, 0] (fun v j wr => ∃ (a1 : Option Addr) (n1 c1 : Nat) (a2 : Option Addr) (n2 c2 : Nat) (ps : List Pr) (l2 : List UInt8), v = .slice a1 n1 c1 ∧ j = .slice a2 n2 c2 ∧
    Hid (wr.ownsRow w.heap.size 39 2 (.slice a1 n1 c1) n1 (ps.flatMap prCells)) ∧ Hid (Bs w a2 n2 c2 l2) ∧ Hid (Below w.heap.size w wr) ∧ Hid (Plain.read l = (Plain.read l2).map (ps ++ ·)) ∧ 5 * n1 + n2 ≤ n) (fun _ j _ => slen j)
  case atStart => exact ⟨none, 0, 0, a, n, c, [], l, rfl, rfl, World.ownsRow_nil _ _ _ _, h, Below.refl _ _, (by cases Plain.read l <;> rfl : Plain.read l = _), by omega⟩
  case round =>
    obtain ⟨a1, n1, c1, a2, n2, c2, ps, l2, rfl, rfl, ho, hb, hbel, hrd, hle⟩ := hrel
    have hl2 := hb.out.len
    have HL := Lib.hid hl2; clear hl2
    by_cases hz : n2 = 0
    · subst hz
      go_wp2
      have e : l2 = [] := List.eq_nil_of_length_eq_zero HL.out
      subst e
      have hr := hrd.out
      rw [read_nil] at hr
      go_ret2
      rw [hr]
      exact ReadRes.yes hbel.out (by simpa using ho.out)
    · have hz1 : (0 : Int) < n2 := by omega
      have HN := Lib.hid (Next_any a2 n2 c2 l2 wr ev (Below.bs hbel.out hb.out) (by omega) (HE.out.below hbel.out))
      cases hone : Plain.one l2 with
      | none =>
        have hr := hrd.out
        rw [read_none l2 (by intro e; subst e; exact hz (by simpa using HL.out.symm)) hone] at hr
        have HR := Lib.hid hr; clear hr
        rw [hone] at HN
        go_wp2_with (first
          | (go_at_call 34; (refine (HN.out).mono ?_); rintro e w3 ⟨hb3, rfl⟩; have HB3 := Lib.hid (Below.seq2 hbel.out hb3 hbel.out.size); clear hb3))
        go_ret2
        rw [HR.out]
        exact ReadRes.no (HB3.out.alloc HB3.out.size _)
      | some q =>
        obtain ⟨p, X⟩ := q
        have hr := hrd.out
        rw [read_some l2 p X hone] at hr
        have HR := Lib.hid hr; clear hr
        have hbd := one_bound l2 p X hone
        rw [HL.out] at hbd
        obtain ⟨hb1, hb2⟩ := hbd
        rw [hone] at HN
        go_wp2_with (first
          | (go_at_call 34; (refine (HN.out).mono ?_); rintro e w3 ⟨hb3, a3, rfl, hs3⟩; have HB3 := Lib.hid (Below.seq2 hbel.out hb3 hbel.out.size); have HO3 := Lib.hid (own_below2 ho.out hb3); have HS3 := Lib.hid hs3; clear hb3 hs3)
          | (at_builtin; refine wpList_app rfl _ _ 25 rfl w.heap.size 39 _ 2 32 Tryd.underlying25 infoPair rfl (by decide) (by decide) rfl (pairW_own HO3.out p) rfl (pairW_new w3 p) (prs_oneCell [p]) (by omega) (by have := HB3.out.size; simp [pairW]; omega) ?_; intro a4 c4 w4 ho4 hg4))
        have hb4 := below_app (pairW_below HB3.out p HB3.out.size) (pairW_own HO3.out p) hg4 (Nat.le_refl _) (by have := HB3.out.size; simp [pairW]; omega)
        refine ⟨⟨a4, n1 + 1, c4, a3, n2 - X, c2 - X, ps ++ [p], l2.drop X, rfl, rfl, ?_, HS3.out w hb.out, hb4, ?_, by omega⟩, ?_⟩
        · show World.ownsRow _ _ _ _ _ _ _
          simpa using ho4
        · show Plain.read l = _
          rw [HR.out]
          cases Plain.read (l2.drop X) <;> simp
        · simp [slen]; omega
end Go.Proofs.YtjchaogfmnabfaaDoor
