/-
  RecRead: record.next and record.Read.
-/
import Derived.Test.YtjchaogfmnabfaaDoorRecYes
import Derived.Test.YtjchaogfmnabfaaDoorPairs
namespace Go.Proofs.YtjchaogfmnabfaaDoor
set_option linter.unusedVariables false
set_option linter.unusedSimpArgs false
open Go.ChangeShapes Go.WideShapes Go.ChangeAt Go.RowKit
/-- what record.next hands back -/
def NextR (w : World) (a : Option Addr) (n c : Nat) (l : List UInt8) (r : Option ((List UInt8 × List UInt8) × Nat)) (e : Ending) (w' : World) : Prop :=
  Below w.heap.size w w' ∧ match r with
    | none => e = .returned (.tuple #[.agg #[.string ⟨#[]⟩, .string ⟨#[]⟩], .slice none 0 0, .bool false])
    | some (p, m) => ∃ a', e = .returned (.tuple #[.agg #[.string ⟨p.1.toArray⟩, .string ⟨p.2.toArray⟩], .slice a' (n - m) (c - m), .bool true]) ∧ ∀ w0, Bs w0 a n c l → Bs w0 a' (n - m) (c - m) (l.drop m)
theorem NextR.none {w w' : World} {a : Option Addr} {n c : Nat} {l : List UInt8} {e : Ending} (h : e = .returned (.tuple #[.agg #[.string ⟨#[]⟩, .string ⟨#[]⟩], .slice Option.none 0 0, .bool false]) ∧ Below w.heap.size w w') : NextR w a n c l Option.none e w' := ⟨h.2, h.1⟩
theorem NextR.some {w w' : World} {a : Option Addr} {n c X : Nat} {l k v : List UInt8} {e : Ending} (h : YesRes w a n c X l k v e w') : NextR w a n c l (Option.some ((k, v), X)) e w' := by
  obtain ⟨a', h1, h2, h3⟩ := h
  exact ⟨h3, a', h1, h2⟩
theorem Next_any (a : Option Addr) (n c : Nat) (l : List UInt8) (w : World) (ev : Value) (h : Bs w a n c l) (hn : n ≤ 140737488351232) (hE : ErrIs w ev) :
    Calls Tryd.prog 34 #[.slice a n c] w (NextR w a n c l (Plain.one l)) := by
  have hl := h.len
  by_cases hf : (recHead l).length < n
  · by_cases h9 : (recHead l).length ≤ 9
    · by_cases hgood : (Plain.decimal (recHead l)).2 = 0 ∧ ¬ (Plain.decimal (recHead l)).1 ≤ ((recHead l).length : Int) + 1 ∧ ¬ (n : Int) < (Plain.decimal (recHead l)).1
      · obtain ⟨g1, g2, g3⟩ := hgood
        obtain ⟨X, hX⟩ := Int.eq_ofNat_of_zero_le (show 0 ≤ (Plain.decimal (recHead l)).1 by omega)
        have h1X : (l.takeWhile (· != 32)).length + 1 < X := by show (recHead l).length + 1 < X; omega
        have hXn : X ≤ n := by omega
        have hd : Plain.decimal (recHead l) = ((X : Int), 0) := Prod.ext hX g1
        have hone : Plain.one l = recBody l (recHead l).length X := by
          unfold Plain.one
          rw [hd, if_pos]
          · rfl
          · refine ⟨by omega, h9, rfl, ?_, ?_⟩
            · simp only [Int.toNat_natCast]; omega
            · simp only [Int.toNat_natCast]; omega
        rw [hone]
        unfold recBody
        generalize ht : (l.take X).drop ((recHead l).length + 1) = t
        have htl : t.length ≤ 140737488351232 := by rw [← ht, List.length_drop, List.length_take]; omega
        have hsf := suffix_one t 10
        have hcs : ∀ w, Calls Tryd.prog 59 #[.string ⟨t.toArray⟩, .string ⟨#[10]⟩] w fun e w' => e = .returned (.tuple #[.string ⟨(Lib.trimSuffix t [10]).toArray⟩, .bool (Lib.hasSuffix t [10])]) ∧ w = w' := fun w => (Tryd.strings_CutSuffix ⟨t.toArray⟩ ⟨#[10]⟩ w (by show t.length ≤ _; omega)).mono fun e w' ⟨he, hw⟩ => ⟨he, hw.symm⟩
        have hul : (Lib.trimSuffix t [10]).length ≤ 140737488355328 := by
          unfold Lib.trimSuffix
          split
          · rw [List.length_take]; omega
          · omega
        have hsc := fun w => SCut_any (Lib.trimSuffix t [10]) 61 w hul
        have htrim := hsf.2
        rw [hsf.1] at hcs htrim
        generalize hu : Lib.trimSuffix t [10] = u at *
        unfold cutV at hsc
        by_cases hen : t.getLast? = some 10
        · rw [if_pos hen]
          rw [dec_t hen] at hcs
          have hud := htrim (dec_t hen)
          rw [← hud]
          unfold recText
          by_cases hfo : (u.takeWhile (· != 61)).length < u.length
          · simp only [if_pos hfo] at hsc
            by_cases hk : u.takeWhile (· != 61) = []
            · rw [if_neg (fun hh => hh.2 hk)]
              exact (Next_textno a n c l w ev _ X t u true true _ _ h hn hE rfl hf h9 hd h1X hXn ht hcs hsc (.inr (.inr ⟨rfl, rfl, hk⟩))).mono fun e w' hh => NextR.none hh
            · rw [if_pos ⟨hfo, hk⟩]
              exact (Next_yes a n c l w ev _ X t u _ _ h hn hE rfl hf h9 hd h1X hXn ht hcs hsc (by simpa using hk)).mono fun e w' hh => NextR.some hh
          · simp only [if_neg hfo] at hsc
            rw [if_neg (fun hh => hfo hh.1)]
            exact (Next_textno a n c l w ev _ X t u true false u [] h hn hE rfl hf h9 hd h1X hXn ht hcs hsc (.inr (.inl ⟨rfl, rfl⟩))).mono fun e w' hh => NextR.none hh
        · rw [if_neg hen]
          rw [dec_f hen] at hcs
          by_cases hfo : (u.takeWhile (· != 61)).length < u.length
          · simp only [if_pos hfo] at hsc
            exact (Next_textno a n c l w ev _ X t u false true _ _ h hn hE rfl hf h9 hd h1X hXn ht hcs hsc (.inl rfl)).mono fun e w' hh => NextR.none hh
          · simp only [if_neg hfo] at hsc
            exact (Next_textno a n c l w ev _ X t u false false u [] h hn hE rfl hf h9 hd h1X hXn ht hcs hsc (.inl rfl)).mono fun e w' hh => NextR.none hh
      · have hone : Plain.one l = Option.none := by
          unfold Plain.one
          rw [if_neg]
          rintro ⟨_, _, a3, a4, a5⟩
          exact hgood ⟨a3, by omega, by omega⟩
        rw [hone]
        refine (Next_num a n c l w ev h hn hE hf h9 ?_).mono fun e w' hh => NextR.none hh
        show (Plain.decimal (recHead l)).2 ≠ 0 ∨ ((Plain.decimal (recHead l)).2 = 0 ∧ ((Plain.decimal (recHead l)).1 ≤ ((recHead l).length : Int) + 1 ∨ (¬ (Plain.decimal (recHead l)).1 ≤ ((recHead l).length : Int) + 1 ∧ (n : Int) < (Plain.decimal (recHead l)).1)))
        by_cases e1 : (Plain.decimal (recHead l)).2 = 0
        · right
          refine ⟨e1, ?_⟩
          by_cases e2 : (Plain.decimal (recHead l)).1 ≤ ((recHead l).length : Int) + 1
          · exact .inl e2
          · exact .inr ⟨e2, Classical.byContradiction fun e3 => hgood ⟨e1, e2, e3⟩⟩
        · exact .inl e1
    · have hone : Plain.one l = Option.none := by unfold Plain.one; rw [if_neg (fun hc => h9 hc.2.1)]
      rw [hone]
      exact (Next_long a n c l w h hf (by show 9 < (recHead l).length; omega)).mono fun e w' hh => NextR.none hh
  · have hone : Plain.one l = Option.none := one_unfound l (by omega)
    rw [hone]
    exact (Next_unfound a n c l w h hf).mono fun e w' hh => NextR.none hh
/-- what Read hands back -/
def ReadRes (w : World) (r : Option (List Pr)) (e : Ending) (w' : World) : Prop :=
  Below w.heap.size w w' ∧ match r with
    | Option.none => e = .returned (.tuple #[.slice Option.none 0 0, .int .i64 50])
    | Option.some ps => ∃ a n c, e = .returned (.tuple #[.slice a n c, .int .i64 0]) ∧ w'.ownsRow w.heap.size 39 2 (.slice a n c) n (ps.flatMap prCells)
def slen : Value → Nat
  | .slice _ n _ => n
  | _ => 0
theorem ReadRes.no {w w' : World} (h : Below w.heap.size w w') : ReadRes w Option.none (.returned (.tuple #[.slice Option.none 0 0, .int .i64 50])) w' := ⟨h, rfl⟩
theorem ReadRes.yes {w w' : World} {ps : List Pr} {a : Option Addr} {n c : Nat} (h : Below w.heap.size w w') (ho : w'.ownsRow w.heap.size 39 2 (.slice a n c) n (ps.flatMap prCells)) : ReadRes w (Option.some ps) (.returned (.tuple #[.slice a n c, .int .i64 0])) w' := ⟨h, a, n, c, rfl, ho⟩
end Go.Proofs.YtjchaogfmnabfaaDoor
