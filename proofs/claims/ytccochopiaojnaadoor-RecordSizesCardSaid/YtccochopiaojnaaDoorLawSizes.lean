/-
  LawSizes: the law RecordSizes, walked.
-/
import Derived.Test.YtccochopiaojnaaDoorSizes
import Derived.Deep.RegionHeld3
namespace Go.Proofs.YtccochopiaojnaaDoor
open Go.ChangeShapes Go.WideShapes Go.ChangeAt Go.RowKit
theorem size_a : IsSize 4 1 := by
  refine ⟨by decide +kernel, fun d' h => ?_⟩
  obtain rfl : d' = 0 := by omega
  decide +kernel
set_option maxHeartbeats 800000 in
theorem RecordSizes_walk (k v : List UInt8) (w : World) (ht : Pow10 w) (hk : k.length ≤ 140737488351232) (hv : v.length ≤ 140737488351232) :
    Calls Tryd.prog 14 #[.agg #[.string ⟨k.toArray⟩, .string ⟨v.toArray⟩]] w fun e w' => e = .returned (.bool true) ∧ Below w.heap.size w w' := by
  obtain ⟨d, hd20, hd⟩ := isSize_exists (k.length + v.length + 3) (by omega)
  have HT := Lib.hid ht; clear ht
  have HA : Hid (∀ w, Pow10 w → Calls Tryd.prog 43 #[.agg #[.string ⟨#[97]⟩, .string ⟨#[]⟩]] w fun e w' => e = .returned (.int .i64 5) ∧ Below w.heap.size w w') := fun w h => Size_any [97] [] 1 w h (by decide) (by decide) size_a (by decide)
  have HS : Hid (∀ w, Pow10 w → Calls Tryd.prog 43 #[.agg #[.string ⟨k.toArray⟩, .string ⟨v.toArray⟩]] w fun e w' => e = .returned (.int .i64 ((k.length + v.length + 3 + d : Nat) : Int)) ∧ Below w.heap.size w w') := fun w h => Size_any k v d w h hk hv hd hd20
  have HR : Hid (∀ w, Calls Tryd.prog 44 #[.agg #[.string ⟨k.toArray⟩, .string ⟨v.toArray⟩]] w fun e w' => e = .returned (.int .i64 ((k.length + v.length + 3 + d : Nat) : Int)) ∧ Below w.heap.size w w') := fun w => RefSize_any k v d w hk hv hd hd20
  generalize ((k.length + v.length + 3 + d : Nat) : Int) = z at *
  clear hd hd20
  go_enter Tryd.func14, Tryd.ntmps14
  go_wp2_with fail
  have hb0 : Below w.heap.size w (w.alloc (.cells #[.string ⟨k.toArray⟩, .string ⟨v.toArray⟩] 50)) := (Below.refl _ _).alloc (Nat.le_refl _) _
  have hs0 : w.heap.size < (w.alloc (.cells #[.string ⟨k.toArray⟩, .string ⟨v.toArray⟩] 50)).heap.size := by simp
  have hc0 : (w.alloc (.cells #[.string ⟨k.toArray⟩, .string ⟨v.toArray⟩] 50)).cell? ⟨w.heap.size, 0, none⟩ = some (.string ⟨k.toArray⟩) := by rw [World.cell?_alloc_new]; rfl
  have hc1 : (w.alloc (.cells #[.string ⟨k.toArray⟩, .string ⟨v.toArray⟩] 50)).cell? ⟨w.heap.size, 1, none⟩ = some (.string ⟨v.toArray⟩) := by rw [World.cell?_alloc_new]; rfl
  have HB0 := Lib.hid hb0; have HS0 := Lib.hid hs0; have HC0 := Lib.hid (And.intro hc0 hc1); clear hb0 hs0
  generalize w.alloc (.cells #[.string ⟨k.toArray⟩, .string ⟨v.toArray⟩] 50) = wa at *
  go_region_held3 (fun w' => w'.cell? ⟨w.heap.size, 0, none⟩ = some (.string ⟨k.toArray⟩) ∧ w'.cell? ⟨w.heap.size, 1, none⟩ = some (.string ⟨v.toArray⟩)) (first | exact ⟨hc0, hc1⟩ | exact HD1.out | exact HD2.out | exact HD3.out) (first
    | (go_at_call 43; first
        | ((with_reducible refine (HA.out _ (by exact (HT.out.below HB0.out).below ((Below.refl _ _).drew))).mono ?_); rintro e w1 ⟨rfl, hb1⟩; have HB1 := Lib.hid (Below.seq HB0.out (Below.seq ((Below.refl _ _).drew) hb1)); have HD1 := Lib.hid (And.intro (Below.keeps hb1 _ _ hc0) (Below.keeps hb1 _ _ hc1)); clear hb1)
        | ((with_reducible refine (HS.out _ (by exact HT.out.below HB1.out)).mono ?_); rintro e w2 ⟨rfl, hb2⟩; have HB2 := Lib.hid (Below.seq HB1.out hb2); have HD2 := Lib.hid (And.intro (Below.keeps hb2 _ _ HD1.out.1) (Below.keeps hb2 _ _ HD1.out.2)); clear hb2))
    | (go_at_call 44; (with_reducible refine (HR.out _).mono ?_); rintro e w3 ⟨rfl, hb3⟩; have HB3 := Lib.hid (Below.seq HB2.out hb3); have HD3 := Lib.hid (And.intro (Below.keeps hb3 _ _ HD2.out.1) (Below.keeps hb3 _ _ HD2.out.2)); clear hb3))
  go_wp2
  go_ret
  exact ⟨ret_bool (by simp), HB3.out⟩
end Go.Proofs.YtccochopiaojnaaDoor
