/-
  Copy: valiseref00's CopyBytes and Spare: new memory that holds the bytes.
-/
import Derived.Test.YtbioidbbijmnjaaBase
import Derived.Test.YtbioidbbijmnjaaProg
namespace Go.Proofs.Ytbioidbbijmnjaa
open Go.ChangeShapes Go.WideShapes Go.ChangeAt Go.RowKit
theorem infoU8 : (Try.prog.info? 5).map (fun i => (i.zero, i.size, i.bytes)) = some (some (.int .u8 0), 1, 1) := by kernel_rfl
/-- what a call hands back: bytes in new memory -/
def NewBs (w : World) (l : List UInt8) (e : Ending) (w' : World) : Prop :=
  ∃ a n c, e = .returned (.slice a n c) ∧ w'.ownsRow w.heap.size 5 1 (.slice a n c) n (l.map u8v) ∧ Below w.heap.size w w'
theorem own_len {w : World} {base : Nat} {e : TypeId} {v : Value} {n : Nat} {l : List UInt8} (h : w.ownsRow base e 1 v n (l.map u8v)) : l.length = n := by have := h.1; simpa using this
theorem own_bs {w : World} {base : Nat} {e : TypeId} {a : Option Addr} {n c : Nat} {l : List UInt8} (h : w.ownsRow base e 1 (.slice a n c) n (l.map u8v)) : Bs w a n c l := own_isSl h
set_option maxHeartbeats 400000 in
theorem CopyBytes_any (a : Option Addr) (n c : Nat) (x : List UInt8) (w : World) (ha : Bs w a n c x) (hn : n ≤ 140737488355328) :
    Calls Try.prog 10 #[.slice a n c] w (NewBs w x) := by
  obtain rfl := ha.len
  have ho0 := World.ownsRow_lit (base := w.heap.size) (e := 5) (size := 1) w #[] 0 (Nat.le_refl _) (by decide) rfl
  go_enter Try.func10, Try.ntmps10
  go_wp2_with (at_builtin; refine wpList_app rfl _ _ 22 rfl w.heap.size 5 _ 1 1 Try.underlying22 infoU8 rfl (by decide) (by decide) rfl ho0 rfl ((Keeps.alloc w _).bs ha) (bytes_oneCell x) (by omega) (by simp) ?_; intro a1 c1 w1 ho hg)
  go_ret
  simp only [Nat.zero_add, List.nil_append] at ho ⊢
  exact ⟨a1, _, c1, rfl, ho, below_app ((Below.refl _ _).alloc (Nat.le_refl _) _) ho0 hg (Nat.le_refl _) (by simp)⟩
/-- the eight marks -/
def marks : List UInt8 := [201, 202, 203, 204, 205, 206, 207, 208]
theorem marks_succ (k : Nat) (h : k < 8) : ((marks.take k).map u8v) ++ [Value.int .u8 (201 + (k : Int))] = (marks.take (k + 1)).map u8v := by
  have : k = 0 ∨ k = 1 ∨ k = 2 ∨ k = 3 ∨ k = 4 ∨ k = 5 ∨ k = 6 ∨ k = 7 := by omega
  rcases this with h | h | h | h | h | h | h | h <;> subst h <;> rfl
set_option maxHeartbeats 400000 in
theorem Spare_any (a : Option Addr) (n c : Nat) (x : List UInt8) (w : World) (ha : Bs w a n c x) (hn : n + 8 ≤ 140737488355328) :
    Calls Try.prog 7 #[.slice a n c] w (NewBs w (x ++ marks)) := by
  obtain rfl := ha.len
  go_enter Try.func7, Try.ntmps7
  go_wp2_with (go_at_call 10; refine (CopyBytes_any _ _ _ x _ ha (by omega)).mono ?_; rintro e w1 ⟨a1, n1, c1, rfl, ho1, hb1⟩)
  obtain rfl : n1 = x.length := by have := ho1.1; simpa using this.symm
  go_loopw [3, 4] (fun v i wr => ∃ (k : Nat) (a : Option Addr) (c : Nat), k ≤ 8 ∧ i = .int .i64 k ∧ v = .slice a (x.length + k) c ∧
    wr.ownsRow w.heap.size 5 1 (.slice a (x.length + k) c) (x.length + k) (x.map u8v ++ (marks.take k).map u8v) ∧ Below w.heap.size w wr) (fun _ i _ => 8 - (intOf i).toNat)
  case atStart => exact ⟨0, a1, c1, by omega, rfl, rfl, by simpa using ho1, hb1⟩
  case round =>
    obtain ⟨k, a2, c2, hk, rfl, rfl, ho2, hb2⟩ := hrel
    by_cases hlt : k < 8
    · have hs := hb2.size
      have hw : IntKind.u8.wrap (201 + (k : Int)) = 201 + k := by rw [IntKind.wrap_u8]; omega
      go_wp2_with (at_builtin; refine wpList_app rfl _ _ 22 rfl w.heap.size 5 _ 1 1 Try.underlying22 infoU8 rfl (by decide) (by decide) rfl (ho2.alloc _) rfl (isSl_new wr 5 1 1 _ rfl (by decide)) (by simp [Value.oneCell']) (by omega) (by simp; omega) ?_; intro a3 c3 w3 ho3 hg3)
      refine ⟨⟨k + 1, a3, c3, by omega, by go_num, rfl, ?_, below_app (hb2.alloc hs _) (ho2.alloc _) hg3 (Nat.le_refl _) (by simp; omega)⟩, by simp [intOf]; omega⟩
      rw [← marks_succ k hlt, ← List.append_assoc]
      exact ho3
    · obtain rfl : k = 8 := by omega
      go_wp2
      go_ret
      exact ⟨a2, _, c2, rfl, by simpa [marks] using ho2, hb2⟩
end Go.Proofs.Ytbioidbbijmnjaa
