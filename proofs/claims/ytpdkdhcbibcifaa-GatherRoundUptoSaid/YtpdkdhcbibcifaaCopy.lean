/-
  Copy: valiseref00's CopyBytes and Spare: new memory that holds the bytes.
-/
import Derived.Test.YtpdkdhcbibcifaaBase
import Derived.Test.YtpdkdhcbibcifaaProg
namespace Go.Proofs.Ytpdkdhcbibcifaa
open Go.ChangeShapes Go.WideShapes Go.ChangeAt Go.RowKit
theorem infoU8 : (Try.prog.info? 5).map (fun i => (i.zero, i.size, i.bytes)) = some (some (.int .u8 0), 1, 1) := by kernel_rfl
/-- what a call hands back: bytes in new memory -/
def NewBs (w : World) (l : List UInt8) (e : Ending) (w' : World) : Prop :=
  ∃ a n c, e = .returned (.slice a n c) ∧ w'.ownsRow w.heap.size 5 1 (.slice a n c) n (l.map u8v) ∧ Below w.heap.size w w'
theorem own_len {w : World} {base : Nat} {e : TypeId} {v : Value} {n : Nat} {l : List UInt8} (h : w.ownsRow base e 1 v n (l.map u8v)) : l.length = n := by have := h.1; simpa using this
theorem own_bs {w : World} {base : Nat} {e : TypeId} {a : Option Addr} {n c : Nat} {l : List UInt8} (h : w.ownsRow base e 1 (.slice a n c) n (l.map u8v)) : Bs w a n c l := own_isSl h
set_option maxHeartbeats 400000 in
theorem CopyBytes_any (a : Option Addr) (n c : Nat) (x : List UInt8) (w : World) (ha : Bs w a n c x) (hn : n ≤ 140737488355328) :
    Calls Try.prog 42 #[.slice a n c] w (NewBs w x) := by
  obtain rfl := ha.len
  have ho0 := World.ownsRow_lit (base := w.heap.size) (e := 5) (size := 1) w #[] 0 (Nat.le_refl _) (by decide) rfl
  go_enter Try.func42, Try.ntmps42
  go_wp2_with (at_builtin; refine wpList_app rfl _ _ 37 rfl w.heap.size 5 _ 1 1 Try.underlying37 infoU8 rfl (by decide) (by decide) rfl ho0 rfl ((Keeps.alloc w _).bs ha) (bytes_oneCell x) (by omega) (by simp) ?_; intro a1 c1 w1 ho hg)
  go_ret
  simp only [Nat.zero_add, List.nil_append] at ho ⊢
  exact ⟨a1, _, c1, rfl, ho, below_app ((Below.refl _ _).alloc (Nat.le_refl _) _) ho0 hg (Nat.le_refl _) (by simp)⟩
/-- the eight marks -/
def marks : List UInt8 := [201, 202, 203, 204, 205, 206, 207, 208]
theorem marks_succ (k : Nat) (h : k < 8) : ((marks.take k).map u8v) ++ [Value.int .u8 (201 + (k : Int))] = (marks.take (k + 1)).map u8v := by
  have : k = 0 ∨ k = 1 ∨ k = 2 ∨ k = 3 ∨ k = 4 ∨ k = 5 ∨ k = 6 ∨ k = 7 := by omega
  rcases this with h | h | h | h | h | h | h | h <;> subst h <;> rfl
end Go.Proofs.Ytpdkdhcbibcifaa
