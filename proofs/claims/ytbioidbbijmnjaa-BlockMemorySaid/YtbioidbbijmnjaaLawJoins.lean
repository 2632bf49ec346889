/-
  LawJoins: the law BlockJoins, walked.
-/
import Derived.Test.YtbioidbbijmnjaaJoinYes
import Derived.Test.YtbioidbbijmnjaaUseBytes
import Derived.Deep.RegionHeld3
import Derived.Deep.MidRow
namespace Go.Proofs.Ytbioidbbijmnjaa
open Go.ChangeShapes Go.WideShapes Go.ChangeAt Go.RowKit
/-- the whole blocks of l, k of them -/
def chunks (l : List UInt8) (k : Nat) : List (List UInt8) := (List.range k).map fun j => (l.drop (j * 512)).take 512
theorem chunks_len (l : List UInt8) (k : Nat) : (chunks l k).length = k := by simp [chunks]
theorem chunks_get (l : List UInt8) (k i : Nat) (h : i < k) : (chunks l k).getD i [] = (l.drop (i * 512)).take 512 := by simp [chunks, h]
theorem chunks_512 (l : List UInt8) (k : Nat) (h : k * 512 ≤ l.length) : All512 (chunks l k) := by
  intro b hb
  simp only [chunks, List.mem_map, List.mem_range] at hb
  obtain ⟨j, hj, rfl⟩ := hb
  rw [List.length_take, List.length_drop]
  omega
theorem chunks_flat (l : List UInt8) : ∀ k, (chunks l k).flatten = l.take (k * 512)
  | 0 => by simp [chunks]
  | k + 1 => by
    have e : chunks l (k + 1) = chunks l k ++ [(l.drop (k * 512)).take 512] := by simp [chunks, List.range_succ]
    rw [e, List.flatten_append, chunks_flat l k, show (k + 1) * 512 = k * 512 + 512 by omega, List.take_add]
    simp
theorem bs_take {w : World} {a : Option Addr} {n c : Nat} {l : List UInt8} (h : Bs w a n c l) (M : Nat) (hM : M ≤ n) : Bs w a M c (l.take M) := by
  have hl := h.len; have hc := h.cap
  refine ⟨by simp; omega, by omega, h.2.2.1, fun j v hj => h.2.2.2.1 j v ?_, fun hn => by have := h.2.2.2.2 hn; omega⟩
  rw [List.map_take, List.getElem?_take] at hj
  split at hj
  · exact hj
  · cases hj
theorem one_blks (w : World) (q : List UInt8) (h : q.length = 512) : Blks (w.alloc (.cells (rowA q) 29)) (some ⟨w.heap.size, 0, none⟩) 1 1 [q] := by
  refine ⟨?_, fun b hb => by rw [List.mem_singleton.1 hb]; exact h⟩
  have e := isSl_new w 29 512 1 (rowA q) (by rw [rowA_size, h]) (by unfold maxLen; omega)
  simpa [rowA] using e
theorem one_isSl (w : World) (q : List UInt8) (h : q.length = 512) : IsSl (w.alloc (.cells (rowA q) 29)) 512 (some ⟨w.heap.size, 0, none⟩) 1 1 (q.map u8v) := by
  have e := (one_blks w q h).1
  simpa using e
theorem at_len (l : List UInt8) (i : Nat) (h : i * 512 + 512 ≤ l.length) : ((l.drop (i * 512)).take 512).length = 512 := by rw [List.length_take, List.length_drop]; omega
theorem take_next (l : List UInt8) (i : Nat) : (l.take (i * 512)).map u8v ++ ((l.drop (i * 512)).take 512).map u8v = (l.take ((i + 1) * 512)).map u8v := by
  rw [← List.map_append, show (i + 1) * 512 = i * 512 + 512 by omega, List.take_add]
theorem abc_bs (w : World) : Bs (w.alloc (.cells #[.int .u8 97, .int .u8 98, .int .u8 99] 5 (3, 4))) (some ⟨w.heap.size, 0, none⟩) 3 3 [97, 98, 99] :=
  isSl_mark w 5 1 3 #[.int .u8 97, .int .u8 98, .int .u8 99] _ rfl (by unfold maxLen; omega)
end Go.Proofs.Ytbioidbbijmnjaa
