/-
  Join: slices of blocks; what block.Join answers.
-/
import Derived.Test.YtbioidbbijmnjaaBlock
import Derived.Test.YtbioidbbijmnjaaCopy
import Derived.Test.YtbioidbbijmnjaaRowm
namespace Go.Proofs.Ytbioidbbijmnjaa
open Go.ChangeShapes Go.WideShapes Go.ChangeAt Go.RowKit
/-- each of them is a block -/
def All512 (ls : List (List UInt8)) : Prop := ∀ b ∈ ls, b.length = 512
theorem flat512_len (ls : List (List UInt8)) (h : All512 ls) : ls.flatten.length = ls.length * 512 := by
  induction ls with
  | nil => rfl
  | cons b ls ih =>
    rw [List.flatten_cons, List.length_append, h b (List.mem_cons_self), ih (fun x hx => h x (List.mem_cons_of_mem _ hx)), List.length_cons]
    omega
theorem flat512_drop (ls : List (List UInt8)) (h : All512 ls) : ∀ (i : Nat) (hi : i < ls.length), ls.flatten.drop (i * 512) = ls[i] ++ (ls.drop (i + 1)).flatten := by
  induction ls with
  | nil => intro i hi; simp at hi
  | cons b ls ih =>
    intro i hi
    have hb := h b (List.mem_cons_self)
    have hls : All512 ls := fun x hx => h x (List.mem_cons_of_mem _ hx)
    cases i with
    | zero => simp
    | succ i =>
      rw [List.flatten_cons, show (i + 1) * 512 = b.length + i * 512 by rw [hb]; omega, List.drop_length_add_append]
      simpa using ih hls i (by simpa using hi)
theorem flat512_take (ls : List (List UInt8)) (h : All512 ls) (i : Nat) (hi : i < ls.length) (m : Nat) (hm : m ≤ 512) : ls.flatten.take (i * 512 + m) = ls.flatten.take (i * 512) ++ (ls[i]).take m := by
  have hb := h ls[i] (List.getElem_mem hi)
  rw [List.take_add, flat512_drop ls h i hi, List.take_append_of_le_length (by omega)]
/-- a slice of blocks -/
def Blks (w : World) (a : Option Addr) (n c : Nat) (ls : List (List UInt8)) : Prop := IsSl w 512 a n c (ls.flatten.map u8v) ∧ All512 ls
theorem Blks.len {w : World} {a : Option Addr} {n c : Nat} {ls : List (List UInt8)} (h : Blks w a n c ls) : ls.length = n := by
  have := h.1.1
  rw [List.length_map, flat512_len ls h.2] at this
  omega
theorem Below.blks {w w' : World} {a : Option Addr} {n c : Nat} {ls : List (List UInt8)} (k : Below w.heap.size w w') (h : Blks w a n c ls) : Blks w' a n c ls := ⟨(Below.keeps k).sl h.1, h.2⟩
/-- block number i: where its cells lie -/
theorem Blks.at {w : World} {a : Option Addr} {n c : Nat} {ls : List (List UInt8)} (h : Blks w a n c ls) (i : Nat) (hi : i < n) :
    ∃ b off, a = some ⟨b, off, none⟩ ∧ (ls.getD i []).length = 512 ∧ ∀ j v, ((ls.getD i []).map u8v)[j]? = some v → w.cell? ((⟨b, off + i * 512, none⟩ : Addr).add j) = some v := by
  have hl := h.len
  have hil : i < ls.length := by omega
  have e : ls.getD i [] = ls[i] := by simp [List.getD, List.getElem?_eq_getElem hil]
  rw [e]
  have hb := h.2 ls[i] (List.getElem_mem hil)
  have hcell : ∀ j, j < 512 → (ls.flatten.map u8v)[i * 512 + j]? = ((ls[i]).map u8v)[j]? := by
    intro j hj
    have hd := flat512_drop ls h.2 i hil
    rw [List.getElem?_map, List.getElem?_map, ← List.getElem?_drop, hd, List.getElem?_append_left (by omega)]
  have h0 := hcell 0 (by omega)
  have h00 : ((ls[i]).map u8v)[0]? = some (u8v ((ls[i]).getD 0 0)) := by
    have : 0 < (ls[i]).length := by omega
    simp [List.getD, List.getElem?_eq_getElem this]
  rw [h00] at h0
  obtain ⟨b, off, ha, _⟩ := h.1.2.2.2.1.at _ _ h0
  refine ⟨b, off, ha, hb, fun j v hj => ?_⟩
  have hjl : j < 512 := by have := (List.getElem?_eq_some_iff.1 hj).1; simp at this; omega
  obtain ⟨x, hx, hc⟩ := h.1.2.2.2.1 (i * 512 + j) v (by rw [hcell j hjl]; exact hj)
  rw [ha] at hx
  cases hx
  rw [Addr.add_lit] at hc ⊢
  rw [← Nat.add_assoc] at hc
  exact hc
theorem infoBlk : (Try.prog.info? 29).map (fun i => (i.zero, i.size, i.bytes)) = some (some (.agg (rowA zblk)), 512, 512) := by kernel_rfl
set_option maxHeartbeats 1000000 in
theorem Join_no (a : Option Addr) (n c : Nat) (N : Int) (w : World) (hn : n * 512 ≤ 140737488355328) (h : N < 0 ∨ (n : Int) * 512 < N) :
    Calls Try.prog 11 #[.slice a n c, .int .i64 N] w fun e w' => e = .returned (.tuple #[.slice none 0 0, .int .i64 11]) ∧ w = w' := by
  have hb : (n : Int) * 512 ≤ 140737488355328 := by omega
  rcases h with h | h
  · go_enter Try.func11, Try.ntmps11
    go_wp2
    go_ret2
    exact ⟨rfl, rfl⟩
  · have h0 : ¬ N < 0 := by omega
    go_enter Try.func11, Try.ntmps11
    go_wp2
    go_ret2
    exact ⟨rfl, rfl⟩
end Go.Proofs.Ytbioidbbijmnjaa
