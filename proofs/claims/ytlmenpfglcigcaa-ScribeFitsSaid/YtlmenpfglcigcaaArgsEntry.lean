/-
  ArgsEntry: an argument that is an entry.
-/
import Derived.Test.YtlmenpfglcigcaaArgs
import Derived.Test.YtlmenpfglcigcaaFits
namespace Go.Proofs.Ytlmenpfglcigcaa
open Go.ChangeShapes Go.WideShapes Go.ChangeAt Go.RowKit
variable {H : Type} {enc : TypeId × Value → H} {w : World}
theorem readE_str {P : Program} {t : TypeId} {fuel : Nat} {cs : List Value} {d : DataW H} {p : List MemPlace} (ht : P.underlying t = some .string) (h : DataW.trod enc P w 0 (fun _ => true) true fuel t cs = some (d, p)) (hs : Sized P t d) :
    ∃ l : List UInt8, cs = [.string ⟨l.toArray⟩] ∧ l.length ≤ 140737488351232 := by
  obtain ⟨s, rfl, hx, _⟩ := DataW.trod_string ht h
  simp only [Prod.mk.injEq] at hx
  obtain ⟨rfl, rfl⟩ := hx
  refine ⟨s.data.toList, rfl, ?_⟩
  have := hs s.data.toList.length (by simp only [DataW.weights]; exact List.mem_cons_self)
  simpa only [reachBytes] using this
theorem readE_int {P : Program} {t : TypeId} {fuel : Nat} {cs : List Value} {d : DataW H} {p : List MemPlace} (ht : P.underlying t = some (.int .i64)) (h : DataW.trod enc P w 0 (fun _ => true) true fuel t cs = some (d, p)) :
    ∃ z, cs = [.int .i64 z] ∧ -9223372036854775808 ≤ z ∧ z < 9223372036854775808 := by
  obtain ⟨z, rfl, _, hz⟩ := DataW.trod_int ht h
  exact ⟨z, rfl, wf_i64 hz⟩
theorem eachE_mem {P : Program} {ts : List TypeId} {ds : List (DataW H)} {t : TypeId} {d : DataW H} (j : Nat) (ht : ts[j]? = some t) (hd : ds[j]? = some d) (h : ∀ m ∈ DataW.weightsEach P ts ds, m ≤ reachBytes) : Sized P t d :=
  fun m hm => h m (DataW.weights_mem_each ht hd m hm)
/-- a slice of bytes among the cells -/
theorem readE_bytes {P : Program} {t e : TypeId} {fuel : Nat} {cs : List Value} {d : DataW H} {p : List MemPlace} (ht : P.underlying t = some (.slice e)) (he : P.underlying e = some (.int .u8)) (hc : P.cellsOf e = 1) (hby : P.bytesOf e = 1)
    (h : DataW.trod enc P w 0 (fun _ => true) true fuel t cs = some (d, p)) (hs : Sized P t d) : ∃ a n c l, cs = [.slice a n c] ∧ Bs w a n c l ∧ c ≤ 140737488351232 := by
  have hcs : ∃ a n c, cs = [.slice a n c] := by
    rcases open_ints ht he hc h with ⟨hcs, _⟩ | ⟨x, l, c', zs, hcs, _⟩
    · exact ⟨_, _, _, hcs⟩
    · exact ⟨_, _, _, hcs⟩
  obtain ⟨a, n, c, rfl⟩ := hcs
  obtain ⟨a', n', c', l, hv, hb, hr⟩ := open_bytes_trod (_hv := rfl) ht he hc hby h hs
  cases hv
  exact ⟨a, n, c, l, rfl, hb, hr⟩
theorem read_entry {fuel : Nat} {cs : List Value} {d : DataW H} {p : List MemPlace} (h : DataW.trod enc Try.prog w 0 (fun _ => true) true fuel 58 cs = some (d, p)) (hs : Sized Try.prog 58 d) :
    ∃ (k : Int) (name link : List UInt8) (mode uid gid : Int) (user group : List UInt8) (sec nano : Int) (a : Option Addr) (n c : Nat) (x : List UInt8),
      cs = [.int .i64 k, .string ⟨name.toArray⟩, .string ⟨link.toArray⟩, .int .i64 mode, .int .i64 uid, .int .i64 gid, .string ⟨user.toArray⟩, .string ⟨group.toArray⟩, .int .i64 sec, .int .i64 nano, .slice a n c] ∧
      Bs w a n c x ∧ name.length ≤ 140737488351232 ∧ link.length ≤ 140737488351232 ∧ user.length ≤ 140737488351232 ∧ group.length ≤ 140737488351232 ∧ c ≤ 140737488351232 := by
  obtain ⟨ys, n, _, hx, hlen, hyl, hf⟩ := DataW.trod_struct Try.underlying58 h
  simp only [Prod.mk.injEq] at hx
  obtain ⟨rfl, rfl⟩ := hx
  have hc : Try.prog.cellsOf 58 = 11 := by kernel_rfl
  have hcs : Try.prog.cellsOf 9 = 1 := by kernel_rfl
  have hci : Try.prog.cellsOf 3 = 1 := by kernel_rfl
  have hcb : Try.prog.cellsOf 22 = 1 := by kernel_rfl
  have hct : Try.prog.cellsOf 56 = 2 := by kernel_rfl
  rw [hc] at hlen
  have hs' : ∀ m ∈ DataW.weightsEach Try.prog [3, 9, 9, 3, 3, 3, 9, 9, 56, 22] (ys.map (·.1)), m ≤ reachBytes := fun m hm => hs m (by simp only [DataW.weights, Try.underlying58]; exact hm)
  match cs, hlen, ys, hyl, hf, hs' with
  | [c0, c1, c2, c3, c4, c5, c6, c7, c8, c9, c10], _, [y0, y1, y2, y3, y4, y5, y6, y7, y8, y9], _, hf, hs' =>
    have h0 : DataW.trod enc Try.prog w 0 (fun _ => true) true n 3 [c0] = some y0 := by have := hf 0 _ rfl; simpa [hci] using this
    have h1 : DataW.trod enc Try.prog w 0 (fun _ => true) true n 9 [c1] = some y1 := by have := hf 1 _ rfl; simpa [hcs] using this
    have h2 : DataW.trod enc Try.prog w 0 (fun _ => true) true n 9 [c2] = some y2 := by have := hf 2 _ rfl; simpa [hcs] using this
    have h3 : DataW.trod enc Try.prog w 0 (fun _ => true) true n 3 [c3] = some y3 := by have := hf 3 _ rfl; simpa [hci] using this
    have h4 : DataW.trod enc Try.prog w 0 (fun _ => true) true n 3 [c4] = some y4 := by have := hf 4 _ rfl; simpa [hci] using this
    have h5 : DataW.trod enc Try.prog w 0 (fun _ => true) true n 3 [c5] = some y5 := by have := hf 5 _ rfl; simpa [hci] using this
    have h6 : DataW.trod enc Try.prog w 0 (fun _ => true) true n 9 [c6] = some y6 := by have := hf 6 _ rfl; simpa [hcs] using this
    have h7 : DataW.trod enc Try.prog w 0 (fun _ => true) true n 9 [c7] = some y7 := by have := hf 7 _ rfl; simpa [hcs] using this
    have h8 : DataW.trod enc Try.prog w 0 (fun _ => true) true n 56 [c8, c9] = some y8 := by have := hf 8 _ rfl; simpa [hct] using this
    have h9 : DataW.trod enc Try.prog w 0 (fun _ => true) true n 22 [c10] = some y9 := by have := hf 9 _ rfl; simpa [hcb] using this
    obtain ⟨zs, n', _, hx, _, hzl, hg⟩ := DataW.trod_struct Try.underlying56 h8
    match zs, hzl, hg with
    | [z0, z1], _, hg =>
      have g0 : DataW.trod enc Try.prog w 0 (fun _ => true) true n' 3 [c8] = some z0 := by have := hg 0 _ rfl; simpa [hci] using this
      have g1 : DataW.trod enc Try.prog w 0 (fun _ => true) true n' 3 [c9] = some z1 := by have := hg 1 _ rfl; simpa [hci] using this
      obtain ⟨k, e0, _⟩ := readE_int Try.underlying3 h0
      obtain ⟨name, e1, l1⟩ := readE_str Try.underlying9 h1 (eachE_mem 1 rfl rfl hs')
      obtain ⟨link, e2, l2⟩ := readE_str Try.underlying9 h2 (eachE_mem 2 rfl rfl hs')
      obtain ⟨mode, e3, _⟩ := readE_int Try.underlying3 h3
      obtain ⟨uid, e4, _⟩ := readE_int Try.underlying3 h4
      obtain ⟨gid, e5, _⟩ := readE_int Try.underlying3 h5
      obtain ⟨user, e6, l6⟩ := readE_str Try.underlying9 h6 (eachE_mem 6 rfl rfl hs')
      obtain ⟨group, e7, l7⟩ := readE_str Try.underlying9 h7 (eachE_mem 7 rfl rfl hs')
      obtain ⟨sec, e8, _⟩ := readE_int Try.underlying3 g0
      obtain ⟨nano, e9, _⟩ := readE_int Try.underlying3 g1
      obtain ⟨a, m, c, x, e10, hb, hr⟩ := readE_bytes Try.underlying22 Try.underlying5 (by kernel_rfl) (by kernel_rfl) h9 (eachE_mem 9 rfl rfl hs')
      simp only [List.cons.injEq, and_true] at e0 e1 e2 e3 e4 e5 e6 e7 e8 e9 e10
      subst e0 e1 e2 e3 e4 e5 e6 e7 e8 e9 e10
      exact ⟨k, name, link, mode, uid, gid, user, group, sec, nano, a, m, c, x, rfl, hb, l1, l2, l6, l7, hr⟩
theorem open_entry {v : Value} {d : DataW H} {p : List MemPlace} {r : Reach} {b0 : Nat} (hv : Value.okWide Try.prog w r b0 58 v) (h : DataW.Trod enc Try.prog w 0 (fun _ => true) true 58 v d p) (hs : Sized Try.prog 58 d) :
    ∃ (k : Int) (name link : List UInt8) (mode uid gid : Int) (user group : List UInt8) (sec nano : Int) (a : Option Addr) (n c : Nat) (x : List UInt8), v = entV k name link mode uid gid user group sec nano a n c ∧
      Bs w a n c x ∧ name.length ≤ 140737488351232 ∧ link.length ≤ 140737488351232 ∧ user.length ≤ 140737488351232 ∧ group.length ≤ 140737488351232 ∧ c ≤ 140737488351232 := by
  obtain ⟨cs, rfl, _⟩ := okWide_struct Try.underlying58 hv
  obtain ⟨fuel, hf⟩ := h
  obtain ⟨k, name, link, mode, uid, gid, user, group, sec, nano, a, n, c, x, e, r⟩ := read_entry hf hs
  refine ⟨k, name, link, mode, uid, gid, user, group, sec, nano, a, n, c, x, congrArg Value.agg ?_, r⟩
  exact Array.ext' e
end Go.Proofs.Ytlmenpfglcigcaa
