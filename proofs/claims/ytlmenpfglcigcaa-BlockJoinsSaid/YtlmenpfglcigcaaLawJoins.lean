/-
  LawJoins: the law BlockJoins, walked.
-/
import Derived.Test.YtlmenpfglcigcaaJoinYes
import Derived.Test.YtlmenpfglcigcaaUseBytes
import Derived.Deep.RegionHeld3
import Derived.Deep.MidRow
namespace Go.Proofs.Ytlmenpfglcigcaa
open Go.ChangeShapes Go.WideShapes Go.ChangeAt Go.RowKit
/-- the whole blocks of l, k of them -/
def chunks (l : List UInt8) (k : Nat) : List (List UInt8) := (List.range k).map fun j => (l.drop (j * 512)).take 512
theorem chunks_len (l : List UInt8) (k : Nat) : (chunks l k).length = k := by simp [chunks]
theorem chunks_get (l : List UInt8) (k i : Nat) (h : i < k) : (chunks l k).getD i [] = (l.drop (i * 512)).take 512 := by simp [chunks, h]
theorem chunks_512 (l : List UInt8) (k : Nat) (h : k * 512 ≤ l.length) : All512 (chunks l k) := by
  intro b hb
  simp only [chunks, List.mem_map, List.mem_range] at hb
  obtain ⟨j, hj, rfl⟩ := hb
  rw [List.length_take, List.length_drop]
  omega
theorem chunks_flat (l : List UInt8) : ∀ k, (chunks l k).flatten = l.take (k * 512)
  | 0 => by simp [chunks]
  | k + 1 => by
    have e : chunks l (k + 1) = chunks l k ++ [(l.drop (k * 512)).take 512] := by simp [chunks, List.range_succ]
    rw [e, List.flatten_append, chunks_flat l k, show (k + 1) * 512 = k * 512 + 512 by omega, List.take_add]
    simp
theorem bs_take {w : World} {a : Option Addr} {n c : Nat} {l : List UInt8} (h : Bs w a n c l) (M : Nat) (hM : M ≤ n) : Bs w a M c (l.take M) := by
  have hl := h.len; have hc := h.cap
  refine ⟨by simp; omega, by omega, h.2.2.1, fun j v hj => h.2.2.2.1 j v ?_, fun hn => by have := h.2.2.2.2 hn; omega⟩
  rw [List.map_take, List.getElem?_take] at hj
  split at hj
  · exact hj
  · cases hj
theorem one_blks (w : World) (q : List UInt8) (h : q.length = 512) : Blks (w.alloc (.cells (blkA q) 24)) (some ⟨w.heap.size, 0, none⟩) 1 1 [q] := by
  refine ⟨?_, fun b hb => by rw [List.mem_singleton.1 hb]; exact h⟩
  have e := isSl_new w 24 512 1 (blkA q) (by rw [blkA_size, h]) (by unfold maxLen; omega)
  simpa [blkA] using e
theorem one_isSl (w : World) (q : List UInt8) (h : q.length = 512) : IsSl (w.alloc (.cells (blkA q) 24)) 512 (some ⟨w.heap.size, 0, none⟩) 1 1 (q.map u8v) := by
  have e := (one_blks w q h).1
  simpa using e
theorem at_len (l : List UInt8) (i : Nat) (h : i * 512 + 512 ≤ l.length) : ((l.drop (i * 512)).take 512).length = 512 := by rw [List.length_take, List.length_drop]; omega
theorem take_next (l : List UInt8) (i : Nat) : (l.take (i * 512)).map u8v ++ ((l.drop (i * 512)).take 512).map u8v = (l.take ((i + 1) * 512)).map u8v := by
  rw [← List.map_append, show (i + 1) * 512 = i * 512 + 512 by omega, List.take_add]
theorem abc_bs (w : World) : Bs (w.alloc (.cells #[.int .u8 97, .int .u8 98, .int .u8 99] 5 (3, 4))) (some ⟨w.heap.size, 0, none⟩) 3 3 [97, 98, 99] :=
  isSl_mark w 5 1 3 #[.int .u8 97, .int .u8 98, .int .u8 99] _ rfl (by unfold maxLen; omega)
set_option maxRecDepth 100000 in
set_option maxHeartbeats 2000000 in
theorem BlockJoins_walk (a : Option Addr) (n c : Nat) (l : List UInt8) (N : Int) (w : World) (h : Bs w a n c l) (hc : c ≤ 140737488351232) (hN0 : -9223372036854775808 ≤ N) (hN1 : N ≤ 9223372036854775807) :
    Calls Try.prog 6 #[.slice a n c, .int .i64 N] w fun e w' => e = .returned (.bool true) ∧ Below w.heap.size w w' := by
  have hl := h.len; have hcap := h.cap
  have hq0 := ofL_len [97, 98, 99]
  have hq1 : (([ofL [97, 98, 99]] : List (List UInt8)).flatten.take 2) = [97, 98] := by decide +kernel
  generalize hqe : ofL [97, 98, 99] = q at *
  have HQE := Lib.hid hqe; clear hqe
  have HQ0 := Lib.hid hq0; have HQ1 := Lib.hid hq1; clear hq0 hq1
  have HL := Lib.hid hl; clear hl
  have hI : ∀ q : List UInt8, q.length = 512 → (Try.prog.info? 24).map (fun i => (i.zero, i.size)) = some (some (.agg (blkA zblk)), (blkA q).size) := by
    intro q hq; rw [blkA_size, hq]; kernel_rfl
  have hS : ∀ q : List UInt8, q.length = 512 → (blkA zblk).size = (blkA q).size ∧ 0 < (blkA q).size ∧ (blkA q).size ≤ 16777216 := by
    intro q hq; rw [blkA_size, blkA_size, zblk_len, hq]; decide
  have HII := Lib.hid hI; have HSS := Lib.hid hS; clear hI hS
  have HI : Hid ((Try.prog.info? 24).map (fun i => (i.zero, i.size)) = some (some (.agg (blkA zblk)), (blkA q).size)) := by
    show _ = _; rw [blkA_size, HQ0.out]; kernel_rfl
  have HS : Hid ((blkA zblk).size = (blkA q).size) := by show _ = _; rw [blkA_size, blkA_size, zblk_len, HQ0.out]
  have HP : Hid (0 < (blkA q).size ∧ (blkA q).size ≤ 16777216) := by show _ ∧ _; rw [blkA_size, HQ0.out]; decide
  have kc := fun (w : World) (C : Array Value) (n c : Nat) => Lib.run_convert_bytes_const (P := Try.prog) w 22 5 C n c Try.underlying22 Try.underlying5
  have hu := Lib.hid Try.underlying5
  go_enter Try.func6, Try.ntmps6
  go_wp2_with (first
    | (go_at_call 13; (with_reducible refine (Of_any _ 3 3 [97, 98, 99] _ (by exact abc_bs w)).mono ?_); rintro e w1 ⟨rfl, hb1⟩; rw [HQE.out])
    | (go_at_call 23; (refine (Join_yes _ 1 1 [q] 2 _ (by exact one_blks _ q HQ0.out) (by decide) (by decide)).mono ?_); rintro e w2 ⟨a2, c2, rfl, ho2, hb2⟩; rw [HQ1.out] at ho2)
    | (with_reducible refine wpList_slice_one rfl 42 _ rfl Try.underlying42 (blkA q) HI.out HS.out HP.out.1 HP.out.2 rfl ?_)
    | (with_reducible refine wpList_str_of_bs rfl _ _ _ rfl Try.underlying22 hu.out Try.underlying9 rfl (by exact own_bs ho2) ?_))
  have hb3 : Below w.heap.size w (w2.alloc (.cells #[] 24)) := Below.seq (Below.seq (Below.seq (Below.seq ((Below.refl _ _).alloc (Nat.le_refl _) _) hb1) ((Below.refl _ _).alloc (Nat.le_refl _) _)) hb2) ((Below.refl _ _).alloc (Nat.le_refl _) _)
  have ho0 := World.ownsRow_lit (base := w.heap.size) (e := 24) (size := 512) w2 #[] 0 (by have := hb3.size; simp at this; have := hb1.size; have := hb2.size; simp at *; omega) (by decide) rfl
  clear ho2
  go_loopw [8, 9] (fun v j wr => ∃ (i : Nat) (a3 : Option Addr) (c3 : Nat), i ≤ n / 512 ∧ j = .int .i64 i ∧ v = .slice a3 i c3 ∧
    wr.ownsRow w.heap.size 24 512 (.slice a3 i c3) i ((l.take (i * 512)).map u8v) ∧ Below w.heap.size w wr) (fun _ j _ => n / 512 - (intOf j).toNat)
  case atStart => exact ⟨0, _, _, by omega, rfl, rfl, by simpa using ho0, hb3⟩
  case round =>
    clear hb1 hb2 hb3 ho0
    obtain ⟨i, a3, c3, hi, rfl, rfl, ho4, hb4⟩ := hrel
    by_cases hlt : i < n / 512
    · have hpl := at_len l i (by rw [HL.out]; omega)
      have htn := take_next l i
      have hs4 := hb4.size
      have hi5 : (i : Int) < n / 512 := by omega
      have hAt := At_any a n c l i wr (Below.bs hb4 h) (by omega)
      generalize (l.drop (i * 512)).take 512 = p at *
      have HAT := Lib.hid hAt; have HPL := Lib.hid hpl; have HTN := Lib.hid htn; clear hpl htn hAt
      go_wp2_with (first
        | (go_at_call 24; refine (HAT.out).mono ?_; rintro e w5 ⟨rfl, hb5⟩; have ho5 := own_keep ho4 (fun k _ hk => hb5.block k hk))
        | (with_reducible refine wpList_slice_one rfl 42 _ rfl Try.underlying42 (blkA p) (HII.out p HPL.out) (HSS.out p HPL.out).1 (HSS.out p HPL.out).2.1 (HSS.out p HPL.out).2.2 rfl ?_)
        | (at_builtin; refine wpList_app rfl _ _ 42 rfl w.heap.size 24 _ 512 512 Try.underlying42 infoBlk (by rw [Value.cells, blkA_size, zblk_len]) (by decide) (by decide) rfl (by exact World.ownsRow.alloc ho5 _) rfl (one_isSl w5 p HPL.out) (bytes_oneCell _) (by omega) (by have := hb5.size; simp; omega) ?_; intro a6 c6 w6 ho6 hg6))
      exact ⟨⟨i + 1, a6, c6, by omega, by go_num, rfl, by rw [HTN.out] at ho6; exact ho6, below_app (Below.seq (Below.seq hb4 hb5) ((Below.refl _ _).alloc (Nat.le_refl _) _)) (World.ownsRow.alloc ho5 _) hg6 (Nat.le_refl _) (by have := hb5.size; simp; omega)⟩, by simp [intOf]; omega⟩
    · obtain rfl : i = n / 512 := by omega
      have hend : n / 512 * 512 ≤ n := Nat.div_mul_le_self n 512
      have hB : Blks wr a3 (n / 512) c3 (chunks l (n / 512)) := ⟨by rw [chunks_flat]; exact own_isSl ho4, chunks_512 l _ (by rw [HL.out]; exact hend)⟩
      have hdiv : (n : Int) / 512 = ((n / 512 : Nat) : Int) := by omega
      have hch : ∀ j, j < n / 512 → (chunks l (n / 512)).getD j [] = (l.drop (j * 512)).take 512 := fun j hj => chunks_get l _ j hj
      have hfl := chunks_flat l (n / 512)
      generalize chunks l (n / 512) = ls at *
      generalize n / 512 = k at *
      have HCH := Lib.hid hch; have HFL := Lib.hid hfl; clear hch hfl
      have HJ := Lib.hid (Join_all a3 k c3 ls N wr hB (by omega))
      have hkn : k * 512 ≤ 140737488351232 := by omega
      clear HQ0 HQ1 HQE HII HSS HI HS HP ho4
      go_wp2_with (go_at_call 23; refine (HJ.out).mono ?_; rintro e w8 ⟨a8, m8, c8, er, rfl, hb8, hj1, hj2⟩; have HJ1 := Lib.hid hj1; have HJ2 := Lib.hid hj2; clear hj1 hj2)
      go_loopw [11] (fun j wq => ∃ i : Nat, i ≤ k ∧ j = .int .i64 i ∧ Below w8.heap.size w8 wq) (fun j _ => k - (intOf j).toNat)
      case atStart => exact ⟨0, by omega, rfl, Below.refl _ _⟩
      case round =>
        obtain ⟨i, hik, rfl, hb9⟩ := hrel
        have hb48 := Below.seq hb4 hb8
        have hb49 := Below.seq hb48 hb9
        by_cases hlt2 : i < k
        · obtain ⟨b3, o3, rfl, hpl, hcs⟩ := (Below.blks (Below.seq hb8 hb9) hB).at i hlt2
          rw [HCH.out i hlt2] at hpl hcs
          have hAt := At_any a n c l i wr.drew ((Keeps.drew _).bs (Below.bs hb49 h)) (by omega)
          generalize (l.drop (i * 512)).take 512 = p at *
          have hnq := fun w' => neq_blk p p hpl hpl w'
          have hpp : decide (p = p) = true := dec_t rfl
          simp only [hpp] at hnq
          have hgb := guardBlk
          clear hpp
          have hrg : wr.rangeAt b3 (o3 + i * 512) (p.map u8v) := fun j v hj => by have := hcs j v hj; rwa [Addr.add_lit] at this
          have hrg1 : wr.drew.rangeAt b3 (o3 + i * 512) (p.map u8v) := hrg
          have hu24 := Try.underlying24
          have hi24 : (Try.prog.info? 24).map (·.size) = some (p.map u8v).length := by rw [List.length_map, hpl]; kernel_rfl
          have hnq2 : ∀ w' : World, (binOp .neq 24 (.agg (p.map u8v).toArray) (.agg (blkA p))).run Try.prog w' = .ok (.bool (!true)) w' := hnq
          have HAT := Lib.hid hAt; clear hpl hcs hAt hnq
          have hik2 : (i : Int) < k := by omega
          go_wp2_with fail
          go_region_held3 (fun w' => w'.rangeAt b3 (o3 + i * 512) (p.map u8v)) (first | assumption | go_keep_ranges) (first
            | (go_at_call 24; refine (HAT.out).mono ?_; rintro e w9 ⟨rfl, hb10⟩; have hrg9 : w9.rangeAt b3 (o3 + i * 512) (p.map u8v) := fun j v hj => (Below.keeps hb10) _ _ (hrg1 j v hj)))
          go_wp2
          exact ⟨⟨i + 1, by omega, by go_num, Below.seq (Below.seq hb9 ((Below.refl _ _).drew)) hb10⟩, by simp [intOf]; omega⟩
        · obtain rfl : i = k := by omega
          by_cases hbad : N < 0 ∨ (i : Int) * 512 < N
          · obtain ⟨rfl, rfl⟩ := HJ1.out hbad
            rcases hbad with hbad | hbad
            · go_wp2
              go_ret
              exact ⟨ret_bool rfl, hb49⟩
            · have hb1 : ¬ N < 0 := by omega
              have hb2 : 512 * (i : Int) < N := by omega
              go_wp2
              go_ret
              exact ⟨ret_bool rfl, hb49⟩
          · obtain ⟨rfl, hbs⟩ := HJ2.out hbad
            have hn1 : ¬ N < 0 := by omega
            have hn2 : ¬ 512 * (i : Int) < N := by omega
            obtain ⟨M, rfl⟩ : ∃ M : Nat, N = M := ⟨N.toNat, by omega⟩
            rw [HFL.out, List.take_take, Nat.min_eq_left (by omega)] at hbs
            have hbs2 := Below.bs hb9 hbs
            simp only [Int.toNat_natCast] at hbs2
            clear hbad hbs
            have hbs3 := bs_take (Below.bs hb49 h) M (by omega)
            have hself : decide (l.take M = l.take M) = true := dec_t rfl
            have HSB := Lib.hid (SameBytes_any a8 a m8 M c8 c (l.take M) (l.take M) wr hbs2 hbs3)
            have HSELF := Lib.hid hself
            clear hself
            go_wp2_with (go_at_call 22; refine (HSB.out).mono ?_; rintro e w11 ⟨rfl, hb11⟩; rw [HSELF.out])
            go_ret
            exact ⟨ret_bool rfl, Below.seq hb49 hb11⟩
end Go.Proofs.Ytlmenpfglcigcaa
