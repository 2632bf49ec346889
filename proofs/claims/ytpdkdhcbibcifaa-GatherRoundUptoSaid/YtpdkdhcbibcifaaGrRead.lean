/-
  GrRead: read: the index of a well-formed graph.
-/
import Derived.Test.YtpdkdhcbibcifaaGrRoot
namespace Go.Proofs.Ytpdkdhcbibcifaa
set_option linter.unusedVariables false
set_option linter.unusedSimpArgs false
open Go.ChangeShapes Go.WideShapes Go.ChangeAt Go.RowKit
open Go.Maps (Keyed)
namespace Gr
abbrev gOf (S : List NdS) : List Nd := S.map (·.1)
theorem ptr_take {b off : Nat} {S : List NdS} {k : Nat} {x : NdS} (hx : S[k]? = some x) (hn : ∀ y ∈ S.take k, y.1.id ≠ x.1.id) (z : Int) : upd (ptrAt b off (S.take k)) x.1.id (.pointer (some ⟨b, off + k * 10, none⟩)) z = ptrAt b off (S.take (k + 1)) z := by
  obtain ⟨hk, e⟩ := List.getElem?_eq_some_iff.1 hx
  unfold upd ptrAt
  rw [List.take_succ_eq_append_getElem hk, e, List.findIdx?_append]
  have hl : (S.take k).length = k := by simp; omega
  by_cases hz : z = x.1.id
  · subst hz
    rw [if_pos rfl]
    have : (S.take k).findIdx? (fun y => y.1.id == x.1.id) = none := by
      rw [List.findIdx?_eq_none_iff]
      intro y hy
      simpa using hn y hy
    rw [this]
    simp [List.findIdx?_cons, hl]
  · rw [if_neg hz]
    have h2 : List.findIdx? (fun y : NdS => y.1.id == z) [x] = none := by
      simp [List.findIdx?_cons]
      exact fun e => hz e.symm
    rw [h2]
    simp
theorem ptr_fresh {b off : Nat} {S : List NdS} {k : Nat} {x : NdS} (hn : ∀ y ∈ S.take k, y.1.id ≠ x.1.id) : (ptrAt b off (S.take k) x.1.id).isSome = false := by
  unfold ptrAt
  have : (S.take k).findIdx? (fun y => y.1.id == x.1.id) = none := by
    rw [List.findIdx?_eq_none_iff]
    intro y hy
    simpa using hn y hy
  rw [this]; rfl
theorem enterE_len {g : List Nd} {pid : Int} : ∀ {es : List (Bt × Int)} {last : Bt} {p p' : List (Int × Int)}, enterE g pid es last p = some p' → p'.length ≤ p.length + es.length ∧ ∀ x ∈ p', x ∈ p ∨ x.2 = pid
  | [], _, p, p', h => by simp only [enterE, Option.some.injEq] at h; subst h; exact ⟨by simp, fun x hx => Or.inl hx⟩
  | (nm, id) :: es, last, p, p', h => by
    unfold enterE at h
    cases hn : nodeOf g id with
    | none => rw [hn] at h; cases h
    | some t =>
      rw [hn] at h
      simp only at h
      split at h
      · cases h
      · split at h
        · obtain ⟨h1, h2⟩ := enterE_len h
          exact ⟨by simp; omega, h2⟩
        · split at h
          · cases h
          · obtain ⟨h1, h2⟩ := enterE_len h
            refine ⟨by simp at h1 ⊢; omega, fun x hx => ?_⟩
            rcases h2 x hx with h3 | h3
            · rcases List.mem_append.1 h3 with h4 | h4
              · exact Or.inl h4
              · simp at h4; subst h4; exact Or.inr rfl
            · exact Or.inr h3
/-- what read hands back -/
def ReadRes (w : World) (b off : Nat) (S : List NdS) (r : Ending) (w' : World) : Prop :=
  ∃ bm ok, r = .returned (.tuple #[bm, .bool ok]) ∧ Below w.heap.size w w' ∧ (ok = true ↔ Chk (gOf S)) ∧ (ok = true → ∃ bb, bm = .map (some bb) ∧ w.heap.size ≤ bb ∧ MpI w' bb S.length (ptrAt b off S))
theorem ReadRes.no {w w' : World} {b off : Nat} {S : List NdS} (bm : Value) (h : ¬ Chk (gOf S)) (hb : Below w.heap.size w w') : ReadRes w b off S (.returned (.tuple #[bm, .bool false])) w' := ⟨bm, false, rfl, hb, by simp [h], by simp⟩
/-- what is asked of the numbers of a graph in memory -/
structure NdNum (S : List NdS) : Prop where
  id : ∀ x ∈ S, inI x.1.id
  ent : ∀ x ∈ S, ∀ e ∈ x.1.ents, inI e.2
  len : ∀ x ∈ S, x.2.2.2.1 ≤ 140737488355328
theorem drop_get {α : Type} {l : List α} {k : Nat} {x : α} (h : l[k]? = some x) : l.drop k = x :: l.drop (k + 1) := by
  obtain ⟨hk, e⟩ := List.getElem?_eq_some_iff.1 h
  rw [List.drop_eq_getElem_cons hk, e]
theorem box_below {w wr : World} {cs : Array Value} {t : TypeId} (h : Below (w.heap.size + 1) (w.alloc (.cells cs t)) wr) : Below w.heap.size w wr :=
  ((Below.refl w.heap.size w).alloc (Nat.le_refl _) _).trans (h.mono (by omega))
theorem box_cell1 {w wr : World} {cs : Array Value} {t : TypeId} (h : Below (w.heap.size + 1) (w.alloc (.cells cs t)) wr) (j : Nat) {v : Value} (hv : cs[j]? = some v) : wr.cell? ⟨w.heap.size, j, none⟩ = some v := by
  rw [h.cell (p := ⟨w.heap.size, j, none⟩) (by simp), World.cell?_alloc_new]
  exact hv
set_option maxRecDepth 100000 in
set_option maxHeartbeats 4000000 in
theorem read_any (a : Option Addr) (n c b off : Nat) (S : List NdS) (w : World) (hS : Nds w a n c S) (ha : S ≠ [] → a = some ⟨b, off, none⟩) (hN : NdNum S) :
    Calls Try.prog 46 #[.agg #[.slice a n c]] w (ReadRes w b off S) := by
  have hl := hS.len; have hcap := hS.cap; have hmax := hS.max
  have HS := Lib.hid hS; have HA := Lib.hid ha; have HN := Lib.hid hN; have HL := Lib.hid hl
  have hmm := @run_makeMap Try.prog
  have hgl : (gOf S).length = n := by simp [gOf, hl]
  have HGL := Lib.hid hgl
  clear hS ha hN hl hgl
  by_cases hbig : 4096 < n
  · have HNC : Hid (¬ Chk (gOf S)) := Lib.hid (fun h => by have := h.1; rw [HGL.out] at this; omega)
    go_enter Try.func46, Try.ntmps46
    go_wp2
    go_ret2
    exact ReadRes.no _ HNC.out ((Below.refl _ _).alloc (Nat.le_refl _) _)
  · go_enter Try.func46, Try.ntmps46
    go_wp2
    have hb0 : Below (w.heap.size + 1) (w.alloc (.cells #[.slice a n c] 43)) ((w.alloc (.cells #[.slice a n c] 43)).alloc (.map #[] 0)) := (Below.refl _ _).alloc (by simp) _
    have hm0 : MpI ((w.alloc (.cells #[.slice a n c] 43)).alloc (.map #[] 0)) (w.heap.size + 1) 0 (ptrAt b off (S.take 0)) := by
      have h1 := Mp.made mkI (w.alloc (.cells #[.slice a n c] 43)) Try.prog 3
      have e1 : (w.alloc (.cells #[.slice a n c] 43)).heap.size = w.heap.size + 1 := by simp
      rw [e1] at h1
      exact h1.congr (fun x => by simp [ptrAt])
    have HB0 := Lib.hid hb0; have HM0 := Lib.hid hm0
    clear hb0 hm0
    go_loopw [5, 6, 19] (fun lv ev i wr => ∃ (k : Nat) (last : Int) (E : Nat), k ≤ n ∧ i = .int .i64 k ∧ lv = .int .i64 last ∧ ev = .int .i64 E ∧ Hid (MpI wr (w.heap.size + 1) k (ptrAt b off (S.take k))) ∧ Hid (Below (w.heap.size + 1) (w.alloc (.cells #[.slice a n c] 43)) wr) ∧
      Hid (Rising 0 (gOf S) ↔ Rising last ((gOf S).drop k)) ∧ Hid (entSum (gOf S) = E + entSum ((gOf S).drop k)) ∧ Hid (∀ y ∈ S.take k, y.1.id ≤ last) ∧ Hid (E ≤ k * 140737488355328) ∧ w.heap.size + 2 ≤ wr.heap.size) (fun _ _ i _ => n - (intOf i).toNat)
    case atStart => exact ⟨0, 0, 0, Nat.zero_le _, rfl, rfl, rfl, HM0, HB0, Lib.hid (by simp), Lib.hid (by simp), Lib.hid (by simp), Lib.hid (by omega), by simp⟩
    case round =>
      obtain ⟨k, last, E, hk, rfl, rfl, rfl, hmp, hbel, hri, hes, hle, hE, hws⟩ := hrel
      have hbx := box_cell1 hbel.out 0 rfl
      by_cases hlt : k < n
      · obtain ⟨x, hxk⟩ := get_some (S := S) (k := k) (by have := HL.out; omega)
        have hbw := box_below hbel.out
        have hkp := Below.keeps hbw
        obtain ⟨b', off', ha', hrow⟩ := (HS.out.keep hkp).at k x hxk
        have h2 := HA.out (by rintro rfl; simp at hxk)
        rw [ha'] at h2
        simp only [Option.some.injEq, Addr.mk.injEq, and_true] at h2
        obtain ⟨rfl, rfl⟩ := h2
        subst ha'
        have hSk := HS.out.keep hkp
        have hdx := hSk.dat x (mem_get hxk)
        have hex := hSk.ent x (mem_get hxk)
        have hgk : (gOf S)[k]? = some x.1 := by simp [gOf, hxk]
        have hdr := drop_get hgk
        have hR := hri.out
        rw [hdr] at hR
        simp only [Rising] at hR
        have hEs := hes.out
        rw [hdr] at hEs
        simp only [entSum] at hEs
        have hidb := HN.out.id x (mem_get hxk)
        have hlenb := HN.out.len x (mem_get hxk)
        have hel := hex.len
        have hcl : x.2.2.2.1 ≤ x.2.2.2.2 := hex.cap
        have HSO := Lib.hid (fun w' (hb : Below wr.heap.size wr w') => sound_any b' (off' + k * 10) x w' (range_keep hrow (Below.keeps hb)) ((Below.keeps hb).bs hdx) ((Below.keeps hb).sl hex))
        have HKEY := Lib.hid (key_int (P := Try.prog) Try.underlying3 hidb.1 hidb.2)
        have hpt := fun hn => ptr_take (b := b') (off := off') hxk hn
        have hpf := fun hn => ptr_fresh (b := b') (off := off') (S := S) (k := k) (x := x) hn
        have HPT := Lib.hid hpt; have HPF := Lib.hid hpf
        have hgr : Rising 0 (gOf S) → ¬ (x.1.id ≤ last) ∧ ¬ 1099511627776 < x.1.id ∧ sound x.1 = true := fun h => by have := hR.1 h; exact ⟨by omega, by omega, this.2.2.1⟩
        have HGR := Lib.hid hgr
        have HR := Lib.hid hR; have HES := Lib.hid hEs
        have c0 : wr.cell? ⟨b', off' + k * 10, none⟩ = some (.int .i64 x.1.id) := range_cell hrow 0 rfl
        have c9 : wr.cell? ⟨b', off' + k * 10 + 9, none⟩ = some (.slice x.2.2.1 x.2.2.2.1 x.2.2.2.2) := range_cell hrow 9 rfl
        have HLE := Lib.hid hle.out
        have HC0 := Lib.hid c0; have HC9 := Lib.hid c9
        have hmem : ∀ y ∈ S.take (k + 1), y ∈ S.take k ∨ y = x := fun y hy => by
          obtain ⟨hk', e⟩ := List.getElem?_eq_some_iff.1 hxk
          rw [List.take_succ_eq_append_getElem hk', e] at hy
          simpa using hy
        have HMEM := Lib.hid hmem
        have hbw' := hbw.size
        have HBW := Lib.hid hbw
        have hE2 : E ≤ k * 140737488355328 := hE.out
        have hE3 : E ≤ 4096 * 140737488355328 := Nat.le_trans hE2 (Nat.mul_le_mul_right _ (by omega))
        have HE2 := Lib.hid hE2
        clear hxk hrow hSk hdx hgk hdr hR hEs hpt hpf hgr hri hes hle hkp hbw hidb hex hmem hE hE2
        obtain ⟨xi, hxi⟩ : ∃ xi, x.1.id = xi := ⟨_, rfl⟩
        have HXI := Lib.hid hxi
        rw [hxi] at HGR HR c0 HC0 HKEY HPT HPF
        clear hxi
        generalize x.2.2.1 = xa at *
        generalize x.2.2.2.1 = xn at *
        generalize x.2.2.2.2 = xc at *
        generalize sound x.1 = sx at *
        by_cases h1 : xi ≤ last
        · have HNC : Hid (¬ Chk (gOf S)) := Lib.hid (fun h => (HGR.out h.2.1).1 h1)
          go_wp2
          go_ret2
          exact ReadRes.no _ HNC.out HBW.out
        · by_cases h2 : 1099511627776 < xi
          · have HNC : Hid (¬ Chk (gOf S)) := Lib.hid (fun h => (HGR.out h.2.1).2.1 h2)
            go_wp2
            go_ret2
            exact ReadRes.no _ HNC.out HBW.out
          · cases sx with
            | false =>
              have HNC : Hid (¬ Chk (gOf S)) := Lib.hid (fun h => by have := (HGR.out h.2.1).2.2; cases this)
              go_wp2_with (go_at_call 56; (refine (HSO.out _ (by exact Below.refl _ _)).mono ?_); rintro r w4 ⟨rfl, hb4⟩)
              go_ret2
              exact ReadRes.no _ HNC.out (Below.seq HBW.out hb4)
            | true =>
              have hne : ∀ y ∈ S.take k, y.1.id ≠ xi := fun y hy e => by have := HLE.out y hy; omega
              have HFR := Lib.hid (HPF.out hne)
              have HUP := Lib.hid (HPT.out hne)
              have hle2 : ∀ y ∈ S.take (k + 1), y.1.id ≤ xi := fun y hy => by
                rcases HMEM.out y hy with h | h
                · have := HLE.out y h; omega
                · subst h; have := HXI.out; omega
              have HLE2 := Lib.hid hle2
              have hri2 : Rising 0 (gOf S) ↔ Rising xi ((gOf S).drop (k + 1)) := by
                rw [HR.out]
                exact ⟨fun h => h.2.2.2, fun h => ⟨by omega, by omega, rfl, h⟩⟩
              have HRI2 := Lib.hid hri2
              clear hne hle2 hri2
              go_wp2_with (first
                | (go_at_call 56; (refine (HSO.out _ (by exact Below.refl _ _)).mono ?_); rintro r w4 ⟨rfl, hb4⟩; have HM4 := Lib.hid (hmp.out.kept (below_grown hb4 none) (by simp)); have d0 := Below.keeps hb4 _ _ HC0.out; have d9 := Below.keeps hb4 _ _ HC9.out; have dx := Below.keeps hb4 _ _ hbx; have HB4 := Lib.hid (hbel.out.trans (hb4.mono (by omega))))
                | (at_mapUpdate; refine wpList_mp_put rfl _ _ _ 65 rfl 66 lawI Try.underlying65 rfl HM4.out (by unfold maxLen; omega) _ xi rfl HKEY.out _ rfl mkI_inj ?_; intro w5 hm5 hg5; have f0 := HM4.out.keeps hg5 _ _ d0; have f9 := HM4.out.keeps hg5 _ _ d9; have fx := HM4.out.keeps hg5 _ _ dx; rw [HFR.out] at hm5; have HM5 := Lib.hid (hm5.congr HUP.out); have HB5 := Lib.hid (HB4.out.grown hg5 (by have := HB4.out.size; simp at this; omega) (fun j hj => by cases hj; exact Nat.le_refl _)); clear hm5))
              exact ⟨⟨k + 1, xi, E + xn, by omega, by go_num, rfl, by go_num, HM5, HB5, HRI2, Lib.hid (by rw [HES.out, ← hel]; omega), HLE2, Lib.hid (by have := HE2.out; omega), by have := hg5.size; have := hb4.size; omega⟩, by simp [intOf]; omega⟩
      · obtain rfl : k = n := by omega
        have hR := hri.out
        rw [List.drop_of_length_le (by rw [HGL.out]; omega)] at hR
        simp only [Rising, iff_true] at hR
        have hEs := hes.out
        rw [List.drop_of_length_le (by rw [HGL.out]; omega)] at hEs
        simp only [entSum, Nat.add_zero] at hEs
        have HR := Lib.hid hR; have HES := Lib.hid hEs
        have hmp2 := hmp.out
        rw [List.take_of_length_le (by have := HL.out; omega)] at hmp2
        have HM := Lib.hid hmp2
        have hE2 : E ≤ k * 140737488355328 := hE.out
        have hE3 : E ≤ 4096 * 140737488355328 := Nat.le_trans hE2 (Nat.mul_le_mul_right _ (by omega))
        clear hR hEs hri hes hle hE2 hE hmp2 hmp
        by_cases hev : 8192 < E
        · have HNC : Hid (¬ Chk (gOf S)) := Lib.hid (fun h => by have := h.2.2.1; rw [HES.out] at this; omega)
          have HBW := Lib.hid (box_below hbel.out)
          go_wp2
          go_ret2
          exact ReadRes.no _ HNC.out HBW.out
        · have hb3 := hbel.out.alloc (by have := hbel.out.size; simp at this; omega) (.map #[] 0)
          have hx3 := box_cell1 hb3 0 rfl
          have HM3 := Lib.hid (HM.out.kept (World.grownBy_alloc wr (.map #[] 0) none) (by simp))
          have hp3 : MpI (wr.alloc (.map #[] 0)) wr.heap.size ([] : List (Int × Int)).length (parF []) := (Mp.made mkI wr Try.prog 3).congr (fun x => by simp [parF])
          have HP3 := Lib.hid hp3; have HB3 := Lib.hid hb3
          clear hp3 hb3
          go_wp2
          have hpbw := hws
          generalize wr.heap.size = PB at *
          go_loopw [68] (fun i w5 => ∃ (j : Nat) (q : List (Int × Int)), j ≤ k ∧ i = .int .i64 j ∧ Hid (MpI w5 (w.heap.size + 1) k (ptrAt b off S)) ∧ Hid (MpI w5 PB q.length (parF q)) ∧ Hid (Below (w.heap.size + 1) (w.alloc (.cells #[.slice a k c] 43)) w5) ∧
            Hid (enterN (gOf S) (gOf S) [] = enterN (gOf S) ((gOf S).drop j) q) ∧ Hid (q.length + entSum ((gOf S).drop j) ≤ 8192) ∧ Hid (∀ x ∈ q, ∃ y ∈ S, x.2 = y.1.id)) (fun i _ => k - (intOf i).toNat)
          case atStart => exact ⟨0, [], Nat.zero_le _, rfl, HM3, HP3, HB3, Lib.hid (by simp), Lib.hid (by rw [List.drop_zero, HES.out]; simp; omega), Lib.hid (by simp)⟩
          case round =>
            obtain ⟨j, q, hj, rfl, hby, hpar, hbel5, hen, hql, hqv⟩ := hrel
            have hbx5 := box_cell1 hbel5.out 0 rfl
            have HBX5 := Lib.hid (box_below hbel5.out)
            by_cases hlt : j < k
            · obtain ⟨x, hxk⟩ := get_some (S := S) (k := j) (by have := HL.out; omega)
              have hSk := HS.out.keep (Below.keeps HBX5.out)
              obtain ⟨b', off', ha', hrow⟩ := hSk.at j x hxk
              have h2 := HA.out (by rintro rfl; simp at hxk)
              rw [ha'] at h2
              simp only [Option.some.injEq, Addr.mk.injEq, and_true] at h2
              obtain ⟨rfl, rfl⟩ := h2
              subst ha'
              have hgk : (gOf S)[j]? = some x.1 := by simp [gOf, hxk]
              have hdr := drop_get hgk
              have hE5 := hen.out
              rw [hdr] at hE5
              simp only [enterN] at hE5
              have hQ5 := hql.out
              rw [hdr] at hQ5
              simp only [entSum] at hQ5
              have HEN := Lib.hid (enter_any b' off' k c (some ⟨b', off', none⟩) S b' (off' + j * 10) (w.heap.size + 1) k PB x q wr hSk (fun _ => rfl) hrow (hSk.ent x (mem_get hxk)) hby.out hpar.out (by omega) (HN.out.ent x (mem_get hxk)) (by omega))
              have HLE := Lib.hid (fun p' h => enterE_len (g := gOf S) (pid := x.1.id) (es := x.1.ents) (last := []) (p := q) (p' := p') h)
              have HXM := Lib.hid (mem_get hxk)
              have HE5 := Lib.hid hE5; have HQ5 := Lib.hid hQ5
              clear hxk hSk hrow hgk hdr hE5 hQ5 hen hql
              generalize enterE (gOf S) x.1.id x.1.ents [] q = R at *
              cases R with
              | none =>
                have HNC : Hid (¬ Chk (gOf S)) := Lib.hid (fun h => by
                  obtain ⟨p, hp, _⟩ := h.2.2.2
                  rw [HE5.out] at hp; cases hp)
                go_wp2_with (go_at_call 57; (refine (HEN.out).mono ?_); rintro r w6 ⟨v, rfl, hg6, hv6, hm6⟩; obtain rfl : v = false := by { cases v with | false => rfl | true => simp at hv6 })
                go_ret2
                exact ReadRes.no _ HNC.out (HBX5.out.grown hg6 HBX5.out.size (fun z hz => by cases hz; omega))
              | some p' =>
                have HL5 := Lib.hid (HLE.out p' rfl)
                go_wp2_with (go_at_call 57; (refine (HEN.out).mono ?_); rintro r w6 ⟨v, rfl, hg6, hv6, hm6⟩; obtain rfl : v = true := by { cases v with | true => rfl | false => simp at hv6 })
                have hmm6 := hm6 p' rfl
                exact ⟨⟨j + 1, p', by omega, by go_num, Lib.hid (hby.out.kept hg6 (by simp; omega)), Lib.hid hmm6, Lib.hid (hbel5.out.grown hg6 (by have := hbel5.out.size; simp at this; omega) (fun z hz => by cases hz; omega)), HE5, Lib.hid (by have := HL5.out.1; have := HQ5.out; omega), Lib.hid (fun z hz => by
                  rcases HL5.out.2 z hz with h | h
                  · exact hqv.out z h
                  · exact ⟨x, HXM.out, h⟩)⟩, by simp [intOf]; omega⟩
            · obtain rfl : j = k := by omega
              have hE5 := hen.out
              rw [List.drop_of_length_le (by rw [HGL.out]; omega)] at hE5
              simp only [enterN] at hE5
              have HE5 := Lib.hid hE5
              have HRO := Lib.hid (rooted_any PB q wr hpar.out (fun z u hz => by
                obtain ⟨y, hy, e⟩ := hqv.out _ (lookup_mem hz)
                simp only at e
                rw [e]; exact HN.out.id y hy) (by have := hql.out; omega))
              clear hE5 hen
              go_wp2_with (go_at_call 58; (refine (HRO.out).mono ?_); rintro r w6 ⟨v, rfl, hv6, hb6⟩; have HV6 := Lib.hid hv6; clear hv6)
              go_ret2
              refine ⟨_, v, rfl, Below.seq HBX5.out hb6, ?_, fun _ => ⟨w.heap.size + 1, rfl, by omega, ?_⟩⟩
              · rw [HV6.out]
                constructor
                · intro h
                  exact ⟨by rw [HGL.out]; omega, HR.out, by rw [HES.out]; omega, q, HE5.out, h⟩
                · rintro ⟨_, _, _, p, hp, ha⟩
                  rw [HE5.out] at hp
                  cases hp
                  exact ha
              · rw [HL.out]
                exact hby.out.kept (below_grown hb6 none) (by simp)
end Gr
end Go.Proofs.Ytpdkdhcbibcifaa
