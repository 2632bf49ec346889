/-
  J06: GrSame, GrEn, GrLin, GrEntry, GrRange, GrEach, GrIn, GrEntries, joined.
-/
import Derived.Test.YtpdkdhcbibcifaaJ01
import Derived.Test.YtpdkdhcbibcifaaGrPlant
import Derived.Lib.Strings
import Derived.RangeFuncNested
import Derived.RangeFuncBound
import Derived.RangeFuncCalls
import Derived.RangeFuncLeaves
import Derived.RangeFuncBox
import Derived.Shelf.Abstract
import Derived.OwnWalkIn
import Derived.TacticsInMore
import Derived.LoopNIn
import Derived.LoopIn
import Derived.Maps.AppendAt
namespace Go.Proofs.Ytpdkdhcbibcifaa
set_option linter.unusedVariables false
set_option linter.unusedSimpArgs false
namespace Gr
theorem planted_same (ls : List Ln) : Planted true ls ↔ Planted false ls := by
  have key : ∀ {g : List Nd}, TreeOk g 1 ls → plant true [] [] ls = plant false [] [] ls := by
    intro g h
    obtain ⟨h1, h2, h3⟩ := tree_distinct h
    exact plant_same [46] ls [] [] (by simpa using h1) (by simpa using h2) (by simpa using h3)
  constructor
  · rintro ⟨g, h1, h2⟩
    exact ⟨g, by rw [← key h2]; exact h1, h2⟩
  · rintro ⟨g, h1, h2⟩
    exact ⟨g, by rw [key h2]; exact h1, h2⟩
/-- what a line of a tree is -/
structure LineOk (l : Ln) : Prop where
  path : l.path ≠ []
  kind : 1 ≤ l.kind ∧ l.kind ≤ 3
  mode : 0 ≤ l.mode ∧ l.mode ≤ 4095
  uid : 0 ≤ l.uid ∧ l.uid ≤ 2147483647
  gid : 0 ≤ l.gid ∧ l.gid ≤ 2147483647
  time : validT l.sec l.nano = true
  data : l.kind ≠ 1 → l.data = []
  targ : l.peer = [] → textOk l.kind l.target = true
  pdat : l.peer ≠ [] → l.data = [] ∧ l.target = []
/-- the kind of the line at a peer's path is the line's own -/
def PeersOk : List (Bt × Int) → List Ln → Prop
  | _, [] => True
  | seen, l :: ls => (l.peer ≠ [] → (l.peer, l.kind) ∈ seen) ∧ PeersOk (seen ++ [(l.path, l.kind)]) ls
theorem PeersOk.snoc : ∀ {ls : List Ln} {seen : List (Bt × Int)} {l : Ln}, PeersOk seen ls → (l.peer ≠ [] → (l.peer, l.kind) ∈ seen ++ ls.map fun m => (m.path, m.kind)) → PeersOk seen (ls ++ [l])
  | [], seen, l, _, h => ⟨by simpa using h, trivial⟩
  | m :: ls, seen, l, h, hl => ⟨h.1, PeersOk.snoc h.2 (by simpa using hl)⟩
theorem lookup_append_some {α β : Type} [BEq α] [LawfulBEq α] {l m : List (α × β)} {k : α} {v : β} (h : l.lookup k = some v) : (l ++ m).lookup k = some v := by
  rw [List.lookup_append, h]; rfl
/-- the walk's lines: each is sound, and its peer was said before with the same kind -/
theorem tree_lines {g : List Nd} {root : Int} {ls : List Ln} (h : TreeOk g root ls) : (∀ l ∈ ls, LineOk l) ∧ PeersOk [] ls := by
  have hd := tree_distinct h
  obtain ⟨hc, ⟨n0, hn0, _⟩, st, hw, rfl⟩ := h
  obtain ⟨p, hp⟩ := hc.ok
  have hnd := hc.2.1.nodup
  have huniq : ∀ {n m : Nd}, n ∈ g → m ∈ g → n.id = m.id → n = m := by
    intro n m hn hm e
    have : ∀ {l : List Nd}, l.Pairwise (fun a b => a.id < b.id) → n ∈ l → m ∈ l → n = m := by
      intro l hl
      induction l with
      | nil => intro h; simp at h
      | cons a l ih =>
        intro h1 h2
        rw [List.pairwise_cons] at hl
        rcases List.mem_cons.1 h1 with k1 | k1 <;> rcases List.mem_cons.1 h2 with k2 | k2
        · rw [k1, k2]
        · have := hl.1 m k2; rw [k1] at e; omega
        · have := hl.1 n k1; rw [k2] at e; omega
        · exact ih hl.2 k1 k2
    exact this hnd hn hm
  have := Wk.inv (I := fun s st => (∀ l ∈ st.out, LineOk l) ∧ PeersOk [] st.out ∧ (∀ x ∈ s, x.2 ≠ []) ∧
      ∀ id q, st.first.lookup id = some q → ∃ n ∈ g, n.id = id ∧ (q, n.kind) ∈ st.out.map fun m => (m.path, m.kind))
    (fun id path r st n hi hb hn => by
      obtain ⟨h1, h2, h3, h4⟩ := hi
      obtain ⟨hng, hnid⟩ := nodeOf_mem hn
      have hpne := h3 (id, path) (by simp)
      simp only at hpne
      have hs := hp.sound n hng
      simp only [sound, Bool.and_eq_true, decide_eq_true_eq, Bool.or_eq_true] at hs
      obtain ⟨⟨⟨⟨hk, hda⟩, hen⟩, hva⟩, htx⟩ := hs
      have hpeer : st.peer n.id ≠ [] → (st.peer n.id, n.kind) ∈ st.out.map fun m => (m.path, m.kind) := by
        intro hne
        unfold TS.peer at hne ⊢
        cases hl : st.first.lookup n.id with
        | none => rw [hl] at hne; exact absurd rfl hne
        | some q =>
          obtain ⟨m, hm, hmi, hq⟩ := h4 n.id q hl
          obtain rfl := huniq hm hng hmi
          exact hq
      refine ⟨?_, ?_, ?_, ?_⟩
      · intro l hl
        simp only [TS.next, List.mem_append, List.mem_singleton] at hl
        rcases hl with hl | rfl
        · exact h1 l hl
        · refine ⟨hpne, ⟨hk.1, hk.2.1⟩, ⟨hk.2.2.1, hk.2.2.2.1⟩, ⟨hk.2.2.2.2.1, hk.2.2.2.2.2.1⟩, ⟨hk.2.2.2.2.2.2.1, hk.2.2.2.2.2.2.2⟩, hva, ?_, ?_, ?_⟩
          · intro hk1
            simp only [mkLine] at hk1 ⊢
            split
            · rcases hda with h | h
              · exact absurd h hk1
              · simpa using h
            · rfl
          · intro hpe
            simp only [mkLine] at hpe ⊢
            rw [if_pos hpe]; exact htx
          · intro hpe
            simp only [mkLine] at hpe ⊢
            simp [hpe]
      · simp only [TS.next]
        exact PeersOk.snoc h2 (fun hne => by have := hpeer hne; simpa [mkLine] using this)
      · intro x hx
        rcases List.mem_append.1 hx with hx | hx
        · simp only [kids, List.mem_map] at hx
          obtain ⟨e, he, rfl⟩ := hx
          have hg := (good_parts ((hp.ents n hng).good e he)).1
          simp only [below]
          split
          · exact hg
          · simp
        · exact h3 x (by simp [hx])
      · intro i q hl
        simp only [TS.next] at hl ⊢
        split at hl
        · rw [List.lookup_append] at hl
          cases ho : st.first.lookup i with
          | some v =>
            rw [ho] at hl
            simp only [Option.some_or, Option.some.injEq] at hl
            subst hl
            obtain ⟨m, hm, hmi, hq⟩ := h4 i v ho
            exact ⟨m, hm, hmi, by rw [List.map_append]; exact List.mem_append_left _ hq⟩
          | none =>
            rw [ho] at hl
            simp only [Option.none_or, List.lookup_cons] at hl
            by_cases hi2 : i = n.id
            · subst hi2
              simp only [BEq.rfl, Option.some.injEq] at hl
              subst hl
              exact ⟨n, hng, rfl, by simp [mkLine]⟩
            · rw [beq_f hi2] at hl
              simp at hl
        · obtain ⟨m, hm, hmi, hq⟩ := h4 i q hl
          exact ⟨m, hm, hmi, by rw [List.map_append]; exact List.mem_append_left _ hq⟩)
    hw ⟨by simp [st0], trivial, by simp, by simp [st0]⟩ st rfl
  exact ⟨this.1, this.2.1⟩
end Gr
end Go.Proofs.Ytpdkdhcbibcifaa
namespace Go.Proofs.Ytpdkdhcbibcifaa
set_option linter.unusedVariables false
set_option linter.unusedSimpArgs false
open Go.ChangeShapes Go.WideShapes Go.ChangeAt Go.RowKit
namespace Gr
structure En where
  kind : Int
  name : Bt
  link : Bt
  mode : Int
  uid : Int
  gid : Int
  user : Bt
  group : Bt
  sec : Int
  nano : Int
  data : Bt
abbrev EnS := En × Sl
def enV (x : EnS) : Array Value := #[.int .i64 x.1.kind, .string ⟨x.1.name.toArray⟩, .string ⟨x.1.link.toArray⟩, .int .i64 x.1.mode, .int .i64 x.1.uid, .int .i64 x.1.gid, .string ⟨x.1.user.toArray⟩, .string ⟨x.1.group.toArray⟩, .int .i64 x.1.sec, .int .i64 x.1.nano, .slice x.2.1 x.2.2.1 x.2.2.2]
def enCells (x : EnS) : List Value := (enV x).toList
theorem enCells_len (x : EnS) : (enCells x).length = 11 := rfl
/-- a slice of entries -/
structure Ens (w : World) (a : Option Addr) (n c : Nat) (S : List EnS) : Prop where
  sl : IsSl w 11 a n c (S.flatMap enCells)
  dat : ∀ x ∈ S, Dat w x.2 x.1.data
theorem Ens.keep {w w' : World} {a : Option Addr} {n c : Nat} {S : List EnS} (h : Ens w a n c S) (k : Keeps w w') : Ens w' a n c S := ⟨k.sl h.sl, fun x hx => k.bs (h.dat x hx)⟩
theorem Ens.below {w w' : World} {a : Option Addr} {n c : Nat} {S : List EnS} (h : Ens w a n c S) (k : Below w.heap.size w w') : Ens w' a n c S := h.keep (Below.keeps k)
theorem Ens.len {w : World} {a : Option Addr} {n c : Nat} {S : List EnS} (h : Ens w a n c S) : S.length = n := by have := h.sl.1; rw [flat_len enCells_len] at this; omega
theorem Ens.cap {w : World} {a : Option Addr} {n c : Nat} {S : List EnS} (h : Ens w a n c S) : n ≤ c := h.sl.2.1
theorem Ens.max {w : World} {a : Option Addr} {n c : Nat} {S : List EnS} (h : Ens w a n c S) : c ≤ 9223372036854775807 := h.sl.2.2.1
theorem Ens.at {w : World} {a : Option Addr} {n c : Nat} {S : List EnS} (h : Ens w a n c S) (k : Nat) (x : EnS) (hx : S[k]? = some x) : ∃ b off, a = some ⟨b, off, none⟩ ∧ w.rangeAt b (off + k * 11) (enCells x) := rows_at enCells_len (by decide) h.sl k x hx
theorem en_one (S : List EnS) : ∀ u ∈ S.flatMap enCells, u.oneCell' = true := by
  intro u hu
  obtain ⟨x, _, hu⟩ := List.mem_flatMap.1 hu
  simp only [enCells, enV, List.mem_cons, List.not_mem_nil, or_false] at hu
  rcases hu with rfl | rfl | rfl | rfl | rfl | rfl | rfl | rfl | rfl | rfl | rfl <;> rfl
def enZ : Array Value := #[.int .i64 0, .string ⟨#[]⟩, .string ⟨#[]⟩, .int .i64 0, .int .i64 0, .int .i64 0, .string ⟨#[]⟩, .string ⟨#[]⟩, .int .i64 0, .int .i64 0, .slice none 0 0]
theorem infoEntry : (Try.prog.info? 39).map (fun i => (i.zero, i.size, i.bytes)) = some (some (.agg enZ), 11, 136) := by kernel_rfl
theorem infoEn2 (x : EnS) : (Try.prog.info? 39).map (fun i => (i.zero, i.size)) = some (some (Value.agg enZ), (enV x).size) := by show _ = some (some (Value.agg enZ), 11); kernel_rfl
/-- a line as an entry -/
def entOf (l : Ln) : En :=
  if l.peer ≠ [] then ⟨4, l.path, l.peer, l.mode, l.uid, l.gid, [], [], l.sec, l.nano, []⟩
  else if l.kind = 2 then ⟨2, l.path ++ [47], [], l.mode, l.uid, l.gid, [], [], l.sec, l.nano, []⟩
  else if l.kind = 3 then ⟨3, l.path, l.target, l.mode, l.uid, l.gid, [], [], l.sec, l.nano, []⟩
  else ⟨l.kind, l.path, [], l.mode, l.uid, l.gid, [], [], l.sec, l.nano, l.data⟩
/-- may the name be said? -/
def room (l : Ln) : Nat := if l.kind = 2 then 4095 else 4096
/-- the tree can be gathered -/
def Gath (ls : List Ln) : Prop := Planted false ls ∧ ∀ l ∈ ls, l.path.length ≤ room l
def CheckRes (w : World) (ls : List Ln) (r : Ending) (w' : World) : Prop :=
  ∃ code : Int, r = .returned (.int .i64 code) ∧ Below w.heap.size w w' ∧ (code = 0 ↔ Gath ls) ∧ (code = 160 ↔ ¬ Planted false ls) ∧ (code = 0 ∨ code = 160 ∨ code = 93)
set_option maxRecDepth 100000 in
set_option maxHeartbeats 4000000 in
theorem check_any (a : Option Addr) (n c : Nat) (T : List LnS) (w : World) (hL : Lns w a n c T) (hN : LnNum T) :
    Calls Try.prog 24 #[.slice a n c] w (CheckRes w (lOf T)) := by
  have hl := hL.len; have hcap := hL.cap; have hmax := hL.max
  have hn2 := hN.num
  have HL := Lib.hid hl; have HT := Lib.hid hL; have HN := Lib.hid hN
  have HPL := Lib.hid (Plant_any a n c T w hL hN)
  rw [hl] at hn2
  clear hL hN hl
  go_enter Try.func24, Try.ntmps24
  go_upto_region 2 with (go_at_call 43; (refine (HPL.out).mono ?_); rintro r w1 ⟨ga, gn, gc, code, rfl, hb1, hcode⟩; have HB1 := Lib.hid hb1; have HCO := Lib.hid hcode; clear hb1 hcode)
  by_cases hc : code = 0
  · subst hc
    have HPT := Lib.hid (HCO.out.1 rfl)
    have HBX : Hid (Below w.heap.size w (w1.alloc (.cells #[.slice ga gn gc] 43))) := Lib.hid (HB1.out.alloc HB1.out.size _)
    clear HCO HPL
    generalize w1.alloc (.cells #[.slice ga gn gc] 43) = w2 at *
    go_wp2_with fail
    go_loopw [17] (fun i wr => ∃ k : Nat, k ≤ n ∧ i = .int .i64 k ∧ Hid (Below w.heap.size w wr) ∧ Hid (∀ l ∈ (lOf T).take k, l.path.length ≤ room l)) (fun i _ => n - (intOf i).toNat)
    case atStart => exact ⟨0, Nat.zero_le _, rfl, HBX, Lib.hid (by simp)⟩
    case round =>
      obtain ⟨k, hk, rfl, hbel, hall⟩ := hrel
      by_cases hlt : k < n
      · obtain ⟨x, hxk⟩ := get_some (S := T) (k := k) (by have := HL.out; omega)
        obtain ⟨b, off, rfl, hr⟩ := (HT.out.below hbel.out).at k x hxk
        have hlk : (lOf T)[k]? = some x.1 := mapfst_get hxk
        have HLK := Lib.hid hlk
        have hps := (HN.out.str x (mem_get hxk)).1
        have HB3 : Hid (Below w.heap.size w (wr.alloc (.cells (lnV x) 51))) := Lib.hid (hbel.out.alloc hbel.out.size _)
        have hbx := heap_alloc_new wr (.cells (lnV x) 51)
        have HTK : Hid ((lOf T).take (k + 1) = (lOf T).take k ++ [x.1]) := Lib.hid (by
          obtain ⟨h1, h2⟩ := List.getElem?_eq_some_iff.1 hlk
          rw [List.take_succ_eq_append_getElem h1, h2])
        obtain ⟨⟨path, kind, mode, uid, gid, sec, nano, data, target, peer⟩, ⟨da, dn, dc⟩⟩ := x
        simp only [lnCells] at hr
        simp only [lnV] at hbx HB3
        simp only at hps
        have c0 : (wr.alloc (.cells #[.string ⟨path.toArray⟩, .int .i64 kind, .int .i64 mode, .int .i64 uid, .int .i64 gid, .int .i64 sec, .int .i64 nano, .slice da dn dc, .string ⟨target.toArray⟩, .string ⟨peer.toArray⟩] 51)).cell? ⟨wr.heap.size, 0, none⟩ = some (.string ⟨path.toArray⟩) := by rw [row_cell hbx]; rfl
        have c1 : (wr.alloc (.cells #[.string ⟨path.toArray⟩, .int .i64 kind, .int .i64 mode, .int .i64 uid, .int .i64 gid, .int .i64 sec, .int .i64 nano, .slice da dn dc, .string ⟨target.toArray⟩, .string ⟨peer.toArray⟩] 51)).cell? ⟨wr.heap.size, 1, none⟩ = some (.int .i64 kind) := by rw [row_cell hbx]; rfl
        have hsz : (⟨path.toArray⟩ : ByteArray).size = path.length := rfl
        have HR := Lib.hid hr
        clear hr hxk hlk hbx
        by_cases hroom : path.length ≤ room ⟨path, kind, mode, uid, gid, sec, nano, data, target, peer⟩
        · have HRM := Lib.hid hroom
          have HNX : Hid (∀ l ∈ (lOf T).take (k + 1), l.path.length ≤ room l) := Lib.hid (fun l hl => by
            rw [HTK.out] at hl
            rcases List.mem_append.1 hl with h | h
            · exact hall.out l h
            · rw [List.mem_singleton] at h; subst h; exact HRM.out)
          unfold room at hroom
          simp only at hroom
          by_cases hkd : kind = 2
          · rw [if_pos hkd] at hroom
            have hkb : (kind == 2) = true := beq_t hkd
            clear hkd
            go_wp2_with (refine wpList_load_mid rfl _ _ rfl b (off + k * 10) rfl _ _ HR.out Try.underlying51 rfl (by kernel_rfl) ?_)
            exact ⟨⟨k + 1, by omega, by go_num, HB3, HNX⟩, by simp [intOf]; omega⟩
          · rw [if_neg hkd] at hroom
            have hkb : (kind == 2) = false := beq_f hkd
            go_wp2_with (refine wpList_load_mid rfl _ _ rfl b (off + k * 10) rfl _ _ HR.out Try.underlying51 rfl (by kernel_rfl) ?_)
            exact ⟨⟨k + 1, by omega, by go_num, HB3, HNX⟩, by simp [intOf]; omega⟩
        · have HNO : Hid (¬ Gath (lOf T)) := Lib.hid (fun h => hroom (h.2 _ (mem_get HLK.out)))
          have HEND : Hid (CheckRes w (lOf T) (.returned (.int .i64 93)) (wr.alloc (.cells #[.string ⟨path.toArray⟩, .int .i64 kind, .int .i64 mode, .int .i64 uid, .int .i64 gid, .int .i64 sec, .int .i64 nano, .slice da dn dc, .string ⟨target.toArray⟩, .string ⟨peer.toArray⟩] 51))) := Lib.hid ⟨93, rfl, HB3.out, by simp [HNO.out], by simp [HPT.out], by simp⟩
          unfold room at hroom
          simp only at hroom
          by_cases hkd : kind = 2
          · rw [if_pos hkd] at hroom
            have hkb : (kind == 2) = true := beq_t hkd
            clear hkd
            go_wp2_with (refine wpList_load_mid rfl _ _ rfl b (off + k * 10) rfl _ _ HR.out Try.underlying51 rfl (by kernel_rfl) ?_)
            go_ret
            exact HEND.out
          · rw [if_neg hkd] at hroom
            have hkb : (kind == 2) = false := beq_f hkd
            go_wp2_with (refine wpList_load_mid rfl _ _ rfl b (off + k * 10) rfl _ _ HR.out Try.underlying51 rfl (by kernel_rfl) ?_)
            go_ret
            exact HEND.out
      · obtain rfl : k = n := by omega
        go_wp2_with fail
        go_ret
        have h := hall.out
        rw [List.take_of_length_le (by rw [List.length_map]; have := HL.out; omega)] at h
        exact ⟨0, rfl, hbel.out, ⟨fun _ => ⟨HPT.out, h⟩, fun _ => rfl⟩, by simp [HPT.out], by simp⟩
  · have hcb : (code != 0) = true := bne_t hc
    have HNP : Hid (¬ Planted false (lOf T)) := Lib.hid (fun h => hc (HCO.out.2 h))
    clear HCO HPL hc
    go_wp2_with fail
    go_ret
    exact ⟨160, rfl, HB1.out.alloc HB1.out.size _, ⟨fun e => by simp at e, fun h => absurd h.1 HNP.out⟩, by simp [HNP.out], by simp⟩
end Gr
end Go.Proofs.Ytpdkdhcbibcifaa
namespace Go.Proofs.Ytpdkdhcbibcifaa
set_option linter.unusedVariables false
set_option linter.unusedSimpArgs false
namespace Gr
def trimS (p : Bt) : Bt := Lib.trimSuffix p [47]
/-- an entry as a line -/
def linOf (ks : List (Bt × Int)) (e : En) : Ln :=
  ⟨if e.kind = 2 then trimS e.name else e.name, if e.kind = 4 then (lastOf ks e.link).getD 0 else e.kind, e.mode, e.uid, e.gid, e.sec, e.nano, e.data, if e.kind = 3 then e.link else [], if e.kind = 4 then e.link else []⟩
def linesGo : List (Bt × Int) → List En → List Ln
  | _, [] => []
  | ks, e :: es => linOf ks e :: linesGo (ks ++ [((linOf ks e).path, (linOf ks e).kind)]) es
/-- the entries are those of a tree -/
def LinOk (es : List En) : Prop := Gath (linesGo [] es) ∧ (linesGo [] es).map entOf = es
theorem lastOf_snoc (ks : List (Bt × Int)) (p : Bt) (v : Int) (x : Bt) : lastOf (ks ++ [(p, v)]) x = if x = p then some v else lastOf ks x := by
  unfold lastOf
  rw [List.reverse_append]
  simp only [List.reverse_cons, List.reverse_nil, List.nil_append, List.singleton_append, List.lookup_cons]
  by_cases h : x = p
  · subst h; simp
  · rw [beq_f h, if_neg h]
theorem trimS_snoc (p : Bt) : trimS (p ++ [47]) = p := by
  have h : Lib.hasSuffix (p ++ [47]) [47] = true := by
    unfold Lib.hasSuffix
    rw [List.isSuffixOf_iff_suffix]
    exact ⟨p, rfl⟩
  unfold trimS Lib.trimSuffix
  rw [h]
  simp
theorem trimS_len (p : Bt) : (trimS p).length ≤ p.length := by
  unfold trimS Lib.trimSuffix
  split
  · rw [List.length_take]; omega
  · exact Nat.le_refl _
theorem linOf_len {ks : List (Bt × Int)} {e : En} {m : Nat} (h1 : e.name.length ≤ m) (h2 : e.link.length ≤ m) : (linOf ks e).path.length ≤ m ∧ (linOf ks e).peer.length ≤ m ∧ (linOf ks e).data = e.data := by
  have := trimS_len e.name
  unfold linOf
  refine ⟨?_, ?_, rfl⟩
  · simp only; split <;> omega
  · simp only; split
    · exact h2
    · simp
/-- a gathered line comes back -/
theorem linOf_entOf {ks : List (Bt × Int)} {l : Ln} (h : LineOk l) (hk : l.peer ≠ [] → lastOf ks l.peer = some l.kind) : linOf ks (entOf l) = l := by
  obtain ⟨path, kind, mode, uid, gid, sec, nano, data, target, peer⟩ := l
  have h1 := h.kind; have h2 := h.data; have h3 := h.targ; have h4 := h.pdat
  simp only at h1 h2 h3 h4 hk
  unfold linOf entOf
  by_cases hp : peer = []
  · subst hp
    simp only [ne_eq, not_true_eq_false, if_false]
    have h3' := h3 rfl
    unfold textOk at h3'
    by_cases hk2 : kind = 2
    · subst hk2
      simp at h3'
      simp [trimS_snoc, h2, h3']
    · by_cases hk3 : kind = 3
      · subst hk3
        simp [h2]
      · simp only [hk2, hk3, if_false] at h3' ⊢
        have hk4 : ¬ kind = 4 := by omega
        simp at h3'
        simp [hk2, hk3, hk4, h3']
  · obtain ⟨h5, h6⟩ := h4 hp
    simp [hp, hk hp, h5, h6]
theorem lines_back : ∀ (ls : List Ln) (ks : List (Bt × Int)), (∀ l ∈ ls, LineOk l) → PeersOk ks ls → (ks.map (·.1) ++ ls.map (·.path)).Nodup → linesGo ks (ls.map entOf) = ls
  | [], _, _, _, _ => rfl
  | l :: ls, ks, h1, h2, h3 => by
    have hl := h1 l (by simp)
    have hks : (ks.map (·.1)).Nodup := (List.nodup_append.1 h3).1
    have hlo : linOf ks (entOf l) = l := linOf_entOf hl (fun hne => by
      rw [lastOf_nodup hks]
      exact lookup_nodup hks (h2.1 hne))
    simp only [List.map_cons, linesGo, hlo]
    rw [lines_back ls (ks ++ [(l.path, l.kind)]) (fun m hm => h1 m (by simp [hm])) h2.2 (by simpa using h3)]
/-- what is gathered is read again -/
theorem gath_back {ls : List Ln} (h : Gath ls) : LinOk (ls.map entOf) ∧ linesGo [] (ls.map entOf) = ls := by
  obtain ⟨g, hg, ht⟩ := h.1
  obtain ⟨a, b⟩ := tree_lines ht
  have e := lines_back ls [] a b (by simpa using (tree_distinct ht).1)
  refine ⟨⟨?_, ?_⟩, e⟩
  · rw [e]; exact h
  · rw [e]
theorem linesGo_len : ∀ (es : List En) (ks : List (Bt × Int)), (linesGo ks es).length = es.length
  | [], _ => rfl
  | e :: es, ks => by simp only [linesGo, List.length_cons, linesGo_len es]
/-- a tree of two directories -/
def twoLines : List Ln := [⟨[46], 2, 0, 0, 0, 0, 0, [], [], []⟩, ⟨[100], 2, 0, 0, 0, 0, 0, [], [], []⟩]
def twoNodes : List Nd := [⟨1, 2, 0, 0, 0, 0, 0, [], [], [([100], 2)]⟩, ⟨2, 2, 0, 0, 0, 0, 0, [], [], []⟩]
theorem two_chk : Chk twoNodes := by
  refine ⟨by decide, ⟨by decide, by decide, by decide, ⟨by decide, by decide, by decide, trivial⟩⟩, by decide, [(2, 1)], by decide, fun id => ⟨2, ?_⟩⟩
  simp only [climb, List.lookup_cons, List.lookup_nil]
  by_cases h : id = 2
  · subst h; rfl
  · rw [beq_f h]
theorem two_tree : TreeOk twoNodes 1 twoLines := by
  refine ⟨two_chk, ⟨_, rfl, rfl⟩, _, Wk.step 1 [46] [] st0 ⟨1, 2, 0, 0, 0, 0, 0, [], [], [([100], 2)]⟩ _ (by decide) rfl (Wk.step 2 [100] [] _ ⟨2, 2, 0, 0, 0, 0, 0, [], [], []⟩ _ (by decide) rfl (Wk.done _)), rfl⟩
theorem two_gath : Gath twoLines := ⟨⟨twoNodes, rfl, two_tree⟩, by decide⟩
end Gr
end Go.Proofs.Ytpdkdhcbibcifaa
namespace Go.Proofs.Ytpdkdhcbibcifaa
set_option linter.unusedVariables false
set_option linter.unusedSimpArgs false
open Go.ChangeShapes Go.WideShapes Go.ChangeAt Go.RowKit
namespace Gr
section
variable {P : Program}
theorem row_range {w : World} {b : Nat} {cs : Array Value} {t : TypeId} (h : w.heap[b]? = some (.cells cs t)) : w.rangeAt b 0 cs.toList := fun j v hj => by
  rw [Nat.zero_add, row_cell h]; simpa using hj
theorem wpList_load_rowA {ops : Array Oper} {rest : List Oper} {op : Oper} {a : Act} {w : World} {Q : Exit → Act → World → Prop} (hgd : op.guard = none) (ty : TypeId) (x : Operand) (ho : op.op = .load ty x)
    (b : Nat) (hx : a.eval x = .pointer (some ⟨b, 0, none⟩)) (cs : Array Value) (t : TypeId) (d : TypeDesc) (hc : w.heap[b]? = some (.cells cs t))
    (hu : P.underlying ty = some d) (hd : d.isRow = true) (hi : (P.info? ty).map (·.size) = some cs.size)
    (h : wpList P ops Q rest (a.put op.dst (.agg cs)) w) : wpList P ops Q (op :: rest) a w :=
  wpList_load_mid hgd ty x ho b 0 hx cs.toList d (row_range hc) hu hd (by simpa using hi) (by rw [Array.toArray_toList]; exact h)
end
theorem sizeEn (x : EnS) : (Try.prog.info? 39).map (·.size) = some (enV x).size := by show _ = some 11; kernel_rfl
theorem setRow_own {w : World} {B g : Nat} {cs : Array Value} {old : Array Value} {t t' : TypeId} {sz n : Nat} {v : Value} {xs : List Value} (h : w.ownsRow B t sz v n xs) (hr : w.heap[g]? = some (.cells old t')) (ht : t ≠ t') : (w.setRow g cs).ownsRow B t sz v n xs :=
  own_stay h fun k hk => setRow_other _ _ _ _ (fun e => own_ne_row h hr ht (by rw [hk, e]))
def EntryRes (w : World) (l : Ln) (r : Ending) (w' : World) : Prop := ∃ s : Sl, r = .returned (.agg (enV (entOf l, s))) ∧ Below w.heap.size w w' ∧ Own w' w.heap.size s (entOf l).data
set_option maxRecDepth 100000 in
set_option maxHeartbeats 4000000 in
theorem entry_any (x : LnS) (w : World) (hd : Dat w x.2 x.1.data) (hn : x.2.2.1 ≤ 140737488355328) (hp : x.1.path.length ≤ 2000000) :
    Calls Try.prog 30 #[.agg (lnV x)] w (EntryRes w x.1) := by
  have HD := Lib.hid hd; have HN := Lib.hid hn
  clear hd hn
  obtain ⟨⟨path, kind, mode, uid, gid, sec, nano, data, target, peer⟩, ⟨da, dn, dc⟩⟩ := x
  simp only at hp HN
  simp only [lnV]
  go_enter Try.func30, Try.ntmps30
  go_upto_region 3 with fail
  have e1 : (w.alloc (.cells #[.string ⟨path.toArray⟩, .int .i64 kind, .int .i64 mode, .int .i64 uid, .int .i64 gid, .int .i64 sec, .int .i64 nano, .slice da dn dc, .string ⟨target.toArray⟩, .string ⟨peer.toArray⟩] 51)).heap.size = w.heap.size + 1 := by simp
  have e2 : ((w.alloc (.cells #[.string ⟨path.toArray⟩, .int .i64 kind, .int .i64 mode, .int .i64 uid, .int .i64 gid, .int .i64 sec, .int .i64 nano, .slice da dn dc, .string ⟨target.toArray⟩, .string ⟨peer.toArray⟩] 51)).alloc (.cells #[.int .i64 0, .string ⟨#[]⟩, .string ⟨#[]⟩, .int .i64 0, .int .i64 0, .int .i64 0, .string ⟨#[]⟩, .string ⟨#[]⟩, .int .i64 0, .int .i64 0, .slice none 0 0] 39)).heap.size = w.heap.size + 1 + 1 := by simp
  have HB3 : Hid (Below w.heap.size w (((w.alloc (.cells #[.string ⟨path.toArray⟩, .int .i64 kind, .int .i64 mode, .int .i64 uid, .int .i64 gid, .int .i64 sec, .int .i64 nano, .slice da dn dc, .string ⟨target.toArray⟩, .string ⟨peer.toArray⟩] 51)).alloc (.cells #[.int .i64 0, .string ⟨#[]⟩, .string ⟨#[]⟩, .int .i64 0, .int .i64 0, .int .i64 0, .string ⟨#[]⟩, .string ⟨#[]⟩, .int .i64 0, .int .i64 0, .slice none 0 0] 39)).alloc (.cells #[.int .i64 kind, .string ⟨path.toArray⟩, .string ⟨#[]⟩, .int .i64 mode, .int .i64 uid, .int .i64 gid, .string ⟨#[]⟩, .string ⟨#[]⟩, .int .i64 sec, .int .i64 nano, .slice none 0 0] 39))) := Lib.hid ((((Below.refl _ _).alloc (Nat.le_refl _) _).alloc (by simp) _).alloc (by simp; omega) _)
  have h0 := heap_alloc_new w (.cells #[.string ⟨path.toArray⟩, .int .i64 kind, .int .i64 mode, .int .i64 uid, .int .i64 gid, .int .i64 sec, .int .i64 nano, .slice da dn dc, .string ⟨target.toArray⟩, .string ⟨peer.toArray⟩] 51)
  have h1 := heap_alloc_new (w.alloc (.cells #[.string ⟨path.toArray⟩, .int .i64 kind, .int .i64 mode, .int .i64 uid, .int .i64 gid, .int .i64 sec, .int .i64 nano, .slice da dn dc, .string ⟨target.toArray⟩, .string ⟨peer.toArray⟩] 51)) (.cells #[.int .i64 0, .string ⟨#[]⟩, .string ⟨#[]⟩, .int .i64 0, .int .i64 0, .int .i64 0, .string ⟨#[]⟩, .string ⟨#[]⟩, .int .i64 0, .int .i64 0, .slice none 0 0] 39)
  have h2 := heap_alloc_new ((w.alloc (.cells #[.string ⟨path.toArray⟩, .int .i64 kind, .int .i64 mode, .int .i64 uid, .int .i64 gid, .int .i64 sec, .int .i64 nano, .slice da dn dc, .string ⟨target.toArray⟩, .string ⟨peer.toArray⟩] 51)).alloc (.cells #[.int .i64 0, .string ⟨#[]⟩, .string ⟨#[]⟩, .int .i64 0, .int .i64 0, .int .i64 0, .string ⟨#[]⟩, .string ⟨#[]⟩, .int .i64 0, .int .i64 0, .slice none 0 0] 39)) (.cells #[.int .i64 kind, .string ⟨path.toArray⟩, .string ⟨#[]⟩, .int .i64 mode, .int .i64 uid, .int .i64 gid, .string ⟨#[]⟩, .string ⟨#[]⟩, .int .i64 sec, .int .i64 nano, .slice none 0 0] 39)
  rw [e1] at h1
  rw [e2] at h2
  have R0 : Hid ((((w.alloc (.cells #[.string ⟨path.toArray⟩, .int .i64 kind, .int .i64 mode, .int .i64 uid, .int .i64 gid, .int .i64 sec, .int .i64 nano, .slice da dn dc, .string ⟨target.toArray⟩, .string ⟨peer.toArray⟩] 51)).alloc (.cells #[.int .i64 0, .string ⟨#[]⟩, .string ⟨#[]⟩, .int .i64 0, .int .i64 0, .int .i64 0, .string ⟨#[]⟩, .string ⟨#[]⟩, .int .i64 0, .int .i64 0, .slice none 0 0] 39)).alloc (.cells #[.int .i64 kind, .string ⟨path.toArray⟩, .string ⟨#[]⟩, .int .i64 mode, .int .i64 uid, .int .i64 gid, .string ⟨#[]⟩, .string ⟨#[]⟩, .int .i64 sec, .int .i64 nano, .slice none 0 0] 39)).heap[w.heap.size]? = some (.cells #[.string ⟨path.toArray⟩, .int .i64 kind, .int .i64 mode, .int .i64 uid, .int .i64 gid, .int .i64 sec, .int .i64 nano, .slice da dn dc, .string ⟨target.toArray⟩, .string ⟨peer.toArray⟩] 51)) := Lib.hid (by rw [heap_alloc_old _ _ (by simp; omega), heap_alloc_old _ _ (by simp)]; exact h0)
  have R1 : Hid ((((w.alloc (.cells #[.string ⟨path.toArray⟩, .int .i64 kind, .int .i64 mode, .int .i64 uid, .int .i64 gid, .int .i64 sec, .int .i64 nano, .slice da dn dc, .string ⟨target.toArray⟩, .string ⟨peer.toArray⟩] 51)).alloc (.cells #[.int .i64 0, .string ⟨#[]⟩, .string ⟨#[]⟩, .int .i64 0, .int .i64 0, .int .i64 0, .string ⟨#[]⟩, .string ⟨#[]⟩, .int .i64 0, .int .i64 0, .slice none 0 0] 39)).alloc (.cells #[.int .i64 kind, .string ⟨path.toArray⟩, .string ⟨#[]⟩, .int .i64 mode, .int .i64 uid, .int .i64 gid, .string ⟨#[]⟩, .string ⟨#[]⟩, .int .i64 sec, .int .i64 nano, .slice none 0 0] 39)).heap[w.heap.size + 1]? = some (.cells enZ 39)) := Lib.hid (by rw [heap_alloc_old _ _ (by simp)]; exact h1)
  have R2 := Lib.hid h2
  clear h0 h1 h2 e1 e2
  generalize (((w.alloc (.cells #[.string ⟨path.toArray⟩, .int .i64 kind, .int .i64 mode, .int .i64 uid, .int .i64 gid, .int .i64 sec, .int .i64 nano, .slice da dn dc, .string ⟨target.toArray⟩, .string ⟨peer.toArray⟩] 51)).alloc (.cells #[.int .i64 0, .string ⟨#[]⟩, .string ⟨#[]⟩, .int .i64 0, .int .i64 0, .int .i64 0, .string ⟨#[]⟩, .string ⟨#[]⟩, .int .i64 0, .int .i64 0, .slice none 0 0] 39)).alloc (.cells #[.int .i64 kind, .string ⟨path.toArray⟩, .string ⟨#[]⟩, .int .i64 mode, .int .i64 uid, .int .i64 gid, .string ⟨#[]⟩, .string ⟨#[]⟩, .int .i64 sec, .int .i64 nano, .slice none 0 0] 39)) = w3 at *
  have c9 : w3.cell? ⟨w.heap.size, 9, none⟩ = some (.string ⟨peer.toArray⟩) := by rw [row_cell R0.out]; rfl
  have c1 : w3.cell? ⟨w.heap.size, 1, none⟩ = some (.int .i64 kind) := by rw [row_cell R0.out]; rfl
  by_cases hpe : peer = []
  · subst hpe
    by_cases hk2 : kind = 2
    · subst hk2
      have d1 : w3.cell? ⟨w.heap.size + 1 + 1, 1, none⟩ = some (.string ⟨path.toArray⟩) := by rw [row_cell R2.out]; rfl
      have d1f : w3.frozen? ⟨w.heap.size + 1 + 1, 1, none⟩ = false := row_froz R2.out 1
      have hcat : ((⟨path.toArray⟩ : ByteArray) ++ ⟨#[47]⟩) = ⟨(path ++ [47]).toArray⟩ := by apply ByteArray.ext; simp [ByteArray.data_append]
      have hsz : (⟨path.toArray⟩ : ByteArray).size = path.length := rfl
      have HEN : Hid (entOf ⟨path, 2, mode, uid, gid, sec, nano, data, target, []⟩ = ⟨2, path ++ [47], [], mode, uid, gid, [], [], sec, nano, []⟩) := Lib.hid (by simp [entOf])
      have hF := setCell_row R2.out (j := 1) (.string ⟨(path ++ [47]).toArray⟩)
      have HF : Hid ((w3.setCell ⟨w.heap.size + 1 + 1, 1, none⟩ (.string ⟨(path ++ [47]).toArray⟩)).heap[w.heap.size + 1 + 1]? = some (.cells (enV (⟨2, path ++ [47], [], mode, uid, gid, [], [], sec, nano, []⟩, ((none, 0, 0) : Sl))) 39)) := Lib.hid (by simpa [enV] using hF)
      have HG : Hid ((w3.setCell ⟨w.heap.size + 1 + 1, 1, none⟩ (.string ⟨(path ++ [47]).toArray⟩)).heap[w.heap.size + 1]? = some (.cells enZ 39)) := Lib.hid (row_grown R1.out (setCell_grown w3 (w.heap.size + 1 + 1) 1 _) (by simp))
      clear hF
      go_upto_region 9 with (rw [hcat])
      go_wp2_with (first
        | (refine wpList_load_rowA rfl _ _ rfl (w.heap.size + 1 + 1) rfl (enV (⟨2, path ++ [47], [], mode, uid, gid, [], [], sec, nano, []⟩, ((none, 0, 0) : Sl))) 39 _ HF.out Try.underlying39 rfl (sizeEn _) ?_)
        | (refine wpList_store_row rfl _ _ _ rfl (w.heap.size + 1) rfl (enV (⟨2, path ++ [47], [], mode, uid, gid, [], [], sec, nano, []⟩, ((none, 0, 0) : Sl))) rfl enZ 39 HG.out rfl (sizeEn _) (by simpa [enCells] using en_one [(⟨2, path ++ [47], [], mode, uid, gid, [], [], sec, nano, []⟩, ((none, 0, 0) : Sl))]) ?_))
      refine bodyPost_ret (results_cell_row rfl _ _ (w.heap.size + 1) 39 _ (0, 0) _ rfl (setRow_heap _ _ _ _ _ _ HG.out) Try.underlying39 rfl (sizeEn _)) rfl ?_
      exact ⟨_, by rw [HEN.out], Below.setRow (HB3.out.setCell (p := ⟨w.heap.size + 1 + 1, 1, none⟩) (by simp; omega) _) (by omega) _, by rw [HEN.out]; exact World.ownsRow_nil _ _ _ _⟩
    · by_cases hk3 : kind = 3
      · subst hk3
        have d1 : w3.cell? ⟨w.heap.size + 1 + 1, 2, none⟩ = some (.string ⟨#[]⟩) := by rw [row_cell R2.out]; rfl
        have d1f : w3.frozen? ⟨w.heap.size + 1 + 1, 2, none⟩ = false := row_froz R2.out 2
        have d2 : w3.cell? ⟨w.heap.size, 8, none⟩ = some (.string ⟨target.toArray⟩) := by rw [row_cell R0.out]; rfl
        have HEN : Hid (entOf ⟨path, 3, mode, uid, gid, sec, nano, data, target, []⟩ = ⟨3, path, target, mode, uid, gid, [], [], sec, nano, []⟩) := Lib.hid (by simp [entOf])
        have hF := setCell_row R2.out (j := 2) (.string ⟨target.toArray⟩)
        have HF : Hid ((w3.setCell ⟨w.heap.size + 1 + 1, 2, none⟩ (.string ⟨target.toArray⟩)).heap[w.heap.size + 1 + 1]? = some (.cells (enV (⟨3, path, target, mode, uid, gid, [], [], sec, nano, []⟩, ((none, 0, 0) : Sl))) 39)) := Lib.hid (by simpa [enV] using hF)
        have HG : Hid ((w3.setCell ⟨w.heap.size + 1 + 1, 2, none⟩ (.string ⟨target.toArray⟩)).heap[w.heap.size + 1]? = some (.cells enZ 39)) := Lib.hid (row_grown R1.out (setCell_grown w3 (w.heap.size + 1 + 1) 2 _) (by simp))
        clear hF
        go_upto_region 9 with fail
        go_wp2_with (first
          | (refine wpList_load_rowA rfl _ _ rfl (w.heap.size + 1 + 1) rfl (enV (⟨3, path, target, mode, uid, gid, [], [], sec, nano, []⟩, ((none, 0, 0) : Sl))) 39 _ HF.out Try.underlying39 rfl (sizeEn _) ?_)
          | (refine wpList_store_row rfl _ _ _ rfl (w.heap.size + 1) rfl (enV (⟨3, path, target, mode, uid, gid, [], [], sec, nano, []⟩, ((none, 0, 0) : Sl))) rfl enZ 39 HG.out rfl (sizeEn _) (by simpa [enCells] using en_one [(⟨3, path, target, mode, uid, gid, [], [], sec, nano, []⟩, ((none, 0, 0) : Sl))]) ?_))
        refine bodyPost_ret (results_cell_row rfl _ _ (w.heap.size + 1) 39 _ (0, 0) _ rfl (setRow_heap _ _ _ _ _ _ HG.out) Try.underlying39 rfl (sizeEn _)) rfl ?_
        exact ⟨_, by rw [HEN.out], Below.setRow (HB3.out.setCell (p := ⟨w.heap.size + 1 + 1, 2, none⟩) (by simp; omega) _) (by omega) _, by rw [HEN.out]; exact World.ownsRow_nil _ _ _ _⟩
      · have hb2 : (kind == 2) = false := beq_f hk2
        have hb3 : (kind == 3) = false := beq_f hk3
        have d2 : w3.cell? ⟨w.heap.size, 7, none⟩ = some (.slice da dn dc) := by rw [row_cell R0.out]; rfl
        have HEN : Hid (entOf ⟨path, kind, mode, uid, gid, sec, nano, data, target, []⟩ = ⟨kind, path, [], mode, uid, gid, [], [], sec, nano, data⟩) := Lib.hid (by simp [entOf, hk2, hk3])
        have HDA : Hid (Dat w3 (da, dn, dc) data) := Lib.hid (Below.bs HB3.out HD.out)
        clear hk2 hk3
        go_upto_region 9 with (go_at_call 37; (refine (Clone_any (da, dn, dc) data w3 HDA.out HN.out).mono ?_); rintro r w5 ⟨a5, n5, c5, rfl, ho5, hb5⟩; have HO5 := Lib.hid ho5; have HB5 := Lib.hid hb5; have R25 := Lib.hid (row_below R2.out HB5.out); have R15 := Lib.hid (row_below R1.out HB5.out); have d1 : w5.cell? ⟨w.heap.size + 1 + 1, 10, none⟩ = some (.slice none 0 0) := (by rw [row_cell R25.out]; rfl); have d1f : w5.frozen? ⟨w.heap.size + 1 + 1, 10, none⟩ = false := row_froz R25.out 10; clear ho5 hb5)
        have hF := setCell_row R25.out (j := 10) (.slice a5 n5 c5)
        have HF : Hid ((w5.setCell ⟨w.heap.size + 1 + 1, 10, none⟩ (.slice a5 n5 c5)).heap[w.heap.size + 1 + 1]? = some (.cells (enV (⟨kind, path, [], mode, uid, gid, [], [], sec, nano, data⟩, (a5, n5, c5))) 39)) := Lib.hid (by simpa [enV] using hF)
        have HG : Hid ((w5.setCell ⟨w.heap.size + 1 + 1, 10, none⟩ (.slice a5 n5 c5)).heap[w.heap.size + 1]? = some (.cells enZ 39)) := Lib.hid (row_grown R15.out (setCell_grown w5 (w.heap.size + 1 + 1) 10 _) (by simp))
        have HOF : Hid (Own (w5.setCell ⟨w.heap.size + 1 + 1, 10, none⟩ (.slice a5 n5 c5)) w.heap.size (a5, n5, c5) data) := Lib.hid (own_base (own_cell HO5.out R25.out (by decide)) HB3.out.size)
        have HBF : Hid (Below w.heap.size w (w5.setCell ⟨w.heap.size + 1 + 1, 10, none⟩ (.slice a5 n5 c5))) := Lib.hid ((HB3.out.trans (HB5.out.mono HB3.out.size)).setCell (p := ⟨w.heap.size + 1 + 1, 10, none⟩) (by simp; omega) _)
        clear hF d1 d1f
        go_wp2_with (first
          | (refine wpList_load_rowA rfl _ _ rfl (w.heap.size + 1 + 1) rfl (enV (⟨kind, path, [], mode, uid, gid, [], [], sec, nano, data⟩, (a5, n5, c5))) 39 _ HF.out Try.underlying39 rfl (sizeEn _) ?_)
          | (refine wpList_store_row rfl _ _ _ rfl (w.heap.size + 1) rfl (enV (⟨kind, path, [], mode, uid, gid, [], [], sec, nano, data⟩, (a5, n5, c5))) rfl enZ 39 HG.out rfl (sizeEn _) (by simpa [enCells] using en_one [(⟨kind, path, [], mode, uid, gid, [], [], sec, nano, data⟩, (a5, n5, c5))]) ?_))
        refine bodyPost_ret (results_cell_row rfl _ _ (w.heap.size + 1) 39 _ (0, 0) _ rfl (setRow_heap _ _ _ _ _ _ HG.out) Try.underlying39 rfl (sizeEn _)) rfl ?_
        exact ⟨_, by rw [HEN.out], Below.setRow HBF.out (by omega) _, by rw [HEN.out]; exact setRow_own HOF.out HG.out (by decide)⟩
  · have hpb : (peer != []) = true := bne_t hpe
    have hpc : peer.isEmpty = false := by simpa using hpe
    have HEN : Hid (entOf ⟨path, kind, mode, uid, gid, sec, nano, data, target, peer⟩ = ⟨4, path, peer, mode, uid, gid, [], [], sec, nano, []⟩) := Lib.hid (by simp [entOf, hpe])
    have d0 : w3.cell? ⟨w.heap.size + 1 + 1, 0, none⟩ = some (.int .i64 kind) := by rw [row_cell R2.out]; rfl
    have d0f : w3.frozen? ⟨w.heap.size + 1 + 1, 0, none⟩ = false := row_froz R2.out 0
    have d2 : w3.cell? ⟨w.heap.size + 1 + 1, 2, none⟩ = some (.string ⟨#[]⟩) := by rw [row_cell R2.out]; rfl
    have d2f : w3.frozen? ⟨w.heap.size + 1 + 1, 2, none⟩ = false := row_froz R2.out 2
    clear hpe
    have RD2A : w3.drew.heap[w.heap.size + 1 + 1]? = _ := R2.out
    have HFA : Hid (((w3.drew.setCell ⟨w.heap.size + 1 + 1, 0, none⟩ (.int .i64 4)).setCell ⟨w.heap.size + 1 + 1, 2, none⟩ (.string ⟨peer.toArray⟩)).heap[w.heap.size + 1 + 1]? = some (.cells (enV (⟨4, path, peer, mode, uid, gid, [], [], sec, nano, []⟩, ((none, 0, 0) : Sl))) 39)) := Lib.hid (by simpa [enV] using setCell_row (setCell_row RD2A (j := 0) (.int .i64 4)) (j := 2) (.string ⟨peer.toArray⟩))
    have HGA : Hid (((w3.drew.setCell ⟨w.heap.size + 1 + 1, 0, none⟩ (.int .i64 4)).setCell ⟨w.heap.size + 1 + 1, 2, none⟩ (.string ⟨peer.toArray⟩)).heap[w.heap.size + 1]? = some (.cells enZ 39)) := Lib.hid (row_grown (row_grown (show w3.drew.heap[w.heap.size + 1]? = _ from R1.out) (setCell_grown w3.drew (w.heap.size + 1 + 1) 0 (.int .i64 4)) (by simp)) (setCell_grown _ (w.heap.size + 1 + 1) 2 (.string ⟨peer.toArray⟩)) (by simp))
    clear RD2A
    have RD2B : w3.drew.heap[w.heap.size + 1 + 1]? = _ := R2.out
    have HFB : Hid (((w3.drew.setCell ⟨w.heap.size + 1 + 1, 2, none⟩ (.string ⟨peer.toArray⟩)).setCell ⟨w.heap.size + 1 + 1, 0, none⟩ (.int .i64 4)).heap[w.heap.size + 1 + 1]? = some (.cells (enV (⟨4, path, peer, mode, uid, gid, [], [], sec, nano, []⟩, ((none, 0, 0) : Sl))) 39)) := Lib.hid (by simpa [enV] using setCell_row (setCell_row RD2B (j := 2) (.string ⟨peer.toArray⟩)) (j := 0) (.int .i64 4))
    have HGB : Hid (((w3.drew.setCell ⟨w.heap.size + 1 + 1, 2, none⟩ (.string ⟨peer.toArray⟩)).setCell ⟨w.heap.size + 1 + 1, 0, none⟩ (.int .i64 4)).heap[w.heap.size + 1]? = some (.cells enZ 39)) := Lib.hid (row_grown (row_grown (show w3.drew.heap[w.heap.size + 1]? = _ from R1.out) (setCell_grown w3.drew (w.heap.size + 1 + 1) 2 (.string ⟨peer.toArray⟩)) (by simp)) (setCell_grown _ (w.heap.size + 1 + 1) 0 (.int .i64 4)) (by simp))
    clear RD2B
    go_upto_region 4 with fail
    go_region
    all_goals
      go_wp2_with (first
        | (refine wpList_load_rowA rfl _ _ rfl (w.heap.size + 1 + 1) rfl (enV (⟨4, path, peer, mode, uid, gid, [], [], sec, nano, []⟩, ((none, 0, 0) : Sl))) 39 _ HFA.out Try.underlying39 rfl (sizeEn _) ?_)
        | (refine wpList_store_row rfl _ _ _ rfl (w.heap.size + 1) rfl (enV (⟨4, path, peer, mode, uid, gid, [], [], sec, nano, []⟩, ((none, 0, 0) : Sl))) rfl enZ 39 HGA.out rfl (sizeEn _) (by simpa [enCells] using en_one [(⟨4, path, peer, mode, uid, gid, [], [], sec, nano, []⟩, ((none, 0, 0) : Sl))]) ?_)
        | (refine wpList_load_rowA rfl _ _ rfl (w.heap.size + 1 + 1) rfl (enV (⟨4, path, peer, mode, uid, gid, [], [], sec, nano, []⟩, ((none, 0, 0) : Sl))) 39 _ HFB.out Try.underlying39 rfl (sizeEn _) ?_)
        | (refine wpList_store_row rfl _ _ _ rfl (w.heap.size + 1) rfl (enV (⟨4, path, peer, mode, uid, gid, [], [], sec, nano, []⟩, ((none, 0, 0) : Sl))) rfl enZ 39 HGB.out rfl (sizeEn _) (by simpa [enCells] using en_one [(⟨4, path, peer, mode, uid, gid, [], [], sec, nano, []⟩, ((none, 0, 0) : Sl))]) ?_))
      first
        | (refine bodyPost_ret (results_cell_row rfl _ _ (w.heap.size + 1) 39 _ (0, 0) _ rfl (setRow_heap _ _ _ _ _ _ HGA.out) Try.underlying39 rfl (sizeEn _)) rfl ?_
           exact ⟨_, by rw [HEN.out], Below.setRow ((HB3.out.drew.setCell (p := ⟨w.heap.size + 1 + 1, 0, none⟩) (by simp; omega) _).setCell (p := ⟨w.heap.size + 1 + 1, 2, none⟩) (by simp; omega) _) (by omega) _, by rw [HEN.out]; exact World.ownsRow_nil _ _ _ _⟩)
        | (refine bodyPost_ret (results_cell_row rfl _ _ (w.heap.size + 1) 39 _ (0, 0) _ rfl (setRow_heap _ _ _ _ _ _ HGB.out) Try.underlying39 rfl (sizeEn _)) rfl ?_
           exact ⟨_, by rw [HEN.out], Below.setRow ((HB3.out.drew.setCell (p := ⟨w.heap.size + 1 + 1, 2, none⟩) (by simp; omega) _).setCell (p := ⟨w.heap.size + 1 + 1, 0, none⟩) (by simp; omega) _) (by omega) _, by rw [HEN.out]; exact World.ownsRow_nil _ _ _ _⟩)
end Gr
end Go.Proofs.Ytpdkdhcbibcifaa
namespace Go.Proofs.Ytpdkdhcbibcifaa
set_option linter.unusedVariables false
set_option linter.unusedSimpArgs false
open Go.ChangeShapes Go.WideShapes Go.ChangeAt Go.RowKit Go.Shelf
namespace Gr
/-- an iterator: each entry comes with data that were made since the round before -/
def SeqE (n : Nat) (P : Program) (g : Nat) (lb : Array Value) (S Sp : List EnS → Prop) (N n₀ : Nat) (w : World) : Prop :=
  ∀ (l : Nat) (J Jx : List EnS → World → Prop) (W : World), Below w.heap.size w W → (∀ s A B, J s A → Below A.heap.size A B → J s B) →
    (∀ pre x W0 W1, J pre W0 → pre.length < N → Below W0.heap.size W0 W1 → Own W1 W0.heap.size x.2 x.1.data → YieldAt Fence.wide (n - 1) P l #[.agg (enV x)] W1 fun e W' =>
      (e = .returned (.bool true) ∧ J (pre ++ [x]) W' ∧ Below n₀ W1 W') ∨ (e = .returned (.bool false) ∧ Jx (pre ++ [x]) W')) →
    J [] W →
    CallsIn Fence.wide n P g (#[.func (.yield l) #[] #[]] ++ lb) W fun e W' => (∃ v, e = .returned v) ∧ ((∃ xs, S xs ∧ J xs W') ∨ (∃ pre, Sp pre ∧ Jx pre W'))
theorem below_putObj {B : Nat} {w W : World} (h : Below B w W) {l : Nat} (o : Obj) (hl : B ≤ l) (hB : B ≤ W.heap.size) : Below B w (W.putObj l o) :=
  h.grown (grownBy_putObj' W l o) hB (fun k e => by cases e; exact hl)
set_option maxHeartbeats 1000000 in
/-- the caller's law -/
theorem wpIn_rangeE {P : Program} {n : Nat} {g : Operand} {p : Tmp} {assign body : Code} {Q : Exit → Act → World → Prop} {a : Act} {w : World} (h1 : 1 ≤ n)
    {gf : Nat} {lb : Array Value} (hg : a.eval g = .func (.func gf) #[] lb) (eg : ∀ args w, (callFunc gf args).run P w = .ok (.enter gf args) w)
    {S Sp : List EnS → Prop} {N n₀ : Nat} (hseq : SeqE (n - 1) P gf lb S Sp N n₀ w) (hn₀ : n₀ ≤ w.heap.size)
    (I : List EnS → World → Prop) (Ix : Code → List EnS → World → Prop) (A : EnS → Act → World → Prop)
    (hI : ∀ s U V, I s U → Below U.heap.size U V → I s V) (hI2 : OwnFrom w.heap.size I) (hIx : ∀ c, OwnFrom w.heap.size (Ix c)) (hA : ∀ x a₁ (U : World) l o o', U.heap[l]? = some (.loop o) → A x a₁ U → A x a₁ (U.putObj l (.loop o')))
    (h0 : I [] w)
    (hassign : ∀ (l : Nat) (pre : List EnS) (x : EnS) (W : World), I pre W →
      assign.wpIn (Fence.wide.inRound l) (n - 1 - 1) P (Exit.then (fun a₁ w₁ => Below W.heap.size W w₁ ∧ A x a₁ w₁) (fun _ _ _ => False)) { tmps := a.tmps.setIfInBounds p (.agg (enV x)), defers := [] } W)
    (hbody : ∀ (l : Nat) (pre : List EnS) (x : EnS) (a₁ : Act) (W0 W1 : World), pre.length < N → I pre W0 → I pre W1 → Own W1 W0.heap.size x.2 x.1.data → W0.heap.size ≤ W1.heap.size → A x a₁ W1 →
      body.wpIn (Fence.wide.inRound l) (n - 1 - 1) P (ownPostK (Below n₀) I Ix (pre ++ [x]) W1) a₁ W1)
    (hdone : ∀ (D : Nat) (xs : List EnS) (W : World), w.heap.size ≤ D → S xs → I xs W → W.heap[D]? = some (.deferred (some [])) → Q .normal { a with defers := { target := .collected D, args := #[] } :: a.defers } W)
    (hstop : ∀ (D : Nat) (c : Code) (pre : List EnS) (W : World), w.heap.size ≤ D → Sp pre → Ix c pre W → W.heap[D]? = some (.deferred (some [])) → c.wpIn Fence.wide n P Q { a with defers := { target := .collected D, args := #[] } :: a.defers } W) :
    (Code.rangeFunc g #[p] assign body).wpIn Fence.wide n P Q a w := by
  refine wpIn_rangeFunc fun fn hfn => ?_
  -- the record of the loop, in its states
  obtain ⟨rec, hrec⟩ : ∃ rec : LoopState → Option Code → Loop, rec = fun st pe => { state := st, pending := pe, fn, tmps := a.tmps, params := #[p], assign, body, defers := w.heap.size } := ⟨_, rfl⟩
  obtain ⟨W1, hW1⟩ : ∃ W1, (w.alloc (.deferred (some []))).alloc (.loop (rec .ready none)) = W1 := ⟨_, rfl⟩
  have hb1 : Below w.heap.size w W1 := by rw [← hW1]; exact ((Below.refl _ w).alloc (Nat.le_refl _) _).alloc (by simp) _
  have hL1 : W1.heap[w.heap.size + 1]? = some (.loop (rec .ready none)) := by
    rw [← hW1]; have := heap_alloc_new (w.alloc (.deferred (some []))) (.loop (rec .ready none)); rwa [World.size_alloc] at this
  have hK1 : W1.heap[w.heap.size]? = some (.deferred (some [])) := by
    rw [← hW1, heap_alloc_old _ _ (by simp)]; exact heap_alloc_new w _
  refine ⟨w.heap.size + 1, [{ target := .collected w.heap.size, args := #[] }], W1, { target := .fn (.func gf) lb, args := #[.func (.yield (w.heap.size + 1)) #[] #[]] }, W1, gf,
    #[.func (.yield (w.heap.size + 1)) #[] #[]] ++ lb, W1, ?_, ?_, fun _ _ => trivial, ?_, fun _ => h1, ?_⟩
  · rw [← hW1, hrec]; exact run_enterLoop_outer _ _ _ _ _
  · simp only [resolve, hg]
    simp [go_sem]
  · simp [invoke, go_sem, eg]
  · refine (hseq (w.heap.size + 1)
      (fun pre W => I pre W ∧ W.heap[w.heap.size + 1]? = some (.loop (rec .ready none)) ∧ W.heap[w.heap.size]? = some (.deferred (some [])))
      (fun pre W => ∃ c, Ix c pre W ∧ W.heap[w.heap.size + 1]? = some (.loop (rec .done (some c))) ∧ W.heap[w.heap.size]? = some (.deferred (some [])))
      W1 hb1 (fun s U V hs hb => ⟨hI s U V hs.1 hb, row_below hs.2.1 hb, row_below hs.2.2 hb⟩) ?_ ⟨hI [] w W1 h0 hb1, hL1, hK1⟩).mono ?_
    · rintro pre x W0 U ⟨hi0, hl0, hk0⟩ hlen hbU hown
      have hi := hI pre W0 U hi0 hbU
      have hl := row_below hl0 hbU
      have hk := row_below hk0 hbU
      have hy := run_yield (P := P) (args := #[.agg (enV x)]) hl (by rw [hrec]; rfl)
      rw [hrec] at hy
      refine ⟨fn, _, assign, body, hy, roundIn_of_wpIn hfn ?_⟩
      have hzip : ((#[p].zip #[Value.agg (enV x)]).foldl (fun tmps (t, a) => tmps.setIfInBounds t a) a.tmps) = a.tmps.setIfInBounds p (.agg (enV x)) := by simp
      show assign.wpIn _ _ P _ { tmps := (#[p].zip #[Value.agg (enV x)]).foldl (fun tmps (t, a) => tmps.setIfInBounds t a) a.tmps, defers := [] } U
      rw [hzip]
      refine wpIn_mono (hassign (w.heap.size + 1) pre x U hi) ?_
      rintro e a₁ V hV
      cases e with
      | normal =>
        obtain ⟨hbV, hAV⟩ := hV
        have hlV := row_below hl hbV
        have hkV := row_below hk hbV
        refine ⟨_, run_beginRound hlV (by rw [hrec]), ?_⟩
        have hlt := row_lt hlV
        have hl2 : (V.putObj (w.heap.size + 1) (.loop { rec .ready none with state := .busy })).heap[w.heap.size + 1]? = some (.loop { rec .ready none with state := .busy }) := World.putObj_heap_same hlt
        have hk2 : (V.putObj (w.heap.size + 1) (.loop { rec .ready none with state := .busy })).heap[w.heap.size]? = some (.deferred (some [])) := (World.putObj_heap_other (by omega)).trans hkV
        have hi2 := hI2.putObj (.loop { rec .ready none with state := .busy }) (hI pre U V hi hbV) (by omega) hlV rfl
        have ho2 : Own (V.putObj (w.heap.size + 1) (.loop { rec .ready none with state := .busy })) W0.heap.size x.2 x.1.data :=
          own_stay (own_keep hown (fun j _ hj => hbV.block j hj)) (fun k hk' => World.putObj_heap_other (fun e => by
            obtain ⟨cur, hc⟩ := own_row (own_keep hown (fun j _ hj => hbV.block j hj)) hk'
            first | rw [← e, hlV] at hc | rw [e, hlV] at hc
            cases hc))
        have hsz : W0.heap.size ≤ (V.putObj (w.heap.size + 1) (.loop { rec .ready none with state := .busy })).heap.size := by
          have h2 := (grownBy_putObj' V (w.heap.size + 1) (.loop { rec .ready none with state := .busy })).size
          have h3 := hbU.size; have h4 := hbV.size; omega
        refine wpIn_mono (hbody (w.heap.size + 1) pre x a₁ W0 _ hlen hi0 hi2 ho2 hsz (hA _ _ _ _ _ _ hlV hAV)) ?_
        have hbp : Below n₀ U (V.putObj (w.heap.size + 1) (.loop { rec .ready none with state := .busy })) :=
          below_putObj (hbV.mono (by have := row_lt hk; omega)) _ (by omega) (by have := row_lt hkV; omega)
        have fin : ∀ (jump : Option Code) (W3 : World), KeepsOthers (V.putObj (w.heap.size + 1) (.loop { rec .ready none with state := .busy })) W3 →
            (Instr.endRound (w.heap.size + 1) jump).run P W3 = .ok (.bool jump.isNone) (W3.putObj (w.heap.size + 1) (.loop (rec (if jump.isNone then .ready else .done) jump))) ∧
            W3.heap[w.heap.size + 1]? = some (.loop { rec .ready none with state := .busy }) ∧
            (W3.putObj (w.heap.size + 1) (.loop (rec (if jump.isNone then .ready else .done) jump))).heap[w.heap.size + 1]? = some (.loop (rec (if jump.isNone then .ready else .done) jump)) ∧
            (W3.putObj (w.heap.size + 1) (.loop (rec (if jump.isNone then .ready else .done) jump))).heap[w.heap.size]? = some (.deferred (some [])) := fun jump W3 hk3 => by
          have hl3 := hk3.same _ _ hl2 rfl
          have hr3 := run_endRound (P := P) jump hl3
          rw [hrec] at hr3 ⊢
          exact ⟨hr3, by rw [hrec] at hl3; exact hl3, World.putObj_heap_same (row_lt hl3), (World.putObj_heap_other (by omega)).trans (hk3.same _ _ hk2 rfl)⟩
        rintro e a3 W3 hp
        cases e with
        | normal =>
          obtain ⟨hk3, hb3, hi3⟩ := hp
          obtain ⟨hr, hl3, hl4, hk4⟩ := fin none W3 hk3
          exact ⟨_, _, hr, .inl ⟨rfl, ⟨hI2.putObj _ hi3 (by omega) hl3 rfl, hl4, hk4⟩, below_putObj (hbp.trans hb3) _ (by omega) (by have := row_lt hl3; omega)⟩⟩
        | ret =>
          obtain ⟨hk3, hi3⟩ := hp
          obtain ⟨hr, hl3, hl4, hk4⟩ := fin (some .ret) W3 hk3
          exact ⟨_, _, hr, .inr ⟨rfl, .ret, (hIx _).putObj _ hi3 (by omega) hl3 rfl, hl4, hk4⟩⟩
        | exit id =>
          obtain ⟨hk3, hi3⟩ := hp
          obtain ⟨hr, hl3, hl4, hk4⟩ := fin (some (.exit id)) W3 hk3
          exact ⟨_, _, hr, .inr ⟨rfl, .exit id, (hIx _).putObj _ hi3 (by omega) hl3 rfl, hl4, hk4⟩⟩
        | goto t =>
          obtain ⟨hk3, hi3⟩ := hp
          obtain ⟨hr, hl3, hl4, hk4⟩ := fin (some (.goto t)) W3 hk3
          exact ⟨_, _, hr, .inr ⟨rfl, .goto t, (hIx _).putObj _ hi3 (by omega) hl3 rfl, hl4, hk4⟩⟩
        | panic ch => exact hp.elim
        | outgrown => exact hp.elim
      | ret => exact hV.elim
      | exit id => exact hV.elim
      | goto t => exact hV.elim
      | panic ch => exact hV.elim
      | outgrown => exact hV.elim
    · rintro e W2 ⟨⟨v, rfl⟩, (⟨xs, hS, hi, hl, hk⟩ | ⟨pre, hSp, c, hi, hl, hk⟩)⟩
      · exact ⟨none, _, by have := run_endLoop (P := P) hl (by rw [hrec]; simp); rw [hrec] at this; exact this, hdone _ xs _ (Nat.le_refl _) hS (hI2.putObj _ hi (by omega) hl rfl) ((World.putObj_heap_other (by omega)).trans hk)⟩
      · exact ⟨some c, _, by have := run_endLoop (P := P) hl (by rw [hrec]; simp); rw [hrec] at this; exact this, hstop _ c pre _ (Nat.le_refl _) hSp ((hIx c).putObj _ hi (by omega) hl rfl) ((World.putObj_heap_other (by omega)).trans hk)⟩
end Gr
end Go.Proofs.Ytpdkdhcbibcifaa
namespace Go.Proofs.Ytpdkdhcbibcifaa
set_option linter.unusedVariables false
set_option linter.unusedSimpArgs false
open Go.ChangeShapes Go.WideShapes Go.ChangeAt Go.RowKit Go.Shelf
attribute [local go_sem] Oper.semAt_some
namespace Gr
/-- all entries -/
def eachS (ls : List Ln) (xs : List EnS) : Prop := (Gath ls → xs.map (·.1) = ls.map entOf) ∧ (¬ Gath ls → xs = [])
def eachSp (ls : List Ln) (xs : List EnS) : Prop := Gath ls ∧ ∃ k, xs.map (·.1) = (ls.map entOf).take k ∧ k = xs.length
set_option maxRecDepth 100000 in
set_option maxHeartbeats 4000000 in
theorem each1_stops (n : Nat) (hn : 1 ≤ n) (bx : Nat) (a : Option Addr) (m c : Nat) (T : List LnS) (w₀ w : World) (hbx : w.cell? ⟨bx, 0, none⟩ = some (.slice a m c)) (hL : Lns w₀ a m c T) (hN : LnNum T) (hb0 : Below w₀.heap.size w₀ w) :
    SeqE n Try.prog 29 #[.pointer (some ⟨bx, 0, none⟩)] (eachS (lOf T)) (eachSp (lOf T)) m w₀.heap.size w := by
  intro l J Jx W hW hJ hY h0
  have HL := Lib.hid hL; have HN := Lib.hid hN
  have hl := hL.len; have hcap := hL.cap; have hmax := hL.max
  have hn2 := hN.num
  rw [hl] at hn2
  have HLE := Lib.hid hl
  have hcb : W.cell? ⟨bx, 0, none⟩ = some (.slice a m c) := Below.keeps hW _ _ hbx
  have hW0 : Below w₀.heap.size w₀ W := hb0.trans (hW.mono hb0.size)
  have HCK := Lib.hid (check_any a m c T W (hL.below hW0) hN)
  have HW0 := Lib.hid hW0
  clear hW0
  have HJ := Lib.hid hJ; have HY := Lib.hid hY; have HW := Lib.hid hW; have HBX := Lib.hid hbx
  clear hL hN hl hJ hY hW hbx
  refine callsIn_of_wp Try.func29 rfl trivial ?_ rfl
  simp only [Try.ntmps29, List.size_toArray, List.length_cons, List.length_nil, Nat.reduceAdd, Nat.reduceSub, Array.replicate_succ, Array.replicate_zero, List.push_toArray, List.append_toArray, List.nil_append, List.cons_append]
  by_cases hG : Gath (lOf T)
  · have HG := Lib.hid hG
    clear hG
    gi_wp2_with (refine ⟨trivial, ?_⟩; gi_at_call 24; refine (callsIn_wide.2 HCK.out).mono ?_; rintro r w1 ⟨code, rfl, hb1, hc0, hc1, _⟩; obtain rfl : code = 0 := hc0.2 HG.out; have hcb1 : w1.cell? ⟨bx, 0, none⟩ = some (.slice a m c) := Below.keeps (HW.out.trans (hb1.mono HW.out.size)) _ _ HBX.out; have HB1 := Lib.hid (HW0.out.trans (hb1.mono HW0.out.size)); have HJ1 := Lib.hid (HJ.out [] W w1 h0 hb1); clear hb1 hc0 hc1)
    clear HCK hcb hcb1 h0
    gi_loopw [10] (fun i wr => ∃ (k : Nat) (pre : List EnS), k ≤ m ∧ i = .int .i64 k ∧ Hid (J pre wr) ∧ Hid (pre.map (·.1) = ((lOf T).map entOf).take k) ∧ Hid (Below w₀.heap.size w₀ wr)) (fun i _ => m - (intOf i).toNat)
    case atStart => exact ⟨0, [], Nat.zero_le _, rfl, HJ1, Lib.hid (by simp), HB1⟩
    case round =>
      obtain ⟨k, pre, hk, rfl, hJp, hpre, hbel⟩ := hrel
      by_cases hlt : k < m
      · obtain ⟨x, hxk⟩ := get_some (S := T) (k := k) (by have := HLE.out; omega)
        obtain ⟨b, off, rfl, hr⟩ := (HL.out.below hbel.out).at k x hxk
        have hdx := (HL.out.below hbel.out).dat x (mem_get hxk)
        have hnd := HN.out.dat x (mem_get hxk)
        have hns := (HN.out.str x (mem_get hxk)).1
        have hlk : (lOf T)[k]? = some x.1 := mapfst_get hxk
        have HPX : Hid (((lOf T).map entOf).take (k + 1) = ((lOf T).map entOf).take k ++ [entOf x.1]) := Lib.hid (by
          obtain ⟨h1, h2⟩ := List.getElem?_eq_some_iff.1 hlk
          rw [List.take_succ_eq_append_getElem (by rw [List.length_map]; exact h1), List.getElem_map, h2])
        have hb1 : Below wr.heap.size wr (wr.alloc (.cells (lnV x) 51)) := (Below.refl _ _).alloc (Nat.le_refl _) _
        have HEN := Lib.hid (entry_any x (wr.alloc (.cells (lnV x) 51)) (Below.bs hb1 hdx) hnd hns)
        have hpl : pre.length < m := by
          have h := congrArg List.length hpre.out
          rw [List.length_map, List.length_take, List.length_map, List.length_map, HLE.out] at h
          omega
        have HYY : Hid (∀ s w5, Below (wr.alloc (.cells (lnV x) 51)).heap.size (wr.alloc (.cells (lnV x) 51)) w5 → Own w5 (wr.alloc (.cells (lnV x) 51)).heap.size s (entOf x.1).data → YieldAt Fence.wide (n - 1) Try.prog l #[.agg (enV (entOf x.1, s))] w5 fun e W' =>
            (e = .returned (.bool true) ∧ J (pre ++ [(entOf x.1, s)]) W' ∧ Below w₀.heap.size w5 W') ∨ (e = .returned (.bool false) ∧ Jx (pre ++ [(entOf x.1, s)]) W')) := Lib.hid (fun s w5 hb5 ho5 => HY.out pre (entOf x.1, s) wr w5 hJp.out hpl (hb1.trans (hb5.mono hb1.size)) (own_base ho5 hb1.size))
        have HB2 : Hid (∀ w5, Below (wr.alloc (.cells (lnV x) 51)).heap.size (wr.alloc (.cells (lnV x) 51)) w5 → Below w₀.heap.size w₀ w5) := Lib.hid (fun w5 hb5 => hbel.out.trans ((hb1.trans (hb5.mono hb1.size)).mono hbel.out.size))
        clear hdx hnd hxk hlk hb1
        obtain ⟨⟨path, kind, mode, uid, gid, sec, nano, data, target, peer⟩, ⟨da, dn, dc⟩⟩ := x
        simp only [lnCells] at hr
        simp only [lnV] at HEN HYY HB2
        simp only at HPX
        have q0 : wr.cell? ⟨b, off + k * 10, none⟩ = some (.string ⟨path.toArray⟩) := range_cell hr 0 rfl
        have q1 : wr.cell? ⟨b, off + k * 10 + 1, none⟩ = some (.int .i64 kind) := range_cell hr 1 rfl
        have q2 : wr.cell? ⟨b, off + k * 10 + 2, none⟩ = some (.int .i64 mode) := range_cell hr 2 rfl
        have q3 : wr.cell? ⟨b, off + k * 10 + 3, none⟩ = some (.int .i64 uid) := range_cell hr 3 rfl
        have q4 : wr.cell? ⟨b, off + k * 10 + 4, none⟩ = some (.int .i64 gid) := range_cell hr 4 rfl
        have q5 : wr.cell? ⟨b, off + k * 10 + 5, none⟩ = some (.int .i64 sec) := range_cell hr 5 rfl
        have q6 : wr.cell? ⟨b, off + k * 10 + 6, none⟩ = some (.int .i64 nano) := range_cell hr 6 rfl
        have q7 : wr.cell? ⟨b, off + k * 10 + 7, none⟩ = some (.slice da dn dc) := range_cell hr 7 rfl
        have q8 : wr.cell? ⟨b, off + k * 10 + 8, none⟩ = some (.string ⟨target.toArray⟩) := range_cell hr 8 rfl
        have q9 : wr.cell? ⟨b, off + k * 10 + 9, none⟩ = some (.string ⟨peer.toArray⟩) := range_cell hr 9 rfl
        clear hr
        generalize hen : entOf ⟨path, kind, mode, uid, gid, sec, nano, data, target, peer⟩ = en at *
        have HENE := Lib.hid hen; clear hen
        gi_wp2_with (refine ⟨trivial, ?_⟩; gi_at_call 30; refine (callsIn_wide.2 HEN.out).mono ?_; rintro r w5 ⟨s, rfl, hb5, ho5⟩; rw [HENE.out] at ho5 ⊢; obtain ⟨fn, tmps, assign, body, hy, hR⟩ := HYY.out s w5 hb5 ho5; have HB5 := Lib.hid (HB2.out w5 hb5); clear hb5 ho5)
        refine hR.mono ?_
        rintro e W3 (⟨rfl, hJ3, hk3⟩ | ⟨rfl, hJx3⟩)
        · gi_wp2
          exact ⟨⟨k + 1, pre ++ [(en, s)], by omega, by go_num, Lib.hid hJ3, Lib.hid (by rw [List.map_append, hpre.out, HPX.out]; rfl), Lib.hid (HB5.out.trans hk3)⟩, by simp [intOf]; omega⟩
        · gi_wp2
          refine bodyPost_ret (results_none rfl _ _ _) rfl ?_
          refine ⟨⟨_, rfl⟩, .inr ⟨pre ++ [(en, s)], ⟨HG.out, k + 1, by rw [List.map_append, hpre.out, HPX.out]; rfl, ?_⟩, hJx3⟩⟩
          have h := congrArg List.length hpre.out
          rw [List.length_map, List.length_take, List.length_map, List.length_map, HLE.out] at h
          rw [List.length_append]
          simp only [List.length_cons, List.length_nil]
          omega
      · obtain rfl : k = m := by omega
        gi_wp2
        go_end0
        refine ⟨⟨_, rfl⟩, .inl ⟨pre, ⟨fun _ => ?_, fun h => absurd HG.out h⟩, hJp.out⟩⟩
        have h := hpre.out
        rw [List.take_of_length_le (by rw [List.length_map, List.length_map]; have := HLE.out; omega)] at h
        exact h
  · have HG := Lib.hid hG
    clear hG
    gi_wp2_with (refine ⟨trivial, ?_⟩; gi_at_call 24; refine (callsIn_wide.2 HCK.out).mono ?_; rintro r w1 ⟨code, rfl, hb1, hc0, hc1, _⟩; have hcb : (code != 0) = true := bne_t (fun e => HG.out (hc0.1 e)); have HJ1 := Lib.hid (HJ.out [] W w1 h0 hb1); clear hb1 hc0 hc1)
    refine bodyPost_ret (results_none rfl _ _ _) rfl ?_
    exact ⟨⟨_, rfl⟩, .inl ⟨[], ⟨fun h => absurd h HG.out, fun _ => rfl⟩, HJ1.out⟩⟩
end Gr
end Go.Proofs.Ytpdkdhcbibcifaa
namespace Go.Proofs.Ytpdkdhcbibcifaa
set_option linter.unusedVariables false
set_option linter.unusedSimpArgs false
open Go.ChangeShapes Go.WideShapes Go.ChangeAt Go.RowKit Go.Shelf
namespace Gr
section
variable {F : Fence} {n : Nat} {P : Program} {ops : Array Oper} {rest : List Oper} {o : Oper} {a : Act} {w : World} {Q : Exit → Act → World → Prop}
theorem wpListIn_load_rowA (hgd : o.guard = none) (ty : TypeId) (x : Operand) (ho : o.op = .load ty x)
    (b : Nat) (hx : a.eval x = .pointer (some ⟨b, 0, none⟩)) (cs : Array Value) (t : TypeId) (d : TypeDesc) (hc : w.heap[b]? = some (.cells cs t))
    (hu : P.underlying ty = some d) (hd : (match d with | .struct _ | .array _ _ => true | _ => false) = true) (hi : (P.info? ty).map (·.size) = some cs.size)
    (h : wpListIn F n P ops Q rest (a.put o.dst (.agg cs)) w) : wpListIn F n P ops Q (o :: rest) a w := by
  refine wpListIn_plain hgd fun K hK' => ?_
  have hr := run_loadVar_row (P := P) w b t ty cs (0, 0) d hc hu hd hi
  unfold Oper.wpIn
  refine ⟨?_, ?_⟩
  · simp [Oper.about, ho]
  · rw [Oper.semAt_plain F _ _ (by rw [ho]; intro c hc'; cases hc')]
    simp [execOp, ho, hx, Instr.loadAt, Instr.sureAddr, hr, Result.andThen]
    exact hK' _ _ h
theorem wpListIn_slice_one (hgd : o.guard = none) (t : TypeId) (x : Operand) (ho : o.op = .buildSlice t 1 #[(0, x)]) {e : TypeId} {z : Array Value} (ht : P.underlying t = some (.slice e)) (cs : Array Value) (hi : (P.info? e).map (fun i => (i.zero, i.size)) = some (some (.agg z), cs.size))
    (hzs : z.size = cs.size) (hpos : 0 < cs.size) (hlim : cs.size ≤ 16777216) (hx : a.eval x = .agg cs)
    (h : wpListIn F n P ops Q rest (a.put o.dst (.slice (some ⟨w.heap.size, 0, none⟩) 1 1)) (w.alloc (.cells cs e))) : wpListIn F n P ops Q (o :: rest) a w := by
  refine wpListIn_plain hgd fun K hK' => ?_
  have hr := run_slice_one (P := P) t ht cs hi hzs hpos hlim w
  unfold Oper.wpIn
  refine ⟨?_, ?_⟩
  · simp [Oper.about, ho]
  · rw [Oper.semAt_plain F _ _ (by rw [ho]; intro c hc'; cases hc')]
    simp [execOp, ho, hx, hr, Result.andThen]
    exact hK' _ _ h
theorem wpListIn_app (hgd : o.guard = none) (s x : Operand) (t : TypeId) (ho : o.op = .call { callee := .builtin .append, args := #[s, x], argTypes := #[t, t] })
    (base : Nat) (e : TypeId) (z : Value) (sz bytes : Nat) (ht : P.underlying t = some (.slice e)) (hi : (P.info? e).map (fun i => (i.zero, i.size, i.bytes)) = some (some z, sz, bytes))
    (hzs : z.cells.size = sz) (hsz : 0 < sz) (hb0 : 0 < bytes) {a1 : Option Addr} {k c1 : Nat} {xs : List Value} (hs : a.eval s = .slice a1 k c1) (hown : w.ownsRow base e sz (.slice a1 k c1) k xs)
    {ad : Addr} {m c2 : Nat} {news : List Value} (hx : a.eval x = .slice (some ad) m c2) (hsrc : IsSl w sz (some ad) m c2 news) (h1 : ∀ u ∈ news, u.oneCell' = true)
    (hbytes : (k + m) * bytes ≤ 140737488355328) (hbase : base ≤ w.heap.size)
    (h : ∀ a' c' w', w'.ownsRow base e sz (.slice a' (k + m) c') (k + m) (xs ++ news) → w.grownBy w' (Value.slice a1 k c1).ownBlock → wpListIn F n P ops Q rest (a.put o.dst (.slice a' (k + m) c')) w') :
    wpListIn F n P ops Q (o :: rest) a w := by
  refine wpListIn_plain hgd fun K hK' => ?_
  obtain ⟨a', c', w', hrun, h2, h3⟩ := run_app (P := P) o.type t base e z sz bytes ht hi hzs hsz hb0 hown hsrc h1 hbytes hbase
  unfold Oper.wpIn
  refine ⟨?_, ?_⟩
  · simp [Oper.about, ho, resolve, Target.leads, Sem.run_pure]
  · rw [Oper.semAt_plain F _ _ (by rw [ho]; intro c hc'; cases hc')]
    simp [execOp, ho, resolve, invoke, builtin, hs, hx, hrun, Result.andThen]
    exact hK' _ _ (h a' c' w' h2 h3)
/-- a whole row is stored -/
theorem wpListIn_store_row (hgd : o.guard = none) (ty : TypeId) (x y : Operand) (ho : o.op = .store ty x y) (g : Nat) (hx : a.eval x = .pointer (some ⟨g, 0, none⟩)) (cs : Array Value) (hy : a.eval y = .agg cs)
    (old : Array Value) (t : TypeId) (hh : w.heap[g]? = some (.cells old t (0, 0))) (hsz : old.size = cs.size) (hi : (P.info? ty).map (·.size) = some cs.size) (h1 : ∀ u ∈ cs.toList, u.oneCell' = true)
    (h : wpListIn F n P ops Q rest (a.put o.dst undef) (w.setRow g cs)) : wpListIn F n P ops Q (o :: rest) a w := by
  refine wpListIn_plain hgd fun K hK' => ?_
  obtain ⟨i, hi', hs'⟩ := Option.map_eq_some_iff.1 hi
  have hr := run_storeCells_at (P := P) g 0 t cs.toList 0 old w hh (by simp [hsz]) h1
  have e : (old.toList.take (0 + 0) ++ cs.toList ++ old.toList.drop (0 + 0 + cs.toList.length)).toArray = cs := by
    simp [List.drop_of_length_le, hsz]
  rw [e] at hr
  unfold Oper.wpIn
  refine ⟨?_, ?_⟩
  · simp [Oper.about, ho]
  · rw [Oper.semAt_plain F _ _ (by rw [ho]; intro c hc'; cases hc')]
    simp [execOp, ho, hx, hy, Instr.storeAt, Instr.sureAddr, storeVar, sizeOf, typeInfo, hi', hs', Value.cells, hr, Result.andThen]
    exact hK' _ _ h
end
theorem en_new (w : World) (x : EnS) : IsSl (w.alloc (.cells (enV x) 39)) 11 (some ⟨w.heap.size, 0, none⟩) 1 1 ([x].flatMap enCells) := by
  have := isSl_new w 39 11 1 (enV x) rfl (by decide)
  simpa [enCells] using this
/-- entries in memory of their own, the data's blocks rising -/
structure NewEn (w : World) (B : Nat) (a : Option Addr) (n c : Nat) (S : List EnS) : Prop where
  own : w.ownsRow B 39 11 (.slice a n c) n (S.flatMap enCells)
  dat : ∀ x ∈ S, Own w B x.2 x.1.data
  rise : S.Pairwise fun x y => ∀ b b', blk x.2 = some b → blk y.2 = some b' → b < b'
theorem NewEn.ens {w : World} {B : Nat} {a : Option Addr} {n c : Nat} {S : List EnS} (h : NewEn w B a n c S) : Ens w a n c S := ⟨own_isSl h.own, fun x hx => (h.dat x hx).dat⟩
theorem NewEn.len {w : World} {B : Nat} {a : Option Addr} {n c : Nat} {S : List EnS} (h : NewEn w B a n c S) : S.length = n := h.ens.len
theorem NewEn.nil (w : World) (B : Nat) : NewEn w B none 0 0 [] := ⟨World.ownsRow_nil _ _ _ _, by simp, List.Pairwise.nil⟩
theorem NewEn.below {w w' : World} {B : Nat} {a : Option Addr} {n c : Nat} {S : List EnS} (h : NewEn w B a n c S) (k : Below w.heap.size w w') : NewEn w' B a n c S :=
  ⟨own_keep h.own (fun j _ hj => k.block j hj), fun x hx => own_keep (h.dat x hx) (fun j _ hj => k.block j hj), h.rise⟩
theorem NewEn.grown {w w' : World} {B : Nat} {a : Option Addr} {n c : Nat} {S : List EnS} (h : NewEn w B a n c S) {row : Option Nat} (hg : w.grownBy w' row) (hr : ∀ r, row = some r → ∀ cs, w.heap[r]? ≠ some (.cells cs 39) ∧ w.heap[r]? ≠ some (.cells cs 5)) : NewEn w' B a n c S := by
  have hot : ∀ {t sz n' v xs}, w.ownsRow B t sz v n' xs → (∀ r, row = some r → ∀ cs, w.heap[r]? ≠ some (.cells cs t)) → w'.ownsRow B t sz v n' xs := fun ho hne => by
    refine own_grown ho hg ?_
    rcases own_cases (v := _) with hb | ⟨b, hb⟩
    · exact Or.inl hb
    · right
      intro e
      obtain ⟨cur, hc⟩ := own_row ho hb
      exact hne b (by rw [← e, hb]) cur hc
  exact ⟨hot h.own (fun r e cs => (hr r e cs).1), fun x hx => hot (h.dat x hx) (fun r e cs => (hr r e cs).2), h.rise⟩
/-- an entry more, in a box -/
theorem NewEn.snoc {w0 w1 w2 : World} {B OB t n0 c0 : Nat} {a0 a a' : Option Addr} {c c' : Nat} {S : List EnS} {x : EnS} (h0 : NewEn w0 B a0 n0 c0 S) (h : NewEn w1 B a S.length c S) (hx : Own w1 w0.heap.size x.2 x.1.data) (hB : B ≤ w0.heap.size)
    (hbox : w1.heap[OB]? = some (.cells #[.slice a S.length c] t)) (ht : t ≠ 39) (ht2 : t ≠ 5)
    (hg : (w1.alloc (.cells (enV x) 39)).grownBy w2 (Value.slice a S.length c).ownBlock) (ho : w2.ownsRow B 39 11 (.slice a' (S.length + 1) c') (S.length + 1) (S.flatMap enCells ++ [x].flatMap enCells)) :
    NewEn (w2.setCell ⟨OB, 0, none⟩ (.slice a' (S.length + 1) c')) B a' (S ++ [x]).length c' (S ++ [x]) ∧ (w2.setCell ⟨OB, 0, none⟩ (.slice a' (S.length + 1) c')).heap[OB]? = some (.cells #[.slice a' (S ++ [x]).length c'] t) := by
  have hA : Below w1.heap.size w1 (w1.alloc (.cells (enV x) 39)) := (Below.refl _ _).alloc (Nat.le_refl _) _
  have h1 := h.below hA
  have hb1 := row_below hbox hA
  have hb2 := row_grown hb1 hg (fun e => own_ne_row h1.own hb1 (fun e => ht e.symm) e.symm)
  have hd : ∀ {B' : Nat} {s : Sl} {l : Bt}, Own w1 B' s l → Own (w2.setCell ⟨OB, 0, none⟩ (.slice a' (S.length + 1) c')) B' s l := fun hs =>
    own_cell (own_other (own_keep hs (fun j _ hj => hA.block j hj)) h1.own (by decide) hg) hb2 (fun e => ht2 e.symm)
  have hl : (S ++ [x]).length = S.length + 1 := by simp
  refine ⟨⟨?_, ?_, ?_⟩, ?_⟩
  · rw [hl, List.flatMap_append]
    exact own_cell ho hb2 (fun e => ht e.symm)
  · intro y hy
    rcases List.mem_append.1 hy with hy | hy
    · exact hd (h.dat y hy)
    · rw [List.mem_singleton] at hy
      subst hy
      exact hd (own_base hx hB)
  · rw [List.pairwise_append]
    refine ⟨h.rise, List.pairwise_singleton _ _, fun y hy z hz b b' hb hb' => ?_⟩
    rw [List.mem_singleton] at hz
    subst hz
    have e1 := ((h0.dat y hy).lt b hb).2
    have e2 := (hx.lt b' hb').1
    omega
  · rw [hl]
    simpa using setCell_row hb2 (j := 0) (.slice a' (S.length + 1) c')
end Gr
end Go.Proofs.Ytpdkdhcbibcifaa
namespace Go.Proofs.Ytpdkdhcbibcifaa
set_option linter.unusedVariables false
set_option linter.unusedSimpArgs false
open Go.ChangeShapes Go.WideShapes Go.ChangeAt Go.RowKit Go.Shelf
attribute [local go_sem] Oper.semAt_some
namespace Gr
set_option maxRecDepth 100000 in
theorem Each_any (a : Option Addr) (n c : Nat) (w : World) : Calls Try.prog 15 #[.slice a n c] w fun r w' => r = .returned (.func (.func 29) #[] #[.pointer (some ⟨w.heap.size, 0, none⟩)]) ∧ w' = w.alloc (.cells #[.slice a n c] 22) := by
  go_enter Try.func15, Try.ntmps15
  go_wp2
  go_ret
  exact ⟨rfl, rfl⟩
/-- what Entries leaves -/
def EntriesRes (w : World) (ls : List Ln) (r : Ending) (w' : World) : Prop :=
  ∃ (a : Option Addr) (n c : Nat) (code : Int) (S : List EnS), r = .returned (.tuple #[.slice a n c, .int .i64 code]) ∧ Below w.heap.size w w' ∧ NewEn w' w.heap.size a n c S ∧
    (code = 0 ↔ Gath ls) ∧ (code = 160 ↔ ¬ Planted false ls) ∧ (code = 0 ∨ code = 160 ∨ code = 93) ∧ (code = 0 → S.map (·.1) = ls.map entOf) ∧ (code ≠ 0 → S = [])
set_option maxRecDepth 100000 in
set_option maxHeartbeats 4000000 in
theorem Entries_any (a : Option Addr) (n c : Nat) (T : List LnS) (w : World) (hL : Lns w a n c T) (hN : LnNum T) :
    Calls Try.prog 11 #[.slice a n c] w (EntriesRes w (lOf T)) := by
  have HL := Lib.hid hL; have HN := Lib.hid hN
  have hl := hL.len
  have hn2 := hN.num
  rw [hl] at hn2
  have HLE := Lib.hid hl
  have HCK := Lib.hid (check_any a n c T w hL hN)
  clear hL hN hl
  refine (callsIn_wide (n := 8)).1 ?_
  refine callsIn_of_wp_marks Try.func11 rfl trivial ?_ rfl
  simp only [Try.ntmps11, List.size_toArray, List.length_cons, List.length_nil, Nat.reduceAdd, Nat.reduceSub, Array.replicate_succ, Array.replicate_zero, List.push_toArray, List.append_toArray, List.nil_append, List.cons_append]
  by_cases hG : Gath (lOf T)
  · have HG := Lib.hid hG
    clear hG
    gi_wp2_with (first
      | (refine ⟨trivial, ?_⟩; gi_at_call 24; refine (callsIn_wide.2 HCK.out).mono ?_; rintro r w1 ⟨code, rfl, hb1, hc0, hc1, _⟩; obtain rfl : code = 0 := hc0.2 HG.out; have HB1 := Lib.hid hb1; clear hb1 hc0 hc1)
      | (refine ⟨trivial, ?_⟩; gi_at_call 15; refine (callsIn_wide.2 (Each_any a n c _)).mono ?_; rintro r w2 ⟨rfl, rfl⟩))
    have e1 : (w1.alloc (.cells #[.slice none 0 0] 25)).heap.size = w1.heap.size + 1 := by simp
    have hO := heap_alloc_new w1 (.cells #[.slice none 0 0] 25)
    have hLB := heap_alloc_new (w1.alloc (.cells #[.slice none 0 0] 25)) (.cells #[.slice a n c] 22)
    rw [e1] at hLB
    have hO2 := row_below hO ((Below.refl (w1.alloc (.cells #[.slice none 0 0] 25)).heap.size _).alloc (Nat.le_refl _) (.cells #[.slice a n c] 22))
    have hb2 : Below w.heap.size w ((w1.alloc (.cells #[.slice none 0 0] 25)).alloc (.cells #[.slice a n c] 22)) := (HB1.out.alloc HB1.out.size _).alloc (by have := HB1.out.size; simp; omega) _
    have hOB : w.heap.size ≤ w1.heap.size := HB1.out.size
    generalize (w1.alloc (.cells #[.slice none 0 0] 25)).alloc (.cells #[.slice a n c] 22) = W2 at *
    generalize w1.heap.size = OB at *
    have hOW : OB < W2.heap.size := row_lt hO2
    have hcl : W2.cell? ⟨OB + 1, 0, none⟩ = some (.slice a n c) := by rw [row_cell hLB]; rfl
    refine wpIn_rangeE (p := 14) (by decide) (gf := 29) (lb := #[.pointer (some ⟨OB + 1, 0, none⟩)]) rfl (enters_of Try.func29 (by kernel_rfl) rfl)
      (each1_stops 7 (by decide) (OB + 1) a n c T w W2 hcl HL.out HN.out hb2) (by omega)
      (fun pre W => ∃ (a' : Option Addr) (c' : Nat), W.heap[OB]? = some (.cells #[.slice a' pre.length c'] 25) ∧ NewEn W w.heap.size a' pre.length c' pre ∧ Below w.heap.size w W)
      (fun _ _ _ => False)
      (fun x a₁ U => ∃ bx, U.heap[bx]? = some (.cells (enV x) 39) ∧ ∃ v14, a₁ = { tmps := #[.slice a n c, undef, .slice none 0 0, .int .i64 0, .int .i64 0, .pointer (some ⟨OB, 0, none⟩), .pointer (some ⟨bx, 0, none⟩), .slice a n c, .int .i64 0, .int .i64 0, .bool false, undef, .slice a n c, .func (.func 29) #[] #[.pointer (some ⟨OB + 1, 0, none⟩)], v14, undef, undef, undef, undef, undef], defers := [] })
      ?hI ?hI2 (fun _ _ _ _ _ h _ _ => h) ?hA ⟨none, 0, hO2, NewEn.nil _ _, hb2⟩ ?assign ?body ?done ?stop
    case hI =>
      rintro s U V ⟨a', c', h1, h2, h3⟩ hb
      exact ⟨a', c', row_below h1 hb, h2.below hb, h3.trans (hb.mono h3.size)⟩
    case hI2 =>
      rintro s U V row ⟨a', c', h1, h2, h3⟩ hg hr
      refine ⟨a', c', row_grown h1 hg (fun e => ?_), h2.grown hg (fun r e cs => ?_), h3.grown hg h3.size (fun k e => by have := (hr k e).1; omega)⟩
      · obtain ⟨_, o, ho, hc⟩ := hr OB e.symm
        rw [h1] at ho; cases ho; cases hc
      · obtain ⟨_, o, ho, hc⟩ := hr r e
        constructor <;> (intro h; rw [h] at ho; cases ho; cases hc)
    case hA =>
      rintro x a₁ U l o o' hl ⟨bx, h1, h2⟩
      exact ⟨bx, by rw [World.putObj_heap_other (fun e => by first | (rw [← e, hl] at h1; cases h1) | (rw [e, hl] at h1; cases h1))]; exact h1, h2⟩
    case assign =>
      rintro l pre x W ⟨a', c', h1, h2, h3⟩
      simp only [List.setIfInBounds_toArray, List.set_cons_zero, List.set_cons_succ]
      gi_wp2_with (refine wpListIn_store_row rfl _ _ _ rfl W.heap.size rfl (enV x) rfl enZ 39 (heap_alloc_new W _) rfl (sizeEn _) (by simpa [enCells] using en_one [x]) ?_)
      refine ⟨?_, W.heap.size, ?_, _, rfl⟩
      · rw [setRow_alloc]; exact (Below.refl _ _).alloc (Nat.le_refl _) _
      · rw [setRow_alloc]; exact heap_alloc_new W _
    case body =>
      rintro l pre x a₁ W0 W1 hlen ⟨a0, c0, g1, g2, g3⟩ ⟨a', c', h1, h2, h3⟩ hown hsz ⟨bx, hbx, v14, rfl⟩
      have hc1 : W1.cell? ⟨OB, 0, none⟩ = some (.slice a' pre.length c') := by rw [row_cell h1]; rfl
      have HOW := Lib.hid (own_keep (w' := W1.alloc (.cells (enV x) 39)) h2.own (fun j _ hj => by rw [heap_alloc_old _ _ hj]))
      have HBS : Hid (w.heap.size ≤ (W1.alloc (.cells (enV x) 39)).heap.size) := Lib.hid (by have := h3.size; simp; omega)
      have HLN : Hid ((pre.length + 1) * 136 ≤ 140737488355328) := Lib.hid (by omega)
      have HST : Hid (∀ a7 c7 w7, w7.ownsRow w.heap.size 39 11 (.slice a7 (pre.length + 1) c7) (pre.length + 1) (pre.flatMap enCells ++ [x].flatMap enCells) → (W1.alloc (.cells (enV x) 39)).grownBy w7 (Value.slice a' pre.length c').ownBlock →
          w7.cell? ⟨OB, 0, none⟩ = some (.slice a' pre.length c') ∧ w7.frozen? ⟨OB, 0, none⟩ = false ∧ Hid (Below w.heap.size W1 w7) ∧ Hid (KeepsOthers W1 (w7.setCell ⟨OB, 0, none⟩ (.slice a7 (pre.length + 1) c7))) ∧
          Hid (NewEn (w7.setCell ⟨OB, 0, none⟩ (.slice a7 (pre.length + 1) c7)) w.heap.size a7 (pre ++ [x]).length c7 (pre ++ [x]) ∧ (w7.setCell ⟨OB, 0, none⟩ (.slice a7 (pre.length + 1) c7)).heap[OB]? = some (.cells #[.slice a7 (pre ++ [x]).length c7] 25))) := Lib.hid (fun a7 c7 w7 ho7 hg7 => by
        have hA : Below W1.heap.size W1 (W1.alloc (.cells (enV x) 39)) := (Below.refl _ _).alloc (Nat.le_refl _) _
        have hr1 := row_below h1 hA
        have h2A := h2.below hA
        have hr7 := row_grown hr1 hg7 (fun e => own_ne_row h2A.own hr1 (by decide) e.symm)
        refine ⟨by rw [row_cell hr7]; rfl, row_froz hr7 0, Lib.hid ?_, Lib.hid ?_, Lib.hid ?_⟩
        · exact (((Below.refl w.heap.size W1).alloc h3.size _).grown hg7 (by have := h3.size; simp; omega) (fun k hk => (h2A.own.lt k hk).1))
        · refine ((KeepsOthers.alloc W1 _).trans (KeepsOthers.of_grownBy hg7 (fun j o hj ho => ?_))).trans (KeepsOthers.setCell _ _ _)
          obtain ⟨cur, hc⟩ := own_row h2A.own hj
          rw [hc] at ho; cases ho; rfl
        · exact NewEn.snoc g2 h2 hown g3.size h1 (by decide) (by decide) hg7 ho7)
      have HBX := Lib.hid hbx; have H3 := Lib.hid h3
      clear hbx h1 h2 h3 g1 g2 g3 hown hsz hlen
      gi_wp2_with (first
        | (refine wpListIn_load_rowA rfl _ _ rfl bx rfl (enV x) 39 _ HBX.out Try.underlying39 rfl (sizeEn _) ?_)
        | (refine wpListIn_slice_one rfl 25 _ rfl Try.underlying25 (enV x) (infoEn2 x) rfl (by show 0 < 11; decide) (by show 11 ≤ _; decide) rfl ?_)
        | (gi_at_builtin; refine wpListIn_app rfl _ _ 25 rfl w.heap.size 39 _ 11 136 Try.underlying25 infoEntry rfl (by decide) (by decide) rfl HOW.out rfl (en_new W1 x) (en_one [x]) HLN.out HBS.out ?_; intro a7 c7 w7 ho7 hg7; obtain ⟨k1, k2, HB7, HK7, HN7⟩ := HST.out a7 c7 w7 ho7 hg7; clear ho7 hg7))
      exact ⟨HK7.out, HB7.out.setCell (p := ⟨OB, 0, none⟩) hOB _, a7, c7, HN7.out.2, HN7.out.1, (H3.out.trans HB7.out).setCell (p := ⟨OB, 0, none⟩) hOB _⟩
    case done =>
      rintro D xs W hD hS ⟨a', c', h1, h2, h3⟩ hK
      have hc1 : W.cell? ⟨OB, 0, none⟩ = some (.slice a' xs.length c') := by rw [row_cell h1]; rfl
      gi_wp2
      refine ⟨by simp, .inl ⟨_, _, rfl, run_takeDeferred hK, ?_⟩⟩
      refine ⟨_, results_tmp2 rfl _ _ _, a', xs.length, c', 0, xs, rfl, ?_, ?_, ?_, ?_, by simp, fun _ => hS.1 HG.out, fun h => absurd rfl h⟩
      · exact below_putObj h3 _ (by omega) h3.size
      · exact h2.grown (grownBy_putObj' W D _) (fun r e cs => by cases e; rw [hK]; constructor <;> (intro h; cases h))
      · simp [HG.out]
      · simp [HG.out.1]
    case stop =>
      rintro D c pre W _ _ h _
      exact h.elim
  · have HG := Lib.hid hG
    clear hG
    gi_wp2_with (refine ⟨trivial, ?_⟩; gi_at_call 24; refine (callsIn_wide.2 HCK.out).mono ?_; rintro r w1 ⟨code, rfl, hb1, hc0, hc1, hc2⟩; have hcb : (code != 0) = true := bne_t (fun e => HG.out (hc0.1 e)); have HB1 := Lib.hid hb1; have HC0 := Lib.hid hc0; have HC1 := Lib.hid hc1; have HC2 := Lib.hid hc2; clear hb1 hc0 hc1 hc2)
    refine ⟨_, results_tmp2 rfl _ _ _, none, 0, 0, code, [], rfl, HB1.out, NewEn.nil _ _, HC0.out, HC1.out, HC2.out, fun h => ?_, fun _ => rfl⟩
    exact absurd (HC0.out.1 h) HG.out
end Gr
end Go.Proofs.Ytpdkdhcbibcifaa
