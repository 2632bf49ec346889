/-
  J03: GrRoot, GrRead, GrBegin, GrOwn, GrPl, GrPlan, Arrs, joined.
-/
import Derived.Test.YtpdkdhcbibcifaaJ02
import Derived.Deep.Cut
import Derived.OwnWalk
import Derived.Deep.RegionLaw
import Derived.Maps.AppendAt
import Derived.Lib.LastIndexByte
import Derived.Test.YtpdkdhcbibcifaaJ01
namespace Go.Proofs.Ytpdkdhcbibcifaa
set_option linter.unusedVariables false
set_option linter.unusedSimpArgs false
open Go.ChangeShapes Go.WideShapes Go.ChangeAt Go.RowKit
open Go.Maps (Keyed)
namespace Gr
/-! ### the climb -/
theorem climb_add (p : List (Int × Int)) : ∀ (i j : Nat) (x y : Int), climb p i x = some y → climb p (i + j) x = climb p j y
  | 0, j, x, y, h => by simp only [climb, Option.some.injEq] at h; subst h; rw [Nat.zero_add]
  | i + 1, j, x, y, h => by
    rw [show i + 1 + j = (i + j) + 1 by omega]
    simp only [climb] at h ⊢
    cases hl : p.lookup x with
    | none => rw [hl] at h; cases h
    | some u => rw [hl] at h; exact climb_add p i j u y h
theorem climb_succ (p : List (Int × Int)) (i : Nat) (x y : Int) (h : climb p i x = some y) : climb p (i + 1) x = p.lookup y := by
  rw [climb_add p i 1 x y h]
  simp only [climb]
  cases p.lookup y <;> rfl
theorem climb_none (p : List (Int × Int)) : ∀ (i j : Nat) (x : Int), climb p i x = none → climb p (i + j) x = none
  | 0, j, x, h => by simp [climb] at h
  | i + 1, j, x, h => by
    rw [show i + 1 + j = (i + j) + 1 by omega]
    simp only [climb] at h ⊢
    cases hl : p.lookup x with
    | none => rfl
    | some u => rw [hl] at h; exact climb_none p i j u h
theorem pigeon : ∀ {l m : List Int}, l.Nodup → (∀ x ∈ l, x ∈ m) → l.length ≤ m.length
  | [], m, _, _ => by simp
  | a :: l, m, hn, hs => by
    rw [List.nodup_cons] at hn
    have h1 := pigeon (m := m.erase a) hn.2 (fun x hx => (List.mem_erase_of_ne (by rintro rfl; exact hn.1 hx)).2 (hs x (by simp [hx])))
    have h2 := List.length_erase_of_mem (hs a (by simp))
    have h3 : 0 < m.length := List.length_pos_of_mem (hs a (by simp))
    simp only [List.length_cons]
    omega
/-- the first k steps of a way -/
def steps (p : List (Int × Int)) (x : Int) (k : Nat) : List Int := (List.range k).filterMap fun i => climb p i x
theorem ends_least {p : List (Int × Int)} {x : Int} (h : Ends p x) : ∃ k, climb p (k + 1) x = none ∧ ∀ j, j ≤ k → ∃ y, climb p j x = some y := by
  obtain ⟨n, hn⟩ := h
  induction n with
  | zero => simp [climb] at hn
  | succ n ih =>
    cases hc : climb p n x with
    | none => exact ih hc
    | some y =>
      refine ⟨n, hn, fun j hj => ?_⟩
      cases hj2 : climb p j x with
      | some z => exact ⟨z, rfl⟩
      | none =>
        have := climb_none p j (n - j) x hj2
        rw [show j + (n - j) = n by omega, hc] at this
        cases this
/-- a way that ends is no longer than there are pairs -/
theorem ends_bound {p : List (Int × Int)} {x : Int} (h : Ends p x) : climb p (p.length + 1) x = none := by
  obtain ⟨k, hk, hs⟩ := ends_least h
  have hinj : ∀ i j y, i < j → j ≤ k → climb p i x = some y → climb p j x = some y → False := by
    intro i j y hij hjk hi hj
    have e1 := climb_add p j (k + 1 - j) x y hj
    have e2 := climb_add p i (k + 1 - j) x y hi
    rw [show j + (k + 1 - j) = k + 1 by omega, hk] at e1
    rw [← e1] at e2
    obtain ⟨z, hz⟩ := hs (i + (k + 1 - j)) (by omega)
    rw [hz] at e2
    cases e2
  have hlen : ((List.range k).map fun i => (climb p i x).getD 0).length ≤ (p.map (·.1)).length := by
    refine pigeon ?_ ?_
    · refine List.pairwise_map.2 (List.Pairwise.imp_of_mem (fun {a b} ha hb hab e => ?_) (List.pairwise_lt_range (n := k)))
      simp only [List.mem_range] at ha hb
      obtain ⟨y, hy⟩ := hs a (by omega)
      obtain ⟨z, hz⟩ := hs b (by omega)
      rw [hy, hz] at e
      simp at e
      subst e
      exact hinj a b y hab (by omega) hy hz
    · intro y hy
      obtain ⟨i, hi, rfl⟩ := List.mem_map.1 hy
      simp only [List.mem_range] at hi
      obtain ⟨y, hy⟩ := hs i (by omega)
      obtain ⟨z, hz⟩ := hs (i + 1) (by omega)
      rw [climb_succ p i x y hy] at hz
      rw [hy]
      exact List.mem_map.2 ⟨_, lookup_mem hz, rfl⟩
  simp at hlen
  have := climb_none p (k + 1) (p.length - k) x hk
  rwa [show k + 1 + (p.length - k) = p.length + 1 by omega] at this
theorem ends_up {p : List (Int × Int)} {x y : Int} (k : Nat) (h : climb p k x = some y) (he : Ends p y) : Ends p x := by
  obtain ⟨n, hn⟩ := he
  exact ⟨k + n, by rw [climb_add p k n x y h]; exact hn⟩
theorem ends_down {p : List (Int × Int)} {x y : Int} (k : Nat) (h : climb p k x = some y) (he : Ends p x) : Ends p y := by
  obtain ⟨n, hn⟩ := he
  refine ⟨n, ?_⟩
  have := climb_none p n k x hn
  rw [Nat.add_comm, climb_add p k n x y h] at this
  exact this
theorem acy_of_keys {p : List (Int × Int)} (h : ∀ x, (p.lookup x).isSome = true → Ends p x) : Acy p := by
  intro x
  cases hl : p.lookup x with
  | none => exact ⟨1, by simp [climb, hl]⟩
  | some u => exact h x (by rw [hl]; rfl)
def fineF (F : Int → Bool) (x : Int) : Option Value := if F x then some (.int .i64 1) else none
theorem fineF_upd (F : Int → Bool) (x y : Int) : upd (fineF F) x (.int .i64 1) y = fineF (fun z => F z || z == x) y := by
  unfold upd fineF
  by_cases h : y = x
  · subst h; simp
  · simp [h]
/-- the step of a range over a map keyed by ints -/
theorem wpList_next_h {P : Program} {k : TypeId} (w : World) {ops : Array Oper} {rest : List Oper} {o : Oper} {a : Act} {Q : Exit → Act → World → Prop} (hg : o.guard = none) (it : Operand) (hop : o.op = Op.next it false) (K : Keyed P k) (hk : P.underlying k = some (.int .i64)) (b r n : Nat) (D : DataW Value) (left : Lit → Bool) (cnt : Nat)
    (hit : a.eval it = .pointer (some ⟨r, 0, none⟩)) (h : w.ranges P k held b r n D left cnt)
    (hDone : cnt = 0 → (∀ kl, left kl = false) → wpList P ops Q rest (a.put o.dst (.tuple #[.bool false])) w)
    (hMore : ∀ (x : Int) (v : Value) (w' : World) (cnt' : Nat), (Lit.int .i64 x).wf = true → left (mkI x) = true → w'.ranges P k held b r n D (fun z => left z && !z.sameKey (mkI x)) cnt' → cnt' < cnt →
      w.grownBy w' (some r) → w'.heap.size = w.heap.size → (Instr.entry (.pointer (some ⟨r, 0, none⟩))).run P w' = .ok (.tuple #[.int .i64 x, v]) w' → wpList P ops Q rest (a.put o.dst (.tuple #[.bool true, .int .i64 x, v])) w') :
    wpList P ops Q (o :: rest) a w :=
  wpList_next_ranges w hg it hop k K held (Value.int .i64) (fun v => v) (fun key kl hkey => by obtain ⟨x, rfl, _⟩ := Maps.keyOf_int_inv hk hkey; exact ⟨x, rfl⟩) (fun v y hv => ⟨v, rfl⟩) b r n D left cnt hit h hDone
    (fun x c kl y w' cnt' hkey hlk hv hat hrg hlt hgr hsz hen => by
      obtain ⟨x', ex, rfl, hw⟩ := Maps.keyOf_int_inv hk hkey
      cases ex
      exact hMore x c w' cnt' hw hlk hrg hlt hgr hsz hen)
theorem wf_int {x : Int} (h : (Lit.int .i64 x).wf = true) : -9223372036854775808 ≤ x ∧ x ≤ 9223372036854775807 := by
  simp [Lit.wf, IntKind.min, IntKind.max, IntKind.signed, IntKind.bits] at h
  omega
def slLen : Value → Nat
  | .slice _ n _ => n
  | _ => 0
theorem cnt_step {c c1 L T s : Nat} (h : c1 < c) (hs : s + c * L ≤ T) : s + L + c1 * L ≤ T := by
  have h1 : (c1 + 1) * L ≤ c * L := Nat.mul_le_mul_right L h
  rw [Nat.add_mul] at h1
  omega
/-- the way so far -/
def wayL (p : List (Int × Int)) (x : Int) (m : Nat) : List Int := (List.range m).map fun i => (climb p i x).getD 0
theorem wayL_succ {p : List (Int × Int)} {x cur : Int} {m : Nat} (h : climb p m x = some cur) : wayL p x (m + 1) = wayL p x m ++ [cur] := by
  simp [wayL, List.range_succ, h]
abbrev inI (y : Int) : Prop := -9223372036854775808 ≤ y ∧ y ≤ 9223372036854775807
theorem wayL_at {p : List (Int × Int)} {x : Int} {m : Nat} (hm : ∀ i, i < m → ∃ y, climb p i x = some y ∧ inI y) (i : Nat) (hi : i < m) : ∃ y, ((wayL p x m).map (Value.int .i64))[i]? = some (.int .i64 y) ∧ inI y ∧ (Ends p x → Ends p y) := by
  obtain ⟨y, hy, hb⟩ := hm i hi
  refine ⟨y, ?_, hb, fun he => ends_down i hy he⟩
  simp [wayL, hi, hy]
theorem infoInt : (Try.prog.info? 3).map (fun i => (i.zero, i.size, i.bytes)) = some (some (.int .i64 0), 1, 8) := by kernel_rfl
set_option maxRecDepth 100000 in
set_option maxHeartbeats 4000000 in
theorem rooted_any (pb : Nat) (p : List (Int × Int)) (w : World) (hpb : MpI w pb p.length (parF p)) (hwf : ∀ x u, p.lookup x = some u → -9223372036854775808 ≤ u ∧ u ≤ 9223372036854775807) (hsz : p.length ≤ 1000000) :
    Calls Try.prog 58 #[.map (some pb)] w (RetB w (Acy p)) := by
  have HPB := Lib.hid hpb
  obtain ⟨D, hD, hDs, hDr⟩ := hpb
  have hpl := hD.lt
  have HD := Lib.hid hD; have HDR := Lib.hid hDr; have HWF := Lib.hid hwf; have HDS := Lib.hid hDs
  clear hD hDr hwf hDs
  have hmm := @run_makeMap Try.prog
  go_enter Try.func58, Try.ntmps58
  go_wp2_with (at_range; refine wpList_range_own _ rfl _ 106 rfl 3 3 lawI Try.underlying106 held pb p.length D rfl (HD.out.alloc _) ?_; intro w0 hrg0 hg0 hs0)
  go_frame
  have e1 : (w.alloc (Obj.map #[] 0)).heap.size = w.heap.size + 1 := by simp
  rw [e1] at hrg0 hs0
  have hfm := (Mp.made mkI w Try.prog 3).kept hg0 (by simp)
  have hfm0 : MpI w0 w.heap.size 0 (fineF fun _ => false) := hfm.congr (fun x => by simp [fineF])
  have hb0 : Below w.heap.size w w0 := ((Below.refl w.heap.size w).alloc (Nat.le_refl _) _).grown hg0 (by simp) (by simp)
  have HRG0 := Lib.hid hrg0; have HFM0 := Lib.hid hfm0; have HB0 := Lib.hid hb0
  have hdz : Maps.size D = p.length := HDS.out
  clear hrg0 hfm0 hb0 hfm hg0
  have HDZ := Lib.hid hdz; clear hdz
  simp only [e1]
  go_loopw [4] (fun _ wr => ∃ left cnt F s, Hid (wr.ranges Try.prog 3 held pb (w.heap.size + 1) p.length D left cnt) ∧ Hid (MpI wr w.heap.size s (fineF F)) ∧ Hid (Below w.heap.size w wr) ∧ Hid (∀ x, F x = true → Ends p x) ∧
    Hid (∀ x, Maps.has D (mkI x) = true → left (mkI x) = false → Ends p x) ∧ Hid (s + cnt * (p.length + 1) ≤ p.length * (p.length + 1)) ∧ w.heap.size + 2 ≤ wr.heap.size) (fun _ wr => wr.rangeLeft pb (w.heap.size + 1))
  case atStart => exact ⟨Maps.has D, Maps.size D, fun _ => false, 0, HRG0, HFM0, HB0, Lib.hid (by simp), Lib.hid (fun x h1 h2 => by rw [h1] at h2; cases h2), Lib.hid (by rw [HDZ.out]; omega), by omega⟩
  case round =>
    obtain ⟨left, cnt, F, s, hrg, hfm, hbel, hF, hleft, hcnt, hws⟩ := hrel
    go_wp2_with (at_next; refine wpList_next_h _ rfl _ rfl lawI Try.underlying3 pb (w.heap.size + 1) p.length D left cnt rfl hrg.out ?_ ?_)
    · intro hc0 hl0
      have HL := Lib.hid hl0
      clear hl0
      go_wp2
      go_ret
      exact RetB.yes (acy_of_keys fun x hx => hleft.out x (by rw [(HDR.out x).1]; simpa [parF] using hx) (HL.out _)) hbel.out
    · intro x v w1 cnt1 hwx hlx hrg1 hlt1 hg1 hs1 hen
      have hx := wf_int hwx
      have hmul : p.length * (p.length + 1) ≤ 1000001000000 := Nat.le_trans (Nat.mul_le_mul hsz (Nat.succ_le_succ hsz)) (by decide)
      have hsb : s ≤ 1000001000000 := by have := hcnt.out; omega
      clear hmul
      have hfm1 := hfm.out.kept hg1 (by simp)
      have hb1 : Below w.heap.size w w1 := hbel.out.grown hg1 hbel.out.size (by simp)
      have hla := hrg.out.left_eq
      have HLA := Lib.hid hla
      have HG1 := Lib.hid hg1; have HRG1 := Lib.hid hrg1; have HFM1 := Lib.hid hfm1; have HB1 := Lib.hid hb1
      have hws1 : w.heap.size + 2 ≤ w1.heap.size := by omega
      have hleft1 : Ends p x → ∀ y, Maps.has D (mkI y) = true → (left (mkI y) && !(mkI y).sameKey (mkI x)) = false → Ends p y := by
        intro hex y hy hl
        cases hly : left (mkI y) with
        | false => exact hleft.out y hy hly
        | true =>
          rw [hly] at hl
          simp at hl
          have := mkI_inj _ _ (WideAt.sameKey_eq hl)
          rw [this]; exact hex
      have HL1 := Lib.hid hleft1
      clear hg1 hrg1 hfm1 hb1 hwx hlx hrg hfm hbel hla hleft1 hleft hs1
      go_wp2
      go_loopw [5, 6] (fun wy at' wr => ∃ (m : Nat) (aw : Option Addr) (cw : Nat) (cur : Int), m ≤ p.length ∧ wy = .slice aw m cw ∧ at' = .int .i64 cur ∧ Hid (wr.ranges Try.prog 3 held pb (w.heap.size + 1) p.length D (fun z => left z && !z.sameKey (mkI x)) cnt1) ∧ Hid (MpI wr w.heap.size s (fineF F)) ∧ Hid (Below w.heap.size w wr) ∧
        Hid (wr.ownsRow (w.heap.size + 2) 3 1 (.slice aw m cw) m ((wayL p x m).map (Value.int .i64))) ∧ Hid (climb p m x = some cur) ∧ Hid (∀ i, i < m → ∃ y, climb p i x = some y ∧ inI y) ∧ w.heap.size + 2 ≤ wr.heap.size ∧ -9223372036854775808 ≤ cur ∧ cur ≤ 9223372036854775807) (fun wy _ _ => p.length + 1 - slLen wy)
      case atStart => exact ⟨0, none, 0, x, Nat.zero_le _, rfl, rfl, HRG1, HFM1, HB1, Lib.hid (World.ownsRow_nil _ _ _ _), Lib.hid rfl, Lib.hid (fun i hi => by omega), hws1, hx.1, hx.2⟩
      case round =>
        obtain ⟨m, aw, cw, cur, hm, rfl, rfl, hrg2, hfm2, hbel2, hway, hcl, hpre, hws2, hcur1, hcur2⟩ := hrel
        have HKEY := Lib.hid (key_int (P := Try.prog) Try.underlying3 hcur1 hcur2)
        cases hFc : F cur with
        | true =>
          have HV : Hid ((fineF F cur).getD (.int .i64 0) = .int .i64 1) := Lib.hid (by simp [fineF, hFc])
          have HEX : Hid (Ends p x) := Lib.hid (ends_up m hcl.out (hF.out cur hFc))
          clear hFc
          go_wp2_with (at_lookup; refine wpList_mp_look_v rfl _ _ 106 rfl 3 lawI Try.underlying106 (zeroInt _) rfl hfm2.out _ cur rfl HKEY.out _ HV.out ?_)
          have hwl := own_isSl hway.out
          have HWL := Lib.hid hwl
          have hMc := hwl.2.1; have hMx := hwl.2.2.1
          unfold maxLen at hMx
          clear hwl
          go_loopw [43] (fun i wr3 => ∃ (k : Nat) (F' : Int → Bool) (s' : Nat), k ≤ m ∧ i = .int .i64 k ∧ Hid (wr3.ranges Try.prog 3 held pb (w.heap.size + 1) p.length D (fun z => left z && !z.sameKey (mkI x)) cnt1) ∧ Hid (MpI wr3 w.heap.size s' (fineF F')) ∧ Hid (Below w.heap.size w wr3) ∧
            Hid (wr3.ownsRow (w.heap.size + 2) 3 1 (.slice aw m cw) m ((wayL p x (m)).map (Value.int .i64))) ∧ Hid (∀ x, F' x = true → Ends p x) ∧ s' ≤ s + k ∧ w.heap.size + 2 ≤ wr3.heap.size) (fun i _ => m - (intOf i).toNat)
          case atStart => exact ⟨0, F, s, Nat.zero_le _, rfl, hrg2, hfm2, hbel2, hway, hF, by omega, hws2⟩
          case round =>
            obtain ⟨k, F', s', hk, rfl, hrg3, hfm3, hbel3, hway3, hF3, hs3, hws3⟩ := hrel
            by_cases hlt : k < m
            · obtain ⟨y, hy, hyb, hye⟩ := wayL_at hpre.out k hlt
              obtain ⟨bq, oq, rfl, hcell⟩ := (own_isSl hway3.out).2.2.2.1.at k _ hy
              have HYE := Lib.hid (hye HEX.out)
              have HKY := Lib.hid (key_int (P := Try.prog) Try.underlying3 hyb.1 hyb.2)
              have hwb := (hway3.out.lt bq rfl).1
              clear hy hye hyb
              go_wp2_with (at_mapUpdate; refine wpList_mp_put rfl _ _ _ 106 rfl 3 lawI Try.underlying106 rfl hfm3.out (by unfold maxLen; omega) _ y rfl HKY.out _ rfl mkI_inj ?_; intro w5 hm5 hg5)
              have hs5 : ∃ s5, s5 ≤ s' + 1 ∧ MpI w5 w.heap.size s5 (fineF fun z => F' z || z == y) := by
                refine ⟨_, ?_, hm5.congr (fineF_upd F' y)⟩
                split <;> omega
              obtain ⟨s5, hs5, hm6⟩ := hs5
              exact ⟨⟨k + 1, fun z => F' z || z == y, s5, by omega, by go_num, Lib.hid (hrg3.out.kept hg5 (by simp; omega) (by simp)), Lib.hid hm6, Lib.hid (hbel3.out.grown hg5 hbel3.out.size (fun j hj => by cases hj; exact Nat.le_refl _)), Lib.hid (hway3.out.kept hg5 (by right; simp [Value.ownBlock]; omega)), Lib.hid (fun z hz => by simp at hz; rcases hz with hz | hz; exact hF3.out z hz; rw [hz]; exact HYE.out), by omega, by have := hg5.size; omega⟩, by simp [intOf]; omega⟩
            · obtain rfl : k = m := by omega
              have hcs := cnt_step hlt1 hcnt.out
              have HCS := Lib.hid hcs
              clear hcs
              go_wp2
              exact ⟨⟨_, cnt1, F', s', hrg3, hfm3, hbel3, hF3, Lib.hid (HL1.out HEX.out), Lib.hid (by have := HCS.out; omega), hws3⟩, by rw [hrg3.out.left_eq, HLA.out]; exact hlt1⟩
        | false =>
          have HV : Hid ((fineF F cur).getD (.int .i64 0) = .int .i64 0) := Lib.hid (by simp [fineF, hFc])
          clear hFc
          go_upto_region 9 with (first
            | (at_lookup; refine wpList_mp_look_v rfl _ _ 106 rfl 3 lawI Try.underlying106 (zeroInt _) rfl hfm2.out _ cur rfl HKEY.out _ HV.out ?_)
            | (at_builtin; refine wpList_app rfl _ _ 85 rfl (w.heap.size + 2) 3 _ 1 8 Try.underlying85 infoInt rfl (by decide) (by decide) rfl (hway.out.alloc _) rfl (isSl_new wr 3 1 1 _ rfl (by decide)) (by simp [Value.oneCell']) (by omega) (by simp; omega) ?_; intro a4 c4 w4 ho4 hg4))
          have hnp : ∀ c, c < w.heap.size + 2 → some c ≠ (Value.slice aw m cw).ownBlock := fun c hc e => by have := (hway.out.lt _ e.symm).1; omega
          have hr4 := (hrg2.out.kept (World.grownBy_alloc wr (.cells #[.int .i64 cur] 3) none) (by simp) (by simp)).kept hg4 (hnp _ (by omega)) (hnp _ (by omega))
          have hf4 := (hfm2.out.kept (World.grownBy_alloc wr (.cells #[.int .i64 cur] 3) none) (by simp)).kept hg4 (hnp _ (by omega))
          have hb4 := below_app (hbel2.out.alloc hbel2.out.size (.cells #[.int .i64 cur] 3)) (hway.out.alloc _) hg4 (by omega) (by simp; omega)
          have hw4 : w4.ownsRow (w.heap.size + 2) 3 1 (.slice a4 (m + 1) c4) (m + 1) ((wayL p x (m + 1)).map (Value.int .i64)) := by
            rw [wayL_succ hcl.out, List.map_append]
            exact ho4
          have hp4 : ∀ i, i < m + 1 → ∃ y, climb p i x = some y ∧ inI y := fun i hi => by
            by_cases him : i < m
            · exact hpre.out i him
            · obtain rfl : i = m := by omega
              exact ⟨cur, hcl.out, hcur1, hcur2⟩
          have hws4 : w.heap.size + 2 ≤ w4.heap.size := by have := hg4.size; simp at this; omega
          have HR4 := Lib.hid hr4; have HF4 := Lib.hid hf4; have HB4 := Lib.hid hb4; have HW4 := Lib.hid hw4; have HP4 := Lib.hid hp4
          have hmp4 := HPB.out.below hb4 hpl
          have HM4 := Lib.hid hmp4
          have hlen := fun ty => hmp4.run_len Try.underlying106 ty
          clear hr4 hf4 hb4 hw4 hp4 ho4 hg4 hnp hmp4
          cases hlk : p.lookup cur with
          | none =>
            have HQ : Hid ((parF p cur).getD (.int .i64 0) = .int .i64 0) := Lib.hid (by simp [parF, hlk])
            have HQ2 : Hid ((parF p cur).isSome = false) := Lib.hid (by simp [parF, hlk])
            have HEX : Hid (Ends p x) := Lib.hid ⟨m + 1, by rw [climb_succ p m x cur hcl.out]; exact hlk⟩
            clear hlk
            go_wp2_with (at_lookup; refine wpList_mp_look_ok_v rfl _ _ 106 rfl 3 lawI Try.underlying106 (zeroInt _) rfl HM4.out _ cur rfl HKEY.out _ _ HQ.out HQ2.out ?_)
            have hwl := own_isSl HW4.out
            have HWL := Lib.hid hwl
            have hMc := hwl.2.1; have hMx := hwl.2.2.1
            unfold maxLen at hMx
            clear hwl
            go_loopw [43] (fun i wr3 => ∃ (k : Nat) (F' : Int → Bool) (s' : Nat), k ≤ m + 1 ∧ i = .int .i64 k ∧ Hid (wr3.ranges Try.prog 3 held pb (w.heap.size + 1) p.length D (fun z => left z && !z.sameKey (mkI x)) cnt1) ∧ Hid (MpI wr3 w.heap.size s' (fineF F')) ∧ Hid (Below w.heap.size w wr3) ∧
              Hid (wr3.ownsRow (w.heap.size + 2) 3 1 (.slice a4 (m + 1) c4) (m + 1) ((wayL p x (m + 1)).map (Value.int .i64))) ∧ Hid (∀ x, F' x = true → Ends p x) ∧ s' ≤ s + k ∧ w.heap.size + 2 ≤ wr3.heap.size) (fun i _ => m + 1 - (intOf i).toNat)
            case atStart => exact ⟨0, F, s, Nat.zero_le _, rfl, HR4, HF4, HB4, HW4, hF, by omega, hws4⟩
            case round =>
              obtain ⟨k, F', s', hk, rfl, hrg3, hfm3, hbel3, hway3, hF3, hs3, hws3⟩ := hrel
              by_cases hlt : k < m + 1
              · obtain ⟨y, hy, hyb, hye⟩ := wayL_at HP4.out k hlt
                obtain ⟨bq, oq, rfl, hcell⟩ := (own_isSl hway3.out).2.2.2.1.at k _ hy
                have HYE := Lib.hid (hye HEX.out)
                have HKY := Lib.hid (key_int (P := Try.prog) Try.underlying3 hyb.1 hyb.2)
                have hwb := (hway3.out.lt bq rfl).1
                clear hy hye hyb
                go_wp2_with (at_mapUpdate; refine wpList_mp_put rfl _ _ _ 106 rfl 3 lawI Try.underlying106 rfl hfm3.out (by unfold maxLen; omega) _ y rfl HKY.out _ rfl mkI_inj ?_; intro w5 hm5 hg5)
                have hs5 : ∃ s5, s5 ≤ s' + 1 ∧ MpI w5 w.heap.size s5 (fineF fun z => F' z || z == y) := by
                  refine ⟨_, ?_, hm5.congr (fineF_upd F' y)⟩
                  split <;> omega
                obtain ⟨s5, hs5, hm6⟩ := hs5
                exact ⟨⟨k + 1, fun z => F' z || z == y, s5, by omega, by go_num, Lib.hid (hrg3.out.kept hg5 (by simp; omega) (by simp)), Lib.hid hm6, Lib.hid (hbel3.out.grown hg5 hbel3.out.size (fun j hj => by cases hj; exact Nat.le_refl _)), Lib.hid (hway3.out.kept hg5 (by right; simp [Value.ownBlock]; omega)), Lib.hid (fun z hz => by simp at hz; rcases hz with hz | hz; exact hF3.out z hz; rw [hz]; exact HYE.out), by omega, by have := hg5.size; omega⟩, by simp [intOf]; omega⟩
              · obtain rfl : k = m + 1 := by omega
                have hcs := cnt_step hlt1 hcnt.out
                have HCS := Lib.hid hcs
                clear hcs
                go_wp2
                exact ⟨⟨_, cnt1, F', s', hrg3, hfm3, hbel3, hF3, Lib.hid (HL1.out HEX.out), Lib.hid (by have := HCS.out; omega), hws3⟩, by rw [hrg3.out.left_eq, HLA.out]; exact hlt1⟩
          | some u =>
            have HQ : Hid ((parF p cur).getD (.int .i64 0) = .int .i64 u) := Lib.hid (by simp [parF, hlk])
            have HQ2 : Hid ((parF p cur).isSome = true) := Lib.hid (by simp [parF, hlk])
            have hwu := HWF.out cur u hlk
            have hcu : climb p (m + 1) x = some u := by rw [climb_succ p m x cur hcl.out]; exact hlk
            have HCU := Lib.hid hcu
            clear hlk hcu
            by_cases hbig : p.length < m + 1
            · have HNA : Hid (¬ Acy p) := Lib.hid (fun ha => by
                have h1 := ends_bound (ha x)
                have h2 := HCU.out
                obtain rfl : m = p.length := by omega
                rw [h1] at h2; cases h2)
              go_wp2_with (at_lookup; refine wpList_mp_look_ok_v rfl _ _ 106 rfl 3 lawI Try.underlying106 (zeroInt _) rfl HM4.out _ cur rfl HKEY.out _ _ HQ.out HQ2.out ?_)
              go_ret
              exact RetB.no HNA.out HB4.out
            · go_wp2_with (at_lookup; refine wpList_mp_look_ok_v rfl _ _ 106 rfl 3 lawI Try.underlying106 (zeroInt _) rfl HM4.out _ cur rfl HKEY.out _ _ HQ.out HQ2.out ?_)
              exact ⟨⟨m + 1, a4, c4, u, by omega, rfl, rfl, HR4, HF4, HB4, HW4, HCU, HP4, hws4, hwu.1, hwu.2⟩, by simp [slLen]; omega⟩
end Gr
end Go.Proofs.Ytpdkdhcbibcifaa
namespace Go.Proofs.Ytpdkdhcbibcifaa
set_option linter.unusedVariables false
set_option linter.unusedSimpArgs false
open Go.ChangeShapes Go.WideShapes Go.ChangeAt Go.RowKit
open Go.Maps (Keyed)
namespace Gr
abbrev gOf (S : List NdS) : List Nd := S.map (·.1)
theorem ptr_take {b off : Nat} {S : List NdS} {k : Nat} {x : NdS} (hx : S[k]? = some x) (hn : ∀ y ∈ S.take k, y.1.id ≠ x.1.id) (z : Int) : upd (ptrAt b off (S.take k)) x.1.id (.pointer (some ⟨b, off + k * 10, none⟩)) z = ptrAt b off (S.take (k + 1)) z := by
  obtain ⟨hk, e⟩ := List.getElem?_eq_some_iff.1 hx
  unfold upd ptrAt
  rw [List.take_succ_eq_append_getElem hk, e, List.findIdx?_append]
  have hl : (S.take k).length = k := by simp; omega
  by_cases hz : z = x.1.id
  · subst hz
    rw [if_pos rfl]
    have : (S.take k).findIdx? (fun y => y.1.id == x.1.id) = none := by
      rw [List.findIdx?_eq_none_iff]
      intro y hy
      simpa using hn y hy
    rw [this]
    simp [List.findIdx?_cons, hl]
  · rw [if_neg hz]
    have h2 : List.findIdx? (fun y : NdS => y.1.id == z) [x] = none := by
      simp [List.findIdx?_cons]
      exact fun e => hz e.symm
    rw [h2]
    simp
theorem ptr_fresh {b off : Nat} {S : List NdS} {k : Nat} {x : NdS} (hn : ∀ y ∈ S.take k, y.1.id ≠ x.1.id) : (ptrAt b off (S.take k) x.1.id).isSome = false := by
  unfold ptrAt
  have : (S.take k).findIdx? (fun y => y.1.id == x.1.id) = none := by
    rw [List.findIdx?_eq_none_iff]
    intro y hy
    simpa using hn y hy
  rw [this]; rfl
theorem enterE_len {g : List Nd} {pid : Int} : ∀ {es : List (Bt × Int)} {last : Bt} {p p' : List (Int × Int)}, enterE g pid es last p = some p' → p'.length ≤ p.length + es.length ∧ ∀ x ∈ p', x ∈ p ∨ x.2 = pid
  | [], _, p, p', h => by simp only [enterE, Option.some.injEq] at h; subst h; exact ⟨by simp, fun x hx => Or.inl hx⟩
  | (nm, id) :: es, last, p, p', h => by
    unfold enterE at h
    cases hn : nodeOf g id with
    | none => rw [hn] at h; cases h
    | some t =>
      rw [hn] at h
      simp only at h
      split at h
      · cases h
      · split at h
        · obtain ⟨h1, h2⟩ := enterE_len h
          exact ⟨by simp; omega, h2⟩
        · split at h
          · cases h
          · obtain ⟨h1, h2⟩ := enterE_len h
            refine ⟨by simp at h1 ⊢; omega, fun x hx => ?_⟩
            rcases h2 x hx with h3 | h3
            · rcases List.mem_append.1 h3 with h4 | h4
              · exact Or.inl h4
              · simp at h4; subst h4; exact Or.inr rfl
            · exact Or.inr h3
/-- what read hands back -/
def ReadRes (w : World) (b off : Nat) (S : List NdS) (r : Ending) (w' : World) : Prop :=
  ∃ bm ok, r = .returned (.tuple #[bm, .bool ok]) ∧ Below w.heap.size w w' ∧ (ok = true ↔ Chk (gOf S)) ∧ (ok = true → ∃ bb, bm = .map (some bb) ∧ w.heap.size ≤ bb ∧ MpI w' bb S.length (ptrAt b off S))
theorem ReadRes.no {w w' : World} {b off : Nat} {S : List NdS} (bm : Value) (h : ¬ Chk (gOf S)) (hb : Below w.heap.size w w') : ReadRes w b off S (.returned (.tuple #[bm, .bool false])) w' := ⟨bm, false, rfl, hb, by simp [h], by simp⟩
/-- what is asked of the numbers of a graph in memory -/
structure NdNum (S : List NdS) : Prop where
  id : ∀ x ∈ S, inI x.1.id
  ent : ∀ x ∈ S, ∀ e ∈ x.1.ents, inI e.2
  len : ∀ x ∈ S, x.2.2.2.1 ≤ 140737488355328
theorem drop_get {α : Type} {l : List α} {k : Nat} {x : α} (h : l[k]? = some x) : l.drop k = x :: l.drop (k + 1) := by
  obtain ⟨hk, e⟩ := List.getElem?_eq_some_iff.1 h
  rw [List.drop_eq_getElem_cons hk, e]
theorem box_below {w wr : World} {cs : Array Value} {t : TypeId} (h : Below (w.heap.size + 1) (w.alloc (.cells cs t)) wr) : Below w.heap.size w wr :=
  ((Below.refl w.heap.size w).alloc (Nat.le_refl _) _).trans (h.mono (by omega))
theorem box_cell1 {w wr : World} {cs : Array Value} {t : TypeId} (h : Below (w.heap.size + 1) (w.alloc (.cells cs t)) wr) (j : Nat) {v : Value} (hv : cs[j]? = some v) : wr.cell? ⟨w.heap.size, j, none⟩ = some v := by
  rw [h.cell (p := ⟨w.heap.size, j, none⟩) (by simp), World.cell?_alloc_new]
  exact hv
set_option maxRecDepth 100000 in
set_option maxHeartbeats 4000000 in
theorem read_any (a : Option Addr) (n c b off : Nat) (S : List NdS) (w : World) (hS : Nds w a n c S) (ha : S ≠ [] → a = some ⟨b, off, none⟩) (hN : NdNum S) :
    Calls Try.prog 46 #[.agg #[.slice a n c]] w (ReadRes w b off S) := by
  have hl := hS.len; have hcap := hS.cap; have hmax := hS.max
  have HS := Lib.hid hS; have HA := Lib.hid ha; have HN := Lib.hid hN; have HL := Lib.hid hl
  have hmm := @run_makeMap Try.prog
  have hgl : (gOf S).length = n := by simp [gOf, hl]
  have HGL := Lib.hid hgl
  clear hS ha hN hl hgl
  by_cases hbig : 4096 < n
  · have HNC : Hid (¬ Chk (gOf S)) := Lib.hid (fun h => by have := h.1; rw [HGL.out] at this; omega)
    go_enter Try.func46, Try.ntmps46
    go_wp2
    go_ret2
    exact ReadRes.no _ HNC.out ((Below.refl _ _).alloc (Nat.le_refl _) _)
  · go_enter Try.func46, Try.ntmps46
    go_wp2
    have hb0 : Below (w.heap.size + 1) (w.alloc (.cells #[.slice a n c] 43)) ((w.alloc (.cells #[.slice a n c] 43)).alloc (.map #[] 0)) := (Below.refl _ _).alloc (by simp) _
    have hm0 : MpI ((w.alloc (.cells #[.slice a n c] 43)).alloc (.map #[] 0)) (w.heap.size + 1) 0 (ptrAt b off (S.take 0)) := by
      have h1 := Mp.made mkI (w.alloc (.cells #[.slice a n c] 43)) Try.prog 3
      have e1 : (w.alloc (.cells #[.slice a n c] 43)).heap.size = w.heap.size + 1 := by simp
      rw [e1] at h1
      exact h1.congr (fun x => by simp [ptrAt])
    have HB0 := Lib.hid hb0; have HM0 := Lib.hid hm0
    clear hb0 hm0
    go_loopw [5, 6, 19] (fun lv ev i wr => ∃ (k : Nat) (last : Int) (E : Nat), k ≤ n ∧ i = .int .i64 k ∧ lv = .int .i64 last ∧ ev = .int .i64 E ∧ Hid (MpI wr (w.heap.size + 1) k (ptrAt b off (S.take k))) ∧ Hid (Below (w.heap.size + 1) (w.alloc (.cells #[.slice a n c] 43)) wr) ∧
      Hid (Rising 0 (gOf S) ↔ Rising last ((gOf S).drop k)) ∧ Hid (entSum (gOf S) = E + entSum ((gOf S).drop k)) ∧ Hid (∀ y ∈ S.take k, y.1.id ≤ last) ∧ Hid (E ≤ k * 140737488355328) ∧ w.heap.size + 2 ≤ wr.heap.size) (fun _ _ i _ => n - (intOf i).toNat)
    case atStart => exact ⟨0, 0, 0, Nat.zero_le _, rfl, rfl, rfl, HM0, HB0, Lib.hid (by simp), Lib.hid (by simp), Lib.hid (by simp), Lib.hid (by omega), by simp⟩
    case round =>
      obtain ⟨k, last, E, hk, rfl, rfl, rfl, hmp, hbel, hri, hes, hle, hE, hws⟩ := hrel
      have hbx := box_cell1 hbel.out 0 rfl
      by_cases hlt : k < n
      · obtain ⟨x, hxk⟩ := get_some (S := S) (k := k) (by have := HL.out; omega)
        have hbw := box_below hbel.out
        have hkp := Below.keeps hbw
        obtain ⟨b', off', ha', hrow⟩ := (HS.out.keep hkp).at k x hxk
        have h2 := HA.out (by rintro rfl; simp at hxk)
        rw [ha'] at h2
        simp only [Option.some.injEq, Addr.mk.injEq, and_true] at h2
        obtain ⟨rfl, rfl⟩ := h2
        subst ha'
        have hSk := HS.out.keep hkp
        have hdx := hSk.dat x (mem_get hxk)
        have hex := hSk.ent x (mem_get hxk)
        have hgk : (gOf S)[k]? = some x.1 := by simp [gOf, hxk]
        have hdr := drop_get hgk
        have hR := hri.out
        rw [hdr] at hR
        simp only [Rising] at hR
        have hEs := hes.out
        rw [hdr] at hEs
        simp only [entSum] at hEs
        have hidb := HN.out.id x (mem_get hxk)
        have hlenb := HN.out.len x (mem_get hxk)
        have hel := hex.len
        have hcl : x.2.2.2.1 ≤ x.2.2.2.2 := hex.cap
        have HSO := Lib.hid (fun w' (hb : Below wr.heap.size wr w') => sound_any b' (off' + k * 10) x w' (range_keep hrow (Below.keeps hb)) ((Below.keeps hb).bs hdx) ((Below.keeps hb).sl hex))
        have HKEY := Lib.hid (key_int (P := Try.prog) Try.underlying3 hidb.1 hidb.2)
        have hpt := fun hn => ptr_take (b := b') (off := off') hxk hn
        have hpf := fun hn => ptr_fresh (b := b') (off := off') (S := S) (k := k) (x := x) hn
        have HPT := Lib.hid hpt; have HPF := Lib.hid hpf
        have hgr : Rising 0 (gOf S) → ¬ (x.1.id ≤ last) ∧ ¬ 1099511627776 < x.1.id ∧ sound x.1 = true := fun h => by have := hR.1 h; exact ⟨by omega, by omega, this.2.2.1⟩
        have HGR := Lib.hid hgr
        have HR := Lib.hid hR; have HES := Lib.hid hEs
        have c0 : wr.cell? ⟨b', off' + k * 10, none⟩ = some (.int .i64 x.1.id) := range_cell hrow 0 rfl
        have c9 : wr.cell? ⟨b', off' + k * 10 + 9, none⟩ = some (.slice x.2.2.1 x.2.2.2.1 x.2.2.2.2) := range_cell hrow 9 rfl
        have HLE := Lib.hid hle.out
        have HC0 := Lib.hid c0; have HC9 := Lib.hid c9
        have hmem : ∀ y ∈ S.take (k + 1), y ∈ S.take k ∨ y = x := fun y hy => by
          obtain ⟨hk', e⟩ := List.getElem?_eq_some_iff.1 hxk
          rw [List.take_succ_eq_append_getElem hk', e] at hy
          simpa using hy
        have HMEM := Lib.hid hmem
        have hbw' := hbw.size
        have HBW := Lib.hid hbw
        have hE2 : E ≤ k * 140737488355328 := hE.out
        have hE3 : E ≤ 4096 * 140737488355328 := Nat.le_trans hE2 (Nat.mul_le_mul_right _ (by omega))
        have HE2 := Lib.hid hE2
        clear hxk hrow hSk hdx hgk hdr hR hEs hpt hpf hgr hri hes hle hkp hbw hidb hex hmem hE hE2
        obtain ⟨xi, hxi⟩ : ∃ xi, x.1.id = xi := ⟨_, rfl⟩
        have HXI := Lib.hid hxi
        rw [hxi] at HGR HR c0 HC0 HKEY HPT HPF
        clear hxi
        generalize x.2.2.1 = xa at *
        generalize x.2.2.2.1 = xn at *
        generalize x.2.2.2.2 = xc at *
        generalize sound x.1 = sx at *
        by_cases h1 : xi ≤ last
        · have HNC : Hid (¬ Chk (gOf S)) := Lib.hid (fun h => (HGR.out h.2.1).1 h1)
          go_wp2
          go_ret2
          exact ReadRes.no _ HNC.out HBW.out
        · by_cases h2 : 1099511627776 < xi
          · have HNC : Hid (¬ Chk (gOf S)) := Lib.hid (fun h => (HGR.out h.2.1).2.1 h2)
            go_wp2
            go_ret2
            exact ReadRes.no _ HNC.out HBW.out
          · cases sx with
            | false =>
              have HNC : Hid (¬ Chk (gOf S)) := Lib.hid (fun h => by have := (HGR.out h.2.1).2.2; cases this)
              go_wp2_with (go_at_call 56; (refine (HSO.out _ (by exact Below.refl _ _)).mono ?_); rintro r w4 ⟨rfl, hb4⟩)
              go_ret2
              exact ReadRes.no _ HNC.out (Below.seq HBW.out hb4)
            | true =>
              have hne : ∀ y ∈ S.take k, y.1.id ≠ xi := fun y hy e => by have := HLE.out y hy; omega
              have HFR := Lib.hid (HPF.out hne)
              have HUP := Lib.hid (HPT.out hne)
              have hle2 : ∀ y ∈ S.take (k + 1), y.1.id ≤ xi := fun y hy => by
                rcases HMEM.out y hy with h | h
                · have := HLE.out y h; omega
                · subst h; have := HXI.out; omega
              have HLE2 := Lib.hid hle2
              have hri2 : Rising 0 (gOf S) ↔ Rising xi ((gOf S).drop (k + 1)) := by
                rw [HR.out]
                exact ⟨fun h => h.2.2.2, fun h => ⟨by omega, by omega, rfl, h⟩⟩
              have HRI2 := Lib.hid hri2
              clear hne hle2 hri2
              go_wp2_with (first
                | (go_at_call 56; (refine (HSO.out _ (by exact Below.refl _ _)).mono ?_); rintro r w4 ⟨rfl, hb4⟩; have HM4 := Lib.hid (hmp.out.kept (below_grown hb4 none) (by simp)); have d0 := Below.keeps hb4 _ _ HC0.out; have d9 := Below.keeps hb4 _ _ HC9.out; have dx := Below.keeps hb4 _ _ hbx; have HB4 := Lib.hid (hbel.out.trans (hb4.mono (by omega))))
                | (at_mapUpdate; refine wpList_mp_put rfl _ _ _ 65 rfl 66 lawI Try.underlying65 rfl HM4.out (by unfold maxLen; omega) _ xi rfl HKEY.out _ rfl mkI_inj ?_; intro w5 hm5 hg5; have f0 := HM4.out.keeps hg5 _ _ d0; have f9 := HM4.out.keeps hg5 _ _ d9; have fx := HM4.out.keeps hg5 _ _ dx; rw [HFR.out] at hm5; have HM5 := Lib.hid (hm5.congr HUP.out); have HB5 := Lib.hid (HB4.out.grown hg5 (by have := HB4.out.size; simp at this; omega) (fun j hj => by cases hj; exact Nat.le_refl _)); clear hm5))
              exact ⟨⟨k + 1, xi, E + xn, by omega, by go_num, rfl, by go_num, HM5, HB5, HRI2, Lib.hid (by rw [HES.out, ← hel]; omega), HLE2, Lib.hid (by have := HE2.out; omega), by have := hg5.size; have := hb4.size; omega⟩, by simp [intOf]; omega⟩
      · obtain rfl : k = n := by omega
        have hR := hri.out
        rw [List.drop_of_length_le (by rw [HGL.out]; omega)] at hR
        simp only [Rising, iff_true] at hR
        have hEs := hes.out
        rw [List.drop_of_length_le (by rw [HGL.out]; omega)] at hEs
        simp only [entSum, Nat.add_zero] at hEs
        have HR := Lib.hid hR; have HES := Lib.hid hEs
        have hmp2 := hmp.out
        rw [List.take_of_length_le (by have := HL.out; omega)] at hmp2
        have HM := Lib.hid hmp2
        have hE2 : E ≤ k * 140737488355328 := hE.out
        have hE3 : E ≤ 4096 * 140737488355328 := Nat.le_trans hE2 (Nat.mul_le_mul_right _ (by omega))
        clear hR hEs hri hes hle hE2 hE hmp2 hmp
        by_cases hev : 8192 < E
        · have HNC : Hid (¬ Chk (gOf S)) := Lib.hid (fun h => by have := h.2.2.1; rw [HES.out] at this; omega)
          have HBW := Lib.hid (box_below hbel.out)
          go_wp2
          go_ret2
          exact ReadRes.no _ HNC.out HBW.out
        · have hb3 := hbel.out.alloc (by have := hbel.out.size; simp at this; omega) (.map #[] 0)
          have hx3 := box_cell1 hb3 0 rfl
          have HM3 := Lib.hid (HM.out.kept (World.grownBy_alloc wr (.map #[] 0) none) (by simp))
          have hp3 : MpI (wr.alloc (.map #[] 0)) wr.heap.size ([] : List (Int × Int)).length (parF []) := (Mp.made mkI wr Try.prog 3).congr (fun x => by simp [parF])
          have HP3 := Lib.hid hp3; have HB3 := Lib.hid hb3
          clear hp3 hb3
          go_wp2
          have hpbw := hws
          generalize wr.heap.size = PB at *
          go_loopw [68] (fun i w5 => ∃ (j : Nat) (q : List (Int × Int)), j ≤ k ∧ i = .int .i64 j ∧ Hid (MpI w5 (w.heap.size + 1) k (ptrAt b off S)) ∧ Hid (MpI w5 PB q.length (parF q)) ∧ Hid (Below (w.heap.size + 1) (w.alloc (.cells #[.slice a k c] 43)) w5) ∧
            Hid (enterN (gOf S) (gOf S) [] = enterN (gOf S) ((gOf S).drop j) q) ∧ Hid (q.length + entSum ((gOf S).drop j) ≤ 8192) ∧ Hid (∀ x ∈ q, ∃ y ∈ S, x.2 = y.1.id)) (fun i _ => k - (intOf i).toNat)
          case atStart => exact ⟨0, [], Nat.zero_le _, rfl, HM3, HP3, HB3, Lib.hid (by simp), Lib.hid (by rw [List.drop_zero, HES.out]; simp; omega), Lib.hid (by simp)⟩
          case round =>
            obtain ⟨j, q, hj, rfl, hby, hpar, hbel5, hen, hql, hqv⟩ := hrel
            have hbx5 := box_cell1 hbel5.out 0 rfl
            have HBX5 := Lib.hid (box_below hbel5.out)
            by_cases hlt : j < k
            · obtain ⟨x, hxk⟩ := get_some (S := S) (k := j) (by have := HL.out; omega)
              have hSk := HS.out.keep (Below.keeps HBX5.out)
              obtain ⟨b', off', ha', hrow⟩ := hSk.at j x hxk
              have h2 := HA.out (by rintro rfl; simp at hxk)
              rw [ha'] at h2
              simp only [Option.some.injEq, Addr.mk.injEq, and_true] at h2
              obtain ⟨rfl, rfl⟩ := h2
              subst ha'
              have hgk : (gOf S)[j]? = some x.1 := by simp [gOf, hxk]
              have hdr := drop_get hgk
              have hE5 := hen.out
              rw [hdr] at hE5
              simp only [enterN] at hE5
              have hQ5 := hql.out
              rw [hdr] at hQ5
              simp only [entSum] at hQ5
              have HEN := Lib.hid (enter_any b' off' k c (some ⟨b', off', none⟩) S b' (off' + j * 10) (w.heap.size + 1) k PB x q wr hSk (fun _ => rfl) hrow (hSk.ent x (mem_get hxk)) hby.out hpar.out (by omega) (HN.out.ent x (mem_get hxk)) (by omega))
              have HLE := Lib.hid (fun p' h => enterE_len (g := gOf S) (pid := x.1.id) (es := x.1.ents) (last := []) (p := q) (p' := p') h)
              have HXM := Lib.hid (mem_get hxk)
              have HE5 := Lib.hid hE5; have HQ5 := Lib.hid hQ5
              clear hxk hSk hrow hgk hdr hE5 hQ5 hen hql
              generalize enterE (gOf S) x.1.id x.1.ents [] q = R at *
              cases R with
              | none =>
                have HNC : Hid (¬ Chk (gOf S)) := Lib.hid (fun h => by
                  obtain ⟨p, hp, _⟩ := h.2.2.2
                  rw [HE5.out] at hp; cases hp)
                go_wp2_with (go_at_call 57; (refine (HEN.out).mono ?_); rintro r w6 ⟨v, rfl, hg6, hv6, hm6⟩; obtain rfl : v = false := by { cases v with | false => rfl | true => simp at hv6 })
                go_ret2
                exact ReadRes.no _ HNC.out (HBX5.out.grown hg6 HBX5.out.size (fun z hz => by cases hz; omega))
              | some p' =>
                have HL5 := Lib.hid (HLE.out p' rfl)
                go_wp2_with (go_at_call 57; (refine (HEN.out).mono ?_); rintro r w6 ⟨v, rfl, hg6, hv6, hm6⟩; obtain rfl : v = true := by { cases v with | true => rfl | false => simp at hv6 })
                have hmm6 := hm6 p' rfl
                exact ⟨⟨j + 1, p', by omega, by go_num, Lib.hid (hby.out.kept hg6 (by simp; omega)), Lib.hid hmm6, Lib.hid (hbel5.out.grown hg6 (by have := hbel5.out.size; simp at this; omega) (fun z hz => by cases hz; omega)), HE5, Lib.hid (by have := HL5.out.1; have := HQ5.out; omega), Lib.hid (fun z hz => by
                  rcases HL5.out.2 z hz with h | h
                  · exact hqv.out z h
                  · exact ⟨x, HXM.out, h⟩)⟩, by simp [intOf]; omega⟩
            · obtain rfl : j = k := by omega
              have hE5 := hen.out
              rw [List.drop_of_length_le (by rw [HGL.out]; omega)] at hE5
              simp only [enterN] at hE5
              have HE5 := Lib.hid hE5
              have HRO := Lib.hid (rooted_any PB q wr hpar.out (fun z u hz => by
                obtain ⟨y, hy, e⟩ := hqv.out _ (lookup_mem hz)
                simp only at e
                rw [e]; exact HN.out.id y hy) (by have := hql.out; omega))
              clear hE5 hen
              go_wp2_with (go_at_call 58; (refine (HRO.out).mono ?_); rintro r w6 ⟨v, rfl, hv6, hb6⟩; have HV6 := Lib.hid hv6; clear hv6)
              go_ret2
              refine ⟨_, v, rfl, Below.seq HBX5.out hb6, ?_, fun _ => ⟨w.heap.size + 1, rfl, by omega, ?_⟩⟩
              · rw [HV6.out]
                constructor
                · intro h
                  exact ⟨by rw [HGL.out]; omega, HR.out, by rw [HES.out]; omega, q, HE5.out, h⟩
                · rintro ⟨_, _, _, p, hp, ha⟩
                  rw [HE5.out] at hp
                  cases hp
                  exact ha
              · rw [HL.out]
                exact hby.out.kept (below_grown hb6 none) (by simp)
end Gr
end Go.Proofs.Ytpdkdhcbibcifaa
namespace Go.Proofs.Ytpdkdhcbibcifaa
set_option linter.unusedVariables false
set_option linter.unusedSimpArgs false
open Go.ChangeShapes Go.WideShapes Go.ChangeAt Go.RowKit
open Go.Maps (Keyed)
namespace Gr
/-- may a tree be walked from root? -/
def Begin (g : List Nd) (root : Int) : Prop := Chk g ∧ ∃ t, nodeOf g root = some t ∧ t.kind = 2
def BeginRes (w : World) (b off : Nat) (S : List NdS) (root : Int) (r : Ending) (w' : World) : Prop :=
  ∃ bm np code, r = .returned (.tuple #[bm, np, .int .i64 code]) ∧ Below w.heap.size w w' ∧ (code = 0 ↔ Begin (gOf S) root) ∧
    (code = 0 → ∃ bb v, bm = .map (some bb) ∧ w.heap.size ≤ bb ∧ MpI w' bb S.length (ptrAt b off S) ∧ ptrAt b off S root = some v ∧ np = v)
theorem BeginRes.no {w w' : World} {b off : Nat} {S : List NdS} {root : Int} (bm np : Value) (code : Int) (h : ¬ Begin (gOf S) root) (hc : code ≠ 0) (hb : Below w.heap.size w w') : BeginRes w b off S root (.returned (.tuple #[bm, np, .int .i64 code])) w' :=
  ⟨bm, np, code, rfl, hb, ⟨fun e => absurd e hc, fun h' => absurd h' h⟩, fun e => absurd e hc⟩
set_option maxRecDepth 100000 in
set_option maxHeartbeats 4000000 in
theorem begin_any (a : Option Addr) (n c b off : Nat) (S : List NdS) (root : Int) (w : World) (hS : Nds w a n c S) (ha : S ≠ [] → a = some ⟨b, off, none⟩) (hN : NdNum S) (hr : inI root) :
    Calls Try.prog 31 #[.agg #[.slice a n c], .int .i64 root] w (BeginRes w b off S root) := by
  have HS := Lib.hid hS; have HA := Lib.hid ha
  have hb1 : Below w.heap.size w (w.alloc (.cells #[.slice a n c] 43)) := (Below.refl _ _).alloc (Nat.le_refl _) _
  have HB1 := Lib.hid hb1
  have HRD := Lib.hid (read_any a n c b off S (w.alloc (.cells #[.slice a n c] 43)) (hS.below hb1) ha hN)
  have HKEY := Lib.hid (key_int (P := Try.prog) Try.underlying3 hr.1 hr.2)
  clear hS ha hN hb1
  have HSW := Lib.hid (HS.out.below HB1.out)
  by_cases hc : Chk (gOf S)
  · cases hnode : nodeOf (gOf S) root with
    | none =>
      have HNB : Hid (¬ Begin (gOf S) root) := Lib.hid (fun h => by obtain ⟨_, t, ht, _⟩ := h; rw [hnode] at ht; cases ht)
      have HPT : Hid ((ptrAt b off S root).getD (.pointer none) = .pointer none) := Lib.hid (by rw [ptr_none hnode]; rfl)
      have HC := Lib.hid hc
      clear hnode hc
      go_enter Try.func31, Try.ntmps31
      go_wp2_with (first
        | (go_at_call 46; (refine (HRD.out).mono ?_); rintro r w2 ⟨bm, ok, rfl, hb2, hok, hmp⟩; obtain rfl : ok = true := hok.2 HC.out; obtain ⟨bb, rfl, hbb, hm2⟩ := hmp rfl; have HM2 := Lib.hid hm2; clear hmp hm2 hok)
        | (at_lookup; refine wpList_mp_look_v rfl _ _ 65 rfl 66 lawI Try.underlying65 (zeroPtr _) rfl HM2.out _ root rfl HKEY.out _ HPT.out ?_))
      go_ret3
      exact BeginRes.no _ _ _ HNB.out (by decide) (Below.seq HB1.out hb2)
    | some t =>
      obtain ⟨kk, x', hkk, rfl, hidt, hpt⟩ := ptr_some (b := b) (off := off) hnode
      have HPT : Hid ((ptrAt b off S root).getD (.pointer none) = .pointer (some ⟨b, off + kk * 10, none⟩)) := Lib.hid (by rw [hpt]; rfl)
      have HPS := Lib.hid hpt
      have hkind : ∀ w2, Below (w.alloc (.cells #[.slice a n c] 43)).heap.size (w.alloc (.cells #[.slice a n c] 43)) w2 → w2.cell? ⟨b, off + kk * 10 + 1, none⟩ = some (.int .i64 x'.1.kind) := fun w2 hb => by
        obtain ⟨b', off', ha', hr'⟩ := (HSW.out.keep (Below.keeps hb)).at kk x' hkk
        have h2 := HA.out (by rintro rfl; simp at hkk)
        rw [h2] at ha'
        simp only [Option.some.injEq, Addr.mk.injEq, and_true] at ha'
        obtain ⟨rfl, rfl⟩ := ha'
        exact range_cell hr' 1 rfl
      have HKD := Lib.hid hkind
      have hbe : Begin (gOf S) root ↔ x'.1.kind = 2 := ⟨fun ⟨_, t, ht, hk⟩ => by rw [hnode] at ht; cases ht; exact hk, fun h => ⟨hc, x'.1, hnode, h⟩⟩
      have HBE := Lib.hid hbe
      have HC := Lib.hid hc
      clear hnode hc hpt hkind hbe hkk hidt
      generalize x'.1.kind = kd at *
      by_cases hkd : kd = 2
      · have hk2 : (kd != 2) = false := bne_f hkd
        have HB := Lib.hid (HBE.out.2 hkd)
        clear hkd HBE
        go_enter Try.func31, Try.ntmps31
        go_wp2_with (first
          | (go_at_call 46; (refine (HRD.out).mono ?_); rintro r w2 ⟨bm, ok, rfl, hb2, hok, hmp⟩; obtain rfl : ok = true := hok.2 HC.out; obtain ⟨bb, rfl, hbb, hm2⟩ := hmp rfl; have HM2 := Lib.hid hm2; have hkc := HKD.out _ hb2; clear hmp hm2 hok)
          | (at_lookup; refine wpList_mp_look_v rfl _ _ 65 rfl 66 lawI Try.underlying65 (zeroPtr _) rfl HM2.out _ root rfl HKEY.out _ HPT.out ?_))
        go_ret3
        exact ⟨_, _, 0, rfl, Below.seq HB1.out hb2, by simp [HB.out], fun _ => ⟨bb, _, rfl, by simp at hbb; omega, HM2.out, HPS.out, rfl⟩⟩
      · have hk2 : (kd != 2) = true := bne_t hkd
        have HB := Lib.hid (fun h => hkd (HBE.out.1 h))
        clear hkd HBE
        go_enter Try.func31, Try.ntmps31
        go_wp2_with (first
          | (go_at_call 46; (refine (HRD.out).mono ?_); rintro r w2 ⟨bm, ok, rfl, hb2, hok, hmp⟩; obtain rfl : ok = true := hok.2 HC.out; obtain ⟨bb, rfl, hbb, hm2⟩ := hmp rfl; have HM2 := Lib.hid hm2; have hkc := HKD.out _ hb2; clear hmp hm2 hok)
          | (at_lookup; refine wpList_mp_look_v rfl _ _ 65 rfl 66 lawI Try.underlying65 (zeroPtr _) rfl HM2.out _ root rfl HKEY.out _ HPT.out ?_))
        go_ret3
        exact BeginRes.no _ _ _ HB.out (by decide) (Below.seq HB1.out hb2)
  · have HNB : Hid (¬ Begin (gOf S) root) := Lib.hid (fun h => hc h.1)
    have HC := Lib.hid hc
    clear hc
    go_enter Try.func31, Try.ntmps31
    go_wp2_with (go_at_call 46; (refine (HRD.out).mono ?_); rintro r w2 ⟨bm, ok, rfl, hb2, hok, hmp⟩; obtain rfl : ok = false := by { cases ok with | false => rfl | true => exact absurd (hok.1 rfl) HC.out }; clear hok hmp)
    go_ret3
    exact BeginRes.no _ _ _ HNB.out (by decide) (Below.seq HB1.out hb2)
end Gr
end Go.Proofs.Ytpdkdhcbibcifaa
namespace Go.Proofs.Ytpdkdhcbibcifaa
set_option linter.unusedVariables false
set_option linter.unusedSimpArgs false
open Go.ChangeShapes Go.WideShapes Go.ChangeAt Go.RowKit
namespace Gr
theorem own_stay {w w' : World} {base : Nat} {e : TypeId} {sz : Nat} {v : Value} {n : Nat} {xs : List Value} (h : w.ownsRow base e sz v n xs) (hk : ∀ k, v.ownBlock = some k → w'.heap[k]? = w.heap[k]?) : w'.ownsRow base e sz v n xs := by
  obtain ⟨h1, h2⟩ := h
  refine ⟨h1, ?_⟩
  rcases h2 with h2 | ⟨g, cap, cur, hv, hg, hh, r⟩
  · exact Or.inl h2
  · exact Or.inr ⟨g, cap, cur, hv, hg, by rw [hk g (by rw [hv]; rfl)]; exact hh, r⟩
theorem own_keep {w w' : World} {base : Nat} {e : TypeId} {sz : Nat} {v : Value} {n : Nat} {xs : List Value} (h : w.ownsRow base e sz v n xs) (hk : ∀ k, base ≤ k → k < w.heap.size → w'.heap[k]? = w.heap[k]?) : w'.ownsRow base e sz v n xs :=
  own_stay h fun k e => hk k (h.lt k e).1 (h.lt k e).2
theorem own_base {w : World} {base base' : Nat} {e : TypeId} {sz : Nat} {v : Value} {n : Nat} {xs : List Value} (h : w.ownsRow base e sz v n xs) (hb : base' ≤ base) : w.ownsRow base' e sz v n xs := by
  obtain ⟨h1, h2⟩ := h
  refine ⟨h1, ?_⟩
  rcases h2 with h2 | ⟨g, cap, cur, hv, hg, r⟩
  · exact Or.inl h2
  · exact Or.inr ⟨g, cap, cur, hv, Nat.le_trans hb hg, r⟩
/-- the block's row -/
theorem own_row {w : World} {B : Nat} {t : TypeId} {sz n : Nat} {v : Value} {xs : List Value} (h : w.ownsRow B t sz v n xs) {b : Nat} (hb : v.ownBlock = some b) : ∃ cur, w.heap[b]? = some (.cells cur t (0, 0)) := by
  rcases h.2 with ⟨rfl, _⟩ | ⟨g, cap, cur, rfl, _, hh, _⟩
  · simp [Value.ownBlock] at hb
  · simp only [Value.ownBlock, Option.some.injEq, Option.map_some] at hb
    subst hb
    exact ⟨cur, hh⟩
theorem own_ne_row {w : World} {B : Nat} {t t' : TypeId} {sz n : Nat} {v : Value} {xs : List Value} (h : w.ownsRow B t sz v n xs) {b : Nat} {cs : Array Value} {fr : Nat × Nat} (hr : w.heap[b]? = some (.cells cs t' fr)) (ht : t ≠ t') : v.ownBlock ≠ some b := by
  intro e
  obtain ⟨cur, hc⟩ := own_row h e
  rw [hr] at hc
  simp only [Option.some.injEq, Obj.cells.injEq] at hc
  exact ht hc.2.1.symm
theorem own_ne {w : World} {B B' : Nat} {t t' : TypeId} {sz sz' n n' : Nat} {v v' : Value} {xs ys : List Value} (h : w.ownsRow B t sz v n xs) (h' : w.ownsRow B' t' sz' v' n' ys) (ht : t ≠ t') {b : Nat} (h1 : v.ownBlock = some b) : v'.ownBlock ≠ some b := by
  obtain ⟨cur, hc⟩ := own_row h h1
  exact own_ne_row h' hc ht.symm
/-- a row of one's own behind a turn of another block -/
theorem own_grown {w w' : World} {B : Nat} {t : TypeId} {sz n : Nat} {v : Value} {xs : List Value} (h : w.ownsRow B t sz v n xs) {row : Option Nat} (hg : w.grownBy w' row) (hne : v.ownBlock = none ∨ v.ownBlock ≠ row) : w'.ownsRow B t sz v n xs :=
  own_stay h fun k hk => hg.block k (h.lt k hk).2 (by rcases hne with hn | hn; rw [hn] at hk; cases hk; exact fun e => hn (by rw [hk, e]))
theorem row_below {w w' : World} {b : Nat} {o : Obj} (h : w.heap[b]? = some o) (k : Below w.heap.size w w') : w'.heap[b]? = some o := by
  rw [k.block b (Array.getElem?_eq_some_iff.1 h).1]; exact h
theorem row_lt {w : World} {b : Nat} {o : Obj} (h : w.heap[b]? = some o) : b < w.heap.size := (Array.getElem?_eq_some_iff.1 h).1
theorem row_grown {w w' : World} {b : Nat} {o : Obj} {row : Option Nat} (h : w.heap[b]? = some o) (hg : w.grownBy w' row) (hne : some b ≠ row) : w'.heap[b]? = some o := by
  rw [hg.block b (row_lt h) hne]; exact h
theorem setCell_grown (w : World) (b j : Nat) (v : Value) : w.grownBy (w.setCell ⟨b, j, none⟩ v) (some b) :=
  ⟨rfl, rfl, rfl, by simp, fun k hk hne => RowKit.Below.heap_setCell _ _ _ _ (fun e => hne (by simp only at e; rw [e]))⟩
theorem setCell_row {w : World} {b j : Nat} {cs : Array Value} {t : TypeId} (h : w.heap[b]? = some (.cells cs t)) (v : Value) : (w.setCell ⟨b, j, none⟩ v).heap[b]? = some (.cells (cs.setIfInBounds j v) t) := by
  simp only [World.setCell]
  rw [Array.getElem?_modify, h]
  simp
theorem row_cell {w : World} {b : Nat} {cs : Array Value} {t : TypeId} (h : w.heap[b]? = some (.cells cs t)) (j : Nat) : w.cell? ⟨b, j, none⟩ = cs[j]? := by rw [cell_of_row _ _ _ _ _ _ h]
theorem row_froz {w : World} {b : Nat} {cs : Array Value} {t : TypeId} (h : w.heap[b]? = some (.cells cs t)) (j : Nat) : w.frozen? ⟨b, j, none⟩ = false := frozen_of_row _ _ _ _ _ h
theorem Mp.ne_own {κ : Type} {mk : κ → Lit} {P : Program} {k : TypeId} {w : World} {b s : Nat} {f : κ → Option Value} (h : Mp mk P k w b s f) {B : Nat} {t : TypeId} {sz n : Nat} {v : Value} {xs : List Value} (ho : w.ownsRow B t sz v n xs) : some b ≠ v.ownBlock := by
  intro e
  obtain ⟨cur, hc⟩ := own_row ho e.symm
  obtain ⟨D, ⟨es, clock, h1, _⟩, _⟩ := h
  rw [h1] at hc
  cases hc
theorem Mp.ne_row {κ : Type} {mk : κ → Lit} {P : Program} {k : TypeId} {w : World} {b s : Nat} {f : κ → Option Value} (h : Mp mk P k w b s f) {g : Nat} {cs : Array Value} {t : TypeId} {fr : Nat × Nat} (hr : w.heap[g]? = some (.cells cs t fr)) : some b ≠ some g := by
  intro e
  cases e
  obtain ⟨D, ⟨es, clock, h1, _⟩, _⟩ := h
  rw [h1] at hr
  cases hr
section
variable {P : Program}
theorem run_slice_one (t : TypeId) {e : TypeId} {z : Array Value} (ht : P.underlying t = some (.slice e)) (cs : Array Value) (hi : (P.info? e).map (fun i => (i.zero, i.size)) = some (some (.agg z), cs.size))
    (hzs : z.size = cs.size) (hpos : 0 < cs.size) (hlim : cs.size ≤ 16777216) (w : World) : (Instr.buildSlice t 1 #[(0, .agg cs)]).run P w = .ok (.slice (some ⟨w.heap.size, 0, none⟩) 1 1) (w.alloc (.cells cs e)) := by
  obtain ⟨i, hi', hh⟩ := Option.map_eq_some_iff.1 hi
  simp only [Prod.mk.injEq] at hh
  obtain ⟨h0, h1⟩ := hh
  have hne : ¬ cs.size = 0 := by omega
  have hlim' : ¬ 16777216 < cs.size := by omega
  have hf := fill_whole ((Array.range (1 * cs.size)).map (z[· % z.size]!)) cs cs.size (by simp) rfl
  simp only [Nat.one_mul] at hf
  simp [Instr.buildSlice, run_underlying ht, sizeOf, zeroValue, typeInfo, hi', h0, h1, hne, hlim', Value.cells, hf, newRow, Result.andThen]
/-- append onto one's own -/
theorem run_app {w : World} (ty : TypeId) (t : TypeId) (base : Nat) (e : TypeId) (z : Value) (sz bytes : Nat) (ht : P.underlying t = some (.slice e)) (hi : (P.info? e).map (fun i => (i.zero, i.size, i.bytes)) = some (some z, sz, bytes))
    (hzs : z.cells.size = sz) (hsz : 0 < sz) (hb0 : 0 < bytes) {a1 : Option Addr} {n c1 : Nat} {xs : List Value} (hown : w.ownsRow base e sz (.slice a1 n c1) n xs)
    {ad : Addr} {m c2 : Nat} {news : List Value} (hsrc : IsSl w sz (some ad) m c2 news) (h1 : ∀ u ∈ news, u.oneCell' = true)
    (hbytes : (n + m) * bytes ≤ 140737488355328) (hbase : base ≤ w.heap.size) :
    ∃ a' c' w', (Builtin.append_ #[t, t] ty #[.slice a1 n c1, .slice (some ad) m c2]).run P w = .ok (.slice a' (n + m) c') w' ∧ w'.ownsRow base e sz (.slice a' (n + m) c') (n + m) (xs ++ news) ∧ w.grownBy w' (Value.slice a1 n c1).ownBlock := by
  obtain ⟨i, hi, hz0, hz1, hz2⟩ := info_parts hi
  have hle : n + m ≤ (n + m) * bytes := Nat.le_mul_of_pos_right _ hb0
  obtain ⟨v', w', h, h2, h3⟩ := run_append_own (P := P) w base t ty e i z sz bytes ht hi hz0 hz1 hz2 hzs hsz _ n xs hown ad m c2 news hsrc.1 (fun j u hj => by
    obtain ⟨x, hx, hc⟩ := hsrc.2.2.2.1 j u hj
    cases hx
    exact hc) h1 (by unfold maxLen; omega) hbytes hbase
  obtain ⟨a', c', rfl⟩ := own_slice h2
  exact ⟨a', c', w', h, h2, h3.1⟩
/-- append at a step of a region that draws, by its run -/
theorem step_app_run {ops : Array Oper} {o : Oper} {a : Act} {w : World} {K : Act → World → Prop} {Q : Exit → Act → World → Prop} {E : Prop} (hgd : o.guard = none) (s x : Operand) (t : TypeId)
    (ho : o.op = .call { callee := .builtin .append, args := #[s, x], argTypes := #[t, t] }) (sv xv : Value) (hs : a.eval s = sv) (hx : a.eval x = xv) (v : Value) (w' : World)
    (hrun : (Builtin.append_ #[t, t] o.type #[sv, xv]).run P w = .ok v w') (h : K (a.put o.dst v) w') :
    if Region.wanted o (yielded ops a.tmps) = true then Oper.wp P o a w K Q else E := by
  have hw : Region.wanted o (yielded ops a.tmps) = true := by simp [Region.wanted, hgd]
  rw [if_pos hw]
  unfold Oper.wp
  simp [execOp, ho, resolve, invoke, builtin, hs, hx, hrun, Result.andThen]
  exact h
end
end Gr
end Go.Proofs.Ytpdkdhcbibcifaa
namespace Go.Proofs.Ytpdkdhcbibcifaa
set_option linter.unusedVariables false
set_option linter.unusedSimpArgs false
open Go.ChangeShapes Go.WideShapes Go.ChangeAt Go.RowKit
namespace Gr
theorem run_app_at {P : Program} {w : World} (ty : TypeId) (t : TypeId) (base : Nat) (e : TypeId) (z : Value) (sz bytes : Nat) (ht : P.underlying t = some (.slice e)) (hi : (P.info? e).map (fun i => (i.zero, i.size, i.bytes)) = some (some z, sz, bytes))
    (hzs : z.cells.size = sz) (hsz : 0 < sz) (hb0 : 0 < bytes) {a1 : Option Addr} {n c1 : Nat} {xs : List Value} (hown : w.ownsRow base e sz (.slice a1 n c1) n xs)
    {ad : Addr} {m c2 : Nat} {news : List Value} (hsrc : IsSl w sz (some ad) m c2 news) (h1 : ∀ u ∈ news, u.oneCell' = true)
    (hbytes : (n + m) * bytes ≤ 140737488355328) (hbase : base ≤ w.heap.size) :
    ∃ a' c' w', (Builtin.append_ #[t, t] ty #[.slice a1 n c1, .slice (some ad) m c2]).run P w = .ok (.slice a' (n + m) c') w' ∧ w'.ownsRow base e sz (.slice a' (n + m) c') (n + m) (xs ++ news) ∧ w.grownBy w' (Value.slice a1 n c1).ownBlock ∧
      ((Value.slice a' (n + m) c').ownBlock = (Value.slice a1 n c1).ownBlock ∨ (Value.slice a' (n + m) c').ownBlock = some w.heap.size) := by
  obtain ⟨i, hi, hz0, hz1, hz2⟩ := info_parts hi
  have hle : n + m ≤ (n + m) * bytes := Nat.le_mul_of_pos_right _ hb0
  obtain ⟨v', w', h, h2, h3⟩ := run_append_own_at (P := P) w base t ty e i z sz bytes ht hi hz0 hz1 hz2 hzs hsz _ n xs hown ad m c2 news hsrc.1 (fun j u hj => by
    obtain ⟨x, hx, hc⟩ := hsrc.2.2.2.1 j u hj
    cases hx
    exact hc) h1 (by unfold maxLen; omega) hbytes hbase
  obtain ⟨a', c', rfl⟩ := own_slice h2
  exact ⟨a', c', w', h, h2, h3.1, h3.2.2⟩
theorem wpList_app_at {P : Program} {ops : Array Oper} {rest : List Oper} {o : Oper} {a : Act} {w : World} {Q : Exit → Act → World → Prop} (hgd : o.guard = none) (s x : Operand) (t : TypeId) (ho : o.op = .call { callee := .builtin .append, args := #[s, x], argTypes := #[t, t] })
    (base : Nat) (e : TypeId) (z : Value) (sz bytes : Nat) (ht : P.underlying t = some (.slice e)) (hi : (P.info? e).map (fun i => (i.zero, i.size, i.bytes)) = some (some z, sz, bytes))
    (hzs : z.cells.size = sz) (hsz : 0 < sz) (hb0 : 0 < bytes) {a1 : Option Addr} {n c1 : Nat} {xs : List Value} (hs : a.eval s = .slice a1 n c1) (hown : w.ownsRow base e sz (.slice a1 n c1) n xs)
    {ad : Addr} {m c2 : Nat} {news : List Value} (hx : a.eval x = .slice (some ad) m c2) (hsrc : IsSl w sz (some ad) m c2 news) (h1 : ∀ u ∈ news, u.oneCell' = true)
    (hbytes : (n + m) * bytes ≤ 140737488355328) (hbase : base ≤ w.heap.size)
    (h : ∀ a' c' w', w'.ownsRow base e sz (.slice a' (n + m) c') (n + m) (xs ++ news) → w.grownBy w' (Value.slice a1 n c1).ownBlock → ((Value.slice a' (n + m) c').ownBlock = (Value.slice a1 n c1).ownBlock ∨ (Value.slice a' (n + m) c').ownBlock = some w.heap.size) → wpList P ops Q rest (a.put o.dst (.slice a' (n + m) c')) w') :
    wpList P ops Q (o :: rest) a w := by
  obtain ⟨a', c', w', hrun, h2, h3, h4⟩ := run_app_at (P := P) o.type t base e z sz bytes ht hi hzs hsz hb0 hown hsrc h1 hbytes hbase
  refine wpList_plain hgd fun K hK' => ?_
  unfold Oper.wp
  simp [execOp, ho, resolve, invoke, builtin, hs, hx, hrun, Result.andThen]
  exact hK' _ _ (h a' c' w' h2 h3 h4)
/-- a cell of one's own row is written -/
theorem own_set {w : World} {B : Nat} {t : TypeId} {sz n g c : Nat} {xs : List Value} (h : w.ownsRow B t sz (.slice (some ⟨g, 0, none⟩) n c) n xs) (j : Nat) (hj : j < n * sz) (v : Value) : (w.setCell ⟨g, j, none⟩ v).ownsRow B t sz (.slice (some ⟨g, 0, none⟩) n c) n (xs.set j v) := by
  obtain ⟨h1, h2⟩ := h
  refine ⟨by simpa using h1, Or.inr ?_⟩
  rcases h2 with ⟨h2, _⟩ | ⟨g', cap, cur, hv, hb, hh, hn, hm, hs, ht⟩
  · cases h2
  · simp only [Value.slice.injEq, Option.some.injEq, Addr.mk.injEq, and_true, true_and] at hv
    obtain ⟨rfl, rfl⟩ := hv
    refine ⟨g, c, cur.setIfInBounds j v, rfl, hb, setCell_row hh v, hn, hm, by simpa using hs, ?_⟩
    rw [← ht, Array.toList_setIfInBounds, List.take_set]
theorem flat_set {α : Type} {f : α → List Value} {sz : Nat} (hf : ∀ x, (f x).length = sz) : ∀ (S : List α) (k : Nat) (hk : k < S.length) (j : Nat) (hj : j < sz) (v : Value) (x' : α), f x' = (f S[k]).set j v → (S.flatMap f).set (k * sz + j) v = (S.set k x').flatMap f
  | [], k, hk, _, _, _, _, _ => by simp at hk
  | x :: S, 0, hk, j, hj, v, x', h => by
    simp only [List.flatMap_cons, Nat.zero_mul, Nat.zero_add, List.set_cons_zero]
    simp only [List.getElem_cons_zero] at h
    rw [List.set_append_left _ _ (by rw [hf]; exact hj), h]
  | x :: S, k + 1, hk, j, hj, v, x', h => by
    simp only [List.flatMap_cons, List.set_cons_succ]
    rw [List.set_append_right _ _ (by rw [hf, Nat.add_mul]; omega), hf]
    have ih := flat_set hf S k (by simpa using hk) j hj v x' (by simpa using h)
    rw [show (k + 1) * sz + j - sz = k * sz + j by rw [Nat.add_mul]; omega, ih]
def blk (s : Sl) : Option Nat := (Value.slice s.1 s.2.1 s.2.2).ownBlock
def OwnE (w : World) (B : Nat) (s : Sl) (l : List (Bt × Int)) : Prop := w.ownsRow B 87 2 (.slice s.1 s.2.1 s.2.2) s.2.1 (l.flatMap etCells)
theorem OwnE.ets {w : World} {B : Nat} {s : Sl} {l : List (Bt × Int)} (h : OwnE w B s l) : Ets w s l := own_isSl h
structure Pls (w : World) (B gb : Nat) (a : Option Addr) (n c : Nat) (NS : List NdS) : Prop where
  row : w.heap[gb]? = some (.cells #[.slice a n c] 43)
  own : w.ownsRow B 75 10 (.slice a n c) n (NS.flatMap ndCells)
  dat : ∀ x ∈ NS, Own w B x.2.1 x.1.data
  ent : ∀ x ∈ NS, OwnE w B x.2.2 x.1.ents
  apart : ∀ (i j : Nat) (x y : NdS), NS[i]? = some x → NS[j]? = some y → i ≠ j → ∀ b, blk x.2.2 = some b → blk y.2.2 ≠ some b
  gb : B ≤ gb
section
variable {w : World} {B gb : Nat} {a : Option Addr} {n c : Nat} {NS : List NdS}
theorem Pls.below {w' : World} (h : Pls w B gb a n c NS) (k : Below w.heap.size w w') : Pls w' B gb a n c NS :=
  ⟨row_below h.row k, own_keep h.own (fun j _ hj => k.block j hj), fun x hx => own_keep (h.dat x hx) (fun j _ hj => k.block j hj), fun x hx => own_keep (h.ent x hx) (fun j _ hj => k.block j hj), h.apart, h.gb⟩
theorem Pls.block {w' : World} (h : Pls w B gb a n c NS) (k : ∀ j, B ≤ j → j < w.heap.size → w'.heap[j]? = w.heap[j]?) : Pls w' B gb a n c NS :=
  ⟨by rw [k gb h.gb (row_lt h.row)]; exact h.row, own_keep h.own k, fun x hx => own_keep (h.dat x hx) k, fun x hx => own_keep (h.ent x hx) k, h.apart, h.gb⟩
theorem Pls.nds (h : Pls w B gb a n c NS) : Nds w a n c NS := ⟨own_isSl h.own, fun x hx => (h.dat x hx).dat, fun x hx => (h.ent x hx).ets⟩
theorem Pls.len (h : Pls w B gb a n c NS) : NS.length = n := h.nds.len
theorem own_cases {v : Value} : v.ownBlock = none ∨ ∃ b, v.ownBlock = some b := by cases v.ownBlock <;> simp
theorem own_other {w w' : World} {B B' : Nat} {t t' : TypeId} {sz sz' n n' : Nat} {v v' : Value} {xs ys : List Value} (h : w.ownsRow B t sz v n xs) (h' : w.ownsRow B' t' sz' v' n' ys) (ht : t ≠ t') (hg : w.grownBy w' v'.ownBlock) : w'.ownsRow B t sz v n xs := by
  rcases own_cases (v := v) with hb | ⟨b, hb⟩
  · exact own_grown h hg (Or.inl hb)
  · exact own_grown h hg (Or.inr (by rw [hb]; exact fun e => own_ne h h' ht hb e.symm))
theorem own_cell {w : World} {B : Nat} {t t' : TypeId} {sz n g j : Nat} {v u : Value} {xs : List Value} {cs : Array Value} {fr : Nat × Nat} (h : w.ownsRow B t sz v n xs) (hr : w.heap[g]? = some (.cells cs t' fr)) (ht : t ≠ t') : (w.setCell ⟨g, j, none⟩ u).ownsRow B t sz v n xs :=
  own_grown h (setCell_grown w g j u) (Or.inr (own_ne_row h hr ht))
/-- a node more -/
theorem Pls.node {wA wB : World} {a' : Option Addr} {c' : Nat} {x : NdS} (h : Pls w B gb a n c NS) (hA : Below w.heap.size w wA) (hg : wA.grownBy wB (Value.slice a n c).ownBlock) (ho : wB.ownsRow B 75 10 (.slice a' (n + 1) c') (n + 1) (NS.flatMap ndCells ++ ndCells x))
    (hd : Own wA B x.2.1 x.1.data) (he : x.2.2 = (none, 0, 0)) (he2 : x.1.ents = []) : Pls (wB.setCell ⟨gb, 0, none⟩ (.slice a' (n + 1) c')) B gb a' (n + 1) c' (NS ++ [x]) := by
  have h1 := h.below hA
  have hr := row_grown h1.row hg (fun e => own_ne_row h1.own h1.row (by decide) e.symm)
  have hdat : ∀ s l, Own wA B s l → Own (wB.setCell ⟨gb, 0, none⟩ (.slice a' (n + 1) c')) B s l := fun s l hs => own_cell (own_other hs h1.own (by decide) hg) (hr) (by decide)
  refine ⟨?_, ?_, ?_, ?_, ?_, h.gb⟩
  · have := setCell_row hr (j := 0) (.slice a' (n + 1) c')
    simpa using this
  · rw [List.flatMap_append]
    have : [x].flatMap ndCells = ndCells x := by simp
    rw [this]
    exact own_cell ho hr (by decide)
  · intro y hy
    rcases List.mem_append.1 hy with hy | hy
    · exact hdat _ _ (h1.dat y hy)
    · rw [List.mem_singleton] at hy
      subst hy
      exact hdat _ _ hd
  · intro y hy
    rcases List.mem_append.1 hy with hy | hy
    · exact own_cell (own_other (h1.ent y hy) h1.own (by decide) hg) hr (by decide)
    · rw [List.mem_singleton] at hy
      subst hy
      unfold OwnE
      rw [he, he2]
      exact World.ownsRow_nil _ _ _ _
  · have hx : blk x.2.2 = none := by rw [he]; rfl
    intro i j y z hi hj hij b hb
    rcases Nat.lt_or_ge i NS.length with hi2 | hi2
    · rw [List.getElem?_append_left hi2] at hi
      rcases Nat.lt_or_ge j NS.length with hj2 | hj2
      · rw [List.getElem?_append_left hj2] at hj
        exact h.apart i j y z hi hj hij b hb
      · rw [List.getElem?_append_right hj2] at hj
        have : z = x := by
          cases hk : j - NS.length with
          | zero => rw [hk] at hj; simpa using hj.symm
          | succ k => rw [hk] at hj; simp at hj
        subst this
        rw [hx]; simp
    · rw [List.getElem?_append_right hi2] at hi
      have : y = x := by
        cases hk : i - NS.length with
        | zero => rw [hk] at hi; simpa using hi.symm
        | succ k => rw [hk] at hi; simp at hi
      subst this
      rw [hx] at hb; cases hb
/-- an entry more for node k -/
theorem Pls.entry {wA wB : World} {a' : Option Addr} {m' c' : Nat} {x : NdS} {k nb : Nat} {e : Bt × Int} (h : Pls w B gb a n c NS) (hk : NS[k]? = some x) (hA : Below w.heap.size w wA) (hnb : a = some ⟨nb, 0, none⟩) (hg : wA.grownBy wB (Value.slice x.2.2.1 x.2.2.2.1 x.2.2.2.2).ownBlock)
    (ho : wB.ownsRow B 87 2 (.slice a' m' c') m' (x.1.ents.flatMap etCells ++ etCells e))
    (hat : (Value.slice a' m' c').ownBlock = (Value.slice x.2.2.1 x.2.2.2.1 x.2.2.2.2).ownBlock ∨ ∃ b, (Value.slice a' m' c').ownBlock = some b ∧ w.heap.size ≤ b) :
    Pls (wB.setCell ⟨nb, k * 10 + 9, none⟩ (.slice a' m' c')) B gb a n c (NS.set k ({ x.1 with ents := x.1.ents ++ [e] }, x.2.1, (a', m', c'))) := by
  have h1 := h.below hA
  have hkl : k < NS.length := (List.getElem?_eq_some_iff.1 hk).1
  have hkx : NS[k] = x := (List.getElem?_eq_some_iff.1 hk).2
  have hxm : x ∈ NS := mem_get hk
  have hxe := h1.ent x hxm
  have hr := row_grown h1.row hg (fun e => own_ne_row hxe h1.row (by decide) e.symm)
  have ho2 : wB.ownsRow B 75 10 (.slice a n c) n (NS.flatMap ndCells) := own_other h1.own hxe (by decide) hg
  subst hnb
  obtain ⟨cur, hcur⟩ := own_row ho2 (b := nb) rfl
  have hlen := h.len
  have hown3 := own_set ho2 (k * 10 + 9) (by omega) (.slice a' m' c')
  rw [flat_set ndCells_len NS k hkl 9 (by decide) (.slice a' m' c') ({ x.1 with ents := x.1.ents ++ [e] }, x.2.1, (a', m', c')) (by rw [hkx]; rfl)] at hown3
  have mem : ∀ y ∈ NS.set k ({ x.1 with ents := x.1.ents ++ [e] }, x.2.1, (a', m', c')), y = ({ x.1 with ents := x.1.ents ++ [e] }, x.2.1, (a', m', c')) ∨ ∃ i, i ≠ k ∧ NS[i]? = some y := by
    intro y hy
    obtain ⟨i, hi, rfl⟩ := List.mem_iff_getElem.1 hy
    by_cases hik : k = i
    · subst hik; left; simp
    · right
      refine ⟨i, fun e => hik e.symm, ?_⟩
      simp only [List.length_set] at hi
      rw [List.getElem_set_ne hik, List.getElem?_eq_getElem hi]
  refine ⟨?_, hown3, ?_, ?_, ?_, h.gb⟩
  · exact row_grown hr (setCell_grown wB nb (k * 10 + 9) _) (fun e => own_ne_row ho2 hr (by decide) e.symm)
  · intro y hy
    have hd : ∀ z ∈ NS, Own (wB.setCell ⟨nb, k * 10 + 9, none⟩ (.slice a' m' c')) B z.2.1 z.1.data := fun z hz => own_cell (own_other (h1.dat z hz) hxe (by decide) hg) hcur (by decide)
    rcases mem y hy with rfl | ⟨i, _, hi⟩
    · exact hd x hxm
    · exact hd y (mem_get hi)
  · intro y hy
    rcases mem y hy with rfl | ⟨i, hik, hi⟩
    · unfold OwnE
      simp only
      rw [List.flatMap_append]
      have : [e].flatMap etCells = etCells e := by simp
      rw [this]
      exact own_cell ho hcur (by decide)
    · have hy1 := h1.ent y (mem_get hi)
      refine own_cell (own_grown hy1 hg ?_) hcur (by decide)
      rcases own_cases (v := Value.slice y.2.2.1 y.2.2.2.1 y.2.2.2.2) with hb | ⟨b, hb⟩
      · exact Or.inl hb
      · right
        rw [hb]
        exact fun e => h.apart i k y x hi hk hik b hb e.symm
  · have hnew : ∀ j y, j ≠ k → NS[j]? = some y → ∀ b, blk (a', m', c') = some b → blk y.2.2 ≠ some b := by
      intro j y hj hy b hb e
      rcases hat with hat | ⟨b', hb', hge⟩
      · have : blk x.2.2 = some b := by rw [← hb]; exact hat.symm
        exact h.apart k j x y hk hy (fun e => hj e.symm) b this e
      · have h2 : blk (a', m', c') = some b' := hb'
        rw [hb] at h2
        cases h2
        have := ((h.ent y (mem_get hy)).lt b e).2
        omega
    intro i j y z hi hj hij b hb
    rw [List.getElem?_set] at hi hj
    by_cases hik : k = i
    · subst hik
      rw [if_pos rfl, if_pos hkl] at hi
      cases hi
      rw [if_neg hij] at hj
      exact hnew j z (fun e => hij e.symm) hj b hb
    · rw [if_neg hik] at hi
      by_cases hjk : k = j
      · subst hjk
        rw [if_pos rfl, if_pos hkl] at hj
        cases hj
        intro e
        exact hnew i y (fun e => hik e.symm) hi b e hb
      · rw [if_neg hjk] at hj
        exact h.apart i j y z hi hj hij b hb
end
end Gr
end Go.Proofs.Ytpdkdhcbibcifaa
namespace Go.Proofs.Ytpdkdhcbibcifaa
set_option linter.unusedVariables false
set_option linter.unusedSimpArgs false
open Go.ChangeShapes Go.WideShapes Go.ChangeAt Go.RowKit
namespace Gr
theorem lastIndex_cut (l : Bt) : Lib.lastIndexByte ⟨l.toArray⟩ 47 = match cutOf l with | none => -1 | some k => (k : Int) := by
  have hsz : (⟨l.toArray⟩ : ByteArray).size = l.length := rfl
  have hget : ∀ j, (⟨l.toArray⟩ : ByteArray).data[j]! = l.getD j 0 := fun j => by
    simp [getElem!_def, List.getD]
    cases l[j]? <;> rfl
  rcases Lib.lastIndexByte_spec ⟨l.toArray⟩ 47 with ⟨h1, h2⟩ | ⟨i, hi, h1, h2, h3⟩
  · have : cutOf l = none := by
      rw [cutOf_none]
      intro hm
      obtain ⟨j, hj, he⟩ := List.mem_iff_getElem.1 hm
      refine h2 j hj ?_
      rw [hget, List.getD_eq_getElem?_getD, List.getElem?_eq_getElem hj, Option.getD_some, he]
      rfl
    rw [h1, this]
  · rw [hsz] at hi h3
    have hc : cutOf l = some i := by
      rw [cutOf_some]
      refine ⟨l.take i, l.drop (i + 1), ?_, by simp; omega, ?_⟩
      · have : l[i] = 47 := by
          rw [hget, List.getD_eq_getElem?_getD, List.getElem?_eq_getElem hi, Option.getD_some] at h2
          exact UInt8.toNat_inj.1 (by simpa using (by omega : (l[i]).toNat = 47))
        rw [← this, ← List.drop_eq_getElem_cons hi, List.take_append_drop]
      · intro hm
        obtain ⟨j, hj, he⟩ := List.mem_iff_getElem.1 hm
        rw [List.getElem_drop] at he
        simp only [List.length_drop] at hj
        refine h3 (i + 1 + j) (by omega) (by omega) ?_
        rw [hget, List.getD_eq_getElem?_getD, List.getElem?_eq_getElem (by omega), Option.getD_some, he]
        rfl
    rw [h1, hc]
theorem plant_cons (R : Bool) (pi : List (Bt × Int)) (g : List Nd) (l : Ln) (ls : List Ln) : plant R pi g (l :: ls) =
    if (R = false ∧ (pi.lookup l.path).isSome = true) ∨ idOf pi g l = 0 then none
    else if pi = [] then plant R (pi ++ [(l.path, idOf pi g l)]) (nodes1 g l) ls
    else if parOf R pi l = 0 then none
    else plant R (pi ++ [(l.path, idOf pi g l)]) (addEnt (nodes1 g l) ((parOf R pi l).toNat - 1) (nameOf l, idOf pi g l)) ls := rfl
/-- what holds between two lines -/
structure PlInv (LS : List Ln) (k : Nat) (pi : List (Bt × Int)) (g : List Nd) : Prop where
  eq : plant false [] [] LS = plant false pi g (LS.drop k)
  len : pi.length = k
  val : ∀ q ∈ pi, 1 ≤ q.2 ∧ q.2 ≤ g.length
  gl : g.length ≤ k
  ids : ∀ x ∈ g, 1 ≤ x.id ∧ x.id ≤ k
  ents : ∀ x ∈ g, x.ents.length ≤ k ∧ ∀ e ∈ x.ents, 1 ≤ e.2 ∧ e.2 ≤ k
  non : 0 < k → g ≠ []
  dat : ∀ x ∈ g, ∃ l ∈ LS, x.data = l.data
theorem PlInv.nil (LS : List Ln) : PlInv LS 0 [] [] := ⟨by simp, rfl, by simp, by simp, by simp, by simp, by simp, by simp⟩
theorem lookup_val {pi : List (Bt × Int)} {g : List Nd} (h : ∀ q ∈ pi, 1 ≤ q.2 ∧ q.2 ≤ g.length) (p : Bt) : 0 ≤ (pi.lookup p).getD 0 ∧ (pi.lookup p).getD 0 ≤ g.length := by
  cases hl : pi.lookup p with
  | none => simp
  | some v => have := h _ (lookup_mem hl); simp only [Option.getD_some] at this ⊢; omega
section
variable {LS : List Ln} {k : Nat} {pi : List (Bt × Int)} {g : List Nd} {l : Ln}
theorem PlInv.idOf (h : PlInv LS k pi g) : 0 ≤ idOf pi g l ∧ Gr.idOf pi g l ≤ k + 1 ∧ Gr.idOf pi g l ≤ (nodes1 g l).length := by
  unfold Gr.idOf nodes1
  have hg := h.gl
  split
  · simp; omega
  · have := lookup_val h.val l.peer
    omega
theorem PlInv.parOf (h : PlInv LS k pi g) (hk : 0 < k) : 0 ≤ parOf false pi l ∧ Gr.parOf false pi l ≤ g.length := by
  unfold Gr.parOf
  split
  · have := h.non hk
    have := List.length_pos_iff.2 this
    omega
  · rename_i c _
    simp only [Bool.false_eq_true, if_false]
    exact lookup_val h.val _
theorem nodes1_len (g : List Nd) (l : Ln) : g.length ≤ (nodes1 g l).length ∧ (nodes1 g l).length ≤ g.length + 1 := by
  unfold nodes1; split <;> simp
theorem addEnt_len (g : List Nd) (k : Nat) (e : Bt × Int) : (addEnt g k e).length = g.length := by simp [addEnt]
/-- the planting is refused at this line -/
theorem PlInv.bad (h : PlInv LS k pi g) (hl : LS[k]? = some l) (hb : (pi.lookup l.path).isSome = true ∨ Gr.idOf pi g l = 0 ∨ (0 < k ∧ Gr.parOf false pi l = 0)) : ¬ Planted false LS := by
  rintro ⟨G, hG, _⟩
  rw [h.eq, drop_get hl] at hG
  rw [plant_cons] at hG
  rcases hb with hb | hb | ⟨hk, hb⟩
  · rw [if_pos (Or.inl ⟨rfl, hb⟩)] at hG; cases hG
  · rw [if_pos (Or.inr hb)] at hG; cases hG
  · have hpi : ¬ pi = [] := by intro e; have := h.len; rw [e] at this; simp at this; omega
    rw [if_neg hpi, if_pos hb] at hG
    split at hG <;> cases hG
theorem mem_addEnt {g : List Nd} {k : Nat} {e : Bt × Int} {y : Nd} (hy : y ∈ addEnt g k e) : ∃ x ∈ g, y = x ∨ y = { x with ents := x.ents ++ [e] } := by
  unfold addEnt at hy
  obtain ⟨i, hi, rfl⟩ := List.mem_iff_getElem.1 hy
  rw [List.getElem_modify]
  simp only [List.length_modify] at hi
  split
  · exact ⟨g[i], List.getElem_mem hi, Or.inr rfl⟩
  · exact ⟨g[i], List.getElem_mem hi, Or.inl rfl⟩
theorem nodes1_facts (h : PlInv LS k pi g) : (∀ x ∈ nodes1 g l, 1 ≤ x.id ∧ x.id ≤ (k : Int) + 1) ∧ ∀ x ∈ nodes1 g l, x.ents.length ≤ k ∧ ∀ e ∈ x.ents, 1 ≤ e.2 ∧ e.2 ≤ (k : Int) + 1 := by
  have hg := h.gl
  unfold nodes1
  constructor
  · intro x hx
    split at hx
    · rcases List.mem_append.1 hx with hx | hx
      · have := h.ids x hx; omega
      · rw [List.mem_singleton] at hx; subst hx; simp [mkNode]; omega
    · have := h.ids x hx; omega
  · intro x hx
    split at hx
    · rcases List.mem_append.1 hx with hx | hx
      · have := h.ents x hx; exact ⟨this.1, fun e he => by have := this.2 e he; omega⟩
      · rw [List.mem_singleton] at hx; subst hx; simp [mkNode]
    · have := h.ents x hx; exact ⟨this.1, fun e he => by have := this.2 e he; omega⟩
theorem nodes1_dat (h : PlInv LS k pi g) (hl : LS[k]? = some l) : ∀ x ∈ nodes1 g l, ∃ m ∈ LS, x.data = m.data := by
  unfold nodes1
  intro x hx
  split at hx
  · rcases List.mem_append.1 hx with hx | hx
    · exact h.dat x hx
    · rw [List.mem_singleton] at hx; subst hx; exact ⟨l, mem_get hl, rfl⟩
  · exact h.dat x hx
theorem PlInv.first (h : PlInv LS k pi g) (hl : LS[k]? = some l) (h1 : (pi.lookup l.path).isSome = false) (h2 : Gr.idOf pi g l ≠ 0) (hk : k = 0) : PlInv LS (k + 1) (pi ++ [(l.path, Gr.idOf pi g l)]) (nodes1 g l) := by
  have hpi : pi = [] := List.eq_nil_of_length_eq_zero (by rw [h.len, hk])
  have hid := h.idOf (l := l)
  have hg := h.gl
  have hn := nodes1_len g l
  obtain ⟨f1, f2⟩ := nodes1_facts (l := l) h
  refine ⟨?_, by simp [h.len], ?_, by omega, ?_, ?_, ?_, ?_⟩
  · rw [h.eq, drop_get hl]
    rw [plant_cons, if_neg (by rintro (⟨_, h3⟩ | h3); rw [h1] at h3; cases h3; exact h2 h3), if_pos hpi]
  · intro q hq
    rcases List.mem_append.1 hq with hq | hq
    · have := h.val q hq; omega
    · rw [List.mem_singleton] at hq; subst hq; simp only; omega
  · intro x hx; have := f1 x hx; push_cast; exact this
  · intro x hx; have := f2 x hx; push_cast; exact ⟨by omega, this.2⟩
  · intro _ e
    have : (nodes1 g l).length = 0 := by rw [e]; rfl
    omega
  · exact nodes1_dat h hl
theorem PlInv.step (h : PlInv LS k pi g) (hl : LS[k]? = some l) (h1 : (pi.lookup l.path).isSome = false) (h2 : Gr.idOf pi g l ≠ 0) (hk : 0 < k) (h3 : Gr.parOf false pi l ≠ 0) :
    PlInv LS (k + 1) (pi ++ [(l.path, Gr.idOf pi g l)]) (addEnt (nodes1 g l) ((Gr.parOf false pi l).toNat - 1) (nameOf l, Gr.idOf pi g l)) := by
  have hpi : ¬ pi = [] := by intro e; have := h.len; rw [e] at this; simp at this; omega
  have hid := h.idOf (l := l)
  have hg := h.gl
  have hn := nodes1_len g l
  obtain ⟨f1, f2⟩ := nodes1_facts (l := l) h
  have hlen := addEnt_len (nodes1 g l) ((Gr.parOf false pi l).toNat - 1) (nameOf l, Gr.idOf pi g l)
  refine ⟨?_, by simp [h.len], ?_, by omega, ?_, ?_, ?_, ?_⟩
  · rw [h.eq, drop_get hl]
    rw [plant_cons, if_neg (by rintro (⟨_, h4⟩ | h4); rw [h1] at h4; cases h4; exact h2 h4), if_neg hpi, if_neg h3]
  · intro q hq
    rcases List.mem_append.1 hq with hq | hq
    · have := h.val q hq; omega
    · rw [List.mem_singleton] at hq; subst hq; simp only; omega
  · intro x hx
    obtain ⟨y, hy, rfl | rfl⟩ := mem_addEnt hx
    · have := f1 x hy; push_cast; exact this
    · have := f1 y hy; push_cast; exact this
  · intro x hx
    obtain ⟨y, hy, rfl | rfl⟩ := mem_addEnt hx
    · have := f2 x hy; push_cast; exact ⟨by omega, this.2⟩
    · have := f2 y hy
      refine ⟨by simp; omega, fun e he => ?_⟩
      rcases List.mem_append.1 he with he | he
      · have := this.2 e he; push_cast; exact this
      · rw [List.mem_singleton] at he; subst he; simp only; push_cast; omega
  · intro _ e
    have : (addEnt (nodes1 g l) ((Gr.parOf false pi l).toNat - 1) (nameOf l, Gr.idOf pi g l)).length = 0 := by rw [e]; rfl
    omega
  · intro x hx
    obtain ⟨y, hy, rfl | rfl⟩ := mem_addEnt hx
    · exact nodes1_dat h hl x hy
    · exact nodes1_dat h hl y hy
theorem addEnt_set {NS : List NdS} {q : Nat} {y : NdS} {e : Bt × Int} {d : Sl} (h : NS[q]? = some y) : addEnt (NS.map (·.1)) (((q : Int) + 1).toNat - 1) e = (NS.set q ({ y.1 with ents := y.1.ents ++ [e] }, y.2.1, d)).map (·.1) := by
  obtain ⟨hq, hy⟩ := List.getElem?_eq_some_iff.1 h
  have e1 : ((q : Int) + 1).toNat - 1 = q := by omega
  rw [e1]
  unfold addEnt
  apply List.ext_getElem
  · simp
  · intro i h1 h2
    rw [List.getElem_modify, List.getElem_map, List.getElem_map, List.getElem_set]
    split
    · rename_i hqi
      subst hqi
      simp [hy]
    · rfl
/-- all lines are planted -/
theorem PlInv.done (h : PlInv LS LS.length pi g) : Planted false LS ↔ TreeOk g 1 LS := by
  have he := h.eq
  rw [List.drop_length] at he
  have h2 : plant false pi g [] = some g := rfl
  rw [h2] at he
  constructor
  · rintro ⟨G, hG, ht⟩
    rw [he] at hG; cases hG; exact ht
  · intro ht; exact ⟨g, he, ht⟩
end
end Gr
end Go.Proofs.Ytpdkdhcbibcifaa
namespace Go.Proofs.Ytpdkdhcbibcifaa
set_option linter.unusedVariables false
set_option linter.unusedSimpArgs false
open Go.ChangeShapes Go.WideShapes Go.ChangeAt Go.RowKit
/-- the cells of a row of bytes -/
def rowA (l : List UInt8) : Array Value := (l.map u8v).toArray
theorem rowA_size (l : List UInt8) : (rowA l).size = l.length := by simp [rowA]
theorem rowA_one (l : List UInt8) : ∀ u ∈ (rowA l).toList, u.oneCell' = true := by simpa [rowA] using bytes_oneCell l
theorem rowA_at (l : List UInt8) (k : Nat) (h : k < l.length) : (rowA l)[k]? = some (.int .u8 ((l.getD k 0).toNat : Int)) := by
  simp [rowA, List.getD, List.getElem?_eq_getElem h, u8v]
theorem rowA_set (l : List UInt8) (k : Nat) (b : UInt8) : (rowA l).setIfInBounds k (u8v b) = rowA (l.set k b) := by
  simp [rowA, List.map_set]
/-- a part of a row of bytes -/
theorem row_bs {w : World} {g : Nat} {l : List UInt8} {e : TypeId} {fr : Nat × Nat} (h : w.heap[g]? = some (.cells (rowA l) e fr)) (L M c : Nat) (h1 : L ≤ M) (h2 : M ≤ l.length) (h3 : M - L ≤ c) (h4 : c ≤ maxLen) : Bs w (some ⟨g, L, none⟩) (M - L) c ((l.take M).drop L) := by
  refine ⟨by simp; omega, h3, h4, fun j x hj => ⟨_, rfl, ?_⟩, fun h => by cases h⟩
  rw [Addr.add_lit, cell_of_row _ _ _ _ _ _ h]
  rw [List.map_drop, List.map_take, List.getElem?_drop, List.getElem?_take] at hj
  split at hj
  · simpa [rowA] using hj
  · cases hj
/-- the block behind w's last one holds a row of bytes; nothing below has changed -/
structure RowAt (w : World) (e : TypeId) (l : List UInt8) (wr : World) : Prop where
  bel : Below w.heap.size w wr
  row : wr.heap[w.heap.size]? = some (.cells (rowA l) e (0, 0))
theorem RowAt.new (w : World) (e : TypeId) (l : List UInt8) : RowAt w e l (w.alloc (.cells (rowA l) e)) := ⟨(Below.refl _ _).alloc (Nat.le_refl _) _, heap_alloc_new w _⟩
theorem RowAt.set {w wr : World} {e : TypeId} {l : List UInt8} (h : RowAt w e l wr) (k : Nat) (b : UInt8) : RowAt w e (l.set k b) (wr.setCell ⟨w.heap.size, k, none⟩ (.int .u8 (b.toNat : Int))) := by
  refine ⟨h.bel.setCell (by simp) _, ?_⟩
  rw [heap_setCell_same _ _ _ _ _ _ h.row, show (Value.int .u8 (b.toNat : Int)) = u8v b from rfl, rowA_set]
theorem RowAt.cell {w wr : World} {e : TypeId} {l : List UInt8} (h : RowAt w e l wr) (k : Nat) (hk : k < l.length) : wr.cell? ⟨w.heap.size, k, none⟩ = some (.int .u8 ((l.getD k 0).toNat : Int)) := by
  rw [cell_of_row _ _ _ _ _ _ h.row, rowA_at _ _ hk]
theorem RowAt.froz {w wr : World} {e : TypeId} {l : List UInt8} (h : RowAt w e l wr) (k : Nat) : wr.frozen? ⟨w.heap.size, k, none⟩ = false := frozen_of_row _ _ _ _ _ h.row
theorem RowAt.bs {w wr : World} {e : TypeId} {l : List UInt8} (h : RowAt w e l wr) (hm : l.length ≤ maxLen) : Bs wr (some ⟨w.heap.size, 0, none⟩) l.length l.length l := by
  have := row_bs h.row 0 l.length l.length (Nat.zero_le _) (Nat.le_refl _) (by omega) hm
  rwa [List.take_length, List.drop_zero, Nat.sub_zero] at this
theorem madeCells_u8 (n : Nat) : madeCells (Value.int .u8 0).cells (n * 1) = rowA (List.replicate n 0) := by
  rw [Nat.mul_one]
  apply Array.ext
  · simp [madeCells, rowA]
  · intro i h1 h2
    simp [madeCells, rowA, u8v, Value.cells, Nat.mod_one]
section
variable {P : Program} {ops : Array Oper} {rest : List Oper} {o : Oper} {a : Act} {w : World} {Q : Exit → Act → World → Prop}
/-- x[lo:hi] of an array of bytes in memory; lo lies below its length -/
theorem wpList_slice_row (hgd : o.guard = none) (t : TypeId) (x : Operand) (lo hi : Option Operand) (ho : o.op = .slice t x lo hi none) {e : TypeId} {n : Nat} (ht : P.underlying t = some (.array n e)) (hsz : (P.info? e).map (·.size) = some 1)
    (g : Nat) (hx : a.eval x = .pointer (some ⟨g, 0, none⟩)) (L M : Nat) (k1 k2 : IntKind)
    (hL : match lo with | some p => a.eval p = .int k1 (L : Int) | none => L = 0) (hM : match hi with | some p => a.eval p = .int k2 (M : Int) | none => M = n) (h1 : L ≤ M) (h2 : M ≤ n) (h3 : L < n)
    (h : wpList P ops Q rest (a.put o.dst (.slice (some ⟨g, L, none⟩) (M - L) (n - L))) w) : wpList P ops Q (o :: rest) a w := by
  refine wpList_value hgd _ _ ?_ h
  obtain ⟨i, hi', hs'⟩ := Option.map_eq_some_iff.1 hsz
  have hne : ¬ n = L := by omega
  have e1 : (L : Int) ≤ M := by omega
  have e2 : (M : Int) ≤ n := by omega
  have e3 : (L : Int) ≤ n := by omega
  have f3 : L ≤ n := by omega
  have ha : (Addr.add ⟨g, 0, none⟩ L) = (⟨g, L, none⟩ : Addr) := by rw [Addr.add_lit, Nat.zero_add]
  cases lo <;> cases hi <;> simp only at hL hM
  all_goals first | subst hL | skip
  all_goals first | subst hM | skip
  all_goals simp [execOp, ho, hx, Instr.sliceAt, Instr.sureAddr, Instr.sliceBounds, Instr.sliceBound, run_underlying ht, sizeOf, typeInfo, hi', hs', asIntOf, hne, Result.andThen, *]
/-- make([]byte, n) -/
theorem wpList_make_bytes (hgd : o.guard = none) (t : TypeId) (x y : Operand) (ho : o.op = .makeSlice t x y) {e : TypeId} (ht : P.underlying t = some (.slice e)) (hi : (P.info? e).map (fun i => (i.zero, i.size, i.bytes)) = some (some (.int .u8 0), 1, 1))
    (n : Nat) {k1 k2 : IntKind} (hx : a.eval x = .int k1 (n : Int)) (hy : a.eval y = .int k2 (n : Int)) (hn : n ≤ 16777216)
    (h : wpList P ops Q rest (a.put o.dst (.slice (some ⟨w.heap.size, 0, none⟩) n n)) (w.alloc (.cells (rowA (List.replicate n 0)) e))) : wpList P ops Q (o :: rest) a w := by
  obtain ⟨i, hi, hz0, hz1, hz2⟩ := info_parts hi
  have hr := run_makeSlice (P := P) (w := w) t e i (.int .u8 0) ht hi hz0 k1 k2 (n : Int) (n : Int) (by omega) (by omega) (by rw [hz1]; omega) (by rw [hz2]; omega) (by omega)
  rw [hz1, Int.toNat_natCast, madeCells_u8] at hr
  refine wpList_value hgd _ _ ?_ h
  simp [execOp, ho, hx, hy, hr, Result.andThen]
end
end Go.Proofs.Ytpdkdhcbibcifaa
