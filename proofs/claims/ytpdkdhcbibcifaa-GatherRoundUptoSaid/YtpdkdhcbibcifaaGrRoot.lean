/-
  GrRoot: rooted: does every way upwards end?
-/
import Derived.Test.YtpdkdhcbibcifaaGrEnter
import Derived.Test.YtpdkdhcbibcifaaGrLine
import Derived.Deep.Cut
namespace Go.Proofs.Ytpdkdhcbibcifaa
set_option linter.unusedVariables false
set_option linter.unusedSimpArgs false
open Go.ChangeShapes Go.WideShapes Go.ChangeAt Go.RowKit
open Go.Maps (Keyed)
namespace Gr
/-! ### the climb -/
theorem climb_add (p : List (Int × Int)) : ∀ (i j : Nat) (x y : Int), climb p i x = some y → climb p (i + j) x = climb p j y
  | 0, j, x, y, h => by simp only [climb, Option.some.injEq] at h; subst h; rw [Nat.zero_add]
  | i + 1, j, x, y, h => by
    rw [show i + 1 + j = (i + j) + 1 by omega]
    simp only [climb] at h ⊢
    cases hl : p.lookup x with
    | none => rw [hl] at h; cases h
    | some u => rw [hl] at h; exact climb_add p i j u y h
theorem climb_succ (p : List (Int × Int)) (i : Nat) (x y : Int) (h : climb p i x = some y) : climb p (i + 1) x = p.lookup y := by
  rw [climb_add p i 1 x y h]
  simp only [climb]
  cases p.lookup y <;> rfl
theorem climb_none (p : List (Int × Int)) : ∀ (i j : Nat) (x : Int), climb p i x = none → climb p (i + j) x = none
  | 0, j, x, h => by simp [climb] at h
  | i + 1, j, x, h => by
    rw [show i + 1 + j = (i + j) + 1 by omega]
    simp only [climb] at h ⊢
    cases hl : p.lookup x with
    | none => rfl
    | some u => rw [hl] at h; exact climb_none p i j u h
theorem pigeon : ∀ {l m : List Int}, l.Nodup → (∀ x ∈ l, x ∈ m) → l.length ≤ m.length
  | [], m, _, _ => by simp
  | a :: l, m, hn, hs => by
    rw [List.nodup_cons] at hn
    have h1 := pigeon (m := m.erase a) hn.2 (fun x hx => (List.mem_erase_of_ne (by rintro rfl; exact hn.1 hx)).2 (hs x (by simp [hx])))
    have h2 := List.length_erase_of_mem (hs a (by simp))
    have h3 : 0 < m.length := List.length_pos_of_mem (hs a (by simp))
    simp only [List.length_cons]
    omega
/-- the first k steps of a way -/
def steps (p : List (Int × Int)) (x : Int) (k : Nat) : List Int := (List.range k).filterMap fun i => climb p i x
theorem ends_least {p : List (Int × Int)} {x : Int} (h : Ends p x) : ∃ k, climb p (k + 1) x = none ∧ ∀ j, j ≤ k → ∃ y, climb p j x = some y := by
  obtain ⟨n, hn⟩ := h
  induction n with
  | zero => simp [climb] at hn
  | succ n ih =>
    cases hc : climb p n x with
    | none => exact ih hc
    | some y =>
      refine ⟨n, hn, fun j hj => ?_⟩
      cases hj2 : climb p j x with
      | some z => exact ⟨z, rfl⟩
      | none =>
        have := climb_none p j (n - j) x hj2
        rw [show j + (n - j) = n by omega, hc] at this
        cases this
/-- a way that ends is no longer than there are pairs -/
theorem ends_bound {p : List (Int × Int)} {x : Int} (h : Ends p x) : climb p (p.length + 1) x = none := by
  obtain ⟨k, hk, hs⟩ := ends_least h
  have hinj : ∀ i j y, i < j → j ≤ k → climb p i x = some y → climb p j x = some y → False := by
    intro i j y hij hjk hi hj
    have e1 := climb_add p j (k + 1 - j) x y hj
    have e2 := climb_add p i (k + 1 - j) x y hi
    rw [show j + (k + 1 - j) = k + 1 by omega, hk] at e1
    rw [← e1] at e2
    obtain ⟨z, hz⟩ := hs (i + (k + 1 - j)) (by omega)
    rw [hz] at e2
    cases e2
  have hlen : ((List.range k).map fun i => (climb p i x).getD 0).length ≤ (p.map (·.1)).length := by
    refine pigeon ?_ ?_
    · refine List.pairwise_map.2 (List.Pairwise.imp_of_mem (fun {a b} ha hb hab e => ?_) (List.pairwise_lt_range (n := k)))
      simp only [List.mem_range] at ha hb
      obtain ⟨y, hy⟩ := hs a (by omega)
      obtain ⟨z, hz⟩ := hs b (by omega)
      rw [hy, hz] at e
      simp at e
      subst e
      exact hinj a b y hab (by omega) hy hz
    · intro y hy
      obtain ⟨i, hi, rfl⟩ := List.mem_map.1 hy
      simp only [List.mem_range] at hi
      obtain ⟨y, hy⟩ := hs i (by omega)
      obtain ⟨z, hz⟩ := hs (i + 1) (by omega)
      rw [climb_succ p i x y hy] at hz
      rw [hy]
      exact List.mem_map.2 ⟨_, lookup_mem hz, rfl⟩
  simp at hlen
  have := climb_none p (k + 1) (p.length - k) x hk
  rwa [show k + 1 + (p.length - k) = p.length + 1 by omega] at this
theorem ends_up {p : List (Int × Int)} {x y : Int} (k : Nat) (h : climb p k x = some y) (he : Ends p y) : Ends p x := by
  obtain ⟨n, hn⟩ := he
  exact ⟨k + n, by rw [climb_add p k n x y h]; exact hn⟩
theorem ends_down {p : List (Int × Int)} {x y : Int} (k : Nat) (h : climb p k x = some y) (he : Ends p x) : Ends p y := by
  obtain ⟨n, hn⟩ := he
  refine ⟨n, ?_⟩
  have := climb_none p n k x hn
  rw [Nat.add_comm, climb_add p k n x y h] at this
  exact this
theorem acy_of_keys {p : List (Int × Int)} (h : ∀ x, (p.lookup x).isSome = true → Ends p x) : Acy p := by
  intro x
  cases hl : p.lookup x with
  | none => exact ⟨1, by simp [climb, hl]⟩
  | some u => exact h x (by rw [hl]; rfl)
def fineF (F : Int → Bool) (x : Int) : Option Value := if F x then some (.int .i64 1) else none
theorem fineF_upd (F : Int → Bool) (x y : Int) : upd (fineF F) x (.int .i64 1) y = fineF (fun z => F z || z == x) y := by
  unfold upd fineF
  by_cases h : y = x
  · subst h; simp
  · simp [h]
/-- the step of a range over a map keyed by ints -/
theorem wpList_next_h {P : Program} {k : TypeId} (w : World) {ops : Array Oper} {rest : List Oper} {o : Oper} {a : Act} {Q : Exit → Act → World → Prop} (hg : o.guard = none) (it : Operand) (hop : o.op = Op.next it false) (K : Keyed P k) (hk : P.underlying k = some (.int .i64)) (b r n : Nat) (D : DataW Value) (left : Lit → Bool) (cnt : Nat)
    (hit : a.eval it = .pointer (some ⟨r, 0, none⟩)) (h : w.ranges P k held b r n D left cnt)
    (hDone : cnt = 0 → (∀ kl, left kl = false) → wpList P ops Q rest (a.put o.dst (.tuple #[.bool false])) w)
    (hMore : ∀ (x : Int) (v : Value) (w' : World) (cnt' : Nat), (Lit.int .i64 x).wf = true → left (mkI x) = true → w'.ranges P k held b r n D (fun z => left z && !z.sameKey (mkI x)) cnt' → cnt' < cnt →
      w.grownBy w' (some r) → w'.heap.size = w.heap.size → (Instr.entry (.pointer (some ⟨r, 0, none⟩))).run P w' = .ok (.tuple #[.int .i64 x, v]) w' → wpList P ops Q rest (a.put o.dst (.tuple #[.bool true, .int .i64 x, v])) w') :
    wpList P ops Q (o :: rest) a w :=
  wpList_next_ranges w hg it hop k K held (Value.int .i64) (fun v => v) (fun key kl hkey => by obtain ⟨x, rfl, _⟩ := Maps.keyOf_int_inv hk hkey; exact ⟨x, rfl⟩) (fun v y hv => ⟨v, rfl⟩) b r n D left cnt hit h hDone
    (fun x c kl y w' cnt' hkey hlk hv hat hrg hlt hgr hsz hen => by
      obtain ⟨x', ex, rfl, hw⟩ := Maps.keyOf_int_inv hk hkey
      cases ex
      exact hMore x c w' cnt' hw hlk hrg hlt hgr hsz hen)
theorem wf_int {x : Int} (h : (Lit.int .i64 x).wf = true) : -9223372036854775808 ≤ x ∧ x ≤ 9223372036854775807 := by
  simp [Lit.wf, IntKind.min, IntKind.max, IntKind.signed, IntKind.bits] at h
  omega
def slLen : Value → Nat
  | .slice _ n _ => n
  | _ => 0
theorem cnt_step {c c1 L T s : Nat} (h : c1 < c) (hs : s + c * L ≤ T) : s + L + c1 * L ≤ T := by
  have h1 : (c1 + 1) * L ≤ c * L := Nat.mul_le_mul_right L h
  rw [Nat.add_mul] at h1
  omega
/-- the way so far -/
def wayL (p : List (Int × Int)) (x : Int) (m : Nat) : List Int := (List.range m).map fun i => (climb p i x).getD 0
theorem wayL_succ {p : List (Int × Int)} {x cur : Int} {m : Nat} (h : climb p m x = some cur) : wayL p x (m + 1) = wayL p x m ++ [cur] := by
  simp [wayL, List.range_succ, h]
abbrev inI (y : Int) : Prop := -9223372036854775808 ≤ y ∧ y ≤ 9223372036854775807
theorem wayL_at {p : List (Int × Int)} {x : Int} {m : Nat} (hm : ∀ i, i < m → ∃ y, climb p i x = some y ∧ inI y) (i : Nat) (hi : i < m) : ∃ y, ((wayL p x m).map (Value.int .i64))[i]? = some (.int .i64 y) ∧ inI y ∧ (Ends p x → Ends p y) := by
  obtain ⟨y, hy, hb⟩ := hm i hi
  refine ⟨y, ?_, hb, fun he => ends_down i hy he⟩
  simp [wayL, hi, hy]
theorem infoInt : (Try.prog.info? 3).map (fun i => (i.zero, i.size, i.bytes)) = some (some (.int .i64 0), 1, 8) := by kernel_rfl
set_option maxRecDepth 100000 in
set_option maxHeartbeats 4000000 in
theorem rooted_any (pb : Nat) (p : List (Int × Int)) (w : World) (hpb : MpI w pb p.length (parF p)) (hwf : ∀ x u, p.lookup x = some u → -9223372036854775808 ≤ u ∧ u ≤ 9223372036854775807) (hsz : p.length ≤ 1000000) :
    Calls Try.prog 58 #[.map (some pb)] w (RetB w (Acy p)) := by
  have HPB := Lib.hid hpb
  obtain ⟨D, hD, hDs, hDr⟩ := hpb
  have hpl := hD.lt
  have HD := Lib.hid hD; have HDR := Lib.hid hDr; have HWF := Lib.hid hwf; have HDS := Lib.hid hDs
  clear hD hDr hwf hDs
  have hmm := @run_makeMap Try.prog
  go_enter Try.func58, Try.ntmps58
  go_wp2_with (at_range; refine wpList_range_own _ rfl _ 106 rfl 3 3 lawI Try.underlying106 held pb p.length D rfl (HD.out.alloc _) ?_; intro w0 hrg0 hg0 hs0)
  go_frame
  have e1 : (w.alloc (Obj.map #[] 0)).heap.size = w.heap.size + 1 := by simp
  rw [e1] at hrg0 hs0
  have hfm := (Mp.made mkI w Try.prog 3).kept hg0 (by simp)
  have hfm0 : MpI w0 w.heap.size 0 (fineF fun _ => false) := hfm.congr (fun x => by simp [fineF])
  have hb0 : Below w.heap.size w w0 := ((Below.refl w.heap.size w).alloc (Nat.le_refl _) _).grown hg0 (by simp) (by simp)
  have HRG0 := Lib.hid hrg0; have HFM0 := Lib.hid hfm0; have HB0 := Lib.hid hb0
  have hdz : Maps.size D = p.length := HDS.out
  clear hrg0 hfm0 hb0 hfm hg0
  have HDZ := Lib.hid hdz; clear hdz
  simp only [e1]
  go_loopw [4] (fun _ wr => ∃ left cnt F s, Hid (wr.ranges Try.prog 3 held pb (w.heap.size + 1) p.length D left cnt) ∧ Hid (MpI wr w.heap.size s (fineF F)) ∧ Hid (Below w.heap.size w wr) ∧ Hid (∀ x, F x = true → Ends p x) ∧
    Hid (∀ x, Maps.has D (mkI x) = true → left (mkI x) = false → Ends p x) ∧ Hid (s + cnt * (p.length + 1) ≤ p.length * (p.length + 1)) ∧ w.heap.size + 2 ≤ wr.heap.size) (fun _ wr => wr.rangeLeft pb (w.heap.size + 1))
  case atStart => exact ⟨Maps.has D, Maps.size D, fun _ => false, 0, HRG0, HFM0, HB0, Lib.hid (by simp), Lib.hid (fun x h1 h2 => by rw [h1] at h2; cases h2), Lib.hid (by rw [HDZ.out]; omega), by omega⟩
  case round =>
    obtain ⟨left, cnt, F, s, hrg, hfm, hbel, hF, hleft, hcnt, hws⟩ := hrel
    go_wp2_with (at_next; refine wpList_next_h _ rfl _ rfl lawI Try.underlying3 pb (w.heap.size + 1) p.length D left cnt rfl hrg.out ?_ ?_)
    · intro hc0 hl0
      have HL := Lib.hid hl0
      clear hl0
      go_wp2
      go_ret
      exact RetB.yes (acy_of_keys fun x hx => hleft.out x (by rw [(HDR.out x).1]; simpa [parF] using hx) (HL.out _)) hbel.out
    · intro x v w1 cnt1 hwx hlx hrg1 hlt1 hg1 hs1 hen
      have hx := wf_int hwx
      have hmul : p.length * (p.length + 1) ≤ 1000001000000 := Nat.le_trans (Nat.mul_le_mul hsz (Nat.succ_le_succ hsz)) (by decide)
      have hsb : s ≤ 1000001000000 := by have := hcnt.out; omega
      clear hmul
      have hfm1 := hfm.out.kept hg1 (by simp)
      have hb1 : Below w.heap.size w w1 := hbel.out.grown hg1 hbel.out.size (by simp)
      have hla := hrg.out.left_eq
      have HLA := Lib.hid hla
      have HG1 := Lib.hid hg1; have HRG1 := Lib.hid hrg1; have HFM1 := Lib.hid hfm1; have HB1 := Lib.hid hb1
      have hws1 : w.heap.size + 2 ≤ w1.heap.size := by omega
      have hleft1 : Ends p x → ∀ y, Maps.has D (mkI y) = true → (left (mkI y) && !(mkI y).sameKey (mkI x)) = false → Ends p y := by
        intro hex y hy hl
        cases hly : left (mkI y) with
        | false => exact hleft.out y hy hly
        | true =>
          rw [hly] at hl
          simp at hl
          have := mkI_inj _ _ (WideAt.sameKey_eq hl)
          rw [this]; exact hex
      have HL1 := Lib.hid hleft1
      clear hg1 hrg1 hfm1 hb1 hwx hlx hrg hfm hbel hla hleft1 hleft hs1
      go_wp2
      go_loopw [5, 6] (fun wy at' wr => ∃ (m : Nat) (aw : Option Addr) (cw : Nat) (cur : Int), m ≤ p.length ∧ wy = .slice aw m cw ∧ at' = .int .i64 cur ∧ Hid (wr.ranges Try.prog 3 held pb (w.heap.size + 1) p.length D (fun z => left z && !z.sameKey (mkI x)) cnt1) ∧ Hid (MpI wr w.heap.size s (fineF F)) ∧ Hid (Below w.heap.size w wr) ∧
        Hid (wr.ownsRow (w.heap.size + 2) 3 1 (.slice aw m cw) m ((wayL p x m).map (Value.int .i64))) ∧ Hid (climb p m x = some cur) ∧ Hid (∀ i, i < m → ∃ y, climb p i x = some y ∧ inI y) ∧ w.heap.size + 2 ≤ wr.heap.size ∧ -9223372036854775808 ≤ cur ∧ cur ≤ 9223372036854775807) (fun wy _ _ => p.length + 1 - slLen wy)
      case atStart => exact ⟨0, none, 0, x, Nat.zero_le _, rfl, rfl, HRG1, HFM1, HB1, Lib.hid (World.ownsRow_nil _ _ _ _), Lib.hid rfl, Lib.hid (fun i hi => by omega), hws1, hx.1, hx.2⟩
      case round =>
        obtain ⟨m, aw, cw, cur, hm, rfl, rfl, hrg2, hfm2, hbel2, hway, hcl, hpre, hws2, hcur1, hcur2⟩ := hrel
        have HKEY := Lib.hid (key_int (P := Try.prog) Try.underlying3 hcur1 hcur2)
        cases hFc : F cur with
        | true =>
          have HV : Hid ((fineF F cur).getD (.int .i64 0) = .int .i64 1) := Lib.hid (by simp [fineF, hFc])
          have HEX : Hid (Ends p x) := Lib.hid (ends_up m hcl.out (hF.out cur hFc))
          clear hFc
          go_wp2_with (at_lookup; refine wpList_mp_look_v rfl _ _ 106 rfl 3 lawI Try.underlying106 (zeroInt _) rfl hfm2.out _ cur rfl HKEY.out _ HV.out ?_)
          have hwl := own_isSl hway.out
          have HWL := Lib.hid hwl
          have hMc := hwl.2.1; have hMx := hwl.2.2.1
          unfold maxLen at hMx
          clear hwl
          go_loopw [43] (fun i wr3 => ∃ (k : Nat) (F' : Int → Bool) (s' : Nat), k ≤ m ∧ i = .int .i64 k ∧ Hid (wr3.ranges Try.prog 3 held pb (w.heap.size + 1) p.length D (fun z => left z && !z.sameKey (mkI x)) cnt1) ∧ Hid (MpI wr3 w.heap.size s' (fineF F')) ∧ Hid (Below w.heap.size w wr3) ∧
            Hid (wr3.ownsRow (w.heap.size + 2) 3 1 (.slice aw m cw) m ((wayL p x (m)).map (Value.int .i64))) ∧ Hid (∀ x, F' x = true → Ends p x) ∧ s' ≤ s + k ∧ w.heap.size + 2 ≤ wr3.heap.size) (fun i _ => m - (intOf i).toNat)
          case atStart => exact ⟨0, F, s, Nat.zero_le _, rfl, hrg2, hfm2, hbel2, hway, hF, by omega, hws2⟩
          case round =>
            obtain ⟨k, F', s', hk, rfl, hrg3, hfm3, hbel3, hway3, hF3, hs3, hws3⟩ := hrel
            by_cases hlt : k < m
            · obtain ⟨y, hy, hyb, hye⟩ := wayL_at hpre.out k hlt
              obtain ⟨bq, oq, rfl, hcell⟩ := (own_isSl hway3.out).2.2.2.1.at k _ hy
              have HYE := Lib.hid (hye HEX.out)
              have HKY := Lib.hid (key_int (P := Try.prog) Try.underlying3 hyb.1 hyb.2)
              have hwb := (hway3.out.lt bq rfl).1
              clear hy hye hyb
              go_wp2_with (at_mapUpdate; refine wpList_mp_put rfl _ _ _ 106 rfl 3 lawI Try.underlying106 rfl hfm3.out (by unfold maxLen; omega) _ y rfl HKY.out _ rfl mkI_inj ?_; intro w5 hm5 hg5)
              have hs5 : ∃ s5, s5 ≤ s' + 1 ∧ MpI w5 w.heap.size s5 (fineF fun z => F' z || z == y) := by
                refine ⟨_, ?_, hm5.congr (fineF_upd F' y)⟩
                split <;> omega
              obtain ⟨s5, hs5, hm6⟩ := hs5
              exact ⟨⟨k + 1, fun z => F' z || z == y, s5, by omega, by go_num, Lib.hid (hrg3.out.kept hg5 (by simp; omega) (by simp)), Lib.hid hm6, Lib.hid (hbel3.out.grown hg5 hbel3.out.size (fun j hj => by cases hj; exact Nat.le_refl _)), Lib.hid (hway3.out.kept hg5 (by right; simp [Value.ownBlock]; omega)), Lib.hid (fun z hz => by simp at hz; rcases hz with hz | hz; exact hF3.out z hz; rw [hz]; exact HYE.out), by omega, by have := hg5.size; omega⟩, by simp [intOf]; omega⟩
            · obtain rfl : k = m := by omega
              have hcs := cnt_step hlt1 hcnt.out
              have HCS := Lib.hid hcs
              clear hcs
              go_wp2
              exact ⟨⟨_, cnt1, F', s', hrg3, hfm3, hbel3, hF3, Lib.hid (HL1.out HEX.out), Lib.hid (by have := HCS.out; omega), hws3⟩, by rw [hrg3.out.left_eq, HLA.out]; exact hlt1⟩
        | false =>
          have HV : Hid ((fineF F cur).getD (.int .i64 0) = .int .i64 0) := Lib.hid (by simp [fineF, hFc])
          clear hFc
          go_upto_region 9 with (first
            | (at_lookup; refine wpList_mp_look_v rfl _ _ 106 rfl 3 lawI Try.underlying106 (zeroInt _) rfl hfm2.out _ cur rfl HKEY.out _ HV.out ?_)
            | (at_builtin; refine wpList_app rfl _ _ 85 rfl (w.heap.size + 2) 3 _ 1 8 Try.underlying85 infoInt rfl (by decide) (by decide) rfl (hway.out.alloc _) rfl (isSl_new wr 3 1 1 _ rfl (by decide)) (by simp [Value.oneCell']) (by omega) (by simp; omega) ?_; intro a4 c4 w4 ho4 hg4))
          have hnp : ∀ c, c < w.heap.size + 2 → some c ≠ (Value.slice aw m cw).ownBlock := fun c hc e => by have := (hway.out.lt _ e.symm).1; omega
          have hr4 := (hrg2.out.kept (World.grownBy_alloc wr (.cells #[.int .i64 cur] 3) none) (by simp) (by simp)).kept hg4 (hnp _ (by omega)) (hnp _ (by omega))
          have hf4 := (hfm2.out.kept (World.grownBy_alloc wr (.cells #[.int .i64 cur] 3) none) (by simp)).kept hg4 (hnp _ (by omega))
          have hb4 := below_app (hbel2.out.alloc hbel2.out.size (.cells #[.int .i64 cur] 3)) (hway.out.alloc _) hg4 (by omega) (by simp; omega)
          have hw4 : w4.ownsRow (w.heap.size + 2) 3 1 (.slice a4 (m + 1) c4) (m + 1) ((wayL p x (m + 1)).map (Value.int .i64)) := by
            rw [wayL_succ hcl.out, List.map_append]
            exact ho4
          have hp4 : ∀ i, i < m + 1 → ∃ y, climb p i x = some y ∧ inI y := fun i hi => by
            by_cases him : i < m
            · exact hpre.out i him
            · obtain rfl : i = m := by omega
              exact ⟨cur, hcl.out, hcur1, hcur2⟩
          have hws4 : w.heap.size + 2 ≤ w4.heap.size := by have := hg4.size; simp at this; omega
          have HR4 := Lib.hid hr4; have HF4 := Lib.hid hf4; have HB4 := Lib.hid hb4; have HW4 := Lib.hid hw4; have HP4 := Lib.hid hp4
          have hmp4 := HPB.out.below hb4 hpl
          have HM4 := Lib.hid hmp4
          have hlen := fun ty => hmp4.run_len Try.underlying106 ty
          clear hr4 hf4 hb4 hw4 hp4 ho4 hg4 hnp hmp4
          cases hlk : p.lookup cur with
          | none =>
            have HQ : Hid ((parF p cur).getD (.int .i64 0) = .int .i64 0) := Lib.hid (by simp [parF, hlk])
            have HQ2 : Hid ((parF p cur).isSome = false) := Lib.hid (by simp [parF, hlk])
            have HEX : Hid (Ends p x) := Lib.hid ⟨m + 1, by rw [climb_succ p m x cur hcl.out]; exact hlk⟩
            clear hlk
            go_wp2_with (at_lookup; refine wpList_mp_look_ok_v rfl _ _ 106 rfl 3 lawI Try.underlying106 (zeroInt _) rfl HM4.out _ cur rfl HKEY.out _ _ HQ.out HQ2.out ?_)
            have hwl := own_isSl HW4.out
            have HWL := Lib.hid hwl
            have hMc := hwl.2.1; have hMx := hwl.2.2.1
            unfold maxLen at hMx
            clear hwl
            go_loopw [43] (fun i wr3 => ∃ (k : Nat) (F' : Int → Bool) (s' : Nat), k ≤ m + 1 ∧ i = .int .i64 k ∧ Hid (wr3.ranges Try.prog 3 held pb (w.heap.size + 1) p.length D (fun z => left z && !z.sameKey (mkI x)) cnt1) ∧ Hid (MpI wr3 w.heap.size s' (fineF F')) ∧ Hid (Below w.heap.size w wr3) ∧
              Hid (wr3.ownsRow (w.heap.size + 2) 3 1 (.slice a4 (m + 1) c4) (m + 1) ((wayL p x (m + 1)).map (Value.int .i64))) ∧ Hid (∀ x, F' x = true → Ends p x) ∧ s' ≤ s + k ∧ w.heap.size + 2 ≤ wr3.heap.size) (fun i _ => m + 1 - (intOf i).toNat)
            case atStart => exact ⟨0, F, s, Nat.zero_le _, rfl, HR4, HF4, HB4, HW4, hF, by omega, hws4⟩
            case round =>
              obtain ⟨k, F', s', hk, rfl, hrg3, hfm3, hbel3, hway3, hF3, hs3, hws3⟩ := hrel
              by_cases hlt : k < m + 1
              · obtain ⟨y, hy, hyb, hye⟩ := wayL_at HP4.out k hlt
                obtain ⟨bq, oq, rfl, hcell⟩ := (own_isSl hway3.out).2.2.2.1.at k _ hy
                have HYE := Lib.hid (hye HEX.out)
                have HKY := Lib.hid (key_int (P := Try.prog) Try.underlying3 hyb.1 hyb.2)
                have hwb := (hway3.out.lt bq rfl).1
                clear hy hye hyb
                go_wp2_with (at_mapUpdate; refine wpList_mp_put rfl _ _ _ 106 rfl 3 lawI Try.underlying106 rfl hfm3.out (by unfold maxLen; omega) _ y rfl HKY.out _ rfl mkI_inj ?_; intro w5 hm5 hg5)
                have hs5 : ∃ s5, s5 ≤ s' + 1 ∧ MpI w5 w.heap.size s5 (fineF fun z => F' z || z == y) := by
                  refine ⟨_, ?_, hm5.congr (fineF_upd F' y)⟩
                  split <;> omega
                obtain ⟨s5, hs5, hm6⟩ := hs5
                exact ⟨⟨k + 1, fun z => F' z || z == y, s5, by omega, by go_num, Lib.hid (hrg3.out.kept hg5 (by simp; omega) (by simp)), Lib.hid hm6, Lib.hid (hbel3.out.grown hg5 hbel3.out.size (fun j hj => by cases hj; exact Nat.le_refl _)), Lib.hid (hway3.out.kept hg5 (by right; simp [Value.ownBlock]; omega)), Lib.hid (fun z hz => by simp at hz; rcases hz with hz | hz; exact hF3.out z hz; rw [hz]; exact HYE.out), by omega, by have := hg5.size; omega⟩, by simp [intOf]; omega⟩
              · obtain rfl : k = m + 1 := by omega
                have hcs := cnt_step hlt1 hcnt.out
                have HCS := Lib.hid hcs
                clear hcs
                go_wp2
                exact ⟨⟨_, cnt1, F', s', hrg3, hfm3, hbel3, hF3, Lib.hid (HL1.out HEX.out), Lib.hid (by have := HCS.out; omega), hws3⟩, by rw [hrg3.out.left_eq, HLA.out]; exact hlt1⟩
          | some u =>
            have HQ : Hid ((parF p cur).getD (.int .i64 0) = .int .i64 u) := Lib.hid (by simp [parF, hlk])
            have HQ2 : Hid ((parF p cur).isSome = true) := Lib.hid (by simp [parF, hlk])
            have hwu := HWF.out cur u hlk
            have hcu : climb p (m + 1) x = some u := by rw [climb_succ p m x cur hcl.out]; exact hlk
            have HCU := Lib.hid hcu
            clear hlk hcu
            by_cases hbig : p.length < m + 1
            · have HNA : Hid (¬ Acy p) := Lib.hid (fun ha => by
                have h1 := ends_bound (ha x)
                have h2 := HCU.out
                obtain rfl : m = p.length := by omega
                rw [h1] at h2; cases h2)
              go_wp2_with (at_lookup; refine wpList_mp_look_ok_v rfl _ _ 106 rfl 3 lawI Try.underlying106 (zeroInt _) rfl HM4.out _ cur rfl HKEY.out _ _ HQ.out HQ2.out ?_)
              go_ret
              exact RetB.no HNA.out HB4.out
            · go_wp2_with (at_lookup; refine wpList_mp_look_ok_v rfl _ _ 106 rfl 3 lawI Try.underlying106 (zeroInt _) rfl HM4.out _ cur rfl HKEY.out _ _ HQ.out HQ2.out ?_)
              exact ⟨⟨m + 1, a4, c4, u, by omega, rfl, rfl, HR4, HF4, HB4, HW4, HCU, HP4, hws4, hwu.1, hwu.2⟩, by simp [slLen]; omega⟩
end Gr
end Go.Proofs.Ytpdkdhcbibcifaa
