/-
  GrRoundW: the law GatherRound walked.
-/
import Derived.Test.YtpdkdhcbibcifaaGrAlive
namespace Go.Proofs.Ytpdkdhcbibcifaa
set_option linter.unusedVariables false
set_option linter.unusedSimpArgs false
open Go.ChangeShapes Go.WideShapes Go.ChangeAt Go.RowKit
namespace Gr
/-- small lines, small entries -/
def LnSm (m : Nat) (l : Ln) : Prop := l.data.length ≤ m ∧ l.path.length ≤ m ∧ l.peer.length ≤ m ∧ l.target.length ≤ m
def EnSm (m : Nat) (e : En) : Prop := e.data.length ≤ m ∧ e.name.length ≤ m ∧ e.link.length ≤ m
def LnsSm (m : Nat) (ls : List Ln) : Prop := ls.length ≤ 2000000 ∧ ∀ l ∈ ls, LnSm m l
def EnsSm (m : Nat) (es : List En) : Prop := es.length ≤ 2000000 ∧ ∀ e ∈ es, EnSm m e
theorem entOf_sm {m : Nat} {l : Ln} (h : LnSm m l) : EnSm (m + 1) (entOf l) := by
  obtain ⟨h1, h2, h3, h4⟩ := h
  unfold entOf
  split
  · exact ⟨by simp, by simp only; omega, by simp only; omega⟩
  · split
    · exact ⟨by simp, by simp; omega, by simp⟩
    · split
      · exact ⟨by simp, by simp only; omega, by simp only; omega⟩
      · exact ⟨by simp only; omega, by simp only; omega, by simp⟩
theorem linesGo_sm {m : Nat} : ∀ {es : List En} {ks : List (Bt × Int)}, (∀ e ∈ es, EnSm m e) → ∀ l ∈ linesGo ks es, l.data.length ≤ m ∧ l.path.length ≤ m ∧ l.peer.length ≤ m
  | [], _, _, l, hl => by simp [linesGo] at hl
  | e :: es, ks, h, l, hl => by
    simp only [linesGo] at hl
    rcases List.mem_cons.1 hl with rfl | hl
    · obtain ⟨h1, h2, h3⟩ := h e (by simp)
      obtain ⟨k1, k2, k3⟩ := linOf_len (ks := ks) h2 h3
      exact ⟨by rw [k3]; exact h1, k1, k2⟩
    · exact linesGo_sm (fun e he => h e (by simp [he])) l hl
theorem lnNum_of {w : World} {a : Option Addr} {n c m : Nat} {S : List LnS} {LS : List Ln} (h : Lns w a n c S) (hm : S.map (·.1) = LS) (hn : LS.length ≤ 2000000) (hd : ∀ l ∈ LS, l.data.length ≤ m ∧ l.path.length ≤ m ∧ l.peer.length ≤ m) (hm2 : m ≤ 1900000 := by decide) : LnNum S := by
  have hx : ∀ x ∈ S, x.1 ∈ LS := fun x hx => by rw [← hm]; exact List.mem_map.2 ⟨x, hx, rfl⟩
  refine ⟨by rw [← hm, List.length_map] at hn; exact hn, fun x hxm => ?_, fun x hxm => ?_⟩
  · have h1 := (h.dat x hxm).len
    have h2 := hd _ (hx x hxm)
    omega
  · have h2 := hd _ (hx x hxm)
    omega
theorem enNum_of {w : World} {a : Option Addr} {n c m : Nat} {S : List EnS} {ES : List En} (h : Ens w a n c S) (hm : S.map (·.1) = ES) (hd : EnsSm m ES) (hm2 : m ≤ 1900000 := by decide) : EnNum S := by
  have hx : ∀ x ∈ S, x.1 ∈ ES := fun x hx => by rw [← hm]; exact List.mem_map.2 ⟨x, hx, rfl⟩
  have hn := hd.1
  refine ⟨by rw [← hm, List.length_map] at hn; exact hn, fun x hxm => ?_, fun x hxm => ?_⟩
  · have h1 := (h.dat x hxm).len
    have h2 := hd.2 _ (hx x hxm)
    have h3 := h2.1
    omega
  · have h2 := hd.2 _ (hx x hxm)
    have h3 := h2.2
    omega
set_option maxRecDepth 100000 in
set_option maxHeartbeats 4000000 in
theorem GatherRound_walk (a0 : Option Addr) (n0 c0 : Nat) (S0 : List LnS) (a1 : Option Addr) (n1 c1 : Nat) (S1 : List EnS) (w : World) (h0 : Lns w a0 n0 c0 S0) (hs0 : LnsSm 1048576 (lOf S0)) (h1 : Ens w a1 n1 c1 S1) (hs1 : EnsSm 1048576 (eOf S1)) :
    Calls Try.prog 7 #[.slice a0 n0 c0, .slice a1 n1 c1] w fun r w' => r = .returned (.bool true) ∧ Below w.heap.size w w' := by
  have hl0 := h0.len; have hl1 := h1.len
  have hn0 : n0 ≤ 2000000 := by have := hs0.1; rw [List.length_map] at this; omega
  have hn1 : n1 ≤ 2000000 := by have := hs1.1; rw [List.length_map] at this; omega
  have hd0 : ∀ x ∈ S0, x.2.2.1 ≤ 140737488355328 := fun x hx => by
    have e1 := (h0.dat x hx).len
    have e2 := (hs0.2 x.1 (List.mem_map.2 ⟨x, hx, rfl⟩)).1
    omega
  have hd1 : ∀ x ∈ S1, x.2.2.1 ≤ 140737488355328 := fun x hx => by
    have e1 := (h1.dat x hx).len
    have e2 := (hs1.2 x.1 (List.mem_map.2 ⟨x, hx, rfl⟩)).1
    omega
  have HE1 := Lib.hid hs1
  have HL0 := Lib.hid hs0
  go_enter Try.func7, Try.ntmps7
  go_upto_region 4 with (first
    | (go_at_call 9; (refine (alive_any w).mono ?_); rintro r w1 ⟨rfl, hb1⟩; have HB1 := Lib.hid hb1; clear hb1)
    | (go_at_call 10; (refine (CopyLs_any a0 n0 c0 S0 w1 (h0.below HB1.out) (by omega) hd0).mono ?_); rintro r w2 ⟨a2, n2, c2, S2, rfl, hn2, hm2, hb2⟩; have HN2 := Lib.hid hn2; have HM2 := Lib.hid hm2; have HB2 := Lib.hid (HB1.out.trans (hb2.mono HB1.out.size)); clear hn2 hm2 hb2)
    | (go_at_call 11; (refine (Entries_any a2 n2 c2 S2 w2 HN2.out.lns (lnNum_of HN2.out.lns HM2.out HL0.out.1 (fun l hl => ⟨(HL0.out.2 l hl).1, (HL0.out.2 l hl).2.1, (HL0.out.2 l hl).2.2.1⟩))).mono ?_); rintro r w3 ⟨a3, n3, c3, code, S3, rfl, hb3, hn3, hc3, _, _, hc3c, _⟩; have HN3 := Lib.hid hn3; have HB3 := Lib.hid (HB2.out.trans (hb3.mono HB2.out.size)); have HC3 := Lib.hid hc3; have HC3C := Lib.hid hc3c; clear hb3 hn3 hc3 hc3c))
  have hlo2 : lOf S2 = lOf S0 := HM2.out
  rw [hlo2] at HC3 HC3C
  clear hlo2
  by_cases hc0 : code = 0
  · subst hc0
    have HGA := Lib.hid (HC3.out.1 rfl)
    have HM3 := Lib.hid (HC3C.out rfl)
    obtain ⟨hgb1, hgb2⟩ := gath_back HGA.out
    have HG1 := Lib.hid hgb1; have HG2 := Lib.hid hgb2
    have hsm3 : EnsSm 1048577 (S3.map (·.1)) := by
      rw [HM3.out]
      refine ⟨by rw [List.length_map]; exact HL0.out.1, fun e he => ?_⟩
      obtain ⟨l, hl, rfl⟩ := List.mem_map.1 he
      exact entOf_sm (HL0.out.2 l hl)
    have hd3 : ∀ x ∈ S3, x.2.2.1 ≤ 140737488355328 := fun x hx => by
      have e1 := (HN3.out.ens.dat x hx).len
      have e2 := (hsm3.2 x.1 (List.mem_map.2 ⟨x, hx, rfl⟩)).1
      omega
    have hn3 : n3 = n0 := by
      have e1 := HN3.out.len
      have e2 := congrArg List.length HM3.out
      rw [List.length_map, List.length_map, List.length_map] at e2
      omega
    have HSM3 := Lib.hid hsm3
    subst hn3
    clear HC3 HC3C hgb1 hgb2 hsm3
    go_upto_region 6 with (first
      | (go_at_call 20; (refine (CopyEs_any a3 n3 c3 S3 w3 HN3.out.ens (by omega) hd3).mono ?_); rintro r w4 ⟨a4, n4, c4, S4, rfl, hn4, hm4, hb4⟩; have HN4 := Lib.hid hn4; have HM4 := Lib.hid hm4; have HB4 := Lib.hid (HB3.out.trans (hb4.mono HB3.out.size)); clear hn4 hm4 hb4)
      | (go_at_call 19; (refine (Lines_any a4 n4 c4 S4 w4 HN4.out.ens (enNum_of HN4.out.ens HM4.out HSM3.out)).mono ?_); rintro r w5 ⟨a5, n5, c5, code2, S5, rfl, hb5, hn5, hc5, _, hc5c, _⟩; have HN5 := Lib.hid hn5; have HB5 := Lib.hid (HB4.out.trans (hb5.mono HB4.out.size)); have HC5 := Lib.hid hc5; have HC5C := Lib.hid hc5c; clear hb5 hn5 hc5 hc5c))
    have heo : eOf S4 = (lOf S0).map entOf := HM4.out.trans HM3.out
    rw [heo] at HC5 HC5C
    obtain rfl : code2 = 0 := HC5.out.2 HG1.out
    have hm5 : S5.map (·.1) = S0.map (·.1) := (HC5C.out rfl).trans HG2.out
    have HSL := Lib.hid (SameLs_yes a5 a0 n5 n3 c5 c0 S5 S0 w5 HN5.out.lns (h0.below HB5.out) hm5)
    clear heo hm5 HC5 HC5C hd3
    go_upto_region 8 with (go_at_call 14; (refine (HSL.out).mono ?_); rintro r w10 ⟨rfl, hb10⟩; have HB10 := Lib.hid (HB5.out.trans (hb10.mono HB5.out.size)); clear hb10)
    go_upto_region 9 with (first
      | (go_at_call 20; (refine (CopyEs_any a1 n1 c1 S1 w10 (h1.below HB10.out) (by omega) hd1).mono ?_); rintro r w6 ⟨a6, n6, c6, S6, rfl, hn6, hm6, hb6⟩; have HN6 := Lib.hid hn6; have HM6 := Lib.hid hm6; have HB6 := Lib.hid (HB10.out.trans (hb6.mono HB10.out.size)); clear hn6 hm6 hb6)
      | (go_at_call 19; (refine (Lines_any a6 n6 c6 S6 w6 HN6.out.ens (enNum_of HN6.out.ens HM6.out HE1.out)).mono ?_); rintro r w7 ⟨a7, n7, c7, code3, S7, rfl, hb7, hn7, hc7, hc7b, hc7c, hc7d⟩; have HN7 := Lib.hid hn7; have HB7 := Lib.hid (HB6.out.trans (hb7.mono HB6.out.size)); have HC7 := Lib.hid hc7; have HC7B := Lib.hid hc7b; have HC7C := Lib.hid hc7c; have HC7D := Lib.hid hc7d; clear hb7 hn7 hc7 hc7b hc7c hc7d))
    have heo : eOf S6 = eOf S1 := HM6.out
    rw [heo] at HC7 HC7C
    by_cases hc3 : code3 = 0
    · subst hc3
      have HLO := Lib.hid (HC7.out.1 rfl)
      have HM7 := Lib.hid (HC7C.out rfl)
      have hes := HLO.out.2
      have HES := Lib.hid hes
      have hga := HLO.out.1
      have hlo7 : lOf S7 = linesGo [] (eOf S1) := HM7.out
      rw [← hlo7] at hga
      have HGA := Lib.hid hga
      have HNU := Lib.hid (lnNum_of HN7.out.lns HM7.out (by rw [linesGo_len]; exact HE1.out.1) (linesGo_sm HE1.out.2))
      clear HC7 HC7B HC7C HC7D hes hga
      go_upto_region 12 with (go_at_call 11; (refine (Entries_any a7 n7 c7 S7 w7 HN7.out.lns HNU.out).mono ?_); rintro r w8 ⟨a8, n8, c8, code4, S8, rfl, hb8, hn8, hc8, _, _, hc8c, _⟩; obtain rfl : code4 = 0 := hc8.2 HGA.out; have HN8 := Lib.hid hn8; have HM8 := Lib.hid (hc8c rfl); have HB8 := Lib.hid (HB7.out.trans (hb8.mono HB7.out.size)); clear hb8 hn8 hc8 hc8c)
      have hsame : S8.map (·.1) = S1.map (·.1) := by
        have e1 := HM8.out
        rw [hlo7, HES.out] at e1
        exact e1
      have HSA := Lib.hid (SameEs_yes a8 a1 n8 n1 c8 c1 S8 S1 w8 HN8.out.ens (h1.below HB8.out) hsame)
      clear hsame hlo7 heo
      go_wp2_with (go_at_call 13; (refine (HSA.out).mono ?_); rintro r w9 ⟨rfl, hb9⟩; have HB9 := Lib.hid (HB8.out.trans (hb9.mono HB8.out.size)); clear hb9)
      go_ret
      exact ⟨rfl, HB9.out⟩
    · obtain rfl : code3 = 160 := by
        rcases HC7B.out with h | h
        · exact absurd h hc3
        · exact h
      obtain rfl : S7 = [] := HC7D.out hc3
      obtain rfl : n7 = 0 := by have := HN7.out.len; simpa using this.symm
      clear hc3 HC7 HC7C HC7D heo
      go_wp2_with fail
      go_ret
      exact ⟨rfl, HB7.out⟩
  · have hcb : (code == 0) = false := beq_f hc0
    clear hc0
    go_upto_region 8 with fail
    go_upto_region 9 with (first
      | (go_at_call 20; (refine (CopyEs_any a1 n1 c1 S1 w3 (h1.below HB3.out) (by omega) hd1).mono ?_); rintro r w6 ⟨a6, n6, c6, S6, rfl, hn6, hm6, hb6⟩; have HN6 := Lib.hid hn6; have HM6 := Lib.hid hm6; have HB6 := Lib.hid (HB3.out.trans (hb6.mono HB3.out.size)); clear hn6 hm6 hb6)
      | (go_at_call 19; (refine (Lines_any a6 n6 c6 S6 w6 HN6.out.ens (enNum_of HN6.out.ens HM6.out HE1.out)).mono ?_); rintro r w7 ⟨a7, n7, c7, code3, S7, rfl, hb7, hn7, hc7, hc7b, hc7c, hc7d⟩; have HN7 := Lib.hid hn7; have HB7 := Lib.hid (HB6.out.trans (hb7.mono HB6.out.size)); have HC7 := Lib.hid hc7; have HC7B := Lib.hid hc7b; have HC7C := Lib.hid hc7c; have HC7D := Lib.hid hc7d; clear hb7 hn7 hc7 hc7b hc7c hc7d))
    have heo : eOf S6 = eOf S1 := HM6.out
    rw [heo] at HC7 HC7C
    by_cases hc3 : code3 = 0
    · subst hc3
      have HLO := Lib.hid (HC7.out.1 rfl)
      have HM7 := Lib.hid (HC7C.out rfl)
      have hes := HLO.out.2
      have HES := Lib.hid hes
      have hga := HLO.out.1
      have hlo7 : lOf S7 = linesGo [] (eOf S1) := HM7.out
      rw [← hlo7] at hga
      have HGA := Lib.hid hga
      have HNU := Lib.hid (lnNum_of HN7.out.lns HM7.out (by rw [linesGo_len]; exact HE1.out.1) (linesGo_sm HE1.out.2))
      clear HC7 HC7B HC7C HC7D hes hga
      go_upto_region 12 with (go_at_call 11; (refine (Entries_any a7 n7 c7 S7 w7 HN7.out.lns HNU.out).mono ?_); rintro r w8 ⟨a8, n8, c8, code4, S8, rfl, hb8, hn8, hc8, _, _, hc8c, _⟩; obtain rfl : code4 = 0 := hc8.2 HGA.out; have HN8 := Lib.hid hn8; have HM8 := Lib.hid (hc8c rfl); have HB8 := Lib.hid (HB7.out.trans (hb8.mono HB7.out.size)); clear hb8 hn8 hc8 hc8c)
      have hsame : S8.map (·.1) = S1.map (·.1) := by
        have e1 := HM8.out
        rw [hlo7, HES.out] at e1
        exact e1
      have HSA := Lib.hid (SameEs_yes a8 a1 n8 n1 c8 c1 S8 S1 w8 HN8.out.ens (h1.below HB8.out) hsame)
      clear hsame hlo7 heo
      go_wp2_with (go_at_call 13; (refine (HSA.out).mono ?_); rintro r w9 ⟨rfl, hb9⟩; have HB9 := Lib.hid (HB8.out.trans (hb9.mono HB8.out.size)); clear hb9)
      go_ret
      exact ⟨rfl, HB9.out⟩
    · obtain rfl : code3 = 160 := by
        rcases HC7B.out with h | h
        · exact absurd h hc3
        · exact h
      obtain rfl : S7 = [] := HC7D.out hc3
      obtain rfl : n7 = 0 := by have := HN7.out.len; simpa using this.symm
      clear hc3 HC7 HC7C HC7D heo
      go_wp2_with fail
      go_ret
      exact ⟨rfl, HB7.out⟩
end Gr
end Go.Proofs.Ytpdkdhcbibcifaa
