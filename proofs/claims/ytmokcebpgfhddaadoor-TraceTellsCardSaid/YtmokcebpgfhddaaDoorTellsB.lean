/- squelchref23.Many, SameParts; squelchref18.SameDecisions; trace.Count. -/
import Derived.Test.YtmokcebpgfhddaaDoorCut
import Derived.Maps.OwnOps
import Derived.Maps.RangeWalk
import Derived.Maps.Views
namespace Go.Proofs.YtmokcebpgfhddaaDoor
open Go.RowKit

theorem ret_b {b c : Bool} (h : b = c) : Ending.returned (.bool b) = .returned (.bool c) := by rw [h]
theorem take_snoc {α : Type} (l : List α) (k : Nat) (h : k < l.length) : l.take (k + 1) = l.take k ++ [l[k]] := List.take_succ_eq_append_getElem h

set_option maxHeartbeats 4000000 in
theorem many_calls (w : World) (A : Option Addr) (c : Nat) (l : List Dec) (x : Int) (hl : l.length ≤ 35184372088832) (F : Nat → Prop) (hr : decC.R F w A l) :
    Calls Tryd.prog 25 #[.slice A l.length c, .int .i64 x] w fun e w' => e = .returned (.int .i64 (many l x)) ∧ Below w.heap.size w w' := by
  have HR := Lib.hid hr; clear hr
  go_enter Tryd.func25, Tryd.ntmps25
  go_wp2
  go_loopw [5, 10] (fun n i wr => ∃ (k : Nat) (m : Nat), k ≤ l.length ∧ m ≤ k ∧ i = .int .i64 k ∧ n = .int .i64 m ∧ Hid (m = many (l.take k) x) ∧ Hid (Below w.heap.size w wr))
    (fun _ i _ => l.length - (intOf i).toNat)
  case atStart => exact ⟨0, 0, Nat.zero_le _, Nat.le_refl _, rfl, rfl, rfl, Below.refl _ _⟩
  case round =>
    obtain ⟨k, m, hk, hm, rfl, rfl, HM, hb⟩ := hrel
    by_cases hlt : k < l.length
    · obtain ⟨b, o, rfl, hbl, h0, h1, h2, h3⟩ := (HR.out.keep (Keeps.of_below hb.out fun k _ h => h)).dec k hlt
      have hts := Lib.hid (take_snoc l k hlt)
      have hbs := Lib.hid hb.out.size
      obtain ⟨⟨a0, a1, a2, a3⟩, hdd⟩ : ∃ d, d = l[k] := ⟨_, rfl⟩
      rw [← hdd] at h0 h1 h2 h3 hts
      clear hdd
      by_cases hx : a0 = x
      · subst hx
        go_wp2
        refine ⟨⟨k + 1, m + 1, by omega, by omega, by go_num, by go_num, ?_, hb.out.alloc hbs.out _⟩, by simp [intOf]; omega⟩
        show m + 1 = many (l.take (k + 1)) a0
        rw [hts.out, many_snoc, ← HM.out, if_pos rfl]
      · have hxb : (a0 == x) = false := beq_eq_false_iff_ne.2 hx
        go_wp2
        refine ⟨⟨k + 1, m, by omega, by omega, by go_num, rfl, ?_, hb.out.alloc hbs.out _⟩, by simp [intOf]; omega⟩
        show m = many (l.take (k + 1)) x
        rw [hts.out, many_snoc, ← HM.out, if_neg hx, Nat.add_zero]
    · have hke : many (l.take k) x = many l x := by rw [List.take_of_length_le (by omega)]
      have HK := Lib.hid (HM.out.trans hke); clear hke
      go_wp2
      go_ret
      exact ⟨congrArg (fun n : Nat => Ending.returned (.int .i64 (n : Int))) HK.out, hb.out⟩

theorem drew_more' {w wr : World} {m : Nat} (h : ∃ n, wr = (w.drewN m).drewN n) : ∃ n, wr = w.drewN n := by
  obtain ⟨n, rfl⟩ := h
  exact ⟨m + n, World.drewN_drewN _ _ _⟩
theorem drew_more {w wr : World} (h : ∃ n, wr = w.drewN n) (m : Nat) : ∃ n, wr.drewN m = w.drewN n := by
  obtain ⟨n, rfl⟩ := h
  exact ⟨n + m, World.drewN_drewN _ _ _⟩
set_option maxHeartbeats 4000000 in
theorem sameDec_calls (w : World) (A B : Option Addr) (c d : Nat) (xs ys : List Dec) (n1 n2 : Nat) (h1 : xs.length = n1) (h2 : ys.length = n2) (hl : n1 ≤ 35184372088832) (hl2 : n2 ≤ 35184372088832) (F : Nat → Prop) (hx : decC.R F w A xs) (hy : decC.R F w B ys) :
    Calls Tryd.prog 51 #[.slice A n1 c, .slice B n2 d] w fun e w' => e = .returned (.bool (decide (xs = ys))) ∧ ∃ n, w' = w.drewN n := by
  have HX := Lib.hid hx; clear hx
  have HY := Lib.hid hy; clear hy
  by_cases hn : n1 = n2
  · subst hn
    have H1 := Lib.hid h1; clear h1
    have H2 := Lib.hid h2; clear h2
    obtain ⟨r, hr⟩ : ∃ r, decide (xs = ys) = r := ⟨_, rfl⟩
    rw [hr]
    have HRR := Lib.hid hr; clear hr
    go_enter Tryd.func51, Tryd.ntmps51
    go_wp2
    go_loopw [13] (fun i wr => ∃ q : Nat, q ≤ n1 ∧ i = .int .i64 q ∧ Hid (∀ k (hk : k < q) (h1 : k < xs.length) (h2 : k < ys.length), xs[k] = ys[k]) ∧ Hid (∃ n, wr = w.drewN n)) (fun i _ => n1 - (intOf i).toNat)
    case atStart => exact ⟨0, Nat.zero_le _, rfl, fun k hk => absurd hk (by omega), 0, rfl⟩
    case round =>
      obtain ⟨q, hq, rfl, HE, HB⟩ := hrel
      by_cases hlt : q < n1
      · have hq1 := Lib.hid (show q < xs.length by rw [H1.out]; exact hlt)
        have hq2 := Lib.hid (show q < ys.length by rw [H2.out]; exact hlt)
        have hk : Keeps F w wr := by obtain ⟨n, hn⟩ := HB.out; rw [hn]; exact Keeps.refl F w
        obtain ⟨b1, o1, rfl, hb1, e0, e1, e2, e3⟩ := (HX.out.keep hk).dec q hq1.out
        obtain ⟨b2, o2, rfl, hb2, f0, f1, f2, f3⟩ := (HY.out.keep hk).dec q hq2.out
        clear hk
        by_cases he : xs[q]'hq1.out = ys[q]'hq2.out
        · rw [← he] at f0 f1 f2 f3
          have HE2 := Lib.hid (fun k (hk : k < q + 1) (h1 : k < xs.length) (h2 : k < ys.length) => (show xs[k] = ys[k] by
            by_cases hkq : k = q
            · subst hkq; exact he
            · exact HE.out k (by omega) h1 h2))
          clear he HE
          generalize xs[q]'hq1.out = x at e0 e1 e2 e3 f0 f1 f2 f3
          obtain ⟨x0, x1, x2, x3⟩ := x
          go_wp2
          go_quiet (fail)
          go_wp2
          exact ⟨⟨q + 1, by omega, by go_num, HE2, drew_more HB.out _⟩, by simp [intOf]; omega⟩
        · have hne := Lib.hid (HRR.out.symm.trans (decide_eq_false (show ¬ xs = ys from fun h => he (by simp [h]))))
          generalize xs[q]'hq1.out = x at e0 e1 e2 e3 he
          generalize ys[q]'hq2.out = y at f0 f1 f2 f3 he
          obtain ⟨x0, x1, x2, x3⟩ := x
          obtain ⟨y0, y1, y2, y3⟩ := y
          simp only [Dec.mk.injEq] at he
          by_cases h0 : x0 = y0
          · subst h0
            by_cases h1 : x1 = y1
            · subst h1
              by_cases h2 : x2 = y2
              · subst h2
                have h3 : (x3 == y3) = false := beq_eq_false_iff_ne.2 fun h => he ⟨rfl, rfl, rfl, h⟩
                clear he
                go_wp2
                go_quiet (fail)
                go_wp2
                go_ret
                exact ⟨ret_b hne.out.symm, drew_more HB.out _⟩
              · have h3 : (x2 == y2) = false := beq_eq_false_iff_ne.2 h2
                clear he h2
                go_wp2
                go_quiet (fail)
                go_wp2
                go_ret
                exact ⟨ret_b hne.out.symm, drew_more HB.out _⟩
            · have h3 : (x1 == y1) = false := beq_eq_false_iff_ne.2 h1
              clear he h1
              go_wp2
              go_quiet (fail)
              go_wp2
              go_ret
              exact ⟨ret_b hne.out.symm, drew_more HB.out _⟩
          · have h3 : (x0 == y0) = false := beq_eq_false_iff_ne.2 h0
            clear he h0
            go_wp2
            go_quiet (fail)
            go_wp2
            go_ret
            exact ⟨ret_b hne.out.symm, drew_more HB.out _⟩
      · have hxy : xs = ys := List.ext_getElem (H1.out.trans H2.out.symm) fun k h1 h2 => HE.out k (by have := H1.out; omega) h1 h2
        have HXY := Lib.hid (HRR.out.symm.trans (decide_eq_true hxy))
        clear hxy
        go_wp2
        go_ret
        exact ⟨ret_b HXY.out.symm, HB.out⟩
  · rw [decide_eq_false (show ¬ xs = ys from fun h => hn (by rw [← h1, ← h2, h]))]
    clear h1 h2
    go_enter Tryd.func51, Tryd.ntmps51
    go_wp2
    go_ret
    exact ⟨rfl, 0, rfl⟩

set_option maxHeartbeats 4000000 in
theorem sameParts_calls (w : World) (A B : Option Addr) (c d : Nat) (xs : List (List Dec)) (n : Nat) (hn : xs.length = n) (hl : n ≤ 35184372088832) (hs : ∀ x ∈ xs, x.length ≤ 35184372088832) (F : Nat → Prop) (hx : decC.slice.R F w A xs) (hy : decC.slice.R F w B xs) :
    Calls Tryd.prog 22 #[.slice A n c, .slice B n d] w fun e w' => e = .returned (.bool true) ∧ Below w.heap.size w w' := by
  subst hn
  have HX := Lib.hid hx; clear hx
  have HY := Lib.hid hy; clear hy
  have HS := Lib.hid hs; clear hs
  go_enter Tryd.func22, Tryd.ntmps22
  go_wp2
  go_loopw [13] (fun i wr => ∃ q : Nat, q ≤ xs.length ∧ i = .int .i64 q ∧ Hid (Below w.heap.size w wr)) (fun i _ => xs.length - (intOf i).toNat)
  case atStart => exact ⟨0, Nat.zero_le _, rfl, Below.refl _ _⟩
  case round =>
    obtain ⟨q, hq, rfl, HB⟩ := hrel
    by_cases hlt : q < xs.length
    · have hk := Keeps.of_below (F := F) HB.out fun k _ h => h
      obtain ⟨b1, o1, A1, c1, rfl, _, hb1, g1, hn1, R1⟩ := (HX.out.keep hk).sliceAt q hlt
      obtain ⟨b2, o2, A2, c2, rfl, _, hb2, g2, hn2, R2⟩ := (HY.out.keep hk).sliceAt q hlt
      clear hk
      have hlx := HS.out _ (List.getElem_mem hlt)
      generalize xs[q] = x at g1 g2 hn1 hn2 R1 R2 hlx
      have HR1 := Lib.hid R1; have HR2 := Lib.hid R2
      clear R1 R2
      have hsz := Lib.hid HB.out.size
      have hc := Lib.hid (fun m => sameDec_calls (wr.drewN m) A1 A2 c1 c2 x x _ _ rfl rfl hlx hlx F (HR1.out.keep ⟨Nat.le_refl _, fun _ _ _ => rfl⟩) (HR2.out.keep ⟨Nat.le_refl _, fun _ _ _ => rfl⟩) |>.mono (R' := fun e w' => e = .returned (.bool true) ∧ ∃ n, w' = wr.drewN n) fun e w' h => ⟨by rw [h.1, decide_eq_true rfl], drew_more' h.2⟩)
      go_wp2
      go_quiet ((go_at_call 51; exact hc.out _))
      go_wp2
      exact ⟨⟨q + 1, by omega, by go_num, HB.out.trans ⟨rfl, rfl, rfl, Nat.le_refl _, fun _ _ => rfl⟩⟩, by simp [intOf]; omega⟩
    · go_wp2
      go_ret
      exact ⟨rfl, HB.out⟩

open Go.Maps
theorem law3 : Keyed Tryd.prog 3 := int_keyed Tryd.underlying3
theorem zero3 (w : World) : (zeroValue 3).run Tryd.prog w = .ok (.int .i64 0) w := by kernel_rfl
/-- The map says how many there are of each kind. -/
def CountOf {H : Type} (D : DataW H) (l : List Dec) : Prop := IsMap D ∧ (∀ k, has D (.int .i64 k) = decide (0 < many l k)) ∧ ∀ k, D.atKey (.int .i64 k) (.lit (.int .i64 0)) = .lit (.int .i64 (many l k))
theorem countOf_nil {H : Type} : CountOf (H := H) (.map []) [] := ⟨isMap_empty, fun _ => rfl, fun _ => rfl⟩
theorem countOf_snoc {H : Type} {D : DataW H} {l : List Dec} (h : CountOf D l) (d : Dec) : CountOf (D.put (.int .i64 d.kind) (.lit (.int .i64 ((many l d.kind : Int) + 1)))) (l ++ [d]) := by
  obtain ⟨h1, h2, h3⟩ := h
  refine ⟨h1.put _ _, fun k => ?_, fun k => ?_⟩
  · by_cases hk : d.kind = k
    · subst hk
      rw [has_put_same (k := .int .i64 d.kind) h1 trivial, many_snoc, if_pos rfl]
      simp
    · rw [has_put_other (by simpa using fun h => hk h.symm), many_snoc, if_neg hk, h2]
      simp
  · by_cases hk : d.kind = k
    · subst hk
      rw [atKey_put_same (k := .int .i64 d.kind) h1 trivial, many_snoc, if_pos rfl]
      simp
    · rw [atKey_put_other (by simpa using fun h => hk h.symm), many_snoc, if_neg hk, h3]
      simp

set_option maxRecDepth 100000 in
set_option maxHeartbeats 4000000 in
theorem count_calls {H : Type} (w : World) (A : Option Addr) (c : Nat) (l : List Dec) (hl : l.length ≤ 1048576) (hwf : ∀ d ∈ l, (Lit.int .i64 d.kind).wf = true) (F : Nat → Prop) (hr : decC.R F w A l) :
    Calls Tryd.prog 24 #[.slice A l.length c] w fun e w' => e = .returned (.map (some w.heap.size)) ∧ (∃ D : DataW H, w'.ownsMap Tryd.prog 3 (plainElem Tryd.prog 3) w.heap.size l.length D ∧ CountOf D l) ∧ Below w.heap.size w w' := by
  have HR := Lib.hid hr; clear hr
  have HWF := Lib.hid hwf; clear hwf
  have hmm := @run_makeMap Tryd.prog
  go_enter Tryd.func24, Tryd.ntmps24
  go_wp2
  go_loopw [9] (fun i wr => ∃ k : Nat, k ≤ l.length ∧ i = .int .i64 k ∧ Hid (∃ D : DataW H, wr.ownsMap Tryd.prog 3 (plainElem Tryd.prog 3) w.heap.size k D ∧ CountOf D (l.take k)) ∧ Hid (Below w.heap.size w wr))
    (fun i _ => l.length - (intOf i).toNat)
  case atStart => exact ⟨0, Nat.zero_le _, rfl, ⟨_, World.ownsMap_made _ _ _ _, countOf_nil⟩, (Below.refl _ _).alloc (Nat.le_refl _) _⟩
  case round =>
    obtain ⟨k, hk, rfl, HM, HB⟩ := hrel
    by_cases hlt : k < l.length
    · obtain ⟨b, o, rfl, hbl, h0, h1, h2, h3⟩ := (HR.out.keep (Keeps.of_below HB.out fun k _ h => h)).dec k hlt
      have hts := Lib.hid (take_snoc l k hlt)
      have hsz := Lib.hid HB.out.size
      have hw := HWF.out _ (List.getElem_mem hlt)
      have hmk := many_le (l.take k) l[k].kind
      obtain ⟨D, hown, hC⟩ := HM.out
      have hsn := countOf_snoc hC l[k]
      have hat0 := hC.2.2 l[k].kind
      rw [← hts.out] at hsn
      rw [List.length_take] at hmk
      obtain ⟨⟨a0, a1, a2, a3⟩, hdd⟩ : ∃ d, d = l[k] := ⟨_, rfl⟩
      rw [← hdd] at h0 h1 h2 h3 hts hw hmk hsn hat0
      clear hdd hC
      simp only at hw hmk hsn hat0
      obtain ⟨m, hm⟩ : ∃ m, many (l.take k) a0 = m := ⟨_, rfl⟩
      rw [hm] at hmk hsn hat0
      clear hm
      have hmk2 : m ≤ k := by omega
      clear hmk
      have HSN := Lib.hid hsn; clear hsn
      have HAT := Lib.hid hat0; clear hat0
      have HW := Lib.hid hw; clear hw
      have HOWN := Lib.hid hown; clear hown
      go_wp2_with (at_lookup; refine wpList_lookup_own_int _ rfl _ _ 42 rfl 3 3 .i64 law3 Tryd.underlying42 Tryd.underlying3 (zero3 _) w.heap.size k _ rfl (HOWN.out.alloc _) _ _ rfl (keyOf_int_mk Tryd.underlying3 HW.out) ?_)
      intro c1 hat hwc
      have hc1 : c1 = (m : Int) := by have := hat.symm.trans HAT.out; injection this with this; injection this
      subst hc1
      clear hat hwc
      go_wp2_with (at_mapUpdate; refine wpList_mapUpdate_own _ rfl _ _ _ 42 rfl 3 3 law3 Tryd.underlying42 _ w.heap.size k _ rfl (HOWN.out.alloc _) (by unfold maxLen; omega) _ _ _ rfl rfl (keyOf_int_mk Tryd.underlying3 HW.out) (.lit (.int .i64 ((m : Int) + 1))) [] (plainElem_int Tryd.underlying3 (by simp [Lit.wf, IntKind.min, IntKind.max, IntKind.signed, IntKind.bits]; omega)) ?_)
      intro w1 hown1 hgrow1
      have HO1 := Lib.hid hown1; have HG1 := Lib.hid hgrow1
      clear hown1 hgrow1
      go_wp2
      exact ⟨⟨k + 1, by omega, by go_num, ⟨_, HO1.out, HSN.out⟩, (HB.out.alloc hsz.out _).grown HG1.out (by have := hsz.out; simp; omega) (fun j hj => by cases hj; exact Nat.le_refl _)⟩, by simp [intOf]; omega⟩
    · have hk2 : k = l.length := by omega
      subst hk2
      have HM2 := HM.out
      rw [List.take_length] at HM2
      have HM3 := Lib.hid HM2; clear HM2
      go_wp2
      go_ret
      exact ⟨rfl, HM3.out, HB.out⟩
end Go.Proofs.YtmokcebpgfhddaaDoor
