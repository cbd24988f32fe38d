/- squelchlaw23.TraceBegins: the walk. -/
import Derived.Test.YtmokcebpgfhddaaDoorAppend
import Derived.Test.YtmokcebpgfhddaaDoorLive
namespace Go.Proofs.YtmokcebpgfhddaaDoor
open Go.RowKit

theorem runJ_take : ∀ (l : List Dec) (j : Jd) (k : Nat), k ≤ (runJ j l).1 → (runJ j (l.take k)).1 = k
  | [], j, k, h => by simp [runJ] at h ⊢; omega
  | d :: l, j, 0, _ => by simp [runJ]
  | d :: l, j, k + 1, h => by
    rw [List.take_succ_cons]
    unfold runJ at h ⊢
    split at h
    · rename_i hf
      rw [if_pos hf]
      have := runJ_take l (j.fine d).2 k (by simpa using h)
      simp [this]
    · simp at h
theorem partsJ_flatten : ∀ (l : List Dec) (j : Jd) (part : List Dec) (out : List (List Dec)), (partsJ j part out l).flatten = out.flatten ++ part ++ l.take (runJ j l).1
  | [], j, part, out => by simp [partsJ, runJ]
  | d :: l, j, part, out => by
    unfold partsJ runJ
    split
    · split
      · rw [partsJ_flatten l]; simp
      · rw [partsJ_flatten l]; simp
    · simp

theorem Cod.R.sliceAtV {α : Type} {c : Cod α} {F : Nat → Prop} {w : World} {A : Option Addr} {xss : List (List α)} (h : c.slice.R F w A xss) (i : Nat) (hi : i < xss.length) : ∃ b o A' n', A = some ⟨b, o, none⟩ ∧ F b ∧ b < w.heap.size ∧
    w.cell? ⟨b, o + i, none⟩ = some (.slice A' xss[i].length n') ∧ c.V F w (.slice A' xss[i].length n') xss[i] := by
  obtain ⟨b, o, cs, e, hf, hl, ⟨v, rfl, ⟨A', n', rfl, hn, h0, hr⟩⟩, hc⟩ := h i hi
  have := hc 0 (by show 0 < 1; omega)
  rw [show o + i * c.slice.sz + 0 = o + i from by show o + i * 1 + 0 = _; omega] at this
  exact ⟨b, o, A', n', e, hf, hl, this, _, _, rfl, hn, h0, hr⟩
theorem Cod.R.take {α : Type} {c : Cod α} {F : Nat → Prop} {w : World} {A : Option Addr} {xs : List α} (h : c.R F w A xs) (m : Nat) : c.R F w A (xs.take m) := fun i hi => by
  obtain ⟨b, o, cs, e, hf, hl, hK, hc⟩ := h i (by simp at hi; omega)
  exact ⟨b, o, cs, e, hf, hl, by simpa using hK, hc⟩
theorem judge_calls' (w : World) (A : Option Addr) (n c : Nat) (l : List Dec) (hn : l.length = n) (hl : n ≤ 35184372088832) (F : Nat → Prop) (hr : decC.R F w A l) (N : Nat) (b : Bool) (hN : (runJ ⟨0, 0, false⟩ l).1 = N) (hb : decide (N = n) = b) :
    Calls Tryd.prog 16 #[.slice A n c] w fun e w' => e = .returned (.tuple #[.int .i64 N, .bool b]) ∧ Below w.heap.size w w' := by
  subst hn
  have := judge_calls w A c l hl F hr
  rw [hN, hb] at this
  exact this

set_option maxHeartbeats 8000000 in
theorem begins_long (w : World) (A : Option Addr) (n c : Nat) (k : Int) (ht : TabOk w) (hn : 500 < n) (hn2 : n ≤ 9223372036854775807) :
    Calls Tryd.prog 4 #[.slice A n c, .int .i64 k] w fun e w' => e = .returned (.bool true) ∧ Below w.heap.size w w' := by
  have HL := Lib.hid (live_calls w ht)
  have HT := Lib.hid ht; clear ht
  go_enter Tryd.func4, Tryd.ntmps4
  go_wp2_with fail
  refine HL.out.mono ?_
  rintro e w1 ⟨rfl, hb1⟩
  go_wp2
  go_ret
  go_light
  exact ⟨rfl, hb1⟩

set_option maxHeartbeats 8000000 in
set_option maxRecDepth 100000 in
theorem begins_short (w : World) (A : Option Addr) (c : Nat) (l : List Dec) (k : Int) (ht : TabOk w) (hl : l.length ≤ 500) (hc : l.length ≤ c) (hr : decC.R (fun b => b < w.heap.size) w A l) (hA : A = none → c = 0) (hk1 : -9223372036854775808 ≤ k) (hk2 : k ≤ 9223372036854775807) :
    Calls Tryd.prog 4 #[.slice A l.length c, .int .i64 k] w fun e w' => e = .returned (.bool true) ∧ Below w.heap.size w w' := by
  have HL := Lib.hid (live_calls w ht)
  have HT := Lib.hid ht; clear ht
  have HR := Lib.hid hr; clear hr
  have HA := Lib.hid hA; clear hA
  obtain ⟨N, hN⟩ : ∃ N, (runJ ⟨0, 0, false⟩ l).1 = N := ⟨_, rfl⟩
  have hNl : N ≤ l.length := by rw [← hN]; exact runJ_le l _
  have HN := Lib.hid hN; clear hN
  obtain ⟨b, hb⟩ : ∃ b, decide (N = l.length) = b := ⟨_, rfl⟩
  have HBb := Lib.hid hb; 
  have hb2 : ((N : Int) == (l.length : Int)) = b := by
    rw [← hb]
    by_cases h : N = l.length
    · simp [h]
    · rw [decide_eq_false h, beq_eq_false_iff_ne]; omega
  clear hb
  have hr1 : -((N : Int) + 1) < k.tmod ((N : Int) + 1) := by
    have := Int.lt_tmod_of_pos k (show (0 : Int) < (N : Int) + 1 by omega); omega
  have hr2 : k.tmod ((N : Int) + 1) < (N : Int) + 1 := Int.tmod_lt_of_pos k (by omega)
  obtain ⟨m, hm, E⟩ : ∃ m : Nat, m ≤ N ∧ (k.tmod ((N : Int) + 1) + (N : Int) + 1) % ((N : Int) + 1) = (m : Int) := by
    have h1 := Int.emod_nonneg (k.tmod ((N : Int) + 1) + (N : Int) + 1) (show ((N : Int) + 1) ≠ 0 by omega)
    have h2 := Int.emod_lt_of_pos (k.tmod ((N : Int) + 1) + (N : Int) + 1) (show (0 : Int) < (N : Int) + 1 by omega)
    exact ⟨((k.tmod ((N : Int) + 1) + (N : Int) + 1) % ((N : Int) + 1)).toNat, by omega, by omega⟩
  go_enter Tryd.func4, Tryd.ntmps4
  go_wp2_with fail
  refine HL.out.mono ?_
  rintro e w1 ⟨rfl, hb1⟩
  have HB1 := Lib.hid hb1; clear hb1
  go_wp2_with fail
  refine (judge_calls' w1 A _ c l rfl (by omega) _ (HR.out.keep (Keeps.of_below HB1.out fun k h _ => h)) N b HN.out HBb.out).mono ?_
  rintro e w2 ⟨rfl, hb2⟩
  have HB2 := Lib.hid (HB1.out.trans (hb2.mono HB1.out.size)); clear hb2
  go_wp2_with fail
  refine (judge_calls' w2 A _ c (l.take m) (by simp; omega) (by omega) _ ((HR.out.keep (Keeps.of_below HB2.out fun k h _ => h)).take m) m true (runJ_take l _ m (by rw [HN.out]; exact hm)) (by simp)).mono ?_
  rintro e w3 ⟨rfl, hb3⟩
  have HB3 := Lib.hid (HB2.out.trans (hb3.mono HB2.out.size)); clear hb3
  go_wp2_with fail
  refine (parts_calls w3 A c l (by omega) _ (HR.out.keep (Keeps.of_below HB3.out fun k h _ => h))).mono ?_
  have hfl := partsJ_flatten l ⟨0, 0, false⟩ [] []
  have hpl := partsJ_length l ⟨0, 0, false⟩ [] []
  have hpn := (partsJ_ne l ⟨0, 0, false⟩ [] [] (by simp)).1
  obtain ⟨P, hP⟩ : ∃ P, partsJ ⟨0, 0, false⟩ [] [] l = P := ⟨_, rfl⟩
  have HPP := Lib.hid hP
  rw [hP] at hfl hpl hpn ⊢
  clear hP
  rw [HN.out] at hfl
  have HFL := Lib.hid (show P.flatten = l.take N by simpa using hfl)
  have HPN := Lib.hid hpn
  have hpl2 : P.length ≤ 1 + l.length := by simpa using hpl
  clear hfl hpl hpn
  rintro e w4 ⟨v, rfl, hV, hb4⟩
  have HB4 := Lib.hid (HB3.out.trans (hb4.mono HB3.out.size)); 
  have HV := Lib.hid (hV.mono (G := fun b => b < w4.heap.size) fun b hb _ => hb); clear hV hb4
  obtain ⟨PA, pc, rfl, hpc, hpa, HPR⟩ := HV.out
  have HPR2 := Lib.hid HPR; clear HPR hpa
  go_wp2
  go_loopw [10, 71] (fun va i wr => ∃ q : Nat, q ≤ P.length ∧ i = .int .i64 q ∧ Hid (decC.O (fun b => b < w4.heap.size) w4.heap.size 23 wr va (P.take q).flatten) ∧ Hid (Below w4.heap.size w4 wr)) (fun _ i _ => P.length - (intOf i).toNat)
  case atStart => exact ⟨0, Nat.zero_le _, rfl, Cod.O.nil _ _ _ _ _, Below.refl _ _⟩
  case round =>
    obtain ⟨q, hq, rfl, HO, HB5⟩ := hrel
    by_cases hlt : q < P.length
    · obtain ⟨b', o', A2, n2, rfl, hF1, hbl1, hcc, hV2⟩ := HPR2.out.sliceAtV q hlt
      have hkp : Keeps (fun b => b < w4.heap.size) w4 wr := Keeps.of_below HB5.out fun k hk _ => hk
      have g1 : wr.cell? ⟨b', o' + q, none⟩ = some (.slice A2 P[q].length n2) := (hkp.cell (p := ⟨b', _, none⟩) hbl1 hbl1).trans hcc
      have hV3 := Lib.hid (hV2.keep hkp)
      have hsz : w4.heap.size ≤ wr.heap.size := hkp.1
      have hlen1 : (P.take q).flatten.length ≤ 500 := by
        have h1 : (P.take q).flatten.length ≤ P.flatten.length := by
          conv => rhs; rw [← List.take_append_drop q P, List.flatten_append, List.length_append]
          omega
        have h2 : P.flatten.length ≤ 500 := by rw [HFL.out, List.length_take]; omega
        omega
      have hlen2 : P[q].length ≤ 500 := by
        have h1 : P[q].length ≤ P.flatten.length := (List.sublist_flatten_of_mem (List.getElem_mem hlt)).length_le
        have h2 : P.flatten.length ≤ 500 := by rw [HFL.out, List.length_take]; omega
        omega
      have htk := Lib.hid (List.take_succ_eq_append_getElem hlt)
      clear hkp hcc hV2
      go_wp2_with (at_builtin; refine wp_appendS decC (fun b => b < w4.heap.size) w4.heap.size 23 rfl (.tmp 75) (.tmp 76) 32 (.agg #[.int .i64 0, .int .i64 0, .int .i64 0, .int .i64 0]) 32 rfl Tryd.underlying32 info23 rfl (by decide) (by decide) u10 (P.take q).flatten (.slice A2 P[q].length n2) P[q] rfl rfl HO.out hV3.out decC_one hsz (fun b hb e => by have := (HO.out.lt b e).1; omega) (by omega) ?_)
      intro v1 w5 ho1 hg1 hat1
      have HO1 := Lib.hid ho1
      have HB6 := Lib.hid (HB5.out.grown hg1 hsz fun k hk => (HO.out.lt k hk).1)
      clear ho1 hg1 hat1
      go_wp2
      refine ⟨⟨q + 1, by omega, by go_num, ?_, HB6⟩, by simp [intOf]; omega⟩
      rw [htk.out, List.flatten_append]
      have hf := HO1.out
      show decC.O _ _ _ _ _ _
      simpa using hf
    · have HO2 : Hid (decC.O (fun b => b < w4.heap.size) w4.heap.size 23 wr u10 (l.take N)) := by
        have := HO.out
        rw [List.take_of_length_le (by omega), HFL.out] at this
        exact this
      obtain ⟨A7, c7, hu⟩ := HO2.out.form
      rw [show (l.take N).length = N by simp; omega] at hu
      subst hu
      have HBW := Lib.hid (HB4.out.trans (HB5.out.mono HB4.out.size))
      have hhl0 : (holders l).length + 1 = P.length := by
        unfold holders
        rw [HPP.out]
        have := HPN.out
        cases P with
        | nil => exact absurd rfl this
        | cons p r => simp
      have hhl : ((P.length : Int) != ((holders l).length : Int) + 1) = false := by
        simp
        omega
      have hhl2 : (holders l).length ≤ 501 := by omega
      clear hhl0
      have hHB := (holders_calls wr A c l (by omega) _ (HR.out.keep (Keeps.of_below HBW.out fun k h _ => h)))
      generalize holders l = H at hhl hhl2 hHB
      have HH := Lib.hid hHB; clear hHB
      go_wp2_with fail
      refine HH.out.mono ?_
      rintro e w6 ⟨v8, rfl, ⟨A8, n8, rfl, _, _, _⟩, hb6⟩
      have HB6 := Lib.hid (HBW.out.trans (hb6.mono HBW.out.size))
      have HO3 := Lib.hid (HO2.out.frame (Keeps.of_below hb6 fun k hk _ => Nat.lt_of_lt_of_le hk HB5.out.size) fun k hk => hb6.block k (HO2.out.lt k hk).2)
      have hsz6 : wr.heap.size ≤ w6.heap.size := hb6.size
      clear hb6
      go_wp2
      obtain ⟨wo, rfl⟩ : ∃ wo : World, wo = wr := ⟨_, rfl⟩
      go_loopw [94] (fun i wq => ∃ q : Nat, q ≤ N ∧ i = .int .i64 q ∧ Hid (Below w6.heap.size w6 wq)) (fun i _ => N - (intOf i).toNat)
      case atStart => exact ⟨0, Nat.zero_le _, rfl, Below.refl _ _⟩
      case round =>
        obtain ⟨q2, hq2, rfl, HB7⟩ := hrel
        by_cases hlt2 : q2 < N
        · have hk6 : Keeps (fun b => b < w6.heap.size) w6 wr := Keeps.of_below HB7.out fun k hk _ => hk
          have HW7 := HB6.out.trans (HB7.out.mono HB6.out.size)
          obtain ⟨b1, o1, rfl, hbl1, e0, e1, e2, e3⟩ := (HR.out.keep (Keeps.of_below HW7 fun k h _ => h)).dec q2 (by omega)
          obtain ⟨A9, n9, e9, _, _, hV9⟩ := HO3.out.toV
          injection e9 with e9 q91 q92
          clear q91 q92
          subst e9
          obtain ⟨b2, o2, rfl, hbl2, f0, f1, f2, f3⟩ := (hV9.keep (hk6.mono fun k hk _ => hk)).dec q2 (by simp; omega)
          simp only [List.getElem_take] at f0 f1 f2 f3
          generalize l[q2] = d at e0 e1 e2 e3 f0 f1 f2 f3
          obtain ⟨d0, d1, d2, d3⟩ := d
          clear hV9 hk6 HW7 hb2 hr1 hr2 E hhl hhl2
          go_wp2
          go_quiet (fail)
          go_wp2
          refine ⟨⟨q2 + 1, by omega, by go_num, HB7.out.trans ⟨rfl, rfl, rfl, Nat.le_refl _, fun _ _ => rfl⟩⟩, by simp [intOf]; omega⟩
        · go_wp2
          go_ret
          exact ⟨rfl, HB6.out.trans (HB7.out.mono HB6.out.size)⟩
end Go.Proofs.YtmokcebpgfhddaaDoor
