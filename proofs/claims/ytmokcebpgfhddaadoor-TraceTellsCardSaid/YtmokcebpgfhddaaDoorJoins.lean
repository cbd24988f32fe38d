/- squelchlaw23.TraceJoins: the plain law, the walk of squelchref03.Equal, the walk of the law. -/
import Derived.Test.YtmokcebpgfhddaaDoorBegins
namespace Go.Proofs.YtmokcebpgfhddaaDoor
open Go.RowKit

theorem runJ_cons (j : Jd) (d : Dec) (l : List Dec) : runJ j (d :: l) = if (j.fine d).1 = true then ((runJ (j.fine d).2 l).1 + 1, (runJ (j.fine d).2 l).2) else (0, j) := by rw [runJ]
theorem runJ_append : ∀ (l m : List Dec) (j : Jd), (runJ j (l ++ m)).1 = if (runJ j l).1 = l.length then l.length + (runJ (runJ j l).2 m).1 else (runJ j l).1
  | [], m, j => by simp [runJ]
  | d :: l, m, j => by
    rw [List.cons_append, runJ_cons, runJ_cons]
    split
    · have := runJ_append l m (j.fine d).2
      simp only [List.length_cons, Nat.add_right_cancel_iff]
      rw [this]
      split <;> omega
    · simp
theorem partsJ_out : ∀ (l : List Dec) (j : Jd) (part : List Dec) (out : List (List Dec)), partsJ j part out l = out ++ partsJ j part [] l
  | [], j, part, out => by simp [partsJ]
  | d :: l, j, part, out => by
    unfold partsJ
    split
    · split
      · rw [partsJ_out l _ _ (out ++ [part]), partsJ_out l _ _ ([] ++ [part])]; simp
      · exact partsJ_out l _ _ _
    · simp
theorem partsJ_head : ∀ (l : List Dec) (j : Jd) (d : Dec) (part : List Dec), ∃ x rest, partsJ j (d :: part) [] l = (d :: x) :: rest
  | [], j, d, part => ⟨part, [], rfl⟩
  | a :: l, j, d, part => by
    unfold partsJ
    split
    · split
      · rw [partsJ_out]; exact ⟨part, _, rfl⟩
      · exact partsJ_head l _ d (part ++ [a])
    · exact ⟨part, [], rfl⟩
theorem partsJ_pre : ∀ (l m : List Dec) (j : Jd) (d : Dec) (part : List Dec), (runJ j l).1 = l.length → (partsJ j (d :: part) [] l).map whoOf <+: (partsJ j (d :: part) [] (l ++ m)).map whoOf
  | [], m, j, d, part, _ => by
    obtain ⟨x, rest, e⟩ := partsJ_head m j d part
    rw [List.nil_append, e]
    simp [partsJ, whoOf]
  | a :: l, m, j, d, part, h => by
    unfold runJ at h
    split at h
    · rename_i hf
      have h' : (runJ (j.fine a).2 l).1 = l.length := by simpa using h
      rw [List.cons_append]
      unfold partsJ
      rw [if_pos hf, if_pos hf]
      split
      · rw [partsJ_out, partsJ_out (l ++ m)]
        simpa using partsJ_pre l m (j.fine a).2 a [] h'
      · exact partsJ_pre l m (j.fine a).2 d (part ++ [a]) h'
    · simp at h
theorem partsJ_tail : ∀ (l m : List Dec) (j : Jd) (part : List Dec), (runJ j l).1 = l.length → (partsJ j part [] l).tail.map whoOf <+: (partsJ j part [] (l ++ m)).tail.map whoOf
  | [], m, j, part, _ => by simp [partsJ]
  | a :: l, m, j, part, h => by
    unfold runJ at h
    split at h
    · rename_i hf
      have h' : (runJ (j.fine a).2 l).1 = l.length := by simpa using h
      rw [List.cons_append]
      unfold partsJ
      rw [if_pos hf, if_pos hf]
      split
      · rw [partsJ_out, partsJ_out (l ++ m)]
        simpa using partsJ_pre l m (j.fine a).2 a [] h'
      · exact partsJ_tail l m (j.fine a).2 (part ++ [a]) h'
    · simp at h
theorem holders_pre (l m : List Dec) (h : (runJ ⟨0, 0, false⟩ l).1 = l.length) : holders l <+: holders (l ++ m) := partsJ_tail l m _ _ h

theorem Cod.R.int {F : Nat → Prop} {w : World} {A : Option Addr} {l : List Int} (h : intC.R F w A l) (i : Nat) (hi : i < l.length) : ∃ b o, A = some ⟨b, o, none⟩ ∧ b < w.heap.size ∧ w.cell? ⟨b, o + i, none⟩ = some (.int .i64 l[i]) := by
  obtain ⟨b, o, cs, e, _, hl, hK, hc⟩ := h i hi
  obtain rfl : cs = #[.int .i64 l[i]] := hK
  have := hc 0 (by decide)
  rw [show o + i * intC.sz + 0 = o + i from by show o + i * 1 + 0 = _; omega] at this
  exact ⟨b, o, e, hl, this⟩

theorem equal_calls (w : World) (A B : Option Addr) (n1 n2 c d : Nat) (xs ys : List Int) (h1 : xs.length = n1) (h2 : ys.length = n2) (hl : n1 ≤ 35184372088832) (hl2 : n2 ≤ 35184372088832) (F : Nat → Prop) (hx : intC.R F w A xs) (hy : intC.R F w B ys) :
    Calls Tryd.prog 19 #[.slice A n1 c, .slice B n2 d] w fun e w' => e = .returned (.bool (decide (xs = ys))) ∧ Below w.heap.size w w' := by
  subst h1 h2
  have HX := Lib.hid hx; clear hx
  have HY := Lib.hid hy; clear hy
  by_cases hn : xs.length = ys.length
  · go_enter Tryd.func19, Tryd.ntmps19
    go_wp2
    go_loopw [13] (fun i wr => ∃ q : Nat, q ≤ xs.length ∧ i = .int .i64 q ∧ Hid (∀ k (hk : k < q) (h1 : k < xs.length) (h2 : k < ys.length), xs[k] = ys[k]) ∧ Hid (Below w.heap.size w wr)) (fun i _ => xs.length - (intOf i).toNat)
    case atStart => exact ⟨0, Nat.zero_le _, rfl, fun k hk => absurd hk (by omega), Below.refl _ _⟩
    case round =>
      obtain ⟨q, hq, rfl, HE, HB⟩ := hrel
      by_cases hlt : q < xs.length
      · have hk := Keeps.of_below (F := F) HB.out fun k _ h => h
        obtain ⟨b1, o1, rfl, hb1, g1⟩ := (HX.out.keep hk).int q hlt
        obtain ⟨b2, o2, rfl, hb2, g2⟩ := (HY.out.keep hk).int q (by omega)
        clear hk
        by_cases he : xs[q] = ys[q]
        · have hbe : (xs[q] != ys[q]) = false := by simp [he]
          go_wp2
          go_quiet (fail)
          go_wp2
          refine ⟨⟨q + 1, by omega, by go_num, fun k hk h1 h2 => ?_, HB.out.trans ⟨rfl, rfl, rfl, Nat.le_refl _, fun _ _ => rfl⟩⟩, by simp [intOf]; omega⟩
          by_cases hkq : k = q
          · subst hkq; exact he
          · exact HE.out k (by omega) h1 h2
        · have hbe : (xs[q] != ys[q]) = true := by simp [he]
          go_wp2
          go_quiet (fail)
          go_wp2
          go_ret
          exact ⟨congrArg (fun b => Ending.returned (.bool b)) (decide_eq_false (show ¬ xs = ys from fun h => he (by simp [h]))).symm, HB.out.trans ⟨rfl, rfl, rfl, Nat.le_refl _, fun _ _ => rfl⟩⟩
      · have hxy : xs = ys := List.ext_getElem hn fun k h1 h2 => HE.out k (by omega) h1 h2
        go_wp2
        go_ret
        exact ⟨congrArg (fun b => Ending.returned (.bool b)) (decide_eq_true hxy).symm, HB.out⟩
  · go_enter Tryd.func19, Tryd.ntmps19
    go_wp2
    go_ret
    exact ⟨congrArg (fun b => Ending.returned (.bool b)) (decide_eq_false (show ¬ xs = ys from fun h => hn (by rw [h]))).symm, Below.refl _ _⟩

theorem holders_calls' (w : World) (A : Option Addr) (n c : Nat) (l : List Dec) (hn : l.length = n) (hl : n ≤ 1048576) (F : Nat → Prop) (hr : decC.R F w A l) :
    Calls Tryd.prog 18 #[.slice A n c] w fun e w' => ∃ v, e = .returned v ∧ intC.V (fun b => w.heap.size ≤ b) w' v (holders l) ∧ Below w.heap.size w w' := by
  subst hn
  exact holders_calls w A c l hl F hr

set_option maxHeartbeats 8000000 in
theorem joins_long (w : World) (A B : Option Addr) (n c n2 c2 : Nat) (ht : TabOk w) (hn : 500 < n + n2) (h1 : n ≤ 140737488355328) (h2 : n2 ≤ 140737488355328) :
    Calls Tryd.prog 5 #[.slice A n c, .slice B n2 c2] w fun e w' => e = .returned (.bool true) ∧ Below w.heap.size w w' := by
  have HL := Lib.hid (live_calls w ht)
  clear ht
  go_enter Tryd.func5, Tryd.ntmps5
  go_wp2_with fail
  refine HL.out.mono ?_
  rintro e w1 ⟨rfl, hb1⟩
  go_wp2
  go_ret
  go_light
  exact ⟨rfl, hb1⟩

set_option maxHeartbeats 8000000 in
set_option maxRecDepth 100000 in
theorem joins_short (w : World) (A B : Option Addr) (c c2 : Nat) (l m : List Dec) (ht : TabOk w) (hl : l.length + m.length ≤ 500) (hc : l.length ≤ c) (hc2 : m.length ≤ c2) (hA : A = none → c = 0) (hB : B = none → c2 = 0)
    (hr : decC.R (fun b => b < w.heap.size) w A l) (hr2 : decC.R (fun b => b < w.heap.size) w B m) :
    Calls Tryd.prog 5 #[.slice A l.length c, .slice B m.length c2] w fun e w' => e = .returned (.bool true) ∧ Below w.heap.size w w' := by
  have HL := Lib.hid (live_calls w ht)
  clear ht
  have HR := Lib.hid hr; clear hr
  have HR2 := Lib.hid hr2; clear hr2
  have HA := Lib.hid hA; clear hA
  have HB := Lib.hid hB; clear hB
  have happ := runJ_append l m ⟨0, 0, false⟩
  have hpre := holders_pre l m
  obtain ⟨N, hN⟩ : ∃ N, (runJ ⟨0, 0, false⟩ l).1 = N := ⟨_, rfl⟩
  have hNl : N ≤ l.length := by rw [← hN]; exact runJ_le l _
  obtain ⟨N2, hN2⟩ : ∃ N2, (runJ ⟨0, 0, false⟩ (l ++ m)).1 = N2 := ⟨_, rfl⟩
  have hNl2 : N2 ≤ l.length + m.length := by rw [← hN2]; simpa using runJ_le (l ++ m) ⟨0, 0, false⟩
  rw [hN, hN2] at happ
  rw [hN] at hpre
  have HN := Lib.hid hN; clear hN
  have HN2 := Lib.hid hN2; clear hN2
  have hgt : N ≤ N2 := by rw [happ]; split <;> omega
  have hne : ¬ N = l.length → N2 = N := fun h => by rw [happ, if_neg h]
  clear happ
  obtain ⟨b, hb⟩ : ∃ b, decide (N = l.length) = b := ⟨_, rfl⟩
  obtain ⟨b2, hb2⟩ : ∃ b, decide (N2 = l.length + m.length) = b := ⟨_, rfl⟩
  have HBb := Lib.hid hb
  have HBb2 := Lib.hid hb2
  have hll : holders l <+: holders (l ++ m) → (holders l).length ≤ (holders (l ++ m)).length := List.IsPrefix.length_le
  have hhl : (holders (l ++ m)).length ≤ l.length + m.length := by
    unfold holders
    have := partsJ_length (l ++ m) ⟨0, 0, false⟩ [] []
    simp at this ⊢; omega
  go_enter Tryd.func5, Tryd.ntmps5
  go_wp2_with fail
  refine HL.out.mono ?_
  rintro e w1 ⟨rfl, hb1⟩
  have HB1 := Lib.hid hb1; clear hb1
  go_wp2_with fail
  refine (judge_calls' w1 A _ c l rfl (by omega) _ (HR.out.keep (Keeps.of_below HB1.out fun k h _ => h)) N b HN.out HBb.out).mono ?_
  rintro e w2 ⟨rfl, hb2⟩
  have HB2 := Lib.hid (HB1.out.trans (hb2.mono HB1.out.size)); clear hb2
  have hsz2 : w.heap.size ≤ w2.heap.size := HB2.out.size
  go_wp2_with (at_builtin; refine wp_appendS decC (fun b => b < w2.heap.size) w2.heap.size 23 rfl (.const (.slice none 0 0)) (.tmp 28) 32 (.agg #[.int .i64 0, .int .i64 0, .int .i64 0, .int .i64 0]) 32 rfl Tryd.underlying32 info23 rfl (by decide) (by decide) (.slice none 0 0) [] (.slice A l.length c) l rfl rfl (Cod.O.nil _ _ _ _ _) ⟨A, c, rfl, hc, HA.out, (HR.out.keep (Keeps.of_below HB2.out fun k h _ => h)).mono fun b _ h => Nat.lt_of_lt_of_le h hsz2⟩ decC_one (Nat.le_refl _) (fun b hb e => by cases e) (by simp; omega) ?_)
  intro v1 w3 ho1 hg1 hat1
  have HO1 := Lib.hid ho1
  have HB3 := Lib.hid ((Below.refl w2.heap.size w2).grown hg1 (Nat.le_refl _) fun k hk => by cases hk)
  have hk3 : Keeps (fun b => b < w2.heap.size) w2 w3 := Keeps.of_below HB3.out fun k hk _ => hk
  have hsz3 : w2.heap.size ≤ w3.heap.size := hk3.1
  have HV2 := Lib.hid ((HR2.out.keep (Keeps.of_below HB2.out fun k h _ => h)).mono fun b _ h => Nat.lt_of_lt_of_le h hsz2)
  go_wp2_with (at_builtin; refine wp_appendS decC (fun b => b < w2.heap.size) w2.heap.size 23 rfl (.tmp 29) (.tmp 30) 32 (.agg #[.int .i64 0, .int .i64 0, .int .i64 0, .int .i64 0]) 32 rfl Tryd.underlying32 info23 rfl (by decide) (by decide) v1 l (.slice B m.length c2) m rfl rfl HO1.out ⟨B, c2, rfl, hc2, HB.out, HV2.out.keep hk3⟩ decC_one hsz3 (fun b hb e => by have := (HO1.out.lt b e).1; omega) (by omega) ?_)
  intro v2 w4 ho2 hg2 hat2
  have HO2 := Lib.hid ho2
  have hsz4 : w3.heap.size ≤ w4.heap.size := hg2.size
  have HB4 := Lib.hid (HB2.out.trans ((HB3.out.grown hg2 hsz3 fun k hk => (HO1.out.lt k hk).1).mono hsz2))
  clear ho1 ho2 hg1 hg2 hat1 hat2 hk3 HV2 HO1 HB3
  obtain ⟨A7, c7, rfl⟩ := HO2.out.form
  have hR7 : decC.R (fun b => b < w4.heap.size) w4 A7 (l ++ m) := by
    obtain ⟨A9, n9, e9, _, _, hV9⟩ := HO2.out.toV
    injection e9 with e9 q91 q92
    rw [e9]; exact hV9.mono fun b hb _ => hb
  have HR7 := Lib.hid hR7; clear hR7 HO2
  rw [List.length_append]
  go_wp2_with fail
  refine (judge_calls' w4 A7 _ c7 (l ++ m) (by simp) (by omega) _ HR7.out N2 b2 HN2.out HBb2.out).mono ?_
  rintro e w5 ⟨rfl, hb5⟩
  have hk5 : Keeps (fun b => b < w4.heap.size) w4 w5 := Keeps.of_below hb5 fun k h _ => h
  have HR8 := Lib.hid (HR7.out.keep hk5); clear HR7
  have HB5 := Lib.hid (HB4.out.trans (hb5.mono HB4.out.size)); clear hb5 hk5
  by_cases hok : N = l.length
  · obtain rfl : b = true := by rw [← hb]; exact decide_eq_true hok
    have hP := hpre hok
    have hPl := hll hP
    subst hok
    have hk1 : decide (((l.length : Nat) : Int) ≤ (N2 : Int)) = true := decide_eq_true (by omega)
    have hHB := holders_calls w5 A c l (by omega) _ (HR.out.keep (Keeps.of_below HB5.out fun k h _ => h))
    generalize holders l = H1 at hHB hP hPl
    have hHB2 := fun w6 (hw : Keeps (fun b => b < w4.heap.size) w5 w6) => holders_calls' w6 A7 (l.length + m.length) c7 (l ++ m) (by simp) (by omega) _ (HR8.out.keep hw)
    generalize holders (l ++ m) = H2 at hHB2 hP hPl hhl
    have HP := Lib.hid hP
    have HH1 := Lib.hid hHB
    have HH2 := Lib.hid hHB2
    clear hHB hHB2 hP hpre hll hne hb hb2
    go_wp2_with fail
    refine HH1.out.mono ?_
    rintro e w6 ⟨v8, rfl, ⟨A8, n8, rfl, hn8, _, hi8⟩, hb6⟩
    have HI8 := Lib.hid (hi8.mono (G := fun b => b < w6.heap.size) fun b hb _ => hb)
    have HB6 := Lib.hid (HB5.out.trans (hb6.mono HB5.out.size))
    have HK6 := Lib.hid (Keeps.of_below (F := fun b => b < w4.heap.size) hb6 fun k hk h => h)
    clear hb6 hi8
    go_wp2_with fail
    refine (HH2.out w6 HK6.out).mono ?_
    rintro e w7 ⟨v9, rfl, ⟨A9, n9, rfl, hn9, _, hi9⟩, hb7⟩
    have HI9 := Lib.hid hi9
    have HJ8 := Lib.hid (HI8.out.keep (Keeps.of_below hb7 fun k hk h => h))
    have HB7 := Lib.hid (HB6.out.trans (hb7.mono HB6.out.size))
    clear hb7 hi9 HI8 HK6 HH1 HH2 HR8
    have hk2 : decide ((H1.length : Int) ≤ (H2.length : Int)) = true := decide_eq_true (by omega)
    obtain ⟨n1, hn1⟩ : ∃ n1, H1.length = n1 := ⟨_, rfl⟩
    obtain ⟨n2, hn2⟩ : ∃ n2, H2.length = n2 := ⟨_, rfl⟩
    rw [hn1] at hPl hn8 hk2
    rw [hn2] at hhl hPl hn9 hk2
    rw [hn1, hn2]
    have HN1 := Lib.hid hn1; have HN2 := Lib.hid hn2; clear hn1 hn2
    have hc9 : n1 ≤ n9 := Nat.le_trans hPl hn9
    have HG := Lib.hid hgt
    have h500 : n2 ≤ 500 := by omega
    clear hl hc hc2 hNl hgt hsz2 hsz3 hsz4 hhl hNl2 HR HR2 HL HA HB HN HBb HBb2 HB1 HB2 HB4 HB5 hk1
    go_wp2_with fail
    all_goals first | exact absurd HG.out (by assumption) | skip
    refine (equal_calls w7 A9 A8 n1 n1 _ _ (H2.take n1) H1 (by have := HN2.out; simp; omega) HN1.out (by omega) (by omega) _ ((HI9.out.mono (G := fun b => b < w7.heap.size) fun b hb _ => hb).take n1) (HJ8.out.mono fun b hb _ => hb)).mono ?_
    rintro e w8 ⟨rfl, hb8⟩
    have heq : H2.take n1 = H1 := by rw [← HN1.out]; exact (List.prefix_iff_eq_take.1 HP.out).symm
    rw [heq]
    go_wp2
    go_ret
    go_light
    exact ⟨by simp, HB7.out.trans (hb8.mono HB7.out.size)⟩
  · obtain rfl : b = false := by rw [← hb]; exact decide_eq_false hok
    obtain rfl := hne hok
    obtain rfl : b2 = false := by rw [← hb2]; exact decide_eq_false (by omega)
    clear hpre hll hb hb2
    go_wp2
    go_ret
    go_light
    exact ⟨by simp, HB5.out⟩
end Go.Proofs.YtmokcebpgfhddaaDoor
