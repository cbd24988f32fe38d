/- squelchlaw23.TraceTells: the walk of the law. -/
import Derived.Test.YtmokcebpgfhddaaDoorTellsB
import Derived.Test.YtmokcebpgfhddaaDoorTellsD
import Derived.Test.YtmokcebpgfhddaaDoorJoins
namespace Go.Proofs.YtmokcebpgfhddaaDoor
open Go.RowKit Go.Maps

set_option maxHeartbeats 8000000 in
theorem tells_long (w : World) (A : Option Addr) (n c : Nat) (ht : TabOk w) (hn : 500 < n) (hn2 : n ≤ 9223372036854775807) :
    Calls Tryd.prog 6 #[.slice A n c] w fun e w' => e = .returned (.bool true) ∧ Below w.heap.size w w' := by
  have HL := Lib.hid (live_calls w ht)
  have HT := Lib.hid ht; clear ht
  go_enter Tryd.func6, Tryd.ntmps6
  go_wp2_with fail
  refine HL.out.mono ?_
  rintro e w1 ⟨rfl, hb1⟩
  go_wp2
  go_ret
  go_light
  exact ⟨rfl, hb1⟩

/-- What a range over the count has met. -/
def Seen (l : List Dec) (left : Lit → Bool) (sum : Nat) : Prop := sum = met l (fun k => left (.int .i64 k)) ∧ ∀ d ∈ l, left (.int .i64 d.kind) = true → 0 < many l d.kind

set_option maxHeartbeats 8000000 in
set_option maxRecDepth 100000 in
theorem tells_short (w : World) (A : Option Addr) (c : Nat) (l : List Dec) (ht : TabOk w) (hl : l.length ≤ 500) (hc : l.length ≤ c) (hA : A = none → c = 0) (hwf : ∀ d ∈ l, (Lit.int .i64 d.kind).wf = true)
    (hr : decC.R (fun b => b < w.heap.size) w A l) :
    Calls Tryd.prog 6 #[.slice A l.length c] w fun e w' => e = .returned (.bool true) ∧ Below w.heap.size w w' := by
  have HL := Lib.hid (live_calls w ht)
  clear ht
  have HR := Lib.hid hr; clear hr
  have HA := Lib.hid hA; clear hA
  have HWF := Lib.hid hwf; clear hwf
  obtain ⟨N, hN⟩ : ∃ N, (runJ ⟨0, 0, false⟩ l).1 = N := ⟨_, rfl⟩
  have hNl : N ≤ l.length := by rw [← hN]; exact runJ_le l _
  have HN := Lib.hid hN; clear hN
  obtain ⟨b, hb⟩ : ∃ b, decide (N = l.length) = b := ⟨_, rfl⟩
  have HBb := Lib.hid hb; clear hb
  have hhl : (holders l).length ≤ l.length := by
    unfold holders
    have := partsJ_length l ⟨0, 0, false⟩ [] []
    simp at this ⊢; omega
  have hpl := partsJ_length l ⟨0, 0, false⟩ [] []
  have hpe : ∀ p ∈ partsJ ⟨0, 0, false⟩ [] [] l, p.length ≤ 500 := fun p hp => by
    have h1 := (List.sublist_flatten_of_mem hp).length_le
    rw [partsJ_flatten l ⟨0, 0, false⟩ [] []] at h1
    simp at h1; omega
  obtain ⟨Hs, hHs⟩ : ∃ Hs, holders l = Hs := ⟨_, rfl⟩
  obtain ⟨P, hP⟩ : ∃ P, partsJ ⟨0, 0, false⟩ [] [] l = P := ⟨_, rfl⟩
  rw [hHs] at hhl
  rw [hP] at hpl hpe
  simp only [List.length_nil, Nat.zero_add] at hpl
  have HPE := Lib.hid hpe; clear hpe
  have HH1 := Lib.hid (fun W (hw : Below w.heap.size w W) => holders_calls W A c l (by omega) _ (HR.out.keep (Keeps.of_below hw fun k h _ => h)))
  have HH2 := Lib.hid (fun W (hw : Below w.heap.size w W) => refHolders_calls W A c l (by omega) hc HA.out ((HR.out.keep (Keeps.of_below hw fun k h _ => h)).mono fun b hb _ => hb))
  have HP1 := Lib.hid (fun W (hw : Below w.heap.size w W) => parts_calls W A c l (by omega) _ (HR.out.keep (Keeps.of_below hw fun k h _ => h)))
  have HP2 := Lib.hid (fun W (hw : Below w.heap.size w W) => refParts_calls W A c l (by omega) hc HA.out ((HR.out.keep (Keeps.of_below hw fun k h _ => h)).mono fun b hb _ => hb))
  rw [hHs] at HH1 HH2
  rw [hP] at HP1 HP2
  clear hHs hP
  have hd5 : decide ((500 : Int) < (l.length : Int)) = false := decide_eq_false (by omega)
  go_enter Tryd.func6, Tryd.ntmps6
  go_wp2_with fail
  refine HL.out.mono ?_
  rintro e w1 ⟨rfl, hb1⟩
  have HB1 := Lib.hid hb1; clear hb1
  go_wp2_with fail
  refine (judge_calls' w1 A _ c l rfl (by omega) _ (HR.out.keep (Keeps.of_below HB1.out fun k h _ => h)) N b HN.out HBb.out).mono ?_
  rintro e w2 ⟨rfl, hb2⟩
  have HB2 := Lib.hid (HB1.out.trans (hb2.mono HB1.out.size)); clear hb2
  go_wp2_with fail
  refine (refJudge_calls' w2 A _ c l rfl (by omega) _ (HR.out.keep (Keeps.of_below HB2.out fun k h _ => h)) N b HN.out HBb.out).mono ?_
  rintro e w3 ⟨rfl, hb3⟩
  have HB3 := Lib.hid (HB2.out.trans (hb3.mono HB2.out.size)); clear hb3
  go_wp2_with fail
  refine (HH1.out w3 HB3.out).mono ?_
  rintro e w4 ⟨v4, rfl, ⟨A4, n4, rfl, hn4, _, hi4⟩, hb4⟩
  have HI4 := Lib.hid (hi4.mono (G := fun b => b < w4.heap.size) fun b hb _ => hb)
  have HB4 := Lib.hid (HB3.out.trans (hb4.mono HB3.out.size))
  clear hb4 hi4
  go_wp2_with fail
  refine (HH2.out w4 HB4.out).mono ?_
  rintro e w5 ⟨v5, rfl, ⟨A5, n5, rfl, hn5, _, hi5⟩, hb5⟩
  have HI5 := Lib.hid (hi5.mono (G := fun b => b < w5.heap.size) fun b hb _ => hb)
  have HJ4 := Lib.hid ((HI4.out.keep (Keeps.of_below hb5 fun k hk h => h)).mono (G := fun b => b < w5.heap.size) fun b hb _ => hb)
  have HB5 := Lib.hid (HB4.out.trans (hb5.mono HB4.out.size))
  clear hb5 hi5 HI4
  have he1 := equal_calls w5 A4 A5 _ _ n4 n5 Hs Hs rfl rfl (by omega) (by omega) _ HJ4.out HI5.out
  rw [decide_eq_true rfl] at he1
  have HE1 := Lib.hid he1; clear he1
  go_wp2_with fail
  refine HE1.out.mono ?_
  rintro e w6 ⟨rfl, hb6⟩
  have HB6 := Lib.hid (HB5.out.trans (hb6.mono HB5.out.size))
  clear hb6 HE1 HI5 HJ4 hn4 hn5
  go_wp2_with fail
  refine (HP1.out w6 HB6.out).mono ?_
  rintro e w7 ⟨v7, rfl, ⟨A7, n7, rfl, hn7, _, hi7⟩, hb7⟩
  have HI7 := Lib.hid (hi7.mono (G := fun b => b < w7.heap.size) fun b hb _ => hb)
  have HB7 := Lib.hid (HB6.out.trans (hb7.mono HB6.out.size))
  clear hb7 hi7
  go_wp2_with fail
  refine (HP2.out w7 HB7.out).mono ?_
  rintro e w8 ⟨v8, rfl, ⟨A8, n8, rfl, hn8, _, hi8⟩, hb8⟩
  have HI8 := Lib.hid (hi8.mono (G := fun b => b < w8.heap.size) fun b hb _ => hb)
  have HJ7 := Lib.hid ((HI7.out.keep (Keeps.of_below hb8 fun k hk h => h)).mono (G := fun b => b < w8.heap.size) fun b hb _ => hb)
  have HB8 := Lib.hid (HB7.out.trans (hb8.mono HB7.out.size))
  clear hb8 hi8 HI7
  have HE2 := Lib.hid (sameParts_calls w8 A7 A8 n7 n8 P _ rfl (by omega) (fun x hx => Nat.le_trans (HPE.out x hx) (by decide)) _ HJ7.out HI8.out)
  go_wp2_with fail
  refine HE2.out.mono ?_
  rintro e w9 ⟨rfl, hb9⟩
  have HB9 := Lib.hid (HB8.out.trans (hb9.mono HB8.out.size))
  clear hb9 HE2 HI8 HJ7 hn7 hn8
  go_wp2_with fail
  refine (count_calls (H := Unit) w9 A c l (by omega) HWF.out _ (HR.out.keep (Keeps.of_below HB9.out fun k h _ => h))).mono ?_
  rintro e w10 ⟨rfl, ⟨D, hown, hC⟩, hb10⟩
  have HB10 := Lib.hid (HB9.out.trans (hb10.mono HB9.out.size))
  have hsz10 := Lib.hid hb10.size
  clear hb10
  have hown' := Lib.hid hown; clear hown
  have HC := Lib.hid hC; clear hC
  go_wp2_with (at_range; refine wpList_range_own _ rfl _ 42 rfl 3 3 law3 Tryd.underlying42 _ w9.heap.size l.length _ rfl hown'.out ?_)
  intro w11 hrg0 hg0 hs0
  have HG0 := Lib.hid hrg0
  have HB11 := Lib.hid (HB10.out.grown hg0 HB10.out.size (fun k hk => by cases hk))
  clear hrg0 hg0 hs0
  go_wp2
  go_loopw [9] (fun s wr => ∃ (left : Lit → Bool) (cnt sum : Nat), sum ≤ 500 ∧ s = .int .i64 sum ∧ Hid (wr.ranges Tryd.prog 3 (plainElem Tryd.prog 3) w9.heap.size w10.heap.size l.length D left cnt) ∧ Hid (sum = met l (fun k => left (.int .i64 k)) ∧ ∀ k, left (.int .i64 k) = true → 0 < many l k) ∧ Hid (Below w.heap.size w wr))
    (fun _ wr => wr.rangeLeft w9.heap.size w10.heap.size)
  case atStart =>
    refine ⟨_, _, 0, by omega, rfl, HG0.out, ⟨?_, fun k hk => ?_⟩, HB11.out⟩
    · refine (met_none l _ fun d hd => ?_).symm
      rw [HC.out.2.1]
      exact decide_eq_true (many_pos l d hd)
    · rw [HC.out.2.1] at hk
      exact of_decide_eq_true hk
  case round =>
    obtain ⟨left, cnt, sum, hsum, rfl, HRG, HS, HB⟩ := hrel
    go_wp2_with (at_next; refine wpList_next_ranges_ii _ rfl _ rfl 3 3 .i64 .i64 law3 Tryd.underlying3 Tryd.underlying3 w9.heap.size w10.heap.size l.length _ _ _ rfl HRG.out ?_ ?_)
    · intro _ hl0
      have hend : sum = l.length := HS.out.1.trans (met_all l _ fun k => hl0 _)
      clear hl0
      subst hend
      clear HS
      go_wp2
      go_ret
      go_light
      exact ⟨by simp, HB.out⟩
    · intro x v w12 cnt1 hwx hwc hlx hat hrg1 hlt hg1 hs1 hen
      have hv : v = (many l x : Int) := by
        have h1 := hat (.lit (.int .i64 0))
        rw [HC.out.2.2] at h1
        injection h1 with h1
        injection h1 with h1 h2
        exact h2.symm
      have hpos := HS.out.2 x hlx
      have hml := many_le l x
      have hst := met_step l (fun k => left (.int .i64 k)) (fun k => left (.int .i64 k) && !(k == x)) x hlx (fun _ => rfl)
      rw [← HS.out.1] at hst
      have hmle := met_le l (fun k => left (.int .i64 k) && !(k == x))
      rw [hst] at hmle
      have HST := Lib.hid hst; clear hst hat
      obtain ⟨m, hm⟩ : ∃ m, many l x = m := ⟨_, rfl⟩
      rw [hm] at hv hpos hml hmle HST
      subst hv
      have HM := Lib.hid hm; clear hm
      have HRG1 := Lib.hid hrg1
      have HB12 := Lib.hid (HB.out.grown hg1 HB.out.size (fun k hk => by cases hk; exact Nat.le_trans HB10.out.size (Nat.le_refl _)))
      have HLT := Lib.hid hlt
      clear hrg1 hg1 hs1 hlt hlx hwx hwc
      have hmc := many_calls w12 A c l x (by omega) _ (HR.out.keep (Keeps.of_below HB12.out fun k h _ => h))
      rw [HM.out] at hmc
      have HMC := Lib.hid hmc; clear hmc
      have hb1 : ((m : Int) != (m : Int)) = false := by simp
      have hb2 : decide ((m : Int) < 1) = false := decide_eq_false (by omega)
      go_wp2_with fail
      refine HMC.out.mono ?_
      rintro e w13 ⟨rfl, hb13⟩
      have HB13 := Lib.hid (HB12.out.trans (hb13.mono HB12.out.size))
      have HRG2 := Lib.hid (HRG1.out.kept (w' := w13) (row := none) ⟨hb13.os, hb13.tape, hb13.output, hb13.size, fun i hi _ => hb13.block i hi⟩ (by simp) (by simp))
      clear hb13
      go_wp2
      refine ⟨⟨_, cnt1, sum + m, by omega, by go_num, HRG2.out, ⟨?_, fun k hk => ?_⟩, HB13.out⟩, ?_⟩
      · rw [HST.out.symm]
        congr 1
        funext k
        simp [Lit.sameKey]
        rfl
      · simp only [Bool.and_eq_true] at hk
        exact HS.out.2 k hk.1
      · rw [HRG2.out.left_eq, HRG.out.left_eq]
        exact HLT.out
end Go.Proofs.YtmokcebpgfhddaaDoor
