/- squelchref23.Holders is the program's. -/
import Derived.Test.YtmokcebpgfhddaaDoorTellsA
import Derived.Test.YtmokcebpgfhddaaDoorMore
namespace Go.Proofs.YtmokcebpgfhddaaDoor
open Go.RowKit

theorem refJudge_calls' (w : World) (A : Option Addr) (n c : Nat) (l : List Dec) (hn : l.length = n) (hl : n ≤ 35184372088832) (F : Nat → Prop) (hr : decC.R F w A l) (N : Nat) (b : Bool) (hN : (runJ ⟨0, 0, false⟩ l).1 = N) (hb : decide (N = n) = b) :
    Calls Tryd.prog 20 #[.slice A n c] w fun e w' => e = .returned (.tuple #[.int .i64 N, .bool b]) ∧ Below w.heap.size w w' := by
  subst hn
  have := refJudge_calls w A c l hl F hr
  rw [hN, hb] at this
  exact this

theorem refH_cons (hs : List Int) (d : Dec) (l : List Dec) : refH hs (d :: l) = if d.kind = 5 ∧ d.epoch = (hs.length : Int) + 1 then refH (hs ++ [d.who]) l else refH hs l := by rw [refH]

set_option maxHeartbeats 8000000 in
theorem refHolders_calls (w : World) (A : Option Addr) (c : Nat) (l : List Dec) (hl : l.length ≤ 1048576) (hc : l.length ≤ c) (hA : A = none → c = 0) (hr : decC.R (fun b => b < w.heap.size) w A l) :
    Calls Tryd.prog 21 #[.slice A l.length c] w fun e w' => ∃ v, e = .returned v ∧ intC.V (fun b => w.heap.size ≤ b) w' v (holders l) ∧ Below w.heap.size w w' := by
  have HR := Lib.hid hr; clear hr
  have HA := Lib.hid hA; clear hA
  have hE := refH_holders l (by omega)
  obtain ⟨N, hN⟩ : ∃ N, (runJ ⟨0, 0, false⟩ l).1 = N := ⟨_, rfl⟩
  have hNl : N ≤ l.length := by rw [← hN]; exact runJ_le l _
  rw [hN] at hE
  have HN := Lib.hid hN; clear hN
  obtain ⟨b, hb⟩ : ∃ b, decide (N = l.length) = b := ⟨_, rfl⟩
  have HBb := Lib.hid hb; clear hb
  obtain ⟨R, hR⟩ : ∃ R, holders l = R := ⟨_, rfl⟩
  rw [hR] at hE ⊢
  have HE := Lib.hid hE; clear hE hR
  obtain ⟨m, hm⟩ : ∃ m, l.take N = m := ⟨_, rfl⟩
  rw [hm] at HE
  have hml : m.length = N := by rw [← hm]; simp; omega
  have HM := Lib.hid hm; clear hm
  have HML := Lib.hid hml; clear hml
  go_enter Tryd.func21, Tryd.ntmps21
  go_wp2_with fail
  refine (refJudge_calls' w A _ c l rfl (by omega) _ HR.out N b HN.out HBb.out).mono ?_
  rintro e w1 ⟨rfl, hb1⟩
  have HB1 := Lib.hid hb1; clear hb1
  have HR1 := Lib.hid (show decC.R (fun b => b < w.heap.size) w1 A m by rw [← HM.out]; exact Cod.R.takeN (HR.out.keep (Keeps.of_below HB1.out fun k _ h => h)) N)
  go_wp2
  go_loopw [5, 17] (fun v i wr => ∃ (k : Nat) (hs : List Int), k ≤ N ∧ hs.length ≤ k ∧ i = .int .i64 k ∧ Hid (intC.O (fun _ => False) w1.heap.size 3 wr v hs) ∧ Hid (refH hs (m.drop k) = R) ∧ Hid (Below w1.heap.size w1 wr))
    (fun _ i _ => N - (intOf i).toNat)
  case atStart => exact ⟨0, [], Nat.zero_le _, Nat.le_refl _, rfl, Cod.O.nil _ _ _ _ _, HE.out, Below.refl _ _⟩
  case round =>
    obtain ⟨k, hs, hk, hh, rfl, HO, HH, HB⟩ := hrel
    by_cases hlt : k < N
    · obtain ⟨b', o, rfl, hbl, h0, h1, h2, h3⟩ := (HR1.out.keep (Keeps.of_below HB.out fun k _ h => h)).dec k (by rw [HML.out]; exact hlt)
      have hd := Lib.hid (drop_cons m k (by rw [HML.out]; exact hlt))
      obtain ⟨⟨a0, a1, a2, a3⟩, hdd⟩ : ∃ d, d = m[k]'(by rw [HML.out]; exact hlt) := ⟨_, rfl⟩
      rw [← hdd] at h0 h1 h2 h3 hd
      clear hdd
      have hsz := Lib.hid HB.out.size
      obtain ⟨A4, c4, hv4⟩ := HO.out.form
      subst hv4
      have HH2 : refH hs (⟨a0, a1, a2, a3⟩ :: m.drop (k + 1)) = R := by rw [← hd.out]; exact HH.out
      rw [refH_cons] at HH2
      have HH3 := Lib.hid HH2; clear HH2
      by_cases hx : a0 = 5
      · subst hx
        by_cases hy : a2 = (hs.length : Int) + 1
        · have hyb : (a2 == (hs.length : Int) + 1) = true := beq_iff_eq.2 hy
          have HH4 := Lib.hid (show refH (hs ++ [a1]) (m.drop (k + 1)) = R by have := HH3.out; rwa [if_pos ⟨rfl, hy⟩] at this)
          clear hy
          go_wp2_with (at_builtin; (refine wp_append1H intC (fun _ => False) w1.heap.size rfl (.tmp 32) (.tmp 35) 30 (.int .i64 0) 8 rfl Tryd.underlying30 info3 rfl (by decide) (by decide) (.slice A4 hs.length c4) hs a1 (wr.heap.size + 1) (by simp) rfl rfl (HO.out.keep ((Keeps.refl _ _).alloc _)) rfl (by simp [Value.oneCell']) (by have := hsz.out; omega) (fun b hb => hb.elim) (by omega) ?_))
          intro v1 w2 ho1 hg1 hat1
          have HO1 := Lib.hid ho1
          have HB3 := Lib.hid ((HB.out.alloc hsz.out _).grown hg1 (by have := hsz.out; simp; omega) fun k hk => (HO.out.lt k hk).1)
          clear ho1 hg1 hat1
          go_wp2
          exact ⟨⟨k + 1, hs ++ [a1], by omega, by simp; omega, by go_num, HO1, HH4, HB3⟩, by simp [intOf]; omega⟩
        · have hyb : (a2 == (hs.length : Int) + 1) = false := beq_eq_false_iff_ne.2 hy
          have HH4 := Lib.hid (show refH hs (m.drop (k + 1)) = R by have := HH3.out; rwa [if_neg (fun h => hy h.2)] at this)
          clear hy
          go_wp2
          exact ⟨⟨k + 1, hs, by omega, by omega, by go_num, HO.out.keep ((Keeps.refl _ _).alloc _), HH4, HB.out.alloc hsz.out _⟩, by simp [intOf]; omega⟩
      · have hyb : (a0 == 5) = false := beq_eq_false_iff_ne.2 hx
        have HH4 := Lib.hid (show refH hs (m.drop (k + 1)) = R by have := HH3.out; rwa [if_neg (fun h => hx h.1)] at this)
        clear hx
        go_wp2
        exact ⟨⟨k + 1, hs, by omega, by omega, by go_num, HO.out.keep ((Keeps.refl _ _).alloc _), HH4, HB.out.alloc hsz.out _⟩, by simp [intOf]; omega⟩
    · have e1 := HH.out
      rw [List.drop_of_length_le (by rw [HML.out]; omega)] at e1
      have E1 := Lib.hid (show hs = R from e1); clear e1
      go_wp2
      go_ret
      rw [← E1.out]
      refine ⟨_, rfl, HO.out.toV.mono fun b hb h => ?_, HB1.out.trans (HB.out.mono HB1.out.size)⟩
      rcases h with h | h
      · exact h.elim
      · have := (HO.out.lt b h).1
        have := HB1.out.size
        omega
end Go.Proofs.YtmokcebpgfhddaaDoor
