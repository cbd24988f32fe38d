/- squelchref23.Digits: a number's digits. -/
import Derived.Test.YtmokcebpgfhddaaDoorRefText
import Derived.Lib.ItoaLen
namespace Go.Proofs.YtmokcebpgfhddaaDoor
open Go.RowKit

theorem encode_digit (d : Nat) (h : d < 10) : Utf8.encode (48 + (d : Int)) = ⟨#[UInt8.ofNat (48 + d)]⟩ := by
  rcases d with _ | _ | _ | _ | _ | _ | _ | _ | _ | _ | d
  rotate_left 10
  · omega
  all_goals decide +kernel

def IsDig (n : Int) (S : ByteArray) : Prop := S = ⟨(Lib.itoa n).toArray⟩
theorem isDig_size {n : Int} {S : ByteArray} (h : IsDig n S) (h0 : -9223372036854775808 ≤ n) (h1 : n ≤ 9223372036854775807) : S.size ≤ 21 := by
  have := Lib.itoa_length_le n h0 h1
  rw [show S = _ from h]
  show (Lib.itoa n).toArray.size ≤ 21
  simpa using this
theorem str_append (l : List UInt8) (x : UInt8) : (⟨l.toArray⟩ : ByteArray) ++ ⟨#[x]⟩ = ⟨(l ++ [x]).toArray⟩ := by apply ByteArray.ext; simp
theorem str_cons (l : List UInt8) (x : UInt8) : (⟨#[x]⟩ : ByteArray) ++ ⟨l.toArray⟩ = ⟨(x :: l).toArray⟩ := by apply ByteArray.ext; simp

set_option maxHeartbeats 4000000 in
theorem digits_small (u : Nat) (w : World) (h : u < 10) :
    Calls Tryd.prog 15 #[.int .i64 u] w fun e w' => ∃ S, e = .returned (.string S) ∧ IsDig u S ∧ w = w' := by
  have h0b : decide ((u : Int) < 0) = false := decide_eq_false (by omega)
  have h1b : decide ((u : Int) < 10) = true := decide_eq_true (by omega)
  have HE := Lib.hid (encode_digit u h)
  go_enter Tryd.func15, Tryd.ntmps15
  go_wp2
  go_ret
  go_light
  refine ⟨_, rfl, ?_, rfl⟩
  unfold IsDig
  rw [HE.out, Lib.itoa_nonneg, Lib.decDigits, dif_pos h]

set_option maxHeartbeats 4000000 in
set_option maxRecDepth 100000 in
theorem digits_calls (k : Nat) : ∀ (n : Int) (w : World), n.natAbs < k → -9223372036854775808 ≤ n → n ≤ 9223372036854775807 →
    Calls Tryd.prog 15 #[.int .i64 n] w fun e w' => ∃ S, e = .returned (.string S) ∧ IsDig n S ∧ w = w' := by
  induction k with
  | zero => intro n w h; omega
  | succ k ih =>
    intro n w hk hlo hhi
    have IH := Lib.hid ih; clear ih
    by_cases h0 : n < 0
    · by_cases h1 : -10 < n
      · have h0b : decide (n < 0) = true := decide_eq_true h0
        have h1b : decide (-10 < n) = true := decide_eq_true h1
        have hc := Lib.hid (show ((-n).toNat : Int) = -n by omega)
        have DS := Lib.hid (digits_small (-n).toNat w (by omega))
        rw [hc.out] at DS
        go_enter Tryd.func15, Tryd.ntmps15
        go_wp2_with fail
        refine DS.out.mono ?_
        rintro e w' ⟨S, rfl, hS, rfl⟩
        have hsz := isDig_size hS (by omega) (by omega)
        have HS := Lib.hid hS; clear hS
        go_wp2
        go_ret
        go_light
        refine ⟨_, rfl, ?_, rfl⟩
        have hS : S = _ := HS.out
        unfold IsDig
        rw [hS, str_cons, show n = -(((-n).toNat : Nat) : Int) by omega, Lib.itoa_neg (-n).toNat (by omega), Int.neg_neg, Lib.itoa_nonneg]
      · have h0b : decide (n < 0) = true := decide_eq_true h0
        have h1b : decide (-10 < n) = false := decide_eq_false h1
        obtain ⟨u, hu⟩ : ∃ u : Nat, n = -(u : Int) := ⟨n.natAbs, by omega⟩
        have HU := Lib.hid hu; clear hu
        have hu10 : 10 ≤ u := by have := HU.out; omega
        have ht := Lib.hid (show n.tdiv 10 = -((u / 10 : Nat) : Int) by rw [HU.out, Int.neg_tdiv]; rfl)
        have hm := Lib.hid (show n.tmod 10 = -((u % 10 : Nat) : Int) by rw [HU.out, Int.neg_tmod]; rfl)
        have HE : Utf8.encode (48 - n.tmod 10) = ⟨#[UInt8.ofNat (48 + u % 10)]⟩ := by
          rw [hm.out, Int.sub_neg]
          exact encode_digit (u % 10) (by omega)
        have hb1 : -10 < n.tmod 10 := by rw [hm.out]; omega
        have hb2 : n.tmod 10 ≤ 0 := by rw [hm.out]; omega
        have IH2 := Lib.hid (IH.out (-((u / 10 : Nat) : Int)) w (by have := HU.out; omega) (by have := HU.out; omega) (by omega))
        rw [← ht.out] at IH2
        go_enter Tryd.func15, Tryd.ntmps15
        go_wp2_with fail
        refine IH2.out.mono ?_
        rintro e w' ⟨S, rfl, hS, rfl⟩
        have hsz : S.size ≤ 21 := by
          rw [ht.out] at hS
          exact isDig_size hS (by have := HU.out; omega) (by omega)
        have HS := Lib.hid hS; clear hS
        go_wp2
        go_ret
        go_light
        refine ⟨_, rfl, ?_, rfl⟩
        have hS : S = _ := HS.out
        unfold IsDig
        rw [hS, str_append, ht.out, HU.out, Lib.itoa_neg (u / 10) (by omega), Lib.itoa_neg u (by omega)]
        conv => rhs; rw [Lib.decDigits, dif_neg (by omega)]
        simp [UInt8.ofNat_add]
    · obtain ⟨u, rfl⟩ := Int.eq_ofNat_of_zero_le (by omega : 0 ≤ n)
      have h0b : decide ((u : Int) < 0) = false := decide_eq_false h0
      by_cases h1 : (u : Int) < 10
      · exact digits_small u w (by omega)
      · have h1b : decide ((u : Int) < 10) = false := decide_eq_false h1
        have HE : Utf8.encode (48 + (u : Int) % 10) = ⟨#[UInt8.ofNat (48 + u % 10)]⟩ := encode_digit (u % 10) (by omega)
        have IH2 := Lib.hid (IH.out ((u : Int) / 10) w (by omega) (by omega) (by omega))
        go_enter Tryd.func15, Tryd.ntmps15
        go_wp2_with fail
        refine IH2.out.mono ?_
        rintro e w' ⟨S, rfl, hS, rfl⟩
        have hsz : S.size ≤ 21 := isDig_size hS (by omega) (by omega)
        have HS := Lib.hid hS; clear hS
        go_wp2
        go_ret
        go_light
        refine ⟨_, rfl, ?_, rfl⟩
        have hS : S = _ := HS.out
        unfold IsDig
        rw [hS, str_append]
        rw [show (u : Int) / 10 = ((u / 10 : Nat) : Int) from rfl, Lib.itoa_nonneg, Lib.itoa_nonneg]
        conv => rhs; rw [Lib.decDigits, dif_neg (by omega)]
        simp [UInt8.ofNat_add]
end Go.Proofs.YtmokcebpgfhddaaDoor
